/- Texts joined: LgD, LgE, LgF, LgG, LgH. -/
import Derived.Test.YtddfkkdanpmnaaaDoorPPD
import Derived.Test.YtddfkkdanpmnaaaDoorPPB
import Derived.Test.YtddfkkdanpmnaaaDoorPPC
import Derived.Test.YtddfkkdanpmnaaaDoorPPA
set_option linter.unusedVariables false
set_option linter.unusedSimpArgs false
set_option maxRecDepth 4000
set_option maxHeartbeats 4000000
namespace Go.Proofs.YtddfkkdanpmnaaaDoor
open Go.RowKit Go.PW _root_.Go.Proofs.Tryd
theorem ox {a b : Int} (ha : i64 a) (hb : 1 ≤ b) : -9223372036854775808 ≤ a.tdiv b ∧ a.tdiv b ≤ 9223372036854775807 := by
 have h : (a.tdiv b).natAbs ≤ a.natAbs := by rw [Int.natAbs_tdiv]; exact Nat.div_le_self _ _
 unfold i64 at ha
 by_cases h0 : 0 ≤ a
 ·have := Int.tdiv_nonneg h0 (by omega : 0 ≤ b); omega
 ·have h1 : a.tdiv b = -((-a).tdiv b) := by rw [Int.neg_tdiv, Int.neg_neg]
  have := Int.tdiv_nonneg (by omega : 0 ≤ -a) (by omega : 0 ≤ b); omega
def timeR : Int → List Rin → Int
 | t, [] => t
 | t, y :: l => timeR (t + pickI y.x0 30) l
theorem fW : ∀ (l : List Rin) (t : Int) (y : Rin), timeR t (l ++ [y]) = timeR t l + pickI y.x0 30
 | [], t, y => rfl
 | x :: l, t, y => fW l _ y
theorem f8 : ∀ (l : List Rin) (t : Int) (y : Rin), recsR t (l ++ [y]) = recsR t l ++ [entR (timeR t l + pickI y.x0 30) y.x1 y.x2 y.x3 y.x4]
 | [], t, y => rfl
 | x :: l, t, y => by rw [List.cons_append, recsR, f8 l _ y]; rfl
theorem jR : ∀ (l : List Rin) (t : Int), 0 ≤ t → 0 ≤ timeR t l ∧ timeR t l ≤ t + 30 * l.length
 | [], t, h => ⟨h, by simp [timeR]⟩
 | x :: l, t, h => by
  have h1 := bF x.x0 (n := 30) om
  have h2 := jR l (t + pickI x.x0 30) om
  rw [timeR, List.length_cons]; omega
theorem go {α : Type} {l : List α} {k : Nat} (hk : k ≤ l.length) (h : ¬ (k < l.length ∧ k < 12)) (h12 : k ≤ 12) : l.take k = l.take 12 := by
 by_cases h1 : k = 12
 ·rw [h1]
 ·rw [List.take_of_length_le om, List.take_of_length_le om]
theorem nT {s : By} {n : Nat} : s.take (min s.length n) = s.take n := by
 rw [Nat.min_def]; split
 ·rw [List.take_of_length_le (Nat.le_refl _), List.take_of_length_le om]
 ·rfl
def keyR (n : Int) : By := sha (putI (pickI n 1099511627776))
def exR : List Rec := [⟨10, 1, 7, -1, [110, 101, 119, 115]⟩, ⟨20, 2, 0, 5, []⟩, ⟨20, 1, 8, -1, []⟩]
theorem l3 {P : Program} {w : World} {L : List (Nat × Value)} {dst : Option Tmp} {T T' ty : TypeId} {pos : String} {af : Array Edge} {gd : Option (Nat × Bool)} {x : Operand} {n : Int} (hx : ev L x = some (iv n)) (hs : (P.underlying T).isSome = true) (hd : P.underlying T' = some (.int .u8)) : OpV P ⟨dst, .convert T T' x, ty, pos, af, gd⟩ L w (yv (UInt8.ofNat (n % 256).toNat)) :=
 (dt hx hs hd).as (by
  have h1 : 0 ≤ n % 256 := Int.emod_nonneg _ de
  have h2 : n % 256 < 256 := Int.emod_lt_of_pos _ de
  have e : ((UInt8.ofNat (n % 256).toNat).toNat : Int) = n % 256 := by rw [bK om]; omega
  unfold yv
  rw [e]
  simp [IntKind.wrap, IntKind.signed, IntKind.bits])
theorem ie (t x0 x1 x2 x3 : Int) (w0 : World) (ht : i64 t) (h0 : i64 x0) (h1 : i64 x1) (h2 : i64 x2) (h3 : i64 x3) :
  Ret Tryd.prog 15 #[iv t, .agg #[iv x0, iv x1, iv x2, iv x3]] w0 fun v w => v = .agg #[iv ((entR t x0 x1 x2 x3).t), iv ((entR t x0 x1 x2 x3).kind), iv ((entR t x0 x1 x2 x3).a), iv ((entR t x0 x1 x2 x3).b), sv ((entR t x0 x1 x2 x3).text)] ∧ Ext No w0 w := by
 have hp4 := bF x3 (n := 4) de
 have hpa := bF x0 (n := 3) de
 have hpb := bF x1 (n := 200) de
 have hpc := bF x2 (n := 200) de
 refine aF func15 rfl ntmps15 (lb rfl) fun a Z => ?_
 replace Z := Z.p2 0 1 rfl
 replace Y : St No w0 [] w0 := St.init w0
 refine aa fun K1 hK1 => bp Z Y de rfl (cs := [iv x0, iv x1, iv x2, iv x3]) rfl ?_
 clear Z Y
 intro a w1 Z Y
 refine aU Z Y de (zeroValue27 _) (cs := [iv 0, iv 0, iv 0, iv 0, .string (⟨#[]⟩)]) rfl ?_
 clear Z Y
 intro a w2 Z Y
 refine ab (hK1 _ _ <| ac fun K2 hK2 => ?_)
 refine aI kr (aL kr fun w3 hxz => ?_)
 replace Y := Y.grow hxz
 refine aP (k := 0) 16 [14, 15] Z kr kr kr rfx ?_
 replace Z := Z.p4 0 1 3 4 rfl
 refine ay [15] (fun i => match i with | 15 => pm (fun b : Nat => pt b) (fun b => [blk b [iv 0, iv 0, iv 0, iv 0, .string (⟨#[]⟩)] 27]) (fun _ => True) | _ => fun _ _ => False) 16 [[], [0], [], [2], [3], [4], [], [6], [7], [8], [], [10], [11], [12], [1, 5, 9, 13], []] [iv t, iv (pickI t 10000001), pt w0.hz, iv x0, iv (pickI x0 3), iv (1 + (pickI x0 3)), po w0.hz 1, iv x1, iv (pickI x1 200), iv ((pickI x1 200) - 1), po w0.hz 2, iv x2, iv (pickI x2 200), iv ((pickI x2 200) - 1), .agg #[iv (pickI t 10000001), iv (1 + (pickI x0 3)), iv ((pickI x1 200) - 1), iv ((pickI x2 200) - 1), .string (⟨#[]⟩)], undef] Z Y kr kr kr ?_ ?_ ?_
 ·intro i hi hiq
  match i, hi, hiq with
  | 0, _, _ => exact fun w Y => OpV.g (ai rfl)
  | 1, _, _ => exact fun w Y => bh call44 rfl (cz t 10000001 _ (by first | assumption | (unfold i64 at *; omega) | omega) om)
  | 2, _, _ => exact fun w Y => OpV.g (aZ (v := pt w0.hz) rfl rfl kr)
  | 3, _, _ => exact fun w Y => OpV.g (ld Y 1 rfl rfl (isAgg3 _) rfl)
  | 4, _, _ => exact fun w Y => bh call44 rfl (cz x0 3 _ (by first | assumption | (unfold i64 at *; omega) | omega) om)
  | 5, _, _ => exact fun w Y => OpV.g (aT rfl rfl ⟨om, om⟩)
  | 6, _, _ => exact fun w Y => OpV.g (aZ (v := po w0.hz 1) rfl rfl kr)
  | 7, _, _ => exact fun w Y => OpV.g (ld Y 1 rfl rfl (isAgg3 _) rfl)
  | 8, _, _ => exact fun w Y => bh call44 rfl (cz x1 200 _ (by first | assumption | (unfold i64 at *; omega) | omega) om)
  | 9, _, _ => exact fun w Y => OpV.g (bo rfl rfl ⟨om, om⟩)
  | 10, _, _ => exact fun w Y => OpV.g (aZ (v := po w0.hz 2) rfl rfl kr)
  | 11, _, _ => exact fun w Y => OpV.g (ld Y 1 rfl rfl (isAgg3 _) rfl)
  | 12, _, _ => exact fun w Y => bh call44 rfl (cz x2 200 _ (by first | assumption | (unfold i64 at *; omega) | omega) om)
  | 13, _, _ => exact fun w Y => OpV.g (bo rfl rfl ⟨om, om⟩)
  | 14, _, _ => exact fun w Y => OpV.g (bC (v := .agg #[iv (pickI t 10000001), iv (1 + (pickI x0 3)), iv ((pickI x1 200) - 1), iv ((pickI x2 200) - 1), .string (⟨#[]⟩)]) rfl kr)
  | 15, _, h => exact absurd sm h
  | i + 16, h, _ => exact absurd h om
 ·intro i hi
  simp only [List.mem_cons, List.not_mem_nil, or_false] at hi
  subst hi
  ·intro w Y
   exact iy (zeroValue27 _) (cs := [iv 0, iv 0, iv 0, iv 0, .string (⟨#[]⟩)]) rfl
 clear Z Y
 rintro _ _ ⟨b1, rfl, -, rfl⟩ a w4 Z Y
 replace Z : Fr 43 [(7, iv t), (8, iv (pickI t 10000001)), (9, pt w0.hz), (10, iv x0), (11, iv (pickI x0 3)), (12, iv (1 + (pickI x0 3))), (13, po w0.hz 1), (14, iv x1), (15, iv (pickI x1 200)), (16, iv ((pickI x1 200) - 1)), (17, po w0.hz 2), (18, iv x2), (19, iv (pickI x2 200)), (20, iv ((pickI x2 200) - 1)), (21, .agg #[iv (pickI t 10000001), iv (1 + (pickI x0 3)), iv ((pickI x1 200) - 1), iv ((pickI x2 200) - 1), .string (⟨#[]⟩)]), (5, _), (0, _), (1, _), (3, _), (4, _)] [] a := Z
 replace Y : St No w0 [_, _, _] w4 := Y
 refine ab <| aK (k := 16) 17 [16] kr kr kr ?_
 refine aJ 0 Z Y rfl rfl rfl (sizeOf27 _) rfl (lb rfl) (ds := [iv (pickI t 10000001), iv (1 + (pickI x0 3)), iv ((pickI x1 200) - 1), iv ((pickI x2 200) - 1), .string (⟨#[]⟩)]) rfl rfl ?_
 clear Z Y
 intro a w5 Z Y
 refine ab <| aO kr ?_
 refine hK2 _ _ ?_
 replace Z := Z.p3 3 4 5 rfl
 refine ac fun K3 hK3 => aa fun K4 hK4 => wla Z rfl fun a Z => ab (hK4 _ _ <| am ?_)
 refine aV (fun m a w => ∃ (k : Nat), m = (pickI x3 4).toNat - k ∧ ((k : Int) ≤ pickI x3 4) ∧ Fr 43 [(3, pt w0.hz), (4, pt w1.hz), (5, pt b1), (6, iv (k : Int))] [] a ∧ St No w0 [blk b1 [iv (pickI t 10000001), iv (1 + (pickI x0 3)), iv ((pickI x1 200) - 1), iv ((pickI x2 200) - 1), sv (textR x3 k)] 27, blk w1.hz [iv 0, iv 0, iv 0, iv 0, .string (⟨#[]⟩)] 27, blk w0.hz [iv x0, iv x1, iv x2, iv x3] 37] w) _ ⟨0, rfl, hp4.1, Z.pick [3, 4, 5, 6], Y.select [0, 1, 2] de⟩ ?_
 rintro _ a w6 ⟨k, rfl, hk, Z, Y⟩
 refine ac fun K5 hK5 => aa fun K6 hK6 => wlm Z rfl fun a Z => wlv Z (aZ (v := po w0.hz 3) rfl rfl kr) fun a Z => wlv Z (ld Y 2 rfl rfl (isAgg3 _) rfl) fun a Z => ak Z Y de call44 rfl (cz x3 4 _ (by first | assumption | (unfold i64 at *; omega) | omega) om) ?_
 clear Z Y
 intro a w7 Z Y
 refine wlv Z (v_lt rfl rfl) fun a Z => ab (hK6 _ _ ?_)
 refine az Z rfl (fun hc2 => ?_) (fun hc2 => ?_)
 ·rw [hc2] at Z
  try simp only [qz] at hc2
  have hk4 : k < 4 := by omega
  have htl := fx x3 k
  have htl2 := bF (x3.tdiv (4 + (k : Int))) (n := 256) de
  have htd := ox h3 (b := 4 + (k : Int)) om
  refine ap <| hK5 _ _ <| ac fun K7 hK7 => am <| aI kr (aL kr fun w8 hxz => ?_)
  replace Y := Y.grow hxz
  refine aP (k := 0) 11 [1, 10] Z kr kr kr rfx ?_
  replace Z := Z.p9 3 4 5 6 22 23 24 25 26 rfl
  refine ay [9] (fun i => match i with | 9 => pm (fun b : Nat => .slice (some ⟨b, 0, none⟩) 1 1) (fun b => [own (.slice (some ⟨b, 0, none⟩) 1 1) 5 1 [[yv (UInt8.ofNat (pickI (x3.tdiv (4 + (k : Int))) 256).toNat)]]]) (fun _ => True) | _ => fun _ _ => False) 11 [[], [0], [], [2], [], [4], [3, 5], [6], [7], [8], [9]] [po b1 4, sv (textR x3 k), po w0.hz 3, iv x3, iv (k : Int), iv (4 + (k : Int)), iv (x3.tdiv (4 + (k : Int))), iv (pickI (x3.tdiv (4 + (k : Int))) 256), yv (UInt8.ofNat (pickI (x3.tdiv (4 + (k : Int))) 256).toNat), undef, sv ([(UInt8.ofNat (pickI (x3.tdiv (4 + (k : Int))) 256).toNat)])] Z Y kr kr kr ?_ ?_ ?_
  ·intro i hi hiq
   match i, hi, hiq with
   | 0, _, _ => exact fun w Y => OpV.g (al (v := po b1 4) rfl kr)
   | 1, _, _ => exact fun w Y => OpV.g (ld Y 0 rfl rfl (isAgg9 _) rfl)
   | 2, _, _ => exact fun w Y => OpV.g (aZ (v := po w0.hz 3) rfl rfl kr)
   | 3, _, _ => exact fun w Y => OpV.g (ld Y 2 rfl rfl (isAgg3 _) rfl)
   | 4, _, _ => exact fun w Y => OpV.g (ai rfl)
   | 5, _, _ => exact fun w Y => OpV.g (aT rfl rfl ⟨om, om⟩)
   | 6, _, _ => exact fun w Y => OpV.g (pp rfl rfl om h3)
   | 7, _, _ => exact fun w Y => bh call44 rfl (cz (x3.tdiv (4 + (k : Int))) 256 _ (by first | assumption | (unfold i64 at *; omega) | omega) om)
   | 8, _, _ => exact fun w Y => OpV.g ((l3 (n := pickI (x3.tdiv (4 + (k : Int))) 256) rfl kr underlying5).as (v' := yv (UInt8.ofNat (pickI (x3.tdiv (4 + (k : Int))) 256).toNat)) (by have hp := bF (x3.tdiv (4 + (k : Int))) (n := 256) de; rw [Int.emod_eq_of_lt hp.1 hp.2]))
   | 9, _, h => exact absurd sm h
   | 10, _, _ =>
    rintro _ _ ⟨b3, rfl, -, rfl⟩
    intro w Y
    exact OpV.g (dk (xs := [(UInt8.ofNat (pickI (x3.tdiv (4 + (k : Int))) 256).toNat)]) (Y.ow 0 rfl) rfl underlying71 underlying5 underlying9)
  ·intro i hi
   simp only [List.mem_cons, List.not_mem_nil, or_false] at hi
   subst hi
   ·intro w Y
    exact aW (E := 5) (sz := 1) rfl [[yv (UInt8.ofNat (pickI (x3.tdiv (4 + (k : Int))) 256).toNat)]] (fun _ => by kernel_rfl) sm rfl de
  clear Z Y
  rintro _ _ ⟨b3, rfl, -, rfl⟩ a w9 Z Y
  replace Z : Fr 43 [(29, po b1 4), (30, sv (textR x3 k)), (31, po w0.hz 3), (32, iv x3), (33, iv (k : Int)), (34, iv (4 + (k : Int))), (35, iv (x3.tdiv (4 + (k : Int)))), (36, iv (pickI (x3.tdiv (4 + (k : Int))) 256)), (37, yv (UInt8.ofNat (pickI (x3.tdiv (4 + (k : Int))) 256).toNat)), (38, _), (39, sv ([(UInt8.ofNat (pickI (x3.tdiv (4 + (k : Int))) 256).toNat)])), (3, _), (4, _), (5, _), (6, _), (22, _), (23, _), (24, _), (25, _), (26, _)] [] a := Z
  replace Y : St No w0 [_, _, _, _] w9 := Y
  refine ab <| aK (k := 11) 14 [13] kr kr kr ?_
  refine wlv Z (bY rfl rfl (by simp only [List.length_cons, List.length_nil]; omega)) fun a Z => wlv Z (al (v := po b1 4) rfl kr) fun a Z => aJ 1 Z Y rfl rfl rfl (sizeOf9 _) rfl (lb rfl) (ds := [iv (pickI t 10000001), iv (1 + (pickI x0 3)), iv ((pickI x1 200) - 1), iv ((pickI x2 200) - 1), sv ((textR x3 k) ++ ([(UInt8.ofNat (pickI (x3.tdiv (4 + (k : Int))) 256).toNat)]))]) rfl rfl ?_
  clear Z Y
  intro a w10 Z Y
  refine ab <| aO kr ?_
  refine hK7 _ _ ?_
  replace Z := Z.p4 3 4 5 6 rfl
  replace Y := Y.k3 14 rfl
  refine ao <| wlm Z rfl fun a Z => wlv Z (aT rfl rfl ⟨om, om⟩) fun a Z => wla Z rfl fun a Z => ab ?_
  refine ⟨_, ?_, k + 1, rfl, om, Z.pick [3, 4, 5, 6], Y.select [0, 1, 2] de⟩
  omega
 rw [hc2] at Z
 try simp only [qz] at hc2
 refine aE <| hK3 _ _ <| aa fun K8 hK8 => wlv Z (aq (Y.g 0 rfl) rfl (isAgg27 _) (sizeOf27 _)) fun a Z => aJ 1 Z Y rfl rfl rfl (sizeOf27 _) rfl (lb rfl) (ds := [iv (pickI t 10000001), iv (1 + (pickI x0 3)), iv ((pickI x1 200) - 1), iv ((pickI x2 200) - 1), sv (textR x3 k)]) rfl rfl ?_
 clear Z Y
 intro a w11 Z Y
 refine ab (hK8 _ _ ?_)
 replace Z := Z.p1 4 rfl
 replace Y := Y.k1 2 rfl
 refine aw ?_
 refine ar Z results15 (aR rfl (ca (Y.g 0 rfl) (isAgg27 _) (sizeOf27 _)) ag) ?_
 have hke : k = (pickI x3 4).toNat := by omega
 exact ⟨by simp only [retv]; unfold entR; rw [← hke], Y.ext⟩
theorem mW (owner : Int) (xv : Value) (ys : List Rin) (w0 : World) (hxv : SlAt w0 xv 5 (ys.map Rin.cells)) (hys : ∀ y ∈ ys, y.wt) (how : i64 owner) :
  Ret Tryd.prog 10 #[iv owner, xv] w0 (MemR w0 (fun v : Value => .agg #[iv (pickI owner 100), v]) (fun v => [own v 27 5 ((madeR ys).map Rec.cells)]) (fun _ => True)) := by
 have hxb := hxv.2.1
 simp only [List.length_map, big] at hxb
 refine aF func10 rfl ntmps10 (lb rfl) fun a Z => ?_
 replace Z := Z.p2 0 1 rfl
 replace Y : St No w0 [] w0 := St.init w0
 refine aa fun K1 hK1 => aU Z Y de (zeroValue25 _) (cs := [iv 0, .slice none 0 0]) rfl ?_
 clear Z Y
 intro a w1 Z Y
 refine ab (hK1 _ _ <| aa fun K2 hK2 => ?_)
 refine wlm Z rfl fun a Z => ak Z Y de call44 rfl (cz owner 100 _ (by first | assumption | (unfold i64 at *; omega) | omega) om) ?_
 clear Z Y
 intro a w2 Z Y
 refine wlv Z (bC (v := .agg #[iv (pickI owner 100), .slice none 0 0]) rfl kr) fun a Z => aU Z Y de (zeroValue25 _) (cs := [iv 0, .slice none 0 0]) rfl ?_
 clear Z Y
 intro a w3 Z Y
 refine aJ 0 Z Y rfl rfl rfl (sizeOf25 _) rfl (lb rfl) (ds := [iv (pickI owner 100), .slice none 0 0]) rfl rfl ?_
 clear Z Y
 intro a w4 Z Y
 refine ab (hK2 _ _ <| aa fun K3 hK3 => ?_)
 refine wla Z rfl fun a Z => ab (hK3 _ _ <| ac fun K4 hK4 => ?_)
 refine aa fun K5 hK5 => wla Z rfl fun a Z => ab (hK5 _ _ <| am ?_)
 replace Y : St No w0 [own (.slice none 0 0) 27 5 ((recsR 0 (ys.take 0)).map Rec.cells), blk w2.hz [iv (pickI owner 100), .slice none 0 0] 25, blk w0.hz [iv 0, .slice none 0 0] 25] w4 := Y.nil_own
 refine aV (fun m a w => ∃ (k : Nat) (v : Value), m = 12 - k ∧ (k ≤ ys.length) ∧ (k ≤ 12) ∧ Fr 58 [(1, xv), (4, pt w0.hz), (5, pt w2.hz), (6, iv (timeR 0 (ys.take k))), (7, iv (k : Int))] [] a ∧ St No w0 [blk w2.hz [iv (pickI owner 100), v] 25, blk w0.hz [iv 0, .slice none 0 0] 25, own v 27 5 ((recsR 0 (ys.take k)).map Rec.cells)] w) _ ⟨0, .slice none 0 0, rfl, Nat.zero_le _, de, Z.pick [1, 4, 5, 6, 7], Y.select [1, 2, 0] de⟩ ?_
 rintro _ a w5 ⟨k, v, rfl, hk, hk12, Z, Y⟩
 refine ac fun K6 hK6 => aa fun K7 hK7 => wlm Z rfl fun a Z => wlm Z rfl fun a Z => wlv Z ((aG (sT := 22) (Y.arg hxv) rfl rfl (runUnderlying22 _)).asi (m' := (ys.length : Int)) (by rw [List.length_map])) fun a Z => wlv Z (v_lt rfl rfl) fun a Z => wlm Z rfl fun a Z => ?_
 rcases Bool.eq_false_or_eq_true (decide ((k : Int) < (ys.length : Int))) with hb1 | hb1
 ·rw [hb1] at Z
  try simp only [qz] at hb1
  have hky : k < ys.length := by omega
  refine wly Z (ai rfl) fun a Z => wly Z (v_lt rfl rfl) fun a Z => wlv Z (aB rfl rfl) fun a Z => ab (hK7 _ _ ?_)
  replace Z := Z.p6 1 4 5 6 7 18 rfl
  refine az Z rfl (fun hc2 => ?_) (fun hc2 => ?_)
  ·rw [hc2] at Z
   try simp only [qz] at hc2
   obtain ⟨y, hy⟩ : ∃ y, ys.getD k Rin.z = y := ⟨_, rfl⟩
   obtain ⟨hy0, hy1, hy2, hy3, hy4⟩ : y.wt := by rw [← hy]; exact hys _ (aY hky)
   have htm := jR (ys.take k) 0 om
   rw [List.length_take] at htm
   have hp30 := bF y.x0 (n := 30) de
   refine ap <| hK6 _ _ <| ac fun K8 hK8 => am <| aa fun K9 hK9 => wlm Z rfl fun a Z => wlm Z rfl fun a Z => wlm Z rfl fun a Z => wlv Z ((ah (i := (k : Int)) (sT := 22) (Y.arg hxv) rfl rfl (runUnderlying22 _) (sizeOf75 _) om (by rw [List.length_map]; omega)).as (v' := slAddr xv (k * 5)) rfl) fun a Z => wlv Z (cj (k := k * 5) (j := 0) (Y.arg hxv) (i := k) (by rw [List.length_map]; omega) rfl rfl (fun _ _ => by kernel_rfl)) fun a Z => wlv Z (au (u := iv y.x0) (i := k) (j := 0) (Y.arg hxv) (by rw [List.length_map]; omega) rfl (isAgg3 _) (by rw [bc Rin.z, hy]; rfl)) fun a Z => ak Z Y de call44 rfl (cz y.x0 30 _ (by first | assumption | (unfold i64 at *; omega) | omega) om) ?_
   clear Z Y
   intro a w6 Z Y
   refine wlv Z (aT rfl rfl ⟨om, om⟩) fun a Z => wla Z rfl fun a Z => ab (hK9 _ _ ?_)
   replace Z := Z.p5 1 4 5 7 6 rfl
   refine aI kr (aL kr fun w7 hxz => ?_)
   replace Y := Y.grow hxz
   refine aP (k := 0) 26 [1, 25] Z kr kr kr rfx ?_
   replace Z := Z.p5 1 4 5 7 6 rfl
   refine ay [25] (fun i => match i with | 25 => pm (fun b : Nat => .slice (some ⟨b, 0, none⟩) 1 1) (fun b => [own (.slice (some ⟨b, 0, none⟩) 1 1) 27 5 [[iv ((entR ((timeR 0 (ys.take k)) + (pickI y.x0 30)) y.x1 y.x2 y.x3 y.x4).t), iv ((entR ((timeR 0 (ys.take k)) + (pickI y.x0 30)) y.x1 y.x2 y.x3 y.x4).kind), iv ((entR ((timeR 0 (ys.take k)) + (pickI y.x0 30)) y.x1 y.x2 y.x3 y.x4).a), iv ((entR ((timeR 0 (ys.take k)) + (pickI y.x0 30)) y.x1 y.x2 y.x3 y.x4).b), sv ((entR ((timeR 0 (ys.take k)) + (pickI y.x0 30)) y.x1 y.x2 y.x3 y.x4).text)]]]) (fun _ => True) | _ => fun _ _ => False) 26 [[], [0], [], [], [], [3, 4], [5], [6], [], [], [8, 9], [10], [11], [], [], [13, 14], [15], [16], [], [], [18, 19], [20], [21], [7, 12, 17, 22], [2, 23], [24]] [po w2.hz 1, v, iv ((timeR 0 (ys.take k)) + (pickI y.x0 30)), xv, iv (k : Int), slAddr xv (k * 5), slAddr xv (k * 5 + 1), iv y.x1, xv, iv (k : Int), slAddr xv (k * 5), slAddr xv (k * 5 + 2), iv y.x2, xv, iv (k : Int), slAddr xv (k * 5), slAddr xv (k * 5 + 3), iv y.x3, xv, iv (k : Int), slAddr xv (k * 5), slAddr xv (k * 5 + 4), iv y.x4, .agg #[iv y.x1, iv y.x2, iv y.x3, iv y.x4], .agg #[iv ((entR ((timeR 0 (ys.take k)) + (pickI y.x0 30)) y.x1 y.x2 y.x3 y.x4).t), iv ((entR ((timeR 0 (ys.take k)) + (pickI y.x0 30)) y.x1 y.x2 y.x3 y.x4).kind), iv ((entR ((timeR 0 (ys.take k)) + (pickI y.x0 30)) y.x1 y.x2 y.x3 y.x4).a), iv ((entR ((timeR 0 (ys.take k)) + (pickI y.x0 30)) y.x1 y.x2 y.x3 y.x4).b), sv ((entR ((timeR 0 (ys.take k)) + (pickI y.x0 30)) y.x1 y.x2 y.x3 y.x4).text)], undef] Z Y kr kr kr ?_ ?_ ?_
   ·intro i hi hiq
    match i, hi, hiq with
    | 0, _, _ => exact fun w Y => OpV.g (al (v := po w2.hz 1) rfl kr)
    | 1, _, _ => exact fun w Y => OpV.g (ld Y 0 rfl rfl (isAgg23 _) rfl)
    | 2, _, _ => exact fun w Y => OpV.g (ai rfl)
    | 3, _, _ => exact fun w Y => OpV.g (ai rfl)
    | 4, _, _ => exact fun w Y => OpV.g (ai rfl)
    | 5, _, _ => exact fun w Y => OpV.g ((ah (i := (k : Int)) (sT := 22) (Y.arg hxv) rfl rfl (runUnderlying22 _) (sizeOf75 _) om (by rw [List.length_map]; omega)).as (v' := slAddr xv (k * 5)) rfl)
    | 6, _, _ => exact fun w Y => OpV.g (cj (k := k * 5) (j := 1) (Y.arg hxv) (i := k) (by rw [List.length_map]; omega) rfl rfl (fun _ _ => by kernel_rfl))
    | 7, _, _ => exact fun w Y => OpV.g (au (u := iv y.x1) (i := k) (j := 1) (Y.arg hxv) (by rw [List.length_map]; omega) rfl (isAgg3 _) (by rw [bc Rin.z, hy]; rfl))
    | 8, _, _ => exact fun w Y => OpV.g (ai rfl)
    | 9, _, _ => exact fun w Y => OpV.g (ai rfl)
    | 10, _, _ => exact fun w Y => OpV.g ((ah (i := (k : Int)) (sT := 22) (Y.arg hxv) rfl rfl (runUnderlying22 _) (sizeOf75 _) om (by rw [List.length_map]; omega)).as (v' := slAddr xv (k * 5)) rfl)
    | 11, _, _ => exact fun w Y => OpV.g (cj (k := k * 5) (j := 2) (Y.arg hxv) (i := k) (by rw [List.length_map]; omega) rfl rfl (fun _ _ => by kernel_rfl))
    | 12, _, _ => exact fun w Y => OpV.g (au (u := iv y.x2) (i := k) (j := 2) (Y.arg hxv) (by rw [List.length_map]; omega) rfl (isAgg3 _) (by rw [bc Rin.z, hy]; rfl))
    | 13, _, _ => exact fun w Y => OpV.g (ai rfl)
    | 14, _, _ => exact fun w Y => OpV.g (ai rfl)
    | 15, _, _ => exact fun w Y => OpV.g ((ah (i := (k : Int)) (sT := 22) (Y.arg hxv) rfl rfl (runUnderlying22 _) (sizeOf75 _) om (by rw [List.length_map]; omega)).as (v' := slAddr xv (k * 5)) rfl)
    | 16, _, _ => exact fun w Y => OpV.g (cj (k := k * 5) (j := 3) (Y.arg hxv) (i := k) (by rw [List.length_map]; omega) rfl rfl (fun _ _ => by kernel_rfl))
    | 17, _, _ => exact fun w Y => OpV.g (au (u := iv y.x3) (i := k) (j := 3) (Y.arg hxv) (by rw [List.length_map]; omega) rfl (isAgg3 _) (by rw [bc Rin.z, hy]; rfl))
    | 18, _, _ => exact fun w Y => OpV.g (ai rfl)
    | 19, _, _ => exact fun w Y => OpV.g (ai rfl)
    | 20, _, _ => exact fun w Y => OpV.g ((ah (i := (k : Int)) (sT := 22) (Y.arg hxv) rfl rfl (runUnderlying22 _) (sizeOf75 _) om (by rw [List.length_map]; omega)).as (v' := slAddr xv (k * 5)) rfl)
    | 21, _, _ => exact fun w Y => OpV.g (cj (k := k * 5) (j := 4) (Y.arg hxv) (i := k) (by rw [List.length_map]; omega) rfl rfl (fun _ _ => by kernel_rfl))
    | 22, _, _ => exact fun w Y => OpV.g (au (u := iv y.x4) (i := k) (j := 4) (Y.arg hxv) (by rw [List.length_map]; omega) rfl (isAgg3 _) (by rw [bc Rin.z, hy]; rfl))
    | 23, _, _ => exact fun w Y => OpV.g (bC (v := .agg #[iv y.x1, iv y.x2, iv y.x3, iv y.x4]) rfl kr)
    | 24, _, _ => exact fun w Y => bh call15 rfl (ie ((timeR 0 (ys.take k)) + (pickI y.x0 30)) y.x1 y.x2 y.x3 y.x4 _ (by unfold i64; omega) (by assumption) (by assumption) (by assumption) (by assumption))
    | 25, _, h => exact absurd sm h
    | i + 26, h, _ => exact absurd h om
   ·intro i hi
    simp only [List.mem_cons, List.not_mem_nil, or_false] at hi
    subst hi
    ·intro w Y
     exact aW (E := 27) (sz := 5) rfl [[iv ((entR ((timeR 0 (ys.take k)) + (pickI y.x0 30)) y.x1 y.x2 y.x3 y.x4).t), iv ((entR ((timeR 0 (ys.take k)) + (pickI y.x0 30)) y.x1 y.x2 y.x3 y.x4).kind), iv ((entR ((timeR 0 (ys.take k)) + (pickI y.x0 30)) y.x1 y.x2 y.x3 y.x4).a), iv ((entR ((timeR 0 (ys.take k)) + (pickI y.x0 30)) y.x1 y.x2 y.x3 y.x4).b), sv ((entR ((timeR 0 (ys.take k)) + (pickI y.x0 30)) y.x1 y.x2 y.x3 y.x4).text)]] (fun _ => by kernel_rfl) sm rfl de
   clear Z Y
   rintro _ _ ⟨b3, rfl, -, rfl⟩ a w8 Z Y
   replace Z : Fr 58 [(29, po w2.hz 1), (30, v), (31, iv ((timeR 0 (ys.take k)) + (pickI y.x0 30))), (32, xv), (33, iv (k : Int)), (34, slAddr xv (k * 5)), (35, slAddr xv (k * 5 + 1)), (36, iv y.x1), (37, xv), (38, iv (k : Int)), (39, slAddr xv (k * 5)), (40, slAddr xv (k * 5 + 2)), (41, iv y.x2), (42, xv), (43, iv (k : Int)), (44, slAddr xv (k * 5)), (45, slAddr xv (k * 5 + 3)), (46, iv y.x3), (47, xv), (48, iv (k : Int)), (49, slAddr xv (k * 5)), (50, slAddr xv (k * 5 + 4)), (51, iv y.x4), (52, .agg #[iv y.x1, iv y.x2, iv y.x3, iv y.x4]), (53, .agg #[iv ((entR ((timeR 0 (ys.take k)) + (pickI y.x0 30)) y.x1 y.x2 y.x3 y.x4).t), iv ((entR ((timeR 0 (ys.take k)) + (pickI y.x0 30)) y.x1 y.x2 y.x3 y.x4).kind), iv ((entR ((timeR 0 (ys.take k)) + (pickI y.x0 30)) y.x1 y.x2 y.x3 y.x4).a), iv ((entR ((timeR 0 (ys.take k)) + (pickI y.x0 30)) y.x1 y.x2 y.x3 y.x4).b), sv ((entR ((timeR 0 (ys.take k)) + (pickI y.x0 30)) y.x1 y.x2 y.x3 y.x4).text)]), (54, _), (1, _), (4, _), (5, _), (7, _), (6, _)] [] a := Z
   replace Y : St No w0 [_, _, _, _] w8 := Y
   refine ab <| aK (k := 26) 29 [28] kr kr kr ?_
   refine aS (i := 3) (sT := 23) (inf := Tryd.t27) (z := .agg #[iv 0, iv 0, iv 0, iv 0, .string (⟨#[]⟩)]) (b := 0) (off := 0) (m := 0) (c := 0) rfl rfl rfl (Y.ow 0 rfl) sm underlying23 rfl rfl rfl rfl de (by simp [Value.oneCell', yv, wv, sv]) (by have hby : Tryd.t27.bytes = 48 := rfl; simp only [big, hby, List.length_append, List.length_map, et, List.length_take, List.length_cons, List.length_nil]; omega) (by have hby : Tryd.t27.bytes = 48 := rfl; simp only [big, hby, List.length_append, List.length_map, et, List.length_take, List.length_cons, List.length_nil]; omega) de Z Y fun a w9 s4 Z Y _ => wlv Z (al (v := po w2.hz 1) rfl kr) fun a Z => cZ 1 Z Y (Y.ow 3 rfl) rfl rfl rfl (sizeOf23 _) (lb rfl) (ds := [iv (pickI owner 100), s4]) rfl rfl ?_
   clear Z Y
   intro a w10 Z Y
   refine ab <| aO kr ?_
   refine hK8 _ _ ?_
   replace Z := Z.p5 1 4 5 7 6 rfl
   replace Y := Y.k3 14 rfl
   rw [show ((recsR 0 (ys.take k)).map Rec.cells) ++ ([[iv ((entR ((timeR 0 (ys.take k)) + (pickI y.x0 30)) y.x1 y.x2 y.x3 y.x4).t), iv ((entR ((timeR 0 (ys.take k)) + (pickI y.x0 30)) y.x1 y.x2 y.x3 y.x4).kind), iv ((entR ((timeR 0 (ys.take k)) + (pickI y.x0 30)) y.x1 y.x2 y.x3 y.x4).a), iv ((entR ((timeR 0 (ys.take k)) + (pickI y.x0 30)) y.x1 y.x2 y.x3 y.x4).b), sv ((entR ((timeR 0 (ys.take k)) + (pickI y.x0 30)) y.x1 y.x2 y.x3 y.x4).text)]]) = ((recsR 0 (ys.take (k + 1))).map Rec.cells) from by rw [bV Rin.z hky, f8, hy, List.map_append]; rfl] at Y
   rw [show timeR 0 (ys.take k) + pickI y.x0 30 = timeR 0 (ys.take (k + 1)) from by rw [bV Rin.z hky, fW, hy]] at Z
   refine ao <| wlm Z rfl fun a Z => wlv Z (aT rfl rfl ⟨om, om⟩) fun a Z => wla Z rfl fun a Z => ab ?_
   refine ⟨_, ?_, k + 1, s4, rfl, om, om, Z.pick [1, 4, 5, 6, 7], Y.select [0, 1, 2] de⟩
   omega
  rw [hc2] at Z
  try simp only [qz] at hc2
  have htk := go hk om hk12
  refine aE <| hK4 _ _ <| aa fun K10 hK10 => wlv Z (aq (Y.g 0 rfl) rfl (isAgg25 _) (sizeOf25 _)) fun a Z => bI (us := [iv (pickI owner 100), v]) 1 Z Y rfl rfl rfl (sizeOf25 _) (by intro z hz; simp only [List.mem_cons, List.not_mem_nil, or_false] at hz; rcases hz with rfl | rfl <;> first | rfl | exact SlAt.one (Y.ow 2 rfl)) (lb rfl) (ds := [iv (pickI owner 100), v]) rfl rfl ?_
  clear Z Y
  intro a w11 Z Y
  refine ab (hK10 _ _ ?_)
  replace Z := Z.p1 4 rfl
  replace Y := Y.k2 6 rfl
  refine aw ?_
  refine ar Z results10 (aR rfl (ca (Y.g 0 rfl) (isAgg25 _) (sizeOf25 _)) ag) ?_
  rw [htk] at Y
  exact ⟨v, rfl, trivial, Y.ext, St.out (E := [own v 27 5 ((madeR ys).map Rec.cells)]) (H := []) (Y.select [1] de)⟩
 rw [hb1] at Z
 try simp only [qz] at hb1
 have htk := go hk om hk12
 refine wln Z fun a Z => wln Z fun a Z => wlv Z (aA rfl rfl) fun a Z => ab (hK7 _ _ ?_)
 replace Z := Z.p6 1 4 5 6 7 18 rfl
 refine aH Z rfl ?_
 refine aE <| hK4 _ _ <| aa fun K11 hK11 => wlv Z (aq (Y.g 0 rfl) rfl (isAgg25 _) (sizeOf25 _)) fun a Z => bI (us := [iv (pickI owner 100), v]) 1 Z Y rfl rfl rfl (sizeOf25 _) (by intro z hz; simp only [List.mem_cons, List.not_mem_nil, or_false] at hz; rcases hz with rfl | rfl <;> first | rfl | exact SlAt.one (Y.ow 2 rfl)) (lb rfl) (ds := [iv (pickI owner 100), v]) rfl rfl ?_
 clear Z Y
 intro a w12 Z Y
 refine ab (hK11 _ _ ?_)
 replace Z := Z.p1 4 rfl
 replace Y := Y.k2 6 rfl
 refine aw ?_
 refine ar Z results10 (aR rfl (ca (Y.g 0 rfl) (isAgg25 _) (sizeOf25 _)) ag) ?_
 rw [htk] at Y
 exact ⟨v, rfl, trivial, Y.ext, St.out (E := [own v 27 5 ((madeR ys).map Rec.cells)]) (H := []) (Y.select [1] de)⟩
theorem oP (n : Int) (w0 : World) (hn : i64 n) :
  Ret Tryd.prog 35 #[iv n] w0 fun v w => v = sv (keyR n) ∧ Ext No w0 w := by
 have hp := bF n (n := 1099511627776) de
 have hq := bG (pickI n 1099511627776)
 refine aF func35 rfl ntmps35 (lb rfl) fun a Z => ?_
 replace Z := Z.p1 0 rfl
 replace Y : St No w0 [] w0 := St.init w0
 refine aa fun K1 hK1 => wla Z rfl fun a Z => ab (hK1 _ _ <| aa fun K2 hK2 => ?_)
 refine wlm Z rfl fun a Z => ak Z Y de call44 rfl (cz n 1099511627776 _ (by first | assumption | (unfold i64 at *; omega) | omega) om) ?_
 clear Z Y
 intro a w1 Z Y
 refine ak Z Y de call53 rfl (cR (pickI n 1099511627776) _ (by unfold small; omega)) ?_
 clear Z Y
 intro a w2 Z Y
 refine wlm Z rfl fun a Z => wlv Z (aj rfl rfl) fun a Z => wlv Z (aj rfl rfl) fun a Z => wla Z rfl fun a Z => wla Z rfl fun a Z => ab (hK2 _ _ ?_)
 replace Z := Z.p2 2 3 rfl
 refine aa fun K3 hK3 => wlm Z rfl fun a Z => ak Z Y de call70 rfl (dM (putI (pickI n 1099511627776)) _ om) ?_
 clear Z Y
 intro a w3 Z Y
 refine wla Z rfl fun a Z => ab (hK3 _ _ <| aw ?_)
 refine ar Z results35 (ae rfl ag) ?_
 exact ⟨by rfl, Y.ext⟩
theorem gK {p : List By} (h : 0 < p.length) : p = p.take (p.length - 1) ++ [p.getD (p.length - 1) []] := by
 rcases List.eq_nil_or_concat p with rfl | ⟨p, x, rfl⟩
 ·exact absurd h (Nat.lt_irrefl 0)
 ·rw [List.concat_eq_append]; simp [List.getD_eq_getElem?_getD]
theorem fA {n i : Nat} {s : By} {p : List By} (h : 2 ≤ n) (hp : 0 < p.length) (hi : i < lft n) : wayH sha n i s p = ((1 :: ((wayH sha (lft n) i s (p.take (p.length - 1))).2 ++ p.getD (p.length - 1) [])) :: (wayH sha (lft n) i s (p.take (p.length - 1))).1, nodeH sha (wayH sha (lft n) i s (p.take (p.length - 1))).2 (p.getD (p.length - 1) [])) := by
 conv => lhs; rw [gK hp, cG sha h, if_pos hi]
theorem eI {n i : Nat} {s : By} {p : List By} (h : 2 ≤ n) (hp : 0 < p.length) (hi : ¬ i < lft n) : wayH sha n i s p = ((1 :: (p.getD (p.length - 1) [] ++ (wayH sha (n - lft n) (i - lft n) s (p.take (p.length - 1))).2)) :: (wayH sha (n - lft n) (i - lft n) s (p.take (p.length - 1))).1, nodeH sha (p.getD (p.length - 1) []) (wayH sha (n - lft n) (i - lft n) s (p.take (p.length - 1))).2) := by
 conv => lhs; rw [gK hp, cG sha h, if_neg hi]
theorem dB {n i : Nat} {s : By} {p : List By} (h : n ≤ 1 ∨ p.length = 0) : wayH sha n i s p = ([0 :: s], leafH sha s) := by
 rcases h with h | h
 ·exact dE sha h
 ·obtain rfl : p = [] := List.eq_nil_of_length_eq_zero h
  exact ei sha
theorem eK : ∀ (p : List By) (n i : Nat) (s : By), (wayH sha n i s p).1.length ≤ p.length + 1 := by
 intro p
 induction hL : p.length generalizing p with
 | zero => intro n i s; rw [dB (.inr hL)]; simp
 | succ k ih =>
  intro n i s
  by_cases h : n ≤ 1
  ·rw [dB (.inl h)]; simp
  ·have hk : (p.take (p.length - 1)).length = k := by rw [List.length_take]; omega
   by_cases hi : i < lft n
   ·rw [fA om om hi]; have := ih _ hk (lft n) i s; simp; omega
   ·rw [eI om om hi]; have := ih _ hk (n - lft n) (i - lft n) s; simp; omega
theorem lX {s : By} {b : Nat} (hs : s.length + 1 ≤ b) (hb : 65 ≤ b) : ∀ (p : List By) (n i : Nat), (∀ x ∈ p, x.length = 32) → ∀ z ∈ (wayH sha n i s p).1, z.length ≤ b := by
 intro p
 induction hL : p.length generalizing p with
 | zero => intro n i _ z hz; rw [dB (.inr hL)] at hz; rw [List.mem_singleton.1 hz]; simpa using hs
 | succ k ih =>
  intro n i hp z hz
  by_cases h : n ≤ 1
  ·rw [dB (.inl h)] at hz; rw [List.mem_singleton.1 hz]; simpa using hs
  ·have hk : (p.take (p.length - 1)).length = k := by rw [List.length_take]; omega
   have hp' : ∀ x ∈ p.take (p.length - 1), x.length = 32 := fun x hx => hp x (List.mem_of_mem_take hx)
   have hx := hp _ (aY (d := []) (show p.length - 1 < p.length by omega))
   by_cases hi : i < lft n
   ·rw [fA om om hi] at hz
    rcases List.mem_cons.1 hz with rfl | hz
    ·have := ez bl (p.take (p.length - 1)) (lft n) i s
     simp only [List.length_cons, List.length_append]; omega
    ·exact ih _ hk _ _ hp' z hz
   ·rw [eI om om hi] at hz
    rcases List.mem_cons.1 hz with rfl | hz
    ·have := ez bl (p.take (p.length - 1)) (n - lft n) (i - lft n) s
     simp only [List.length_cons, List.length_append]; omega
    ·exact ih _ hk _ _ hp' z hz
theorem kf : ∀ (n : Nat) (l : List By), l.length = n → 1 ≤ n → (hashL sha l).length + 1 ≤ 2 * n := by
 intro n
 induction n using Nat.strongRecOn with
 | _ n ih =>
  intro l hl h1
  match l with
  | [] => simp at hl; omega
  | [s] => rw [← hl]; simp [fo]
  | a :: b :: l =>
   generalize hg : a :: b :: l = l2 at *
   have h2 : 2 ≤ l2.length := by rw [← hg]; simp
   have h3 := bN h2
   have h4 := bE l2.length
   have i1 := ih (lft l2.length) om (l2.take (lft l2.length)) (by rw [List.length_take]; omega) om
   have i2 := ih (l2.length - lft l2.length) om (l2.drop (lft l2.length)) (by rw [List.length_drop]) om
   rw [eA sha h2, List.length_append, List.length_append, List.length_singleton]; omega
theorem fw (n : Nat) (l : List By) (hl : l.length = n) : (hashL sha l).length ≤ 2 * n + 1 := by
 by_cases h : 1 ≤ n
 ·have := kf n l hl h; omega
 ·obtain rfl : l = [] := List.eq_nil_of_length_eq_zero om
  simp [ib]
theorem kQ {b : Nat} (hb : 65 ≤ b) : ∀ (n : Nat) (l : List By), l.length = n → (∀ s ∈ l, s.length + 1 ≤ b) → ∀ z ∈ hashL sha l, z.length ≤ b := by
 intro n
 induction n using Nat.strongRecOn with
 | _ n ih =>
  intro l hl hs z hz
  match l with
  | [] => rw [ib] at hz; rw [List.mem_singleton.1 hz]; simp
  | [s] => rw [fo] at hz; rw [List.mem_singleton.1 hz]; simpa using hs s sm
  | a :: b2 :: l =>
   generalize hg : a :: b2 :: l = l2 at *
   have h2 : 2 ≤ l2.length := by rw [← hg]; simp
   have h3 := bN h2
   have h4 := bE l2.length
   rw [eA sha h2] at hz
   rcases List.mem_append.1 hz with hz | hz
   ·rcases List.mem_append.1 hz with hz | hz
    ·exact ih (lft l2.length) om _ (by rw [List.length_take]; omega) (fun s h => hs s (List.mem_of_mem_take h)) z hz
    ·exact ih (l2.length - lft l2.length) om _ (by rw [List.length_drop]) (fun s h => hs s (List.mem_of_mem_drop h)) z hz
   ·rw [List.mem_singleton.1 hz]
    simp only [List.length_cons, List.length_append, bD bl]; omega
theorem iA {l : List By} (h : l.length = 1) : hashL sha l = [0 :: l.getD 0 []] := by
 match l, h with
 | [x], _ => rfl
theorem m5 (L : Nat) :
  ∀ (lv : Value) (ls : List By) (w0 : World), ls.length = L → SlAt w0 lv 1 (ls.map fun s => [sv s]) → ls.length ≤ 1000 → (∀ s ∈ ls, s.length ≤ 30000000) → Ret Tryd.prog 31 #[lv] w0 (MemR w0 (fun v : Value => v) (fun v => [own v 9 1 ((hashL sha ls).map fun s => [sv s])]) (fun _ => True)) := by
 induction L using Nat.strongRecOn
 rename_i L ih
 intro lv ls w0 hL hlv hln hls0
 have hls : ∀ s ∈ ls, s.length ≤ 40000000 := fun s h => Nat.le_trans (hls0 s h) de
 have hnb := hlv.le
 rw [List.length_map] at hnb
 refine aF func31 rfl ntmps31 (lb rfl) fun a Z => ?_
 replace Z := Z.p1 0 rfl
 replace Y : St No w0 [] w0 := St.init w0
 refine aa fun K1 hK1 => wla Z rfl fun a Z => ab (hK1 _ _ <| ac fun K2 hK2 => ?_)
 refine aa fun K3 hK3 => wlm Z rfl fun a Z => wlv Z ((aG (sT := 45) (Y.arg hlv) rfl rfl (runUnderlying45 _)).asi (m' := (ls.length : Int)) sm) fun a Z => wlv Z (v_eq rfl rfl) fun a Z => ab (hK3 _ _ ?_)
 refine az Z rfl (fun hc1 => ?_) (fun hc1 => ?_)
 ·rw [hc1] at Z
  try simp only [qz] at hc1
  refine aa fun K4 hK4 => ax (E := 9) (sz := 1) rfl [[sv ([])]] kr sm rfl de de Z Y ?_
  clear Z Y
  intro a w1 Z Y
  refine wla Z rfl fun a Z => ab (hK4 _ _ <| aw ?_)
  refine ar Z results31 (ae rfl ag) ?_
  have hW := (show hashL sha ls = [[]] from by rw [show ls = [] from List.eq_nil_of_length_eq_zero om]; rfl)
  refine ⟨(.slice (some ⟨w0.hz, 0, none⟩) 1 1), rfl, trivial, Y.ext, St.out (E := [own (.slice (some ⟨w0.hz, 0, none⟩) 1 1) 9 1 ((hashL sha ls).map fun s => [sv s])]) (H := []) ?_⟩
  rw [show ((hashL sha ls).map fun s => [sv s]) = [[sv ([])]] from by rw [hW]; simp]
  exact Y.select [0] de
 rw [hc1] at Z
 try simp only [qz] at hc1
 refine ap <| hK2 _ _ <| ac fun K5 hK5 => aa fun K6 hK6 => wlm Z rfl fun a Z => wlv Z ((aG (sT := 45) (Y.arg hlv) rfl rfl (runUnderlying45 _)).asi (m' := (ls.length : Int)) sm) fun a Z => wlv Z (v_eq rfl rfl) fun a Z => ab (hK6 _ _ ?_)
 refine az Z rfl (fun hc2 => ?_) (fun hc2 => ?_)
 ·rw [hc2] at Z
  try simp only [qz] at hc2
  have hx := hls _ (aY (d := []) (show 0 < ls.length by omega))
  refine aa fun K7 hK7 => wlm Z rfl fun a Z => wlv Z ((ah (i := 0) (sT := 45) (Y.arg hlv) rfl rfl (runUnderlying45 _) (sizeOf9 _) om (by rw [List.length_map]; omega)).as (v' := slAddr lv (0 * 1)) rfl) fun a Z => ?_
  refine wlv Z (au (u := sv (ls.getD 0 [])) (i := 0) (j := 0) (Y.arg hlv) (by rw [List.length_map]; omega) rfl (isAgg9 _) (by simp [List.getD_eq_getElem?_getD, List.getElem?_eq_getElem (show 0 < ls.length by omega)])) fun a Z => ?_
  refine wlv Z (bY rfl rfl (by (simp only [List.length_append, List.length_cons, List.length_nil]); omega)) fun a Z => ax (E := 9) (sz := 1) rfl [[sv (([0]) ++ (ls.getD 0 []))]] kr sm rfl de de Z Y ?_
  clear Z Y
  intro a w2 Z Y
  refine wla Z rfl fun a Z => ab (hK7 _ _ ?_)
  replace Z := Z.p2 0 2 rfl
  refine aw ?_
  refine ar Z results31 (ae rfl ag) ?_
  have hW := iA (l := ls) om
  refine ⟨(.slice (some ⟨w0.hz, 0, none⟩) 1 1), rfl, trivial, Y.ext, St.out (E := [own (.slice (some ⟨w0.hz, 0, none⟩) 1 1) 9 1 ((hashL sha ls).map fun s => [sv s])]) (H := []) ?_⟩
  rw [show ((hashL sha ls).map fun s => [sv s]) = [[sv (([0]) ++ (ls.getD 0 []))]] from by rw [hW]; simp]
  exact Y.select [0] de
 rw [hc2] at Z
 try simp only [qz] at hc2
 have hlt := bN (n := ls.length) om
 have hlp := bE ls.length
 have hc1 := fw _ (ls.take (lft ls.length)) rfl
 have hc2 := fw _ (ls.drop (lft ls.length)) rfl
 rw [List.length_take] at hc1
 rw [List.length_drop] at hc2
 have hrt := bD bl (ls.take (lft ls.length))
 have hrd := bD bl (ls.drop (lft ls.length))
 refine ap <| hK5 _ _ <| aa fun K8 hK8 => wlm Z rfl fun a Z => wlv Z ((aG (sT := 45) (Y.arg hlv) rfl rfl (runUnderlying45 _)).asi (m' := (ls.length : Int)) sm) fun a Z => ak Z Y de call67 rfl (f5 ls.length _ om om) ?_
 clear Z Y
 intro a w3 Z Y
 refine wla Z rfl fun a Z => ab (hK8 _ _ ?_)
 replace Z := Z.p3 0 2 3 rfl
 refine ac fun K9 hK9 => aI kr (aL kr fun w4 hxz => ?_)
 replace Y := Y.grow hxz
 refine aP (k := 0) 7 [3, 6] Z kr kr kr rfx ?_
 replace Z := Z.p3 0 2 3 rfl
 refine ay [3] (fun i => match i with | 3 => pm (fun v : Value => v) (fun v => [own v 9 1 ((hashL sha ((ls.take (lft ls.length)))).map fun s => [sv s])]) (fun _ => True) | _ => fun _ _ => False) 7 [[], [], [0, 1], [2], [], [], [4, 5]] [lv, iv (lft ls.length : Int), (cut lv 1 0 (lft ls.length) (slCap lv)), undef, lv, iv (lft ls.length : Int), (cut lv 1 (lft ls.length) ls.length (slCap lv))] Z Y kr kr kr ?_ ?_ ?_
 ·intro i hi hiq
  match i, hi, hiq with
  | 0, _, _ => exact fun w Y => OpV.g (ai rfl)
  | 1, _, _ => exact fun w Y => OpV.g (ai rfl)
  | 2, _, _ => exact fun w Y => OpV.g (bx (l := 0) (h := (lft ls.length)) (Y.arg hlv) rfl rfl rfl underlying45 kr (.inl ⟨rfl, rfl⟩) (.inr (by rw [show ((lft ls.length : Int) : Int) = (((lft ls.length) : Nat) : Int) from by omega] <;> rfl)) (Nat.zero_le _) (by first | (rw [List.length_map]; omega) | (simp <;> omega)))
  | 3, _, h => exact absurd sm h
  | 4, _, _ => exact fun w Y => OpV.g (ai rfl)
  | 5, _, _ => exact fun w Y => OpV.g (ai rfl)
  | 6, _, _ => exact fun w Y => OpV.g (bx (l := (lft ls.length)) (h := ls.length) (Y.arg hlv) rfl rfl rfl underlying45 kr (.inr (by rw [show ((lft ls.length : Int) : Int) = (((lft ls.length) : Nat) : Int) from by omega] <;> rfl)) (.inl ⟨rfl, by simp⟩) om sm)
 ·intro i hi
  simp only [List.mem_cons, List.not_mem_nil, or_false] at hi
  subst hi
  ·intro w Y
   exact oG call31 rfl (ih _ (by simp only [List.length_take, List.length_drop]; omega) (cut lv 1 0 (lft ls.length) (slCap lv)) (ls.take (lft ls.length)) _ rfl ((Y.arg hlv).cut0 (h := (lft ls.length)) (by first | omega | (rw [List.length_reverse]; omega) | simp | (simp; omega))) (by simp only [List.length_take, List.length_drop]; omega) (fun s h => hls0 s (List.mem_of_mem_take h)))
 clear Z Y
 rintro v3 _ ⟨_, rfl, -, rfl⟩ a w5 Z Y
 replace Z : Fr 42 [(20, lv), (21, iv (lft ls.length : Int)), (22, (cut lv 1 0 (lft ls.length) (slCap lv))), (23, _), (24, lv), (25, iv (lft ls.length : Int)), (26, (cut lv 1 (lft ls.length) ls.length (slCap lv))), (0, _), (2, _), (3, _)] [] a := Z
 replace Y : St No w0 [_] w5 := Y
 refine ab <| aK (k := 7) 10 [9] kr kr kr ?_
 refine aN Z Y de call31 rfl (ih _ (by simp only [List.length_take, List.length_drop]; omega) (cut lv 1 (lft ls.length) ls.length (slCap lv)) (ls.drop (lft ls.length)) _ rfl ((Y.arg hlv).cutd (l := (lft ls.length)) (by first | omega | (rw [List.length_reverse]; omega) | simp | (simp; omega))) (by simp only [List.length_take, List.length_drop]; omega) (fun s h => hls0 s (List.mem_of_mem_drop h))) ?_
 clear Z Y
 intro a w6 x5 hp Z Y
 revert x5 hp Z Y; rintro v4 hp Z Y
 clear hp
 replace Y : St No w0 [_, _] w6 := Y
 refine aM (i := 1) (sT := 45) (inf := Tryd.t9) (z := .string (⟨#[]⟩)) rfl rfl rfl (Y.ow 0 rfl) underlying45 rfl rfl rfl rfl de (by first | (simp [Value.oneCell', yv, wv, sv]; done) | (intro e he u hu; obtain ⟨s, _, rfl⟩ := List.mem_map.1 he; rw [List.mem_singleton.1 hu]; rfl)) (by have hby : Tryd.t9.bytes = 16 := rfl; simp only [big, hby, List.length_append, List.length_map, List.length_reverse, List.length_cons, List.length_nil]; omega) (by have hby : Tryd.t9.bytes = 16 := rfl; simp only [big, hby, List.length_append, List.length_map, List.length_reverse, List.length_cons, List.length_nil]; omega) de Z Y ?_
 clear Z Y
 intro a w7 s6 Z Y
 refine wla Z rfl fun a Z => ab <| aO kr ?_
 refine hK9 _ _ ?_
 replace Z := Z.p4 0 2 3 4 rfl
 replace Y := Y.k1 2 rfl
 refine ac fun K10 hK10 => aI kr (aL kr fun w8 hxz => ?_)
 replace Y := Y.grow hxz
 refine aP (k := 0) 12 [0, 11] Z kr kr kr rfx ?_
 replace Z := Z.p4 0 2 3 4 rfl
 refine ay [11] (fun i => match i with | 11 => pm (fun b : Nat => .slice (some ⟨b, 0, none⟩) 1 1) (fun b => [own (.slice (some ⟨b, 0, none⟩) 1 1) 9 1 [[sv ((([1]) ++ (rootH sha (ls.take (lft ls.length)))) ++ (rootH sha (ls.drop (lft ls.length))))]]]) (fun _ => True) | _ => fun _ _ => False) 12 [[], [], [], [1, 2], [3], [4], [], [], [6, 7], [8], [5, 9], [10]] [s6, lv, iv (lft ls.length : Int), (cut lv 1 0 (lft ls.length) (slCap lv)), sv (rootH sha (ls.take (lft ls.length))), sv (([1]) ++ (rootH sha (ls.take (lft ls.length)))), lv, iv (lft ls.length : Int), (cut lv 1 (lft ls.length) ls.length (slCap lv)), sv (rootH sha (ls.drop (lft ls.length))), sv ((([1]) ++ (rootH sha (ls.take (lft ls.length)))) ++ (rootH sha (ls.drop (lft ls.length)))), undef] Z Y kr kr kr ?_ ?_ ?_
 ·intro i hi hiq
  match i, hi, hiq with
  | 0, _, _ => exact fun w Y => OpV.g (ai rfl)
  | 1, _, _ => exact fun w Y => OpV.g (ai rfl)
  | 2, _, _ => exact fun w Y => OpV.g (ai rfl)
  | 3, _, _ => exact fun w Y => OpV.g (bx (l := 0) (h := (lft ls.length)) (Y.arg hlv) rfl rfl rfl underlying45 kr (.inl ⟨rfl, rfl⟩) (.inr (by rw [show ((lft ls.length : Int) : Int) = (((lft ls.length) : Nat) : Int) from by omega] <;> rfl)) (Nat.zero_le _) (by first | (rw [List.length_map]; omega) | (simp <;> omega)))
  | 4, _, _ => exact fun w Y => bh call68 rfl (jE _ (cut lv 1 0 (lft ls.length) (slCap lv)) (ls.take (lft ls.length)) _ rfl ((Y.arg hlv).cut0 (h := (lft ls.length)) (by first | omega | (rw [List.length_reverse]; omega) | simp | (simp; omega))) (by simp only [List.length_take, List.length_drop]; omega) (fun s h => hls s (List.mem_of_mem_take h)))
  | 5, _, _ => exact fun w Y => OpV.g (bY rfl rfl (by (simp only [List.length_append, List.length_cons, List.length_nil]); omega))
  | 6, _, _ => exact fun w Y => OpV.g (ai rfl)
  | 7, _, _ => exact fun w Y => OpV.g (ai rfl)
  | 8, _, _ => exact fun w Y => OpV.g (bx (l := (lft ls.length)) (h := ls.length) (Y.arg hlv) rfl rfl rfl underlying45 kr (.inr (by rw [show ((lft ls.length : Int) : Int) = (((lft ls.length) : Nat) : Int) from by omega] <;> rfl)) (.inl ⟨rfl, by simp⟩) om sm)
  | 9, _, _ => exact fun w Y => bh call68 rfl (jE _ (cut lv 1 (lft ls.length) ls.length (slCap lv)) (ls.drop (lft ls.length)) _ rfl ((Y.arg hlv).cutd (l := (lft ls.length)) (by first | omega | (rw [List.length_reverse]; omega) | simp | (simp; omega))) (by simp only [List.length_take, List.length_drop]; omega) (fun s h => hls s (List.mem_of_mem_drop h)))
  | 10, _, _ => exact fun w Y => OpV.g (bY rfl rfl (by (simp only [List.length_append, List.length_cons, List.length_nil]); omega))
  | 11, _, h => exact absurd sm h
  | i + 12, h, _ => exact absurd h om
 ·intro i hi
  simp only [List.mem_cons, List.not_mem_nil, or_false] at hi
  subst hi
  ·intro w Y
   exact aW (E := 9) (sz := 1) rfl [[sv ((([1]) ++ (rootH sha (ls.take (lft ls.length)))) ++ (rootH sha (ls.drop (lft ls.length))))]] (fun _ => by kernel_rfl) sm rfl de
 clear Z Y
 rintro _ _ ⟨b7, rfl, -, rfl⟩ a w9 Z Y
 replace Z : Fr 42 [(29, s6), (30, lv), (31, iv (lft ls.length : Int)), (32, (cut lv 1 0 (lft ls.length) (slCap lv))), (33, sv (rootH sha (ls.take (lft ls.length)))), (34, sv (([1]) ++ (rootH sha (ls.take (lft ls.length))))), (35, lv), (36, iv (lft ls.length : Int)), (37, (cut lv 1 (lft ls.length) ls.length (slCap lv))), (38, sv (rootH sha (ls.drop (lft ls.length)))), (39, sv ((([1]) ++ (rootH sha (ls.take (lft ls.length)))) ++ (rootH sha (ls.drop (lft ls.length))))), (40, _), (0, _), (2, _), (3, _), (4, _)] [] a := Z
 replace Y : St No w0 [_, _] w9 := Y
 refine ab <| aK (k := 12) 14 [13] kr kr kr ?_
 refine aS (i := 1) (sT := 45) (inf := Tryd.t9) (z := .string (⟨#[]⟩)) (b := 0) (off := 0) (m := 0) (c := 0) rfl rfl rfl (Y.ow 0 rfl) sm underlying45 rfl rfl rfl rfl de (by simp [Value.oneCell', yv, wv, sv]) (by have hby : Tryd.t9.bytes = 16 := rfl; simp only [big, hby, List.length_append, List.length_map, List.length_reverse, List.length_cons, List.length_nil]; omega) (by have hby : Tryd.t9.bytes = 16 := rfl; simp only [big, hby, List.length_append, List.length_map, List.length_reverse, List.length_cons, List.length_nil]; omega) de Z Y fun a w10 s8 Z Y _ => wla Z rfl fun a Z => ab <| aO kr ?_
 refine hK10 _ _ ?_
 replace Z := Z.p1 2 rfl
 replace Y := Y.k1 2 rfl
 refine aw ?_
 refine ar Z results31 (ae rfl ag) ?_
 have hW := eA sha (l := ls) om
 refine ⟨s8, rfl, trivial, Y.ext, St.out (E := [own s8 9 1 ((hashL sha ls).map fun s => [sv s])]) (H := []) ?_⟩
 rw [show ((hashL sha ls).map fun s => [sv s]) = (((hashL sha ((ls.take (lft ls.length)))).map fun s => [sv s]) ++ ((hashL sha ((ls.drop (lft ls.length)))).map fun s => [sv s])) ++ ([[sv ((([1]) ++ (rootH sha (ls.take (lft ls.length)))) ++ (rootH sha (ls.drop (lft ls.length))))]]) from by rw [hW]; simp]
 exact Y.select [0] de
theorem cC (s : By) (hs : s.length ≤ 40000000) (L : Nat) :
  ∀ (n i : Nat) (lv : Value) (ls : List By) (w0 : World), ls.length = L → SlAt w0 lv 1 (ls.map fun s => [sv s]) → n ≤ 9223372036854775807 ∧ i ≤ 9223372036854775807 → ls.length ≤ 1000 → (∀ x ∈ ls, x.length = 32) → Ret Tryd.prog 33 #[iv (n : Int), iv (i : Int), sv s, lv] w0 (MemR w0 (fun v : Value => .tuple #[v, sv (wayH sha n i s ls).2]) (fun v => [own v 9 1 (((wayH sha n i s ls).1.reverse).map fun s => [sv s])]) (fun _ => True)) := by
 induction L using Nat.strongRecOn
 rename_i L ih
 intro n i lv ls w0 hL hlv hni hln hls
 have hnb := hlv.le
 rw [List.length_map] at hnb
 refine aF func33 rfl ntmps33 (lb rfl) fun a Z => ?_
 replace Z := Z.p4 0 1 2 3 rfl
 replace Y : St No w0 [] w0 := St.init w0
 refine aa fun K1 hK1 => wla Z rfl fun a Z => wla Z rfl fun a Z => ab (hK1 _ _ <| ac fun K2 hK2 => ?_)
 refine aa fun K3 hK3 => wlm Z rfl fun a Z => wlv Z (v_le rfl rfl) fun a Z => wlm Z rfl fun a Z => ?_
 rcases Bool.eq_false_or_eq_true (decide ((n : Int) ≤ 1)) with hb1 | hb1
 ·rw [hb1] at Z
  try simp only [qz] at hb1
  refine wln Z fun a Z => wln Z fun a Z => wln Z fun a Z => wlv Z (aB rfl rfl) fun a Z => ab (hK3 _ _ ?_)
  replace Z := Z.p7 0 1 2 3 8 9 23 rfl
  refine aC Z rfl ?_
  refine aa fun K4 hK4 => wlm Z rfl fun a Z => wlv Z (bY rfl rfl (by (simp only [List.length_append, List.length_cons, List.length_nil]); omega)) fun a Z => ax (E := 9) (sz := 1) rfl [[sv (([0]) ++ s)]] kr sm rfl de de Z Y ?_
  clear Z Y
  intro a w1 Z Y
  refine wlm Z rfl fun a Z => ak Z Y de call39 rfl (gz s _ om) ?_
  clear Z Y
  intro a w2 Z Y
  refine wla Z rfl fun a Z => wla Z rfl fun a Z => ab (hK4 _ _ ?_)
  replace Z := Z.p6 0 1 2 3 8 9 rfl
  refine aw ?_
  refine ar Z results33 (ae rfl (ae rfl ag)) ?_
  have hW := dB (n := n) (i := i) (s := s) (p := ls) om
  refine ⟨(.slice (some ⟨w0.hz, 0, none⟩) 1 1), by rw [hW]; rfl, trivial, Y.ext, St.out (E := [own (.slice (some ⟨w0.hz, 0, none⟩) 1 1) 9 1 (((wayH sha n i s ls).1.reverse).map fun s => [sv s])]) (H := []) ?_⟩
  rw [show (((wayH sha n i s ls).1.reverse).map fun s => [sv s]) = [[sv (([0]) ++ s)]] from by rw [hW]; simp]
  exact Y.select [0] de
 rw [hb1] at Z
 try simp only [qz] at hb1
 refine wly Z (ai rfl) fun a Z => wly Z ((aG (sT := 45) (Y.arg hlv) rfl rfl (runUnderlying45 _)).asi (m' := (ls.length : Int)) sm) fun a Z => wly Z (v_eq rfl rfl) fun a Z => wlv Z (aA rfl rfl) fun a Z => ab (hK3 _ _ ?_)
 replace Z := Z.p7 0 1 2 3 8 9 23 rfl
 refine az Z rfl (fun hc2 => ?_) (fun hc2 => ?_)
 ·rw [hc2] at Z
  try simp only [qz] at hc2
  refine aa fun K5 hK5 => wlm Z rfl fun a Z => wlv Z (bY rfl rfl (by (simp only [List.length_append, List.length_cons, List.length_nil]); omega)) fun a Z => ax (E := 9) (sz := 1) rfl [[sv (([0]) ++ s)]] kr sm rfl de de Z Y ?_
  clear Z Y
  intro a w3 Z Y
  refine wlm Z rfl fun a Z => ak Z Y de call39 rfl (gz s _ om) ?_
  clear Z Y
  intro a w4 Z Y
  refine wla Z rfl fun a Z => wla Z rfl fun a Z => ab (hK5 _ _ ?_)
  replace Z := Z.p6 0 1 2 3 8 9 rfl
  refine aw ?_
  refine ar Z results33 (ae rfl (ae rfl ag)) ?_
  have hW := dB (n := n) (i := i) (s := s) (p := ls) om
  refine ⟨(.slice (some ⟨w0.hz, 0, none⟩) 1 1), by rw [hW]; rfl, trivial, Y.ext, St.out (E := [own (.slice (some ⟨w0.hz, 0, none⟩) 1 1) 9 1 (((wayH sha n i s ls).1.reverse).map fun s => [sv s])]) (H := []) ?_⟩
  rw [show (((wayH sha n i s ls).1.reverse).map fun s => [sv s]) = [[sv (([0]) ++ s)]] from by rw [hW]; simp]
  exact Y.select [0] de
 rw [hc2] at Z
 try simp only [qz] at hc2
 have hlt := bN (n := n) om
 have hlp := bE n
 have hx32 := hls _ (aY (d := []) (show ls.length - 1 < ls.length by omega))
 refine ap <| hK2 _ _ <| aa fun K6 hK6 => wlm Z rfl fun a Z => wlm Z rfl fun a Z => wlv Z ((aG (sT := 45) (Y.arg hlv) rfl rfl (runUnderlying45 _)).asi (m' := (ls.length : Int)) sm) fun a Z => wlv Z (bo rfl rfl ⟨om, om⟩) fun a Z => wlv Z ((ah (i := (ls.length : Int) - 1) (sT := 45) (Y.arg hlv) rfl rfl (runUnderlying45 _) (sizeOf9 _) om (by rw [List.length_map]; omega)).as (v' := slAddr lv ((ls.length - 1) * 1)) (by rw [show ((ls.length : Int) - 1).toNat = (ls.length - 1) from by omega])) fun a Z => ?_
 refine wlv Z (au (u := sv (ls.getD (ls.length - 1) [])) (i := (ls.length - 1)) (j := 0) (Y.arg hlv) (by rw [List.length_map]; omega) rfl (isAgg9 _) (by simp [List.getD_eq_getElem?_getD, List.getElem?_eq_getElem (show (ls.length - 1) < ls.length by omega)])) fun a Z => wla Z rfl fun a Z => ?_
 refine ab (hK6 _ _ ?_)
 replace Z := Z.p7 0 1 2 3 8 9 10 rfl
 refine aa fun K7 hK7 => wlm Z rfl fun a Z => wlm Z rfl fun a Z => wlv Z ((aG (sT := 45) (Y.arg hlv) rfl rfl (runUnderlying45 _)).asi (m' := (ls.length : Int)) sm) fun a Z => wlv Z (bo rfl rfl ⟨om, om⟩) fun a Z => wlv Z (bx (l := 0) (h := (ls.length - 1)) (Y.arg hlv) rfl rfl rfl underlying45 kr (.inl ⟨rfl, rfl⟩) (.inr (by rw [show ((ls.length : Int) - 1 : Int) = (((ls.length - 1) : Nat) : Int) from by omega] <;> rfl)) (Nat.zero_le _) (by first | (rw [List.length_map]; omega) | (simp <;> omega))) fun a Z => wla Z rfl fun a Z => ab (hK7 _ _ ?_)
 replace Z := Z.p7 0 1 2 8 9 10 11 rfl
 refine aa fun K8 hK8 => wlm Z rfl fun a Z => ak Z Y de call67 rfl (f5 n _ om om) ?_
 clear Z Y
 intro a w5 Z Y
 refine wla Z rfl fun a Z => ab (hK8 _ _ <| ac fun K9 hK9 => ?_)
 refine aa fun K10 hK10 => wlm Z rfl fun a Z => wlm Z rfl fun a Z => wlv Z (v_lt rfl rfl) fun a Z => ab (hK10 _ _ ?_)
 refine az Z rfl (fun hc3 => ?_) (fun hc3 => ?_)
 ·rw [hc3] at Z
  try simp only [qz] at hc3
  refine aa fun K11 hK11 => wlm Z rfl fun a Z => wlm Z rfl fun a Z => wlm Z rfl fun a Z => wlm Z rfl fun a Z => aN Z Y de call33 rfl (ih (ls.take (ls.length - 1)).length (by rw [List.length_take]; omega) (lft n) i (cut lv 1 0 (ls.length - 1) (slCap lv)) (ls.take (ls.length - 1)) _ rfl ((Y.arg hlv).cut0 (h := (ls.length - 1)) (by first | omega | (rw [List.length_reverse]; omega) | simp | (simp; omega))) om (by rw [List.length_take]; omega) (fun x h => hls x (List.mem_of_mem_take h))) ?_
  clear Z Y
  intro a w6 x5 hp Z Y
  revert x5 hp Z Y; rintro v4 hp Z Y
  clear hp
  replace Y : St No w0 [_] w6 := Y
  have hr32 := ez bl (ls.take (ls.length - 1)) (lft n) i s
  have hrc := eK (ls.take (ls.length - 1)) (lft n) i s
  rw [List.length_take] at hrc
  refine wlm Z rfl fun a Z => wlv Z (aj rfl rfl) fun a Z => wlv Z (aj rfl rfl) fun a Z => wla Z rfl fun a Z => wla Z rfl fun a Z => ab (hK11 _ _ ?_)
  replace Z := Z.p10 0 1 2 8 9 10 11 12 13 14 rfl
  refine aa fun K12 hK12 => wlm Z rfl fun a Z => wlm Z rfl fun a Z => wlv Z (bY rfl rfl (by (simp only [List.length_append, List.length_cons, List.length_nil]); omega)) fun a Z => wlm Z rfl fun a Z => wlv Z (bY rfl rfl (by (simp only [List.length_append, List.length_cons, List.length_nil]); omega)) fun a Z => ax (E := 9) (sz := 1) rfl [[sv ((([1]) ++ ((wayH sha (lft n) i s (ls.take (ls.length - 1))).2)) ++ (ls.getD (ls.length - 1) []))]] kr sm rfl de de Z Y ?_
  clear Z Y
  intro a w7 Z Y
  refine aS (i := 1) (sT := 45) (inf := Tryd.t9) (z := .string (⟨#[]⟩)) (b := 0) (off := 0) (m := 0) (c := 0) rfl rfl rfl (Y.ow 0 rfl) sm underlying45 rfl rfl rfl rfl de (by simp [Value.oneCell', yv, wv, sv]) (by have hby : Tryd.t9.bytes = 16 := rfl; simp only [big, hby, List.length_append, List.length_map, List.length_reverse, List.length_cons, List.length_nil]; omega) (by have hby : Tryd.t9.bytes = 16 := rfl; simp only [big, hby, List.length_append, List.length_map, List.length_reverse, List.length_cons, List.length_nil]; omega) de Z Y fun a w8 s6 Z Y _ => wlm Z rfl fun a Z => wlm Z rfl fun a Z => ak Z Y de call69 rfl (gw ((wayH sha (lft n) i s (ls.take (ls.length - 1))).2) (ls.getD (ls.length - 1) []) _ (by first | omega | (rw [bD bl]; decide)) (by first | omega | (rw [bD bl]; decide))) ?_
  clear Z Y
  intro a w9 Z Y
  refine wla Z rfl fun a Z => wla Z rfl fun a Z => ab (hK12 _ _ ?_)
  replace Z := Z.p8 0 1 2 10 11 12 8 9 rfl
  replace Y := Y.k1 2 rfl
  refine aw ?_
  refine ar Z results33 (ae rfl (ae rfl ag)) ?_
  have hW := fA (n := n) (i := i) (s := s) (p := ls) om om om
  refine ⟨s6, by rw [hW]; rfl, trivial, Y.ext, St.out (E := [own s6 9 1 (((wayH sha n i s ls).1.reverse).map fun s => [sv s])]) (H := []) ?_⟩
  rw [show (((wayH sha n i s ls).1.reverse).map fun s => [sv s]) = (((wayH sha (lft n) i s (ls.take (ls.length - 1))).1.reverse).map fun s => [sv s]) ++ ([[sv ((([1]) ++ ((wayH sha (lft n) i s (ls.take (ls.length - 1))).2)) ++ (ls.getD (ls.length - 1) []))]]) from by rw [hW]; simp]
  exact Y.select [0] de
 rw [hc3] at Z
 try simp only [qz] at hc3
 refine ap <| hK9 _ _ <| aa fun K13 hK13 => wlm Z rfl fun a Z => wlm Z rfl fun a Z => wlv Z ((bo rfl rfl ⟨om, om⟩).asi (m' := ((n - lft n : Nat) : Int)) om) fun a Z => wlm Z rfl fun a Z => wlm Z rfl fun a Z => wlv Z ((bo rfl rfl ⟨om, om⟩).asi (m' := ((i - lft n : Nat) : Int)) om) fun a Z => wlm Z rfl fun a Z => wlm Z rfl fun a Z => aN Z Y de call33 rfl (ih (ls.take (ls.length - 1)).length (by rw [List.length_take]; omega) (n - lft n) (i - lft n) (cut lv 1 0 (ls.length - 1) (slCap lv)) (ls.take (ls.length - 1)) _ rfl ((Y.arg hlv).cut0 (h := (ls.length - 1)) (by first | omega | (rw [List.length_reverse]; omega) | simp | (simp; omega))) om (by rw [List.length_take]; omega) (fun x h => hls x (List.mem_of_mem_take h))) ?_
 clear Z Y
 intro a w10 x8 hp Z Y
 revert x8 hp Z Y; rintro v7 hp Z Y
 clear hp
 replace Y : St No w0 [_] w10 := Y
 have hr32 := ez bl (ls.take (ls.length - 1)) (n - lft n) (i - lft n) s
 have hrc := eK (ls.take (ls.length - 1)) (n - lft n) (i - lft n) s
 rw [List.length_take] at hrc
 refine wlm Z rfl fun a Z => wlv Z (aj rfl rfl) fun a Z => wlv Z (aj rfl rfl) fun a Z => wla Z rfl fun a Z => wla Z rfl fun a Z => ab (hK13 _ _ ?_)
 replace Z := Z.p5 8 9 10 15 16 rfl
 refine aa fun K14 hK14 => wlm Z rfl fun a Z => wlm Z rfl fun a Z => wlv Z (bY rfl rfl (by (simp only [List.length_append, List.length_cons, List.length_nil]); omega)) fun a Z => wlm Z rfl fun a Z => wlv Z (bY rfl rfl (by (simp only [List.length_append, List.length_cons, List.length_nil]); omega)) fun a Z => ax (E := 9) (sz := 1) rfl [[sv ((([1]) ++ (ls.getD (ls.length - 1) [])) ++ ((wayH sha (n - lft n) (i - lft n) s (ls.take (ls.length - 1))).2))]] kr sm rfl de de Z Y ?_
 clear Z Y
 intro a w11 Z Y
 refine aS (i := 1) (sT := 45) (inf := Tryd.t9) (z := .string (⟨#[]⟩)) (b := 0) (off := 0) (m := 0) (c := 0) rfl rfl rfl (Y.ow 0 rfl) sm underlying45 rfl rfl rfl rfl de (by simp [Value.oneCell', yv, wv, sv]) (by have hby : Tryd.t9.bytes = 16 := rfl; simp only [big, hby, List.length_append, List.length_map, List.length_reverse, List.length_cons, List.length_nil]; omega) (by have hby : Tryd.t9.bytes = 16 := rfl; simp only [big, hby, List.length_append, List.length_map, List.length_reverse, List.length_cons, List.length_nil]; omega) de Z Y fun a w12 s9 Z Y _ => wlm Z rfl fun a Z => wlm Z rfl fun a Z => ak Z Y de call69 rfl (gw (ls.getD (ls.length - 1) []) ((wayH sha (n - lft n) (i - lft n) s (ls.take (ls.length - 1))).2) _ (by first | omega | (rw [bD bl]; decide)) (by first | omega | (rw [bD bl]; decide))) ?_
 clear Z Y
 intro a w13 Z Y
 refine wla Z rfl fun a Z => wla Z rfl fun a Z => ab (hK14 _ _ ?_)
 replace Z := Z.p2 8 9 rfl
 replace Y := Y.k1 2 rfl
 refine aw ?_
 refine ar Z results33 (ae rfl (ae rfl ag)) ?_
 have hW := eI (n := n) (i := i) (s := s) (p := ls) om om om
 refine ⟨s9, by rw [hW]; rfl, trivial, Y.ext, St.out (E := [own s9 9 1 (((wayH sha n i s ls).1.reverse).map fun s => [sv s])]) (H := []) ?_⟩
 rw [show (((wayH sha n i s ls).1.reverse).map fun s => [sv s]) = (((wayH sha (n - lft n) (i - lft n) s (ls.take (ls.length - 1))).1.reverse).map fun s => [sv s]) ++ ([[sv ((([1]) ++ (ls.getD (ls.length - 1) [])) ++ ((wayH sha (n - lft n) (i - lft n) s (ls.take (ls.length - 1))).2))]]) from by rw [hW]; simp]
 exact Y.select [0] de
def colxB (s t : By) : Bool := !decide (s = t) && decide (sha s = sha t)
def colxH (xs ys : List By) : Bool := xs.any fun s => ys.any fun t => colxB s t
theorem ml {xs ys : List By} {i j : Nat} (hi : i < xs.length) (hj : j < ys.length) (h : colxB (xs.getD i []) (ys.getD j []) = true) : colxH xs ys = true :=
 List.any_eq_true.2 ⟨_, aY hi, List.any_eq_true.2 ⟨_, aY hj, h⟩⟩
theorem kV {xs ys : List By} (h : ∀ i, i < xs.length → ∀ j, j < ys.length → colxB (xs.getD i []) (ys.getD j []) = false) : colxH xs ys = false := by
 rw [Bool.eq_false_iff]
 intro hc
 obtain ⟨s, hs, h2⟩ := List.any_eq_true.1 hc
 obtain ⟨t, ht, h3⟩ := List.any_eq_true.1 h2
 obtain ⟨i, hi, rfl⟩ := List.getElem_of_mem hs
 obtain ⟨j, hj, rfl⟩ := List.getElem_of_mem ht
 have := h i hi j hj
 rw [List.getD_eq_getElem?_getD, List.getD_eq_getElem?_getD, List.getElem?_eq_getElem hi, List.getElem?_eq_getElem hj] at this
 simp only [Option.getD_some] at this
 rw [this] at h3; cases h3
theorem oT {ys : List By} {j : Nat} (h : j < ys.length) : (ys.map sha).getD j [] = sha (ys.getD j []) := by
 rw [List.getD_eq_getElem?_getD, List.getElem?_map, List.getElem?_eq_getElem h, List.getD_eq_getElem?_getD, List.getElem?_eq_getElem h]; rfl
theorem jk (av bv : Value) (xs ys : List By) (w0 : World) (hav : SlAt w0 av 1 ((xs).map fun s => [sv s])) (hbv : SlAt w0 bv 1 ((ys).map fun s => [sv s])) (hxs : ∀ s ∈ xs, s.length ≤ 100000000) (hys : ∀ s ∈ ys, s.length ≤ 100000000) (hyn : ys.length ≤ 1000) :
  Ret Tryd.prog 40 #[av, bv] w0 fun v w => v = .bool (colxH xs ys) ∧ Ext No w0 w := by
 have hxb := hav.2.1
 simp only [List.length_map, big] at hxb
 refine aF func40 rfl ntmps40 (lb rfl) fun a Z => ?_
 replace Z := Z.p2 0 1 rfl
 replace Y : St No w0 [] w0 := St.init w0
 refine aa fun K1 hK1 => wla Z rfl fun a Z => ab (hK1 _ _ <| aa fun K2 hK2 => ?_)
 refine wla Z rfl fun a Z => ab (hK2 _ _ <| ac fun K3 hK3 => ?_)
 refine aa fun K4 hK4 => wla Z rfl fun a Z => ab (hK4 _ _ <| am ?_)
 replace Y : St No w0 [own (.slice none 0 0) 9 1 (((ys.take 0).map sha).map fun s => [sv s])] w0 := Y.nil_own
 refine aV (fun m a w => ∃ (k : Nat) (vs : Value), m = ys.length - k ∧ (k ≤ ys.length) ∧ Fr 58 [(0, av), (1, bv), (4, .bool false), (5, vs), (6, iv (k : Int))] [] a ∧ St No w0 [own vs 9 1 (((ys.take k).map sha).map fun s => [sv s])] w) _ ⟨0, .slice none 0 0, rfl, Nat.zero_le _, Z.pick [0, 1, 4, 5, 6], Y.select [0] de⟩ ?_
 rintro _ a w1 ⟨k, vs, rfl, hk, Z, Y⟩
 refine ac fun K5 hK5 => aa fun K6 hK6 => wlm Z rfl fun a Z => wlm Z rfl fun a Z => wlv Z ((aG (sT := 45) (Y.arg hbv) rfl rfl (runUnderlying45 _)).asi (m' := (ys.length : Int)) (by rw [List.length_map])) fun a Z => wlv Z (v_lt rfl rfl) fun a Z => ab (hK6 _ _ ?_)
 refine az Z rfl (fun hc1 => ?_) (fun hc1 => ?_)
 ·rw [hc1] at Z
  try simp only [qz, Bool.and_eq_true, Bool.or_eq_true, Bool.and_eq_false_iff, Bool.or_eq_false_iff] at hc1
  refine ap <| hK5 _ _ <| ac fun K7 hK7 => am <| ao <| wlm Z rfl fun a Z => wlm Z rfl fun a Z => wlm Z rfl fun a Z => wlv Z ((ah (i := (k : Int)) (sT := 45) (Y.arg hbv) rfl rfl (runUnderlying45 _) (sizeOf9 _) om (by first | (rw [List.length_map]; omega) | (rw [List.length_map, List.length_map]; omega))).as (v' := slAddr bv (k * 1)) rfl) fun a Z => wlv Z (au (u := sv (ys.getD k [])) (i := k) (j := 0) (Y.arg hbv) (by first | (rw [List.length_map]; omega) | (rw [List.length_map, List.length_map]; omega)) rfl (isAgg9 _) (by rw [bc []]; rfl)) fun a Z => ak Z Y de call70 rfl (dM (ys.getD k []) _ (by first | exact hxs _ (aY om) | exact hys _ (aY om))) ?_
  clear Z Y
  intro a w2 Z Y
  refine ax (E := 9) (sz := 1) rfl [[sv (sha (ys.getD k []))]] kr sm rfl de de Z Y ?_
  clear Z Y
  intro a w3 Z Y
  refine aS (i := 1) (sT := 45) (inf := Tryd.t9) (z := .string (⟨#[]⟩)) (b := 0) (off := 0) (m := 0) (c := 0) rfl rfl rfl (Y.ow 0 rfl) sm underlying45 rfl rfl rfl rfl de (by simp [Value.oneCell', yv, wv, sv]) (by have hby : Tryd.t9.bytes = 16 := rfl; simp [big, hby] <;> omega) (by have hby : Tryd.t9.bytes = 16 := rfl; simp [big, hby] <;> omega) de Z Y fun a w4 s2 Z Y _ => ?_
  rw [show (((ys.take k).map sha).map fun s => [sv s]) ++ ([[sv (sha (ys.getD k []))]]) = (((ys.take (k + 1)).map sha).map fun s => [sv s]) from by rw [bV [] om]; simp] at Y
  refine wla Z rfl fun a Z => ab <| hK7 _ _ ?_
  replace Z := Z.p5 0 1 4 6 5 rfl
  replace Y := Y.k1 2 rfl
  refine ao <| wlm Z rfl fun a Z => wlv Z (aT rfl rfl ⟨om, om⟩) fun a Z => wla Z rfl fun a Z => ab ?_
  refine ⟨_, ?_, k + 1, s2, rfl, om, Z.pick [0, 1, 4, 5, 6], Y.select [0] de⟩
  omega
 rw [hc1] at Z
 try simp only [qz, Bool.and_eq_true, Bool.or_eq_true, Bool.and_eq_false_iff, Bool.or_eq_false_iff] at hc1
 obtain rfl : k = ys.length := by omega
 rw [List.take_length] at Y
 refine aE <| hK3 _ _ <| ac fun K8 hK8 => aa fun K9 hK9 => wla Z rfl fun a Z => ab (hK9 _ _ <| am ?_)
 refine aV (fun m a w => ∃ (x : Nat), m = xs.length - x ∧ (x ≤ xs.length) ∧ (∀ i, i < x → ∀ j, j < ys.length → colxB (xs.getD i []) (ys.getD j []) = false) ∧ Fr 58 [(0, av), (1, bv), (5, vs), (7, iv (x : Int))] [] a ∧ St No w0 [own vs 9 1 ((ys.map sha).map fun s => [sv s])] w) _ ⟨0, rfl, Nat.zero_le _, (fun i h => absurd h (Nat.not_lt_zero _)), Z.pick [0, 1, 5, 7], Y.select [0] de⟩ ?_
 rintro _ a w5 ⟨x, rfl, hx, hno, Z, Y⟩
 refine ac fun K10 hK10 => aa fun K11 hK11 => wlm Z rfl fun a Z => wlm Z rfl fun a Z => wlv Z ((aG (sT := 45) (Y.arg hav) rfl rfl (runUnderlying45 _)).asi (m' := (xs.length : Int)) (by rw [List.length_map])) fun a Z => wlv Z (v_lt rfl rfl) fun a Z => ab (hK11 _ _ ?_)
 refine az Z rfl (fun hc3 => ?_) (fun hc3 => ?_)
 ·rw [hc3] at Z
  try simp only [qz, Bool.and_eq_true, Bool.or_eq_true, Bool.and_eq_false_iff, Bool.or_eq_false_iff] at hc3
  have hxl : x < xs.length := by omega
  refine ap <| hK10 _ _ <| ac fun K12 hK12 => am <| aa fun K13 hK13 => wlm Z rfl fun a Z => wlm Z rfl fun a Z => wlv Z ((ah (i := (x : Int)) (sT := 45) (Y.arg hav) rfl rfl (runUnderlying45 _) (sizeOf9 _) om (by first | (rw [List.length_map]; omega) | (rw [List.length_map, List.length_map]; omega))).as (v' := slAddr av (x * 1)) rfl) fun a Z => wlv Z (au (u := sv (xs.getD x [])) (i := x) (j := 0) (Y.arg hav) (by first | (rw [List.length_map]; omega) | (rw [List.length_map, List.length_map]; omega)) rfl (isAgg9 _) (by rw [bc []]; rfl)) fun a Z => ak Z Y de call70 rfl (dM (xs.getD x []) _ (by first | exact hxs _ (aY om) | exact hys _ (aY om))) ?_
  clear Z Y
  intro a w6 Z Y
  refine wla Z rfl fun a Z => ab (hK13 _ _ ?_)
  replace Z := Z.p5 0 1 5 7 8 rfl
  refine aa fun K14 hK14 => wla Z rfl fun a Z => ab (hK14 _ _ <| am ?_)
  refine aV (fun m a w => ∃ (y : Nat), m = ys.length - y ∧ (y ≤ ys.length) ∧ (∀ j, j < y → colxB (xs.getD x []) (ys.getD j []) = false) ∧ Fr 58 [(0, av), (1, bv), (5, vs), (7, iv (x : Int)), (8, sv (sha (xs.getD x []))), (9, iv (y : Int))] [] a ∧ St No w0 [own vs 9 1 ((ys.map sha).map fun s => [sv s])] w) _ ⟨0, rfl, Nat.zero_le _, (fun i h => absurd h (Nat.not_lt_zero _)), Z.pick [0, 1, 5, 7, 8, 9], Y.select [0] de⟩ ?_
  rintro _ a w7 ⟨y, rfl, hy, hno2, Z, Y⟩
  refine ac fun K15 hK15 => aa fun K16 hK16 => wlm Z rfl fun a Z => wlm Z rfl fun a Z => wlv Z ((aG (sT := 45) (Y.arg hbv) rfl rfl (runUnderlying45 _)).asi (m' := (ys.length : Int)) (by rw [List.length_map])) fun a Z => wlv Z (v_lt rfl rfl) fun a Z => ab (hK16 _ _ ?_)
  refine az Z rfl (fun hc4 => ?_) (fun hc4 => ?_)
  ·rw [hc4] at Z
   try simp only [qz, Bool.and_eq_true, Bool.or_eq_true, Bool.and_eq_false_iff, Bool.or_eq_false_iff] at hc4
   have hyl : y < ys.length := by omega
   refine ap <| hK15 _ _ <| ac fun K17 hK17 => am <| ac fun K18 hK18 => aI kr (aL kr fun w8 hxz => ?_)
   replace Y := Y.grow hxz
   refine aP (k := 0) 8 [3, 7] Z kr kr kr rfx ?_
   replace Z := Z.p10 0 1 5 7 8 9 35 36 37 38 rfl
   refine ay [] (fun i => match i with | _ => fun _ _ => False) 8 [[], [], [0, 1], [2], [], [], [4, 5], [6]] [av, iv (x : Int), slAddr av (x * 1), sv (xs.getD x []), bv, iv (y : Int), slAddr bv (y * 1), sv (ys.getD y [])] Z Y kr kr kr ?_ ?_ ?_
   ·intro i hi hiq
    match i, hi, hiq with
    | 0, _, _ => exact fun w Y => OpV.g (ai rfl)
    | 1, _, _ => exact fun w Y => OpV.g (ai rfl)
    | 2, _, _ => exact fun w Y => OpV.g ((ah (i := (x : Int)) (sT := 45) (Y.arg hav) rfl rfl (runUnderlying45 _) (sizeOf9 _) om (by first | (rw [List.length_map]; omega) | (rw [List.length_map, List.length_map]; omega))).as (v' := slAddr av (x * 1)) rfl)
    | 3, _, _ => exact fun w Y => OpV.g (au (u := sv (xs.getD x [])) (i := x) (j := 0) (Y.arg hav) (by first | (rw [List.length_map]; omega) | (rw [List.length_map, List.length_map]; omega)) rfl (isAgg9 _) (by rw [bc []]; rfl))
    | 4, _, _ => exact fun w Y => OpV.g (ai rfl)
    | 5, _, _ => exact fun w Y => OpV.g (ai rfl)
    | 6, _, _ => exact fun w Y => OpV.g ((ah (i := (y : Int)) (sT := 45) (Y.arg hbv) rfl rfl (runUnderlying45 _) (sizeOf9 _) om (by first | (rw [List.length_map]; omega) | (rw [List.length_map, List.length_map]; omega))).as (v' := slAddr bv (y * 1)) rfl)
    | 7, _, _ => exact fun w Y => OpV.g (au (u := sv (ys.getD y [])) (i := y) (j := 0) (Y.arg hbv) (by first | (rw [List.length_map]; omega) | (rw [List.length_map, List.length_map]; omega)) rfl (isAgg9 _) (by rw [bc []]; rfl))
   ·intro i hi
    exact absurd hi sm
   clear Z Y
   intro  a w9 Z Y
   replace Z : Fr 58 [(41, av), (42, iv (x : Int)), (43, slAddr av (x * 1)), (44, sv (xs.getD x [])), (45, bv), (46, iv (y : Int)), (47, slAddr bv (y * 1)), (48, sv (ys.getD y [])), (0, _), (1, _), (5, _), (7, _), (8, _), (9, _), (35, _), (36, _), (37, _), (38, _)] [] a := Z
   refine ab <| aK (k := 8) 10 [9] kr kr kr ?_
   refine wlv Z (v_sne rfl rfl) fun a Z => wlm Z rfl fun a Z => ab ?_
   rcases Bool.eq_false_or_eq_true (!decide (xs.getD x [] = ys.getD y [])) with hb5 | hb5
   ·rw [hb5] at Z
    try simp only [qz] at hb5
    refine aP (k := 10) 15 [10, 14] Z kr kr kr rfx ?_
    replace Z := Z.p20 0 1 5 7 8 9 35 36 37 38 41 42 43 44 45 46 47 48 49 50 rfl
    refine ay [] (fun i => match i with | _ => fun _ _ => False) 5 [[], [], [], [1, 2], [3]] [sv (sha (xs.getD x [])), vs, iv (y : Int), slAddr vs (y * 1), sv (sha (ys.getD y []))] Z Y kr kr kr ?_ ?_ ?_
    ·intro i hi hiq
     match i, hi, hiq with
     | 0, _, _ => exact fun w Y => OpV.g (ai rfl)
     | 1, _, _ => exact fun w Y => OpV.g (ai rfl)
     | 2, _, _ => exact fun w Y => OpV.g (ai rfl)
     | 3, _, _ => exact fun w Y => OpV.g ((ah (i := (y : Int)) (sT := 45) (Y.ow 0 rfl) rfl rfl (runUnderlying45 _) (sizeOf9 _) om (by first | (rw [List.length_map]; omega) | (rw [List.length_map, List.length_map]; omega))).as (v' := slAddr vs (y * 1)) rfl)
     | 4, _, _ => exact fun w Y => OpV.g (au (u := sv (sha (ys.getD y []))) (i := y) (j := 0) (Y.ow 0 rfl) (by first | (rw [List.length_map]; omega) | (rw [List.length_map, List.length_map]; omega)) rfl (isAgg9 _) (by rw [bc [], oT om]; rfl))
    ·intro i hi
     exact absurd hi sm
    clear Z Y
    intro  a w10 Z Y
    replace Z : Fr 58 [(51, sv (sha (xs.getD x []))), (52, vs), (53, iv (y : Int)), (54, slAddr vs (y * 1)), (55, sv (sha (ys.getD y []))), (0, _), (1, _), (5, _), (7, _), (8, _), (9, _), (35, _), (36, _), (37, _), (38, _), (41, _), (42, _), (43, _), (44, _), (45, _), (46, _), (47, _), (48, _), (49, _), (50, _)] [] a := Z
    refine ab <| aK (k := 15) 17 [16] kr kr kr ?_
    refine wly Z (el rfl rfl) fun a Z => wlv Z (aB rfl rfl) fun a Z => ab <| aO kr ?_
    refine hK18 _ _ ?_
    replace Z := Z.p7 0 1 5 7 8 9 57 rfl
    refine az Z rfl (fun hc6 => ?_) (fun hc6 => ?_)
    ·rw [hc6] at Z
     try simp only [qz, Bool.and_eq_true, Bool.or_eq_true, Bool.and_eq_false_iff, Bool.or_eq_false_iff] at hc6
     refine aa fun K19 hK19 => wla Z rfl fun a Z => ab (hK19 _ _ <| aw ?_)
     refine ar Z results40 (ae rfl ag) ?_
     exact ⟨by simp only [retv]; congr 1; exact (ml hxl hyl (by unfold colxB; simp [-List.getD_eq_getElem?_getD, hb5, hc6])).symm, Y.ext⟩
    rw [hc6] at Z
    try simp only [qz, Bool.and_eq_true, Bool.or_eq_true, Bool.and_eq_false_iff, Bool.or_eq_false_iff] at hc6
    refine ap <| hK17 _ _ <| ao <| wlm Z rfl fun a Z => wlv Z (aT rfl rfl ⟨om, om⟩) fun a Z => wla Z rfl fun a Z => ab ?_
    refine ⟨_, ?_, y + 1, rfl, om, (fun j h => by rcases Nat.lt_succ_iff_lt_or_eq.1 h with h | rfl; exact hno2 j h; unfold colxB; simp [-List.getD_eq_getElem?_getD, hc6]), Z.pick [0, 1, 5, 7, 8, 9], Y.select [0] de⟩
    omega
   rw [hb5] at Z
   try simp only [qz] at hb5
   replace Z : Fr 58 [(0, av), (1, bv), (5, vs), (7, iv (x : Int)), (8, sv (sha (xs.getD x []))), (9, iv (y : Int)), (35, iv (y : Int)), (36, bv), (37, iv (ys.length : Int)), (38, .bool true), (41, av), (42, iv (x : Int)), (43, slAddr av (x * 1)), (44, sv (xs.getD x [])), (45, bv), (46, iv (y : Int)), (47, slAddr bv (y * 1)), (48, sv (ys.getD y [])), (49, .bool false), (50, .bool false)] [] a := Z.pick [0, 1, 5, 7, 8, 9, 35, 36, 37, 38, 41, 42, 43, 44, 45, 46, 47, 48, 49, 50]
   refine co (k := 10) 15 [10, 14] Z kr kr kr rfx fun a Z => ?_
   replace Z : Fr 58 [(51, undef), (52, undef), (53, undef), (54, undef), (55, undef), (0, av), (1, bv), (5, vs), (7, iv (x : Int)), (8, sv (sha (xs.getD x []))), (9, iv (y : Int)), (35, iv (y : Int)), (36, bv), (37, iv (ys.length : Int)), (38, .bool true), (41, av), (42, iv (x : Int)), (43, slAddr av (x * 1)), (44, sv (xs.getD x [])), (45, bv), (46, iv (y : Int)), (47, slAddr bv (y * 1)), (48, sv (ys.getD y [])), (49, .bool false), (50, .bool false)] [] a := Z
   refine aK (k := 15) 17 [16] kr kr kr ?_
   refine wln Z fun a Z => wlv Z (aA rfl rfl) fun a Z => ab <| aO kr ?_
   refine hK18 _ _ ?_
   replace Z := Z.p7 0 1 5 7 8 9 57 rfl
   refine aH Z rfl ?_
   refine ap <| hK17 _ _ <| ao <| wlm Z rfl fun a Z => wlv Z (aT rfl rfl ⟨om, om⟩) fun a Z => wla Z rfl fun a Z => ab ?_
   refine ⟨_, ?_, y + 1, rfl, om, (fun j h => by rcases Nat.lt_succ_iff_lt_or_eq.1 h with h | rfl; exact hno2 j h; unfold colxB; simp [-List.getD_eq_getElem?_getD, hb5]), Z.pick [0, 1, 5, 7, 8, 9], Y.select [0] de⟩
   omega
  rw [hc4] at Z
  try simp only [qz, Bool.and_eq_true, Bool.or_eq_true, Bool.and_eq_false_iff, Bool.or_eq_false_iff] at hc4
  refine aE <| hK12 _ _ <| ao <| wlm Z rfl fun a Z => wlv Z (aT rfl rfl ⟨om, om⟩) fun a Z => wla Z rfl fun a Z => ab ?_
  refine ⟨_, ?_, x + 1, rfl, om, (fun i h => by rcases Nat.lt_succ_iff_lt_or_eq.1 h with h | rfl; exact hno i h; exact fun j hj => hno2 j om), Z.pick [0, 1, 5, 7], Y.select [0] de⟩
  omega
 rw [hc3] at Z
 try simp only [qz, Bool.and_eq_true, Bool.or_eq_true, Bool.and_eq_false_iff, Bool.or_eq_false_iff] at hc3
 refine aE <| hK8 _ _ <| aa fun K20 hK20 => wla Z rfl fun a Z => ab (hK20 _ _ ?_)
 replace Z := Z.p1 4 rfl
 refine aw ?_
 refine ar Z results40 (ae rfl ag) ?_
 exact ⟨by simp only [retv]; congr 1; exact (kV fun i h => hno i om).symm, Y.ext⟩
def outB (l : List By) : Bool := (l.any fun s => decide (sha s = zero32)) || colxH l l
theorem nh {l : List By} {k : Nat} (hk : k < l.length) (h : sha (l.getD k []) = zero32) : outB l = true := by
 unfold outB; rw [List.any_eq_true.2 ⟨_, aY hk, decide_eq_true h⟩]; rfl
theorem oU {l : List By} (h : ∀ i, i < l.length → ¬ sha (l.getD i []) = zero32) : outB l = colxH l l := by
 unfold outB
 have : (l.any fun s => decide (sha s = zero32)) = false := by
  rw [Bool.eq_false_iff]
  intro hc
  obtain ⟨s, hs, h2⟩ := List.any_eq_true.1 hc
  obtain ⟨i, hi, rfl⟩ := List.getElem_of_mem hs
  have := h i hi
  rw [List.getD_eq_getElem?_getD, List.getElem?_eq_getElem hi] at this
  exact this (of_decide_eq_true h2)
 rw [this]; rfl
theorem nt {a b : List By} (h : Two sha a b) : colxH a b = true := by
 obtain ⟨x, hx, y, hy, h1, h2⟩ := h
 exact List.any_eq_true.2 ⟨x, hx, List.any_eq_true.2 ⟨y, hy, by unfold colxB; rw [decide_eq_false h1, decide_eq_true h2]; rfl⟩⟩
theorem oO {a l : List By} {b : List By} (h : Two sha a b) (h1 : ∀ x ∈ a, x ∈ l) (h2 : ∀ x ∈ b, x ∈ l) : outB l = true := by
 unfold outB
 rw [nt (h.mono h1 h2), Bool.or_true]
theorem cA (lv : Value) (ls : List By) (w0 : World) (hlv : SlAt w0 lv 1 (ls.map fun s => [sv s])) (hls : ∀ s ∈ ls, s.length ≤ 100000000) (hln : ls.length ≤ 1000) :
  Ret Tryd.prog 34 #[lv] w0 fun v w => v = .bool (outB ls) ∧ Ext No w0 w := by
 have hxb := hlv.2.1
 simp only [List.length_map, big] at hxb
 refine aF func34 rfl ntmps34 (lb rfl) fun a Z => ?_
 replace Z := Z.p1 0 rfl
 replace Y : St No w0 [] w0 := St.init w0
 refine aa fun K1 hK1 => wla Z rfl fun a Z => ab (hK1 _ _ <| ac fun K2 hK2 => ?_)
 refine aa fun K3 hK3 => wla Z rfl fun a Z => ab (hK3 _ _ <| am ?_)
 refine aV (fun m a w => ∃ (k : Nat), m = ls.length - k ∧ (k ≤ ls.length) ∧ (∀ i, i < k → ¬ sha (ls.getD i []) = zero32) ∧ Fr 21 [(0, lv), (3, iv (k : Int))] [] a ∧ St No w0 [] w) _ ⟨0, rfl, Nat.zero_le _, (fun i h => absurd h (Nat.not_lt_zero _)), Z.pick [0, 3], Y.select [] de⟩ ?_
 rintro _ a w1 ⟨k, rfl, hk, hno, Z, Y⟩
 refine ac fun K4 hK4 => aa fun K5 hK5 => wlm Z rfl fun a Z => wlm Z rfl fun a Z => wlv Z ((aG (sT := 45) (Y.arg hlv) rfl rfl (runUnderlying45 _)).asi (m' := (ls.length : Int)) sm) fun a Z => wlv Z (v_lt rfl rfl) fun a Z => ab (hK5 _ _ ?_)
 refine az Z rfl (fun hc1 => ?_) (fun hc1 => ?_)
 ·rw [hc1] at Z
  try simp only [qz] at hc1
  have hkx : k < ls.length := by omega
  refine ap <| hK4 _ _ <| ac fun K6 hK6 => am <| ac fun K7 hK7 => aI kr (aL kr fun w2 hxz => ?_)
  replace Y := Y.grow hxz
  refine aP (k := 0) 7 [4, 6] Z kr kr kr rfx ?_
  replace Z := Z.p6 0 3 4 5 6 7 rfl
  refine ay [5] (fun i => match i with | 5 => pm (fun b : Nat => .slice (some ⟨b, 0, none⟩) 32 32) (fun b => [own (.slice (some ⟨b, 0, none⟩) 32 32) 5 1 ((List.replicate 32 (0 : UInt8)).map fun b => [yv b])]) (fun _ => True) | _ => fun _ _ => False) 7 [[], [], [0, 1], [2], [3], [], [5]] [lv, iv (k : Int), slAddr lv (k * 1), sv (ls.getD k []), sv (sha (ls.getD k [])), undef, sv (List.replicate 32 (0 : UInt8))] Z Y kr kr kr ?_ ?_ ?_
  ·intro i hi hiq
   match i, hi, hiq with
   | 0, _, _ => exact fun w Y => OpV.g (ai rfl)
   | 1, _, _ => exact fun w Y => OpV.g (ai rfl)
   | 2, _, _ => exact fun w Y => OpV.g ((ah (i := (k : Int)) (sT := 45) (Y.arg hlv) rfl rfl (runUnderlying45 _) (sizeOf9 _) om (by rw [List.length_map]; omega)).as (v' := slAddr lv (k * 1)) rfl)
   | 3, _, _ => exact fun w Y => OpV.g (au (u := sv (ls.getD k [])) (i := k) (j := 0) (Y.arg hlv) (by rw [List.length_map]; omega) rfl (isAgg9 _) (by simp [List.getD_eq_getElem?_getD, List.getElem?_eq_getElem (show k < ls.length by omega)]))
   | 4, _, _ => exact fun w Y => bh call70 rfl (dM (ls.getD k []) _ (hls _ (aY hkx)))
   | 5, _, h => exact absurd sm h
   | 6, _, _ =>
    rintro _ _ ⟨b2, rfl, -, rfl⟩
    intro w Y
    exact OpV.g (dk (Y.ow 0 rfl) rfl underlying71 underlying5 underlying9)
  ·intro i hi
   simp only [List.mem_cons, List.not_mem_nil, or_false] at hi
   subst hi
   ·intro w Y
    exact jP (n := 32) (E := 5) (sz := 1) rfl rfl ((List.replicate 32 (0 : UInt8)).map fun b => [yv b]) (fun _ => by kernel_rfl) (by intro e he; first | (simp at he; simp [he]; done) | (obtain ⟨_, _, rfl⟩ := List.mem_map.1 he; rfl)) sm de
  clear Z Y
  rintro _ _ ⟨b2, rfl, -, rfl⟩ a w3 Z Y
  replace Z : Fr 21 [(10, lv), (11, iv (k : Int)), (12, slAddr lv (k * 1)), (13, sv (ls.getD k [])), (14, sv (sha (ls.getD k []))), (15, _), (16, sv (List.replicate 32 (0 : UInt8))), (0, _), (3, _), (4, _), (5, _), (6, _), (7, _)] [] a := Z
  replace Y : St No w0 [_] w3 := Y
  refine ab <| aK (k := 7) 8 [7] kr kr kr ?_
  refine wlv Z (el rfl rfl) fun a Z => ab <| aO kr ?_
  refine hK7 _ _ ?_
  replace Z := Z.p3 0 3 17 rfl
  replace Y : St No w0 [] w3 := Y.mask [false]
  refine az Z rfl (fun hc3 => ?_) (fun hc3 => ?_)
  ·rw [hc3] at Z
   try simp only [qz] at hc3
   refine aa fun K8 hK8 => wla Z rfl fun a Z => ab (hK8 _ _ <| aw ?_)
   refine ar Z results34 (ae rfl ag) ?_
   exact ⟨by simp only [retv]; rw [nh hkx hc3]; try rfl, Y.ext⟩
  rw [hc3] at Z
  try simp only [qz] at hc3
  refine ap <| hK6 _ _ <| ao <| wlm Z rfl fun a Z => wlv Z (aT rfl rfl ⟨om, om⟩) fun a Z => wla Z rfl fun a Z => ab ?_
  refine ⟨_, ?_, k + 1, rfl, om, (fun j h => by rcases Nat.lt_succ_iff_lt_or_eq.1 h with h | rfl; exact hno j h; exact hc3), Z.pick [0, 3], Y.select [] de⟩
  omega
 rw [hc1] at Z
 try simp only [qz] at hc1
 have hke : k = ls.length := by omega
 refine aE <| hK2 _ _ <| aa fun K9 hK9 => wlm Z rfl fun a Z => wlm Z rfl fun a Z => ak Z Y de call40 rfl (jk lv lv ls ls _ (Y.arg hlv) (Y.arg hlv) hls hls hln) ?_
 clear Z Y
 intro a w4 Z Y
 refine wla Z rfl fun a Z => ab (hK9 _ _ ?_)
 replace Z := Z.p1 2 rfl
 refine aw ?_
 refine ar Z results34 (ae rfl ag) ?_
 exact ⟨by simp only [retv]; rw [oU (fun i h => hno i om)]; try rfl, Y.ext⟩
def headB (o : Int) (l : List Rec) : By := if logOk o l = true then rootH sha (codesR l) else []
def headE (o : Int) (l : List Rec) : Int := if logOk o l = true then 0 else 110
theorem ef {o : Int} {l : List Rec} : headE o l = 0 ↔ logOk o l = true := by
 unfold headE; split <;> simp_all
theorem ek {o : Int} {l : List Rec} (h : logOk o l = true) : headB o l = rootH sha (codesR l) := if_pos h
def signOk (key : By) (o : Int) (l : List Rec) : Bool := logOk o l && decide (key.length = 32)
def signB (key : By) (o : Int) (l : List Rec) : By := if signOk key o l = true then tagR sha key o (l.length : Int) (rootH sha (codesR l)) else []
def signE (key : By) (o : Int) (l : List Rec) : Int := if signOk key o l = true then 0 else 110
def inR (o : Int) (l : List Rec) (i : Int) : Bool := logOk o l && decide (0 ≤ i) && decide (i < (l.length : Int))
def checkB (root : By) (n i : Int) (x : Rec) (p : List By) : Bool := x.ok && bS sha root n i x.enc p
def few11 (xs : List By) (m : Nat) : List By := (xs.take m).map fun s => s.take 40
theorem mo (xs : List By) (m : Nat) : (few11 xs m).length ≤ m := by rw [few11, List.length_map, List.length_take]; omega
theorem mE {xs : List By} {k : Nat} (h : k < xs.length) : few11 xs (k + 1) = few11 xs k ++ [(xs.getD k []).take 40] := by
 rw [few11, bV [] h, List.map_append]; rfl
theorem kZ {xs : List By} {k m : Nat} (hk : k ≤ xs.length) (h : ¬ (k < xs.length ∧ k < m)) (hm : k ≤ m) : few11 xs k = few11 xs m := by
 unfold few11
 by_cases h1 : k = m
 ·rw [h1]
 ·rw [List.take_of_length_le om, List.take_of_length_le om]
theorem dj {l : List Rec} (h : ∀ x ∈ l, x.ok = true) : ∀ s ∈ codesR l, s.length ≤ 300 := by rw [← dH h]; exact gI l
theorem pu (av : Value) (xs : List By) (mm : Nat) (w0 : World) (hav : SlAt w0 av 1 (xs.map fun s => [sv s])) (hm : mm ≤ 1000) :
  Ret Tryd.prog 30 #[av, iv (mm : Int)] w0 (MemR w0 (fun v : Value => v) (fun v => [own v 9 1 ((few11 xs mm).map fun s => [sv s])]) (fun _ => True)) := by
 have hxb := hav.2.1
 simp only [List.length_map, big] at hxb
 refine aF func30 rfl ntmps30 (lb rfl) fun a Z => ?_
 replace Z := Z.p2 0 1 rfl
 replace Y : St No w0 [] w0 := St.init w0
 refine aa fun K1 hK1 => wla Z rfl fun a Z => ab (hK1 _ _ <| aa fun K2 hK2 => ?_)
 refine wla Z rfl fun a Z => ab (hK2 _ _ <| ac fun K3 hK3 => ?_)
 refine aa fun K4 hK4 => wla Z rfl fun a Z => ab (hK4 _ _ <| am ?_)
 replace Y : St No w0 [own (.slice none 0 0) 9 1 ((few11 xs 0).map fun s => [sv s])] w0 := Y.nil_own
 refine aV (fun m a w => ∃ (k : Nat) (v : Value), m = mm - k ∧ (k ≤ xs.length) ∧ (k ≤ mm) ∧ Fr 33 [(0, av), (1, iv (mm : Int)), (4, .slice none 0 0), (5, v), (6, iv (k : Int))] [] a ∧ St No w0 [own v 9 1 ((few11 xs k).map fun s => [sv s])] w) _ ⟨0, .slice none 0 0, rfl, Nat.zero_le _, Nat.zero_le _, Z.pick [0, 1, 4, 5, 6], Y⟩ ?_
 rintro _ a w1 ⟨k, v, rfl, hk, hkm, Z, Y⟩
 refine ac fun K5 hK5 => aa fun K6 hK6 => wlm Z rfl fun a Z => wlm Z rfl fun a Z => wlv Z ((aG (sT := 45) (Y.arg hav) rfl rfl (runUnderlying45 _)).asi (m' := (xs.length : Int)) sm) fun a Z => wlv Z (v_lt rfl rfl) fun a Z => wlm Z rfl fun a Z => ?_
 rcases Bool.eq_false_or_eq_true (decide ((k : Int) < (xs.length : Int))) with hb1 | hb1
 ·rw [hb1] at Z
  try simp only [qz] at hb1
  have hkx : k < xs.length := by omega
  refine wly Z (ai rfl) fun a Z => wly Z (ai rfl) fun a Z => wly Z (v_lt rfl rfl) fun a Z => wlv Z (aB rfl rfl) fun a Z => ab (hK6 _ _ ?_)
  replace Z := Z.p6 0 1 4 5 6 15 rfl
  refine az Z rfl (fun hc2 => ?_) (fun hc2 => ?_)
  ·rw [hc2] at Z
   try simp only [qz] at hc2
   refine ap <| hK5 _ _ <| ac fun K7 hK7 => am <| aI kr (aL kr fun w2 hxz => ?_)
   replace Y := Y.grow hxz
   refine aP (k := 0) 13 [0, 12] Z kr kr kr rfx ?_
   replace Z := Z.p6 0 1 4 5 6 15 rfl
   refine ay [12] (fun i => match i with | 12 => pm (fun b : Nat => .slice (some ⟨b, 0, none⟩) 1 1) (fun b => [own (.slice (some ⟨b, 0, none⟩) 1 1) 9 1 [[sv ((xs.getD k []).take (min (xs.getD k []).length 40))]]]) (fun _ => True) | _ => fun _ _ => False) 13 [[], [], [], [1, 2], [3], [], [], [5, 6], [7], [8], [9], [4, 10], [11]] [v, av, iv (k : Int), slAddr av (k * 1), sv (xs.getD k []), av, iv (k : Int), slAddr av (k * 1), sv (xs.getD k []), iv ((xs.getD k []).length : Int), iv (min ((xs.getD k []).length : Int) 40), sv ((xs.getD k []).take (min (xs.getD k []).length 40)), undef] Z Y kr kr kr ?_ ?_ ?_
   ·intro i hi hiq
    match i, hi, hiq with
    | 0, _, _ => exact fun w Y => OpV.g (ai rfl)
    | 1, _, _ => exact fun w Y => OpV.g (ai rfl)
    | 2, _, _ => exact fun w Y => OpV.g (ai rfl)
    | 3, _, _ => exact fun w Y => OpV.g ((ah (i := (k : Int)) (sT := 45) (Y.arg hav) rfl rfl (runUnderlying45 _) (sizeOf9 _) om (by rw [List.length_map]; omega)).as (v' := slAddr av (k * 1)) rfl)
    | 4, _, _ => exact fun w Y => OpV.g (au (u := sv (xs.getD k [])) (i := k) (j := 0) (Y.arg hav) (by rw [List.length_map]; omega) rfl (isAgg9 _) (by simp [List.getD_eq_getElem?_getD, List.getElem?_eq_getElem (show k < xs.length by omega)]))
    | 5, _, _ => exact fun w Y => OpV.g (ai rfl)
    | 6, _, _ => exact fun w Y => OpV.g (ai rfl)
    | 7, _, _ => exact fun w Y => OpV.g ((ah (i := (k : Int)) (sT := 45) (Y.arg hav) rfl rfl (runUnderlying45 _) (sizeOf9 _) om (by rw [List.length_map]; omega)).as (v' := slAddr av (k * 1)) rfl)
    | 8, _, _ => exact fun w Y => OpV.g (au (u := sv (xs.getD k [])) (i := k) (j := 0) (Y.arg hav) (by rw [List.length_map]; omega) rfl (isAgg9 _) (by simp [List.getD_eq_getElem?_getD, List.getElem?_eq_getElem (show k < xs.length by omega)]))
    | 9, _, _ => exact fun w Y => OpV.g (bn rfl rfl (runUnderlying9 _))
    | 10, _, _ => exact fun w Y => OpV.g (nq rfl rfl)
    | 11, _, _ => exact fun w Y => OpV.g ((jI (xs := xs.getD k []) (l := 0) (h := (min (xs.getD k []).length 40)) rfl rfl rfl underlying9 (.inl ⟨rfl, rfl⟩) (.inr (by rw [show (min ((xs.getD k []).length : Int) 40 : Int) = (((min (xs.getD k []).length 40) : Nat) : Int) from by omega] <;> rfl)) om (by first | omega | exact Nat.min_le_left _ _)).as (v' := sv ((xs.getD k []).take (min (xs.getD k []).length 40))) rfl)
    | 12, _, h => exact absurd sm h
    | i + 13, h, _ => exact absurd h om
   ·intro i hi
    simp only [List.mem_cons, List.not_mem_nil, or_false] at hi
    subst hi
    ·intro w Y
     exact aW (E := 9) (sz := 1) rfl [[sv ((xs.getD k []).take (min (xs.getD k []).length 40))]] (fun _ => by kernel_rfl) sm rfl de
   clear Z Y
   rintro _ _ ⟨b3, rfl, -, rfl⟩ a w3 Z Y
   replace Z : Fr 33 [(18, v), (19, av), (20, iv (k : Int)), (21, slAddr av (k * 1)), (22, sv (xs.getD k [])), (23, av), (24, iv (k : Int)), (25, slAddr av (k * 1)), (26, sv (xs.getD k [])), (27, iv ((xs.getD k []).length : Int)), (28, iv (min ((xs.getD k []).length : Int) 40)), (29, sv ((xs.getD k []).take (min (xs.getD k []).length 40))), (30, _), (0, _), (1, _), (4, _), (5, _), (6, _), (15, _)] [] a := Z
   replace Y : St No w0 [_, _] w3 := Y
   refine ab <| aK (k := 13) 15 [14] kr kr kr ?_
   refine aS (i := 1) (sT := 45) (inf := Tryd.t9) (z := .string (⟨#[]⟩)) (b := 0) (off := 0) (m := 0) (c := 0) rfl rfl rfl (Y.ow 0 rfl) sm underlying45 rfl rfl rfl rfl de (by simp [Value.oneCell', yv, wv, sv]) (by have hby : Tryd.t9.bytes = 16 := rfl; simp only [big, hby, few11, List.length_append, List.length_map, List.length_take, List.length_cons, List.length_nil]; omega) (by have hby : Tryd.t9.bytes = 16 := rfl; simp only [big, hby, few11, List.length_append, List.length_map, List.length_take, List.length_cons, List.length_nil]; omega) de Z Y fun a w4 s4 Z Y _ => wla Z rfl fun a Z => ab <| aO kr ?_
   refine hK7 _ _ ?_
   replace Z := Z.p5 0 1 4 6 5 rfl
   replace Y := Y.k1 2 rfl
   rw [show ((few11 xs k).map fun s => [sv s]) ++ ([[sv ((xs.getD k []).take (min (xs.getD k []).length 40))]]) = ((few11 xs (k + 1)).map fun s => [sv s]) from by rw [mE hkx, nT]; simp] at Y
   refine ao <| wlm Z rfl fun a Z => wlv Z (aT rfl rfl ⟨om, om⟩) fun a Z => wla Z rfl fun a Z => ab ?_
   refine ⟨_, ?_, k + 1, s4, rfl, om, om, Z.pick [0, 1, 4, 5, 6], Y⟩
   omega
  rw [hc2] at Z
  try simp only [qz] at hc2
  have hfe := kZ hk om hkm
  refine aE <| hK3 _ _ <| aa fun K8 hK8 => wlm Z rfl fun a Z => wla Z rfl fun a Z => ab (hK8 _ _ ?_)
  replace Z := Z.p1 4 rfl
  refine aw ?_
  refine ar Z results30 (ae rfl ag) ?_
  rw [hfe] at Y
  exact ⟨v, rfl, trivial, Y.ext, St.out (E := [own v 9 1 ((few11 xs mm).map fun s => [sv s])]) (H := []) (Y.select [0] de)⟩
 rw [hb1] at Z
 try simp only [qz] at hb1
 have hfe := kZ hk om hkm
 refine wln Z fun a Z => wln Z fun a Z => wln Z fun a Z => wlv Z (aA rfl rfl) fun a Z => ab (hK6 _ _ ?_)
 replace Z := Z.p6 0 1 4 5 6 15 rfl
 refine aH Z rfl ?_
 refine aE <| hK3 _ _ <| aa fun K9 hK9 => wlm Z rfl fun a Z => wla Z rfl fun a Z => ab (hK9 _ _ ?_)
 replace Z := Z.p1 4 rfl
 refine aw ?_
 refine ar Z results30 (ae rfl ag) ?_
 rw [hfe] at Y
 exact ⟨v, rfl, trivial, Y.ext, St.out (E := [own v 9 1 ((few11 xs mm).map fun s => [sv s])]) (H := []) (Y.select [0] de)⟩
theorem kF (w0 : World) :
  Ret Tryd.prog 41 #[] w0 (MemR w0 (fun v : Value => .agg #[iv 4, v]) (fun v => [own v 27 5 (exR.map Rec.cells)]) (fun _ => True)) := by
 refine aF func41 rfl ntmps41 (lb rfl) fun a Z => ?_
 replace Z : Fr 6 [] [] a := Z
 replace Y : St No w0 [] w0 := St.init w0
 refine aa fun K1 hK1 => aU Z Y de (zeroValue25 _) (cs := [iv 0, .slice none 0 0]) rfl ?_
 clear Z Y
 intro a w1 Z Y
 refine ab (hK1 _ _ <| aa fun K2 hK2 => ?_)
 refine wlv Z (bC (v := .agg #[iv 10, iv 1, iv 7, iv (-1), sv ([110, 101, 119, 115])]) rfl kr) fun a Z => wlv Z (bC (v := .agg #[iv 20, iv 2, iv 0, iv 5, sv ([] : By)]) rfl kr) fun a Z => wlv Z (bC (v := .agg #[iv 20, iv 1, iv 8, iv (-1), sv ([] : By)]) rfl kr) fun a Z => ax (E := 27) (sz := 5) rfl [[iv 10, iv 1, iv 7, iv (-1), sv ([110, 101, 119, 115])], [iv 20, iv 2, iv 0, iv 5, sv ([] : By)], [iv 20, iv 1, iv 8, iv (-1), sv ([] : By)]] kr sm rfl de de Z Y ?_
 clear Z Y
 intro a w2 Z Y
 refine wlv Z (bC (v := .agg #[iv 4, (.slice (some ⟨w1.hz, 0, none⟩) 3 3)]) rfl kr) fun a Z => aJ 1 Z Y rfl rfl rfl (sizeOf25 _) rfl (lb rfl) (ds := [iv 4, (.slice (some ⟨w1.hz, 0, none⟩) 3 3)]) rfl rfl ?_
 clear Z Y
 intro a w3 Z Y
 refine ab (hK2 _ _ <| aw ?_)
 refine ar Z results41 (aR rfl (ca (Y.g 1 rfl) (isAgg25 _) (sizeOf25 _)) ag) ?_
 exact ⟨(.slice (some ⟨w1.hz, 0, none⟩) 3 3), rfl, trivial, Y.ext, St.out (E := [own (.slice (some ⟨w1.hz, 0, none⟩) 3 3) 27 5 (exR.map Rec.cells)]) (H := []) (Y.select [0] de)⟩
theorem f7 {M : Nat → Prop} {w0 : World} (T : TypeId) (b : Nat) (ad v : Value) (bs s : By) (ws : World) (hlie : liesAt Tryd.prog Tryd.prog.depth T (2 / Tryd.prog.cellsOf T) 0 83 1 = true) (had : ad = .pointer none ∨ ad = pt b) (hne : s ≠ []) (hbn : bs.length + s.length ≤ 1000000000) (Y : St M w0 [bld T b ad v bs] ws) :
  Ret Tryd.prog 51 #[pt b, sv s] ws fun u w => u = .tuple #[iv (s.length : Int), .nilIface] ∧ ∃ v2, St M w0 [bld T b (pt b) v2 (bs ++ s)] w := by
 rcases had with rfl | rfl
 ·exact kS T b v bs s ws hlie hne hbn Y
 ·exact l8 T b v bs s ws hlie hne hbn Y
theorem kX (n : Int) : putI n ≠ [] := fun h => by have := (bG n).1; rw [h] at this; simp at this
theorem lw (s : By) : putS s ≠ [] := fun h => kX _ (List.append_eq_nil_iff.1 h).1
theorem m6 {a b : By} (h : b ≠ []) : a ++ b ≠ [] := fun e => h (List.append_eq_nil_iff.1 e).2
theorem lg {s : By} (h : s.length = 32) : s ≠ [] := fun e => by rw [e] at h; cases h
def encRb (l : List Rec) (k : Nat) : List Value := [iv (k : Int), .agg (l.getD k Rec.z).cells.toArray]
theorem dJ (n lo hi : Int) (w0 : World) :
  Ret Tryd.prog 46 #[iv n, iv lo, iv hi] w0 fun v w => v = .bool (inB n lo hi) ∧ Ext No w0 w := by
 refine aF func46 rfl ntmps46 (lb rfl) fun a Z => ?_
 replace Z := Z.p3 0 1 2 rfl
 replace Y : St No w0 [] w0 := St.init w0
 refine aa fun K1 hK1 => wla Z rfl fun a Z => ab (hK1 _ _ <| aa fun K2 hK2 => ?_)
 refine wlm Z rfl fun a Z => wlm Z rfl fun a Z => wlv Z (v_le rfl rfl) fun a Z => wlm Z rfl fun a Z => ?_
 refine cU (N := 15) (df := []) 4 [(14, .bool ((decide (lo ≤ n)) && (decide (n ≤ hi)))), (0, iv n), (1, iv lo), (2, iv hi), (6, .bool false)] ?_ (fun hj => ?_)
 rotate_left
 ·rcases Bool.eq_false_or_eq_true (decide (lo ≤ n)) with hb1 | hb1
  ·rw [hb1] at Z
   have hb1b := hb1
   try simp only [qz, Bool.and_eq_true, Bool.or_eq_true, Bool.and_eq_false_iff, Bool.or_eq_false_iff] at hb1
   refine wly Z (ai rfl) fun a Z => wly Z (ai rfl) fun a Z => wly Z (v_le rfl rfl) fun a Z => wlv Z (aB rfl rfl) fun a Z => ?_
   refine hj _ ?_
   try rw [hb1b]
   exact Z.pick [14, 0, 1, 2, 6]
  rw [hb1] at Z
  have hb1b := hb1
  try simp only [qz, Bool.and_eq_true, Bool.or_eq_true, Bool.and_eq_false_iff, Bool.or_eq_false_iff] at hb1
  refine wln Z fun a Z => wln Z fun a Z => wln Z fun a Z => wlv Z (aA rfl rfl) fun a Z => ?_
  refine hj _ ?_
  try rw [hb1b]
  exact Z.pick [14, 0, 1, 2, 6]
 intro a Z
 refine wla Z rfl fun a Z => ab (hK2 _ _ <| aw ?_)
 refine ar Z results46 (ae rfl ag) ?_
 exact ⟨by rfl, Y.ext⟩
theorem eU (x : Rec) (w0 : World) :
  Ret Tryd.prog 45 #[.agg #[iv x.t, iv x.kind, iv x.a, iv x.b, sv x.text]] w0 fun v w => v = .bool x.ok ∧ Ext No w0 w := by
 refine aF func45 rfl ntmps45 (lb rfl) fun a Z => ?_
 replace Z := Z.p1 0 rfl
 replace Y : St No w0 [] w0 := St.init w0
 refine aa fun K1 hK1 => bp Z Y de rfl (cs := [iv x.t, iv x.kind, iv x.a, iv x.b, sv x.text]) rfl ?_
 clear Z Y
 intro a w1 Z Y
 refine wla Z rfl fun a Z => ab (hK1 _ _ <| aa fun K2 hK2 => ?_)
 refine wlv Z (al (v := pt w0.hz) rfl kr) fun a Z => wlv Z (ld Y 0 rfl rfl (isAgg3 _) rfl) fun a Z => ak Z Y de call46 rfl (dJ x.t 0 10000000 _) ?_
 clear Z Y
 intro a w2 Z Y
 refine wlm Z rfl fun a Z => ?_
 rcases Bool.eq_false_or_eq_true (inB x.t 0 10000000) with hb1 | hb1
 ·rw [hb1] at Z
  try simp only [qz] at hb1
  refine wly Z (al (v := po w0.hz 1) rfl kr) fun a Z => wly Z (ld Y 0 rfl rfl (isAgg3 _) rfl) fun a Z => aQ Z Y de rfl de rfl call46 rfl (dJ x.kind 1 20 _) ?_
  clear Z Y
  intro a w3 Z Y
  refine wlv Z (aB rfl rfl) fun a Z => wlm Z rfl fun a Z => ?_
  rcases Bool.eq_false_or_eq_true (inB x.kind 1 20) with hb2 | hb2
  ·rw [hb2] at Z
   try simp only [qz] at hb2
   refine wly Z (al (v := po w0.hz 2) rfl kr) fun a Z => wly Z (ld Y 0 rfl rfl (isAgg3 _) rfl) fun a Z => aQ Z Y de rfl de rfl call46 rfl (dJ x.a (-1) 99999999 _) ?_
   clear Z Y
   intro a w4 Z Y
   refine wlv Z (aB rfl rfl) fun a Z => wlm Z rfl fun a Z => ?_
   rcases Bool.eq_false_or_eq_true (inB x.a (-1) 99999999) with hb3 | hb3
   ·rw [hb3] at Z
    try simp only [qz] at hb3
    refine wly Z (al (v := po w0.hz 3) rfl kr) fun a Z => wly Z (ld Y 0 rfl rfl (isAgg3 _) rfl) fun a Z => aQ Z Y de rfl de rfl call46 rfl (dJ x.b (-1) 99999999 _) ?_
    clear Z Y
    intro a w5 Z Y
    refine wlv Z (aB rfl rfl) fun a Z => wlm Z rfl fun a Z => ?_
    rcases Bool.eq_false_or_eq_true (inB x.b (-1) 99999999) with hb4 | hb4
    ·rw [hb4] at Z
     try simp only [qz] at hb4
     refine wly Z (al (v := po w0.hz 4) rfl kr) fun a Z => wly Z (ld Y 0 rfl rfl (isAgg9 _) rfl) fun a Z => wly Z (bn rfl rfl (runUnderlying9 _)) fun a Z => wly Z (v_le rfl rfl) fun a Z => wlv Z (aB rfl rfl) fun a Z => wla Z rfl fun a Z => ab (hK2 _ _ ?_)
     replace Z := Z.p1 2 rfl
     replace Y : St No w0 [] w5 := Y.mask [false]
     refine aw ?_
     refine ar Z results45 (ae rfl ag) ?_
     refine ⟨?_, Y.ext⟩
     simp only [retv]
     refine congrArg Value.bool ?_
     unfold Rec.ok
     simp only [hb1, hb2, hb3, hb4, Bool.true_and]
     exact decide_eq_decide.2 om
    rw [hb4] at Z
    try simp only [qz] at hb4
    refine wln Z fun a Z => wln Z fun a Z => wln Z fun a Z => wln Z fun a Z => wlv Z (aA rfl rfl) fun a Z => wla Z rfl fun a Z => ab (hK2 _ _ ?_)
    replace Z := Z.p1 2 rfl
    replace Y : St No w0 [] w5 := Y.mask [false]
    refine aw ?_
    refine ar Z results45 (ae rfl ag) ?_
    refine ⟨?_, Y.ext⟩
    simp only [retv]
    refine congrArg Value.bool ?_
    unfold Rec.ok
    simp only [hb1, hb2, hb3, hb4, Bool.true_and, Bool.false_and]
   rw [hb3] at Z
   try simp only [qz] at hb3
   refine wln Z fun a Z => wln Z fun a Z => wln Z fun a Z => wlv Z (aA rfl rfl) fun a Z => wlm Z rfl fun a Z => wln Z fun a Z => wln Z fun a Z => wln Z fun a Z => wln Z fun a Z => wlv Z (aA rfl rfl) fun a Z => wla Z rfl fun a Z => ab (hK2 _ _ ?_)
   replace Z := Z.p1 2 rfl
   replace Y : St No w0 [] w4 := Y.mask [false]
   refine aw ?_
   refine ar Z results45 (ae rfl ag) ?_
   refine ⟨?_, Y.ext⟩
   simp only [retv]
   refine congrArg Value.bool ?_
   unfold Rec.ok
   simp only [hb1, hb2, hb3, Bool.true_and, Bool.false_and]
  rw [hb2] at Z
  try simp only [qz] at hb2
  refine wln Z fun a Z => wln Z fun a Z => wln Z fun a Z => wlv Z (aA rfl rfl) fun a Z => wlm Z rfl fun a Z => wln Z fun a Z => wln Z fun a Z => wln Z fun a Z => wlv Z (aA rfl rfl) fun a Z => wlm Z rfl fun a Z => wln Z fun a Z => wln Z fun a Z => ?_
  refine wln Z fun a Z => wln Z fun a Z => wlv Z (aA rfl rfl) fun a Z => wla Z rfl fun a Z => ab (hK2 _ _ ?_)
  replace Z := Z.p1 2 rfl
  replace Y : St No w0 [] w3 := Y.mask [false]
  refine aw ?_
  refine ar Z results45 (ae rfl ag) ?_
  refine ⟨?_, Y.ext⟩
  simp only [retv]
  refine congrArg Value.bool ?_
  unfold Rec.ok
  simp only [hb1, hb2, Bool.true_and, Bool.false_and]
 rw [hb1] at Z
 try simp only [qz] at hb1
 refine wln Z fun a Z => wln Z fun a Z => wln Z fun a Z => wlv Z (aA rfl rfl) fun a Z => wlm Z rfl fun a Z => wln Z fun a Z => wln Z fun a Z => wln Z fun a Z => wlv Z (aA rfl rfl) fun a Z => wlm Z rfl fun a Z => wln Z fun a Z => wln Z fun a Z => ?_
 refine wln Z fun a Z => wlv Z (aA rfl rfl) fun a Z => wlm Z rfl fun a Z => wln Z fun a Z => wln Z fun a Z => wln Z fun a Z => wln Z fun a Z => wlv Z (aA rfl rfl) fun a Z => wla Z rfl fun a Z => ab (hK2 _ _ ?_)
 replace Z := Z.p1 2 rfl
 replace Y : St No w0 [] w2 := Y.mask [false]
 refine aw ?_
 refine ar Z results45 (ae rfl ag) ?_
 refine ⟨?_, Y.ext⟩
 simp only [retv]
 refine congrArg Value.bool ?_
 unfold Rec.ok
 simp only [hb1, Bool.true_and, Bool.false_and]
theorem dS (o : Int) (lv : Value) (l : List Rec) (w0 : World) (hlv : SlAt w0 lv 5 (l.map Rec.cells)) :
  Ret Tryd.prog 16 #[.agg #[iv o, lv]] w0 fun v w => v = .bool (logOk o l) ∧ Ext No w0 w := by
 have hxb := hlv.2.1
 simp only [List.length_map, big] at hxb
 refine aF func16 rfl ntmps16 (lb rfl) fun a Z => ?_
 replace Z := Z.p1 0 rfl
 replace Y : St No w0 [] w0 := St.init w0
 refine aa fun K1 hK1 => bp Z Y de rfl (cs := [iv o, lv]) rfl ?_
 clear Z Y
 intro a w1 Z Y
 refine wla Z rfl fun a Z => ab (hK1 _ _ <| aa fun K2 hK2 => ?_)
 refine wla Z rfl fun a Z => ab (hK2 _ _ <| ac fun K3 hK3 => ?_)
 refine aa fun K4 hK4 => wlv Z (al (v := po w0.hz 1) rfl kr) fun a Z => wlv Z (ld Y 0 rfl rfl (isAgg23 _) rfl) fun a Z => wlv Z ((aG (sT := 23) (Y.arg hlv) rfl rfl (runUnderlying23 _)).asi (m' := (l.length : Int)) (by rw [List.length_map])) fun a Z => wlm Z rfl fun a Z => ab (hK4 _ _ <| am ?_)
 refine aV (fun m a w => ∃ (k : Nat), m = l.length - k ∧ (k ≤ l.length) ∧ (bT 0 l = bT (prevT l k) (l.drop k)) ∧ Fr 34 [(1, pt w0.hz), (7, lv), (8, iv (l.length : Int)), (3, iv (prevT l k)), (9, iv (k : Int))] [] a ∧ St No w0 [blk w0.hz [iv o, lv] 25] w) _ ⟨0, rfl, Nat.zero_le _, rfl, Z.pick [1, 7, 8, 3, 9], Y.select [0] de⟩ ?_
 rintro _ a w2 ⟨k, rfl, hk, hs, Z, Y⟩
 refine aa fun K5 hK5 => wlv Z (v_lt rfl rfl) fun a Z => ab (hK5 _ _ <| ac fun K6 hK6 => ?_)
 refine az Z rfl (fun hc1 => ?_) (fun hc1 => ?_)
 ·rw [hc1] at Z
  try simp only [qz] at hc1
  have hkx : k < l.length := by omega
  refine ap <| hK6 _ _ <| ac fun K7 hK7 => am <| aa fun K8 hK8 => wlv Z ((ah (i := (k : Int)) (sT := 23) (Y.arg hlv) rfl rfl (runUnderlying23 _) (sizeOf27 _) om (by rw [List.length_map]; omega)).as (v' := slAddr lv (k * 5)) rfl) fun a Z => wlv Z ((ba (Y.arg hlv) (i := k) (by rw [List.length_map]; omega) rfl (isAgg27 _) (sizeOf27 _)).as (v' := .agg #[iv ((l.getD k Rec.z).t), iv ((l.getD k Rec.z).kind), iv ((l.getD k Rec.z).a), iv ((l.getD k Rec.z).b), sv ((l.getD k Rec.z).text)]) (by rw [bc Rec.z]; rfl)) fun a Z => aU Z Y de (zeroValue27 _) (cs := [iv 0, iv 0, iv 0, iv 0, .string (⟨#[]⟩)]) rfl ?_
  clear Z Y
  intro a w3 Z Y
  refine aJ 0 Z Y rfl rfl rfl (sizeOf27 _) rfl (lb rfl) (ds := [iv ((l.getD k Rec.z).t), iv ((l.getD k Rec.z).kind), iv ((l.getD k Rec.z).a), iv ((l.getD k Rec.z).b), sv ((l.getD k Rec.z).text)]) rfl rfl ?_
  clear Z Y
  intro a w4 Z Y
  refine ab (hK8 _ _ <| ac fun K9 hK9 => ?_)
  refine aa fun K10 hK10 => wlv Z (aq (Y.g 0 rfl) rfl (isAgg27 _) (sizeOf27 _)) fun a Z => ak Z Y de call45 rfl (eU (l.getD k Rec.z) _) ?_
  clear Z Y
  intro a w5 Z Y
  refine wlv Z (aX rfl) fun a Z => wlm Z rfl fun a Z => ?_
  rcases Bool.eq_false_or_eq_true (!((l.getD k Rec.z).ok)) with hb2 | hb2
  ·rw [hb2] at Z
   try simp only [qz] at hb2
   have hbad : bT 0 l = false := by rw [hs]; exact sr_no hkx (by simpa using hb2)
   refine wln Z fun a Z => wln Z fun a Z => wln Z fun a Z => wln Z fun a Z => wlv Z (aB rfl rfl) fun a Z => ab (hK10 _ _ ?_)
   replace Z := Z.p6 1 7 8 9 5 21 rfl
   refine aC Z rfl ?_
   refine aa fun K11 hK11 => wla Z rfl fun a Z => ab (hK11 _ _ <| aw ?_)
   refine ar Z results16 (ae rfl ag) ?_
   refine ⟨?_, Y.ext⟩
   simp only [retv]
   refine congrArg Value.bool ?_
   unfold logOk; rw [hbad]; rfl
  rw [hb2] at Z
  try simp only [qz] at hb2
  have hok : (l.getD k Rec.z).ok = true := by simpa using hb2
  refine wly Z (al (v := pt w2.hz) rfl kr) fun a Z => wly Z (ld Y 0 rfl rfl (isAgg3 _) rfl) fun a Z => wly Z (ai rfl) fun a Z => wly Z (v_lt rfl rfl) fun a Z => wlv Z (aA rfl rfl) fun a Z => ab (hK10 _ _ ?_)
  replace Z := Z.p6 1 7 8 9 5 21 rfl
  refine az Z rfl (fun hc3 => ?_) (fun hc3 => ?_)
  ·rw [hc3] at Z
   try simp only [qz] at hc3
   have hbad : bT 0 l = false := by rw [hs]; exact sr_lt hkx hc3
   refine aa fun K12 hK12 => wla Z rfl fun a Z => ab (hK12 _ _ <| aw ?_)
   refine ar Z results16 (ae rfl ag) ?_
   refine ⟨?_, Y.ext⟩
   simp only [retv]
   refine congrArg Value.bool ?_
   unfold logOk; rw [hbad]; rfl
  rw [hc3] at Z
  try simp only [qz] at hc3
  have hgo : prevT l k ≤ (l.getD k Rec.z).t := by omega
  refine ap <| hK9 _ _ <| ao <| wlv Z (al (v := pt w2.hz) rfl kr) fun a Z => wlv Z (ld Y 0 rfl rfl (isAgg3 _) rfl) fun a Z => wla Z rfl fun a Z => ab <| hK7 _ _ <| ao <| wlv Z (aT rfl rfl ⟨om, om⟩) fun a Z => wlm Z rfl fun a Z => ab ?_
  refine ⟨_, ?_, k + 1, rfl, om, (by rw [hs]; exact sr_go hkx hok hgo), Z.pick [1, 7, 8, 3, 9], Y.select [1] de⟩
  omega
 rw [hc1] at Z
 try simp only [qz] at hc1
 have hall : bT 0 l = true := by rw [hs, show k = l.length by omega, List.drop_length]; rfl
 refine aE <| hK3 _ _ <| aa fun K13 hK13 => wlv Z (al (v := pt w0.hz) rfl kr) fun a Z => wlv Z (ld Y 0 rfl rfl (isAgg3 _) rfl) fun a Z => ak Z Y de call46 rfl (dJ o 0 99 _) ?_
 clear Z Y
 intro a w6 Z Y
 refine wlm Z rfl fun a Z => ?_
 rcases Bool.eq_false_or_eq_true (inB o 0 99) with hb4 | hb4
 ·rw [hb4] at Z
  try simp only [qz] at hb4
  refine wly Z (al (v := po w0.hz 1) rfl kr) fun a Z => wly Z (ld Y 0 rfl rfl (isAgg23 _) rfl) fun a Z => wly Z ((aG (sT := 23) (Y.arg hlv) rfl rfl (runUnderlying23 _)).asi (m' := (l.length : Int)) (by rw [List.length_map])) fun a Z => wly Z (v_le rfl rfl) fun a Z => wlv Z (aB rfl rfl) fun a Z => wla Z rfl fun a Z => ab (hK13 _ _ ?_)
  replace Z := Z.p1 2 rfl
  replace Y : St No w0 [] w6 := Y.mask [false]
  refine aw ?_
  refine ar Z results16 (ae rfl ag) ?_
  refine ⟨?_, Y.ext⟩
  simp only [retv]
  refine congrArg Value.bool ?_
  unfold logOk; rw [hall, hb4]; simp only [Bool.true_and]; exact decide_eq_decide.2 om
 rw [hb4] at Z
 try simp only [qz] at hb4
 refine wln Z fun a Z => wln Z fun a Z => wln Z fun a Z => wln Z fun a Z => wlv Z (aA rfl rfl) fun a Z => wla Z rfl fun a Z => ab (hK13 _ _ ?_)
 replace Z := Z.p1 2 rfl
 replace Y : St No w0 [] w6 := Y.mask [false]
 refine aw ?_
 refine ar Z results16 (ae rfl ag) ?_
 refine ⟨?_, Y.ext⟩
 simp only [retv]
 refine congrArg Value.bool ?_
 unfold logOk; rw [hall, hb4]; rfl
theorem gL {M : Nat → Prop} {w0 : World} (T : TypeId) (b : Nat) (ad v lv : Value) (bs : By) (ns : List Int) (ws : World) (hlie : liesAt Tryd.prog Tryd.prog.depth T (2 / Tryd.prog.cellsOf T) 0 83 1 = true) (had : ad = .pointer none ∨ ad = pt b) (hns : smalls ns) (hnn : ns ≠ []) (hbn : bs.length + 9 * ns.length ≤ 1000000000) (Y : St M w0 [bld T b (ad) v bs, own lv 3 1 ((ns).map fun n => [iv n])] ws) :
  Ret Tryd.prog 49 #[pt b, lv] ws fun u w => u = .tuple #[] ∧ ∃ v2, St M w0 [bld T b (pt b) v2 (bs ++ puts ns)] w := by
 refine aF func49 rfl ntmps49 (lb rfl) fun a Z => ?_
 replace Z := Z.p2 0 1 rfl
 skip
 refine aa fun K1 hK1 => wlm Z rfl fun a Z => wlv Z ((aG (sT := 41) (Y.ow 1 rfl) rfl rfl (runUnderlying41 _)).asi (m' := (ns.length : Int)) (by rw [List.length_map])) fun a Z => wlm Z rfl fun a Z => ab (hK1 _ _ <| am ?_)
 replace Y : St M w0 [bld T b ad v (bs ++ puts (ns.take 0)), own lv 3 1 ((ns).map fun n => [iv n])] ws := by rw [show bs ++ puts (ns.take 0) = bs from by simp [puts]]; exact Y
 refine aV (fun m a w => ∃ (k : Nat) (ad : Value) (v : Value), m = ns.length - k ∧ (k ≤ ns.length) ∧ (ad = .pointer none ∨ ad = pt b) ∧ (0 < k → ad = pt b) ∧ Fr 25 [(0, pt b), (8, lv), (9, iv (ns.length : Int)), (10, iv (k : Int))] [] a ∧ St M w0 [bld T b (ad) v (bs ++ puts (ns.take k)), own lv 3 1 ((ns).map fun n => [iv n])] w) _ ⟨0, ad, v, rfl, Nat.zero_le _, had, (fun h => absurd h (Nat.lt_irrefl 0)), Z.pick [0, 8, 9, 10], Y⟩ ?_
 rintro _ a w1 ⟨k, ad, v, rfl, hk, had, hak, Z, Y⟩
 refine aa fun K2 hK2 => wlv Z (v_lt rfl rfl) fun a Z => ab (hK2 _ _ <| ac fun K3 hK3 => ?_)
 refine az Z rfl (fun hc1 => ?_) (fun hc1 => ?_)
 ·rw [hc1] at Z
  try simp only [qz] at hc1
  refine ap <| hK3 _ _ <| ac fun K4 hK4 => am <| aa fun K5 hK5 => wlv Z ((ah (i := (k : Int)) (sT := 41) (Y.ow 1 rfl) rfl rfl (runUnderlying41 _) (sizeOf3 _) om (by rw [List.length_map]; omega)).as (v' := slAddr lv (k * 1)) rfl) fun a Z => wlv Z (au (u := iv (ns.getD k 0)) (i := k) (j := 0) (Y.ow 1 rfl) (by rw [List.length_map]; omega) rfl (isAgg3 _) (by rw [bc (0 : Int)]; rfl)) fun a Z => wla Z rfl fun a Z => ab (hK5 _ _ <| aa fun K6 hK6 => ?_)
  refine wlm Z rfl fun a Z => ak Z Y de call75 rfl (ik (ns.getD k 0) _ (hns _ (aY om))) ?_
  clear Z Y
  intro a w2 Z Y
  refine wlm Z rfl fun a Z => wlv Z (aj rfl rfl) fun a Z => wlv Z (aj rfl rfl) fun a Z => wla Z rfl fun a Z => wla Z rfl fun a Z => ab (hK6 _ _ ?_)
  replace Z := Z.p5 0 8 9 10 6 rfl
  refine ao <| wlm Z rfl fun a Z => wlv Z (bq rfl) fun a Z => wlv Z (al (v := pt b) rfl kr) fun a Z => wlm Z rfl fun a Z => dm (R := fun u e' => u = .tuple #[iv ((putI (ns.getD k 0)).length : Int), .nilIface] ∧ ∃ v2, e' = bld T b (pt b) v2 ((bs ++ puts (ns.take k)) ++ (putI (ns.getD k 0)))) 0 Z Y rfl de call51 rfl (fun h => (f7 T b _ _ _ _ _ hlie (had) (kX _) (by have h1 := f9 (ns.take k); have h2 := (bG (ns.getD k 0)).2; rw [List.length_take] at h1; rw [List.length_append]; omega) h).mono fun u w ⟨h1, v2, h2⟩ => ⟨_, ⟨h1, v2, rfl⟩, h2⟩) ?_
  clear Z Y
  rintro a w3 _ _ ⟨rfl, v2, rfl⟩ Z Y
  replace Y : St M w0 [_, _] w3 := Y
  refine ab <| hK4 _ _ ?_
  replace Z := Z.p4 0 8 9 10 rfl
  refine ao <| wlv Z (aT rfl rfl ⟨om, om⟩) fun a Z => wlm Z rfl fun a Z => ab ?_
  replace Y : St M w0 [bld T b (pt b) v2 (bs ++ puts (ns.take (k + 1))), own lv 3 1 ((ns).map fun n => [iv n])] w3 := by rw [show bs ++ puts (ns.take (k + 1)) = (bs ++ puts (ns.take k)) ++ (putI (ns.getD k 0)) from by rw [bV 0 om, mh, List.append_assoc]]; exact Y
  refine ⟨_, ?_, k + 1, pt b, v2, rfl, om, (.inr rfl), (fun _ => rfl), Z.pick [0, 8, 9, 10], Y⟩
  omega
 rw [hc1] at Z
 try simp only [qz] at hc1
 obtain rfl : k = ns.length := by omega
 rw [List.take_length] at Y
 obtain rfl := hak (List.length_pos_iff.2 hnn)
 refine aE ?_
 refine dq Z results49 ag ?_
 exact ⟨rfl, _, Y.select [0] de⟩
theorem pQ (x : Rec) (w0 : World) (hok : x.ok = true) :
  Ret Tryd.prog 22 #[.agg #[iv x.t, iv x.kind, iv x.a, iv x.b, sv x.text]] w0 fun v w => v = .tuple #[sv x.enc, iv 0] ∧ Ext No w0 w := by
 have hle := Rec.len hok
 have hpl := f9 [x.t, x.kind, x.a, x.b]
 have hq4 := bG (x.text.length : Int)
 have hq5 : (putS x.text).length ≤ 300 := by unfold putS; rw [List.length_append]; omega
 simp only [List.length_cons, List.length_nil] at hpl
 refine aF func22 rfl ntmps22 (lb rfl) fun a Z => ?_
 replace Z := Z.p1 0 rfl
 replace Y : St No w0 [] w0 := St.init w0
 refine aa fun K1 hK1 => bp Z Y de rfl (cs := [iv x.t, iv x.kind, iv x.a, iv x.b, sv x.text]) rfl ?_
 clear Z Y
 intro a w1 Z Y
 refine wla Z rfl fun a Z => wla Z rfl fun a Z => ab (hK1 _ _ <| ac fun K2 hK2 => ?_)
 refine aa fun K3 hK3 => wlv Z (aq (Y.g 0 rfl) rfl (isAgg27 _) (sizeOf27 _)) fun a Z => ak Z Y de call45 rfl (eU x _) ?_
 clear Z Y
 intro a w2 Z Y
 refine wlv Z (aX rfl) fun a Z => ab (hK3 _ _ ?_)
 refine az Z rfl (fun hc1 => ?_) (fun hc1 => ?_)
 ·rw [hc1] at Z
  try simp only [qz] at hc1
  simp [hok] at hc1
 rw [hc1] at Z
 try simp only [qz] at hc1
 refine ap <| hK2 _ _ <| aa fun K4 hK4 => aU Z Y de (zeroValue85 _) (cs := [.pointer none, .slice none 0 0]) rfl ?_
 clear Z Y
 intro a w3 Z Y
 refine ab (hK4 _ _ ?_)
 replace Y : St No w0 (own (.slice none 0 0) 5 1 [] :: [blk w2.hz [.pointer none, .slice none 0 0] 85, blk w0.hz [iv x.t, iv x.kind, iv x.a, iv x.b, sv x.text] 27]) w3 := Y.nil_own
 replace Y : St No w0 [blk w2.hz [.pointer none, .slice none 0 0] 85, own (.slice none 0 0) 5 1 ([]), blk w0.hz [iv x.t, iv x.kind, iv x.a, iv x.b, sv x.text] 27] w3 := Y.select [1, 0, 2] de
 replace Y : St No w0 [bld 85 w2.hz (.pointer none) (.slice none 0 0) ([] : By), blk w0.hz [iv x.t, iv x.kind, iv x.a, iv x.b, sv x.text] 27] w3 := St.join [blk w2.hz [.pointer none, .slice none 0 0] 85, own (.slice none 0 0) 5 1 ([])] [blk w0.hz [iv x.t, iv x.kind, iv x.a, iv x.b, sv x.text] 27] Y
 refine aa fun K5 hK5 => wlv Z (al (v := pt w0.hz) rfl kr) fun a Z => wlv Z (ld Y 1 rfl rfl (isAgg3 _) rfl) fun a Z => wlv Z (al (v := po w0.hz 1) rfl kr) fun a Z => wlv Z (ld Y 1 rfl rfl (isAgg3 _) rfl) fun a Z => wlv Z (al (v := po w0.hz 2) rfl kr) fun a Z => wlv Z (ld Y 1 rfl rfl (isAgg3 _) rfl) fun a Z => wlv Z (al (v := po w0.hz 3) rfl kr) fun a Z => wlv Z (ld Y 1 rfl rfl (isAgg3 _) rfl) fun a Z => ax (E := 3) (sz := 1) rfl [[iv x.t], [iv x.kind], [iv x.a], [iv x.b]] kr sm rfl de de Z Y ?_
 clear Z Y
 intro a w4 Z Y
 replace Y : St No w0 [bld 85 w2.hz (.pointer none) (.slice none 0 0) ([] : By), own (.slice (some ⟨w3.hz, 0, none⟩) 4 4) 3 1 ([[iv x.t], [iv x.kind], [iv x.a], [iv x.b]]), blk w0.hz [iv x.t, iv x.kind, iv x.a, iv x.b, sv x.text] 27] w4 := Y.select [1, 0, 2] de
 replace Y := St.join [bld 85 w2.hz (.pointer none) (.slice none 0 0) ([] : By), own (.slice (some ⟨w3.hz, 0, none⟩) 4 4) 3 1 ([[iv x.t], [iv x.kind], [iv x.a], [iv x.b]])] [blk w0.hz [iv x.t, iv x.kind, iv x.a, iv x.b, sv x.text] 27] Y
 refine dm (R := fun u e' => u = .tuple #[] ∧ ∃ v2, e' = bld 85 w2.hz (pt w2.hz) v2 (([] : By) ++ puts [x.t, x.kind, x.a, x.b])) 0 Z Y rfl de call49 rfl (fun h => (gL 85 w2.hz _ _ _ _ [x.t, x.kind, x.a, x.b] _ kr (.inl rfl) (Rec.smalls hok) sm sm (St.unjoin [bld 85 w2.hz (.pointer none) (.slice none 0 0) ([] : By), own (.slice (some ⟨w3.hz, 0, none⟩) 4 4) 3 1 ([[iv x.t], [iv x.kind], [iv x.a], [iv x.b]])] [] h)).mono fun u w ⟨h1, v2, h2⟩ => ⟨_, ⟨h1, v2, rfl⟩, h2⟩) ?_
 clear Z Y
 rintro a w5 _ _ ⟨rfl, v2, rfl⟩ Z Y
 replace Y : St No w0 [_, _] w5 := Y
 refine ab (hK5 _ _ ?_)
 replace Z := Z.p4 1 2 3 4 rfl
 refine aa fun K6 hK6 => wlv Z (al (v := po w0.hz 4) rfl kr) fun a Z => wlv Z (ld Y 1 rfl rfl (isAgg9 _) rfl) fun a Z => ak Z Y de call50 rfl (iY x.text _ om) ?_
 clear Z Y
 intro a w6 Z Y
 refine wlm Z rfl fun a Z => wlv Z (aj rfl rfl) fun a Z => wlv Z (aj rfl rfl) fun a Z => wla Z rfl fun a Z => wla Z rfl fun a Z => ab (hK6 _ _ ?_)
 replace Z := Z.p4 2 3 4 5 rfl
 replace Y := Y.k1 1 rfl
 refine aa fun K7 hK7 => wlv Z (al (v := pt w2.hz) rfl kr) fun a Z => wlm Z rfl fun a Z => dm (R := fun u e' => u = .tuple #[iv ((putS x.text).length : Int), .nilIface] ∧ ∃ v2, e' = bld 85 w2.hz (pt w2.hz) v2 ((([] : By) ++ puts [x.t, x.kind, x.a, x.b]) ++ (putS x.text))) 0 Z Y rfl de call51 rfl (fun h => (f7 85 w2.hz _ _ _ _ _ kr (.inr rfl) (lw _) (by rw [List.length_append, List.length_nil]; omega) h).mono fun u w ⟨h1, v2, h2⟩ => ⟨_, ⟨h1, v2, rfl⟩, h2⟩) ?_
 clear Z Y
 rintro a w7 _ _ ⟨rfl, v3, rfl⟩ Z Y
 replace Y : St No w0 [_] w7 := Y
 refine ab (hK7 _ _ <| aa fun K8 hK8 => ?_)
 refine wlv Z (al (v := pt w2.hz) rfl kr) fun a Z => dm (R := fun u e' => u = sv ((([] : By) ++ puts [x.t, x.kind, x.a, x.b]) ++ (putS x.text)) ∧ e' = blk w2.hz [pt w2.hz, v3] 85) 0 Z Y rfl de call52 rfl (fun h => (gy 85 w2.hz _ _ _ (m6 (lw _)) h).mono fun u w ⟨h1, h2⟩ => ⟨_, ⟨h1, rfl⟩, h2⟩) ?_
 clear Z Y
 rintro a w8 _ _ ⟨rfl, rfl⟩ Z Y
 replace Y : St No w0 [_] w8 := Y
 refine wla Z rfl fun a Z => wla Z rfl fun a Z => ab (hK8 _ _ ?_)
 replace Z := Z.p2 2 3 rfl
 refine aw ?_
 refine ar Z results22 (ae rfl (ae rfl ag)) ?_
 exact ⟨by simp only [retv]; simp [Rec.enc], Y.ext⟩
theorem o8 (x : Rec) (w0 : World) (hok : x.ok = false) :
  Ret Tryd.prog 22 #[.agg #[iv x.t, iv x.kind, iv x.a, iv x.b, sv x.text]] w0 fun v w => v = .tuple #[sv ([] : By), iv 110] ∧ Ext No w0 w := by
 refine aF func22 rfl ntmps22 (lb rfl) fun a Z => ?_
 replace Z := Z.p1 0 rfl
 replace Y : St No w0 [] w0 := St.init w0
 refine aa fun K1 hK1 => bp Z Y de rfl (cs := [iv x.t, iv x.kind, iv x.a, iv x.b, sv x.text]) rfl ?_
 clear Z Y
 intro a w1 Z Y
 refine wla Z rfl fun a Z => wla Z rfl fun a Z => ab (hK1 _ _ <| ac fun K2 hK2 => ?_)
 refine aa fun K3 hK3 => wlv Z (aq (Y.g 0 rfl) rfl (isAgg27 _) (sizeOf27 _)) fun a Z => ak Z Y de call45 rfl (eU x _) ?_
 clear Z Y
 intro a w2 Z Y
 refine wlv Z (aX rfl) fun a Z => ab (hK3 _ _ ?_)
 refine az Z rfl (fun hc1 => ?_) (fun hc1 => ?_)
 ·rw [hc1] at Z
  try simp only [qz] at hc1
  refine aa fun K4 hK4 => wla Z rfl fun a Z => wla Z rfl fun a Z => ab (hK4 _ _ <| aw ?_)
  refine ar Z results22 (ae rfl (ae rfl ag)) ?_
  exact ⟨by rfl, Y.ext⟩
 rw [hc1] at Z
 try simp only [qz] at hc1
 simp [hok] at hc1
theorem iK (x : Rec) (w0 : World) : Ret Tryd.prog 22 #[.agg #[iv x.t, iv x.kind, iv x.a, iv x.b, sv x.text]] w0 fun v w => v = .tuple #[sv (eB x), iv (eE x)] ∧ Ext No w0 w := by
 unfold eB eE
 cases h : x.ok with
 | true => rw [if_pos rfl, if_pos rfl]; exact pQ x w0 h
 | false => rw [if_neg sm, if_neg sm]; exact o8 x w0 h
theorem mZ (key : By) (o n : Int) (root : By) (w0 : World) (ho : small o) (hn : small n) (hr : root.length = 32) (hk : key.length ≤ 1000) (hk0 : (blk 0 (kOf.map wv) 161).ok w0) :
  Ret Tryd.prog 71 #[sv key, iv o, iv n, sv root] w0 fun v w => v = sv (tagR sha key o n root) ∧ Ext No w0 w := by
 have hpl := f9 [o, n]
 simp only [List.length_cons, List.length_nil] at hpl
 have hsm : smalls [o, n] := by intro z hz; simp only [List.mem_cons, List.not_mem_nil, or_false] at hz; rcases hz with rfl | rfl; exact ho; exact hn
 have hxl : (([] : By) ++ puts [o, n] ++ root).length ≤ 60 := by simp only [List.length_append, List.length_nil]; omega
 refine aF func71 rfl ntmps71 (lb rfl) fun a Z => ?_
 replace Z := Z.p4 0 1 2 3 rfl
 replace Y : St No w0 [] w0 := St.init w0
 refine aa fun K1 hK1 => wla Z rfl fun a Z => ab (hK1 _ _ <| aa fun K2 hK2 => ?_)
 refine aU Z Y de (zeroValue85 _) (cs := [.pointer none, .slice none 0 0]) rfl ?_
 clear Z Y
 intro a w1 Z Y
 refine ab (hK2 _ _ ?_)
 replace Y : St No w0 (own (.slice none 0 0) 5 1 [] :: [blk w0.hz [.pointer none, .slice none 0 0] 85]) w1 := Y.nil_own
 replace Y : St No w0 [blk w0.hz [.pointer none, .slice none 0 0] 85, own (.slice none 0 0) 5 1 ([])] w1 := Y.select [1, 0] de
 replace Y : St No w0 [bld 85 w0.hz (.pointer none) (.slice none 0 0) ([] : By)] w1 := St.join [blk w0.hz [.pointer none, .slice none 0 0] 85, own (.slice none 0 0) 5 1 ([])] [] Y
 refine aa fun K3 hK3 => wlm Z rfl fun a Z => wlm Z rfl fun a Z => ax (E := 3) (sz := 1) rfl [[iv o], [iv n]] kr sm rfl de de Z Y ?_
 clear Z Y
 intro a w2 Z Y
 replace Y : St No w0 [bld 85 w0.hz (.pointer none) (.slice none 0 0) ([] : By), own (.slice (some ⟨w1.hz, 0, none⟩) 2 2) 3 1 ([[iv o], [iv n]])] w2 := Y.select [1, 0] de
 replace Y := St.join [bld 85 w0.hz (.pointer none) (.slice none 0 0) ([] : By), own (.slice (some ⟨w1.hz, 0, none⟩) 2 2) 3 1 ([[iv o], [iv n]])] [] Y
 refine dm (R := fun u e' => u = .tuple #[] ∧ ∃ v2, e' = bld 85 w0.hz (pt w0.hz) v2 (([] : By) ++ puts [o, n])) 0 Z Y rfl de call49 rfl (fun h => (gL 85 w0.hz _ _ _ _ [o, n] _ kr (.inl rfl) (hsm) sm sm (St.unjoin [bld 85 w0.hz (.pointer none) (.slice none 0 0) ([] : By), own (.slice (some ⟨w1.hz, 0, none⟩) 2 2) 3 1 ([[iv o], [iv n]])] [] h)).mono fun u w ⟨h1, v2, h2⟩ => ⟨_, ⟨h1, v2, rfl⟩, h2⟩) ?_
 clear Z Y
 rintro a w3 _ _ ⟨rfl, v1, rfl⟩ Z Y
 replace Y : St No w0 [_] w3 := Y
 refine ab (hK3 _ _ ?_)
 replace Z := Z.p4 0 3 8 9 rfl
 refine aa fun K4 hK4 => wlv Z (al (v := pt w0.hz) rfl kr) fun a Z => wlm Z rfl fun a Z => dm (R := fun u e' => u = .tuple #[iv (root.length : Int), .nilIface] ∧ ∃ v2, e' = bld 85 w0.hz (pt w0.hz) v2 ((([] : By) ++ puts [o, n]) ++ root)) 0 Z Y rfl de call51 rfl (fun h => (f7 85 w0.hz _ _ _ _ _ kr (.inr rfl) (lg hr) (by rw [List.length_append, List.length_nil]; omega) h).mono fun u w ⟨h1, v2, h2⟩ => ⟨_, ⟨h1, v2, rfl⟩, h2⟩) ?_
 clear Z Y
 rintro a w4 _ _ ⟨rfl, v2, rfl⟩ Z Y
 replace Y : St No w0 [_] w4 := Y
 refine ab (hK4 _ _ <| aa fun K5 hK5 => ?_)
 refine wlm Z rfl fun a Z => wlv Z (al (v := pt w0.hz) rfl kr) fun a Z => dm (R := fun u e' => u = sv ((([] : By) ++ puts [o, n]) ++ root) ∧ e' = blk w0.hz [pt w0.hz, v2] 85) 0 Z Y rfl de call52 rfl (fun h => (gy 85 w0.hz _ _ _ (m6 (lg hr)) h).mono fun u w ⟨h1, h2⟩ => ⟨_, ⟨h1, rfl⟩, h2⟩) ?_
 clear Z Y
 rintro a w5 _ _ ⟨rfl, rfl⟩ Z Y
 replace Y : St No w0 [_] w5 := Y
 refine ak Z Y de call78 rfl (ja ((([] : By) ++ puts [o, n]) ++ root) _ om (Y.keepb hk0)) ?_
 clear Z Y
 intro a w6 Z Y
 refine ak Z Y de call79 rfl (e9 key (leafH sha ((([] : By) ++ puts [o, n]) ++ root)) _ om (by first | omega | (rw [jT bl]; decide)) (Y.keepb hk0)) ?_
 clear Z Y
 intro a w7 Z Y
 refine wla Z rfl fun a Z => ab (hK5 _ _ ?_)
 replace Z := Z.p1 8 rfl
 refine aw ?_
 refine ar Z results71 (ae rfl ag) ?_
 exact ⟨by simp only [retv]; simp [tagR, jO, nodeH], Y.ext⟩
theorem mt {M : Nat → Prop} {w0 : World} (o : Int) (lv : Value) (l : List Rec) (lp b1 : Nat) (J Jx : List Nat → Ent → Prop) (hY : Rounds Tryd.prog M w0 lp (encRb l) (NxB l.length) J Jx) (e0 : Ent) (ws : World) (hn : l.length ≤ 1000000) (hlv : ∀ (H : List Ent) (w : World), St M w0 H w → SlAt w lv 5 (l.map Rec.cells)) (hJ : J [] e0) (Y : St M w0 [e0, blk b1 [iv o, lv] 25] ws) :
  Ret Tryd.prog 74 #[.func (.yield lp) #[] #[], pt b1] ws fun _ w => ∃ e1 Hi1, St M w0 (e1 :: Hi1) w ∧ ((∃ ys, (ys = backs l.length l.length ∧ Hi1 = [blk b1 [iv o, lv] 25]) ∧ J ys e1) ∨ (∃ pre, Hi1 = [blk b1 [iv o, lv] 25] ∧ Jx pre e1)) := by
 refine aF func74 rfl ntmps74 (lb rfl) fun a Z => ?_
 replace Z := Z.p2 0 1 rfl
 skip
 refine aa fun K1 hK1 => wlv Z (al (v := po b1 1) rfl kr) fun a Z => wlv Z (ld Y 1 rfl rfl (isAgg23 _) rfl) fun a Z => wlv Z ((aG (sT := 23) (hlv _ _ Y) rfl rfl (runUnderlying23 _)).asi (m' := (l.length : Int)) (by rw [List.length_map])) fun a Z => wlv Z (bo rfl rfl ⟨om, om⟩) fun a Z => wla Z rfl fun a Z => ab (hK1 _ _ <| am ?_)
 rw [show (l.length : Int) - 1 = (l.length : Int) - 1 - ((0 : Nat) : Int) from by omega] at Z
 refine aV (fun m a w => ∃ (j : Nat) (e : Ent), m = l.length - j ∧ (j ≤ l.length) ∧ (J (backs l.length j) e) ∧ Fr 21 [(0, .func (.yield lp) #[] #[]), (1, pt b1), (3, iv ((l.length : Int) - 1 - (j : Int)))] [] a ∧ St M w0 [e, blk b1 [iv o, lv] 25] w) _ ⟨0, e0, rfl, Nat.zero_le _, hJ, Z.pick [0, 1, 3], Y⟩ ?_
 rintro _ a w1 ⟨j, e, rfl, hj, hJ, Z, Y⟩
 refine ac fun K2 hK2 => aa fun K3 hK3 => wlm Z rfl fun a Z => wlv Z (v_ge rfl rfl) fun a Z => ab (hK3 _ _ ?_)
 refine az Z rfl (fun hc1 => ?_) (fun hc1 => ?_)
 ·rw [hc1] at Z
  try simp only [qz] at hc1
  have hjl : j < l.length := by omega
  refine ap <| hK2 _ _ <| ac fun K4 hK4 => am ?_
  have hidx : (l.length : Int) - 1 - (j : Int) = ((l.length - 1 - j : Nat) : Int) := by omega
  refine aa fun K5 hK5 => wlm Z rfl fun a Z => wlm Z rfl fun a Z => wlv Z (al (v := po b1 1) rfl kr) fun a Z => wlv Z (ld Y 1 rfl rfl (isAgg23 _) rfl) fun a Z => wlm Z rfl fun a Z => wlv Z ((ah (i := (l.length : Int) - 1 - (j : Int)) (sT := 23) (hlv _ _ Y) rfl rfl (runUnderlying23 _) (sizeOf27 _) om (by rw [List.length_map]; omega)).as (v' := slAddr lv ((l.length - 1 - j) * 5)) (by rw [show ((l.length : Int) - 1 - (j : Int)).toNat = (l.length - 1 - j) from by omega])) fun a Z => wlv Z ((ba (hlv _ _ Y) (i := (l.length - 1 - j)) (by rw [List.length_map]; omega) rfl (isAgg27 _) (sizeOf27 _)).as (v' := .agg #[iv ((l.getD (l.length - 1 - j) Rec.z).t), iv ((l.getD (l.length - 1 - j) Rec.z).kind), iv ((l.getD (l.length - 1 - j) Rec.z).a), iv ((l.getD (l.length - 1 - j) Rec.z).b), sv ((l.getD (l.length - 1 - j) Rec.z).text)]) (by rw [bc Rec.z]; rfl)) fun a Z => ?_
  rw [hidx] at Z
  refine wl_r (eW rfl rfl (hY.yield (pre := backs l.length j) (x := l.length - 1 - j) (by show l.length - 1 - j + 1 + (backs l.length j).length = l.length; rw [dF]; omega) hJ (Y.only (i := 0) rfl))) rfl rfl Z ?_
  clear Z
  intro a v w2 hR Z
  obtain ⟨y2, e3, rfl, hx, hok, hft, hJt, hJf⟩ := hR
  replace Y := Y.exchange (k := 0) rfl hx hok hft
  replace Y : St M w0 [_, _] w2 := Y
  clear hx hok hft
  refine wlv Z (aX rfl) fun a Z => ab (hK5 _ _ ?_)
  replace Z := Z.p4 0 1 3 20 rfl
  refine az Z rfl (fun hc4 => ?_) (fun hc4 => ?_)
  ·rw [hc4] at Z
   try simp only [qz] at hc4
   have hJ := hJf hc4
   refine aw ?_
   refine ar Z results74 ag ?_
   exact ⟨_, _, Y, .inr ⟨_, rfl, hJ⟩⟩
  rw [hc4] at Z
  try simp only [qz] at hc4
  have hJ := hJt hc4
  refine ap <| hK4 _ _ <| ao <| wlm Z rfl fun a Z => wlv Z (bo rfl rfl ⟨om, om⟩) fun a Z => wla Z rfl fun a Z => ab ?_
  rw [show ((l.length - 1 - j : Nat) : Int) - 1 = (l.length : Int) - 1 - ((j + 1 : Nat) : Int) from by omega] at Z
  refine ⟨_, ?_, j + 1, e3, rfl, om, hJ, Z.pick [0, 1, 3], Y⟩
  omega
 rw [hc1] at Z
 try simp only [qz] at hc1
 obtain rfl : j = l.length := by omega
 refine aE ?_
 refine dq Z results74 ag ?_
 exact ⟨_, _, Y, .inl ⟨_, ⟨rfl, rfl⟩, hJ⟩⟩
theorem gc {M : Nat → Prop} {w0 : World} (o : Int) (lv : Value) (l : List Rec) (b1 : Nat) (hn : l.length ≤ 1000000) (hlv : ∀ (H : List Ent) (w : World), St M w0 H w → SlAt w lv 5 (l.map Rec.cells)) :
  Iter Tryd.prog 74 [pt b1] (encRb l) (NxB l.length) (fun ys Hi => ys = backs l.length l.length ∧ Hi = [blk b1 [iv o, lv] 25]) (fun pre Hi => Hi = [blk b1 [iv o, lv] 25]) M w0 [blk b1 [iv o, lv] 25] :=
 fun lp J Jx w e hY hJ Y => mt o lv l lp b1 J Jx hY e w hn hlv hJ Y
theorem j7 (o : Int) (lv : Value) (w0 : World) (l : List Rec) (hlv : SlAt w0 lv 5 (l.map Rec.cells)) :
  Ret Tryd.prog 48 #[.agg #[iv o, lv]] w0 (MemR w0 (fun z : Nat => .func (.func 74) #[] #[pt z]) (fun z => [blk z [iv o, lv] 25]) (fun _ => True)) := by
 refine aF func48 rfl ntmps48 (lb rfl) fun a Z => ?_
 replace Z := Z.p1 0 rfl
 replace Y : St No w0 [] w0 := St.init w0
 refine aa fun K1 hK1 => bp Z Y de rfl (cs := [iv o, lv]) rfl ?_
 clear Z Y
 intro a w1 Z Y
 refine wla Z rfl fun a Z => ab (hK1 _ _ <| aa fun K2 hK2 => ?_)
 refine wlv Z (cE rfl rfl) fun a Z => wla Z rfl fun a Z => ab (hK2 _ _ <| aw ?_)
 refine ar Z results48 (ae rfl ag) ?_
 exact ⟨w0.hz, rfl, trivial, Y.ext, St.out (H := []) Y⟩
section
variable {f : Rec → Bool} {l : List Rec} {pre : List Nat} {x : Nat}
theorem pF (hnx : NxB l.length pre x) (h : findF f l l.length = findF f l (l.length - pre.length)) (hf : f (l.getD x Rec.z) = false) : findF f l l.length = findF f l (l.length - (pre ++ [x]).length) := by
 unfold NxB at hnx
 rw [h, show l.length - pre.length = x + 1 from by omega, findF, if_neg (by rw [hf]; decide), List.length_append, List.length_singleton, show l.length - (pre.length + 1) = x from by omega]
theorem oD (hnx : NxB l.length pre x) (h : findF f l l.length = findF f l (l.length - pre.length)) (hf : f (l.getD x Rec.z) = true) : findF f l l.length = (x : Int) := by
 unfold NxB at hnx
 rw [h, show l.length - pre.length = x + 1 from by omega, findF, if_pos hf]
theorem oy (h : findF f l l.length = findF f l (l.length - (backs l.length l.length).length)) : findF f l l.length = -1 := by
 rw [h, dF, Nat.sub_self]; rfl
end
def outR (l : List Rec) (n : Nat) : List By := List.replicate (l.length - n) [] ++ codesB (l.drop (l.length - n))
theorem jy (l : List Rec) (n : Nat) (h : n ≤ l.length) : (outR l n).length = l.length := by
 rw [outR, List.length_append, List.length_replicate, dl, List.length_drop]; omega
theorem pO (l : List Rec) : outR l 0 = List.replicate l.length [] := by
 rw [outR, Nat.sub_zero, List.drop_length]; simp [codesB]
theorem nS (l : List Rec) : outR l (backs l.length l.length).length = codesB l := by
 rw [dF, outR, Nat.sub_self]; simp
theorem m8 {l : List Rec} {pre : List Nat} {x : Nat} (hnx : NxB l.length pre x) : (outR l pre.length).set x (eB (l.getD x Rec.z)) = outR l (pre ++ [x]).length := by
 unfold NxB at hnx
 have e1 : l.length - pre.length = x + 1 := by omega
 have e2 : l.length - (pre ++ [x]).length = x := by rw [List.length_append, List.length_singleton]; omega
 unfold outR
 rw [e1, e2, List.replicate_succ', List.append_assoc, List.set_append_right _ _ (by rw [List.length_replicate]; exact Nat.le_refl _), List.length_replicate, Nat.sub_self, eS (show x < l.length by omega)]
 rfl
theorem nd {l : List Rec} {pre : List Nat} {x : Nat} (hnx : NxB l.length pre x) : ((outR l pre.length).map fun s => [sv s]).set x [sv (eB (l.getD x Rec.z))] = (outR l (pre ++ [x]).length).map fun s => [sv s] := by
 rw [← m8 hnx, List.map_set]
theorem mP {l : List Rec} {pre : List Nat} {x : Nat} (hnx : NxB l.length pre x) (hk : x < ((outR l pre.length).map fun s => [sv s]).length) : ((outR l pre.length).map fun s => [sv s]).set x (splice ((outR l pre.length).map fun s => [sv s])[x] 0 [sv (eB (l.getD x Rec.z))]) = (outR l (pre ++ [x]).length).map fun s => [sv s] := by
 rw [← nd hnx]; congr 1; rw [List.getElem_map]; rfl
theorem fi (x : Int) (n : Int) (w0 : World) :
  Ret Tryd.prog 56 #[iv x, iv n, iv 0] w0 fun v w => v = .tuple #[iv x, iv n] ∧ Ext No w0 w := by
 refine aF func56 rfl ntmps56 (lb rfl) fun a Z => ?_
 replace Z := Z.p3 0 1 2 rfl
 replace Y : St No w0 [] w0 := St.init w0
 refine aa fun K1 hK1 => wla Z rfl fun a Z => wla Z rfl fun a Z => ab (hK1 _ _ <| ac fun K2 hK2 => ?_)
 refine aa fun K3 hK3 => wlm Z rfl fun a Z => wlv Z ((v_ne rfl rfl).asb (b' := false) rfl) fun a Z => ab (hK3 _ _ <| aH Z rfl ?_)
 refine ap <| hK2 _ _ <| aa fun K4 hK4 => wlm Z rfl fun a Z => wlm Z rfl fun a Z => wla Z rfl fun a Z => wla Z rfl fun a Z => ab (hK4 _ _ ?_)
 replace Z := Z.p2 6 7 rfl
 refine aw ?_
 refine ar Z results56 (ae rfl (ae rfl ag)) ?_
 exact ⟨by rfl, Y.ext⟩
theorem ep (x : Int) (n : Int) (w0 : World) :
  Pan Tryd.prog 56 #[iv x, iv n, iv 10] w0 fun c w => c = [{ v := .iface 95 (.agg #[]), recovered := false }] ∧ Ext No w0 w := by
 refine nQ func56 rfl ntmps56 (lb rfl) fun a Z => ?_
 replace Z := Z.p3 0 1 2 rfl
 replace Y : St No w0 [] w0 := St.init w0
 refine aa fun K1 hK1 => wla Z rfl fun a Z => wla Z rfl fun a Z => ab (hK1 _ _ <| ac fun K2 hK2 => ?_)
 refine aa fun K3 hK3 => wlm Z rfl fun a Z => wlv Z ((v_ne rfl rfl).asb (b' := true) rfl) fun a Z => ab (hK3 _ _ <| aC Z rfl ?_)
 refine cf ?_
 refine bW 2 ?_
 refine wlv Z (bC (v := .agg #[]) rfl kr) fun a Z => wlv Z (dr rfl underlying95) fun a Z => ab <| fd Z rfl ?_
 exact gj (X := fun c w => c = [{ v := .iface 95 (.agg #[]), recovered := false }] ∧ Ext No w0 w) Z ⟨rfl, Y.ext⟩
theorem nI (x : By) (n : Int) (w0 : World) :
  Ret Tryd.prog 58 #[sv x, iv n, iv 0] w0 fun v w => v = .tuple #[sv x, iv n] ∧ Ext No w0 w := by
 refine aF func58 rfl ntmps58 (lb rfl) fun a Z => ?_
 replace Z := Z.p3 0 1 2 rfl
 replace Y : St No w0 [] w0 := St.init w0
 refine aa fun K1 hK1 => wla Z rfl fun a Z => wla Z rfl fun a Z => ab (hK1 _ _ <| ac fun K2 hK2 => ?_)
 refine aa fun K3 hK3 => wlm Z rfl fun a Z => wlv Z ((v_ne rfl rfl).asb (b' := false) rfl) fun a Z => ab (hK3 _ _ <| aH Z rfl ?_)
 refine ap <| hK2 _ _ <| aa fun K4 hK4 => wlm Z rfl fun a Z => wlm Z rfl fun a Z => wla Z rfl fun a Z => wla Z rfl fun a Z => ab (hK4 _ _ ?_)
 replace Z := Z.p2 6 7 rfl
 refine aw ?_
 refine ar Z results58 (ae rfl (ae rfl ag)) ?_
 exact ⟨by rfl, Y.ext⟩
theorem md (x : By) (n : Int) (w0 : World) :
  Pan Tryd.prog 58 #[sv x, iv n, iv 10] w0 fun c w => c = [{ v := .iface 95 (.agg #[]), recovered := false }] ∧ Ext No w0 w := by
 refine nQ func58 rfl ntmps58 (lb rfl) fun a Z => ?_
 replace Z := Z.p3 0 1 2 rfl
 replace Y : St No w0 [] w0 := St.init w0
 refine aa fun K1 hK1 => wla Z rfl fun a Z => wla Z rfl fun a Z => ab (hK1 _ _ <| ac fun K2 hK2 => ?_)
 refine aa fun K3 hK3 => wlm Z rfl fun a Z => wlv Z ((v_ne rfl rfl).asb (b' := true) rfl) fun a Z => ab (hK3 _ _ <| aC Z rfl ?_)
 refine cf ?_
 refine bW 2 ?_
 refine wlv Z (bC (v := .agg #[]) rfl kr) fun a Z => wlv Z (dr rfl underlying95) fun a Z => ab <| fd Z rfl ?_
 exact gj (X := fun c w => c = [{ v := .iface 95 (.agg #[]), recovered := false }] ∧ Ext No w0 w) Z ⟨rfl, Y.ext⟩
theorem lO {P : Program} {w : World} {L : List (Nat × Value)} {dst : Option Tmp} {T T' ty : TypeId} {pos : String} {af : Array Edge} {x y : Operand} (hx : ev L x = some .nilIface) (hy : ev L y = some .nilIface) (hr : (binOp .eql T .nilIface .nilIface).run P w = .ok (.bool true) w) (hg : (eqGuard .eql T x y .nilIface .nilIface).run P w = .ok () w) : OpV P ⟨dst, .binOp .eql T x y T', ty, pos, af, none⟩ L w (.bool true) :=
 ⟨rfl, fun N df a h => by
  simp only [execOp, h.eval hx, h.eval hy, Sem.run_bind, hg, hr, Result.andThen_ok]; rfl⟩
theorem dp {M : Nat → Prop} {w0 : World} (b2 b3 : Nat) (c0 c1 c2 c3 c4 c5 : Value) (ws : World) (Y : St M w0 [blk b2 [c0, c1, c2, c3, c4] 27, blk b3 [c5] 33] ws) :
  CallsDIn Fence.wide 0 Tryd.prog 55 #[pt b2, pt b3] (.panicking [{ v := .iface 95 (.agg #[]), recovered := false }]) ws fun e u' w => u' = (.panicking [{ v := .iface 95 (.agg #[]), recovered := true }]) ∧ ∃ x, e = .returned x ∧ St M w0 [blk b2 [iv 0, iv 0, iv 0, iv 0, sv ([] : By)] 27, blk b3 [iv 110] 33] w  := by
 refine ni (args := [pt b2, pt b3]) func55 rfl ntmps55 (lb rfl) rfl rfl de (fun _ _ => rfl) (.inr ⟨rfl, rfl⟩) fun a Z => ?_
 replace Z := Z.p3 5 0 1 rfl
 skip
 refine am <| aa fun K1 hK1 => wlv Z (kP rfl rfl kr kr) fun a Z => ab (hK1 _ _ <| aH Z rfl ?_)
 refine aa fun K2 hK2 => wlv Z (ir rfl underlying95) fun a Z => wlv Z (aj rfl rfl) fun a Z => wlv Z (aj rfl rfl) fun a Z => ab (hK2 _ _ <| aC Z rfl ?_)
 refine aa fun K3 hK3 => aU Z Y de (zeroValue95 _) (cs := []) rfl ?_
 clear Z Y
 intro a w1 Z Y
 refine aJ 0 Z Y rfl rfl rfl (sizeOf95 _) rfl (lb rfl) (ds := []) rfl rfl ?_
 clear Z Y
 intro a w2 Z Y
 refine ab (hK3 _ _ ?_)
 replace Z := Z.p2 0 1 rfl
 replace Y := Y.k2 6 rfl
 refine ao <| wlv Z (bC (v := .agg #[iv 0, iv 0, iv 0, iv 0, .string (⟨#[]⟩)]) rfl kr) fun a Z => aJ 0 Z Y rfl rfl rfl (sizeOf27 _) rfl (lb rfl) (ds := [iv 0, iv 0, iv 0, iv 0, .string (⟨#[]⟩)]) rfl rfl ?_
 clear Z Y
 intro a w3 Z Y
 refine aJ 1 Z Y rfl rfl rfl (sizeOf33 _) rfl (lb rfl) (ds := [iv 110]) rfl rfl ?_
 clear Z Y
 intro a w4 Z Y
 refine ab ?_
 refine jC Z results55 ag ?_
 exact Y.select [0, 1] de
theorem nG (b2 b3 : Nat) (ws : World) :
  CallsDIn Fence.wide 0 Tryd.prog 55 #[pt b2, pt b3] .returning ws fun e u' w => u' = .returning ∧ ∃ x, e = .returned x ∧ Ext No ws w  := by
 refine ni (args := [pt b2, pt b3]) func55 rfl ntmps55 (lb rfl) rfl rfl de (fun _ _ => rfl) (.inl ⟨rfl, rfl, rfl⟩) fun a Z => ?_
 replace Z := Z.p3 5 0 1 rfl
 replace Y : St No ws [] ws := St.init ws
 refine am <| aa fun K1 hK1 => wlv Z (lO rfl rfl kr kr) fun a Z => ab (hK1 _ _ <| aC Z rfl ?_)
 refine ao <| wla Z rfl fun a Z => ab ?_
 refine jC Z results55 ag ?_
 exact Y.ext
theorem pE (s : By) (w0 : World) (hsl : s.length ≤ 1000000) :
  Ret Tryd.prog 24 #[sv s] w0 fun v w => v = .tuple #[.agg (decX s).cells.toArray, iv (decE s)] ∧ Ext No w0 w := by
 refine oS func24 rfl ntmps24 (lb rfl) fun a Z => ?_
 replace Z := Z.p1 0 rfl
 replace Y : St No w0 [] w0 := St.init w0
 refine aa fun K1 hK1 => aU Z Y de (zeroValue27 _) (cs := [iv 0, iv 0, iv 0, iv 0, .string (⟨#[]⟩)]) rfl ?_
 clear Z Y
 intro a w1 Z Y
 refine aU Z Y de (zeroValue33 _) (cs := [iv 0]) rfl ?_
 clear Z Y
 intro a w2 Z Y
 refine ab (hK1 _ _ <| aa fun K2 hK2 => ?_)
 refine wlv Z (cE rfl rfl) fun a Z => na Z rfl fun a Z => ab (hK2 _ _ <| aa fun K3 hK3 => ?_)
 refine wla Z rfl fun a Z => ab (hK3 _ _ <| ac fun K4 hK4 => ?_)
 refine aa fun K5 hK5 => wlv Z (al (v := pt w0.hz) rfl kr) fun a Z => wlv Z (al (v := po w0.hz 1) rfl kr) fun a Z => wlv Z (al (v := po w0.hz 2) rfl kr) fun a Z => wlv Z (al (v := po w0.hz 3) rfl kr) fun a Z => wlv Z (bC (v := .agg #[pt w0.hz, po w0.hz 1, po w0.hz 2, po w0.hz 3]) rfl kr) fun a Z => wlm Z rfl fun a Z => ab (hK5 _ _ <| am ?_)
 refine cJ 6 ?_
 refine bf ?_
 refine aa fun K6 hK6 => wlv Z ((v_lt rfl rfl).asb (b' := true) rfl) fun a Z => ab (hK6 _ _ <| ac fun K7 hK7 => ?_)
 refine aC Z rfl ?_
 refine ap <| hK7 _ _ <| ac fun K8 hK8 => am <| aa fun K9 hK9 => wlv Z (er (v := pt w0.hz) rfl rfl kr) fun a Z => wla Z rfl fun a Z => ab (hK9 _ _ ?_)
 replace Z := Z.p7 0 2 3 4 12 13 6 rfl
 refine cf ?_
 refine bW 7 ?_
 refine wlm Z rfl fun a Z => wlm Z rfl fun a Z => wlm Z rfl fun a Z => ?_
 rcases Bool.eq_false_or_eq_true ((rdI s).isSome) with hb1 | hb1
 ·try simp only [qz] at hb1
  obtain ⟨⟨n1, r1⟩, hq1⟩ := Option.isSome_iff_exists.1 hb1
  have hd1 := nw.trans (fN hq1)
  have hsf1 := (dU hq1).trans (List.suffix_refl s)
  refine ak Z Y de call57 rfl (es sm (List.suffix_refl s) hsl hq1) ?_
  clear Z Y
  intro a w3 Z Y
  refine wlv Z (aj rfl rfl) fun a Z => wlv Z (aj rfl rfl) fun a Z => wlv Z (aj rfl rfl) fun a Z => ab <| bW 1 ?_
  refine ak Z Y de call56 rfl (fi n1 ((s.length - r1.length : Nat) : Int) _) ?_
  clear Z Y
  intro a w4 Z Y
  refine ab <| j3 ?_
  refine wlm Z rfl fun a Z => wlv Z (aj rfl rfl) fun a Z => wlv Z (aj rfl rfl) fun a Z => wlv Z (bq rfl) fun a Z => aJ 1 Z Y rfl rfl rfl (sizeOf3 _) rfl (lb rfl) (ds := [iv n1, iv 0, iv 0, iv 0, .string (⟨#[]⟩)]) rfl rfl ?_
  clear Z Y
  intro a w5 Z Y
  refine wla Z rfl fun a Z => ab <| hK8 _ _ ?_
  replace Z := Z.p6 0 2 3 12 13 4 rfl
  refine ao <| wlv Z ((aT rfl rfl de).asi (m' := 1) rfl) fun a Z => wlm Z rfl fun a Z => ab <| bf ?_
  refine aa fun K10 hK10 => wlv Z ((v_lt rfl rfl).asb (b' := true) rfl) fun a Z => ab (hK10 _ _ <| ac fun K11 hK11 => ?_)
  refine aC Z rfl ?_
  refine ap <| hK11 _ _ <| ac fun K12 hK12 => am <| aa fun K13 hK13 => wlv Z (er (v := po w0.hz 1) rfl rfl kr) fun a Z => wla Z rfl fun a Z => ab (hK13 _ _ <| cf ?_)
  refine bW 7 ?_
  refine wlm Z rfl fun a Z => wlm Z rfl fun a Z => wlm Z rfl fun a Z => ?_
  rcases Bool.eq_false_or_eq_true ((rdI r1).isSome) with hb2 | hb2
  ·try simp only [qz] at hb2
   obtain ⟨⟨n2, r2⟩, hq2⟩ := Option.isSome_iff_exists.1 hb2
   have hd2 := hd1.trans (fN hq2)
   have hsf2 := (dU hq2).trans hsf1
   refine ak Z Y de call57 rfl (es rfl hsf1 hsl hq2) ?_
   clear Z Y
   intro a w6 Z Y
   refine wlv Z (aj rfl rfl) fun a Z => wlv Z (aj rfl rfl) fun a Z => wlv Z (aj rfl rfl) fun a Z => ab <| bW 1 ?_
   refine ak Z Y de call56 rfl (fi n2 ((s.length - r2.length : Nat) : Int) _) ?_
   clear Z Y
   intro a w7 Z Y
   refine ab <| j3 ?_
   refine wlm Z rfl fun a Z => wlv Z (aj rfl rfl) fun a Z => wlv Z (aj rfl rfl) fun a Z => wlv Z (bq rfl) fun a Z => aJ 1 Z Y rfl rfl rfl (sizeOf3 _) rfl (lb rfl) (ds := [iv n1, iv n2, iv 0, iv 0, .string (⟨#[]⟩)]) rfl rfl ?_
   clear Z Y
   intro a w8 Z Y
   refine wla Z rfl fun a Z => ab <| hK12 _ _ ?_
   replace Z := Z.p6 0 2 3 12 13 4 rfl
   refine ao <| wlv Z ((aT rfl rfl de).asi (m' := 2) rfl) fun a Z => wlm Z rfl fun a Z => ab <| bf ?_
   refine aa fun K14 hK14 => wlv Z ((v_lt rfl rfl).asb (b' := true) rfl) fun a Z => ab (hK14 _ _ <| ac fun K15 hK15 => ?_)
   refine aC Z rfl ?_
   refine ap <| hK15 _ _ <| ac fun K16 hK16 => am <| aa fun K17 hK17 => wlv Z (er (v := po w0.hz 2) rfl rfl kr) fun a Z => wla Z rfl fun a Z => ab (hK17 _ _ <| cf ?_)
   refine bW 7 ?_
   refine wlm Z rfl fun a Z => wlm Z rfl fun a Z => wlm Z rfl fun a Z => ?_
   rcases Bool.eq_false_or_eq_true ((rdI r2).isSome) with hb3 | hb3
   ·try simp only [qz] at hb3
    obtain ⟨⟨n3, r3⟩, hq3⟩ := Option.isSome_iff_exists.1 hb3
    have hd3 := hd2.trans (fN hq3)
    have hsf3 := (dU hq3).trans hsf2
    refine ak Z Y de call57 rfl (es rfl hsf2 hsl hq3) ?_
    clear Z Y
    intro a w9 Z Y
    refine wlv Z (aj rfl rfl) fun a Z => wlv Z (aj rfl rfl) fun a Z => wlv Z (aj rfl rfl) fun a Z => ab <| bW 1 ?_
    refine ak Z Y de call56 rfl (fi n3 ((s.length - r3.length : Nat) : Int) _) ?_
    clear Z Y
    intro a w10 Z Y
    refine ab <| j3 ?_
    refine wlm Z rfl fun a Z => wlv Z (aj rfl rfl) fun a Z => wlv Z (aj rfl rfl) fun a Z => wlv Z (bq rfl) fun a Z => aJ 1 Z Y rfl rfl rfl (sizeOf3 _) rfl (lb rfl) (ds := [iv n1, iv n2, iv n3, iv 0, .string (⟨#[]⟩)]) rfl rfl ?_
    clear Z Y
    intro a w11 Z Y
    refine wla Z rfl fun a Z => ab <| hK16 _ _ ?_
    replace Z := Z.p6 0 2 3 12 13 4 rfl
    refine ao <| wlv Z ((aT rfl rfl de).asi (m' := 3) rfl) fun a Z => wlm Z rfl fun a Z => ab <| bf ?_
    refine aa fun K18 hK18 => wlv Z ((v_lt rfl rfl).asb (b' := true) rfl) fun a Z => ab (hK18 _ _ <| ac fun K19 hK19 => ?_)
    refine aC Z rfl ?_
    refine ap <| hK19 _ _ <| ac fun K20 hK20 => am <| aa fun K21 hK21 => wlv Z (er (v := po w0.hz 3) rfl rfl kr) fun a Z => wla Z rfl fun a Z => ab (hK21 _ _ <| cf ?_)
    refine bW 7 ?_
    refine wlm Z rfl fun a Z => wlm Z rfl fun a Z => wlm Z rfl fun a Z => ?_
    rcases Bool.eq_false_or_eq_true ((rdI r3).isSome) with hb4 | hb4
    ·try simp only [qz] at hb4
     obtain ⟨⟨n4, r4⟩, hq4⟩ := Option.isSome_iff_exists.1 hb4
     have hd4 := hd3.trans (fN hq4)
     have hsf4 := (dU hq4).trans hsf3
     refine ak Z Y de call57 rfl (es rfl hsf3 hsl hq4) ?_
     clear Z Y
     intro a w12 Z Y
     refine wlv Z (aj rfl rfl) fun a Z => wlv Z (aj rfl rfl) fun a Z => wlv Z (aj rfl rfl) fun a Z => ab <| bW 1 ?_
     refine ak Z Y de call56 rfl (fi n4 ((s.length - r4.length : Nat) : Int) _) ?_
     clear Z Y
     intro a w13 Z Y
     refine ab <| j3 ?_
     refine wlm Z rfl fun a Z => wlv Z (aj rfl rfl) fun a Z => wlv Z (aj rfl rfl) fun a Z => wlv Z (bq rfl) fun a Z => aJ 1 Z Y rfl rfl rfl (sizeOf3 _) rfl (lb rfl) (ds := [iv n1, iv n2, iv n3, iv n4, .string (⟨#[]⟩)]) rfl rfl ?_
     clear Z Y
     intro a w14 Z Y
     refine wla Z rfl fun a Z => ab <| hK20 _ _ ?_
     replace Z := Z.p6 0 2 3 12 13 4 rfl
     refine ao <| wlv Z ((aT rfl rfl de).asi (m' := 4) rfl) fun a Z => wlm Z rfl fun a Z => ab <| bf ?_
     refine aa fun K22 hK22 => wlv Z ((v_lt rfl rfl).asb (b' := false) rfl) fun a Z => ab (hK22 _ _ <| ac fun K23 hK23 => ?_)
     refine aH Z rfl ?_
     refine aE <| hK4 _ _ <| fZ fun K24 hK24 hP24 => bW 6 ?_
     refine wlm Z rfl fun a Z => wlm Z rfl fun a Z => ?_
     rcases Bool.eq_false_or_eq_true ((rdS r4).isSome) with hb5 | hb5
     ·try simp only [qz] at hb5
      obtain ⟨⟨x9, r5⟩, hq5⟩ := Option.isSome_iff_exists.1 hb5
      have hd5 := hd4.trans (mD.trans (no hq5))
      have hsf5 := (oo hq5).trans hsf4
      refine ak Z Y de call59 rfl (mz s r4 x9 r5 _ _ rfl hsf4 hsl hq5) ?_
      clear Z Y
      intro a w15 Z Y
      refine wlv Z (aj rfl rfl) fun a Z => wlv Z (aj rfl rfl) fun a Z => wlv Z (aj rfl rfl) fun a Z => ab <| bW 1 ?_
      refine ak Z Y de call58 rfl (nI x9 ((s.length - r5.length : Nat) : Int) _) ?_
      clear Z Y
      intro a w16 Z Y
      refine ab <| j3 ?_
      refine wlm Z rfl fun a Z => wlv Z (aj rfl rfl) fun a Z => wlv Z (aj rfl rfl) fun a Z => wlv Z (al (v := po w0.hz 4) rfl kr) fun a Z => aJ 1 Z Y rfl rfl rfl (sizeOf9 _) rfl (lb rfl) (ds := [iv n1, iv n2, iv n3, iv n4, sv x9]) rfl rfl ?_
      clear Z Y
      intro a w17 Z Y
      refine wla Z rfl fun a Z => ab (hK24 _ _ ?_)
      replace Z := Z.p4 0 2 3 4 rfl
      refine ac fun K25 hK25 => aa fun K26 hK26 => wlm Z rfl fun a Z => wlm Z rfl fun a Z => wlv Z (bn rfl rfl (runUnderlying9 _)) fun a Z => wlv Z (v_lt rfl rfl) fun a Z => wlm Z rfl fun a Z => ?_
      rcases Bool.eq_false_or_eq_true (decide (((s.length - r5.length : Nat) : Int) < (s.length : Int))) with hb6 | hb6
      ·rw [hb6] at Z
       try simp only [qz] at hb6
       have hdn := hd5.trans (mb (by intro h0; have h1 := congrArg List.length h0; rw [List.length_nil] at h1; omega))
       refine wln Z fun a Z => wln Z fun a Z => wln Z fun a Z => wlv Z (aB rfl rfl) fun a Z => ab (hK26 _ _ ?_)
       replace Z := Z.p3 2 3 48 rfl
       refine aC Z rfl ?_
       refine cf ?_
       refine bW 2 ?_
       refine wlv Z (bC (v := .agg #[]) rfl kr) fun a Z => wlv Z (dr rfl underlying95) fun a Z => ab <| fd Z rfl ?_
       replace Y : St No w0 [blk w0.hz [iv n1, iv n2, iv n3, iv n4, sv x9] 27, blk w1.hz [iv 0] 33] w17 := Y.select [1, 0] de
       exact cD Z call55 (dp _ _ _ _ _ _ _ _ _ Y) results24 (fun w9 Y => ⟨(aR rfl (ca (Y.g 0 rfl) (isAgg27 _) (sizeOf27 _)) (aR rfl (cK (Y.g 1 rfl) (isAgg33 _)) ag)), by simp only [retv]; unfold decX decE; rw [hdn]; rfl, Y.ext⟩)
      rw [hb6] at Z
      try simp only [qz] at hb6
      have hqn : r5 = [] := List.eq_nil_of_length_eq_zero (by have := hsf5.length_le; omega)
      refine wly Z (aq (Y.g 1 rfl) rfl (isAgg27 _) (sizeOf27 _)) fun a Z => aQ Z Y de rfl de rfl call45 rfl (eU (⟨n1, n2, n3, n4, x9⟩ : Rec) _) ?_
      clear Z Y
      intro a w18 Z Y
      refine wly Z (aX rfl) fun a Z => wlv Z (aA rfl rfl) fun a Z => ab (hK26 _ _ ?_)
      replace Z := Z.p3 2 3 48 rfl
      refine az Z rfl (fun hc7 => ?_) (fun hc7 => ?_)
      ·rw [hc7] at Z
       try simp only [qz] at hc7
       have hdn := hd5.trans (mn (by exact hc7))
       refine cf ?_
       refine bW 2 ?_
       refine wlv Z (bC (v := .agg #[]) rfl kr) fun a Z => wlv Z (dr rfl underlying95) fun a Z => ab <| fd Z rfl ?_
       replace Y : St No w0 [blk w0.hz [iv n1, iv n2, iv n3, iv n4, sv x9] 27, blk w1.hz [iv 0] 33] w18 := Y.select [1, 0] de
       exact cD Z call55 (dp _ _ _ _ _ _ _ _ _ Y) results24 (fun w9 Y => ⟨(aR rfl (ca (Y.g 0 rfl) (isAgg27 _) (sizeOf27 _)) (aR rfl (cK (Y.g 1 rfl) (isAgg33 _)) ag)), by simp only [retv]; unfold decX decE; rw [hdn]; rfl, Y.ext⟩)
      rw [hc7] at Z
      try simp only [qz] at hc7
      have hds := hd5.trans (lA hqn (by exact hc7))
      refine ap <| hK25 _ _ <| aa fun K27 hK27 => wlv Z (aq (Y.g 1 rfl) rfl (isAgg27 _) (sizeOf27 _)) fun a Z => aJ 1 Z Y rfl rfl rfl (sizeOf27 _) rfl (lb rfl) (ds := [iv n1, iv n2, iv n3, iv n4, sv x9]) rfl rfl ?_
      clear Z Y
      intro a w19 Z Y
      refine aJ 0 Z Y rfl rfl rfl (sizeOf33 _) rfl (lb rfl) (ds := [iv 0]) rfl rfl ?_
      clear Z Y
      intro a w20 Z Y
      refine ab (hK27 _ _ <| aw ?_)
      refine mX (vs := [.agg #[iv n1, iv n2, iv n3, iv n4, sv x9], iv 0]) Z call55 (nG _ _ _) results24 (fun w9 hx => ?_)
      have Y := Y.grow hx
      exact ⟨(aR rfl (ca (Y.g 1 rfl) (isAgg27 _) (sizeOf27 _)) (aR rfl (cK (Y.g 0 rfl) (isAgg33 _)) ag)), by simp only [retv]; unfold decX decE; rw [hds]; rfl, Y.ext⟩
     try simp only [qz] at hb5
     have hq5 : rdS r4 = none := by
      cases h : rdS r4 with
      | none => rfl
      | some z => rw [h] at hb5; cases hb5
     have hdn := hd4.trans (mD.trans (mg hq5))
     refine ak Z Y de call59 rfl (kx rfl hsf4 hsl hq5) ?_
     clear Z Y
     intro a w21 Z Y
     refine wlv Z (aj rfl rfl) fun a Z => wlv Z (aj rfl rfl) fun a Z => wlv Z (aj rfl rfl) fun a Z => ab <| gG (X := fun c w2 => c = [{ v := .iface 95 (.agg #[]), recovered := false }] ∧ Ext No w21 w2) Z call58 rfl (md ([]) 0 _) ?_
     rintro _ w22 ⟨rfl, hx⟩
     have Y := Y.grow hx
     refine hP24 _ _ _ ?_
     replace Y : St No w0 [blk w0.hz [iv n1, iv n2, iv n3, iv n4, .string (⟨#[]⟩)] 27, blk w1.hz [iv 0] 33] w22 := Y.select [1, 0] de
     exact cD Z call55 (dp _ _ _ _ _ _ _ _ _ Y) results24 (fun w9 Y => ⟨(aR rfl (ca (Y.g 0 rfl) (isAgg27 _) (sizeOf27 _)) (aR rfl (cK (Y.g 1 rfl) (isAgg33 _)) ag)), by simp only [retv]; unfold decX decE; rw [hdn]; rfl, Y.ext⟩)
    try simp only [qz] at hb4
    have hq4 : rdI r3 = none := by
     cases h : rdI r3 with
     | none => rfl
     | some z => rw [h] at hb4; cases hb4
    have hdn := hd3.trans (fl hq4)
    refine ak Z Y de call57 rfl (ea rfl hsf3 hsl hq4) ?_
    clear Z Y
    intro a w23 Z Y
    refine wlv Z (aj rfl rfl) fun a Z => wlv Z (aj rfl rfl) fun a Z => wlv Z (aj rfl rfl) fun a Z => ab <| gG (X := fun c w2 => c = [{ v := .iface 95 (.agg #[]), recovered := false }] ∧ Ext No w23 w2) Z call56 rfl (ep 0 0 _) ?_
    rintro _ w24 ⟨rfl, hx⟩
    have Y := Y.grow hx
    replace Y : St No w0 [blk w0.hz [iv n1, iv n2, iv n3, iv 0, .string (⟨#[]⟩)] 27, blk w1.hz [iv 0] 33] w24 := Y.select [1, 0] de
    exact cD Z call55 (dp _ _ _ _ _ _ _ _ _ Y) results24 (fun w9 Y => ⟨(aR rfl (ca (Y.g 0 rfl) (isAgg27 _) (sizeOf27 _)) (aR rfl (cK (Y.g 1 rfl) (isAgg33 _)) ag)), by simp only [retv]; unfold decX decE; rw [hdn]; rfl, Y.ext⟩)
   try simp only [qz] at hb3
   have hq3 : rdI r2 = none := by
    cases h : rdI r2 with
    | none => rfl
    | some z => rw [h] at hb3; cases hb3
   have hdn := hd2.trans (fl hq3)
   refine ak Z Y de call57 rfl (ea rfl hsf2 hsl hq3) ?_
   clear Z Y
   intro a w25 Z Y
   refine wlv Z (aj rfl rfl) fun a Z => wlv Z (aj rfl rfl) fun a Z => wlv Z (aj rfl rfl) fun a Z => ab <| gG (X := fun c w2 => c = [{ v := .iface 95 (.agg #[]), recovered := false }] ∧ Ext No w25 w2) Z call56 rfl (ep 0 0 _) ?_
   rintro _ w26 ⟨rfl, hx⟩
   have Y := Y.grow hx
   replace Y : St No w0 [blk w0.hz [iv n1, iv n2, iv 0, iv 0, .string (⟨#[]⟩)] 27, blk w1.hz [iv 0] 33] w26 := Y.select [1, 0] de
   exact cD Z call55 (dp _ _ _ _ _ _ _ _ _ Y) results24 (fun w9 Y => ⟨(aR rfl (ca (Y.g 0 rfl) (isAgg27 _) (sizeOf27 _)) (aR rfl (cK (Y.g 1 rfl) (isAgg33 _)) ag)), by simp only [retv]; unfold decX decE; rw [hdn]; rfl, Y.ext⟩)
  try simp only [qz] at hb2
  have hq2 : rdI r1 = none := by
   cases h : rdI r1 with
   | none => rfl
   | some z => rw [h] at hb2; cases hb2
  have hdn := hd1.trans (fl hq2)
  refine ak Z Y de call57 rfl (ea rfl hsf1 hsl hq2) ?_
  clear Z Y
  intro a w27 Z Y
  refine wlv Z (aj rfl rfl) fun a Z => wlv Z (aj rfl rfl) fun a Z => wlv Z (aj rfl rfl) fun a Z => ab <| gG (X := fun c w2 => c = [{ v := .iface 95 (.agg #[]), recovered := false }] ∧ Ext No w27 w2) Z call56 rfl (ep 0 0 _) ?_
  rintro _ w28 ⟨rfl, hx⟩
  have Y := Y.grow hx
  replace Y : St No w0 [blk w0.hz [iv n1, iv 0, iv 0, iv 0, .string (⟨#[]⟩)] 27, blk w1.hz [iv 0] 33] w28 := Y.select [1, 0] de
  exact cD Z call55 (dp _ _ _ _ _ _ _ _ _ Y) results24 (fun w9 Y => ⟨(aR rfl (ca (Y.g 0 rfl) (isAgg27 _) (sizeOf27 _)) (aR rfl (cK (Y.g 1 rfl) (isAgg33 _)) ag)), by simp only [retv]; unfold decX decE; rw [hdn]; rfl, Y.ext⟩)
 try simp only [qz] at hb1
 have hq1 : rdI s = none := by
  cases h : rdI s with
  | none => rfl
  | some z => rw [h] at hb1; cases hb1
 have hdn := nw.trans (fl hq1)
 refine ak Z Y de call57 rfl (ea sm (List.suffix_refl s) hsl hq1) ?_
 clear Z Y
 intro a w29 Z Y
 refine wlv Z (aj rfl rfl) fun a Z => wlv Z (aj rfl rfl) fun a Z => wlv Z (aj rfl rfl) fun a Z => ab <| gG (X := fun c w2 => c = [{ v := .iface 95 (.agg #[]), recovered := false }] ∧ Ext No w29 w2) Z call56 rfl (ep 0 0 _) ?_
 rintro _ w30 ⟨rfl, hx⟩
 have Y := Y.grow hx
 replace Y : St No w0 [blk w0.hz [iv 0, iv 0, iv 0, iv 0, .string (⟨#[]⟩)] 27, blk w1.hz [iv 0] 33] w30 := Y.select [1, 0] de
 exact cD Z call55 (dp _ _ _ _ _ _ _ _ _ Y) results24 (fun w9 Y => ⟨(aR rfl (ca (Y.g 0 rfl) (isAgg27 _) (sizeOf27 _)) (aR rfl (cK (Y.g 1 rfl) (isAgg33 _)) ag)), by simp only [retv]; unfold decX decE; rw [hdn]; rfl, Y.ext⟩)
theorem nk (o : Int) (lv : Value) (l : List Rec) (x : Rec) (w0 : World) (hlv : SlAt w0 lv 5 (l.map Rec.cells)) (hll : l.length ≤ 1000) (hok : addOk o l x = true) :
  Ret Tryd.prog 13 #[.agg #[iv o, lv], .agg #[iv x.t, iv x.kind, iv x.a, iv x.b, sv x.text]] w0 (MemR w0 (fun v : Value => .tuple #[.agg #[iv o, v], iv 0]) (fun v => [own v 27 5 ((l ++ [x]).map Rec.cells)]) (fun _ => True)) := by
 refine aF func13 rfl ntmps13 (lb rfl) fun a Z => ?_
 replace Z := Z.p2 0 1 rfl
 replace Y : St No w0 [] w0 := St.init w0
 refine aa fun K1 hK1 => bp Z Y de rfl (cs := [iv o, lv]) rfl ?_
 clear Z Y
 intro a w1 Z Y
 refine bp Z Y de rfl (cs := [iv x.t, iv x.kind, iv x.a, iv x.b, sv x.text]) rfl ?_
 clear Z Y
 intro a w2 Z Y
 refine aU Z Y de (zeroValue25 _) (cs := [iv 0, .slice none 0 0]) rfl ?_
 clear Z Y
 intro a w3 Z Y
 refine wla Z rfl fun a Z => ab (hK1 _ _ <| ac fun K2 hK2 => ?_)
 refine aI kr (aL kr fun w4 hxz => ?_)
 replace Y := Y.grow hxz
 refine aP (k := 0) 11 [9, 10] Z kr kr kr rfx ?_
 replace Z := Z.p6 0 1 2 3 4 5 rfl
 refine dD 2 5 8 9 (fun v => own v 27 5 ([])) (fun v => own v 27 5 (([]) ++ ((l).map Rec.cells))) (fun v => own v 27 5 ((([]) ++ ((l).map Rec.cells)) ++ ([[iv x.t, iv x.kind, iv x.a, iv x.b, sv x.text]]))) (fun u => .agg #[iv o, u]) 11 [[], [0], [], [], [3], [2, 4], [], [6], [5, 7], [1, 8], []] (fun i => match i with | 0 => pv (pt w0.hz) | 1 => pv (iv o) | 2 => fun v E => E = [] | 3 => pv (po w0.hz 1) | 4 => pv (lv) | 5 => fun v E => E = [] | 6 => pv (.agg #[iv x.t, iv x.kind, iv x.a, iv x.b, sv x.text]) | 7 => pm (fun b : Nat => .slice (some ⟨b, 0, none⟩) 1 1) (fun b => [own (.slice (some ⟨b, 0, none⟩) 1 1) 27 5 [[iv x.t, iv x.kind, iv x.a, iv x.b, sv x.text]]]) (fun _ => True) | 8 => fun v E => E = [] | 9 => fun v E => E = [] | 10 => pm (fun b : Nat => pt b) (fun b => [blk b [iv 0, .slice none 0 0] 25]) (fun _ => True) | _ => fun _ _ => False) Z Y kr kr kr de de de de de ?_ ?_ ?_ ?_ ?_ ?_ ?_
 ·intro i v E h
  match i, h with
  | 0, _ => exact by decide
  | 1, _ => exact by decide
  | 2, _ => exact by decide
  | 3, _ => exact by decide
  | 4, _ => exact by decide
  | 5, _ => exact by decide
  | 6, _ => exact by decide
  | 7, _ => exact by decide
  | 8, _ => exact by decide
  | 9, _ => exact by decide
  | 10, _ => exact by decide
  | i + 11, h => exact h.elim
 ·intro i hi h0 h1 h2 h3 e
  match i, hi, h0, h1, h2, h3 with
  | 0, _, _, _, _, _ => exact fun w Y => OpV.g (al (v := pt w0.hz) rfl kr)
  | 1, _, _, _, _, _ =>
   rintro _ _ ⟨rfl, rfl⟩
   intro w Y
   exact OpV.g (ld Y 3 rfl rfl (isAgg3 _) rfl)
  | 2, _, h, _, _, _ => exact absurd rfl h
  | 3, _, _, _, _, _ => exact fun w Y => OpV.g (al (v := po w0.hz 1) rfl kr)
  | 4, _, _, _, _, _ =>
   rintro _ _ ⟨rfl, rfl⟩
   intro w Y
   exact OpV.g (ld Y 3 rfl rfl (isAgg23 _) rfl)
  | 5, _, _, h, _, _ => exact absurd rfl h
  | 6, _, _, _, _, _ => exact fun w Y => OpV.g (aq (Y.g 2 rfl) rfl (isAgg27 _) (sizeOf27 _))
  | 7, _, _, _, _, _ =>
   rintro _ _ ⟨rfl, rfl⟩
   intro w Y
   exact aW (E := 27) (sz := 5) rfl [[iv x.t, iv x.kind, iv x.a, iv x.b, sv x.text]] (fun _ => by kernel_rfl) sm rfl de
  | 8, _, _, _, h, _ => exact absurd rfl h
  | 9, _, _, _, _, h => exact absurd rfl h
  | 10, _, _, _, _, _ => exact fun w Y => iy (zeroValue25 _) (cs := [iv 0, .slice none 0 0]) rfl
 ·intro w Y
  exact OpR.to_own (f := fun b : Nat => .slice (some ⟨b, 0, none⟩) 0 0) (e := fun v => own v 27 5 []) (aW (E := 27) (sz := 5) rfl [] (fun _ => by kernel_rfl) sm rfl de) (fun v => rfl)
 ·rintro s1 _ rfl _ _ ⟨rfl, rfl⟩
  intro w Y
  replace Y : St No w0 (own s1 27 5 ([]) :: _) w := Y
  exact (cL (Y.g 0 rfl) rfl rfl (Y.arg hlv) underlying23 (inf := Tryd.t27) (z := .agg #[iv 0, iv 0, iv 0, iv 0, .string (⟨#[]⟩)]) rfl rfl rfl rfl de (by first | (simp [Value.oneCell', yv, wv, sv]; done) | exact eV (by intro e he; obtain ⟨p, _, rfl⟩ := List.mem_map.1 he; exact ⟨p, rfl⟩)) (by have hby : Tryd.t27.bytes = 48 := rfl; simp only [big, hby, List.length_append, List.length_map, List.length_cons, List.length_nil]; omega) (by have hby : Tryd.t27.bytes = 48 := rfl; simp only [big, hby, List.length_append, List.length_map, List.length_cons, List.length_nil]; omega)).mono fun v w' ⟨h1, h2, h3⟩ => ⟨h1, h2, h3, rfl⟩
 ·rintro s2 _ rfl _ _ ⟨b3, rfl, -, rfl⟩
  intro w Y
  replace Y : St No w0 (own s2 27 5 (([]) ++ ((l).map Rec.cells)) :: _) w := Y
  exact (cL (Y.g 0 rfl) rfl rfl (Y.ow 1 rfl) underlying23 (inf := Tryd.t27) (z := .agg #[iv 0, iv 0, iv 0, iv 0, .string (⟨#[]⟩)]) rfl rfl rfl rfl de (by first | (simp [Value.oneCell', yv, wv, sv]; done) | exact eV (by intro e he; obtain ⟨p, _, rfl⟩ := List.mem_map.1 he; exact ⟨p, rfl⟩)) (by have hby : Tryd.t27.bytes = 48 := rfl; simp only [big, hby, List.length_append, List.length_map, List.length_cons, List.length_nil]; omega) (by have hby : Tryd.t27.bytes = 48 := rfl; simp only [big, hby, List.length_append, List.length_map, List.length_cons, List.length_nil]; omega)).mono fun v w' ⟨h1, h2, h3⟩ => ⟨h1, h2, h3, rfl⟩
 ·rintro _ _ ⟨rfl, rfl⟩ s4 _ rfl
  intro w Y
  have Y : St No w0 (own s4 27 5 ((([]) ++ ((l).map Rec.cells)) ++ ([[iv x.t, iv x.kind, iv x.a, iv x.b, sv x.text]])) :: _) w := Y
  obtain ⟨_, _, _, esl⟩ := iC (Y.ow 0 rfl)
  exact OpV.hopv (OpV.g (bC (v := .agg #[iv o, s4]) rfl (by rw [esl]; kernel_rfl))) rfl
 clear Z Y
 rintro vq _ _ ⟨⟨rfl, rfl⟩, -⟩ _ _ ⟨⟨rfl, rfl⟩, -⟩ s1 _ ⟨rfl, -, -⟩ _ _ ⟨⟨rfl, rfl⟩, -⟩ _ _ ⟨⟨rfl, rfl⟩, -⟩ s2 _ ⟨rfl, -, -⟩ _ _ ⟨⟨rfl, rfl⟩, -⟩ _ _ ⟨⟨b3, rfl, -, rfl⟩, -⟩ s4 _ ⟨rfl, hvq, -⟩ _ _ ⟨rfl, -, hv3⟩ _ _ ⟨⟨b5, rfl, -, rfl⟩, -⟩ a w5 Z Y
 obtain rfl := hvq rfl
 obtain rfl := hv3 rfl
 replace Z := Z.p17 7 8 9 10 11 12 13 14 15 16 6 0 1 2 3 4 5 rfl
 replace Y : St No w0 [_, _, _, _, _, _] w5 := Y
 replace Y : St No w0 [own (.slice (some ⟨b3, 0, none⟩) 1 1) 27 5 ([[iv x.t, iv x.kind, iv x.a, iv x.b, sv x.text]]), blk b5 [iv 0, .slice none 0 0] 25, own s4 27 5 ((l ++ [x]).map Rec.cells), blk w2.hz [iv 0, .slice none 0 0] 25, blk w1.hz [iv x.t, iv x.kind, iv x.a, iv x.b, sv x.text] 27, blk w0.hz [iv o, lv] 25] w5 := by rw [List.map_append]; exact Y
 refine ab <| aK (k := 11) 12 [11] kr kr kr ?_
 refine bI (us := [iv o, s4]) 1 Z Y rfl rfl rfl (sizeOf25 _) (by intro z hz; simp only [List.mem_cons, List.not_mem_nil, or_false] at hz; rcases hz with rfl | rfl <;> first | rfl | exact SlAt.one (Y.ow 2 rfl)) (lb rfl) (ds := [iv o, s4]) rfl rfl ?_
 clear Z Y
 intro a w6 Z Y
 refine ab <| aO kr ?_
 refine hK2 _ _ ?_
 replace Z := Z.p4 2 4 5 6 rfl
 replace Y := Y.k4 46 rfl
 refine ac fun K3 hK3 => aa fun K4 hK4 => wlv Z (aq (Y.g 3 rfl) rfl (isAgg25 _) (sizeOf25 _)) fun a Z => ak Z Y de call16 rfl (dS o lv l _ (Y.arg hlv)) ?_
 clear Z Y
 intro a w7 Z Y
 refine wlv Z (aX rfl) fun a Z => wlm Z rfl fun a Z => ?_
 rcases Bool.eq_false_or_eq_true (!(logOk o l)) with hb6 | hb6
 ·rw [hb6] at Z
  try simp only [qz] at hb6
  exfalso; obtain ⟨h1, h2⟩ := gY hok; simp [h1, h2] at hb6
 rw [hb6] at Z
 try simp only [qz] at hb6
 refine wly Z (aq (Y.g 0 rfl) rfl (isAgg25 _) (sizeOf25 _)) fun a Z => aQ Z Y de rfl de rfl call16 rfl (dS o s4 (l ++ [x]) _ (Y.ow 1 rfl)) ?_
 clear Z Y
 intro a w8 Z Y
 refine wly Z (aX rfl) fun a Z => wlv Z (aA rfl rfl) fun a Z => ab (hK4 _ _ ?_)
 replace Z := Z.p4 4 5 6 24 rfl
 replace Y := Y.k3 7 rfl
 refine az Z rfl (fun hc7 => ?_) (fun hc7 => ?_)
 ·rw [hc7] at Z
  try simp only [qz] at hc7
  exfalso; obtain ⟨h1, h2⟩ := gY hok; simp [h1, h2] at hc7
 rw [hc7] at Z
 try simp only [qz] at hc7
 refine ap <| hK3 _ _ <| aa fun K5 hK5 => wlv Z (aq (Y.g 0 rfl) rfl (isAgg25 _) (sizeOf25 _)) fun a Z => bI (us := [iv o, s4]) 2 Z Y rfl rfl rfl (sizeOf25 _) (by intro z hz; simp only [List.mem_cons, List.not_mem_nil, or_false] at hz; rcases hz with rfl | rfl <;> first | rfl | exact SlAt.one (Y.ow 1 rfl)) (lb rfl) (ds := [iv o, s4]) rfl rfl ?_
 clear Z Y
 intro a w9 Z Y
 refine wla Z rfl fun a Z => ab (hK5 _ _ <| aw ?_)
 refine ar Z results13 (aR rfl (ca (Y.g 2 rfl) (isAgg25 _) (sizeOf25 _)) (ae rfl ag)) ?_
 exact ⟨_, rfl, trivial, Y.ext, St.out (E := [own _ 27 5 ((l ++ [x]).map Rec.cells)]) (H := []) (Y.select [1] de)⟩
theorem oQ (o : Int) (lv : Value) (l : List Rec) (x : Rec) (w0 : World) (hlv : SlAt w0 lv 5 (l.map Rec.cells)) (hll : l.length ≤ 1000) (hok : addOk o l x = false) :
  Ret Tryd.prog 13 #[.agg #[iv o, lv], .agg #[iv x.t, iv x.kind, iv x.a, iv x.b, sv x.text]] w0 (MemR w0 (fun v : Value => .tuple #[.agg #[iv 0, v], iv 110]) (fun v => [own v 27 5 (([] : List Rec).map Rec.cells)]) (fun _ => True)) := by
 refine aF func13 rfl ntmps13 (lb rfl) fun a Z => ?_
 replace Z := Z.p2 0 1 rfl
 replace Y : St No w0 [] w0 := St.init w0
 refine aa fun K1 hK1 => bp Z Y de rfl (cs := [iv o, lv]) rfl ?_
 clear Z Y
 intro a w1 Z Y
 refine bp Z Y de rfl (cs := [iv x.t, iv x.kind, iv x.a, iv x.b, sv x.text]) rfl ?_
 clear Z Y
 intro a w2 Z Y
 refine aU Z Y de (zeroValue25 _) (cs := [iv 0, .slice none 0 0]) rfl ?_
 clear Z Y
 intro a w3 Z Y
 refine wla Z rfl fun a Z => ab (hK1 _ _ <| ac fun K2 hK2 => ?_)
 refine aI kr (aL kr fun w4 hxz => ?_)
 replace Y := Y.grow hxz
 refine aP (k := 0) 11 [9, 10] Z kr kr kr rfx ?_
 replace Z := Z.p6 0 1 2 3 4 5 rfl
 refine dD 2 5 8 9 (fun v => own v 27 5 ([])) (fun v => own v 27 5 (([]) ++ ((l).map Rec.cells))) (fun v => own v 27 5 ((([]) ++ ((l).map Rec.cells)) ++ ([[iv x.t, iv x.kind, iv x.a, iv x.b, sv x.text]]))) (fun u => .agg #[iv o, u]) 11 [[], [0], [], [], [3], [2, 4], [], [6], [5, 7], [1, 8], []] (fun i => match i with | 0 => pv (pt w0.hz) | 1 => pv (iv o) | 2 => fun v E => E = [] | 3 => pv (po w0.hz 1) | 4 => pv (lv) | 5 => fun v E => E = [] | 6 => pv (.agg #[iv x.t, iv x.kind, iv x.a, iv x.b, sv x.text]) | 7 => pm (fun b : Nat => .slice (some ⟨b, 0, none⟩) 1 1) (fun b => [own (.slice (some ⟨b, 0, none⟩) 1 1) 27 5 [[iv x.t, iv x.kind, iv x.a, iv x.b, sv x.text]]]) (fun _ => True) | 8 => fun v E => E = [] | 9 => fun v E => E = [] | 10 => pm (fun b : Nat => pt b) (fun b => [blk b [iv 0, .slice none 0 0] 25]) (fun _ => True) | _ => fun _ _ => False) Z Y kr kr kr de de de de de ?_ ?_ ?_ ?_ ?_ ?_ ?_
 ·intro i v E h
  match i, h with
  | 0, _ => exact by decide
  | 1, _ => exact by decide
  | 2, _ => exact by decide
  | 3, _ => exact by decide
  | 4, _ => exact by decide
  | 5, _ => exact by decide
  | 6, _ => exact by decide
  | 7, _ => exact by decide
  | 8, _ => exact by decide
  | 9, _ => exact by decide
  | 10, _ => exact by decide
  | i + 11, h => exact h.elim
 ·intro i hi h0 h1 h2 h3 e
  match i, hi, h0, h1, h2, h3 with
  | 0, _, _, _, _, _ => exact fun w Y => OpV.g (al (v := pt w0.hz) rfl kr)
  | 1, _, _, _, _, _ =>
   rintro _ _ ⟨rfl, rfl⟩
   intro w Y
   exact OpV.g (ld Y 3 rfl rfl (isAgg3 _) rfl)
  | 2, _, h, _, _, _ => exact absurd rfl h
  | 3, _, _, _, _, _ => exact fun w Y => OpV.g (al (v := po w0.hz 1) rfl kr)
  | 4, _, _, _, _, _ =>
   rintro _ _ ⟨rfl, rfl⟩
   intro w Y
   exact OpV.g (ld Y 3 rfl rfl (isAgg23 _) rfl)
  | 5, _, _, h, _, _ => exact absurd rfl h
  | 6, _, _, _, _, _ => exact fun w Y => OpV.g (aq (Y.g 2 rfl) rfl (isAgg27 _) (sizeOf27 _))
  | 7, _, _, _, _, _ =>
   rintro _ _ ⟨rfl, rfl⟩
   intro w Y
   exact aW (E := 27) (sz := 5) rfl [[iv x.t, iv x.kind, iv x.a, iv x.b, sv x.text]] (fun _ => by kernel_rfl) sm rfl de
  | 8, _, _, _, h, _ => exact absurd rfl h
  | 9, _, _, _, _, h => exact absurd rfl h
  | 10, _, _, _, _, _ => exact fun w Y => iy (zeroValue25 _) (cs := [iv 0, .slice none 0 0]) rfl
 ·intro w Y
  exact OpR.to_own (f := fun b : Nat => .slice (some ⟨b, 0, none⟩) 0 0) (e := fun v => own v 27 5 []) (aW (E := 27) (sz := 5) rfl [] (fun _ => by kernel_rfl) sm rfl de) (fun v => rfl)
 ·rintro s1 _ rfl _ _ ⟨rfl, rfl⟩
  intro w Y
  replace Y : St No w0 (own s1 27 5 ([]) :: _) w := Y
  exact (cL (Y.g 0 rfl) rfl rfl (Y.arg hlv) underlying23 (inf := Tryd.t27) (z := .agg #[iv 0, iv 0, iv 0, iv 0, .string (⟨#[]⟩)]) rfl rfl rfl rfl de (by first | (simp [Value.oneCell', yv, wv, sv]; done) | exact eV (by intro e he; obtain ⟨p, _, rfl⟩ := List.mem_map.1 he; exact ⟨p, rfl⟩)) (by have hby : Tryd.t27.bytes = 48 := rfl; simp only [big, hby, List.length_append, List.length_map, List.length_cons, List.length_nil]; omega) (by have hby : Tryd.t27.bytes = 48 := rfl; simp only [big, hby, List.length_append, List.length_map, List.length_cons, List.length_nil]; omega)).mono fun v w' ⟨h1, h2, h3⟩ => ⟨h1, h2, h3, rfl⟩
 ·rintro s2 _ rfl _ _ ⟨b3, rfl, -, rfl⟩
  intro w Y
  replace Y : St No w0 (own s2 27 5 (([]) ++ ((l).map Rec.cells)) :: _) w := Y
  exact (cL (Y.g 0 rfl) rfl rfl (Y.ow 1 rfl) underlying23 (inf := Tryd.t27) (z := .agg #[iv 0, iv 0, iv 0, iv 0, .string (⟨#[]⟩)]) rfl rfl rfl rfl de (by first | (simp [Value.oneCell', yv, wv, sv]; done) | exact eV (by intro e he; obtain ⟨p, _, rfl⟩ := List.mem_map.1 he; exact ⟨p, rfl⟩)) (by have hby : Tryd.t27.bytes = 48 := rfl; simp only [big, hby, List.length_append, List.length_map, List.length_cons, List.length_nil]; omega) (by have hby : Tryd.t27.bytes = 48 := rfl; simp only [big, hby, List.length_append, List.length_map, List.length_cons, List.length_nil]; omega)).mono fun v w' ⟨h1, h2, h3⟩ => ⟨h1, h2, h3, rfl⟩
 ·rintro _ _ ⟨rfl, rfl⟩ s4 _ rfl
  intro w Y
  have Y : St No w0 (own s4 27 5 ((([]) ++ ((l).map Rec.cells)) ++ ([[iv x.t, iv x.kind, iv x.a, iv x.b, sv x.text]])) :: _) w := Y
  obtain ⟨_, _, _, esl⟩ := iC (Y.ow 0 rfl)
  exact OpV.hopv (OpV.g (bC (v := .agg #[iv o, s4]) rfl (by rw [esl]; kernel_rfl))) rfl
 clear Z Y
 rintro vq _ _ ⟨⟨rfl, rfl⟩, -⟩ _ _ ⟨⟨rfl, rfl⟩, -⟩ s1 _ ⟨rfl, -, -⟩ _ _ ⟨⟨rfl, rfl⟩, -⟩ _ _ ⟨⟨rfl, rfl⟩, -⟩ s2 _ ⟨rfl, -, -⟩ _ _ ⟨⟨rfl, rfl⟩, -⟩ _ _ ⟨⟨b3, rfl, -, rfl⟩, -⟩ s4 _ ⟨rfl, hvq, -⟩ _ _ ⟨rfl, -, hv3⟩ _ _ ⟨⟨b5, rfl, -, rfl⟩, -⟩ a w5 Z Y
 obtain rfl := hvq rfl
 obtain rfl := hv3 rfl
 replace Z := Z.p17 7 8 9 10 11 12 13 14 15 16 6 0 1 2 3 4 5 rfl
 replace Y : St No w0 [_, _, _, _, _, _] w5 := Y
 replace Y : St No w0 [own (.slice (some ⟨b3, 0, none⟩) 1 1) 27 5 ([[iv x.t, iv x.kind, iv x.a, iv x.b, sv x.text]]), blk b5 [iv 0, .slice none 0 0] 25, own s4 27 5 ((l ++ [x]).map Rec.cells), blk w2.hz [iv 0, .slice none 0 0] 25, blk w1.hz [iv x.t, iv x.kind, iv x.a, iv x.b, sv x.text] 27, blk w0.hz [iv o, lv] 25] w5 := by rw [List.map_append]; exact Y
 refine ab <| aK (k := 11) 12 [11] kr kr kr ?_
 refine bI (us := [iv o, s4]) 1 Z Y rfl rfl rfl (sizeOf25 _) (by intro z hz; simp only [List.mem_cons, List.not_mem_nil, or_false] at hz; rcases hz with rfl | rfl <;> first | rfl | exact SlAt.one (Y.ow 2 rfl)) (lb rfl) (ds := [iv o, s4]) rfl rfl ?_
 clear Z Y
 intro a w6 Z Y
 refine ab <| aO kr ?_
 refine hK2 _ _ ?_
 replace Z := Z.p4 2 4 5 6 rfl
 replace Y := Y.k4 46 rfl
 refine ac fun K3 hK3 => aa fun K4 hK4 => wlv Z (aq (Y.g 3 rfl) rfl (isAgg25 _) (sizeOf25 _)) fun a Z => ak Z Y de call16 rfl (dS o lv l _ (Y.arg hlv)) ?_
 clear Z Y
 intro a w7 Z Y
 refine wlv Z (aX rfl) fun a Z => wlm Z rfl fun a Z => ?_
 rcases Bool.eq_false_or_eq_true (!(logOk o l)) with hb6 | hb6
 ·rw [hb6] at Z
  try simp only [qz] at hb6
  refine wln Z fun a Z => wln Z fun a Z => wln Z fun a Z => wlv Z (aB rfl rfl) fun a Z => ab (hK4 _ _ ?_)
  replace Z := Z.p4 4 5 6 24 rfl
  replace Y := Y.k3 7 rfl
  refine aC Z rfl ?_
  refine aa fun K5 hK5 => wlv Z (bC (v := .agg #[iv 0, .slice none 0 0]) rfl kr) fun a Z => aJ 2 Z Y rfl rfl rfl (sizeOf25 _) rfl (lb rfl) (ds := [iv 0, .slice none 0 0]) rfl rfl ?_
  clear Z Y
  intro a w8 Z Y
  refine wla Z rfl fun a Z => ab (hK5 _ _ <| aw ?_)
  refine ar Z results13 (aR rfl (ca (Y.g 2 rfl) (isAgg25 _) (sizeOf25 _)) (ae rfl ag)) ?_
  replace Y : St No w0 [own (.slice none 0 0) 27 5 ((([] : List Rec)).map Rec.cells), blk b5 [iv o, s4] 25, own s4 27 5 ((l ++ [x]).map Rec.cells), blk w2.hz [iv 0, .slice none 0 0] 25] w8 := Y.nil_own
  exact ⟨.slice none 0 0, rfl, trivial, Y.ext, St.out (E := [own (.slice none 0 0) 27 5 ((([] : List Rec)).map Rec.cells)]) (H := []) (Y.select [0] de)⟩
 rw [hb6] at Z
 try simp only [qz] at hb6
 refine wly Z (aq (Y.g 0 rfl) rfl (isAgg25 _) (sizeOf25 _)) fun a Z => aQ Z Y de rfl de rfl call16 rfl (dS o s4 (l ++ [x]) _ (Y.ow 1 rfl)) ?_
 clear Z Y
 intro a w9 Z Y
 refine wly Z (aX rfl) fun a Z => wlv Z (aA rfl rfl) fun a Z => ab (hK4 _ _ ?_)
 replace Z := Z.p4 4 5 6 24 rfl
 replace Y := Y.k3 7 rfl
 refine az Z rfl (fun hc7 => ?_) (fun hc7 => ?_)
 ·rw [hc7] at Z
  try simp only [qz] at hc7
  refine aa fun K6 hK6 => wlv Z (bC (v := .agg #[iv 0, .slice none 0 0]) rfl kr) fun a Z => aJ 2 Z Y rfl rfl rfl (sizeOf25 _) rfl (lb rfl) (ds := [iv 0, .slice none 0 0]) rfl rfl ?_
  clear Z Y
  intro a w10 Z Y
  refine wla Z rfl fun a Z => ab (hK6 _ _ <| aw ?_)
  refine ar Z results13 (aR rfl (ca (Y.g 2 rfl) (isAgg25 _) (sizeOf25 _)) (ae rfl ag)) ?_
  replace Y : St No w0 [own (.slice none 0 0) 27 5 ((([] : List Rec)).map Rec.cells), blk b5 [iv o, s4] 25, own s4 27 5 ((l ++ [x]).map Rec.cells), blk w2.hz [iv 0, .slice none 0 0] 25] w10 := Y.nil_own
  exact ⟨.slice none 0 0, rfl, trivial, Y.ext, St.out (E := [own (.slice none 0 0) 27 5 ((([] : List Rec)).map Rec.cells)]) (H := []) (Y.select [0] de)⟩
 rw [hc7] at Z
 try simp only [qz] at hc7
 exfalso; unfold addOk at hok; simp only [hb6, hc7] at hok; simp at hok
theorem iz (o : Int) (lv : Value) (l : List Rec) (kind at_ : Int) (w0 : World) (hlv : SlAt w0 lv 5 (l.map Rec.cells)) :
  Ret Tryd.prog 20 #[.agg #[iv o, lv], iv kind, iv at_] w0 fun v w => v = iv (findH o l kind at_) ∧ Ext No w0 w := by
 have hxb := hlv.2.1
 simp only [List.length_map, big] at hxb
 refine aF func20 rfl ntmps20 (lb rfl) fun a Z => ?_
 replace Z := Z.p3 0 1 2 rfl
 replace Y : St No w0 [] w0 := St.init w0
 refine aa fun K1 hK1 => bp Z Y de rfl (cs := [iv o, lv]) rfl ?_
 clear Z Y
 intro a w1 Z Y
 refine bp Z Y de rfl (cs := [iv kind]) rfl ?_
 clear Z Y
 intro a w2 Z Y
 refine bp Z Y de rfl (cs := [iv at_]) rfl ?_
 clear Z Y
 intro a w3 Z Y
 refine aU Z Y de (zeroValue3 _) (cs := [iv 0]) rfl ?_
 clear Z Y
 intro a w4 Z Y
 refine ab (hK1 _ _ <| ac fun K2 hK2 => ?_)
 refine aa fun K3 hK3 => wlv Z (aq (Y.g 3 rfl) rfl (isAgg25 _) (sizeOf25 _)) fun a Z => ak Z Y de call16 rfl (dS o lv l _ (Y.arg hlv)) ?_
 clear Z Y
 intro a w5 Z Y
 refine wlv Z (aX rfl) fun a Z => ab (hK3 _ _ ?_)
 refine az Z rfl (fun hc1 => ?_) (fun hc1 => ?_)
 ·rw [hc1] at Z
  try simp only [qz, Bool.and_eq_true, Bool.or_eq_true, Bool.and_eq_false_iff, Bool.or_eq_false_iff] at hc1
  have hlo : logOk o l = false := by simpa using hc1
  refine aa fun K4 hK4 => aJ 0 Z Y rfl rfl rfl (sizeOf3 _) rfl (lb rfl) (ds := [iv (-1)]) rfl rfl ?_
  clear Z Y
  intro a w6 Z Y
  refine ab (hK4 _ _ ?_)
  replace Z := Z.p4 3 4 5 6 rfl
  refine aw ?_
  refine ar Z results20 (aR rfl (cK (Y.g 0 rfl) (isAgg3 _)) ag) ?_
  exact ⟨by simp only [retv]; rw [findH, if_neg (by rw [hlo]; decide)]; try rfl, Y.ext⟩
 rw [hc1] at Z
 try simp only [qz, Bool.and_eq_true, Bool.or_eq_true, Bool.and_eq_false_iff, Bool.or_eq_false_iff] at hc1
 have hlo : logOk o l = true := by simpa using hc1
 refine ap <| hK2 _ _ <| ac fun K5 hK5 => aa fun K6 hK6 => wlv Z (aq (Y.g 3 rfl) rfl (isAgg25 _) (sizeOf25 _)) fun a Z => aN Z Y de call48 rfl (j7 o lv _ l (Y.arg hlv)) ?_
 clear Z Y
 intro a w7 x2 hp Z Y
 revert x2 hp Z Y; rintro z1 hp Z Y
 clear hp
 replace Y : St No w0 [_, _, _, _, _] w7 := Y
 refine ab (hK6 _ _ ?_)
 replace Z := Z.p4 4 5 6 13 rfl
 replace Y := Y.k4 15 rfl
 refine am ?_
 replace Y : St No w0 [blk w1.hz [iv kind] 3, blk w2.hz [iv at_] 3, blk w3.hz [iv 0] 3, blk z1 [iv o, lv] 25] w7 := Y.select [3, 2, 1, 0] de
 replace Z : Fr 27 [(4, pt w1.hz), (5, pt w2.hz), (6, pt w3.hz), (13, .func (.func 74) #[] #[pt z1])] [] a := Z.pick [4, 5, 6, 13]
 refine cY (M := No) (w0 := w0) (encs := (encRb l)) (Hi := [blk z1 [iv o, lv] 25]) (Hc := [blk w1.hz [iv kind] 3, blk w2.hz [iv at_] 3, blk w3.hz [iv 0] 3]) (fun pre H => (findF (hitR kind at_) l l.length = findF (hitR kind at_) l (l.length - (pre : List Nat).length)) ∧ H = [blk w1.hz [iv kind] 3, blk w2.hz [iv at_] 3, blk w3.hz [iv 0] 3]) (fun c pre H => c = .ret ∧ ∃ (i : Nat), (findF (hitR kind at_) l l.length = (i : Int)) ∧ H = [blk w1.hz [iv kind] 3, blk w2.hz [iv at_] 3, blk w3.hz [iv (i : Int)] 3]) (fun pre xs H a => ∃ (bA0 : Nat), Fr 27 [(4, pt w1.hz), (5, pt w2.hz), (6, pt w3.hz), (13, .func (.func 74) #[] #[pt z1]), (7, iv (xs : Int)), (8, pt bA0)] [] a ∧ (findF (hitR kind at_) l l.length = findF (hitR kind at_) l (l.length - (pre : List Nat).length)) ∧ H = [blk bA0 [iv ((l.getD xs Rec.z).t), iv ((l.getD xs Rec.z).kind), iv ((l.getD xs Rec.z).a), iv ((l.getD xs Rec.z).b), sv ((l.getD xs Rec.z).text)] 27, blk w1.hz [iv kind] 3, blk w2.hz [iv at_] 3, blk w3.hz [iv 0] 3]) rfl call74 Z Y (gc o lv l z1 (by have := cw hlo; omega) (fun H w h => h.arg hlv)) de (fun _ => rfl) ⟨sm, rfl⟩ ?_ ?_ ?_ ?_
 ·clear Z Y
  rintro lp pre xs _ a w8 hnx ⟨hfi, rfl⟩ Z Y
  generalize (join [blk w1.hz [iv kind] 3, blk w2.hz [iv at_] 3, blk w3.hz [iv 0] 3]).foot = M1 at Y ⊢
  replace Z : Fr 27 [(15, .agg #[iv ((l.getD xs Rec.z).t), iv ((l.getD xs Rec.z).kind), iv ((l.getD xs Rec.z).a), iv ((l.getD xs Rec.z).b), sv ((l.getD xs Rec.z).text)]), (14, iv (xs : Int)), (4, pt w1.hz), (5, pt w2.hz), (6, pt w3.hz), (13, .func (.func 74) #[] #[pt z1])] [] a := Z
  refine aa fun K7 hK7 => wla Z rfl fun a Z => ab (hK7 _ _ <| ao ?_)
  refine aU Z Y de (zeroValue27 _) (cs := [iv 0, iv 0, iv 0, iv 0, .string (⟨#[]⟩)]) rfl ?_
  clear Z Y
  intro a w9 Z Y
  refine aJ 0 Z Y rfl rfl rfl (sizeOf27 _) rfl (lb rfl) (ds := [iv ((l.getD xs Rec.z).t), iv ((l.getD xs Rec.z).kind), iv ((l.getD xs Rec.z).a), iv ((l.getD xs Rec.z).b), sv ((l.getD xs Rec.z).text)]) rfl rfl ?_
  clear Z Y
  intro a w10 Z Y
  refine ab ?_
  exact ⟨_, ⟨w8.hz, Z.pick [4, 5, 6, 13, 7, 8], hfi, rfl⟩, Y⟩
 ·rintro lp pre xs _ a w11 hnx ⟨bA0, Z, hfi, rfl⟩ hout hrec hnl Y
  clear hrec hnl
  generalize (join [blk bA0 [iv ((l.getD xs Rec.z).t), iv ((l.getD xs Rec.z).kind), iv ((l.getD xs Rec.z).a), iv ((l.getD xs Rec.z).b), sv ((l.getD xs Rec.z).text)] 27, blk w1.hz [iv kind] 3, blk w2.hz [iv at_] 3, blk w3.hz [iv 0] 3]).foot = M1 at Y hout ⊢
  refine am <| aa fun K8 hK8 => wlv Z (al (v := po bA0 1) rfl kr) fun a Z => wlv Z (ld Y 0 rfl rfl (isAgg3 _) rfl) fun a Z => wlv Z (ld Y 1 rfl rfl (isAgg3 _) rfl) fun a Z => wlv Z (v_eq rfl rfl) fun a Z => wlm Z rfl fun a Z => ?_
  refine cU (N := 27) (df := []) 5 [(25, .bool ((decide ((l.getD xs Rec.z).kind = kind)) && (decide ((l.getD xs Rec.z).t ≤ at_)))), (4, pt w1.hz), (5, pt w2.hz), (6, pt w3.hz), (13, .func (.func 74) #[] #[pt z1]), (7, iv (xs : Int)), (8, pt bA0)] ?_ (fun hj => ?_)
  rotate_left
  ·rcases Bool.eq_false_or_eq_true (decide ((l.getD xs Rec.z).kind = kind)) with hb3 | hb3
   ·rw [hb3] at Z
    have hb3b := hb3
    try simp only [qz, Bool.and_eq_true, Bool.or_eq_true, Bool.and_eq_false_iff, Bool.or_eq_false_iff] at hb3
    refine wly Z (al (v := pt bA0) rfl kr) fun a Z => wly Z (ld Y 0 rfl rfl (isAgg3 _) rfl) fun a Z => wly Z (ld Y 2 rfl rfl (isAgg3 _) rfl) fun a Z => wly Z (v_le rfl rfl) fun a Z => wlv Z (aB rfl rfl) fun a Z => ?_
    refine hj _ ?_
    try rw [hb3b]
    exact Z.pick [25, 4, 5, 6, 13, 7, 8]
   rw [hb3] at Z
   have hb3b := hb3
   try simp only [qz, Bool.and_eq_true, Bool.or_eq_true, Bool.and_eq_false_iff, Bool.or_eq_false_iff] at hb3
   refine wln Z fun a Z => wln Z fun a Z => wln Z fun a Z => wln Z fun a Z => wlv Z (aA rfl rfl) fun a Z => ?_
   refine hj _ ?_
   try rw [hb3b]
   exact Z.pick [25, 4, 5, 6, 13, 7, 8]
  intro a Z
  refine ab (hK8 _ _ ?_)
  refine az Z rfl (fun hc4 => ?_) (fun hc4 => ?_)
  ·rw [hc4] at Z
   try simp only [qz, Bool.and_eq_true, Bool.or_eq_true, Bool.and_eq_false_iff, Bool.or_eq_false_iff] at hc4
   refine aa fun K9 hK9 => wlm Z rfl fun a Z => aJ 3 Z Y rfl rfl rfl (sizeOf3 _) rfl (lb rfl) (ds := [iv (xs : Int)]) rfl rfl ?_
   clear Z Y
   intro a w12 Z Y
   refine ab (hK9 _ _ ?_)
   replace Z := Z.p1 6 rfl
   replace Y := Y.k3 14 rfl
   refine aw ?_
   exact ⟨_, ⟨rfl, xs, oD hnx hfi (by unfold hitR; simp only [Bool.and_eq_true, decide_eq_true_eq]; omega), rfl⟩, Y.select [0, 1, 2] de⟩
  rw [hc4] at Z
  try simp only [qz, Bool.and_eq_true, Bool.or_eq_true, Bool.and_eq_false_iff, Bool.or_eq_false_iff] at hc4
  refine ap ?_
  exact ⟨_, ⟨pF hnx hfi (by unfold hitR; simp only [Bool.and_eq_false_iff, decide_eq_false_iff_not]; omega), rfl⟩, Y.select [1, 2, 3] de⟩
 ·rintro D pre _ _ a w13 ⟨rfl, rfl⟩ ⟨hfi, rfl⟩ Y Z
  replace Z : Fr 27 [(4, pt w1.hz), (5, pt w2.hz), (6, pt w3.hz), (13, .func (.func 74) #[] #[pt z1])] [{ target := .collected D, args := #[] }] a := Z
  replace Y : St No w0 [_, _, _, _, _] w13 := Y
  refine hK5 _ _ <| aa fun K10 hK10 => aJ 3 Z Y rfl rfl rfl (sizeOf3 _) rfl (lb rfl) (ds := [iv (-1)]) rfl rfl ?_
  clear Z Y
  intro a w14 Z Y
  refine ab (hK10 _ _ <| aw ?_)
  have hD := Y.g 0 rfl
  replace Y := Y.unmark (i := 0) (o' := .deferred none) rfl
  replace Y : St No w0 [_, _, _, _] _ := Y
  refine cb Z hD results20 (aR rfl (cK (Y.g 2 rfl) (isAgg3 _)) ag) ?_
  exact ⟨by simp only [retv]; rw [findH, if_pos hlo, oy hfi]; try rfl, Y.ext⟩
 ·rintro D _ pre _ _ a w15 rfl ⟨rfl, i, hfh, rfl⟩ Y Z
  replace Z : Fr 27 [(4, pt w1.hz), (5, pt w2.hz), (6, pt w3.hz), (13, .func (.func 74) #[] #[pt z1])] [{ target := .collected D, args := #[] }] a := Z
  replace Y : St No w0 [_, _, _, _, _] w15 := Y
  refine aw ?_
  have hD := Y.g 0 rfl
  replace Y := Y.unmark (i := 0) (o' := .deferred none) rfl
  replace Y : St No w0 [_, _, _, _] _ := Y
  refine cb Z hD results20 (aR rfl (cK (Y.g 2 rfl) (isAgg3 _)) ag) ?_
  exact ⟨by simp only [retv]; rw [findH, if_pos hlo, hfh]; try rfl, Y.ext⟩
theorem eq (o : Int) (lv : Value) (l : List Rec) (w0 : World) (hlv : SlAt w0 lv 5 (l.map Rec.cells)) (hlo : logOk o l = true) :
  Ret Tryd.prog 62 #[.agg #[iv o, lv]] w0 (MemR w0 (fun v : Value => .tuple #[v, .bool true]) (fun v => [own v 9 1 ((codesB l).map fun s => [sv s])]) (fun _ => True)) := by
 have hxb := hlv.2.1
 simp only [List.length_map, big] at hxb
 have hl60 := cw hlo
 refine aF func62 rfl ntmps62 (lb rfl) fun a Z => ?_
 replace Z := Z.p1 0 rfl
 replace Y : St No w0 [] w0 := St.init w0
 refine aa fun K1 hK1 => bp Z Y de rfl (cs := [iv o, lv]) rfl ?_
 clear Z Y
 intro a w1 Z Y
 refine wla Z rfl fun a Z => wla Z rfl fun a Z => ab (hK1 _ _ <| ac fun K2 hK2 => ?_)
 refine aa fun K3 hK3 => wlv Z (aq (Y.g 0 rfl) rfl (isAgg25 _) (sizeOf25 _)) fun a Z => ak Z Y de call16 rfl (dS o lv l _ (Y.arg hlv)) ?_
 clear Z Y
 intro a w2 Z Y
 refine wlv Z (aX rfl) fun a Z => ab (hK3 _ _ ?_)
 refine az Z rfl (fun hc1 => ?_) (fun hc1 => ?_)
 ·rw [hc1] at Z
  try simp only [qz] at hc1
  exfalso; simp [hlo] at hc1
 rw [hc1] at Z
 try simp only [qz] at hc1
 refine ap <| hK2 _ _ <| aa fun K4 hK4 => wlv Z (al (v := po w0.hz 1) rfl kr) fun a Z => wlv Z (ld Y 0 rfl rfl (isAgg23 _) rfl) fun a Z => wlv Z ((aG (sT := 23) (Y.arg hlv) rfl rfl (runUnderlying23 _)).asi (m' := (l.length : Int)) (by rw [List.length_map])) fun a Z => iD (n := l.length) (E := 9) (sz := 1) rfl rfl ((List.replicate l.length ([] : By)).map fun s => [sv s]) (lH underlying45 (inf := Tryd.t9) rfl rfl rfl rfl de l.length (by rw [List.map_replicate]; rfl) om _) (by intro e he; obtain ⟨_, _, rfl⟩ := List.mem_map.1 he; rfl) sm (by simp only [big]; omega) de Z Y ?_
 clear Z Y
 intro a w3 Z Y
 refine aU Z Y de (zeroValue45 _) (cs := [.slice none 0 0]) rfl ?_
 clear Z Y
 intro a w4 Z Y
 refine aJ 0 Z Y rfl rfl rfl (sizeOf45 _) rfl (lb rfl) (ds := [(.slice (some ⟨w2.hz, 0, none⟩) l.length l.length)]) rfl rfl ?_
 clear Z Y
 intro a w5 Z Y
 refine ab (hK4 _ _ ?_)
 replace Z := Z.p4 1 2 3 4 rfl
 refine ac fun K5 hK5 => aa fun K6 hK6 => wlv Z (aq (Y.g 2 rfl) rfl (isAgg25 _) (sizeOf25 _)) fun a Z => aN Z Y de call48 rfl (j7 o lv _ l (Y.arg hlv)) ?_
 clear Z Y
 intro a w6 x2 hp Z Y
 revert x2 hp Z Y; rintro z1 hp Z Y
 clear hp
 replace Y : St No w0 [_, _, _, _] w6 := Y
 refine ab (hK6 _ _ <| am ?_)
 replace Y : St No w0 [blk z1 [iv o, lv] 25, blk w3.hz [(.slice (some ⟨w2.hz, 0, none⟩) l.length l.length)] 45, own (.slice (some ⟨w2.hz, 0, none⟩) l.length l.length) 9 1 ((outR l ([] : List Nat).length).map fun s => [sv s]), blk w0.hz [iv o, lv] 25] w6 := by rw [show outR l ([] : List Nat).length = _ from pO l]; exact Y
 replace Y : St No w0 [blk w3.hz [(.slice (some ⟨w2.hz, 0, none⟩) l.length l.length)] 45, own (.slice (some ⟨w2.hz, 0, none⟩) l.length l.length) 9 1 ((outR l ([] : List Nat).length).map fun s => [sv s]), blk z1 [iv o, lv] 25] w6 := Y.select [1, 2, 0] de
 replace Z : Fr 27 [(1, pt w0.hz), (2, .slice none 0 0), (3, .bool false), (4, pt w3.hz), (14, .agg #[iv o, lv]), (15, .func (.func 74) #[] #[pt z1])] [] a := Z.pick [1, 2, 3, 4, 14, 15]
 refine cY (M := No) (w0 := w0) (encs := (encRb l)) (Hi := [blk z1 [iv o, lv] 25]) (Hc := [blk w3.hz [(.slice (some ⟨w2.hz, 0, none⟩) l.length l.length)] 45, own (.slice (some ⟨w2.hz, 0, none⟩) l.length l.length) 9 1 ((outR l ([] : List Nat).length).map fun s => [sv s])]) (fun pre H => (True) ∧ H = [blk w3.hz [(.slice (some ⟨w2.hz, 0, none⟩) l.length l.length)] 45, own (.slice (some ⟨w2.hz, 0, none⟩) l.length l.length) 9 1 ((outR l (pre : List Nat).length).map fun s => [sv s])]) (fun _ _ _ => False) (fun pre xs H a => ∃ (bA0 : Nat), Fr 27 [(1, pt w0.hz), (2, .slice none 0 0), (3, .bool false), (4, pt w3.hz), (14, .agg #[iv o, lv]), (15, .func (.func 74) #[] #[pt z1]), (5, iv (xs : Int)), (6, pt bA0)] [] a ∧ (True) ∧ H = [blk bA0 [iv ((l.getD xs Rec.z).t), iv ((l.getD xs Rec.z).kind), iv ((l.getD xs Rec.z).a), iv ((l.getD xs Rec.z).b), sv ((l.getD xs Rec.z).text)] 27, blk w3.hz [(.slice (some ⟨w2.hz, 0, none⟩) l.length l.length)] 45, own (.slice (some ⟨w2.hz, 0, none⟩) l.length l.length) 9 1 ((outR l (pre : List Nat).length).map fun s => [sv s])]) rfl call74 Z Y (gc o lv l z1 (by have := cw hlo; omega) (fun H w h => h.arg hlv)) de (fun _ => rfl) ⟨trivial, rfl⟩ ?_ ?_ ?_ ?_
 ·clear Z Y
  rintro lp pre xs _ a w7 hnx ⟨htr, rfl⟩ Z Y
  generalize (join [blk w3.hz [(.slice (some ⟨w2.hz, 0, none⟩) l.length l.length)] 45, own (.slice (some ⟨w2.hz, 0, none⟩) l.length l.length) 9 1 ((outR l (pre : List Nat).length).map fun s => [sv s])]).foot = M1 at Y ⊢
  replace Z : Fr 27 [(17, .agg #[iv ((l.getD xs Rec.z).t), iv ((l.getD xs Rec.z).kind), iv ((l.getD xs Rec.z).a), iv ((l.getD xs Rec.z).b), sv ((l.getD xs Rec.z).text)]), (16, iv (xs : Int)), (1, pt w0.hz), (2, .slice none 0 0), (3, .bool false), (4, pt w3.hz), (14, .agg #[iv o, lv]), (15, .func (.func 74) #[] #[pt z1])] [] a := Z
  refine aa fun K7 hK7 => wla Z rfl fun a Z => ab (hK7 _ _ <| ao ?_)
  refine aU Z Y de (zeroValue27 _) (cs := [iv 0, iv 0, iv 0, iv 0, .string (⟨#[]⟩)]) rfl ?_
  clear Z Y
  intro a w8 Z Y
  refine aJ 0 Z Y rfl rfl rfl (sizeOf27 _) rfl (lb rfl) (ds := [iv ((l.getD xs Rec.z).t), iv ((l.getD xs Rec.z).kind), iv ((l.getD xs Rec.z).a), iv ((l.getD xs Rec.z).b), sv ((l.getD xs Rec.z).text)]) rfl rfl ?_
  clear Z Y
  intro a w9 Z Y
  refine ab ?_
  exact ⟨_, ⟨w7.hz, Z.pick [1, 2, 3, 4, 14, 15, 5, 6], htr, rfl⟩, Y⟩
 ·rintro lp pre xs _ a w10 hnx ⟨bA0, Z, htr, rfl⟩ hout hrec hnl Y
  clear hrec hnl
  generalize (join [blk bA0 [iv ((l.getD xs Rec.z).t), iv ((l.getD xs Rec.z).kind), iv ((l.getD xs Rec.z).a), iv ((l.getD xs Rec.z).b), sv ((l.getD xs Rec.z).text)] 27, blk w3.hz [(.slice (some ⟨w2.hz, 0, none⟩) l.length l.length)] 45, own (.slice (some ⟨w2.hz, 0, none⟩) l.length l.length) 9 1 ((outR l (pre : List Nat).length).map fun s => [sv s])]).foot = M1 at Y hout ⊢
  refine am <| aI kr ?_
  replace Z := Z.p8 1 2 3 4 14 15 5 6 rfl
  replace Y : St M1 w10 [own (.slice (some ⟨w2.hz, 0, none⟩) l.length l.length) 9 1 ((outR l (pre : List Nat).length).map fun s => [sv s]), blk bA0 [iv ((l.getD xs Rec.z).t), iv ((l.getD xs Rec.z).kind), iv ((l.getD xs Rec.z).a), iv ((l.getD xs Rec.z).b), sv ((l.getD xs Rec.z).text)] 27, blk w3.hz [(.slice (some ⟨w2.hz, 0, none⟩) l.length l.length)] 45] w10 := Y.select [2, 0, 1] de
  have hso3 := Y.ow 0 rfl
  refine eH [8] (fun q => if q = 8 then own (.slice (some ⟨w2.hz, 0, none⟩) l.length l.length) 9 1 ((outR l (pre : List Nat).length).map fun s => [sv s]) else join []) (fun q => if q = 8 then own (.slice (some ⟨w2.hz, 0, none⟩) l.length l.length) 9 1 ((outR l ((pre ++ [xs]) : List Nat).length).map fun s => [sv s]) else join []) 9 [[], [], [], [2], [3], [4], [4], [0, 1], [5, 7]] (fun i => match i with | 0 => pv ((.slice (some ⟨w2.hz, 0, none⟩) l.length l.length)) | 1 => pv (iv (xs : Int)) | 2 => pv (.agg #[iv ((l.getD xs Rec.z).t), iv ((l.getD xs Rec.z).kind), iv ((l.getD xs Rec.z).a), iv ((l.getD xs Rec.z).b), sv ((l.getD xs Rec.z).text)]) | 3 => pv (.tuple #[sv (eB (l.getD xs Rec.z)), iv (eE (l.getD xs Rec.z))]) | 4 => pv (.tuple #[sv (eB (l.getD xs Rec.z)), iv (eE (l.getD xs Rec.z))]) | 5 => pv (sv (eB (l.getD xs Rec.z))) | 6 => pv (iv (eE (l.getD xs Rec.z))) | 7 => pv (slAddr (.slice (some ⟨w2.hz, 0, none⟩) l.length l.length) (xs * 1)) | 8 => fun v E => v = undef ∧ E = [] | _ => fun _ _ => False) (by intro q; by_cases h8 : q = 8; (subst h8; rfl); simp only [h8, if_false]) Z (H := [blk bA0 [iv ((l.getD xs Rec.z).t), iv ((l.getD xs Rec.z).kind), iv ((l.getD xs Rec.z).a), iv ((l.getD xs Rec.z).b), sv ((l.getD xs Rec.z).text)] 27, blk w3.hz [(.slice (some ⟨w2.hz, 0, none⟩) l.length l.length)] 45]) Y kr kr kr kr de de ?_ ?_ ?_ ?_ ?_ ?_
  ·intro i v E h
   match i, h with
   | 0, _ => exact by decide
   | 1, _ => exact by decide
   | 2, _ => exact by decide
   | 3, _ => exact by decide
   | 4, _ => exact by decide
   | 5, _ => exact by decide
   | 6, _ => exact by decide
   | 7, _ => exact by decide
   | 8, _ => exact by decide
   | i + 9, h => exact h.elim
  ·intro q v E hq h
   simp only [List.mem_cons, List.not_mem_nil, or_false] at hq
   rcases hq with rfl <;> exact h
  ·intro q hq
   simp only [List.mem_cons, List.not_mem_nil, or_false] at hq
   rcases hq with rfl <;> exact ⟨rfl, rfl⟩
  ·intro i hi hiq e
   match i, hi, hiq with
   | 0, _, _ => exact fun w Y => OpV.g (ld Y 2 rfl rfl (isAgg45 _) rfl)
   | 1, _, _ => exact fun w Y => OpV.g (ai rfl)
   | 2, _, _ => exact fun w Y => OpV.g (aq (Y.g 1 rfl) rfl (isAgg27 _) (sizeOf27 _))
   | 3, _, _ =>
    rintro _ _ ⟨rfl, rfl⟩
    intro w Y
    exact bh call22 rfl (iK (l.getD xs Rec.z) _)
   | 4, _, _ =>
    rintro _ _ ⟨rfl, rfl⟩
    intro w Y
    exact OpV.g (ai rfl)
   | 5, _, _ =>
    rintro _ _ ⟨rfl, rfl⟩
    intro w Y
    exact OpV.g (aj rfl rfl)
   | 6, _, _ =>
    rintro _ _ ⟨rfl, rfl⟩
    intro w Y
    exact OpV.g (aj rfl rfl)
   | 7, _, _ =>
    rintro _ _ ⟨rfl, rfl⟩ _ _ ⟨rfl, rfl⟩
    intro w Y
    exact OpV.g ((fK (i := (xs : Int)) hso3 rfl rfl (runUnderlying45 _) (sizeOf9 _) om (by have h9 : xs + 1 + pre.length = l.length := hnx; rw [List.length_map, jy _ _ om]; omega)).as (v' := slAddr (.slice (some ⟨w2.hz, 0, none⟩) l.length l.length) (xs * 1)) rfl)
   | 8, _, h => exact absurd de h
  ·intro q hq
   simp only [List.mem_cons, List.not_mem_nil, or_false] at hq
   rcases hq with rfl
   ·rintro _ _ ⟨rfl, rfl⟩ _ _ ⟨rfl, rfl⟩
    intro w h
    exact kA (k := xs) (j := 0) rfl rfl h (by have h9 : xs + 1 + pre.length = l.length := hnx; rw [List.length_map, jy _ _ om]; omega) om (sizeOf9 _) (by simp [Value.oneCell', yv, wv, sv, Value.cells]) (lb rfl) (els' := ((outR l ((pre ++ [xs]) : List Nat).length).map fun s => [sv s])) (mP hnx _)
  clear Z Y
  rintro _ _ ⟨rfl, rfl⟩ _ _ ⟨rfl, rfl⟩ _ _ ⟨rfl, rfl⟩ _ _ ⟨rfl, rfl⟩ _ _ ⟨rfl, rfl⟩ _ _ ⟨rfl, rfl⟩ _ _ ⟨rfl, rfl⟩ _ _ ⟨rfl, rfl⟩ a w11 Z Y
  replace Z := Z.p16 19 20 21 22 18 23 24 25 1 2 3 4 14 15 5 6 rfl
  replace Y : St M1 w10 [_, _, _] w11 := Y
  refine ab ?_
  exact ⟨_, ⟨trivial, rfl⟩, Y.select [2, 0] de⟩
 ·rintro D pre _ _ a w12 ⟨rfl, rfl⟩ ⟨htr, rfl⟩ Y Z
  replace Z : Fr 27 [(1, pt w0.hz), (2, .slice none 0 0), (3, .bool false), (4, pt w3.hz), (14, .agg #[iv o, lv]), (15, .func (.func 74) #[] #[pt z1])] [{ target := .collected D, args := #[] }] a := Z
  replace Y : St No w0 [_, _, _, _] w12 := Y
  refine hK5 _ _ <| aa fun K8 hK8 => wlv Z (ld Y 1 rfl rfl (isAgg45 _) rfl) fun a Z => wla Z rfl fun a Z => wla Z rfl fun a Z => ab (hK8 _ _ <| aw ?_)
  have hD := Y.g 0 rfl
  replace Y := Y.unmark (i := 0) (o' := .deferred none) rfl
  replace Y : St No w0 [_, _, _] _ := Y
  refine cb Z hD results62 (ae rfl (ae rfl ag)) ?_
  rw [nS] at Y
  exact ⟨(.slice (some ⟨w2.hz, 0, none⟩) l.length l.length), rfl, trivial, Y.ext, St.out (E := [own (.slice (some ⟨w2.hz, 0, none⟩) l.length l.length) 9 1 ((codesB l).map fun s => [sv s])]) (H := []) (Y.select [1] de)⟩
 ·rintro D c pre _ _ a w13 _ h
  exact h.elim
theorem jU (o : Int) (lv : Value) (l : List Rec) (w0 : World) (hlv : SlAt w0 lv 5 (l.map Rec.cells)) (hlo : logOk o l = false) :
  Ret Tryd.prog 62 #[.agg #[iv o, lv]] w0 fun v w => v = .tuple #[.slice none 0 0, .bool false] ∧ Ext No w0 w := by
 refine aF func62 rfl ntmps62 (lb rfl) fun a Z => ?_
 replace Z := Z.p1 0 rfl
 replace Y : St No w0 [] w0 := St.init w0
 refine aa fun K1 hK1 => bp Z Y de rfl (cs := [iv o, lv]) rfl ?_
 clear Z Y
 intro a w1 Z Y
 refine wla Z rfl fun a Z => wla Z rfl fun a Z => ab (hK1 _ _ <| ac fun K2 hK2 => ?_)
 refine aa fun K3 hK3 => wlv Z (aq (Y.g 0 rfl) rfl (isAgg25 _) (sizeOf25 _)) fun a Z => ak Z Y de call16 rfl (dS o lv l _ (Y.arg hlv)) ?_
 clear Z Y
 intro a w2 Z Y
 refine wlv Z (aX rfl) fun a Z => ab (hK3 _ _ ?_)
 refine az Z rfl (fun hc1 => ?_) (fun hc1 => ?_)
 ·rw [hc1] at Z
  try simp only [qz] at hc1
  refine aa fun K4 hK4 => wla Z rfl fun a Z => wla Z rfl fun a Z => ab (hK4 _ _ <| aw ?_)
  refine ar Z results62 (ae rfl (ae rfl ag)) ?_
  exact ⟨by rfl, Y.ext⟩
 rw [hc1] at Z
 try simp only [qz] at hc1
 exfalso; simp [hlo] at hc1
end Go.Proofs.YtddfkkdanpmnaaaDoor
