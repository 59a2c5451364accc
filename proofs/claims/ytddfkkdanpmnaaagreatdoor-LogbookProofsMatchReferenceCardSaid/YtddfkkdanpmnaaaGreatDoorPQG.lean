/- Texts joined: LawQ. -/
import Derived.Test.YtddfkkdanpmnaaaGreatDoorPQF
import Derived.Test.YtddfkkdanpmnaaaGreatDoorPQB
import Derived.Test.YtddfkkdanpmnaaaGreatDoorPQA
set_option linter.unusedVariables false
set_option linter.unusedSimpArgs false
set_option maxRecDepth 4000
set_option maxHeartbeats 4000000
namespace Go.Proofs.YtddfkkdanpmnaaaGreatDoor
open Go.RowKit Go.PW _root_.Go.Proofs.Tryz
theorem la {o : Int} {l : List Rec} {i : Int} (hl : l.length ≤ 16) : (proveL o l i).length ≤ 4 := by
 unfold proveL
 split
 ·exact hT (S := sha) _ (codesR l) _ 4 rfl (by rw [bO]; omega)
 ·simp
theorem kB {o : Int} {l : List Rec} {i : Int} (hl : l.length ≤ 15) : (grownL o l i).length ≤ 20 := by
 unfold grownL
 split
 ·rename_i h
  unfold inG at h
  simp only [Bool.and_eq_true, decide_eq_true_eq] at h
  have h2 := pg (S := sha) (l := codesR l) (m := i.toNat) (by rw [bO]; omega)
  rw [bO] at h2
  have h3 : (if l.length = 0 then 0 else Nat.log2 l.length + 1) ≤ 4 := by
   split
   ·omega
   ·have := (Nat.log2_lt (n := l.length) (k := 4) om).2 om
    omega
  omega
 ·simp
def zd : Int × Value × List Rec := (0, .slice none 0 0, [])
theorem few_x {av : Value} {xs qs : List By} {w0 : World} (hq : few11 xs 6 = qs) (hav : SlAt w0 av 1 (xs.map fun s => [sv s])) : Ret Tryz.prog 6 #[av, iv 6] w0 (MemR w0 (fun v : Value => v) (fun v => [own v 9 1 (qs.map fun s => [sv s])]) (fun _ => True)) := by
 subst hq; exact qb av xs 6 w0 hav de
theorem pX {o how n at_ ob : Int} {lv : Value} {l lbt : List Rec} {w0 : World} (hbo : bentO o how n = ob) (hbl : bentL l how n at_ = lbt) (hlv : SlAt w0 lv 5 (l.map Rec.cells)) (hll : l.length ≤ 1000) (hh : i64 how) (hn : i64 n) (ha : i64 at_) : Ret Tryz.prog 8 #[.agg #[iv o, lv], iv how, iv n, iv at_] w0 (MemR w0 (fun v : Value => .agg #[iv ob, v]) (fun v => [own v 48 5 (lbt.map Rec.cells)]) (fun _ => True)) := by
 subst hbo; subst hbl; exact ot o lv l how n at_ w0 hlv hll hh hn ha
theorem cut_x {o : Int} {lv : Value} {l lbt : List Rec} {w0 : World} (hc : cutR l = lbt) (hlv : SlAt w0 lv 5 (l.map Rec.cells)) : Ret Tryz.prog 9 #[.agg #[iv o, lv]] w0 (MemR w0 (fun v : Value => .agg #[iv o, v]) (fun v => [own v 48 5 (lbt.map Rec.cells)]) (fun _ => True)) := by
 subst hc; exact pM o lv l w0 hlv
theorem jF (owner : Int) (xv : Value) (ys : List Rin) (ro : Int) (rv : Value) (rl : List Rec) (how n at_ key : Int) (odd : By) (av : Value) (xs : List By) (w0 : World) (hxv : SlAt w0 xv 5 (ys.map Rin.cells)) (hys : ∀ y ∈ ys, y.wt) (hown : i64 owner) (h_how : i64 how) (h_n : i64 n) (h_at_ : i64 at_) (h_key : i64 key) (hrv : SlAt w0 rv 5 (rl.map Rec.cells)) (hodl : odd.length ≤ 140737488355328) (hav : SlAt w0 av 1 (xs.map fun s => [sv s])) (hk0 : (blk 0 (kOf.map wv) 161).ok w0) :
  Ret Tryz.prog 3 #[iv owner, xv, .agg #[iv ro, rv], iv how, iv n, iv at_, iv key, sv odd, av] w0 fun v w => v = .bool true ∧ Ext No w0 w := by
 obtain ⟨o, ho⟩ : ∃ o, pickI owner 100 = o := ⟨_, rfl⟩
 obtain ⟨l, hl⟩ : ∃ l, madeR ys = l := ⟨_, rfl⟩
 have hlo : logOk o l = true := by rw [← ho, ← hl]; exact nY _ _
 have hll : l.length ≤ 12 := by rw [← hl, ib]; omega
 have hob := fw hlo
 have hmt : ∀ x ∈ l, x.t ≤ 360 := by rw [← hl]; exact ph _
 have hwna := hown.1
 have hwnb := hown.2
 have h_how1 := h_how.1
 have h_how2 := h_how.2
 have h_n1 := h_n.1
 have h_n2 := h_n.2
 have h_at_1 := h_at_.1
 have h_at_2 := h_at_.2
 have h_key1 := h_key.1
 have h_key2 := h_key.2
 obtain ⟨ob, hbo⟩ : ∃ z, bentO o how n = z := ⟨_, rfl⟩
 obtain ⟨lbt, hbl⟩ : ∃ z, bentL l how n at_ = z := ⟨_, rfl⟩
 have hlbl : lbt.length ≤ 13 := by have := mc l how n at_; rw [hbl] at this; omega
 obtain ⟨lu, hcu⟩ : ∃ z, cutR rl = z := ⟨_, rfl⟩
 have hlul : lu.length ≤ 3 := by rw [← hcu]; exact n6 _
 obtain ⟨qs, hqs⟩ : ∃ z, few11 xs 6 = z := ⟨_, rfl⟩
 have hql : qs.length ≤ 6 := by rw [← hqs]; exact lS _ _
 refine aC func3 rfl ntmps3 (lb rfl) fun a Z => ?_
 replace Z := Z.p9 0 1 2 3 4 5 6 7 8 rfl
 replace Y : St No w0 [] w0 := St.init w0
 refine aa fun K1 hK1 => bh Z Y de rfl (cs := [iv ro, rv]) rfl ?_
 clear Z Y
 intro a w1 Z Y
 refine wla Z rfl fun a Z => ab (hK1 _ _ <| aa fun K2 hK2 => ?_)
 refine am Z Y de call5 rfl (oY _ (Y.keepb hk0)) ?_
 clear Z Y
 intro a w2 Z Y
 refine wla Z rfl fun a Z => ab (hK2 _ _ <| aa fun K3 hK3 => ?_)
 refine wlm Z rfl fun a Z => aR Z Y de call6 rfl (few_x hqs (Y.arg hav)) ?_
 clear Z Y
 intro a w3 x2 hp Z Y
 revert x2 hp Z Y; rintro v1 hp Z Y
 clear hp
 replace Y : St No w0 [_, _] w3 := Y
 refine wla Z rfl fun a Z => ab (hK3 _ _ <| aa fun K4 hK4 => ?_)
 refine wlm Z rfl fun a Z => wlm Z rfl fun a Z => wlv Z (aZ rfl rfl (runUnderlying9 _)) fun a Z => wlv Z (iN rfl rfl) fun a Z => wlv Z ((ei (xs := odd) (l := 0) (h := (min odd.length 40)) rfl rfl rfl underlying9 (.inl ⟨rfl, rfl⟩) (.inr (by rw [show (min (odd.length : Int) 40 : Int) = (((min odd.length 40) : Nat) : Int) from by omega] <;> rfl)) om (by first | omega | exact Nat.min_le_left _ _)).as (v' := sv (odd.take (min odd.length 40))) rfl) fun a Z => wla Z rfl fun a Z => ab (hK4 _ _ ?_)
 replace Z : Fr 330 [(0, _), (1, _), (3, _), (4, _), (5, _), (6, _), (11, _), (18, _), (19, _), (8, _), (7, _)] [] a := Z.pick [0, 1, 3, 4, 5, 6, 11, 18, 19, 8, 7]
 obtain ⟨tx, htx⟩ : ∃ z : By, odd.take (min odd.length 40) = z := ⟨_, rfl⟩
 rw [htx] at Z
 refine aa fun K5 hK5 => wlm Z rfl fun a Z => wlm Z rfl fun a Z => aR Z Y de call7 rfl (qc ho hl (Y.arg hxv) hys hown) ?_
 clear Z Y
 intro a w4 x4 hp Z Y
 revert x4 hp Z Y; rintro lv3 hp Z Y
 clear hp
 replace Y : St No w0 [_, _, _] w4 := Y
 refine aY Z Y de (zeroValue25 _) (cs := [iv 0, .slice none 0 0]) rfl ?_
 clear Z Y
 intro a w5 Z Y
 refine bf (us := [iv o, lv3]) 0 Z Y rfl rfl rfl (sizeOf25 _) (by intro z hz; simp only [List.mem_cons, List.not_mem_nil, or_false] at hz; rcases hz with rfl | rfl <;> first | rfl | exact SlAt.one (Y.ow 1 rfl)) (lb rfl) (ds := [iv o, lv3]) rfl rfl ?_
 clear Z Y
 intro a w6 Z Y
 refine ab (hK5 _ _ <| ah fun K6 hK6 => ?_)
 refine ah fun K7 hK7 => aH kr ?_
 replace Z : Fr 330 [(0, _), (1, _), (3, _), (4, _), (5, _), (6, _), (11, _), (18, _), (19, _), (8, _), (7, _), (56, _), (57, _), (58, _), (20, _)] [] a := Z.pick [0, 1, 3, 4, 5, 6, 11, 18, 19, 8, 7, 56, 57, 58, 20]
 refine f7 8 [5, 7] (fun V v => own v 25 2 [[iv o, lv3], [iv ob, (scd (V 5))], [iv ro, (scd (V 7))]]) 11 [[], [], [], [], [], [1, 2, 3, 4], [], [6], [0, 5, 7], [8], []] (fun i => match i with | 0 => pv (.agg #[iv o, lv3]) | 1 => pv (.agg #[iv o, lv3]) | 2 => pv (iv how) | 3 => pv (iv n) | 4 => pv (iv at_) | 5 => pm (fun v : Value => .agg #[iv ob, v]) (fun v => [own v 48 5 (lbt.map Rec.cells)]) (fun _ => True) | 6 => pv (.agg #[iv ro, rv]) | 7 => pm (fun v : Value => .agg #[iv ro, v]) (fun v => [own v 48 5 (lu.map Rec.cells)]) (fun _ => True) | 8 => fun v E => (∃ b : Nat, v = .slice (some ⟨b, 0, none⟩) 3 3) ∧ E = [] | 9 => pv (iv 3) | 10 => pv (iv 0) | _ => fun _ _ => False) Z Y kr kr kr de de ?_ (fun V V' v h => by simp only [h 5 de, h 7 de]) ?_ ?_ ?_
 ·intro i v E h
  match i, h with
  | 0, _ => exact by decide
  | 1, _ => exact by decide
  | 2, _ => exact by decide
  | 3, _ => exact by decide
  | 4, _ => exact by decide
  | 5, _ => exact by decide
  | 6, _ => exact by decide
  | 7, _ => exact by decide
  | 8, _ => exact by decide
  | 9, _ => exact by decide
  | 10, _ => exact by decide
  | i + 11, h => exact h.elim
 ·intro i hi h0 e
  match i, hi, h0 with
  | 0, _, _ => exact fun w Y => OpV.g (aw (Y.g 1 rfl) rfl (isAgg25 _) (sizeOf25 _))
  | 1, _, _ => exact fun w Y => OpV.g (aw (Y.g 1 rfl) rfl (isAgg25 _) (sizeOf25 _))
  | 2, _, _ => exact fun w Y => OpV.g (ae rfl)
  | 3, _, _ => exact fun w Y => OpV.g (ae rfl)
  | 4, _, _ => exact fun w Y => OpV.g (ae rfl)
  | 5, _, _ =>
   rintro _ _ ⟨rfl, rfl⟩ _ _ ⟨rfl, rfl⟩ _ _ ⟨rfl, rfl⟩ _ _ ⟨rfl, rfl⟩
   intro w Y
   exact fW call8 rfl (pX hbo hbl (Y.ow 2 rfl) om h_how h_n h_at_)
  | 6, _, _ => exact fun w Y => OpV.g (aw (Y.g 4 rfl) rfl (isAgg25 _) (sizeOf25 _))
  | 7, _, _ =>
   rintro _ _ ⟨rfl, rfl⟩
   intro w Y
   exact fW call9 rfl (cut_x hcu (Y.arg hrv))
  | 8, _, h => exact absurd rfl h
  | 9, _, _ =>
   rintro _ _ ⟨⟨b7, rfl⟩, rfl⟩
   intro w Y
   exact OpV.g (cI (v := iv 3) rfl kr)
  | 10, _, _ => exact fun w Y => OpV.g (ae rfl)
 ·rintro _ _ ⟨rfl, rfl⟩ _ _ ⟨lv5, rfl, -, rfl⟩ _ _ ⟨lv6, rfl, -, rfl⟩
  intro w Y
  have Y : St No w0 (join [] :: [own lv5 48 5 ((lbt).map Rec.cells), own lv6 48 5 ((lu).map Rec.cells), blk w4.hz [iv o, lv3] 25, own lv3 48 5 ((l).map Rec.cells), own v1 9 1 (qs.map fun s => [sv s]), blk w0.hz [iv ro, rv] 25]) w := Y
  have Y := St.unjoin [] _ Y
  exact OpR.to_link (f := fun b : Nat => .slice (some ⟨b, 0, none⟩) 3 3) (e := fun v => own v 25 2 [[iv o, lv3], [iv ob, lv5], [iv ro, lv6]]) (bn (E := 25) (sz := 2) rfl [[iv o, lv3], [iv ob, lv5], [iv ro, lv6]] (fun _ => by obtain ⟨_, _, _, e0_⟩ := dz (Y.ow 3 rfl); obtain ⟨_, _, _, e1_⟩ := dz (Y.ow 0 rfl); obtain ⟨_, _, _, e2_⟩ := dz (Y.ow 1 rfl); rw [e0_, e1_, e2_]; kernel_rfl) sm rfl de) (fun b => ⟨⟨b, rfl⟩, rfl⟩)
 clear Z Y
 rintro V _ _ ⟨⟨rfl, rfl⟩, -⟩ _ _ ⟨⟨rfl, rfl⟩, -⟩ _ _ ⟨⟨rfl, rfl⟩, -⟩ _ _ ⟨⟨rfl, rfl⟩, -⟩ _ _ ⟨⟨rfl, rfl⟩, -⟩ _ _ ⟨⟨lv5, rfl, -, rfl⟩, hv5⟩ _ _ ⟨⟨rfl, rfl⟩, -⟩ _ _ ⟨⟨lv6, rfl, -, rfl⟩, hv7⟩ _ _ ⟨⟨⟨b7, rfl⟩, rfl⟩, hv8⟩ _ _ ⟨⟨rfl, rfl⟩, -⟩ _ _ ⟨⟨rfl, rfl⟩, -⟩ a w7 Z Y
 replace Z : Fr 330 [(59, _), (60, _), (61, _), (62, _), (63, _), (64, _), (65, _), (66, _), (67, _), (68, _), (69, _), (0, _), (1, _), (3, _), (4, _), (5, _), (6, _), (11, _), (18, _), (19, _), (8, _), (7, _), (56, _), (57, _), (58, _), (20, _)] [] a := Z
 replace Y : St No w0 [_, _, _, _, _, _, _] w7 := Y
 rw [← hv8, ← hv5, ← hv7] at Y
 replace Y : St No w0 [_, _, _, _, _, _, _] w7 := Y
 refine ab <| hK7 _ _ ?_
 replace Z := Z.p10 4 5 6 18 19 8 7 67 68 69 rfl
 replace Y := Y.k5 55 rfl
 refine aq ?_
 obtain ⟨zs, hzs⟩ : ∃ zs : List (Int × Value × List Rec), zs = [(o, lv3, l), (ob, lv5, lbt), (ro, lv6, lu)] := ⟨_, rfl⟩
 replace Y : St No w0 [own lv3 48 5 ((l).map Rec.cells), own lv5 48 5 ((lbt).map Rec.cells), own lv6 48 5 ((lu).map Rec.cells), own (.slice (some ⟨b7, 0, none⟩) 3 3) 25 2 ([[iv o, lv3], [iv ob, lv5], [iv ro, lv6]]), own v1 9 1 (qs.map fun s => [sv s])] w7 := Y.select [3, 0, 1, 2, 4] de
 have Y := St.join [own lv3 48 5 ((l).map Rec.cells), own lv5 48 5 ((lbt).map Rec.cells), own lv6 48 5 ((lu).map Rec.cells)] [own (.slice (some ⟨b7, 0, none⟩) 3 3) 25 2 ([[iv o, lv3], [iv ob, lv5], [iv ro, lv6]]), own v1 9 1 (qs.map fun s => [sv s])] Y
 have hzl3 : zs.length = 3 := by rw [hzs]; rfl
 have Y : St No w0 [join [own lv3 48 5 ((l).map Rec.cells), own lv5 48 5 ((lbt).map Rec.cells), own lv6 48 5 ((lu).map Rec.cells)], own (.slice (some ⟨b7, 0, none⟩) 3 3) 25 2 ((zs).map fun z : Int × Value × List Rec => [iv z.1, z.2.1]), own v1 9 1 (qs.map fun s => [sv s])] w7 := by rw [hzs]; exact Y
 refine aT (fun m a w => ∃ (j : Nat), m = 3 - j ∧ (j ≤ 3) ∧ Fr 330 [(4, iv n), (5, iv at_), (6, iv key), (19, .bool true), (8, v1), (7, sv tx), (67, (.slice (some ⟨b7, 0, none⟩) 3 3)), (68, iv 3), (69, iv (j : Int))] [] a ∧ St No w0 [join [own lv3 48 5 ((l).map Rec.cells), own lv5 48 5 ((lbt).map Rec.cells), own lv6 48 5 ((lu).map Rec.cells)], own (.slice (some ⟨b7, 0, none⟩) 3 3) 25 2 ((zs).map fun z : Int × Value × List Rec => [iv z.1, z.2.1]), own v1 9 1 (qs.map fun s => [sv s])] w) _ ⟨0, rfl, Nat.zero_le _, Z.pick [4, 5, 6, 19, 8, 7, 67, 68, 69], Y.select [0, 1, 2] de⟩ ?_
 rintro _ a w8 ⟨j, rfl, hj, Z, Y⟩
 refine aa fun K8 hK8 => wlv Z (v_lt rfl rfl) fun a Z => ab (hK8 _ _ <| ah fun K9 hK9 => ?_)
 refine ax Z rfl (fun hc8 => ?_) (fun hc8 => ?_)
 ·rw [hc8] at Z
  try simp only [qz] at hc8
  have hj3 : j = 0 ∨ j = 1 ∨ j = 2 := by omega
  obtain ⟨zo, zv, zl, hz⟩ : ∃ a b c, zs.getD j zd = (a, b, c) := ⟨_, _, _, rfl⟩
  have hzf : (∀ w, (join [own lv3 48 5 ((l).map Rec.cells), own lv5 48 5 ((lbt).map Rec.cells), own lv6 48 5 ((lu).map Rec.cells)]).ok w → SlAt w zv 5 (zl.map Rec.cells)) ∧ zl.length ≤ 13 := by
   rcases hj3 with e | e | e <;> rw [e, hzs] at hz
   ·have hz : ((o, lv3, l) : Int × Value × List Rec) = (zo, zv, zl) := hz
    cases hz
    exact ⟨fun w hw => dO (hw.1 _ List.mem_cons_self), by omega⟩
   ·have hz : ((ob, lv5, lbt) : Int × Value × List Rec) = (zo, zv, zl) := hz
    cases hz
    exact ⟨fun w hw => dO (hw.1 _ (List.mem_cons_of_mem _ List.mem_cons_self)), by omega⟩
   ·have hz : ((ro, lv6, lu) : Int × Value × List Rec) = (zo, zv, zl) := hz
    cases hz
    exact ⟨fun w hw => dO (hw.1 _ (List.mem_cons_of_mem _ (List.mem_cons_of_mem _ List.mem_cons_self))), by omega⟩
  have hzll := hzf.2
  have hpn1 := bu n (n := (zl.length : Int) + 1) om
  have hpl := fun i => la (o := zo) (l := zl) (i := i) om
  have hgl := fun i => kB (o := zo) (l := zl) (i := i) om
  refine ap <| hK9 _ _ <| ah fun K10 hK10 => aq <| aa fun K11 hK11 => wlv Z ((aj (i := (j : Int)) (sT := 32) (Y.ow 1 rfl) rfl rfl (runUnderlying32 _) (sizeOf25 _) om (by rw [List.length_map]; omega)).as (v' := slAddr (.slice (some ⟨b7, 0, none⟩) 3 3) (j * 2)) rfl) fun a Z => wlv Z ((aU (Y.ow 1 rfl) (i := j) (by rw [List.length_map]; omega) rfl (isAgg25 _) (sizeOf25 _)).as (v' := .agg #[iv zo, zv]) (by rw [bl zd, hz])) fun a Z => aY Z Y de (zeroValue25 _) (cs := [iv 0, .slice none 0 0]) rfl ?_
  clear Z Y
  intro a w9 Z Y
  refine bf (us := [iv zo, zv]) 0 Z Y rfl rfl rfl (sizeOf25 _) (by intro z hz; simp only [List.mem_cons, List.not_mem_nil, or_false] at hz; rcases hz with rfl | rfl <;> first | rfl | exact SlAt.one (hzf.1 _ (Y.g 1 rfl))) (lb rfl) (ds := [iv zo, zv]) rfl rfl ?_
  clear Z Y
  intro a w10 Z Y
  refine ab (hK11 _ _ <| aa fun K12 hK12 => ?_)
  refine wlv Z (aw (Y.g 0 rfl) rfl (isAgg25 _) (sizeOf25 _)) fun a Z => am Z Y de call10 rfl (fS zo zv zl _ (hzf.1 _ (Y.g 1 rfl)) (Y.keepb hk0)) ?_
  clear Z Y
  intro a w11 Z Y
  refine wlm Z rfl fun a Z => wlv Z (ak rfl rfl) fun a Z => wlv Z (ak rfl rfl) fun a Z => wla Z rfl fun a Z => wla Z rfl fun a Z => ab (hK12 _ _ ?_)
  replace Z := Z.p12 4 5 6 19 8 7 67 68 69 22 23 24 rfl
  refine aa fun K13 hK13 => wlv Z (aw (Y.g 0 rfl) rfl (isAgg25 _) (sizeOf25 _)) fun a Z => am Z Y de call11 rfl (e7 zo zv zl _ (hzf.1 _ (Y.g 1 rfl)) (by first | omega | (rw [List.length_take]; omega))) ?_
  clear Z Y
  intro a w12 Z Y
  refine wlm Z rfl fun a Z => wlv Z (ak rfl rfl) fun a Z => wlv Z (ak rfl rfl) fun a Z => wla Z rfl fun a Z => wla Z rfl fun a Z => ab (hK13 _ _ <| ah fun K14 hK14 => ?_)
  refine aa fun K15 hK15 => wlm Z rfl fun a Z => wlm Z rfl fun a Z => wlv Z ((lE rfl rfl).asb (b' := false) sm) fun a Z => wlm Z rfl fun a Z => wly Z (ae rfl) fun a Z => wly Z (ae rfl) fun a Z => wly Z ((v_ne rfl rfl).asb (b' := false) sm) fun a Z => wlv Z (au rfl rfl) fun a Z => ab (hK15 _ _ ?_)
  replace Z := Z.p12 4 5 6 19 8 7 67 68 69 22 25 90 rfl
  refine aG Z rfl ?_
  refine ap <| hK14 _ _ <| ah fun K16 hK16 => aa fun K17 hK17 => wlm Z rfl fun a Z => am Z Y de call12 rfl (lj key _ (by assumption)) ?_
  clear Z Y
  intro a w13 Z Y
  refine wlm Z rfl fun a Z => aE (E := 9) (sz := 1) rfl [[sv (keyR key)], [sv tx]] kr sm rfl de de Z Y ?_
  clear Z Y
  intro a w14 Z Y
  refine wlv Z ((aB (sT := 26) (Y.ow 0 rfl) rfl rfl (runUnderlying26 _)).asi (m' := 2) rfx) fun a Z => wlm Z rfl fun a Z => ab (hK17 _ _ <| aq ?_)
  refine di 3 ?_
  refine bF ?_
  refine aa fun K18 hK18 => wlv Z ((v_lt rfl rfl).asb (b' := true) rfl) fun a Z => ab (hK18 _ _ <| ah fun K19 hK19 => ?_)
  refine aD Z rfl ?_
  refine ap <| hK19 _ _ <| ah fun K20 hK20 => ?_
  refine cO (fun a w => Fr 330 [(4, iv n), (5, iv at_), (6, iv key), (19, .bool true), (8, v1), (7, sv tx), (67, (.slice (some ⟨b7, 0, none⟩) 3 3)), (68, iv 3), (69, iv (j : Int)), (22, pt w8.hz), (25, sv (headB zo zl)), (94, (.slice (some ⟨w13.hz, 0, none⟩) 2 2)), (95, iv 2), (96, iv 0)] [] a ∧ St No w0 [own (.slice (some ⟨w13.hz, 0, none⟩) 2 2) 9 1 ([[sv (keyR key)], [sv tx]]), blk w8.hz [iv zo, zv] 25, join [own lv3 48 5 ((l).map Rec.cells), own lv5 48 5 ((lbt).map Rec.cells), own lv6 48 5 ((lu).map Rec.cells)], own (.slice (some ⟨b7, 0, none⟩) 3 3) 25 2 ((zs).map fun z : Int × Value × List Rec => [iv z.1, z.2.1]), own v1 9 1 (qs.map fun s => [sv s])] w) ?_ ?_
  ·refine aq <| aa fun K21 hK21 => wlv Z ((aj (i := 0) (sT := 26) (Y.ow 0 rfl) rfl rfl (runUnderlying26 _) (sizeOf9 _) om sm).as (v' := slAddr (.slice (some ⟨w13.hz, 0, none⟩) 2 2) (0 * 1)) rfl) fun a Z => wlv Z (ay (u := sv (keyR key)) (i := 0) (j := 0) (Y.ow 0 rfl) sm rfl (isAgg9 _) rfx) fun a Z => wla Z rfl fun a Z => ab (hK21 _ _ ?_)
   replace Z : Fr 330 [(4, _), (5, _), (6, _), (19, _), (8, _), (7, _), (67, _), (68, _), (69, _), (22, _), (25, _), (94, _), (95, _), (96, _), (28, _)] [] a := Z.pick [4, 5, 6, 19, 8, 7, 67, 68, 69, 22, 25, 94, 95, 96, 28]
   refine aa fun K22 hK22 => wlm Z rfl fun a Z => wlv Z (aw (Y.g 1 rfl) rfl (isAgg25 _) (sizeOf25 _)) fun a Z => am Z Y de call13 rfl (jh (keyR key) zo zv zl _ (hzf.1 _ (Y.g 2 rfl)) (Y.keepb hk0)) ?_
   clear Z Y
   intro a w15 Z Y
   refine wlm Z rfl fun a Z => wlv Z (ak rfl rfl) fun a Z => wlv Z (ak rfl rfl) fun a Z => wla Z rfl fun a Z => wla Z rfl fun a Z => ab (hK22 _ _ ?_)
   replace Z := Z.p17 4 5 6 19 8 7 67 68 69 22 25 94 95 96 28 29 30 rfl
   refine aa fun K23 hK23 => wlm Z rfl fun a Z => wlv Z (aw (Y.g 1 rfl) rfl (isAgg25 _) (sizeOf25 _)) fun a Z => am Z Y de call14 rfl (kf (keyR key) zo zv zl _ (hzf.1 _ (Y.g 2 rfl)) (by first | omega | (rw [List.length_take]; omega))) ?_
   clear Z Y
   intro a w16 Z Y
   refine wlm Z rfl fun a Z => wlv Z (ak rfl rfl) fun a Z => wlv Z (ak rfl rfl) fun a Z => wla Z rfl fun a Z => wla Z rfl fun a Z => ab (hK23 _ _ ?_)
   replace Z := Z.p19 4 5 6 19 8 7 67 68 69 22 25 94 95 96 28 29 30 31 32 rfl
   refine ah fun K24 hK24 => aH kr (aI kr fun w17 hxz => ?_)
   replace Y := Y.grow hxz
   refine aP (k := 0) 2 [0, 1] Z kr kr kr rfx ?_
   replace Z := Z.p19 4 5 6 19 8 7 67 68 69 22 25 94 95 96 28 29 30 31 32 rfl
   refine az [] (fun i => match i with | _ => fun _ _ => False) 2 [[], []] [sv (signB (keyR key) zo zl), sv (signB (keyR key) zo zl)] Z Y kr kr kr ?_ ?_ ?_
   ·intro i hi hiq
    match i, hi, hiq with
    | 0, _, _ => exact fun w Y => OpV.g (ae rfl)
    | 1, _, _ => exact fun w Y => OpV.g (ae rfl)
   ·intro i hi
    exact absurd hi sm
   clear Z Y
   intro  a w18 Z Y
   replace Z : Fr 330 [(112, sv (signB (keyR key) zo zl)), (113, sv (signB (keyR key) zo zl)), (4, _), (5, _), (6, _), (19, _), (8, _), (7, _), (67, _), (68, _), (69, _), (22, _), (25, _), (94, _), (95, _), (96, _), (28, _), (29, _), (30, _), (31, _), (32, _)] [] a := Z
   refine ab <| aK (k := 2) 4 [3] kr kr kr ?_
   refine wlv Z ((lE rfl rfl).asb (b' := false) sm) fun a Z => wlm Z rfl fun a Z => ab <| aP (k := 4) 6 [4, 5] Z kr kr kr rfx ?_
   replace Z := Z.p23 4 5 6 19 8 7 67 68 69 22 25 94 95 96 28 29 30 31 32 112 113 114 115 rfl
   refine az [] (fun i => match i with | _ => fun _ _ => False) 2 [[], []] [iv (signE (keyR key) zo zl), iv (signE (keyR key) zo zl)] Z Y kr kr kr ?_ ?_ ?_
   ·intro i hi hiq
    match i, hi, hiq with
    | 0, _, _ => exact fun w Y => OpV.g (ae rfl)
    | 1, _, _ => exact fun w Y => OpV.g (ae rfl)
   ·intro i hi
    exact absurd hi sm
   clear Z Y
   intro  a w19 Z Y
   replace Z : Fr 330 [(116, iv (signE (keyR key) zo zl)), (117, iv (signE (keyR key) zo zl)), (4, _), (5, _), (6, _), (19, _), (8, _), (7, _), (67, _), (68, _), (69, _), (22, _), (25, _), (94, _), (95, _), (96, _), (28, _), (29, _), (30, _), (31, _), (32, _), (112, _), (113, _), (114, _), (115, _)] [] a := Z
   refine ab <| aK (k := 6) 9 [8] kr kr kr ?_
   refine wly Z ((v_ne rfl rfl).asb (b' := false) sm) fun a Z => wlv Z (au rfl rfl) fun a Z => wlm Z rfl fun a Z => ab <| aP (k := 9) 26 [17, 18, 20, 23, 24, 25] Z kr kr kr rfx ?_
   replace Z : Fr 330 [(4, _), (5, _), (6, _), (19, _), (8, _), (7, _), (67, _), (68, _), (69, _), (22, _), (25, _), (94, _), (95, _), (96, _), (28, _), (29, _), (30, _), (31, _), (32, _), (112, _), (113, _), (114, _), (115, _), (116, _), (117, _), (118, _), (119, _), (120, _)] [] a := Z.pick [4, 5, 6, 19, 8, 7, 67, 68, 69, 22, 25, 94, 95, 96, 28, 29, 30, 31, 32, 112, 113, 114, 115, 116, 117, 118, 119, 120]
   refine az [] (fun i => match i with | _ => fun _ _ => False) 17 [[], [], [1], [], [3], [4], [], [], [0, 2, 5, 6, 7], [], [], [10], [], [12], [13], [], []] [sv (keyR key), pt w8.hz, iv zo, po w8.hz 1, zv, iv (zl.length : Int), sv (headB zo zl), sv (signB (keyR key) zo zl), .bool (genR sha (keyR key) zo (zl.length : Int) (headB zo zl) (signB (keyR key) zo zl)), sv (keyR key), pt w8.hz, iv zo, po w8.hz 1, zv, iv (zl.length : Int), sv (headB zo zl), sv (signB (keyR key) zo zl)] Z Y kr kr kr ?_ ?_ ?_
   ·intro i hi hiq
    match i, hi, hiq with
    | 0, _, _ => exact fun w Y => OpV.g (ae rfl)
    | 1, _, _ => exact fun w Y => OpV.g (ai (v := pt w8.hz) rfl kr)
    | 2, _, _ => exact fun w Y => OpV.g (ld Y 1 rfl rfl (isAgg3 _) rfl)
    | 3, _, _ => exact fun w Y => OpV.g (ai (v := po w8.hz 1) rfl kr)
    | 4, _, _ => exact fun w Y => OpV.g (ld Y 1 rfl rfl (isAgg23 _) rfl)
    | 5, _, _ => exact fun w Y => OpV.g ((aB (sT := 23) (hzf.1 _ (Y.g 2 rfl)) rfl rfl (runUnderlying23 _)).asi (m' := (zl.length : Int)) (by rw [List.length_map]))
    | 6, _, _ => exact fun w Y => OpV.g (ae rfl)
    | 7, _, _ => exact fun w Y => OpV.g (ae rfl)
    | 8, _, _ => exact fun w Y => aQ call15 rfl (cC (keyR key) zo (zl.length : Int) (headB zo zl) (signB (keyR key) zo zl) _ (Y.keepb hk0))
    | 9, _, _ => exact fun w Y => OpV.g (ae rfl)
    | 10, _, _ => exact fun w Y => OpV.g (ai (v := pt w8.hz) rfl kr)
    | 11, _, _ => exact fun w Y => OpV.g (ld Y 1 rfl rfl (isAgg3 _) rfl)
    | 12, _, _ => exact fun w Y => OpV.g (ai (v := po w8.hz 1) rfl kr)
    | 13, _, _ => exact fun w Y => OpV.g (ld Y 1 rfl rfl (isAgg23 _) rfl)
    | 14, _, _ => exact fun w Y => OpV.g ((aB (sT := 23) (hzf.1 _ (Y.g 2 rfl)) rfl rfl (runUnderlying23 _)).asi (m' := (zl.length : Int)) (by rw [List.length_map]))
    | 15, _, _ => exact fun w Y => OpV.g (ae rfl)
    | 16, _, _ => exact fun w Y => OpV.g (ae rfl)
    | i + 17, h, _ => exact absurd h om
   ·intro i hi
    exact absurd hi sm
   clear Z Y
   intro  a w20 Z Y
   replace Z : Fr 330 [(121, sv (keyR key)), (122, pt w8.hz), (123, iv zo), (124, po w8.hz 1), (125, zv), (126, iv (zl.length : Int)), (127, sv (headB zo zl)), (128, sv (signB (keyR key) zo zl)), (129, .bool (genR sha (keyR key) zo (zl.length : Int) (headB zo zl) (signB (keyR key) zo zl))), (130, sv (keyR key)), (131, pt w8.hz), (132, iv zo), (133, po w8.hz 1), (134, zv), (135, iv (zl.length : Int)), (136, sv (headB zo zl)), (137, sv (signB (keyR key) zo zl)), (4, _), (5, _), (6, _), (19, _), (8, _), (7, _), (67, _), (68, _), (69, _), (22, _), (25, _), (94, _), (95, _), (96, _), (28, _), (29, _), (30, _), (31, _), (32, _), (112, _), (113, _), (114, _), (115, _), (116, _), (117, _), (118, _), (119, _), (120, _)] [] a := Z
   refine ab <| aK (k := 26) 30 [29] kr kr kr ?_
   refine aO Z Y de rfl de rfl call16 rfl (dA (keyR key) zo (zl.length : Int) (headB zo zl) (signB (keyR key) zo zl) _) ?_
   clear Z Y
   intro a w21 Z Y
   refine wly Z ((bd rfl rfl underlying4).asb (b' := false) sm) fun a Z => wlv Z (au rfl rfl) fun a Z => wlm Z rfl fun a Z => ab <| aP (k := 30) 41 [35, 36, 37, 38, 39, 40] Z kr kr kr rfx ?_
   replace Z : Fr 330 [(4, _), (5, _), (6, _), (19, _), (8, _), (7, _), (67, _), (68, _), (69, _), (22, _), (25, _), (94, _), (95, _), (96, _), (28, _), (29, _), (30, _), (31, _), (32, _), (112, _), (113, _), (114, _), (115, _), (116, _), (117, _), (118, _), (119, _), (120, _), (121, _), (122, _), (123, _), (124, _), (125, _), (126, _), (127, _), (128, _), (129, _), (130, _), (131, _), (132, _), (133, _), (134, _), (135, _), (136, _), (137, _), (138, _), (139, _), (140, _), (141, _)] [] a := Z.pick [4, 5, 6, 19, 8, 7, 67, 68, 69, 22, 25, 94, 95, 96, 28, 29, 30, 31, 32, 112, 113, 114, 115, 116, 117, 118, 119, 120, 121, 122, 123, 124, 125, 126, 127, 128, 129, 130, 131, 132, 133, 134, 135, 136, 137, 138, 139, 140, 141]
   refine az [] (fun i => match i with | _ => fun _ _ => False) 11 [[], [], [], [], [], [0, 1, 2, 3, 4], [], [], [], [], []] [sv (keyR key), iv n, iv at_, sv tx, sv (signB (keyR key) zo zl), .bool (genR sha (keyR key) n at_ tx (signB (keyR key) zo zl)), sv (keyR key), iv n, iv at_, sv tx, sv (signB (keyR key) zo zl)] Z Y kr kr kr ?_ ?_ ?_
   ·intro i hi hiq
    match i, hi, hiq with
    | 0, _, _ => exact fun w Y => OpV.g (ae rfl)
    | 1, _, _ => exact fun w Y => OpV.g (ae rfl)
    | 2, _, _ => exact fun w Y => OpV.g (ae rfl)
    | 3, _, _ => exact fun w Y => OpV.g (ae rfl)
    | 4, _, _ => exact fun w Y => OpV.g (ae rfl)
    | 5, _, _ => exact fun w Y => aQ call15 rfl (cC (keyR key) n at_ tx (signB (keyR key) zo zl) _ (Y.keepb hk0))
    | 6, _, _ => exact fun w Y => OpV.g (ae rfl)
    | 7, _, _ => exact fun w Y => OpV.g (ae rfl)
    | 8, _, _ => exact fun w Y => OpV.g (ae rfl)
    | 9, _, _ => exact fun w Y => OpV.g (ae rfl)
    | 10, _, _ => exact fun w Y => OpV.g (ae rfl)
   ·intro i hi
    exact absurd hi sm
   clear Z Y
   intro  a w22 Z Y
   replace Z : Fr 330 [(142, sv (keyR key)), (143, iv n), (144, iv at_), (145, sv tx), (146, sv (signB (keyR key) zo zl)), (147, .bool (genR sha (keyR key) n at_ tx (signB (keyR key) zo zl))), (148, sv (keyR key)), (149, iv n), (150, iv at_), (151, sv tx), (152, sv (signB (keyR key) zo zl)), (4, _), (5, _), (6, _), (19, _), (8, _), (7, _), (67, _), (68, _), (69, _), (22, _), (25, _), (94, _), (95, _), (96, _), (28, _), (29, _), (30, _), (31, _), (32, _), (112, _), (113, _), (114, _), (115, _), (116, _), (117, _), (118, _), (119, _), (120, _), (121, _), (122, _), (123, _), (124, _), (125, _), (126, _), (127, _), (128, _), (129, _), (130, _), (131, _), (132, _), (133, _), (134, _), (135, _), (136, _), (137, _), (138, _), (139, _), (140, _), (141, _)] [] a := Z
   refine ab <| aK (k := 41) 44 [43] kr kr kr ?_
   refine aO Z Y de rfl de rfl call16 rfl (dA (keyR key) n at_ tx (signB (keyR key) zo zl) _) ?_
   clear Z Y
   intro a w23 Z Y
   refine wly Z ((bd rfl rfl underlying4).asb (b' := false) sm) fun a Z => wlv Z (au rfl rfl) fun a Z => ab <| aW kr ?_
   refine hK24 _ _ ?_
   replace Z : Fr 330 [(4, _), (5, _), (6, _), (19, _), (8, _), (7, _), (67, _), (68, _), (69, _), (22, _), (25, _), (94, _), (95, _), (96, _), (155, _)] [] a := Z.pick [4, 5, 6, 19, 8, 7, 67, 68, 69, 22, 25, 94, 95, 96, 155]
   refine aG Z rfl ?_
   refine ap ?_
   exact ⟨Z.pick [4, 5, 6, 19, 8, 7, 67, 68, 69, 22, 25, 94, 95, 96], Y.select [0, 1, 2, 3, 4] de⟩
  rintro a w24 ⟨Z, Y⟩
  refine hK20 _ _ <| ar <| wlv Z ((aV rfl rfl de).asi (m' := 1) rfl) fun a Z => wlm Z rfl fun a Z => ab <| bF ?_
  refine aa fun K25 hK25 => wlv Z ((v_lt rfl rfl).asb (b' := true) rfl) fun a Z => ab (hK25 _ _ <| ah fun K26 hK26 => ?_)
  refine aD Z rfl ?_
  refine ap <| hK26 _ _ <| ah fun K27 hK27 => ?_
  refine cO (fun a w => Fr 330 [(4, iv n), (5, iv at_), (6, iv key), (19, .bool true), (8, v1), (7, sv tx), (67, (.slice (some ⟨b7, 0, none⟩) 3 3)), (68, iv 3), (69, iv (j : Int)), (22, pt w8.hz), (25, sv (headB zo zl)), (94, (.slice (some ⟨w13.hz, 0, none⟩) 2 2)), (95, iv 2), (96, iv 1)] [] a ∧ St No w0 [own (.slice (some ⟨w13.hz, 0, none⟩) 2 2) 9 1 ([[sv (keyR key)], [sv tx]]), blk w8.hz [iv zo, zv] 25, join [own lv3 48 5 ((l).map Rec.cells), own lv5 48 5 ((lbt).map Rec.cells), own lv6 48 5 ((lu).map Rec.cells)], own (.slice (some ⟨b7, 0, none⟩) 3 3) 25 2 ((zs).map fun z : Int × Value × List Rec => [iv z.1, z.2.1]), own v1 9 1 (qs.map fun s => [sv s])] w) ?_ ?_
  ·refine aq <| aa fun K28 hK28 => wlv Z ((aj (i := 1) (sT := 26) (Y.ow 0 rfl) rfl rfl (runUnderlying26 _) (sizeOf9 _) om sm).as (v' := slAddr (.slice (some ⟨w13.hz, 0, none⟩) 2 2) (1 * 1)) rfl) fun a Z => wlv Z (ay (u := sv tx) (i := 1) (j := 0) (Y.ow 0 rfl) sm rfl (isAgg9 _) rfx) fun a Z => wla Z rfl fun a Z => ab (hK28 _ _ <| aa fun K29 hK29 => ?_)
   refine wlm Z rfl fun a Z => wlv Z (aw (Y.g 1 rfl) rfl (isAgg25 _) (sizeOf25 _)) fun a Z => am Z Y de call13 rfl (jh tx zo zv zl _ (hzf.1 _ (Y.g 2 rfl)) (Y.keepb hk0)) ?_
   clear Z Y
   intro a w25 Z Y
   refine wlm Z rfl fun a Z => wlv Z (ak rfl rfl) fun a Z => wlv Z (ak rfl rfl) fun a Z => wla Z rfl fun a Z => wla Z rfl fun a Z => ab (hK29 _ _ ?_)
   replace Z := Z.p17 4 5 6 19 8 7 67 68 69 22 25 94 95 96 28 29 30 rfl
   refine aa fun K30 hK30 => wlm Z rfl fun a Z => wlv Z (aw (Y.g 1 rfl) rfl (isAgg25 _) (sizeOf25 _)) fun a Z => am Z Y de call14 rfl (kf tx zo zv zl _ (hzf.1 _ (Y.g 2 rfl)) (by first | omega | (rw [List.length_take]; omega))) ?_
   clear Z Y
   intro a w26 Z Y
   refine wlm Z rfl fun a Z => wlv Z (ak rfl rfl) fun a Z => wlv Z (ak rfl rfl) fun a Z => wla Z rfl fun a Z => wla Z rfl fun a Z => ab (hK30 _ _ ?_)
   replace Z := Z.p19 4 5 6 19 8 7 67 68 69 22 25 94 95 96 28 29 30 31 32 rfl
   refine ah fun K31 hK31 => aH kr (aI kr fun w27 hxz => ?_)
   replace Y := Y.grow hxz
   refine aP (k := 0) 2 [0, 1] Z kr kr kr rfx ?_
   replace Z := Z.p19 4 5 6 19 8 7 67 68 69 22 25 94 95 96 28 29 30 31 32 rfl
   refine az [] (fun i => match i with | _ => fun _ _ => False) 2 [[], []] [sv (signB tx zo zl), sv (signB tx zo zl)] Z Y kr kr kr ?_ ?_ ?_
   ·intro i hi hiq
    match i, hi, hiq with
    | 0, _, _ => exact fun w Y => OpV.g (ae rfl)
    | 1, _, _ => exact fun w Y => OpV.g (ae rfl)
   ·intro i hi
    exact absurd hi sm
   clear Z Y
   intro  a w28 Z Y
   replace Z : Fr 330 [(112, sv (signB tx zo zl)), (113, sv (signB tx zo zl)), (4, _), (5, _), (6, _), (19, _), (8, _), (7, _), (67, _), (68, _), (69, _), (22, _), (25, _), (94, _), (95, _), (96, _), (28, _), (29, _), (30, _), (31, _), (32, _)] [] a := Z
   refine ab <| aK (k := 2) 4 [3] kr kr kr ?_
   refine wlv Z ((lE rfl rfl).asb (b' := false) sm) fun a Z => wlm Z rfl fun a Z => ab <| aP (k := 4) 6 [4, 5] Z kr kr kr rfx ?_
   replace Z := Z.p23 4 5 6 19 8 7 67 68 69 22 25 94 95 96 28 29 30 31 32 112 113 114 115 rfl
   refine az [] (fun i => match i with | _ => fun _ _ => False) 2 [[], []] [iv (signE tx zo zl), iv (signE tx zo zl)] Z Y kr kr kr ?_ ?_ ?_
   ·intro i hi hiq
    match i, hi, hiq with
    | 0, _, _ => exact fun w Y => OpV.g (ae rfl)
    | 1, _, _ => exact fun w Y => OpV.g (ae rfl)
   ·intro i hi
    exact absurd hi sm
   clear Z Y
   intro  a w29 Z Y
   replace Z : Fr 330 [(116, iv (signE tx zo zl)), (117, iv (signE tx zo zl)), (4, _), (5, _), (6, _), (19, _), (8, _), (7, _), (67, _), (68, _), (69, _), (22, _), (25, _), (94, _), (95, _), (96, _), (28, _), (29, _), (30, _), (31, _), (32, _), (112, _), (113, _), (114, _), (115, _)] [] a := Z
   refine ab <| aK (k := 6) 9 [8] kr kr kr ?_
   refine wly Z ((v_ne rfl rfl).asb (b' := false) sm) fun a Z => wlv Z (au rfl rfl) fun a Z => wlm Z rfl fun a Z => ab <| aP (k := 9) 26 [17, 18, 20, 23, 24, 25] Z kr kr kr rfx ?_
   replace Z : Fr 330 [(4, _), (5, _), (6, _), (19, _), (8, _), (7, _), (67, _), (68, _), (69, _), (22, _), (25, _), (94, _), (95, _), (96, _), (28, _), (29, _), (30, _), (31, _), (32, _), (112, _), (113, _), (114, _), (115, _), (116, _), (117, _), (118, _), (119, _), (120, _)] [] a := Z.pick [4, 5, 6, 19, 8, 7, 67, 68, 69, 22, 25, 94, 95, 96, 28, 29, 30, 31, 32, 112, 113, 114, 115, 116, 117, 118, 119, 120]
   refine az [] (fun i => match i with | _ => fun _ _ => False) 17 [[], [], [1], [], [3], [4], [], [], [0, 2, 5, 6, 7], [], [], [10], [], [12], [13], [], []] [sv tx, pt w8.hz, iv zo, po w8.hz 1, zv, iv (zl.length : Int), sv (headB zo zl), sv (signB tx zo zl), .bool (genR sha tx zo (zl.length : Int) (headB zo zl) (signB tx zo zl)), sv tx, pt w8.hz, iv zo, po w8.hz 1, zv, iv (zl.length : Int), sv (headB zo zl), sv (signB tx zo zl)] Z Y kr kr kr ?_ ?_ ?_
   ·intro i hi hiq
    match i, hi, hiq with
    | 0, _, _ => exact fun w Y => OpV.g (ae rfl)
    | 1, _, _ => exact fun w Y => OpV.g (ai (v := pt w8.hz) rfl kr)
    | 2, _, _ => exact fun w Y => OpV.g (ld Y 1 rfl rfl (isAgg3 _) rfl)
    | 3, _, _ => exact fun w Y => OpV.g (ai (v := po w8.hz 1) rfl kr)
    | 4, _, _ => exact fun w Y => OpV.g (ld Y 1 rfl rfl (isAgg23 _) rfl)
    | 5, _, _ => exact fun w Y => OpV.g ((aB (sT := 23) (hzf.1 _ (Y.g 2 rfl)) rfl rfl (runUnderlying23 _)).asi (m' := (zl.length : Int)) (by rw [List.length_map]))
    | 6, _, _ => exact fun w Y => OpV.g (ae rfl)
    | 7, _, _ => exact fun w Y => OpV.g (ae rfl)
    | 8, _, _ => exact fun w Y => aQ call15 rfl (cC tx zo (zl.length : Int) (headB zo zl) (signB tx zo zl) _ (Y.keepb hk0))
    | 9, _, _ => exact fun w Y => OpV.g (ae rfl)
    | 10, _, _ => exact fun w Y => OpV.g (ai (v := pt w8.hz) rfl kr)
    | 11, _, _ => exact fun w Y => OpV.g (ld Y 1 rfl rfl (isAgg3 _) rfl)
    | 12, _, _ => exact fun w Y => OpV.g (ai (v := po w8.hz 1) rfl kr)
    | 13, _, _ => exact fun w Y => OpV.g (ld Y 1 rfl rfl (isAgg23 _) rfl)
    | 14, _, _ => exact fun w Y => OpV.g ((aB (sT := 23) (hzf.1 _ (Y.g 2 rfl)) rfl rfl (runUnderlying23 _)).asi (m' := (zl.length : Int)) (by rw [List.length_map]))
    | 15, _, _ => exact fun w Y => OpV.g (ae rfl)
    | 16, _, _ => exact fun w Y => OpV.g (ae rfl)
    | i + 17, h, _ => exact absurd h om
   ·intro i hi
    exact absurd hi sm
   clear Z Y
   intro  a w30 Z Y
   replace Z : Fr 330 [(121, sv tx), (122, pt w8.hz), (123, iv zo), (124, po w8.hz 1), (125, zv), (126, iv (zl.length : Int)), (127, sv (headB zo zl)), (128, sv (signB tx zo zl)), (129, .bool (genR sha tx zo (zl.length : Int) (headB zo zl) (signB tx zo zl))), (130, sv tx), (131, pt w8.hz), (132, iv zo), (133, po w8.hz 1), (134, zv), (135, iv (zl.length : Int)), (136, sv (headB zo zl)), (137, sv (signB tx zo zl)), (4, _), (5, _), (6, _), (19, _), (8, _), (7, _), (67, _), (68, _), (69, _), (22, _), (25, _), (94, _), (95, _), (96, _), (28, _), (29, _), (30, _), (31, _), (32, _), (112, _), (113, _), (114, _), (115, _), (116, _), (117, _), (118, _), (119, _), (120, _)] [] a := Z
   refine ab <| aK (k := 26) 30 [29] kr kr kr ?_
   refine aO Z Y de rfl de rfl call16 rfl (dA tx zo (zl.length : Int) (headB zo zl) (signB tx zo zl) _) ?_
   clear Z Y
   intro a w31 Z Y
   refine wly Z ((bd rfl rfl underlying4).asb (b' := false) sm) fun a Z => wlv Z (au rfl rfl) fun a Z => wlm Z rfl fun a Z => ab <| aP (k := 30) 41 [35, 36, 37, 38, 39, 40] Z kr kr kr rfx ?_
   replace Z : Fr 330 [(4, _), (5, _), (6, _), (19, _), (8, _), (7, _), (67, _), (68, _), (69, _), (22, _), (25, _), (94, _), (95, _), (96, _), (28, _), (29, _), (30, _), (31, _), (32, _), (112, _), (113, _), (114, _), (115, _), (116, _), (117, _), (118, _), (119, _), (120, _), (121, _), (122, _), (123, _), (124, _), (125, _), (126, _), (127, _), (128, _), (129, _), (130, _), (131, _), (132, _), (133, _), (134, _), (135, _), (136, _), (137, _), (138, _), (139, _), (140, _), (141, _)] [] a := Z.pick [4, 5, 6, 19, 8, 7, 67, 68, 69, 22, 25, 94, 95, 96, 28, 29, 30, 31, 32, 112, 113, 114, 115, 116, 117, 118, 119, 120, 121, 122, 123, 124, 125, 126, 127, 128, 129, 130, 131, 132, 133, 134, 135, 136, 137, 138, 139, 140, 141]
   refine az [] (fun i => match i with | _ => fun _ _ => False) 11 [[], [], [], [], [], [0, 1, 2, 3, 4], [], [], [], [], []] [sv tx, iv n, iv at_, sv tx, sv (signB tx zo zl), .bool (genR sha tx n at_ tx (signB tx zo zl)), sv tx, iv n, iv at_, sv tx, sv (signB tx zo zl)] Z Y kr kr kr ?_ ?_ ?_
   ·intro i hi hiq
    match i, hi, hiq with
    | 0, _, _ => exact fun w Y => OpV.g (ae rfl)
    | 1, _, _ => exact fun w Y => OpV.g (ae rfl)
    | 2, _, _ => exact fun w Y => OpV.g (ae rfl)
    | 3, _, _ => exact fun w Y => OpV.g (ae rfl)
    | 4, _, _ => exact fun w Y => OpV.g (ae rfl)
    | 5, _, _ => exact fun w Y => aQ call15 rfl (cC tx n at_ tx (signB tx zo zl) _ (Y.keepb hk0))
    | 6, _, _ => exact fun w Y => OpV.g (ae rfl)
    | 7, _, _ => exact fun w Y => OpV.g (ae rfl)
    | 8, _, _ => exact fun w Y => OpV.g (ae rfl)
    | 9, _, _ => exact fun w Y => OpV.g (ae rfl)
    | 10, _, _ => exact fun w Y => OpV.g (ae rfl)
   ·intro i hi
    exact absurd hi sm
   clear Z Y
   intro  a w32 Z Y
   replace Z : Fr 330 [(142, sv tx), (143, iv n), (144, iv at_), (145, sv tx), (146, sv (signB tx zo zl)), (147, .bool (genR sha tx n at_ tx (signB tx zo zl))), (148, sv tx), (149, iv n), (150, iv at_), (151, sv tx), (152, sv (signB tx zo zl)), (4, _), (5, _), (6, _), (19, _), (8, _), (7, _), (67, _), (68, _), (69, _), (22, _), (25, _), (94, _), (95, _), (96, _), (28, _), (29, _), (30, _), (31, _), (32, _), (112, _), (113, _), (114, _), (115, _), (116, _), (117, _), (118, _), (119, _), (120, _), (121, _), (122, _), (123, _), (124, _), (125, _), (126, _), (127, _), (128, _), (129, _), (130, _), (131, _), (132, _), (133, _), (134, _), (135, _), (136, _), (137, _), (138, _), (139, _), (140, _), (141, _)] [] a := Z
   refine ab <| aK (k := 41) 44 [43] kr kr kr ?_
   refine aO Z Y de rfl de rfl call16 rfl (dA tx n at_ tx (signB tx zo zl) _) ?_
   clear Z Y
   intro a w33 Z Y
   refine wly Z ((bd rfl rfl underlying4).asb (b' := false) sm) fun a Z => wlv Z (au rfl rfl) fun a Z => ab <| aW kr ?_
   refine hK31 _ _ ?_
   replace Z : Fr 330 [(4, _), (5, _), (6, _), (19, _), (8, _), (7, _), (67, _), (68, _), (69, _), (22, _), (25, _), (94, _), (95, _), (96, _), (155, _)] [] a := Z.pick [4, 5, 6, 19, 8, 7, 67, 68, 69, 22, 25, 94, 95, 96, 155]
   refine aG Z rfl ?_
   refine ap ?_
   exact ⟨Z.pick [4, 5, 6, 19, 8, 7, 67, 68, 69, 22, 25, 94, 95, 96], Y.select [0, 1, 2, 3, 4] de⟩
  rintro a w34 ⟨Z, Y⟩
  refine hK27 _ _ <| ar <| wlv Z ((aV rfl rfl de).asi (m' := 2) rfl) fun a Z => wlm Z rfl fun a Z => ab <| bF ?_
  refine aa fun K32 hK32 => wlv Z ((v_lt rfl rfl).asb (b' := false) rfl) fun a Z => ab (hK32 _ _ <| ah fun K33 hK33 => ?_)
  refine aG Z rfl ?_
  refine aM <| hK16 _ _ <| aa fun K34 hK34 => wlm Z rfl fun a Z => wlm Z rfl fun a Z => wlv Z (ai (v := po w8.hz 1) rfl kr) fun a Z => wlv Z (ld Y 1 rfl rfl (isAgg23 _) rfl) fun a Z => wlv Z ((aB (sT := 23) (hzf.1 _ (Y.g 2 rfl)) rfl rfl (runUnderlying23 _)).asi (m' := (zl.length : Int)) (by rw [List.length_map])) fun a Z => wlv Z (aV rfl rfl ⟨om, om⟩) fun a Z => am Z Y de call17 rfl (gP n ((zl.length : Int) + 1) _ (by first | assumption | (unfold i64 at *; omega) | omega) om) ?_
  clear Z Y
  intro a w35 Z Y
  refine aE (E := 3) (sz := 1) rfl [[iv n], [iv (pickI n ((zl.length : Int) + 1))]] kr sm rfl de de Z Y ?_
  clear Z Y
  intro a w36 Z Y
  refine wlv Z ((aB (sT := 40) (Y.ow 0 rfl) rfl rfl (runUnderlying40 _)).asi (m' := 2) rfx) fun a Z => wlm Z rfl fun a Z => ab (hK34 _ _ ?_)
  replace Z : Fr 330 [(4, _), (5, _), (6, _), (19, _), (8, _), (7, _), (67, _), (68, _), (69, _), (22, _), (25, _), (164, _), (165, _), (166, _)] [] a := Z.pick [4, 5, 6, 19, 8, 7, 67, 68, 69, 22, 25, 164, 165, 166]
  replace Y := Y.k5 61 rfl
  refine aq <| di 3 ?_
  refine bF ?_
  refine aa fun K35 hK35 => wlv Z ((v_lt rfl rfl).asb (b' := true) rfl) fun a Z => ab (hK35 _ _ <| ah fun K36 hK36 => ?_)
  refine aD Z rfl ?_
  refine ap <| hK36 _ _ <| ah fun K37 hK37 => ?_
  refine cO (fun a w => Fr 330 [(4, iv n), (5, iv at_), (6, iv key), (19, .bool true), (8, v1), (7, sv tx), (67, (.slice (some ⟨b7, 0, none⟩) 3 3)), (68, iv 3), (69, iv (j : Int)), (22, pt w8.hz), (25, sv (headB zo zl)), (164, (.slice (some ⟨w35.hz, 0, none⟩) 2 2)), (165, iv 2), (166, iv 0)] [] a ∧ St No w0 [own (.slice (some ⟨w35.hz, 0, none⟩) 2 2) 3 1 ([[iv n], [iv (pickI n ((zl.length : Int) + 1))]]), blk w8.hz [iv zo, zv] 25, join [own lv3 48 5 ((l).map Rec.cells), own lv5 48 5 ((lbt).map Rec.cells), own lv6 48 5 ((lu).map Rec.cells)], own (.slice (some ⟨b7, 0, none⟩) 3 3) 25 2 ((zs).map fun z : Int × Value × List Rec => [iv z.1, z.2.1]), own v1 9 1 (qs.map fun s => [sv s])] w) ?_ ?_
  ·refine aq <| aa fun K38 hK38 => wlv Z ((aj (i := 0) (sT := 40) (Y.ow 0 rfl) rfl rfl (runUnderlying40 _) (sizeOf3 _) om sm).as (v' := slAddr (.slice (some ⟨w35.hz, 0, none⟩) 2 2) (0 * 1)) rfl) fun a Z => wlv Z (ay (u := iv n) (i := 0) (j := 0) (Y.ow 0 rfl) sm rfl (isAgg3 _) rfx) fun a Z => wla Z rfl fun a Z => ab (hK38 _ _ <| aa fun K39 hK39 => ?_)
   refine wlv Z (aw (Y.g 1 rfl) rfl (isAgg25 _) (sizeOf25 _)) fun a Z => wlm Z rfl fun a Z => aR Z Y de call18 rfl (gc zo zv zl n _ (hzf.1 _ (Y.g 2 rfl)) om (Y.keepb hk0)) ?_
   clear Z Y
   intro a w37 x10 hp Z Y
   revert x10 hp Z Y; rintro v9 hp Z Y
   clear hp
   replace Y : St No w0 [_, _, _, _, _, _] w37 := Y
   refine wlm Z rfl fun a Z => wlv Z (ak rfl rfl) fun a Z => wlv Z (ak rfl rfl) fun a Z => wla Z rfl fun a Z => wla Z rfl fun a Z => ab (hK39 _ _ ?_)
   replace Z := Z.p17 4 5 6 19 8 7 67 68 69 22 25 164 165 166 34 35 36 rfl
   refine aa fun K40 hK40 => wlv Z (aw (Y.g 2 rfl) rfl (isAgg25 _) (sizeOf25 _)) fun a Z => wlm Z rfl fun a Z => aR Z Y de call19 rfl (gn zo zv zl n _ (hzf.1 _ (Y.g 3 rfl)) om) ?_
   clear Z Y
   intro a w38 x12 hp Z Y
   revert x12 hp Z Y; rintro v11 hp Z Y
   clear hp
   replace Y : St No w0 [_, _, _, _, _, _, _] w38 := Y
   refine wlm Z rfl fun a Z => wlv Z (ak rfl rfl) fun a Z => wlv Z (ak rfl rfl) fun a Z => wla Z rfl fun a Z => wla Z rfl fun a Z => ab (hK40 _ _ ?_)
   replace Z := Z.p19 4 5 6 19 8 7 67 68 69 22 25 164 165 166 34 35 36 37 38 rfl
   refine aa fun K41 hK41 => wlv Z (aw (Y.g 3 rfl) rfl (isAgg25 _) (sizeOf25 _)) fun a Z => wlm Z rfl fun a Z => aR Z Y de call20 rfl (gk zo zv zl n _ (hzf.1 _ (Y.g 4 rfl)) om (Y.keepb hk0)) ?_
   clear Z Y
   intro a w39 x14 hp Z Y
   revert x14 hp Z Y; rintro v13 hp Z Y
   clear hp
   replace Y : St No w0 [_, _, _, _, _, _, _, _] w39 := Y
   refine wlm Z rfl fun a Z => wlv Z (ak rfl rfl) fun a Z => wlv Z (ak rfl rfl) fun a Z => wla Z rfl fun a Z => wla Z rfl fun a Z => ab (hK41 _ _ ?_)
   replace Z := Z.p21 4 5 6 19 8 7 67 68 69 22 25 164 165 166 34 35 36 37 38 39 40 rfl
   refine aa fun K42 hK42 => wlv Z (aw (Y.g 4 rfl) rfl (isAgg25 _) (sizeOf25 _)) fun a Z => wlm Z rfl fun a Z => aR Z Y de call21 rfl (gb zo zv zl n _ (hzf.1 _ (Y.g 5 rfl)) om) ?_
   clear Z Y
   intro a w40 x16 hp Z Y
   revert x16 hp Z Y; rintro v15 hp Z Y
   clear hp
   replace Y : St No w0 [_, _, _, _, _, _, _, _, _] w40 := Y
   refine wlm Z rfl fun a Z => wlv Z (ak rfl rfl) fun a Z => wlv Z (ak rfl rfl) fun a Z => wla Z rfl fun a Z => wla Z rfl fun a Z => ab (hK42 _ _ ?_)
   replace Z := Z.p23 4 5 6 19 8 7 67 68 69 22 25 164 165 166 34 35 36 37 38 39 40 41 42 rfl
   refine ah fun K43 hK43 => aa fun K44 hK44 => wlm Z rfl fun a Z => wlm Z rfl fun a Z => wlv Z ((v_ne rfl rfl).asb (b' := false) sm) fun a Z => wlm Z rfl fun a Z => wly Z (ae rfl) fun a Z => wly Z (ae rfl) fun a Z => wly Z ((v_ne rfl rfl).asb (b' := false) sm) fun a Z => wlv Z (au rfl rfl) fun a Z => wlm Z rfl fun a Z => wly Z (ae rfl) fun a Z => wly Z (ae rfl) fun a Z => aO Z Y de rfl de rfl call22 rfl (cc (b := decide ((proveL zo zl n) = (proveL zo zl n))) (c := true) sm (e8 v9 v11 (proveL zo zl n) (proveL zo zl n) _ (Y.ow 3 rfl) (Y.ow 2 rfl))) ?_
   clear Z Y
   intro a w41 Z Y
   refine wly Z ((bp rfl).asb (b' := false) rfl) fun a Z => wlv Z (au rfl rfl) fun a Z => wlm Z rfl fun a Z => wly Z (ae rfl) fun a Z => wly Z (ae rfl) fun a Z => aO Z Y de rfl de rfl call22 rfl (cc (b := decide ((grownL zo zl n) = (grownL zo zl n))) (c := true) sm (e8 v13 v15 (grownL zo zl n) (grownL zo zl n) _ (Y.ow 1 rfl) (Y.ow 0 rfl))) ?_
   clear Z Y
   intro a w42 Z Y
   refine wly Z ((bp rfl).asb (b' := false) rfl) fun a Z => wlv Z (au rfl rfl) fun a Z => ab (hK44 _ _ ?_)
   replace Z := Z.p18 4 5 6 19 8 7 67 68 69 22 25 164 165 166 34 37 41 213 rfl
   replace Y := Y.k7 501 rfl
   refine aG Z rfl ?_
   refine ap <| hK43 _ _ <| ah fun K45 hK45 => ?_
   have hpz := bu n (n := (zl.length : Int) + 1) om
   refine aH kr (aI kr fun w43 hxz => ?_)
   replace Y := Y.grow hxz
   refine aP (k := 0) 11 [1, 10] Z kr kr kr rfx ?_
   replace Z := Z.p18 4 5 6 19 8 7 67 68 69 22 25 164 165 166 34 37 41 213 rfl
   refine az [] (fun i => match i with | _ => fun _ _ => False) 11 [[], [0], [], [2], [], [], [5], [6], [7], [4, 8], [3, 9]] [pt w8.hz, iv zo, po w8.hz 1, zv, iv n, po w8.hz 1, zv, iv (zl.length : Int), iv ((zl.length : Int) + 1), iv (pickI n ((zl.length : Int) + 1)), (cut zv 5 0 ((pickI n ((zl.length : Int) + 1)).toNat) (slCap zv))] Z Y kr kr kr ?_ ?_ ?_
   ·intro i hi hiq
    match i, hi, hiq with
    | 0, _, _ => exact fun w Y => OpV.g (ai (v := pt w8.hz) rfl kr)
    | 1, _, _ => exact fun w Y => OpV.g (ld Y 3 rfl rfl (isAgg3 _) rfl)
    | 2, _, _ => exact fun w Y => OpV.g (ai (v := po w8.hz 1) rfl kr)
    | 3, _, _ => exact fun w Y => OpV.g (ld Y 3 rfl rfl (isAgg23 _) rfl)
    | 4, _, _ => exact fun w Y => OpV.g (ae rfl)
    | 5, _, _ => exact fun w Y => OpV.g (ai (v := po w8.hz 1) rfl kr)
    | 6, _, _ => exact fun w Y => OpV.g (ld Y 3 rfl rfl (isAgg23 _) rfl)
    | 7, _, _ => exact fun w Y => OpV.g ((aB (sT := 23) (hzf.1 _ (Y.g 4 rfl)) rfl rfl (runUnderlying23 _)).asi (m' := (zl.length : Int)) (by rw [List.length_map]))
    | 8, _, _ => exact fun w Y => OpV.g (aV rfl rfl ⟨om, om⟩)
    | 9, _, _ => exact fun w Y => aQ call17 rfl (gP n ((zl.length : Int) + 1) _ (by first | assumption | (unfold i64 at *; omega) | omega) om)
    | 10, _, _ => exact fun w Y => OpV.g (ba (l := 0) (h := (pickI n ((zl.length : Int) + 1)).toNat) (hzf.1 _ (Y.g 4 rfl)) rfl rfl rfl underlying23 kr (.inl ⟨rfl, rfl⟩) (.inr (by rw [show (pickI n ((zl.length : Int) + 1) : Int) = (((pickI n ((zl.length : Int) + 1)).toNat : Nat) : Int) from by omega] <;> rfl)) (Nat.zero_le _) (by first | (rw [List.length_map]; omega) | (simp <;> omega)))
   ·intro i hi
    exact absurd hi sm
   clear Z Y
   intro  a w44 Z Y
   replace Z : Fr 330 [(215, pt w8.hz), (216, iv zo), (217, po w8.hz 1), (218, zv), (219, iv n), (220, po w8.hz 1), (221, zv), (222, iv (zl.length : Int)), (223, iv ((zl.length : Int) + 1)), (224, iv (pickI n ((zl.length : Int) + 1))), (225, (cut zv 5 0 ((pickI n ((zl.length : Int) + 1)).toNat) (slCap zv))), (4, _), (5, _), (6, _), (19, _), (8, _), (7, _), (67, _), (68, _), (69, _), (22, _), (25, _), (164, _), (165, _), (166, _), (34, _), (37, _), (41, _), (213, _)] [] a := Z
   refine ab <| aK (k := 11) 14 [13] kr kr kr ?_
   refine wlv Z (bx (v := .agg #[iv zo, (cut zv 5 0 ((pickI n ((zl.length : Int) + 1)).toNat) (slCap zv))]) rfl (by obtain ⟨_, _, _, eb0_⟩ := dz ((hzf.1 _ (Y.g 4 rfl)).cut0 (h := (pickI n ((zl.length : Int) + 1)).toNat) (by first | omega | (rw [List.length_reverse]; omega) | simp | (simp; omega))); rw [eb0_]; kernel_rfl)) fun a Z => am Z Y de call11 rfl (e7 zo (cut zv 5 0 ((pickI n ((zl.length : Int) + 1)).toNat) (slCap zv)) ((zl).take ((pickI n ((zl.length : Int) + 1)).toNat)) _ ((hzf.1 _ (Y.g 4 rfl)).cut0 (h := (pickI n ((zl.length : Int) + 1)).toNat) (by first | omega | (rw [List.length_reverse]; omega) | simp | (simp; omega))) (by first | omega | (rw [List.length_take]; omega))) ?_
   clear Z Y
   intro a w45 Z Y
   refine wlm Z rfl fun a Z => ab <| aP (k := 14) 17 [15, 16] Z kr kr kr rfx ?_
   replace Z : Fr 330 [(4, _), (5, _), (6, _), (19, _), (8, _), (7, _), (67, _), (68, _), (69, _), (22, _), (25, _), (164, _), (165, _), (166, _), (34, _), (37, _), (41, _), (213, _), (215, _), (216, _), (217, _), (218, _), (219, _), (220, _), (221, _), (222, _), (223, _), (224, _), (225, _), (226, _), (227, _), (214, _)] [] a := Z.pick [4, 5, 6, 19, 8, 7, 67, 68, 69, 22, 25, 164, 165, 166, 34, 37, 41, 213, 215, 216, 217, 218, 219, 220, 221, 222, 223, 224, 225, 226, 227, 214]
   refine az [] (fun i => match i with | _ => fun _ _ => False) 3 [[], [], [0]] [sv (headB zo ((zl).take ((pickI n ((zl.length : Int) + 1)).toNat))), iv (headE zo ((zl).take ((pickI n ((zl.length : Int) + 1)).toNat))), sv (headB zo ((zl).take ((pickI n ((zl.length : Int) + 1)).toNat)))] Z Y kr kr kr ?_ ?_ ?_
   ·intro i hi hiq
    match i, hi, hiq with
    | 0, _, _ => exact fun w Y => OpV.g (ak rfl rfl)
    | 1, _, _ => exact fun w Y => OpV.g (ak rfl rfl)
    | 2, _, _ => exact fun w Y => OpV.g (cx rfl)
   ·intro i hi
    exact absurd hi sm
   clear Z Y
   intro  a w46 Z Y
   replace Z : Fr 330 [(228, sv (headB zo ((zl).take ((pickI n ((zl.length : Int) + 1)).toNat)))), (229, iv (headE zo ((zl).take ((pickI n ((zl.length : Int) + 1)).toNat)))), (43, sv (headB zo ((zl).take ((pickI n ((zl.length : Int) + 1)).toNat)))), (4, _), (5, _), (6, _), (19, _), (8, _), (7, _), (67, _), (68, _), (69, _), (22, _), (25, _), (164, _), (165, _), (166, _), (34, _), (37, _), (41, _), (213, _), (215, _), (216, _), (217, _), (218, _), (219, _), (220, _), (221, _), (222, _), (223, _), (224, _), (225, _), (226, _), (227, _), (214, _)] [] a := Z
   refine ab <| aK (k := 17) 18 [17] kr kr kr ?_
   refine wla Z rfl fun a Z => ab <| aW kr ?_
   refine hK45 _ _ ?_
   replace Z := Z.p18 4 5 6 19 8 7 67 68 69 22 25 164 165 166 34 37 41 43 rfl
   refine aa fun K46 hK46 => wlm Z rfl fun a Z => wlm Z rfl fun a Z => wlm Z rfl fun a Z => aE (E := 26) (sz := 1) rfl [[v11], [v15], [v1]] (by obtain ⟨_, _, _, e0_⟩ := cV (Y.ow 1 rfl); obtain ⟨_, _, _, e1_⟩ := cV (Y.ow 0 rfl); obtain ⟨_, _, _, e2_⟩ := cV (Y.ow 6 rfl); rw [e0_, e1_, e2_]; kernel_rfl) sm rfl de de Z Y ?_
   clear Z Y
   intro a w47 Z Y
   refine wlv Z ((aB (sT := 44) (Y.ow 0 rfl) rfl rfl (runUnderlying44 _)).asi (m' := 3) rfx) fun a Z => wlm Z rfl fun a Z => ab (hK46 _ _ <| aq ?_)
   refine di 4 ?_
   refine bF ?_
   refine aa fun K47 hK47 => wlv Z ((v_lt rfl rfl).asb (b' := true) rfl) fun a Z => ab (hK47 _ _ <| ah fun K48 hK48 => ?_)
   refine aD Z rfl ?_
   refine ap <| hK48 _ _ <| ah fun K49 hK49 => ?_
   refine cO (fun a w => Fr 330 [(4, iv n), (5, iv at_), (6, iv key), (19, .bool true), (8, v1), (7, sv tx), (67, (.slice (some ⟨b7, 0, none⟩) 3 3)), (68, iv 3), (69, iv (j : Int)), (22, pt w8.hz), (25, sv (headB zo zl)), (164, (.slice (some ⟨w35.hz, 0, none⟩) 2 2)), (165, iv 2), (166, iv 0), (34, iv n), (43, sv (headB zo ((zl).take ((pickI n ((zl.length : Int) + 1)).toNat)))), (233, (.slice (some ⟨w46.hz, 0, none⟩) 3 3)), (234, iv 3), (235, iv 0)] [] a ∧ St No w0 [own (.slice (some ⟨w46.hz, 0, none⟩) 3 3) 26 1 ([[v11], [v15], [v1]]), own v15 9 1 ((grownL zo zl n).map fun s => [sv s]), own v11 9 1 ((proveL zo zl n).map fun s => [sv s]), own (.slice (some ⟨w35.hz, 0, none⟩) 2 2) 3 1 ([[iv n], [iv (pickI n ((zl.length : Int) + 1))]]), blk w8.hz [iv zo, zv] 25, join [own lv3 48 5 ((l).map Rec.cells), own lv5 48 5 ((lbt).map Rec.cells), own lv6 48 5 ((lu).map Rec.cells)], own (.slice (some ⟨b7, 0, none⟩) 3 3) 25 2 ((zs).map fun z : Int × Value × List Rec => [iv z.1, z.2.1]), own v1 9 1 (qs.map fun s => [sv s])] w) ?_ ?_
   ·refine aq <| aa fun K50 hK50 => wlv Z ((aj (i := 0) (sT := 44) (Y.ow 0 rfl) rfl rfl (runUnderlying44 _) (sizeOf26 _) om sm).as (v' := slAddr (.slice (some ⟨w46.hz, 0, none⟩) 3 3) (0 * 1)) rfl) fun a Z => wlv Z (ay (u := v11) (i := 0) (j := 0) (Y.ow 0 rfl) sm rfl (isAgg26 _) rfx) fun a Z => wla Z rfl fun a Z => ab (hK50 _ _ ?_)
    replace Z := Z.p20 4 5 6 19 8 7 67 68 69 22 25 164 165 166 34 43 233 234 235 46 rfl
    refine ah fun K51 hK51 => ah fun K52 hK52 => ?_
    have hzl : (proveL zo zl n).length ≤ 1000 := by have := hpl (n); omega
    refine aH kr (aI kr fun w48 hxz => ?_)
    replace Y := Y.grow hxz
    refine aP (k := 0) 15 [7, 8, 9, 10, 13, 14] Z kr kr kr rfx ?_
    replace Z := Z.p20 4 5 6 19 8 7 67 68 69 22 25 164 165 166 34 43 233 234 235 46 rfl
    refine az [] (fun i => match i with | _ => fun _ _ => False) 15 [[], [], [], [], [3], [4], [], [0, 1, 2, 5, 6], [], [], [], [], [11], [12], []] [sv (headB zo ((zl).take ((pickI n ((zl.length : Int) + 1)).toNat))), iv n, sv (headB zo zl), po w8.hz 1, zv, iv (zl.length : Int), v11, .bool (aJ sha (headB zo ((zl).take ((pickI n ((zl.length : Int) + 1)).toNat))) n (headB zo zl) (zl.length : Int) (proveL zo zl n)), sv (headB zo ((zl).take ((pickI n ((zl.length : Int) + 1)).toNat))), iv n, sv (headB zo zl), po w8.hz 1, zv, iv (zl.length : Int), v11] Z Y kr kr kr ?_ ?_ ?_
    ·intro i hi hiq
     match i, hi, hiq with
     | 0, _, _ => exact fun w Y => OpV.g (ae rfl)
     | 1, _, _ => exact fun w Y => OpV.g (ae rfl)
     | 2, _, _ => exact fun w Y => OpV.g (ae rfl)
     | 3, _, _ => exact fun w Y => OpV.g (ai (v := po w8.hz 1) rfl kr)
     | 4, _, _ => exact fun w Y => OpV.g (ld Y 4 rfl rfl (isAgg23 _) rfl)
     | 5, _, _ => exact fun w Y => OpV.g ((aB (sT := 23) (hzf.1 _ (Y.g 5 rfl)) rfl rfl (runUnderlying23 _)).asi (m' := (zl.length : Int)) (by rw [List.length_map]))
     | 6, _, _ => exact fun w Y => OpV.g (ae rfl)
     | 7, _, _ => exact fun w Y => aQ call23 rfl (bM (headB zo ((zl).take ((pickI n ((zl.length : Int) + 1)).toNat))) n (headB zo zl) (zl.length : Int) v11 (proveL zo zl n) _ (Y.ow 2 rfl) hzl (by first | assumption | (unfold i64; omega)) (Y.keepb hk0))
     | 8, _, _ => exact fun w Y => OpV.g (ae rfl)
     | 9, _, _ => exact fun w Y => OpV.g (ae rfl)
     | 10, _, _ => exact fun w Y => OpV.g (ae rfl)
     | 11, _, _ => exact fun w Y => OpV.g (ai (v := po w8.hz 1) rfl kr)
     | 12, _, _ => exact fun w Y => OpV.g (ld Y 4 rfl rfl (isAgg23 _) rfl)
     | 13, _, _ => exact fun w Y => OpV.g ((aB (sT := 23) (hzf.1 _ (Y.g 5 rfl)) rfl rfl (runUnderlying23 _)).asi (m' := (zl.length : Int)) (by rw [List.length_map]))
     | 14, _, _ => exact fun w Y => OpV.g (ae rfl)
     | i + 15, h, _ => exact absurd h om
    ·intro i hi
     exact absurd hi sm
    clear Z Y
    intro  a w49 Z Y
    replace Z : Fr 330 [(239, sv (headB zo ((zl).take ((pickI n ((zl.length : Int) + 1)).toNat)))), (240, iv n), (241, sv (headB zo zl)), (242, po w8.hz 1), (243, zv), (244, iv (zl.length : Int)), (245, v11), (246, .bool (aJ sha (headB zo ((zl).take ((pickI n ((zl.length : Int) + 1)).toNat))) n (headB zo zl) (zl.length : Int) (proveL zo zl n))), (247, sv (headB zo ((zl).take ((pickI n ((zl.length : Int) + 1)).toNat)))), (248, iv n), (249, sv (headB zo zl)), (250, po w8.hz 1), (251, zv), (252, iv (zl.length : Int)), (253, v11), (4, _), (5, _), (6, _), (19, _), (8, _), (7, _), (67, _), (68, _), (69, _), (22, _), (25, _), (164, _), (165, _), (166, _), (34, _), (43, _), (233, _), (234, _), (235, _), (46, _)] [] a := Z
    refine ab <| aK (k := 15) 18 [17] kr kr kr ?_
    refine am Z Y de call24 rfl (bN (headB zo ((zl).take ((pickI n ((zl.length : Int) + 1)).toNat))) n (headB zo zl) (zl.length : Int) v11 (proveL zo zl n) _ (Y.ow 2 rfl) (by first | assumption | (unfold i64; omega))) ?_
    clear Z Y
    intro a w50 Z Y
    refine wlv Z ((bd rfl rfl underlying4).asb (b' := false) sm) fun a Z => wlm Z rfl fun a Z => ab <| aP (k := 18) 29 [23, 24, 25, 26, 27, 28] Z kr kr kr rfx ?_
    replace Z : Fr 330 [(4, _), (5, _), (6, _), (19, _), (8, _), (7, _), (67, _), (68, _), (69, _), (22, _), (25, _), (164, _), (165, _), (166, _), (34, _), (43, _), (233, _), (234, _), (235, _), (46, _), (239, _), (240, _), (241, _), (242, _), (243, _), (244, _), (245, _), (246, _), (247, _), (248, _), (249, _), (250, _), (251, _), (252, _), (253, _), (254, _), (255, _), (256, _)] [] a := Z.pick [4, 5, 6, 19, 8, 7, 67, 68, 69, 22, 25, 164, 165, 166, 34, 43, 233, 234, 235, 46, 239, 240, 241, 242, 243, 244, 245, 246, 247, 248, 249, 250, 251, 252, 253, 254, 255, 256]
    refine az [] (fun i => match i with | _ => fun _ _ => False) 11 [[], [], [], [], [], [0, 1, 2, 3, 4], [], [], [], [], []] [sv tx, iv at_, sv (headB zo zl), iv n, v11, .bool (aJ sha tx at_ (headB zo zl) n (proveL zo zl n)), sv tx, iv at_, sv (headB zo zl), iv n, v11] Z Y kr kr kr ?_ ?_ ?_
    ·intro i hi hiq
     match i, hi, hiq with
     | 0, _, _ => exact fun w Y => OpV.g (ae rfl)
     | 1, _, _ => exact fun w Y => OpV.g (ae rfl)
     | 2, _, _ => exact fun w Y => OpV.g (ae rfl)
     | 3, _, _ => exact fun w Y => OpV.g (ae rfl)
     | 4, _, _ => exact fun w Y => OpV.g (ae rfl)
     | 5, _, _ => exact fun w Y => aQ call23 rfl (bM tx at_ (headB zo zl) n v11 (proveL zo zl n) _ (Y.ow 2 rfl) hzl (by first | assumption | (unfold i64; omega)) (Y.keepb hk0))
     | 6, _, _ => exact fun w Y => OpV.g (ae rfl)
     | 7, _, _ => exact fun w Y => OpV.g (ae rfl)
     | 8, _, _ => exact fun w Y => OpV.g (ae rfl)
     | 9, _, _ => exact fun w Y => OpV.g (ae rfl)
     | 10, _, _ => exact fun w Y => OpV.g (ae rfl)
    ·intro i hi
     exact absurd hi sm
    clear Z Y
    intro  a w51 Z Y
    replace Z : Fr 330 [(257, sv tx), (258, iv at_), (259, sv (headB zo zl)), (260, iv n), (261, v11), (262, .bool (aJ sha tx at_ (headB zo zl) n (proveL zo zl n))), (263, sv tx), (264, iv at_), (265, sv (headB zo zl)), (266, iv n), (267, v11), (4, _), (5, _), (6, _), (19, _), (8, _), (7, _), (67, _), (68, _), (69, _), (22, _), (25, _), (164, _), (165, _), (166, _), (34, _), (43, _), (233, _), (234, _), (235, _), (46, _), (239, _), (240, _), (241, _), (242, _), (243, _), (244, _), (245, _), (246, _), (247, _), (248, _), (249, _), (250, _), (251, _), (252, _), (253, _), (254, _), (255, _), (256, _)] [] a := Z
    refine ab <| aK (k := 29) 32 [31] kr kr kr ?_
    refine aO Z Y de rfl de rfl call24 rfl (bN tx at_ (headB zo zl) n v11 (proveL zo zl n) _ (Y.ow 2 rfl) (by first | assumption | (unfold i64; omega))) ?_
    clear Z Y
    intro a w52 Z Y
    refine wly Z ((bd rfl rfl underlying4).asb (b' := false) sm) fun a Z => wlv Z (au rfl rfl) fun a Z => ab <| aW kr ?_
    refine hK52 _ _ ?_
    replace Z := Z.p21 4 5 6 19 8 7 67 68 69 22 25 164 165 166 34 43 233 234 235 46 270 rfl
    refine aG Z rfl ?_
    refine ap <| hK51 _ _ <| aa fun K53 hK53 => wla Z rfl fun a Z => ab (hK53 _ _ <| aq ?_)
    refine aT (fun m a w => ∃ (mi : Nat), m = zl.length - mi ∧ (mi ≤ zl.length) ∧ Fr 330 [(4, iv n), (5, iv at_), (6, iv key), (19, .bool true), (8, v1), (7, sv tx), (67, (.slice (some ⟨b7, 0, none⟩) 3 3)), (68, iv 3), (69, iv (j : Int)), (22, pt w8.hz), (25, sv (headB zo zl)), (164, (.slice (some ⟨w35.hz, 0, none⟩) 2 2)), (165, iv 2), (166, iv 0), (34, iv n), (43, sv (headB zo ((zl).take ((pickI n ((zl.length : Int) + 1)).toNat)))), (233, (.slice (some ⟨w46.hz, 0, none⟩) 3 3)), (234, iv 3), (235, iv 0), (46, v11), (47, iv (mi : Int))] [] a ∧ St No w0 [own (.slice (some ⟨w46.hz, 0, none⟩) 3 3) 26 1 ([[v11], [v15], [v1]]), own v15 9 1 ((grownL zo zl n).map fun s => [sv s]), own v11 9 1 ((proveL zo zl n).map fun s => [sv s]), own (.slice (some ⟨w35.hz, 0, none⟩) 2 2) 3 1 ([[iv n], [iv (pickI n ((zl.length : Int) + 1))]]), blk w8.hz [iv zo, zv] 25, join [own lv3 48 5 ((l).map Rec.cells), own lv5 48 5 ((lbt).map Rec.cells), own lv6 48 5 ((lu).map Rec.cells)], own (.slice (some ⟨b7, 0, none⟩) 3 3) 25 2 ((zs).map fun z : Int × Value × List Rec => [iv z.1, z.2.1]), own v1 9 1 (qs.map fun s => [sv s])] w) _ ⟨0, rfl, Nat.zero_le _, Z.pick [4, 5, 6, 19, 8, 7, 67, 68, 69, 22, 25, 164, 165, 166, 34, 43, 233, 234, 235, 46, 47], Y.select [0, 1, 2, 3, 4, 5, 6, 7] de⟩ ?_
    rintro _ a w53 ⟨mi, rfl, hmi, Z, Y⟩
    refine ah fun K54 hK54 => aa fun K55 hK55 => wlm Z rfl fun a Z => wlv Z (ai (v := po w8.hz 1) rfl kr) fun a Z => wlv Z (ld Y 4 rfl rfl (isAgg23 _) rfl) fun a Z => wlv Z ((aB (sT := 23) (hzf.1 _ (Y.g 5 rfl)) rfl rfl (runUnderlying23 _)).asi (m' := (zl.length : Int)) (by rw [List.length_map])) fun a Z => wlv Z (v_lt rfl rfl) fun a Z => ab (hK55 _ _ ?_)
    refine ax Z rfl (fun hc17 => ?_) (fun hc17 => ?_)
    ·rw [hc17] at Z
     try simp only [qz] at hc17
     have hix : mi < zl.length := by omega
     refine ap <| hK54 _ _ <| ah fun K56 hK56 => aq <| ah fun K57 hK57 => aH kr (aI kr fun w54 hxz => ?_)
     replace Y := Y.grow hxz
     refine aP (k := 0) 23 [11, 12, 15, 16, 21, 22] Z kr kr kr rfx ?_
     replace Z := Z.p26 4 5 6 19 8 7 67 68 69 22 25 164 165 166 34 43 233 234 235 46 47 271 272 273 274 275 rfl
     refine az [] (fun i => match i with | _ => fun _ _ => False) 23 [[], [], [1], [2], [], [], [5], [], [6, 7], [8], [], [0, 3, 4, 9, 10], [], [], [13], [14], [], [], [17], [], [18, 19], [20], []] [sv (headB zo zl), po w8.hz 1, zv, iv (zl.length : Int), iv n, po w8.hz 1, zv, iv (mi : Int), slAddr zv (mi * 5), .agg #[iv ((zl.getD mi Rec.z).t), iv ((zl.getD mi Rec.z).kind), iv ((zl.getD mi Rec.z).a), iv ((zl.getD mi Rec.z).b), sv ((zl.getD mi Rec.z).text)], v11, .bool (checkB (headB zo zl) (zl.length : Int) n (zl.getD mi Rec.z) (proveL zo zl n)), sv (headB zo zl), po w8.hz 1, zv, iv (zl.length : Int), iv n, po w8.hz 1, zv, iv (mi : Int), slAddr zv (mi * 5), .agg #[iv ((zl.getD mi Rec.z).t), iv ((zl.getD mi Rec.z).kind), iv ((zl.getD mi Rec.z).a), iv ((zl.getD mi Rec.z).b), sv ((zl.getD mi Rec.z).text)], v11] Z Y kr kr kr ?_ ?_ ?_
     ·intro i hi hiq
      match i, hi, hiq with
      | 0, _, _ => exact fun w Y => OpV.g (ae rfl)
      | 1, _, _ => exact fun w Y => OpV.g (ai (v := po w8.hz 1) rfl kr)
      | 2, _, _ => exact fun w Y => OpV.g (ld Y 4 rfl rfl (isAgg23 _) rfl)
      | 3, _, _ => exact fun w Y => OpV.g ((aB (sT := 23) (hzf.1 _ (Y.g 5 rfl)) rfl rfl (runUnderlying23 _)).asi (m' := (zl.length : Int)) (by rw [List.length_map]))
      | 4, _, _ => exact fun w Y => OpV.g (ae rfl)
      | 5, _, _ => exact fun w Y => OpV.g (ai (v := po w8.hz 1) rfl kr)
      | 6, _, _ => exact fun w Y => OpV.g (ld Y 4 rfl rfl (isAgg23 _) rfl)
      | 7, _, _ => exact fun w Y => OpV.g (ae rfl)
      | 8, _, _ => exact fun w Y => OpV.g ((aj (i := (mi : Int)) (sT := 23) (hzf.1 _ (Y.g 5 rfl)) rfl rfl (runUnderlying23 _) (sizeOf48 _) om (by rw [List.length_map]; omega)).as (v' := slAddr zv (mi * 5)) rfl)
      | 9, _, _ => exact fun w Y => OpV.g ((aU (hzf.1 _ (Y.g 5 rfl)) (i := mi) (by rw [List.length_map]; omega) rfl (isAgg48 _) (sizeOf48 _)).as (v' := .agg #[iv ((zl.getD mi Rec.z).t), iv ((zl.getD mi Rec.z).kind), iv ((zl.getD mi Rec.z).a), iv ((zl.getD mi Rec.z).b), sv ((zl.getD mi Rec.z).text)]) (by rw [bl Rec.z]; rfl))
      | 10, _, _ => exact fun w Y => OpV.g (ae rfl)
      | 11, _, _ => exact fun w Y => aQ call25 rfl (bW (headB zo zl) (zl.length : Int) n (zl.getD mi Rec.z) v11 (proveL zo zl n) _ (Y.ow 2 rfl) hzl (by first | assumption | (unfold i64; omega)) (Y.keepb hk0))
      | 12, _, _ => exact fun w Y => OpV.g (ae rfl)
      | 13, _, _ => exact fun w Y => OpV.g (ai (v := po w8.hz 1) rfl kr)
      | 14, _, _ => exact fun w Y => OpV.g (ld Y 4 rfl rfl (isAgg23 _) rfl)
      | 15, _, _ => exact fun w Y => OpV.g ((aB (sT := 23) (hzf.1 _ (Y.g 5 rfl)) rfl rfl (runUnderlying23 _)).asi (m' := (zl.length : Int)) (by rw [List.length_map]))
      | 16, _, _ => exact fun w Y => OpV.g (ae rfl)
      | 17, _, _ => exact fun w Y => OpV.g (ai (v := po w8.hz 1) rfl kr)
      | 18, _, _ => exact fun w Y => OpV.g (ld Y 4 rfl rfl (isAgg23 _) rfl)
      | 19, _, _ => exact fun w Y => OpV.g (ae rfl)
      | 20, _, _ => exact fun w Y => OpV.g ((aj (i := (mi : Int)) (sT := 23) (hzf.1 _ (Y.g 5 rfl)) rfl rfl (runUnderlying23 _) (sizeOf48 _) om (by rw [List.length_map]; omega)).as (v' := slAddr zv (mi * 5)) rfl)
      | 21, _, _ => exact fun w Y => OpV.g ((aU (hzf.1 _ (Y.g 5 rfl)) (i := mi) (by rw [List.length_map]; omega) rfl (isAgg48 _) (sizeOf48 _)).as (v' := .agg #[iv ((zl.getD mi Rec.z).t), iv ((zl.getD mi Rec.z).kind), iv ((zl.getD mi Rec.z).a), iv ((zl.getD mi Rec.z).b), sv ((zl.getD mi Rec.z).text)]) (by rw [bl Rec.z]; rfl))
      | 22, _, _ => exact fun w Y => OpV.g (ae rfl)
      | i + 23, h, _ => exact absurd h om
     ·intro i hi
      exact absurd hi sm
     clear Z Y
     intro  a w55 Z Y
     replace Z : Fr 330 [(278, sv (headB zo zl)), (279, po w8.hz 1), (280, zv), (281, iv (zl.length : Int)), (282, iv n), (283, po w8.hz 1), (284, zv), (285, iv (mi : Int)), (286, slAddr zv (mi * 5)), (287, .agg #[iv ((zl.getD mi Rec.z).t), iv ((zl.getD mi Rec.z).kind), iv ((zl.getD mi Rec.z).a), iv ((zl.getD mi Rec.z).b), sv ((zl.getD mi Rec.z).text)]), (288, v11), (289, .bool (checkB (headB zo zl) (zl.length : Int) n (zl.getD mi Rec.z) (proveL zo zl n))), (290, sv (headB zo zl)), (291, po w8.hz 1), (292, zv), (293, iv (zl.length : Int)), (294, iv n), (295, po w8.hz 1), (296, zv), (297, iv (mi : Int)), (298, slAddr zv (mi * 5)), (299, .agg #[iv ((zl.getD mi Rec.z).t), iv ((zl.getD mi Rec.z).kind), iv ((zl.getD mi Rec.z).a), iv ((zl.getD mi Rec.z).b), sv ((zl.getD mi Rec.z).text)]), (300, v11), (4, _), (5, _), (6, _), (19, _), (8, _), (7, _), (67, _), (68, _), (69, _), (22, _), (25, _), (164, _), (165, _), (166, _), (34, _), (43, _), (233, _), (234, _), (235, _), (46, _), (47, _), (271, _), (272, _), (273, _), (274, _), (275, _)] [] a := Z
     refine ab <| aK (k := 23) 26 [25] kr kr kr ?_
     refine am Z Y de call26 rfl (bV (headB zo zl) (zl.length : Int) n (zl.getD mi Rec.z) v11 (proveL zo zl n) _ (Y.ow 2 rfl) (by first | assumption | (unfold i64; omega))) ?_
     clear Z Y
     intro a w56 Z Y
     refine wlv Z ((bd rfl rfl underlying4).asb (b' := false) sm) fun a Z => wlm Z rfl fun a Z => ab <| aP (k := 26) 45 [35, 36, 37, 38, 43, 44] Z kr kr kr rfx ?_
     replace Z := Z.p52 4 5 6 19 8 7 67 68 69 22 25 164 165 166 34 43 233 234 235 46 47 271 272 273 274 275 278 279 280 281 282 283 284 285 286 287 288 289 290 291 292 293 294 295 296 297 298 299 300 301 302 303 rfl
     refine az [] (fun i => match i with | _ => fun _ _ => False) 19 [[], [], [], [], [3], [], [4, 5], [6], [], [0, 1, 2, 7, 8], [], [], [], [], [13], [], [14, 15], [16], []] [sv tx, iv n, iv at_, po w8.hz 1, zv, iv (mi : Int), slAddr zv (mi * 5), .agg #[iv ((zl.getD mi Rec.z).t), iv ((zl.getD mi Rec.z).kind), iv ((zl.getD mi Rec.z).a), iv ((zl.getD mi Rec.z).b), sv ((zl.getD mi Rec.z).text)], v11, .bool (checkB tx n at_ (zl.getD mi Rec.z) (proveL zo zl n)), sv tx, iv n, iv at_, po w8.hz 1, zv, iv (mi : Int), slAddr zv (mi * 5), .agg #[iv ((zl.getD mi Rec.z).t), iv ((zl.getD mi Rec.z).kind), iv ((zl.getD mi Rec.z).a), iv ((zl.getD mi Rec.z).b), sv ((zl.getD mi Rec.z).text)], v11] Z Y kr kr kr ?_ ?_ ?_
     ·intro i hi hiq
      match i, hi, hiq with
      | 0, _, _ => exact fun w Y => OpV.g (ae rfl)
      | 1, _, _ => exact fun w Y => OpV.g (ae rfl)
      | 2, _, _ => exact fun w Y => OpV.g (ae rfl)
      | 3, _, _ => exact fun w Y => OpV.g (ai (v := po w8.hz 1) rfl kr)
      | 4, _, _ => exact fun w Y => OpV.g (ld Y 4 rfl rfl (isAgg23 _) rfl)
      | 5, _, _ => exact fun w Y => OpV.g (ae rfl)
      | 6, _, _ => exact fun w Y => OpV.g ((aj (i := (mi : Int)) (sT := 23) (hzf.1 _ (Y.g 5 rfl)) rfl rfl (runUnderlying23 _) (sizeOf48 _) om (by rw [List.length_map]; omega)).as (v' := slAddr zv (mi * 5)) rfl)
      | 7, _, _ => exact fun w Y => OpV.g ((aU (hzf.1 _ (Y.g 5 rfl)) (i := mi) (by rw [List.length_map]; omega) rfl (isAgg48 _) (sizeOf48 _)).as (v' := .agg #[iv ((zl.getD mi Rec.z).t), iv ((zl.getD mi Rec.z).kind), iv ((zl.getD mi Rec.z).a), iv ((zl.getD mi Rec.z).b), sv ((zl.getD mi Rec.z).text)]) (by rw [bl Rec.z]; rfl))
      | 8, _, _ => exact fun w Y => OpV.g (ae rfl)
      | 9, _, _ => exact fun w Y => aQ call25 rfl (bW tx n at_ (zl.getD mi Rec.z) v11 (proveL zo zl n) _ (Y.ow 2 rfl) hzl (by first | assumption | (unfold i64; omega)) (Y.keepb hk0))
      | 10, _, _ => exact fun w Y => OpV.g (ae rfl)
      | 11, _, _ => exact fun w Y => OpV.g (ae rfl)
      | 12, _, _ => exact fun w Y => OpV.g (ae rfl)
      | 13, _, _ => exact fun w Y => OpV.g (ai (v := po w8.hz 1) rfl kr)
      | 14, _, _ => exact fun w Y => OpV.g (ld Y 4 rfl rfl (isAgg23 _) rfl)
      | 15, _, _ => exact fun w Y => OpV.g (ae rfl)
      | 16, _, _ => exact fun w Y => OpV.g ((aj (i := (mi : Int)) (sT := 23) (hzf.1 _ (Y.g 5 rfl)) rfl rfl (runUnderlying23 _) (sizeOf48 _) om (by rw [List.length_map]; omega)).as (v' := slAddr zv (mi * 5)) rfl)
      | 17, _, _ => exact fun w Y => OpV.g ((aU (hzf.1 _ (Y.g 5 rfl)) (i := mi) (by rw [List.length_map]; omega) rfl (isAgg48 _) (sizeOf48 _)).as (v' := .agg #[iv ((zl.getD mi Rec.z).t), iv ((zl.getD mi Rec.z).kind), iv ((zl.getD mi Rec.z).a), iv ((zl.getD mi Rec.z).b), sv ((zl.getD mi Rec.z).text)]) (by rw [bl Rec.z]; rfl))
      | 18, _, _ => exact fun w Y => OpV.g (ae rfl)
      | i + 19, h, _ => exact absurd h om
     ·intro i hi
      exact absurd hi sm
     clear Z Y
     intro  a w57 Z Y
     replace Z : Fr 330 [(304, sv tx), (305, iv n), (306, iv at_), (307, po w8.hz 1), (308, zv), (309, iv (mi : Int)), (310, slAddr zv (mi * 5)), (311, .agg #[iv ((zl.getD mi Rec.z).t), iv ((zl.getD mi Rec.z).kind), iv ((zl.getD mi Rec.z).a), iv ((zl.getD mi Rec.z).b), sv ((zl.getD mi Rec.z).text)]), (312, v11), (313, .bool (checkB tx n at_ (zl.getD mi Rec.z) (proveL zo zl n))), (314, sv tx), (315, iv n), (316, iv at_), (317, po w8.hz 1), (318, zv), (319, iv (mi : Int)), (320, slAddr zv (mi * 5)), (321, .agg #[iv ((zl.getD mi Rec.z).t), iv ((zl.getD mi Rec.z).kind), iv ((zl.getD mi Rec.z).a), iv ((zl.getD mi Rec.z).b), sv ((zl.getD mi Rec.z).text)]), (322, v11), (4, _), (5, _), (6, _), (19, _), (8, _), (7, _), (67, _), (68, _), (69, _), (22, _), (25, _), (164, _), (165, _), (166, _), (34, _), (43, _), (233, _), (234, _), (235, _), (46, _), (47, _), (271, _), (272, _), (273, _), (274, _), (275, _), (278, _), (279, _), (280, _), (281, _), (282, _), (283, _), (284, _), (285, _), (286, _), (287, _), (288, _), (289, _), (290, _), (291, _), (292, _), (293, _), (294, _), (295, _), (296, _), (297, _), (298, _), (299, _), (300, _), (301, _), (302, _), (303, _)] [] a := Z
     refine ab <| aK (k := 45) 48 [47] kr kr kr ?_
     refine aO Z Y de rfl de rfl call26 rfl (bV tx n at_ (zl.getD mi Rec.z) v11 (proveL zo zl n) _ (Y.ow 2 rfl) (by first | assumption | (unfold i64; omega))) ?_
     clear Z Y
     intro a w58 Z Y
     refine wly Z ((bd rfl rfl underlying4).asb (b' := false) sm) fun a Z => wlv Z (au rfl rfl) fun a Z => ab <| aW kr ?_
     refine hK57 _ _ ?_
     replace Z := Z.p22 4 5 6 19 8 7 67 68 69 22 25 164 165 166 34 43 233 234 235 46 47 325 rfl
     refine aG Z rfl ?_
     refine ap <| hK56 _ _ <| ar <| wlm Z rfl fun a Z => wlv Z (aV rfl rfl ⟨om, om⟩) fun a Z => wla Z rfl fun a Z => ab ?_
     refine ⟨_, ?_, mi + 1, rfl, om, Z.pick [4, 5, 6, 19, 8, 7, 67, 68, 69, 22, 25, 164, 165, 166, 34, 43, 233, 234, 235, 46, 47], Y.select [0, 1, 2, 3, 4, 5, 6, 7] de⟩
     omega
    rw [hc17] at Z
    try simp only [qz] at hc17
    refine aM ?_
    exact ⟨Z.pick [4, 5, 6, 19, 8, 7, 67, 68, 69, 22, 25, 164, 165, 166, 34, 43, 233, 234, 235], Y.select [0, 1, 2, 3, 4, 5, 6, 7] de⟩
   rintro a w59 ⟨Z, Y⟩
   refine hK49 _ _ <| ar <| wlv Z ((aV rfl rfl de).asi (m' := 1) rfl) fun a Z => wlm Z rfl fun a Z => ab <| bF ?_
   refine aa fun K58 hK58 => wlv Z ((v_lt rfl rfl).asb (b' := true) rfl) fun a Z => ab (hK58 _ _ <| ah fun K59 hK59 => ?_)
   refine aD Z rfl ?_
   refine ap <| hK59 _ _ <| ah fun K60 hK60 => ?_
   refine cO (fun a w => Fr 330 [(4, iv n), (5, iv at_), (6, iv key), (19, .bool true), (8, v1), (7, sv tx), (67, (.slice (some ⟨b7, 0, none⟩) 3 3)), (68, iv 3), (69, iv (j : Int)), (22, pt w8.hz), (25, sv (headB zo zl)), (164, (.slice (some ⟨w35.hz, 0, none⟩) 2 2)), (165, iv 2), (166, iv 0), (34, iv n), (43, sv (headB zo ((zl).take ((pickI n ((zl.length : Int) + 1)).toNat)))), (233, (.slice (some ⟨w46.hz, 0, none⟩) 3 3)), (234, iv 3), (235, iv 1)] [] a ∧ St No w0 [own (.slice (some ⟨w46.hz, 0, none⟩) 3 3) 26 1 ([[v11], [v15], [v1]]), own v15 9 1 ((grownL zo zl n).map fun s => [sv s]), own v11 9 1 ((proveL zo zl n).map fun s => [sv s]), own (.slice (some ⟨w35.hz, 0, none⟩) 2 2) 3 1 ([[iv n], [iv (pickI n ((zl.length : Int) + 1))]]), blk w8.hz [iv zo, zv] 25, join [own lv3 48 5 ((l).map Rec.cells), own lv5 48 5 ((lbt).map Rec.cells), own lv6 48 5 ((lu).map Rec.cells)], own (.slice (some ⟨b7, 0, none⟩) 3 3) 25 2 ((zs).map fun z : Int × Value × List Rec => [iv z.1, z.2.1]), own v1 9 1 (qs.map fun s => [sv s])] w) ?_ ?_
   ·refine aq <| aa fun K61 hK61 => wlv Z ((aj (i := 1) (sT := 44) (Y.ow 0 rfl) rfl rfl (runUnderlying44 _) (sizeOf26 _) om sm).as (v' := slAddr (.slice (some ⟨w46.hz, 0, none⟩) 3 3) (1 * 1)) rfl) fun a Z => wlv Z (ay (u := v15) (i := 1) (j := 0) (Y.ow 0 rfl) sm rfl (isAgg26 _) rfx) fun a Z => wla Z rfl fun a Z => ab (hK61 _ _ <| ah fun K62 hK62 => ?_)
    refine ah fun K63 hK63 => ?_
    have hzl : (grownL zo zl n).length ≤ 1000 := by have := hgl (n); omega
    refine aH kr (aI kr fun w60 hxz => ?_)
    replace Y := Y.grow hxz
    refine aP (k := 0) 15 [7, 8, 9, 10, 13, 14] Z kr kr kr rfx ?_
    replace Z := Z.p24 4 5 6 19 8 7 67 68 69 22 25 164 165 166 34 43 233 234 326 235 236 237 238 46 rfl
    refine az [] (fun i => match i with | _ => fun _ _ => False) 15 [[], [], [], [], [3], [4], [], [0, 1, 2, 5, 6], [], [], [], [], [11], [12], []] [sv (headB zo ((zl).take ((pickI n ((zl.length : Int) + 1)).toNat))), iv n, sv (headB zo zl), po w8.hz 1, zv, iv (zl.length : Int), v15, .bool (aJ sha (headB zo ((zl).take ((pickI n ((zl.length : Int) + 1)).toNat))) n (headB zo zl) (zl.length : Int) (grownL zo zl n)), sv (headB zo ((zl).take ((pickI n ((zl.length : Int) + 1)).toNat))), iv n, sv (headB zo zl), po w8.hz 1, zv, iv (zl.length : Int), v15] Z Y kr kr kr ?_ ?_ ?_
    ·intro i hi hiq
     match i, hi, hiq with
     | 0, _, _ => exact fun w Y => OpV.g (ae rfl)
     | 1, _, _ => exact fun w Y => OpV.g (ae rfl)
     | 2, _, _ => exact fun w Y => OpV.g (ae rfl)
     | 3, _, _ => exact fun w Y => OpV.g (ai (v := po w8.hz 1) rfl kr)
     | 4, _, _ => exact fun w Y => OpV.g (ld Y 4 rfl rfl (isAgg23 _) rfl)
     | 5, _, _ => exact fun w Y => OpV.g ((aB (sT := 23) (hzf.1 _ (Y.g 5 rfl)) rfl rfl (runUnderlying23 _)).asi (m' := (zl.length : Int)) (by rw [List.length_map]))
     | 6, _, _ => exact fun w Y => OpV.g (ae rfl)
     | 7, _, _ => exact fun w Y => aQ call23 rfl (bM (headB zo ((zl).take ((pickI n ((zl.length : Int) + 1)).toNat))) n (headB zo zl) (zl.length : Int) v15 (grownL zo zl n) _ (Y.ow 1 rfl) hzl (by first | assumption | (unfold i64; omega)) (Y.keepb hk0))
     | 8, _, _ => exact fun w Y => OpV.g (ae rfl)
     | 9, _, _ => exact fun w Y => OpV.g (ae rfl)
     | 10, _, _ => exact fun w Y => OpV.g (ae rfl)
     | 11, _, _ => exact fun w Y => OpV.g (ai (v := po w8.hz 1) rfl kr)
     | 12, _, _ => exact fun w Y => OpV.g (ld Y 4 rfl rfl (isAgg23 _) rfl)
     | 13, _, _ => exact fun w Y => OpV.g ((aB (sT := 23) (hzf.1 _ (Y.g 5 rfl)) rfl rfl (runUnderlying23 _)).asi (m' := (zl.length : Int)) (by rw [List.length_map]))
     | 14, _, _ => exact fun w Y => OpV.g (ae rfl)
     | i + 15, h, _ => exact absurd h om
    ·intro i hi
     exact absurd hi sm
    clear Z Y
    intro  a w61 Z Y
    replace Z : Fr 330 [(239, sv (headB zo ((zl).take ((pickI n ((zl.length : Int) + 1)).toNat)))), (240, iv n), (241, sv (headB zo zl)), (242, po w8.hz 1), (243, zv), (244, iv (zl.length : Int)), (245, v15), (246, .bool (aJ sha (headB zo ((zl).take ((pickI n ((zl.length : Int) + 1)).toNat))) n (headB zo zl) (zl.length : Int) (grownL zo zl n))), (247, sv (headB zo ((zl).take ((pickI n ((zl.length : Int) + 1)).toNat)))), (248, iv n), (249, sv (headB zo zl)), (250, po w8.hz 1), (251, zv), (252, iv (zl.length : Int)), (253, v15), (4, _), (5, _), (6, _), (19, _), (8, _), (7, _), (67, _), (68, _), (69, _), (22, _), (25, _), (164, _), (165, _), (166, _), (34, _), (43, _), (233, _), (234, _), (326, _), (235, _), (236, _), (237, _), (238, _), (46, _)] [] a := Z
    refine ab <| aK (k := 15) 18 [17] kr kr kr ?_
    refine am Z Y de call24 rfl (bN (headB zo ((zl).take ((pickI n ((zl.length : Int) + 1)).toNat))) n (headB zo zl) (zl.length : Int) v15 (grownL zo zl n) _ (Y.ow 1 rfl) (by first | assumption | (unfold i64; omega))) ?_
    clear Z Y
    intro a w62 Z Y
    refine wlv Z ((bd rfl rfl underlying4).asb (b' := false) sm) fun a Z => wlm Z rfl fun a Z => ab <| aP (k := 18) 29 [23, 24, 25, 26, 27, 28] Z kr kr kr rfx ?_
    replace Z := Z.p42 4 5 6 19 8 7 67 68 69 22 25 164 165 166 34 43 233 234 326 235 236 237 238 46 239 240 241 242 243 244 245 246 247 248 249 250 251 252 253 254 255 256 rfl
    refine az [] (fun i => match i with | _ => fun _ _ => False) 11 [[], [], [], [], [], [0, 1, 2, 3, 4], [], [], [], [], []] [sv tx, iv at_, sv (headB zo zl), iv n, v15, .bool (aJ sha tx at_ (headB zo zl) n (grownL zo zl n)), sv tx, iv at_, sv (headB zo zl), iv n, v15] Z Y kr kr kr ?_ ?_ ?_
    ·intro i hi hiq
     match i, hi, hiq with
     | 0, _, _ => exact fun w Y => OpV.g (ae rfl)
     | 1, _, _ => exact fun w Y => OpV.g (ae rfl)
     | 2, _, _ => exact fun w Y => OpV.g (ae rfl)
     | 3, _, _ => exact fun w Y => OpV.g (ae rfl)
     | 4, _, _ => exact fun w Y => OpV.g (ae rfl)
     | 5, _, _ => exact fun w Y => aQ call23 rfl (bM tx at_ (headB zo zl) n v15 (grownL zo zl n) _ (Y.ow 1 rfl) hzl (by first | assumption | (unfold i64; omega)) (Y.keepb hk0))
     | 6, _, _ => exact fun w Y => OpV.g (ae rfl)
     | 7, _, _ => exact fun w Y => OpV.g (ae rfl)
     | 8, _, _ => exact fun w Y => OpV.g (ae rfl)
     | 9, _, _ => exact fun w Y => OpV.g (ae rfl)
     | 10, _, _ => exact fun w Y => OpV.g (ae rfl)
    ·intro i hi
     exact absurd hi sm
    clear Z Y
    intro  a w63 Z Y
    replace Z : Fr 330 [(257, sv tx), (258, iv at_), (259, sv (headB zo zl)), (260, iv n), (261, v15), (262, .bool (aJ sha tx at_ (headB zo zl) n (grownL zo zl n))), (263, sv tx), (264, iv at_), (265, sv (headB zo zl)), (266, iv n), (267, v15), (4, _), (5, _), (6, _), (19, _), (8, _), (7, _), (67, _), (68, _), (69, _), (22, _), (25, _), (164, _), (165, _), (166, _), (34, _), (43, _), (233, _), (234, _), (326, _), (235, _), (236, _), (237, _), (238, _), (46, _), (239, _), (240, _), (241, _), (242, _), (243, _), (244, _), (245, _), (246, _), (247, _), (248, _), (249, _), (250, _), (251, _), (252, _), (253, _), (254, _), (255, _), (256, _)] [] a := Z
    refine ab <| aK (k := 29) 32 [31] kr kr kr ?_
    refine aO Z Y de rfl de rfl call24 rfl (bN tx at_ (headB zo zl) n v15 (grownL zo zl n) _ (Y.ow 1 rfl) (by first | assumption | (unfold i64; omega))) ?_
    clear Z Y
    intro a w64 Z Y
    refine wly Z ((bd rfl rfl underlying4).asb (b' := false) sm) fun a Z => wlv Z (au rfl rfl) fun a Z => ab <| aW kr ?_
    refine hK63 _ _ ?_
    replace Z := Z.p21 4 5 6 19 8 7 67 68 69 22 25 164 165 166 34 43 233 234 235 46 270 rfl
    refine aG Z rfl ?_
    refine ap <| hK62 _ _ <| aa fun K64 hK64 => wla Z rfl fun a Z => ab (hK64 _ _ <| aq ?_)
    refine aT (fun m a w => ∃ (mi : Nat), m = zl.length - mi ∧ (mi ≤ zl.length) ∧ Fr 330 [(4, iv n), (5, iv at_), (6, iv key), (19, .bool true), (8, v1), (7, sv tx), (67, (.slice (some ⟨b7, 0, none⟩) 3 3)), (68, iv 3), (69, iv (j : Int)), (22, pt w8.hz), (25, sv (headB zo zl)), (164, (.slice (some ⟨w35.hz, 0, none⟩) 2 2)), (165, iv 2), (166, iv 0), (34, iv n), (43, sv (headB zo ((zl).take ((pickI n ((zl.length : Int) + 1)).toNat)))), (233, (.slice (some ⟨w46.hz, 0, none⟩) 3 3)), (234, iv 3), (235, iv 1), (46, v15), (47, iv (mi : Int))] [] a ∧ St No w0 [own (.slice (some ⟨w46.hz, 0, none⟩) 3 3) 26 1 ([[v11], [v15], [v1]]), own v15 9 1 ((grownL zo zl n).map fun s => [sv s]), own v11 9 1 ((proveL zo zl n).map fun s => [sv s]), own (.slice (some ⟨w35.hz, 0, none⟩) 2 2) 3 1 ([[iv n], [iv (pickI n ((zl.length : Int) + 1))]]), blk w8.hz [iv zo, zv] 25, join [own lv3 48 5 ((l).map Rec.cells), own lv5 48 5 ((lbt).map Rec.cells), own lv6 48 5 ((lu).map Rec.cells)], own (.slice (some ⟨b7, 0, none⟩) 3 3) 25 2 ((zs).map fun z : Int × Value × List Rec => [iv z.1, z.2.1]), own v1 9 1 (qs.map fun s => [sv s])] w) _ ⟨0, rfl, Nat.zero_le _, Z.pick [4, 5, 6, 19, 8, 7, 67, 68, 69, 22, 25, 164, 165, 166, 34, 43, 233, 234, 235, 46, 47], Y.select [0, 1, 2, 3, 4, 5, 6, 7] de⟩ ?_
    rintro _ a w65 ⟨mi, rfl, hmi, Z, Y⟩
    refine ah fun K65 hK65 => aa fun K66 hK66 => wlm Z rfl fun a Z => wlv Z (ai (v := po w8.hz 1) rfl kr) fun a Z => wlv Z (ld Y 4 rfl rfl (isAgg23 _) rfl) fun a Z => wlv Z ((aB (sT := 23) (hzf.1 _ (Y.g 5 rfl)) rfl rfl (runUnderlying23 _)).asi (m' := (zl.length : Int)) (by rw [List.length_map])) fun a Z => wlv Z (v_lt rfl rfl) fun a Z => ab (hK66 _ _ ?_)
    refine ax Z rfl (fun hc18 => ?_) (fun hc18 => ?_)
    ·rw [hc18] at Z
     try simp only [qz] at hc18
     have hix : mi < zl.length := by omega
     refine ap <| hK65 _ _ <| ah fun K67 hK67 => aq <| ah fun K68 hK68 => aH kr (aI kr fun w66 hxz => ?_)
     replace Y := Y.grow hxz
     refine aP (k := 0) 23 [11, 12, 15, 16, 21, 22] Z kr kr kr rfx ?_
     replace Z := Z.p26 4 5 6 19 8 7 67 68 69 22 25 164 165 166 34 43 233 234 235 46 47 271 272 273 274 275 rfl
     refine az [] (fun i => match i with | _ => fun _ _ => False) 23 [[], [], [1], [2], [], [], [5], [], [6, 7], [8], [], [0, 3, 4, 9, 10], [], [], [13], [14], [], [], [17], [], [18, 19], [20], []] [sv (headB zo zl), po w8.hz 1, zv, iv (zl.length : Int), iv n, po w8.hz 1, zv, iv (mi : Int), slAddr zv (mi * 5), .agg #[iv ((zl.getD mi Rec.z).t), iv ((zl.getD mi Rec.z).kind), iv ((zl.getD mi Rec.z).a), iv ((zl.getD mi Rec.z).b), sv ((zl.getD mi Rec.z).text)], v15, .bool (checkB (headB zo zl) (zl.length : Int) n (zl.getD mi Rec.z) (grownL zo zl n)), sv (headB zo zl), po w8.hz 1, zv, iv (zl.length : Int), iv n, po w8.hz 1, zv, iv (mi : Int), slAddr zv (mi * 5), .agg #[iv ((zl.getD mi Rec.z).t), iv ((zl.getD mi Rec.z).kind), iv ((zl.getD mi Rec.z).a), iv ((zl.getD mi Rec.z).b), sv ((zl.getD mi Rec.z).text)], v15] Z Y kr kr kr ?_ ?_ ?_
     ·intro i hi hiq
      match i, hi, hiq with
      | 0, _, _ => exact fun w Y => OpV.g (ae rfl)
      | 1, _, _ => exact fun w Y => OpV.g (ai (v := po w8.hz 1) rfl kr)
      | 2, _, _ => exact fun w Y => OpV.g (ld Y 4 rfl rfl (isAgg23 _) rfl)
      | 3, _, _ => exact fun w Y => OpV.g ((aB (sT := 23) (hzf.1 _ (Y.g 5 rfl)) rfl rfl (runUnderlying23 _)).asi (m' := (zl.length : Int)) (by rw [List.length_map]))
      | 4, _, _ => exact fun w Y => OpV.g (ae rfl)
      | 5, _, _ => exact fun w Y => OpV.g (ai (v := po w8.hz 1) rfl kr)
      | 6, _, _ => exact fun w Y => OpV.g (ld Y 4 rfl rfl (isAgg23 _) rfl)
      | 7, _, _ => exact fun w Y => OpV.g (ae rfl)
      | 8, _, _ => exact fun w Y => OpV.g ((aj (i := (mi : Int)) (sT := 23) (hzf.1 _ (Y.g 5 rfl)) rfl rfl (runUnderlying23 _) (sizeOf48 _) om (by rw [List.length_map]; omega)).as (v' := slAddr zv (mi * 5)) rfl)
      | 9, _, _ => exact fun w Y => OpV.g ((aU (hzf.1 _ (Y.g 5 rfl)) (i := mi) (by rw [List.length_map]; omega) rfl (isAgg48 _) (sizeOf48 _)).as (v' := .agg #[iv ((zl.getD mi Rec.z).t), iv ((zl.getD mi Rec.z).kind), iv ((zl.getD mi Rec.z).a), iv ((zl.getD mi Rec.z).b), sv ((zl.getD mi Rec.z).text)]) (by rw [bl Rec.z]; rfl))
      | 10, _, _ => exact fun w Y => OpV.g (ae rfl)
      | 11, _, _ => exact fun w Y => aQ call25 rfl (bW (headB zo zl) (zl.length : Int) n (zl.getD mi Rec.z) v15 (grownL zo zl n) _ (Y.ow 1 rfl) hzl (by first | assumption | (unfold i64; omega)) (Y.keepb hk0))
      | 12, _, _ => exact fun w Y => OpV.g (ae rfl)
      | 13, _, _ => exact fun w Y => OpV.g (ai (v := po w8.hz 1) rfl kr)
      | 14, _, _ => exact fun w Y => OpV.g (ld Y 4 rfl rfl (isAgg23 _) rfl)
      | 15, _, _ => exact fun w Y => OpV.g ((aB (sT := 23) (hzf.1 _ (Y.g 5 rfl)) rfl rfl (runUnderlying23 _)).asi (m' := (zl.length : Int)) (by rw [List.length_map]))
      | 16, _, _ => exact fun w Y => OpV.g (ae rfl)
      | 17, _, _ => exact fun w Y => OpV.g (ai (v := po w8.hz 1) rfl kr)
      | 18, _, _ => exact fun w Y => OpV.g (ld Y 4 rfl rfl (isAgg23 _) rfl)
      | 19, _, _ => exact fun w Y => OpV.g (ae rfl)
      | 20, _, _ => exact fun w Y => OpV.g ((aj (i := (mi : Int)) (sT := 23) (hzf.1 _ (Y.g 5 rfl)) rfl rfl (runUnderlying23 _) (sizeOf48 _) om (by rw [List.length_map]; omega)).as (v' := slAddr zv (mi * 5)) rfl)
      | 21, _, _ => exact fun w Y => OpV.g ((aU (hzf.1 _ (Y.g 5 rfl)) (i := mi) (by rw [List.length_map]; omega) rfl (isAgg48 _) (sizeOf48 _)).as (v' := .agg #[iv ((zl.getD mi Rec.z).t), iv ((zl.getD mi Rec.z).kind), iv ((zl.getD mi Rec.z).a), iv ((zl.getD mi Rec.z).b), sv ((zl.getD mi Rec.z).text)]) (by rw [bl Rec.z]; rfl))
      | 22, _, _ => exact fun w Y => OpV.g (ae rfl)
      | i + 23, h, _ => exact absurd h om
     ·intro i hi
      exact absurd hi sm
     clear Z Y
     intro  a w67 Z Y
     replace Z : Fr 330 [(278, sv (headB zo zl)), (279, po w8.hz 1), (280, zv), (281, iv (zl.length : Int)), (282, iv n), (283, po w8.hz 1), (284, zv), (285, iv (mi : Int)), (286, slAddr zv (mi * 5)), (287, .agg #[iv ((zl.getD mi Rec.z).t), iv ((zl.getD mi Rec.z).kind), iv ((zl.getD mi Rec.z).a), iv ((zl.getD mi Rec.z).b), sv ((zl.getD mi Rec.z).text)]), (288, v15), (289, .bool (checkB (headB zo zl) (zl.length : Int) n (zl.getD mi Rec.z) (grownL zo zl n))), (290, sv (headB zo zl)), (291, po w8.hz 1), (292, zv), (293, iv (zl.length : Int)), (294, iv n), (295, po w8.hz 1), (296, zv), (297, iv (mi : Int)), (298, slAddr zv (mi * 5)), (299, .agg #[iv ((zl.getD mi Rec.z).t), iv ((zl.getD mi Rec.z).kind), iv ((zl.getD mi Rec.z).a), iv ((zl.getD mi Rec.z).b), sv ((zl.getD mi Rec.z).text)]), (300, v15), (4, _), (5, _), (6, _), (19, _), (8, _), (7, _), (67, _), (68, _), (69, _), (22, _), (25, _), (164, _), (165, _), (166, _), (34, _), (43, _), (233, _), (234, _), (235, _), (46, _), (47, _), (271, _), (272, _), (273, _), (274, _), (275, _)] [] a := Z
     refine ab <| aK (k := 23) 26 [25] kr kr kr ?_
     refine am Z Y de call26 rfl (bV (headB zo zl) (zl.length : Int) n (zl.getD mi Rec.z) v15 (grownL zo zl n) _ (Y.ow 1 rfl) (by first | assumption | (unfold i64; omega))) ?_
     clear Z Y
     intro a w68 Z Y
     refine wlv Z ((bd rfl rfl underlying4).asb (b' := false) sm) fun a Z => wlm Z rfl fun a Z => ab <| aP (k := 26) 45 [35, 36, 37, 38, 43, 44] Z kr kr kr rfx ?_
     replace Z := Z.p52 4 5 6 19 8 7 67 68 69 22 25 164 165 166 34 43 233 234 235 46 47 271 272 273 274 275 278 279 280 281 282 283 284 285 286 287 288 289 290 291 292 293 294 295 296 297 298 299 300 301 302 303 rfl
     refine az [] (fun i => match i with | _ => fun _ _ => False) 19 [[], [], [], [], [3], [], [4, 5], [6], [], [0, 1, 2, 7, 8], [], [], [], [], [13], [], [14, 15], [16], []] [sv tx, iv n, iv at_, po w8.hz 1, zv, iv (mi : Int), slAddr zv (mi * 5), .agg #[iv ((zl.getD mi Rec.z).t), iv ((zl.getD mi Rec.z).kind), iv ((zl.getD mi Rec.z).a), iv ((zl.getD mi Rec.z).b), sv ((zl.getD mi Rec.z).text)], v15, .bool (checkB tx n at_ (zl.getD mi Rec.z) (grownL zo zl n)), sv tx, iv n, iv at_, po w8.hz 1, zv, iv (mi : Int), slAddr zv (mi * 5), .agg #[iv ((zl.getD mi Rec.z).t), iv ((zl.getD mi Rec.z).kind), iv ((zl.getD mi Rec.z).a), iv ((zl.getD mi Rec.z).b), sv ((zl.getD mi Rec.z).text)], v15] Z Y kr kr kr ?_ ?_ ?_
     ·intro i hi hiq
      match i, hi, hiq with
      | 0, _, _ => exact fun w Y => OpV.g (ae rfl)
      | 1, _, _ => exact fun w Y => OpV.g (ae rfl)
      | 2, _, _ => exact fun w Y => OpV.g (ae rfl)
      | 3, _, _ => exact fun w Y => OpV.g (ai (v := po w8.hz 1) rfl kr)
      | 4, _, _ => exact fun w Y => OpV.g (ld Y 4 rfl rfl (isAgg23 _) rfl)
      | 5, _, _ => exact fun w Y => OpV.g (ae rfl)
      | 6, _, _ => exact fun w Y => OpV.g ((aj (i := (mi : Int)) (sT := 23) (hzf.1 _ (Y.g 5 rfl)) rfl rfl (runUnderlying23 _) (sizeOf48 _) om (by rw [List.length_map]; omega)).as (v' := slAddr zv (mi * 5)) rfl)
      | 7, _, _ => exact fun w Y => OpV.g ((aU (hzf.1 _ (Y.g 5 rfl)) (i := mi) (by rw [List.length_map]; omega) rfl (isAgg48 _) (sizeOf48 _)).as (v' := .agg #[iv ((zl.getD mi Rec.z).t), iv ((zl.getD mi Rec.z).kind), iv ((zl.getD mi Rec.z).a), iv ((zl.getD mi Rec.z).b), sv ((zl.getD mi Rec.z).text)]) (by rw [bl Rec.z]; rfl))
      | 8, _, _ => exact fun w Y => OpV.g (ae rfl)
      | 9, _, _ => exact fun w Y => aQ call25 rfl (bW tx n at_ (zl.getD mi Rec.z) v15 (grownL zo zl n) _ (Y.ow 1 rfl) hzl (by first | assumption | (unfold i64; omega)) (Y.keepb hk0))
      | 10, _, _ => exact fun w Y => OpV.g (ae rfl)
      | 11, _, _ => exact fun w Y => OpV.g (ae rfl)
      | 12, _, _ => exact fun w Y => OpV.g (ae rfl)
      | 13, _, _ => exact fun w Y => OpV.g (ai (v := po w8.hz 1) rfl kr)
      | 14, _, _ => exact fun w Y => OpV.g (ld Y 4 rfl rfl (isAgg23 _) rfl)
      | 15, _, _ => exact fun w Y => OpV.g (ae rfl)
      | 16, _, _ => exact fun w Y => OpV.g ((aj (i := (mi : Int)) (sT := 23) (hzf.1 _ (Y.g 5 rfl)) rfl rfl (runUnderlying23 _) (sizeOf48 _) om (by rw [List.length_map]; omega)).as (v' := slAddr zv (mi * 5)) rfl)
      | 17, _, _ => exact fun w Y => OpV.g ((aU (hzf.1 _ (Y.g 5 rfl)) (i := mi) (by rw [List.length_map]; omega) rfl (isAgg48 _) (sizeOf48 _)).as (v' := .agg #[iv ((zl.getD mi Rec.z).t), iv ((zl.getD mi Rec.z).kind), iv ((zl.getD mi Rec.z).a), iv ((zl.getD mi Rec.z).b), sv ((zl.getD mi Rec.z).text)]) (by rw [bl Rec.z]; rfl))
      | 18, _, _ => exact fun w Y => OpV.g (ae rfl)
      | i + 19, h, _ => exact absurd h om
     ·intro i hi
      exact absurd hi sm
     clear Z Y
     intro  a w69 Z Y
     replace Z : Fr 330 [(304, sv tx), (305, iv n), (306, iv at_), (307, po w8.hz 1), (308, zv), (309, iv (mi : Int)), (310, slAddr zv (mi * 5)), (311, .agg #[iv ((zl.getD mi Rec.z).t), iv ((zl.getD mi Rec.z).kind), iv ((zl.getD mi Rec.z).a), iv ((zl.getD mi Rec.z).b), sv ((zl.getD mi Rec.z).text)]), (312, v15), (313, .bool (checkB tx n at_ (zl.getD mi Rec.z) (grownL zo zl n))), (314, sv tx), (315, iv n), (316, iv at_), (317, po w8.hz 1), (318, zv), (319, iv (mi : Int)), (320, slAddr zv (mi * 5)), (321, .agg #[iv ((zl.getD mi Rec.z).t), iv ((zl.getD mi Rec.z).kind), iv ((zl.getD mi Rec.z).a), iv ((zl.getD mi Rec.z).b), sv ((zl.getD mi Rec.z).text)]), (322, v15), (4, _), (5, _), (6, _), (19, _), (8, _), (7, _), (67, _), (68, _), (69, _), (22, _), (25, _), (164, _), (165, _), (166, _), (34, _), (43, _), (233, _), (234, _), (235, _), (46, _), (47, _), (271, _), (272, _), (273, _), (274, _), (275, _), (278, _), (279, _), (280, _), (281, _), (282, _), (283, _), (284, _), (285, _), (286, _), (287, _), (288, _), (289, _), (290, _), (291, _), (292, _), (293, _), (294, _), (295, _), (296, _), (297, _), (298, _), (299, _), (300, _), (301, _), (302, _), (303, _)] [] a := Z
     refine ab <| aK (k := 45) 48 [47] kr kr kr ?_
     refine aO Z Y de rfl de rfl call26 rfl (bV tx n at_ (zl.getD mi Rec.z) v15 (grownL zo zl n) _ (Y.ow 1 rfl) (by first | assumption | (unfold i64; omega))) ?_
     clear Z Y
     intro a w70 Z Y
     refine wly Z ((bd rfl rfl underlying4).asb (b' := false) sm) fun a Z => wlv Z (au rfl rfl) fun a Z => ab <| aW kr ?_
     refine hK68 _ _ ?_
     replace Z := Z.p22 4 5 6 19 8 7 67 68 69 22 25 164 165 166 34 43 233 234 235 46 47 325 rfl
     refine aG Z rfl ?_
     refine ap <| hK67 _ _ <| ar <| wlm Z rfl fun a Z => wlv Z (aV rfl rfl ⟨om, om⟩) fun a Z => wla Z rfl fun a Z => ab ?_
     refine ⟨_, ?_, mi + 1, rfl, om, Z.pick [4, 5, 6, 19, 8, 7, 67, 68, 69, 22, 25, 164, 165, 166, 34, 43, 233, 234, 235, 46, 47], Y.select [0, 1, 2, 3, 4, 5, 6, 7] de⟩
     omega
    rw [hc18] at Z
    try simp only [qz] at hc18
    refine aM ?_
    exact ⟨Z.pick [4, 5, 6, 19, 8, 7, 67, 68, 69, 22, 25, 164, 165, 166, 34, 43, 233, 234, 235], Y.select [0, 1, 2, 3, 4, 5, 6, 7] de⟩
   rintro a w71 ⟨Z, Y⟩
   refine hK60 _ _ <| ar <| wlv Z ((aV rfl rfl de).asi (m' := 2) rfl) fun a Z => wlm Z rfl fun a Z => ab <| bF ?_
   refine aa fun K69 hK69 => wlv Z ((v_lt rfl rfl).asb (b' := true) rfl) fun a Z => ab (hK69 _ _ <| ah fun K70 hK70 => ?_)
   refine aD Z rfl ?_
   refine ap <| hK70 _ _ <| ah fun K71 hK71 => ?_
   refine cO (fun a w => Fr 330 [(4, iv n), (5, iv at_), (6, iv key), (19, .bool true), (8, v1), (7, sv tx), (67, (.slice (some ⟨b7, 0, none⟩) 3 3)), (68, iv 3), (69, iv (j : Int)), (22, pt w8.hz), (25, sv (headB zo zl)), (164, (.slice (some ⟨w35.hz, 0, none⟩) 2 2)), (165, iv 2), (166, iv 0), (34, iv n), (43, sv (headB zo ((zl).take ((pickI n ((zl.length : Int) + 1)).toNat)))), (233, (.slice (some ⟨w46.hz, 0, none⟩) 3 3)), (234, iv 3), (235, iv 2)] [] a ∧ St No w0 [own (.slice (some ⟨w46.hz, 0, none⟩) 3 3) 26 1 ([[v11], [v15], [v1]]), own v15 9 1 ((grownL zo zl n).map fun s => [sv s]), own v11 9 1 ((proveL zo zl n).map fun s => [sv s]), own (.slice (some ⟨w35.hz, 0, none⟩) 2 2) 3 1 ([[iv n], [iv (pickI n ((zl.length : Int) + 1))]]), blk w8.hz [iv zo, zv] 25, join [own lv3 48 5 ((l).map Rec.cells), own lv5 48 5 ((lbt).map Rec.cells), own lv6 48 5 ((lu).map Rec.cells)], own (.slice (some ⟨b7, 0, none⟩) 3 3) 25 2 ((zs).map fun z : Int × Value × List Rec => [iv z.1, z.2.1]), own v1 9 1 (qs.map fun s => [sv s])] w) ?_ ?_
   ·refine aq <| aa fun K72 hK72 => wlv Z ((aj (i := 2) (sT := 44) (Y.ow 0 rfl) rfl rfl (runUnderlying44 _) (sizeOf26 _) om sm).as (v' := slAddr (.slice (some ⟨w46.hz, 0, none⟩) 3 3) (2 * 1)) rfl) fun a Z => wlv Z (ay (u := v1) (i := 2) (j := 0) (Y.ow 0 rfl) sm rfl (isAgg26 _) rfx) fun a Z => wla Z rfl fun a Z => ab (hK72 _ _ <| ah fun K73 hK73 => ?_)
    refine ah fun K74 hK74 => ?_
    have hzl : (qs).length ≤ 1000 := by omega
    refine aH kr (aI kr fun w72 hxz => ?_)
    replace Y := Y.grow hxz
    refine aP (k := 0) 15 [7, 8, 9, 10, 13, 14] Z kr kr kr rfx ?_
    replace Z := Z.p24 4 5 6 19 8 7 67 68 69 22 25 164 165 166 34 43 233 234 326 235 236 237 238 46 rfl
    refine az [] (fun i => match i with | _ => fun _ _ => False) 15 [[], [], [], [], [3], [4], [], [0, 1, 2, 5, 6], [], [], [], [], [11], [12], []] [sv (headB zo ((zl).take ((pickI n ((zl.length : Int) + 1)).toNat))), iv n, sv (headB zo zl), po w8.hz 1, zv, iv (zl.length : Int), v1, .bool (aJ sha (headB zo ((zl).take ((pickI n ((zl.length : Int) + 1)).toNat))) n (headB zo zl) (zl.length : Int) (qs)), sv (headB zo ((zl).take ((pickI n ((zl.length : Int) + 1)).toNat))), iv n, sv (headB zo zl), po w8.hz 1, zv, iv (zl.length : Int), v1] Z Y kr kr kr ?_ ?_ ?_
    ·intro i hi hiq
     match i, hi, hiq with
     | 0, _, _ => exact fun w Y => OpV.g (ae rfl)
     | 1, _, _ => exact fun w Y => OpV.g (ae rfl)
     | 2, _, _ => exact fun w Y => OpV.g (ae rfl)
     | 3, _, _ => exact fun w Y => OpV.g (ai (v := po w8.hz 1) rfl kr)
     | 4, _, _ => exact fun w Y => OpV.g (ld Y 4 rfl rfl (isAgg23 _) rfl)
     | 5, _, _ => exact fun w Y => OpV.g ((aB (sT := 23) (hzf.1 _ (Y.g 5 rfl)) rfl rfl (runUnderlying23 _)).asi (m' := (zl.length : Int)) (by rw [List.length_map]))
     | 6, _, _ => exact fun w Y => OpV.g (ae rfl)
     | 7, _, _ => exact fun w Y => aQ call23 rfl (bM (headB zo ((zl).take ((pickI n ((zl.length : Int) + 1)).toNat))) n (headB zo zl) (zl.length : Int) v1 (qs) _ (Y.ow 7 rfl) hzl (by first | assumption | (unfold i64; omega)) (Y.keepb hk0))
     | 8, _, _ => exact fun w Y => OpV.g (ae rfl)
     | 9, _, _ => exact fun w Y => OpV.g (ae rfl)
     | 10, _, _ => exact fun w Y => OpV.g (ae rfl)
     | 11, _, _ => exact fun w Y => OpV.g (ai (v := po w8.hz 1) rfl kr)
     | 12, _, _ => exact fun w Y => OpV.g (ld Y 4 rfl rfl (isAgg23 _) rfl)
     | 13, _, _ => exact fun w Y => OpV.g ((aB (sT := 23) (hzf.1 _ (Y.g 5 rfl)) rfl rfl (runUnderlying23 _)).asi (m' := (zl.length : Int)) (by rw [List.length_map]))
     | 14, _, _ => exact fun w Y => OpV.g (ae rfl)
     | i + 15, h, _ => exact absurd h om
    ·intro i hi
     exact absurd hi sm
    clear Z Y
    intro  a w73 Z Y
    replace Z : Fr 330 [(239, sv (headB zo ((zl).take ((pickI n ((zl.length : Int) + 1)).toNat)))), (240, iv n), (241, sv (headB zo zl)), (242, po w8.hz 1), (243, zv), (244, iv (zl.length : Int)), (245, v1), (246, .bool (aJ sha (headB zo ((zl).take ((pickI n ((zl.length : Int) + 1)).toNat))) n (headB zo zl) (zl.length : Int) (qs))), (247, sv (headB zo ((zl).take ((pickI n ((zl.length : Int) + 1)).toNat)))), (248, iv n), (249, sv (headB zo zl)), (250, po w8.hz 1), (251, zv), (252, iv (zl.length : Int)), (253, v1), (4, _), (5, _), (6, _), (19, _), (8, _), (7, _), (67, _), (68, _), (69, _), (22, _), (25, _), (164, _), (165, _), (166, _), (34, _), (43, _), (233, _), (234, _), (326, _), (235, _), (236, _), (237, _), (238, _), (46, _)] [] a := Z
    refine ab <| aK (k := 15) 18 [17] kr kr kr ?_
    refine am Z Y de call24 rfl (bN (headB zo ((zl).take ((pickI n ((zl.length : Int) + 1)).toNat))) n (headB zo zl) (zl.length : Int) v1 (qs) _ (Y.ow 7 rfl) (by first | assumption | (unfold i64; omega))) ?_
    clear Z Y
    intro a w74 Z Y
    refine wlv Z ((bd rfl rfl underlying4).asb (b' := false) sm) fun a Z => wlm Z rfl fun a Z => ab <| aP (k := 18) 29 [23, 24, 25, 26, 27, 28] Z kr kr kr rfx ?_
    replace Z := Z.p42 4 5 6 19 8 7 67 68 69 22 25 164 165 166 34 43 233 234 326 235 236 237 238 46 239 240 241 242 243 244 245 246 247 248 249 250 251 252 253 254 255 256 rfl
    refine az [] (fun i => match i with | _ => fun _ _ => False) 11 [[], [], [], [], [], [0, 1, 2, 3, 4], [], [], [], [], []] [sv tx, iv at_, sv (headB zo zl), iv n, v1, .bool (aJ sha tx at_ (headB zo zl) n (qs)), sv tx, iv at_, sv (headB zo zl), iv n, v1] Z Y kr kr kr ?_ ?_ ?_
    ·intro i hi hiq
     match i, hi, hiq with
     | 0, _, _ => exact fun w Y => OpV.g (ae rfl)
     | 1, _, _ => exact fun w Y => OpV.g (ae rfl)
     | 2, _, _ => exact fun w Y => OpV.g (ae rfl)
     | 3, _, _ => exact fun w Y => OpV.g (ae rfl)
     | 4, _, _ => exact fun w Y => OpV.g (ae rfl)
     | 5, _, _ => exact fun w Y => aQ call23 rfl (bM tx at_ (headB zo zl) n v1 (qs) _ (Y.ow 7 rfl) hzl (by first | assumption | (unfold i64; omega)) (Y.keepb hk0))
     | 6, _, _ => exact fun w Y => OpV.g (ae rfl)
     | 7, _, _ => exact fun w Y => OpV.g (ae rfl)
     | 8, _, _ => exact fun w Y => OpV.g (ae rfl)
     | 9, _, _ => exact fun w Y => OpV.g (ae rfl)
     | 10, _, _ => exact fun w Y => OpV.g (ae rfl)
    ·intro i hi
     exact absurd hi sm
    clear Z Y
    intro  a w75 Z Y
    replace Z : Fr 330 [(257, sv tx), (258, iv at_), (259, sv (headB zo zl)), (260, iv n), (261, v1), (262, .bool (aJ sha tx at_ (headB zo zl) n (qs))), (263, sv tx), (264, iv at_), (265, sv (headB zo zl)), (266, iv n), (267, v1), (4, _), (5, _), (6, _), (19, _), (8, _), (7, _), (67, _), (68, _), (69, _), (22, _), (25, _), (164, _), (165, _), (166, _), (34, _), (43, _), (233, _), (234, _), (326, _), (235, _), (236, _), (237, _), (238, _), (46, _), (239, _), (240, _), (241, _), (242, _), (243, _), (244, _), (245, _), (246, _), (247, _), (248, _), (249, _), (250, _), (251, _), (252, _), (253, _), (254, _), (255, _), (256, _)] [] a := Z
    refine ab <| aK (k := 29) 32 [31] kr kr kr ?_
    refine aO Z Y de rfl de rfl call24 rfl (bN tx at_ (headB zo zl) n v1 (qs) _ (Y.ow 7 rfl) (by first | assumption | (unfold i64; omega))) ?_
    clear Z Y
    intro a w76 Z Y
    refine wly Z ((bd rfl rfl underlying4).asb (b' := false) sm) fun a Z => wlv Z (au rfl rfl) fun a Z => ab <| aW kr ?_
    refine hK74 _ _ ?_
    replace Z := Z.p21 4 5 6 19 8 7 67 68 69 22 25 164 165 166 34 43 233 234 235 46 270 rfl
    refine aG Z rfl ?_
    refine ap <| hK73 _ _ <| aa fun K75 hK75 => wla Z rfl fun a Z => ab (hK75 _ _ <| aq ?_)
    refine aT (fun m a w => ∃ (mi : Nat), m = zl.length - mi ∧ (mi ≤ zl.length) ∧ Fr 330 [(4, iv n), (5, iv at_), (6, iv key), (19, .bool true), (8, v1), (7, sv tx), (67, (.slice (some ⟨b7, 0, none⟩) 3 3)), (68, iv 3), (69, iv (j : Int)), (22, pt w8.hz), (25, sv (headB zo zl)), (164, (.slice (some ⟨w35.hz, 0, none⟩) 2 2)), (165, iv 2), (166, iv 0), (34, iv n), (43, sv (headB zo ((zl).take ((pickI n ((zl.length : Int) + 1)).toNat)))), (233, (.slice (some ⟨w46.hz, 0, none⟩) 3 3)), (234, iv 3), (235, iv 2), (46, v1), (47, iv (mi : Int))] [] a ∧ St No w0 [own (.slice (some ⟨w46.hz, 0, none⟩) 3 3) 26 1 ([[v11], [v15], [v1]]), own v15 9 1 ((grownL zo zl n).map fun s => [sv s]), own v11 9 1 ((proveL zo zl n).map fun s => [sv s]), own (.slice (some ⟨w35.hz, 0, none⟩) 2 2) 3 1 ([[iv n], [iv (pickI n ((zl.length : Int) + 1))]]), blk w8.hz [iv zo, zv] 25, join [own lv3 48 5 ((l).map Rec.cells), own lv5 48 5 ((lbt).map Rec.cells), own lv6 48 5 ((lu).map Rec.cells)], own (.slice (some ⟨b7, 0, none⟩) 3 3) 25 2 ((zs).map fun z : Int × Value × List Rec => [iv z.1, z.2.1]), own v1 9 1 (qs.map fun s => [sv s])] w) _ ⟨0, rfl, Nat.zero_le _, Z.pick [4, 5, 6, 19, 8, 7, 67, 68, 69, 22, 25, 164, 165, 166, 34, 43, 233, 234, 235, 46, 47], Y.select [0, 1, 2, 3, 4, 5, 6, 7] de⟩ ?_
    rintro _ a w77 ⟨mi, rfl, hmi, Z, Y⟩
    refine ah fun K76 hK76 => aa fun K77 hK77 => wlm Z rfl fun a Z => wlv Z (ai (v := po w8.hz 1) rfl kr) fun a Z => wlv Z (ld Y 4 rfl rfl (isAgg23 _) rfl) fun a Z => wlv Z ((aB (sT := 23) (hzf.1 _ (Y.g 5 rfl)) rfl rfl (runUnderlying23 _)).asi (m' := (zl.length : Int)) (by rw [List.length_map])) fun a Z => wlv Z (v_lt rfl rfl) fun a Z => ab (hK77 _ _ ?_)
    refine ax Z rfl (fun hc19 => ?_) (fun hc19 => ?_)
    ·rw [hc19] at Z
     try simp only [qz] at hc19
     have hix : mi < zl.length := by omega
     refine ap <| hK76 _ _ <| ah fun K78 hK78 => aq <| ah fun K79 hK79 => aH kr (aI kr fun w78 hxz => ?_)
     replace Y := Y.grow hxz
     refine aP (k := 0) 23 [11, 12, 15, 16, 21, 22] Z kr kr kr rfx ?_
     replace Z := Z.p26 4 5 6 19 8 7 67 68 69 22 25 164 165 166 34 43 233 234 235 46 47 271 272 273 274 275 rfl
     refine az [] (fun i => match i with | _ => fun _ _ => False) 23 [[], [], [1], [2], [], [], [5], [], [6, 7], [8], [], [0, 3, 4, 9, 10], [], [], [13], [14], [], [], [17], [], [18, 19], [20], []] [sv (headB zo zl), po w8.hz 1, zv, iv (zl.length : Int), iv n, po w8.hz 1, zv, iv (mi : Int), slAddr zv (mi * 5), .agg #[iv ((zl.getD mi Rec.z).t), iv ((zl.getD mi Rec.z).kind), iv ((zl.getD mi Rec.z).a), iv ((zl.getD mi Rec.z).b), sv ((zl.getD mi Rec.z).text)], v1, .bool (checkB (headB zo zl) (zl.length : Int) n (zl.getD mi Rec.z) (qs)), sv (headB zo zl), po w8.hz 1, zv, iv (zl.length : Int), iv n, po w8.hz 1, zv, iv (mi : Int), slAddr zv (mi * 5), .agg #[iv ((zl.getD mi Rec.z).t), iv ((zl.getD mi Rec.z).kind), iv ((zl.getD mi Rec.z).a), iv ((zl.getD mi Rec.z).b), sv ((zl.getD mi Rec.z).text)], v1] Z Y kr kr kr ?_ ?_ ?_
     ·intro i hi hiq
      match i, hi, hiq with
      | 0, _, _ => exact fun w Y => OpV.g (ae rfl)
      | 1, _, _ => exact fun w Y => OpV.g (ai (v := po w8.hz 1) rfl kr)
      | 2, _, _ => exact fun w Y => OpV.g (ld Y 4 rfl rfl (isAgg23 _) rfl)
      | 3, _, _ => exact fun w Y => OpV.g ((aB (sT := 23) (hzf.1 _ (Y.g 5 rfl)) rfl rfl (runUnderlying23 _)).asi (m' := (zl.length : Int)) (by rw [List.length_map]))
      | 4, _, _ => exact fun w Y => OpV.g (ae rfl)
      | 5, _, _ => exact fun w Y => OpV.g (ai (v := po w8.hz 1) rfl kr)
      | 6, _, _ => exact fun w Y => OpV.g (ld Y 4 rfl rfl (isAgg23 _) rfl)
      | 7, _, _ => exact fun w Y => OpV.g (ae rfl)
      | 8, _, _ => exact fun w Y => OpV.g ((aj (i := (mi : Int)) (sT := 23) (hzf.1 _ (Y.g 5 rfl)) rfl rfl (runUnderlying23 _) (sizeOf48 _) om (by rw [List.length_map]; omega)).as (v' := slAddr zv (mi * 5)) rfl)
      | 9, _, _ => exact fun w Y => OpV.g ((aU (hzf.1 _ (Y.g 5 rfl)) (i := mi) (by rw [List.length_map]; omega) rfl (isAgg48 _) (sizeOf48 _)).as (v' := .agg #[iv ((zl.getD mi Rec.z).t), iv ((zl.getD mi Rec.z).kind), iv ((zl.getD mi Rec.z).a), iv ((zl.getD mi Rec.z).b), sv ((zl.getD mi Rec.z).text)]) (by rw [bl Rec.z]; rfl))
      | 10, _, _ => exact fun w Y => OpV.g (ae rfl)
      | 11, _, _ => exact fun w Y => aQ call25 rfl (bW (headB zo zl) (zl.length : Int) n (zl.getD mi Rec.z) v1 (qs) _ (Y.ow 7 rfl) hzl (by first | assumption | (unfold i64; omega)) (Y.keepb hk0))
      | 12, _, _ => exact fun w Y => OpV.g (ae rfl)
      | 13, _, _ => exact fun w Y => OpV.g (ai (v := po w8.hz 1) rfl kr)
      | 14, _, _ => exact fun w Y => OpV.g (ld Y 4 rfl rfl (isAgg23 _) rfl)
      | 15, _, _ => exact fun w Y => OpV.g ((aB (sT := 23) (hzf.1 _ (Y.g 5 rfl)) rfl rfl (runUnderlying23 _)).asi (m' := (zl.length : Int)) (by rw [List.length_map]))
      | 16, _, _ => exact fun w Y => OpV.g (ae rfl)
      | 17, _, _ => exact fun w Y => OpV.g (ai (v := po w8.hz 1) rfl kr)
      | 18, _, _ => exact fun w Y => OpV.g (ld Y 4 rfl rfl (isAgg23 _) rfl)
      | 19, _, _ => exact fun w Y => OpV.g (ae rfl)
      | 20, _, _ => exact fun w Y => OpV.g ((aj (i := (mi : Int)) (sT := 23) (hzf.1 _ (Y.g 5 rfl)) rfl rfl (runUnderlying23 _) (sizeOf48 _) om (by rw [List.length_map]; omega)).as (v' := slAddr zv (mi * 5)) rfl)
      | 21, _, _ => exact fun w Y => OpV.g ((aU (hzf.1 _ (Y.g 5 rfl)) (i := mi) (by rw [List.length_map]; omega) rfl (isAgg48 _) (sizeOf48 _)).as (v' := .agg #[iv ((zl.getD mi Rec.z).t), iv ((zl.getD mi Rec.z).kind), iv ((zl.getD mi Rec.z).a), iv ((zl.getD mi Rec.z).b), sv ((zl.getD mi Rec.z).text)]) (by rw [bl Rec.z]; rfl))
      | 22, _, _ => exact fun w Y => OpV.g (ae rfl)
      | i + 23, h, _ => exact absurd h om
     ·intro i hi
      exact absurd hi sm
     clear Z Y
     intro  a w79 Z Y
     replace Z : Fr 330 [(278, sv (headB zo zl)), (279, po w8.hz 1), (280, zv), (281, iv (zl.length : Int)), (282, iv n), (283, po w8.hz 1), (284, zv), (285, iv (mi : Int)), (286, slAddr zv (mi * 5)), (287, .agg #[iv ((zl.getD mi Rec.z).t), iv ((zl.getD mi Rec.z).kind), iv ((zl.getD mi Rec.z).a), iv ((zl.getD mi Rec.z).b), sv ((zl.getD mi Rec.z).text)]), (288, v1), (289, .bool (checkB (headB zo zl) (zl.length : Int) n (zl.getD mi Rec.z) (qs))), (290, sv (headB zo zl)), (291, po w8.hz 1), (292, zv), (293, iv (zl.length : Int)), (294, iv n), (295, po w8.hz 1), (296, zv), (297, iv (mi : Int)), (298, slAddr zv (mi * 5)), (299, .agg #[iv ((zl.getD mi Rec.z).t), iv ((zl.getD mi Rec.z).kind), iv ((zl.getD mi Rec.z).a), iv ((zl.getD mi Rec.z).b), sv ((zl.getD mi Rec.z).text)]), (300, v1), (4, _), (5, _), (6, _), (19, _), (8, _), (7, _), (67, _), (68, _), (69, _), (22, _), (25, _), (164, _), (165, _), (166, _), (34, _), (43, _), (233, _), (234, _), (235, _), (46, _), (47, _), (271, _), (272, _), (273, _), (274, _), (275, _)] [] a := Z
     refine ab <| aK (k := 23) 26 [25] kr kr kr ?_
     refine am Z Y de call26 rfl (bV (headB zo zl) (zl.length : Int) n (zl.getD mi Rec.z) v1 (qs) _ (Y.ow 7 rfl) (by first | assumption | (unfold i64; omega))) ?_
     clear Z Y
     intro a w80 Z Y
     refine wlv Z ((bd rfl rfl underlying4).asb (b' := false) sm) fun a Z => wlm Z rfl fun a Z => ab <| aP (k := 26) 45 [35, 36, 37, 38, 43, 44] Z kr kr kr rfx ?_
     replace Z := Z.p52 4 5 6 19 8 7 67 68 69 22 25 164 165 166 34 43 233 234 235 46 47 271 272 273 274 275 278 279 280 281 282 283 284 285 286 287 288 289 290 291 292 293 294 295 296 297 298 299 300 301 302 303 rfl
     refine az [] (fun i => match i with | _ => fun _ _ => False) 19 [[], [], [], [], [3], [], [4, 5], [6], [], [0, 1, 2, 7, 8], [], [], [], [], [13], [], [14, 15], [16], []] [sv tx, iv n, iv at_, po w8.hz 1, zv, iv (mi : Int), slAddr zv (mi * 5), .agg #[iv ((zl.getD mi Rec.z).t), iv ((zl.getD mi Rec.z).kind), iv ((zl.getD mi Rec.z).a), iv ((zl.getD mi Rec.z).b), sv ((zl.getD mi Rec.z).text)], v1, .bool (checkB tx n at_ (zl.getD mi Rec.z) (qs)), sv tx, iv n, iv at_, po w8.hz 1, zv, iv (mi : Int), slAddr zv (mi * 5), .agg #[iv ((zl.getD mi Rec.z).t), iv ((zl.getD mi Rec.z).kind), iv ((zl.getD mi Rec.z).a), iv ((zl.getD mi Rec.z).b), sv ((zl.getD mi Rec.z).text)], v1] Z Y kr kr kr ?_ ?_ ?_
     ·intro i hi hiq
      match i, hi, hiq with
      | 0, _, _ => exact fun w Y => OpV.g (ae rfl)
      | 1, _, _ => exact fun w Y => OpV.g (ae rfl)
      | 2, _, _ => exact fun w Y => OpV.g (ae rfl)
      | 3, _, _ => exact fun w Y => OpV.g (ai (v := po w8.hz 1) rfl kr)
      | 4, _, _ => exact fun w Y => OpV.g (ld Y 4 rfl rfl (isAgg23 _) rfl)
      | 5, _, _ => exact fun w Y => OpV.g (ae rfl)
      | 6, _, _ => exact fun w Y => OpV.g ((aj (i := (mi : Int)) (sT := 23) (hzf.1 _ (Y.g 5 rfl)) rfl rfl (runUnderlying23 _) (sizeOf48 _) om (by rw [List.length_map]; omega)).as (v' := slAddr zv (mi * 5)) rfl)
      | 7, _, _ => exact fun w Y => OpV.g ((aU (hzf.1 _ (Y.g 5 rfl)) (i := mi) (by rw [List.length_map]; omega) rfl (isAgg48 _) (sizeOf48 _)).as (v' := .agg #[iv ((zl.getD mi Rec.z).t), iv ((zl.getD mi Rec.z).kind), iv ((zl.getD mi Rec.z).a), iv ((zl.getD mi Rec.z).b), sv ((zl.getD mi Rec.z).text)]) (by rw [bl Rec.z]; rfl))
      | 8, _, _ => exact fun w Y => OpV.g (ae rfl)
      | 9, _, _ => exact fun w Y => aQ call25 rfl (bW tx n at_ (zl.getD mi Rec.z) v1 (qs) _ (Y.ow 7 rfl) hzl (by first | assumption | (unfold i64; omega)) (Y.keepb hk0))
      | 10, _, _ => exact fun w Y => OpV.g (ae rfl)
      | 11, _, _ => exact fun w Y => OpV.g (ae rfl)
      | 12, _, _ => exact fun w Y => OpV.g (ae rfl)
      | 13, _, _ => exact fun w Y => OpV.g (ai (v := po w8.hz 1) rfl kr)
      | 14, _, _ => exact fun w Y => OpV.g (ld Y 4 rfl rfl (isAgg23 _) rfl)
      | 15, _, _ => exact fun w Y => OpV.g (ae rfl)
      | 16, _, _ => exact fun w Y => OpV.g ((aj (i := (mi : Int)) (sT := 23) (hzf.1 _ (Y.g 5 rfl)) rfl rfl (runUnderlying23 _) (sizeOf48 _) om (by rw [List.length_map]; omega)).as (v' := slAddr zv (mi * 5)) rfl)
      | 17, _, _ => exact fun w Y => OpV.g ((aU (hzf.1 _ (Y.g 5 rfl)) (i := mi) (by rw [List.length_map]; omega) rfl (isAgg48 _) (sizeOf48 _)).as (v' := .agg #[iv ((zl.getD mi Rec.z).t), iv ((zl.getD mi Rec.z).kind), iv ((zl.getD mi Rec.z).a), iv ((zl.getD mi Rec.z).b), sv ((zl.getD mi Rec.z).text)]) (by rw [bl Rec.z]; rfl))
      | 18, _, _ => exact fun w Y => OpV.g (ae rfl)
      | i + 19, h, _ => exact absurd h om
     ·intro i hi
      exact absurd hi sm
     clear Z Y
     intro  a w81 Z Y
     replace Z : Fr 330 [(304, sv tx), (305, iv n), (306, iv at_), (307, po w8.hz 1), (308, zv), (309, iv (mi : Int)), (310, slAddr zv (mi * 5)), (311, .agg #[iv ((zl.getD mi Rec.z).t), iv ((zl.getD mi Rec.z).kind), iv ((zl.getD mi Rec.z).a), iv ((zl.getD mi Rec.z).b), sv ((zl.getD mi Rec.z).text)]), (312, v1), (313, .bool (checkB tx n at_ (zl.getD mi Rec.z) (qs))), (314, sv tx), (315, iv n), (316, iv at_), (317, po w8.hz 1), (318, zv), (319, iv (mi : Int)), (320, slAddr zv (mi * 5)), (321, .agg #[iv ((zl.getD mi Rec.z).t), iv ((zl.getD mi Rec.z).kind), iv ((zl.getD mi Rec.z).a), iv ((zl.getD mi Rec.z).b), sv ((zl.getD mi Rec.z).text)]), (322, v1), (4, _), (5, _), (6, _), (19, _), (8, _), (7, _), (67, _), (68, _), (69, _), (22, _), (25, _), (164, _), (165, _), (166, _), (34, _), (43, _), (233, _), (234, _), (235, _), (46, _), (47, _), (271, _), (272, _), (273, _), (274, _), (275, _), (278, _), (279, _), (280, _), (281, _), (282, _), (283, _), (284, _), (285, _), (286, _), (287, _), (288, _), (289, _), (290, _), (291, _), (292, _), (293, _), (294, _), (295, _), (296, _), (297, _), (298, _), (299, _), (300, _), (301, _), (302, _), (303, _)] [] a := Z
     refine ab <| aK (k := 45) 48 [47] kr kr kr ?_
     refine aO Z Y de rfl de rfl call26 rfl (bV tx n at_ (zl.getD mi Rec.z) v1 (qs) _ (Y.ow 7 rfl) (by first | assumption | (unfold i64; omega))) ?_
     clear Z Y
     intro a w82 Z Y
     refine wly Z ((bd rfl rfl underlying4).asb (b' := false) sm) fun a Z => wlv Z (au rfl rfl) fun a Z => ab <| aW kr ?_
     refine hK79 _ _ ?_
     replace Z := Z.p22 4 5 6 19 8 7 67 68 69 22 25 164 165 166 34 43 233 234 235 46 47 325 rfl
     refine aG Z rfl ?_
     refine ap <| hK78 _ _ <| ar <| wlm Z rfl fun a Z => wlv Z (aV rfl rfl ⟨om, om⟩) fun a Z => wla Z rfl fun a Z => ab ?_
     refine ⟨_, ?_, mi + 1, rfl, om, Z.pick [4, 5, 6, 19, 8, 7, 67, 68, 69, 22, 25, 164, 165, 166, 34, 43, 233, 234, 235, 46, 47], Y.select [0, 1, 2, 3, 4, 5, 6, 7] de⟩
     omega
    rw [hc19] at Z
    try simp only [qz] at hc19
    refine aM ?_
    exact ⟨Z.pick [4, 5, 6, 19, 8, 7, 67, 68, 69, 22, 25, 164, 165, 166, 34, 43, 233, 234, 235], Y.select [0, 1, 2, 3, 4, 5, 6, 7] de⟩
   rintro a w83 ⟨Z, Y⟩
   refine hK71 _ _ <| ar <| wlv Z ((aV rfl rfl de).asi (m' := 3) rfl) fun a Z => wlm Z rfl fun a Z => ab <| bF ?_
   refine aa fun K80 hK80 => wlv Z ((v_lt rfl rfl).asb (b' := false) rfl) fun a Z => ab (hK80 _ _ <| ah fun K81 hK81 => ?_)
   refine aG Z rfl ?_
   refine aM ?_
   exact ⟨Z.pick [4, 5, 6, 19, 8, 7, 67, 68, 69, 22, 25, 164, 165, 166], Y.select [3, 4, 5, 6, 7] de⟩
  rintro a w84 ⟨Z, Y⟩
  refine hK37 _ _ <| ar <| wlv Z ((aV rfl rfl de).asi (m' := 1) rfl) fun a Z => wlm Z rfl fun a Z => ab <| bF ?_
  refine aa fun K82 hK82 => wlv Z ((v_lt rfl rfl).asb (b' := true) rfl) fun a Z => ab (hK82 _ _ <| ah fun K83 hK83 => ?_)
  refine aD Z rfl ?_
  refine ap <| hK83 _ _ <| ah fun K84 hK84 => ?_
  refine cO (fun a w => Fr 330 [(4, iv n), (5, iv at_), (6, iv key), (19, .bool true), (8, v1), (7, sv tx), (67, (.slice (some ⟨b7, 0, none⟩) 3 3)), (68, iv 3), (69, iv (j : Int)), (22, pt w8.hz), (25, sv (headB zo zl)), (164, (.slice (some ⟨w35.hz, 0, none⟩) 2 2)), (165, iv 2), (166, iv 1)] [] a ∧ St No w0 [own (.slice (some ⟨w35.hz, 0, none⟩) 2 2) 3 1 ([[iv n], [iv (pickI n ((zl.length : Int) + 1))]]), blk w8.hz [iv zo, zv] 25, join [own lv3 48 5 ((l).map Rec.cells), own lv5 48 5 ((lbt).map Rec.cells), own lv6 48 5 ((lu).map Rec.cells)], own (.slice (some ⟨b7, 0, none⟩) 3 3) 25 2 ((zs).map fun z : Int × Value × List Rec => [iv z.1, z.2.1]), own v1 9 1 (qs.map fun s => [sv s])] w) ?_ ?_
  ·refine aq <| aa fun K85 hK85 => wlv Z ((aj (i := 1) (sT := 40) (Y.ow 0 rfl) rfl rfl (runUnderlying40 _) (sizeOf3 _) om sm).as (v' := slAddr (.slice (some ⟨w35.hz, 0, none⟩) 2 2) (1 * 1)) rfl) fun a Z => wlv Z (ay (u := iv (pickI n ((zl.length : Int) + 1))) (i := 1) (j := 0) (Y.ow 0 rfl) sm rfl (isAgg3 _) rfx) fun a Z => wla Z rfl fun a Z => ab (hK85 _ _ <| aa fun K86 hK86 => ?_)
   refine wlv Z (aw (Y.g 1 rfl) rfl (isAgg25 _) (sizeOf25 _)) fun a Z => wlm Z rfl fun a Z => aR Z Y de call18 rfl (gc zo zv zl (pickI n ((zl.length : Int) + 1)) _ (hzf.1 _ (Y.g 2 rfl)) om (Y.keepb hk0)) ?_
   clear Z Y
   intro a w85 x21 hp Z Y
   revert x21 hp Z Y; rintro v20 hp Z Y
   clear hp
   replace Y : St No w0 [_, _, _, _, _, _] w85 := Y
   refine wlm Z rfl fun a Z => wlv Z (ak rfl rfl) fun a Z => wlv Z (ak rfl rfl) fun a Z => wla Z rfl fun a Z => wla Z rfl fun a Z => ab (hK86 _ _ ?_)
   replace Z := Z.p17 4 5 6 19 8 7 67 68 69 22 25 164 165 166 34 35 36 rfl
   refine aa fun K87 hK87 => wlv Z (aw (Y.g 2 rfl) rfl (isAgg25 _) (sizeOf25 _)) fun a Z => wlm Z rfl fun a Z => aR Z Y de call19 rfl (gn zo zv zl (pickI n ((zl.length : Int) + 1)) _ (hzf.1 _ (Y.g 3 rfl)) om) ?_
   clear Z Y
   intro a w86 x23 hp Z Y
   revert x23 hp Z Y; rintro v22 hp Z Y
   clear hp
   replace Y : St No w0 [_, _, _, _, _, _, _] w86 := Y
   refine wlm Z rfl fun a Z => wlv Z (ak rfl rfl) fun a Z => wlv Z (ak rfl rfl) fun a Z => wla Z rfl fun a Z => wla Z rfl fun a Z => ab (hK87 _ _ ?_)
   replace Z := Z.p19 4 5 6 19 8 7 67 68 69 22 25 164 165 166 34 35 36 37 38 rfl
   refine aa fun K88 hK88 => wlv Z (aw (Y.g 3 rfl) rfl (isAgg25 _) (sizeOf25 _)) fun a Z => wlm Z rfl fun a Z => aR Z Y de call20 rfl (gk zo zv zl (pickI n ((zl.length : Int) + 1)) _ (hzf.1 _ (Y.g 4 rfl)) om (Y.keepb hk0)) ?_
   clear Z Y
   intro a w87 x25 hp Z Y
   revert x25 hp Z Y; rintro v24 hp Z Y
   clear hp
   replace Y : St No w0 [_, _, _, _, _, _, _, _] w87 := Y
   refine wlm Z rfl fun a Z => wlv Z (ak rfl rfl) fun a Z => wlv Z (ak rfl rfl) fun a Z => wla Z rfl fun a Z => wla Z rfl fun a Z => ab (hK88 _ _ ?_)
   replace Z := Z.p21 4 5 6 19 8 7 67 68 69 22 25 164 165 166 34 35 36 37 38 39 40 rfl
   refine aa fun K89 hK89 => wlv Z (aw (Y.g 4 rfl) rfl (isAgg25 _) (sizeOf25 _)) fun a Z => wlm Z rfl fun a Z => aR Z Y de call21 rfl (gb zo zv zl (pickI n ((zl.length : Int) + 1)) _ (hzf.1 _ (Y.g 5 rfl)) om) ?_
   clear Z Y
   intro a w88 x27 hp Z Y
   revert x27 hp Z Y; rintro v26 hp Z Y
   clear hp
   replace Y : St No w0 [_, _, _, _, _, _, _, _, _] w88 := Y
   refine wlm Z rfl fun a Z => wlv Z (ak rfl rfl) fun a Z => wlv Z (ak rfl rfl) fun a Z => wla Z rfl fun a Z => wla Z rfl fun a Z => ab (hK89 _ _ ?_)
   replace Z := Z.p23 4 5 6 19 8 7 67 68 69 22 25 164 165 166 34 35 36 37 38 39 40 41 42 rfl
   refine ah fun K90 hK90 => aa fun K91 hK91 => wlm Z rfl fun a Z => wlm Z rfl fun a Z => wlv Z ((v_ne rfl rfl).asb (b' := false) sm) fun a Z => wlm Z rfl fun a Z => wly Z (ae rfl) fun a Z => wly Z (ae rfl) fun a Z => wly Z ((v_ne rfl rfl).asb (b' := false) sm) fun a Z => wlv Z (au rfl rfl) fun a Z => wlm Z rfl fun a Z => wly Z (ae rfl) fun a Z => wly Z (ae rfl) fun a Z => aO Z Y de rfl de rfl call22 rfl (cc (b := decide ((proveL zo zl (pickI n ((zl.length : Int) + 1))) = (proveL zo zl (pickI n ((zl.length : Int) + 1))))) (c := true) sm (e8 v20 v22 (proveL zo zl (pickI n ((zl.length : Int) + 1))) (proveL zo zl (pickI n ((zl.length : Int) + 1))) _ (Y.ow 3 rfl) (Y.ow 2 rfl))) ?_
   clear Z Y
   intro a w89 Z Y
   refine wly Z ((bp rfl).asb (b' := false) rfl) fun a Z => wlv Z (au rfl rfl) fun a Z => wlm Z rfl fun a Z => wly Z (ae rfl) fun a Z => wly Z (ae rfl) fun a Z => aO Z Y de rfl de rfl call22 rfl (cc (b := decide ((grownL zo zl (pickI n ((zl.length : Int) + 1))) = (grownL zo zl (pickI n ((zl.length : Int) + 1))))) (c := true) sm (e8 v24 v26 (grownL zo zl (pickI n ((zl.length : Int) + 1))) (grownL zo zl (pickI n ((zl.length : Int) + 1))) _ (Y.ow 1 rfl) (Y.ow 0 rfl))) ?_
   clear Z Y
   intro a w90 Z Y
   refine wly Z ((bp rfl).asb (b' := false) rfl) fun a Z => wlv Z (au rfl rfl) fun a Z => ab (hK91 _ _ ?_)
   replace Z := Z.p18 4 5 6 19 8 7 67 68 69 22 25 164 165 166 34 37 41 213 rfl
   replace Y := Y.k7 501 rfl
   refine aG Z rfl ?_
   refine ap <| hK90 _ _ <| ah fun K92 hK92 => ?_
   have hpz := bu (pickI n ((zl.length : Int) + 1)) (n := (zl.length : Int) + 1) om
   refine aH kr (aI kr fun w91 hxz => ?_)
   replace Y := Y.grow hxz
   refine aP (k := 0) 11 [1, 10] Z kr kr kr rfx ?_
   replace Z := Z.p18 4 5 6 19 8 7 67 68 69 22 25 164 165 166 34 37 41 213 rfl
   refine az [] (fun i => match i with | _ => fun _ _ => False) 11 [[], [0], [], [2], [], [], [5], [6], [7], [4, 8], [3, 9]] [pt w8.hz, iv zo, po w8.hz 1, zv, iv (pickI n ((zl.length : Int) + 1)), po w8.hz 1, zv, iv (zl.length : Int), iv ((zl.length : Int) + 1), iv (pickI (pickI n ((zl.length : Int) + 1)) ((zl.length : Int) + 1)), (cut zv 5 0 ((pickI (pickI n ((zl.length : Int) + 1)) ((zl.length : Int) + 1)).toNat) (slCap zv))] Z Y kr kr kr ?_ ?_ ?_
   ·intro i hi hiq
    match i, hi, hiq with
    | 0, _, _ => exact fun w Y => OpV.g (ai (v := pt w8.hz) rfl kr)
    | 1, _, _ => exact fun w Y => OpV.g (ld Y 3 rfl rfl (isAgg3 _) rfl)
    | 2, _, _ => exact fun w Y => OpV.g (ai (v := po w8.hz 1) rfl kr)
    | 3, _, _ => exact fun w Y => OpV.g (ld Y 3 rfl rfl (isAgg23 _) rfl)
    | 4, _, _ => exact fun w Y => OpV.g (ae rfl)
    | 5, _, _ => exact fun w Y => OpV.g (ai (v := po w8.hz 1) rfl kr)
    | 6, _, _ => exact fun w Y => OpV.g (ld Y 3 rfl rfl (isAgg23 _) rfl)
    | 7, _, _ => exact fun w Y => OpV.g ((aB (sT := 23) (hzf.1 _ (Y.g 4 rfl)) rfl rfl (runUnderlying23 _)).asi (m' := (zl.length : Int)) (by rw [List.length_map]))
    | 8, _, _ => exact fun w Y => OpV.g (aV rfl rfl ⟨om, om⟩)
    | 9, _, _ => exact fun w Y => aQ call17 rfl (gP (pickI n ((zl.length : Int) + 1)) ((zl.length : Int) + 1) _ (by first | assumption | (unfold i64 at *; omega) | omega) om)
    | 10, _, _ => exact fun w Y => OpV.g (ba (l := 0) (h := (pickI (pickI n ((zl.length : Int) + 1)) ((zl.length : Int) + 1)).toNat) (hzf.1 _ (Y.g 4 rfl)) rfl rfl rfl underlying23 kr (.inl ⟨rfl, rfl⟩) (.inr (by rw [show (pickI (pickI n ((zl.length : Int) + 1)) ((zl.length : Int) + 1) : Int) = (((pickI (pickI n ((zl.length : Int) + 1)) ((zl.length : Int) + 1)).toNat : Nat) : Int) from by omega] <;> rfl)) (Nat.zero_le _) (by first | (rw [List.length_map]; omega) | (simp <;> omega)))
   ·intro i hi
    exact absurd hi sm
   clear Z Y
   intro  a w92 Z Y
   replace Z : Fr 330 [(215, pt w8.hz), (216, iv zo), (217, po w8.hz 1), (218, zv), (219, iv (pickI n ((zl.length : Int) + 1))), (220, po w8.hz 1), (221, zv), (222, iv (zl.length : Int)), (223, iv ((zl.length : Int) + 1)), (224, iv (pickI (pickI n ((zl.length : Int) + 1)) ((zl.length : Int) + 1))), (225, (cut zv 5 0 ((pickI (pickI n ((zl.length : Int) + 1)) ((zl.length : Int) + 1)).toNat) (slCap zv))), (4, _), (5, _), (6, _), (19, _), (8, _), (7, _), (67, _), (68, _), (69, _), (22, _), (25, _), (164, _), (165, _), (166, _), (34, _), (37, _), (41, _), (213, _)] [] a := Z
   refine ab <| aK (k := 11) 14 [13] kr kr kr ?_
   refine wlv Z (bx (v := .agg #[iv zo, (cut zv 5 0 ((pickI (pickI n ((zl.length : Int) + 1)) ((zl.length : Int) + 1)).toNat) (slCap zv))]) rfl (by obtain ⟨_, _, _, eb0_⟩ := dz ((hzf.1 _ (Y.g 4 rfl)).cut0 (h := (pickI (pickI n ((zl.length : Int) + 1)) ((zl.length : Int) + 1)).toNat) (by first | omega | (rw [List.length_reverse]; omega) | simp | (simp; omega))); rw [eb0_]; kernel_rfl)) fun a Z => am Z Y de call11 rfl (e7 zo (cut zv 5 0 ((pickI (pickI n ((zl.length : Int) + 1)) ((zl.length : Int) + 1)).toNat) (slCap zv)) ((zl).take ((pickI (pickI n ((zl.length : Int) + 1)) ((zl.length : Int) + 1)).toNat)) _ ((hzf.1 _ (Y.g 4 rfl)).cut0 (h := (pickI (pickI n ((zl.length : Int) + 1)) ((zl.length : Int) + 1)).toNat) (by first | omega | (rw [List.length_reverse]; omega) | simp | (simp; omega))) (by first | omega | (rw [List.length_take]; omega))) ?_
   clear Z Y
   intro a w93 Z Y
   refine wlm Z rfl fun a Z => ab <| aP (k := 14) 17 [15, 16] Z kr kr kr rfx ?_
   replace Z : Fr 330 [(4, _), (5, _), (6, _), (19, _), (8, _), (7, _), (67, _), (68, _), (69, _), (22, _), (25, _), (164, _), (165, _), (166, _), (34, _), (37, _), (41, _), (213, _), (215, _), (216, _), (217, _), (218, _), (219, _), (220, _), (221, _), (222, _), (223, _), (224, _), (225, _), (226, _), (227, _), (214, _)] [] a := Z.pick [4, 5, 6, 19, 8, 7, 67, 68, 69, 22, 25, 164, 165, 166, 34, 37, 41, 213, 215, 216, 217, 218, 219, 220, 221, 222, 223, 224, 225, 226, 227, 214]
   refine az [] (fun i => match i with | _ => fun _ _ => False) 3 [[], [], [0]] [sv (headB zo ((zl).take ((pickI (pickI n ((zl.length : Int) + 1)) ((zl.length : Int) + 1)).toNat))), iv (headE zo ((zl).take ((pickI (pickI n ((zl.length : Int) + 1)) ((zl.length : Int) + 1)).toNat))), sv (headB zo ((zl).take ((pickI (pickI n ((zl.length : Int) + 1)) ((zl.length : Int) + 1)).toNat)))] Z Y kr kr kr ?_ ?_ ?_
   ·intro i hi hiq
    match i, hi, hiq with
    | 0, _, _ => exact fun w Y => OpV.g (ak rfl rfl)
    | 1, _, _ => exact fun w Y => OpV.g (ak rfl rfl)
    | 2, _, _ => exact fun w Y => OpV.g (cx rfl)
   ·intro i hi
    exact absurd hi sm
   clear Z Y
   intro  a w94 Z Y
   replace Z : Fr 330 [(228, sv (headB zo ((zl).take ((pickI (pickI n ((zl.length : Int) + 1)) ((zl.length : Int) + 1)).toNat)))), (229, iv (headE zo ((zl).take ((pickI (pickI n ((zl.length : Int) + 1)) ((zl.length : Int) + 1)).toNat)))), (43, sv (headB zo ((zl).take ((pickI (pickI n ((zl.length : Int) + 1)) ((zl.length : Int) + 1)).toNat)))), (4, _), (5, _), (6, _), (19, _), (8, _), (7, _), (67, _), (68, _), (69, _), (22, _), (25, _), (164, _), (165, _), (166, _), (34, _), (37, _), (41, _), (213, _), (215, _), (216, _), (217, _), (218, _), (219, _), (220, _), (221, _), (222, _), (223, _), (224, _), (225, _), (226, _), (227, _), (214, _)] [] a := Z
   refine ab <| aK (k := 17) 18 [17] kr kr kr ?_
   refine wla Z rfl fun a Z => ab <| aW kr ?_
   refine hK92 _ _ ?_
   replace Z := Z.p18 4 5 6 19 8 7 67 68 69 22 25 164 165 166 34 37 41 43 rfl
   refine aa fun K93 hK93 => wlm Z rfl fun a Z => wlm Z rfl fun a Z => wlm Z rfl fun a Z => aE (E := 26) (sz := 1) rfl [[v22], [v26], [v1]] (by obtain ⟨_, _, _, e0_⟩ := cV (Y.ow 1 rfl); obtain ⟨_, _, _, e1_⟩ := cV (Y.ow 0 rfl); obtain ⟨_, _, _, e2_⟩ := cV (Y.ow 6 rfl); rw [e0_, e1_, e2_]; kernel_rfl) sm rfl de de Z Y ?_
   clear Z Y
   intro a w95 Z Y
   refine wlv Z ((aB (sT := 44) (Y.ow 0 rfl) rfl rfl (runUnderlying44 _)).asi (m' := 3) rfx) fun a Z => wlm Z rfl fun a Z => ab (hK93 _ _ <| aq ?_)
   refine di 4 ?_
   refine bF ?_
   refine aa fun K94 hK94 => wlv Z ((v_lt rfl rfl).asb (b' := true) rfl) fun a Z => ab (hK94 _ _ <| ah fun K95 hK95 => ?_)
   refine aD Z rfl ?_
   refine ap <| hK95 _ _ <| ah fun K96 hK96 => ?_
   refine cO (fun a w => Fr 330 [(4, iv n), (5, iv at_), (6, iv key), (19, .bool true), (8, v1), (7, sv tx), (67, (.slice (some ⟨b7, 0, none⟩) 3 3)), (68, iv 3), (69, iv (j : Int)), (22, pt w8.hz), (25, sv (headB zo zl)), (164, (.slice (some ⟨w35.hz, 0, none⟩) 2 2)), (165, iv 2), (166, iv 1), (34, iv (pickI n ((zl.length : Int) + 1))), (43, sv (headB zo ((zl).take ((pickI (pickI n ((zl.length : Int) + 1)) ((zl.length : Int) + 1)).toNat)))), (233, (.slice (some ⟨w94.hz, 0, none⟩) 3 3)), (234, iv 3), (235, iv 0)] [] a ∧ St No w0 [own (.slice (some ⟨w94.hz, 0, none⟩) 3 3) 26 1 ([[v22], [v26], [v1]]), own v26 9 1 ((grownL zo zl (pickI n ((zl.length : Int) + 1))).map fun s => [sv s]), own v22 9 1 ((proveL zo zl (pickI n ((zl.length : Int) + 1))).map fun s => [sv s]), own (.slice (some ⟨w35.hz, 0, none⟩) 2 2) 3 1 ([[iv n], [iv (pickI n ((zl.length : Int) + 1))]]), blk w8.hz [iv zo, zv] 25, join [own lv3 48 5 ((l).map Rec.cells), own lv5 48 5 ((lbt).map Rec.cells), own lv6 48 5 ((lu).map Rec.cells)], own (.slice (some ⟨b7, 0, none⟩) 3 3) 25 2 ((zs).map fun z : Int × Value × List Rec => [iv z.1, z.2.1]), own v1 9 1 (qs.map fun s => [sv s])] w) ?_ ?_
   ·refine aq <| aa fun K97 hK97 => wlv Z ((aj (i := 0) (sT := 44) (Y.ow 0 rfl) rfl rfl (runUnderlying44 _) (sizeOf26 _) om sm).as (v' := slAddr (.slice (some ⟨w94.hz, 0, none⟩) 3 3) (0 * 1)) rfl) fun a Z => wlv Z (ay (u := v22) (i := 0) (j := 0) (Y.ow 0 rfl) sm rfl (isAgg26 _) rfx) fun a Z => wla Z rfl fun a Z => ab (hK97 _ _ ?_)
    replace Z := Z.p20 4 5 6 19 8 7 67 68 69 22 25 164 165 166 34 43 233 234 235 46 rfl
    refine ah fun K98 hK98 => ah fun K99 hK99 => ?_
    have hzl : (proveL zo zl (pickI n ((zl.length : Int) + 1))).length ≤ 1000 := by have := hpl (pickI n ((zl.length : Int) + 1)); omega
    refine aH kr (aI kr fun w96 hxz => ?_)
    replace Y := Y.grow hxz
    refine aP (k := 0) 15 [7, 8, 9, 10, 13, 14] Z kr kr kr rfx ?_
    replace Z := Z.p20 4 5 6 19 8 7 67 68 69 22 25 164 165 166 34 43 233 234 235 46 rfl
    refine az [] (fun i => match i with | _ => fun _ _ => False) 15 [[], [], [], [], [3], [4], [], [0, 1, 2, 5, 6], [], [], [], [], [11], [12], []] [sv (headB zo ((zl).take ((pickI (pickI n ((zl.length : Int) + 1)) ((zl.length : Int) + 1)).toNat))), iv (pickI n ((zl.length : Int) + 1)), sv (headB zo zl), po w8.hz 1, zv, iv (zl.length : Int), v22, .bool (aJ sha (headB zo ((zl).take ((pickI (pickI n ((zl.length : Int) + 1)) ((zl.length : Int) + 1)).toNat))) (pickI n ((zl.length : Int) + 1)) (headB zo zl) (zl.length : Int) (proveL zo zl (pickI n ((zl.length : Int) + 1)))), sv (headB zo ((zl).take ((pickI (pickI n ((zl.length : Int) + 1)) ((zl.length : Int) + 1)).toNat))), iv (pickI n ((zl.length : Int) + 1)), sv (headB zo zl), po w8.hz 1, zv, iv (zl.length : Int), v22] Z Y kr kr kr ?_ ?_ ?_
    ·intro i hi hiq
     match i, hi, hiq with
     | 0, _, _ => exact fun w Y => OpV.g (ae rfl)
     | 1, _, _ => exact fun w Y => OpV.g (ae rfl)
     | 2, _, _ => exact fun w Y => OpV.g (ae rfl)
     | 3, _, _ => exact fun w Y => OpV.g (ai (v := po w8.hz 1) rfl kr)
     | 4, _, _ => exact fun w Y => OpV.g (ld Y 4 rfl rfl (isAgg23 _) rfl)
     | 5, _, _ => exact fun w Y => OpV.g ((aB (sT := 23) (hzf.1 _ (Y.g 5 rfl)) rfl rfl (runUnderlying23 _)).asi (m' := (zl.length : Int)) (by rw [List.length_map]))
     | 6, _, _ => exact fun w Y => OpV.g (ae rfl)
     | 7, _, _ => exact fun w Y => aQ call23 rfl (bM (headB zo ((zl).take ((pickI (pickI n ((zl.length : Int) + 1)) ((zl.length : Int) + 1)).toNat))) (pickI n ((zl.length : Int) + 1)) (headB zo zl) (zl.length : Int) v22 (proveL zo zl (pickI n ((zl.length : Int) + 1))) _ (Y.ow 2 rfl) hzl (by first | assumption | (unfold i64; omega)) (Y.keepb hk0))
     | 8, _, _ => exact fun w Y => OpV.g (ae rfl)
     | 9, _, _ => exact fun w Y => OpV.g (ae rfl)
     | 10, _, _ => exact fun w Y => OpV.g (ae rfl)
     | 11, _, _ => exact fun w Y => OpV.g (ai (v := po w8.hz 1) rfl kr)
     | 12, _, _ => exact fun w Y => OpV.g (ld Y 4 rfl rfl (isAgg23 _) rfl)
     | 13, _, _ => exact fun w Y => OpV.g ((aB (sT := 23) (hzf.1 _ (Y.g 5 rfl)) rfl rfl (runUnderlying23 _)).asi (m' := (zl.length : Int)) (by rw [List.length_map]))
     | 14, _, _ => exact fun w Y => OpV.g (ae rfl)
     | i + 15, h, _ => exact absurd h om
    ·intro i hi
     exact absurd hi sm
    clear Z Y
    intro  a w97 Z Y
    replace Z : Fr 330 [(239, sv (headB zo ((zl).take ((pickI (pickI n ((zl.length : Int) + 1)) ((zl.length : Int) + 1)).toNat)))), (240, iv (pickI n ((zl.length : Int) + 1))), (241, sv (headB zo zl)), (242, po w8.hz 1), (243, zv), (244, iv (zl.length : Int)), (245, v22), (246, .bool (aJ sha (headB zo ((zl).take ((pickI (pickI n ((zl.length : Int) + 1)) ((zl.length : Int) + 1)).toNat))) (pickI n ((zl.length : Int) + 1)) (headB zo zl) (zl.length : Int) (proveL zo zl (pickI n ((zl.length : Int) + 1))))), (247, sv (headB zo ((zl).take ((pickI (pickI n ((zl.length : Int) + 1)) ((zl.length : Int) + 1)).toNat)))), (248, iv (pickI n ((zl.length : Int) + 1))), (249, sv (headB zo zl)), (250, po w8.hz 1), (251, zv), (252, iv (zl.length : Int)), (253, v22), (4, _), (5, _), (6, _), (19, _), (8, _), (7, _), (67, _), (68, _), (69, _), (22, _), (25, _), (164, _), (165, _), (166, _), (34, _), (43, _), (233, _), (234, _), (235, _), (46, _)] [] a := Z
    refine ab <| aK (k := 15) 18 [17] kr kr kr ?_
    refine am Z Y de call24 rfl (bN (headB zo ((zl).take ((pickI (pickI n ((zl.length : Int) + 1)) ((zl.length : Int) + 1)).toNat))) (pickI n ((zl.length : Int) + 1)) (headB zo zl) (zl.length : Int) v22 (proveL zo zl (pickI n ((zl.length : Int) + 1))) _ (Y.ow 2 rfl) (by first | assumption | (unfold i64; omega))) ?_
    clear Z Y
    intro a w98 Z Y
    refine wlv Z ((bd rfl rfl underlying4).asb (b' := false) sm) fun a Z => wlm Z rfl fun a Z => ab <| aP (k := 18) 29 [23, 24, 25, 26, 27, 28] Z kr kr kr rfx ?_
    replace Z : Fr 330 [(4, _), (5, _), (6, _), (19, _), (8, _), (7, _), (67, _), (68, _), (69, _), (22, _), (25, _), (164, _), (165, _), (166, _), (34, _), (43, _), (233, _), (234, _), (235, _), (46, _), (239, _), (240, _), (241, _), (242, _), (243, _), (244, _), (245, _), (246, _), (247, _), (248, _), (249, _), (250, _), (251, _), (252, _), (253, _), (254, _), (255, _), (256, _)] [] a := Z.pick [4, 5, 6, 19, 8, 7, 67, 68, 69, 22, 25, 164, 165, 166, 34, 43, 233, 234, 235, 46, 239, 240, 241, 242, 243, 244, 245, 246, 247, 248, 249, 250, 251, 252, 253, 254, 255, 256]
    refine az [] (fun i => match i with | _ => fun _ _ => False) 11 [[], [], [], [], [], [0, 1, 2, 3, 4], [], [], [], [], []] [sv tx, iv at_, sv (headB zo zl), iv n, v22, .bool (aJ sha tx at_ (headB zo zl) n (proveL zo zl (pickI n ((zl.length : Int) + 1)))), sv tx, iv at_, sv (headB zo zl), iv n, v22] Z Y kr kr kr ?_ ?_ ?_
    ·intro i hi hiq
     match i, hi, hiq with
     | 0, _, _ => exact fun w Y => OpV.g (ae rfl)
     | 1, _, _ => exact fun w Y => OpV.g (ae rfl)
     | 2, _, _ => exact fun w Y => OpV.g (ae rfl)
     | 3, _, _ => exact fun w Y => OpV.g (ae rfl)
     | 4, _, _ => exact fun w Y => OpV.g (ae rfl)
     | 5, _, _ => exact fun w Y => aQ call23 rfl (bM tx at_ (headB zo zl) n v22 (proveL zo zl (pickI n ((zl.length : Int) + 1))) _ (Y.ow 2 rfl) hzl (by first | assumption | (unfold i64; omega)) (Y.keepb hk0))
     | 6, _, _ => exact fun w Y => OpV.g (ae rfl)
     | 7, _, _ => exact fun w Y => OpV.g (ae rfl)
     | 8, _, _ => exact fun w Y => OpV.g (ae rfl)
     | 9, _, _ => exact fun w Y => OpV.g (ae rfl)
     | 10, _, _ => exact fun w Y => OpV.g (ae rfl)
    ·intro i hi
     exact absurd hi sm
    clear Z Y
    intro  a w99 Z Y
    replace Z : Fr 330 [(257, sv tx), (258, iv at_), (259, sv (headB zo zl)), (260, iv n), (261, v22), (262, .bool (aJ sha tx at_ (headB zo zl) n (proveL zo zl (pickI n ((zl.length : Int) + 1))))), (263, sv tx), (264, iv at_), (265, sv (headB zo zl)), (266, iv n), (267, v22), (4, _), (5, _), (6, _), (19, _), (8, _), (7, _), (67, _), (68, _), (69, _), (22, _), (25, _), (164, _), (165, _), (166, _), (34, _), (43, _), (233, _), (234, _), (235, _), (46, _), (239, _), (240, _), (241, _), (242, _), (243, _), (244, _), (245, _), (246, _), (247, _), (248, _), (249, _), (250, _), (251, _), (252, _), (253, _), (254, _), (255, _), (256, _)] [] a := Z
    refine ab <| aK (k := 29) 32 [31] kr kr kr ?_
    refine aO Z Y de rfl de rfl call24 rfl (bN tx at_ (headB zo zl) n v22 (proveL zo zl (pickI n ((zl.length : Int) + 1))) _ (Y.ow 2 rfl) (by first | assumption | (unfold i64; omega))) ?_
    clear Z Y
    intro a w100 Z Y
    refine wly Z ((bd rfl rfl underlying4).asb (b' := false) sm) fun a Z => wlv Z (au rfl rfl) fun a Z => ab <| aW kr ?_
    refine hK99 _ _ ?_
    replace Z := Z.p21 4 5 6 19 8 7 67 68 69 22 25 164 165 166 34 43 233 234 235 46 270 rfl
    refine aG Z rfl ?_
    refine ap <| hK98 _ _ <| aa fun K100 hK100 => wla Z rfl fun a Z => ab (hK100 _ _ <| aq ?_)
    refine aT (fun m a w => ∃ (mi : Nat), m = zl.length - mi ∧ (mi ≤ zl.length) ∧ Fr 330 [(4, iv n), (5, iv at_), (6, iv key), (19, .bool true), (8, v1), (7, sv tx), (67, (.slice (some ⟨b7, 0, none⟩) 3 3)), (68, iv 3), (69, iv (j : Int)), (22, pt w8.hz), (25, sv (headB zo zl)), (164, (.slice (some ⟨w35.hz, 0, none⟩) 2 2)), (165, iv 2), (166, iv 1), (34, iv (pickI n ((zl.length : Int) + 1))), (43, sv (headB zo ((zl).take ((pickI (pickI n ((zl.length : Int) + 1)) ((zl.length : Int) + 1)).toNat)))), (233, (.slice (some ⟨w94.hz, 0, none⟩) 3 3)), (234, iv 3), (235, iv 0), (46, v22), (47, iv (mi : Int))] [] a ∧ St No w0 [own (.slice (some ⟨w94.hz, 0, none⟩) 3 3) 26 1 ([[v22], [v26], [v1]]), own v26 9 1 ((grownL zo zl (pickI n ((zl.length : Int) + 1))).map fun s => [sv s]), own v22 9 1 ((proveL zo zl (pickI n ((zl.length : Int) + 1))).map fun s => [sv s]), own (.slice (some ⟨w35.hz, 0, none⟩) 2 2) 3 1 ([[iv n], [iv (pickI n ((zl.length : Int) + 1))]]), blk w8.hz [iv zo, zv] 25, join [own lv3 48 5 ((l).map Rec.cells), own lv5 48 5 ((lbt).map Rec.cells), own lv6 48 5 ((lu).map Rec.cells)], own (.slice (some ⟨b7, 0, none⟩) 3 3) 25 2 ((zs).map fun z : Int × Value × List Rec => [iv z.1, z.2.1]), own v1 9 1 (qs.map fun s => [sv s])] w) _ ⟨0, rfl, Nat.zero_le _, Z.pick [4, 5, 6, 19, 8, 7, 67, 68, 69, 22, 25, 164, 165, 166, 34, 43, 233, 234, 235, 46, 47], Y.select [0, 1, 2, 3, 4, 5, 6, 7] de⟩ ?_
    rintro _ a w101 ⟨mi, rfl, hmi, Z, Y⟩
    refine ah fun K101 hK101 => aa fun K102 hK102 => wlm Z rfl fun a Z => wlv Z (ai (v := po w8.hz 1) rfl kr) fun a Z => wlv Z (ld Y 4 rfl rfl (isAgg23 _) rfl) fun a Z => wlv Z ((aB (sT := 23) (hzf.1 _ (Y.g 5 rfl)) rfl rfl (runUnderlying23 _)).asi (m' := (zl.length : Int)) (by rw [List.length_map])) fun a Z => wlv Z (v_lt rfl rfl) fun a Z => ab (hK102 _ _ ?_)
    refine ax Z rfl (fun hc28 => ?_) (fun hc28 => ?_)
    ·rw [hc28] at Z
     try simp only [qz] at hc28
     have hix : mi < zl.length := by omega
     refine ap <| hK101 _ _ <| ah fun K103 hK103 => aq <| ah fun K104 hK104 => aH kr (aI kr fun w102 hxz => ?_)
     replace Y := Y.grow hxz
     refine aP (k := 0) 23 [11, 12, 15, 16, 21, 22] Z kr kr kr rfx ?_
     replace Z := Z.p26 4 5 6 19 8 7 67 68 69 22 25 164 165 166 34 43 233 234 235 46 47 271 272 273 274 275 rfl
     refine az [] (fun i => match i with | _ => fun _ _ => False) 23 [[], [], [1], [2], [], [], [5], [], [6, 7], [8], [], [0, 3, 4, 9, 10], [], [], [13], [14], [], [], [17], [], [18, 19], [20], []] [sv (headB zo zl), po w8.hz 1, zv, iv (zl.length : Int), iv (pickI n ((zl.length : Int) + 1)), po w8.hz 1, zv, iv (mi : Int), slAddr zv (mi * 5), .agg #[iv ((zl.getD mi Rec.z).t), iv ((zl.getD mi Rec.z).kind), iv ((zl.getD mi Rec.z).a), iv ((zl.getD mi Rec.z).b), sv ((zl.getD mi Rec.z).text)], v22, .bool (checkB (headB zo zl) (zl.length : Int) (pickI n ((zl.length : Int) + 1)) (zl.getD mi Rec.z) (proveL zo zl (pickI n ((zl.length : Int) + 1)))), sv (headB zo zl), po w8.hz 1, zv, iv (zl.length : Int), iv (pickI n ((zl.length : Int) + 1)), po w8.hz 1, zv, iv (mi : Int), slAddr zv (mi * 5), .agg #[iv ((zl.getD mi Rec.z).t), iv ((zl.getD mi Rec.z).kind), iv ((zl.getD mi Rec.z).a), iv ((zl.getD mi Rec.z).b), sv ((zl.getD mi Rec.z).text)], v22] Z Y kr kr kr ?_ ?_ ?_
     ·intro i hi hiq
      match i, hi, hiq with
      | 0, _, _ => exact fun w Y => OpV.g (ae rfl)
      | 1, _, _ => exact fun w Y => OpV.g (ai (v := po w8.hz 1) rfl kr)
      | 2, _, _ => exact fun w Y => OpV.g (ld Y 4 rfl rfl (isAgg23 _) rfl)
      | 3, _, _ => exact fun w Y => OpV.g ((aB (sT := 23) (hzf.1 _ (Y.g 5 rfl)) rfl rfl (runUnderlying23 _)).asi (m' := (zl.length : Int)) (by rw [List.length_map]))
      | 4, _, _ => exact fun w Y => OpV.g (ae rfl)
      | 5, _, _ => exact fun w Y => OpV.g (ai (v := po w8.hz 1) rfl kr)
      | 6, _, _ => exact fun w Y => OpV.g (ld Y 4 rfl rfl (isAgg23 _) rfl)
      | 7, _, _ => exact fun w Y => OpV.g (ae rfl)
      | 8, _, _ => exact fun w Y => OpV.g ((aj (i := (mi : Int)) (sT := 23) (hzf.1 _ (Y.g 5 rfl)) rfl rfl (runUnderlying23 _) (sizeOf48 _) om (by rw [List.length_map]; omega)).as (v' := slAddr zv (mi * 5)) rfl)
      | 9, _, _ => exact fun w Y => OpV.g ((aU (hzf.1 _ (Y.g 5 rfl)) (i := mi) (by rw [List.length_map]; omega) rfl (isAgg48 _) (sizeOf48 _)).as (v' := .agg #[iv ((zl.getD mi Rec.z).t), iv ((zl.getD mi Rec.z).kind), iv ((zl.getD mi Rec.z).a), iv ((zl.getD mi Rec.z).b), sv ((zl.getD mi Rec.z).text)]) (by rw [bl Rec.z]; rfl))
      | 10, _, _ => exact fun w Y => OpV.g (ae rfl)
      | 11, _, _ => exact fun w Y => aQ call25 rfl (bW (headB zo zl) (zl.length : Int) (pickI n ((zl.length : Int) + 1)) (zl.getD mi Rec.z) v22 (proveL zo zl (pickI n ((zl.length : Int) + 1))) _ (Y.ow 2 rfl) hzl (by first | assumption | (unfold i64; omega)) (Y.keepb hk0))
      | 12, _, _ => exact fun w Y => OpV.g (ae rfl)
      | 13, _, _ => exact fun w Y => OpV.g (ai (v := po w8.hz 1) rfl kr)
      | 14, _, _ => exact fun w Y => OpV.g (ld Y 4 rfl rfl (isAgg23 _) rfl)
      | 15, _, _ => exact fun w Y => OpV.g ((aB (sT := 23) (hzf.1 _ (Y.g 5 rfl)) rfl rfl (runUnderlying23 _)).asi (m' := (zl.length : Int)) (by rw [List.length_map]))
      | 16, _, _ => exact fun w Y => OpV.g (ae rfl)
      | 17, _, _ => exact fun w Y => OpV.g (ai (v := po w8.hz 1) rfl kr)
      | 18, _, _ => exact fun w Y => OpV.g (ld Y 4 rfl rfl (isAgg23 _) rfl)
      | 19, _, _ => exact fun w Y => OpV.g (ae rfl)
      | 20, _, _ => exact fun w Y => OpV.g ((aj (i := (mi : Int)) (sT := 23) (hzf.1 _ (Y.g 5 rfl)) rfl rfl (runUnderlying23 _) (sizeOf48 _) om (by rw [List.length_map]; omega)).as (v' := slAddr zv (mi * 5)) rfl)
      | 21, _, _ => exact fun w Y => OpV.g ((aU (hzf.1 _ (Y.g 5 rfl)) (i := mi) (by rw [List.length_map]; omega) rfl (isAgg48 _) (sizeOf48 _)).as (v' := .agg #[iv ((zl.getD mi Rec.z).t), iv ((zl.getD mi Rec.z).kind), iv ((zl.getD mi Rec.z).a), iv ((zl.getD mi Rec.z).b), sv ((zl.getD mi Rec.z).text)]) (by rw [bl Rec.z]; rfl))
      | 22, _, _ => exact fun w Y => OpV.g (ae rfl)
      | i + 23, h, _ => exact absurd h om
     ·intro i hi
      exact absurd hi sm
     clear Z Y
     intro  a w103 Z Y
     replace Z : Fr 330 [(278, sv (headB zo zl)), (279, po w8.hz 1), (280, zv), (281, iv (zl.length : Int)), (282, iv (pickI n ((zl.length : Int) + 1))), (283, po w8.hz 1), (284, zv), (285, iv (mi : Int)), (286, slAddr zv (mi * 5)), (287, .agg #[iv ((zl.getD mi Rec.z).t), iv ((zl.getD mi Rec.z).kind), iv ((zl.getD mi Rec.z).a), iv ((zl.getD mi Rec.z).b), sv ((zl.getD mi Rec.z).text)]), (288, v22), (289, .bool (checkB (headB zo zl) (zl.length : Int) (pickI n ((zl.length : Int) + 1)) (zl.getD mi Rec.z) (proveL zo zl (pickI n ((zl.length : Int) + 1))))), (290, sv (headB zo zl)), (291, po w8.hz 1), (292, zv), (293, iv (zl.length : Int)), (294, iv (pickI n ((zl.length : Int) + 1))), (295, po w8.hz 1), (296, zv), (297, iv (mi : Int)), (298, slAddr zv (mi * 5)), (299, .agg #[iv ((zl.getD mi Rec.z).t), iv ((zl.getD mi Rec.z).kind), iv ((zl.getD mi Rec.z).a), iv ((zl.getD mi Rec.z).b), sv ((zl.getD mi Rec.z).text)]), (300, v22), (4, _), (5, _), (6, _), (19, _), (8, _), (7, _), (67, _), (68, _), (69, _), (22, _), (25, _), (164, _), (165, _), (166, _), (34, _), (43, _), (233, _), (234, _), (235, _), (46, _), (47, _), (271, _), (272, _), (273, _), (274, _), (275, _)] [] a := Z
     refine ab <| aK (k := 23) 26 [25] kr kr kr ?_
     refine am Z Y de call26 rfl (bV (headB zo zl) (zl.length : Int) (pickI n ((zl.length : Int) + 1)) (zl.getD mi Rec.z) v22 (proveL zo zl (pickI n ((zl.length : Int) + 1))) _ (Y.ow 2 rfl) (by first | assumption | (unfold i64; omega))) ?_
     clear Z Y
     intro a w104 Z Y
     refine wlv Z ((bd rfl rfl underlying4).asb (b' := false) sm) fun a Z => wlm Z rfl fun a Z => ab <| aP (k := 26) 45 [35, 36, 37, 38, 43, 44] Z kr kr kr rfx ?_
     replace Z := Z.p52 4 5 6 19 8 7 67 68 69 22 25 164 165 166 34 43 233 234 235 46 47 271 272 273 274 275 278 279 280 281 282 283 284 285 286 287 288 289 290 291 292 293 294 295 296 297 298 299 300 301 302 303 rfl
     refine az [] (fun i => match i with | _ => fun _ _ => False) 19 [[], [], [], [], [3], [], [4, 5], [6], [], [0, 1, 2, 7, 8], [], [], [], [], [13], [], [14, 15], [16], []] [sv tx, iv n, iv at_, po w8.hz 1, zv, iv (mi : Int), slAddr zv (mi * 5), .agg #[iv ((zl.getD mi Rec.z).t), iv ((zl.getD mi Rec.z).kind), iv ((zl.getD mi Rec.z).a), iv ((zl.getD mi Rec.z).b), sv ((zl.getD mi Rec.z).text)], v22, .bool (checkB tx n at_ (zl.getD mi Rec.z) (proveL zo zl (pickI n ((zl.length : Int) + 1)))), sv tx, iv n, iv at_, po w8.hz 1, zv, iv (mi : Int), slAddr zv (mi * 5), .agg #[iv ((zl.getD mi Rec.z).t), iv ((zl.getD mi Rec.z).kind), iv ((zl.getD mi Rec.z).a), iv ((zl.getD mi Rec.z).b), sv ((zl.getD mi Rec.z).text)], v22] Z Y kr kr kr ?_ ?_ ?_
     ·intro i hi hiq
      match i, hi, hiq with
      | 0, _, _ => exact fun w Y => OpV.g (ae rfl)
      | 1, _, _ => exact fun w Y => OpV.g (ae rfl)
      | 2, _, _ => exact fun w Y => OpV.g (ae rfl)
      | 3, _, _ => exact fun w Y => OpV.g (ai (v := po w8.hz 1) rfl kr)
      | 4, _, _ => exact fun w Y => OpV.g (ld Y 4 rfl rfl (isAgg23 _) rfl)
      | 5, _, _ => exact fun w Y => OpV.g (ae rfl)
      | 6, _, _ => exact fun w Y => OpV.g ((aj (i := (mi : Int)) (sT := 23) (hzf.1 _ (Y.g 5 rfl)) rfl rfl (runUnderlying23 _) (sizeOf48 _) om (by rw [List.length_map]; omega)).as (v' := slAddr zv (mi * 5)) rfl)
      | 7, _, _ => exact fun w Y => OpV.g ((aU (hzf.1 _ (Y.g 5 rfl)) (i := mi) (by rw [List.length_map]; omega) rfl (isAgg48 _) (sizeOf48 _)).as (v' := .agg #[iv ((zl.getD mi Rec.z).t), iv ((zl.getD mi Rec.z).kind), iv ((zl.getD mi Rec.z).a), iv ((zl.getD mi Rec.z).b), sv ((zl.getD mi Rec.z).text)]) (by rw [bl Rec.z]; rfl))
      | 8, _, _ => exact fun w Y => OpV.g (ae rfl)
      | 9, _, _ => exact fun w Y => aQ call25 rfl (bW tx n at_ (zl.getD mi Rec.z) v22 (proveL zo zl (pickI n ((zl.length : Int) + 1))) _ (Y.ow 2 rfl) hzl (by first | assumption | (unfold i64; omega)) (Y.keepb hk0))
      | 10, _, _ => exact fun w Y => OpV.g (ae rfl)
      | 11, _, _ => exact fun w Y => OpV.g (ae rfl)
      | 12, _, _ => exact fun w Y => OpV.g (ae rfl)
      | 13, _, _ => exact fun w Y => OpV.g (ai (v := po w8.hz 1) rfl kr)
      | 14, _, _ => exact fun w Y => OpV.g (ld Y 4 rfl rfl (isAgg23 _) rfl)
      | 15, _, _ => exact fun w Y => OpV.g (ae rfl)
      | 16, _, _ => exact fun w Y => OpV.g ((aj (i := (mi : Int)) (sT := 23) (hzf.1 _ (Y.g 5 rfl)) rfl rfl (runUnderlying23 _) (sizeOf48 _) om (by rw [List.length_map]; omega)).as (v' := slAddr zv (mi * 5)) rfl)
      | 17, _, _ => exact fun w Y => OpV.g ((aU (hzf.1 _ (Y.g 5 rfl)) (i := mi) (by rw [List.length_map]; omega) rfl (isAgg48 _) (sizeOf48 _)).as (v' := .agg #[iv ((zl.getD mi Rec.z).t), iv ((zl.getD mi Rec.z).kind), iv ((zl.getD mi Rec.z).a), iv ((zl.getD mi Rec.z).b), sv ((zl.getD mi Rec.z).text)]) (by rw [bl Rec.z]; rfl))
      | 18, _, _ => exact fun w Y => OpV.g (ae rfl)
      | i + 19, h, _ => exact absurd h om
     ·intro i hi
      exact absurd hi sm
     clear Z Y
     intro  a w105 Z Y
     replace Z : Fr 330 [(304, sv tx), (305, iv n), (306, iv at_), (307, po w8.hz 1), (308, zv), (309, iv (mi : Int)), (310, slAddr zv (mi * 5)), (311, .agg #[iv ((zl.getD mi Rec.z).t), iv ((zl.getD mi Rec.z).kind), iv ((zl.getD mi Rec.z).a), iv ((zl.getD mi Rec.z).b), sv ((zl.getD mi Rec.z).text)]), (312, v22), (313, .bool (checkB tx n at_ (zl.getD mi Rec.z) (proveL zo zl (pickI n ((zl.length : Int) + 1))))), (314, sv tx), (315, iv n), (316, iv at_), (317, po w8.hz 1), (318, zv), (319, iv (mi : Int)), (320, slAddr zv (mi * 5)), (321, .agg #[iv ((zl.getD mi Rec.z).t), iv ((zl.getD mi Rec.z).kind), iv ((zl.getD mi Rec.z).a), iv ((zl.getD mi Rec.z).b), sv ((zl.getD mi Rec.z).text)]), (322, v22), (4, _), (5, _), (6, _), (19, _), (8, _), (7, _), (67, _), (68, _), (69, _), (22, _), (25, _), (164, _), (165, _), (166, _), (34, _), (43, _), (233, _), (234, _), (235, _), (46, _), (47, _), (271, _), (272, _), (273, _), (274, _), (275, _), (278, _), (279, _), (280, _), (281, _), (282, _), (283, _), (284, _), (285, _), (286, _), (287, _), (288, _), (289, _), (290, _), (291, _), (292, _), (293, _), (294, _), (295, _), (296, _), (297, _), (298, _), (299, _), (300, _), (301, _), (302, _), (303, _)] [] a := Z
     refine ab <| aK (k := 45) 48 [47] kr kr kr ?_
     refine aO Z Y de rfl de rfl call26 rfl (bV tx n at_ (zl.getD mi Rec.z) v22 (proveL zo zl (pickI n ((zl.length : Int) + 1))) _ (Y.ow 2 rfl) (by first | assumption | (unfold i64; omega))) ?_
     clear Z Y
     intro a w106 Z Y
     refine wly Z ((bd rfl rfl underlying4).asb (b' := false) sm) fun a Z => wlv Z (au rfl rfl) fun a Z => ab <| aW kr ?_
     refine hK104 _ _ ?_
     replace Z := Z.p22 4 5 6 19 8 7 67 68 69 22 25 164 165 166 34 43 233 234 235 46 47 325 rfl
     refine aG Z rfl ?_
     refine ap <| hK103 _ _ <| ar <| wlm Z rfl fun a Z => wlv Z (aV rfl rfl ⟨om, om⟩) fun a Z => wla Z rfl fun a Z => ab ?_
     refine ⟨_, ?_, mi + 1, rfl, om, Z.pick [4, 5, 6, 19, 8, 7, 67, 68, 69, 22, 25, 164, 165, 166, 34, 43, 233, 234, 235, 46, 47], Y.select [0, 1, 2, 3, 4, 5, 6, 7] de⟩
     omega
    rw [hc28] at Z
    try simp only [qz] at hc28
    refine aM ?_
    exact ⟨Z.pick [4, 5, 6, 19, 8, 7, 67, 68, 69, 22, 25, 164, 165, 166, 34, 43, 233, 234, 235], Y.select [0, 1, 2, 3, 4, 5, 6, 7] de⟩
   rintro a w107 ⟨Z, Y⟩
   refine hK96 _ _ <| ar <| wlv Z ((aV rfl rfl de).asi (m' := 1) rfl) fun a Z => wlm Z rfl fun a Z => ab <| bF ?_
   refine aa fun K105 hK105 => wlv Z ((v_lt rfl rfl).asb (b' := true) rfl) fun a Z => ab (hK105 _ _ <| ah fun K106 hK106 => ?_)
   refine aD Z rfl ?_
   refine ap <| hK106 _ _ <| ah fun K107 hK107 => ?_
   refine cO (fun a w => Fr 330 [(4, iv n), (5, iv at_), (6, iv key), (19, .bool true), (8, v1), (7, sv tx), (67, (.slice (some ⟨b7, 0, none⟩) 3 3)), (68, iv 3), (69, iv (j : Int)), (22, pt w8.hz), (25, sv (headB zo zl)), (164, (.slice (some ⟨w35.hz, 0, none⟩) 2 2)), (165, iv 2), (166, iv 1), (34, iv (pickI n ((zl.length : Int) + 1))), (43, sv (headB zo ((zl).take ((pickI (pickI n ((zl.length : Int) + 1)) ((zl.length : Int) + 1)).toNat)))), (233, (.slice (some ⟨w94.hz, 0, none⟩) 3 3)), (234, iv 3), (235, iv 1)] [] a ∧ St No w0 [own (.slice (some ⟨w94.hz, 0, none⟩) 3 3) 26 1 ([[v22], [v26], [v1]]), own v26 9 1 ((grownL zo zl (pickI n ((zl.length : Int) + 1))).map fun s => [sv s]), own v22 9 1 ((proveL zo zl (pickI n ((zl.length : Int) + 1))).map fun s => [sv s]), own (.slice (some ⟨w35.hz, 0, none⟩) 2 2) 3 1 ([[iv n], [iv (pickI n ((zl.length : Int) + 1))]]), blk w8.hz [iv zo, zv] 25, join [own lv3 48 5 ((l).map Rec.cells), own lv5 48 5 ((lbt).map Rec.cells), own lv6 48 5 ((lu).map Rec.cells)], own (.slice (some ⟨b7, 0, none⟩) 3 3) 25 2 ((zs).map fun z : Int × Value × List Rec => [iv z.1, z.2.1]), own v1 9 1 (qs.map fun s => [sv s])] w) ?_ ?_
   ·refine aq <| aa fun K108 hK108 => wlv Z ((aj (i := 1) (sT := 44) (Y.ow 0 rfl) rfl rfl (runUnderlying44 _) (sizeOf26 _) om sm).as (v' := slAddr (.slice (some ⟨w94.hz, 0, none⟩) 3 3) (1 * 1)) rfl) fun a Z => wlv Z (ay (u := v26) (i := 1) (j := 0) (Y.ow 0 rfl) sm rfl (isAgg26 _) rfx) fun a Z => wla Z rfl fun a Z => ab (hK108 _ _ <| ah fun K109 hK109 => ?_)
    refine ah fun K110 hK110 => ?_
    have hzl : (grownL zo zl (pickI n ((zl.length : Int) + 1))).length ≤ 1000 := by have := hgl (pickI n ((zl.length : Int) + 1)); omega
    refine aH kr (aI kr fun w108 hxz => ?_)
    replace Y := Y.grow hxz
    refine aP (k := 0) 15 [7, 8, 9, 10, 13, 14] Z kr kr kr rfx ?_
    replace Z := Z.p24 4 5 6 19 8 7 67 68 69 22 25 164 165 166 34 43 233 234 326 235 236 237 238 46 rfl
    refine az [] (fun i => match i with | _ => fun _ _ => False) 15 [[], [], [], [], [3], [4], [], [0, 1, 2, 5, 6], [], [], [], [], [11], [12], []] [sv (headB zo ((zl).take ((pickI (pickI n ((zl.length : Int) + 1)) ((zl.length : Int) + 1)).toNat))), iv (pickI n ((zl.length : Int) + 1)), sv (headB zo zl), po w8.hz 1, zv, iv (zl.length : Int), v26, .bool (aJ sha (headB zo ((zl).take ((pickI (pickI n ((zl.length : Int) + 1)) ((zl.length : Int) + 1)).toNat))) (pickI n ((zl.length : Int) + 1)) (headB zo zl) (zl.length : Int) (grownL zo zl (pickI n ((zl.length : Int) + 1)))), sv (headB zo ((zl).take ((pickI (pickI n ((zl.length : Int) + 1)) ((zl.length : Int) + 1)).toNat))), iv (pickI n ((zl.length : Int) + 1)), sv (headB zo zl), po w8.hz 1, zv, iv (zl.length : Int), v26] Z Y kr kr kr ?_ ?_ ?_
    ·intro i hi hiq
     match i, hi, hiq with
     | 0, _, _ => exact fun w Y => OpV.g (ae rfl)
     | 1, _, _ => exact fun w Y => OpV.g (ae rfl)
     | 2, _, _ => exact fun w Y => OpV.g (ae rfl)
     | 3, _, _ => exact fun w Y => OpV.g (ai (v := po w8.hz 1) rfl kr)
     | 4, _, _ => exact fun w Y => OpV.g (ld Y 4 rfl rfl (isAgg23 _) rfl)
     | 5, _, _ => exact fun w Y => OpV.g ((aB (sT := 23) (hzf.1 _ (Y.g 5 rfl)) rfl rfl (runUnderlying23 _)).asi (m' := (zl.length : Int)) (by rw [List.length_map]))
     | 6, _, _ => exact fun w Y => OpV.g (ae rfl)
     | 7, _, _ => exact fun w Y => aQ call23 rfl (bM (headB zo ((zl).take ((pickI (pickI n ((zl.length : Int) + 1)) ((zl.length : Int) + 1)).toNat))) (pickI n ((zl.length : Int) + 1)) (headB zo zl) (zl.length : Int) v26 (grownL zo zl (pickI n ((zl.length : Int) + 1))) _ (Y.ow 1 rfl) hzl (by first | assumption | (unfold i64; omega)) (Y.keepb hk0))
     | 8, _, _ => exact fun w Y => OpV.g (ae rfl)
     | 9, _, _ => exact fun w Y => OpV.g (ae rfl)
     | 10, _, _ => exact fun w Y => OpV.g (ae rfl)
     | 11, _, _ => exact fun w Y => OpV.g (ai (v := po w8.hz 1) rfl kr)
     | 12, _, _ => exact fun w Y => OpV.g (ld Y 4 rfl rfl (isAgg23 _) rfl)
     | 13, _, _ => exact fun w Y => OpV.g ((aB (sT := 23) (hzf.1 _ (Y.g 5 rfl)) rfl rfl (runUnderlying23 _)).asi (m' := (zl.length : Int)) (by rw [List.length_map]))
     | 14, _, _ => exact fun w Y => OpV.g (ae rfl)
     | i + 15, h, _ => exact absurd h om
    ·intro i hi
     exact absurd hi sm
    clear Z Y
    intro  a w109 Z Y
    replace Z : Fr 330 [(239, sv (headB zo ((zl).take ((pickI (pickI n ((zl.length : Int) + 1)) ((zl.length : Int) + 1)).toNat)))), (240, iv (pickI n ((zl.length : Int) + 1))), (241, sv (headB zo zl)), (242, po w8.hz 1), (243, zv), (244, iv (zl.length : Int)), (245, v26), (246, .bool (aJ sha (headB zo ((zl).take ((pickI (pickI n ((zl.length : Int) + 1)) ((zl.length : Int) + 1)).toNat))) (pickI n ((zl.length : Int) + 1)) (headB zo zl) (zl.length : Int) (grownL zo zl (pickI n ((zl.length : Int) + 1))))), (247, sv (headB zo ((zl).take ((pickI (pickI n ((zl.length : Int) + 1)) ((zl.length : Int) + 1)).toNat)))), (248, iv (pickI n ((zl.length : Int) + 1))), (249, sv (headB zo zl)), (250, po w8.hz 1), (251, zv), (252, iv (zl.length : Int)), (253, v26), (4, _), (5, _), (6, _), (19, _), (8, _), (7, _), (67, _), (68, _), (69, _), (22, _), (25, _), (164, _), (165, _), (166, _), (34, _), (43, _), (233, _), (234, _), (326, _), (235, _), (236, _), (237, _), (238, _), (46, _)] [] a := Z
    refine ab <| aK (k := 15) 18 [17] kr kr kr ?_
    refine am Z Y de call24 rfl (bN (headB zo ((zl).take ((pickI (pickI n ((zl.length : Int) + 1)) ((zl.length : Int) + 1)).toNat))) (pickI n ((zl.length : Int) + 1)) (headB zo zl) (zl.length : Int) v26 (grownL zo zl (pickI n ((zl.length : Int) + 1))) _ (Y.ow 1 rfl) (by first | assumption | (unfold i64; omega))) ?_
    clear Z Y
    intro a w110 Z Y
    refine wlv Z ((bd rfl rfl underlying4).asb (b' := false) sm) fun a Z => wlm Z rfl fun a Z => ab <| aP (k := 18) 29 [23, 24, 25, 26, 27, 28] Z kr kr kr rfx ?_
    replace Z := Z.p42 4 5 6 19 8 7 67 68 69 22 25 164 165 166 34 43 233 234 326 235 236 237 238 46 239 240 241 242 243 244 245 246 247 248 249 250 251 252 253 254 255 256 rfl
    refine az [] (fun i => match i with | _ => fun _ _ => False) 11 [[], [], [], [], [], [0, 1, 2, 3, 4], [], [], [], [], []] [sv tx, iv at_, sv (headB zo zl), iv n, v26, .bool (aJ sha tx at_ (headB zo zl) n (grownL zo zl (pickI n ((zl.length : Int) + 1)))), sv tx, iv at_, sv (headB zo zl), iv n, v26] Z Y kr kr kr ?_ ?_ ?_
    ·intro i hi hiq
     match i, hi, hiq with
     | 0, _, _ => exact fun w Y => OpV.g (ae rfl)
     | 1, _, _ => exact fun w Y => OpV.g (ae rfl)
     | 2, _, _ => exact fun w Y => OpV.g (ae rfl)
     | 3, _, _ => exact fun w Y => OpV.g (ae rfl)
     | 4, _, _ => exact fun w Y => OpV.g (ae rfl)
     | 5, _, _ => exact fun w Y => aQ call23 rfl (bM tx at_ (headB zo zl) n v26 (grownL zo zl (pickI n ((zl.length : Int) + 1))) _ (Y.ow 1 rfl) hzl (by first | assumption | (unfold i64; omega)) (Y.keepb hk0))
     | 6, _, _ => exact fun w Y => OpV.g (ae rfl)
     | 7, _, _ => exact fun w Y => OpV.g (ae rfl)
     | 8, _, _ => exact fun w Y => OpV.g (ae rfl)
     | 9, _, _ => exact fun w Y => OpV.g (ae rfl)
     | 10, _, _ => exact fun w Y => OpV.g (ae rfl)
    ·intro i hi
     exact absurd hi sm
    clear Z Y
    intro  a w111 Z Y
    replace Z : Fr 330 [(257, sv tx), (258, iv at_), (259, sv (headB zo zl)), (260, iv n), (261, v26), (262, .bool (aJ sha tx at_ (headB zo zl) n (grownL zo zl (pickI n ((zl.length : Int) + 1))))), (263, sv tx), (264, iv at_), (265, sv (headB zo zl)), (266, iv n), (267, v26), (4, _), (5, _), (6, _), (19, _), (8, _), (7, _), (67, _), (68, _), (69, _), (22, _), (25, _), (164, _), (165, _), (166, _), (34, _), (43, _), (233, _), (234, _), (326, _), (235, _), (236, _), (237, _), (238, _), (46, _), (239, _), (240, _), (241, _), (242, _), (243, _), (244, _), (245, _), (246, _), (247, _), (248, _), (249, _), (250, _), (251, _), (252, _), (253, _), (254, _), (255, _), (256, _)] [] a := Z
    refine ab <| aK (k := 29) 32 [31] kr kr kr ?_
    refine aO Z Y de rfl de rfl call24 rfl (bN tx at_ (headB zo zl) n v26 (grownL zo zl (pickI n ((zl.length : Int) + 1))) _ (Y.ow 1 rfl) (by first | assumption | (unfold i64; omega))) ?_
    clear Z Y
    intro a w112 Z Y
    refine wly Z ((bd rfl rfl underlying4).asb (b' := false) sm) fun a Z => wlv Z (au rfl rfl) fun a Z => ab <| aW kr ?_
    refine hK110 _ _ ?_
    replace Z := Z.p21 4 5 6 19 8 7 67 68 69 22 25 164 165 166 34 43 233 234 235 46 270 rfl
    refine aG Z rfl ?_
    refine ap <| hK109 _ _ <| aa fun K111 hK111 => wla Z rfl fun a Z => ab (hK111 _ _ <| aq ?_)
    refine aT (fun m a w => ∃ (mi : Nat), m = zl.length - mi ∧ (mi ≤ zl.length) ∧ Fr 330 [(4, iv n), (5, iv at_), (6, iv key), (19, .bool true), (8, v1), (7, sv tx), (67, (.slice (some ⟨b7, 0, none⟩) 3 3)), (68, iv 3), (69, iv (j : Int)), (22, pt w8.hz), (25, sv (headB zo zl)), (164, (.slice (some ⟨w35.hz, 0, none⟩) 2 2)), (165, iv 2), (166, iv 1), (34, iv (pickI n ((zl.length : Int) + 1))), (43, sv (headB zo ((zl).take ((pickI (pickI n ((zl.length : Int) + 1)) ((zl.length : Int) + 1)).toNat)))), (233, (.slice (some ⟨w94.hz, 0, none⟩) 3 3)), (234, iv 3), (235, iv 1), (46, v26), (47, iv (mi : Int))] [] a ∧ St No w0 [own (.slice (some ⟨w94.hz, 0, none⟩) 3 3) 26 1 ([[v22], [v26], [v1]]), own v26 9 1 ((grownL zo zl (pickI n ((zl.length : Int) + 1))).map fun s => [sv s]), own v22 9 1 ((proveL zo zl (pickI n ((zl.length : Int) + 1))).map fun s => [sv s]), own (.slice (some ⟨w35.hz, 0, none⟩) 2 2) 3 1 ([[iv n], [iv (pickI n ((zl.length : Int) + 1))]]), blk w8.hz [iv zo, zv] 25, join [own lv3 48 5 ((l).map Rec.cells), own lv5 48 5 ((lbt).map Rec.cells), own lv6 48 5 ((lu).map Rec.cells)], own (.slice (some ⟨b7, 0, none⟩) 3 3) 25 2 ((zs).map fun z : Int × Value × List Rec => [iv z.1, z.2.1]), own v1 9 1 (qs.map fun s => [sv s])] w) _ ⟨0, rfl, Nat.zero_le _, Z.pick [4, 5, 6, 19, 8, 7, 67, 68, 69, 22, 25, 164, 165, 166, 34, 43, 233, 234, 235, 46, 47], Y.select [0, 1, 2, 3, 4, 5, 6, 7] de⟩ ?_
    rintro _ a w113 ⟨mi, rfl, hmi, Z, Y⟩
    refine ah fun K112 hK112 => aa fun K113 hK113 => wlm Z rfl fun a Z => wlv Z (ai (v := po w8.hz 1) rfl kr) fun a Z => wlv Z (ld Y 4 rfl rfl (isAgg23 _) rfl) fun a Z => wlv Z ((aB (sT := 23) (hzf.1 _ (Y.g 5 rfl)) rfl rfl (runUnderlying23 _)).asi (m' := (zl.length : Int)) (by rw [List.length_map])) fun a Z => wlv Z (v_lt rfl rfl) fun a Z => ab (hK113 _ _ ?_)
    refine ax Z rfl (fun hc29 => ?_) (fun hc29 => ?_)
    ·rw [hc29] at Z
     try simp only [qz] at hc29
     have hix : mi < zl.length := by omega
     refine ap <| hK112 _ _ <| ah fun K114 hK114 => aq <| ah fun K115 hK115 => aH kr (aI kr fun w114 hxz => ?_)
     replace Y := Y.grow hxz
     refine aP (k := 0) 23 [11, 12, 15, 16, 21, 22] Z kr kr kr rfx ?_
     replace Z := Z.p26 4 5 6 19 8 7 67 68 69 22 25 164 165 166 34 43 233 234 235 46 47 271 272 273 274 275 rfl
     refine az [] (fun i => match i with | _ => fun _ _ => False) 23 [[], [], [1], [2], [], [], [5], [], [6, 7], [8], [], [0, 3, 4, 9, 10], [], [], [13], [14], [], [], [17], [], [18, 19], [20], []] [sv (headB zo zl), po w8.hz 1, zv, iv (zl.length : Int), iv (pickI n ((zl.length : Int) + 1)), po w8.hz 1, zv, iv (mi : Int), slAddr zv (mi * 5), .agg #[iv ((zl.getD mi Rec.z).t), iv ((zl.getD mi Rec.z).kind), iv ((zl.getD mi Rec.z).a), iv ((zl.getD mi Rec.z).b), sv ((zl.getD mi Rec.z).text)], v26, .bool (checkB (headB zo zl) (zl.length : Int) (pickI n ((zl.length : Int) + 1)) (zl.getD mi Rec.z) (grownL zo zl (pickI n ((zl.length : Int) + 1)))), sv (headB zo zl), po w8.hz 1, zv, iv (zl.length : Int), iv (pickI n ((zl.length : Int) + 1)), po w8.hz 1, zv, iv (mi : Int), slAddr zv (mi * 5), .agg #[iv ((zl.getD mi Rec.z).t), iv ((zl.getD mi Rec.z).kind), iv ((zl.getD mi Rec.z).a), iv ((zl.getD mi Rec.z).b), sv ((zl.getD mi Rec.z).text)], v26] Z Y kr kr kr ?_ ?_ ?_
     ·intro i hi hiq
      match i, hi, hiq with
      | 0, _, _ => exact fun w Y => OpV.g (ae rfl)
      | 1, _, _ => exact fun w Y => OpV.g (ai (v := po w8.hz 1) rfl kr)
      | 2, _, _ => exact fun w Y => OpV.g (ld Y 4 rfl rfl (isAgg23 _) rfl)
      | 3, _, _ => exact fun w Y => OpV.g ((aB (sT := 23) (hzf.1 _ (Y.g 5 rfl)) rfl rfl (runUnderlying23 _)).asi (m' := (zl.length : Int)) (by rw [List.length_map]))
      | 4, _, _ => exact fun w Y => OpV.g (ae rfl)
      | 5, _, _ => exact fun w Y => OpV.g (ai (v := po w8.hz 1) rfl kr)
      | 6, _, _ => exact fun w Y => OpV.g (ld Y 4 rfl rfl (isAgg23 _) rfl)
      | 7, _, _ => exact fun w Y => OpV.g (ae rfl)
      | 8, _, _ => exact fun w Y => OpV.g ((aj (i := (mi : Int)) (sT := 23) (hzf.1 _ (Y.g 5 rfl)) rfl rfl (runUnderlying23 _) (sizeOf48 _) om (by rw [List.length_map]; omega)).as (v' := slAddr zv (mi * 5)) rfl)
      | 9, _, _ => exact fun w Y => OpV.g ((aU (hzf.1 _ (Y.g 5 rfl)) (i := mi) (by rw [List.length_map]; omega) rfl (isAgg48 _) (sizeOf48 _)).as (v' := .agg #[iv ((zl.getD mi Rec.z).t), iv ((zl.getD mi Rec.z).kind), iv ((zl.getD mi Rec.z).a), iv ((zl.getD mi Rec.z).b), sv ((zl.getD mi Rec.z).text)]) (by rw [bl Rec.z]; rfl))
      | 10, _, _ => exact fun w Y => OpV.g (ae rfl)
      | 11, _, _ => exact fun w Y => aQ call25 rfl (bW (headB zo zl) (zl.length : Int) (pickI n ((zl.length : Int) + 1)) (zl.getD mi Rec.z) v26 (grownL zo zl (pickI n ((zl.length : Int) + 1))) _ (Y.ow 1 rfl) hzl (by first | assumption | (unfold i64; omega)) (Y.keepb hk0))
      | 12, _, _ => exact fun w Y => OpV.g (ae rfl)
      | 13, _, _ => exact fun w Y => OpV.g (ai (v := po w8.hz 1) rfl kr)
      | 14, _, _ => exact fun w Y => OpV.g (ld Y 4 rfl rfl (isAgg23 _) rfl)
      | 15, _, _ => exact fun w Y => OpV.g ((aB (sT := 23) (hzf.1 _ (Y.g 5 rfl)) rfl rfl (runUnderlying23 _)).asi (m' := (zl.length : Int)) (by rw [List.length_map]))
      | 16, _, _ => exact fun w Y => OpV.g (ae rfl)
      | 17, _, _ => exact fun w Y => OpV.g (ai (v := po w8.hz 1) rfl kr)
      | 18, _, _ => exact fun w Y => OpV.g (ld Y 4 rfl rfl (isAgg23 _) rfl)
      | 19, _, _ => exact fun w Y => OpV.g (ae rfl)
      | 20, _, _ => exact fun w Y => OpV.g ((aj (i := (mi : Int)) (sT := 23) (hzf.1 _ (Y.g 5 rfl)) rfl rfl (runUnderlying23 _) (sizeOf48 _) om (by rw [List.length_map]; omega)).as (v' := slAddr zv (mi * 5)) rfl)
      | 21, _, _ => exact fun w Y => OpV.g ((aU (hzf.1 _ (Y.g 5 rfl)) (i := mi) (by rw [List.length_map]; omega) rfl (isAgg48 _) (sizeOf48 _)).as (v' := .agg #[iv ((zl.getD mi Rec.z).t), iv ((zl.getD mi Rec.z).kind), iv ((zl.getD mi Rec.z).a), iv ((zl.getD mi Rec.z).b), sv ((zl.getD mi Rec.z).text)]) (by rw [bl Rec.z]; rfl))
      | 22, _, _ => exact fun w Y => OpV.g (ae rfl)
      | i + 23, h, _ => exact absurd h om
     ·intro i hi
      exact absurd hi sm
     clear Z Y
     intro  a w115 Z Y
     replace Z : Fr 330 [(278, sv (headB zo zl)), (279, po w8.hz 1), (280, zv), (281, iv (zl.length : Int)), (282, iv (pickI n ((zl.length : Int) + 1))), (283, po w8.hz 1), (284, zv), (285, iv (mi : Int)), (286, slAddr zv (mi * 5)), (287, .agg #[iv ((zl.getD mi Rec.z).t), iv ((zl.getD mi Rec.z).kind), iv ((zl.getD mi Rec.z).a), iv ((zl.getD mi Rec.z).b), sv ((zl.getD mi Rec.z).text)]), (288, v26), (289, .bool (checkB (headB zo zl) (zl.length : Int) (pickI n ((zl.length : Int) + 1)) (zl.getD mi Rec.z) (grownL zo zl (pickI n ((zl.length : Int) + 1))))), (290, sv (headB zo zl)), (291, po w8.hz 1), (292, zv), (293, iv (zl.length : Int)), (294, iv (pickI n ((zl.length : Int) + 1))), (295, po w8.hz 1), (296, zv), (297, iv (mi : Int)), (298, slAddr zv (mi * 5)), (299, .agg #[iv ((zl.getD mi Rec.z).t), iv ((zl.getD mi Rec.z).kind), iv ((zl.getD mi Rec.z).a), iv ((zl.getD mi Rec.z).b), sv ((zl.getD mi Rec.z).text)]), (300, v26), (4, _), (5, _), (6, _), (19, _), (8, _), (7, _), (67, _), (68, _), (69, _), (22, _), (25, _), (164, _), (165, _), (166, _), (34, _), (43, _), (233, _), (234, _), (235, _), (46, _), (47, _), (271, _), (272, _), (273, _), (274, _), (275, _)] [] a := Z
     refine ab <| aK (k := 23) 26 [25] kr kr kr ?_
     refine am Z Y de call26 rfl (bV (headB zo zl) (zl.length : Int) (pickI n ((zl.length : Int) + 1)) (zl.getD mi Rec.z) v26 (grownL zo zl (pickI n ((zl.length : Int) + 1))) _ (Y.ow 1 rfl) (by first | assumption | (unfold i64; omega))) ?_
     clear Z Y
     intro a w116 Z Y
     refine wlv Z ((bd rfl rfl underlying4).asb (b' := false) sm) fun a Z => wlm Z rfl fun a Z => ab <| aP (k := 26) 45 [35, 36, 37, 38, 43, 44] Z kr kr kr rfx ?_
     replace Z := Z.p52 4 5 6 19 8 7 67 68 69 22 25 164 165 166 34 43 233 234 235 46 47 271 272 273 274 275 278 279 280 281 282 283 284 285 286 287 288 289 290 291 292 293 294 295 296 297 298 299 300 301 302 303 rfl
     refine az [] (fun i => match i with | _ => fun _ _ => False) 19 [[], [], [], [], [3], [], [4, 5], [6], [], [0, 1, 2, 7, 8], [], [], [], [], [13], [], [14, 15], [16], []] [sv tx, iv n, iv at_, po w8.hz 1, zv, iv (mi : Int), slAddr zv (mi * 5), .agg #[iv ((zl.getD mi Rec.z).t), iv ((zl.getD mi Rec.z).kind), iv ((zl.getD mi Rec.z).a), iv ((zl.getD mi Rec.z).b), sv ((zl.getD mi Rec.z).text)], v26, .bool (checkB tx n at_ (zl.getD mi Rec.z) (grownL zo zl (pickI n ((zl.length : Int) + 1)))), sv tx, iv n, iv at_, po w8.hz 1, zv, iv (mi : Int), slAddr zv (mi * 5), .agg #[iv ((zl.getD mi Rec.z).t), iv ((zl.getD mi Rec.z).kind), iv ((zl.getD mi Rec.z).a), iv ((zl.getD mi Rec.z).b), sv ((zl.getD mi Rec.z).text)], v26] Z Y kr kr kr ?_ ?_ ?_
     ·intro i hi hiq
      match i, hi, hiq with
      | 0, _, _ => exact fun w Y => OpV.g (ae rfl)
      | 1, _, _ => exact fun w Y => OpV.g (ae rfl)
      | 2, _, _ => exact fun w Y => OpV.g (ae rfl)
      | 3, _, _ => exact fun w Y => OpV.g (ai (v := po w8.hz 1) rfl kr)
      | 4, _, _ => exact fun w Y => OpV.g (ld Y 4 rfl rfl (isAgg23 _) rfl)
      | 5, _, _ => exact fun w Y => OpV.g (ae rfl)
      | 6, _, _ => exact fun w Y => OpV.g ((aj (i := (mi : Int)) (sT := 23) (hzf.1 _ (Y.g 5 rfl)) rfl rfl (runUnderlying23 _) (sizeOf48 _) om (by rw [List.length_map]; omega)).as (v' := slAddr zv (mi * 5)) rfl)
      | 7, _, _ => exact fun w Y => OpV.g ((aU (hzf.1 _ (Y.g 5 rfl)) (i := mi) (by rw [List.length_map]; omega) rfl (isAgg48 _) (sizeOf48 _)).as (v' := .agg #[iv ((zl.getD mi Rec.z).t), iv ((zl.getD mi Rec.z).kind), iv ((zl.getD mi Rec.z).a), iv ((zl.getD mi Rec.z).b), sv ((zl.getD mi Rec.z).text)]) (by rw [bl Rec.z]; rfl))
      | 8, _, _ => exact fun w Y => OpV.g (ae rfl)
      | 9, _, _ => exact fun w Y => aQ call25 rfl (bW tx n at_ (zl.getD mi Rec.z) v26 (grownL zo zl (pickI n ((zl.length : Int) + 1))) _ (Y.ow 1 rfl) hzl (by first | assumption | (unfold i64; omega)) (Y.keepb hk0))
      | 10, _, _ => exact fun w Y => OpV.g (ae rfl)
      | 11, _, _ => exact fun w Y => OpV.g (ae rfl)
      | 12, _, _ => exact fun w Y => OpV.g (ae rfl)
      | 13, _, _ => exact fun w Y => OpV.g (ai (v := po w8.hz 1) rfl kr)
      | 14, _, _ => exact fun w Y => OpV.g (ld Y 4 rfl rfl (isAgg23 _) rfl)
      | 15, _, _ => exact fun w Y => OpV.g (ae rfl)
      | 16, _, _ => exact fun w Y => OpV.g ((aj (i := (mi : Int)) (sT := 23) (hzf.1 _ (Y.g 5 rfl)) rfl rfl (runUnderlying23 _) (sizeOf48 _) om (by rw [List.length_map]; omega)).as (v' := slAddr zv (mi * 5)) rfl)
      | 17, _, _ => exact fun w Y => OpV.g ((aU (hzf.1 _ (Y.g 5 rfl)) (i := mi) (by rw [List.length_map]; omega) rfl (isAgg48 _) (sizeOf48 _)).as (v' := .agg #[iv ((zl.getD mi Rec.z).t), iv ((zl.getD mi Rec.z).kind), iv ((zl.getD mi Rec.z).a), iv ((zl.getD mi Rec.z).b), sv ((zl.getD mi Rec.z).text)]) (by rw [bl Rec.z]; rfl))
      | 18, _, _ => exact fun w Y => OpV.g (ae rfl)
      | i + 19, h, _ => exact absurd h om
     ·intro i hi
      exact absurd hi sm
     clear Z Y
     intro  a w117 Z Y
     replace Z : Fr 330 [(304, sv tx), (305, iv n), (306, iv at_), (307, po w8.hz 1), (308, zv), (309, iv (mi : Int)), (310, slAddr zv (mi * 5)), (311, .agg #[iv ((zl.getD mi Rec.z).t), iv ((zl.getD mi Rec.z).kind), iv ((zl.getD mi Rec.z).a), iv ((zl.getD mi Rec.z).b), sv ((zl.getD mi Rec.z).text)]), (312, v26), (313, .bool (checkB tx n at_ (zl.getD mi Rec.z) (grownL zo zl (pickI n ((zl.length : Int) + 1))))), (314, sv tx), (315, iv n), (316, iv at_), (317, po w8.hz 1), (318, zv), (319, iv (mi : Int)), (320, slAddr zv (mi * 5)), (321, .agg #[iv ((zl.getD mi Rec.z).t), iv ((zl.getD mi Rec.z).kind), iv ((zl.getD mi Rec.z).a), iv ((zl.getD mi Rec.z).b), sv ((zl.getD mi Rec.z).text)]), (322, v26), (4, _), (5, _), (6, _), (19, _), (8, _), (7, _), (67, _), (68, _), (69, _), (22, _), (25, _), (164, _), (165, _), (166, _), (34, _), (43, _), (233, _), (234, _), (235, _), (46, _), (47, _), (271, _), (272, _), (273, _), (274, _), (275, _), (278, _), (279, _), (280, _), (281, _), (282, _), (283, _), (284, _), (285, _), (286, _), (287, _), (288, _), (289, _), (290, _), (291, _), (292, _), (293, _), (294, _), (295, _), (296, _), (297, _), (298, _), (299, _), (300, _), (301, _), (302, _), (303, _)] [] a := Z
     refine ab <| aK (k := 45) 48 [47] kr kr kr ?_
     refine aO Z Y de rfl de rfl call26 rfl (bV tx n at_ (zl.getD mi Rec.z) v26 (grownL zo zl (pickI n ((zl.length : Int) + 1))) _ (Y.ow 1 rfl) (by first | assumption | (unfold i64; omega))) ?_
     clear Z Y
     intro a w118 Z Y
     refine wly Z ((bd rfl rfl underlying4).asb (b' := false) sm) fun a Z => wlv Z (au rfl rfl) fun a Z => ab <| aW kr ?_
     refine hK115 _ _ ?_
     replace Z := Z.p22 4 5 6 19 8 7 67 68 69 22 25 164 165 166 34 43 233 234 235 46 47 325 rfl
     refine aG Z rfl ?_
     refine ap <| hK114 _ _ <| ar <| wlm Z rfl fun a Z => wlv Z (aV rfl rfl ⟨om, om⟩) fun a Z => wla Z rfl fun a Z => ab ?_
     refine ⟨_, ?_, mi + 1, rfl, om, Z.pick [4, 5, 6, 19, 8, 7, 67, 68, 69, 22, 25, 164, 165, 166, 34, 43, 233, 234, 235, 46, 47], Y.select [0, 1, 2, 3, 4, 5, 6, 7] de⟩
     omega
    rw [hc29] at Z
    try simp only [qz] at hc29
    refine aM ?_
    exact ⟨Z.pick [4, 5, 6, 19, 8, 7, 67, 68, 69, 22, 25, 164, 165, 166, 34, 43, 233, 234, 235], Y.select [0, 1, 2, 3, 4, 5, 6, 7] de⟩
   rintro a w119 ⟨Z, Y⟩
   refine hK107 _ _ <| ar <| wlv Z ((aV rfl rfl de).asi (m' := 2) rfl) fun a Z => wlm Z rfl fun a Z => ab <| bF ?_
   refine aa fun K116 hK116 => wlv Z ((v_lt rfl rfl).asb (b' := true) rfl) fun a Z => ab (hK116 _ _ <| ah fun K117 hK117 => ?_)
   refine aD Z rfl ?_
   refine ap <| hK117 _ _ <| ah fun K118 hK118 => ?_
   refine cO (fun a w => Fr 330 [(4, iv n), (5, iv at_), (6, iv key), (19, .bool true), (8, v1), (7, sv tx), (67, (.slice (some ⟨b7, 0, none⟩) 3 3)), (68, iv 3), (69, iv (j : Int)), (22, pt w8.hz), (25, sv (headB zo zl)), (164, (.slice (some ⟨w35.hz, 0, none⟩) 2 2)), (165, iv 2), (166, iv 1), (34, iv (pickI n ((zl.length : Int) + 1))), (43, sv (headB zo ((zl).take ((pickI (pickI n ((zl.length : Int) + 1)) ((zl.length : Int) + 1)).toNat)))), (233, (.slice (some ⟨w94.hz, 0, none⟩) 3 3)), (234, iv 3), (235, iv 2)] [] a ∧ St No w0 [own (.slice (some ⟨w94.hz, 0, none⟩) 3 3) 26 1 ([[v22], [v26], [v1]]), own v26 9 1 ((grownL zo zl (pickI n ((zl.length : Int) + 1))).map fun s => [sv s]), own v22 9 1 ((proveL zo zl (pickI n ((zl.length : Int) + 1))).map fun s => [sv s]), own (.slice (some ⟨w35.hz, 0, none⟩) 2 2) 3 1 ([[iv n], [iv (pickI n ((zl.length : Int) + 1))]]), blk w8.hz [iv zo, zv] 25, join [own lv3 48 5 ((l).map Rec.cells), own lv5 48 5 ((lbt).map Rec.cells), own lv6 48 5 ((lu).map Rec.cells)], own (.slice (some ⟨b7, 0, none⟩) 3 3) 25 2 ((zs).map fun z : Int × Value × List Rec => [iv z.1, z.2.1]), own v1 9 1 (qs.map fun s => [sv s])] w) ?_ ?_
   ·refine aq <| aa fun K119 hK119 => wlv Z ((aj (i := 2) (sT := 44) (Y.ow 0 rfl) rfl rfl (runUnderlying44 _) (sizeOf26 _) om sm).as (v' := slAddr (.slice (some ⟨w94.hz, 0, none⟩) 3 3) (2 * 1)) rfl) fun a Z => wlv Z (ay (u := v1) (i := 2) (j := 0) (Y.ow 0 rfl) sm rfl (isAgg26 _) rfx) fun a Z => wla Z rfl fun a Z => ab (hK119 _ _ <| ah fun K120 hK120 => ?_)
    refine ah fun K121 hK121 => ?_
    have hzl : (qs).length ≤ 1000 := by omega
    refine aH kr (aI kr fun w120 hxz => ?_)
    replace Y := Y.grow hxz
    refine aP (k := 0) 15 [7, 8, 9, 10, 13, 14] Z kr kr kr rfx ?_
    replace Z := Z.p24 4 5 6 19 8 7 67 68 69 22 25 164 165 166 34 43 233 234 326 235 236 237 238 46 rfl
    refine az [] (fun i => match i with | _ => fun _ _ => False) 15 [[], [], [], [], [3], [4], [], [0, 1, 2, 5, 6], [], [], [], [], [11], [12], []] [sv (headB zo ((zl).take ((pickI (pickI n ((zl.length : Int) + 1)) ((zl.length : Int) + 1)).toNat))), iv (pickI n ((zl.length : Int) + 1)), sv (headB zo zl), po w8.hz 1, zv, iv (zl.length : Int), v1, .bool (aJ sha (headB zo ((zl).take ((pickI (pickI n ((zl.length : Int) + 1)) ((zl.length : Int) + 1)).toNat))) (pickI n ((zl.length : Int) + 1)) (headB zo zl) (zl.length : Int) (qs)), sv (headB zo ((zl).take ((pickI (pickI n ((zl.length : Int) + 1)) ((zl.length : Int) + 1)).toNat))), iv (pickI n ((zl.length : Int) + 1)), sv (headB zo zl), po w8.hz 1, zv, iv (zl.length : Int), v1] Z Y kr kr kr ?_ ?_ ?_
    ·intro i hi hiq
     match i, hi, hiq with
     | 0, _, _ => exact fun w Y => OpV.g (ae rfl)
     | 1, _, _ => exact fun w Y => OpV.g (ae rfl)
     | 2, _, _ => exact fun w Y => OpV.g (ae rfl)
     | 3, _, _ => exact fun w Y => OpV.g (ai (v := po w8.hz 1) rfl kr)
     | 4, _, _ => exact fun w Y => OpV.g (ld Y 4 rfl rfl (isAgg23 _) rfl)
     | 5, _, _ => exact fun w Y => OpV.g ((aB (sT := 23) (hzf.1 _ (Y.g 5 rfl)) rfl rfl (runUnderlying23 _)).asi (m' := (zl.length : Int)) (by rw [List.length_map]))
     | 6, _, _ => exact fun w Y => OpV.g (ae rfl)
     | 7, _, _ => exact fun w Y => aQ call23 rfl (bM (headB zo ((zl).take ((pickI (pickI n ((zl.length : Int) + 1)) ((zl.length : Int) + 1)).toNat))) (pickI n ((zl.length : Int) + 1)) (headB zo zl) (zl.length : Int) v1 (qs) _ (Y.ow 7 rfl) hzl (by first | assumption | (unfold i64; omega)) (Y.keepb hk0))
     | 8, _, _ => exact fun w Y => OpV.g (ae rfl)
     | 9, _, _ => exact fun w Y => OpV.g (ae rfl)
     | 10, _, _ => exact fun w Y => OpV.g (ae rfl)
     | 11, _, _ => exact fun w Y => OpV.g (ai (v := po w8.hz 1) rfl kr)
     | 12, _, _ => exact fun w Y => OpV.g (ld Y 4 rfl rfl (isAgg23 _) rfl)
     | 13, _, _ => exact fun w Y => OpV.g ((aB (sT := 23) (hzf.1 _ (Y.g 5 rfl)) rfl rfl (runUnderlying23 _)).asi (m' := (zl.length : Int)) (by rw [List.length_map]))
     | 14, _, _ => exact fun w Y => OpV.g (ae rfl)
     | i + 15, h, _ => exact absurd h om
    ·intro i hi
     exact absurd hi sm
    clear Z Y
    intro  a w121 Z Y
    replace Z : Fr 330 [(239, sv (headB zo ((zl).take ((pickI (pickI n ((zl.length : Int) + 1)) ((zl.length : Int) + 1)).toNat)))), (240, iv (pickI n ((zl.length : Int) + 1))), (241, sv (headB zo zl)), (242, po w8.hz 1), (243, zv), (244, iv (zl.length : Int)), (245, v1), (246, .bool (aJ sha (headB zo ((zl).take ((pickI (pickI n ((zl.length : Int) + 1)) ((zl.length : Int) + 1)).toNat))) (pickI n ((zl.length : Int) + 1)) (headB zo zl) (zl.length : Int) (qs))), (247, sv (headB zo ((zl).take ((pickI (pickI n ((zl.length : Int) + 1)) ((zl.length : Int) + 1)).toNat)))), (248, iv (pickI n ((zl.length : Int) + 1))), (249, sv (headB zo zl)), (250, po w8.hz 1), (251, zv), (252, iv (zl.length : Int)), (253, v1), (4, _), (5, _), (6, _), (19, _), (8, _), (7, _), (67, _), (68, _), (69, _), (22, _), (25, _), (164, _), (165, _), (166, _), (34, _), (43, _), (233, _), (234, _), (326, _), (235, _), (236, _), (237, _), (238, _), (46, _)] [] a := Z
    refine ab <| aK (k := 15) 18 [17] kr kr kr ?_
    refine am Z Y de call24 rfl (bN (headB zo ((zl).take ((pickI (pickI n ((zl.length : Int) + 1)) ((zl.length : Int) + 1)).toNat))) (pickI n ((zl.length : Int) + 1)) (headB zo zl) (zl.length : Int) v1 (qs) _ (Y.ow 7 rfl) (by first | assumption | (unfold i64; omega))) ?_
    clear Z Y
    intro a w122 Z Y
    refine wlv Z ((bd rfl rfl underlying4).asb (b' := false) sm) fun a Z => wlm Z rfl fun a Z => ab <| aP (k := 18) 29 [23, 24, 25, 26, 27, 28] Z kr kr kr rfx ?_
    replace Z := Z.p42 4 5 6 19 8 7 67 68 69 22 25 164 165 166 34 43 233 234 326 235 236 237 238 46 239 240 241 242 243 244 245 246 247 248 249 250 251 252 253 254 255 256 rfl
    refine az [] (fun i => match i with | _ => fun _ _ => False) 11 [[], [], [], [], [], [0, 1, 2, 3, 4], [], [], [], [], []] [sv tx, iv at_, sv (headB zo zl), iv n, v1, .bool (aJ sha tx at_ (headB zo zl) n (qs)), sv tx, iv at_, sv (headB zo zl), iv n, v1] Z Y kr kr kr ?_ ?_ ?_
    ·intro i hi hiq
     match i, hi, hiq with
     | 0, _, _ => exact fun w Y => OpV.g (ae rfl)
     | 1, _, _ => exact fun w Y => OpV.g (ae rfl)
     | 2, _, _ => exact fun w Y => OpV.g (ae rfl)
     | 3, _, _ => exact fun w Y => OpV.g (ae rfl)
     | 4, _, _ => exact fun w Y => OpV.g (ae rfl)
     | 5, _, _ => exact fun w Y => aQ call23 rfl (bM tx at_ (headB zo zl) n v1 (qs) _ (Y.ow 7 rfl) hzl (by first | assumption | (unfold i64; omega)) (Y.keepb hk0))
     | 6, _, _ => exact fun w Y => OpV.g (ae rfl)
     | 7, _, _ => exact fun w Y => OpV.g (ae rfl)
     | 8, _, _ => exact fun w Y => OpV.g (ae rfl)
     | 9, _, _ => exact fun w Y => OpV.g (ae rfl)
     | 10, _, _ => exact fun w Y => OpV.g (ae rfl)
    ·intro i hi
     exact absurd hi sm
    clear Z Y
    intro  a w123 Z Y
    replace Z : Fr 330 [(257, sv tx), (258, iv at_), (259, sv (headB zo zl)), (260, iv n), (261, v1), (262, .bool (aJ sha tx at_ (headB zo zl) n (qs))), (263, sv tx), (264, iv at_), (265, sv (headB zo zl)), (266, iv n), (267, v1), (4, _), (5, _), (6, _), (19, _), (8, _), (7, _), (67, _), (68, _), (69, _), (22, _), (25, _), (164, _), (165, _), (166, _), (34, _), (43, _), (233, _), (234, _), (326, _), (235, _), (236, _), (237, _), (238, _), (46, _), (239, _), (240, _), (241, _), (242, _), (243, _), (244, _), (245, _), (246, _), (247, _), (248, _), (249, _), (250, _), (251, _), (252, _), (253, _), (254, _), (255, _), (256, _)] [] a := Z
    refine ab <| aK (k := 29) 32 [31] kr kr kr ?_
    refine aO Z Y de rfl de rfl call24 rfl (bN tx at_ (headB zo zl) n v1 (qs) _ (Y.ow 7 rfl) (by first | assumption | (unfold i64; omega))) ?_
    clear Z Y
    intro a w124 Z Y
    refine wly Z ((bd rfl rfl underlying4).asb (b' := false) sm) fun a Z => wlv Z (au rfl rfl) fun a Z => ab <| aW kr ?_
    refine hK121 _ _ ?_
    replace Z := Z.p21 4 5 6 19 8 7 67 68 69 22 25 164 165 166 34 43 233 234 235 46 270 rfl
    refine aG Z rfl ?_
    refine ap <| hK120 _ _ <| aa fun K122 hK122 => wla Z rfl fun a Z => ab (hK122 _ _ <| aq ?_)
    refine aT (fun m a w => ∃ (mi : Nat), m = zl.length - mi ∧ (mi ≤ zl.length) ∧ Fr 330 [(4, iv n), (5, iv at_), (6, iv key), (19, .bool true), (8, v1), (7, sv tx), (67, (.slice (some ⟨b7, 0, none⟩) 3 3)), (68, iv 3), (69, iv (j : Int)), (22, pt w8.hz), (25, sv (headB zo zl)), (164, (.slice (some ⟨w35.hz, 0, none⟩) 2 2)), (165, iv 2), (166, iv 1), (34, iv (pickI n ((zl.length : Int) + 1))), (43, sv (headB zo ((zl).take ((pickI (pickI n ((zl.length : Int) + 1)) ((zl.length : Int) + 1)).toNat)))), (233, (.slice (some ⟨w94.hz, 0, none⟩) 3 3)), (234, iv 3), (235, iv 2), (46, v1), (47, iv (mi : Int))] [] a ∧ St No w0 [own (.slice (some ⟨w94.hz, 0, none⟩) 3 3) 26 1 ([[v22], [v26], [v1]]), own v26 9 1 ((grownL zo zl (pickI n ((zl.length : Int) + 1))).map fun s => [sv s]), own v22 9 1 ((proveL zo zl (pickI n ((zl.length : Int) + 1))).map fun s => [sv s]), own (.slice (some ⟨w35.hz, 0, none⟩) 2 2) 3 1 ([[iv n], [iv (pickI n ((zl.length : Int) + 1))]]), blk w8.hz [iv zo, zv] 25, join [own lv3 48 5 ((l).map Rec.cells), own lv5 48 5 ((lbt).map Rec.cells), own lv6 48 5 ((lu).map Rec.cells)], own (.slice (some ⟨b7, 0, none⟩) 3 3) 25 2 ((zs).map fun z : Int × Value × List Rec => [iv z.1, z.2.1]), own v1 9 1 (qs.map fun s => [sv s])] w) _ ⟨0, rfl, Nat.zero_le _, Z.pick [4, 5, 6, 19, 8, 7, 67, 68, 69, 22, 25, 164, 165, 166, 34, 43, 233, 234, 235, 46, 47], Y.select [0, 1, 2, 3, 4, 5, 6, 7] de⟩ ?_
    rintro _ a w125 ⟨mi, rfl, hmi, Z, Y⟩
    refine ah fun K123 hK123 => aa fun K124 hK124 => wlm Z rfl fun a Z => wlv Z (ai (v := po w8.hz 1) rfl kr) fun a Z => wlv Z (ld Y 4 rfl rfl (isAgg23 _) rfl) fun a Z => wlv Z ((aB (sT := 23) (hzf.1 _ (Y.g 5 rfl)) rfl rfl (runUnderlying23 _)).asi (m' := (zl.length : Int)) (by rw [List.length_map])) fun a Z => wlv Z (v_lt rfl rfl) fun a Z => ab (hK124 _ _ ?_)
    refine ax Z rfl (fun hc30 => ?_) (fun hc30 => ?_)
    ·rw [hc30] at Z
     try simp only [qz] at hc30
     have hix : mi < zl.length := by omega
     refine ap <| hK123 _ _ <| ah fun K125 hK125 => aq <| ah fun K126 hK126 => aH kr (aI kr fun w126 hxz => ?_)
     replace Y := Y.grow hxz
     refine aP (k := 0) 23 [11, 12, 15, 16, 21, 22] Z kr kr kr rfx ?_
     replace Z := Z.p26 4 5 6 19 8 7 67 68 69 22 25 164 165 166 34 43 233 234 235 46 47 271 272 273 274 275 rfl
     refine az [] (fun i => match i with | _ => fun _ _ => False) 23 [[], [], [1], [2], [], [], [5], [], [6, 7], [8], [], [0, 3, 4, 9, 10], [], [], [13], [14], [], [], [17], [], [18, 19], [20], []] [sv (headB zo zl), po w8.hz 1, zv, iv (zl.length : Int), iv (pickI n ((zl.length : Int) + 1)), po w8.hz 1, zv, iv (mi : Int), slAddr zv (mi * 5), .agg #[iv ((zl.getD mi Rec.z).t), iv ((zl.getD mi Rec.z).kind), iv ((zl.getD mi Rec.z).a), iv ((zl.getD mi Rec.z).b), sv ((zl.getD mi Rec.z).text)], v1, .bool (checkB (headB zo zl) (zl.length : Int) (pickI n ((zl.length : Int) + 1)) (zl.getD mi Rec.z) (qs)), sv (headB zo zl), po w8.hz 1, zv, iv (zl.length : Int), iv (pickI n ((zl.length : Int) + 1)), po w8.hz 1, zv, iv (mi : Int), slAddr zv (mi * 5), .agg #[iv ((zl.getD mi Rec.z).t), iv ((zl.getD mi Rec.z).kind), iv ((zl.getD mi Rec.z).a), iv ((zl.getD mi Rec.z).b), sv ((zl.getD mi Rec.z).text)], v1] Z Y kr kr kr ?_ ?_ ?_
     ·intro i hi hiq
      match i, hi, hiq with
      | 0, _, _ => exact fun w Y => OpV.g (ae rfl)
      | 1, _, _ => exact fun w Y => OpV.g (ai (v := po w8.hz 1) rfl kr)
      | 2, _, _ => exact fun w Y => OpV.g (ld Y 4 rfl rfl (isAgg23 _) rfl)
      | 3, _, _ => exact fun w Y => OpV.g ((aB (sT := 23) (hzf.1 _ (Y.g 5 rfl)) rfl rfl (runUnderlying23 _)).asi (m' := (zl.length : Int)) (by rw [List.length_map]))
      | 4, _, _ => exact fun w Y => OpV.g (ae rfl)
      | 5, _, _ => exact fun w Y => OpV.g (ai (v := po w8.hz 1) rfl kr)
      | 6, _, _ => exact fun w Y => OpV.g (ld Y 4 rfl rfl (isAgg23 _) rfl)
      | 7, _, _ => exact fun w Y => OpV.g (ae rfl)
      | 8, _, _ => exact fun w Y => OpV.g ((aj (i := (mi : Int)) (sT := 23) (hzf.1 _ (Y.g 5 rfl)) rfl rfl (runUnderlying23 _) (sizeOf48 _) om (by rw [List.length_map]; omega)).as (v' := slAddr zv (mi * 5)) rfl)
      | 9, _, _ => exact fun w Y => OpV.g ((aU (hzf.1 _ (Y.g 5 rfl)) (i := mi) (by rw [List.length_map]; omega) rfl (isAgg48 _) (sizeOf48 _)).as (v' := .agg #[iv ((zl.getD mi Rec.z).t), iv ((zl.getD mi Rec.z).kind), iv ((zl.getD mi Rec.z).a), iv ((zl.getD mi Rec.z).b), sv ((zl.getD mi Rec.z).text)]) (by rw [bl Rec.z]; rfl))
      | 10, _, _ => exact fun w Y => OpV.g (ae rfl)
      | 11, _, _ => exact fun w Y => aQ call25 rfl (bW (headB zo zl) (zl.length : Int) (pickI n ((zl.length : Int) + 1)) (zl.getD mi Rec.z) v1 (qs) _ (Y.ow 7 rfl) hzl (by first | assumption | (unfold i64; omega)) (Y.keepb hk0))
      | 12, _, _ => exact fun w Y => OpV.g (ae rfl)
      | 13, _, _ => exact fun w Y => OpV.g (ai (v := po w8.hz 1) rfl kr)
      | 14, _, _ => exact fun w Y => OpV.g (ld Y 4 rfl rfl (isAgg23 _) rfl)
      | 15, _, _ => exact fun w Y => OpV.g ((aB (sT := 23) (hzf.1 _ (Y.g 5 rfl)) rfl rfl (runUnderlying23 _)).asi (m' := (zl.length : Int)) (by rw [List.length_map]))
      | 16, _, _ => exact fun w Y => OpV.g (ae rfl)
      | 17, _, _ => exact fun w Y => OpV.g (ai (v := po w8.hz 1) rfl kr)
      | 18, _, _ => exact fun w Y => OpV.g (ld Y 4 rfl rfl (isAgg23 _) rfl)
      | 19, _, _ => exact fun w Y => OpV.g (ae rfl)
      | 20, _, _ => exact fun w Y => OpV.g ((aj (i := (mi : Int)) (sT := 23) (hzf.1 _ (Y.g 5 rfl)) rfl rfl (runUnderlying23 _) (sizeOf48 _) om (by rw [List.length_map]; omega)).as (v' := slAddr zv (mi * 5)) rfl)
      | 21, _, _ => exact fun w Y => OpV.g ((aU (hzf.1 _ (Y.g 5 rfl)) (i := mi) (by rw [List.length_map]; omega) rfl (isAgg48 _) (sizeOf48 _)).as (v' := .agg #[iv ((zl.getD mi Rec.z).t), iv ((zl.getD mi Rec.z).kind), iv ((zl.getD mi Rec.z).a), iv ((zl.getD mi Rec.z).b), sv ((zl.getD mi Rec.z).text)]) (by rw [bl Rec.z]; rfl))
      | 22, _, _ => exact fun w Y => OpV.g (ae rfl)
      | i + 23, h, _ => exact absurd h om
     ·intro i hi
      exact absurd hi sm
     clear Z Y
     intro  a w127 Z Y
     replace Z : Fr 330 [(278, sv (headB zo zl)), (279, po w8.hz 1), (280, zv), (281, iv (zl.length : Int)), (282, iv (pickI n ((zl.length : Int) + 1))), (283, po w8.hz 1), (284, zv), (285, iv (mi : Int)), (286, slAddr zv (mi * 5)), (287, .agg #[iv ((zl.getD mi Rec.z).t), iv ((zl.getD mi Rec.z).kind), iv ((zl.getD mi Rec.z).a), iv ((zl.getD mi Rec.z).b), sv ((zl.getD mi Rec.z).text)]), (288, v1), (289, .bool (checkB (headB zo zl) (zl.length : Int) (pickI n ((zl.length : Int) + 1)) (zl.getD mi Rec.z) (qs))), (290, sv (headB zo zl)), (291, po w8.hz 1), (292, zv), (293, iv (zl.length : Int)), (294, iv (pickI n ((zl.length : Int) + 1))), (295, po w8.hz 1), (296, zv), (297, iv (mi : Int)), (298, slAddr zv (mi * 5)), (299, .agg #[iv ((zl.getD mi Rec.z).t), iv ((zl.getD mi Rec.z).kind), iv ((zl.getD mi Rec.z).a), iv ((zl.getD mi Rec.z).b), sv ((zl.getD mi Rec.z).text)]), (300, v1), (4, _), (5, _), (6, _), (19, _), (8, _), (7, _), (67, _), (68, _), (69, _), (22, _), (25, _), (164, _), (165, _), (166, _), (34, _), (43, _), (233, _), (234, _), (235, _), (46, _), (47, _), (271, _), (272, _), (273, _), (274, _), (275, _)] [] a := Z
     refine ab <| aK (k := 23) 26 [25] kr kr kr ?_
     refine am Z Y de call26 rfl (bV (headB zo zl) (zl.length : Int) (pickI n ((zl.length : Int) + 1)) (zl.getD mi Rec.z) v1 (qs) _ (Y.ow 7 rfl) (by first | assumption | (unfold i64; omega))) ?_
     clear Z Y
     intro a w128 Z Y
     refine wlv Z ((bd rfl rfl underlying4).asb (b' := false) sm) fun a Z => wlm Z rfl fun a Z => ab <| aP (k := 26) 45 [35, 36, 37, 38, 43, 44] Z kr kr kr rfx ?_
     replace Z := Z.p52 4 5 6 19 8 7 67 68 69 22 25 164 165 166 34 43 233 234 235 46 47 271 272 273 274 275 278 279 280 281 282 283 284 285 286 287 288 289 290 291 292 293 294 295 296 297 298 299 300 301 302 303 rfl
     refine az [] (fun i => match i with | _ => fun _ _ => False) 19 [[], [], [], [], [3], [], [4, 5], [6], [], [0, 1, 2, 7, 8], [], [], [], [], [13], [], [14, 15], [16], []] [sv tx, iv n, iv at_, po w8.hz 1, zv, iv (mi : Int), slAddr zv (mi * 5), .agg #[iv ((zl.getD mi Rec.z).t), iv ((zl.getD mi Rec.z).kind), iv ((zl.getD mi Rec.z).a), iv ((zl.getD mi Rec.z).b), sv ((zl.getD mi Rec.z).text)], v1, .bool (checkB tx n at_ (zl.getD mi Rec.z) (qs)), sv tx, iv n, iv at_, po w8.hz 1, zv, iv (mi : Int), slAddr zv (mi * 5), .agg #[iv ((zl.getD mi Rec.z).t), iv ((zl.getD mi Rec.z).kind), iv ((zl.getD mi Rec.z).a), iv ((zl.getD mi Rec.z).b), sv ((zl.getD mi Rec.z).text)], v1] Z Y kr kr kr ?_ ?_ ?_
     ·intro i hi hiq
      match i, hi, hiq with
      | 0, _, _ => exact fun w Y => OpV.g (ae rfl)
      | 1, _, _ => exact fun w Y => OpV.g (ae rfl)
      | 2, _, _ => exact fun w Y => OpV.g (ae rfl)
      | 3, _, _ => exact fun w Y => OpV.g (ai (v := po w8.hz 1) rfl kr)
      | 4, _, _ => exact fun w Y => OpV.g (ld Y 4 rfl rfl (isAgg23 _) rfl)
      | 5, _, _ => exact fun w Y => OpV.g (ae rfl)
      | 6, _, _ => exact fun w Y => OpV.g ((aj (i := (mi : Int)) (sT := 23) (hzf.1 _ (Y.g 5 rfl)) rfl rfl (runUnderlying23 _) (sizeOf48 _) om (by rw [List.length_map]; omega)).as (v' := slAddr zv (mi * 5)) rfl)
      | 7, _, _ => exact fun w Y => OpV.g ((aU (hzf.1 _ (Y.g 5 rfl)) (i := mi) (by rw [List.length_map]; omega) rfl (isAgg48 _) (sizeOf48 _)).as (v' := .agg #[iv ((zl.getD mi Rec.z).t), iv ((zl.getD mi Rec.z).kind), iv ((zl.getD mi Rec.z).a), iv ((zl.getD mi Rec.z).b), sv ((zl.getD mi Rec.z).text)]) (by rw [bl Rec.z]; rfl))
      | 8, _, _ => exact fun w Y => OpV.g (ae rfl)
      | 9, _, _ => exact fun w Y => aQ call25 rfl (bW tx n at_ (zl.getD mi Rec.z) v1 (qs) _ (Y.ow 7 rfl) hzl (by first | assumption | (unfold i64; omega)) (Y.keepb hk0))
      | 10, _, _ => exact fun w Y => OpV.g (ae rfl)
      | 11, _, _ => exact fun w Y => OpV.g (ae rfl)
      | 12, _, _ => exact fun w Y => OpV.g (ae rfl)
      | 13, _, _ => exact fun w Y => OpV.g (ai (v := po w8.hz 1) rfl kr)
      | 14, _, _ => exact fun w Y => OpV.g (ld Y 4 rfl rfl (isAgg23 _) rfl)
      | 15, _, _ => exact fun w Y => OpV.g (ae rfl)
      | 16, _, _ => exact fun w Y => OpV.g ((aj (i := (mi : Int)) (sT := 23) (hzf.1 _ (Y.g 5 rfl)) rfl rfl (runUnderlying23 _) (sizeOf48 _) om (by rw [List.length_map]; omega)).as (v' := slAddr zv (mi * 5)) rfl)
      | 17, _, _ => exact fun w Y => OpV.g ((aU (hzf.1 _ (Y.g 5 rfl)) (i := mi) (by rw [List.length_map]; omega) rfl (isAgg48 _) (sizeOf48 _)).as (v' := .agg #[iv ((zl.getD mi Rec.z).t), iv ((zl.getD mi Rec.z).kind), iv ((zl.getD mi Rec.z).a), iv ((zl.getD mi Rec.z).b), sv ((zl.getD mi Rec.z).text)]) (by rw [bl Rec.z]; rfl))
      | 18, _, _ => exact fun w Y => OpV.g (ae rfl)
      | i + 19, h, _ => exact absurd h om
     ·intro i hi
      exact absurd hi sm
     clear Z Y
     intro  a w129 Z Y
     replace Z : Fr 330 [(304, sv tx), (305, iv n), (306, iv at_), (307, po w8.hz 1), (308, zv), (309, iv (mi : Int)), (310, slAddr zv (mi * 5)), (311, .agg #[iv ((zl.getD mi Rec.z).t), iv ((zl.getD mi Rec.z).kind), iv ((zl.getD mi Rec.z).a), iv ((zl.getD mi Rec.z).b), sv ((zl.getD mi Rec.z).text)]), (312, v1), (313, .bool (checkB tx n at_ (zl.getD mi Rec.z) (qs))), (314, sv tx), (315, iv n), (316, iv at_), (317, po w8.hz 1), (318, zv), (319, iv (mi : Int)), (320, slAddr zv (mi * 5)), (321, .agg #[iv ((zl.getD mi Rec.z).t), iv ((zl.getD mi Rec.z).kind), iv ((zl.getD mi Rec.z).a), iv ((zl.getD mi Rec.z).b), sv ((zl.getD mi Rec.z).text)]), (322, v1), (4, _), (5, _), (6, _), (19, _), (8, _), (7, _), (67, _), (68, _), (69, _), (22, _), (25, _), (164, _), (165, _), (166, _), (34, _), (43, _), (233, _), (234, _), (235, _), (46, _), (47, _), (271, _), (272, _), (273, _), (274, _), (275, _), (278, _), (279, _), (280, _), (281, _), (282, _), (283, _), (284, _), (285, _), (286, _), (287, _), (288, _), (289, _), (290, _), (291, _), (292, _), (293, _), (294, _), (295, _), (296, _), (297, _), (298, _), (299, _), (300, _), (301, _), (302, _), (303, _)] [] a := Z
     refine ab <| aK (k := 45) 48 [47] kr kr kr ?_
     refine aO Z Y de rfl de rfl call26 rfl (bV tx n at_ (zl.getD mi Rec.z) v1 (qs) _ (Y.ow 7 rfl) (by first | assumption | (unfold i64; omega))) ?_
     clear Z Y
     intro a w130 Z Y
     refine wly Z ((bd rfl rfl underlying4).asb (b' := false) sm) fun a Z => wlv Z (au rfl rfl) fun a Z => ab <| aW kr ?_
     refine hK126 _ _ ?_
     replace Z := Z.p22 4 5 6 19 8 7 67 68 69 22 25 164 165 166 34 43 233 234 235 46 47 325 rfl
     refine aG Z rfl ?_
     refine ap <| hK125 _ _ <| ar <| wlm Z rfl fun a Z => wlv Z (aV rfl rfl ⟨om, om⟩) fun a Z => wla Z rfl fun a Z => ab ?_
     refine ⟨_, ?_, mi + 1, rfl, om, Z.pick [4, 5, 6, 19, 8, 7, 67, 68, 69, 22, 25, 164, 165, 166, 34, 43, 233, 234, 235, 46, 47], Y.select [0, 1, 2, 3, 4, 5, 6, 7] de⟩
     omega
    rw [hc30] at Z
    try simp only [qz] at hc30
    refine aM ?_
    exact ⟨Z.pick [4, 5, 6, 19, 8, 7, 67, 68, 69, 22, 25, 164, 165, 166, 34, 43, 233, 234, 235], Y.select [0, 1, 2, 3, 4, 5, 6, 7] de⟩
   rintro a w131 ⟨Z, Y⟩
   refine hK118 _ _ <| ar <| wlv Z ((aV rfl rfl de).asi (m' := 3) rfl) fun a Z => wlm Z rfl fun a Z => ab <| bF ?_
   refine aa fun K127 hK127 => wlv Z ((v_lt rfl rfl).asb (b' := false) rfl) fun a Z => ab (hK127 _ _ <| ah fun K128 hK128 => ?_)
   refine aG Z rfl ?_
   refine aM ?_
   exact ⟨Z.pick [4, 5, 6, 19, 8, 7, 67, 68, 69, 22, 25, 164, 165, 166], Y.select [3, 4, 5, 6, 7] de⟩
  rintro a w132 ⟨Z, Y⟩
  refine hK84 _ _ <| ar <| wlv Z ((aV rfl rfl de).asi (m' := 2) rfl) fun a Z => wlm Z rfl fun a Z => ab <| bF ?_
  refine aa fun K129 hK129 => wlv Z ((v_lt rfl rfl).asb (b' := false) rfl) fun a Z => ab (hK129 _ _ <| ah fun K130 hK130 => ?_)
  refine aG Z rfl ?_
  refine aM <| hK10 _ _ <| ar <| wlv Z (aV rfl rfl ⟨om, om⟩) fun a Z => wlm Z rfl fun a Z => ab ?_
  refine ⟨_, ?_, j + 1, rfl, om, Z.pick [4, 5, 6, 19, 8, 7, 67, 68, 69], Y.select [2, 3, 4] de⟩
  omega
 rw [hc8] at Z
 try simp only [qz] at hc8
 refine aM <| hK6 _ _ <| aa fun K131 hK131 => wlm Z rfl fun a Z => wla Z rfl fun a Z => ab (hK131 _ _ ?_)
 replace Z := Z.p1 18 rfl
 replace Y := Y.k1 1 rfl
 refine ao ?_
 refine al Z results3 (ac rfl ag) ?_
 exact ⟨by rfl, Y.ext⟩
end Go.Proofs.YtddfkkdanpmnaaaGreatDoor
