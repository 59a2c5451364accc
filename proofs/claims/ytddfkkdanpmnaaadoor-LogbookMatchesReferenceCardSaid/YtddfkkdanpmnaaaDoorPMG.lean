/- Texts joined: LawM. -/
import Derived.Test.YtddfkkdanpmnaaaDoorPMF
import Derived.Test.YtddfkkdanpmnaaaDoorPMB
import Derived.Test.YtddfkkdanpmnaaaDoorPMA
set_option linter.unusedVariables false
set_option linter.unusedSimpArgs false
set_option maxRecDepth 4000
set_option maxHeartbeats 4000000
namespace Go.Proofs.YtddfkkdanpmnaaaDoor
open Go.RowKit Go.PW _root_.Go.Proofs.Tryd
theorem pa {o how n at_ ob : Int} {lv : Value} {l lbt : List Rec} {w0 : World} (hbo : bentO o how n = ob) (hbl : bentL l how n at_ = lbt) (hlv : SlAt w0 lv 5 (l.map Rec.cells)) (hll : l.length ≤ 1000) (hh : i64 how) (hn : i64 n) (ha : i64 at_) : Ret Tryd.prog 11 #[.agg #[iv o, lv], iv how, iv n, iv at_] w0 (MemR w0 (fun v : Value => .agg #[iv ob, v]) (fun v => [own v 27 5 (lbt.map Rec.cells)]) (fun _ => True)) := by
 subst hbo; subst hbl; exact mU o lv l how n at_ w0 hlv hll hh hn ha
theorem cut_x {o : Int} {lv : Value} {l lbt : List Rec} {w0 : World} (hc : cutR l = lbt) (hlv : SlAt w0 lv 5 (l.map Rec.cells)) : Ret Tryd.prog 12 #[.agg #[iv o, lv]] w0 (MemR w0 (fun v : Value => .agg #[iv o, v]) (fun v => [own v 27 5 (lbt.map Rec.cells)]) (fun _ => True)) := by
 subst hc; exact pp o lv l w0 hlv
theorem iO (owner : Int) (xv : Value) (ys : List Rin) (ro : Int) (rv : Value) (rl : List Rec) (odd : Rec) (how n at_ : Int) (text : By) (kind : Int) (w0 : World) (hxv : SlAt w0 xv 5 (ys.map Rin.cells)) (hys : ∀ y ∈ ys, y.wt) (hown : i64 owner) (h_how : i64 how) (h_n : i64 n) (h_at_ : i64 at_) (h_kind : i64 kind) (hrv : SlAt w0 rv 5 (rl.map Rec.cells)) (hodl : odd.text.length ≤ 140737488355328) (htl : text.length ≤ 140737488355328) (hk0 : (blk 0 (kOf.map wv) 161).ok w0) :
  Ret Tryd.prog 3 #[iv owner, xv, .agg #[iv ro, rv], .agg #[iv odd.t, iv odd.kind, iv odd.a, iv odd.b, sv odd.text], iv how, iv n, iv at_, sv text, iv kind] w0 fun v w => v = .bool true ∧ Ext No w0 w := by
 obtain ⟨o, ho⟩ : ∃ o, pickI owner 100 = o := ⟨_, rfl⟩
 obtain ⟨l, hl⟩ : ∃ l, madeR ys = l := ⟨_, rfl⟩
 have hlo : logOk o l = true := by rw [← ho, ← hl]; exact mg _ _
 have hll : l.length ≤ 12 := by rw [← hl, g7]; omega
 have hob := hP hlo
 have hmt : ∀ x ∈ l, x.t ≤ 360 := by rw [← hl]; exact n5 _
 have hwna := hown.1
 have hwnb := hown.2
 have h_how1 := h_how.1
 have h_how2 := h_how.2
 have h_n1 := h_n.1
 have h_n2 := h_n.2
 have h_at_1 := h_at_.1
 have h_at_2 := h_at_.2
 have h_kind1 := h_kind.1
 have h_kind2 := h_kind.2
 obtain ⟨ob, hbo⟩ : ∃ z, bentO o how n = z := ⟨_, rfl⟩
 obtain ⟨lbt, hbl⟩ : ∃ z, bentL l how n at_ = z := ⟨_, rfl⟩
 have hlbl : lbt.length ≤ 13 := by have := lR l how n at_; rw [hbl] at this; omega
 obtain ⟨lu, hcu⟩ : ∃ z, cutR rl = z := ⟨_, rfl⟩
 have hlul : lu.length ≤ 3 := by rw [← hcu]; exact nm _
 have hpk := bw kind (n := 3) de
 have hpa := bw at_ (n := 300) de
 refine aI func3 rfl ntmps3 (lb rfl) fun a Y => ?_
 replace Y := Y.p9 0 1 2 3 4 5 6 7 8 rfl
 replace U : St No w0 [] w0 := St.init w0
 refine aa fun K1 hK1 => bh Y U de rfl (cs := [iv ro, rv]) rfl ?_
 clear Y U
 intro a w1 Y U
 refine bh Y U de rfl (cs := [iv odd.t, iv odd.kind, iv odd.a, iv odd.b, sv odd.text]) rfl ?_
 clear Y U
 intro a w2 Y U
 refine wla Y rfl fun a Y => ab (hK1 _ _ <| aa fun K2 hK2 => ?_)
 refine am Y U de call9 rfl (nM _ (U.keepb hk0)) ?_
 clear Y U
 intro a w3 Y U
 refine wla Y rfl fun a Y => ab (hK2 _ _ <| aa fun K3 hK3 => ?_)
 refine wlv Y (al (v := po w1.hz 4) rfl kr) fun a Y => wlv Y (ld U 0 rfl rfl (isAgg9 _) rfl) fun a Y => wlv Y (al (v := po w1.hz 4) rfl kr) fun a Y => wlv Y (ld U 0 rfl rfl (isAgg9 _) rfl) fun a Y => wlv Y (aW rfl rfl (runUnderlying9 _)) fun a Y => wlv Y (jd rfl rfl) fun a Y => wlv Y ((bS (xs := odd.text) (l := 0) (h := (min odd.text.length 201)) rfl rfl rfl underlying9 (.inl ⟨rfl, rfl⟩) (.inr (by rw [show (min (odd.text.length : Int) 201 : Int) = (((min odd.text.length 201) : Nat) : Int) from by omega] <;> rfl)) om (by first | omega | exact Nat.min_le_left _ _)).as (v' := sv (odd.text.take (min odd.text.length 201))) rfl) fun a Y => wlv Y (al (v := po w1.hz 4) rfl kr) fun a Y => ay 0 Y U rfl rfl rfl (sizeOf9 _) rfl (lb rfl) (ds := [iv odd.t, iv odd.kind, iv odd.a, iv odd.b, sv (odd.text.take (min odd.text.length 201))]) rfl rfl ?_
 clear Y U
 intro a w4 Y U
 refine ab (hK3 _ _ ?_)
 replace Y : Fr 284 [(0, _), (1, _), (4, _), (5, _), (6, _), (7, _), (8, _), (11, _), (12, _), (18, _), (19, _)] [] a := Y.pick [0, 1, 4, 5, 6, 7, 8, 11, 12, 18, 19]
 obtain ⟨od, hod⟩ : ∃ z : Rec, z = ⟨odd.t, odd.kind, odd.a, odd.b, odd.text.take (min odd.text.length 201)⟩ := ⟨_, rfl⟩
 replace U : St No w0 [blk w1.hz [iv od.t, iv od.kind, iv od.a, iv od.b, sv od.text] 27, blk w0.hz [iv ro, rv] 25] w4 := by rw [hod]; exact U
 refine aa fun K4 hK4 => wlm Y rfl fun a Y => wlm Y rfl fun a Y => wlv Y (aW rfl rfl (runUnderlying9 _)) fun a Y => wlv Y (jd rfl rfl) fun a Y => wlv Y ((bS (xs := text) (l := 0) (h := (min text.length 60)) rfl rfl rfl underlying9 (.inl ⟨rfl, rfl⟩) (.inr (by rw [show (min (text.length : Int) 60 : Int) = (((min text.length 60) : Nat) : Int) from by omega] <;> rfl)) om (by first | omega | exact Nat.min_le_left _ _)).as (v' := sv (text.take (min text.length 60))) rfl) fun a Y => wla Y rfl fun a Y => ab (hK4 _ _ ?_)
 obtain ⟨tx, htx⟩ : ∃ z : By, text.take (min text.length 60) = z := ⟨_, rfl⟩
 have htxl : tx.length ≤ 60 := by rw [← htx, List.length_take]; omega
 rw [htx] at Y
 refine aa fun K5 hK5 => wlm Y rfl fun a Y => wlm Y rfl fun a Y => aX Y U de call10 rfl (pd ho hl (U.arg hxv) hys hown) ?_
 clear Y U
 intro a w5 x2 hp Y U
 revert x2 hp Y U; rintro lv1 hp Y U
 clear hp
 replace U : St No w0 [_, _, _] w5 := U
 refine aC Y U de (zeroValue25 _) (cs := [iv 0, .slice none 0 0]) rfl ?_
 clear Y U
 intro a w6 Y U
 refine aJ (us := [iv o, lv1]) 0 Y U rfl rfl rfl (sizeOf25 _) (by intro z hz; simp only [List.mem_cons, List.not_mem_nil, or_false] at hz; rcases hz with rfl | rfl <;> first | rfl | exact SlAt.one (U.ow 1 rfl)) (lb rfl) (ds := [iv o, lv1]) rfl rfl ?_
 clear Y U
 intro a w7 Y U
 refine ab (hK5 _ _ ?_)
 replace Y := Y.p10 4 5 6 8 11 12 18 19 7 20 rfl
 refine ac fun K6 hK6 => ac fun K7 hK7 => aO kr ?_
 replace Y := Y.p10 4 5 6 8 11 12 18 19 7 20 rfl
 refine gq 8 [5, 7] (fun V v => own v 25 2 [[iv o, lv1], [iv ob, (scd (V 5))], [iv ro, (scd (V 7))]]) 11 [[], [], [], [], [], [1, 2, 3, 4], [], [6], [0, 5, 7], [8], []] (fun i => match i with | 0 => pv (.agg #[iv o, lv1]) | 1 => pv (.agg #[iv o, lv1]) | 2 => pv (iv how) | 3 => pv (iv n) | 4 => pv (iv at_) | 5 => pm (fun v : Value => .agg #[iv ob, v]) (fun v => [own v 27 5 (lbt.map Rec.cells)]) (fun _ => True) | 6 => pv (.agg #[iv ro, rv]) | 7 => pm (fun v : Value => .agg #[iv ro, v]) (fun v => [own v 27 5 (lu.map Rec.cells)]) (fun _ => True) | 8 => fun v E => (∃ b : Nat, v = .slice (some ⟨b, 0, none⟩) 3 3) ∧ E = [] | 9 => pv (iv 3) | 10 => pv (iv 0) | _ => fun _ _ => False) Y U kr kr kr de de ?_ (fun V V' v h => by simp only [h 5 de, h 7 de]) ?_ ?_ ?_
 ·intro i v E h
  match i, h with
  | 0, _ => exact by decide
  | 1, _ => exact by decide
  | 2, _ => exact by decide
  | 3, _ => exact by decide
  | 4, _ => exact by decide
  | 5, _ => exact by decide
  | 6, _ => exact by decide
  | 7, _ => exact by decide
  | 8, _ => exact by decide
  | 9, _ => exact by decide
  | 10, _ => exact by decide
  | i + 11, h => exact h.elim
 ·intro i hi h0 e
  match i, hi, h0 with
  | 0, _, _ => exact fun w U => OpV.g (aj (U.g 1 rfl) rfl (isAgg25 _) (sizeOf25 _))
  | 1, _, _ => exact fun w U => OpV.g (aj (U.g 1 rfl) rfl (isAgg25 _) (sizeOf25 _))
  | 2, _, _ => exact fun w U => OpV.g (ai rfl)
  | 3, _, _ => exact fun w U => OpV.g (ai rfl)
  | 4, _, _ => exact fun w U => OpV.g (ai rfl)
  | 5, _, _ =>
   rintro _ _ ⟨rfl, rfl⟩ _ _ ⟨rfl, rfl⟩ _ _ ⟨rfl, rfl⟩ _ _ ⟨rfl, rfl⟩
   intro w U
   exact kU call11 rfl (pa hbo hbl (U.ow 2 rfl) om h_how h_n h_at_)
  | 6, _, _ => exact fun w U => OpV.g (aj (U.g 4 rfl) rfl (isAgg25 _) (sizeOf25 _))
  | 7, _, _ =>
   rintro _ _ ⟨rfl, rfl⟩
   intro w U
   exact kU call12 rfl (cut_x hcu (U.arg hrv))
  | 8, _, h => exact absurd rfl h
  | 9, _, _ =>
   rintro _ _ ⟨⟨b5, rfl⟩, rfl⟩
   intro w U
   exact OpV.g (cE (v := iv 3) rfl kr)
  | 10, _, _ => exact fun w U => OpV.g (ai rfl)
 ·rintro _ _ ⟨rfl, rfl⟩ _ _ ⟨lv3, rfl, -, rfl⟩ _ _ ⟨lv4, rfl, -, rfl⟩
  intro w U
  have U : St No w0 (join [] :: [own lv3 27 5 ((lbt).map Rec.cells), own lv4 27 5 ((lu).map Rec.cells), blk w5.hz [iv o, lv1] 25, own lv1 27 5 ((l).map Rec.cells), blk w1.hz [iv od.t, iv od.kind, iv od.a, iv od.b, sv od.text] 27, blk w0.hz [iv ro, rv] 25]) w := U
  have U := St.unjoin [] _ U
  exact OpR.to_link (f := fun b : Nat => .slice (some ⟨b, 0, none⟩) 3 3) (e := fun v => own v 25 2 [[iv o, lv1], [iv ob, lv3], [iv ro, lv4]]) (aY (E := 25) (sz := 2) rfl [[iv o, lv1], [iv ob, lv3], [iv ro, lv4]] (fun _ => by obtain ⟨_, _, _, e0_⟩ := dQ (U.ow 3 rfl); obtain ⟨_, _, _, e1_⟩ := dQ (U.ow 0 rfl); obtain ⟨_, _, _, e2_⟩ := dQ (U.ow 1 rfl); rw [e0_, e1_, e2_]; kernel_rfl) sm rfl de) (fun b => ⟨⟨b, rfl⟩, rfl⟩)
 clear Y U
 rintro V _ _ ⟨⟨rfl, rfl⟩, -⟩ _ _ ⟨⟨rfl, rfl⟩, -⟩ _ _ ⟨⟨rfl, rfl⟩, -⟩ _ _ ⟨⟨rfl, rfl⟩, -⟩ _ _ ⟨⟨rfl, rfl⟩, -⟩ _ _ ⟨⟨lv3, rfl, -, rfl⟩, hv5⟩ _ _ ⟨⟨rfl, rfl⟩, -⟩ _ _ ⟨⟨lv4, rfl, -, rfl⟩, hv7⟩ _ _ ⟨⟨⟨b5, rfl⟩, rfl⟩, hv8⟩ _ _ ⟨⟨rfl, rfl⟩, -⟩ _ _ ⟨⟨rfl, rfl⟩, -⟩ a w8 Y U
 replace Y : Fr 284 [(70, _), (71, _), (72, _), (73, _), (74, _), (75, _), (76, _), (77, _), (78, _), (79, _), (80, _), (4, _), (5, _), (6, _), (8, _), (11, _), (12, _), (18, _), (19, _), (7, _), (20, _)] [] a := Y
 replace U : St No w0 [_, _, _, _, _, _, _] w8 := U
 rw [← hv8, ← hv5, ← hv7] at U
 replace U : St No w0 [_, _, _, _, _, _, _] w8 := U
 refine ab <| hK7 _ _ ?_
 replace Y : Fr 284 [(4, _), (5, _), (6, _), (8, _), (12, _), (18, _), (19, _), (7, _), (78, _), (79, _), (80, _)] [] a := Y.pick [4, 5, 6, 8, 12, 18, 19, 7, 78, 79, 80]
 replace U := U.k5 55 rfl
 refine ap <| cb 4 ?_
 refine ba ?_
 refine aa fun K8 hK8 => wlv Y ((v_lt rfl rfl).asb (b' := true) rfl) fun a Y => ab (hK8 _ _ <| ac fun K9 hK9 => ?_)
 refine aD Y rfl ?_
 refine aq <| hK9 _ _ <| ac fun K10 hK10 => ?_
 refine fN (fun a w => Fr 284 [(4, iv how), (5, iv n), (6, iv at_), (8, iv kind), (12, pq w1.hz), (19, .bool true), (7, sv tx), (78, (.slice (some ⟨b5, 0, none⟩) 3 3)), (79, iv 3), (80, iv 0)] [] a ∧ St No w0 [own lv3 27 5 ((lbt).map Rec.cells), own lv4 27 5 ((lu).map Rec.cells), own (.slice (some ⟨b5, 0, none⟩) 3 3) 25 2 ([[iv o, lv1], [iv ob, lv3], [iv ro, lv4]]), own lv1 27 5 ((l).map Rec.cells), blk w1.hz [iv od.t, iv od.kind, iv od.a, iv od.b, sv od.text] 27] w) ?_ ?_
 ·refine ap <| aa fun K11 hK11 => wlv Y ((ak (i := 0) (sT := 32) (U.ow 2 rfl) rfl rfl (runUnderlying32 _) (sizeOf25 _) om sm).as (v' := slAddr (.slice (some ⟨b5, 0, none⟩) 3 3) (0 * 2)) rfl) fun a Y => wlv Y ((bt (U.ow 2 rfl) (i := 0) sm rfl (isAgg25 _) (sizeOf25 _)).as (v' := .agg #[iv o, lv1]) rfx) fun a Y => aC Y U de (zeroValue25 _) (cs := [iv 0, .slice none 0 0]) rfl ?_
  clear Y U
  intro a w9 Y U
  refine aJ (us := [iv o, lv1]) 0 Y U rfl rfl rfl (sizeOf25 _) (by intro z hz; simp only [List.mem_cons, List.not_mem_nil, or_false] at hz; rcases hz with rfl | rfl <;> first | rfl | exact SlAt.one (U.ow 4 rfl)) (lb rfl) (ds := [iv o, lv1]) rfl rfl ?_
  clear Y U
  intro a w10 Y U
  refine ab (hK11 _ _ <| aa fun K12 hK12 => ?_)
  refine wlv Y (aj (U.g 0 rfl) rfl (isAgg25 _) (sizeOf25 _)) fun a Y => wlv Y (aj (U.g 5 rfl) rfl (isAgg27 _) (sizeOf27 _)) fun a Y => aX Y U de call13 rfl (dE o lv1 l od _ (U.ow 4 rfl) om) ?_
  clear Y U
  intro a w11 x7 hp Y U
  revert x7 hp Y U; rintro mv6 hp Y U
  clear hp
  replace U : St No w0 [_, _, _, _, _, _, _] w11 := U
  refine wlm Y rfl fun a Y => wlv Y (ag rfl rfl) fun a Y => wlv Y (ag rfl rfl) fun a Y => aC Y U de (zeroValue25 _) (cs := [iv 0, .slice none 0 0]) rfl ?_
  clear Y U
  intro a w12 Y U
  refine aJ (us := [iv (addO o l od), mv6]) 0 Y U rfl rfl rfl (sizeOf25 _) (by intro z hz; simp only [List.mem_cons, List.not_mem_nil, or_false] at hz; rcases hz with rfl | rfl <;> first | rfl | exact SlAt.one (U.ow 1 rfl)) (lb rfl) (ds := [iv (addO o l od), mv6]) rfl rfl ?_
  clear Y U
  intro a w13 Y U
  refine wla Y rfl fun a Y => ab (hK12 _ _ ?_)
  replace Y := Y.p14 4 5 6 8 12 18 19 7 78 79 80 22 23 24 rfl
  refine aa fun K13 hK13 => wlv Y (aj (U.g 2 rfl) rfl (isAgg25 _) (sizeOf25 _)) fun a Y => wlv Y (aj (U.g 7 rfl) rfl (isAgg27 _) (sizeOf27 _)) fun a Y => aX Y U de call14 rfl (dI o lv1 l od _ (U.ow 6 rfl) om) ?_
  clear Y U
  intro a w14 x9 hp Y U
  revert x9 hp Y U; rintro mv8 hp Y U
  clear hp
  replace U : St No w0 [_, _, _, _, _, _, _, _, _] w14 := U
  refine wlm Y rfl fun a Y => wlv Y (ag rfl rfl) fun a Y => wlv Y (ag rfl rfl) fun a Y => aC Y U de (zeroValue25 _) (cs := [iv 0, .slice none 0 0]) rfl ?_
  clear Y U
  intro a w15 Y U
  refine aJ (us := [iv (addO o l od), mv8]) 0 Y U rfl rfl rfl (sizeOf25 _) (by intro z hz; simp only [List.mem_cons, List.not_mem_nil, or_false] at hz; rcases hz with rfl | rfl <;> first | rfl | exact SlAt.one (U.ow 1 rfl)) (lb rfl) (ds := [iv (addO o l od), mv8]) rfl rfl ?_
  clear Y U
  intro a w16 Y U
  refine wla Y rfl fun a Y => ab (hK13 _ _ ?_)
  replace Y := Y.p16 4 5 6 8 12 18 19 7 78 79 80 22 23 24 25 26 rfl
  refine aa fun K14 hK14 => wlm Y rfl fun a Y => wlm Y rfl fun a Y => wlm Y rfl fun a Y => wlm Y rfl fun a Y => wlm Y rfl fun a Y => wlv Y (aZ (v := .agg #[iv kind, iv n, iv how, iv at_]) rfl kr) fun a Y => am Y U de call15 rfl (eh at_ kind n how at_ _ (by assumption) (by assumption) (by assumption) (by assumption) (by assumption)) ?_
  clear Y U
  intro a w17 Y U
  refine aC Y U de (zeroValue27 _) (cs := [iv 0, iv 0, iv 0, iv 0, .string (⟨#[]⟩)]) rfl ?_
  clear Y U
  intro a w18 Y U
  refine ay 0 Y U rfl rfl rfl (sizeOf27 _) rfl (lb rfl) (ds := [iv ((entR at_ kind n how at_).t), iv ((entR at_ kind n how at_).kind), iv ((entR at_ kind n how at_).a), iv ((entR at_ kind n how at_).b), sv ((entR at_ kind n how at_).text)]) rfl rfl ?_
  clear Y U
  intro a w19 Y U
  refine ab (hK14 _ _ ?_)
  replace Y := Y.p17 4 5 6 8 12 18 19 7 78 79 80 22 23 24 25 26 27 rfl
  refine aa fun K15 hK15 => wlv Y (aj (U.g 5 rfl) rfl (isAgg25 _) (sizeOf25 _)) fun a Y => wlv Y (aj (U.g 0 rfl) rfl (isAgg27 _) (sizeOf27 _)) fun a Y => aX Y U de call13 rfl (dE o lv1 l (entR at_ kind n how at_) _ (U.ow 9 rfl) om) ?_
  clear Y U
  intro a w20 x11 hp Y U
  revert x11 hp Y U; rintro mv10 hp Y U
  clear hp
  replace U : St No w0 [_, _, _, _, _, _, _, _, _, _, _, _] w20 := U
  refine wlm Y rfl fun a Y => wlv Y (ag rfl rfl) fun a Y => wlv Y (ag rfl rfl) fun a Y => aC Y U de (zeroValue25 _) (cs := [iv 0, .slice none 0 0]) rfl ?_
  clear Y U
  intro a w21 Y U
  refine aJ (us := [iv (addO o l (entR at_ kind n how at_)), mv10]) 0 Y U rfl rfl rfl (sizeOf25 _) (by intro z hz; simp only [List.mem_cons, List.not_mem_nil, or_false] at hz; rcases hz with rfl | rfl <;> first | rfl | exact SlAt.one (U.ow 1 rfl)) (lb rfl) (ds := [iv (addO o l (entR at_ kind n how at_)), mv10]) rfl rfl ?_
  clear Y U
  intro a w22 Y U
  refine wla Y rfl fun a Y => ab (hK15 _ _ ?_)
  replace Y := Y.p19 4 5 6 8 12 18 19 7 78 79 80 22 23 24 25 26 27 28 29 rfl
  refine aa fun K16 hK16 => wlv Y (aj (U.g 7 rfl) rfl (isAgg25 _) (sizeOf25 _)) fun a Y => wlv Y (aj (U.g 2 rfl) rfl (isAgg27 _) (sizeOf27 _)) fun a Y => aX Y U de call14 rfl (dI o lv1 l (entR at_ kind n how at_) _ (U.ow 11 rfl) om) ?_
  clear Y U
  intro a w23 x13 hp Y U
  revert x13 hp Y U; rintro mv12 hp Y U
  clear hp
  replace U : St No w0 [_, _, _, _, _, _, _, _, _, _, _, _, _, _] w23 := U
  refine wlm Y rfl fun a Y => wlv Y (ag rfl rfl) fun a Y => wlv Y (ag rfl rfl) fun a Y => aC Y U de (zeroValue25 _) (cs := [iv 0, .slice none 0 0]) rfl ?_
  clear Y U
  intro a w24 Y U
  refine aJ (us := [iv (addO o l (entR at_ kind n how at_)), mv12]) 0 Y U rfl rfl rfl (sizeOf25 _) (by intro z hz; simp only [List.mem_cons, List.not_mem_nil, or_false] at hz; rcases hz with rfl | rfl <;> first | rfl | exact SlAt.one (U.ow 1 rfl)) (lb rfl) (ds := [iv (addO o l (entR at_ kind n how at_)), mv12]) rfl rfl ?_
  clear Y U
  intro a w25 Y U
  refine wla Y rfl fun a Y => ab (hK16 _ _ ?_)
  replace Y := Y.p20 4 5 6 8 12 18 19 7 78 79 80 22 23 24 25 26 28 29 30 31 rfl
  replace U := U.k14 32751 rfl
  refine ac fun K17 hK17 => ac fun K18 hK18 => aO kr (aP kr fun w26 hxz => ?_)
  replace U := U.grow hxz
  refine aS (k := 0) 3 [1, 2] Y kr kr kr rfx ?_
  replace Y := Y.p20 4 5 6 8 12 18 19 7 78 79 80 22 23 24 25 26 28 29 30 31 rfl
  refine aA [] (fun i => match i with | _ => fun _ _ => False) 3 [[], [0], []] [.agg #[iv o, lv1], .bool (logOk o l), .agg #[iv o, lv1]] Y U kr kr kr ?_ ?_ ?_
  ·intro i hi hiq
   match i, hi, hiq with
   | 0, _, _ => exact fun w U => OpV.g (aj (U.g 8 rfl) rfl (isAgg25 _) (sizeOf25 _))
   | 1, _, _ => exact fun w U => aT call16 rfl (cX o lv1 l _ (U.ow 12 rfl))
   | 2, _, _ => exact fun w U => OpV.g (aj (U.g 8 rfl) rfl (isAgg25 _) (sizeOf25 _))
  ·intro i hi
   exact absurd hi sm
  clear Y U
  intro  a w27 Y U
  replace Y : Fr 284 [(115, .agg #[iv o, lv1]), (116, .bool (logOk o l)), (117, .agg #[iv o, lv1]), (4, _), (5, _), (6, _), (8, _), (12, _), (18, _), (19, _), (7, _), (78, _), (79, _), (80, _), (22, _), (23, _), (24, _), (25, _), (26, _), (28, _), (29, _), (30, _), (31, _)] [] a := Y
  refine ab <| aQ (k := 3) 6 [5] kr kr kr ?_
  refine am Y U de call17 rfl (dr o lv1 l _ (U.ow 12 rfl)) ?_
  clear Y U
  intro a w28 Y U
  refine wlv Y ((ft rfl rfl underlying4).asb (b' := false) sm) fun a Y => wlm Y rfl fun a Y => ab <| aS (k := 6) 8 [6, 7] Y kr kr kr rfx ?_
  replace Y : Fr 284 [(4, _), (5, _), (6, _), (8, _), (12, _), (18, _), (19, _), (7, _), (78, _), (79, _), (80, _), (22, _), (23, _), (24, _), (25, _), (26, _), (28, _), (29, _), (30, _), (31, _), (115, _), (116, _), (117, _), (118, _), (119, _), (120, _)] [] a := Y.pick [4, 5, 6, 8, 12, 18, 19, 7, 78, 79, 80, 22, 23, 24, 25, 26, 28, 29, 30, 31, 115, 116, 117, 118, 119, 120]
  refine aA [] (fun i => match i with | _ => fun _ _ => False) 2 [[], []] [iv (addE o l od), iv (addE o l od)] Y U kr kr kr ?_ ?_ ?_
  ·intro i hi hiq
   match i, hi, hiq with
   | 0, _, _ => exact fun w U => OpV.g (ai rfl)
   | 1, _, _ => exact fun w U => OpV.g (ai rfl)
  ·intro i hi
   exact absurd hi sm
  clear Y U
  intro  a w29 Y U
  replace Y : Fr 284 [(121, iv (addE o l od)), (122, iv (addE o l od)), (4, _), (5, _), (6, _), (8, _), (12, _), (18, _), (19, _), (7, _), (78, _), (79, _), (80, _), (22, _), (23, _), (24, _), (25, _), (26, _), (28, _), (29, _), (30, _), (31, _), (115, _), (116, _), (117, _), (118, _), (119, _), (120, _)] [] a := Y
  refine ab <| aQ (k := 8) 11 [10] kr kr kr ?_
  refine wly Y ((v_ne rfl rfl).asb (b' := false) sm) fun a Y => wlv Y (aw rfl rfl) fun a Y => wlm Y rfl fun a Y => ab <| aS (k := 11) 13 [11, 12] Y kr kr kr rfx ?_
  replace Y : Fr 284 [(4, _), (5, _), (6, _), (8, _), (12, _), (18, _), (19, _), (7, _), (78, _), (79, _), (80, _), (22, _), (23, _), (24, _), (25, _), (26, _), (28, _), (29, _), (30, _), (31, _), (115, _), (116, _), (117, _), (118, _), (119, _), (120, _), (121, _), (122, _), (123, _), (124, _), (125, _)] [] a := Y.pick [4, 5, 6, 8, 12, 18, 19, 7, 78, 79, 80, 22, 23, 24, 25, 26, 28, 29, 30, 31, 115, 116, 117, 118, 119, 120, 121, 122, 123, 124, 125]
  refine aA [] (fun i => match i with | _ => fun _ _ => False) 2 [[], []] [iv (addE o l (entR at_ kind n how at_)), iv (addE o l (entR at_ kind n how at_))] Y U kr kr kr ?_ ?_ ?_
  ·intro i hi hiq
   match i, hi, hiq with
   | 0, _, _ => exact fun w U => OpV.g (ai rfl)
   | 1, _, _ => exact fun w U => OpV.g (ai rfl)
  ·intro i hi
   exact absurd hi sm
  clear Y U
  intro  a w30 Y U
  replace Y : Fr 284 [(126, iv (addE o l (entR at_ kind n how at_))), (127, iv (addE o l (entR at_ kind n how at_))), (4, _), (5, _), (6, _), (8, _), (12, _), (18, _), (19, _), (7, _), (78, _), (79, _), (80, _), (22, _), (23, _), (24, _), (25, _), (26, _), (28, _), (29, _), (30, _), (31, _), (115, _), (116, _), (117, _), (118, _), (119, _), (120, _), (121, _), (122, _), (123, _), (124, _), (125, _)] [] a := Y
  refine ab <| aQ (k := 13) 16 [15] kr kr kr ?_
  refine wly Y ((v_ne rfl rfl).asb (b' := false) sm) fun a Y => wlv Y (aw rfl rfl) fun a Y => wlm Y rfl fun a Y => ab <| aS (k := 16) 18 [16, 17] Y kr kr kr rfx ?_
  replace Y : Fr 284 [(4, _), (5, _), (6, _), (8, _), (12, _), (18, _), (19, _), (7, _), (78, _), (79, _), (80, _), (22, _), (23, _), (24, _), (25, _), (26, _), (28, _), (29, _), (30, _), (31, _), (115, _), (116, _), (117, _), (118, _), (119, _), (120, _), (121, _), (122, _), (123, _), (124, _), (125, _), (126, _), (127, _), (128, _), (129, _), (130, _)] [] a := Y.pick [4, 5, 6, 8, 12, 18, 19, 7, 78, 79, 80, 22, 23, 24, 25, 26, 28, 29, 30, 31, 115, 116, 117, 118, 119, 120, 121, 122, 123, 124, 125, 126, 127, 128, 129, 130]
  refine aA [] (fun i => match i with | _ => fun _ _ => False) 2 [[], []] [.agg #[iv (addO o l od), mv6], .agg #[iv (addO o l od), mv8]] Y U kr kr kr ?_ ?_ ?_
  ·intro i hi hiq
   match i, hi, hiq with
   | 0, _, _ => exact fun w U => OpV.g (aj (U.g 6 rfl) rfl (isAgg25 _) (sizeOf25 _))
   | 1, _, _ => exact fun w U => OpV.g (aj (U.g 4 rfl) rfl (isAgg25 _) (sizeOf25 _))
  ·intro i hi
   exact absurd hi sm
  clear Y U
  intro  a w31 Y U
  replace Y : Fr 284 [(131, .agg #[iv (addO o l od), mv6]), (132, .agg #[iv (addO o l od), mv8]), (4, _), (5, _), (6, _), (8, _), (12, _), (18, _), (19, _), (7, _), (78, _), (79, _), (80, _), (22, _), (23, _), (24, _), (25, _), (26, _), (28, _), (29, _), (30, _), (31, _), (115, _), (116, _), (117, _), (118, _), (119, _), (120, _), (121, _), (122, _), (123, _), (124, _), (125, _), (126, _), (127, _), (128, _), (129, _), (130, _)] [] a := Y
  refine ab <| aQ (k := 18) 22 [21] kr kr kr ?_
  refine aR Y U de rfl de rfl call18 rfl (bJ (b := decide ((addO o l od) = (addO o l od)) && decide ((addL o l od) = (addL o l od))) (c := true) sm (dD (addO o l od) (addO o l od) mv6 mv8 (addL o l od) (addL o l od) _ (U.ow 7 rfl) (U.ow 5 rfl))) ?_
  clear Y U
  intro a w32 Y U
  refine wly Y ((bn rfl).asb (b' := false) rfl) fun a Y => wlv Y (aw rfl rfl) fun a Y => wlm Y rfl fun a Y => ab <| aS (k := 22) 24 [22, 23] Y kr kr kr rfx ?_
  replace Y : Fr 284 [(4, _), (5, _), (6, _), (8, _), (12, _), (18, _), (19, _), (7, _), (78, _), (79, _), (80, _), (22, _), (23, _), (24, _), (25, _), (26, _), (28, _), (29, _), (30, _), (31, _), (115, _), (116, _), (117, _), (118, _), (119, _), (120, _), (121, _), (122, _), (123, _), (124, _), (125, _), (126, _), (127, _), (128, _), (129, _), (130, _), (131, _), (132, _), (133, _), (134, _), (135, _), (136, _)] [] a := Y.pick [4, 5, 6, 8, 12, 18, 19, 7, 78, 79, 80, 22, 23, 24, 25, 26, 28, 29, 30, 31, 115, 116, 117, 118, 119, 120, 121, 122, 123, 124, 125, 126, 127, 128, 129, 130, 131, 132, 133, 134, 135, 136]
  refine aA [] (fun i => match i with | _ => fun _ _ => False) 2 [[], []] [.agg #[iv (addO o l (entR at_ kind n how at_)), mv10], .agg #[iv (addO o l (entR at_ kind n how at_)), mv12]] Y U kr kr kr ?_ ?_ ?_
  ·intro i hi hiq
   match i, hi, hiq with
   | 0, _, _ => exact fun w U => OpV.g (aj (U.g 2 rfl) rfl (isAgg25 _) (sizeOf25 _))
   | 1, _, _ => exact fun w U => OpV.g (aj (U.g 0 rfl) rfl (isAgg25 _) (sizeOf25 _))
  ·intro i hi
   exact absurd hi sm
  clear Y U
  intro  a w33 Y U
  replace Y : Fr 284 [(137, .agg #[iv (addO o l (entR at_ kind n how at_)), mv10]), (138, .agg #[iv (addO o l (entR at_ kind n how at_)), mv12]), (4, _), (5, _), (6, _), (8, _), (12, _), (18, _), (19, _), (7, _), (78, _), (79, _), (80, _), (22, _), (23, _), (24, _), (25, _), (26, _), (28, _), (29, _), (30, _), (31, _), (115, _), (116, _), (117, _), (118, _), (119, _), (120, _), (121, _), (122, _), (123, _), (124, _), (125, _), (126, _), (127, _), (128, _), (129, _), (130, _), (131, _), (132, _), (133, _), (134, _), (135, _), (136, _)] [] a := Y
  refine ab <| aQ (k := 24) 27 [26] kr kr kr ?_
  refine aR Y U de rfl de rfl call18 rfl (bJ (b := decide ((addO o l (entR at_ kind n how at_)) = (addO o l (entR at_ kind n how at_))) && decide ((addL o l (entR at_ kind n how at_)) = (addL o l (entR at_ kind n how at_)))) (c := true) sm (dD (addO o l (entR at_ kind n how at_)) (addO o l (entR at_ kind n how at_)) mv10 mv12 (addL o l (entR at_ kind n how at_)) (addL o l (entR at_ kind n how at_)) _ (U.ow 3 rfl) (U.ow 1 rfl))) ?_
  clear Y U
  intro a w34 Y U
  refine wly Y ((bn rfl).asb (b' := false) rfl) fun a Y => wlv Y (aw rfl rfl) fun a Y => ab <| bd kr ?_
  refine hK18 _ _ ?_
  replace Y := Y.p13 4 5 6 8 12 18 19 7 78 79 80 22 141 rfl
  replace U := U.k10 16298 rfl
  refine aE Y rfl ?_
  refine aq <| hK17 _ _ <| ac fun K19 hK19 => aa fun K20 hK20 => wlm Y rfl fun a Y => wlm Y rfl fun a Y => am Y U de call19 rfl (bK kind 3 _ (by first | assumption | (unfold i64 at *; omega) | omega) om) ?_
  clear Y U
  intro a w35 Y U
  refine wlv Y (aM rfl rfl ⟨om, om⟩) fun a Y => aG (E := 3) (sz := 1) rfl [[iv kind], [iv (1 + (pickI kind 3))]] kr sm rfl de de Y U ?_
  clear Y U
  intro a w36 Y U
  refine wlv Y ((aK (sT := 41) (U.ow 0 rfl) rfl rfl (runUnderlying41 _)).asi (m' := 2) rfx) fun a Y => wlm Y rfl fun a Y => ab (hK20 _ _ <| ap ?_)
  refine cb 3 ?_
  refine ba ?_
  refine aa fun K21 hK21 => wlv Y ((v_lt rfl rfl).asb (b' := true) rfl) fun a Y => ab (hK21 _ _ <| ac fun K22 hK22 => ?_)
  refine aD Y rfl ?_
  refine aq <| hK22 _ _ <| ac fun K23 hK23 => ap <| aa fun K24 hK24 => wlv Y ((ak (i := 0) (sT := 41) (U.ow 0 rfl) rfl rfl (runUnderlying41 _) (sizeOf3 _) om sm).as (v' := slAddr (.slice (some ⟨w35.hz, 0, none⟩) 2 2) (0 * 1)) rfl) fun a Y => wlv Y (ax (u := iv kind) (i := 0) (j := 0) (U.ow 0 rfl) sm rfl (isAgg3 _) rfx) fun a Y => wla Y rfl fun a Y => ab (hK24 _ _ ?_)
  replace Y := Y.p16 4 5 6 8 12 18 19 7 78 79 80 22 146 147 148 33 rfl
  replace U := U.k7 2017 rfl
  refine ac fun K25 hK25 => aO kr (aP kr fun w37 hxz => ?_)
  replace U := U.grow hxz
  refine aS (k := 0) 7 [3, 4, 5, 6] Y kr kr kr rfx ?_
  replace Y := Y.p16 4 5 6 8 12 18 19 7 78 79 80 22 146 147 148 33 rfl
  refine aA [] (fun i => match i with | _ => fun _ _ => False) 7 [[], [], [], [0, 1, 2], [], [], []] [.agg #[iv o, lv1], iv kind, iv at_, iv (findH o l kind at_), .agg #[iv o, lv1], iv kind, iv at_] Y U kr kr kr ?_ ?_ ?_
  ·intro i hi hiq
   match i, hi, hiq with
   | 0, _, _ => exact fun w U => OpV.g (aj (U.g 1 rfl) rfl (isAgg25 _) (sizeOf25 _))
   | 1, _, _ => exact fun w U => OpV.g (ai rfl)
   | 2, _, _ => exact fun w U => OpV.g (ai rfl)
   | 3, _, _ => exact fun w U => aT call20 rfl (bU o lv1 l kind at_ _ (U.ow 5 rfl))
   | 4, _, _ => exact fun w U => OpV.g (aj (U.g 1 rfl) rfl (isAgg25 _) (sizeOf25 _))
   | 5, _, _ => exact fun w U => OpV.g (ai rfl)
   | 6, _, _ => exact fun w U => OpV.g (ai rfl)
  ·intro i hi
   exact absurd hi sm
  clear Y U
  intro  a w38 Y U
  replace Y : Fr 284 [(152, .agg #[iv o, lv1]), (153, iv kind), (154, iv at_), (155, iv (findH o l kind at_)), (156, .agg #[iv o, lv1]), (157, iv kind), (158, iv at_), (4, _), (5, _), (6, _), (8, _), (12, _), (18, _), (19, _), (7, _), (78, _), (79, _), (80, _), (22, _), (146, _), (147, _), (148, _), (33, _)] [] a := Y
  refine ab <| aQ (k := 7) 10 [9] kr kr kr ?_
  refine am Y U de call21 rfl (bZ o lv1 l kind at_ _ (U.ow 5 rfl)) ?_
  clear Y U
  intro a w39 Y U
  refine wlv Y ((v_ne rfl rfl).asb (b' := false) sm) fun a Y => wlm Y rfl fun a Y => ab <| aS (k := 10) 19 [15, 16, 18] Y kr kr kr rfx ?_
  replace Y : Fr 284 [(4, _), (5, _), (6, _), (8, _), (12, _), (18, _), (19, _), (7, _), (78, _), (79, _), (80, _), (22, _), (146, _), (147, _), (148, _), (33, _), (152, _), (153, _), (154, _), (155, _), (156, _), (157, _), (158, _), (159, _), (160, _), (161, _)] [] a := Y.pick [4, 5, 6, 8, 12, 18, 19, 7, 78, 79, 80, 22, 146, 147, 148, 33, 152, 153, 154, 155, 156, 157, 158, 159, 160, 161]
  refine aA [] (fun i => match i with | _ => fun _ _ => False) 9 [[], [], [], [2], [0, 1, 3], [], [], [], [7]] [.agg #[iv o, lv1], iv kind, iv at_, iv (pickI at_ 300), iv (findH o l kind (pickI at_ 300)), .agg #[iv o, lv1], iv kind, iv at_, iv (pickI at_ 300)] Y U kr kr kr ?_ ?_ ?_
  ·intro i hi hiq
   match i, hi, hiq with
   | 0, _, _ => exact fun w U => OpV.g (aj (U.g 1 rfl) rfl (isAgg25 _) (sizeOf25 _))
   | 1, _, _ => exact fun w U => OpV.g (ai rfl)
   | 2, _, _ => exact fun w U => OpV.g (ai rfl)
   | 3, _, _ => exact fun w U => aT call19 rfl (bK at_ 300 _ (by first | assumption | (unfold i64 at *; omega) | omega) om)
   | 4, _, _ => exact fun w U => aT call20 rfl (bU o lv1 l kind (pickI at_ 300) _ (U.ow 5 rfl))
   | 5, _, _ => exact fun w U => OpV.g (aj (U.g 1 rfl) rfl (isAgg25 _) (sizeOf25 _))
   | 6, _, _ => exact fun w U => OpV.g (ai rfl)
   | 7, _, _ => exact fun w U => OpV.g (ai rfl)
   | 8, _, _ => exact fun w U => aT call19 rfl (bK at_ 300 _ (by first | assumption | (unfold i64 at *; omega) | omega) om)
  ·intro i hi
   exact absurd hi sm
  clear Y U
  intro  a w40 Y U
  replace Y : Fr 284 [(162, .agg #[iv o, lv1]), (163, iv kind), (164, iv at_), (165, iv (pickI at_ 300)), (166, iv (findH o l kind (pickI at_ 300))), (167, .agg #[iv o, lv1]), (168, iv kind), (169, iv at_), (170, iv (pickI at_ 300)), (4, _), (5, _), (6, _), (8, _), (12, _), (18, _), (19, _), (7, _), (78, _), (79, _), (80, _), (22, _), (146, _), (147, _), (148, _), (33, _), (152, _), (153, _), (154, _), (155, _), (156, _), (157, _), (158, _), (159, _), (160, _), (161, _)] [] a := Y
  refine ab <| aQ (k := 19) 22 [21] kr kr kr ?_
  refine aR Y U de rfl de rfl call21 rfl (bZ o lv1 l kind (pickI at_ 300) _ (U.ow 5 rfl)) ?_
  clear Y U
  intro a w41 Y U
  refine wly Y ((v_ne rfl rfl).asb (b' := false) sm) fun a Y => wlv Y (aw rfl rfl) fun a Y => ab <| bd kr ?_
  refine hK25 _ _ ?_
  replace Y := Y.p16 4 5 6 8 12 18 19 7 78 79 80 22 146 147 148 173 rfl
  refine aE Y rfl ?_
  refine aq <| hK23 _ _ <| ao <| wlv Y ((aM rfl rfl de).asi (m' := 1) rfl) fun a Y => wlm Y rfl fun a Y => ab <| ba ?_
  refine aa fun K26 hK26 => wlv Y ((v_lt rfl rfl).asb (b' := true) rfl) fun a Y => ab (hK26 _ _ <| ac fun K27 hK27 => ?_)
  refine aD Y rfl ?_
  refine aq <| hK27 _ _ <| ac fun K28 hK28 => ap <| aa fun K29 hK29 => wlv Y ((ak (i := 1) (sT := 41) (U.ow 0 rfl) rfl rfl (runUnderlying41 _) (sizeOf3 _) om sm).as (v' := slAddr (.slice (some ⟨w35.hz, 0, none⟩) 2 2) (1 * 1)) rfl) fun a Y => wlv Y (ax (u := iv (1 + (pickI kind 3))) (i := 1) (j := 0) (U.ow 0 rfl) sm rfl (isAgg3 _) rfx) fun a Y => wla Y rfl fun a Y => ab (hK29 _ _ <| ac fun K30 hK30 => ?_)
  refine aO kr (aP kr fun w42 hxz => ?_)
  replace U := U.grow hxz
  refine aS (k := 0) 7 [3, 4, 5, 6] Y kr kr kr rfx ?_
  replace Y : Fr 284 [(4, _), (5, _), (6, _), (8, _), (12, _), (18, _), (19, _), (7, _), (78, _), (79, _), (80, _), (22, _), (146, _), (147, _), (173, _), (174, _), (148, _), (149, _), (150, _), (151, _), (33, _)] [] a := Y.pick [4, 5, 6, 8, 12, 18, 19, 7, 78, 79, 80, 22, 146, 147, 173, 174, 148, 149, 150, 151, 33]
  refine aA [] (fun i => match i with | _ => fun _ _ => False) 7 [[], [], [], [0, 1, 2], [], [], []] [.agg #[iv o, lv1], iv (1 + (pickI kind 3)), iv at_, iv (findH o l (1 + (pickI kind 3)) at_), .agg #[iv o, lv1], iv (1 + (pickI kind 3)), iv at_] Y U kr kr kr ?_ ?_ ?_
  ·intro i hi hiq
   match i, hi, hiq with
   | 0, _, _ => exact fun w U => OpV.g (aj (U.g 1 rfl) rfl (isAgg25 _) (sizeOf25 _))
   | 1, _, _ => exact fun w U => OpV.g (ai rfl)
   | 2, _, _ => exact fun w U => OpV.g (ai rfl)
   | 3, _, _ => exact fun w U => aT call20 rfl (bU o lv1 l (1 + (pickI kind 3)) at_ _ (U.ow 5 rfl))
   | 4, _, _ => exact fun w U => OpV.g (aj (U.g 1 rfl) rfl (isAgg25 _) (sizeOf25 _))
   | 5, _, _ => exact fun w U => OpV.g (ai rfl)
   | 6, _, _ => exact fun w U => OpV.g (ai rfl)
  ·intro i hi
   exact absurd hi sm
  clear Y U
  intro  a w43 Y U
  replace Y : Fr 284 [(152, .agg #[iv o, lv1]), (153, iv (1 + (pickI kind 3))), (154, iv at_), (155, iv (findH o l (1 + (pickI kind 3)) at_)), (156, .agg #[iv o, lv1]), (157, iv (1 + (pickI kind 3))), (158, iv at_), (4, _), (5, _), (6, _), (8, _), (12, _), (18, _), (19, _), (7, _), (78, _), (79, _), (80, _), (22, _), (146, _), (147, _), (173, _), (174, _), (148, _), (149, _), (150, _), (151, _), (33, _)] [] a := Y
  refine ab <| aQ (k := 7) 10 [9] kr kr kr ?_
  refine am Y U de call21 rfl (bZ o lv1 l (1 + (pickI kind 3)) at_ _ (U.ow 5 rfl)) ?_
  clear Y U
  intro a w44 Y U
  refine wlv Y ((v_ne rfl rfl).asb (b' := false) sm) fun a Y => wlm Y rfl fun a Y => ab <| aS (k := 10) 19 [15, 16, 18] Y kr kr kr rfx ?_
  replace Y : Fr 284 [(4, _), (5, _), (6, _), (8, _), (12, _), (18, _), (19, _), (7, _), (78, _), (79, _), (80, _), (22, _), (146, _), (147, _), (173, _), (174, _), (148, _), (149, _), (150, _), (151, _), (33, _), (152, _), (153, _), (154, _), (155, _), (156, _), (157, _), (158, _), (159, _), (160, _), (161, _)] [] a := Y.pick [4, 5, 6, 8, 12, 18, 19, 7, 78, 79, 80, 22, 146, 147, 173, 174, 148, 149, 150, 151, 33, 152, 153, 154, 155, 156, 157, 158, 159, 160, 161]
  refine aA [] (fun i => match i with | _ => fun _ _ => False) 9 [[], [], [], [2], [0, 1, 3], [], [], [], [7]] [.agg #[iv o, lv1], iv (1 + (pickI kind 3)), iv at_, iv (pickI at_ 300), iv (findH o l (1 + (pickI kind 3)) (pickI at_ 300)), .agg #[iv o, lv1], iv (1 + (pickI kind 3)), iv at_, iv (pickI at_ 300)] Y U kr kr kr ?_ ?_ ?_
  ·intro i hi hiq
   match i, hi, hiq with
   | 0, _, _ => exact fun w U => OpV.g (aj (U.g 1 rfl) rfl (isAgg25 _) (sizeOf25 _))
   | 1, _, _ => exact fun w U => OpV.g (ai rfl)
   | 2, _, _ => exact fun w U => OpV.g (ai rfl)
   | 3, _, _ => exact fun w U => aT call19 rfl (bK at_ 300 _ (by first | assumption | (unfold i64 at *; omega) | omega) om)
   | 4, _, _ => exact fun w U => aT call20 rfl (bU o lv1 l (1 + (pickI kind 3)) (pickI at_ 300) _ (U.ow 5 rfl))
   | 5, _, _ => exact fun w U => OpV.g (aj (U.g 1 rfl) rfl (isAgg25 _) (sizeOf25 _))
   | 6, _, _ => exact fun w U => OpV.g (ai rfl)
   | 7, _, _ => exact fun w U => OpV.g (ai rfl)
   | 8, _, _ => exact fun w U => aT call19 rfl (bK at_ 300 _ (by first | assumption | (unfold i64 at *; omega) | omega) om)
  ·intro i hi
   exact absurd hi sm
  clear Y U
  intro  a w45 Y U
  replace Y : Fr 284 [(162, .agg #[iv o, lv1]), (163, iv (1 + (pickI kind 3))), (164, iv at_), (165, iv (pickI at_ 300)), (166, iv (findH o l (1 + (pickI kind 3)) (pickI at_ 300))), (167, .agg #[iv o, lv1]), (168, iv (1 + (pickI kind 3))), (169, iv at_), (170, iv (pickI at_ 300)), (4, _), (5, _), (6, _), (8, _), (12, _), (18, _), (19, _), (7, _), (78, _), (79, _), (80, _), (22, _), (146, _), (147, _), (173, _), (174, _), (148, _), (149, _), (150, _), (151, _), (33, _), (152, _), (153, _), (154, _), (155, _), (156, _), (157, _), (158, _), (159, _), (160, _), (161, _)] [] a := Y
  refine ab <| aQ (k := 19) 22 [21] kr kr kr ?_
  refine aR Y U de rfl de rfl call21 rfl (bZ o lv1 l (1 + (pickI kind 3)) (pickI at_ 300) _ (U.ow 5 rfl)) ?_
  clear Y U
  intro a w46 Y U
  refine wly Y ((v_ne rfl rfl).asb (b' := false) sm) fun a Y => wlv Y (aw rfl rfl) fun a Y => ab <| bd kr ?_
  refine hK30 _ _ ?_
  replace Y := Y.p16 4 5 6 8 12 18 19 7 78 79 80 22 146 147 148 173 rfl
  refine aE Y rfl ?_
  refine aq <| hK28 _ _ <| ao <| wlv Y ((aM rfl rfl de).asi (m' := 2) rfl) fun a Y => wlm Y rfl fun a Y => ab <| ba ?_
  refine aa fun K31 hK31 => wlv Y ((v_lt rfl rfl).asb (b' := false) rfl) fun a Y => ab (hK31 _ _ <| ac fun K32 hK32 => ?_)
  refine aE Y rfl ?_
  refine aL <| hK19 _ _ <| aa fun K33 hK33 => wla Y rfl fun a Y => ab (hK33 _ _ ?_)
  replace Y := Y.p13 4 5 6 8 12 18 19 7 78 79 80 22 34 rfl
  replace U := U.k6 126 rfl
  refine ap <| aV (fun m a w => ∃ (i : Nat), m = l.length - i ∧ (i ≤ l.length) ∧ Fr 284 [(4, iv how), (5, iv n), (6, iv at_), (8, iv kind), (12, pq w1.hz), (19, .bool true), (7, sv tx), (78, (.slice (some ⟨b5, 0, none⟩) 3 3)), (79, iv 3), (80, iv 0), (22, pq w8.hz), (34, iv (i : Int))] [] a ∧ St No w0 [blk w8.hz [iv o, lv1] 25, own lv3 27 5 ((lbt).map Rec.cells), own lv4 27 5 ((lu).map Rec.cells), own (.slice (some ⟨b5, 0, none⟩) 3 3) 25 2 ([[iv o, lv1], [iv ob, lv3], [iv ro, lv4]]), own lv1 27 5 ((l).map Rec.cells), blk w1.hz [iv od.t, iv od.kind, iv od.a, iv od.b, sv od.text] 27] w) _ ⟨0, rfl, Nat.zero_le _, Y.pick [4, 5, 6, 8, 12, 19, 7, 78, 79, 80, 22, 34], U.select [0, 1, 2, 3, 4, 5] de⟩ ?_
  rintro _ a w47 ⟨i, rfl, hi, Y, U⟩
  refine ac fun K34 hK34 => aa fun K35 hK35 => wlm Y rfl fun a Y => wlv Y (al (v := po w8.hz 1) rfl kr) fun a Y => wlv Y (ld U 0 rfl rfl (isAgg23 _) rfl) fun a Y => wlv Y ((aK (sT := 23) (U.ow 4 rfl) rfl rfl (runUnderlying23 _)).asi (m' := (l.length : Int)) (by rw [List.length_map])) fun a Y => wlv Y (v_lt rfl rfl) fun a Y => ab (hK35 _ _ ?_)
  refine az Y rfl (fun hc14 => ?_) (fun hc14 => ?_)
  ·rw [hc14] at Y
   try simp only [qz] at hc14
   have hix : i < l.length := by omega
   have hel := gc (l.getD i Rec.z)
   refine aq <| hK34 _ _ <| ac fun K36 hK36 => ap <| aa fun K37 hK37 => wlv Y (al (v := po w8.hz 1) rfl kr) fun a Y => wlv Y (ld U 0 rfl rfl (isAgg23 _) rfl) fun a Y => wlm Y rfl fun a Y => wlv Y ((ak (i := (i : Int)) (sT := 23) (U.ow 4 rfl) rfl rfl (runUnderlying23 _) (sizeOf27 _) om (by rw [List.length_map]; omega)).as (v' := slAddr lv1 (i * 5)) rfl) fun a Y => wlv Y ((bt (U.ow 4 rfl) (i := i) (by rw [List.length_map]; omega) rfl (isAgg27 _) (sizeOf27 _)).as (v' := .agg #[iv ((l.getD i Rec.z).t), iv ((l.getD i Rec.z).kind), iv ((l.getD i Rec.z).a), iv ((l.getD i Rec.z).b), sv ((l.getD i Rec.z).text)]) (by rw [br Rec.z]; rfl)) fun a Y => am Y U de call22 rfl (dN (l.getD i Rec.z) _) ?_
   clear Y U
   intro a w48 Y U
   refine wlm Y rfl fun a Y => wlv Y (ag rfl rfl) fun a Y => wlv Y (ag rfl rfl) fun a Y => wla Y rfl fun a Y => wla Y rfl fun a Y => ab (hK37 _ _ ?_)
   replace Y := Y.p14 4 5 6 8 12 19 7 78 79 80 22 34 35 36 rfl
   refine aa fun K38 hK38 => wlv Y (al (v := po w8.hz 1) rfl kr) fun a Y => wlv Y (ld U 0 rfl rfl (isAgg23 _) rfl) fun a Y => wlm Y rfl fun a Y => wlv Y ((ak (i := (i : Int)) (sT := 23) (U.ow 4 rfl) rfl rfl (runUnderlying23 _) (sizeOf27 _) om (by rw [List.length_map]; omega)).as (v' := slAddr lv1 (i * 5)) rfl) fun a Y => wlv Y ((bt (U.ow 4 rfl) (i := i) (by rw [List.length_map]; omega) rfl (isAgg27 _) (sizeOf27 _)).as (v' := .agg #[iv ((l.getD i Rec.z).t), iv ((l.getD i Rec.z).kind), iv ((l.getD i Rec.z).a), iv ((l.getD i Rec.z).b), sv ((l.getD i Rec.z).text)]) (by rw [br Rec.z]; rfl)) fun a Y => am Y U de call23 rfl (eX (l.getD i Rec.z) _) ?_
   clear Y U
   intro a w49 Y U
   refine wlm Y rfl fun a Y => wlv Y (ag rfl rfl) fun a Y => wlv Y (ag rfl rfl) fun a Y => wla Y rfl fun a Y => wla Y rfl fun a Y => ab (hK38 _ _ ?_)
   replace Y := Y.p16 4 5 6 8 12 19 7 78 79 80 22 34 35 36 37 38 rfl
   refine ac fun K39 hK39 => aa fun K40 hK40 => wlm Y rfl fun a Y => wlm Y rfl fun a Y => wlv Y ((jX rfl rfl).asb (b' := false) sm) fun a Y => wlm Y rfl fun a Y => wly Y (ai rfl) fun a Y => wly Y (ai rfl) fun a Y => wly Y ((v_ne rfl rfl).asb (b' := false) sm) fun a Y => wlv Y (aw rfl rfl) fun a Y => ab (hK40 _ _ ?_)
   replace Y := Y.p14 4 5 6 8 12 19 7 78 79 80 22 34 37 207 rfl
   refine aE Y rfl ?_
   refine aq <| hK39 _ _ <| aa fun K41 hK41 => wlm Y rfl fun a Y => wlm Y rfl fun a Y => wlm Y rfl fun a Y => wlv Y (cZ rfl rfl (by first | omega | (simp only [List.length_append]; omega))) fun a Y => wlm Y rfl fun a Y => wlm Y rfl fun a Y => wlv Y (aW rfl rfl (runUnderlying9 _)) fun a Y => wlv Y (mI rfl rfl om om om) fun a Y => wlv Y ((bS (xs := eB (l.getD i Rec.z)) (l := 0) (h := (((eB (l.getD i Rec.z)).length : Int) / 2).toNat) rfl rfl rfl underlying9 (.inl ⟨rfl, rfl⟩) (.inr (by rw [show (((eB (l.getD i Rec.z)).length : Int) / 2 : Int) = (((((eB (l.getD i Rec.z)).length : Int) / 2).toNat : Nat) : Int) from by omega] <;> rfl)) om (by first | omega | exact Nat.min_le_left _ _)).as (v' := sv ((eB (l.getD i Rec.z)).take ((((eB (l.getD i Rec.z)).length : Int) / 2).toNat))) rfl) fun a Y => aG (E := 9) (sz := 1) rfl [[sv (eB (l.getD i Rec.z))], [sv ((eB (l.getD i Rec.z)) ++ tx)], [sv ((eB (l.getD i Rec.z)).take ((((eB (l.getD i Rec.z)).length : Int) / 2).toNat))]] kr sm rfl de de Y U ?_
   clear Y U
   intro a w50 Y U
   refine wlv Y ((aK (sT := 45) (U.ow 0 rfl) rfl rfl (runUnderlying45 _)).asi (m' := 3) rfx) fun a Y => wlm Y rfl fun a Y => ab (hK41 _ _ ?_)
   replace Y := Y.p15 4 5 6 8 12 19 7 78 79 80 22 34 217 218 219 rfl
   refine ap <| cb 4 ?_
   refine ba ?_
   refine aa fun K42 hK42 => wlv Y ((v_lt rfl rfl).asb (b' := true) rfl) fun a Y => ab (hK42 _ _ <| ac fun K43 hK43 => ?_)
   refine aD Y rfl ?_
   refine aq <| hK43 _ _ <| ac fun K44 hK44 => ap <| aa fun K45 hK45 => wlv Y ((ak (i := 0) (sT := 45) (U.ow 0 rfl) rfl rfl (runUnderlying45 _) (sizeOf9 _) om sm).as (v' := slAddr (.slice (some ⟨w49.hz, 0, none⟩) 3 3) (0 * 1)) rfl) fun a Y => wlv Y (ax (u := sv (eB (l.getD i Rec.z))) (i := 0) (j := 0) (U.ow 0 rfl) sm rfl (isAgg9 _) rfx) fun a Y => wla Y rfl fun a Y => ab (hK45 _ _ <| aa fun K46 hK46 => ?_)
   refine wlm Y rfl fun a Y => am Y U de call24 rfl (dj (eB (l.getD i Rec.z)) _ (by first | omega | (simp only [List.length_append, List.length_take]; omega))) ?_
   clear Y U
   intro a w51 Y U
   refine wlm Y rfl fun a Y => wlv Y (ag rfl rfl) fun a Y => wlv Y (ag rfl rfl) fun a Y => aC Y U de (zeroValue27 _) (cs := [iv 0, iv 0, iv 0, iv 0, .string (⟨#[]⟩)]) rfl ?_
   clear Y U
   intro a w52 Y U
   refine ay 0 Y U rfl rfl rfl (sizeOf27 _) rfl (lb rfl) (ds := [iv ((decX (eB (l.getD i Rec.z))).t), iv ((decX (eB (l.getD i Rec.z))).kind), iv ((decX (eB (l.getD i Rec.z))).a), iv ((decX (eB (l.getD i Rec.z))).b), sv ((decX (eB (l.getD i Rec.z))).text)]) rfl rfl ?_
   clear Y U
   intro a w53 Y U
   refine wla Y rfl fun a Y => ab (hK46 _ _ ?_)
   replace Y := Y.p18 4 5 6 8 12 19 7 78 79 80 22 34 217 218 219 40 41 42 rfl
   refine aa fun K47 hK47 => wlm Y rfl fun a Y => am Y U de call25 rfl (cO (eB (l.getD i Rec.z)) _ (by first | omega | (simp only [List.length_append, List.length_take]; omega))) ?_
   clear Y U
   intro a w54 Y U
   refine wlm Y rfl fun a Y => wlv Y (ag rfl rfl) fun a Y => wlv Y (ag rfl rfl) fun a Y => aC Y U de (zeroValue27 _) (cs := [iv 0, iv 0, iv 0, iv 0, .string (⟨#[]⟩)]) rfl ?_
   clear Y U
   intro a w55 Y U
   refine ay 0 Y U rfl rfl rfl (sizeOf27 _) rfl (lb rfl) (ds := [iv ((decX (eB (l.getD i Rec.z))).t), iv ((decX (eB (l.getD i Rec.z))).kind), iv ((decX (eB (l.getD i Rec.z))).a), iv ((decX (eB (l.getD i Rec.z))).b), sv ((decX (eB (l.getD i Rec.z))).text)]) rfl rfl ?_
   clear Y U
   intro a w56 Y U
   refine wla Y rfl fun a Y => ab (hK47 _ _ ?_)
   replace Y := Y.p19 4 5 6 8 12 19 7 78 79 80 22 34 217 218 219 41 42 43 44 rfl
   refine aa fun K48 hK48 => wlv Y (aj (U.g 1 rfl) rfl (isAgg27 _) (sizeOf27 _)) fun a Y => wlv Y (aj (U.g 0 rfl) rfl (isAgg27 _) (sizeOf27 _)) fun a Y => wlv Y ((cw rfl rfl kr (eqRec ((decX (eB (l.getD i Rec.z))).t) ((decX (eB (l.getD i Rec.z))).kind) ((decX (eB (l.getD i Rec.z))).a) ((decX (eB (l.getD i Rec.z))).b) ((decX (eB (l.getD i Rec.z))).text) ((decX (eB (l.getD i Rec.z))).t) ((decX (eB (l.getD i Rec.z))).kind) ((decX (eB (l.getD i Rec.z))).a) ((decX (eB (l.getD i Rec.z))).b) ((decX (eB (l.getD i Rec.z))).text) _)).asb (b' := false) sm) fun a Y => wlm Y rfl fun a Y => wly Y (ai rfl) fun a Y => wly Y (ai rfl) fun a Y => wly Y ((v_ne rfl rfl).asb (b' := false) sm) fun a Y => wlv Y (aw rfl rfl) fun a Y => ab (hK48 _ _ ?_)
   replace Y := Y.p16 4 5 6 8 12 19 7 78 79 80 22 34 217 218 219 240 rfl
   replace U := U.k7 508 rfl
   refine aE Y rfl ?_
   refine aq <| hK44 _ _ <| ao <| wlv Y ((aM rfl rfl de).asi (m' := 1) rfl) fun a Y => wlm Y rfl fun a Y => ab <| ba ?_
   refine aa fun K49 hK49 => wlv Y ((v_lt rfl rfl).asb (b' := true) rfl) fun a Y => ab (hK49 _ _ <| ac fun K50 hK50 => ?_)
   refine aD Y rfl ?_
   refine aq <| hK50 _ _ <| ac fun K51 hK51 => ap <| aa fun K52 hK52 => wlv Y ((ak (i := 1) (sT := 45) (U.ow 0 rfl) rfl rfl (runUnderlying45 _) (sizeOf9 _) om sm).as (v' := slAddr (.slice (some ⟨w49.hz, 0, none⟩) 3 3) (1 * 1)) rfl) fun a Y => wlv Y (ax (u := sv ((eB (l.getD i Rec.z)) ++ tx)) (i := 1) (j := 0) (U.ow 0 rfl) sm rfl (isAgg9 _) rfx) fun a Y => wla Y rfl fun a Y => ab (hK52 _ _ <| aa fun K53 hK53 => ?_)
   refine wlm Y rfl fun a Y => am Y U de call24 rfl (dj ((eB (l.getD i Rec.z)) ++ tx) _ (by first | omega | (simp only [List.length_append, List.length_take]; omega))) ?_
   clear Y U
   intro a w57 Y U
   refine wlm Y rfl fun a Y => wlv Y (ag rfl rfl) fun a Y => wlv Y (ag rfl rfl) fun a Y => aC Y U de (zeroValue27 _) (cs := [iv 0, iv 0, iv 0, iv 0, .string (⟨#[]⟩)]) rfl ?_
   clear Y U
   intro a w58 Y U
   refine ay 0 Y U rfl rfl rfl (sizeOf27 _) rfl (lb rfl) (ds := [iv ((decX ((eB (l.getD i Rec.z)) ++ tx)).t), iv ((decX ((eB (l.getD i Rec.z)) ++ tx)).kind), iv ((decX ((eB (l.getD i Rec.z)) ++ tx)).a), iv ((decX ((eB (l.getD i Rec.z)) ++ tx)).b), sv ((decX ((eB (l.getD i Rec.z)) ++ tx)).text)]) rfl rfl ?_
   clear Y U
   intro a w59 Y U
   refine wla Y rfl fun a Y => ab (hK53 _ _ ?_)
   replace Y := Y.p18 4 5 6 8 12 19 7 78 79 80 22 34 217 218 219 40 41 42 rfl
   refine aa fun K54 hK54 => wlm Y rfl fun a Y => am Y U de call25 rfl (cO ((eB (l.getD i Rec.z)) ++ tx) _ (by first | omega | (simp only [List.length_append, List.length_take]; omega))) ?_
   clear Y U
   intro a w60 Y U
   refine wlm Y rfl fun a Y => wlv Y (ag rfl rfl) fun a Y => wlv Y (ag rfl rfl) fun a Y => aC Y U de (zeroValue27 _) (cs := [iv 0, iv 0, iv 0, iv 0, .string (⟨#[]⟩)]) rfl ?_
   clear Y U
   intro a w61 Y U
   refine ay 0 Y U rfl rfl rfl (sizeOf27 _) rfl (lb rfl) (ds := [iv ((decX ((eB (l.getD i Rec.z)) ++ tx)).t), iv ((decX ((eB (l.getD i Rec.z)) ++ tx)).kind), iv ((decX ((eB (l.getD i Rec.z)) ++ tx)).a), iv ((decX ((eB (l.getD i Rec.z)) ++ tx)).b), sv ((decX ((eB (l.getD i Rec.z)) ++ tx)).text)]) rfl rfl ?_
   clear Y U
   intro a w62 Y U
   refine wla Y rfl fun a Y => ab (hK54 _ _ ?_)
   replace Y := Y.p19 4 5 6 8 12 19 7 78 79 80 22 34 217 218 219 41 42 43 44 rfl
   refine aa fun K55 hK55 => wlv Y (aj (U.g 1 rfl) rfl (isAgg27 _) (sizeOf27 _)) fun a Y => wlv Y (aj (U.g 0 rfl) rfl (isAgg27 _) (sizeOf27 _)) fun a Y => wlv Y ((cw rfl rfl kr (eqRec ((decX ((eB (l.getD i Rec.z)) ++ tx)).t) ((decX ((eB (l.getD i Rec.z)) ++ tx)).kind) ((decX ((eB (l.getD i Rec.z)) ++ tx)).a) ((decX ((eB (l.getD i Rec.z)) ++ tx)).b) ((decX ((eB (l.getD i Rec.z)) ++ tx)).text) ((decX ((eB (l.getD i Rec.z)) ++ tx)).t) ((decX ((eB (l.getD i Rec.z)) ++ tx)).kind) ((decX ((eB (l.getD i Rec.z)) ++ tx)).a) ((decX ((eB (l.getD i Rec.z)) ++ tx)).b) ((decX ((eB (l.getD i Rec.z)) ++ tx)).text) _)).asb (b' := false) sm) fun a Y => wlm Y rfl fun a Y => wly Y (ai rfl) fun a Y => wly Y (ai rfl) fun a Y => wly Y ((v_ne rfl rfl).asb (b' := false) sm) fun a Y => wlv Y (aw rfl rfl) fun a Y => ab (hK55 _ _ ?_)
   replace Y := Y.p16 4 5 6 8 12 19 7 78 79 80 22 34 217 218 219 240 rfl
   replace U := U.k7 508 rfl
   refine aE Y rfl ?_
   refine aq <| hK51 _ _ <| ao <| wlv Y ((aM rfl rfl de).asi (m' := 2) rfl) fun a Y => wlm Y rfl fun a Y => ab <| ba ?_
   refine aa fun K56 hK56 => wlv Y ((v_lt rfl rfl).asb (b' := true) rfl) fun a Y => ab (hK56 _ _ <| ac fun K57 hK57 => ?_)
   refine aD Y rfl ?_
   refine aq <| hK57 _ _ <| ac fun K58 hK58 => ap <| aa fun K59 hK59 => wlv Y ((ak (i := 2) (sT := 45) (U.ow 0 rfl) rfl rfl (runUnderlying45 _) (sizeOf9 _) om sm).as (v' := slAddr (.slice (some ⟨w49.hz, 0, none⟩) 3 3) (2 * 1)) rfl) fun a Y => wlv Y (ax (u := sv ((eB (l.getD i Rec.z)).take ((((eB (l.getD i Rec.z)).length : Int) / 2).toNat))) (i := 2) (j := 0) (U.ow 0 rfl) sm rfl (isAgg9 _) rfx) fun a Y => wla Y rfl fun a Y => ab (hK59 _ _ <| aa fun K60 hK60 => ?_)
   refine wlm Y rfl fun a Y => am Y U de call24 rfl (dj ((eB (l.getD i Rec.z)).take ((((eB (l.getD i Rec.z)).length : Int) / 2).toNat)) _ (by first | omega | (simp only [List.length_append, List.length_take]; omega))) ?_
   clear Y U
   intro a w63 Y U
   refine wlm Y rfl fun a Y => wlv Y (ag rfl rfl) fun a Y => wlv Y (ag rfl rfl) fun a Y => aC Y U de (zeroValue27 _) (cs := [iv 0, iv 0, iv 0, iv 0, .string (⟨#[]⟩)]) rfl ?_
   clear Y U
   intro a w64 Y U
   refine ay 0 Y U rfl rfl rfl (sizeOf27 _) rfl (lb rfl) (ds := [iv ((decX ((eB (l.getD i Rec.z)).take ((((eB (l.getD i Rec.z)).length : Int) / 2).toNat))).t), iv ((decX ((eB (l.getD i Rec.z)).take ((((eB (l.getD i Rec.z)).length : Int) / 2).toNat))).kind), iv ((decX ((eB (l.getD i Rec.z)).take ((((eB (l.getD i Rec.z)).length : Int) / 2).toNat))).a), iv ((decX ((eB (l.getD i Rec.z)).take ((((eB (l.getD i Rec.z)).length : Int) / 2).toNat))).b), sv ((decX ((eB (l.getD i Rec.z)).take ((((eB (l.getD i Rec.z)).length : Int) / 2).toNat))).text)]) rfl rfl ?_
   clear Y U
   intro a w65 Y U
   refine wla Y rfl fun a Y => ab (hK60 _ _ ?_)
   replace Y := Y.p18 4 5 6 8 12 19 7 78 79 80 22 34 217 218 219 40 41 42 rfl
   refine aa fun K61 hK61 => wlm Y rfl fun a Y => am Y U de call25 rfl (cO ((eB (l.getD i Rec.z)).take ((((eB (l.getD i Rec.z)).length : Int) / 2).toNat)) _ (by first | omega | (simp only [List.length_append, List.length_take]; omega))) ?_
   clear Y U
   intro a w66 Y U
   refine wlm Y rfl fun a Y => wlv Y (ag rfl rfl) fun a Y => wlv Y (ag rfl rfl) fun a Y => aC Y U de (zeroValue27 _) (cs := [iv 0, iv 0, iv 0, iv 0, .string (⟨#[]⟩)]) rfl ?_
   clear Y U
   intro a w67 Y U
   refine ay 0 Y U rfl rfl rfl (sizeOf27 _) rfl (lb rfl) (ds := [iv ((decX ((eB (l.getD i Rec.z)).take ((((eB (l.getD i Rec.z)).length : Int) / 2).toNat))).t), iv ((decX ((eB (l.getD i Rec.z)).take ((((eB (l.getD i Rec.z)).length : Int) / 2).toNat))).kind), iv ((decX ((eB (l.getD i Rec.z)).take ((((eB (l.getD i Rec.z)).length : Int) / 2).toNat))).a), iv ((decX ((eB (l.getD i Rec.z)).take ((((eB (l.getD i Rec.z)).length : Int) / 2).toNat))).b), sv ((decX ((eB (l.getD i Rec.z)).take ((((eB (l.getD i Rec.z)).length : Int) / 2).toNat))).text)]) rfl rfl ?_
   clear Y U
   intro a w68 Y U
   refine wla Y rfl fun a Y => ab (hK61 _ _ ?_)
   replace Y := Y.p19 4 5 6 8 12 19 7 78 79 80 22 34 217 218 219 41 42 43 44 rfl
   refine aa fun K62 hK62 => wlv Y (aj (U.g 1 rfl) rfl (isAgg27 _) (sizeOf27 _)) fun a Y => wlv Y (aj (U.g 0 rfl) rfl (isAgg27 _) (sizeOf27 _)) fun a Y => wlv Y ((cw rfl rfl kr (eqRec ((decX ((eB (l.getD i Rec.z)).take ((((eB (l.getD i Rec.z)).length : Int) / 2).toNat))).t) ((decX ((eB (l.getD i Rec.z)).take ((((eB (l.getD i Rec.z)).length : Int) / 2).toNat))).kind) ((decX ((eB (l.getD i Rec.z)).take ((((eB (l.getD i Rec.z)).length : Int) / 2).toNat))).a) ((decX ((eB (l.getD i Rec.z)).take ((((eB (l.getD i Rec.z)).length : Int) / 2).toNat))).b) ((decX ((eB (l.getD i Rec.z)).take ((((eB (l.getD i Rec.z)).length : Int) / 2).toNat))).text) ((decX ((eB (l.getD i Rec.z)).take ((((eB (l.getD i Rec.z)).length : Int) / 2).toNat))).t) ((decX ((eB (l.getD i Rec.z)).take ((((eB (l.getD i Rec.z)).length : Int) / 2).toNat))).kind) ((decX ((eB (l.getD i Rec.z)).take ((((eB (l.getD i Rec.z)).length : Int) / 2).toNat))).a) ((decX ((eB (l.getD i Rec.z)).take ((((eB (l.getD i Rec.z)).length : Int) / 2).toNat))).b) ((decX ((eB (l.getD i Rec.z)).take ((((eB (l.getD i Rec.z)).length : Int) / 2).toNat))).text) _)).asb (b' := false) sm) fun a Y => wlm Y rfl fun a Y => wly Y (ai rfl) fun a Y => wly Y (ai rfl) fun a Y => wly Y ((v_ne rfl rfl).asb (b' := false) sm) fun a Y => wlv Y (aw rfl rfl) fun a Y => ab (hK62 _ _ ?_)
   replace Y := Y.p16 4 5 6 8 12 19 7 78 79 80 22 34 217 218 219 240 rfl
   replace U := U.k7 508 rfl
   refine aE Y rfl ?_
   refine aq <| hK58 _ _ <| ao <| wlv Y ((aM rfl rfl de).asi (m' := 3) rfl) fun a Y => wlm Y rfl fun a Y => ab <| ba ?_
   refine aa fun K63 hK63 => wlv Y ((v_lt rfl rfl).asb (b' := false) rfl) fun a Y => ab (hK63 _ _ <| ac fun K64 hK64 => ?_)
   refine aE Y rfl ?_
   refine aL <| hK36 _ _ <| ao <| wlm Y rfl fun a Y => wlv Y (aM rfl rfl ⟨om, om⟩) fun a Y => wla Y rfl fun a Y => ab ?_
   refine ⟨_, ?_, i + 1, rfl, om, Y.pick [4, 5, 6, 8, 12, 19, 7, 78, 79, 80, 22, 34], U.select [1, 2, 3, 4, 5, 6] de⟩
   omega
  rw [hc14] at Y
  try simp only [qz] at hc14
  refine aL ?_
  exact ⟨Y.pick [4, 5, 6, 8, 12, 19, 7, 78, 79, 80], U.select [1, 2, 3, 4, 5] de⟩
 rintro a w69 ⟨Y, U⟩
 refine hK10 _ _ <| ao <| wlv Y ((aM rfl rfl de).asi (m' := 1) rfl) fun a Y => wlm Y rfl fun a Y => ab <| ba ?_
 refine aa fun K65 hK65 => wlv Y ((v_lt rfl rfl).asb (b' := true) rfl) fun a Y => ab (hK65 _ _ <| ac fun K66 hK66 => ?_)
 refine aD Y rfl ?_
 refine aq <| hK66 _ _ <| ac fun K67 hK67 => ?_
 refine fN (fun a w => Fr 284 [(4, iv how), (5, iv n), (6, iv at_), (8, iv kind), (12, pq w1.hz), (19, .bool true), (7, sv tx), (78, (.slice (some ⟨b5, 0, none⟩) 3 3)), (79, iv 3), (80, iv 1)] [] a ∧ St No w0 [own lv3 27 5 ((lbt).map Rec.cells), own lv4 27 5 ((lu).map Rec.cells), own (.slice (some ⟨b5, 0, none⟩) 3 3) 25 2 ([[iv o, lv1], [iv ob, lv3], [iv ro, lv4]]), own lv1 27 5 ((l).map Rec.cells), blk w1.hz [iv od.t, iv od.kind, iv od.a, iv od.b, sv od.text] 27] w) ?_ ?_
 ·refine ap <| aa fun K68 hK68 => wlv Y ((ak (i := 1) (sT := 32) (U.ow 2 rfl) rfl rfl (runUnderlying32 _) (sizeOf25 _) om sm).as (v' := slAddr (.slice (some ⟨b5, 0, none⟩) 3 3) (1 * 2)) rfl) fun a Y => wlv Y ((bt (U.ow 2 rfl) (i := 1) sm rfl (isAgg25 _) (sizeOf25 _)).as (v' := .agg #[iv ob, lv3]) rfx) fun a Y => aC Y U de (zeroValue25 _) (cs := [iv 0, .slice none 0 0]) rfl ?_
  clear Y U
  intro a w70 Y U
  refine aJ (us := [iv ob, lv3]) 0 Y U rfl rfl rfl (sizeOf25 _) (by intro z hz; simp only [List.mem_cons, List.not_mem_nil, or_false] at hz; rcases hz with rfl | rfl <;> first | rfl | exact SlAt.one (U.ow 1 rfl)) (lb rfl) (ds := [iv ob, lv3]) rfl rfl ?_
  clear Y U
  intro a w71 Y U
  refine ab (hK68 _ _ <| aa fun K69 hK69 => ?_)
  refine wlv Y (aj (U.g 0 rfl) rfl (isAgg25 _) (sizeOf25 _)) fun a Y => wlv Y (aj (U.g 5 rfl) rfl (isAgg27 _) (sizeOf27 _)) fun a Y => aX Y U de call13 rfl (dE ob lv3 lbt od _ (U.ow 1 rfl) om) ?_
  clear Y U
  intro a w72 x16 hp Y U
  revert x16 hp Y U; rintro mv15 hp Y U
  clear hp
  replace U : St No w0 [_, _, _, _, _, _, _] w72 := U
  refine wlm Y rfl fun a Y => wlv Y (ag rfl rfl) fun a Y => wlv Y (ag rfl rfl) fun a Y => aC Y U de (zeroValue25 _) (cs := [iv 0, .slice none 0 0]) rfl ?_
  clear Y U
  intro a w73 Y U
  refine aJ (us := [iv (addO ob lbt od), mv15]) 0 Y U rfl rfl rfl (sizeOf25 _) (by intro z hz; simp only [List.mem_cons, List.not_mem_nil, or_false] at hz; rcases hz with rfl | rfl <;> first | rfl | exact SlAt.one (U.ow 1 rfl)) (lb rfl) (ds := [iv (addO ob lbt od), mv15]) rfl rfl ?_
  clear Y U
  intro a w74 Y U
  refine wla Y rfl fun a Y => ab (hK69 _ _ ?_)
  replace Y := Y.p13 4 5 6 8 12 19 7 78 79 80 22 23 24 rfl
  refine aa fun K70 hK70 => wlv Y (aj (U.g 2 rfl) rfl (isAgg25 _) (sizeOf25 _)) fun a Y => wlv Y (aj (U.g 7 rfl) rfl (isAgg27 _) (sizeOf27 _)) fun a Y => aX Y U de call14 rfl (dI ob lv3 lbt od _ (U.ow 3 rfl) om) ?_
  clear Y U
  intro a w75 x18 hp Y U
  revert x18 hp Y U; rintro mv17 hp Y U
  clear hp
  replace U : St No w0 [_, _, _, _, _, _, _, _, _] w75 := U
  refine wlm Y rfl fun a Y => wlv Y (ag rfl rfl) fun a Y => wlv Y (ag rfl rfl) fun a Y => aC Y U de (zeroValue25 _) (cs := [iv 0, .slice none 0 0]) rfl ?_
  clear Y U
  intro a w76 Y U
  refine aJ (us := [iv (addO ob lbt od), mv17]) 0 Y U rfl rfl rfl (sizeOf25 _) (by intro z hz; simp only [List.mem_cons, List.not_mem_nil, or_false] at hz; rcases hz with rfl | rfl <;> first | rfl | exact SlAt.one (U.ow 1 rfl)) (lb rfl) (ds := [iv (addO ob lbt od), mv17]) rfl rfl ?_
  clear Y U
  intro a w77 Y U
  refine wla Y rfl fun a Y => ab (hK70 _ _ ?_)
  replace Y := Y.p15 4 5 6 8 12 19 7 78 79 80 22 23 24 25 26 rfl
  refine aa fun K71 hK71 => wlm Y rfl fun a Y => wlm Y rfl fun a Y => wlm Y rfl fun a Y => wlm Y rfl fun a Y => wlm Y rfl fun a Y => wlv Y (aZ (v := .agg #[iv kind, iv n, iv how, iv at_]) rfl kr) fun a Y => am Y U de call15 rfl (eh at_ kind n how at_ _ (by assumption) (by assumption) (by assumption) (by assumption) (by assumption)) ?_
  clear Y U
  intro a w78 Y U
  refine aC Y U de (zeroValue27 _) (cs := [iv 0, iv 0, iv 0, iv 0, .string (⟨#[]⟩)]) rfl ?_
  clear Y U
  intro a w79 Y U
  refine ay 0 Y U rfl rfl rfl (sizeOf27 _) rfl (lb rfl) (ds := [iv ((entR at_ kind n how at_).t), iv ((entR at_ kind n how at_).kind), iv ((entR at_ kind n how at_).a), iv ((entR at_ kind n how at_).b), sv ((entR at_ kind n how at_).text)]) rfl rfl ?_
  clear Y U
  intro a w80 Y U
  refine ab (hK71 _ _ ?_)
  replace Y := Y.p16 4 5 6 8 12 19 7 78 79 80 22 23 24 25 26 27 rfl
  refine aa fun K72 hK72 => wlv Y (aj (U.g 5 rfl) rfl (isAgg25 _) (sizeOf25 _)) fun a Y => wlv Y (aj (U.g 0 rfl) rfl (isAgg27 _) (sizeOf27 _)) fun a Y => aX Y U de call13 rfl (dE ob lv3 lbt (entR at_ kind n how at_) _ (U.ow 6 rfl) om) ?_
  clear Y U
  intro a w81 x20 hp Y U
  revert x20 hp Y U; rintro mv19 hp Y U
  clear hp
  replace U : St No w0 [_, _, _, _, _, _, _, _, _, _, _, _] w81 := U
  refine wlm Y rfl fun a Y => wlv Y (ag rfl rfl) fun a Y => wlv Y (ag rfl rfl) fun a Y => aC Y U de (zeroValue25 _) (cs := [iv 0, .slice none 0 0]) rfl ?_
  clear Y U
  intro a w82 Y U
  refine aJ (us := [iv (addO ob lbt (entR at_ kind n how at_)), mv19]) 0 Y U rfl rfl rfl (sizeOf25 _) (by intro z hz; simp only [List.mem_cons, List.not_mem_nil, or_false] at hz; rcases hz with rfl | rfl <;> first | rfl | exact SlAt.one (U.ow 1 rfl)) (lb rfl) (ds := [iv (addO ob lbt (entR at_ kind n how at_)), mv19]) rfl rfl ?_
  clear Y U
  intro a w83 Y U
  refine wla Y rfl fun a Y => ab (hK72 _ _ ?_)
  replace Y := Y.p18 4 5 6 8 12 19 7 78 79 80 22 23 24 25 26 27 28 29 rfl
  refine aa fun K73 hK73 => wlv Y (aj (U.g 7 rfl) rfl (isAgg25 _) (sizeOf25 _)) fun a Y => wlv Y (aj (U.g 2 rfl) rfl (isAgg27 _) (sizeOf27 _)) fun a Y => aX Y U de call14 rfl (dI ob lv3 lbt (entR at_ kind n how at_) _ (U.ow 8 rfl) om) ?_
  clear Y U
  intro a w84 x22 hp Y U
  revert x22 hp Y U; rintro mv21 hp Y U
  clear hp
  replace U : St No w0 [_, _, _, _, _, _, _, _, _, _, _, _, _, _] w84 := U
  refine wlm Y rfl fun a Y => wlv Y (ag rfl rfl) fun a Y => wlv Y (ag rfl rfl) fun a Y => aC Y U de (zeroValue25 _) (cs := [iv 0, .slice none 0 0]) rfl ?_
  clear Y U
  intro a w85 Y U
  refine aJ (us := [iv (addO ob lbt (entR at_ kind n how at_)), mv21]) 0 Y U rfl rfl rfl (sizeOf25 _) (by intro z hz; simp only [List.mem_cons, List.not_mem_nil, or_false] at hz; rcases hz with rfl | rfl <;> first | rfl | exact SlAt.one (U.ow 1 rfl)) (lb rfl) (ds := [iv (addO ob lbt (entR at_ kind n how at_)), mv21]) rfl rfl ?_
  clear Y U
  intro a w86 Y U
  refine wla Y rfl fun a Y => ab (hK73 _ _ ?_)
  replace Y := Y.p19 4 5 6 8 12 19 7 78 79 80 22 23 24 25 26 28 29 30 31 rfl
  replace U := U.k14 32751 rfl
  refine ac fun K74 hK74 => ac fun K75 hK75 => aO kr (aP kr fun w87 hxz => ?_)
  replace U := U.grow hxz
  refine aS (k := 0) 3 [1, 2] Y kr kr kr rfx ?_
  replace Y := Y.p19 4 5 6 8 12 19 7 78 79 80 22 23 24 25 26 28 29 30 31 rfl
  refine aA [] (fun i => match i with | _ => fun _ _ => False) 3 [[], [0], []] [.agg #[iv ob, lv3], .bool (logOk ob lbt), .agg #[iv ob, lv3]] Y U kr kr kr ?_ ?_ ?_
  ·intro i hi hiq
   match i, hi, hiq with
   | 0, _, _ => exact fun w U => OpV.g (aj (U.g 8 rfl) rfl (isAgg25 _) (sizeOf25 _))
   | 1, _, _ => exact fun w U => aT call16 rfl (cX ob lv3 lbt _ (U.ow 9 rfl))
   | 2, _, _ => exact fun w U => OpV.g (aj (U.g 8 rfl) rfl (isAgg25 _) (sizeOf25 _))
  ·intro i hi
   exact absurd hi sm
  clear Y U
  intro  a w88 Y U
  replace Y : Fr 284 [(115, .agg #[iv ob, lv3]), (116, .bool (logOk ob lbt)), (117, .agg #[iv ob, lv3]), (4, _), (5, _), (6, _), (8, _), (12, _), (19, _), (7, _), (78, _), (79, _), (80, _), (22, _), (23, _), (24, _), (25, _), (26, _), (28, _), (29, _), (30, _), (31, _)] [] a := Y
  refine ab <| aQ (k := 3) 6 [5] kr kr kr ?_
  refine am Y U de call17 rfl (dr ob lv3 lbt _ (U.ow 9 rfl)) ?_
  clear Y U
  intro a w89 Y U
  refine wlv Y ((ft rfl rfl underlying4).asb (b' := false) sm) fun a Y => wlm Y rfl fun a Y => ab <| aS (k := 6) 8 [6, 7] Y kr kr kr rfx ?_
  replace Y := Y.p25 4 5 6 8 12 19 7 78 79 80 22 23 24 25 26 28 29 30 31 115 116 117 118 119 120 rfl
  refine aA [] (fun i => match i with | _ => fun _ _ => False) 2 [[], []] [iv (addE ob lbt od), iv (addE ob lbt od)] Y U kr kr kr ?_ ?_ ?_
  ·intro i hi hiq
   match i, hi, hiq with
   | 0, _, _ => exact fun w U => OpV.g (ai rfl)
   | 1, _, _ => exact fun w U => OpV.g (ai rfl)
  ·intro i hi
   exact absurd hi sm
  clear Y U
  intro  a w90 Y U
  replace Y : Fr 284 [(121, iv (addE ob lbt od)), (122, iv (addE ob lbt od)), (4, _), (5, _), (6, _), (8, _), (12, _), (19, _), (7, _), (78, _), (79, _), (80, _), (22, _), (23, _), (24, _), (25, _), (26, _), (28, _), (29, _), (30, _), (31, _), (115, _), (116, _), (117, _), (118, _), (119, _), (120, _)] [] a := Y
  refine ab <| aQ (k := 8) 11 [10] kr kr kr ?_
  refine wly Y ((v_ne rfl rfl).asb (b' := false) sm) fun a Y => wlv Y (aw rfl rfl) fun a Y => wlm Y rfl fun a Y => ab <| aS (k := 11) 13 [11, 12] Y kr kr kr rfx ?_
  replace Y := Y.p30 4 5 6 8 12 19 7 78 79 80 22 23 24 25 26 28 29 30 31 115 116 117 118 119 120 121 122 123 124 125 rfl
  refine aA [] (fun i => match i with | _ => fun _ _ => False) 2 [[], []] [iv (addE ob lbt (entR at_ kind n how at_)), iv (addE ob lbt (entR at_ kind n how at_))] Y U kr kr kr ?_ ?_ ?_
  ·intro i hi hiq
   match i, hi, hiq with
   | 0, _, _ => exact fun w U => OpV.g (ai rfl)
   | 1, _, _ => exact fun w U => OpV.g (ai rfl)
  ·intro i hi
   exact absurd hi sm
  clear Y U
  intro  a w91 Y U
  replace Y : Fr 284 [(126, iv (addE ob lbt (entR at_ kind n how at_))), (127, iv (addE ob lbt (entR at_ kind n how at_))), (4, _), (5, _), (6, _), (8, _), (12, _), (19, _), (7, _), (78, _), (79, _), (80, _), (22, _), (23, _), (24, _), (25, _), (26, _), (28, _), (29, _), (30, _), (31, _), (115, _), (116, _), (117, _), (118, _), (119, _), (120, _), (121, _), (122, _), (123, _), (124, _), (125, _)] [] a := Y
  refine ab <| aQ (k := 13) 16 [15] kr kr kr ?_
  refine wly Y ((v_ne rfl rfl).asb (b' := false) sm) fun a Y => wlv Y (aw rfl rfl) fun a Y => wlm Y rfl fun a Y => ab <| aS (k := 16) 18 [16, 17] Y kr kr kr rfx ?_
  replace Y : Fr 284 [(4, _), (5, _), (6, _), (8, _), (12, _), (19, _), (7, _), (78, _), (79, _), (80, _), (22, _), (23, _), (24, _), (25, _), (26, _), (28, _), (29, _), (30, _), (31, _), (115, _), (116, _), (117, _), (118, _), (119, _), (120, _), (121, _), (122, _), (123, _), (124, _), (125, _), (126, _), (127, _), (128, _), (129, _), (130, _)] [] a := Y.pick [4, 5, 6, 8, 12, 19, 7, 78, 79, 80, 22, 23, 24, 25, 26, 28, 29, 30, 31, 115, 116, 117, 118, 119, 120, 121, 122, 123, 124, 125, 126, 127, 128, 129, 130]
  refine aA [] (fun i => match i with | _ => fun _ _ => False) 2 [[], []] [.agg #[iv (addO ob lbt od), mv15], .agg #[iv (addO ob lbt od), mv17]] Y U kr kr kr ?_ ?_ ?_
  ·intro i hi hiq
   match i, hi, hiq with
   | 0, _, _ => exact fun w U => OpV.g (aj (U.g 6 rfl) rfl (isAgg25 _) (sizeOf25 _))
   | 1, _, _ => exact fun w U => OpV.g (aj (U.g 4 rfl) rfl (isAgg25 _) (sizeOf25 _))
  ·intro i hi
   exact absurd hi sm
  clear Y U
  intro  a w92 Y U
  replace Y : Fr 284 [(131, .agg #[iv (addO ob lbt od), mv15]), (132, .agg #[iv (addO ob lbt od), mv17]), (4, _), (5, _), (6, _), (8, _), (12, _), (19, _), (7, _), (78, _), (79, _), (80, _), (22, _), (23, _), (24, _), (25, _), (26, _), (28, _), (29, _), (30, _), (31, _), (115, _), (116, _), (117, _), (118, _), (119, _), (120, _), (121, _), (122, _), (123, _), (124, _), (125, _), (126, _), (127, _), (128, _), (129, _), (130, _)] [] a := Y
  refine ab <| aQ (k := 18) 22 [21] kr kr kr ?_
  refine aR Y U de rfl de rfl call18 rfl (bJ (b := decide ((addO ob lbt od) = (addO ob lbt od)) && decide ((addL ob lbt od) = (addL ob lbt od))) (c := true) sm (dD (addO ob lbt od) (addO ob lbt od) mv15 mv17 (addL ob lbt od) (addL ob lbt od) _ (U.ow 7 rfl) (U.ow 5 rfl))) ?_
  clear Y U
  intro a w93 Y U
  refine wly Y ((bn rfl).asb (b' := false) rfl) fun a Y => wlv Y (aw rfl rfl) fun a Y => wlm Y rfl fun a Y => ab <| aS (k := 22) 24 [22, 23] Y kr kr kr rfx ?_
  replace Y : Fr 284 [(4, _), (5, _), (6, _), (8, _), (12, _), (19, _), (7, _), (78, _), (79, _), (80, _), (22, _), (23, _), (24, _), (25, _), (26, _), (28, _), (29, _), (30, _), (31, _), (115, _), (116, _), (117, _), (118, _), (119, _), (120, _), (121, _), (122, _), (123, _), (124, _), (125, _), (126, _), (127, _), (128, _), (129, _), (130, _), (131, _), (132, _), (133, _), (134, _), (135, _), (136, _)] [] a := Y.pick [4, 5, 6, 8, 12, 19, 7, 78, 79, 80, 22, 23, 24, 25, 26, 28, 29, 30, 31, 115, 116, 117, 118, 119, 120, 121, 122, 123, 124, 125, 126, 127, 128, 129, 130, 131, 132, 133, 134, 135, 136]
  refine aA [] (fun i => match i with | _ => fun _ _ => False) 2 [[], []] [.agg #[iv (addO ob lbt (entR at_ kind n how at_)), mv19], .agg #[iv (addO ob lbt (entR at_ kind n how at_)), mv21]] Y U kr kr kr ?_ ?_ ?_
  ·intro i hi hiq
   match i, hi, hiq with
   | 0, _, _ => exact fun w U => OpV.g (aj (U.g 2 rfl) rfl (isAgg25 _) (sizeOf25 _))
   | 1, _, _ => exact fun w U => OpV.g (aj (U.g 0 rfl) rfl (isAgg25 _) (sizeOf25 _))
  ·intro i hi
   exact absurd hi sm
  clear Y U
  intro  a w94 Y U
  replace Y : Fr 284 [(137, .agg #[iv (addO ob lbt (entR at_ kind n how at_)), mv19]), (138, .agg #[iv (addO ob lbt (entR at_ kind n how at_)), mv21]), (4, _), (5, _), (6, _), (8, _), (12, _), (19, _), (7, _), (78, _), (79, _), (80, _), (22, _), (23, _), (24, _), (25, _), (26, _), (28, _), (29, _), (30, _), (31, _), (115, _), (116, _), (117, _), (118, _), (119, _), (120, _), (121, _), (122, _), (123, _), (124, _), (125, _), (126, _), (127, _), (128, _), (129, _), (130, _), (131, _), (132, _), (133, _), (134, _), (135, _), (136, _)] [] a := Y
  refine ab <| aQ (k := 24) 27 [26] kr kr kr ?_
  refine aR Y U de rfl de rfl call18 rfl (bJ (b := decide ((addO ob lbt (entR at_ kind n how at_)) = (addO ob lbt (entR at_ kind n how at_))) && decide ((addL ob lbt (entR at_ kind n how at_)) = (addL ob lbt (entR at_ kind n how at_)))) (c := true) sm (dD (addO ob lbt (entR at_ kind n how at_)) (addO ob lbt (entR at_ kind n how at_)) mv19 mv21 (addL ob lbt (entR at_ kind n how at_)) (addL ob lbt (entR at_ kind n how at_)) _ (U.ow 3 rfl) (U.ow 1 rfl))) ?_
  clear Y U
  intro a w95 Y U
  refine wly Y ((bn rfl).asb (b' := false) rfl) fun a Y => wlv Y (aw rfl rfl) fun a Y => ab <| bd kr ?_
  refine hK75 _ _ ?_
  replace Y := Y.p12 4 5 6 8 12 19 7 78 79 80 22 141 rfl
  replace U := U.k10 16298 rfl
  refine aE Y rfl ?_
  refine aq <| hK74 _ _ <| ac fun K76 hK76 => aa fun K77 hK77 => wlm Y rfl fun a Y => wlm Y rfl fun a Y => am Y U de call19 rfl (bK kind 3 _ (by first | assumption | (unfold i64 at *; omega) | omega) om) ?_
  clear Y U
  intro a w96 Y U
  refine wlv Y (aM rfl rfl ⟨om, om⟩) fun a Y => aG (E := 3) (sz := 1) rfl [[iv kind], [iv (1 + (pickI kind 3))]] kr sm rfl de de Y U ?_
  clear Y U
  intro a w97 Y U
  refine wlv Y ((aK (sT := 41) (U.ow 0 rfl) rfl rfl (runUnderlying41 _)).asi (m' := 2) rfx) fun a Y => wlm Y rfl fun a Y => ab (hK77 _ _ <| ap ?_)
  refine cb 3 ?_
  refine ba ?_
  refine aa fun K78 hK78 => wlv Y ((v_lt rfl rfl).asb (b' := true) rfl) fun a Y => ab (hK78 _ _ <| ac fun K79 hK79 => ?_)
  refine aD Y rfl ?_
  refine aq <| hK79 _ _ <| ac fun K80 hK80 => ap <| aa fun K81 hK81 => wlv Y ((ak (i := 0) (sT := 41) (U.ow 0 rfl) rfl rfl (runUnderlying41 _) (sizeOf3 _) om sm).as (v' := slAddr (.slice (some ⟨w96.hz, 0, none⟩) 2 2) (0 * 1)) rfl) fun a Y => wlv Y (ax (u := iv kind) (i := 0) (j := 0) (U.ow 0 rfl) sm rfl (isAgg3 _) rfx) fun a Y => wla Y rfl fun a Y => ab (hK81 _ _ ?_)
  replace Y := Y.p15 4 5 6 8 12 19 7 78 79 80 22 146 147 148 33 rfl
  replace U := U.k7 2017 rfl
  refine ac fun K82 hK82 => aO kr (aP kr fun w98 hxz => ?_)
  replace U := U.grow hxz
  refine aS (k := 0) 7 [3, 4, 5, 6] Y kr kr kr rfx ?_
  replace Y := Y.p15 4 5 6 8 12 19 7 78 79 80 22 146 147 148 33 rfl
  refine aA [] (fun i => match i with | _ => fun _ _ => False) 7 [[], [], [], [0, 1, 2], [], [], []] [.agg #[iv ob, lv3], iv kind, iv at_, iv (findH ob lbt kind at_), .agg #[iv ob, lv3], iv kind, iv at_] Y U kr kr kr ?_ ?_ ?_
  ·intro i hi hiq
   match i, hi, hiq with
   | 0, _, _ => exact fun w U => OpV.g (aj (U.g 1 rfl) rfl (isAgg25 _) (sizeOf25 _))
   | 1, _, _ => exact fun w U => OpV.g (ai rfl)
   | 2, _, _ => exact fun w U => OpV.g (ai rfl)
   | 3, _, _ => exact fun w U => aT call20 rfl (bU ob lv3 lbt kind at_ _ (U.ow 2 rfl))
   | 4, _, _ => exact fun w U => OpV.g (aj (U.g 1 rfl) rfl (isAgg25 _) (sizeOf25 _))
   | 5, _, _ => exact fun w U => OpV.g (ai rfl)
   | 6, _, _ => exact fun w U => OpV.g (ai rfl)
  ·intro i hi
   exact absurd hi sm
  clear Y U
  intro  a w99 Y U
  replace Y : Fr 284 [(152, .agg #[iv ob, lv3]), (153, iv kind), (154, iv at_), (155, iv (findH ob lbt kind at_)), (156, .agg #[iv ob, lv3]), (157, iv kind), (158, iv at_), (4, _), (5, _), (6, _), (8, _), (12, _), (19, _), (7, _), (78, _), (79, _), (80, _), (22, _), (146, _), (147, _), (148, _), (33, _)] [] a := Y
  refine ab <| aQ (k := 7) 10 [9] kr kr kr ?_
  refine am Y U de call21 rfl (bZ ob lv3 lbt kind at_ _ (U.ow 2 rfl)) ?_
  clear Y U
  intro a w100 Y U
  refine wlv Y ((v_ne rfl rfl).asb (b' := false) sm) fun a Y => wlm Y rfl fun a Y => ab <| aS (k := 10) 19 [15, 16, 18] Y kr kr kr rfx ?_
  replace Y := Y.p25 4 5 6 8 12 19 7 78 79 80 22 146 147 148 33 152 153 154 155 156 157 158 159 160 161 rfl
  refine aA [] (fun i => match i with | _ => fun _ _ => False) 9 [[], [], [], [2], [0, 1, 3], [], [], [], [7]] [.agg #[iv ob, lv3], iv kind, iv at_, iv (pickI at_ 300), iv (findH ob lbt kind (pickI at_ 300)), .agg #[iv ob, lv3], iv kind, iv at_, iv (pickI at_ 300)] Y U kr kr kr ?_ ?_ ?_
  ·intro i hi hiq
   match i, hi, hiq with
   | 0, _, _ => exact fun w U => OpV.g (aj (U.g 1 rfl) rfl (isAgg25 _) (sizeOf25 _))
   | 1, _, _ => exact fun w U => OpV.g (ai rfl)
   | 2, _, _ => exact fun w U => OpV.g (ai rfl)
   | 3, _, _ => exact fun w U => aT call19 rfl (bK at_ 300 _ (by first | assumption | (unfold i64 at *; omega) | omega) om)
   | 4, _, _ => exact fun w U => aT call20 rfl (bU ob lv3 lbt kind (pickI at_ 300) _ (U.ow 2 rfl))
   | 5, _, _ => exact fun w U => OpV.g (aj (U.g 1 rfl) rfl (isAgg25 _) (sizeOf25 _))
   | 6, _, _ => exact fun w U => OpV.g (ai rfl)
   | 7, _, _ => exact fun w U => OpV.g (ai rfl)
   | 8, _, _ => exact fun w U => aT call19 rfl (bK at_ 300 _ (by first | assumption | (unfold i64 at *; omega) | omega) om)
  ·intro i hi
   exact absurd hi sm
  clear Y U
  intro  a w101 Y U
  replace Y : Fr 284 [(162, .agg #[iv ob, lv3]), (163, iv kind), (164, iv at_), (165, iv (pickI at_ 300)), (166, iv (findH ob lbt kind (pickI at_ 300))), (167, .agg #[iv ob, lv3]), (168, iv kind), (169, iv at_), (170, iv (pickI at_ 300)), (4, _), (5, _), (6, _), (8, _), (12, _), (19, _), (7, _), (78, _), (79, _), (80, _), (22, _), (146, _), (147, _), (148, _), (33, _), (152, _), (153, _), (154, _), (155, _), (156, _), (157, _), (158, _), (159, _), (160, _), (161, _)] [] a := Y
  refine ab <| aQ (k := 19) 22 [21] kr kr kr ?_
  refine aR Y U de rfl de rfl call21 rfl (bZ ob lv3 lbt kind (pickI at_ 300) _ (U.ow 2 rfl)) ?_
  clear Y U
  intro a w102 Y U
  refine wly Y ((v_ne rfl rfl).asb (b' := false) sm) fun a Y => wlv Y (aw rfl rfl) fun a Y => ab <| bd kr ?_
  refine hK82 _ _ ?_
  replace Y := Y.p15 4 5 6 8 12 19 7 78 79 80 22 146 147 148 173 rfl
  refine aE Y rfl ?_
  refine aq <| hK80 _ _ <| ao <| wlv Y ((aM rfl rfl de).asi (m' := 1) rfl) fun a Y => wlm Y rfl fun a Y => ab <| ba ?_
  refine aa fun K83 hK83 => wlv Y ((v_lt rfl rfl).asb (b' := true) rfl) fun a Y => ab (hK83 _ _ <| ac fun K84 hK84 => ?_)
  refine aD Y rfl ?_
  refine aq <| hK84 _ _ <| ac fun K85 hK85 => ap <| aa fun K86 hK86 => wlv Y ((ak (i := 1) (sT := 41) (U.ow 0 rfl) rfl rfl (runUnderlying41 _) (sizeOf3 _) om sm).as (v' := slAddr (.slice (some ⟨w96.hz, 0, none⟩) 2 2) (1 * 1)) rfl) fun a Y => wlv Y (ax (u := iv (1 + (pickI kind 3))) (i := 1) (j := 0) (U.ow 0 rfl) sm rfl (isAgg3 _) rfx) fun a Y => wla Y rfl fun a Y => ab (hK86 _ _ <| ac fun K87 hK87 => ?_)
  refine aO kr (aP kr fun w103 hxz => ?_)
  replace U := U.grow hxz
  refine aS (k := 0) 7 [3, 4, 5, 6] Y kr kr kr rfx ?_
  replace Y := Y.p20 4 5 6 8 12 19 7 78 79 80 22 146 147 173 174 148 149 150 151 33 rfl
  refine aA [] (fun i => match i with | _ => fun _ _ => False) 7 [[], [], [], [0, 1, 2], [], [], []] [.agg #[iv ob, lv3], iv (1 + (pickI kind 3)), iv at_, iv (findH ob lbt (1 + (pickI kind 3)) at_), .agg #[iv ob, lv3], iv (1 + (pickI kind 3)), iv at_] Y U kr kr kr ?_ ?_ ?_
  ·intro i hi hiq
   match i, hi, hiq with
   | 0, _, _ => exact fun w U => OpV.g (aj (U.g 1 rfl) rfl (isAgg25 _) (sizeOf25 _))
   | 1, _, _ => exact fun w U => OpV.g (ai rfl)
   | 2, _, _ => exact fun w U => OpV.g (ai rfl)
   | 3, _, _ => exact fun w U => aT call20 rfl (bU ob lv3 lbt (1 + (pickI kind 3)) at_ _ (U.ow 2 rfl))
   | 4, _, _ => exact fun w U => OpV.g (aj (U.g 1 rfl) rfl (isAgg25 _) (sizeOf25 _))
   | 5, _, _ => exact fun w U => OpV.g (ai rfl)
   | 6, _, _ => exact fun w U => OpV.g (ai rfl)
  ·intro i hi
   exact absurd hi sm
  clear Y U
  intro  a w104 Y U
  replace Y : Fr 284 [(152, .agg #[iv ob, lv3]), (153, iv (1 + (pickI kind 3))), (154, iv at_), (155, iv (findH ob lbt (1 + (pickI kind 3)) at_)), (156, .agg #[iv ob, lv3]), (157, iv (1 + (pickI kind 3))), (158, iv at_), (4, _), (5, _), (6, _), (8, _), (12, _), (19, _), (7, _), (78, _), (79, _), (80, _), (22, _), (146, _), (147, _), (173, _), (174, _), (148, _), (149, _), (150, _), (151, _), (33, _)] [] a := Y
  refine ab <| aQ (k := 7) 10 [9] kr kr kr ?_
  refine am Y U de call21 rfl (bZ ob lv3 lbt (1 + (pickI kind 3)) at_ _ (U.ow 2 rfl)) ?_
  clear Y U
  intro a w105 Y U
  refine wlv Y ((v_ne rfl rfl).asb (b' := false) sm) fun a Y => wlm Y rfl fun a Y => ab <| aS (k := 10) 19 [15, 16, 18] Y kr kr kr rfx ?_
  replace Y := Y.p30 4 5 6 8 12 19 7 78 79 80 22 146 147 173 174 148 149 150 151 33 152 153 154 155 156 157 158 159 160 161 rfl
  refine aA [] (fun i => match i with | _ => fun _ _ => False) 9 [[], [], [], [2], [0, 1, 3], [], [], [], [7]] [.agg #[iv ob, lv3], iv (1 + (pickI kind 3)), iv at_, iv (pickI at_ 300), iv (findH ob lbt (1 + (pickI kind 3)) (pickI at_ 300)), .agg #[iv ob, lv3], iv (1 + (pickI kind 3)), iv at_, iv (pickI at_ 300)] Y U kr kr kr ?_ ?_ ?_
  ·intro i hi hiq
   match i, hi, hiq with
   | 0, _, _ => exact fun w U => OpV.g (aj (U.g 1 rfl) rfl (isAgg25 _) (sizeOf25 _))
   | 1, _, _ => exact fun w U => OpV.g (ai rfl)
   | 2, _, _ => exact fun w U => OpV.g (ai rfl)
   | 3, _, _ => exact fun w U => aT call19 rfl (bK at_ 300 _ (by first | assumption | (unfold i64 at *; omega) | omega) om)
   | 4, _, _ => exact fun w U => aT call20 rfl (bU ob lv3 lbt (1 + (pickI kind 3)) (pickI at_ 300) _ (U.ow 2 rfl))
   | 5, _, _ => exact fun w U => OpV.g (aj (U.g 1 rfl) rfl (isAgg25 _) (sizeOf25 _))
   | 6, _, _ => exact fun w U => OpV.g (ai rfl)
   | 7, _, _ => exact fun w U => OpV.g (ai rfl)
   | 8, _, _ => exact fun w U => aT call19 rfl (bK at_ 300 _ (by first | assumption | (unfold i64 at *; omega) | omega) om)
  ·intro i hi
   exact absurd hi sm
  clear Y U
  intro  a w106 Y U
  replace Y : Fr 284 [(162, .agg #[iv ob, lv3]), (163, iv (1 + (pickI kind 3))), (164, iv at_), (165, iv (pickI at_ 300)), (166, iv (findH ob lbt (1 + (pickI kind 3)) (pickI at_ 300))), (167, .agg #[iv ob, lv3]), (168, iv (1 + (pickI kind 3))), (169, iv at_), (170, iv (pickI at_ 300)), (4, _), (5, _), (6, _), (8, _), (12, _), (19, _), (7, _), (78, _), (79, _), (80, _), (22, _), (146, _), (147, _), (173, _), (174, _), (148, _), (149, _), (150, _), (151, _), (33, _), (152, _), (153, _), (154, _), (155, _), (156, _), (157, _), (158, _), (159, _), (160, _), (161, _)] [] a := Y
  refine ab <| aQ (k := 19) 22 [21] kr kr kr ?_
  refine aR Y U de rfl de rfl call21 rfl (bZ ob lv3 lbt (1 + (pickI kind 3)) (pickI at_ 300) _ (U.ow 2 rfl)) ?_
  clear Y U
  intro a w107 Y U
  refine wly Y ((v_ne rfl rfl).asb (b' := false) sm) fun a Y => wlv Y (aw rfl rfl) fun a Y => ab <| bd kr ?_
  refine hK87 _ _ ?_
  replace Y := Y.p15 4 5 6 8 12 19 7 78 79 80 22 146 147 148 173 rfl
  refine aE Y rfl ?_
  refine aq <| hK85 _ _ <| ao <| wlv Y ((aM rfl rfl de).asi (m' := 2) rfl) fun a Y => wlm Y rfl fun a Y => ab <| ba ?_
  refine aa fun K88 hK88 => wlv Y ((v_lt rfl rfl).asb (b' := false) rfl) fun a Y => ab (hK88 _ _ <| ac fun K89 hK89 => ?_)
  refine aE Y rfl ?_
  refine aL <| hK76 _ _ <| aa fun K90 hK90 => wla Y rfl fun a Y => ab (hK90 _ _ ?_)
  replace Y := Y.p12 4 5 6 8 12 19 7 78 79 80 22 34 rfl
  replace U := U.k6 126 rfl
  refine ap <| aV (fun m a w => ∃ (i : Nat), m = lbt.length - i ∧ (i ≤ lbt.length) ∧ Fr 284 [(4, iv how), (5, iv n), (6, iv at_), (8, iv kind), (12, pq w1.hz), (19, .bool true), (7, sv tx), (78, (.slice (some ⟨b5, 0, none⟩) 3 3)), (79, iv 3), (80, iv 1), (22, pq w69.hz), (34, iv (i : Int))] [] a ∧ St No w0 [blk w69.hz [iv ob, lv3] 25, own lv3 27 5 ((lbt).map Rec.cells), own lv4 27 5 ((lu).map Rec.cells), own (.slice (some ⟨b5, 0, none⟩) 3 3) 25 2 ([[iv o, lv1], [iv ob, lv3], [iv ro, lv4]]), own lv1 27 5 ((l).map Rec.cells), blk w1.hz [iv od.t, iv od.kind, iv od.a, iv od.b, sv od.text] 27] w) _ ⟨0, rfl, Nat.zero_le _, Y.pick [4, 5, 6, 8, 12, 19, 7, 78, 79, 80, 22, 34], U.select [0, 1, 2, 3, 4, 5] de⟩ ?_
  rintro _ a w108 ⟨i, rfl, hi, Y, U⟩
  refine ac fun K91 hK91 => aa fun K92 hK92 => wlm Y rfl fun a Y => wlv Y (al (v := po w69.hz 1) rfl kr) fun a Y => wlv Y (ld U 0 rfl rfl (isAgg23 _) rfl) fun a Y => wlv Y ((aK (sT := 23) (U.ow 1 rfl) rfl rfl (runUnderlying23 _)).asi (m' := (lbt.length : Int)) (by rw [List.length_map])) fun a Y => wlv Y (v_lt rfl rfl) fun a Y => ab (hK92 _ _ ?_)
  refine az Y rfl (fun hc23 => ?_) (fun hc23 => ?_)
  ·rw [hc23] at Y
   try simp only [qz] at hc23
   have hix : i < lbt.length := by omega
   have hel := gc (lbt.getD i Rec.z)
   refine aq <| hK91 _ _ <| ac fun K93 hK93 => ap <| aa fun K94 hK94 => wlv Y (al (v := po w69.hz 1) rfl kr) fun a Y => wlv Y (ld U 0 rfl rfl (isAgg23 _) rfl) fun a Y => wlm Y rfl fun a Y => wlv Y ((ak (i := (i : Int)) (sT := 23) (U.ow 1 rfl) rfl rfl (runUnderlying23 _) (sizeOf27 _) om (by rw [List.length_map]; omega)).as (v' := slAddr lv3 (i * 5)) rfl) fun a Y => wlv Y ((bt (U.ow 1 rfl) (i := i) (by rw [List.length_map]; omega) rfl (isAgg27 _) (sizeOf27 _)).as (v' := .agg #[iv ((lbt.getD i Rec.z).t), iv ((lbt.getD i Rec.z).kind), iv ((lbt.getD i Rec.z).a), iv ((lbt.getD i Rec.z).b), sv ((lbt.getD i Rec.z).text)]) (by rw [br Rec.z]; rfl)) fun a Y => am Y U de call22 rfl (dN (lbt.getD i Rec.z) _) ?_
   clear Y U
   intro a w109 Y U
   refine wlm Y rfl fun a Y => wlv Y (ag rfl rfl) fun a Y => wlv Y (ag rfl rfl) fun a Y => wla Y rfl fun a Y => wla Y rfl fun a Y => ab (hK94 _ _ ?_)
   replace Y := Y.p14 4 5 6 8 12 19 7 78 79 80 22 34 35 36 rfl
   refine aa fun K95 hK95 => wlv Y (al (v := po w69.hz 1) rfl kr) fun a Y => wlv Y (ld U 0 rfl rfl (isAgg23 _) rfl) fun a Y => wlm Y rfl fun a Y => wlv Y ((ak (i := (i : Int)) (sT := 23) (U.ow 1 rfl) rfl rfl (runUnderlying23 _) (sizeOf27 _) om (by rw [List.length_map]; omega)).as (v' := slAddr lv3 (i * 5)) rfl) fun a Y => wlv Y ((bt (U.ow 1 rfl) (i := i) (by rw [List.length_map]; omega) rfl (isAgg27 _) (sizeOf27 _)).as (v' := .agg #[iv ((lbt.getD i Rec.z).t), iv ((lbt.getD i Rec.z).kind), iv ((lbt.getD i Rec.z).a), iv ((lbt.getD i Rec.z).b), sv ((lbt.getD i Rec.z).text)]) (by rw [br Rec.z]; rfl)) fun a Y => am Y U de call23 rfl (eX (lbt.getD i Rec.z) _) ?_
   clear Y U
   intro a w110 Y U
   refine wlm Y rfl fun a Y => wlv Y (ag rfl rfl) fun a Y => wlv Y (ag rfl rfl) fun a Y => wla Y rfl fun a Y => wla Y rfl fun a Y => ab (hK95 _ _ ?_)
   replace Y := Y.p16 4 5 6 8 12 19 7 78 79 80 22 34 35 36 37 38 rfl
   refine ac fun K96 hK96 => aa fun K97 hK97 => wlm Y rfl fun a Y => wlm Y rfl fun a Y => wlv Y ((jX rfl rfl).asb (b' := false) sm) fun a Y => wlm Y rfl fun a Y => wly Y (ai rfl) fun a Y => wly Y (ai rfl) fun a Y => wly Y ((v_ne rfl rfl).asb (b' := false) sm) fun a Y => wlv Y (aw rfl rfl) fun a Y => ab (hK97 _ _ ?_)
   replace Y := Y.p14 4 5 6 8 12 19 7 78 79 80 22 34 37 207 rfl
   refine aE Y rfl ?_
   refine aq <| hK96 _ _ <| aa fun K98 hK98 => wlm Y rfl fun a Y => wlm Y rfl fun a Y => wlm Y rfl fun a Y => wlv Y (cZ rfl rfl (by first | omega | (simp only [List.length_append]; omega))) fun a Y => wlm Y rfl fun a Y => wlm Y rfl fun a Y => wlv Y (aW rfl rfl (runUnderlying9 _)) fun a Y => wlv Y (mI rfl rfl om om om) fun a Y => wlv Y ((bS (xs := eB (lbt.getD i Rec.z)) (l := 0) (h := (((eB (lbt.getD i Rec.z)).length : Int) / 2).toNat) rfl rfl rfl underlying9 (.inl ⟨rfl, rfl⟩) (.inr (by rw [show (((eB (lbt.getD i Rec.z)).length : Int) / 2 : Int) = (((((eB (lbt.getD i Rec.z)).length : Int) / 2).toNat : Nat) : Int) from by omega] <;> rfl)) om (by first | omega | exact Nat.min_le_left _ _)).as (v' := sv ((eB (lbt.getD i Rec.z)).take ((((eB (lbt.getD i Rec.z)).length : Int) / 2).toNat))) rfl) fun a Y => aG (E := 9) (sz := 1) rfl [[sv (eB (lbt.getD i Rec.z))], [sv ((eB (lbt.getD i Rec.z)) ++ tx)], [sv ((eB (lbt.getD i Rec.z)).take ((((eB (lbt.getD i Rec.z)).length : Int) / 2).toNat))]] kr sm rfl de de Y U ?_
   clear Y U
   intro a w111 Y U
   refine wlv Y ((aK (sT := 45) (U.ow 0 rfl) rfl rfl (runUnderlying45 _)).asi (m' := 3) rfx) fun a Y => wlm Y rfl fun a Y => ab (hK98 _ _ ?_)
   replace Y := Y.p15 4 5 6 8 12 19 7 78 79 80 22 34 217 218 219 rfl
   refine ap <| cb 4 ?_
   refine ba ?_
   refine aa fun K99 hK99 => wlv Y ((v_lt rfl rfl).asb (b' := true) rfl) fun a Y => ab (hK99 _ _ <| ac fun K100 hK100 => ?_)
   refine aD Y rfl ?_
   refine aq <| hK100 _ _ <| ac fun K101 hK101 => ap <| aa fun K102 hK102 => wlv Y ((ak (i := 0) (sT := 45) (U.ow 0 rfl) rfl rfl (runUnderlying45 _) (sizeOf9 _) om sm).as (v' := slAddr (.slice (some ⟨w110.hz, 0, none⟩) 3 3) (0 * 1)) rfl) fun a Y => wlv Y (ax (u := sv (eB (lbt.getD i Rec.z))) (i := 0) (j := 0) (U.ow 0 rfl) sm rfl (isAgg9 _) rfx) fun a Y => wla Y rfl fun a Y => ab (hK102 _ _ <| aa fun K103 hK103 => ?_)
   refine wlm Y rfl fun a Y => am Y U de call24 rfl (dj (eB (lbt.getD i Rec.z)) _ (by first | omega | (simp only [List.length_append, List.length_take]; omega))) ?_
   clear Y U
   intro a w112 Y U
   refine wlm Y rfl fun a Y => wlv Y (ag rfl rfl) fun a Y => wlv Y (ag rfl rfl) fun a Y => aC Y U de (zeroValue27 _) (cs := [iv 0, iv 0, iv 0, iv 0, .string (⟨#[]⟩)]) rfl ?_
   clear Y U
   intro a w113 Y U
   refine ay 0 Y U rfl rfl rfl (sizeOf27 _) rfl (lb rfl) (ds := [iv ((decX (eB (lbt.getD i Rec.z))).t), iv ((decX (eB (lbt.getD i Rec.z))).kind), iv ((decX (eB (lbt.getD i Rec.z))).a), iv ((decX (eB (lbt.getD i Rec.z))).b), sv ((decX (eB (lbt.getD i Rec.z))).text)]) rfl rfl ?_
   clear Y U
   intro a w114 Y U
   refine wla Y rfl fun a Y => ab (hK103 _ _ ?_)
   replace Y := Y.p18 4 5 6 8 12 19 7 78 79 80 22 34 217 218 219 40 41 42 rfl
   refine aa fun K104 hK104 => wlm Y rfl fun a Y => am Y U de call25 rfl (cO (eB (lbt.getD i Rec.z)) _ (by first | omega | (simp only [List.length_append, List.length_take]; omega))) ?_
   clear Y U
   intro a w115 Y U
   refine wlm Y rfl fun a Y => wlv Y (ag rfl rfl) fun a Y => wlv Y (ag rfl rfl) fun a Y => aC Y U de (zeroValue27 _) (cs := [iv 0, iv 0, iv 0, iv 0, .string (⟨#[]⟩)]) rfl ?_
   clear Y U
   intro a w116 Y U
   refine ay 0 Y U rfl rfl rfl (sizeOf27 _) rfl (lb rfl) (ds := [iv ((decX (eB (lbt.getD i Rec.z))).t), iv ((decX (eB (lbt.getD i Rec.z))).kind), iv ((decX (eB (lbt.getD i Rec.z))).a), iv ((decX (eB (lbt.getD i Rec.z))).b), sv ((decX (eB (lbt.getD i Rec.z))).text)]) rfl rfl ?_
   clear Y U
   intro a w117 Y U
   refine wla Y rfl fun a Y => ab (hK104 _ _ ?_)
   replace Y := Y.p19 4 5 6 8 12 19 7 78 79 80 22 34 217 218 219 41 42 43 44 rfl
   refine aa fun K105 hK105 => wlv Y (aj (U.g 1 rfl) rfl (isAgg27 _) (sizeOf27 _)) fun a Y => wlv Y (aj (U.g 0 rfl) rfl (isAgg27 _) (sizeOf27 _)) fun a Y => wlv Y ((cw rfl rfl kr (eqRec ((decX (eB (lbt.getD i Rec.z))).t) ((decX (eB (lbt.getD i Rec.z))).kind) ((decX (eB (lbt.getD i Rec.z))).a) ((decX (eB (lbt.getD i Rec.z))).b) ((decX (eB (lbt.getD i Rec.z))).text) ((decX (eB (lbt.getD i Rec.z))).t) ((decX (eB (lbt.getD i Rec.z))).kind) ((decX (eB (lbt.getD i Rec.z))).a) ((decX (eB (lbt.getD i Rec.z))).b) ((decX (eB (lbt.getD i Rec.z))).text) _)).asb (b' := false) sm) fun a Y => wlm Y rfl fun a Y => wly Y (ai rfl) fun a Y => wly Y (ai rfl) fun a Y => wly Y ((v_ne rfl rfl).asb (b' := false) sm) fun a Y => wlv Y (aw rfl rfl) fun a Y => ab (hK105 _ _ ?_)
   replace Y := Y.p16 4 5 6 8 12 19 7 78 79 80 22 34 217 218 219 240 rfl
   replace U := U.k7 508 rfl
   refine aE Y rfl ?_
   refine aq <| hK101 _ _ <| ao <| wlv Y ((aM rfl rfl de).asi (m' := 1) rfl) fun a Y => wlm Y rfl fun a Y => ab <| ba ?_
   refine aa fun K106 hK106 => wlv Y ((v_lt rfl rfl).asb (b' := true) rfl) fun a Y => ab (hK106 _ _ <| ac fun K107 hK107 => ?_)
   refine aD Y rfl ?_
   refine aq <| hK107 _ _ <| ac fun K108 hK108 => ap <| aa fun K109 hK109 => wlv Y ((ak (i := 1) (sT := 45) (U.ow 0 rfl) rfl rfl (runUnderlying45 _) (sizeOf9 _) om sm).as (v' := slAddr (.slice (some ⟨w110.hz, 0, none⟩) 3 3) (1 * 1)) rfl) fun a Y => wlv Y (ax (u := sv ((eB (lbt.getD i Rec.z)) ++ tx)) (i := 1) (j := 0) (U.ow 0 rfl) sm rfl (isAgg9 _) rfx) fun a Y => wla Y rfl fun a Y => ab (hK109 _ _ <| aa fun K110 hK110 => ?_)
   refine wlm Y rfl fun a Y => am Y U de call24 rfl (dj ((eB (lbt.getD i Rec.z)) ++ tx) _ (by first | omega | (simp only [List.length_append, List.length_take]; omega))) ?_
   clear Y U
   intro a w118 Y U
   refine wlm Y rfl fun a Y => wlv Y (ag rfl rfl) fun a Y => wlv Y (ag rfl rfl) fun a Y => aC Y U de (zeroValue27 _) (cs := [iv 0, iv 0, iv 0, iv 0, .string (⟨#[]⟩)]) rfl ?_
   clear Y U
   intro a w119 Y U
   refine ay 0 Y U rfl rfl rfl (sizeOf27 _) rfl (lb rfl) (ds := [iv ((decX ((eB (lbt.getD i Rec.z)) ++ tx)).t), iv ((decX ((eB (lbt.getD i Rec.z)) ++ tx)).kind), iv ((decX ((eB (lbt.getD i Rec.z)) ++ tx)).a), iv ((decX ((eB (lbt.getD i Rec.z)) ++ tx)).b), sv ((decX ((eB (lbt.getD i Rec.z)) ++ tx)).text)]) rfl rfl ?_
   clear Y U
   intro a w120 Y U
   refine wla Y rfl fun a Y => ab (hK110 _ _ ?_)
   replace Y := Y.p18 4 5 6 8 12 19 7 78 79 80 22 34 217 218 219 40 41 42 rfl
   refine aa fun K111 hK111 => wlm Y rfl fun a Y => am Y U de call25 rfl (cO ((eB (lbt.getD i Rec.z)) ++ tx) _ (by first | omega | (simp only [List.length_append, List.length_take]; omega))) ?_
   clear Y U
   intro a w121 Y U
   refine wlm Y rfl fun a Y => wlv Y (ag rfl rfl) fun a Y => wlv Y (ag rfl rfl) fun a Y => aC Y U de (zeroValue27 _) (cs := [iv 0, iv 0, iv 0, iv 0, .string (⟨#[]⟩)]) rfl ?_
   clear Y U
   intro a w122 Y U
   refine ay 0 Y U rfl rfl rfl (sizeOf27 _) rfl (lb rfl) (ds := [iv ((decX ((eB (lbt.getD i Rec.z)) ++ tx)).t), iv ((decX ((eB (lbt.getD i Rec.z)) ++ tx)).kind), iv ((decX ((eB (lbt.getD i Rec.z)) ++ tx)).a), iv ((decX ((eB (lbt.getD i Rec.z)) ++ tx)).b), sv ((decX ((eB (lbt.getD i Rec.z)) ++ tx)).text)]) rfl rfl ?_
   clear Y U
   intro a w123 Y U
   refine wla Y rfl fun a Y => ab (hK111 _ _ ?_)
   replace Y := Y.p19 4 5 6 8 12 19 7 78 79 80 22 34 217 218 219 41 42 43 44 rfl
   refine aa fun K112 hK112 => wlv Y (aj (U.g 1 rfl) rfl (isAgg27 _) (sizeOf27 _)) fun a Y => wlv Y (aj (U.g 0 rfl) rfl (isAgg27 _) (sizeOf27 _)) fun a Y => wlv Y ((cw rfl rfl kr (eqRec ((decX ((eB (lbt.getD i Rec.z)) ++ tx)).t) ((decX ((eB (lbt.getD i Rec.z)) ++ tx)).kind) ((decX ((eB (lbt.getD i Rec.z)) ++ tx)).a) ((decX ((eB (lbt.getD i Rec.z)) ++ tx)).b) ((decX ((eB (lbt.getD i Rec.z)) ++ tx)).text) ((decX ((eB (lbt.getD i Rec.z)) ++ tx)).t) ((decX ((eB (lbt.getD i Rec.z)) ++ tx)).kind) ((decX ((eB (lbt.getD i Rec.z)) ++ tx)).a) ((decX ((eB (lbt.getD i Rec.z)) ++ tx)).b) ((decX ((eB (lbt.getD i Rec.z)) ++ tx)).text) _)).asb (b' := false) sm) fun a Y => wlm Y rfl fun a Y => wly Y (ai rfl) fun a Y => wly Y (ai rfl) fun a Y => wly Y ((v_ne rfl rfl).asb (b' := false) sm) fun a Y => wlv Y (aw rfl rfl) fun a Y => ab (hK112 _ _ ?_)
   replace Y := Y.p16 4 5 6 8 12 19 7 78 79 80 22 34 217 218 219 240 rfl
   replace U := U.k7 508 rfl
   refine aE Y rfl ?_
   refine aq <| hK108 _ _ <| ao <| wlv Y ((aM rfl rfl de).asi (m' := 2) rfl) fun a Y => wlm Y rfl fun a Y => ab <| ba ?_
   refine aa fun K113 hK113 => wlv Y ((v_lt rfl rfl).asb (b' := true) rfl) fun a Y => ab (hK113 _ _ <| ac fun K114 hK114 => ?_)
   refine aD Y rfl ?_
   refine aq <| hK114 _ _ <| ac fun K115 hK115 => ap <| aa fun K116 hK116 => wlv Y ((ak (i := 2) (sT := 45) (U.ow 0 rfl) rfl rfl (runUnderlying45 _) (sizeOf9 _) om sm).as (v' := slAddr (.slice (some ⟨w110.hz, 0, none⟩) 3 3) (2 * 1)) rfl) fun a Y => wlv Y (ax (u := sv ((eB (lbt.getD i Rec.z)).take ((((eB (lbt.getD i Rec.z)).length : Int) / 2).toNat))) (i := 2) (j := 0) (U.ow 0 rfl) sm rfl (isAgg9 _) rfx) fun a Y => wla Y rfl fun a Y => ab (hK116 _ _ <| aa fun K117 hK117 => ?_)
   refine wlm Y rfl fun a Y => am Y U de call24 rfl (dj ((eB (lbt.getD i Rec.z)).take ((((eB (lbt.getD i Rec.z)).length : Int) / 2).toNat)) _ (by first | omega | (simp only [List.length_append, List.length_take]; omega))) ?_
   clear Y U
   intro a w124 Y U
   refine wlm Y rfl fun a Y => wlv Y (ag rfl rfl) fun a Y => wlv Y (ag rfl rfl) fun a Y => aC Y U de (zeroValue27 _) (cs := [iv 0, iv 0, iv 0, iv 0, .string (⟨#[]⟩)]) rfl ?_
   clear Y U
   intro a w125 Y U
   refine ay 0 Y U rfl rfl rfl (sizeOf27 _) rfl (lb rfl) (ds := [iv ((decX ((eB (lbt.getD i Rec.z)).take ((((eB (lbt.getD i Rec.z)).length : Int) / 2).toNat))).t), iv ((decX ((eB (lbt.getD i Rec.z)).take ((((eB (lbt.getD i Rec.z)).length : Int) / 2).toNat))).kind), iv ((decX ((eB (lbt.getD i Rec.z)).take ((((eB (lbt.getD i Rec.z)).length : Int) / 2).toNat))).a), iv ((decX ((eB (lbt.getD i Rec.z)).take ((((eB (lbt.getD i Rec.z)).length : Int) / 2).toNat))).b), sv ((decX ((eB (lbt.getD i Rec.z)).take ((((eB (lbt.getD i Rec.z)).length : Int) / 2).toNat))).text)]) rfl rfl ?_
   clear Y U
   intro a w126 Y U
   refine wla Y rfl fun a Y => ab (hK117 _ _ ?_)
   replace Y := Y.p18 4 5 6 8 12 19 7 78 79 80 22 34 217 218 219 40 41 42 rfl
   refine aa fun K118 hK118 => wlm Y rfl fun a Y => am Y U de call25 rfl (cO ((eB (lbt.getD i Rec.z)).take ((((eB (lbt.getD i Rec.z)).length : Int) / 2).toNat)) _ (by first | omega | (simp only [List.length_append, List.length_take]; omega))) ?_
   clear Y U
   intro a w127 Y U
   refine wlm Y rfl fun a Y => wlv Y (ag rfl rfl) fun a Y => wlv Y (ag rfl rfl) fun a Y => aC Y U de (zeroValue27 _) (cs := [iv 0, iv 0, iv 0, iv 0, .string (⟨#[]⟩)]) rfl ?_
   clear Y U
   intro a w128 Y U
   refine ay 0 Y U rfl rfl rfl (sizeOf27 _) rfl (lb rfl) (ds := [iv ((decX ((eB (lbt.getD i Rec.z)).take ((((eB (lbt.getD i Rec.z)).length : Int) / 2).toNat))).t), iv ((decX ((eB (lbt.getD i Rec.z)).take ((((eB (lbt.getD i Rec.z)).length : Int) / 2).toNat))).kind), iv ((decX ((eB (lbt.getD i Rec.z)).take ((((eB (lbt.getD i Rec.z)).length : Int) / 2).toNat))).a), iv ((decX ((eB (lbt.getD i Rec.z)).take ((((eB (lbt.getD i Rec.z)).length : Int) / 2).toNat))).b), sv ((decX ((eB (lbt.getD i Rec.z)).take ((((eB (lbt.getD i Rec.z)).length : Int) / 2).toNat))).text)]) rfl rfl ?_
   clear Y U
   intro a w129 Y U
   refine wla Y rfl fun a Y => ab (hK118 _ _ ?_)
   replace Y := Y.p19 4 5 6 8 12 19 7 78 79 80 22 34 217 218 219 41 42 43 44 rfl
   refine aa fun K119 hK119 => wlv Y (aj (U.g 1 rfl) rfl (isAgg27 _) (sizeOf27 _)) fun a Y => wlv Y (aj (U.g 0 rfl) rfl (isAgg27 _) (sizeOf27 _)) fun a Y => wlv Y ((cw rfl rfl kr (eqRec ((decX ((eB (lbt.getD i Rec.z)).take ((((eB (lbt.getD i Rec.z)).length : Int) / 2).toNat))).t) ((decX ((eB (lbt.getD i Rec.z)).take ((((eB (lbt.getD i Rec.z)).length : Int) / 2).toNat))).kind) ((decX ((eB (lbt.getD i Rec.z)).take ((((eB (lbt.getD i Rec.z)).length : Int) / 2).toNat))).a) ((decX ((eB (lbt.getD i Rec.z)).take ((((eB (lbt.getD i Rec.z)).length : Int) / 2).toNat))).b) ((decX ((eB (lbt.getD i Rec.z)).take ((((eB (lbt.getD i Rec.z)).length : Int) / 2).toNat))).text) ((decX ((eB (lbt.getD i Rec.z)).take ((((eB (lbt.getD i Rec.z)).length : Int) / 2).toNat))).t) ((decX ((eB (lbt.getD i Rec.z)).take ((((eB (lbt.getD i Rec.z)).length : Int) / 2).toNat))).kind) ((decX ((eB (lbt.getD i Rec.z)).take ((((eB (lbt.getD i Rec.z)).length : Int) / 2).toNat))).a) ((decX ((eB (lbt.getD i Rec.z)).take ((((eB (lbt.getD i Rec.z)).length : Int) / 2).toNat))).b) ((decX ((eB (lbt.getD i Rec.z)).take ((((eB (lbt.getD i Rec.z)).length : Int) / 2).toNat))).text) _)).asb (b' := false) sm) fun a Y => wlm Y rfl fun a Y => wly Y (ai rfl) fun a Y => wly Y (ai rfl) fun a Y => wly Y ((v_ne rfl rfl).asb (b' := false) sm) fun a Y => wlv Y (aw rfl rfl) fun a Y => ab (hK119 _ _ ?_)
   replace Y := Y.p16 4 5 6 8 12 19 7 78 79 80 22 34 217 218 219 240 rfl
   replace U := U.k7 508 rfl
   refine aE Y rfl ?_
   refine aq <| hK115 _ _ <| ao <| wlv Y ((aM rfl rfl de).asi (m' := 3) rfl) fun a Y => wlm Y rfl fun a Y => ab <| ba ?_
   refine aa fun K120 hK120 => wlv Y ((v_lt rfl rfl).asb (b' := false) rfl) fun a Y => ab (hK120 _ _ <| ac fun K121 hK121 => ?_)
   refine aE Y rfl ?_
   refine aL <| hK93 _ _ <| ao <| wlm Y rfl fun a Y => wlv Y (aM rfl rfl ⟨om, om⟩) fun a Y => wla Y rfl fun a Y => ab ?_
   refine ⟨_, ?_, i + 1, rfl, om, Y.pick [4, 5, 6, 8, 12, 19, 7, 78, 79, 80, 22, 34], U.select [1, 2, 3, 4, 5, 6] de⟩
   omega
  rw [hc23] at Y
  try simp only [qz] at hc23
  refine aL ?_
  exact ⟨Y.pick [4, 5, 6, 8, 12, 19, 7, 78, 79, 80], U.select [1, 2, 3, 4, 5] de⟩
 rintro a w130 ⟨Y, U⟩
 refine hK67 _ _ <| ao <| wlv Y ((aM rfl rfl de).asi (m' := 2) rfl) fun a Y => wlm Y rfl fun a Y => ab <| ba ?_
 refine aa fun K122 hK122 => wlv Y ((v_lt rfl rfl).asb (b' := true) rfl) fun a Y => ab (hK122 _ _ <| ac fun K123 hK123 => ?_)
 refine aD Y rfl ?_
 refine aq <| hK123 _ _ <| ac fun K124 hK124 => ?_
 refine fN (fun a w => Fr 284 [(4, iv how), (5, iv n), (6, iv at_), (8, iv kind), (12, pq w1.hz), (19, .bool true), (7, sv tx), (78, (.slice (some ⟨b5, 0, none⟩) 3 3)), (79, iv 3), (80, iv 2)] [] a ∧ St No w0 [own lv3 27 5 ((lbt).map Rec.cells), own lv4 27 5 ((lu).map Rec.cells), own (.slice (some ⟨b5, 0, none⟩) 3 3) 25 2 ([[iv o, lv1], [iv ob, lv3], [iv ro, lv4]]), own lv1 27 5 ((l).map Rec.cells), blk w1.hz [iv od.t, iv od.kind, iv od.a, iv od.b, sv od.text] 27] w) ?_ ?_
 ·refine ap <| aa fun K125 hK125 => wlv Y ((ak (i := 2) (sT := 32) (U.ow 2 rfl) rfl rfl (runUnderlying32 _) (sizeOf25 _) om sm).as (v' := slAddr (.slice (some ⟨b5, 0, none⟩) 3 3) (2 * 2)) rfl) fun a Y => wlv Y ((bt (U.ow 2 rfl) (i := 2) sm rfl (isAgg25 _) (sizeOf25 _)).as (v' := .agg #[iv ro, lv4]) rfx) fun a Y => aC Y U de (zeroValue25 _) (cs := [iv 0, .slice none 0 0]) rfl ?_
  clear Y U
  intro a w131 Y U
  refine aJ (us := [iv ro, lv4]) 0 Y U rfl rfl rfl (sizeOf25 _) (by intro z hz; simp only [List.mem_cons, List.not_mem_nil, or_false] at hz; rcases hz with rfl | rfl <;> first | rfl | exact SlAt.one (U.ow 2 rfl)) (lb rfl) (ds := [iv ro, lv4]) rfl rfl ?_
  clear Y U
  intro a w132 Y U
  refine ab (hK125 _ _ <| aa fun K126 hK126 => ?_)
  refine wlv Y (aj (U.g 0 rfl) rfl (isAgg25 _) (sizeOf25 _)) fun a Y => wlv Y (aj (U.g 5 rfl) rfl (isAgg27 _) (sizeOf27 _)) fun a Y => aX Y U de call13 rfl (dE ro lv4 lu od _ (U.ow 2 rfl) om) ?_
  clear Y U
  intro a w133 x25 hp Y U
  revert x25 hp Y U; rintro mv24 hp Y U
  clear hp
  replace U : St No w0 [_, _, _, _, _, _, _] w133 := U
  refine wlm Y rfl fun a Y => wlv Y (ag rfl rfl) fun a Y => wlv Y (ag rfl rfl) fun a Y => aC Y U de (zeroValue25 _) (cs := [iv 0, .slice none 0 0]) rfl ?_
  clear Y U
  intro a w134 Y U
  refine aJ (us := [iv (addO ro lu od), mv24]) 0 Y U rfl rfl rfl (sizeOf25 _) (by intro z hz; simp only [List.mem_cons, List.not_mem_nil, or_false] at hz; rcases hz with rfl | rfl <;> first | rfl | exact SlAt.one (U.ow 1 rfl)) (lb rfl) (ds := [iv (addO ro lu od), mv24]) rfl rfl ?_
  clear Y U
  intro a w135 Y U
  refine wla Y rfl fun a Y => ab (hK126 _ _ ?_)
  replace Y := Y.p13 4 5 6 8 12 19 7 78 79 80 22 23 24 rfl
  refine aa fun K127 hK127 => wlv Y (aj (U.g 2 rfl) rfl (isAgg25 _) (sizeOf25 _)) fun a Y => wlv Y (aj (U.g 7 rfl) rfl (isAgg27 _) (sizeOf27 _)) fun a Y => aX Y U de call14 rfl (dI ro lv4 lu od _ (U.ow 4 rfl) om) ?_
  clear Y U
  intro a w136 x27 hp Y U
  revert x27 hp Y U; rintro mv26 hp Y U
  clear hp
  replace U : St No w0 [_, _, _, _, _, _, _, _, _] w136 := U
  refine wlm Y rfl fun a Y => wlv Y (ag rfl rfl) fun a Y => wlv Y (ag rfl rfl) fun a Y => aC Y U de (zeroValue25 _) (cs := [iv 0, .slice none 0 0]) rfl ?_
  clear Y U
  intro a w137 Y U
  refine aJ (us := [iv (addO ro lu od), mv26]) 0 Y U rfl rfl rfl (sizeOf25 _) (by intro z hz; simp only [List.mem_cons, List.not_mem_nil, or_false] at hz; rcases hz with rfl | rfl <;> first | rfl | exact SlAt.one (U.ow 1 rfl)) (lb rfl) (ds := [iv (addO ro lu od), mv26]) rfl rfl ?_
  clear Y U
  intro a w138 Y U
  refine wla Y rfl fun a Y => ab (hK127 _ _ ?_)
  replace Y := Y.p15 4 5 6 8 12 19 7 78 79 80 22 23 24 25 26 rfl
  refine aa fun K128 hK128 => wlm Y rfl fun a Y => wlm Y rfl fun a Y => wlm Y rfl fun a Y => wlm Y rfl fun a Y => wlm Y rfl fun a Y => wlv Y (aZ (v := .agg #[iv kind, iv n, iv how, iv at_]) rfl kr) fun a Y => am Y U de call15 rfl (eh at_ kind n how at_ _ (by assumption) (by assumption) (by assumption) (by assumption) (by assumption)) ?_
  clear Y U
  intro a w139 Y U
  refine aC Y U de (zeroValue27 _) (cs := [iv 0, iv 0, iv 0, iv 0, .string (⟨#[]⟩)]) rfl ?_
  clear Y U
  intro a w140 Y U
  refine ay 0 Y U rfl rfl rfl (sizeOf27 _) rfl (lb rfl) (ds := [iv ((entR at_ kind n how at_).t), iv ((entR at_ kind n how at_).kind), iv ((entR at_ kind n how at_).a), iv ((entR at_ kind n how at_).b), sv ((entR at_ kind n how at_).text)]) rfl rfl ?_
  clear Y U
  intro a w141 Y U
  refine ab (hK128 _ _ ?_)
  replace Y := Y.p16 4 5 6 8 12 19 7 78 79 80 22 23 24 25 26 27 rfl
  refine aa fun K129 hK129 => wlv Y (aj (U.g 5 rfl) rfl (isAgg25 _) (sizeOf25 _)) fun a Y => wlv Y (aj (U.g 0 rfl) rfl (isAgg27 _) (sizeOf27 _)) fun a Y => aX Y U de call13 rfl (dE ro lv4 lu (entR at_ kind n how at_) _ (U.ow 7 rfl) om) ?_
  clear Y U
  intro a w142 x29 hp Y U
  revert x29 hp Y U; rintro mv28 hp Y U
  clear hp
  replace U : St No w0 [_, _, _, _, _, _, _, _, _, _, _, _] w142 := U
  refine wlm Y rfl fun a Y => wlv Y (ag rfl rfl) fun a Y => wlv Y (ag rfl rfl) fun a Y => aC Y U de (zeroValue25 _) (cs := [iv 0, .slice none 0 0]) rfl ?_
  clear Y U
  intro a w143 Y U
  refine aJ (us := [iv (addO ro lu (entR at_ kind n how at_)), mv28]) 0 Y U rfl rfl rfl (sizeOf25 _) (by intro z hz; simp only [List.mem_cons, List.not_mem_nil, or_false] at hz; rcases hz with rfl | rfl <;> first | rfl | exact SlAt.one (U.ow 1 rfl)) (lb rfl) (ds := [iv (addO ro lu (entR at_ kind n how at_)), mv28]) rfl rfl ?_
  clear Y U
  intro a w144 Y U
  refine wla Y rfl fun a Y => ab (hK129 _ _ ?_)
  replace Y := Y.p18 4 5 6 8 12 19 7 78 79 80 22 23 24 25 26 27 28 29 rfl
  refine aa fun K130 hK130 => wlv Y (aj (U.g 7 rfl) rfl (isAgg25 _) (sizeOf25 _)) fun a Y => wlv Y (aj (U.g 2 rfl) rfl (isAgg27 _) (sizeOf27 _)) fun a Y => aX Y U de call14 rfl (dI ro lv4 lu (entR at_ kind n how at_) _ (U.ow 9 rfl) om) ?_
  clear Y U
  intro a w145 x31 hp Y U
  revert x31 hp Y U; rintro mv30 hp Y U
  clear hp
  replace U : St No w0 [_, _, _, _, _, _, _, _, _, _, _, _, _, _] w145 := U
  refine wlm Y rfl fun a Y => wlv Y (ag rfl rfl) fun a Y => wlv Y (ag rfl rfl) fun a Y => aC Y U de (zeroValue25 _) (cs := [iv 0, .slice none 0 0]) rfl ?_
  clear Y U
  intro a w146 Y U
  refine aJ (us := [iv (addO ro lu (entR at_ kind n how at_)), mv30]) 0 Y U rfl rfl rfl (sizeOf25 _) (by intro z hz; simp only [List.mem_cons, List.not_mem_nil, or_false] at hz; rcases hz with rfl | rfl <;> first | rfl | exact SlAt.one (U.ow 1 rfl)) (lb rfl) (ds := [iv (addO ro lu (entR at_ kind n how at_)), mv30]) rfl rfl ?_
  clear Y U
  intro a w147 Y U
  refine wla Y rfl fun a Y => ab (hK130 _ _ ?_)
  replace Y := Y.p19 4 5 6 8 12 19 7 78 79 80 22 23 24 25 26 28 29 30 31 rfl
  replace U := U.k14 32751 rfl
  refine ac fun K131 hK131 => ac fun K132 hK132 => aO kr (aP kr fun w148 hxz => ?_)
  replace U := U.grow hxz
  refine aS (k := 0) 3 [1, 2] Y kr kr kr rfx ?_
  replace Y := Y.p19 4 5 6 8 12 19 7 78 79 80 22 23 24 25 26 28 29 30 31 rfl
  refine aA [] (fun i => match i with | _ => fun _ _ => False) 3 [[], [0], []] [.agg #[iv ro, lv4], .bool (logOk ro lu), .agg #[iv ro, lv4]] Y U kr kr kr ?_ ?_ ?_
  ·intro i hi hiq
   match i, hi, hiq with
   | 0, _, _ => exact fun w U => OpV.g (aj (U.g 8 rfl) rfl (isAgg25 _) (sizeOf25 _))
   | 1, _, _ => exact fun w U => aT call16 rfl (cX ro lv4 lu _ (U.ow 10 rfl))
   | 2, _, _ => exact fun w U => OpV.g (aj (U.g 8 rfl) rfl (isAgg25 _) (sizeOf25 _))
  ·intro i hi
   exact absurd hi sm
  clear Y U
  intro  a w149 Y U
  replace Y : Fr 284 [(115, .agg #[iv ro, lv4]), (116, .bool (logOk ro lu)), (117, .agg #[iv ro, lv4]), (4, _), (5, _), (6, _), (8, _), (12, _), (19, _), (7, _), (78, _), (79, _), (80, _), (22, _), (23, _), (24, _), (25, _), (26, _), (28, _), (29, _), (30, _), (31, _)] [] a := Y
  refine ab <| aQ (k := 3) 6 [5] kr kr kr ?_
  refine am Y U de call17 rfl (dr ro lv4 lu _ (U.ow 10 rfl)) ?_
  clear Y U
  intro a w150 Y U
  refine wlv Y ((ft rfl rfl underlying4).asb (b' := false) sm) fun a Y => wlm Y rfl fun a Y => ab <| aS (k := 6) 8 [6, 7] Y kr kr kr rfx ?_
  replace Y := Y.p25 4 5 6 8 12 19 7 78 79 80 22 23 24 25 26 28 29 30 31 115 116 117 118 119 120 rfl
  refine aA [] (fun i => match i with | _ => fun _ _ => False) 2 [[], []] [iv (addE ro lu od), iv (addE ro lu od)] Y U kr kr kr ?_ ?_ ?_
  ·intro i hi hiq
   match i, hi, hiq with
   | 0, _, _ => exact fun w U => OpV.g (ai rfl)
   | 1, _, _ => exact fun w U => OpV.g (ai rfl)
  ·intro i hi
   exact absurd hi sm
  clear Y U
  intro  a w151 Y U
  replace Y : Fr 284 [(121, iv (addE ro lu od)), (122, iv (addE ro lu od)), (4, _), (5, _), (6, _), (8, _), (12, _), (19, _), (7, _), (78, _), (79, _), (80, _), (22, _), (23, _), (24, _), (25, _), (26, _), (28, _), (29, _), (30, _), (31, _), (115, _), (116, _), (117, _), (118, _), (119, _), (120, _)] [] a := Y
  refine ab <| aQ (k := 8) 11 [10] kr kr kr ?_
  refine wly Y ((v_ne rfl rfl).asb (b' := false) sm) fun a Y => wlv Y (aw rfl rfl) fun a Y => wlm Y rfl fun a Y => ab <| aS (k := 11) 13 [11, 12] Y kr kr kr rfx ?_
  replace Y := Y.p30 4 5 6 8 12 19 7 78 79 80 22 23 24 25 26 28 29 30 31 115 116 117 118 119 120 121 122 123 124 125 rfl
  refine aA [] (fun i => match i with | _ => fun _ _ => False) 2 [[], []] [iv (addE ro lu (entR at_ kind n how at_)), iv (addE ro lu (entR at_ kind n how at_))] Y U kr kr kr ?_ ?_ ?_
  ·intro i hi hiq
   match i, hi, hiq with
   | 0, _, _ => exact fun w U => OpV.g (ai rfl)
   | 1, _, _ => exact fun w U => OpV.g (ai rfl)
  ·intro i hi
   exact absurd hi sm
  clear Y U
  intro  a w152 Y U
  replace Y : Fr 284 [(126, iv (addE ro lu (entR at_ kind n how at_))), (127, iv (addE ro lu (entR at_ kind n how at_))), (4, _), (5, _), (6, _), (8, _), (12, _), (19, _), (7, _), (78, _), (79, _), (80, _), (22, _), (23, _), (24, _), (25, _), (26, _), (28, _), (29, _), (30, _), (31, _), (115, _), (116, _), (117, _), (118, _), (119, _), (120, _), (121, _), (122, _), (123, _), (124, _), (125, _)] [] a := Y
  refine ab <| aQ (k := 13) 16 [15] kr kr kr ?_
  refine wly Y ((v_ne rfl rfl).asb (b' := false) sm) fun a Y => wlv Y (aw rfl rfl) fun a Y => wlm Y rfl fun a Y => ab <| aS (k := 16) 18 [16, 17] Y kr kr kr rfx ?_
  replace Y : Fr 284 [(4, _), (5, _), (6, _), (8, _), (12, _), (19, _), (7, _), (78, _), (79, _), (80, _), (22, _), (23, _), (24, _), (25, _), (26, _), (28, _), (29, _), (30, _), (31, _), (115, _), (116, _), (117, _), (118, _), (119, _), (120, _), (121, _), (122, _), (123, _), (124, _), (125, _), (126, _), (127, _), (128, _), (129, _), (130, _)] [] a := Y.pick [4, 5, 6, 8, 12, 19, 7, 78, 79, 80, 22, 23, 24, 25, 26, 28, 29, 30, 31, 115, 116, 117, 118, 119, 120, 121, 122, 123, 124, 125, 126, 127, 128, 129, 130]
  refine aA [] (fun i => match i with | _ => fun _ _ => False) 2 [[], []] [.agg #[iv (addO ro lu od), mv24], .agg #[iv (addO ro lu od), mv26]] Y U kr kr kr ?_ ?_ ?_
  ·intro i hi hiq
   match i, hi, hiq with
   | 0, _, _ => exact fun w U => OpV.g (aj (U.g 6 rfl) rfl (isAgg25 _) (sizeOf25 _))
   | 1, _, _ => exact fun w U => OpV.g (aj (U.g 4 rfl) rfl (isAgg25 _) (sizeOf25 _))
  ·intro i hi
   exact absurd hi sm
  clear Y U
  intro  a w153 Y U
  replace Y : Fr 284 [(131, .agg #[iv (addO ro lu od), mv24]), (132, .agg #[iv (addO ro lu od), mv26]), (4, _), (5, _), (6, _), (8, _), (12, _), (19, _), (7, _), (78, _), (79, _), (80, _), (22, _), (23, _), (24, _), (25, _), (26, _), (28, _), (29, _), (30, _), (31, _), (115, _), (116, _), (117, _), (118, _), (119, _), (120, _), (121, _), (122, _), (123, _), (124, _), (125, _), (126, _), (127, _), (128, _), (129, _), (130, _)] [] a := Y
  refine ab <| aQ (k := 18) 22 [21] kr kr kr ?_
  refine aR Y U de rfl de rfl call18 rfl (bJ (b := decide ((addO ro lu od) = (addO ro lu od)) && decide ((addL ro lu od) = (addL ro lu od))) (c := true) sm (dD (addO ro lu od) (addO ro lu od) mv24 mv26 (addL ro lu od) (addL ro lu od) _ (U.ow 7 rfl) (U.ow 5 rfl))) ?_
  clear Y U
  intro a w154 Y U
  refine wly Y ((bn rfl).asb (b' := false) rfl) fun a Y => wlv Y (aw rfl rfl) fun a Y => wlm Y rfl fun a Y => ab <| aS (k := 22) 24 [22, 23] Y kr kr kr rfx ?_
  replace Y : Fr 284 [(4, _), (5, _), (6, _), (8, _), (12, _), (19, _), (7, _), (78, _), (79, _), (80, _), (22, _), (23, _), (24, _), (25, _), (26, _), (28, _), (29, _), (30, _), (31, _), (115, _), (116, _), (117, _), (118, _), (119, _), (120, _), (121, _), (122, _), (123, _), (124, _), (125, _), (126, _), (127, _), (128, _), (129, _), (130, _), (131, _), (132, _), (133, _), (134, _), (135, _), (136, _)] [] a := Y.pick [4, 5, 6, 8, 12, 19, 7, 78, 79, 80, 22, 23, 24, 25, 26, 28, 29, 30, 31, 115, 116, 117, 118, 119, 120, 121, 122, 123, 124, 125, 126, 127, 128, 129, 130, 131, 132, 133, 134, 135, 136]
  refine aA [] (fun i => match i with | _ => fun _ _ => False) 2 [[], []] [.agg #[iv (addO ro lu (entR at_ kind n how at_)), mv28], .agg #[iv (addO ro lu (entR at_ kind n how at_)), mv30]] Y U kr kr kr ?_ ?_ ?_
  ·intro i hi hiq
   match i, hi, hiq with
   | 0, _, _ => exact fun w U => OpV.g (aj (U.g 2 rfl) rfl (isAgg25 _) (sizeOf25 _))
   | 1, _, _ => exact fun w U => OpV.g (aj (U.g 0 rfl) rfl (isAgg25 _) (sizeOf25 _))
  ·intro i hi
   exact absurd hi sm
  clear Y U
  intro  a w155 Y U
  replace Y : Fr 284 [(137, .agg #[iv (addO ro lu (entR at_ kind n how at_)), mv28]), (138, .agg #[iv (addO ro lu (entR at_ kind n how at_)), mv30]), (4, _), (5, _), (6, _), (8, _), (12, _), (19, _), (7, _), (78, _), (79, _), (80, _), (22, _), (23, _), (24, _), (25, _), (26, _), (28, _), (29, _), (30, _), (31, _), (115, _), (116, _), (117, _), (118, _), (119, _), (120, _), (121, _), (122, _), (123, _), (124, _), (125, _), (126, _), (127, _), (128, _), (129, _), (130, _), (131, _), (132, _), (133, _), (134, _), (135, _), (136, _)] [] a := Y
  refine ab <| aQ (k := 24) 27 [26] kr kr kr ?_
  refine aR Y U de rfl de rfl call18 rfl (bJ (b := decide ((addO ro lu (entR at_ kind n how at_)) = (addO ro lu (entR at_ kind n how at_))) && decide ((addL ro lu (entR at_ kind n how at_)) = (addL ro lu (entR at_ kind n how at_)))) (c := true) sm (dD (addO ro lu (entR at_ kind n how at_)) (addO ro lu (entR at_ kind n how at_)) mv28 mv30 (addL ro lu (entR at_ kind n how at_)) (addL ro lu (entR at_ kind n how at_)) _ (U.ow 3 rfl) (U.ow 1 rfl))) ?_
  clear Y U
  intro a w156 Y U
  refine wly Y ((bn rfl).asb (b' := false) rfl) fun a Y => wlv Y (aw rfl rfl) fun a Y => ab <| bd kr ?_
  refine hK132 _ _ ?_
  replace Y := Y.p12 4 5 6 8 12 19 7 78 79 80 22 141 rfl
  replace U := U.k10 16298 rfl
  refine aE Y rfl ?_
  refine aq <| hK131 _ _ <| ac fun K133 hK133 => aa fun K134 hK134 => wlm Y rfl fun a Y => wlm Y rfl fun a Y => am Y U de call19 rfl (bK kind 3 _ (by first | assumption | (unfold i64 at *; omega) | omega) om) ?_
  clear Y U
  intro a w157 Y U
  refine wlv Y (aM rfl rfl ⟨om, om⟩) fun a Y => aG (E := 3) (sz := 1) rfl [[iv kind], [iv (1 + (pickI kind 3))]] kr sm rfl de de Y U ?_
  clear Y U
  intro a w158 Y U
  refine wlv Y ((aK (sT := 41) (U.ow 0 rfl) rfl rfl (runUnderlying41 _)).asi (m' := 2) rfx) fun a Y => wlm Y rfl fun a Y => ab (hK134 _ _ <| ap ?_)
  refine cb 3 ?_
  refine ba ?_
  refine aa fun K135 hK135 => wlv Y ((v_lt rfl rfl).asb (b' := true) rfl) fun a Y => ab (hK135 _ _ <| ac fun K136 hK136 => ?_)
  refine aD Y rfl ?_
  refine aq <| hK136 _ _ <| ac fun K137 hK137 => ap <| aa fun K138 hK138 => wlv Y ((ak (i := 0) (sT := 41) (U.ow 0 rfl) rfl rfl (runUnderlying41 _) (sizeOf3 _) om sm).as (v' := slAddr (.slice (some ⟨w157.hz, 0, none⟩) 2 2) (0 * 1)) rfl) fun a Y => wlv Y (ax (u := iv kind) (i := 0) (j := 0) (U.ow 0 rfl) sm rfl (isAgg3 _) rfx) fun a Y => wla Y rfl fun a Y => ab (hK138 _ _ ?_)
  replace Y := Y.p15 4 5 6 8 12 19 7 78 79 80 22 146 147 148 33 rfl
  replace U := U.k7 2017 rfl
  refine ac fun K139 hK139 => aO kr (aP kr fun w159 hxz => ?_)
  replace U := U.grow hxz
  refine aS (k := 0) 7 [3, 4, 5, 6] Y kr kr kr rfx ?_
  replace Y := Y.p15 4 5 6 8 12 19 7 78 79 80 22 146 147 148 33 rfl
  refine aA [] (fun i => match i with | _ => fun _ _ => False) 7 [[], [], [], [0, 1, 2], [], [], []] [.agg #[iv ro, lv4], iv kind, iv at_, iv (findH ro lu kind at_), .agg #[iv ro, lv4], iv kind, iv at_] Y U kr kr kr ?_ ?_ ?_
  ·intro i hi hiq
   match i, hi, hiq with
   | 0, _, _ => exact fun w U => OpV.g (aj (U.g 1 rfl) rfl (isAgg25 _) (sizeOf25 _))
   | 1, _, _ => exact fun w U => OpV.g (ai rfl)
   | 2, _, _ => exact fun w U => OpV.g (ai rfl)
   | 3, _, _ => exact fun w U => aT call20 rfl (bU ro lv4 lu kind at_ _ (U.ow 3 rfl))
   | 4, _, _ => exact fun w U => OpV.g (aj (U.g 1 rfl) rfl (isAgg25 _) (sizeOf25 _))
   | 5, _, _ => exact fun w U => OpV.g (ai rfl)
   | 6, _, _ => exact fun w U => OpV.g (ai rfl)
  ·intro i hi
   exact absurd hi sm
  clear Y U
  intro  a w160 Y U
  replace Y : Fr 284 [(152, .agg #[iv ro, lv4]), (153, iv kind), (154, iv at_), (155, iv (findH ro lu kind at_)), (156, .agg #[iv ro, lv4]), (157, iv kind), (158, iv at_), (4, _), (5, _), (6, _), (8, _), (12, _), (19, _), (7, _), (78, _), (79, _), (80, _), (22, _), (146, _), (147, _), (148, _), (33, _)] [] a := Y
  refine ab <| aQ (k := 7) 10 [9] kr kr kr ?_
  refine am Y U de call21 rfl (bZ ro lv4 lu kind at_ _ (U.ow 3 rfl)) ?_
  clear Y U
  intro a w161 Y U
  refine wlv Y ((v_ne rfl rfl).asb (b' := false) sm) fun a Y => wlm Y rfl fun a Y => ab <| aS (k := 10) 19 [15, 16, 18] Y kr kr kr rfx ?_
  replace Y := Y.p25 4 5 6 8 12 19 7 78 79 80 22 146 147 148 33 152 153 154 155 156 157 158 159 160 161 rfl
  refine aA [] (fun i => match i with | _ => fun _ _ => False) 9 [[], [], [], [2], [0, 1, 3], [], [], [], [7]] [.agg #[iv ro, lv4], iv kind, iv at_, iv (pickI at_ 300), iv (findH ro lu kind (pickI at_ 300)), .agg #[iv ro, lv4], iv kind, iv at_, iv (pickI at_ 300)] Y U kr kr kr ?_ ?_ ?_
  ·intro i hi hiq
   match i, hi, hiq with
   | 0, _, _ => exact fun w U => OpV.g (aj (U.g 1 rfl) rfl (isAgg25 _) (sizeOf25 _))
   | 1, _, _ => exact fun w U => OpV.g (ai rfl)
   | 2, _, _ => exact fun w U => OpV.g (ai rfl)
   | 3, _, _ => exact fun w U => aT call19 rfl (bK at_ 300 _ (by first | assumption | (unfold i64 at *; omega) | omega) om)
   | 4, _, _ => exact fun w U => aT call20 rfl (bU ro lv4 lu kind (pickI at_ 300) _ (U.ow 3 rfl))
   | 5, _, _ => exact fun w U => OpV.g (aj (U.g 1 rfl) rfl (isAgg25 _) (sizeOf25 _))
   | 6, _, _ => exact fun w U => OpV.g (ai rfl)
   | 7, _, _ => exact fun w U => OpV.g (ai rfl)
   | 8, _, _ => exact fun w U => aT call19 rfl (bK at_ 300 _ (by first | assumption | (unfold i64 at *; omega) | omega) om)
  ·intro i hi
   exact absurd hi sm
  clear Y U
  intro  a w162 Y U
  replace Y : Fr 284 [(162, .agg #[iv ro, lv4]), (163, iv kind), (164, iv at_), (165, iv (pickI at_ 300)), (166, iv (findH ro lu kind (pickI at_ 300))), (167, .agg #[iv ro, lv4]), (168, iv kind), (169, iv at_), (170, iv (pickI at_ 300)), (4, _), (5, _), (6, _), (8, _), (12, _), (19, _), (7, _), (78, _), (79, _), (80, _), (22, _), (146, _), (147, _), (148, _), (33, _), (152, _), (153, _), (154, _), (155, _), (156, _), (157, _), (158, _), (159, _), (160, _), (161, _)] [] a := Y
  refine ab <| aQ (k := 19) 22 [21] kr kr kr ?_
  refine aR Y U de rfl de rfl call21 rfl (bZ ro lv4 lu kind (pickI at_ 300) _ (U.ow 3 rfl)) ?_
  clear Y U
  intro a w163 Y U
  refine wly Y ((v_ne rfl rfl).asb (b' := false) sm) fun a Y => wlv Y (aw rfl rfl) fun a Y => ab <| bd kr ?_
  refine hK139 _ _ ?_
  replace Y := Y.p15 4 5 6 8 12 19 7 78 79 80 22 146 147 148 173 rfl
  refine aE Y rfl ?_
  refine aq <| hK137 _ _ <| ao <| wlv Y ((aM rfl rfl de).asi (m' := 1) rfl) fun a Y => wlm Y rfl fun a Y => ab <| ba ?_
  refine aa fun K140 hK140 => wlv Y ((v_lt rfl rfl).asb (b' := true) rfl) fun a Y => ab (hK140 _ _ <| ac fun K141 hK141 => ?_)
  refine aD Y rfl ?_
  refine aq <| hK141 _ _ <| ac fun K142 hK142 => ap <| aa fun K143 hK143 => wlv Y ((ak (i := 1) (sT := 41) (U.ow 0 rfl) rfl rfl (runUnderlying41 _) (sizeOf3 _) om sm).as (v' := slAddr (.slice (some ⟨w157.hz, 0, none⟩) 2 2) (1 * 1)) rfl) fun a Y => wlv Y (ax (u := iv (1 + (pickI kind 3))) (i := 1) (j := 0) (U.ow 0 rfl) sm rfl (isAgg3 _) rfx) fun a Y => wla Y rfl fun a Y => ab (hK143 _ _ <| ac fun K144 hK144 => ?_)
  refine aO kr (aP kr fun w164 hxz => ?_)
  replace U := U.grow hxz
  refine aS (k := 0) 7 [3, 4, 5, 6] Y kr kr kr rfx ?_
  replace Y := Y.p20 4 5 6 8 12 19 7 78 79 80 22 146 147 173 174 148 149 150 151 33 rfl
  refine aA [] (fun i => match i with | _ => fun _ _ => False) 7 [[], [], [], [0, 1, 2], [], [], []] [.agg #[iv ro, lv4], iv (1 + (pickI kind 3)), iv at_, iv (findH ro lu (1 + (pickI kind 3)) at_), .agg #[iv ro, lv4], iv (1 + (pickI kind 3)), iv at_] Y U kr kr kr ?_ ?_ ?_
  ·intro i hi hiq
   match i, hi, hiq with
   | 0, _, _ => exact fun w U => OpV.g (aj (U.g 1 rfl) rfl (isAgg25 _) (sizeOf25 _))
   | 1, _, _ => exact fun w U => OpV.g (ai rfl)
   | 2, _, _ => exact fun w U => OpV.g (ai rfl)
   | 3, _, _ => exact fun w U => aT call20 rfl (bU ro lv4 lu (1 + (pickI kind 3)) at_ _ (U.ow 3 rfl))
   | 4, _, _ => exact fun w U => OpV.g (aj (U.g 1 rfl) rfl (isAgg25 _) (sizeOf25 _))
   | 5, _, _ => exact fun w U => OpV.g (ai rfl)
   | 6, _, _ => exact fun w U => OpV.g (ai rfl)
  ·intro i hi
   exact absurd hi sm
  clear Y U
  intro  a w165 Y U
  replace Y : Fr 284 [(152, .agg #[iv ro, lv4]), (153, iv (1 + (pickI kind 3))), (154, iv at_), (155, iv (findH ro lu (1 + (pickI kind 3)) at_)), (156, .agg #[iv ro, lv4]), (157, iv (1 + (pickI kind 3))), (158, iv at_), (4, _), (5, _), (6, _), (8, _), (12, _), (19, _), (7, _), (78, _), (79, _), (80, _), (22, _), (146, _), (147, _), (173, _), (174, _), (148, _), (149, _), (150, _), (151, _), (33, _)] [] a := Y
  refine ab <| aQ (k := 7) 10 [9] kr kr kr ?_
  refine am Y U de call21 rfl (bZ ro lv4 lu (1 + (pickI kind 3)) at_ _ (U.ow 3 rfl)) ?_
  clear Y U
  intro a w166 Y U
  refine wlv Y ((v_ne rfl rfl).asb (b' := false) sm) fun a Y => wlm Y rfl fun a Y => ab <| aS (k := 10) 19 [15, 16, 18] Y kr kr kr rfx ?_
  replace Y := Y.p30 4 5 6 8 12 19 7 78 79 80 22 146 147 173 174 148 149 150 151 33 152 153 154 155 156 157 158 159 160 161 rfl
  refine aA [] (fun i => match i with | _ => fun _ _ => False) 9 [[], [], [], [2], [0, 1, 3], [], [], [], [7]] [.agg #[iv ro, lv4], iv (1 + (pickI kind 3)), iv at_, iv (pickI at_ 300), iv (findH ro lu (1 + (pickI kind 3)) (pickI at_ 300)), .agg #[iv ro, lv4], iv (1 + (pickI kind 3)), iv at_, iv (pickI at_ 300)] Y U kr kr kr ?_ ?_ ?_
  ·intro i hi hiq
   match i, hi, hiq with
   | 0, _, _ => exact fun w U => OpV.g (aj (U.g 1 rfl) rfl (isAgg25 _) (sizeOf25 _))
   | 1, _, _ => exact fun w U => OpV.g (ai rfl)
   | 2, _, _ => exact fun w U => OpV.g (ai rfl)
   | 3, _, _ => exact fun w U => aT call19 rfl (bK at_ 300 _ (by first | assumption | (unfold i64 at *; omega) | omega) om)
   | 4, _, _ => exact fun w U => aT call20 rfl (bU ro lv4 lu (1 + (pickI kind 3)) (pickI at_ 300) _ (U.ow 3 rfl))
   | 5, _, _ => exact fun w U => OpV.g (aj (U.g 1 rfl) rfl (isAgg25 _) (sizeOf25 _))
   | 6, _, _ => exact fun w U => OpV.g (ai rfl)
   | 7, _, _ => exact fun w U => OpV.g (ai rfl)
   | 8, _, _ => exact fun w U => aT call19 rfl (bK at_ 300 _ (by first | assumption | (unfold i64 at *; omega) | omega) om)
  ·intro i hi
   exact absurd hi sm
  clear Y U
  intro  a w167 Y U
  replace Y : Fr 284 [(162, .agg #[iv ro, lv4]), (163, iv (1 + (pickI kind 3))), (164, iv at_), (165, iv (pickI at_ 300)), (166, iv (findH ro lu (1 + (pickI kind 3)) (pickI at_ 300))), (167, .agg #[iv ro, lv4]), (168, iv (1 + (pickI kind 3))), (169, iv at_), (170, iv (pickI at_ 300)), (4, _), (5, _), (6, _), (8, _), (12, _), (19, _), (7, _), (78, _), (79, _), (80, _), (22, _), (146, _), (147, _), (173, _), (174, _), (148, _), (149, _), (150, _), (151, _), (33, _), (152, _), (153, _), (154, _), (155, _), (156, _), (157, _), (158, _), (159, _), (160, _), (161, _)] [] a := Y
  refine ab <| aQ (k := 19) 22 [21] kr kr kr ?_
  refine aR Y U de rfl de rfl call21 rfl (bZ ro lv4 lu (1 + (pickI kind 3)) (pickI at_ 300) _ (U.ow 3 rfl)) ?_
  clear Y U
  intro a w168 Y U
  refine wly Y ((v_ne rfl rfl).asb (b' := false) sm) fun a Y => wlv Y (aw rfl rfl) fun a Y => ab <| bd kr ?_
  refine hK144 _ _ ?_
  replace Y := Y.p15 4 5 6 8 12 19 7 78 79 80 22 146 147 148 173 rfl
  refine aE Y rfl ?_
  refine aq <| hK142 _ _ <| ao <| wlv Y ((aM rfl rfl de).asi (m' := 2) rfl) fun a Y => wlm Y rfl fun a Y => ab <| ba ?_
  refine aa fun K145 hK145 => wlv Y ((v_lt rfl rfl).asb (b' := false) rfl) fun a Y => ab (hK145 _ _ <| ac fun K146 hK146 => ?_)
  refine aE Y rfl ?_
  refine aL <| hK133 _ _ <| aa fun K147 hK147 => wla Y rfl fun a Y => ab (hK147 _ _ ?_)
  replace Y := Y.p12 4 5 6 8 12 19 7 78 79 80 22 34 rfl
  replace U := U.k6 126 rfl
  refine ap <| aV (fun m a w => ∃ (i : Nat), m = lu.length - i ∧ (i ≤ lu.length) ∧ Fr 284 [(4, iv how), (5, iv n), (6, iv at_), (8, iv kind), (12, pq w1.hz), (19, .bool true), (7, sv tx), (78, (.slice (some ⟨b5, 0, none⟩) 3 3)), (79, iv 3), (80, iv 2), (22, pq w130.hz), (34, iv (i : Int))] [] a ∧ St No w0 [blk w130.hz [iv ro, lv4] 25, own lv3 27 5 ((lbt).map Rec.cells), own lv4 27 5 ((lu).map Rec.cells), own (.slice (some ⟨b5, 0, none⟩) 3 3) 25 2 ([[iv o, lv1], [iv ob, lv3], [iv ro, lv4]]), own lv1 27 5 ((l).map Rec.cells), blk w1.hz [iv od.t, iv od.kind, iv od.a, iv od.b, sv od.text] 27] w) _ ⟨0, rfl, Nat.zero_le _, Y.pick [4, 5, 6, 8, 12, 19, 7, 78, 79, 80, 22, 34], U.select [0, 1, 2, 3, 4, 5] de⟩ ?_
  rintro _ a w169 ⟨i, rfl, hi, Y, U⟩
  refine ac fun K148 hK148 => aa fun K149 hK149 => wlm Y rfl fun a Y => wlv Y (al (v := po w130.hz 1) rfl kr) fun a Y => wlv Y (ld U 0 rfl rfl (isAgg23 _) rfl) fun a Y => wlv Y ((aK (sT := 23) (U.ow 2 rfl) rfl rfl (runUnderlying23 _)).asi (m' := (lu.length : Int)) (by rw [List.length_map])) fun a Y => wlv Y (v_lt rfl rfl) fun a Y => ab (hK149 _ _ ?_)
  refine az Y rfl (fun hc32 => ?_) (fun hc32 => ?_)
  ·rw [hc32] at Y
   try simp only [qz] at hc32
   have hix : i < lu.length := by omega
   have hel := gc (lu.getD i Rec.z)
   refine aq <| hK148 _ _ <| ac fun K150 hK150 => ap <| aa fun K151 hK151 => wlv Y (al (v := po w130.hz 1) rfl kr) fun a Y => wlv Y (ld U 0 rfl rfl (isAgg23 _) rfl) fun a Y => wlm Y rfl fun a Y => wlv Y ((ak (i := (i : Int)) (sT := 23) (U.ow 2 rfl) rfl rfl (runUnderlying23 _) (sizeOf27 _) om (by rw [List.length_map]; omega)).as (v' := slAddr lv4 (i * 5)) rfl) fun a Y => wlv Y ((bt (U.ow 2 rfl) (i := i) (by rw [List.length_map]; omega) rfl (isAgg27 _) (sizeOf27 _)).as (v' := .agg #[iv ((lu.getD i Rec.z).t), iv ((lu.getD i Rec.z).kind), iv ((lu.getD i Rec.z).a), iv ((lu.getD i Rec.z).b), sv ((lu.getD i Rec.z).text)]) (by rw [br Rec.z]; rfl)) fun a Y => am Y U de call22 rfl (dN (lu.getD i Rec.z) _) ?_
   clear Y U
   intro a w170 Y U
   refine wlm Y rfl fun a Y => wlv Y (ag rfl rfl) fun a Y => wlv Y (ag rfl rfl) fun a Y => wla Y rfl fun a Y => wla Y rfl fun a Y => ab (hK151 _ _ ?_)
   replace Y := Y.p14 4 5 6 8 12 19 7 78 79 80 22 34 35 36 rfl
   refine aa fun K152 hK152 => wlv Y (al (v := po w130.hz 1) rfl kr) fun a Y => wlv Y (ld U 0 rfl rfl (isAgg23 _) rfl) fun a Y => wlm Y rfl fun a Y => wlv Y ((ak (i := (i : Int)) (sT := 23) (U.ow 2 rfl) rfl rfl (runUnderlying23 _) (sizeOf27 _) om (by rw [List.length_map]; omega)).as (v' := slAddr lv4 (i * 5)) rfl) fun a Y => wlv Y ((bt (U.ow 2 rfl) (i := i) (by rw [List.length_map]; omega) rfl (isAgg27 _) (sizeOf27 _)).as (v' := .agg #[iv ((lu.getD i Rec.z).t), iv ((lu.getD i Rec.z).kind), iv ((lu.getD i Rec.z).a), iv ((lu.getD i Rec.z).b), sv ((lu.getD i Rec.z).text)]) (by rw [br Rec.z]; rfl)) fun a Y => am Y U de call23 rfl (eX (lu.getD i Rec.z) _) ?_
   clear Y U
   intro a w171 Y U
   refine wlm Y rfl fun a Y => wlv Y (ag rfl rfl) fun a Y => wlv Y (ag rfl rfl) fun a Y => wla Y rfl fun a Y => wla Y rfl fun a Y => ab (hK152 _ _ ?_)
   replace Y := Y.p16 4 5 6 8 12 19 7 78 79 80 22 34 35 36 37 38 rfl
   refine ac fun K153 hK153 => aa fun K154 hK154 => wlm Y rfl fun a Y => wlm Y rfl fun a Y => wlv Y ((jX rfl rfl).asb (b' := false) sm) fun a Y => wlm Y rfl fun a Y => wly Y (ai rfl) fun a Y => wly Y (ai rfl) fun a Y => wly Y ((v_ne rfl rfl).asb (b' := false) sm) fun a Y => wlv Y (aw rfl rfl) fun a Y => ab (hK154 _ _ ?_)
   replace Y := Y.p14 4 5 6 8 12 19 7 78 79 80 22 34 37 207 rfl
   refine aE Y rfl ?_
   refine aq <| hK153 _ _ <| aa fun K155 hK155 => wlm Y rfl fun a Y => wlm Y rfl fun a Y => wlm Y rfl fun a Y => wlv Y (cZ rfl rfl (by first | omega | (simp only [List.length_append]; omega))) fun a Y => wlm Y rfl fun a Y => wlm Y rfl fun a Y => wlv Y (aW rfl rfl (runUnderlying9 _)) fun a Y => wlv Y (mI rfl rfl om om om) fun a Y => wlv Y ((bS (xs := eB (lu.getD i Rec.z)) (l := 0) (h := (((eB (lu.getD i Rec.z)).length : Int) / 2).toNat) rfl rfl rfl underlying9 (.inl ⟨rfl, rfl⟩) (.inr (by rw [show (((eB (lu.getD i Rec.z)).length : Int) / 2 : Int) = (((((eB (lu.getD i Rec.z)).length : Int) / 2).toNat : Nat) : Int) from by omega] <;> rfl)) om (by first | omega | exact Nat.min_le_left _ _)).as (v' := sv ((eB (lu.getD i Rec.z)).take ((((eB (lu.getD i Rec.z)).length : Int) / 2).toNat))) rfl) fun a Y => aG (E := 9) (sz := 1) rfl [[sv (eB (lu.getD i Rec.z))], [sv ((eB (lu.getD i Rec.z)) ++ tx)], [sv ((eB (lu.getD i Rec.z)).take ((((eB (lu.getD i Rec.z)).length : Int) / 2).toNat))]] kr sm rfl de de Y U ?_
   clear Y U
   intro a w172 Y U
   refine wlv Y ((aK (sT := 45) (U.ow 0 rfl) rfl rfl (runUnderlying45 _)).asi (m' := 3) rfx) fun a Y => wlm Y rfl fun a Y => ab (hK155 _ _ ?_)
   replace Y := Y.p15 4 5 6 8 12 19 7 78 79 80 22 34 217 218 219 rfl
   refine ap <| cb 4 ?_
   refine ba ?_
   refine aa fun K156 hK156 => wlv Y ((v_lt rfl rfl).asb (b' := true) rfl) fun a Y => ab (hK156 _ _ <| ac fun K157 hK157 => ?_)
   refine aD Y rfl ?_
   refine aq <| hK157 _ _ <| ac fun K158 hK158 => ap <| aa fun K159 hK159 => wlv Y ((ak (i := 0) (sT := 45) (U.ow 0 rfl) rfl rfl (runUnderlying45 _) (sizeOf9 _) om sm).as (v' := slAddr (.slice (some ⟨w171.hz, 0, none⟩) 3 3) (0 * 1)) rfl) fun a Y => wlv Y (ax (u := sv (eB (lu.getD i Rec.z))) (i := 0) (j := 0) (U.ow 0 rfl) sm rfl (isAgg9 _) rfx) fun a Y => wla Y rfl fun a Y => ab (hK159 _ _ <| aa fun K160 hK160 => ?_)
   refine wlm Y rfl fun a Y => am Y U de call24 rfl (dj (eB (lu.getD i Rec.z)) _ (by first | omega | (simp only [List.length_append, List.length_take]; omega))) ?_
   clear Y U
   intro a w173 Y U
   refine wlm Y rfl fun a Y => wlv Y (ag rfl rfl) fun a Y => wlv Y (ag rfl rfl) fun a Y => aC Y U de (zeroValue27 _) (cs := [iv 0, iv 0, iv 0, iv 0, .string (⟨#[]⟩)]) rfl ?_
   clear Y U
   intro a w174 Y U
   refine ay 0 Y U rfl rfl rfl (sizeOf27 _) rfl (lb rfl) (ds := [iv ((decX (eB (lu.getD i Rec.z))).t), iv ((decX (eB (lu.getD i Rec.z))).kind), iv ((decX (eB (lu.getD i Rec.z))).a), iv ((decX (eB (lu.getD i Rec.z))).b), sv ((decX (eB (lu.getD i Rec.z))).text)]) rfl rfl ?_
   clear Y U
   intro a w175 Y U
   refine wla Y rfl fun a Y => ab (hK160 _ _ ?_)
   replace Y := Y.p18 4 5 6 8 12 19 7 78 79 80 22 34 217 218 219 40 41 42 rfl
   refine aa fun K161 hK161 => wlm Y rfl fun a Y => am Y U de call25 rfl (cO (eB (lu.getD i Rec.z)) _ (by first | omega | (simp only [List.length_append, List.length_take]; omega))) ?_
   clear Y U
   intro a w176 Y U
   refine wlm Y rfl fun a Y => wlv Y (ag rfl rfl) fun a Y => wlv Y (ag rfl rfl) fun a Y => aC Y U de (zeroValue27 _) (cs := [iv 0, iv 0, iv 0, iv 0, .string (⟨#[]⟩)]) rfl ?_
   clear Y U
   intro a w177 Y U
   refine ay 0 Y U rfl rfl rfl (sizeOf27 _) rfl (lb rfl) (ds := [iv ((decX (eB (lu.getD i Rec.z))).t), iv ((decX (eB (lu.getD i Rec.z))).kind), iv ((decX (eB (lu.getD i Rec.z))).a), iv ((decX (eB (lu.getD i Rec.z))).b), sv ((decX (eB (lu.getD i Rec.z))).text)]) rfl rfl ?_
   clear Y U
   intro a w178 Y U
   refine wla Y rfl fun a Y => ab (hK161 _ _ ?_)
   replace Y := Y.p19 4 5 6 8 12 19 7 78 79 80 22 34 217 218 219 41 42 43 44 rfl
   refine aa fun K162 hK162 => wlv Y (aj (U.g 1 rfl) rfl (isAgg27 _) (sizeOf27 _)) fun a Y => wlv Y (aj (U.g 0 rfl) rfl (isAgg27 _) (sizeOf27 _)) fun a Y => wlv Y ((cw rfl rfl kr (eqRec ((decX (eB (lu.getD i Rec.z))).t) ((decX (eB (lu.getD i Rec.z))).kind) ((decX (eB (lu.getD i Rec.z))).a) ((decX (eB (lu.getD i Rec.z))).b) ((decX (eB (lu.getD i Rec.z))).text) ((decX (eB (lu.getD i Rec.z))).t) ((decX (eB (lu.getD i Rec.z))).kind) ((decX (eB (lu.getD i Rec.z))).a) ((decX (eB (lu.getD i Rec.z))).b) ((decX (eB (lu.getD i Rec.z))).text) _)).asb (b' := false) sm) fun a Y => wlm Y rfl fun a Y => wly Y (ai rfl) fun a Y => wly Y (ai rfl) fun a Y => wly Y ((v_ne rfl rfl).asb (b' := false) sm) fun a Y => wlv Y (aw rfl rfl) fun a Y => ab (hK162 _ _ ?_)
   replace Y := Y.p16 4 5 6 8 12 19 7 78 79 80 22 34 217 218 219 240 rfl
   replace U := U.k7 508 rfl
   refine aE Y rfl ?_
   refine aq <| hK158 _ _ <| ao <| wlv Y ((aM rfl rfl de).asi (m' := 1) rfl) fun a Y => wlm Y rfl fun a Y => ab <| ba ?_
   refine aa fun K163 hK163 => wlv Y ((v_lt rfl rfl).asb (b' := true) rfl) fun a Y => ab (hK163 _ _ <| ac fun K164 hK164 => ?_)
   refine aD Y rfl ?_
   refine aq <| hK164 _ _ <| ac fun K165 hK165 => ap <| aa fun K166 hK166 => wlv Y ((ak (i := 1) (sT := 45) (U.ow 0 rfl) rfl rfl (runUnderlying45 _) (sizeOf9 _) om sm).as (v' := slAddr (.slice (some ⟨w171.hz, 0, none⟩) 3 3) (1 * 1)) rfl) fun a Y => wlv Y (ax (u := sv ((eB (lu.getD i Rec.z)) ++ tx)) (i := 1) (j := 0) (U.ow 0 rfl) sm rfl (isAgg9 _) rfx) fun a Y => wla Y rfl fun a Y => ab (hK166 _ _ <| aa fun K167 hK167 => ?_)
   refine wlm Y rfl fun a Y => am Y U de call24 rfl (dj ((eB (lu.getD i Rec.z)) ++ tx) _ (by first | omega | (simp only [List.length_append, List.length_take]; omega))) ?_
   clear Y U
   intro a w179 Y U
   refine wlm Y rfl fun a Y => wlv Y (ag rfl rfl) fun a Y => wlv Y (ag rfl rfl) fun a Y => aC Y U de (zeroValue27 _) (cs := [iv 0, iv 0, iv 0, iv 0, .string (⟨#[]⟩)]) rfl ?_
   clear Y U
   intro a w180 Y U
   refine ay 0 Y U rfl rfl rfl (sizeOf27 _) rfl (lb rfl) (ds := [iv ((decX ((eB (lu.getD i Rec.z)) ++ tx)).t), iv ((decX ((eB (lu.getD i Rec.z)) ++ tx)).kind), iv ((decX ((eB (lu.getD i Rec.z)) ++ tx)).a), iv ((decX ((eB (lu.getD i Rec.z)) ++ tx)).b), sv ((decX ((eB (lu.getD i Rec.z)) ++ tx)).text)]) rfl rfl ?_
   clear Y U
   intro a w181 Y U
   refine wla Y rfl fun a Y => ab (hK167 _ _ ?_)
   replace Y := Y.p18 4 5 6 8 12 19 7 78 79 80 22 34 217 218 219 40 41 42 rfl
   refine aa fun K168 hK168 => wlm Y rfl fun a Y => am Y U de call25 rfl (cO ((eB (lu.getD i Rec.z)) ++ tx) _ (by first | omega | (simp only [List.length_append, List.length_take]; omega))) ?_
   clear Y U
   intro a w182 Y U
   refine wlm Y rfl fun a Y => wlv Y (ag rfl rfl) fun a Y => wlv Y (ag rfl rfl) fun a Y => aC Y U de (zeroValue27 _) (cs := [iv 0, iv 0, iv 0, iv 0, .string (⟨#[]⟩)]) rfl ?_
   clear Y U
   intro a w183 Y U
   refine ay 0 Y U rfl rfl rfl (sizeOf27 _) rfl (lb rfl) (ds := [iv ((decX ((eB (lu.getD i Rec.z)) ++ tx)).t), iv ((decX ((eB (lu.getD i Rec.z)) ++ tx)).kind), iv ((decX ((eB (lu.getD i Rec.z)) ++ tx)).a), iv ((decX ((eB (lu.getD i Rec.z)) ++ tx)).b), sv ((decX ((eB (lu.getD i Rec.z)) ++ tx)).text)]) rfl rfl ?_
   clear Y U
   intro a w184 Y U
   refine wla Y rfl fun a Y => ab (hK168 _ _ ?_)
   replace Y := Y.p19 4 5 6 8 12 19 7 78 79 80 22 34 217 218 219 41 42 43 44 rfl
   refine aa fun K169 hK169 => wlv Y (aj (U.g 1 rfl) rfl (isAgg27 _) (sizeOf27 _)) fun a Y => wlv Y (aj (U.g 0 rfl) rfl (isAgg27 _) (sizeOf27 _)) fun a Y => wlv Y ((cw rfl rfl kr (eqRec ((decX ((eB (lu.getD i Rec.z)) ++ tx)).t) ((decX ((eB (lu.getD i Rec.z)) ++ tx)).kind) ((decX ((eB (lu.getD i Rec.z)) ++ tx)).a) ((decX ((eB (lu.getD i Rec.z)) ++ tx)).b) ((decX ((eB (lu.getD i Rec.z)) ++ tx)).text) ((decX ((eB (lu.getD i Rec.z)) ++ tx)).t) ((decX ((eB (lu.getD i Rec.z)) ++ tx)).kind) ((decX ((eB (lu.getD i Rec.z)) ++ tx)).a) ((decX ((eB (lu.getD i Rec.z)) ++ tx)).b) ((decX ((eB (lu.getD i Rec.z)) ++ tx)).text) _)).asb (b' := false) sm) fun a Y => wlm Y rfl fun a Y => wly Y (ai rfl) fun a Y => wly Y (ai rfl) fun a Y => wly Y ((v_ne rfl rfl).asb (b' := false) sm) fun a Y => wlv Y (aw rfl rfl) fun a Y => ab (hK169 _ _ ?_)
   replace Y := Y.p16 4 5 6 8 12 19 7 78 79 80 22 34 217 218 219 240 rfl
   replace U := U.k7 508 rfl
   refine aE Y rfl ?_
   refine aq <| hK165 _ _ <| ao <| wlv Y ((aM rfl rfl de).asi (m' := 2) rfl) fun a Y => wlm Y rfl fun a Y => ab <| ba ?_
   refine aa fun K170 hK170 => wlv Y ((v_lt rfl rfl).asb (b' := true) rfl) fun a Y => ab (hK170 _ _ <| ac fun K171 hK171 => ?_)
   refine aD Y rfl ?_
   refine aq <| hK171 _ _ <| ac fun K172 hK172 => ap <| aa fun K173 hK173 => wlv Y ((ak (i := 2) (sT := 45) (U.ow 0 rfl) rfl rfl (runUnderlying45 _) (sizeOf9 _) om sm).as (v' := slAddr (.slice (some ⟨w171.hz, 0, none⟩) 3 3) (2 * 1)) rfl) fun a Y => wlv Y (ax (u := sv ((eB (lu.getD i Rec.z)).take ((((eB (lu.getD i Rec.z)).length : Int) / 2).toNat))) (i := 2) (j := 0) (U.ow 0 rfl) sm rfl (isAgg9 _) rfx) fun a Y => wla Y rfl fun a Y => ab (hK173 _ _ <| aa fun K174 hK174 => ?_)
   refine wlm Y rfl fun a Y => am Y U de call24 rfl (dj ((eB (lu.getD i Rec.z)).take ((((eB (lu.getD i Rec.z)).length : Int) / 2).toNat)) _ (by first | omega | (simp only [List.length_append, List.length_take]; omega))) ?_
   clear Y U
   intro a w185 Y U
   refine wlm Y rfl fun a Y => wlv Y (ag rfl rfl) fun a Y => wlv Y (ag rfl rfl) fun a Y => aC Y U de (zeroValue27 _) (cs := [iv 0, iv 0, iv 0, iv 0, .string (⟨#[]⟩)]) rfl ?_
   clear Y U
   intro a w186 Y U
   refine ay 0 Y U rfl rfl rfl (sizeOf27 _) rfl (lb rfl) (ds := [iv ((decX ((eB (lu.getD i Rec.z)).take ((((eB (lu.getD i Rec.z)).length : Int) / 2).toNat))).t), iv ((decX ((eB (lu.getD i Rec.z)).take ((((eB (lu.getD i Rec.z)).length : Int) / 2).toNat))).kind), iv ((decX ((eB (lu.getD i Rec.z)).take ((((eB (lu.getD i Rec.z)).length : Int) / 2).toNat))).a), iv ((decX ((eB (lu.getD i Rec.z)).take ((((eB (lu.getD i Rec.z)).length : Int) / 2).toNat))).b), sv ((decX ((eB (lu.getD i Rec.z)).take ((((eB (lu.getD i Rec.z)).length : Int) / 2).toNat))).text)]) rfl rfl ?_
   clear Y U
   intro a w187 Y U
   refine wla Y rfl fun a Y => ab (hK174 _ _ ?_)
   replace Y := Y.p18 4 5 6 8 12 19 7 78 79 80 22 34 217 218 219 40 41 42 rfl
   refine aa fun K175 hK175 => wlm Y rfl fun a Y => am Y U de call25 rfl (cO ((eB (lu.getD i Rec.z)).take ((((eB (lu.getD i Rec.z)).length : Int) / 2).toNat)) _ (by first | omega | (simp only [List.length_append, List.length_take]; omega))) ?_
   clear Y U
   intro a w188 Y U
   refine wlm Y rfl fun a Y => wlv Y (ag rfl rfl) fun a Y => wlv Y (ag rfl rfl) fun a Y => aC Y U de (zeroValue27 _) (cs := [iv 0, iv 0, iv 0, iv 0, .string (⟨#[]⟩)]) rfl ?_
   clear Y U
   intro a w189 Y U
   refine ay 0 Y U rfl rfl rfl (sizeOf27 _) rfl (lb rfl) (ds := [iv ((decX ((eB (lu.getD i Rec.z)).take ((((eB (lu.getD i Rec.z)).length : Int) / 2).toNat))).t), iv ((decX ((eB (lu.getD i Rec.z)).take ((((eB (lu.getD i Rec.z)).length : Int) / 2).toNat))).kind), iv ((decX ((eB (lu.getD i Rec.z)).take ((((eB (lu.getD i Rec.z)).length : Int) / 2).toNat))).a), iv ((decX ((eB (lu.getD i Rec.z)).take ((((eB (lu.getD i Rec.z)).length : Int) / 2).toNat))).b), sv ((decX ((eB (lu.getD i Rec.z)).take ((((eB (lu.getD i Rec.z)).length : Int) / 2).toNat))).text)]) rfl rfl ?_
   clear Y U
   intro a w190 Y U
   refine wla Y rfl fun a Y => ab (hK175 _ _ ?_)
   replace Y := Y.p19 4 5 6 8 12 19 7 78 79 80 22 34 217 218 219 41 42 43 44 rfl
   refine aa fun K176 hK176 => wlv Y (aj (U.g 1 rfl) rfl (isAgg27 _) (sizeOf27 _)) fun a Y => wlv Y (aj (U.g 0 rfl) rfl (isAgg27 _) (sizeOf27 _)) fun a Y => wlv Y ((cw rfl rfl kr (eqRec ((decX ((eB (lu.getD i Rec.z)).take ((((eB (lu.getD i Rec.z)).length : Int) / 2).toNat))).t) ((decX ((eB (lu.getD i Rec.z)).take ((((eB (lu.getD i Rec.z)).length : Int) / 2).toNat))).kind) ((decX ((eB (lu.getD i Rec.z)).take ((((eB (lu.getD i Rec.z)).length : Int) / 2).toNat))).a) ((decX ((eB (lu.getD i Rec.z)).take ((((eB (lu.getD i Rec.z)).length : Int) / 2).toNat))).b) ((decX ((eB (lu.getD i Rec.z)).take ((((eB (lu.getD i Rec.z)).length : Int) / 2).toNat))).text) ((decX ((eB (lu.getD i Rec.z)).take ((((eB (lu.getD i Rec.z)).length : Int) / 2).toNat))).t) ((decX ((eB (lu.getD i Rec.z)).take ((((eB (lu.getD i Rec.z)).length : Int) / 2).toNat))).kind) ((decX ((eB (lu.getD i Rec.z)).take ((((eB (lu.getD i Rec.z)).length : Int) / 2).toNat))).a) ((decX ((eB (lu.getD i Rec.z)).take ((((eB (lu.getD i Rec.z)).length : Int) / 2).toNat))).b) ((decX ((eB (lu.getD i Rec.z)).take ((((eB (lu.getD i Rec.z)).length : Int) / 2).toNat))).text) _)).asb (b' := false) sm) fun a Y => wlm Y rfl fun a Y => wly Y (ai rfl) fun a Y => wly Y (ai rfl) fun a Y => wly Y ((v_ne rfl rfl).asb (b' := false) sm) fun a Y => wlv Y (aw rfl rfl) fun a Y => ab (hK176 _ _ ?_)
   replace Y := Y.p16 4 5 6 8 12 19 7 78 79 80 22 34 217 218 219 240 rfl
   replace U := U.k7 508 rfl
   refine aE Y rfl ?_
   refine aq <| hK172 _ _ <| ao <| wlv Y ((aM rfl rfl de).asi (m' := 3) rfl) fun a Y => wlm Y rfl fun a Y => ab <| ba ?_
   refine aa fun K177 hK177 => wlv Y ((v_lt rfl rfl).asb (b' := false) rfl) fun a Y => ab (hK177 _ _ <| ac fun K178 hK178 => ?_)
   refine aE Y rfl ?_
   refine aL <| hK150 _ _ <| ao <| wlm Y rfl fun a Y => wlv Y (aM rfl rfl ⟨om, om⟩) fun a Y => wla Y rfl fun a Y => ab ?_
   refine ⟨_, ?_, i + 1, rfl, om, Y.pick [4, 5, 6, 8, 12, 19, 7, 78, 79, 80, 22, 34], U.select [1, 2, 3, 4, 5, 6] de⟩
   omega
  rw [hc32] at Y
  try simp only [qz] at hc32
  refine aL ?_
  exact ⟨Y.pick [4, 5, 6, 8, 12, 19, 7, 78, 79, 80], U.select [1, 2, 3, 4, 5] de⟩
 rintro a w191 ⟨Y, U⟩
 refine hK124 _ _ <| ao <| wlv Y ((aM rfl rfl de).asi (m' := 3) rfl) fun a Y => wlm Y rfl fun a Y => ab <| ba ?_
 refine aa fun K179 hK179 => wlv Y ((v_lt rfl rfl).asb (b' := false) rfl) fun a Y => ab (hK179 _ _ <| ac fun K180 hK180 => ?_)
 refine aE Y rfl ?_
 refine aL <| hK6 _ _ <| aa fun K181 hK181 => wlv Y (aj (U.g 4 rfl) rfl (isAgg27 _) (sizeOf27 _)) fun a Y => am Y U de call22 rfl (dN od _) ?_
 clear Y U
 intro a w192 Y U
 refine wlm Y rfl fun a Y => wlv Y (ag rfl rfl) fun a Y => wlv Y (ag rfl rfl) fun a Y => wla Y rfl fun a Y => wla Y rfl fun a Y => ab (hK181 _ _ ?_)
 replace Y := Y.p5 12 19 7 45 46 rfl
 replace U := U.k4 27 rfl
 refine aa fun K182 hK182 => wlv Y (aj (U.g 3 rfl) rfl (isAgg27 _) (sizeOf27 _)) fun a Y => am Y U de call23 rfl (eX od _) ?_
 clear Y U
 intro a w193 Y U
 refine wlm Y rfl fun a Y => wlv Y (ag rfl rfl) fun a Y => wlv Y (ag rfl rfl) fun a Y => wla Y rfl fun a Y => wla Y rfl fun a Y => ab (hK182 _ _ ?_)
 replace Y := Y.p6 19 7 45 46 47 48 rfl
 replace U : St No w0 [] w193 := U.mask [false, false, false, false]
 refine aa fun K183 hK183 => wlm Y rfl fun a Y => am Y U de call24 rfl (dj tx _ (by first | omega | (simp only [List.length_append, List.length_take]; omega))) ?_
 clear Y U
 intro a w194 Y U
 refine wlm Y rfl fun a Y => wlv Y (ag rfl rfl) fun a Y => wlv Y (ag rfl rfl) fun a Y => aC Y U de (zeroValue27 _) (cs := [iv 0, iv 0, iv 0, iv 0, .string (⟨#[]⟩)]) rfl ?_
 clear Y U
 intro a w195 Y U
 refine ay 0 Y U rfl rfl rfl (sizeOf27 _) rfl (lb rfl) (ds := [iv ((decX tx).t), iv ((decX tx).kind), iv ((decX tx).a), iv ((decX tx).b), sv ((decX tx).text)]) rfl rfl ?_
 clear Y U
 intro a w196 Y U
 refine wla Y rfl fun a Y => ab (hK183 _ _ <| aa fun K184 hK184 => ?_)
 refine wlm Y rfl fun a Y => am Y U de call25 rfl (cO tx _ (by first | omega | (simp only [List.length_append, List.length_take]; omega))) ?_
 clear Y U
 intro a w197 Y U
 refine wlm Y rfl fun a Y => wlv Y (ag rfl rfl) fun a Y => wlv Y (ag rfl rfl) fun a Y => aC Y U de (zeroValue27 _) (cs := [iv 0, iv 0, iv 0, iv 0, .string (⟨#[]⟩)]) rfl ?_
 clear Y U
 intro a w198 Y U
 refine ay 0 Y U rfl rfl rfl (sizeOf27 _) rfl (lb rfl) (ds := [iv ((decX tx).t), iv ((decX tx).kind), iv ((decX tx).a), iv ((decX tx).b), sv ((decX tx).text)]) rfl rfl ?_
 clear Y U
 intro a w199 Y U
 refine wla Y rfl fun a Y => ab (hK184 _ _ ?_)
 replace Y := Y.p9 19 45 46 47 48 49 50 51 52 rfl
 refine aa fun K185 hK185 => wlm Y rfl fun a Y => wlm Y rfl fun a Y => wly Y (ai rfl) fun a Y => wly Y (ai rfl) fun a Y => wly Y ((eu rfl rfl).asb (b' := true) sm) fun a Y => wlv Y (aB rfl rfl) fun a Y => wlm Y rfl fun a Y => wly Y (ai rfl) fun a Y => wly Y (ai rfl) fun a Y => wly Y ((v_eq rfl rfl).asb (b' := true) sm) fun a Y => wlv Y (aB rfl rfl) fun a Y => wlm Y rfl fun a Y => wly Y (aj (U.g 1 rfl) rfl (isAgg27 _) (sizeOf27 _)) fun a Y => wly Y (aj (U.g 0 rfl) rfl (isAgg27 _) (sizeOf27 _)) fun a Y => wly Y ((jI rfl rfl kr (eqRec ((decX tx).t) ((decX tx).kind) ((decX tx).a) ((decX tx).b) ((decX tx).text) ((decX tx).t) ((decX tx).kind) ((decX tx).a) ((decX tx).b) ((decX tx).text) _)).asb (b' := true) sm) fun a Y => wlv Y (aB rfl rfl) fun a Y => wlm Y rfl fun a Y => wly Y (ai rfl) fun a Y => wly Y (ai rfl) fun a Y => wly Y ((v_eq rfl rfl).asb (b' := true) sm) fun a Y => wlv Y (aB rfl rfl) fun a Y => wla Y rfl fun a Y => ab (hK185 _ _ ?_)
 replace Y := Y.p1 18 rfl
 replace U : St No w0 [] w199 := U.mask [false, false]
 refine au ?_
 refine ar Y results3 (ae rfl ah) ?_
 exact ⟨by rfl, U.ext⟩
end Go.Proofs.YtddfkkdanpmnaaaDoor
