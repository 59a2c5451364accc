import Derived.Test.YtdamipejlfipcaaClaimT
import Derived.Test.YtdamipejlfipcaaSet
namespace Go.Proofs.Ytdamipejlfipcaa
open Go.RowKit Go.PW
set_option linter.unusedVariables false
set_option linter.unusedSimpArgs false
set_option maxRecDepth 4000

set_option maxHeartbeats 4000000 in
/-- dialtone/dialtoneref16.Made -/
theorem made_ok (x0 x1 x2 x3 y0 y1 y2 y3 y4 y5 : Int) (xv : Value) (xs : List Tri) (w0 : World) (g0 : isI64 x0) (g1 : isI64 x1) (g2 : isI64 x2) (g3 : isI64 x3) (q0 : isI64 y0) (q1 : isI64 y1) (q2 : isI64 y2) (q3 : isI64 y3) (q4 : isI64 y4) (q5 : isI64 y5) (hxv : SlAt w0 xv 3 (xs.map Tri.cells)) (hfit : ∀ k, k < xs.length → (xs.getD k ⟨0, 0, 0⟩).fits) :
    Ret Try.prog 12 #[.agg #[.int .i64 x0, .int .i64 x1, .int .i64 x2, .int .i64 x3, .int .i64 y0, .int .i64 y1, .int .i64 y2, .int .i64 y3, .int .i64 y4, .int .i64 y5, xv]] w0 (MemR w0 (fun v : Value => .tuple #[(mkRul x0 x1 x2 x3).val, (mkClm y0 y1 y2 y3 y4 y5).val, v]) (fun v => [own v 45 3 ((mkL (mkRul x0 x1 x2 x3) (mkClm y0 y1 y2 y3 y4 y5) xs).map Evt.cells)]) (fun _ => True)) := by
  obtain ⟨rl, hrl⟩ : ∃ r, mkRul x0 x1 x2 x3 = r := ⟨_, rfl⟩
  obtain ⟨cl, hcl0⟩ : ∃ c, mkClm y0 y1 y2 y3 y4 y5 = c := ⟨_, rfl⟩
  rw [hrl, hcl0]
  have hr : areValid rl = true := hrl ▸ mkRul_valid x0 x1 x2 x3
  have hc : isClaim cl = true := hcl0 ▸ (mkClm_valid y0 y1 y2 y3 y4 y5).1
  have ha : cl.asked < 1000 := hcl0 ▸ (mkClm_valid y0 y1 y2 y3 y4 y5).2
  have hcl := isClaim_le hc
  have k0 := pick_lt y0 100000000 (by omega)
  have k1 := pick_lt y1 8 (by omega)
  have k2 := pick_lt y2 7 (by omega)
  have k3 := pick_lt y3 64 (by omega)
  have k4 := pick_lt y4 1000 (by omega)
  have k5 := pick_lt y5 2 (by omega)
  have gg0 := q0; have gg1 := q1; have gg2 := q2; have gg3 := q3; have gg4 := q4; have gg5 := q5
  unfold isI64 at gg0 gg1 gg2 gg3 gg4 gg5
  refine ret_of Try.func12 rfl Try.ntmps12 (Nat.le_of_ble_eq_true rfl) fun a hfr => ?_
  have hfr : Fr 124 [(0, _)] [] a := hfr
  have hst : St No w0 [] w0 := St.init w0
  refine wc_seq_region fun K1 hK1 => ?_
  refine wl_box hfr hst (by decide) rfl (cs := [.int .i64 x0, .int .i64 x1, .int .i64 x2, .int .i64 x3, .int .i64 y0, .int .i64 y1, .int .i64 y2, .int .i64 y3, .int .i64 y4, .int .i64 y5, xv]) rfl fun a w1 hfr hst => ?_
  refine wl_alloc hfr hst (by decide) (Try.zeroValue29 _) (cs := [.int .i64 0, .int .i64 0, .int .i64 0, .int .i64 0]) rfl fun a w2 hfr hst => ?_
  refine wl_alloc hfr hst (by decide) (Try.zeroValue31 _) (cs := [.int .i64 0, .int .i64 0, .int .i64 0, .int .i64 0, .int .i64 0, .bool false]) rfl fun a w3 hfr hst => ?_
  refine wl_v hfr (by decide) (v_assign rfl) fun a hfr => ?_
  refine wl_nil (hK1 _ _ ?_)
  refine wc_seq_region fun K2 hK2 => ?_
  refine wl_v hfr (by decide) (v_fieldAddr (v := .pointer (some ⟨w0.heap.size, 0, none⟩)) rfl (by kernel_rfl)) fun a hfr => ?_
  refine wl_v hfr (by decide) (v_load_blk (ds := [.int .i64 x0, .int .i64 x1, .int .i64 x2, .int .i64 x3]) (hst.get (k := 2) rfl) rfl (Try.isAgg22 _) (Try.sizeOf22 _) rfl) fun a hfr => ?_
  refine wl_callp hfr hst (by decide) Try.call34 rfl ((hrl ▸ madeRules_ok x0 x1 x2 x3 _ g0 g1 g2 g3)) fun a w4 hfr hst => ?_
  refine wl_alloc hfr hst (by decide) (Try.zeroValue29 _) (cs := [.int .i64 0, .int .i64 0, .int .i64 0, .int .i64 0]) rfl fun a w5 hfr hst => ?_
  refine wl_store 0 hfr hst rfl rfl rfl (Try.sizeOf29 _) rfl (Nat.le_of_ble_eq_true rfl) (ds := [.int .i64 rl.answer, .int .i64 rl.cooling, .int .i64 rl.settle, .int .i64 rl.reverse]) rfl rfl fun a w6 hfr hst => ?_
  refine wl_nil (hK2 _ _ ?_)
  refine wc_seq_region fun K3 hK3 => ?_
  refine wl_v hfr (by decide) (v_fieldAddr (v := .pointer (some ⟨w0.heap.size, 4, none⟩)) rfl (by kernel_rfl)) fun a hfr => ?_
  refine wl_v hfr (by decide) (v_load_blk (ds := [.int .i64 y0, .int .i64 y1, .int .i64 y2, .int .i64 y3, .int .i64 y4, .int .i64 y5]) (hst.get (k := 3) rfl) rfl (Try.isAgg23 _) (Try.sizeOf23 _) rfl) fun a hfr => ?_
  refine wl_alloc hfr hst (by decide) (Try.zeroValue23 _) (cs := [.int .i64 0, .int .i64 0, .int .i64 0, .int .i64 0, .int .i64 0, .int .i64 0]) rfl fun a w7 hfr hst => ?_
  refine wl_store 0 hfr hst rfl rfl rfl (Try.sizeOf23 _) rfl (Nat.le_of_ble_eq_true rfl) (ds := [.int .i64 y0, .int .i64 y1, .int .i64 y2, .int .i64 y3, .int .i64 y4, .int .i64 y5]) rfl rfl fun a w8 hfr hst => ?_
  refine wl_nil (hK3 _ _ ?_)
  refine wc_seq_k fun K4 hK4 => ?_
  refine wc_of_dr (by kernel_rfl) ?_
  have hfr : Fr 124 [(0, _), (1, _), (2, _), (3, _), (4, _), (15, _), (16, _), (17, _), (5, _), (18, _), (19, _), (6, _)] [] a := hfr.pick [0, 1, 2, 3, 4, 15, 16, 17, 5, 18, 19, 6]
  refine wc_phases' 18 [[], [0], [1], [], [3], [4], [], [6], [7], [], [9], [10], [], [12], [13], [14], [2, 5, 8, 11, 15], []] (fun i => match i with | 0 => pv (.pointer (some ⟨w6.heap.size, 0, none⟩)) | 1 => pv (.int .i64 y0) | 2 => pv (.int .i64 (pick y0 100000000)) | 3 => pv (.pointer (some ⟨w6.heap.size, 1, none⟩)) | 4 => pv (.int .i64 y1) | 5 => pv (.int .i64 (pick y1 8)) | 6 => pv (.pointer (some ⟨w6.heap.size, 3, none⟩)) | 7 => pv (.int .i64 y3) | 8 => pv (.int .i64 (pick y3 64)) | 9 => pv (.pointer (some ⟨w6.heap.size, 4, none⟩)) | 10 => pv (.int .i64 y4) | 11 => pv (.int .i64 (pick y4 1000)) | 12 => pv (.pointer (some ⟨w6.heap.size, 5, none⟩)) | 13 => pv (.int .i64 y5) | 14 => pv (.int .i64 (pick y5 2)) | 15 => pv (.bool (decide (pick y5 2 = 0))) | 16 => pv (.agg #[.int .i64 (pick y0 100000000), .int .i64 (pick y1 8), .int .i64 0, .int .i64 (pick y3 64), .int .i64 (pick y4 1000), .bool (decide (pick y5 2 = 0))]) | 17 => pm (fun b : Nat => .pointer (some ⟨b, 0, none⟩)) (fun b => [blk b [.int .i64 0, .int .i64 0, .int .i64 0, .int .i64 0, .int .i64 0, .bool false] 31]) (fun _ => True) | _ => fun _ _ => False) hfr hst (by kernel_rfl) (by kernel_rfl) ?_ ?_
  · intro i hi
    match i, hi with
    | 0, _ =>
      intro w hst
      exact OpV.g (v_indexAddr (v := .pointer (some ⟨w6.heap.size, 0, none⟩)) rfl rfl (by kernel_rfl))
    | 1, _ =>
      rintro _ _ ⟨rfl, rfl⟩
      intro w hst
      exact OpV.g (v_load_blk1 (hst.get (k := 0) rfl) rfl (Try.isAgg3 _) rfl)
    | 2, _ =>
      rintro _ _ ⟨rfl, rfl⟩
      intro w hst
      exact g_callp Try.call35 rfl (pickr16_ok _ _ _ (by omega) (by omega) (by omega) (by omega))
    | 3, _ =>
      intro w hst
      exact OpV.g (v_indexAddr (v := .pointer (some ⟨w6.heap.size, 1, none⟩)) rfl rfl (by kernel_rfl))
    | 4, _ =>
      rintro _ _ ⟨rfl, rfl⟩
      intro w hst
      exact OpV.g (v_load_blk1 (hst.get (k := 0) rfl) rfl (Try.isAgg3 _) rfl)
    | 5, _ =>
      rintro _ _ ⟨rfl, rfl⟩
      intro w hst
      exact g_callp Try.call35 rfl (pickr16_ok _ _ _ (by omega) (by omega) (by omega) (by omega))
    | 6, _ =>
      intro w hst
      exact OpV.g (v_indexAddr (v := .pointer (some ⟨w6.heap.size, 3, none⟩)) rfl rfl (by kernel_rfl))
    | 7, _ =>
      rintro _ _ ⟨rfl, rfl⟩
      intro w hst
      exact OpV.g (v_load_blk1 (hst.get (k := 0) rfl) rfl (Try.isAgg3 _) rfl)
    | 8, _ =>
      rintro _ _ ⟨rfl, rfl⟩
      intro w hst
      exact g_callp Try.call35 rfl (pickr16_ok _ _ _ (by omega) (by omega) (by omega) (by omega))
    | 9, _ =>
      intro w hst
      exact OpV.g (v_indexAddr (v := .pointer (some ⟨w6.heap.size, 4, none⟩)) rfl rfl (by kernel_rfl))
    | 10, _ =>
      rintro _ _ ⟨rfl, rfl⟩
      intro w hst
      exact OpV.g (v_load_blk1 (hst.get (k := 0) rfl) rfl (Try.isAgg3 _) rfl)
    | 11, _ =>
      rintro _ _ ⟨rfl, rfl⟩
      intro w hst
      exact g_callp Try.call35 rfl (pickr16_ok _ _ _ (by omega) (by omega) (by omega) (by omega))
    | 12, _ =>
      intro w hst
      exact OpV.g (v_indexAddr (v := .pointer (some ⟨w6.heap.size, 5, none⟩)) rfl rfl (by kernel_rfl))
    | 13, _ =>
      rintro _ _ ⟨rfl, rfl⟩
      intro w hst
      exact OpV.g (v_load_blk1 (hst.get (k := 0) rfl) rfl (Try.isAgg3 _) rfl)
    | 14, _ =>
      rintro _ _ ⟨rfl, rfl⟩
      intro w hst
      exact g_callp Try.call35 rfl (pickr16_ok _ _ _ (by omega) (by omega) (by omega) (by omega))
    | 15, _ =>
      rintro _ _ ⟨rfl, rfl⟩
      intro w hst
      exact OpV.g (v_eq rfl rfl)
    | 16, _ =>
      rintro _ _ ⟨rfl, rfl⟩ _ _ ⟨rfl, rfl⟩ _ _ ⟨rfl, rfl⟩ _ _ ⟨rfl, rfl⟩ _ _ ⟨rfl, rfl⟩
      intro w hst
      exact OpV.g (v_build (v := .agg #[.int .i64 (pick y0 100000000), .int .i64 (pick y1 8), .int .i64 0, .int .i64 (pick y3 64), .int .i64 (pick y4 1000), .bool (decide (pick y5 2 = 0))]) rfl (by kernel_rfl))
    | 17, _ =>
      intro w hst
      exact g_alloc (Try.zeroValue31 _) (cs := [.int .i64 0, .int .i64 0, .int .i64 0, .int .i64 0, .int .i64 0, .bool false]) rfl
    | i + 18, h => exact absurd h (by omega)
  rintro _ _ ⟨rfl, rfl⟩ _ _ ⟨rfl, rfl⟩ _ _ ⟨rfl, rfl⟩ _ _ ⟨rfl, rfl⟩ _ _ ⟨rfl, rfl⟩ _ _ ⟨rfl, rfl⟩ _ _ ⟨rfl, rfl⟩ _ _ ⟨rfl, rfl⟩ _ _ ⟨rfl, rfl⟩ _ _ ⟨rfl, rfl⟩ _ _ ⟨rfl, rfl⟩ _ _ ⟨rfl, rfl⟩ _ _ ⟨rfl, rfl⟩ _ _ ⟨rfl, rfl⟩ _ _ ⟨rfl, rfl⟩ _ _ ⟨rfl, rfl⟩ _ _ ⟨rfl, rfl⟩ _ _ ⟨b1, rfl, -, rfl⟩ a w9 hfr hst
  have hfr : Fr 124 [(20, _), (21, _), (22, _), (23, _), (24, _), (25, _), (26, _), (27, _), (28, _), (29, _), (30, _), (31, _), (32, _), (33, _), (34, _), (35, _), (36, _), (7, _), (0, _), (1, _), (2, _), (3, _), (4, _), (15, _), (16, _), (17, _), (5, _), (18, _), (19, _), (6, _)] [] a := hfr
  have hst : St No w0 [_, _, _, _, _, _] w9 := hst
  refine wl_store 0 hfr hst rfl rfl rfl (Try.sizeOf31 _) rfl (Nat.le_of_ble_eq_true rfl) (ds := [.int .i64 (pick y0 100000000), .int .i64 (pick y1 8), .int .i64 0, .int .i64 (pick y3 64), .int .i64 (pick y4 1000), .bool (decide (pick y5 2 = 0))]) rfl rfl fun a w10 hfr hst => ?_
  refine wl_nil ?_
  refine hK4 _ _ ?_
  have hfr : Fr 124 [(0, _), (1, _), (2, _), (3, _), (4, _), (15, _), (16, _), (17, _), (5, _), (18, _), (19, _), (6, _), (7, _)] [] a := hfr.pick [0, 1, 2, 3, 4, 15, 16, 17, 5, 18, 19, 6, 7]
  refine wc_seq_k fun K5 hK5 => ?_
  refine wc_of_dr (by kernel_rfl) ?_
  have hfr : Fr 124 [(0, _), (1, _), (2, _), (3, _), (4, _), (15, _), (16, _), (17, _), (5, _), (18, _), (19, _), (6, _), (7, _)] [] a := hfr.pick [0, 1, 2, 3, 4, 15, 16, 17, 5, 18, 19, 6, 7]
  refine wc_phases' 8 [[], [0], [1], [], [3], [4], [2, 5], [6]] (fun i => match i with | 0 => pv (.pointer (some ⟨b1, 1, none⟩)) | 1 => pv (.int .i64 (pick y1 8)) | 2 => pv (.int .i64 ((pick y1 8) + 1)) | 3 => pv (.pointer (some ⟨w6.heap.size, 2, none⟩)) | 4 => pv (.int .i64 y2) | 5 => pv (.int .i64 (pick y2 7)) | 6 => pv (.int .i64 (((pick y1 8) + 1) + (pick y2 7))) | 7 => pv (.int .i64 ((((pick y1 8) + 1) + (pick y2 7)) % 8)) | _ => fun _ _ => False) hfr hst (by kernel_rfl) (by kernel_rfl) ?_ ?_
  · intro i hi
    match i, hi with
    | 0, _ =>
      intro w hst
      exact OpV.g (v_fieldAddr (v := .pointer (some ⟨b1, 1, none⟩)) rfl (by kernel_rfl))
    | 1, _ =>
      rintro _ _ ⟨rfl, rfl⟩
      intro w hst
      exact OpV.g (v_load_blk1 (hst.get (k := 0) rfl) rfl (Try.isAgg3 _) rfl)
    | 2, _ =>
      rintro _ _ ⟨rfl, rfl⟩
      intro w hst
      exact OpV.g (v_add rfl rfl ⟨by omega, by omega⟩)
    | 3, _ =>
      intro w hst
      exact OpV.g (v_indexAddr (v := .pointer (some ⟨w6.heap.size, 2, none⟩)) rfl rfl (by kernel_rfl))
    | 4, _ =>
      rintro _ _ ⟨rfl, rfl⟩
      intro w hst
      exact OpV.g (v_load_blk1 (hst.get (k := 1) rfl) rfl (Try.isAgg3 _) rfl)
    | 5, _ =>
      rintro _ _ ⟨rfl, rfl⟩
      intro w hst
      exact g_callp Try.call35 rfl (pickr16_ok _ _ _ (by omega) (by omega) (by omega) (by omega))
    | 6, _ =>
      rintro _ _ ⟨rfl, rfl⟩ _ _ ⟨rfl, rfl⟩
      intro w hst
      exact OpV.g (v_add rfl rfl ⟨by omega, by omega⟩)
    | 7, _ =>
      rintro _ _ ⟨rfl, rfl⟩
      intro w hst
      exact OpV.g (v_rem rfl rfl (by omega) (by omega))
  rintro _ _ ⟨rfl, rfl⟩ _ _ ⟨rfl, rfl⟩ _ _ ⟨rfl, rfl⟩ _ _ ⟨rfl, rfl⟩ _ _ ⟨rfl, rfl⟩ _ _ ⟨rfl, rfl⟩ _ _ ⟨rfl, rfl⟩ _ _ ⟨rfl, rfl⟩ a w11 hfr hst
  have hfr : Fr 124 [(37, _), (38, _), (39, _), (40, _), (41, _), (42, _), (43, _), (44, _), (0, _), (1, _), (2, _), (3, _), (4, _), (15, _), (16, _), (17, _), (5, _), (18, _), (19, _), (6, _), (7, _)] [] a := hfr
  have hst : St No w0 [_, _, _, _, _, _] w11 := hst
  refine wl_v hfr (by decide) (v_fieldAddr (v := .pointer (some ⟨b1, 2, none⟩)) rfl (by kernel_rfl)) fun a hfr => ?_
  refine wl_store 0 hfr hst rfl rfl rfl (Try.sizeOf3 _) rfl (Nat.le_of_ble_eq_true rfl) (ds := [.int .i64 (pick y0 100000000), .int .i64 (pick y1 8), .int .i64 ((((pick y1 8) + 1) + (pick y2 7)) % 8), .int .i64 (pick y3 64), .int .i64 (pick y4 1000), .bool (decide (pick y5 2 = 0))]) rfl rfl fun a w12 hfr hst => ?_
  refine wl_nil ?_
  refine hK5 _ _ ?_
  have hfr : Fr 124 [(0, _), (1, _), (2, _), (3, _), (4, _), (15, _), (16, _), (17, _), (5, _), (18, _), (19, _), (6, _), (7, _)] [] a := hfr.pick [0, 1, 2, 3, 4, 15, 16, 17, 5, 18, 19, 6, 7]
  have hst : St No w0 [blk b1 [.int .i64 cl.number, .int .i64 cl.frm, .int .i64 cl.to, .int .i64 cl.holder, .int .i64 cl.asked, .bool cl.backed] 31, blk w6.heap.size [.int .i64 y0, .int .i64 y1, .int .i64 y2, .int .i64 y3, .int .i64 y4, .int .i64 y5] 23, blk w4.heap.size [.int .i64 rl.answer, .int .i64 rl.cooling, .int .i64 rl.settle, .int .i64 rl.reverse] 29, blk w2.heap.size [.int .i64 0, .int .i64 0, .int .i64 0, .int .i64 0, .int .i64 0, .bool false] 31, blk w1.heap.size [.int .i64 0, .int .i64 0, .int .i64 0, .int .i64 0] 29, blk w0.heap.size [.int .i64 x0, .int .i64 x1, .int .i64 x2, .int .i64 x3, .int .i64 y0, .int .i64 y1, .int .i64 y2, .int .i64 y3, .int .i64 y4, .int .i64 y5, xv] 26] w12 := by rw [← hcl0]; exact hst
  refine wc_seq_region fun K6 hK6 => ?_
  refine wl_v hfr (by decide) (v_assign rfl) fun a hfr => ?_
  refine wl_nil (hK6 _ _ ?_)
  refine wc_seq_region fun K7 hK7 => ?_
  refine wl_v hfr (by decide) (v_fieldAddr (v := .pointer (some ⟨b1, 4, none⟩)) rfl (by kernel_rfl)) fun a hfr => ?_
  refine wl_v hfr (by decide) (v_load_blk1 (hst.get (k := 0) rfl) rfl (Try.isAgg3 _) rfl) fun a hfr => ?_
  refine wl_v hfr (by decide) (v_assign rfl) fun a hfr => ?_
  refine wl_nil (hK7 _ _ ?_)
  refine wc_seq_k fun K8 hK8 => ?_
  refine wc_seq_region fun K9 hK9 => ?_
  refine wl_v hfr (by decide) (v_assign rfl) fun a hfr => ?_
  refine wl_nil (hK9 _ _ ?_)
  refine wc_block ?_
  have hst : St No w0 (own (.slice none 0 0) 45 3 [] :: [blk b1 [.int .i64 cl.number, .int .i64 cl.frm, .int .i64 cl.to, .int .i64 cl.holder, .int .i64 cl.asked, .bool cl.backed] 31, blk w6.heap.size [.int .i64 y0, .int .i64 y1, .int .i64 y2, .int .i64 y3, .int .i64 y4, .int .i64 y5] 23, blk w4.heap.size [.int .i64 rl.answer, .int .i64 rl.cooling, .int .i64 rl.settle, .int .i64 rl.reverse] 29, blk w2.heap.size [.int .i64 0, .int .i64 0, .int .i64 0, .int .i64 0, .int .i64 0, .bool false] 31, blk w1.heap.size [.int .i64 0, .int .i64 0, .int .i64 0, .int .i64 0] 29, blk w0.heap.size [.int .i64 x0, .int .i64 x1, .int .i64 x2, .int .i64 x3, .int .i64 y0, .int .i64 y1, .int .i64 y2, .int .i64 y3, .int .i64 y4, .int .i64 y5, xv] 26]) w12 := hst.nil_own
  refine wc_loop (fun m a w => ∃ (k : Nat) (v : Value), m = 10 - k ∧ (k ≤ 10) ∧ (k ≤ xs.length) ∧ Fr 124 [(0, .agg #[.int .i64 x0, .int .i64 x1, .int .i64 x2, .int .i64 x3, .int .i64 y0, .int .i64 y1, .int .i64 y2, .int .i64 y3, .int .i64 y4, .int .i64 y5, xv]), (1, .pointer (some ⟨w0.heap.size, 0, none⟩)), (2, .pointer (some ⟨w1.heap.size, 0, none⟩)), (3, .pointer (some ⟨w2.heap.size, 0, none⟩)), (4, .slice none 0 0), (15, .pointer (some ⟨w0.heap.size, 0, none⟩)), (16, .agg #[.int .i64 x0, .int .i64 x1, .int .i64 x2, .int .i64 x3]), (17, .agg #[.int .i64 rl.answer, .int .i64 rl.cooling, .int .i64 rl.settle, .int .i64 rl.reverse]), (5, .pointer (some ⟨w4.heap.size, 0, none⟩)), (18, .pointer (some ⟨w0.heap.size, 4, none⟩)), (19, .agg #[.int .i64 y0, .int .i64 y1, .int .i64 y2, .int .i64 y3, .int .i64 y4, .int .i64 y5]), (6, .pointer (some ⟨w6.heap.size, 0, none⟩)), (7, .pointer (some ⟨b1, 0, none⟩)), (46, .pointer (some ⟨b1, 4, none⟩)), (47, .int .i64 cl.asked), (10, .int .i64 (k : Int)), (8, v), (9, .int .i64 (lastAt cl.asked (mkN rl cl xs k) k))] [] a ∧ St No w0 [own v 45 3 ((mkN rl cl xs k).map Evt.cells), blk w0.heap.size [.int .i64 x0, .int .i64 x1, .int .i64 x2, .int .i64 x3, .int .i64 y0, .int .i64 y1, .int .i64 y2, .int .i64 y3, .int .i64 y4, .int .i64 y5, xv] 26, blk w1.heap.size [.int .i64 0, .int .i64 0, .int .i64 0, .int .i64 0] 29, blk w2.heap.size [.int .i64 0, .int .i64 0, .int .i64 0, .int .i64 0, .int .i64 0, .bool false] 31, blk w4.heap.size [.int .i64 rl.answer, .int .i64 rl.cooling, .int .i64 rl.settle, .int .i64 rl.reverse] 29, blk b1 [.int .i64 cl.number, .int .i64 cl.frm, .int .i64 cl.to, .int .i64 cl.holder, .int .i64 cl.asked, .bool cl.backed] 31] w) _ ⟨0, .slice none 0 0, rfl, (by omega), (by omega), hfr.pick [0, 1, 2, 3, 4, 15, 16, 17, 5, 18, 19, 6, 7, 46, 47, 10, 8, 9], hst.select [0, 6, 5, 4, 3, 1] (by decide)⟩ ?_
  rintro _ a w13 ⟨k, v, rfl, hk10, hkx, hfr, hst⟩
  refine wc_seq_k fun K10 hK10 => ?_
  refine wc_seq_region fun K11 hK11 => ?_
  refine wl_v hfr (by decide) (v_move rfl) fun a hfr => ?_
  refine wl_v hfr (by decide) (v_fieldAddr (v := .pointer (some ⟨w0.heap.size, 10, none⟩)) rfl (by kernel_rfl)) fun a hfr => ?_
  refine wl_v hfr (by decide) (v_load_blk1 (hst.get (k := 1) rfl) rfl (Try.isAgg24 _) rfl) fun a hfr => ?_
  refine wl_v hfr (by decide) ((v_len_sl (sT := 24) (hst.arg hxv) rfl rfl (Try.runUnderlying24 _)).asi (m' := (xs.length : Int)) (by simp)) fun a hfr => ?_
  refine wl_v hfr (by decide) (v_lt rfl rfl) fun a hfr => ?_
  refine wl_v hfr (by decide) (v_move rfl) fun a hfr => ?_
  rcases Bool.eq_false_or_eq_true (decide ((k : Int) < (xs.length : Int))) with hb2 | hb2
  · rw [hb2] at hfr
    try simp only [Bool.not_eq_true', Bool.not_eq_false', decide_eq_true_eq, decide_eq_false_iff_not] at hb2
    have hkl : k < xs.length := by omega
    refine wl_vy hfr (by decide) rfl (by decide) rfl (v_move rfl) fun a hfr => ?_
    refine wl_vy hfr (by decide) rfl (by decide) rfl (v_lt rfl rfl) fun a hfr => ?_
    refine wl_v hfr (by decide) (v_pick_t rfl rfl) fun a hfr => ?_
    refine wl_nil (hK11 _ _ ?_)
    have hfr : Fr 124 [(0, _), (1, _), (2, _), (3, _), (4, _), (15, _), (16, _), (17, _), (5, _), (18, _), (19, _), (6, _), (7, _), (46, _), (47, _), (10, _), (8, _), (9, _), (56, _)] [] a := hfr.pick [0, 1, 2, 3, 4, 15, 16, 17, 5, 18, 19, 6, 7, 46, 47, 10, 8, 9, 56]
    refine wc_cond hfr rfl (fun hc3 => ?_) (fun hc3 => ?_)
    · rw [hc3] at hfr
      try simp only [Bool.not_eq_true', Bool.not_eq_false', decide_eq_true_eq, decide_eq_false_iff_not] at hc3
      obtain ⟨hvk, hl1, hl2⟩ := mkN_valid hr hc ha xs k (by omega)
      obtain ⟨la, hla⟩ : ∃ la, lastAt cl.asked (mkN rl cl xs k) k = la := ⟨_, rfl⟩
      obtain ⟨nw, hnw⟩ : ∃ nw, outR rl cl (mkN rl cl xs k) la = nw := ⟨_, rfl⟩
      rw [hla] at hfr hl1 hl2
      obtain ⟨hn1, hn2, _⟩ := outR_next hvk hl1
      rw [hnw] at hn1 hn2
      obtain ⟨z, hz⟩ : ∃ z, xs.getD k ⟨0, 0, 0⟩ = z := ⟨_, rfl⟩
      have hzf : z.fits := hz ▸ hfit k hkl
      obtain ⟨hza, hzb, hzc⟩ := hzf
      have hzq := tdiv_fits z.b 4 (by omega) hzb
      unfold isI64 at hza hzb hzc hzq
      have hin : isIn la 0 20000000 = true := by simp [isIn]; omega
      have pk1 := pick_lt z.a 6 (by omega)
      have pk2 := pick_lt z.b 4 (by omega)
      have pk3 := pick_lt z.b 3 (by omega)
      have pk4 := pick_lt z.c 4 (by omega)
      refine wc_skip ?_
      refine hK10 _ _ ?_
      refine wc_seq_k fun K12 hK12 => ?_
      refine wc_block ?_
      refine wc_seq_region fun K13 hK13 => ?_
      refine wl_v hfr (by decide) (v_fieldAddr (v := .pointer (some ⟨w0.heap.size, 10, none⟩)) rfl (by kernel_rfl)) fun a hfr => ?_
      refine wl_v hfr (by decide) (v_load_blk1 (hst.get (k := 1) rfl) rfl (Try.isAgg24 _) rfl) fun a hfr => ?_
      refine wl_v hfr (by decide) (v_move rfl) fun a hfr => ?_
      refine wl_v hfr (by decide) ((v_indexAddr_sl (i := (k : Int)) (sT := 24) (hst.arg hxv) rfl rfl (Try.runUnderlying24 _) (Try.sizeOf82 _) (by omega) (by simpa using hkl)).as (v' := slAddr xv (k * 3)) rfl) fun a hfr => ?_
      refine wl_v hfr (by decide) ((v_load_sl (hst.arg hxv) (i := k) (by simpa using hkl) rfl (Try.isAgg82 _) (Try.sizeOf82 _)).as (v' := .agg #[.int .i64 z.a, .int .i64 z.b, .int .i64 z.c]) (by rw [← hz]; show _ = Value.agg (xs.getD k ⟨0, 0, 0⟩).cells.toArray; simp [hkl])) fun a hfr => ?_
      refine wl_alloc hfr hst (by decide) (Try.zeroValue82 _) (cs := [.int .i64 0, .int .i64 0, .int .i64 0]) rfl fun a w14 hfr hst => ?_
      refine wl_store 0 hfr hst rfl rfl rfl (Try.sizeOf82 _) rfl (Nat.le_of_ble_eq_true rfl) (ds := [.int .i64 z.a, .int .i64 z.b, .int .i64 z.c]) rfl rfl fun a w15 hfr hst => ?_
      refine wl_nil (hK13 _ _ ?_)
      refine wc_seq_k fun K14 hK14 => ?_
      refine wc_of_dr (by kernel_rfl) ?_
      have hfr : Fr 124 [(0, _), (1, _), (2, _), (3, _), (4, _), (15, _), (16, _), (17, _), (5, _), (18, _), (19, _), (6, _), (7, _), (46, _), (47, _), (10, _), (8, _), (9, _), (56, _), (59, _), (60, _), (61, _), (62, _), (63, _), (11, _)] [] a := hfr.pick [0, 1, 2, 3, 4, 15, 16, 17, 5, 18, 19, 6, 7, 46, 47, 10, 8, 9, 56, 59, 60, 61, 62, 63, 11]
      refine wc_phases' 11 [[], [0], [1], [2], [], [], [5], [6], [4, 7], [3, 8], []] (fun i => match i with | 0 => pv (.pointer (some ⟨w13.heap.size, 0, none⟩)) | 1 => pv (.int .i64 z.a) | 2 => pv (.int .i64 (pick z.a 6)) | 3 => pv (.int .i64 (1 + (pick z.a 6))) | 4 => pv (.int .i64 la) | 5 => pv (.pointer (some ⟨w13.heap.size, 1, none⟩)) | 6 => pv (.int .i64 z.b) | 7 => pv (.int .i64 (pick z.b 4)) | 8 => pv (.int .i64 (la + (pick z.b 4))) | 9 => pv (.agg #[.int .i64 (1 + (pick z.a 6)), .int .i64 (la + (pick z.b 4)), .int .i64 0]) | 10 => pm (fun b : Nat => .pointer (some ⟨b, 0, none⟩)) (fun b => [blk b [.int .i64 0, .int .i64 0, .int .i64 0] 45]) (fun _ => True) | _ => fun _ _ => False) hfr hst (by kernel_rfl) (by kernel_rfl) ?_ ?_
      · intro i hi
        match i, hi with
        | 0, _ =>
          intro w hst
          exact OpV.g (v_indexAddr (v := .pointer (some ⟨w13.heap.size, 0, none⟩)) rfl rfl (by kernel_rfl))
        | 1, _ =>
          rintro _ _ ⟨rfl, rfl⟩
          intro w hst
          exact OpV.g (v_load_blk1 (hst.get (k := 0) rfl) rfl (Try.isAgg3 _) rfl)
        | 2, _ =>
          rintro _ _ ⟨rfl, rfl⟩
          intro w hst
          exact g_callp Try.call35 rfl (pickr16_ok _ _ _ (by omega) (by omega) (by omega) (by omega))
        | 3, _ =>
          rintro _ _ ⟨rfl, rfl⟩
          intro w hst
          exact OpV.g (v_add rfl rfl ⟨by omega, by omega⟩)
        | 4, _ =>
          intro w hst
          exact OpV.g (v_move rfl)
        | 5, _ =>
          intro w hst
          exact OpV.g (v_indexAddr (v := .pointer (some ⟨w13.heap.size, 1, none⟩)) rfl rfl (by kernel_rfl))
        | 6, _ =>
          rintro _ _ ⟨rfl, rfl⟩
          intro w hst
          exact OpV.g (v_load_blk1 (hst.get (k := 0) rfl) rfl (Try.isAgg3 _) rfl)
        | 7, _ =>
          rintro _ _ ⟨rfl, rfl⟩
          intro w hst
          exact g_callp Try.call35 rfl (pickr16_ok _ _ _ (by omega) (by omega) (by omega) (by omega))
        | 8, _ =>
          rintro _ _ ⟨rfl, rfl⟩ _ _ ⟨rfl, rfl⟩
          intro w hst
          exact OpV.g (v_add rfl rfl ⟨by omega, by omega⟩)
        | 9, _ =>
          rintro _ _ ⟨rfl, rfl⟩ _ _ ⟨rfl, rfl⟩
          intro w hst
          exact OpV.g (v_build (v := .agg #[.int .i64 (1 + (pick z.a 6)), .int .i64 (la + (pick z.b 4)), .int .i64 0]) rfl (by kernel_rfl))
        | 10, _ =>
          intro w hst
          exact g_alloc (Try.zeroValue45 _) (cs := [.int .i64 0, .int .i64 0, .int .i64 0]) rfl
      rintro _ _ ⟨rfl, rfl⟩ _ _ ⟨rfl, rfl⟩ _ _ ⟨rfl, rfl⟩ _ _ ⟨rfl, rfl⟩ _ _ ⟨rfl, rfl⟩ _ _ ⟨rfl, rfl⟩ _ _ ⟨rfl, rfl⟩ _ _ ⟨rfl, rfl⟩ _ _ ⟨rfl, rfl⟩ _ _ ⟨rfl, rfl⟩ _ _ ⟨b4, rfl, -, rfl⟩ a w16 hfr hst
      have hfr : Fr 124 [(64, _), (65, _), (66, _), (67, _), (68, _), (69, _), (70, _), (71, _), (72, _), (73, _), (12, _), (0, _), (1, _), (2, _), (3, _), (4, _), (15, _), (16, _), (17, _), (5, _), (18, _), (19, _), (6, _), (7, _), (46, _), (47, _), (10, _), (8, _), (9, _), (56, _), (59, _), (60, _), (61, _), (62, _), (63, _), (11, _)] [] a := hfr
      have hst : St No w0 [_, _, _, _, _, _, _, _] w16 := hst
      refine wl_store 0 hfr hst rfl rfl rfl (Try.sizeOf45 _) rfl (Nat.le_of_ble_eq_true rfl) (ds := [.int .i64 (1 + (pick z.a 6)), .int .i64 (la + (pick z.b 4)), .int .i64 0]) rfl rfl fun a w17 hfr hst => ?_
      refine wl_nil ?_
      refine hK14 _ _ ?_
      have hfr : Fr 124 [(0, _), (1, _), (2, _), (3, _), (4, _), (15, _), (16, _), (17, _), (5, _), (18, _), (19, _), (6, _), (7, _), (46, _), (47, _), (10, _), (8, _), (9, _), (56, _), (59, _), (60, _), (61, _), (62, _), (63, _), (11, _), (12, _)] [] a := hfr.pick [0, 1, 2, 3, 4, 15, 16, 17, 5, 18, 19, 6, 7, 46, 47, 10, 8, 9, 56, 59, 60, 61, 62, 63, 11, 12]
      refine wc_seq_k fun K15 hK15 => ?_
      refine wc_seq_region fun K16 hK16 => ?_
      refine wl_v hfr (by decide) (v_load_all (hst.get (k := 6) rfl) rfl (Try.isAgg29 _) (Try.sizeOf29 _)) fun a hfr => ?_
      refine wl_v hfr (by decide) (v_load_all (hst.get (k := 7) rfl) rfl (Try.isAgg31 _) (Try.sizeOf31 _)) fun a hfr => ?_
      refine wl_v hfr (by decide) (v_move rfl) fun a hfr => ?_
      refine wl_v hfr (by decide) (v_move rfl) fun a hfr => ?_
      refine wl_callp hfr hst (by decide) Try.call36 rfl ((hnw ▸ routcome_ok rl cl v (mkN rl cl xs k) la _ (hst.ownAt (i := 2) rfl) hvk hin)) fun a w18 hfr hst => ?_
      refine wl_v hfr (by decide) (v_move rfl) fun a hfr => ?_
      refine wl_v hfr (by decide) (v_extract rfl rfl) fun a hfr => ?_
      refine wl_v hfr (by decide) (v_extract rfl rfl) fun a hfr => ?_
      refine wl_alloc hfr hst (by decide) (Try.zeroValue39 _) (cs := [.int .i64 0, .int .i64 0, .int .i64 0]) rfl fun a w19 hfr hst => ?_
      refine wl_store 0 hfr hst rfl rfl rfl (Try.sizeOf39 _) rfl (Nat.le_of_ble_eq_true rfl) (ds := [.int .i64 nw.state, .int .i64 nw.since, .int .i64 nw.next]) rfl rfl fun a w20 hfr hst => ?_
      refine wl_v hfr (by decide) (v_assign rfl) fun a hfr => ?_
      refine wl_nil (hK16 _ _ ?_)
      have hfr : Fr 124 [(0, _), (1, _), (2, _), (3, _), (4, _), (15, _), (16, _), (17, _), (5, _), (18, _), (19, _), (6, _), (7, _), (46, _), (47, _), (10, _), (8, _), (9, _), (56, _), (59, _), (60, _), (61, _), (62, _), (63, _), (11, _), (12, _), (13, _)] [] a := hfr.pick [0, 1, 2, 3, 4, 15, 16, 17, 5, 18, 19, 6, 7, 46, 47, 10, 8, 9, 56, 59, 60, 61, 62, 63, 11, 12, 13]
      refine wc_seq_region fun K17 hK17 => ?_
      refine wl_v hfr (by decide) (v_fieldAddr (v := .pointer (some ⟨w18.heap.size, 2, none⟩)) rfl (by kernel_rfl)) fun a hfr => ?_
      refine wl_v hfr (by decide) (v_load_blk1 (hst.get (k := 0) rfl) rfl (Try.isAgg3 _) rfl) fun a hfr => ?_
      refine wl_v hfr (by decide) (v_gt rfl rfl) fun a hfr => ?_
      refine wl_v hfr (by decide) (v_move rfl) fun a hfr => ?_
      rcases Bool.eq_false_or_eq_true (decide (0 < nw.next)) with hb5 | hb5
      · rw [hb5] at hfr
        try simp only [Bool.not_eq_true', Bool.not_eq_false', decide_eq_true_eq, decide_eq_false_iff_not] at hb5
        refine wl_vy hfr (by decide) rfl (by decide) rfl (v_indexAddr (v := .pointer (some ⟨w13.heap.size, 1, none⟩)) rfl rfl (by kernel_rfl)) fun a hfr => ?_
        refine wl_vy hfr (by decide) rfl (by decide) rfl (v_load_blk1 (hst.get (k := 2) rfl) rfl (Try.isAgg3 _) rfl) fun a hfr => ?_
        refine wl_vy hfr (by decide) rfl (by decide) rfl (v_quo' rfl rfl (by omega) ⟨by omega, by omega⟩) fun a hfr => ?_
        refine wl_callpy hfr hst (by decide) rfl (by decide) rfl Try.call35 rfl (pickr16_ok _ _ _ (by omega) (by omega) (by omega) (by omega)) fun a w21 hfr hst => ?_
        refine wl_vy hfr (by decide) rfl (by decide) rfl (v_gt rfl rfl) fun a hfr => ?_
        refine wl_v hfr (by decide) (v_pick_t rfl rfl) fun a hfr => ?_
        refine wl_nil (hK17 _ _ ?_)
        have hfr : Fr 124 [(0, _), (1, _), (2, _), (3, _), (4, _), (15, _), (16, _), (17, _), (5, _), (18, _), (19, _), (6, _), (7, _), (46, _), (47, _), (10, _), (8, _), (9, _), (56, _), (59, _), (60, _), (61, _), (62, _), (63, _), (11, _), (12, _), (13, _), (91, _)] [] a := hfr.pick [0, 1, 2, 3, 4, 15, 16, 17, 5, 18, 19, 6, 7, 46, 47, 10, 8, 9, 56, 59, 60, 61, 62, 63, 11, 12, 13, 91]
        refine wc_cond hfr rfl (fun hc6 => ?_) (fun hc6 => ?_)
        · rw [hc6] at hfr
          try simp only [Bool.not_eq_true', Bool.not_eq_false', decide_eq_true_eq, decide_eq_false_iff_not] at hc6
          refine wc_of_dr (by kernel_rfl) ?_
          have hfr : Fr 124 [(0, _), (1, _), (2, _), (3, _), (4, _), (15, _), (16, _), (17, _), (5, _), (18, _), (19, _), (6, _), (7, _), (46, _), (47, _), (10, _), (8, _), (9, _), (56, _), (59, _), (60, _), (61, _), (62, _), (63, _), (11, _), (12, _), (13, _), (91, _)] [] a := hfr.pick [0, 1, 2, 3, 4, 15, 16, 17, 5, 18, 19, 6, 7, 46, 47, 10, 8, 9, 56, 59, 60, 61, 62, 63, 11, 12, 13, 91]
          refine wc_phases' 9 [[], [], [1], [2], [], [4], [5], [3, 6], [0, 7]] (fun i => match i with | 0 => pv (.int .i64 la) | 1 => pv (.pointer (some ⟨w18.heap.size, 2, none⟩)) | 2 => pv (.int .i64 nw.next) | 3 => pv (.int .i64 (nw.next - 1)) | 4 => pv (.pointer (some ⟨w13.heap.size, 1, none⟩)) | 5 => pv (.int .i64 z.b) | 6 => pv (.int .i64 (pick z.b 3)) | 7 => pv (.int .i64 ((nw.next - 1) + (pick z.b 3))) | 8 => pv (.int .i64 (max la ((nw.next - 1) + (pick z.b 3)))) | _ => fun _ _ => False) hfr hst (by kernel_rfl) (by kernel_rfl) ?_ ?_
          · intro i hi
            match i, hi with
            | 0, _ =>
              intro w hst
              exact OpV.g (v_move rfl)
            | 1, _ =>
              intro w hst
              exact OpV.g (v_fieldAddr (v := .pointer (some ⟨w18.heap.size, 2, none⟩)) rfl (by kernel_rfl))
            | 2, _ =>
              rintro _ _ ⟨rfl, rfl⟩
              intro w hst
              exact OpV.g (v_load_blk1 (hst.get (k := 0) rfl) rfl (Try.isAgg3 _) rfl)
            | 3, _ =>
              rintro _ _ ⟨rfl, rfl⟩
              intro w hst
              exact OpV.g (v_sub rfl rfl ⟨by omega, by omega⟩)
            | 4, _ =>
              intro w hst
              exact OpV.g (v_indexAddr (v := .pointer (some ⟨w13.heap.size, 1, none⟩)) rfl rfl (by kernel_rfl))
            | 5, _ =>
              rintro _ _ ⟨rfl, rfl⟩
              intro w hst
              exact OpV.g (v_load_blk1 (hst.get (k := 2) rfl) rfl (Try.isAgg3 _) rfl)
            | 6, _ =>
              rintro _ _ ⟨rfl, rfl⟩
              intro w hst
              exact g_callp Try.call35 rfl (pickr16_ok _ _ _ (by omega) (by omega) (by omega) (by omega))
            | 7, _ =>
              rintro _ _ ⟨rfl, rfl⟩ _ _ ⟨rfl, rfl⟩
              intro w hst
              exact OpV.g (v_add rfl rfl ⟨by omega, by omega⟩)
            | 8, _ =>
              rintro _ _ ⟨rfl, rfl⟩ _ _ ⟨rfl, rfl⟩
              intro w hst
              exact OpV.g (v_max2 rfl rfl)
          rintro _ _ ⟨rfl, rfl⟩ _ _ ⟨rfl, rfl⟩ _ _ ⟨rfl, rfl⟩ _ _ ⟨rfl, rfl⟩ _ _ ⟨rfl, rfl⟩ _ _ ⟨rfl, rfl⟩ _ _ ⟨rfl, rfl⟩ _ _ ⟨rfl, rfl⟩ _ _ ⟨rfl, rfl⟩ a w22 hfr hst
          have hfr : Fr 124 [(92, _), (93, _), (94, _), (95, _), (96, _), (97, _), (98, _), (99, _), (100, _), (0, _), (1, _), (2, _), (3, _), (4, _), (15, _), (16, _), (17, _), (5, _), (18, _), (19, _), (6, _), (7, _), (46, _), (47, _), (10, _), (8, _), (9, _), (56, _), (59, _), (60, _), (61, _), (62, _), (63, _), (11, _), (12, _), (13, _), (91, _)] [] a := hfr
          have hst : St No w0 [_, _, _, _, _, _, _, _, _] w22 := hst
          refine wl_v hfr (by decide) (v_fieldAddr (v := .pointer (some ⟨b4, 1, none⟩)) rfl (by kernel_rfl)) fun a hfr => ?_
          refine wl_store 1 hfr hst rfl rfl rfl (Try.sizeOf3 _) rfl (Nat.le_of_ble_eq_true rfl) (ds := [.int .i64 (1 + (pick z.a 6)), .int .i64 (max la ((nw.next - 1) + (pick z.b 3))), .int .i64 0]) rfl rfl fun a w23 hfr hst => ?_
          refine wl_nil ?_
          refine hK15 _ _ ?_
          have hfr : Fr 124 [(0, _), (1, _), (2, _), (3, _), (4, _), (15, _), (16, _), (17, _), (5, _), (18, _), (19, _), (6, _), (7, _), (46, _), (47, _), (10, _), (8, _), (9, _), (56, _), (59, _), (60, _), (61, _), (62, _), (63, _), (11, _), (12, _), (13, _), (91, _)] [] a := hfr.pick [0, 1, 2, 3, 4, 15, 16, 17, 5, 18, 19, 6, 7, 46, 47, 10, 8, 9, 56, 59, 60, 61, 62, 63, 11, 12, 13, 91]
          refine wc_seq_k fun K18 hK18 => ?_
          refine wc_seq_region fun K19 hK19 => ?_
          refine wl_v hfr (by decide) (v_fieldAddr (v := .pointer (some ⟨b4, 0, none⟩)) rfl (by kernel_rfl)) fun a hfr => ?_
          refine wl_v hfr (by decide) (v_load_blk1 (hst.get (k := 1) rfl) rfl (Try.isAgg3 _) rfl) fun a hfr => ?_
          refine wl_v hfr (by decide) (v_eq rfl rfl) fun a hfr => ?_
          refine wl_v hfr (by decide) (v_move rfl) fun a hfr => ?_
          rcases Bool.eq_false_or_eq_true (decide (1 + (pick z.a 6) = 2)) with hb7 | hb7
          · rw [hb7] at hfr
            try simp only [Bool.not_eq_true', Bool.not_eq_false', decide_eq_true_eq, decide_eq_false_iff_not] at hb7
            refine wl_vn hfr (by decide) rfl (by decide) rfl rfl fun a hfr => ?_
            refine wl_vn hfr (by decide) rfl (by decide) rfl rfl fun a hfr => ?_
            refine wl_vn hfr (by decide) rfl (by decide) rfl rfl fun a hfr => ?_
            refine wl_v hfr (by decide) (v_pick_t rfl rfl) fun a hfr => ?_
            refine wl_nil (hK19 _ _ ?_)
            have hfr : Fr 124 [(0, _), (1, _), (2, _), (3, _), (4, _), (15, _), (16, _), (17, _), (5, _), (18, _), (19, _), (6, _), (7, _), (46, _), (47, _), (10, _), (8, _), (9, _), (56, _), (59, _), (60, _), (61, _), (62, _), (63, _), (11, _), (12, _), (13, _), (91, _), (109, _)] [] a := hfr.pick [0, 1, 2, 3, 4, 15, 16, 17, 5, 18, 19, 6, 7, 46, 47, 10, 8, 9, 56, 59, 60, 61, 62, 63, 11, 12, 13, 91, 109]
            refine wc_cond_t hfr rfl ?_
            refine wc_region ?_
            refine wl_v hfr (by decide) (v_indexAddr (v := .pointer (some ⟨w13.heap.size, 2, none⟩)) rfl rfl (by kernel_rfl)) fun a hfr => ?_
            refine wl_v hfr (by decide) (v_load_blk1 (hst.get (k := 2) rfl) rfl (Try.isAgg3 _) rfl) fun a hfr => ?_
            refine wl_callp hfr hst (by decide) Try.call35 rfl (pickr16_ok _ _ _ (by omega) (by omega) (by omega) (by omega)) fun a w24 hfr hst => ?_
            refine wl_v hfr (by decide) (v_add rfl rfl ⟨by omega, by omega⟩) fun a hfr => ?_
            refine wl_v hfr (by decide) (v_fieldAddr (v := .pointer (some ⟨b4, 2, none⟩)) rfl (by kernel_rfl)) fun a hfr => ?_
            refine wl_store 1 hfr hst rfl rfl rfl (Try.sizeOf3 _) rfl (Nat.le_of_ble_eq_true rfl) (ds := [.int .i64 (1 + (pick z.a 6)), .int .i64 (max la ((nw.next - 1) + (pick z.b 3))), .int .i64 (1 + (pick z.c 4))]) rfl rfl fun a w25 hfr hst => ?_
            refine wl_nil ?_
            refine hK18 _ _ ?_
            refine wc_seq_region fun K20 hK20 => ?_
            refine wl_v hfr (by decide) (v_move rfl) fun a hfr => ?_
            refine wl_v hfr (by decide) (v_load_all (hst.get (k := 1) rfl) rfl (Try.isAgg45 _) (Try.sizeOf45 _)) fun a hfr => ?_
            refine wl_buildSlice (E := 45) (sz := 3) rfl [[.int .i64 (1 + (pick z.a 6)), .int .i64 (max la ((nw.next - 1) + (pick z.b 3))), .int .i64 (1 + (pick z.c 4))]] (by kernel_rfl) (by simp) rfl (by decide) (by decide) hfr hst fun a w26 hfr hst => ?_
            refine wl_append (i := 4) (sT := 32) (inf := Try.t45) (z := .agg #[.int .i64 0, .int .i64 0, .int .i64 0]) (b := 0) (off := 0) (m := 0) (c := 0) rfl rfl rfl (hst.ownAt (i := 0) rfl) (by simp) Try.underlying32 rfl rfl rfl rfl (by decide) (by simp [Value.oneCell']) (by have hby : Try.t45.bytes = 24 := rfl; simp [big, hby, mkN_length]; omega) (by have hby : Try.t45.bytes = 24 := rfl; simp [big, hby, mkN_length]; omega) (by decide) hfr hst fun a w27 s8 hfr hst _ => ?_
            refine wl_v hfr (by decide) (v_assign rfl) fun a hfr => ?_
            refine wl_nil (hK20 _ _ ?_)
            refine wc_region ?_
            refine wl_v hfr (by decide) (v_fieldAddr (v := .pointer (some ⟨b4, 1, none⟩)) rfl (by kernel_rfl)) fun a hfr => ?_
            refine wl_v hfr (by decide) (v_load_blk1 (hst.get (k := 2) rfl) rfl (Try.isAgg3 _) rfl) fun a hfr => ?_
            refine wl_v hfr (by decide) (v_assign rfl) fun a hfr => ?_
            refine wl_nil ?_
            refine hK12 _ _ ?_
            refine wc_region ?_
            refine wl_v hfr (by decide) (v_move rfl) fun a hfr => ?_
            refine wl_v hfr (by decide) (v_add rfl rfl ⟨by omega, by omega⟩) fun a hfr => ?_
            refine wl_v hfr (by decide) (v_assign rfl) fun a hfr => ?_
            refine wl_nil ?_
            have hev : mkEvt rl cl (mkN rl cl xs k) la z = ⟨1 + pick z.a 6, max la ((nw.next - 1) + (pick z.b 3)), 1 + (pick z.c 4)⟩ := by simp [mkEvt, hnw, hb2, hc3, hb5, hc6, hb7]
            have hN : mkN rl cl xs (k + 1) = mkN rl cl xs k ++ [⟨1 + pick z.a 6, max la ((nw.next - 1) + (pick z.b 3)), 1 + (pick z.c 4)⟩] := by rw [mkN, hla, hz, hev]
            have hl9 : max la ((nw.next - 1) + (pick z.b 3)) = lastAt cl.asked (mkN rl cl xs (k + 1)) (k + 1) := by rw [hN]; simp [lastAt, List.getD_eq_getElem?_getD, mkN_length]
            rw [hl9] at hfr
            rw [show ((mkN rl cl xs k).map Evt.cells) ++ ([[.int .i64 (1 + (pick z.a 6)), .int .i64 (max la ((nw.next - 1) + (pick z.b 3))), .int .i64 (1 + (pick z.c 4))]]) = ((mkN rl cl xs (k + 1)).map Evt.cells) from by rw [hN]; simp [Evt.cells]] at hst
            refine ⟨_, ?_, k + 1, s8, rfl, (by omega), (by omega), hfr.pick [0, 1, 2, 3, 4, 15, 16, 17, 5, 18, 19, 6, 7, 46, 47, 10, 8, 9], hst.select [4, 5, 6, 7, 8, 9] (by decide)⟩
            omega
          rw [hb7] at hfr
          try simp only [Bool.not_eq_true', Bool.not_eq_false', decide_eq_true_eq, decide_eq_false_iff_not] at hb7
          refine wl_vy hfr (by decide) rfl (by decide) rfl (v_fieldAddr (v := .pointer (some ⟨b4, 0, none⟩)) rfl (by kernel_rfl)) fun a hfr => ?_
          refine wl_vy hfr (by decide) rfl (by decide) rfl (v_load_blk1 (hst.get (k := 1) rfl) rfl (Try.isAgg3 _) rfl) fun a hfr => ?_
          refine wl_vy hfr (by decide) rfl (by decide) rfl (v_eq rfl rfl) fun a hfr => ?_
          refine wl_v hfr (by decide) (v_pick_f rfl rfl) fun a hfr => ?_
          refine wl_nil (hK19 _ _ ?_)
          have hfr : Fr 124 [(0, _), (1, _), (2, _), (3, _), (4, _), (15, _), (16, _), (17, _), (5, _), (18, _), (19, _), (6, _), (7, _), (46, _), (47, _), (10, _), (8, _), (9, _), (56, _), (59, _), (60, _), (61, _), (62, _), (63, _), (11, _), (12, _), (13, _), (91, _), (109, _)] [] a := hfr.pick [0, 1, 2, 3, 4, 15, 16, 17, 5, 18, 19, 6, 7, 46, 47, 10, 8, 9, 56, 59, 60, 61, 62, 63, 11, 12, 13, 91, 109]
          refine wc_cond hfr rfl (fun hc9 => ?_) (fun hc9 => ?_)
          · rw [hc9] at hfr
            try simp only [Bool.not_eq_true', Bool.not_eq_false', decide_eq_true_eq, decide_eq_false_iff_not] at hc9
            refine wc_region ?_
            refine wl_v hfr (by decide) (v_indexAddr (v := .pointer (some ⟨w13.heap.size, 2, none⟩)) rfl rfl (by kernel_rfl)) fun a hfr => ?_
            refine wl_v hfr (by decide) (v_load_blk1 (hst.get (k := 2) rfl) rfl (Try.isAgg3 _) rfl) fun a hfr => ?_
            refine wl_callp hfr hst (by decide) Try.call35 rfl (pickr16_ok _ _ _ (by omega) (by omega) (by omega) (by omega)) fun a w28 hfr hst => ?_
            refine wl_v hfr (by decide) (v_add rfl rfl ⟨by omega, by omega⟩) fun a hfr => ?_
            refine wl_v hfr (by decide) (v_fieldAddr (v := .pointer (some ⟨b4, 2, none⟩)) rfl (by kernel_rfl)) fun a hfr => ?_
            refine wl_store 1 hfr hst rfl rfl rfl (Try.sizeOf3 _) rfl (Nat.le_of_ble_eq_true rfl) (ds := [.int .i64 (1 + (pick z.a 6)), .int .i64 (max la ((nw.next - 1) + (pick z.b 3))), .int .i64 (1 + (pick z.c 4))]) rfl rfl fun a w29 hfr hst => ?_
            refine wl_nil ?_
            refine hK18 _ _ ?_
            refine wc_seq_region fun K21 hK21 => ?_
            refine wl_v hfr (by decide) (v_move rfl) fun a hfr => ?_
            refine wl_v hfr (by decide) (v_load_all (hst.get (k := 1) rfl) rfl (Try.isAgg45 _) (Try.sizeOf45 _)) fun a hfr => ?_
            refine wl_buildSlice (E := 45) (sz := 3) rfl [[.int .i64 (1 + (pick z.a 6)), .int .i64 (max la ((nw.next - 1) + (pick z.b 3))), .int .i64 (1 + (pick z.c 4))]] (by kernel_rfl) (by simp) rfl (by decide) (by decide) hfr hst fun a w30 hfr hst => ?_
            refine wl_append (i := 4) (sT := 32) (inf := Try.t45) (z := .agg #[.int .i64 0, .int .i64 0, .int .i64 0]) (b := 0) (off := 0) (m := 0) (c := 0) rfl rfl rfl (hst.ownAt (i := 0) rfl) (by simp) Try.underlying32 rfl rfl rfl rfl (by decide) (by simp [Value.oneCell']) (by have hby : Try.t45.bytes = 24 := rfl; simp [big, hby, mkN_length]; omega) (by have hby : Try.t45.bytes = 24 := rfl; simp [big, hby, mkN_length]; omega) (by decide) hfr hst fun a w31 s10 hfr hst _ => ?_
            refine wl_v hfr (by decide) (v_assign rfl) fun a hfr => ?_
            refine wl_nil (hK21 _ _ ?_)
            refine wc_region ?_
            refine wl_v hfr (by decide) (v_fieldAddr (v := .pointer (some ⟨b4, 1, none⟩)) rfl (by kernel_rfl)) fun a hfr => ?_
            refine wl_v hfr (by decide) (v_load_blk1 (hst.get (k := 2) rfl) rfl (Try.isAgg3 _) rfl) fun a hfr => ?_
            refine wl_v hfr (by decide) (v_assign rfl) fun a hfr => ?_
            refine wl_nil ?_
            refine hK12 _ _ ?_
            refine wc_region ?_
            refine wl_v hfr (by decide) (v_move rfl) fun a hfr => ?_
            refine wl_v hfr (by decide) (v_add rfl rfl ⟨by omega, by omega⟩) fun a hfr => ?_
            refine wl_v hfr (by decide) (v_assign rfl) fun a hfr => ?_
            refine wl_nil ?_
            have hev : mkEvt rl cl (mkN rl cl xs k) la z = ⟨1 + pick z.a 6, max la ((nw.next - 1) + (pick z.b 3)), 1 + (pick z.c 4)⟩ := by simp [mkEvt, hnw, hb2, hc3, hb5, hc6, hb7, hc9]
            have hN : mkN rl cl xs (k + 1) = mkN rl cl xs k ++ [⟨1 + pick z.a 6, max la ((nw.next - 1) + (pick z.b 3)), 1 + (pick z.c 4)⟩] := by rw [mkN, hla, hz, hev]
            have hl9 : max la ((nw.next - 1) + (pick z.b 3)) = lastAt cl.asked (mkN rl cl xs (k + 1)) (k + 1) := by rw [hN]; simp [lastAt, List.getD_eq_getElem?_getD, mkN_length]
            rw [hl9] at hfr
            rw [show ((mkN rl cl xs k).map Evt.cells) ++ ([[.int .i64 (1 + (pick z.a 6)), .int .i64 (max la ((nw.next - 1) + (pick z.b 3))), .int .i64 (1 + (pick z.c 4))]]) = ((mkN rl cl xs (k + 1)).map Evt.cells) from by rw [hN]; simp [Evt.cells]] at hst
            refine ⟨_, ?_, k + 1, s10, rfl, (by omega), (by omega), hfr.pick [0, 1, 2, 3, 4, 15, 16, 17, 5, 18, 19, 6, 7, 46, 47, 10, 8, 9], hst.select [4, 5, 6, 7, 8, 9] (by decide)⟩
            omega
          rw [hc9] at hfr
          try simp only [Bool.not_eq_true', Bool.not_eq_false', decide_eq_true_eq, decide_eq_false_iff_not] at hc9
          refine wc_skip ?_
          refine hK18 _ _ ?_
          refine wc_seq_region fun K22 hK22 => ?_
          refine wl_v hfr (by decide) (v_move rfl) fun a hfr => ?_
          refine wl_v hfr (by decide) (v_load_all (hst.get (k := 1) rfl) rfl (Try.isAgg45 _) (Try.sizeOf45 _)) fun a hfr => ?_
          refine wl_buildSlice (E := 45) (sz := 3) rfl [[.int .i64 (1 + (pick z.a 6)), .int .i64 (max la ((nw.next - 1) + (pick z.b 3))), .int .i64 0]] (by kernel_rfl) (by simp) rfl (by decide) (by decide) hfr hst fun a w32 hfr hst => ?_
          refine wl_append (i := 4) (sT := 32) (inf := Try.t45) (z := .agg #[.int .i64 0, .int .i64 0, .int .i64 0]) (b := 0) (off := 0) (m := 0) (c := 0) rfl rfl rfl (hst.ownAt (i := 0) rfl) (by simp) Try.underlying32 rfl rfl rfl rfl (by decide) (by simp [Value.oneCell']) (by have hby : Try.t45.bytes = 24 := rfl; simp [big, hby, mkN_length]; omega) (by have hby : Try.t45.bytes = 24 := rfl; simp [big, hby, mkN_length]; omega) (by decide) hfr hst fun a w33 s11 hfr hst _ => ?_
          refine wl_v hfr (by decide) (v_assign rfl) fun a hfr => ?_
          refine wl_nil (hK22 _ _ ?_)
          refine wc_region ?_
          refine wl_v hfr (by decide) (v_fieldAddr (v := .pointer (some ⟨b4, 1, none⟩)) rfl (by kernel_rfl)) fun a hfr => ?_
          refine wl_v hfr (by decide) (v_load_blk1 (hst.get (k := 2) rfl) rfl (Try.isAgg3 _) rfl) fun a hfr => ?_
          refine wl_v hfr (by decide) (v_assign rfl) fun a hfr => ?_
          refine wl_nil ?_
          refine hK12 _ _ ?_
          refine wc_region ?_
          refine wl_v hfr (by decide) (v_move rfl) fun a hfr => ?_
          refine wl_v hfr (by decide) (v_add rfl rfl ⟨by omega, by omega⟩) fun a hfr => ?_
          refine wl_v hfr (by decide) (v_assign rfl) fun a hfr => ?_
          refine wl_nil ?_
          have hev : mkEvt rl cl (mkN rl cl xs k) la z = ⟨1 + pick z.a 6, max la ((nw.next - 1) + (pick z.b 3)), 0⟩ := by simp [mkEvt, hnw, hb2, hc3, hb5, hc6, hb7, hc9]
          have hN : mkN rl cl xs (k + 1) = mkN rl cl xs k ++ [⟨1 + pick z.a 6, max la ((nw.next - 1) + (pick z.b 3)), 0⟩] := by rw [mkN, hla, hz, hev]
          have hl9 : max la ((nw.next - 1) + (pick z.b 3)) = lastAt cl.asked (mkN rl cl xs (k + 1)) (k + 1) := by rw [hN]; simp [lastAt, List.getD_eq_getElem?_getD, mkN_length]
          rw [hl9] at hfr
          rw [show ((mkN rl cl xs k).map Evt.cells) ++ ([[.int .i64 (1 + (pick z.a 6)), .int .i64 (max la ((nw.next - 1) + (pick z.b 3))), .int .i64 0]]) = ((mkN rl cl xs (k + 1)).map Evt.cells) from by rw [hN]; simp [Evt.cells]] at hst
          refine ⟨_, ?_, k + 1, s11, rfl, (by omega), (by omega), hfr.pick [0, 1, 2, 3, 4, 15, 16, 17, 5, 18, 19, 6, 7, 46, 47, 10, 8, 9], hst.select [4, 5, 6, 7, 8, 9] (by decide)⟩
          omega
        rw [hc6] at hfr
        try simp only [Bool.not_eq_true', Bool.not_eq_false', decide_eq_true_eq, decide_eq_false_iff_not] at hc6
        refine wc_skip ?_
        refine hK15 _ _ ?_
        refine wc_seq_k fun K23 hK23 => ?_
        refine wc_seq_region fun K24 hK24 => ?_
        refine wl_v hfr (by decide) (v_fieldAddr (v := .pointer (some ⟨b4, 0, none⟩)) rfl (by kernel_rfl)) fun a hfr => ?_
        refine wl_v hfr (by decide) (v_load_blk1 (hst.get (k := 1) rfl) rfl (Try.isAgg3 _) rfl) fun a hfr => ?_
        refine wl_v hfr (by decide) (v_eq rfl rfl) fun a hfr => ?_
        refine wl_v hfr (by decide) (v_move rfl) fun a hfr => ?_
        rcases Bool.eq_false_or_eq_true (decide (1 + (pick z.a 6) = 2)) with hb12 | hb12
        · rw [hb12] at hfr
          try simp only [Bool.not_eq_true', Bool.not_eq_false', decide_eq_true_eq, decide_eq_false_iff_not] at hb12
          refine wl_vn hfr (by decide) rfl (by decide) rfl rfl fun a hfr => ?_
          refine wl_vn hfr (by decide) rfl (by decide) rfl rfl fun a hfr => ?_
          refine wl_vn hfr (by decide) rfl (by decide) rfl rfl fun a hfr => ?_
          refine wl_v hfr (by decide) (v_pick_t rfl rfl) fun a hfr => ?_
          refine wl_nil (hK24 _ _ ?_)
          have hfr : Fr 124 [(0, _), (1, _), (2, _), (3, _), (4, _), (15, _), (16, _), (17, _), (5, _), (18, _), (19, _), (6, _), (7, _), (46, _), (47, _), (10, _), (8, _), (9, _), (56, _), (59, _), (60, _), (61, _), (62, _), (63, _), (11, _), (12, _), (13, _), (91, _), (109, _)] [] a := hfr.pick [0, 1, 2, 3, 4, 15, 16, 17, 5, 18, 19, 6, 7, 46, 47, 10, 8, 9, 56, 59, 60, 61, 62, 63, 11, 12, 13, 91, 109]
          refine wc_cond_t hfr rfl ?_
          refine wc_region ?_
          refine wl_v hfr (by decide) (v_indexAddr (v := .pointer (some ⟨w13.heap.size, 2, none⟩)) rfl rfl (by kernel_rfl)) fun a hfr => ?_
          refine wl_v hfr (by decide) (v_load_blk1 (hst.get (k := 2) rfl) rfl (Try.isAgg3 _) rfl) fun a hfr => ?_
          refine wl_callp hfr hst (by decide) Try.call35 rfl (pickr16_ok _ _ _ (by omega) (by omega) (by omega) (by omega)) fun a w34 hfr hst => ?_
          refine wl_v hfr (by decide) (v_add rfl rfl ⟨by omega, by omega⟩) fun a hfr => ?_
          refine wl_v hfr (by decide) (v_fieldAddr (v := .pointer (some ⟨b4, 2, none⟩)) rfl (by kernel_rfl)) fun a hfr => ?_
          refine wl_store 1 hfr hst rfl rfl rfl (Try.sizeOf3 _) rfl (Nat.le_of_ble_eq_true rfl) (ds := [.int .i64 (1 + (pick z.a 6)), .int .i64 (la + (pick z.b 4)), .int .i64 (1 + (pick z.c 4))]) rfl rfl fun a w35 hfr hst => ?_
          refine wl_nil ?_
          refine hK23 _ _ ?_
          refine wc_seq_region fun K25 hK25 => ?_
          refine wl_v hfr (by decide) (v_move rfl) fun a hfr => ?_
          refine wl_v hfr (by decide) (v_load_all (hst.get (k := 1) rfl) rfl (Try.isAgg45 _) (Try.sizeOf45 _)) fun a hfr => ?_
          refine wl_buildSlice (E := 45) (sz := 3) rfl [[.int .i64 (1 + (pick z.a 6)), .int .i64 (la + (pick z.b 4)), .int .i64 (1 + (pick z.c 4))]] (by kernel_rfl) (by simp) rfl (by decide) (by decide) hfr hst fun a w36 hfr hst => ?_
          refine wl_append (i := 4) (sT := 32) (inf := Try.t45) (z := .agg #[.int .i64 0, .int .i64 0, .int .i64 0]) (b := 0) (off := 0) (m := 0) (c := 0) rfl rfl rfl (hst.ownAt (i := 0) rfl) (by simp) Try.underlying32 rfl rfl rfl rfl (by decide) (by simp [Value.oneCell']) (by have hby : Try.t45.bytes = 24 := rfl; simp [big, hby, mkN_length]; omega) (by have hby : Try.t45.bytes = 24 := rfl; simp [big, hby, mkN_length]; omega) (by decide) hfr hst fun a w37 s13 hfr hst _ => ?_
          refine wl_v hfr (by decide) (v_assign rfl) fun a hfr => ?_
          refine wl_nil (hK25 _ _ ?_)
          refine wc_region ?_
          refine wl_v hfr (by decide) (v_fieldAddr (v := .pointer (some ⟨b4, 1, none⟩)) rfl (by kernel_rfl)) fun a hfr => ?_
          refine wl_v hfr (by decide) (v_load_blk1 (hst.get (k := 2) rfl) rfl (Try.isAgg3 _) rfl) fun a hfr => ?_
          refine wl_v hfr (by decide) (v_assign rfl) fun a hfr => ?_
          refine wl_nil ?_
          refine hK12 _ _ ?_
          refine wc_region ?_
          refine wl_v hfr (by decide) (v_move rfl) fun a hfr => ?_
          refine wl_v hfr (by decide) (v_add rfl rfl ⟨by omega, by omega⟩) fun a hfr => ?_
          refine wl_v hfr (by decide) (v_assign rfl) fun a hfr => ?_
          refine wl_nil ?_
          have hev : mkEvt rl cl (mkN rl cl xs k) la z = ⟨1 + pick z.a 6, la + (pick z.b 4), 1 + (pick z.c 4)⟩ := by simp [mkEvt, hnw, hb2, hc3, hb5, hc6, hb12]
          have hN : mkN rl cl xs (k + 1) = mkN rl cl xs k ++ [⟨1 + pick z.a 6, la + (pick z.b 4), 1 + (pick z.c 4)⟩] := by rw [mkN, hla, hz, hev]
          have hl9 : la + (pick z.b 4) = lastAt cl.asked (mkN rl cl xs (k + 1)) (k + 1) := by rw [hN]; simp [lastAt, List.getD_eq_getElem?_getD, mkN_length]
          rw [hl9] at hfr
          rw [show ((mkN rl cl xs k).map Evt.cells) ++ ([[.int .i64 (1 + (pick z.a 6)), .int .i64 (la + (pick z.b 4)), .int .i64 (1 + (pick z.c 4))]]) = ((mkN rl cl xs (k + 1)).map Evt.cells) from by rw [hN]; simp [Evt.cells]] at hst
          refine ⟨_, ?_, k + 1, s13, rfl, (by omega), (by omega), hfr.pick [0, 1, 2, 3, 4, 15, 16, 17, 5, 18, 19, 6, 7, 46, 47, 10, 8, 9], hst.select [4, 5, 6, 7, 8, 9] (by decide)⟩
          omega
        rw [hb12] at hfr
        try simp only [Bool.not_eq_true', Bool.not_eq_false', decide_eq_true_eq, decide_eq_false_iff_not] at hb12
        refine wl_vy hfr (by decide) rfl (by decide) rfl (v_fieldAddr (v := .pointer (some ⟨b4, 0, none⟩)) rfl (by kernel_rfl)) fun a hfr => ?_
        refine wl_vy hfr (by decide) rfl (by decide) rfl (v_load_blk1 (hst.get (k := 1) rfl) rfl (Try.isAgg3 _) rfl) fun a hfr => ?_
        refine wl_vy hfr (by decide) rfl (by decide) rfl (v_eq rfl rfl) fun a hfr => ?_
        refine wl_v hfr (by decide) (v_pick_f rfl rfl) fun a hfr => ?_
        refine wl_nil (hK24 _ _ ?_)
        have hfr : Fr 124 [(0, _), (1, _), (2, _), (3, _), (4, _), (15, _), (16, _), (17, _), (5, _), (18, _), (19, _), (6, _), (7, _), (46, _), (47, _), (10, _), (8, _), (9, _), (56, _), (59, _), (60, _), (61, _), (62, _), (63, _), (11, _), (12, _), (13, _), (91, _), (109, _)] [] a := hfr.pick [0, 1, 2, 3, 4, 15, 16, 17, 5, 18, 19, 6, 7, 46, 47, 10, 8, 9, 56, 59, 60, 61, 62, 63, 11, 12, 13, 91, 109]
        refine wc_cond hfr rfl (fun hc14 => ?_) (fun hc14 => ?_)
        · rw [hc14] at hfr
          try simp only [Bool.not_eq_true', Bool.not_eq_false', decide_eq_true_eq, decide_eq_false_iff_not] at hc14
          refine wc_region ?_
          refine wl_v hfr (by decide) (v_indexAddr (v := .pointer (some ⟨w13.heap.size, 2, none⟩)) rfl rfl (by kernel_rfl)) fun a hfr => ?_
          refine wl_v hfr (by decide) (v_load_blk1 (hst.get (k := 2) rfl) rfl (Try.isAgg3 _) rfl) fun a hfr => ?_
          refine wl_callp hfr hst (by decide) Try.call35 rfl (pickr16_ok _ _ _ (by omega) (by omega) (by omega) (by omega)) fun a w38 hfr hst => ?_
          refine wl_v hfr (by decide) (v_add rfl rfl ⟨by omega, by omega⟩) fun a hfr => ?_
          refine wl_v hfr (by decide) (v_fieldAddr (v := .pointer (some ⟨b4, 2, none⟩)) rfl (by kernel_rfl)) fun a hfr => ?_
          refine wl_store 1 hfr hst rfl rfl rfl (Try.sizeOf3 _) rfl (Nat.le_of_ble_eq_true rfl) (ds := [.int .i64 (1 + (pick z.a 6)), .int .i64 (la + (pick z.b 4)), .int .i64 (1 + (pick z.c 4))]) rfl rfl fun a w39 hfr hst => ?_
          refine wl_nil ?_
          refine hK23 _ _ ?_
          refine wc_seq_region fun K26 hK26 => ?_
          refine wl_v hfr (by decide) (v_move rfl) fun a hfr => ?_
          refine wl_v hfr (by decide) (v_load_all (hst.get (k := 1) rfl) rfl (Try.isAgg45 _) (Try.sizeOf45 _)) fun a hfr => ?_
          refine wl_buildSlice (E := 45) (sz := 3) rfl [[.int .i64 (1 + (pick z.a 6)), .int .i64 (la + (pick z.b 4)), .int .i64 (1 + (pick z.c 4))]] (by kernel_rfl) (by simp) rfl (by decide) (by decide) hfr hst fun a w40 hfr hst => ?_
          refine wl_append (i := 4) (sT := 32) (inf := Try.t45) (z := .agg #[.int .i64 0, .int .i64 0, .int .i64 0]) (b := 0) (off := 0) (m := 0) (c := 0) rfl rfl rfl (hst.ownAt (i := 0) rfl) (by simp) Try.underlying32 rfl rfl rfl rfl (by decide) (by simp [Value.oneCell']) (by have hby : Try.t45.bytes = 24 := rfl; simp [big, hby, mkN_length]; omega) (by have hby : Try.t45.bytes = 24 := rfl; simp [big, hby, mkN_length]; omega) (by decide) hfr hst fun a w41 s15 hfr hst _ => ?_
          refine wl_v hfr (by decide) (v_assign rfl) fun a hfr => ?_
          refine wl_nil (hK26 _ _ ?_)
          refine wc_region ?_
          refine wl_v hfr (by decide) (v_fieldAddr (v := .pointer (some ⟨b4, 1, none⟩)) rfl (by kernel_rfl)) fun a hfr => ?_
          refine wl_v hfr (by decide) (v_load_blk1 (hst.get (k := 2) rfl) rfl (Try.isAgg3 _) rfl) fun a hfr => ?_
          refine wl_v hfr (by decide) (v_assign rfl) fun a hfr => ?_
          refine wl_nil ?_
          refine hK12 _ _ ?_
          refine wc_region ?_
          refine wl_v hfr (by decide) (v_move rfl) fun a hfr => ?_
          refine wl_v hfr (by decide) (v_add rfl rfl ⟨by omega, by omega⟩) fun a hfr => ?_
          refine wl_v hfr (by decide) (v_assign rfl) fun a hfr => ?_
          refine wl_nil ?_
          have hev : mkEvt rl cl (mkN rl cl xs k) la z = ⟨1 + pick z.a 6, la + (pick z.b 4), 1 + (pick z.c 4)⟩ := by simp [mkEvt, hnw, hb2, hc3, hb5, hc6, hb12, hc14]
          have hN : mkN rl cl xs (k + 1) = mkN rl cl xs k ++ [⟨1 + pick z.a 6, la + (pick z.b 4), 1 + (pick z.c 4)⟩] := by rw [mkN, hla, hz, hev]
          have hl9 : la + (pick z.b 4) = lastAt cl.asked (mkN rl cl xs (k + 1)) (k + 1) := by rw [hN]; simp [lastAt, List.getD_eq_getElem?_getD, mkN_length]
          rw [hl9] at hfr
          rw [show ((mkN rl cl xs k).map Evt.cells) ++ ([[.int .i64 (1 + (pick z.a 6)), .int .i64 (la + (pick z.b 4)), .int .i64 (1 + (pick z.c 4))]]) = ((mkN rl cl xs (k + 1)).map Evt.cells) from by rw [hN]; simp [Evt.cells]] at hst
          refine ⟨_, ?_, k + 1, s15, rfl, (by omega), (by omega), hfr.pick [0, 1, 2, 3, 4, 15, 16, 17, 5, 18, 19, 6, 7, 46, 47, 10, 8, 9], hst.select [4, 5, 6, 7, 8, 9] (by decide)⟩
          omega
        rw [hc14] at hfr
        try simp only [Bool.not_eq_true', Bool.not_eq_false', decide_eq_true_eq, decide_eq_false_iff_not] at hc14
        refine wc_skip ?_
        refine hK23 _ _ ?_
        refine wc_seq_region fun K27 hK27 => ?_
        refine wl_v hfr (by decide) (v_move rfl) fun a hfr => ?_
        refine wl_v hfr (by decide) (v_load_all (hst.get (k := 1) rfl) rfl (Try.isAgg45 _) (Try.sizeOf45 _)) fun a hfr => ?_
        refine wl_buildSlice (E := 45) (sz := 3) rfl [[.int .i64 (1 + (pick z.a 6)), .int .i64 (la + (pick z.b 4)), .int .i64 0]] (by kernel_rfl) (by simp) rfl (by decide) (by decide) hfr hst fun a w42 hfr hst => ?_
        refine wl_append (i := 4) (sT := 32) (inf := Try.t45) (z := .agg #[.int .i64 0, .int .i64 0, .int .i64 0]) (b := 0) (off := 0) (m := 0) (c := 0) rfl rfl rfl (hst.ownAt (i := 0) rfl) (by simp) Try.underlying32 rfl rfl rfl rfl (by decide) (by simp [Value.oneCell']) (by have hby : Try.t45.bytes = 24 := rfl; simp [big, hby, mkN_length]; omega) (by have hby : Try.t45.bytes = 24 := rfl; simp [big, hby, mkN_length]; omega) (by decide) hfr hst fun a w43 s16 hfr hst _ => ?_
        refine wl_v hfr (by decide) (v_assign rfl) fun a hfr => ?_
        refine wl_nil (hK27 _ _ ?_)
        refine wc_region ?_
        refine wl_v hfr (by decide) (v_fieldAddr (v := .pointer (some ⟨b4, 1, none⟩)) rfl (by kernel_rfl)) fun a hfr => ?_
        refine wl_v hfr (by decide) (v_load_blk1 (hst.get (k := 2) rfl) rfl (Try.isAgg3 _) rfl) fun a hfr => ?_
        refine wl_v hfr (by decide) (v_assign rfl) fun a hfr => ?_
        refine wl_nil ?_
        refine hK12 _ _ ?_
        refine wc_region ?_
        refine wl_v hfr (by decide) (v_move rfl) fun a hfr => ?_
        refine wl_v hfr (by decide) (v_add rfl rfl ⟨by omega, by omega⟩) fun a hfr => ?_
        refine wl_v hfr (by decide) (v_assign rfl) fun a hfr => ?_
        refine wl_nil ?_
        have hev : mkEvt rl cl (mkN rl cl xs k) la z = ⟨1 + pick z.a 6, la + (pick z.b 4), 0⟩ := by simp [mkEvt, hnw, hb2, hc3, hb5, hc6, hb12, hc14]
        have hN : mkN rl cl xs (k + 1) = mkN rl cl xs k ++ [⟨1 + pick z.a 6, la + (pick z.b 4), 0⟩] := by rw [mkN, hla, hz, hev]
        have hl9 : la + (pick z.b 4) = lastAt cl.asked (mkN rl cl xs (k + 1)) (k + 1) := by rw [hN]; simp [lastAt, List.getD_eq_getElem?_getD, mkN_length]
        rw [hl9] at hfr
        rw [show ((mkN rl cl xs k).map Evt.cells) ++ ([[.int .i64 (1 + (pick z.a 6)), .int .i64 (la + (pick z.b 4)), .int .i64 0]]) = ((mkN rl cl xs (k + 1)).map Evt.cells) from by rw [hN]; simp [Evt.cells]] at hst
        refine ⟨_, ?_, k + 1, s16, rfl, (by omega), (by omega), hfr.pick [0, 1, 2, 3, 4, 15, 16, 17, 5, 18, 19, 6, 7, 46, 47, 10, 8, 9], hst.select [4, 5, 6, 7, 8, 9] (by decide)⟩
        omega
      rw [hb5] at hfr
      try simp only [Bool.not_eq_true', Bool.not_eq_false', decide_eq_true_eq, decide_eq_false_iff_not] at hb5
      refine wl_vn hfr (by decide) rfl (by decide) rfl rfl fun a hfr => ?_
      refine wl_vn hfr (by decide) rfl (by decide) rfl rfl fun a hfr => ?_
      refine wl_vn hfr (by decide) rfl (by decide) rfl rfl fun a hfr => ?_
      refine wl_vn hfr (by decide) rfl (by decide) rfl rfl fun a hfr => ?_
      refine wl_vn hfr (by decide) rfl (by decide) rfl rfl fun a hfr => ?_
      refine wl_v hfr (by decide) (v_pick_f rfl rfl) fun a hfr => ?_
      refine wl_nil (hK17 _ _ ?_)
      have hfr : Fr 124 [(0, _), (1, _), (2, _), (3, _), (4, _), (15, _), (16, _), (17, _), (5, _), (18, _), (19, _), (6, _), (7, _), (46, _), (47, _), (10, _), (8, _), (9, _), (56, _), (59, _), (60, _), (61, _), (62, _), (63, _), (11, _), (12, _), (13, _), (91, _)] [] a := hfr.pick [0, 1, 2, 3, 4, 15, 16, 17, 5, 18, 19, 6, 7, 46, 47, 10, 8, 9, 56, 59, 60, 61, 62, 63, 11, 12, 13, 91]
      refine wc_cond_f hfr rfl ?_
      refine wc_skip ?_
      refine hK15 _ _ ?_
      refine wc_seq_k fun K28 hK28 => ?_
      refine wc_seq_region fun K29 hK29 => ?_
      refine wl_v hfr (by decide) (v_fieldAddr (v := .pointer (some ⟨b4, 0, none⟩)) rfl (by kernel_rfl)) fun a hfr => ?_
      refine wl_v hfr (by decide) (v_load_blk1 (hst.get (k := 1) rfl) rfl (Try.isAgg3 _) rfl) fun a hfr => ?_
      refine wl_v hfr (by decide) (v_eq rfl rfl) fun a hfr => ?_
      refine wl_v hfr (by decide) (v_move rfl) fun a hfr => ?_
      rcases Bool.eq_false_or_eq_true (decide (1 + (pick z.a 6) = 2)) with hb17 | hb17
      · rw [hb17] at hfr
        try simp only [Bool.not_eq_true', Bool.not_eq_false', decide_eq_true_eq, decide_eq_false_iff_not] at hb17
        refine wl_vn hfr (by decide) rfl (by decide) rfl rfl fun a hfr => ?_
        refine wl_vn hfr (by decide) rfl (by decide) rfl rfl fun a hfr => ?_
        refine wl_vn hfr (by decide) rfl (by decide) rfl rfl fun a hfr => ?_
        refine wl_v hfr (by decide) (v_pick_t rfl rfl) fun a hfr => ?_
        refine wl_nil (hK29 _ _ ?_)
        have hfr : Fr 124 [(0, _), (1, _), (2, _), (3, _), (4, _), (15, _), (16, _), (17, _), (5, _), (18, _), (19, _), (6, _), (7, _), (46, _), (47, _), (10, _), (8, _), (9, _), (56, _), (59, _), (60, _), (61, _), (62, _), (63, _), (11, _), (12, _), (13, _), (91, _), (109, _)] [] a := hfr.pick [0, 1, 2, 3, 4, 15, 16, 17, 5, 18, 19, 6, 7, 46, 47, 10, 8, 9, 56, 59, 60, 61, 62, 63, 11, 12, 13, 91, 109]
        refine wc_cond_t hfr rfl ?_
        refine wc_region ?_
        refine wl_v hfr (by decide) (v_indexAddr (v := .pointer (some ⟨w13.heap.size, 2, none⟩)) rfl rfl (by kernel_rfl)) fun a hfr => ?_
        refine wl_v hfr (by decide) (v_load_blk1 (hst.get (k := 2) rfl) rfl (Try.isAgg3 _) rfl) fun a hfr => ?_
        refine wl_callp hfr hst (by decide) Try.call35 rfl (pickr16_ok _ _ _ (by omega) (by omega) (by omega) (by omega)) fun a w44 hfr hst => ?_
        refine wl_v hfr (by decide) (v_add rfl rfl ⟨by omega, by omega⟩) fun a hfr => ?_
        refine wl_v hfr (by decide) (v_fieldAddr (v := .pointer (some ⟨b4, 2, none⟩)) rfl (by kernel_rfl)) fun a hfr => ?_
        refine wl_store 1 hfr hst rfl rfl rfl (Try.sizeOf3 _) rfl (Nat.le_of_ble_eq_true rfl) (ds := [.int .i64 (1 + (pick z.a 6)), .int .i64 (la + (pick z.b 4)), .int .i64 (1 + (pick z.c 4))]) rfl rfl fun a w45 hfr hst => ?_
        refine wl_nil ?_
        refine hK28 _ _ ?_
        refine wc_seq_region fun K30 hK30 => ?_
        refine wl_v hfr (by decide) (v_move rfl) fun a hfr => ?_
        refine wl_v hfr (by decide) (v_load_all (hst.get (k := 1) rfl) rfl (Try.isAgg45 _) (Try.sizeOf45 _)) fun a hfr => ?_
        refine wl_buildSlice (E := 45) (sz := 3) rfl [[.int .i64 (1 + (pick z.a 6)), .int .i64 (la + (pick z.b 4)), .int .i64 (1 + (pick z.c 4))]] (by kernel_rfl) (by simp) rfl (by decide) (by decide) hfr hst fun a w46 hfr hst => ?_
        refine wl_append (i := 4) (sT := 32) (inf := Try.t45) (z := .agg #[.int .i64 0, .int .i64 0, .int .i64 0]) (b := 0) (off := 0) (m := 0) (c := 0) rfl rfl rfl (hst.ownAt (i := 0) rfl) (by simp) Try.underlying32 rfl rfl rfl rfl (by decide) (by simp [Value.oneCell']) (by have hby : Try.t45.bytes = 24 := rfl; simp [big, hby, mkN_length]; omega) (by have hby : Try.t45.bytes = 24 := rfl; simp [big, hby, mkN_length]; omega) (by decide) hfr hst fun a w47 s18 hfr hst _ => ?_
        refine wl_v hfr (by decide) (v_assign rfl) fun a hfr => ?_
        refine wl_nil (hK30 _ _ ?_)
        refine wc_region ?_
        refine wl_v hfr (by decide) (v_fieldAddr (v := .pointer (some ⟨b4, 1, none⟩)) rfl (by kernel_rfl)) fun a hfr => ?_
        refine wl_v hfr (by decide) (v_load_blk1 (hst.get (k := 2) rfl) rfl (Try.isAgg3 _) rfl) fun a hfr => ?_
        refine wl_v hfr (by decide) (v_assign rfl) fun a hfr => ?_
        refine wl_nil ?_
        refine hK12 _ _ ?_
        refine wc_region ?_
        refine wl_v hfr (by decide) (v_move rfl) fun a hfr => ?_
        refine wl_v hfr (by decide) (v_add rfl rfl ⟨by omega, by omega⟩) fun a hfr => ?_
        refine wl_v hfr (by decide) (v_assign rfl) fun a hfr => ?_
        refine wl_nil ?_
        have hev : mkEvt rl cl (mkN rl cl xs k) la z = ⟨1 + pick z.a 6, la + (pick z.b 4), 1 + (pick z.c 4)⟩ := by simp [mkEvt, hnw, hb2, hc3, hb5, hb17]
        have hN : mkN rl cl xs (k + 1) = mkN rl cl xs k ++ [⟨1 + pick z.a 6, la + (pick z.b 4), 1 + (pick z.c 4)⟩] := by rw [mkN, hla, hz, hev]
        have hl9 : la + (pick z.b 4) = lastAt cl.asked (mkN rl cl xs (k + 1)) (k + 1) := by rw [hN]; simp [lastAt, List.getD_eq_getElem?_getD, mkN_length]
        rw [hl9] at hfr
        rw [show ((mkN rl cl xs k).map Evt.cells) ++ ([[.int .i64 (1 + (pick z.a 6)), .int .i64 (la + (pick z.b 4)), .int .i64 (1 + (pick z.c 4))]]) = ((mkN rl cl xs (k + 1)).map Evt.cells) from by rw [hN]; simp [Evt.cells]] at hst
        refine ⟨_, ?_, k + 1, s18, rfl, (by omega), (by omega), hfr.pick [0, 1, 2, 3, 4, 15, 16, 17, 5, 18, 19, 6, 7, 46, 47, 10, 8, 9], hst.select [4, 5, 6, 7, 8, 9] (by decide)⟩
        omega
      rw [hb17] at hfr
      try simp only [Bool.not_eq_true', Bool.not_eq_false', decide_eq_true_eq, decide_eq_false_iff_not] at hb17
      refine wl_vy hfr (by decide) rfl (by decide) rfl (v_fieldAddr (v := .pointer (some ⟨b4, 0, none⟩)) rfl (by kernel_rfl)) fun a hfr => ?_
      refine wl_vy hfr (by decide) rfl (by decide) rfl (v_load_blk1 (hst.get (k := 1) rfl) rfl (Try.isAgg3 _) rfl) fun a hfr => ?_
      refine wl_vy hfr (by decide) rfl (by decide) rfl (v_eq rfl rfl) fun a hfr => ?_
      refine wl_v hfr (by decide) (v_pick_f rfl rfl) fun a hfr => ?_
      refine wl_nil (hK29 _ _ ?_)
      have hfr : Fr 124 [(0, _), (1, _), (2, _), (3, _), (4, _), (15, _), (16, _), (17, _), (5, _), (18, _), (19, _), (6, _), (7, _), (46, _), (47, _), (10, _), (8, _), (9, _), (56, _), (59, _), (60, _), (61, _), (62, _), (63, _), (11, _), (12, _), (13, _), (91, _), (109, _)] [] a := hfr.pick [0, 1, 2, 3, 4, 15, 16, 17, 5, 18, 19, 6, 7, 46, 47, 10, 8, 9, 56, 59, 60, 61, 62, 63, 11, 12, 13, 91, 109]
      refine wc_cond hfr rfl (fun hc19 => ?_) (fun hc19 => ?_)
      · rw [hc19] at hfr
        try simp only [Bool.not_eq_true', Bool.not_eq_false', decide_eq_true_eq, decide_eq_false_iff_not] at hc19
        refine wc_region ?_
        refine wl_v hfr (by decide) (v_indexAddr (v := .pointer (some ⟨w13.heap.size, 2, none⟩)) rfl rfl (by kernel_rfl)) fun a hfr => ?_
        refine wl_v hfr (by decide) (v_load_blk1 (hst.get (k := 2) rfl) rfl (Try.isAgg3 _) rfl) fun a hfr => ?_
        refine wl_callp hfr hst (by decide) Try.call35 rfl (pickr16_ok _ _ _ (by omega) (by omega) (by omega) (by omega)) fun a w48 hfr hst => ?_
        refine wl_v hfr (by decide) (v_add rfl rfl ⟨by omega, by omega⟩) fun a hfr => ?_
        refine wl_v hfr (by decide) (v_fieldAddr (v := .pointer (some ⟨b4, 2, none⟩)) rfl (by kernel_rfl)) fun a hfr => ?_
        refine wl_store 1 hfr hst rfl rfl rfl (Try.sizeOf3 _) rfl (Nat.le_of_ble_eq_true rfl) (ds := [.int .i64 (1 + (pick z.a 6)), .int .i64 (la + (pick z.b 4)), .int .i64 (1 + (pick z.c 4))]) rfl rfl fun a w49 hfr hst => ?_
        refine wl_nil ?_
        refine hK28 _ _ ?_
        refine wc_seq_region fun K31 hK31 => ?_
        refine wl_v hfr (by decide) (v_move rfl) fun a hfr => ?_
        refine wl_v hfr (by decide) (v_load_all (hst.get (k := 1) rfl) rfl (Try.isAgg45 _) (Try.sizeOf45 _)) fun a hfr => ?_
        refine wl_buildSlice (E := 45) (sz := 3) rfl [[.int .i64 (1 + (pick z.a 6)), .int .i64 (la + (pick z.b 4)), .int .i64 (1 + (pick z.c 4))]] (by kernel_rfl) (by simp) rfl (by decide) (by decide) hfr hst fun a w50 hfr hst => ?_
        refine wl_append (i := 4) (sT := 32) (inf := Try.t45) (z := .agg #[.int .i64 0, .int .i64 0, .int .i64 0]) (b := 0) (off := 0) (m := 0) (c := 0) rfl rfl rfl (hst.ownAt (i := 0) rfl) (by simp) Try.underlying32 rfl rfl rfl rfl (by decide) (by simp [Value.oneCell']) (by have hby : Try.t45.bytes = 24 := rfl; simp [big, hby, mkN_length]; omega) (by have hby : Try.t45.bytes = 24 := rfl; simp [big, hby, mkN_length]; omega) (by decide) hfr hst fun a w51 s20 hfr hst _ => ?_
        refine wl_v hfr (by decide) (v_assign rfl) fun a hfr => ?_
        refine wl_nil (hK31 _ _ ?_)
        refine wc_region ?_
        refine wl_v hfr (by decide) (v_fieldAddr (v := .pointer (some ⟨b4, 1, none⟩)) rfl (by kernel_rfl)) fun a hfr => ?_
        refine wl_v hfr (by decide) (v_load_blk1 (hst.get (k := 2) rfl) rfl (Try.isAgg3 _) rfl) fun a hfr => ?_
        refine wl_v hfr (by decide) (v_assign rfl) fun a hfr => ?_
        refine wl_nil ?_
        refine hK12 _ _ ?_
        refine wc_region ?_
        refine wl_v hfr (by decide) (v_move rfl) fun a hfr => ?_
        refine wl_v hfr (by decide) (v_add rfl rfl ⟨by omega, by omega⟩) fun a hfr => ?_
        refine wl_v hfr (by decide) (v_assign rfl) fun a hfr => ?_
        refine wl_nil ?_
        have hev : mkEvt rl cl (mkN rl cl xs k) la z = ⟨1 + pick z.a 6, la + (pick z.b 4), 1 + (pick z.c 4)⟩ := by simp [mkEvt, hnw, hb2, hc3, hb5, hb17, hc19]
        have hN : mkN rl cl xs (k + 1) = mkN rl cl xs k ++ [⟨1 + pick z.a 6, la + (pick z.b 4), 1 + (pick z.c 4)⟩] := by rw [mkN, hla, hz, hev]
        have hl9 : la + (pick z.b 4) = lastAt cl.asked (mkN rl cl xs (k + 1)) (k + 1) := by rw [hN]; simp [lastAt, List.getD_eq_getElem?_getD, mkN_length]
        rw [hl9] at hfr
        rw [show ((mkN rl cl xs k).map Evt.cells) ++ ([[.int .i64 (1 + (pick z.a 6)), .int .i64 (la + (pick z.b 4)), .int .i64 (1 + (pick z.c 4))]]) = ((mkN rl cl xs (k + 1)).map Evt.cells) from by rw [hN]; simp [Evt.cells]] at hst
        refine ⟨_, ?_, k + 1, s20, rfl, (by omega), (by omega), hfr.pick [0, 1, 2, 3, 4, 15, 16, 17, 5, 18, 19, 6, 7, 46, 47, 10, 8, 9], hst.select [4, 5, 6, 7, 8, 9] (by decide)⟩
        omega
      rw [hc19] at hfr
      try simp only [Bool.not_eq_true', Bool.not_eq_false', decide_eq_true_eq, decide_eq_false_iff_not] at hc19
      refine wc_skip ?_
      refine hK28 _ _ ?_
      refine wc_seq_region fun K32 hK32 => ?_
      refine wl_v hfr (by decide) (v_move rfl) fun a hfr => ?_
      refine wl_v hfr (by decide) (v_load_all (hst.get (k := 1) rfl) rfl (Try.isAgg45 _) (Try.sizeOf45 _)) fun a hfr => ?_
      refine wl_buildSlice (E := 45) (sz := 3) rfl [[.int .i64 (1 + (pick z.a 6)), .int .i64 (la + (pick z.b 4)), .int .i64 0]] (by kernel_rfl) (by simp) rfl (by decide) (by decide) hfr hst fun a w52 hfr hst => ?_
      refine wl_append (i := 4) (sT := 32) (inf := Try.t45) (z := .agg #[.int .i64 0, .int .i64 0, .int .i64 0]) (b := 0) (off := 0) (m := 0) (c := 0) rfl rfl rfl (hst.ownAt (i := 0) rfl) (by simp) Try.underlying32 rfl rfl rfl rfl (by decide) (by simp [Value.oneCell']) (by have hby : Try.t45.bytes = 24 := rfl; simp [big, hby, mkN_length]; omega) (by have hby : Try.t45.bytes = 24 := rfl; simp [big, hby, mkN_length]; omega) (by decide) hfr hst fun a w53 s21 hfr hst _ => ?_
      refine wl_v hfr (by decide) (v_assign rfl) fun a hfr => ?_
      refine wl_nil (hK32 _ _ ?_)
      refine wc_region ?_
      refine wl_v hfr (by decide) (v_fieldAddr (v := .pointer (some ⟨b4, 1, none⟩)) rfl (by kernel_rfl)) fun a hfr => ?_
      refine wl_v hfr (by decide) (v_load_blk1 (hst.get (k := 2) rfl) rfl (Try.isAgg3 _) rfl) fun a hfr => ?_
      refine wl_v hfr (by decide) (v_assign rfl) fun a hfr => ?_
      refine wl_nil ?_
      refine hK12 _ _ ?_
      refine wc_region ?_
      refine wl_v hfr (by decide) (v_move rfl) fun a hfr => ?_
      refine wl_v hfr (by decide) (v_add rfl rfl ⟨by omega, by omega⟩) fun a hfr => ?_
      refine wl_v hfr (by decide) (v_assign rfl) fun a hfr => ?_
      refine wl_nil ?_
      have hev : mkEvt rl cl (mkN rl cl xs k) la z = ⟨1 + pick z.a 6, la + (pick z.b 4), 0⟩ := by simp [mkEvt, hnw, hb2, hc3, hb5, hb17, hc19]
      have hN : mkN rl cl xs (k + 1) = mkN rl cl xs k ++ [⟨1 + pick z.a 6, la + (pick z.b 4), 0⟩] := by rw [mkN, hla, hz, hev]
      have hl9 : la + (pick z.b 4) = lastAt cl.asked (mkN rl cl xs (k + 1)) (k + 1) := by rw [hN]; simp [lastAt, List.getD_eq_getElem?_getD, mkN_length]
      rw [hl9] at hfr
      rw [show ((mkN rl cl xs k).map Evt.cells) ++ ([[.int .i64 (1 + (pick z.a 6)), .int .i64 (la + (pick z.b 4)), .int .i64 0]]) = ((mkN rl cl xs (k + 1)).map Evt.cells) from by rw [hN]; simp [Evt.cells]] at hst
      refine ⟨_, ?_, k + 1, s21, rfl, (by omega), (by omega), hfr.pick [0, 1, 2, 3, 4, 15, 16, 17, 5, 18, 19, 6, 7, 46, 47, 10, 8, 9], hst.select [4, 5, 6, 7, 8, 9] (by decide)⟩
      omega
    rw [hc3] at hfr
    try simp only [Bool.not_eq_true', Bool.not_eq_false', decide_eq_true_eq, decide_eq_false_iff_not] at hc3
    refine wc_exit ?_
    refine hK8 _ _ ?_
    refine wc_seq_k fun K33 hK33 => ?_
    refine wc_of_dr (by kernel_rfl) ?_
    have hfr : Fr 124 [(0, _), (1, _), (2, _), (3, _), (4, _), (15, _), (16, _), (17, _), (5, _), (18, _), (19, _), (6, _), (7, _), (46, _), (47, _), (10, _), (8, _), (9, _), (56, _)] [] a := hfr.pick [0, 1, 2, 3, 4, 15, 16, 17, 5, 18, 19, 6, 7, 46, 47, 10, 8, 9, 56]
    have hst : St No w0 [blk w1.heap.size [.int .i64 0, .int .i64 0, .int .i64 0, .int .i64 0] 29, blk w2.heap.size [.int .i64 0, .int .i64 0, .int .i64 0, .int .i64 0, .int .i64 0, .bool false] 31, own v 45 3 ((mkN rl cl xs k).map Evt.cells), blk w0.heap.size [.int .i64 x0, .int .i64 x1, .int .i64 x2, .int .i64 x3, .int .i64 y0, .int .i64 y1, .int .i64 y2, .int .i64 y3, .int .i64 y4, .int .i64 y5, xv] 26, blk w4.heap.size [.int .i64 rl.answer, .int .i64 rl.cooling, .int .i64 rl.settle, .int .i64 rl.reverse] 29, blk b1 [.int .i64 cl.number, .int .i64 cl.frm, .int .i64 cl.to, .int .i64 cl.holder, .int .i64 cl.asked, .bool cl.backed] 31] w13 := hst.select [2, 3, 0, 1, 4, 5] (by decide)
    refine wc_phases_set [3, 4] (fun q => if q = 3 then blk w1.heap.size [.int .i64 0, .int .i64 0, .int .i64 0, .int .i64 0] 29 else if q = 4 then blk w2.heap.size [.int .i64 0, .int .i64 0, .int .i64 0, .int .i64 0, .int .i64 0, .bool false] 31 else join []) (fun q => if q = 3 then blk w1.heap.size [.int .i64 rl.answer, .int .i64 rl.cooling, .int .i64 rl.settle, .int .i64 rl.reverse] 29 else if q = 4 then blk w2.heap.size [.int .i64 cl.number, .int .i64 cl.frm, .int .i64 cl.to, .int .i64 cl.holder, .int .i64 cl.asked, .bool cl.backed] 31 else join []) 5 [[], [], [], [0], [1]] (fun i => match i with | 0 => pv (.agg #[.int .i64 rl.answer, .int .i64 rl.cooling, .int .i64 rl.settle, .int .i64 rl.reverse]) | 1 => pv (.agg #[.int .i64 cl.number, .int .i64 cl.frm, .int .i64 cl.to, .int .i64 cl.holder, .int .i64 cl.asked, .bool cl.backed]) | 2 => pv (v) | 3 => fun v E => v = undef ∧ E = [] | 4 => fun v E => v = undef ∧ E = [] | _ => fun _ _ => False) (by intro q; by_cases h3 : q = 3; (subst h3; rfl); by_cases h4 : q = 4; (subst h4; rfl); simp only [h3, h4, if_false]) hfr (H := [own v 45 3 ((mkN rl cl xs k).map Evt.cells), blk w0.heap.size [.int .i64 x0, .int .i64 x1, .int .i64 x2, .int .i64 x3, .int .i64 y0, .int .i64 y1, .int .i64 y2, .int .i64 y3, .int .i64 y4, .int .i64 y5, xv] 26, blk w4.heap.size [.int .i64 rl.answer, .int .i64 rl.cooling, .int .i64 rl.settle, .int .i64 rl.reverse] 29, blk b1 [.int .i64 cl.number, .int .i64 cl.frm, .int .i64 cl.to, .int .i64 cl.holder, .int .i64 cl.asked, .bool cl.backed] 31]) hst (by kernel_rfl) (by kernel_rfl) (by kernel_rfl) (by kernel_rfl) (by decide) (by decide) ?_ ?_ ?_ ?_ ?_ ?_
    · intro i v E h
      match i, h with
      | 0, _ => exact by decide
      | 1, _ => exact by decide
      | 2, _ => exact by decide
      | 3, _ => exact by decide
      | 4, _ => exact by decide
      | i + 5, h => exact h.elim
    · intro q v E hq h
      simp only [List.mem_cons, List.not_mem_nil, or_false] at hq
      rcases hq with rfl | rfl <;> exact h
    · intro q hq
      simp only [List.mem_cons, List.not_mem_nil, or_false] at hq
      rcases hq with rfl | rfl <;> exact ⟨rfl, rfl⟩
    · intro i hi hiq e
      match i, hi, hiq with
      | 0, _, _ =>
        intro w hst
        exact OpV.g (v_load_all (hst.get (k := 3) rfl) rfl (Try.isAgg29 _) (Try.sizeOf29 _))
      | 1, _, _ =>
        intro w hst
        exact OpV.g (v_load_all (hst.get (k := 4) rfl) rfl (Try.isAgg31 _) (Try.sizeOf31 _))
      | 2, _, _ =>
        intro w hst
        exact OpV.g (v_move rfl)
      | 3, _, h => exact absurd (by decide) h
      | 4, _, h => exact absurd (by decide) h
    · intro q hq
      simp only [List.mem_cons, List.not_mem_nil, or_false] at hq
      rcases hq with rfl | rfl
      · rintro _ _ ⟨rfl, rfl⟩
        intro w h
        exact r_storeU (cs := [.int .i64 0, .int .i64 0, .int .i64 0, .int .i64 0]) (ds := [.int .i64 rl.answer, .int .i64 rl.cooling, .int .i64 rl.settle, .int .i64 rl.reverse]) rfl rfl h (Try.sizeOf29 _) rfl (Nat.le_of_ble_eq_true rfl) rfl
      · rintro _ _ ⟨rfl, rfl⟩
        intro w h
        exact r_storeU (cs := [.int .i64 0, .int .i64 0, .int .i64 0, .int .i64 0, .int .i64 0, .bool false]) (ds := [.int .i64 cl.number, .int .i64 cl.frm, .int .i64 cl.to, .int .i64 cl.holder, .int .i64 cl.asked, .bool cl.backed]) rfl rfl h (Try.sizeOf31 _) rfl (Nat.le_of_ble_eq_true rfl) rfl
    rintro _ _ ⟨rfl, rfl⟩ _ _ ⟨rfl, rfl⟩ _ _ ⟨rfl, rfl⟩ a w54 hfr hst
    have hfr : Fr 124 [(121, _), (122, _), (123, _), (0, _), (1, _), (2, _), (3, _), (4, _), (15, _), (16, _), (17, _), (5, _), (18, _), (19, _), (6, _), (7, _), (46, _), (47, _), (10, _), (8, _), (9, _), (56, _)] [] a := hfr
    have hst : St No w0 [blk w1.heap.size [.int .i64 rl.answer, .int .i64 rl.cooling, .int .i64 rl.settle, .int .i64 rl.reverse] 29, blk w2.heap.size [.int .i64 cl.number, .int .i64 cl.frm, .int .i64 cl.to, .int .i64 cl.holder, .int .i64 cl.asked, .bool cl.backed] 31, own v 45 3 ((mkN rl cl xs k).map Evt.cells), blk w0.heap.size [.int .i64 x0, .int .i64 x1, .int .i64 x2, .int .i64 x3, .int .i64 y0, .int .i64 y1, .int .i64 y2, .int .i64 y3, .int .i64 y4, .int .i64 y5, xv] 26, blk w4.heap.size [.int .i64 rl.answer, .int .i64 rl.cooling, .int .i64 rl.settle, .int .i64 rl.reverse] 29, blk b1 [.int .i64 cl.number, .int .i64 cl.frm, .int .i64 cl.to, .int .i64 cl.holder, .int .i64 cl.asked, .bool cl.backed] 31] w54 := hst
    refine wl_v hfr (by decide) (v_assign rfl) fun a hfr => ?_
    refine wl_nil ?_
    refine hK33 _ _ ?_
    refine wc_ret ?_
    refine fin_ret hfr Try.results12 (resAre_cell rfl (res_all (hst.get (k := 0) rfl) (Try.isAgg29 _) (Try.sizeOf29 _)) (resAre_cell rfl (res_all (hst.get (k := 1) rfl) (Try.isAgg31 _) (Try.sizeOf31 _)) (resAre_tmp rfl resAre_nil))) ?_
    have hkm : k = min xs.length 10 := by omega
    exact ⟨v, rfl, trivial, hst.ext, St.out (E := [own v 45 3 ((mkL rl cl xs).map Evt.cells)]) (H := []) (by rw [mkL, ← hkm]; exact hst.select [2] (by decide))⟩
  rw [hb2] at hfr
  try simp only [Bool.not_eq_true', Bool.not_eq_false', decide_eq_true_eq, decide_eq_false_iff_not] at hb2
  refine wl_vn hfr (by decide) rfl (by decide) rfl rfl fun a hfr => ?_
  refine wl_vn hfr (by decide) rfl (by decide) rfl rfl fun a hfr => ?_
  refine wl_v hfr (by decide) (v_pick_f rfl rfl) fun a hfr => ?_
  refine wl_nil (hK11 _ _ ?_)
  have hfr : Fr 124 [(0, _), (1, _), (2, _), (3, _), (4, _), (15, _), (16, _), (17, _), (5, _), (18, _), (19, _), (6, _), (7, _), (46, _), (47, _), (10, _), (8, _), (9, _), (56, _)] [] a := hfr.pick [0, 1, 2, 3, 4, 15, 16, 17, 5, 18, 19, 6, 7, 46, 47, 10, 8, 9, 56]
  refine wc_cond_f hfr rfl ?_
  refine wc_exit ?_
  refine hK8 _ _ ?_
  refine wc_seq_k fun K34 hK34 => ?_
  refine wc_of_dr (by kernel_rfl) ?_
  have hfr : Fr 124 [(0, _), (1, _), (2, _), (3, _), (4, _), (15, _), (16, _), (17, _), (5, _), (18, _), (19, _), (6, _), (7, _), (46, _), (47, _), (10, _), (8, _), (9, _), (56, _)] [] a := hfr.pick [0, 1, 2, 3, 4, 15, 16, 17, 5, 18, 19, 6, 7, 46, 47, 10, 8, 9, 56]
  have hst : St No w0 [blk w1.heap.size [.int .i64 0, .int .i64 0, .int .i64 0, .int .i64 0] 29, blk w2.heap.size [.int .i64 0, .int .i64 0, .int .i64 0, .int .i64 0, .int .i64 0, .bool false] 31, own v 45 3 ((mkN rl cl xs k).map Evt.cells), blk w0.heap.size [.int .i64 x0, .int .i64 x1, .int .i64 x2, .int .i64 x3, .int .i64 y0, .int .i64 y1, .int .i64 y2, .int .i64 y3, .int .i64 y4, .int .i64 y5, xv] 26, blk w4.heap.size [.int .i64 rl.answer, .int .i64 rl.cooling, .int .i64 rl.settle, .int .i64 rl.reverse] 29, blk b1 [.int .i64 cl.number, .int .i64 cl.frm, .int .i64 cl.to, .int .i64 cl.holder, .int .i64 cl.asked, .bool cl.backed] 31] w13 := hst.select [2, 3, 0, 1, 4, 5] (by decide)
  refine wc_phases_set [3, 4] (fun q => if q = 3 then blk w1.heap.size [.int .i64 0, .int .i64 0, .int .i64 0, .int .i64 0] 29 else if q = 4 then blk w2.heap.size [.int .i64 0, .int .i64 0, .int .i64 0, .int .i64 0, .int .i64 0, .bool false] 31 else join []) (fun q => if q = 3 then blk w1.heap.size [.int .i64 rl.answer, .int .i64 rl.cooling, .int .i64 rl.settle, .int .i64 rl.reverse] 29 else if q = 4 then blk w2.heap.size [.int .i64 cl.number, .int .i64 cl.frm, .int .i64 cl.to, .int .i64 cl.holder, .int .i64 cl.asked, .bool cl.backed] 31 else join []) 5 [[], [], [], [0], [1]] (fun i => match i with | 0 => pv (.agg #[.int .i64 rl.answer, .int .i64 rl.cooling, .int .i64 rl.settle, .int .i64 rl.reverse]) | 1 => pv (.agg #[.int .i64 cl.number, .int .i64 cl.frm, .int .i64 cl.to, .int .i64 cl.holder, .int .i64 cl.asked, .bool cl.backed]) | 2 => pv (v) | 3 => fun v E => v = undef ∧ E = [] | 4 => fun v E => v = undef ∧ E = [] | _ => fun _ _ => False) (by intro q; by_cases h3 : q = 3; (subst h3; rfl); by_cases h4 : q = 4; (subst h4; rfl); simp only [h3, h4, if_false]) hfr (H := [own v 45 3 ((mkN rl cl xs k).map Evt.cells), blk w0.heap.size [.int .i64 x0, .int .i64 x1, .int .i64 x2, .int .i64 x3, .int .i64 y0, .int .i64 y1, .int .i64 y2, .int .i64 y3, .int .i64 y4, .int .i64 y5, xv] 26, blk w4.heap.size [.int .i64 rl.answer, .int .i64 rl.cooling, .int .i64 rl.settle, .int .i64 rl.reverse] 29, blk b1 [.int .i64 cl.number, .int .i64 cl.frm, .int .i64 cl.to, .int .i64 cl.holder, .int .i64 cl.asked, .bool cl.backed] 31]) hst (by kernel_rfl) (by kernel_rfl) (by kernel_rfl) (by kernel_rfl) (by decide) (by decide) ?_ ?_ ?_ ?_ ?_ ?_
  · intro i v E h
    match i, h with
    | 0, _ => exact by decide
    | 1, _ => exact by decide
    | 2, _ => exact by decide
    | 3, _ => exact by decide
    | 4, _ => exact by decide
    | i + 5, h => exact h.elim
  · intro q v E hq h
    simp only [List.mem_cons, List.not_mem_nil, or_false] at hq
    rcases hq with rfl | rfl <;> exact h
  · intro q hq
    simp only [List.mem_cons, List.not_mem_nil, or_false] at hq
    rcases hq with rfl | rfl <;> exact ⟨rfl, rfl⟩
  · intro i hi hiq e
    match i, hi, hiq with
    | 0, _, _ =>
      intro w hst
      exact OpV.g (v_load_all (hst.get (k := 3) rfl) rfl (Try.isAgg29 _) (Try.sizeOf29 _))
    | 1, _, _ =>
      intro w hst
      exact OpV.g (v_load_all (hst.get (k := 4) rfl) rfl (Try.isAgg31 _) (Try.sizeOf31 _))
    | 2, _, _ =>
      intro w hst
      exact OpV.g (v_move rfl)
    | 3, _, h => exact absurd (by decide) h
    | 4, _, h => exact absurd (by decide) h
  · intro q hq
    simp only [List.mem_cons, List.not_mem_nil, or_false] at hq
    rcases hq with rfl | rfl
    · rintro _ _ ⟨rfl, rfl⟩
      intro w h
      exact r_storeU (cs := [.int .i64 0, .int .i64 0, .int .i64 0, .int .i64 0]) (ds := [.int .i64 rl.answer, .int .i64 rl.cooling, .int .i64 rl.settle, .int .i64 rl.reverse]) rfl rfl h (Try.sizeOf29 _) rfl (Nat.le_of_ble_eq_true rfl) rfl
    · rintro _ _ ⟨rfl, rfl⟩
      intro w h
      exact r_storeU (cs := [.int .i64 0, .int .i64 0, .int .i64 0, .int .i64 0, .int .i64 0, .bool false]) (ds := [.int .i64 cl.number, .int .i64 cl.frm, .int .i64 cl.to, .int .i64 cl.holder, .int .i64 cl.asked, .bool cl.backed]) rfl rfl h (Try.sizeOf31 _) rfl (Nat.le_of_ble_eq_true rfl) rfl
  rintro _ _ ⟨rfl, rfl⟩ _ _ ⟨rfl, rfl⟩ _ _ ⟨rfl, rfl⟩ a w55 hfr hst
  have hfr : Fr 124 [(121, _), (122, _), (123, _), (0, _), (1, _), (2, _), (3, _), (4, _), (15, _), (16, _), (17, _), (5, _), (18, _), (19, _), (6, _), (7, _), (46, _), (47, _), (10, _), (8, _), (9, _), (56, _)] [] a := hfr
  have hst : St No w0 [blk w1.heap.size [.int .i64 rl.answer, .int .i64 rl.cooling, .int .i64 rl.settle, .int .i64 rl.reverse] 29, blk w2.heap.size [.int .i64 cl.number, .int .i64 cl.frm, .int .i64 cl.to, .int .i64 cl.holder, .int .i64 cl.asked, .bool cl.backed] 31, own v 45 3 ((mkN rl cl xs k).map Evt.cells), blk w0.heap.size [.int .i64 x0, .int .i64 x1, .int .i64 x2, .int .i64 x3, .int .i64 y0, .int .i64 y1, .int .i64 y2, .int .i64 y3, .int .i64 y4, .int .i64 y5, xv] 26, blk w4.heap.size [.int .i64 rl.answer, .int .i64 rl.cooling, .int .i64 rl.settle, .int .i64 rl.reverse] 29, blk b1 [.int .i64 cl.number, .int .i64 cl.frm, .int .i64 cl.to, .int .i64 cl.holder, .int .i64 cl.asked, .bool cl.backed] 31] w55 := hst
  refine wl_v hfr (by decide) (v_assign rfl) fun a hfr => ?_
  refine wl_nil ?_
  refine hK34 _ _ ?_
  refine wc_ret ?_
  refine fin_ret hfr Try.results12 (resAre_cell rfl (res_all (hst.get (k := 0) rfl) (Try.isAgg29 _) (Try.sizeOf29 _)) (resAre_cell rfl (res_all (hst.get (k := 1) rfl) (Try.isAgg31 _) (Try.sizeOf31 _)) (resAre_tmp rfl resAre_nil))) ?_
  have hkm : k = min xs.length 10 := by omega
  exact ⟨v, rfl, trivial, hst.ext, St.out (E := [own v 45 3 ((mkL rl cl xs).map Evt.cells)]) (H := []) (by rw [mkL, ← hkm]; exact hst.select [2] (by decide))⟩
end Go.Proofs.Ytdamipejlfipcaa
