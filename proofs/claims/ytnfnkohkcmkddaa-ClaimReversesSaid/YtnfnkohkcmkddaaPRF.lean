/- Texts joined: BlkE, BlkF, BlkL. -/
import Derived.Test.YtnfnkohkcmkddaaPRE
import Derived.Test.YtnfnkohkcmkddaaPRB
import Derived.Test.YtnfnkohkcmkddaaPRD
namespace Go.Proofs.Ytnfnkohkcmkddaa
open Go.RowKit Go.PW
set_option linter.unusedVariables false
set_option linter.unusedSimpArgs false
set_option maxRecDepth 4000
set_option maxHeartbeats 4000000 in
theorem edges_ok (va vb : Value) (la lbb : List Blo) (w0 : World) (hva : SlAt w0 va 3 (la.map Blo.cells)) (hvb : SlAt w0 vb 3 (lbb.map Blo.cells)) (hla : la.length ≤ 40) (hlbb : lbb.length ≤ 40) :
  Ret Try.prog 66 #[va, vb] w0 (MemR w0 (fun v : Value => v) (fun v => [own v 3 1 ((edgesL la lbb).map fun n => [iv n])]) (fun _ => True)) := by
 refine ret_of Try.func66 rfl Try.ntmps66 (lb rfl) fun a hfr => ?_
 replace hfr : Fr 52 [(0, _), (1, _)] [] a := hfr
 replace hst : St No w0 [] w0 := St.init w0
 refine wc_seq_region fun K1 hK1 => ?_
 refine wla hfr rfl fun a hfr => ?_
 refine wl_nil (hK1 _ _ ?_)
 refine wc_seq_region fun K2 hK2 => ?_
 refine wl_buildSlice (E := 3) (sz := 1) rfl [[iv 0], [iv 100000000]] (by kernel_rfl) (by simp) rfl (by decide) (by decide) hfr hst ?_
 clear hfr hst
 intro a w1 hfr hst
 refine wla hfr rfl fun a hfr => ?_
 refine wl_nil (hK2 _ _ ?_)
 refine wc_seq_k fun K3 hK3 => ?_
 refine wc_seq_region fun K4 hK4 => ?_
 refine wla hfr rfl fun a hfr => ?_
 refine wl_nil (hK4 _ _ ?_)
 refine wc_block ?_
 refine wc_loop (fun m a w => ∃ (k : Nat) (v : Value), m = la.length - k ∧ (k ≤ la.length) ∧ Fr 52 [(0, va), (1, vb), (4, .slice none 0 0), (6, iv (k : Int)), (5, v)] [] a ∧ St No w0 [own v 3 1 ((edgL (la.take k) [0, 100000000]).map fun n => [iv n])] w) _ ⟨0, (.slice (some ⟨w0.heap.size, 0, none⟩) 2 2), rfl, Nat.zero_le _, hfr.pick [0, 1, 4, 6, 5], hst.select [0] (by decide)⟩ ?_
 rintro _ a w2 ⟨k, v, rfl, hk, hfr, hst⟩
 have hle9 := @edg_len (la.take k) [0, 100000000]
 rw [List.length_take] at hle9
 have hle8 := @edg_len la [0, 100000000]
 simp only [List.length_cons, List.length_nil] at hle9 hle8
 have hle7 := @insL_len (edgL (la.take k) [0, 100000000]) (la.getD k Blo.z).f
 refine wc_seq_k fun K5 hK5 => ?_
 refine wc_seq_region fun K6 hK6 => ?_
 refine wlm hfr rfl fun a hfr => wlm hfr rfl fun a hfr => ?_
 refine wlv hfr ((v_len_sl (sT := 28) (hst.arg hva) rfl rfl (Try.runUnderlying28 _)).asi (m' := (la.length : Int)) (by rw [List.length_map])) fun a hfr => ?_
 refine wlv hfr (v_lt rfl rfl) fun a hfr => ?_
 refine wl_nil (hK6 _ _ ?_)
 refine wc_cond_d hfr rfl (fun hc1 => ?_) (fun hc1 => ?_)
 ·refine wc_skip ?_
  refine hK5 _ _ ?_
  refine wc_seq_k fun K7 hK7 => ?_
  refine wc_block ?_
  rcases Decidable.em (insL (edgL (la.take k) [0, 100000000]) ((la.getD k Blo.z).f) = edgL (la.take k) [0, 100000000]) with hb2 | hb2
  ·rcases Decidable.em (insL (edgL (la.take k) [0, 100000000]) ((la.getD k Blo.z).t) = edgL (la.take k) [0, 100000000]) with hb3 | hb3
   ·refine wc_of_dr (dr_of_wd fun w3 hxz => ?_)
    replace hst := hst.grow hxz
    refine wd_sub (k := 0) 14 [7, 13] hfr ?_
    replace hfr : Fr 52 [(0, _), (1, _), (4, _), (6, _), (5, _), (9, _), (10, _), (11, _)] [] a := hfr.pick [0, 1, 4, 6, 5, 9, 10, 11]
    refine dr_pl 14 hfr hst <| pl_m rfl <| pl_m rfl <| pl_m rfl <| pl_w (fun hst => (v_indexAddr_sl (i := (k : Int)) (sT := 28) (hst.arg hva) rfl rfl (Try.runUnderlying28 _) (Try.sizeOf77 _) (by omega) (by rw [List.length_map]; omega)).as (v' := slAddr va (k * 3)) rfl) <| pl_w (fun hst => v_fieldAddr_sl (k := k * 3) (j := 0) (hst.arg hva) (i := k) (by rw [List.length_map]; omega) rfl (fun _ _ => by kernel_rfl)) <| pl_w (fun hst => v_fieldAddr_sl (k := k * 3 + 0) (j := 0) (hst.arg hva) (i := k) (by rw [List.length_map]; omega) rfl (fun _ _ => by kernel_rfl)) <| pl_w (fun hst => v_load_sl1 (u := iv ((la.getD k Blo.z).f)) (i := k) (j := 0) (hst.arg hva) (by rw [List.length_map]; omega) rfl (Try.isAgg3 _) (by rw [el_at Blo.z]; rfl)) ?_
    refine pl_r (fun hst => g_callp Try.call78 rfl (put_yes v (edgL (la.take k) [0, 100000000]) ((la.getD k Blo.z).f) _ (hst.ownAt (i := 0) rfl) (by omega) (by omega) hb2)) <| pl_m rfl <| pl_m rfl <| pl_w (fun hst => (v_indexAddr_sl (i := (k : Int)) (sT := 28) (hst.arg hva) rfl rfl (Try.runUnderlying28 _) (Try.sizeOf77 _) (by omega) (by rw [List.length_map]; omega)).as (v' := slAddr va (k * 3)) rfl) <| pl_w (fun hst => v_fieldAddr_sl (k := k * 3) (j := 0) (hst.arg hva) (i := k) (by rw [List.length_map]; omega) rfl (fun _ _ => by kernel_rfl)) <| pl_w (fun hst => v_fieldAddr_sl (k := k * 3 + 0) (j := 1) (hst.arg hva) (i := k) (by rw [List.length_map]; omega) rfl (fun _ _ => by kernel_rfl)) <| pl_w (fun hst => v_load_sl1 (u := iv ((la.getD k Blo.z).t)) (i := k) (j := 1) (hst.arg hva) (by rw [List.length_map]; omega) rfl (Try.isAgg3 _) (by rw [el_at Blo.z]; rfl)) ?_
    clear hfr hst
    intro a w4 hfr hst
    replace hfr : Fr 52 [(0, _), (1, _), (4, _), (6, _), (22, _), (28, _)] [] a := hfr.pick [0, 1, 4, 6, 22, 28]
    refine wl_nil ?_
    refine wd_lin (k := 14) 16 [15] ?_
    refine wl_callp hfr hst Try.call78 rfl (put_yes v (edgL (la.take k) [0, 100000000]) ((la.getD k Blo.z).t) _ (hst.ownAt (i := 0) rfl) (by omega) (by omega) hb3) ?_
    clear hfr hst
    intro a w5 hfr hst
    refine wla hfr rfl fun a hfr => ?_
    refine wl_nil ?_
    refine wd_end ?_
    refine hK7 _ _ ?_
    refine wc_region ?_
    refine wlm hfr rfl fun a hfr => ?_
    refine wlv hfr (v_add rfl rfl ⟨by omega, by omega⟩) fun a hfr => wla hfr rfl fun a hfr => ?_
    refine wl_nil ?_
    have hq9 : edgL (la.take k) [0, 100000000] = edgL (la.take (k + 1)) [0, 100000000] := by rw [edg_snoc (by omega), hb2, hb3]
    rw [hq9] at hst
    refine ⟨_, ?_, k + 1, v, rfl, (by omega), hfr.pick [0, 1, 4, 6, 5], hst.select [0] (by decide)⟩
    omega
   refine wc_of_dr (dr_of_wd fun w6 hxz => ?_)
   replace hst := hst.grow hxz
   refine wd_sub (k := 0) 14 [7, 13] hfr ?_
   replace hfr : Fr 52 [(0, _), (1, _), (4, _), (6, _), (5, _), (9, _), (10, _), (11, _)] [] a := hfr.pick [0, 1, 4, 6, 5, 9, 10, 11]
   refine dr_pl 14 hfr hst <| pl_m rfl <| pl_m rfl <| pl_m rfl <| pl_w (fun hst => (v_indexAddr_sl (i := (k : Int)) (sT := 28) (hst.arg hva) rfl rfl (Try.runUnderlying28 _) (Try.sizeOf77 _) (by omega) (by rw [List.length_map]; omega)).as (v' := slAddr va (k * 3)) rfl) <| pl_w (fun hst => v_fieldAddr_sl (k := k * 3) (j := 0) (hst.arg hva) (i := k) (by rw [List.length_map]; omega) rfl (fun _ _ => by kernel_rfl)) <| pl_w (fun hst => v_fieldAddr_sl (k := k * 3 + 0) (j := 0) (hst.arg hva) (i := k) (by rw [List.length_map]; omega) rfl (fun _ _ => by kernel_rfl)) <| pl_w (fun hst => v_load_sl1 (u := iv ((la.getD k Blo.z).f)) (i := k) (j := 0) (hst.arg hva) (by rw [List.length_map]; omega) rfl (Try.isAgg3 _) (by rw [el_at Blo.z]; rfl)) ?_
   refine pl_r (fun hst => g_callp Try.call78 rfl (put_yes v (edgL (la.take k) [0, 100000000]) ((la.getD k Blo.z).f) _ (hst.ownAt (i := 0) rfl) (by omega) (by omega) hb2)) <| pl_m rfl <| pl_m rfl <| pl_w (fun hst => (v_indexAddr_sl (i := (k : Int)) (sT := 28) (hst.arg hva) rfl rfl (Try.runUnderlying28 _) (Try.sizeOf77 _) (by omega) (by rw [List.length_map]; omega)).as (v' := slAddr va (k * 3)) rfl) <| pl_w (fun hst => v_fieldAddr_sl (k := k * 3) (j := 0) (hst.arg hva) (i := k) (by rw [List.length_map]; omega) rfl (fun _ _ => by kernel_rfl)) <| pl_w (fun hst => v_fieldAddr_sl (k := k * 3 + 0) (j := 1) (hst.arg hva) (i := k) (by rw [List.length_map]; omega) rfl (fun _ _ => by kernel_rfl)) <| pl_w (fun hst => v_load_sl1 (u := iv ((la.getD k Blo.z).t)) (i := k) (j := 1) (hst.arg hva) (by rw [List.length_map]; omega) rfl (Try.isAgg3 _) (by rw [el_at Blo.z]; rfl)) ?_
   clear hfr hst
   intro a w7 hfr hst
   replace hfr : Fr 52 [(0, _), (1, _), (4, _), (6, _), (22, _), (28, _)] [] a := hfr.pick [0, 1, 4, 6, 22, 28]
   refine wl_nil ?_
   refine wd_lin (k := 14) 16 [15] ?_
   refine wl_callm hfr hst Try.call78 rfl (put_no v (edgL (la.take k) [0, 100000000]) ((la.getD k Blo.z).t) _ (hst.ownAt (i := 0) rfl) (by omega) (by omega) hb3) ?_
   clear hfr hst
   intro a w8 x5 hp hfr hst
   revert x5 hp hfr hst; rintro v4 hp hfr hst
   clear hp
   replace hst : St No w0 [own v4 3 1 ((insL (edgL (la.take k) [0, 100000000]) ((la.getD k Blo.z).t)).map fun n => [iv n]), own v 3 1 ((edgL (la.take k) [0, 100000000]).map fun n => [iv n])] w8 := hst
   refine wla hfr rfl fun a hfr => ?_
   refine wl_nil ?_
   refine wd_end ?_
   refine hK7 _ _ ?_
   refine wc_region ?_
   refine wlm hfr rfl fun a hfr => ?_
   refine wlv hfr (v_add rfl rfl ⟨by omega, by omega⟩) fun a hfr => wla hfr rfl fun a hfr => ?_
   refine wl_nil ?_
   have hq9 : insL (edgL (la.take k) [0, 100000000]) ((la.getD k Blo.z).t) = edgL (la.take (k + 1)) [0, 100000000] := by rw [edg_snoc (by omega), hb2]
   rw [hq9] at hst
   refine ⟨_, ?_, k + 1, v4, rfl, (by omega), hfr.pick [0, 1, 4, 6, 5], hst.select [0] (by decide)⟩
   omega
  rcases Decidable.em (insL (insL (edgL (la.take k) [0, 100000000]) ((la.getD k Blo.z).f)) ((la.getD k Blo.z).t) = insL (edgL (la.take k) [0, 100000000]) ((la.getD k Blo.z).f)) with hb6 | hb6
  ·refine wc_of_dr (dr_of_wd fun w9 hxz => ?_)
   replace hst := hst.grow hxz
   refine wd_sub (k := 0) 14 [7, 13] hfr ?_
   replace hfr : Fr 52 [(0, _), (1, _), (4, _), (6, _), (5, _), (9, _), (10, _), (11, _)] [] a := hfr.pick [0, 1, 4, 6, 5, 9, 10, 11]
   refine wc_phases_q [7] (fun i => match i with | 7 => pm (fun v : Value => v) (fun v => [own v 3 1 ((insL (edgL (la.take k) [0, 100000000]) ((la.getD k Blo.z).f)).map fun n => [iv n])]) (fun _ => True) | _ => fun _ _ => False) 14 [[], [], [], [1, 2], [3], [4], [5], [0, 6], [], [], [8, 9], [10], [11], [12]] [v, va, iv (k : Int), slAddr va (k * 3), slAddr va (k * 3 + 0), slAddr va (k * 3 + 0), iv ((la.getD k Blo.z).f), undef, va, iv (k : Int), slAddr va (k * 3), slAddr va (k * 3 + 0), slAddr va (k * 3 + 1), iv ((la.getD k Blo.z).t)] hfr hst ?_ ?_ ?_
   ·intro i hi hiq
    match i, hi, hiq with
    | 0, _, _ =>
     intro w hst
     exact OpV.g (v_move rfl)
    | 1, _, _ =>
     intro w hst
     exact OpV.g (v_move rfl)
    | 2, _, _ =>
     intro w hst
     exact OpV.g (v_move rfl)
    | 3, _, _ =>
     intro w hst
     exact OpV.g ((v_indexAddr_sl (i := (k : Int)) (sT := 28) (hst.arg hva) rfl rfl (Try.runUnderlying28 _) (Try.sizeOf77 _) (by omega) (by rw [List.length_map]; omega)).as (v' := slAddr va (k * 3)) rfl)
    | 4, _, _ =>
     intro w hst
     exact OpV.g (v_fieldAddr_sl (k := k * 3) (j := 0) (hst.arg hva) (i := k) (by rw [List.length_map]; omega) rfl (fun _ _ => by kernel_rfl))
    | 5, _, _ =>
     intro w hst
     exact OpV.g (v_fieldAddr_sl (k := k * 3 + 0) (j := 0) (hst.arg hva) (i := k) (by rw [List.length_map]; omega) rfl (fun _ _ => by kernel_rfl))
    | 6, _, _ =>
     intro w hst
     exact OpV.g (v_load_sl1 (u := iv ((la.getD k Blo.z).f)) (i := k) (j := 0) (hst.arg hva) (by rw [List.length_map]; omega) rfl (Try.isAgg3 _) (by rw [el_at Blo.z]; rfl))
    | 7, _, h => exact absurd (by simp) h
    | 8, _, _ =>
     intro w hst
     exact OpV.g (v_move rfl)
    | 9, _, _ =>
     intro w hst
     exact OpV.g (v_move rfl)
    | 10, _, _ =>
     intro w hst
     exact OpV.g ((v_indexAddr_sl (i := (k : Int)) (sT := 28) (hst.arg hva) rfl rfl (Try.runUnderlying28 _) (Try.sizeOf77 _) (by omega) (by rw [List.length_map]; omega)).as (v' := slAddr va (k * 3)) rfl)
    | 11, _, _ =>
     intro w hst
     exact OpV.g (v_fieldAddr_sl (k := k * 3) (j := 0) (hst.arg hva) (i := k) (by rw [List.length_map]; omega) rfl (fun _ _ => by kernel_rfl))
    | 12, _, _ =>
     intro w hst
     exact OpV.g (v_fieldAddr_sl (k := k * 3 + 0) (j := 1) (hst.arg hva) (i := k) (by rw [List.length_map]; omega) rfl (fun _ _ => by kernel_rfl))
    | 13, _, _ =>
     intro w hst
     exact OpV.g (v_load_sl1 (u := iv ((la.getD k Blo.z).t)) (i := k) (j := 1) (hst.arg hva) (by rw [List.length_map]; omega) rfl (Try.isAgg3 _) (by rw [el_at Blo.z]; rfl))
    | i + 14, h, _ => exact absurd h (by omega)
   ·intro i hi
    simp only [List.mem_cons, List.not_mem_nil, or_false] at hi
    subst hi
    ·intro w hst
     exact g_callm Try.call78 rfl (put_no v (edgL (la.take k) [0, 100000000]) ((la.getD k Blo.z).f) _ (hst.ownAt (i := 0) rfl) (by omega) (by omega) hb2)
   clear hfr hst
   rintro v7 _ ⟨_, rfl, -, rfl⟩ a w10 hfr hst
   replace hfr : Fr 52 [(22, _), (28, iv ((la.getD k Blo.z).t)), (0, _), (1, _), (4, _), (6, _)] [] a := hfr.pick [22, 28, 0, 1, 4, 6]
   replace hst : St No w0 [_, _] w10 := hst
   refine wl_nil ?_
   refine wd_lin (k := 14) 16 [15] ?_
   refine wl_callp hfr hst Try.call78 rfl (put_yes v7 (insL (edgL (la.take k) [0, 100000000]) ((la.getD k Blo.z).f)) ((la.getD k Blo.z).t) _ (hst.ownAt (i := 0) rfl) (by omega) (by omega) hb6) ?_
   clear hfr hst
   intro a w11 hfr hst
   refine wla hfr rfl fun a hfr => ?_
   refine wl_nil ?_
   refine wd_end ?_
   refine hK7 _ _ ?_
   replace hfr : Fr 52 [(0, _), (1, _), (4, _), (6, _), (5, _)] [] a := hfr.pick [0, 1, 4, 6, 5]
   refine wc_region ?_
   refine wlm hfr rfl fun a hfr => ?_
   refine wlv hfr (v_add rfl rfl ⟨by omega, by omega⟩) fun a hfr => wla hfr rfl fun a hfr => ?_
   refine wl_nil ?_
   have hq9 : insL (edgL (la.take k) [0, 100000000]) ((la.getD k Blo.z).f) = edgL (la.take (k + 1)) [0, 100000000] := by rw [edg_snoc (by omega), hb6]
   rw [hq9] at hst
   refine ⟨_, ?_, k + 1, v7, rfl, (by omega), hfr.pick [0, 1, 4, 6, 5], hst.select [0] (by decide)⟩
   omega
  refine wc_of_dr (dr_of_wd fun w12 hxz => ?_)
  replace hst := hst.grow hxz
  refine wd_sub (k := 0) 14 [7, 13] hfr ?_
  replace hfr : Fr 52 [(0, _), (1, _), (4, _), (6, _), (5, _), (9, _), (10, _), (11, _)] [] a := hfr.pick [0, 1, 4, 6, 5, 9, 10, 11]
  refine wc_phases_q [7] (fun i => match i with | 7 => pm (fun v : Value => v) (fun v => [own v 3 1 ((insL (edgL (la.take k) [0, 100000000]) ((la.getD k Blo.z).f)).map fun n => [iv n])]) (fun _ => True) | _ => fun _ _ => False) 14 [[], [], [], [1, 2], [3], [4], [5], [0, 6], [], [], [8, 9], [10], [11], [12]] [v, va, iv (k : Int), slAddr va (k * 3), slAddr va (k * 3 + 0), slAddr va (k * 3 + 0), iv ((la.getD k Blo.z).f), undef, va, iv (k : Int), slAddr va (k * 3), slAddr va (k * 3 + 0), slAddr va (k * 3 + 1), iv ((la.getD k Blo.z).t)] hfr hst ?_ ?_ ?_
  ·intro i hi hiq
   match i, hi, hiq with
   | 0, _, _ =>
    intro w hst
    exact OpV.g (v_move rfl)
   | 1, _, _ =>
    intro w hst
    exact OpV.g (v_move rfl)
   | 2, _, _ =>
    intro w hst
    exact OpV.g (v_move rfl)
   | 3, _, _ =>
    intro w hst
    exact OpV.g ((v_indexAddr_sl (i := (k : Int)) (sT := 28) (hst.arg hva) rfl rfl (Try.runUnderlying28 _) (Try.sizeOf77 _) (by omega) (by rw [List.length_map]; omega)).as (v' := slAddr va (k * 3)) rfl)
   | 4, _, _ =>
    intro w hst
    exact OpV.g (v_fieldAddr_sl (k := k * 3) (j := 0) (hst.arg hva) (i := k) (by rw [List.length_map]; omega) rfl (fun _ _ => by kernel_rfl))
   | 5, _, _ =>
    intro w hst
    exact OpV.g (v_fieldAddr_sl (k := k * 3 + 0) (j := 0) (hst.arg hva) (i := k) (by rw [List.length_map]; omega) rfl (fun _ _ => by kernel_rfl))
   | 6, _, _ =>
    intro w hst
    exact OpV.g (v_load_sl1 (u := iv ((la.getD k Blo.z).f)) (i := k) (j := 0) (hst.arg hva) (by rw [List.length_map]; omega) rfl (Try.isAgg3 _) (by rw [el_at Blo.z]; rfl))
   | 7, _, h => exact absurd (by simp) h
   | 8, _, _ =>
    intro w hst
    exact OpV.g (v_move rfl)
   | 9, _, _ =>
    intro w hst
    exact OpV.g (v_move rfl)
   | 10, _, _ =>
    intro w hst
    exact OpV.g ((v_indexAddr_sl (i := (k : Int)) (sT := 28) (hst.arg hva) rfl rfl (Try.runUnderlying28 _) (Try.sizeOf77 _) (by omega) (by rw [List.length_map]; omega)).as (v' := slAddr va (k * 3)) rfl)
   | 11, _, _ =>
    intro w hst
    exact OpV.g (v_fieldAddr_sl (k := k * 3) (j := 0) (hst.arg hva) (i := k) (by rw [List.length_map]; omega) rfl (fun _ _ => by kernel_rfl))
   | 12, _, _ =>
    intro w hst
    exact OpV.g (v_fieldAddr_sl (k := k * 3 + 0) (j := 1) (hst.arg hva) (i := k) (by rw [List.length_map]; omega) rfl (fun _ _ => by kernel_rfl))
   | 13, _, _ =>
    intro w hst
    exact OpV.g (v_load_sl1 (u := iv ((la.getD k Blo.z).t)) (i := k) (j := 1) (hst.arg hva) (by rw [List.length_map]; omega) rfl (Try.isAgg3 _) (by rw [el_at Blo.z]; rfl))
   | i + 14, h, _ => exact absurd h (by omega)
  ·intro i hi
   simp only [List.mem_cons, List.not_mem_nil, or_false] at hi
   subst hi
   ·intro w hst
    exact g_callm Try.call78 rfl (put_no v (edgL (la.take k) [0, 100000000]) ((la.getD k Blo.z).f) _ (hst.ownAt (i := 0) rfl) (by omega) (by omega) hb2)
  clear hfr hst
  rintro v8 _ ⟨_, rfl, -, rfl⟩ a w13 hfr hst
  replace hfr : Fr 52 [(22, _), (28, iv ((la.getD k Blo.z).t)), (0, _), (1, _), (4, _), (6, _)] [] a := hfr.pick [22, 28, 0, 1, 4, 6]
  replace hst : St No w0 [_, _] w13 := hst
  refine wl_nil ?_
  refine wd_lin (k := 14) 16 [15] ?_
  refine wl_callm hfr hst Try.call78 rfl (put_no v8 (insL (edgL (la.take k) [0, 100000000]) ((la.getD k Blo.z).f)) ((la.getD k Blo.z).t) _ (hst.ownAt (i := 0) rfl) (by omega) (by omega) hb6) ?_
  clear hfr hst
  intro a w14 x10 hp hfr hst
  revert x10 hp hfr hst; rintro v9 hp hfr hst
  clear hp
  replace hst : St No w0 [own v9 3 1 ((insL (insL (edgL (la.take k) [0, 100000000]) ((la.getD k Blo.z).f)) ((la.getD k Blo.z).t)).map fun n => [iv n]), own v8 3 1 ((insL (edgL (la.take k) [0, 100000000]) ((la.getD k Blo.z).f)).map fun n => [iv n]), own v 3 1 ((edgL (la.take k) [0, 100000000]).map fun n => [iv n])] w14 := hst
  refine wla hfr rfl fun a hfr => ?_
  refine wl_nil ?_
  refine wd_end ?_
  refine hK7 _ _ ?_
  replace hfr : Fr 52 [(0, _), (1, _), (4, _), (6, _), (5, _)] [] a := hfr.pick [0, 1, 4, 6, 5]
  replace hst : St No w0 [_, _] w14 := hst.mask [true, false, true]
  refine wc_region ?_
  refine wlm hfr rfl fun a hfr => ?_
  refine wlv hfr (v_add rfl rfl ⟨by omega, by omega⟩) fun a hfr => wla hfr rfl fun a hfr => ?_
  refine wl_nil ?_
  have hq9 : insL (insL (edgL (la.take k) [0, 100000000]) ((la.getD k Blo.z).f)) ((la.getD k Blo.z).t) = edgL (la.take (k + 1)) [0, 100000000] := by rw [edg_snoc (by omega)]
  rw [hq9] at hst
  refine ⟨_, ?_, k + 1, v9, rfl, (by omega), hfr.pick [0, 1, 4, 6, 5], hst.select [0] (by decide)⟩
  omega
 refine wc_exit ?_
 refine hK3 _ _ ?_
 refine wc_seq_k fun K8 hK8 => ?_
 have hka : k = la.length := by omega
 rw [hka, List.take_length] at hst
 refine wc_seq_region fun K9 hK9 => ?_
 refine wla hfr rfl fun a hfr => ?_
 refine wl_nil (hK9 _ _ ?_)
 replace hfr : Fr 52 [(1, _), (4, _), (5, _), (7, _)] [] a := hfr.pick [1, 4, 5, 7]
 refine wc_block ?_
 refine wc_loop (fun m a w => ∃ (k : Nat) (v : Value), m = lbb.length - k ∧ (k ≤ lbb.length) ∧ Fr 52 [(1, vb), (4, .slice none 0 0), (7, iv (k : Int)), (5, v)] [] a ∧ St No w0 [own v 3 1 ((edgL (lbb.take k) (edgL la [0, 100000000])).map fun n => [iv n])] w) _ ⟨0, v, rfl, Nat.zero_le _, hfr.pick [1, 4, 7, 5], hst.select [0] (by decide)⟩ ?_
 rintro _ a w15 ⟨k, v, rfl, hk, hfr, hst⟩
 have hle9 := @edg_len (lbb.take k) (edgL la [0, 100000000])
 rw [List.length_take] at hle9
 have hle8 := @edg_len la [0, 100000000]
 simp only [List.length_cons, List.length_nil] at hle9 hle8
 have hle7 := @insL_len (edgL (lbb.take k) (edgL la [0, 100000000])) (lbb.getD k Blo.z).f
 refine wc_seq_k fun K10 hK10 => ?_
 refine wc_seq_region fun K11 hK11 => ?_
 refine wlm hfr rfl fun a hfr => wlm hfr rfl fun a hfr => ?_
 refine wlv hfr ((v_len_sl (sT := 28) (hst.arg hvb) rfl rfl (Try.runUnderlying28 _)).asi (m' := (lbb.length : Int)) (by rw [List.length_map])) fun a hfr => ?_
 refine wlv hfr (v_lt rfl rfl) fun a hfr => ?_
 refine wl_nil (hK11 _ _ ?_)
 refine wc_cond_d hfr rfl (fun hc11 => ?_) (fun hc11 => ?_)
 ·refine wc_skip ?_
  refine hK10 _ _ ?_
  refine wc_seq_k fun K12 hK12 => ?_
  refine wc_block ?_
  rcases Decidable.em (insL (edgL (lbb.take k) (edgL la [0, 100000000])) ((lbb.getD k Blo.z).f) = edgL (lbb.take k) (edgL la [0, 100000000])) with hb12 | hb12
  ·rcases Decidable.em (insL (edgL (lbb.take k) (edgL la [0, 100000000])) ((lbb.getD k Blo.z).t) = edgL (lbb.take k) (edgL la [0, 100000000])) with hb13 | hb13
   ·refine wc_of_dr (dr_of_wd fun w16 hxz => ?_)
    replace hst := hst.grow hxz
    refine wd_sub (k := 0) 14 [7, 13] hfr ?_
    replace hfr : Fr 52 [(1, _), (4, _), (7, _), (5, _), (30, _), (31, _), (32, _)] [] a := hfr.pick [1, 4, 7, 5, 30, 31, 32]
    refine dr_pl 14 hfr hst <| pl_m rfl <| pl_m rfl <| pl_m rfl <| pl_w (fun hst => (v_indexAddr_sl (i := (k : Int)) (sT := 28) (hst.arg hvb) rfl rfl (Try.runUnderlying28 _) (Try.sizeOf77 _) (by omega) (by rw [List.length_map]; omega)).as (v' := slAddr vb (k * 3)) rfl) <| pl_w (fun hst => v_fieldAddr_sl (k := k * 3) (j := 0) (hst.arg hvb) (i := k) (by rw [List.length_map]; omega) rfl (fun _ _ => by kernel_rfl)) <| pl_w (fun hst => v_fieldAddr_sl (k := k * 3 + 0) (j := 0) (hst.arg hvb) (i := k) (by rw [List.length_map]; omega) rfl (fun _ _ => by kernel_rfl)) <| pl_w (fun hst => v_load_sl1 (u := iv ((lbb.getD k Blo.z).f)) (i := k) (j := 0) (hst.arg hvb) (by rw [List.length_map]; omega) rfl (Try.isAgg3 _) (by rw [el_at Blo.z]; rfl)) ?_
    refine pl_r (fun hst => g_callp Try.call78 rfl (put_yes v (edgL (lbb.take k) (edgL la [0, 100000000])) ((lbb.getD k Blo.z).f) _ (hst.ownAt (i := 0) rfl) (by omega) (by omega) hb12)) <| pl_m rfl <| pl_m rfl <| pl_w (fun hst => (v_indexAddr_sl (i := (k : Int)) (sT := 28) (hst.arg hvb) rfl rfl (Try.runUnderlying28 _) (Try.sizeOf77 _) (by omega) (by rw [List.length_map]; omega)).as (v' := slAddr vb (k * 3)) rfl) <| pl_w (fun hst => v_fieldAddr_sl (k := k * 3) (j := 0) (hst.arg hvb) (i := k) (by rw [List.length_map]; omega) rfl (fun _ _ => by kernel_rfl)) <| pl_w (fun hst => v_fieldAddr_sl (k := k * 3 + 0) (j := 1) (hst.arg hvb) (i := k) (by rw [List.length_map]; omega) rfl (fun _ _ => by kernel_rfl)) <| pl_w (fun hst => v_load_sl1 (u := iv ((lbb.getD k Blo.z).t)) (i := k) (j := 1) (hst.arg hvb) (by rw [List.length_map]; omega) rfl (Try.isAgg3 _) (by rw [el_at Blo.z]; rfl)) ?_
    clear hfr hst
    intro a w17 hfr hst
    replace hfr : Fr 52 [(1, _), (4, _), (7, _), (43, _), (49, _)] [] a := hfr.pick [1, 4, 7, 43, 49]
    refine wl_nil ?_
    refine wd_lin (k := 14) 16 [15] ?_
    refine wl_callp hfr hst Try.call78 rfl (put_yes v (edgL (lbb.take k) (edgL la [0, 100000000])) ((lbb.getD k Blo.z).t) _ (hst.ownAt (i := 0) rfl) (by omega) (by omega) hb13) ?_
    clear hfr hst
    intro a w18 hfr hst
    refine wla hfr rfl fun a hfr => ?_
    refine wl_nil ?_
    refine wd_end ?_
    refine hK12 _ _ ?_
    refine wc_region ?_
    refine wlm hfr rfl fun a hfr => ?_
    refine wlv hfr (v_add rfl rfl ⟨by omega, by omega⟩) fun a hfr => wla hfr rfl fun a hfr => ?_
    refine wl_nil ?_
    have hq9 : edgL (lbb.take k) (edgL la [0, 100000000]) = edgL (lbb.take (k + 1)) (edgL la [0, 100000000]) := by rw [edg_snoc (by omega), hb12, hb13]
    rw [hq9] at hst
    refine ⟨_, ?_, k + 1, v, rfl, (by omega), hfr.pick [1, 4, 7, 5], hst.select [0] (by decide)⟩
    omega
   refine wc_of_dr (dr_of_wd fun w19 hxz => ?_)
   replace hst := hst.grow hxz
   refine wd_sub (k := 0) 14 [7, 13] hfr ?_
   replace hfr : Fr 52 [(1, _), (4, _), (7, _), (5, _), (30, _), (31, _), (32, _)] [] a := hfr.pick [1, 4, 7, 5, 30, 31, 32]
   refine dr_pl 14 hfr hst <| pl_m rfl <| pl_m rfl <| pl_m rfl <| pl_w (fun hst => (v_indexAddr_sl (i := (k : Int)) (sT := 28) (hst.arg hvb) rfl rfl (Try.runUnderlying28 _) (Try.sizeOf77 _) (by omega) (by rw [List.length_map]; omega)).as (v' := slAddr vb (k * 3)) rfl) <| pl_w (fun hst => v_fieldAddr_sl (k := k * 3) (j := 0) (hst.arg hvb) (i := k) (by rw [List.length_map]; omega) rfl (fun _ _ => by kernel_rfl)) <| pl_w (fun hst => v_fieldAddr_sl (k := k * 3 + 0) (j := 0) (hst.arg hvb) (i := k) (by rw [List.length_map]; omega) rfl (fun _ _ => by kernel_rfl)) <| pl_w (fun hst => v_load_sl1 (u := iv ((lbb.getD k Blo.z).f)) (i := k) (j := 0) (hst.arg hvb) (by rw [List.length_map]; omega) rfl (Try.isAgg3 _) (by rw [el_at Blo.z]; rfl)) ?_
   refine pl_r (fun hst => g_callp Try.call78 rfl (put_yes v (edgL (lbb.take k) (edgL la [0, 100000000])) ((lbb.getD k Blo.z).f) _ (hst.ownAt (i := 0) rfl) (by omega) (by omega) hb12)) <| pl_m rfl <| pl_m rfl <| pl_w (fun hst => (v_indexAddr_sl (i := (k : Int)) (sT := 28) (hst.arg hvb) rfl rfl (Try.runUnderlying28 _) (Try.sizeOf77 _) (by omega) (by rw [List.length_map]; omega)).as (v' := slAddr vb (k * 3)) rfl) <| pl_w (fun hst => v_fieldAddr_sl (k := k * 3) (j := 0) (hst.arg hvb) (i := k) (by rw [List.length_map]; omega) rfl (fun _ _ => by kernel_rfl)) <| pl_w (fun hst => v_fieldAddr_sl (k := k * 3 + 0) (j := 1) (hst.arg hvb) (i := k) (by rw [List.length_map]; omega) rfl (fun _ _ => by kernel_rfl)) <| pl_w (fun hst => v_load_sl1 (u := iv ((lbb.getD k Blo.z).t)) (i := k) (j := 1) (hst.arg hvb) (by rw [List.length_map]; omega) rfl (Try.isAgg3 _) (by rw [el_at Blo.z]; rfl)) ?_
   clear hfr hst
   intro a w20 hfr hst
   replace hfr : Fr 52 [(1, _), (4, _), (7, _), (43, _), (49, _)] [] a := hfr.pick [1, 4, 7, 43, 49]
   refine wl_nil ?_
   refine wd_lin (k := 14) 16 [15] ?_
   refine wl_callm hfr hst Try.call78 rfl (put_no v (edgL (lbb.take k) (edgL la [0, 100000000])) ((lbb.getD k Blo.z).t) _ (hst.ownAt (i := 0) rfl) (by omega) (by omega) hb13) ?_
   clear hfr hst
   intro a w21 x15 hp hfr hst
   revert x15 hp hfr hst; rintro v14 hp hfr hst
   clear hp
   replace hst : St No w0 [own v14 3 1 ((insL (edgL (lbb.take k) (edgL la [0, 100000000])) ((lbb.getD k Blo.z).t)).map fun n => [iv n]), own v 3 1 ((edgL (lbb.take k) (edgL la [0, 100000000])).map fun n => [iv n])] w21 := hst
   refine wla hfr rfl fun a hfr => ?_
   refine wl_nil ?_
   refine wd_end ?_
   refine hK12 _ _ ?_
   refine wc_region ?_
   refine wlm hfr rfl fun a hfr => ?_
   refine wlv hfr (v_add rfl rfl ⟨by omega, by omega⟩) fun a hfr => wla hfr rfl fun a hfr => ?_
   refine wl_nil ?_
   have hq9 : insL (edgL (lbb.take k) (edgL la [0, 100000000])) ((lbb.getD k Blo.z).t) = edgL (lbb.take (k + 1)) (edgL la [0, 100000000]) := by rw [edg_snoc (by omega), hb12]
   rw [hq9] at hst
   refine ⟨_, ?_, k + 1, v14, rfl, (by omega), hfr.pick [1, 4, 7, 5], hst.select [0] (by decide)⟩
   omega
  rcases Decidable.em (insL (insL (edgL (lbb.take k) (edgL la [0, 100000000])) ((lbb.getD k Blo.z).f)) ((lbb.getD k Blo.z).t) = insL (edgL (lbb.take k) (edgL la [0, 100000000])) ((lbb.getD k Blo.z).f)) with hb16 | hb16
  ·refine wc_of_dr (dr_of_wd fun w22 hxz => ?_)
   replace hst := hst.grow hxz
   refine wd_sub (k := 0) 14 [7, 13] hfr ?_
   replace hfr : Fr 52 [(1, _), (4, _), (7, _), (5, _), (30, _), (31, _), (32, _)] [] a := hfr.pick [1, 4, 7, 5, 30, 31, 32]
   refine wc_phases_q [7] (fun i => match i with | 7 => pm (fun v : Value => v) (fun v => [own v 3 1 ((insL (edgL (lbb.take k) (edgL la [0, 100000000])) ((lbb.getD k Blo.z).f)).map fun n => [iv n])]) (fun _ => True) | _ => fun _ _ => False) 14 [[], [], [], [1, 2], [3], [4], [5], [0, 6], [], [], [8, 9], [10], [11], [12]] [v, vb, iv (k : Int), slAddr vb (k * 3), slAddr vb (k * 3 + 0), slAddr vb (k * 3 + 0), iv ((lbb.getD k Blo.z).f), undef, vb, iv (k : Int), slAddr vb (k * 3), slAddr vb (k * 3 + 0), slAddr vb (k * 3 + 1), iv ((lbb.getD k Blo.z).t)] hfr hst ?_ ?_ ?_
   ·intro i hi hiq
    match i, hi, hiq with
    | 0, _, _ =>
     intro w hst
     exact OpV.g (v_move rfl)
    | 1, _, _ =>
     intro w hst
     exact OpV.g (v_move rfl)
    | 2, _, _ =>
     intro w hst
     exact OpV.g (v_move rfl)
    | 3, _, _ =>
     intro w hst
     exact OpV.g ((v_indexAddr_sl (i := (k : Int)) (sT := 28) (hst.arg hvb) rfl rfl (Try.runUnderlying28 _) (Try.sizeOf77 _) (by omega) (by rw [List.length_map]; omega)).as (v' := slAddr vb (k * 3)) rfl)
    | 4, _, _ =>
     intro w hst
     exact OpV.g (v_fieldAddr_sl (k := k * 3) (j := 0) (hst.arg hvb) (i := k) (by rw [List.length_map]; omega) rfl (fun _ _ => by kernel_rfl))
    | 5, _, _ =>
     intro w hst
     exact OpV.g (v_fieldAddr_sl (k := k * 3 + 0) (j := 0) (hst.arg hvb) (i := k) (by rw [List.length_map]; omega) rfl (fun _ _ => by kernel_rfl))
    | 6, _, _ =>
     intro w hst
     exact OpV.g (v_load_sl1 (u := iv ((lbb.getD k Blo.z).f)) (i := k) (j := 0) (hst.arg hvb) (by rw [List.length_map]; omega) rfl (Try.isAgg3 _) (by rw [el_at Blo.z]; rfl))
    | 7, _, h => exact absurd (by simp) h
    | 8, _, _ =>
     intro w hst
     exact OpV.g (v_move rfl)
    | 9, _, _ =>
     intro w hst
     exact OpV.g (v_move rfl)
    | 10, _, _ =>
     intro w hst
     exact OpV.g ((v_indexAddr_sl (i := (k : Int)) (sT := 28) (hst.arg hvb) rfl rfl (Try.runUnderlying28 _) (Try.sizeOf77 _) (by omega) (by rw [List.length_map]; omega)).as (v' := slAddr vb (k * 3)) rfl)
    | 11, _, _ =>
     intro w hst
     exact OpV.g (v_fieldAddr_sl (k := k * 3) (j := 0) (hst.arg hvb) (i := k) (by rw [List.length_map]; omega) rfl (fun _ _ => by kernel_rfl))
    | 12, _, _ =>
     intro w hst
     exact OpV.g (v_fieldAddr_sl (k := k * 3 + 0) (j := 1) (hst.arg hvb) (i := k) (by rw [List.length_map]; omega) rfl (fun _ _ => by kernel_rfl))
    | 13, _, _ =>
     intro w hst
     exact OpV.g (v_load_sl1 (u := iv ((lbb.getD k Blo.z).t)) (i := k) (j := 1) (hst.arg hvb) (by rw [List.length_map]; omega) rfl (Try.isAgg3 _) (by rw [el_at Blo.z]; rfl))
    | i + 14, h, _ => exact absurd h (by omega)
   ·intro i hi
    simp only [List.mem_cons, List.not_mem_nil, or_false] at hi
    subst hi
    ·intro w hst
     exact g_callm Try.call78 rfl (put_no v (edgL (lbb.take k) (edgL la [0, 100000000])) ((lbb.getD k Blo.z).f) _ (hst.ownAt (i := 0) rfl) (by omega) (by omega) hb12)
   clear hfr hst
   rintro v17 _ ⟨_, rfl, -, rfl⟩ a w23 hfr hst
   replace hfr : Fr 52 [(43, _), (49, iv ((lbb.getD k Blo.z).t)), (1, _), (4, _), (7, _)] [] a := hfr.pick [43, 49, 1, 4, 7]
   replace hst : St No w0 [_, _] w23 := hst
   refine wl_nil ?_
   refine wd_lin (k := 14) 16 [15] ?_
   refine wl_callp hfr hst Try.call78 rfl (put_yes v17 (insL (edgL (lbb.take k) (edgL la [0, 100000000])) ((lbb.getD k Blo.z).f)) ((lbb.getD k Blo.z).t) _ (hst.ownAt (i := 0) rfl) (by omega) (by omega) hb16) ?_
   clear hfr hst
   intro a w24 hfr hst
   refine wla hfr rfl fun a hfr => ?_
   refine wl_nil ?_
   refine wd_end ?_
   refine hK12 _ _ ?_
   replace hfr : Fr 52 [(1, _), (4, _), (7, _), (5, _)] [] a := hfr.pick [1, 4, 7, 5]
   refine wc_region ?_
   refine wlm hfr rfl fun a hfr => ?_
   refine wlv hfr (v_add rfl rfl ⟨by omega, by omega⟩) fun a hfr => wla hfr rfl fun a hfr => ?_
   refine wl_nil ?_
   have hq9 : insL (edgL (lbb.take k) (edgL la [0, 100000000])) ((lbb.getD k Blo.z).f) = edgL (lbb.take (k + 1)) (edgL la [0, 100000000]) := by rw [edg_snoc (by omega), hb16]
   rw [hq9] at hst
   refine ⟨_, ?_, k + 1, v17, rfl, (by omega), hfr.pick [1, 4, 7, 5], hst.select [0] (by decide)⟩
   omega
  refine wc_of_dr (dr_of_wd fun w25 hxz => ?_)
  replace hst := hst.grow hxz
  refine wd_sub (k := 0) 14 [7, 13] hfr ?_
  replace hfr : Fr 52 [(1, _), (4, _), (7, _), (5, _), (30, _), (31, _), (32, _)] [] a := hfr.pick [1, 4, 7, 5, 30, 31, 32]
  refine wc_phases_q [7] (fun i => match i with | 7 => pm (fun v : Value => v) (fun v => [own v 3 1 ((insL (edgL (lbb.take k) (edgL la [0, 100000000])) ((lbb.getD k Blo.z).f)).map fun n => [iv n])]) (fun _ => True) | _ => fun _ _ => False) 14 [[], [], [], [1, 2], [3], [4], [5], [0, 6], [], [], [8, 9], [10], [11], [12]] [v, vb, iv (k : Int), slAddr vb (k * 3), slAddr vb (k * 3 + 0), slAddr vb (k * 3 + 0), iv ((lbb.getD k Blo.z).f), undef, vb, iv (k : Int), slAddr vb (k * 3), slAddr vb (k * 3 + 0), slAddr vb (k * 3 + 1), iv ((lbb.getD k Blo.z).t)] hfr hst ?_ ?_ ?_
  ·intro i hi hiq
   match i, hi, hiq with
   | 0, _, _ =>
    intro w hst
    exact OpV.g (v_move rfl)
   | 1, _, _ =>
    intro w hst
    exact OpV.g (v_move rfl)
   | 2, _, _ =>
    intro w hst
    exact OpV.g (v_move rfl)
   | 3, _, _ =>
    intro w hst
    exact OpV.g ((v_indexAddr_sl (i := (k : Int)) (sT := 28) (hst.arg hvb) rfl rfl (Try.runUnderlying28 _) (Try.sizeOf77 _) (by omega) (by rw [List.length_map]; omega)).as (v' := slAddr vb (k * 3)) rfl)
   | 4, _, _ =>
    intro w hst
    exact OpV.g (v_fieldAddr_sl (k := k * 3) (j := 0) (hst.arg hvb) (i := k) (by rw [List.length_map]; omega) rfl (fun _ _ => by kernel_rfl))
   | 5, _, _ =>
    intro w hst
    exact OpV.g (v_fieldAddr_sl (k := k * 3 + 0) (j := 0) (hst.arg hvb) (i := k) (by rw [List.length_map]; omega) rfl (fun _ _ => by kernel_rfl))
   | 6, _, _ =>
    intro w hst
    exact OpV.g (v_load_sl1 (u := iv ((lbb.getD k Blo.z).f)) (i := k) (j := 0) (hst.arg hvb) (by rw [List.length_map]; omega) rfl (Try.isAgg3 _) (by rw [el_at Blo.z]; rfl))
   | 7, _, h => exact absurd (by simp) h
   | 8, _, _ =>
    intro w hst
    exact OpV.g (v_move rfl)
   | 9, _, _ =>
    intro w hst
    exact OpV.g (v_move rfl)
   | 10, _, _ =>
    intro w hst
    exact OpV.g ((v_indexAddr_sl (i := (k : Int)) (sT := 28) (hst.arg hvb) rfl rfl (Try.runUnderlying28 _) (Try.sizeOf77 _) (by omega) (by rw [List.length_map]; omega)).as (v' := slAddr vb (k * 3)) rfl)
   | 11, _, _ =>
    intro w hst
    exact OpV.g (v_fieldAddr_sl (k := k * 3) (j := 0) (hst.arg hvb) (i := k) (by rw [List.length_map]; omega) rfl (fun _ _ => by kernel_rfl))
   | 12, _, _ =>
    intro w hst
    exact OpV.g (v_fieldAddr_sl (k := k * 3 + 0) (j := 1) (hst.arg hvb) (i := k) (by rw [List.length_map]; omega) rfl (fun _ _ => by kernel_rfl))
   | 13, _, _ =>
    intro w hst
    exact OpV.g (v_load_sl1 (u := iv ((lbb.getD k Blo.z).t)) (i := k) (j := 1) (hst.arg hvb) (by rw [List.length_map]; omega) rfl (Try.isAgg3 _) (by rw [el_at Blo.z]; rfl))
   | i + 14, h, _ => exact absurd h (by omega)
  ·intro i hi
   simp only [List.mem_cons, List.not_mem_nil, or_false] at hi
   subst hi
   ·intro w hst
    exact g_callm Try.call78 rfl (put_no v (edgL (lbb.take k) (edgL la [0, 100000000])) ((lbb.getD k Blo.z).f) _ (hst.ownAt (i := 0) rfl) (by omega) (by omega) hb12)
  clear hfr hst
  rintro v18 _ ⟨_, rfl, -, rfl⟩ a w26 hfr hst
  replace hfr : Fr 52 [(43, _), (49, iv ((lbb.getD k Blo.z).t)), (1, _), (4, _), (7, _)] [] a := hfr.pick [43, 49, 1, 4, 7]
  replace hst : St No w0 [_, _] w26 := hst
  refine wl_nil ?_
  refine wd_lin (k := 14) 16 [15] ?_
  refine wl_callm hfr hst Try.call78 rfl (put_no v18 (insL (edgL (lbb.take k) (edgL la [0, 100000000])) ((lbb.getD k Blo.z).f)) ((lbb.getD k Blo.z).t) _ (hst.ownAt (i := 0) rfl) (by omega) (by omega) hb16) ?_
  clear hfr hst
  intro a w27 x20 hp hfr hst
  revert x20 hp hfr hst; rintro v19 hp hfr hst
  clear hp
  replace hst : St No w0 [own v19 3 1 ((insL (insL (edgL (lbb.take k) (edgL la [0, 100000000])) ((lbb.getD k Blo.z).f)) ((lbb.getD k Blo.z).t)).map fun n => [iv n]), own v18 3 1 ((insL (edgL (lbb.take k) (edgL la [0, 100000000])) ((lbb.getD k Blo.z).f)).map fun n => [iv n]), own v 3 1 ((edgL (lbb.take k) (edgL la [0, 100000000])).map fun n => [iv n])] w27 := hst
  refine wla hfr rfl fun a hfr => ?_
  refine wl_nil ?_
  refine wd_end ?_
  refine hK12 _ _ ?_
  replace hfr : Fr 52 [(1, _), (4, _), (7, _), (5, _)] [] a := hfr.pick [1, 4, 7, 5]
  replace hst : St No w0 [_, _] w27 := hst.mask [true, false, true]
  refine wc_region ?_
  refine wlm hfr rfl fun a hfr => ?_
  refine wlv hfr (v_add rfl rfl ⟨by omega, by omega⟩) fun a hfr => wla hfr rfl fun a hfr => ?_
  refine wl_nil ?_
  have hq9 : insL (insL (edgL (lbb.take k) (edgL la [0, 100000000])) ((lbb.getD k Blo.z).f)) ((lbb.getD k Blo.z).t) = edgL (lbb.take (k + 1)) (edgL la [0, 100000000]) := by rw [edg_snoc (by omega)]
  rw [hq9] at hst
  refine ⟨_, ?_, k + 1, v19, rfl, (by omega), hfr.pick [1, 4, 7, 5], hst.select [0] (by decide)⟩
  omega
 refine wc_exit ?_
 refine hK8 _ _ ?_
 refine wc_seq_region fun K13 hK13 => ?_
 refine wlm hfr rfl fun a hfr => wla hfr rfl fun a hfr => ?_
 refine wl_nil (hK13 _ _ ?_)
 replace hfr : Fr 52 [(4, _)] [] a := hfr.pick [4]
 refine wc_ret ?_
 refine fin_ret hfr Try.results66 (resAre_tmp rfl resAre_nil) ?_
 have hkb : k = lbb.length := by omega
 rw [hkb, List.take_length] at hst
 exact ⟨_, rfl, trivial, hst.ext, St.out (E := [own _ 3 1 ((edgesL la lbb).map fun n => [iv n])]) (H := []) (hst.select [0] (by decide))⟩
set_option maxHeartbeats 4000000 in
theorem rcomb_overX (va vb : Value) (la lbb : List Blo) (w0 : World) (hva : SlAt w0 va 3 (la.map Blo.cells)) (hvb : SlAt w0 vb 3 (lbb.map Blo.cells)) (hla : la.length ≤ 40) (hlbb : lbb.length ≤ 40) (hoa : okF 0 (-1) la = true) (hob : okF 0 (-1) lbb = true) (hln : ∀ xs, Pcs la lbb xs 100000000 → mapOk (outP overX xs) = true) :
  Ret Try.prog 44 #[va, vb, iv 0, iv (-1), iv (-1)] w0 (MemR w0 (fun z : Value × List Pce => .tuple #[z.1, iv 0]) (fun z => [own z.1 77 3 ((outP overX z.2).map Blo.cells)]) (fun z => Pcs la lbb z.2 100000000)) := by
 have hel := @edges_len2 la lbb
 refine ret_of Try.func44 rfl Try.ntmps44 (lb rfl) fun a hfr => ?_
 replace hfr : Fr 139 [(0, _), (1, _), (2, _), (3, _), (4, _)] [] a := hfr
 replace hst : St No w0 [] w0 := St.init w0
 refine wc_seq_region fun K1 hK1 => ?_
 refine wla hfr rfl fun a hfr => wla hfr rfl fun a hfr => ?_
 refine wl_nil (hK1 _ _ ?_)
 refine wc_seq_region fun K2 hK2 => ?_
 refine wlm hfr rfl fun a hfr => wlm hfr rfl fun a hfr => ?_
 refine wl_callm hfr hst Try.call66 rfl (edges_ok va vb la lbb _ (hst.arg hva) (hst.arg hvb) hla hlbb) ?_
 clear hfr hst
 intro a w1 x1 hp hfr hst
 revert x1 hp hfr hst; rintro ve hp hfr hst
 clear hp
 replace hst : St No w0 [own ve 3 1 ((edgesL la lbb).map fun n => [iv n])] w1 := hst
 refine wla hfr rfl fun a hfr => ?_
 refine wl_nil (hK2 _ _ ?_)
 refine wc_seq_region fun K3 hK3 => ?_
 refine wla hfr rfl fun a hfr => ?_
 refine wl_nil (hK3 _ _ ?_)
 refine wc_seq_k fun K4 hK4 => ?_
 replace hst : St No w0 (own (.slice none 0 0) 77 3 [] :: [own ve 3 1 ((edgesL la lbb).map fun n => [iv n])]) w1 := hst.nil_own
 refine wc_seq_region fun K5 hK5 => ?_
 refine wla hfr rfl fun a hfr => ?_
 refine wl_nil (hK5 _ _ ?_)
 refine wc_block ?_
 refine wc_loop (fun m a w => ∃ (u : Nat) (v : Value) (o : List Blo) (pre : List Pce), m = (edgesL la lbb).length - u ∧ (u < (edgesL la lbb).length) ∧ (Pcs la lbb pre ((edgesL la lbb).getD u 0)) ∧ (o = outP overX pre) ∧ Fr 139 [(0, va), (1, vb), (2, iv 0), (3, iv (-1)), (4, iv (-1)), (10, .slice none 0 0), (11, iv 0), (12, ve), (14, iv (u : Int)), (13, v)] [] a ∧ St No w0 [own v 77 3 (o.map Blo.cells), own ve 3 1 ((edgesL la lbb).map fun n => [iv n])] w) _ ⟨0, .slice none 0 0, [], [], rfl, (by have := @edges_len2 la lbb; omega), (by rw [edges_first hoa hob]; exact .nil), rfl, hfr.pick [0, 1, 2, 3, 4, 10, 11, 12, 14, 13], hst.select [0, 1] (by decide)⟩ ?_
 rintro _ a w2 ⟨u, v, o, pre, rfl, hi, hpc, ho, hfr, hst⟩
 refine wc_seq_k fun K6 hK6 => ?_
 refine wc_seq_region fun K7 hK7 => ?_
 refine wlm hfr rfl fun a hfr => ?_
 refine wlv hfr (v_add rfl rfl ⟨by omega, by omega⟩) fun a hfr => wlm hfr rfl fun a hfr => ?_
 refine wlv hfr ((v_len_sl (sT := 50) (hst.ownAt (i := 1) rfl) rfl rfl (Try.runUnderlying50 _)).asi (m' := ((edgesL la lbb).length : Int)) (by rw [List.length_map])) fun a hfr => ?_
 refine wlv hfr (v_lt rfl rfl) fun a hfr => ?_
 refine wl_nil (hK7 _ _ ?_)
 refine wc_cond_d hfr rfl (fun hc2 => ?_) (fun hc2 => ?_)
 ·have hnx := edges_next hoa hob (by omega) hpc
  have hx8 : (edgesL la lbb).getD u 0 < (edgesL la lbb).getD (u + 1) 0 := hnx.2.2.1
  have hx7 : (edgesL la lbb).getD (u + 1) 0 ≤ 100000000 := hnx.2.2.2.1
  have hol := (outP_len (h := overX) hpc).1
  rw [← ho] at hol
  have hra := hold_rng ((edgesL la lbb).getD u 0) hoa
  have hrb := hold_rng ((edgesL la lbb).getD u 0) hob
  refine wc_skip ?_
  refine hK6 _ _ ?_
  refine wc_seq_k fun K8 hK8 => ?_
  refine wc_block ?_
  refine wc_seq_region fun K9 hK9 => ?_
  refine wlm hfr rfl fun a hfr => wlm hfr rfl fun a hfr => wlm hfr rfl fun a hfr => ?_
  refine wlv hfr ((v_indexAddr_sl (i := (u : Int)) (sT := 50) (hst.ownAt (i := 1) rfl) rfl rfl (Try.runUnderlying50 _) (Try.sizeOf3 _) (by omega) (by rw [List.length_map]; omega)).as (v' := slAddr ve (u * 1)) rfl) fun a hfr => ?_
  refine wlv hfr (v_load_sl1 (u := iv ((edgesL la lbb).getD u 0)) (i := u) (j := 0) (hst.ownAt (i := 1) rfl) (by rw [List.length_map]; omega) rfl (Try.isAgg3 _) (by rw [el_at (0 : Int)]; rfl)) fun a hfr => ?_
  refine wl_callp hfr hst Try.call67 rfl (holder_ok va la ((edgesL la lbb).getD u 0) _ (hst.arg hva)) ?_
  clear hfr hst
  intro a w3 hfr hst
  refine wla hfr rfl fun a hfr => ?_
  refine wl_nil (hK9 _ _ ?_)
  replace hfr : Fr 139 [(0, _), (1, _), (2, _), (3, _), (4, _), (10, _), (11, _), (12, _), (14, _), (13, _), (15, _)] [] a := hfr.pick [0, 1, 2, 3, 4, 10, 11, 12, 14, 13, 15]
  refine wc_seq_region fun K10 hK10 => ?_
  refine wlm hfr rfl fun a hfr => wlm hfr rfl fun a hfr => wlm hfr rfl fun a hfr => ?_
  refine wlv hfr ((v_indexAddr_sl (i := (u : Int)) (sT := 50) (hst.ownAt (i := 1) rfl) rfl rfl (Try.runUnderlying50 _) (Try.sizeOf3 _) (by omega) (by rw [List.length_map]; omega)).as (v' := slAddr ve (u * 1)) rfl) fun a hfr => ?_
  refine wlv hfr (v_load_sl1 (u := iv ((edgesL la lbb).getD u 0)) (i := u) (j := 0) (hst.ownAt (i := 1) rfl) (by rw [List.length_map]; omega) rfl (Try.isAgg3 _) (by rw [el_at (0 : Int)]; rfl)) fun a hfr => ?_
  refine wl_callp hfr hst Try.call67 rfl (holder_ok vb lbb ((edgesL la lbb).getD u 0) _ (hst.arg hvb)) ?_
  clear hfr hst
  intro a w4 hfr hst
  refine wla hfr rfl fun a hfr => ?_
  refine wl_nil (hK10 _ _ ?_)
  replace hfr : Fr 139 [(0, _), (1, _), (2, _), (3, _), (4, _), (10, _), (11, _), (12, _), (14, _), (13, _), (15, _), (16, _)] [] a := hfr.pick [0, 1, 2, 3, 4, 10, 11, 12, 14, 13, 15, 16]
  refine wc_seq_k fun K11 hK11 => ?_
  refine wc_seq_region fun K12 hK12 => ?_
  refine wlm hfr rfl fun a hfr => ?_
  refine wlv hfr ((v_eq rfl rfl).asb (b' := true) rfl) fun a hfr => wlm hfr rfl fun a hfr => wly hfr (v_move rfl) fun a hfr => wly hfr (v_ge rfl rfl) fun a hfr => ?_
  refine wlv hfr (v_pick_t rfl rfl) fun a hfr => wlm hfr rfl fun a hfr => ?_
  rcases Decidable.em (0 ≤ hold lbb ((edgesL la lbb).getD u 0)) with hb3 | hb3
  ·rw [decide_eq_true hb3] at hfr
   have hk9 : overX (hold la ((edgesL la lbb).getD u 0)) (hold lbb ((edgesL la lbb).getD u 0)) = hold lbb ((edgesL la lbb).getD u 0) := if_neg (by omega)
   refine wln hfr fun a hfr => ?_
   refine wln hfr fun a hfr => ?_
   refine wln hfr fun a hfr => ?_
   refine wl_vu hfr fun a hfr => ?_
   refine wl_vu hfr fun a hfr => ?_
   refine wln hfr fun a hfr => ?_
   refine wlv hfr (v_pick_t rfl rfl) fun a hfr => wlm hfr rfl fun a hfr => ?_
   refine wln hfr fun a hfr => ?_
   refine wln hfr fun a hfr => ?_
   refine wln hfr fun a hfr => ?_
   refine wl_vu hfr fun a hfr => ?_
   refine wl_vu hfr fun a hfr => ?_
   refine wln hfr fun a hfr => ?_
   refine wlv hfr (v_pick_t rfl rfl) fun a hfr => ?_
   refine wl_nil (hK12 _ _ ?_)
   replace hfr : Fr 139 [(0, _), (1, _), (2, _), (3, _), (4, _), (10, _), (11, _), (12, _), (14, _), (13, _), (15, _), (16, _), (61, _)] [] a := hfr.pick [0, 1, 2, 3, 4, 10, 11, 12, 14, 13, 15, 16, 61]
   refine wc_cond_t hfr rfl ?_
   refine wc_region ?_
   refine wlm hfr rfl fun a hfr => wla hfr rfl fun a hfr => ?_
   refine wl_nil ?_
   refine hK11 _ _ ?_
   refine wc_seq_k fun K13 hK13 => ?_
   refine wc_seq_region fun K14 hK14 => ?_
   refine wlm hfr rfl fun a hfr => ?_
   refine wlv hfr ((v_eq rfl rfl).asb (b' := false) rfl) fun a hfr => wlm hfr rfl fun a hfr => ?_
   refine wln hfr fun a hfr => ?_
   refine wln hfr fun a hfr => ?_
   refine wlv hfr (v_pick_f rfl rfl) fun a hfr => ?_
   refine wl_nil (hK14 _ _ ?_)
   replace hfr : Fr 139 [(0, _), (1, _), (2, _), (3, _), (4, _), (10, _), (11, _), (12, _), (14, _), (13, _), (15, _), (68, _)] [] a := hfr.pick [0, 1, 2, 3, 4, 10, 11, 12, 14, 13, 15, 68]
   refine wc_cond_f hfr rfl ?_
   refine wc_skip ?_
   refine hK13 _ _ ?_
   refine wc_seq_k fun K15 hK15 => ?_
   refine wc_seq_region fun K16 hK16 => ?_
   refine wlm hfr rfl fun a hfr => ?_
   refine wlv hfr (v_ge rfl rfl) fun a hfr => wlm hfr rfl fun a hfr => ?_
   rcases Decidable.em (0 ≤ hold lbb ((edgesL la lbb).getD u 0)) with hb4 | hb4
   ·rw [decide_eq_true hb4] at hfr
    refine wly hfr (v_move rfl) fun a hfr => wly hfr (v_move rfl) fun a hfr => wly hfr (v_eq rfl rfl) fun a hfr => ?_
    refine wlv hfr (v_pick_t rfl rfl) fun a hfr => ?_
    refine wl_nil (hK16 _ _ ?_)
    replace hfr : Fr 139 [(0, _), (1, _), (2, _), (3, _), (4, _), (10, _), (11, _), (12, _), (14, _), (13, _), (15, _), (75, _)] [] a := hfr.pick [0, 1, 2, 3, 4, 10, 11, 12, 14, 13, 15, 75]
    refine wc_cond_d hfr rfl (fun hc5 => ?_) (fun hc5 => ?_)
    ·omega
    refine wc_skip ?_
    refine hK15 _ _ ?_
    refine wc_seq_k fun K17 hK17 => ?_
    refine wc_seq_region fun K18 hK18 => ?_
    refine wlm hfr rfl fun a hfr => ?_
    refine wlv hfr (v_lt rfl rfl) fun a hfr => ?_
    refine wl_nil (hK18 _ _ ?_)
    refine wc_cond_d hfr rfl (fun hc6 => ?_) (fun hc6 => ?_)
    ·omega
    refine wc_skip ?_
    refine hK17 _ _ ?_
    refine wc_seq_region fun K19 hK19 => ?_
    refine wlm hfr rfl fun a hfr => ?_
    refine wlv hfr ((v_len_sl (sT := 28) (hst.ownAt (i := 0) rfl) rfl rfl (Try.runUnderlying28 _)).asi (m' := (o.length : Int)) (by rw [List.length_map])) fun a hfr => wla hfr rfl fun a hfr => ?_
    refine wl_nil (hK19 _ _ ?_)
    refine wc_seq_k fun K20 hK20 => ?_
    refine wc_of_dr (dr_of_wd fun w5 hxz => ?_)
    replace hst := hst.grow hxz
    refine wd_lin (k := 0) 3 [2] ?_
    refine wlm hfr rfl fun a hfr => ?_
    refine wlv hfr (v_gt rfl rfl) fun a hfr => wlm hfr rfl fun a hfr => ?_
    refine wl_nil ?_
    rcases Decidable.em (0 < (o.length : Int)) with hb7 | hb7
    ·rw [decide_eq_true hb7] at hfr
     refine wd_sub (k := 3) 15 [10, 14] hfr ?_
     replace hfr : Fr 139 [(0, _), (1, _), (2, _), (3, _), (4, _), (10, _), (11, _), (12, _), (14, _), (13, _), (15, _), (77, _), (79, _), (80, _), (17, _), (81, _), (82, _), (83, _)] [] a := hfr.pick [0, 1, 2, 3, 4, 10, 11, 12, 14, 13, 15, 77, 79, 80, 17, 81, 82, 83]
     refine dr_pl 12 hfr hst <| pl_m rfl <| pl_m rfl <| pl_v (v_sub rfl rfl ⟨by omega, by omega⟩) <| pl_v (v_max2 rfl rfl) <| pl_w (fun hst => (v_indexAddr_sl (i := max ((o.length : Int) - 1) 0) (sT := 28) (hst.ownAt (i := 0) rfl) rfl rfl (Try.runUnderlying28 _) (Try.sizeOf77 _) (by omega) (by rw [List.length_map]; omega)).as (v' := slAddr v ((o.length - 1) * 3)) (by rw [show (max ((o.length : Int) - 1) 0).toNat = (o.length - 1) from by omega])) <| pl_w (fun hst => v_fieldAddr_sl (k := (o.length - 1) * 3) (j := 0) (hst.ownAt (i := 0) rfl) (i := (o.length - 1)) (by rw [List.length_map]; omega) rfl (fun _ _ => by kernel_rfl)) <| pl_w (fun hst => v_fieldAddr_sl (k := (o.length - 1) * 3 + 0) (j := 1) (hst.ownAt (i := 0) rfl) (i := (o.length - 1)) (by rw [List.length_map]; omega) rfl (fun _ _ => by kernel_rfl)) ?_
     refine pl_w (fun hst => v_load_sl1 (u := iv ((o.getD (o.length - 1) Blo.z).t)) (i := (o.length - 1)) (j := 1) (hst.ownAt (i := 0) rfl) (by rw [List.length_map]; omega) rfl (Try.isAgg3 _) (by rw [el_at Blo.z]; rfl)) <| pl_m rfl <| pl_m rfl <| pl_w (fun hst => (v_indexAddr_sl (i := (u : Int)) (sT := 50) (hst.ownAt (i := 1) rfl) rfl rfl (Try.runUnderlying50 _) (Try.sizeOf3 _) (by omega) (by rw [List.length_map]; omega)).as (v' := slAddr ve (u * 1)) rfl) <| pl_w (fun hst => v_load_sl1 (u := iv ((edgesL la lbb).getD u 0)) (i := u) (j := 0) (hst.ownAt (i := 1) rfl) (by rw [List.length_map]; omega) rfl (Try.isAgg3 _) (by rw [el_at (0 : Int)]; rfl)) ?_
     clear hfr hst
     intro a w6 hfr hst
     replace hfr : Fr 139 [(0, _), (1, _), (2, _), (3, _), (4, _), (10, _), (11, _), (12, _), (14, _), (13, _), (15, _), (17, _), (83, _), (91, _), (95, _)] [] a := hfr.pick [0, 1, 2, 3, 4, 10, 11, 12, 14, 13, 15, 17, 83, 91, 95]
     refine wl_nil ?_
     refine wd_lin (k := 15) 18 [17] ?_
     refine wly hfr (v_eq rfl rfl) fun a hfr => ?_
     refine wlv hfr (v_pick_t rfl rfl) fun a hfr => wlm hfr rfl fun a hfr => ?_
     refine wl_nil ?_
     rcases Decidable.em ((o.getD (o.length - 1) Blo.z).t = (edgesL la lbb).getD u 0) with hb8 | hb8
     ·rw [decide_eq_true hb8] at hfr
      refine wd_sub (k := 18) 26 [24, 25] hfr ?_
      replace hfr : Fr 139 [(0, _), (1, _), (2, _), (3, _), (4, _), (10, _), (11, _), (12, _), (14, _), (13, _), (15, _), (17, _), (83, _), (91, _), (95, _), (96, _), (97, _), (98, _)] [] a := hfr.pick [0, 1, 2, 3, 4, 10, 11, 12, 14, 13, 15, 17, 83, 91, 95, 96, 97, 98]
      refine dr_pl 8 hfr hst <| pl_m rfl <| pl_m rfl <| pl_v (v_sub rfl rfl ⟨by omega, by omega⟩) <| pl_v (v_max2 rfl rfl) <| pl_w (fun hst => (v_indexAddr_sl (i := max ((o.length : Int) - 1) 0) (sT := 28) (hst.ownAt (i := 0) rfl) rfl rfl (Try.runUnderlying28 _) (Try.sizeOf77 _) (by omega) (by rw [List.length_map]; omega)).as (v' := slAddr v ((o.length - 1) * 3)) (by rw [show (max ((o.length : Int) - 1) 0).toNat = (o.length - 1) from by omega])) <| pl_w (fun hst => v_fieldAddr_sl (k := (o.length - 1) * 3) (j := 2) (hst.ownAt (i := 0) rfl) (i := (o.length - 1)) (by rw [List.length_map]; omega) rfl (fun _ _ => by kernel_rfl)) <| pl_w (fun hst => v_load_sl1 (u := iv ((o.getD (o.length - 1) Blo.z).c)) (i := (o.length - 1)) (j := 2) (hst.ownAt (i := 0) rfl) (by rw [List.length_map]; omega) rfl (Try.isAgg3 _) (by rw [el_at Blo.z]; rfl)) <| pl_m rfl ?_
      clear hfr hst
      intro a w7 hfr hst
      replace hfr : Fr 139 [(0, _), (1, _), (2, _), (3, _), (4, _), (10, _), (11, _), (12, _), (14, _), (13, _), (15, _), (17, _), (98, _), (105, _), (106, _)] [] a := hfr.pick [0, 1, 2, 3, 4, 10, 11, 12, 14, 13, 15, 17, 98, 105, 106]
      refine wl_nil ?_
      refine wd_lin (k := 26) 28 [27] ?_
      refine wly hfr (v_eq rfl rfl) fun a hfr => ?_
      refine wlv hfr (v_pick_t rfl rfl) fun a hfr => ?_
      refine wl_nil ?_
      refine wd_end ?_
      refine hK20 _ _ ?_
      refine wc_cond_d hfr rfl (fun hc9 => ?_) (fun hc9 => ?_)
      ·refine wc_region ?_
       refine wlm hfr rfl fun a hfr => wlm hfr rfl fun a hfr => ?_
       refine wlv hfr (v_sub rfl rfl ⟨by omega, by omega⟩) fun a hfr => wlm hfr rfl fun a hfr => wlm hfr rfl fun a hfr => ?_
       refine wlv hfr (v_add rfl rfl ⟨by omega, by omega⟩) fun a hfr => ?_
       refine wlv hfr ((v_indexAddr_sl (i := (u : Int) + 1) (sT := 50) (hst.ownAt (i := 1) rfl) rfl rfl (Try.runUnderlying50 _) (Try.sizeOf3 _) (by omega) (by rw [List.length_map]; omega)).as (v' := slAddr ve ((u + 1) * 1)) (by rw [show ((u : Int) + 1).toNat = (u + 1) from by omega])) fun a hfr => ?_
       refine wlv hfr (v_load_sl1 (u := iv ((edgesL la lbb).getD (u + 1) 0)) (i := (u + 1)) (j := 0) (hst.ownAt (i := 1) rfl) (by rw [List.length_map]; omega) rfl (Try.isAgg3 _) (by rw [el_at (0 : Int)]; rfl)) fun a hfr => ?_
       refine wlv hfr ((v_indexAddr_sl (i := (o.length : Int) - 1) (sT := 28) (hst.ownAt (i := 0) rfl) rfl rfl (Try.runUnderlying28 _) (Try.sizeOf77 _) (by omega) (by rw [List.length_map]; omega)).as (v' := slAddr v ((o.length - 1) * 3)) (by rw [show ((o.length : Int) - 1).toNat = (o.length - 1) from by omega])) fun a hfr => ?_
       refine wlv hfr (v_fieldAddr_sl (k := (o.length - 1) * 3) (j := 0) (hst.ownAt (i := 0) rfl) (i := (o.length - 1)) (by rw [List.length_map]; omega) rfl (fun _ _ => by kernel_rfl)) fun a hfr => ?_
       refine wlv hfr (v_fieldAddr_sl (k := (o.length - 1) * 3 + 0) (j := 1) (hst.ownAt (i := 0) rfl) (i := (o.length - 1)) (by rw [List.length_map]; omega) rfl (fun _ _ => by kernel_rfl)) fun a hfr => ?_
       refine wl_store_own (k := o.length - 1) (j := 1) 0 hfr hst rfl rfl rfl (by rw [List.length_map]; omega) (by omega) (Try.sizeOf3 _) (by simp [Value.oneCell', Value.cells]) (lb rfl) (els' := ((o.dropLast ++ [(⟨(o.getD (o.length - 1) Blo.z).f, (edgesL la lbb).getD (u + 1) 0, (o.getD (o.length - 1) Blo.z).c⟩ : Blo)]).map Blo.cells)) (blo_join (by omega) _) rfl ?_
       clear hfr hst
       intro a w8 hfr hst
       refine wl_nil ?_
       refine hK8 _ _ ?_
       replace hfr : Fr 139 [(0, _), (1, _), (2, _), (3, _), (4, _), (10, _), (11, _), (12, _), (14, _), (13, _)] [] a := hfr.pick [0, 1, 2, 3, 4, 10, 11, 12, 14, 13]
       refine wc_region ?_
       refine wlm hfr rfl fun a hfr => ?_
       refine wlv hfr (v_add rfl rfl ⟨by omega, by omega⟩) fun a hfr => wla hfr rfl fun a hfr => ?_
       refine wl_nil ?_
       refine ⟨_, ?_, u + 1, v, (o.dropLast ++ [(⟨(o.getD (o.length - 1) Blo.z).f, (edgesL la lbb).getD (u + 1) 0, (o.getD (o.length - 1) Blo.z).c⟩ : Blo)]), pre ++ [⟨(edgesL la lbb).getD u 0, (edgesL la lbb).getD (u + 1) 0, hold la ((edgesL la lbb).getD u 0), hold lbb ((edgesL la lbb).getD u 0)⟩], rfl, (by omega), (NxP.snoc hnx), (by rw [outP_next ho hk9, stepB_join (by omega) (by omega) (by omega) (by omega)]), hfr.pick [0, 1, 2, 3, 4, 10, 11, 12, 14, 13], hst.select [0, 1] (by decide)⟩
       omega
      refine wc_of_dr (dr_of_wd fun w9 hxz => ?_)
      replace hst := hst.grow hxz
      refine wd_sub (k := 0) 14 [0, 13] hfr ?_
      replace hfr : Fr 139 [(0, _), (1, _), (2, _), (3, _), (4, _), (10, _), (11, _), (12, _), (14, _), (13, _), (15, _), (17, _), (98, _), (105, _), (106, _)] [] a := hfr.pick [0, 1, 2, 3, 4, 10, 11, 12, 14, 13, 15, 17, 98, 105, 106]
      refine wc_phases_q [13] (fun i => match i with | 13 => pm (fun b : Nat => .slice (some ⟨b, 0, none⟩) 1 1) (fun b => [own (.slice (some ⟨b, 0, none⟩) 1 1) 77 3 [[iv ((edgesL la lbb).getD u 0), iv ((edgesL la lbb).getD (u + 1) 0), iv (hold lbb ((edgesL la lbb).getD u 0))]]]) (fun _ => True) | _ => fun _ _ => False) 14 [[], [], [], [1, 2], [3], [], [], [6], [5, 7], [8], [4, 9], [], [10, 11], [12]] [v, ve, iv (u : Int), slAddr ve (u * 1), iv ((edgesL la lbb).getD u 0), ve, iv (u : Int), iv ((u : Int) + 1), slAddr ve ((u + 1) * 1), iv ((edgesL la lbb).getD (u + 1) 0), .agg #[iv ((edgesL la lbb).getD u 0), iv ((edgesL la lbb).getD (u + 1) 0)], iv (hold lbb ((edgesL la lbb).getD u 0)), .agg #[iv ((edgesL la lbb).getD u 0), iv ((edgesL la lbb).getD (u + 1) 0), iv (hold lbb ((edgesL la lbb).getD u 0))], undef] hfr hst ?_ ?_ ?_
      ·intro i hi hiq
       match i, hi, hiq with
       | 0, _, _ =>
        intro w hst
        exact OpV.g (v_move rfl)
       | 1, _, _ =>
        intro w hst
        exact OpV.g (v_move rfl)
       | 2, _, _ =>
        intro w hst
        exact OpV.g (v_move rfl)
       | 3, _, _ =>
        intro w hst
        exact OpV.g ((v_indexAddr_sl (i := (u : Int)) (sT := 50) (hst.ownAt (i := 1) rfl) rfl rfl (Try.runUnderlying50 _) (Try.sizeOf3 _) (by omega) (by rw [List.length_map]; omega)).as (v' := slAddr ve (u * 1)) rfl)
       | 4, _, _ =>
        intro w hst
        exact OpV.g (v_load_sl1 (u := iv ((edgesL la lbb).getD u 0)) (i := u) (j := 0) (hst.ownAt (i := 1) rfl) (by rw [List.length_map]; omega) rfl (Try.isAgg3 _) (by rw [el_at (0 : Int)]; rfl))
       | 5, _, _ =>
        intro w hst
        exact OpV.g (v_move rfl)
       | 6, _, _ =>
        intro w hst
        exact OpV.g (v_move rfl)
       | 7, _, _ =>
        intro w hst
        exact OpV.g (v_add rfl rfl ⟨by omega, by omega⟩)
       | 8, _, _ =>
        intro w hst
        exact OpV.g ((v_indexAddr_sl (i := (u : Int) + 1) (sT := 50) (hst.ownAt (i := 1) rfl) rfl rfl (Try.runUnderlying50 _) (Try.sizeOf3 _) (by omega) (by rw [List.length_map]; omega)).as (v' := slAddr ve ((u + 1) * 1)) (by rw [show ((u : Int) + 1).toNat = (u + 1) from by omega]))
       | 9, _, _ =>
        intro w hst
        exact OpV.g (v_load_sl1 (u := iv ((edgesL la lbb).getD (u + 1) 0)) (i := (u + 1)) (j := 0) (hst.ownAt (i := 1) rfl) (by rw [List.length_map]; omega) rfl (Try.isAgg3 _) (by rw [el_at (0 : Int)]; rfl))
       | 10, _, _ =>
        intro w hst
        exact OpV.g (v_build (v := .agg #[iv ((edgesL la lbb).getD u 0), iv ((edgesL la lbb).getD (u + 1) 0)]) rfl (by kernel_rfl))
       | 11, _, _ =>
        intro w hst
        exact OpV.g (v_move rfl)
       | 12, _, _ =>
        intro w hst
        exact OpV.g (v_build (v := .agg #[iv ((edgesL la lbb).getD u 0), iv ((edgesL la lbb).getD (u + 1) 0), iv (hold lbb ((edgesL la lbb).getD u 0))]) rfl (by kernel_rfl))
       | 13, _, h => exact absurd (by simp) h
       | i + 14, h, _ => exact absurd h (by omega)
      ·intro i hi
       simp only [List.mem_cons, List.not_mem_nil, or_false] at hi
       subst hi
       ·intro w hst
        exact g_buildSlice (E := 77) (sz := 3) rfl [[iv ((edgesL la lbb).getD u 0), iv ((edgesL la lbb).getD (u + 1) 0), iv (hold lbb ((edgesL la lbb).getD u 0))]] (fun _ => by kernel_rfl) (by simp) rfl (by decide)
      clear hfr hst
      rintro _ _ ⟨b10, rfl, -, rfl⟩ a w10 hfr hst
      replace hfr : Fr 139 [(120, v), (133, _), (0, _), (1, _), (2, _), (3, _), (4, _), (10, _), (11, _), (12, _), (14, _)] [] a := hfr.pick [120, 133, 0, 1, 2, 3, 4, 10, 11, 12, 14]
      replace hst : St No w0 [_, _, _] w10 := hst
      refine wl_nil ?_
      refine wd_lin (k := 14) 16 [15] ?_
      refine wl_append (i := 1) (sT := 28) (inf := Try.t77) (z := .agg #[iv 0, iv 0, iv 0]) (b := 0) (off := 0) (m := 0) (c := 0) rfl rfl rfl (hst.ownAt (i := 0) rfl) (by simp) Try.underlying28 rfl rfl rfl rfl (by decide) (by simp [Value.oneCell', yv, wv, sv]) (by have hby : Try.t77.bytes = 24 := rfl; simp [big, hby]; omega) (by have hby : Try.t77.bytes = 24 := rfl; simp [big, hby]; omega) (by decide) hfr hst fun a w11 s11 hfr hst _ => ?_
      refine wla hfr rfl fun a hfr => ?_
      refine wl_nil ?_
      refine wd_end ?_
      refine hK8 _ _ ?_
      replace hfr : Fr 139 [(0, _), (1, _), (2, _), (3, _), (4, _), (10, _), (11, _), (12, _), (14, _), (13, _)] [] a := hfr.pick [0, 1, 2, 3, 4, 10, 11, 12, 14, 13]
      replace hst : St No w0 [_, _] w11 := hst.mask [false, true, true]
      refine wc_region ?_
      refine wlm hfr rfl fun a hfr => ?_
      refine wlv hfr (v_add rfl rfl ⟨by omega, by omega⟩) fun a hfr => wla hfr rfl fun a hfr => ?_
      refine wl_nil ?_
      rw [show (o.map Blo.cells) ++ ([[iv ((edgesL la lbb).getD u 0), iv ((edgesL la lbb).getD (u + 1) 0), iv (hold lbb ((edgesL la lbb).getD u 0))]]) = ((o ++ [(⟨(edgesL la lbb).getD u 0, (edgesL la lbb).getD (u + 1) 0, hold lbb ((edgesL la lbb).getD u 0)⟩ : Blo)]).map Blo.cells) from by rw [List.map_append]; rfl] at hst
      refine ⟨_, ?_, u + 1, s11, (o ++ [(⟨(edgesL la lbb).getD u 0, (edgesL la lbb).getD (u + 1) 0, hold lbb ((edgesL la lbb).getD u 0)⟩ : Blo)]), pre ++ [⟨(edgesL la lbb).getD u 0, (edgesL la lbb).getD (u + 1) 0, hold la ((edgesL la lbb).getD u 0), hold lbb ((edgesL la lbb).getD u 0)⟩], rfl, (by omega), (NxP.snoc hnx), (by rw [outP_next ho hk9, stepB_new (by omega) (by omega)]), hfr.pick [0, 1, 2, 3, 4, 10, 11, 12, 14, 13], hst.select [0, 1] (by decide)⟩
      omega
     rw [decide_eq_false hb8] at hfr
     replace hfr : Fr 139 [(0, va), (1, vb), (2, iv 0), (3, iv (-1)), (4, iv (-1)), (10, .slice none 0 0), (11, iv 0), (12, ve), (14, iv (u : Int)), (13, v), (15, iv (hold lbb ((edgesL la lbb).getD u 0))), (17, iv (o.length : Int)), (83, .bool true), (91, iv ((o.getD (o.length - 1) Blo.z).t)), (95, iv ((edgesL la lbb).getD u 0)), (96, .bool false), (97, .bool false), (98, .bool false)] [] a := hfr.pick [0, 1, 2, 3, 4, 10, 11, 12, 14, 13, 15, 17, 83, 91, 95, 96, 97, 98]
     refine wd_skip (k := 18) 26 [24, 25] hfr fun a hfr => ?_
     replace hfr : Fr 139 [(99, undef), (100, undef), (101, undef), (102, undef), (103, undef), (104, undef), (105, undef), (106, undef), (0, va), (1, vb), (2, iv 0), (3, iv (-1)), (4, iv (-1)), (10, .slice none 0 0), (11, iv 0), (12, ve), (14, iv (u : Int)), (13, v), (15, iv (hold lbb ((edgesL la lbb).getD u 0))), (17, iv (o.length : Int)), (83, .bool true), (91, iv ((o.getD (o.length - 1) Blo.z).t)), (95, iv ((edgesL la lbb).getD u 0)), (96, .bool false), (97, .bool false), (98, .bool false)] [] a := hfr
     refine wd_lin (k := 26) 28 [27] ?_
     refine wln hfr fun a hfr => ?_
     refine wlv hfr (v_pick_f rfl rfl) fun a hfr => ?_
     refine wl_nil ?_
     refine wd_end ?_
     refine hK20 _ _ ?_
     replace hfr : Fr 139 [(0, _), (1, _), (2, _), (3, _), (4, _), (10, _), (11, _), (12, _), (14, _), (13, _), (15, _), (17, _), (108, _)] [] a := hfr.pick [0, 1, 2, 3, 4, 10, 11, 12, 14, 13, 15, 17, 108]
     refine wc_cond_f hfr rfl ?_
     refine wc_of_dr (dr_of_wd fun w12 hxz => ?_)
     replace hst := hst.grow hxz
     refine wd_sub (k := 0) 14 [0, 13] hfr ?_
     replace hfr : Fr 139 [(0, _), (1, _), (2, _), (3, _), (4, _), (10, _), (11, _), (12, _), (14, _), (13, _), (15, _), (17, _), (108, _)] [] a := hfr.pick [0, 1, 2, 3, 4, 10, 11, 12, 14, 13, 15, 17, 108]
     refine wc_phases_q [13] (fun i => match i with | 13 => pm (fun b : Nat => .slice (some ⟨b, 0, none⟩) 1 1) (fun b => [own (.slice (some ⟨b, 0, none⟩) 1 1) 77 3 [[iv ((edgesL la lbb).getD u 0), iv ((edgesL la lbb).getD (u + 1) 0), iv (hold lbb ((edgesL la lbb).getD u 0))]]]) (fun _ => True) | _ => fun _ _ => False) 14 [[], [], [], [1, 2], [3], [], [], [6], [5, 7], [8], [4, 9], [], [10, 11], [12]] [v, ve, iv (u : Int), slAddr ve (u * 1), iv ((edgesL la lbb).getD u 0), ve, iv (u : Int), iv ((u : Int) + 1), slAddr ve ((u + 1) * 1), iv ((edgesL la lbb).getD (u + 1) 0), .agg #[iv ((edgesL la lbb).getD u 0), iv ((edgesL la lbb).getD (u + 1) 0)], iv (hold lbb ((edgesL la lbb).getD u 0)), .agg #[iv ((edgesL la lbb).getD u 0), iv ((edgesL la lbb).getD (u + 1) 0), iv (hold lbb ((edgesL la lbb).getD u 0))], undef] hfr hst ?_ ?_ ?_
     ·intro i hi hiq
      match i, hi, hiq with
      | 0, _, _ =>
       intro w hst
       exact OpV.g (v_move rfl)
      | 1, _, _ =>
       intro w hst
       exact OpV.g (v_move rfl)
      | 2, _, _ =>
       intro w hst
       exact OpV.g (v_move rfl)
      | 3, _, _ =>
       intro w hst
       exact OpV.g ((v_indexAddr_sl (i := (u : Int)) (sT := 50) (hst.ownAt (i := 1) rfl) rfl rfl (Try.runUnderlying50 _) (Try.sizeOf3 _) (by omega) (by rw [List.length_map]; omega)).as (v' := slAddr ve (u * 1)) rfl)
      | 4, _, _ =>
       intro w hst
       exact OpV.g (v_load_sl1 (u := iv ((edgesL la lbb).getD u 0)) (i := u) (j := 0) (hst.ownAt (i := 1) rfl) (by rw [List.length_map]; omega) rfl (Try.isAgg3 _) (by rw [el_at (0 : Int)]; rfl))
      | 5, _, _ =>
       intro w hst
       exact OpV.g (v_move rfl)
      | 6, _, _ =>
       intro w hst
       exact OpV.g (v_move rfl)
      | 7, _, _ =>
       intro w hst
       exact OpV.g (v_add rfl rfl ⟨by omega, by omega⟩)
      | 8, _, _ =>
       intro w hst
       exact OpV.g ((v_indexAddr_sl (i := (u : Int) + 1) (sT := 50) (hst.ownAt (i := 1) rfl) rfl rfl (Try.runUnderlying50 _) (Try.sizeOf3 _) (by omega) (by rw [List.length_map]; omega)).as (v' := slAddr ve ((u + 1) * 1)) (by rw [show ((u : Int) + 1).toNat = (u + 1) from by omega]))
      | 9, _, _ =>
       intro w hst
       exact OpV.g (v_load_sl1 (u := iv ((edgesL la lbb).getD (u + 1) 0)) (i := (u + 1)) (j := 0) (hst.ownAt (i := 1) rfl) (by rw [List.length_map]; omega) rfl (Try.isAgg3 _) (by rw [el_at (0 : Int)]; rfl))
      | 10, _, _ =>
       intro w hst
       exact OpV.g (v_build (v := .agg #[iv ((edgesL la lbb).getD u 0), iv ((edgesL la lbb).getD (u + 1) 0)]) rfl (by kernel_rfl))
      | 11, _, _ =>
       intro w hst
       exact OpV.g (v_move rfl)
      | 12, _, _ =>
       intro w hst
       exact OpV.g (v_build (v := .agg #[iv ((edgesL la lbb).getD u 0), iv ((edgesL la lbb).getD (u + 1) 0), iv (hold lbb ((edgesL la lbb).getD u 0))]) rfl (by kernel_rfl))
      | 13, _, h => exact absurd (by simp) h
      | i + 14, h, _ => exact absurd h (by omega)
     ·intro i hi
      simp only [List.mem_cons, List.not_mem_nil, or_false] at hi
      subst hi
      ·intro w hst
       exact g_buildSlice (E := 77) (sz := 3) rfl [[iv ((edgesL la lbb).getD u 0), iv ((edgesL la lbb).getD (u + 1) 0), iv (hold lbb ((edgesL la lbb).getD u 0))]] (fun _ => by kernel_rfl) (by simp) rfl (by decide)
     clear hfr hst
     rintro _ _ ⟨b12, rfl, -, rfl⟩ a w13 hfr hst
     replace hfr : Fr 139 [(120, v), (133, _), (0, _), (1, _), (2, _), (3, _), (4, _), (10, _), (11, _), (12, _), (14, _)] [] a := hfr.pick [120, 133, 0, 1, 2, 3, 4, 10, 11, 12, 14]
     replace hst : St No w0 [_, _, _] w13 := hst
     refine wl_nil ?_
     refine wd_lin (k := 14) 16 [15] ?_
     refine wl_append (i := 1) (sT := 28) (inf := Try.t77) (z := .agg #[iv 0, iv 0, iv 0]) (b := 0) (off := 0) (m := 0) (c := 0) rfl rfl rfl (hst.ownAt (i := 0) rfl) (by simp) Try.underlying28 rfl rfl rfl rfl (by decide) (by simp [Value.oneCell', yv, wv, sv]) (by have hby : Try.t77.bytes = 24 := rfl; simp [big, hby]; omega) (by have hby : Try.t77.bytes = 24 := rfl; simp [big, hby]; omega) (by decide) hfr hst fun a w14 s13 hfr hst _ => ?_
     refine wla hfr rfl fun a hfr => ?_
     refine wl_nil ?_
     refine wd_end ?_
     refine hK8 _ _ ?_
     replace hfr : Fr 139 [(0, _), (1, _), (2, _), (3, _), (4, _), (10, _), (11, _), (12, _), (14, _), (13, _)] [] a := hfr.pick [0, 1, 2, 3, 4, 10, 11, 12, 14, 13]
     replace hst : St No w0 [_, _] w14 := hst.mask [false, true, true]
     refine wc_region ?_
     refine wlm hfr rfl fun a hfr => ?_
     refine wlv hfr (v_add rfl rfl ⟨by omega, by omega⟩) fun a hfr => wla hfr rfl fun a hfr => ?_
     refine wl_nil ?_
     rw [show (o.map Blo.cells) ++ ([[iv ((edgesL la lbb).getD u 0), iv ((edgesL la lbb).getD (u + 1) 0), iv (hold lbb ((edgesL la lbb).getD u 0))]]) = ((o ++ [(⟨(edgesL la lbb).getD u 0, (edgesL la lbb).getD (u + 1) 0, hold lbb ((edgesL la lbb).getD u 0)⟩ : Blo)]).map Blo.cells) from by rw [List.map_append]; rfl] at hst
     refine ⟨_, ?_, u + 1, s13, (o ++ [(⟨(edgesL la lbb).getD u 0, (edgesL la lbb).getD (u + 1) 0, hold lbb ((edgesL la lbb).getD u 0)⟩ : Blo)]), pre ++ [⟨(edgesL la lbb).getD u 0, (edgesL la lbb).getD (u + 1) 0, hold la ((edgesL la lbb).getD u 0), hold lbb ((edgesL la lbb).getD u 0)⟩], rfl, (by omega), (NxP.snoc hnx), (by rw [outP_next ho hk9, stepB_new (by omega) (by omega)]), hfr.pick [0, 1, 2, 3, 4, 10, 11, 12, 14, 13], hst.select [0, 1] (by decide)⟩
     omega
    rw [decide_eq_false hb7] at hfr
    replace hfr : Fr 139 [(0, va), (1, vb), (2, iv 0), (3, iv (-1)), (4, iv (-1)), (10, .slice none 0 0), (11, iv 0), (12, ve), (14, iv (u : Int)), (13, v), (15, iv (hold lbb ((edgesL la lbb).getD u 0))), (77, iv (hold lbb ((edgesL la lbb).getD u 0))), (79, v), (80, iv (o.length : Int)), (17, iv (o.length : Int)), (81, iv (o.length : Int)), (82, .bool false), (83, .bool false)] [] a := hfr.pick [0, 1, 2, 3, 4, 10, 11, 12, 14, 13, 15, 77, 79, 80, 17, 81, 82, 83]
    refine wd_skip (k := 3) 15 [10, 14] hfr fun a hfr => ?_
    replace hfr : Fr 139 [(84, undef), (85, undef), (86, undef), (87, undef), (88, undef), (89, undef), (90, undef), (91, undef), (92, undef), (93, undef), (94, undef), (95, undef), (0, va), (1, vb), (2, iv 0), (3, iv (-1)), (4, iv (-1)), (10, .slice none 0 0), (11, iv 0), (12, ve), (14, iv (u : Int)), (13, v), (15, iv (hold lbb ((edgesL la lbb).getD u 0))), (77, iv (hold lbb ((edgesL la lbb).getD u 0))), (79, v), (80, iv (o.length : Int)), (17, iv (o.length : Int)), (81, iv (o.length : Int)), (82, .bool false), (83, .bool false)] [] a := hfr
    refine wd_lin (k := 15) 18 [17] ?_
    refine wln hfr fun a hfr => ?_
    refine wlv hfr (v_pick_f rfl rfl) fun a hfr => wlm hfr rfl fun a hfr => ?_
    refine wl_nil ?_
    replace hfr : Fr 139 [(84, undef), (85, undef), (86, undef), (87, undef), (88, undef), (89, undef), (90, undef), (91, undef), (92, undef), (93, undef), (94, undef), (95, undef), (0, va), (1, vb), (2, iv 0), (3, iv (-1)), (4, iv (-1)), (10, .slice none 0 0), (11, iv 0), (12, ve), (14, iv (u : Int)), (13, v), (15, iv (hold lbb ((edgesL la lbb).getD u 0))), (77, iv (hold lbb ((edgesL la lbb).getD u 0))), (79, v), (80, iv (o.length : Int)), (17, iv (o.length : Int)), (81, iv (o.length : Int)), (82, .bool false), (83, .bool false), (96, undef), (97, .bool false), (98, .bool false)] [] a := hfr.pick [84, 85, 86, 87, 88, 89, 90, 91, 92, 93, 94, 95, 0, 1, 2, 3, 4, 10, 11, 12, 14, 13, 15, 77, 79, 80, 17, 81, 82, 83, 96, 97, 98]
    refine wd_skip (k := 18) 26 [24, 25] hfr fun a hfr => ?_
    replace hfr : Fr 139 [(99, undef), (100, undef), (101, undef), (102, undef), (103, undef), (104, undef), (105, undef), (106, undef), (84, undef), (85, undef), (86, undef), (87, undef), (88, undef), (89, undef), (90, undef), (91, undef), (92, undef), (93, undef), (94, undef), (95, undef), (0, va), (1, vb), (2, iv 0), (3, iv (-1)), (4, iv (-1)), (10, .slice none 0 0), (11, iv 0), (12, ve), (14, iv (u : Int)), (13, v), (15, iv (hold lbb ((edgesL la lbb).getD u 0))), (77, iv (hold lbb ((edgesL la lbb).getD u 0))), (79, v), (80, iv (o.length : Int)), (17, iv (o.length : Int)), (81, iv (o.length : Int)), (82, .bool false), (83, .bool false), (96, undef), (97, .bool false), (98, .bool false)] [] a := hfr
    refine wd_lin (k := 26) 28 [27] ?_
    refine wln hfr fun a hfr => ?_
    refine wlv hfr (v_pick_f rfl rfl) fun a hfr => ?_
    refine wl_nil ?_
    refine wd_end ?_
    refine hK20 _ _ ?_
    replace hfr : Fr 139 [(0, _), (1, _), (2, _), (3, _), (4, _), (10, _), (11, _), (12, _), (14, _), (13, _), (15, _), (17, _), (108, _)] [] a := hfr.pick [0, 1, 2, 3, 4, 10, 11, 12, 14, 13, 15, 17, 108]
    refine wc_cond_f hfr rfl ?_
    refine wc_of_dr (dr_of_wd fun w15 hxz => ?_)
    replace hst := hst.grow hxz
    refine wd_sub (k := 0) 14 [0, 13] hfr ?_
    replace hfr : Fr 139 [(0, _), (1, _), (2, _), (3, _), (4, _), (10, _), (11, _), (12, _), (14, _), (13, _), (15, _), (17, _), (108, _)] [] a := hfr.pick [0, 1, 2, 3, 4, 10, 11, 12, 14, 13, 15, 17, 108]
    refine wc_phases_q [13] (fun i => match i with | 13 => pm (fun b : Nat => .slice (some ⟨b, 0, none⟩) 1 1) (fun b => [own (.slice (some ⟨b, 0, none⟩) 1 1) 77 3 [[iv ((edgesL la lbb).getD u 0), iv ((edgesL la lbb).getD (u + 1) 0), iv (hold lbb ((edgesL la lbb).getD u 0))]]]) (fun _ => True) | _ => fun _ _ => False) 14 [[], [], [], [1, 2], [3], [], [], [6], [5, 7], [8], [4, 9], [], [10, 11], [12]] [v, ve, iv (u : Int), slAddr ve (u * 1), iv ((edgesL la lbb).getD u 0), ve, iv (u : Int), iv ((u : Int) + 1), slAddr ve ((u + 1) * 1), iv ((edgesL la lbb).getD (u + 1) 0), .agg #[iv ((edgesL la lbb).getD u 0), iv ((edgesL la lbb).getD (u + 1) 0)], iv (hold lbb ((edgesL la lbb).getD u 0)), .agg #[iv ((edgesL la lbb).getD u 0), iv ((edgesL la lbb).getD (u + 1) 0), iv (hold lbb ((edgesL la lbb).getD u 0))], undef] hfr hst ?_ ?_ ?_
    ·intro i hi hiq
     match i, hi, hiq with
     | 0, _, _ =>
      intro w hst
      exact OpV.g (v_move rfl)
     | 1, _, _ =>
      intro w hst
      exact OpV.g (v_move rfl)
     | 2, _, _ =>
      intro w hst
      exact OpV.g (v_move rfl)
     | 3, _, _ =>
      intro w hst
      exact OpV.g ((v_indexAddr_sl (i := (u : Int)) (sT := 50) (hst.ownAt (i := 1) rfl) rfl rfl (Try.runUnderlying50 _) (Try.sizeOf3 _) (by omega) (by rw [List.length_map]; omega)).as (v' := slAddr ve (u * 1)) rfl)
     | 4, _, _ =>
      intro w hst
      exact OpV.g (v_load_sl1 (u := iv ((edgesL la lbb).getD u 0)) (i := u) (j := 0) (hst.ownAt (i := 1) rfl) (by rw [List.length_map]; omega) rfl (Try.isAgg3 _) (by rw [el_at (0 : Int)]; rfl))
     | 5, _, _ =>
      intro w hst
      exact OpV.g (v_move rfl)
     | 6, _, _ =>
      intro w hst
      exact OpV.g (v_move rfl)
     | 7, _, _ =>
      intro w hst
      exact OpV.g (v_add rfl rfl ⟨by omega, by omega⟩)
     | 8, _, _ =>
      intro w hst
      exact OpV.g ((v_indexAddr_sl (i := (u : Int) + 1) (sT := 50) (hst.ownAt (i := 1) rfl) rfl rfl (Try.runUnderlying50 _) (Try.sizeOf3 _) (by omega) (by rw [List.length_map]; omega)).as (v' := slAddr ve ((u + 1) * 1)) (by rw [show ((u : Int) + 1).toNat = (u + 1) from by omega]))
     | 9, _, _ =>
      intro w hst
      exact OpV.g (v_load_sl1 (u := iv ((edgesL la lbb).getD (u + 1) 0)) (i := (u + 1)) (j := 0) (hst.ownAt (i := 1) rfl) (by rw [List.length_map]; omega) rfl (Try.isAgg3 _) (by rw [el_at (0 : Int)]; rfl))
     | 10, _, _ =>
      intro w hst
      exact OpV.g (v_build (v := .agg #[iv ((edgesL la lbb).getD u 0), iv ((edgesL la lbb).getD (u + 1) 0)]) rfl (by kernel_rfl))
     | 11, _, _ =>
      intro w hst
      exact OpV.g (v_move rfl)
     | 12, _, _ =>
      intro w hst
      exact OpV.g (v_build (v := .agg #[iv ((edgesL la lbb).getD u 0), iv ((edgesL la lbb).getD (u + 1) 0), iv (hold lbb ((edgesL la lbb).getD u 0))]) rfl (by kernel_rfl))
     | 13, _, h => exact absurd (by simp) h
     | i + 14, h, _ => exact absurd h (by omega)
    ·intro i hi
     simp only [List.mem_cons, List.not_mem_nil, or_false] at hi
     subst hi
     ·intro w hst
      exact g_buildSlice (E := 77) (sz := 3) rfl [[iv ((edgesL la lbb).getD u 0), iv ((edgesL la lbb).getD (u + 1) 0), iv (hold lbb ((edgesL la lbb).getD u 0))]] (fun _ => by kernel_rfl) (by simp) rfl (by decide)
    clear hfr hst
    rintro _ _ ⟨b14, rfl, -, rfl⟩ a w16 hfr hst
    replace hfr : Fr 139 [(120, v), (133, _), (0, _), (1, _), (2, _), (3, _), (4, _), (10, _), (11, _), (12, _), (14, _)] [] a := hfr.pick [120, 133, 0, 1, 2, 3, 4, 10, 11, 12, 14]
    replace hst : St No w0 [_, _, _] w16 := hst
    refine wl_nil ?_
    refine wd_lin (k := 14) 16 [15] ?_
    refine wl_append (i := 1) (sT := 28) (inf := Try.t77) (z := .agg #[iv 0, iv 0, iv 0]) (b := 0) (off := 0) (m := 0) (c := 0) rfl rfl rfl (hst.ownAt (i := 0) rfl) (by simp) Try.underlying28 rfl rfl rfl rfl (by decide) (by simp [Value.oneCell', yv, wv, sv]) (by have hby : Try.t77.bytes = 24 := rfl; simp [big, hby]; omega) (by have hby : Try.t77.bytes = 24 := rfl; simp [big, hby]; omega) (by decide) hfr hst fun a w17 s15 hfr hst _ => ?_
    refine wla hfr rfl fun a hfr => ?_
    refine wl_nil ?_
    refine wd_end ?_
    refine hK8 _ _ ?_
    replace hfr : Fr 139 [(0, _), (1, _), (2, _), (3, _), (4, _), (10, _), (11, _), (12, _), (14, _), (13, _)] [] a := hfr.pick [0, 1, 2, 3, 4, 10, 11, 12, 14, 13]
    replace hst : St No w0 [_, _] w17 := hst.mask [false, true, true]
    refine wc_region ?_
    refine wlm hfr rfl fun a hfr => ?_
    refine wlv hfr (v_add rfl rfl ⟨by omega, by omega⟩) fun a hfr => wla hfr rfl fun a hfr => ?_
    refine wl_nil ?_
    rw [show (o.map Blo.cells) ++ ([[iv ((edgesL la lbb).getD u 0), iv ((edgesL la lbb).getD (u + 1) 0), iv (hold lbb ((edgesL la lbb).getD u 0))]]) = ((o ++ [(⟨(edgesL la lbb).getD u 0, (edgesL la lbb).getD (u + 1) 0, hold lbb ((edgesL la lbb).getD u 0)⟩ : Blo)]).map Blo.cells) from by rw [List.map_append]; rfl] at hst
    refine ⟨_, ?_, u + 1, s15, (o ++ [(⟨(edgesL la lbb).getD u 0, (edgesL la lbb).getD (u + 1) 0, hold lbb ((edgesL la lbb).getD u 0)⟩ : Blo)]), pre ++ [⟨(edgesL la lbb).getD u 0, (edgesL la lbb).getD (u + 1) 0, hold la ((edgesL la lbb).getD u 0), hold lbb ((edgesL la lbb).getD u 0)⟩], rfl, (by omega), (NxP.snoc hnx), (by rw [outP_next ho hk9, stepB_new (by omega) (by omega)]), hfr.pick [0, 1, 2, 3, 4, 10, 11, 12, 14, 13], hst.select [0, 1] (by decide)⟩
    omega
   rw [decide_eq_false hb4] at hfr
   omega
  rw [decide_eq_false hb3] at hfr
  have hk9 : overX (hold la ((edgesL la lbb).getD u 0)) (hold lbb ((edgesL la lbb).getD u 0)) = hold la ((edgesL la lbb).getD u 0) := if_pos (by omega)
  refine wly hfr (v_move rfl) fun a hfr => wly hfr ((v_eq rfl rfl).asb (b' := false) rfl) fun a hfr => wly hfr (v_move rfl) fun a hfr => ?_
  refine wln hfr fun a hfr => ?_
  refine wln hfr fun a hfr => wly hfr (v_pick_f rfl rfl) fun a hfr => ?_
  refine wlv hfr (v_pick_f rfl rfl) fun a hfr => wlm hfr rfl fun a hfr => wly hfr (v_move rfl) fun a hfr => wly hfr ((v_eq rfl rfl).asb (b' := false) rfl) fun a hfr => wly hfr (v_move rfl) fun a hfr => ?_
  refine wln hfr fun a hfr => ?_
  refine wln hfr fun a hfr => wly hfr (v_pick_f rfl rfl) fun a hfr => ?_
  refine wlv hfr (v_pick_f rfl rfl) fun a hfr => ?_
  refine wl_nil (hK12 _ _ ?_)
  replace hfr : Fr 139 [(0, _), (1, _), (2, _), (3, _), (4, _), (10, _), (11, _), (12, _), (14, _), (13, _), (15, _), (16, _), (61, _)] [] a := hfr.pick [0, 1, 2, 3, 4, 10, 11, 12, 14, 13, 15, 16, 61]
  refine wc_cond_f hfr rfl ?_
  refine wc_skip ?_
  refine hK11 _ _ ?_
  refine wc_seq_k fun K21 hK21 => ?_
  refine wc_seq_region fun K22 hK22 => ?_
  refine wlm hfr rfl fun a hfr => ?_
  refine wlv hfr ((v_eq rfl rfl).asb (b' := false) rfl) fun a hfr => wlm hfr rfl fun a hfr => ?_
  refine wln hfr fun a hfr => ?_
  refine wln hfr fun a hfr => ?_
  refine wlv hfr (v_pick_f rfl rfl) fun a hfr => ?_
  refine wl_nil (hK22 _ _ ?_)
  replace hfr : Fr 139 [(0, _), (1, _), (2, _), (3, _), (4, _), (10, _), (11, _), (12, _), (14, _), (13, _), (15, _), (68, _)] [] a := hfr.pick [0, 1, 2, 3, 4, 10, 11, 12, 14, 13, 15, 68]
  refine wc_cond_f hfr rfl ?_
  refine wc_skip ?_
  refine hK21 _ _ ?_
  refine wc_seq_k fun K23 hK23 => ?_
  refine wc_seq_region fun K24 hK24 => ?_
  refine wlm hfr rfl fun a hfr => ?_
  refine wlv hfr (v_ge rfl rfl) fun a hfr => wlm hfr rfl fun a hfr => ?_
  rcases Decidable.em (0 ≤ hold la ((edgesL la lbb).getD u 0)) with hb16 | hb16
  ·rw [decide_eq_true hb16] at hfr
   refine wly hfr (v_move rfl) fun a hfr => wly hfr (v_move rfl) fun a hfr => wly hfr (v_eq rfl rfl) fun a hfr => ?_
   refine wlv hfr (v_pick_t rfl rfl) fun a hfr => ?_
   refine wl_nil (hK24 _ _ ?_)
   replace hfr : Fr 139 [(0, _), (1, _), (2, _), (3, _), (4, _), (10, _), (11, _), (12, _), (14, _), (13, _), (15, _), (75, _)] [] a := hfr.pick [0, 1, 2, 3, 4, 10, 11, 12, 14, 13, 15, 75]
   refine wc_cond_d hfr rfl (fun hc17 => ?_) (fun hc17 => ?_)
   ·omega
   refine wc_skip ?_
   refine hK23 _ _ ?_
   refine wc_seq_k fun K25 hK25 => ?_
   refine wc_seq_region fun K26 hK26 => ?_
   refine wlm hfr rfl fun a hfr => ?_
   refine wlv hfr (v_lt rfl rfl) fun a hfr => ?_
   refine wl_nil (hK26 _ _ ?_)
   refine wc_cond_d hfr rfl (fun hc18 => ?_) (fun hc18 => ?_)
   ·omega
   refine wc_skip ?_
   refine hK25 _ _ ?_
   refine wc_seq_region fun K27 hK27 => ?_
   refine wlm hfr rfl fun a hfr => ?_
   refine wlv hfr ((v_len_sl (sT := 28) (hst.ownAt (i := 0) rfl) rfl rfl (Try.runUnderlying28 _)).asi (m' := (o.length : Int)) (by rw [List.length_map])) fun a hfr => wla hfr rfl fun a hfr => ?_
   refine wl_nil (hK27 _ _ ?_)
   refine wc_seq_k fun K28 hK28 => ?_
   refine wc_of_dr (dr_of_wd fun w18 hxz => ?_)
   replace hst := hst.grow hxz
   refine wd_lin (k := 0) 3 [2] ?_
   refine wlm hfr rfl fun a hfr => ?_
   refine wlv hfr (v_gt rfl rfl) fun a hfr => wlm hfr rfl fun a hfr => ?_
   refine wl_nil ?_
   rcases Decidable.em (0 < (o.length : Int)) with hb19 | hb19
   ·rw [decide_eq_true hb19] at hfr
    refine wd_sub (k := 3) 15 [10, 14] hfr ?_
    replace hfr : Fr 139 [(0, _), (1, _), (2, _), (3, _), (4, _), (10, _), (11, _), (12, _), (14, _), (13, _), (15, _), (77, _), (79, _), (80, _), (17, _), (81, _), (82, _), (83, _)] [] a := hfr.pick [0, 1, 2, 3, 4, 10, 11, 12, 14, 13, 15, 77, 79, 80, 17, 81, 82, 83]
    refine dr_pl 12 hfr hst <| pl_m rfl <| pl_m rfl <| pl_v (v_sub rfl rfl ⟨by omega, by omega⟩) <| pl_v (v_max2 rfl rfl) <| pl_w (fun hst => (v_indexAddr_sl (i := max ((o.length : Int) - 1) 0) (sT := 28) (hst.ownAt (i := 0) rfl) rfl rfl (Try.runUnderlying28 _) (Try.sizeOf77 _) (by omega) (by rw [List.length_map]; omega)).as (v' := slAddr v ((o.length - 1) * 3)) (by rw [show (max ((o.length : Int) - 1) 0).toNat = (o.length - 1) from by omega])) <| pl_w (fun hst => v_fieldAddr_sl (k := (o.length - 1) * 3) (j := 0) (hst.ownAt (i := 0) rfl) (i := (o.length - 1)) (by rw [List.length_map]; omega) rfl (fun _ _ => by kernel_rfl)) <| pl_w (fun hst => v_fieldAddr_sl (k := (o.length - 1) * 3 + 0) (j := 1) (hst.ownAt (i := 0) rfl) (i := (o.length - 1)) (by rw [List.length_map]; omega) rfl (fun _ _ => by kernel_rfl)) ?_
    refine pl_w (fun hst => v_load_sl1 (u := iv ((o.getD (o.length - 1) Blo.z).t)) (i := (o.length - 1)) (j := 1) (hst.ownAt (i := 0) rfl) (by rw [List.length_map]; omega) rfl (Try.isAgg3 _) (by rw [el_at Blo.z]; rfl)) <| pl_m rfl <| pl_m rfl <| pl_w (fun hst => (v_indexAddr_sl (i := (u : Int)) (sT := 50) (hst.ownAt (i := 1) rfl) rfl rfl (Try.runUnderlying50 _) (Try.sizeOf3 _) (by omega) (by rw [List.length_map]; omega)).as (v' := slAddr ve (u * 1)) rfl) <| pl_w (fun hst => v_load_sl1 (u := iv ((edgesL la lbb).getD u 0)) (i := u) (j := 0) (hst.ownAt (i := 1) rfl) (by rw [List.length_map]; omega) rfl (Try.isAgg3 _) (by rw [el_at (0 : Int)]; rfl)) ?_
    clear hfr hst
    intro a w19 hfr hst
    replace hfr : Fr 139 [(0, _), (1, _), (2, _), (3, _), (4, _), (10, _), (11, _), (12, _), (14, _), (13, _), (15, _), (17, _), (83, _), (91, _), (95, _)] [] a := hfr.pick [0, 1, 2, 3, 4, 10, 11, 12, 14, 13, 15, 17, 83, 91, 95]
    refine wl_nil ?_
    refine wd_lin (k := 15) 18 [17] ?_
    refine wly hfr (v_eq rfl rfl) fun a hfr => ?_
    refine wlv hfr (v_pick_t rfl rfl) fun a hfr => wlm hfr rfl fun a hfr => ?_
    refine wl_nil ?_
    rcases Decidable.em ((o.getD (o.length - 1) Blo.z).t = (edgesL la lbb).getD u 0) with hb20 | hb20
    ·rw [decide_eq_true hb20] at hfr
     refine wd_sub (k := 18) 26 [24, 25] hfr ?_
     replace hfr : Fr 139 [(0, _), (1, _), (2, _), (3, _), (4, _), (10, _), (11, _), (12, _), (14, _), (13, _), (15, _), (17, _), (83, _), (91, _), (95, _), (96, _), (97, _), (98, _)] [] a := hfr.pick [0, 1, 2, 3, 4, 10, 11, 12, 14, 13, 15, 17, 83, 91, 95, 96, 97, 98]
     refine dr_pl 8 hfr hst <| pl_m rfl <| pl_m rfl <| pl_v (v_sub rfl rfl ⟨by omega, by omega⟩) <| pl_v (v_max2 rfl rfl) <| pl_w (fun hst => (v_indexAddr_sl (i := max ((o.length : Int) - 1) 0) (sT := 28) (hst.ownAt (i := 0) rfl) rfl rfl (Try.runUnderlying28 _) (Try.sizeOf77 _) (by omega) (by rw [List.length_map]; omega)).as (v' := slAddr v ((o.length - 1) * 3)) (by rw [show (max ((o.length : Int) - 1) 0).toNat = (o.length - 1) from by omega])) <| pl_w (fun hst => v_fieldAddr_sl (k := (o.length - 1) * 3) (j := 2) (hst.ownAt (i := 0) rfl) (i := (o.length - 1)) (by rw [List.length_map]; omega) rfl (fun _ _ => by kernel_rfl)) <| pl_w (fun hst => v_load_sl1 (u := iv ((o.getD (o.length - 1) Blo.z).c)) (i := (o.length - 1)) (j := 2) (hst.ownAt (i := 0) rfl) (by rw [List.length_map]; omega) rfl (Try.isAgg3 _) (by rw [el_at Blo.z]; rfl)) <| pl_m rfl ?_
     clear hfr hst
     intro a w20 hfr hst
     replace hfr : Fr 139 [(0, _), (1, _), (2, _), (3, _), (4, _), (10, _), (11, _), (12, _), (14, _), (13, _), (15, _), (17, _), (98, _), (105, _), (106, _)] [] a := hfr.pick [0, 1, 2, 3, 4, 10, 11, 12, 14, 13, 15, 17, 98, 105, 106]
     refine wl_nil ?_
     refine wd_lin (k := 26) 28 [27] ?_
     refine wly hfr (v_eq rfl rfl) fun a hfr => ?_
     refine wlv hfr (v_pick_t rfl rfl) fun a hfr => ?_
     refine wl_nil ?_
     refine wd_end ?_
     refine hK28 _ _ ?_
     refine wc_cond_d hfr rfl (fun hc21 => ?_) (fun hc21 => ?_)
     ·refine wc_region ?_
      refine wlm hfr rfl fun a hfr => wlm hfr rfl fun a hfr => ?_
      refine wlv hfr (v_sub rfl rfl ⟨by omega, by omega⟩) fun a hfr => wlm hfr rfl fun a hfr => wlm hfr rfl fun a hfr => ?_
      refine wlv hfr (v_add rfl rfl ⟨by omega, by omega⟩) fun a hfr => ?_
      refine wlv hfr ((v_indexAddr_sl (i := (u : Int) + 1) (sT := 50) (hst.ownAt (i := 1) rfl) rfl rfl (Try.runUnderlying50 _) (Try.sizeOf3 _) (by omega) (by rw [List.length_map]; omega)).as (v' := slAddr ve ((u + 1) * 1)) (by rw [show ((u : Int) + 1).toNat = (u + 1) from by omega])) fun a hfr => ?_
      refine wlv hfr (v_load_sl1 (u := iv ((edgesL la lbb).getD (u + 1) 0)) (i := (u + 1)) (j := 0) (hst.ownAt (i := 1) rfl) (by rw [List.length_map]; omega) rfl (Try.isAgg3 _) (by rw [el_at (0 : Int)]; rfl)) fun a hfr => ?_
      refine wlv hfr ((v_indexAddr_sl (i := (o.length : Int) - 1) (sT := 28) (hst.ownAt (i := 0) rfl) rfl rfl (Try.runUnderlying28 _) (Try.sizeOf77 _) (by omega) (by rw [List.length_map]; omega)).as (v' := slAddr v ((o.length - 1) * 3)) (by rw [show ((o.length : Int) - 1).toNat = (o.length - 1) from by omega])) fun a hfr => ?_
      refine wlv hfr (v_fieldAddr_sl (k := (o.length - 1) * 3) (j := 0) (hst.ownAt (i := 0) rfl) (i := (o.length - 1)) (by rw [List.length_map]; omega) rfl (fun _ _ => by kernel_rfl)) fun a hfr => ?_
      refine wlv hfr (v_fieldAddr_sl (k := (o.length - 1) * 3 + 0) (j := 1) (hst.ownAt (i := 0) rfl) (i := (o.length - 1)) (by rw [List.length_map]; omega) rfl (fun _ _ => by kernel_rfl)) fun a hfr => ?_
      refine wl_store_own (k := o.length - 1) (j := 1) 0 hfr hst rfl rfl rfl (by rw [List.length_map]; omega) (by omega) (Try.sizeOf3 _) (by simp [Value.oneCell', Value.cells]) (lb rfl) (els' := ((o.dropLast ++ [(⟨(o.getD (o.length - 1) Blo.z).f, (edgesL la lbb).getD (u + 1) 0, (o.getD (o.length - 1) Blo.z).c⟩ : Blo)]).map Blo.cells)) (blo_join (by omega) _) rfl ?_
      clear hfr hst
      intro a w21 hfr hst
      refine wl_nil ?_
      refine hK8 _ _ ?_
      replace hfr : Fr 139 [(0, _), (1, _), (2, _), (3, _), (4, _), (10, _), (11, _), (12, _), (14, _), (13, _)] [] a := hfr.pick [0, 1, 2, 3, 4, 10, 11, 12, 14, 13]
      refine wc_region ?_
      refine wlm hfr rfl fun a hfr => ?_
      refine wlv hfr (v_add rfl rfl ⟨by omega, by omega⟩) fun a hfr => wla hfr rfl fun a hfr => ?_
      refine wl_nil ?_
      refine ⟨_, ?_, u + 1, v, (o.dropLast ++ [(⟨(o.getD (o.length - 1) Blo.z).f, (edgesL la lbb).getD (u + 1) 0, (o.getD (o.length - 1) Blo.z).c⟩ : Blo)]), pre ++ [⟨(edgesL la lbb).getD u 0, (edgesL la lbb).getD (u + 1) 0, hold la ((edgesL la lbb).getD u 0), hold lbb ((edgesL la lbb).getD u 0)⟩], rfl, (by omega), (NxP.snoc hnx), (by rw [outP_next ho hk9, stepB_join (by omega) (by omega) (by omega) (by omega)]), hfr.pick [0, 1, 2, 3, 4, 10, 11, 12, 14, 13], hst.select [0, 1] (by decide)⟩
      omega
     refine wc_of_dr (dr_of_wd fun w22 hxz => ?_)
     replace hst := hst.grow hxz
     refine wd_sub (k := 0) 14 [0, 13] hfr ?_
     replace hfr : Fr 139 [(0, _), (1, _), (2, _), (3, _), (4, _), (10, _), (11, _), (12, _), (14, _), (13, _), (15, _), (17, _), (98, _), (105, _), (106, _)] [] a := hfr.pick [0, 1, 2, 3, 4, 10, 11, 12, 14, 13, 15, 17, 98, 105, 106]
     refine wc_phases_q [13] (fun i => match i with | 13 => pm (fun b : Nat => .slice (some ⟨b, 0, none⟩) 1 1) (fun b => [own (.slice (some ⟨b, 0, none⟩) 1 1) 77 3 [[iv ((edgesL la lbb).getD u 0), iv ((edgesL la lbb).getD (u + 1) 0), iv (hold la ((edgesL la lbb).getD u 0))]]]) (fun _ => True) | _ => fun _ _ => False) 14 [[], [], [], [1, 2], [3], [], [], [6], [5, 7], [8], [4, 9], [], [10, 11], [12]] [v, ve, iv (u : Int), slAddr ve (u * 1), iv ((edgesL la lbb).getD u 0), ve, iv (u : Int), iv ((u : Int) + 1), slAddr ve ((u + 1) * 1), iv ((edgesL la lbb).getD (u + 1) 0), .agg #[iv ((edgesL la lbb).getD u 0), iv ((edgesL la lbb).getD (u + 1) 0)], iv (hold la ((edgesL la lbb).getD u 0)), .agg #[iv ((edgesL la lbb).getD u 0), iv ((edgesL la lbb).getD (u + 1) 0), iv (hold la ((edgesL la lbb).getD u 0))], undef] hfr hst ?_ ?_ ?_
     ·intro i hi hiq
      match i, hi, hiq with
      | 0, _, _ =>
       intro w hst
       exact OpV.g (v_move rfl)
      | 1, _, _ =>
       intro w hst
       exact OpV.g (v_move rfl)
      | 2, _, _ =>
       intro w hst
       exact OpV.g (v_move rfl)
      | 3, _, _ =>
       intro w hst
       exact OpV.g ((v_indexAddr_sl (i := (u : Int)) (sT := 50) (hst.ownAt (i := 1) rfl) rfl rfl (Try.runUnderlying50 _) (Try.sizeOf3 _) (by omega) (by rw [List.length_map]; omega)).as (v' := slAddr ve (u * 1)) rfl)
      | 4, _, _ =>
       intro w hst
       exact OpV.g (v_load_sl1 (u := iv ((edgesL la lbb).getD u 0)) (i := u) (j := 0) (hst.ownAt (i := 1) rfl) (by rw [List.length_map]; omega) rfl (Try.isAgg3 _) (by rw [el_at (0 : Int)]; rfl))
      | 5, _, _ =>
       intro w hst
       exact OpV.g (v_move rfl)
      | 6, _, _ =>
       intro w hst
       exact OpV.g (v_move rfl)
      | 7, _, _ =>
       intro w hst
       exact OpV.g (v_add rfl rfl ⟨by omega, by omega⟩)
      | 8, _, _ =>
       intro w hst
       exact OpV.g ((v_indexAddr_sl (i := (u : Int) + 1) (sT := 50) (hst.ownAt (i := 1) rfl) rfl rfl (Try.runUnderlying50 _) (Try.sizeOf3 _) (by omega) (by rw [List.length_map]; omega)).as (v' := slAddr ve ((u + 1) * 1)) (by rw [show ((u : Int) + 1).toNat = (u + 1) from by omega]))
      | 9, _, _ =>
       intro w hst
       exact OpV.g (v_load_sl1 (u := iv ((edgesL la lbb).getD (u + 1) 0)) (i := (u + 1)) (j := 0) (hst.ownAt (i := 1) rfl) (by rw [List.length_map]; omega) rfl (Try.isAgg3 _) (by rw [el_at (0 : Int)]; rfl))
      | 10, _, _ =>
       intro w hst
       exact OpV.g (v_build (v := .agg #[iv ((edgesL la lbb).getD u 0), iv ((edgesL la lbb).getD (u + 1) 0)]) rfl (by kernel_rfl))
      | 11, _, _ =>
       intro w hst
       exact OpV.g (v_move rfl)
      | 12, _, _ =>
       intro w hst
       exact OpV.g (v_build (v := .agg #[iv ((edgesL la lbb).getD u 0), iv ((edgesL la lbb).getD (u + 1) 0), iv (hold la ((edgesL la lbb).getD u 0))]) rfl (by kernel_rfl))
      | 13, _, h => exact absurd (by simp) h
      | i + 14, h, _ => exact absurd h (by omega)
     ·intro i hi
      simp only [List.mem_cons, List.not_mem_nil, or_false] at hi
      subst hi
      ·intro w hst
       exact g_buildSlice (E := 77) (sz := 3) rfl [[iv ((edgesL la lbb).getD u 0), iv ((edgesL la lbb).getD (u + 1) 0), iv (hold la ((edgesL la lbb).getD u 0))]] (fun _ => by kernel_rfl) (by simp) rfl (by decide)
     clear hfr hst
     rintro _ _ ⟨b22, rfl, -, rfl⟩ a w23 hfr hst
     replace hfr : Fr 139 [(120, v), (133, _), (0, _), (1, _), (2, _), (3, _), (4, _), (10, _), (11, _), (12, _), (14, _)] [] a := hfr.pick [120, 133, 0, 1, 2, 3, 4, 10, 11, 12, 14]
     replace hst : St No w0 [_, _, _] w23 := hst
     refine wl_nil ?_
     refine wd_lin (k := 14) 16 [15] ?_
     refine wl_append (i := 1) (sT := 28) (inf := Try.t77) (z := .agg #[iv 0, iv 0, iv 0]) (b := 0) (off := 0) (m := 0) (c := 0) rfl rfl rfl (hst.ownAt (i := 0) rfl) (by simp) Try.underlying28 rfl rfl rfl rfl (by decide) (by simp [Value.oneCell', yv, wv, sv]) (by have hby : Try.t77.bytes = 24 := rfl; simp [big, hby]; omega) (by have hby : Try.t77.bytes = 24 := rfl; simp [big, hby]; omega) (by decide) hfr hst fun a w24 s23 hfr hst _ => ?_
     refine wla hfr rfl fun a hfr => ?_
     refine wl_nil ?_
     refine wd_end ?_
     refine hK8 _ _ ?_
     replace hfr : Fr 139 [(0, _), (1, _), (2, _), (3, _), (4, _), (10, _), (11, _), (12, _), (14, _), (13, _)] [] a := hfr.pick [0, 1, 2, 3, 4, 10, 11, 12, 14, 13]
     replace hst : St No w0 [_, _] w24 := hst.mask [false, true, true]
     refine wc_region ?_
     refine wlm hfr rfl fun a hfr => ?_
     refine wlv hfr (v_add rfl rfl ⟨by omega, by omega⟩) fun a hfr => wla hfr rfl fun a hfr => ?_
     refine wl_nil ?_
     rw [show (o.map Blo.cells) ++ ([[iv ((edgesL la lbb).getD u 0), iv ((edgesL la lbb).getD (u + 1) 0), iv (hold la ((edgesL la lbb).getD u 0))]]) = ((o ++ [(⟨(edgesL la lbb).getD u 0, (edgesL la lbb).getD (u + 1) 0, hold la ((edgesL la lbb).getD u 0)⟩ : Blo)]).map Blo.cells) from by rw [List.map_append]; rfl] at hst
     refine ⟨_, ?_, u + 1, s23, (o ++ [(⟨(edgesL la lbb).getD u 0, (edgesL la lbb).getD (u + 1) 0, hold la ((edgesL la lbb).getD u 0)⟩ : Blo)]), pre ++ [⟨(edgesL la lbb).getD u 0, (edgesL la lbb).getD (u + 1) 0, hold la ((edgesL la lbb).getD u 0), hold lbb ((edgesL la lbb).getD u 0)⟩], rfl, (by omega), (NxP.snoc hnx), (by rw [outP_next ho hk9, stepB_new (by omega) (by omega)]), hfr.pick [0, 1, 2, 3, 4, 10, 11, 12, 14, 13], hst.select [0, 1] (by decide)⟩
     omega
    rw [decide_eq_false hb20] at hfr
    replace hfr : Fr 139 [(0, va), (1, vb), (2, iv 0), (3, iv (-1)), (4, iv (-1)), (10, .slice none 0 0), (11, iv 0), (12, ve), (14, iv (u : Int)), (13, v), (15, iv (hold la ((edgesL la lbb).getD u 0))), (17, iv (o.length : Int)), (83, .bool true), (91, iv ((o.getD (o.length - 1) Blo.z).t)), (95, iv ((edgesL la lbb).getD u 0)), (96, .bool false), (97, .bool false), (98, .bool false)] [] a := hfr.pick [0, 1, 2, 3, 4, 10, 11, 12, 14, 13, 15, 17, 83, 91, 95, 96, 97, 98]
    refine wd_skip (k := 18) 26 [24, 25] hfr fun a hfr => ?_
    replace hfr : Fr 139 [(99, undef), (100, undef), (101, undef), (102, undef), (103, undef), (104, undef), (105, undef), (106, undef), (0, va), (1, vb), (2, iv 0), (3, iv (-1)), (4, iv (-1)), (10, .slice none 0 0), (11, iv 0), (12, ve), (14, iv (u : Int)), (13, v), (15, iv (hold la ((edgesL la lbb).getD u 0))), (17, iv (o.length : Int)), (83, .bool true), (91, iv ((o.getD (o.length - 1) Blo.z).t)), (95, iv ((edgesL la lbb).getD u 0)), (96, .bool false), (97, .bool false), (98, .bool false)] [] a := hfr
    refine wd_lin (k := 26) 28 [27] ?_
    refine wln hfr fun a hfr => ?_
    refine wlv hfr (v_pick_f rfl rfl) fun a hfr => ?_
    refine wl_nil ?_
    refine wd_end ?_
    refine hK28 _ _ ?_
    replace hfr : Fr 139 [(0, _), (1, _), (2, _), (3, _), (4, _), (10, _), (11, _), (12, _), (14, _), (13, _), (15, _), (17, _), (108, _)] [] a := hfr.pick [0, 1, 2, 3, 4, 10, 11, 12, 14, 13, 15, 17, 108]
    refine wc_cond_f hfr rfl ?_
    refine wc_of_dr (dr_of_wd fun w25 hxz => ?_)
    replace hst := hst.grow hxz
    refine wd_sub (k := 0) 14 [0, 13] hfr ?_
    replace hfr : Fr 139 [(0, _), (1, _), (2, _), (3, _), (4, _), (10, _), (11, _), (12, _), (14, _), (13, _), (15, _), (17, _), (108, _)] [] a := hfr.pick [0, 1, 2, 3, 4, 10, 11, 12, 14, 13, 15, 17, 108]
    refine wc_phases_q [13] (fun i => match i with | 13 => pm (fun b : Nat => .slice (some ⟨b, 0, none⟩) 1 1) (fun b => [own (.slice (some ⟨b, 0, none⟩) 1 1) 77 3 [[iv ((edgesL la lbb).getD u 0), iv ((edgesL la lbb).getD (u + 1) 0), iv (hold la ((edgesL la lbb).getD u 0))]]]) (fun _ => True) | _ => fun _ _ => False) 14 [[], [], [], [1, 2], [3], [], [], [6], [5, 7], [8], [4, 9], [], [10, 11], [12]] [v, ve, iv (u : Int), slAddr ve (u * 1), iv ((edgesL la lbb).getD u 0), ve, iv (u : Int), iv ((u : Int) + 1), slAddr ve ((u + 1) * 1), iv ((edgesL la lbb).getD (u + 1) 0), .agg #[iv ((edgesL la lbb).getD u 0), iv ((edgesL la lbb).getD (u + 1) 0)], iv (hold la ((edgesL la lbb).getD u 0)), .agg #[iv ((edgesL la lbb).getD u 0), iv ((edgesL la lbb).getD (u + 1) 0), iv (hold la ((edgesL la lbb).getD u 0))], undef] hfr hst ?_ ?_ ?_
    ·intro i hi hiq
     match i, hi, hiq with
     | 0, _, _ =>
      intro w hst
      exact OpV.g (v_move rfl)
     | 1, _, _ =>
      intro w hst
      exact OpV.g (v_move rfl)
     | 2, _, _ =>
      intro w hst
      exact OpV.g (v_move rfl)
     | 3, _, _ =>
      intro w hst
      exact OpV.g ((v_indexAddr_sl (i := (u : Int)) (sT := 50) (hst.ownAt (i := 1) rfl) rfl rfl (Try.runUnderlying50 _) (Try.sizeOf3 _) (by omega) (by rw [List.length_map]; omega)).as (v' := slAddr ve (u * 1)) rfl)
     | 4, _, _ =>
      intro w hst
      exact OpV.g (v_load_sl1 (u := iv ((edgesL la lbb).getD u 0)) (i := u) (j := 0) (hst.ownAt (i := 1) rfl) (by rw [List.length_map]; omega) rfl (Try.isAgg3 _) (by rw [el_at (0 : Int)]; rfl))
     | 5, _, _ =>
      intro w hst
      exact OpV.g (v_move rfl)
     | 6, _, _ =>
      intro w hst
      exact OpV.g (v_move rfl)
     | 7, _, _ =>
      intro w hst
      exact OpV.g (v_add rfl rfl ⟨by omega, by omega⟩)
     | 8, _, _ =>
      intro w hst
      exact OpV.g ((v_indexAddr_sl (i := (u : Int) + 1) (sT := 50) (hst.ownAt (i := 1) rfl) rfl rfl (Try.runUnderlying50 _) (Try.sizeOf3 _) (by omega) (by rw [List.length_map]; omega)).as (v' := slAddr ve ((u + 1) * 1)) (by rw [show ((u : Int) + 1).toNat = (u + 1) from by omega]))
     | 9, _, _ =>
      intro w hst
      exact OpV.g (v_load_sl1 (u := iv ((edgesL la lbb).getD (u + 1) 0)) (i := (u + 1)) (j := 0) (hst.ownAt (i := 1) rfl) (by rw [List.length_map]; omega) rfl (Try.isAgg3 _) (by rw [el_at (0 : Int)]; rfl))
     | 10, _, _ =>
      intro w hst
      exact OpV.g (v_build (v := .agg #[iv ((edgesL la lbb).getD u 0), iv ((edgesL la lbb).getD (u + 1) 0)]) rfl (by kernel_rfl))
     | 11, _, _ =>
      intro w hst
      exact OpV.g (v_move rfl)
     | 12, _, _ =>
      intro w hst
      exact OpV.g (v_build (v := .agg #[iv ((edgesL la lbb).getD u 0), iv ((edgesL la lbb).getD (u + 1) 0), iv (hold la ((edgesL la lbb).getD u 0))]) rfl (by kernel_rfl))
     | 13, _, h => exact absurd (by simp) h
     | i + 14, h, _ => exact absurd h (by omega)
    ·intro i hi
     simp only [List.mem_cons, List.not_mem_nil, or_false] at hi
     subst hi
     ·intro w hst
      exact g_buildSlice (E := 77) (sz := 3) rfl [[iv ((edgesL la lbb).getD u 0), iv ((edgesL la lbb).getD (u + 1) 0), iv (hold la ((edgesL la lbb).getD u 0))]] (fun _ => by kernel_rfl) (by simp) rfl (by decide)
    clear hfr hst
    rintro _ _ ⟨b24, rfl, -, rfl⟩ a w26 hfr hst
    replace hfr : Fr 139 [(120, v), (133, _), (0, _), (1, _), (2, _), (3, _), (4, _), (10, _), (11, _), (12, _), (14, _)] [] a := hfr.pick [120, 133, 0, 1, 2, 3, 4, 10, 11, 12, 14]
    replace hst : St No w0 [_, _, _] w26 := hst
    refine wl_nil ?_
    refine wd_lin (k := 14) 16 [15] ?_
    refine wl_append (i := 1) (sT := 28) (inf := Try.t77) (z := .agg #[iv 0, iv 0, iv 0]) (b := 0) (off := 0) (m := 0) (c := 0) rfl rfl rfl (hst.ownAt (i := 0) rfl) (by simp) Try.underlying28 rfl rfl rfl rfl (by decide) (by simp [Value.oneCell', yv, wv, sv]) (by have hby : Try.t77.bytes = 24 := rfl; simp [big, hby]; omega) (by have hby : Try.t77.bytes = 24 := rfl; simp [big, hby]; omega) (by decide) hfr hst fun a w27 s25 hfr hst _ => ?_
    refine wla hfr rfl fun a hfr => ?_
    refine wl_nil ?_
    refine wd_end ?_
    refine hK8 _ _ ?_
    replace hfr : Fr 139 [(0, _), (1, _), (2, _), (3, _), (4, _), (10, _), (11, _), (12, _), (14, _), (13, _)] [] a := hfr.pick [0, 1, 2, 3, 4, 10, 11, 12, 14, 13]
    replace hst : St No w0 [_, _] w27 := hst.mask [false, true, true]
    refine wc_region ?_
    refine wlm hfr rfl fun a hfr => ?_
    refine wlv hfr (v_add rfl rfl ⟨by omega, by omega⟩) fun a hfr => wla hfr rfl fun a hfr => ?_
    refine wl_nil ?_
    rw [show (o.map Blo.cells) ++ ([[iv ((edgesL la lbb).getD u 0), iv ((edgesL la lbb).getD (u + 1) 0), iv (hold la ((edgesL la lbb).getD u 0))]]) = ((o ++ [(⟨(edgesL la lbb).getD u 0, (edgesL la lbb).getD (u + 1) 0, hold la ((edgesL la lbb).getD u 0)⟩ : Blo)]).map Blo.cells) from by rw [List.map_append]; rfl] at hst
    refine ⟨_, ?_, u + 1, s25, (o ++ [(⟨(edgesL la lbb).getD u 0, (edgesL la lbb).getD (u + 1) 0, hold la ((edgesL la lbb).getD u 0)⟩ : Blo)]), pre ++ [⟨(edgesL la lbb).getD u 0, (edgesL la lbb).getD (u + 1) 0, hold la ((edgesL la lbb).getD u 0), hold lbb ((edgesL la lbb).getD u 0)⟩], rfl, (by omega), (NxP.snoc hnx), (by rw [outP_next ho hk9, stepB_new (by omega) (by omega)]), hfr.pick [0, 1, 2, 3, 4, 10, 11, 12, 14, 13], hst.select [0, 1] (by decide)⟩
    omega
   rw [decide_eq_false hb19] at hfr
   replace hfr : Fr 139 [(0, va), (1, vb), (2, iv 0), (3, iv (-1)), (4, iv (-1)), (10, .slice none 0 0), (11, iv 0), (12, ve), (14, iv (u : Int)), (13, v), (15, iv (hold la ((edgesL la lbb).getD u 0))), (77, iv (hold la ((edgesL la lbb).getD u 0))), (79, v), (80, iv (o.length : Int)), (17, iv (o.length : Int)), (81, iv (o.length : Int)), (82, .bool false), (83, .bool false)] [] a := hfr.pick [0, 1, 2, 3, 4, 10, 11, 12, 14, 13, 15, 77, 79, 80, 17, 81, 82, 83]
   refine wd_skip (k := 3) 15 [10, 14] hfr fun a hfr => ?_
   replace hfr : Fr 139 [(84, undef), (85, undef), (86, undef), (87, undef), (88, undef), (89, undef), (90, undef), (91, undef), (92, undef), (93, undef), (94, undef), (95, undef), (0, va), (1, vb), (2, iv 0), (3, iv (-1)), (4, iv (-1)), (10, .slice none 0 0), (11, iv 0), (12, ve), (14, iv (u : Int)), (13, v), (15, iv (hold la ((edgesL la lbb).getD u 0))), (77, iv (hold la ((edgesL la lbb).getD u 0))), (79, v), (80, iv (o.length : Int)), (17, iv (o.length : Int)), (81, iv (o.length : Int)), (82, .bool false), (83, .bool false)] [] a := hfr
   refine wd_lin (k := 15) 18 [17] ?_
   refine wln hfr fun a hfr => ?_
   refine wlv hfr (v_pick_f rfl rfl) fun a hfr => wlm hfr rfl fun a hfr => ?_
   refine wl_nil ?_
   replace hfr : Fr 139 [(84, undef), (85, undef), (86, undef), (87, undef), (88, undef), (89, undef), (90, undef), (91, undef), (92, undef), (93, undef), (94, undef), (95, undef), (0, va), (1, vb), (2, iv 0), (3, iv (-1)), (4, iv (-1)), (10, .slice none 0 0), (11, iv 0), (12, ve), (14, iv (u : Int)), (13, v), (15, iv (hold la ((edgesL la lbb).getD u 0))), (77, iv (hold la ((edgesL la lbb).getD u 0))), (79, v), (80, iv (o.length : Int)), (17, iv (o.length : Int)), (81, iv (o.length : Int)), (82, .bool false), (83, .bool false), (96, undef), (97, .bool false), (98, .bool false)] [] a := hfr.pick [84, 85, 86, 87, 88, 89, 90, 91, 92, 93, 94, 95, 0, 1, 2, 3, 4, 10, 11, 12, 14, 13, 15, 77, 79, 80, 17, 81, 82, 83, 96, 97, 98]
   refine wd_skip (k := 18) 26 [24, 25] hfr fun a hfr => ?_
   replace hfr : Fr 139 [(99, undef), (100, undef), (101, undef), (102, undef), (103, undef), (104, undef), (105, undef), (106, undef), (84, undef), (85, undef), (86, undef), (87, undef), (88, undef), (89, undef), (90, undef), (91, undef), (92, undef), (93, undef), (94, undef), (95, undef), (0, va), (1, vb), (2, iv 0), (3, iv (-1)), (4, iv (-1)), (10, .slice none 0 0), (11, iv 0), (12, ve), (14, iv (u : Int)), (13, v), (15, iv (hold la ((edgesL la lbb).getD u 0))), (77, iv (hold la ((edgesL la lbb).getD u 0))), (79, v), (80, iv (o.length : Int)), (17, iv (o.length : Int)), (81, iv (o.length : Int)), (82, .bool false), (83, .bool false), (96, undef), (97, .bool false), (98, .bool false)] [] a := hfr
   refine wd_lin (k := 26) 28 [27] ?_
   refine wln hfr fun a hfr => ?_
   refine wlv hfr (v_pick_f rfl rfl) fun a hfr => ?_
   refine wl_nil ?_
   refine wd_end ?_
   refine hK28 _ _ ?_
   replace hfr : Fr 139 [(0, _), (1, _), (2, _), (3, _), (4, _), (10, _), (11, _), (12, _), (14, _), (13, _), (15, _), (17, _), (108, _)] [] a := hfr.pick [0, 1, 2, 3, 4, 10, 11, 12, 14, 13, 15, 17, 108]
   refine wc_cond_f hfr rfl ?_
   refine wc_of_dr (dr_of_wd fun w28 hxz => ?_)
   replace hst := hst.grow hxz
   refine wd_sub (k := 0) 14 [0, 13] hfr ?_
   replace hfr : Fr 139 [(0, _), (1, _), (2, _), (3, _), (4, _), (10, _), (11, _), (12, _), (14, _), (13, _), (15, _), (17, _), (108, _)] [] a := hfr.pick [0, 1, 2, 3, 4, 10, 11, 12, 14, 13, 15, 17, 108]
   refine wc_phases_q [13] (fun i => match i with | 13 => pm (fun b : Nat => .slice (some ⟨b, 0, none⟩) 1 1) (fun b => [own (.slice (some ⟨b, 0, none⟩) 1 1) 77 3 [[iv ((edgesL la lbb).getD u 0), iv ((edgesL la lbb).getD (u + 1) 0), iv (hold la ((edgesL la lbb).getD u 0))]]]) (fun _ => True) | _ => fun _ _ => False) 14 [[], [], [], [1, 2], [3], [], [], [6], [5, 7], [8], [4, 9], [], [10, 11], [12]] [v, ve, iv (u : Int), slAddr ve (u * 1), iv ((edgesL la lbb).getD u 0), ve, iv (u : Int), iv ((u : Int) + 1), slAddr ve ((u + 1) * 1), iv ((edgesL la lbb).getD (u + 1) 0), .agg #[iv ((edgesL la lbb).getD u 0), iv ((edgesL la lbb).getD (u + 1) 0)], iv (hold la ((edgesL la lbb).getD u 0)), .agg #[iv ((edgesL la lbb).getD u 0), iv ((edgesL la lbb).getD (u + 1) 0), iv (hold la ((edgesL la lbb).getD u 0))], undef] hfr hst ?_ ?_ ?_
   ·intro i hi hiq
    match i, hi, hiq with
    | 0, _, _ =>
     intro w hst
     exact OpV.g (v_move rfl)
    | 1, _, _ =>
     intro w hst
     exact OpV.g (v_move rfl)
    | 2, _, _ =>
     intro w hst
     exact OpV.g (v_move rfl)
    | 3, _, _ =>
     intro w hst
     exact OpV.g ((v_indexAddr_sl (i := (u : Int)) (sT := 50) (hst.ownAt (i := 1) rfl) rfl rfl (Try.runUnderlying50 _) (Try.sizeOf3 _) (by omega) (by rw [List.length_map]; omega)).as (v' := slAddr ve (u * 1)) rfl)
    | 4, _, _ =>
     intro w hst
     exact OpV.g (v_load_sl1 (u := iv ((edgesL la lbb).getD u 0)) (i := u) (j := 0) (hst.ownAt (i := 1) rfl) (by rw [List.length_map]; omega) rfl (Try.isAgg3 _) (by rw [el_at (0 : Int)]; rfl))
    | 5, _, _ =>
     intro w hst
     exact OpV.g (v_move rfl)
    | 6, _, _ =>
     intro w hst
     exact OpV.g (v_move rfl)
    | 7, _, _ =>
     intro w hst
     exact OpV.g (v_add rfl rfl ⟨by omega, by omega⟩)
    | 8, _, _ =>
     intro w hst
     exact OpV.g ((v_indexAddr_sl (i := (u : Int) + 1) (sT := 50) (hst.ownAt (i := 1) rfl) rfl rfl (Try.runUnderlying50 _) (Try.sizeOf3 _) (by omega) (by rw [List.length_map]; omega)).as (v' := slAddr ve ((u + 1) * 1)) (by rw [show ((u : Int) + 1).toNat = (u + 1) from by omega]))
    | 9, _, _ =>
     intro w hst
     exact OpV.g (v_load_sl1 (u := iv ((edgesL la lbb).getD (u + 1) 0)) (i := (u + 1)) (j := 0) (hst.ownAt (i := 1) rfl) (by rw [List.length_map]; omega) rfl (Try.isAgg3 _) (by rw [el_at (0 : Int)]; rfl))
    | 10, _, _ =>
     intro w hst
     exact OpV.g (v_build (v := .agg #[iv ((edgesL la lbb).getD u 0), iv ((edgesL la lbb).getD (u + 1) 0)]) rfl (by kernel_rfl))
    | 11, _, _ =>
     intro w hst
     exact OpV.g (v_move rfl)
    | 12, _, _ =>
     intro w hst
     exact OpV.g (v_build (v := .agg #[iv ((edgesL la lbb).getD u 0), iv ((edgesL la lbb).getD (u + 1) 0), iv (hold la ((edgesL la lbb).getD u 0))]) rfl (by kernel_rfl))
    | 13, _, h => exact absurd (by simp) h
    | i + 14, h, _ => exact absurd h (by omega)
   ·intro i hi
    simp only [List.mem_cons, List.not_mem_nil, or_false] at hi
    subst hi
    ·intro w hst
     exact g_buildSlice (E := 77) (sz := 3) rfl [[iv ((edgesL la lbb).getD u 0), iv ((edgesL la lbb).getD (u + 1) 0), iv (hold la ((edgesL la lbb).getD u 0))]] (fun _ => by kernel_rfl) (by simp) rfl (by decide)
   clear hfr hst
   rintro _ _ ⟨b26, rfl, -, rfl⟩ a w29 hfr hst
   replace hfr : Fr 139 [(120, v), (133, _), (0, _), (1, _), (2, _), (3, _), (4, _), (10, _), (11, _), (12, _), (14, _)] [] a := hfr.pick [120, 133, 0, 1, 2, 3, 4, 10, 11, 12, 14]
   replace hst : St No w0 [_, _, _] w29 := hst
   refine wl_nil ?_
   refine wd_lin (k := 14) 16 [15] ?_
   refine wl_append (i := 1) (sT := 28) (inf := Try.t77) (z := .agg #[iv 0, iv 0, iv 0]) (b := 0) (off := 0) (m := 0) (c := 0) rfl rfl rfl (hst.ownAt (i := 0) rfl) (by simp) Try.underlying28 rfl rfl rfl rfl (by decide) (by simp [Value.oneCell', yv, wv, sv]) (by have hby : Try.t77.bytes = 24 := rfl; simp [big, hby]; omega) (by have hby : Try.t77.bytes = 24 := rfl; simp [big, hby]; omega) (by decide) hfr hst fun a w30 s27 hfr hst _ => ?_
   refine wla hfr rfl fun a hfr => ?_
   refine wl_nil ?_
   refine wd_end ?_
   refine hK8 _ _ ?_
   replace hfr : Fr 139 [(0, _), (1, _), (2, _), (3, _), (4, _), (10, _), (11, _), (12, _), (14, _), (13, _)] [] a := hfr.pick [0, 1, 2, 3, 4, 10, 11, 12, 14, 13]
   replace hst : St No w0 [_, _] w30 := hst.mask [false, true, true]
   refine wc_region ?_
   refine wlm hfr rfl fun a hfr => ?_
   refine wlv hfr (v_add rfl rfl ⟨by omega, by omega⟩) fun a hfr => wla hfr rfl fun a hfr => ?_
   refine wl_nil ?_
   rw [show (o.map Blo.cells) ++ ([[iv ((edgesL la lbb).getD u 0), iv ((edgesL la lbb).getD (u + 1) 0), iv (hold la ((edgesL la lbb).getD u 0))]]) = ((o ++ [(⟨(edgesL la lbb).getD u 0, (edgesL la lbb).getD (u + 1) 0, hold la ((edgesL la lbb).getD u 0)⟩ : Blo)]).map Blo.cells) from by rw [List.map_append]; rfl] at hst
   refine ⟨_, ?_, u + 1, s27, (o ++ [(⟨(edgesL la lbb).getD u 0, (edgesL la lbb).getD (u + 1) 0, hold la ((edgesL la lbb).getD u 0)⟩ : Blo)]), pre ++ [⟨(edgesL la lbb).getD u 0, (edgesL la lbb).getD (u + 1) 0, hold la ((edgesL la lbb).getD u 0), hold lbb ((edgesL la lbb).getD u 0)⟩], rfl, (by omega), (NxP.snoc hnx), (by rw [outP_next ho hk9, stepB_new (by omega) (by omega)]), hfr.pick [0, 1, 2, 3, 4, 10, 11, 12, 14, 13], hst.select [0, 1] (by decide)⟩
   omega
  rw [decide_eq_false hb16] at hfr
  refine wln hfr fun a hfr => ?_
  refine wln hfr fun a hfr => ?_
  refine wln hfr fun a hfr => ?_
  refine wlv hfr (v_pick_f rfl rfl) fun a hfr => ?_
  refine wl_nil (hK24 _ _ ?_)
  replace hfr : Fr 139 [(0, _), (1, _), (2, _), (3, _), (4, _), (10, _), (11, _), (12, _), (14, _), (13, _), (15, _), (75, _)] [] a := hfr.pick [0, 1, 2, 3, 4, 10, 11, 12, 14, 13, 15, 75]
  refine wc_cond_f hfr rfl ?_
  refine wc_skip ?_
  refine hK23 _ _ ?_
  refine wc_seq_k fun K29 hK29 => ?_
  refine wc_seq_region fun K30 hK30 => ?_
  refine wlm hfr rfl fun a hfr => ?_
  refine wlv hfr (v_lt rfl rfl) fun a hfr => ?_
  refine wl_nil (hK30 _ _ ?_)
  refine wc_cond_d hfr rfl (fun hc28 => ?_) (fun hc28 => ?_)
  ·refine wc_exit ?_
   refine hK8 _ _ ?_
   refine wc_region ?_
   refine wlm hfr rfl fun a hfr => ?_
   refine wlv hfr (v_add rfl rfl ⟨by omega, by omega⟩) fun a hfr => wla hfr rfl fun a hfr => ?_
   refine wl_nil ?_
   refine ⟨_, ?_, u + 1, v, o, pre ++ [⟨(edgesL la lbb).getD u 0, (edgesL la lbb).getD (u + 1) 0, hold la ((edgesL la lbb).getD u 0), hold lbb ((edgesL la lbb).getD u 0)⟩], rfl, (by omega), (NxP.snoc hnx), (by rw [outP_next ho hk9, stepB_skip (by omega)]), hfr.pick [0, 1, 2, 3, 4, 10, 11, 12, 14, 13], hst.select [0, 1] (by decide)⟩
   omega
  omega
 have hpc9 : Pcs la lbb pre 100000000 := by have h9 := hpc; rw [edges_last hoa hob hi (by omega)] at h9; exact h9
 have hmk : mapOk o = true := ho ▸ hln _ hpc9
 refine wc_exit ?_
 refine hK4 _ _ ?_
 refine wc_seq_k fun K31 hK31 => ?_
 refine wc_seq_region fun K32 hK32 => ?_
 refine wlm hfr rfl fun a hfr => ?_
 refine wl_callp hfr hst Try.call41 rfl (rmap_ok v o _ (hst.ownAt (i := 0) rfl)) ?_
 clear hfr hst
 intro a w31 hfr hst
 refine wlv hfr (v_not rfl) fun a hfr => ?_
 refine wl_nil (hK32 _ _ ?_)
 replace hfr : Fr 139 [(10, _), (11, _), (13, _), (137, _)] [] a := hfr.pick [10, 11, 13, 137]
 refine wc_cond hfr rfl (fun hc29 => ?_) (fun hc29 => ?_)
 ·try simp only [qz] at hc29
  rw [hmk] at hc29; cases hc29
 try simp only [qz] at hc29
 refine wc_skip ?_
 refine hK31 _ _ ?_
 refine wc_seq_region fun K33 hK33 => ?_
 refine wlm hfr rfl fun a hfr => wla hfr rfl fun a hfr => wla hfr rfl fun a hfr => ?_
 refine wl_nil (hK33 _ _ ?_)
 refine wc_ret ?_
 refine fin_ret hfr Try.results44 (resAre_tmp rfl (resAre_tmp rfl resAre_nil)) ?_
 exact ⟨(v, pre), rfl, hpc9, hst.ext, by subst ho; exact St.out (E := [own v 77 3 ((outP overX pre).map Blo.cells)]) (H := []) (hst.select [0] (by decide))⟩
set_option maxHeartbeats 4000000 in
theorem rcomb_awayX (va vb : Value) (la lbb : List Blo) (w0 : World) (hva : SlAt w0 va 3 (la.map Blo.cells)) (hvb : SlAt w0 vb 3 (lbb.map Blo.cells)) (hla : la.length ≤ 40) (hlbb : lbb.length ≤ 40) (hoa : okF 0 (-1) la = true) (hob : okF 0 (-1) lbb = true) (hln : ∀ xs, Pcs la lbb xs 100000000 → mapOk (outP awayX xs) = true) :
  Ret Try.prog 44 #[va, vb, iv 1, iv (-1), iv (-1)] w0 (MemR w0 (fun z : Value × List Pce => .tuple #[z.1, iv 0]) (fun z => [own z.1 77 3 ((outP awayX z.2).map Blo.cells)]) (fun z => Pcs la lbb z.2 100000000)) := by
 have hel := @edges_len2 la lbb
 refine ret_of Try.func44 rfl Try.ntmps44 (lb rfl) fun a hfr => ?_
 replace hfr : Fr 139 [(0, _), (1, _), (2, _), (3, _), (4, _)] [] a := hfr
 replace hst : St No w0 [] w0 := St.init w0
 refine wc_seq_region fun K1 hK1 => ?_
 refine wla hfr rfl fun a hfr => wla hfr rfl fun a hfr => ?_
 refine wl_nil (hK1 _ _ ?_)
 refine wc_seq_region fun K2 hK2 => ?_
 refine wlm hfr rfl fun a hfr => wlm hfr rfl fun a hfr => ?_
 refine wl_callm hfr hst Try.call66 rfl (edges_ok va vb la lbb _ (hst.arg hva) (hst.arg hvb) hla hlbb) ?_
 clear hfr hst
 intro a w1 x1 hp hfr hst
 revert x1 hp hfr hst; rintro ve hp hfr hst
 clear hp
 replace hst : St No w0 [own ve 3 1 ((edgesL la lbb).map fun n => [iv n])] w1 := hst
 refine wla hfr rfl fun a hfr => ?_
 refine wl_nil (hK2 _ _ ?_)
 refine wc_seq_region fun K3 hK3 => ?_
 refine wla hfr rfl fun a hfr => ?_
 refine wl_nil (hK3 _ _ ?_)
 refine wc_seq_k fun K4 hK4 => ?_
 replace hst : St No w0 (own (.slice none 0 0) 77 3 [] :: [own ve 3 1 ((edgesL la lbb).map fun n => [iv n])]) w1 := hst.nil_own
 refine wc_seq_region fun K5 hK5 => ?_
 refine wla hfr rfl fun a hfr => ?_
 refine wl_nil (hK5 _ _ ?_)
 refine wc_block ?_
 refine wc_loop (fun m a w => ∃ (u : Nat) (v : Value) (o : List Blo) (pre : List Pce), m = (edgesL la lbb).length - u ∧ (u < (edgesL la lbb).length) ∧ (Pcs la lbb pre ((edgesL la lbb).getD u 0)) ∧ (o = outP awayX pre) ∧ Fr 139 [(0, va), (1, vb), (2, iv 1), (3, iv (-1)), (4, iv (-1)), (10, .slice none 0 0), (11, iv 0), (12, ve), (14, iv (u : Int)), (13, v)] [] a ∧ St No w0 [own v 77 3 (o.map Blo.cells), own ve 3 1 ((edgesL la lbb).map fun n => [iv n])] w) _ ⟨0, .slice none 0 0, [], [], rfl, (by have := @edges_len2 la lbb; omega), (by rw [edges_first hoa hob]; exact .nil), rfl, hfr.pick [0, 1, 2, 3, 4, 10, 11, 12, 14, 13], hst.select [0, 1] (by decide)⟩ ?_
 rintro _ a w2 ⟨u, v, o, pre, rfl, hi, hpc, ho, hfr, hst⟩
 refine wc_seq_k fun K6 hK6 => ?_
 refine wc_seq_region fun K7 hK7 => ?_
 refine wlm hfr rfl fun a hfr => ?_
 refine wlv hfr (v_add rfl rfl ⟨by omega, by omega⟩) fun a hfr => wlm hfr rfl fun a hfr => ?_
 refine wlv hfr ((v_len_sl (sT := 50) (hst.ownAt (i := 1) rfl) rfl rfl (Try.runUnderlying50 _)).asi (m' := ((edgesL la lbb).length : Int)) (by rw [List.length_map])) fun a hfr => ?_
 refine wlv hfr (v_lt rfl rfl) fun a hfr => ?_
 refine wl_nil (hK7 _ _ ?_)
 refine wc_cond_d hfr rfl (fun hc2 => ?_) (fun hc2 => ?_)
 ·have hnx := edges_next hoa hob (by omega) hpc
  have hx8 : (edgesL la lbb).getD u 0 < (edgesL la lbb).getD (u + 1) 0 := hnx.2.2.1
  have hx7 : (edgesL la lbb).getD (u + 1) 0 ≤ 100000000 := hnx.2.2.2.1
  have hol := (outP_len (h := awayX) hpc).1
  rw [← ho] at hol
  have hra := hold_rng ((edgesL la lbb).getD u 0) hoa
  have hrb := hold_rng ((edgesL la lbb).getD u 0) hob
  refine wc_skip ?_
  refine hK6 _ _ ?_
  refine wc_seq_k fun K8 hK8 => ?_
  refine wc_block ?_
  refine wc_seq_region fun K9 hK9 => ?_
  refine wlm hfr rfl fun a hfr => wlm hfr rfl fun a hfr => wlm hfr rfl fun a hfr => ?_
  refine wlv hfr ((v_indexAddr_sl (i := (u : Int)) (sT := 50) (hst.ownAt (i := 1) rfl) rfl rfl (Try.runUnderlying50 _) (Try.sizeOf3 _) (by omega) (by rw [List.length_map]; omega)).as (v' := slAddr ve (u * 1)) rfl) fun a hfr => ?_
  refine wlv hfr (v_load_sl1 (u := iv ((edgesL la lbb).getD u 0)) (i := u) (j := 0) (hst.ownAt (i := 1) rfl) (by rw [List.length_map]; omega) rfl (Try.isAgg3 _) (by rw [el_at (0 : Int)]; rfl)) fun a hfr => ?_
  refine wl_callp hfr hst Try.call67 rfl (holder_ok va la ((edgesL la lbb).getD u 0) _ (hst.arg hva)) ?_
  clear hfr hst
  intro a w3 hfr hst
  refine wla hfr rfl fun a hfr => ?_
  refine wl_nil (hK9 _ _ ?_)
  replace hfr : Fr 139 [(0, _), (1, _), (2, _), (3, _), (4, _), (10, _), (11, _), (12, _), (14, _), (13, _), (15, _)] [] a := hfr.pick [0, 1, 2, 3, 4, 10, 11, 12, 14, 13, 15]
  refine wc_seq_region fun K10 hK10 => ?_
  refine wlm hfr rfl fun a hfr => wlm hfr rfl fun a hfr => wlm hfr rfl fun a hfr => ?_
  refine wlv hfr ((v_indexAddr_sl (i := (u : Int)) (sT := 50) (hst.ownAt (i := 1) rfl) rfl rfl (Try.runUnderlying50 _) (Try.sizeOf3 _) (by omega) (by rw [List.length_map]; omega)).as (v' := slAddr ve (u * 1)) rfl) fun a hfr => ?_
  refine wlv hfr (v_load_sl1 (u := iv ((edgesL la lbb).getD u 0)) (i := u) (j := 0) (hst.ownAt (i := 1) rfl) (by rw [List.length_map]; omega) rfl (Try.isAgg3 _) (by rw [el_at (0 : Int)]; rfl)) fun a hfr => ?_
  refine wl_callp hfr hst Try.call67 rfl (holder_ok vb lbb ((edgesL la lbb).getD u 0) _ (hst.arg hvb)) ?_
  clear hfr hst
  intro a w4 hfr hst
  refine wla hfr rfl fun a hfr => ?_
  refine wl_nil (hK10 _ _ ?_)
  replace hfr : Fr 139 [(0, _), (1, _), (2, _), (3, _), (4, _), (10, _), (11, _), (12, _), (14, _), (13, _), (15, _), (16, _)] [] a := hfr.pick [0, 1, 2, 3, 4, 10, 11, 12, 14, 13, 15, 16]
  refine wc_seq_k fun K11 hK11 => ?_
  refine wc_seq_region fun K12 hK12 => ?_
  refine wlm hfr rfl fun a hfr => ?_
  refine wlv hfr ((v_eq rfl rfl).asb (b' := false) rfl) fun a hfr => wlm hfr rfl fun a hfr => ?_
  refine wln hfr fun a hfr => ?_
  refine wln hfr fun a hfr => ?_
  refine wlv hfr (v_pick_f rfl rfl) fun a hfr => wlm hfr rfl fun a hfr => wly hfr (v_move rfl) fun a hfr => wly hfr ((v_eq rfl rfl).asb (b' := true) rfl) fun a hfr => wly hfr (v_move rfl) fun a hfr => wly hfr (v_move rfl) fun a hfr => wly hfr (v_ge rfl rfl) fun a hfr => wly hfr (v_pick_t rfl rfl) fun a hfr => ?_
  refine wlv hfr (v_pick_f rfl rfl) fun a hfr => wlm hfr rfl fun a hfr => ?_
  rcases Decidable.em (0 ≤ hold lbb ((edgesL la lbb).getD u 0)) with hb3 | hb3
  ·rw [decide_eq_true hb3] at hfr
   have hk9 : awayX (hold la ((edgesL la lbb).getD u 0)) (hold lbb ((edgesL la lbb).getD u 0)) = -1 := if_neg (by omega)
   refine wln hfr fun a hfr => ?_
   refine wln hfr fun a hfr => ?_
   refine wln hfr fun a hfr => ?_
   refine wl_vu hfr fun a hfr => ?_
   refine wl_vu hfr fun a hfr => ?_
   refine wln hfr fun a hfr => ?_
   refine wlv hfr (v_pick_t rfl rfl) fun a hfr => ?_
   refine wl_nil (hK12 _ _ ?_)
   replace hfr : Fr 139 [(0, _), (1, _), (2, _), (3, _), (4, _), (10, _), (11, _), (12, _), (14, _), (13, _), (15, _), (16, _), (61, _)] [] a := hfr.pick [0, 1, 2, 3, 4, 10, 11, 12, 14, 13, 15, 16, 61]
   refine wc_cond_t hfr rfl ?_
   refine wc_region ?_
   refine wlm hfr rfl fun a hfr => wla hfr rfl fun a hfr => ?_
   refine wl_nil ?_
   refine hK11 _ _ ?_
   refine wc_seq_k fun K13 hK13 => ?_
   refine wc_seq_region fun K14 hK14 => ?_
   refine wlm hfr rfl fun a hfr => ?_
   refine wlv hfr ((v_eq rfl rfl).asb (b' := true) rfl) fun a hfr => wlm hfr rfl fun a hfr => wly hfr (v_move rfl) fun a hfr => wly hfr (v_ge rfl rfl) fun a hfr => ?_
   refine wlv hfr (v_pick_t rfl rfl) fun a hfr => ?_
   refine wl_nil (hK14 _ _ ?_)
   replace hfr : Fr 139 [(0, _), (1, _), (2, _), (3, _), (4, _), (10, _), (11, _), (12, _), (14, _), (13, _), (15, _), (68, _)] [] a := hfr.pick [0, 1, 2, 3, 4, 10, 11, 12, 14, 13, 15, 68]
   refine wc_cond_d hfr rfl (fun hc4 => ?_) (fun hc4 => ?_)
   ·refine wc_region ?_
    refine wla hfr rfl fun a hfr => ?_
    refine wl_nil ?_
    refine hK13 _ _ ?_
    refine wc_seq_k fun K15 hK15 => ?_
    refine wc_seq_region fun K16 hK16 => ?_
    refine wlm hfr rfl fun a hfr => ?_
    refine wlv hfr ((v_ge rfl rfl).asb (b' := false) rfl) fun a hfr => wlm hfr rfl fun a hfr => ?_
    refine wln hfr fun a hfr => ?_
    refine wln hfr fun a hfr => ?_
    refine wln hfr fun a hfr => ?_
    refine wlv hfr (v_pick_f rfl rfl) fun a hfr => ?_
    refine wl_nil (hK16 _ _ ?_)
    replace hfr : Fr 139 [(0, _), (1, _), (2, _), (3, _), (4, _), (10, _), (11, _), (12, _), (14, _), (13, _), (15, _), (75, _)] [] a := hfr.pick [0, 1, 2, 3, 4, 10, 11, 12, 14, 13, 15, 75]
    refine wc_cond_f hfr rfl ?_
    refine wc_skip ?_
    refine hK15 _ _ ?_
    refine wc_seq_k fun K17 hK17 => ?_
    refine wc_seq_region fun K18 hK18 => ?_
    refine wlm hfr rfl fun a hfr => ?_
    refine wlv hfr ((v_lt rfl rfl).asb (b' := true) rfl) fun a hfr => ?_
    refine wl_nil (hK18 _ _ ?_)
    refine wc_cond_t hfr rfl ?_
    refine wc_exit ?_
    refine hK8 _ _ ?_
    refine wc_region ?_
    refine wlm hfr rfl fun a hfr => ?_
    refine wlv hfr (v_add rfl rfl ⟨by omega, by omega⟩) fun a hfr => wla hfr rfl fun a hfr => ?_
    refine wl_nil ?_
    refine ⟨_, ?_, u + 1, v, o, pre ++ [⟨(edgesL la lbb).getD u 0, (edgesL la lbb).getD (u + 1) 0, hold la ((edgesL la lbb).getD u 0), hold lbb ((edgesL la lbb).getD u 0)⟩], rfl, (by omega), (NxP.snoc hnx), (by rw [outP_next ho hk9, stepB_skip (by omega)]), hfr.pick [0, 1, 2, 3, 4, 10, 11, 12, 14, 13], hst.select [0, 1] (by decide)⟩
    omega
   omega
  rw [decide_eq_false hb3] at hfr
  have hk9 : awayX (hold la ((edgesL la lbb).getD u 0)) (hold lbb ((edgesL la lbb).getD u 0)) = hold la ((edgesL la lbb).getD u 0) := if_pos (by omega)
  refine wly hfr (v_move rfl) fun a hfr => wly hfr ((v_eq rfl rfl).asb (b' := false) rfl) fun a hfr => wly hfr (v_move rfl) fun a hfr => ?_
  refine wln hfr fun a hfr => ?_
  refine wln hfr fun a hfr => wly hfr (v_pick_f rfl rfl) fun a hfr => ?_
  refine wlv hfr (v_pick_f rfl rfl) fun a hfr => ?_
  refine wl_nil (hK12 _ _ ?_)
  replace hfr : Fr 139 [(0, _), (1, _), (2, _), (3, _), (4, _), (10, _), (11, _), (12, _), (14, _), (13, _), (15, _), (16, _), (61, _)] [] a := hfr.pick [0, 1, 2, 3, 4, 10, 11, 12, 14, 13, 15, 16, 61]
  refine wc_cond_f hfr rfl ?_
  refine wc_skip ?_
  refine hK11 _ _ ?_
  refine wc_seq_k fun K19 hK19 => ?_
  refine wc_seq_region fun K20 hK20 => ?_
  refine wlm hfr rfl fun a hfr => ?_
  refine wlv hfr ((v_eq rfl rfl).asb (b' := true) rfl) fun a hfr => wlm hfr rfl fun a hfr => wly hfr (v_move rfl) fun a hfr => wly hfr (v_ge rfl rfl) fun a hfr => ?_
  refine wlv hfr (v_pick_t rfl rfl) fun a hfr => ?_
  refine wl_nil (hK20 _ _ ?_)
  replace hfr : Fr 139 [(0, _), (1, _), (2, _), (3, _), (4, _), (10, _), (11, _), (12, _), (14, _), (13, _), (15, _), (68, _)] [] a := hfr.pick [0, 1, 2, 3, 4, 10, 11, 12, 14, 13, 15, 68]
  refine wc_cond_d hfr rfl (fun hc5 => ?_) (fun hc5 => ?_)
  ·omega
  refine wc_skip ?_
  refine hK19 _ _ ?_
  refine wc_seq_k fun K21 hK21 => ?_
  refine wc_seq_region fun K22 hK22 => ?_
  refine wlm hfr rfl fun a hfr => ?_
  refine wlv hfr (v_ge rfl rfl) fun a hfr => wlm hfr rfl fun a hfr => ?_
  rcases Decidable.em (0 ≤ hold la ((edgesL la lbb).getD u 0)) with hb6 | hb6
  ·rw [decide_eq_true hb6] at hfr
   refine wly hfr (v_move rfl) fun a hfr => wly hfr (v_move rfl) fun a hfr => wly hfr (v_eq rfl rfl) fun a hfr => ?_
   refine wlv hfr (v_pick_t rfl rfl) fun a hfr => ?_
   refine wl_nil (hK22 _ _ ?_)
   replace hfr : Fr 139 [(0, _), (1, _), (2, _), (3, _), (4, _), (10, _), (11, _), (12, _), (14, _), (13, _), (15, _), (75, _)] [] a := hfr.pick [0, 1, 2, 3, 4, 10, 11, 12, 14, 13, 15, 75]
   refine wc_cond_d hfr rfl (fun hc7 => ?_) (fun hc7 => ?_)
   ·omega
   refine wc_skip ?_
   refine hK21 _ _ ?_
   refine wc_seq_k fun K23 hK23 => ?_
   refine wc_seq_region fun K24 hK24 => ?_
   refine wlm hfr rfl fun a hfr => ?_
   refine wlv hfr (v_lt rfl rfl) fun a hfr => ?_
   refine wl_nil (hK24 _ _ ?_)
   refine wc_cond_d hfr rfl (fun hc8 => ?_) (fun hc8 => ?_)
   ·omega
   refine wc_skip ?_
   refine hK23 _ _ ?_
   refine wc_seq_region fun K25 hK25 => ?_
   refine wlm hfr rfl fun a hfr => ?_
   refine wlv hfr ((v_len_sl (sT := 28) (hst.ownAt (i := 0) rfl) rfl rfl (Try.runUnderlying28 _)).asi (m' := (o.length : Int)) (by rw [List.length_map])) fun a hfr => wla hfr rfl fun a hfr => ?_
   refine wl_nil (hK25 _ _ ?_)
   refine wc_seq_k fun K26 hK26 => ?_
   refine wc_of_dr (dr_of_wd fun w5 hxz => ?_)
   replace hst := hst.grow hxz
   refine wd_lin (k := 0) 3 [2] ?_
   refine wlm hfr rfl fun a hfr => ?_
   refine wlv hfr (v_gt rfl rfl) fun a hfr => wlm hfr rfl fun a hfr => ?_
   refine wl_nil ?_
   rcases Decidable.em (0 < (o.length : Int)) with hb9 | hb9
   ·rw [decide_eq_true hb9] at hfr
    refine wd_sub (k := 3) 15 [10, 14] hfr ?_
    replace hfr : Fr 139 [(0, _), (1, _), (2, _), (3, _), (4, _), (10, _), (11, _), (12, _), (14, _), (13, _), (15, _), (77, _), (79, _), (80, _), (17, _), (81, _), (82, _), (83, _)] [] a := hfr.pick [0, 1, 2, 3, 4, 10, 11, 12, 14, 13, 15, 77, 79, 80, 17, 81, 82, 83]
    refine dr_pl 12 hfr hst <| pl_m rfl <| pl_m rfl <| pl_v (v_sub rfl rfl ⟨by omega, by omega⟩) <| pl_v (v_max2 rfl rfl) <| pl_w (fun hst => (v_indexAddr_sl (i := max ((o.length : Int) - 1) 0) (sT := 28) (hst.ownAt (i := 0) rfl) rfl rfl (Try.runUnderlying28 _) (Try.sizeOf77 _) (by omega) (by rw [List.length_map]; omega)).as (v' := slAddr v ((o.length - 1) * 3)) (by rw [show (max ((o.length : Int) - 1) 0).toNat = (o.length - 1) from by omega])) <| pl_w (fun hst => v_fieldAddr_sl (k := (o.length - 1) * 3) (j := 0) (hst.ownAt (i := 0) rfl) (i := (o.length - 1)) (by rw [List.length_map]; omega) rfl (fun _ _ => by kernel_rfl)) <| pl_w (fun hst => v_fieldAddr_sl (k := (o.length - 1) * 3 + 0) (j := 1) (hst.ownAt (i := 0) rfl) (i := (o.length - 1)) (by rw [List.length_map]; omega) rfl (fun _ _ => by kernel_rfl)) ?_
    refine pl_w (fun hst => v_load_sl1 (u := iv ((o.getD (o.length - 1) Blo.z).t)) (i := (o.length - 1)) (j := 1) (hst.ownAt (i := 0) rfl) (by rw [List.length_map]; omega) rfl (Try.isAgg3 _) (by rw [el_at Blo.z]; rfl)) <| pl_m rfl <| pl_m rfl <| pl_w (fun hst => (v_indexAddr_sl (i := (u : Int)) (sT := 50) (hst.ownAt (i := 1) rfl) rfl rfl (Try.runUnderlying50 _) (Try.sizeOf3 _) (by omega) (by rw [List.length_map]; omega)).as (v' := slAddr ve (u * 1)) rfl) <| pl_w (fun hst => v_load_sl1 (u := iv ((edgesL la lbb).getD u 0)) (i := u) (j := 0) (hst.ownAt (i := 1) rfl) (by rw [List.length_map]; omega) rfl (Try.isAgg3 _) (by rw [el_at (0 : Int)]; rfl)) ?_
    clear hfr hst
    intro a w6 hfr hst
    replace hfr : Fr 139 [(0, _), (1, _), (2, _), (3, _), (4, _), (10, _), (11, _), (12, _), (14, _), (13, _), (15, _), (17, _), (83, _), (91, _), (95, _)] [] a := hfr.pick [0, 1, 2, 3, 4, 10, 11, 12, 14, 13, 15, 17, 83, 91, 95]
    refine wl_nil ?_
    refine wd_lin (k := 15) 18 [17] ?_
    refine wly hfr (v_eq rfl rfl) fun a hfr => ?_
    refine wlv hfr (v_pick_t rfl rfl) fun a hfr => wlm hfr rfl fun a hfr => ?_
    refine wl_nil ?_
    rcases Decidable.em ((o.getD (o.length - 1) Blo.z).t = (edgesL la lbb).getD u 0) with hb10 | hb10
    ·rw [decide_eq_true hb10] at hfr
     refine wd_sub (k := 18) 26 [24, 25] hfr ?_
     replace hfr : Fr 139 [(0, _), (1, _), (2, _), (3, _), (4, _), (10, _), (11, _), (12, _), (14, _), (13, _), (15, _), (17, _), (83, _), (91, _), (95, _), (96, _), (97, _), (98, _)] [] a := hfr.pick [0, 1, 2, 3, 4, 10, 11, 12, 14, 13, 15, 17, 83, 91, 95, 96, 97, 98]
     refine dr_pl 8 hfr hst <| pl_m rfl <| pl_m rfl <| pl_v (v_sub rfl rfl ⟨by omega, by omega⟩) <| pl_v (v_max2 rfl rfl) <| pl_w (fun hst => (v_indexAddr_sl (i := max ((o.length : Int) - 1) 0) (sT := 28) (hst.ownAt (i := 0) rfl) rfl rfl (Try.runUnderlying28 _) (Try.sizeOf77 _) (by omega) (by rw [List.length_map]; omega)).as (v' := slAddr v ((o.length - 1) * 3)) (by rw [show (max ((o.length : Int) - 1) 0).toNat = (o.length - 1) from by omega])) <| pl_w (fun hst => v_fieldAddr_sl (k := (o.length - 1) * 3) (j := 2) (hst.ownAt (i := 0) rfl) (i := (o.length - 1)) (by rw [List.length_map]; omega) rfl (fun _ _ => by kernel_rfl)) <| pl_w (fun hst => v_load_sl1 (u := iv ((o.getD (o.length - 1) Blo.z).c)) (i := (o.length - 1)) (j := 2) (hst.ownAt (i := 0) rfl) (by rw [List.length_map]; omega) rfl (Try.isAgg3 _) (by rw [el_at Blo.z]; rfl)) <| pl_m rfl ?_
     clear hfr hst
     intro a w7 hfr hst
     replace hfr : Fr 139 [(0, _), (1, _), (2, _), (3, _), (4, _), (10, _), (11, _), (12, _), (14, _), (13, _), (15, _), (17, _), (98, _), (105, _), (106, _)] [] a := hfr.pick [0, 1, 2, 3, 4, 10, 11, 12, 14, 13, 15, 17, 98, 105, 106]
     refine wl_nil ?_
     refine wd_lin (k := 26) 28 [27] ?_
     refine wly hfr (v_eq rfl rfl) fun a hfr => ?_
     refine wlv hfr (v_pick_t rfl rfl) fun a hfr => ?_
     refine wl_nil ?_
     refine wd_end ?_
     refine hK26 _ _ ?_
     refine wc_cond_d hfr rfl (fun hc11 => ?_) (fun hc11 => ?_)
     ·refine wc_region ?_
      refine wlm hfr rfl fun a hfr => wlm hfr rfl fun a hfr => ?_
      refine wlv hfr (v_sub rfl rfl ⟨by omega, by omega⟩) fun a hfr => wlm hfr rfl fun a hfr => wlm hfr rfl fun a hfr => ?_
      refine wlv hfr (v_add rfl rfl ⟨by omega, by omega⟩) fun a hfr => ?_
      refine wlv hfr ((v_indexAddr_sl (i := (u : Int) + 1) (sT := 50) (hst.ownAt (i := 1) rfl) rfl rfl (Try.runUnderlying50 _) (Try.sizeOf3 _) (by omega) (by rw [List.length_map]; omega)).as (v' := slAddr ve ((u + 1) * 1)) (by rw [show ((u : Int) + 1).toNat = (u + 1) from by omega])) fun a hfr => ?_
      refine wlv hfr (v_load_sl1 (u := iv ((edgesL la lbb).getD (u + 1) 0)) (i := (u + 1)) (j := 0) (hst.ownAt (i := 1) rfl) (by rw [List.length_map]; omega) rfl (Try.isAgg3 _) (by rw [el_at (0 : Int)]; rfl)) fun a hfr => ?_
      refine wlv hfr ((v_indexAddr_sl (i := (o.length : Int) - 1) (sT := 28) (hst.ownAt (i := 0) rfl) rfl rfl (Try.runUnderlying28 _) (Try.sizeOf77 _) (by omega) (by rw [List.length_map]; omega)).as (v' := slAddr v ((o.length - 1) * 3)) (by rw [show ((o.length : Int) - 1).toNat = (o.length - 1) from by omega])) fun a hfr => ?_
      refine wlv hfr (v_fieldAddr_sl (k := (o.length - 1) * 3) (j := 0) (hst.ownAt (i := 0) rfl) (i := (o.length - 1)) (by rw [List.length_map]; omega) rfl (fun _ _ => by kernel_rfl)) fun a hfr => ?_
      refine wlv hfr (v_fieldAddr_sl (k := (o.length - 1) * 3 + 0) (j := 1) (hst.ownAt (i := 0) rfl) (i := (o.length - 1)) (by rw [List.length_map]; omega) rfl (fun _ _ => by kernel_rfl)) fun a hfr => ?_
      refine wl_store_own (k := o.length - 1) (j := 1) 0 hfr hst rfl rfl rfl (by rw [List.length_map]; omega) (by omega) (Try.sizeOf3 _) (by simp [Value.oneCell', Value.cells]) (lb rfl) (els' := ((o.dropLast ++ [(⟨(o.getD (o.length - 1) Blo.z).f, (edgesL la lbb).getD (u + 1) 0, (o.getD (o.length - 1) Blo.z).c⟩ : Blo)]).map Blo.cells)) (blo_join (by omega) _) rfl ?_
      clear hfr hst
      intro a w8 hfr hst
      refine wl_nil ?_
      refine hK8 _ _ ?_
      replace hfr : Fr 139 [(0, _), (1, _), (2, _), (3, _), (4, _), (10, _), (11, _), (12, _), (14, _), (13, _)] [] a := hfr.pick [0, 1, 2, 3, 4, 10, 11, 12, 14, 13]
      refine wc_region ?_
      refine wlm hfr rfl fun a hfr => ?_
      refine wlv hfr (v_add rfl rfl ⟨by omega, by omega⟩) fun a hfr => wla hfr rfl fun a hfr => ?_
      refine wl_nil ?_
      refine ⟨_, ?_, u + 1, v, (o.dropLast ++ [(⟨(o.getD (o.length - 1) Blo.z).f, (edgesL la lbb).getD (u + 1) 0, (o.getD (o.length - 1) Blo.z).c⟩ : Blo)]), pre ++ [⟨(edgesL la lbb).getD u 0, (edgesL la lbb).getD (u + 1) 0, hold la ((edgesL la lbb).getD u 0), hold lbb ((edgesL la lbb).getD u 0)⟩], rfl, (by omega), (NxP.snoc hnx), (by rw [outP_next ho hk9, stepB_join (by omega) (by omega) (by omega) (by omega)]), hfr.pick [0, 1, 2, 3, 4, 10, 11, 12, 14, 13], hst.select [0, 1] (by decide)⟩
      omega
     refine wc_of_dr (dr_of_wd fun w9 hxz => ?_)
     replace hst := hst.grow hxz
     refine wd_sub (k := 0) 14 [0, 13] hfr ?_
     replace hfr : Fr 139 [(0, _), (1, _), (2, _), (3, _), (4, _), (10, _), (11, _), (12, _), (14, _), (13, _), (15, _), (17, _), (98, _), (105, _), (106, _)] [] a := hfr.pick [0, 1, 2, 3, 4, 10, 11, 12, 14, 13, 15, 17, 98, 105, 106]
     refine wc_phases_q [13] (fun i => match i with | 13 => pm (fun b : Nat => .slice (some ⟨b, 0, none⟩) 1 1) (fun b => [own (.slice (some ⟨b, 0, none⟩) 1 1) 77 3 [[iv ((edgesL la lbb).getD u 0), iv ((edgesL la lbb).getD (u + 1) 0), iv (hold la ((edgesL la lbb).getD u 0))]]]) (fun _ => True) | _ => fun _ _ => False) 14 [[], [], [], [1, 2], [3], [], [], [6], [5, 7], [8], [4, 9], [], [10, 11], [12]] [v, ve, iv (u : Int), slAddr ve (u * 1), iv ((edgesL la lbb).getD u 0), ve, iv (u : Int), iv ((u : Int) + 1), slAddr ve ((u + 1) * 1), iv ((edgesL la lbb).getD (u + 1) 0), .agg #[iv ((edgesL la lbb).getD u 0), iv ((edgesL la lbb).getD (u + 1) 0)], iv (hold la ((edgesL la lbb).getD u 0)), .agg #[iv ((edgesL la lbb).getD u 0), iv ((edgesL la lbb).getD (u + 1) 0), iv (hold la ((edgesL la lbb).getD u 0))], undef] hfr hst ?_ ?_ ?_
     ·intro i hi hiq
      match i, hi, hiq with
      | 0, _, _ =>
       intro w hst
       exact OpV.g (v_move rfl)
      | 1, _, _ =>
       intro w hst
       exact OpV.g (v_move rfl)
      | 2, _, _ =>
       intro w hst
       exact OpV.g (v_move rfl)
      | 3, _, _ =>
       intro w hst
       exact OpV.g ((v_indexAddr_sl (i := (u : Int)) (sT := 50) (hst.ownAt (i := 1) rfl) rfl rfl (Try.runUnderlying50 _) (Try.sizeOf3 _) (by omega) (by rw [List.length_map]; omega)).as (v' := slAddr ve (u * 1)) rfl)
      | 4, _, _ =>
       intro w hst
       exact OpV.g (v_load_sl1 (u := iv ((edgesL la lbb).getD u 0)) (i := u) (j := 0) (hst.ownAt (i := 1) rfl) (by rw [List.length_map]; omega) rfl (Try.isAgg3 _) (by rw [el_at (0 : Int)]; rfl))
      | 5, _, _ =>
       intro w hst
       exact OpV.g (v_move rfl)
      | 6, _, _ =>
       intro w hst
       exact OpV.g (v_move rfl)
      | 7, _, _ =>
       intro w hst
       exact OpV.g (v_add rfl rfl ⟨by omega, by omega⟩)
      | 8, _, _ =>
       intro w hst
       exact OpV.g ((v_indexAddr_sl (i := (u : Int) + 1) (sT := 50) (hst.ownAt (i := 1) rfl) rfl rfl (Try.runUnderlying50 _) (Try.sizeOf3 _) (by omega) (by rw [List.length_map]; omega)).as (v' := slAddr ve ((u + 1) * 1)) (by rw [show ((u : Int) + 1).toNat = (u + 1) from by omega]))
      | 9, _, _ =>
       intro w hst
       exact OpV.g (v_load_sl1 (u := iv ((edgesL la lbb).getD (u + 1) 0)) (i := (u + 1)) (j := 0) (hst.ownAt (i := 1) rfl) (by rw [List.length_map]; omega) rfl (Try.isAgg3 _) (by rw [el_at (0 : Int)]; rfl))
      | 10, _, _ =>
       intro w hst
       exact OpV.g (v_build (v := .agg #[iv ((edgesL la lbb).getD u 0), iv ((edgesL la lbb).getD (u + 1) 0)]) rfl (by kernel_rfl))
      | 11, _, _ =>
       intro w hst
       exact OpV.g (v_move rfl)
      | 12, _, _ =>
       intro w hst
       exact OpV.g (v_build (v := .agg #[iv ((edgesL la lbb).getD u 0), iv ((edgesL la lbb).getD (u + 1) 0), iv (hold la ((edgesL la lbb).getD u 0))]) rfl (by kernel_rfl))
      | 13, _, h => exact absurd (by simp) h
      | i + 14, h, _ => exact absurd h (by omega)
     ·intro i hi
      simp only [List.mem_cons, List.not_mem_nil, or_false] at hi
      subst hi
      ·intro w hst
       exact g_buildSlice (E := 77) (sz := 3) rfl [[iv ((edgesL la lbb).getD u 0), iv ((edgesL la lbb).getD (u + 1) 0), iv (hold la ((edgesL la lbb).getD u 0))]] (fun _ => by kernel_rfl) (by simp) rfl (by decide)
     clear hfr hst
     rintro _ _ ⟨b12, rfl, -, rfl⟩ a w10 hfr hst
     replace hfr : Fr 139 [(120, v), (133, _), (0, _), (1, _), (2, _), (3, _), (4, _), (10, _), (11, _), (12, _), (14, _)] [] a := hfr.pick [120, 133, 0, 1, 2, 3, 4, 10, 11, 12, 14]
     replace hst : St No w0 [_, _, _] w10 := hst
     refine wl_nil ?_
     refine wd_lin (k := 14) 16 [15] ?_
     refine wl_append (i := 1) (sT := 28) (inf := Try.t77) (z := .agg #[iv 0, iv 0, iv 0]) (b := 0) (off := 0) (m := 0) (c := 0) rfl rfl rfl (hst.ownAt (i := 0) rfl) (by simp) Try.underlying28 rfl rfl rfl rfl (by decide) (by simp [Value.oneCell', yv, wv, sv]) (by have hby : Try.t77.bytes = 24 := rfl; simp [big, hby]; omega) (by have hby : Try.t77.bytes = 24 := rfl; simp [big, hby]; omega) (by decide) hfr hst fun a w11 s13 hfr hst _ => ?_
     refine wla hfr rfl fun a hfr => ?_
     refine wl_nil ?_
     refine wd_end ?_
     refine hK8 _ _ ?_
     replace hfr : Fr 139 [(0, _), (1, _), (2, _), (3, _), (4, _), (10, _), (11, _), (12, _), (14, _), (13, _)] [] a := hfr.pick [0, 1, 2, 3, 4, 10, 11, 12, 14, 13]
     replace hst : St No w0 [_, _] w11 := hst.mask [false, true, true]
     refine wc_region ?_
     refine wlm hfr rfl fun a hfr => ?_
     refine wlv hfr (v_add rfl rfl ⟨by omega, by omega⟩) fun a hfr => wla hfr rfl fun a hfr => ?_
     refine wl_nil ?_
     rw [show (o.map Blo.cells) ++ ([[iv ((edgesL la lbb).getD u 0), iv ((edgesL la lbb).getD (u + 1) 0), iv (hold la ((edgesL la lbb).getD u 0))]]) = ((o ++ [(⟨(edgesL la lbb).getD u 0, (edgesL la lbb).getD (u + 1) 0, hold la ((edgesL la lbb).getD u 0)⟩ : Blo)]).map Blo.cells) from by rw [List.map_append]; rfl] at hst
     refine ⟨_, ?_, u + 1, s13, (o ++ [(⟨(edgesL la lbb).getD u 0, (edgesL la lbb).getD (u + 1) 0, hold la ((edgesL la lbb).getD u 0)⟩ : Blo)]), pre ++ [⟨(edgesL la lbb).getD u 0, (edgesL la lbb).getD (u + 1) 0, hold la ((edgesL la lbb).getD u 0), hold lbb ((edgesL la lbb).getD u 0)⟩], rfl, (by omega), (NxP.snoc hnx), (by rw [outP_next ho hk9, stepB_new (by omega) (by omega)]), hfr.pick [0, 1, 2, 3, 4, 10, 11, 12, 14, 13], hst.select [0, 1] (by decide)⟩
     omega
    rw [decide_eq_false hb10] at hfr
    replace hfr : Fr 139 [(0, va), (1, vb), (2, iv 1), (3, iv (-1)), (4, iv (-1)), (10, .slice none 0 0), (11, iv 0), (12, ve), (14, iv (u : Int)), (13, v), (15, iv (hold la ((edgesL la lbb).getD u 0))), (17, iv (o.length : Int)), (83, .bool true), (91, iv ((o.getD (o.length - 1) Blo.z).t)), (95, iv ((edgesL la lbb).getD u 0)), (96, .bool false), (97, .bool false), (98, .bool false)] [] a := hfr.pick [0, 1, 2, 3, 4, 10, 11, 12, 14, 13, 15, 17, 83, 91, 95, 96, 97, 98]
    refine wd_skip (k := 18) 26 [24, 25] hfr fun a hfr => ?_
    replace hfr : Fr 139 [(99, undef), (100, undef), (101, undef), (102, undef), (103, undef), (104, undef), (105, undef), (106, undef), (0, va), (1, vb), (2, iv 1), (3, iv (-1)), (4, iv (-1)), (10, .slice none 0 0), (11, iv 0), (12, ve), (14, iv (u : Int)), (13, v), (15, iv (hold la ((edgesL la lbb).getD u 0))), (17, iv (o.length : Int)), (83, .bool true), (91, iv ((o.getD (o.length - 1) Blo.z).t)), (95, iv ((edgesL la lbb).getD u 0)), (96, .bool false), (97, .bool false), (98, .bool false)] [] a := hfr
    refine wd_lin (k := 26) 28 [27] ?_
    refine wln hfr fun a hfr => ?_
    refine wlv hfr (v_pick_f rfl rfl) fun a hfr => ?_
    refine wl_nil ?_
    refine wd_end ?_
    refine hK26 _ _ ?_
    replace hfr : Fr 139 [(0, _), (1, _), (2, _), (3, _), (4, _), (10, _), (11, _), (12, _), (14, _), (13, _), (15, _), (17, _), (108, _)] [] a := hfr.pick [0, 1, 2, 3, 4, 10, 11, 12, 14, 13, 15, 17, 108]
    refine wc_cond_f hfr rfl ?_
    refine wc_of_dr (dr_of_wd fun w12 hxz => ?_)
    replace hst := hst.grow hxz
    refine wd_sub (k := 0) 14 [0, 13] hfr ?_
    replace hfr : Fr 139 [(0, _), (1, _), (2, _), (3, _), (4, _), (10, _), (11, _), (12, _), (14, _), (13, _), (15, _), (17, _), (108, _)] [] a := hfr.pick [0, 1, 2, 3, 4, 10, 11, 12, 14, 13, 15, 17, 108]
    refine wc_phases_q [13] (fun i => match i with | 13 => pm (fun b : Nat => .slice (some ⟨b, 0, none⟩) 1 1) (fun b => [own (.slice (some ⟨b, 0, none⟩) 1 1) 77 3 [[iv ((edgesL la lbb).getD u 0), iv ((edgesL la lbb).getD (u + 1) 0), iv (hold la ((edgesL la lbb).getD u 0))]]]) (fun _ => True) | _ => fun _ _ => False) 14 [[], [], [], [1, 2], [3], [], [], [6], [5, 7], [8], [4, 9], [], [10, 11], [12]] [v, ve, iv (u : Int), slAddr ve (u * 1), iv ((edgesL la lbb).getD u 0), ve, iv (u : Int), iv ((u : Int) + 1), slAddr ve ((u + 1) * 1), iv ((edgesL la lbb).getD (u + 1) 0), .agg #[iv ((edgesL la lbb).getD u 0), iv ((edgesL la lbb).getD (u + 1) 0)], iv (hold la ((edgesL la lbb).getD u 0)), .agg #[iv ((edgesL la lbb).getD u 0), iv ((edgesL la lbb).getD (u + 1) 0), iv (hold la ((edgesL la lbb).getD u 0))], undef] hfr hst ?_ ?_ ?_
    ·intro i hi hiq
     match i, hi, hiq with
     | 0, _, _ =>
      intro w hst
      exact OpV.g (v_move rfl)
     | 1, _, _ =>
      intro w hst
      exact OpV.g (v_move rfl)
     | 2, _, _ =>
      intro w hst
      exact OpV.g (v_move rfl)
     | 3, _, _ =>
      intro w hst
      exact OpV.g ((v_indexAddr_sl (i := (u : Int)) (sT := 50) (hst.ownAt (i := 1) rfl) rfl rfl (Try.runUnderlying50 _) (Try.sizeOf3 _) (by omega) (by rw [List.length_map]; omega)).as (v' := slAddr ve (u * 1)) rfl)
     | 4, _, _ =>
      intro w hst
      exact OpV.g (v_load_sl1 (u := iv ((edgesL la lbb).getD u 0)) (i := u) (j := 0) (hst.ownAt (i := 1) rfl) (by rw [List.length_map]; omega) rfl (Try.isAgg3 _) (by rw [el_at (0 : Int)]; rfl))
     | 5, _, _ =>
      intro w hst
      exact OpV.g (v_move rfl)
     | 6, _, _ =>
      intro w hst
      exact OpV.g (v_move rfl)
     | 7, _, _ =>
      intro w hst
      exact OpV.g (v_add rfl rfl ⟨by omega, by omega⟩)
     | 8, _, _ =>
      intro w hst
      exact OpV.g ((v_indexAddr_sl (i := (u : Int) + 1) (sT := 50) (hst.ownAt (i := 1) rfl) rfl rfl (Try.runUnderlying50 _) (Try.sizeOf3 _) (by omega) (by rw [List.length_map]; omega)).as (v' := slAddr ve ((u + 1) * 1)) (by rw [show ((u : Int) + 1).toNat = (u + 1) from by omega]))
     | 9, _, _ =>
      intro w hst
      exact OpV.g (v_load_sl1 (u := iv ((edgesL la lbb).getD (u + 1) 0)) (i := (u + 1)) (j := 0) (hst.ownAt (i := 1) rfl) (by rw [List.length_map]; omega) rfl (Try.isAgg3 _) (by rw [el_at (0 : Int)]; rfl))
     | 10, _, _ =>
      intro w hst
      exact OpV.g (v_build (v := .agg #[iv ((edgesL la lbb).getD u 0), iv ((edgesL la lbb).getD (u + 1) 0)]) rfl (by kernel_rfl))
     | 11, _, _ =>
      intro w hst
      exact OpV.g (v_move rfl)
     | 12, _, _ =>
      intro w hst
      exact OpV.g (v_build (v := .agg #[iv ((edgesL la lbb).getD u 0), iv ((edgesL la lbb).getD (u + 1) 0), iv (hold la ((edgesL la lbb).getD u 0))]) rfl (by kernel_rfl))
     | 13, _, h => exact absurd (by simp) h
     | i + 14, h, _ => exact absurd h (by omega)
    ·intro i hi
     simp only [List.mem_cons, List.not_mem_nil, or_false] at hi
     subst hi
     ·intro w hst
      exact g_buildSlice (E := 77) (sz := 3) rfl [[iv ((edgesL la lbb).getD u 0), iv ((edgesL la lbb).getD (u + 1) 0), iv (hold la ((edgesL la lbb).getD u 0))]] (fun _ => by kernel_rfl) (by simp) rfl (by decide)
    clear hfr hst
    rintro _ _ ⟨b14, rfl, -, rfl⟩ a w13 hfr hst
    replace hfr : Fr 139 [(120, v), (133, _), (0, _), (1, _), (2, _), (3, _), (4, _), (10, _), (11, _), (12, _), (14, _)] [] a := hfr.pick [120, 133, 0, 1, 2, 3, 4, 10, 11, 12, 14]
    replace hst : St No w0 [_, _, _] w13 := hst
    refine wl_nil ?_
    refine wd_lin (k := 14) 16 [15] ?_
    refine wl_append (i := 1) (sT := 28) (inf := Try.t77) (z := .agg #[iv 0, iv 0, iv 0]) (b := 0) (off := 0) (m := 0) (c := 0) rfl rfl rfl (hst.ownAt (i := 0) rfl) (by simp) Try.underlying28 rfl rfl rfl rfl (by decide) (by simp [Value.oneCell', yv, wv, sv]) (by have hby : Try.t77.bytes = 24 := rfl; simp [big, hby]; omega) (by have hby : Try.t77.bytes = 24 := rfl; simp [big, hby]; omega) (by decide) hfr hst fun a w14 s15 hfr hst _ => ?_
    refine wla hfr rfl fun a hfr => ?_
    refine wl_nil ?_
    refine wd_end ?_
    refine hK8 _ _ ?_
    replace hfr : Fr 139 [(0, _), (1, _), (2, _), (3, _), (4, _), (10, _), (11, _), (12, _), (14, _), (13, _)] [] a := hfr.pick [0, 1, 2, 3, 4, 10, 11, 12, 14, 13]
    replace hst : St No w0 [_, _] w14 := hst.mask [false, true, true]
    refine wc_region ?_
    refine wlm hfr rfl fun a hfr => ?_
    refine wlv hfr (v_add rfl rfl ⟨by omega, by omega⟩) fun a hfr => wla hfr rfl fun a hfr => ?_
    refine wl_nil ?_
    rw [show (o.map Blo.cells) ++ ([[iv ((edgesL la lbb).getD u 0), iv ((edgesL la lbb).getD (u + 1) 0), iv (hold la ((edgesL la lbb).getD u 0))]]) = ((o ++ [(⟨(edgesL la lbb).getD u 0, (edgesL la lbb).getD (u + 1) 0, hold la ((edgesL la lbb).getD u 0)⟩ : Blo)]).map Blo.cells) from by rw [List.map_append]; rfl] at hst
    refine ⟨_, ?_, u + 1, s15, (o ++ [(⟨(edgesL la lbb).getD u 0, (edgesL la lbb).getD (u + 1) 0, hold la ((edgesL la lbb).getD u 0)⟩ : Blo)]), pre ++ [⟨(edgesL la lbb).getD u 0, (edgesL la lbb).getD (u + 1) 0, hold la ((edgesL la lbb).getD u 0), hold lbb ((edgesL la lbb).getD u 0)⟩], rfl, (by omega), (NxP.snoc hnx), (by rw [outP_next ho hk9, stepB_new (by omega) (by omega)]), hfr.pick [0, 1, 2, 3, 4, 10, 11, 12, 14, 13], hst.select [0, 1] (by decide)⟩
    omega
   rw [decide_eq_false hb9] at hfr
   replace hfr : Fr 139 [(0, va), (1, vb), (2, iv 1), (3, iv (-1)), (4, iv (-1)), (10, .slice none 0 0), (11, iv 0), (12, ve), (14, iv (u : Int)), (13, v), (15, iv (hold la ((edgesL la lbb).getD u 0))), (77, iv (hold la ((edgesL la lbb).getD u 0))), (79, v), (80, iv (o.length : Int)), (17, iv (o.length : Int)), (81, iv (o.length : Int)), (82, .bool false), (83, .bool false)] [] a := hfr.pick [0, 1, 2, 3, 4, 10, 11, 12, 14, 13, 15, 77, 79, 80, 17, 81, 82, 83]
   refine wd_skip (k := 3) 15 [10, 14] hfr fun a hfr => ?_
   replace hfr : Fr 139 [(84, undef), (85, undef), (86, undef), (87, undef), (88, undef), (89, undef), (90, undef), (91, undef), (92, undef), (93, undef), (94, undef), (95, undef), (0, va), (1, vb), (2, iv 1), (3, iv (-1)), (4, iv (-1)), (10, .slice none 0 0), (11, iv 0), (12, ve), (14, iv (u : Int)), (13, v), (15, iv (hold la ((edgesL la lbb).getD u 0))), (77, iv (hold la ((edgesL la lbb).getD u 0))), (79, v), (80, iv (o.length : Int)), (17, iv (o.length : Int)), (81, iv (o.length : Int)), (82, .bool false), (83, .bool false)] [] a := hfr
   refine wd_lin (k := 15) 18 [17] ?_
   refine wln hfr fun a hfr => ?_
   refine wlv hfr (v_pick_f rfl rfl) fun a hfr => wlm hfr rfl fun a hfr => ?_
   refine wl_nil ?_
   replace hfr : Fr 139 [(84, undef), (85, undef), (86, undef), (87, undef), (88, undef), (89, undef), (90, undef), (91, undef), (92, undef), (93, undef), (94, undef), (95, undef), (0, va), (1, vb), (2, iv 1), (3, iv (-1)), (4, iv (-1)), (10, .slice none 0 0), (11, iv 0), (12, ve), (14, iv (u : Int)), (13, v), (15, iv (hold la ((edgesL la lbb).getD u 0))), (77, iv (hold la ((edgesL la lbb).getD u 0))), (79, v), (80, iv (o.length : Int)), (17, iv (o.length : Int)), (81, iv (o.length : Int)), (82, .bool false), (83, .bool false), (96, undef), (97, .bool false), (98, .bool false)] [] a := hfr.pick [84, 85, 86, 87, 88, 89, 90, 91, 92, 93, 94, 95, 0, 1, 2, 3, 4, 10, 11, 12, 14, 13, 15, 77, 79, 80, 17, 81, 82, 83, 96, 97, 98]
   refine wd_skip (k := 18) 26 [24, 25] hfr fun a hfr => ?_
   replace hfr : Fr 139 [(99, undef), (100, undef), (101, undef), (102, undef), (103, undef), (104, undef), (105, undef), (106, undef), (84, undef), (85, undef), (86, undef), (87, undef), (88, undef), (89, undef), (90, undef), (91, undef), (92, undef), (93, undef), (94, undef), (95, undef), (0, va), (1, vb), (2, iv 1), (3, iv (-1)), (4, iv (-1)), (10, .slice none 0 0), (11, iv 0), (12, ve), (14, iv (u : Int)), (13, v), (15, iv (hold la ((edgesL la lbb).getD u 0))), (77, iv (hold la ((edgesL la lbb).getD u 0))), (79, v), (80, iv (o.length : Int)), (17, iv (o.length : Int)), (81, iv (o.length : Int)), (82, .bool false), (83, .bool false), (96, undef), (97, .bool false), (98, .bool false)] [] a := hfr
   refine wd_lin (k := 26) 28 [27] ?_
   refine wln hfr fun a hfr => ?_
   refine wlv hfr (v_pick_f rfl rfl) fun a hfr => ?_
   refine wl_nil ?_
   refine wd_end ?_
   refine hK26 _ _ ?_
   replace hfr : Fr 139 [(0, _), (1, _), (2, _), (3, _), (4, _), (10, _), (11, _), (12, _), (14, _), (13, _), (15, _), (17, _), (108, _)] [] a := hfr.pick [0, 1, 2, 3, 4, 10, 11, 12, 14, 13, 15, 17, 108]
   refine wc_cond_f hfr rfl ?_
   refine wc_of_dr (dr_of_wd fun w15 hxz => ?_)
   replace hst := hst.grow hxz
   refine wd_sub (k := 0) 14 [0, 13] hfr ?_
   replace hfr : Fr 139 [(0, _), (1, _), (2, _), (3, _), (4, _), (10, _), (11, _), (12, _), (14, _), (13, _), (15, _), (17, _), (108, _)] [] a := hfr.pick [0, 1, 2, 3, 4, 10, 11, 12, 14, 13, 15, 17, 108]
   refine wc_phases_q [13] (fun i => match i with | 13 => pm (fun b : Nat => .slice (some ⟨b, 0, none⟩) 1 1) (fun b => [own (.slice (some ⟨b, 0, none⟩) 1 1) 77 3 [[iv ((edgesL la lbb).getD u 0), iv ((edgesL la lbb).getD (u + 1) 0), iv (hold la ((edgesL la lbb).getD u 0))]]]) (fun _ => True) | _ => fun _ _ => False) 14 [[], [], [], [1, 2], [3], [], [], [6], [5, 7], [8], [4, 9], [], [10, 11], [12]] [v, ve, iv (u : Int), slAddr ve (u * 1), iv ((edgesL la lbb).getD u 0), ve, iv (u : Int), iv ((u : Int) + 1), slAddr ve ((u + 1) * 1), iv ((edgesL la lbb).getD (u + 1) 0), .agg #[iv ((edgesL la lbb).getD u 0), iv ((edgesL la lbb).getD (u + 1) 0)], iv (hold la ((edgesL la lbb).getD u 0)), .agg #[iv ((edgesL la lbb).getD u 0), iv ((edgesL la lbb).getD (u + 1) 0), iv (hold la ((edgesL la lbb).getD u 0))], undef] hfr hst ?_ ?_ ?_
   ·intro i hi hiq
    match i, hi, hiq with
    | 0, _, _ =>
     intro w hst
     exact OpV.g (v_move rfl)
    | 1, _, _ =>
     intro w hst
     exact OpV.g (v_move rfl)
    | 2, _, _ =>
     intro w hst
     exact OpV.g (v_move rfl)
    | 3, _, _ =>
     intro w hst
     exact OpV.g ((v_indexAddr_sl (i := (u : Int)) (sT := 50) (hst.ownAt (i := 1) rfl) rfl rfl (Try.runUnderlying50 _) (Try.sizeOf3 _) (by omega) (by rw [List.length_map]; omega)).as (v' := slAddr ve (u * 1)) rfl)
    | 4, _, _ =>
     intro w hst
     exact OpV.g (v_load_sl1 (u := iv ((edgesL la lbb).getD u 0)) (i := u) (j := 0) (hst.ownAt (i := 1) rfl) (by rw [List.length_map]; omega) rfl (Try.isAgg3 _) (by rw [el_at (0 : Int)]; rfl))
    | 5, _, _ =>
     intro w hst
     exact OpV.g (v_move rfl)
    | 6, _, _ =>
     intro w hst
     exact OpV.g (v_move rfl)
    | 7, _, _ =>
     intro w hst
     exact OpV.g (v_add rfl rfl ⟨by omega, by omega⟩)
    | 8, _, _ =>
     intro w hst
     exact OpV.g ((v_indexAddr_sl (i := (u : Int) + 1) (sT := 50) (hst.ownAt (i := 1) rfl) rfl rfl (Try.runUnderlying50 _) (Try.sizeOf3 _) (by omega) (by rw [List.length_map]; omega)).as (v' := slAddr ve ((u + 1) * 1)) (by rw [show ((u : Int) + 1).toNat = (u + 1) from by omega]))
    | 9, _, _ =>
     intro w hst
     exact OpV.g (v_load_sl1 (u := iv ((edgesL la lbb).getD (u + 1) 0)) (i := (u + 1)) (j := 0) (hst.ownAt (i := 1) rfl) (by rw [List.length_map]; omega) rfl (Try.isAgg3 _) (by rw [el_at (0 : Int)]; rfl))
    | 10, _, _ =>
     intro w hst
     exact OpV.g (v_build (v := .agg #[iv ((edgesL la lbb).getD u 0), iv ((edgesL la lbb).getD (u + 1) 0)]) rfl (by kernel_rfl))
    | 11, _, _ =>
     intro w hst
     exact OpV.g (v_move rfl)
    | 12, _, _ =>
     intro w hst
     exact OpV.g (v_build (v := .agg #[iv ((edgesL la lbb).getD u 0), iv ((edgesL la lbb).getD (u + 1) 0), iv (hold la ((edgesL la lbb).getD u 0))]) rfl (by kernel_rfl))
    | 13, _, h => exact absurd (by simp) h
    | i + 14, h, _ => exact absurd h (by omega)
   ·intro i hi
    simp only [List.mem_cons, List.not_mem_nil, or_false] at hi
    subst hi
    ·intro w hst
     exact g_buildSlice (E := 77) (sz := 3) rfl [[iv ((edgesL la lbb).getD u 0), iv ((edgesL la lbb).getD (u + 1) 0), iv (hold la ((edgesL la lbb).getD u 0))]] (fun _ => by kernel_rfl) (by simp) rfl (by decide)
   clear hfr hst
   rintro _ _ ⟨b16, rfl, -, rfl⟩ a w16 hfr hst
   replace hfr : Fr 139 [(120, v), (133, _), (0, _), (1, _), (2, _), (3, _), (4, _), (10, _), (11, _), (12, _), (14, _)] [] a := hfr.pick [120, 133, 0, 1, 2, 3, 4, 10, 11, 12, 14]
   replace hst : St No w0 [_, _, _] w16 := hst
   refine wl_nil ?_
   refine wd_lin (k := 14) 16 [15] ?_
   refine wl_append (i := 1) (sT := 28) (inf := Try.t77) (z := .agg #[iv 0, iv 0, iv 0]) (b := 0) (off := 0) (m := 0) (c := 0) rfl rfl rfl (hst.ownAt (i := 0) rfl) (by simp) Try.underlying28 rfl rfl rfl rfl (by decide) (by simp [Value.oneCell', yv, wv, sv]) (by have hby : Try.t77.bytes = 24 := rfl; simp [big, hby]; omega) (by have hby : Try.t77.bytes = 24 := rfl; simp [big, hby]; omega) (by decide) hfr hst fun a w17 s17 hfr hst _ => ?_
   refine wla hfr rfl fun a hfr => ?_
   refine wl_nil ?_
   refine wd_end ?_
   refine hK8 _ _ ?_
   replace hfr : Fr 139 [(0, _), (1, _), (2, _), (3, _), (4, _), (10, _), (11, _), (12, _), (14, _), (13, _)] [] a := hfr.pick [0, 1, 2, 3, 4, 10, 11, 12, 14, 13]
   replace hst : St No w0 [_, _] w17 := hst.mask [false, true, true]
   refine wc_region ?_
   refine wlm hfr rfl fun a hfr => ?_
   refine wlv hfr (v_add rfl rfl ⟨by omega, by omega⟩) fun a hfr => wla hfr rfl fun a hfr => ?_
   refine wl_nil ?_
   rw [show (o.map Blo.cells) ++ ([[iv ((edgesL la lbb).getD u 0), iv ((edgesL la lbb).getD (u + 1) 0), iv (hold la ((edgesL la lbb).getD u 0))]]) = ((o ++ [(⟨(edgesL la lbb).getD u 0, (edgesL la lbb).getD (u + 1) 0, hold la ((edgesL la lbb).getD u 0)⟩ : Blo)]).map Blo.cells) from by rw [List.map_append]; rfl] at hst
   refine ⟨_, ?_, u + 1, s17, (o ++ [(⟨(edgesL la lbb).getD u 0, (edgesL la lbb).getD (u + 1) 0, hold la ((edgesL la lbb).getD u 0)⟩ : Blo)]), pre ++ [⟨(edgesL la lbb).getD u 0, (edgesL la lbb).getD (u + 1) 0, hold la ((edgesL la lbb).getD u 0), hold lbb ((edgesL la lbb).getD u 0)⟩], rfl, (by omega), (NxP.snoc hnx), (by rw [outP_next ho hk9, stepB_new (by omega) (by omega)]), hfr.pick [0, 1, 2, 3, 4, 10, 11, 12, 14, 13], hst.select [0, 1] (by decide)⟩
   omega
  rw [decide_eq_false hb6] at hfr
  refine wln hfr fun a hfr => ?_
  refine wln hfr fun a hfr => ?_
  refine wln hfr fun a hfr => ?_
  refine wlv hfr (v_pick_f rfl rfl) fun a hfr => ?_
  refine wl_nil (hK22 _ _ ?_)
  replace hfr : Fr 139 [(0, _), (1, _), (2, _), (3, _), (4, _), (10, _), (11, _), (12, _), (14, _), (13, _), (15, _), (75, _)] [] a := hfr.pick [0, 1, 2, 3, 4, 10, 11, 12, 14, 13, 15, 75]
  refine wc_cond_f hfr rfl ?_
  refine wc_skip ?_
  refine hK21 _ _ ?_
  refine wc_seq_k fun K27 hK27 => ?_
  refine wc_seq_region fun K28 hK28 => ?_
  refine wlm hfr rfl fun a hfr => ?_
  refine wlv hfr (v_lt rfl rfl) fun a hfr => ?_
  refine wl_nil (hK28 _ _ ?_)
  refine wc_cond_d hfr rfl (fun hc18 => ?_) (fun hc18 => ?_)
  ·refine wc_exit ?_
   refine hK8 _ _ ?_
   refine wc_region ?_
   refine wlm hfr rfl fun a hfr => ?_
   refine wlv hfr (v_add rfl rfl ⟨by omega, by omega⟩) fun a hfr => wla hfr rfl fun a hfr => ?_
   refine wl_nil ?_
   refine ⟨_, ?_, u + 1, v, o, pre ++ [⟨(edgesL la lbb).getD u 0, (edgesL la lbb).getD (u + 1) 0, hold la ((edgesL la lbb).getD u 0), hold lbb ((edgesL la lbb).getD u 0)⟩], rfl, (by omega), (NxP.snoc hnx), (by rw [outP_next ho hk9, stepB_skip (by omega)]), hfr.pick [0, 1, 2, 3, 4, 10, 11, 12, 14, 13], hst.select [0, 1] (by decide)⟩
   omega
  omega
 have hpc9 : Pcs la lbb pre 100000000 := by have h9 := hpc; rw [edges_last hoa hob hi (by omega)] at h9; exact h9
 have hmk : mapOk o = true := ho ▸ hln _ hpc9
 refine wc_exit ?_
 refine hK4 _ _ ?_
 refine wc_seq_k fun K29 hK29 => ?_
 refine wc_seq_region fun K30 hK30 => ?_
 refine wlm hfr rfl fun a hfr => ?_
 refine wl_callp hfr hst Try.call41 rfl (rmap_ok v o _ (hst.ownAt (i := 0) rfl)) ?_
 clear hfr hst
 intro a w18 hfr hst
 refine wlv hfr (v_not rfl) fun a hfr => ?_
 refine wl_nil (hK30 _ _ ?_)
 replace hfr : Fr 139 [(10, _), (11, _), (13, _), (137, _)] [] a := hfr.pick [10, 11, 13, 137]
 refine wc_cond hfr rfl (fun hc19 => ?_) (fun hc19 => ?_)
 ·try simp only [qz] at hc19
  rw [hmk] at hc19; cases hc19
 try simp only [qz] at hc19
 refine wc_skip ?_
 refine hK29 _ _ ?_
 refine wc_seq_region fun K31 hK31 => ?_
 refine wlm hfr rfl fun a hfr => wla hfr rfl fun a hfr => wla hfr rfl fun a hfr => ?_
 refine wl_nil (hK31 _ _ ?_)
 refine wc_ret ?_
 refine fin_ret hfr Try.results44 (resAre_tmp rfl (resAre_tmp rfl resAre_nil)) ?_
 exact ⟨(v, pre), rfl, hpc9, hst.ext, by subst ho; exact St.out (E := [own v 77 3 ((outP awayX pre).map Blo.cells)]) (H := []) (hst.select [0] (by decide))⟩
end Go.Proofs.Ytnfnkohkcmkddaa
namespace Go.Proofs.Ytnfnkohkcmkddaa
open Go.RowKit Go.PW
set_option linter.unusedVariables false
set_option linter.unusedSimpArgs false
set_option maxRecDepth 4000
theorem rgive_ok (lv : Value) (l : List Blo) (f t k : Int) (w0 : World) (hlv : SlAt w0 lv 3 (l.map Blo.cells)) (hok : mapOk l = true) (hln : l.length ≤ 38) (hr : rngB f t = true) (hc : isIn k 0 7 = true) :
  Ret Try.prog 25 #[lv, .agg #[iv f, iv t], iv k] w0 (MemR w0 (fun z : Value × List Blo => .tuple #[z.1, iv 0]) (fun z => [own z.1 77 3 (z.2.map Blo.cells)]) (fun z => Gives l f t k z.2)) := by
 have hoa : okF 0 (-1) l = true := (mapOk_iff hok).1
 have hob := ok_one hr hc
 refine ret_of Try.func25 rfl Try.ntmps25 (lb rfl) fun a hfr => ?_
 replace hfr : Fr 28 [(0, _), (1, _), (2, _)] [] a := hfr
 replace hst : St No w0 [] w0 := St.init w0
 refine wc_seq_region fun K1 hK1 => ?_
 refine wl_box hfr hst rfl [iv f, iv t] rfl ?_
 clear hfr hst
 intro a w1 hfr hst
 refine wla hfr rfl fun a hfr => wla hfr rfl fun a hfr => ?_
 refine wl_nil (hK1 _ _ ?_)
 refine wc_seq_k fun K2 hK2 => ?_
 refine wc_seq_region fun K3 hK3 => ?_
 refine wlm hfr rfl fun a hfr => ?_
 refine wl_callp hfr hst Try.call41 rfl (rmap_ok lv l _ (hst.arg hlv)) ?_
 clear hfr hst
 intro a w2 hfr hst
 refine wlv hfr (v_not rfl) fun a hfr => wlm hfr rfl fun a hfr => ?_
 rcases Bool.eq_false_or_eq_true (!(mapOk l)) with hb1 | hb1
 ·rw [hb1] at hfr
  try simp only [qz] at hb1
  simp_all
 rw [hb1] at hfr
 try simp only [qz] at hb1
 refine wly hfr (v_load_all (hst.get (k := 0) rfl) rfl (Try.isAgg49 _) (Try.sizeOf49 _)) fun a hfr => ?_
 refine wl_callpy hfr hst Try.call42 rfl (rRange_ok f t _) ?_
 clear hfr hst
 intro a w3 hfr hst
 refine wly hfr (v_not rfl) fun a hfr => ?_
 refine wlv hfr (v_pick_f rfl rfl) fun a hfr => wlm hfr rfl fun a hfr => ?_
 rcases Bool.eq_false_or_eq_true (!(rngB f t)) with hb2 | hb2
 ·rw [hb2] at hfr
  try simp only [qz] at hb2
  simp_all
 rw [hb2] at hfr
 try simp only [qz] at hb2
 refine wly hfr (v_move rfl) fun a hfr => ?_
 refine wl_callpy hfr hst Try.call43 rfl (rCarrier_ok k _) ?_
 clear hfr hst
 intro a w4 hfr hst
 refine wly hfr (v_not rfl) fun a hfr => ?_
 refine wlv hfr (v_pick_f rfl rfl) fun a hfr => ?_
 refine wl_nil (hK3 _ _ ?_)
 replace hfr : Fr 28 [(0, _), (2, _), (4, _), (6, _), (7, _), (20, _)] [] a := hfr.pick [0, 2, 4, 6, 7, 20]
 refine wc_cond hfr rfl (fun hc3 => ?_) (fun hc3 => ?_)
 ·try simp only [qz] at hc3
  simp_all
 try simp only [qz] at hc3
 refine wc_skip ?_
 refine hK2 _ _ ?_
 refine wc_seq_region fun K4 hK4 => ?_
 refine wlm hfr rfl fun a hfr => ?_
 refine wlv hfr (v_load_all (hst.get (k := 0) rfl) rfl (Try.isAgg49 _) (Try.sizeOf49 _)) fun a hfr => wlm hfr rfl fun a hfr => ?_
 refine wl_callm hfr hst Try.call45 rfl (one_ok f t k _) ?_
 clear hfr hst
 intro a w5 x5 hp hfr hst
 revert x5 hp hfr hst; rintro v4 hp hfr hst
 clear hp
 replace hst : St No w0 [own v4 77 3 (([(⟨f, t, k⟩ : Blo)]).map Blo.cells), blk w0.heap.size [iv f, iv t] 49] w5 := hst
 refine wl_callm hfr hst Try.call44 rfl (rcomb_overX lv v4 l ([(⟨f, t, k⟩ : Blo)]) _ (hst.arg hlv) (hst.ownAt (i := 0) rfl) (by omega) (lb rfl) hoa hob (fun xs hx => mapOk_of (gives_over hoa hr hc hx).1 (by have h9 := (gives_over hoa hr hc hx).2.1; omega))) ?_
 clear hfr hst
 intro a w6 x8 hp hfr hst
 obtain ⟨v6, ps7⟩ := x8
 have hpc := hp
 replace hst : St No w0 [own v6 77 3 ((outP overX ps7).map Blo.cells), own v4 77 3 (([(⟨f, t, k⟩ : Blo)]).map Blo.cells), blk w0.heap.size [iv f, iv t] 49] w6 := hst
 refine wlv hfr (v_extract rfl rfl) fun a hfr => ?_
 refine wlv hfr (v_extract rfl rfl) fun a hfr => wla hfr rfl fun a hfr => wla hfr rfl fun a hfr => ?_
 refine wl_nil (hK4 _ _ ?_)
 replace hfr : Fr 28 [(6, _), (7, _)] [] a := hfr.pick [6, 7]
 replace hst : St No w0 [_] w6 := hst.mask [true, false, false]
 refine wc_ret ?_
 refine fin_ret hfr Try.results25 (resAre_tmp rfl (resAre_tmp rfl resAre_nil)) ?_
 exact ⟨(v6, _), rfl, gives_over hoa hr hc hpc, hst.ext, St.out (E := [own _ 77 3 (List.map Blo.cells _)]) (H := []) (hst.select [0] (by decide))⟩
theorem rtake_ok (lv : Value) (l : List Blo) (f t : Int) (w0 : World) (hlv : SlAt w0 lv 3 (l.map Blo.cells)) (hok : mapOk l = true) (hln : l.length ≤ 38) (hr : rngB f t = true) :
  Ret Try.prog 26 #[lv, .agg #[iv f, iv t]] w0 (MemR w0 (fun z : Value × List Blo => .tuple #[z.1, iv 0]) (fun z => [own z.1 77 3 (z.2.map Blo.cells)]) (fun z => Gives l f t (-1) z.2)) := by
 have hoa : okF 0 (-1) l = true := (mapOk_iff hok).1
 have hob := ok_one hr (c := 0) (by decide)
 refine ret_of Try.func26 rfl Try.ntmps26 (lb rfl) fun a hfr => ?_
 replace hfr : Fr 20 [(0, _), (1, _)] [] a := hfr
 replace hst : St No w0 [] w0 := St.init w0
 refine wc_seq_region fun K1 hK1 => ?_
 refine wl_box hfr hst rfl [iv f, iv t] rfl ?_
 clear hfr hst
 intro a w1 hfr hst
 refine wla hfr rfl fun a hfr => wla hfr rfl fun a hfr => ?_
 refine wl_nil (hK1 _ _ ?_)
 refine wc_seq_k fun K2 hK2 => ?_
 refine wc_seq_region fun K3 hK3 => ?_
 refine wlm hfr rfl fun a hfr => ?_
 refine wl_callp hfr hst Try.call41 rfl (rmap_ok lv l _ (hst.arg hlv)) ?_
 clear hfr hst
 intro a w2 hfr hst
 refine wlv hfr (v_not rfl) fun a hfr => wlm hfr rfl fun a hfr => ?_
 rcases Bool.eq_false_or_eq_true (!(mapOk l)) with hb1 | hb1
 ·rw [hb1] at hfr
  try simp only [qz] at hb1
  simp_all
 rw [hb1] at hfr
 try simp only [qz] at hb1
 refine wly hfr (v_load_all (hst.get (k := 0) rfl) rfl (Try.isAgg49 _) (Try.sizeOf49 _)) fun a hfr => ?_
 refine wl_callpy hfr hst Try.call42 rfl (rRange_ok f t _) ?_
 clear hfr hst
 intro a w3 hfr hst
 refine wly hfr (v_not rfl) fun a hfr => ?_
 refine wlv hfr (v_pick_f rfl rfl) fun a hfr => ?_
 refine wl_nil (hK3 _ _ ?_)
 replace hfr : Fr 20 [(0, _), (3, _), (4, _), (5, _), (13, _)] [] a := hfr.pick [0, 3, 4, 5, 13]
 refine wc_cond hfr rfl (fun hc2 => ?_) (fun hc2 => ?_)
 ·try simp only [qz] at hc2
  simp_all
 try simp only [qz] at hc2
 refine wc_skip ?_
 refine hK2 _ _ ?_
 refine wc_seq_region fun K4 hK4 => ?_
 refine wlm hfr rfl fun a hfr => ?_
 refine wlv hfr (v_load_all (hst.get (k := 0) rfl) rfl (Try.isAgg49 _) (Try.sizeOf49 _)) fun a hfr => ?_
 refine wl_callm hfr hst Try.call45 rfl (one_ok f t 0 _) ?_
 clear hfr hst
 intro a w4 x4 hp hfr hst
 revert x4 hp hfr hst; rintro v3 hp hfr hst
 clear hp
 replace hst : St No w0 [own v3 77 3 (([(⟨f, t, 0⟩ : Blo)]).map Blo.cells), blk w0.heap.size [iv f, iv t] 49] w4 := hst
 refine wl_callm hfr hst Try.call44 rfl (rcomb_awayX lv v3 l ([(⟨f, t, 0⟩ : Blo)]) _ (hst.arg hlv) (hst.ownAt (i := 0) rfl) (by omega) (lb rfl) hoa hob (fun xs hx => mapOk_of (gives_away hoa hr hx).1 (by have h9 := (gives_away hoa hr hx).2.1; omega))) ?_
 clear hfr hst
 intro a w5 x7 hp hfr hst
 obtain ⟨v5, ps6⟩ := x7
 have hpc := hp
 replace hst : St No w0 [own v5 77 3 ((outP awayX ps6).map Blo.cells), own v3 77 3 (([(⟨f, t, 0⟩ : Blo)]).map Blo.cells), blk w0.heap.size [iv f, iv t] 49] w5 := hst
 refine wlv hfr (v_extract rfl rfl) fun a hfr => ?_
 refine wlv hfr (v_extract rfl rfl) fun a hfr => wla hfr rfl fun a hfr => wla hfr rfl fun a hfr => ?_
 refine wl_nil (hK4 _ _ ?_)
 replace hfr : Fr 20 [(4, _), (5, _)] [] a := hfr.pick [4, 5]
 replace hst : St No w0 [_] w5 := hst.mask [true, false, false]
 refine wc_ret ?_
 refine fin_ret hfr Try.results26 (resAre_tmp rfl (resAre_tmp rfl resAre_nil)) ?_
 exact ⟨(v5, _), rfl, gives_away hoa hr hpc, hst.ext, St.out (E := [own _ 77 3 (List.map Blo.cells _)]) (H := []) (hst.select [0] (by decide))⟩
theorem isIn_of {n lo hi : Int} (h1 : lo ≤ n) (h2 : n ≤ hi) : isIn n lo hi = true := by unfold isIn; rw [decide_eq_true h1, decide_eq_true h2]; rfl
set_option maxHeartbeats 4000000 in
theorem made13_ok (xv : Value) (xs : List Tri) (w0 : World) (hxv : SlAt w0 xv 3 (xs.map Tri.cells)) (hfit : ∀ k, k < xs.length → (xs.getD k ⟨0, 0, 0⟩).fits) :
  Ret Try.prog 5 #[xv] w0 (MemR w0 (fun z : Value × List Blo => z.1) (fun z => [own z.1 77 3 (z.2.map Blo.cells)]) (fun z => okF 0 (-1) z.2 = true ∧ z.2.length ≤ 24)) := by
 refine ret_of Try.func5 rfl Try.ntmps5 (lb rfl) fun a hfr => ?_
 replace hfr : Fr 51 [(0, _)] [] a := hfr
 replace hst : St No w0 [] w0 := St.init w0
 refine wc_seq_region fun K1 hK1 => ?_
 refine wla hfr rfl fun a hfr => ?_
 refine wl_nil (hK1 _ _ ?_)
 refine wc_seq_region fun K2 hK2 => ?_
 refine wla hfr rfl fun a hfr => ?_
 refine wl_nil (hK2 _ _ ?_)
 refine wc_seq_k fun K3 hK3 => ?_
 replace hst : St No w0 (own (.slice none 0 0) 77 3 [] :: []) w0 := hst.nil_own
 refine wc_seq_region fun K4 hK4 => ?_
 refine wla hfr rfl fun a hfr => ?_
 refine wl_nil (hK4 _ _ ?_)
 refine wc_block ?_
 refine wc_loop (fun m a w => ∃ (j : Nat) (v : Value) (o : List Blo), m = xs.length - j ∧ (j ≤ xs.length) ∧ (j ≤ 12) ∧ (okF 0 (-1) o = true) ∧ (o.length ≤ 2 * j) ∧ Fr 51 [(0, xv), (2, .slice none 0 0), (4, iv (j : Int)), (3, v)] [] a ∧ St No w0 [own v 77 3 (o.map Blo.cells)] w) _ ⟨0, .slice none 0 0, [], rfl, Nat.zero_le _, (by decide), rfl, (by decide), hfr.pick [0, 2, 4, 3], hst.select [0] (by decide)⟩ ?_
 rintro _ a w1 ⟨j, v, o, rfl, hj, hj2, hoo, hol, hfr, hst⟩
 refine wc_seq_k fun K5 hK5 => ?_
 refine wc_seq_region fun K6 hK6 => ?_
 refine wlm hfr rfl fun a hfr => wlm hfr rfl fun a hfr => ?_
 refine wlv hfr ((v_len_sl (sT := 22) (hst.arg hxv) rfl rfl (Try.runUnderlying22 _)).asi (m' := (xs.length : Int)) (by rw [List.length_map])) fun a hfr => ?_
 refine wlv hfr (v_lt rfl rfl) fun a hfr => wlm hfr rfl fun a hfr => ?_
 rcases Decidable.em ((j : Int) < (xs.length : Int)) with hb1 | hb1
 ·rw [decide_eq_true hb1] at hfr
  obtain ⟨hf1, hf2, hf3⟩ := hfit j (by omega)
  unfold isI64 at hf1 hf2 hf3
  have hpk := pick_rng (xs.getD j ⟨0, 0, 0⟩).c 5 (by decide)
  refine wly hfr (v_move rfl) fun a hfr => wly hfr (v_lt rfl rfl) fun a hfr => ?_
  refine wlv hfr (v_pick_t rfl rfl) fun a hfr => ?_
  refine wl_nil (hK6 _ _ ?_)
  replace hfr : Fr 51 [(0, _), (2, _), (4, _), (3, _), (14, _)] [] a := hfr.pick [0, 2, 4, 3, 14]
  refine wc_cond_d hfr rfl (fun hc2 => ?_) (fun hc2 => ?_)
  ·refine wc_skip ?_
   refine hK5 _ _ ?_
   refine wc_seq_k fun K7 hK7 => ?_
   refine wc_block ?_
   refine wc_seq_k fun K8 hK8 => ?_
   refine wc_of_dr (dr_of_wd fun w2 hxz => ?_)
   replace hst := hst.grow hxz
   refine wd_sub (k := 0) 12 [10, 11] hfr ?_
   replace hfr : Fr 51 [(0, _), (2, _), (4, _), (3, _)] [] a := hfr.pick [0, 2, 4, 3]
   refine wc_phases_q [11] (fun i => match i with | 11 => pm (fun b : Nat => .pointer (some ⟨b, 0, none⟩)) (fun b => [blk b [iv 0, iv 0] 49]) (fun _ => True) | _ => fun _ _ => False) 12 [[], [], [0, 1], [2], [3], [], [], [5, 6], [7], [8], [4, 9], []] [xv, iv (j : Int), slAddr xv (j * 3), slAddr xv (j * 3 + 0), iv ((xs.getD j ⟨0, 0, 0⟩).a), xv, iv (j : Int), slAddr xv (j * 3), slAddr xv (j * 3 + 1), iv ((xs.getD j ⟨0, 0, 0⟩).b), .agg #[iv (pieF ((xs.getD j ⟨0, 0, 0⟩).a) ((xs.getD j ⟨0, 0, 0⟩).b)), iv (pieT ((xs.getD j ⟨0, 0, 0⟩).a) ((xs.getD j ⟨0, 0, 0⟩).b))], undef] hfr hst ?_ ?_ ?_
   ·intro i hi hiq
    match i, hi, hiq with
    | 0, _, _ =>
     intro w hst
     exact OpV.g (v_move rfl)
    | 1, _, _ =>
     intro w hst
     exact OpV.g (v_move rfl)
    | 2, _, _ =>
     intro w hst
     exact OpV.g ((v_indexAddr_sl (i := (j : Int)) (sT := 22) (hst.arg hxv) rfl rfl (Try.runUnderlying22 _) (Try.sizeOf71 _) (by omega) (by rw [List.length_map]; omega)).as (v' := slAddr xv (j * 3)) rfl)
    | 3, _, _ =>
     intro w hst
     exact OpV.g (v_indexAddr_slp (k := j * 3) (j := 0) (hst.arg hxv) (i := j) (by rw [List.length_map]; omega) rfl rfl (fun _ _ => by kernel_rfl))
    | 4, _, _ =>
     intro w hst
     exact OpV.g (v_load_sl1 (u := iv ((xs.getD j ⟨0, 0, 0⟩).a)) (i := j) (j := 0) (hst.arg hxv) (by rw [List.length_map]; omega) rfl (Try.isAgg3 _) (by rw [el_at (⟨0, 0, 0⟩ : Tri)]; rfl))
    | 5, _, _ =>
     intro w hst
     exact OpV.g (v_move rfl)
    | 6, _, _ =>
     intro w hst
     exact OpV.g (v_move rfl)
    | 7, _, _ =>
     intro w hst
     exact OpV.g ((v_indexAddr_sl (i := (j : Int)) (sT := 22) (hst.arg hxv) rfl rfl (Try.runUnderlying22 _) (Try.sizeOf71 _) (by omega) (by rw [List.length_map]; omega)).as (v' := slAddr xv (j * 3)) rfl)
    | 8, _, _ =>
     intro w hst
     exact OpV.g (v_indexAddr_slp (k := j * 3) (j := 1) (hst.arg hxv) (i := j) (by rw [List.length_map]; omega) rfl rfl (fun _ _ => by kernel_rfl))
    | 9, _, _ =>
     intro w hst
     exact OpV.g (v_load_sl1 (u := iv ((xs.getD j ⟨0, 0, 0⟩).b)) (i := j) (j := 1) (hst.arg hxv) (by rw [List.length_map]; omega) rfl (Try.isAgg3 _) (by rw [el_at (⟨0, 0, 0⟩ : Tri)]; rfl))
    | 10, _, _ =>
     intro w hst
     exact g_callp Try.call23 rfl (piece_ok ((xs.getD j ⟨0, 0, 0⟩).a) ((xs.getD j ⟨0, 0, 0⟩).b) _ (by omega) (by omega))
    | 11, _, h => exact absurd (by simp) h
    | i + 12, h, _ => exact absurd h (by omega)
   ·intro i hi
    simp only [List.mem_cons, List.not_mem_nil, or_false] at hi
    subst hi
    ·intro w hst
     exact g_alloc (Try.zeroValue49 _) (cs := [iv 0, iv 0]) rfl
   clear hfr hst
   rintro _ _ ⟨b3, rfl, -, rfl⟩ a w3 hfr hst
   replace hfr : Fr 51 [(27, .agg #[iv (pieF ((xs.getD j ⟨0, 0, 0⟩).a) ((xs.getD j ⟨0, 0, 0⟩).b)), iv (pieT ((xs.getD j ⟨0, 0, 0⟩).a) ((xs.getD j ⟨0, 0, 0⟩).b))]), (5, _), (0, _), (2, _), (4, _), (3, _)] [] a := hfr.pick [27, 5, 0, 2, 4, 3]
   replace hst : St No w0 [_, _] w3 := hst
   refine wl_nil ?_
   refine wd_lin (k := 12) 13 [12] ?_
   refine wl_sto 0 hfr hst [iv (pieF ((xs.getD j ⟨0, 0, 0⟩).a) ((xs.getD j ⟨0, 0, 0⟩).b)), iv (pieT ((xs.getD j ⟨0, 0, 0⟩).a) ((xs.getD j ⟨0, 0, 0⟩).b))] rfl (Try.sizeOf49 _) ?_
   clear hfr hst
   intro a w4 hfr hst
   refine wl_nil ?_
   refine wd_end ?_
   refine hK8 _ _ ?_
   replace hfr : Fr 51 [(0, _), (2, _), (4, _), (3, _), (5, _)] [] a := hfr.pick [0, 2, 4, 3, 5]
   refine wc_seq_region fun K9 hK9 => ?_
   refine wlm hfr rfl fun a hfr => wlm hfr rfl fun a hfr => ?_
   refine wlv hfr ((v_indexAddr_sl (i := (j : Int)) (sT := 22) (hst.arg hxv) rfl rfl (Try.runUnderlying22 _) (Try.sizeOf71 _) (by omega) (by rw [List.length_map]; omega)).as (v' := slAddr xv (j * 3)) rfl) fun a hfr => ?_
   refine wlv hfr (v_indexAddr_slp (k := j * 3) (j := 2) (hst.arg hxv) (i := j) (by rw [List.length_map]; omega) rfl rfl (fun _ _ => by kernel_rfl)) fun a hfr => ?_
   refine wlv hfr (v_load_sl1 (u := iv ((xs.getD j ⟨0, 0, 0⟩).c)) (i := j) (j := 2) (hst.arg hxv) (by rw [List.length_map]; omega) rfl (Try.isAgg3 _) (by rw [el_at (⟨0, 0, 0⟩ : Tri)]; rfl)) fun a hfr => ?_
   refine wl_callp hfr hst Try.call24 rfl (pickr13_ok _ _ _ (by omega) (by omega) (by omega) (by omega)) ?_
   clear hfr hst
   intro a w5 hfr hst
   refine wla hfr rfl fun a hfr => ?_
   refine wl_nil (hK9 _ _ ?_)
   replace hfr : Fr 51 [(0, _), (2, _), (4, _), (3, _), (5, _), (6, _)] [] a := hfr.pick [0, 2, 4, 3, 5, 6]
   refine wc_seq_region fun K10 hK10 => ?_
   refine wlm hfr rfl fun a hfr => ?_
   refine wlv hfr (v_lt rfl rfl) fun a hfr => ?_
   refine wl_nil (hK10 _ _ ?_)
   refine wc_cond_d hfr rfl (fun hc4 => ?_) (fun hc4 => ?_)
   ·refine wc_region ?_
    refine wlm hfr rfl fun a hfr => ?_
    refine wlv hfr (v_load_all (hst.get (k := 0) rfl) rfl (Try.isAgg49 _) (Try.sizeOf49 _)) fun a hfr => wlm hfr rfl fun a hfr => ?_
    refine wlv hfr (v_mul rfl rfl ⟨by omega, by omega⟩) fun a hfr => ?_
    refine wl_callm hfr hst Try.call25 rfl (rgive_ok v o (pieF ((xs.getD j ⟨0, 0, 0⟩).a) ((xs.getD j ⟨0, 0, 0⟩).b)) (pieT ((xs.getD j ⟨0, 0, 0⟩).a) ((xs.getD j ⟨0, 0, 0⟩).b)) (2 * (pick ((xs.getD j ⟨0, 0, 0⟩).c) 5)) _ (hst.ownAt (i := 1) rfl) (mapOk_of hoo (by omega)) (by omega) (pie_ok _ _) (isIn_of (by omega) (by omega))) ?_
    clear hfr hst
    intro a w6 x7 hp hfr hst
    obtain ⟨v5, o6⟩ := x7
    have hgv := hp
    replace hst : St No w0 [own v5 77 3 (o6.map Blo.cells), blk b3 [iv (pieF ((xs.getD j ⟨0, 0, 0⟩).a) ((xs.getD j ⟨0, 0, 0⟩).b)), iv (pieT ((xs.getD j ⟨0, 0, 0⟩).a) ((xs.getD j ⟨0, 0, 0⟩).b))] 49, own v 77 3 (o.map Blo.cells)] w6 := hst
    refine wlm hfr rfl fun a hfr => ?_
    refine wlv hfr (v_extract rfl rfl) fun a hfr => ?_
    refine wlv hfr (v_extract rfl rfl) fun a hfr => wla hfr rfl fun a hfr => ?_
    refine wl_nil ?_
    refine hK7 _ _ ?_
    replace hfr : Fr 51 [(0, _), (2, _), (4, _), (3, _)] [] a := hfr.pick [0, 2, 4, 3]
    replace hst : St No w0 [_, _] w6 := hst.mask [true, false, true]
    refine wc_region ?_
    refine wlm hfr rfl fun a hfr => ?_
    refine wlv hfr (v_add rfl rfl ⟨by omega, by omega⟩) fun a hfr => wla hfr rfl fun a hfr => ?_
    refine wl_nil ?_
    refine ⟨_, ?_, j + 1, v5, o6, rfl, (by omega), (by omega), (gives_ok hgv hol).1, (by have h9 := (gives_ok hgv hol).2; omega), hfr.pick [0, 2, 4, 3], hst.select [0] (by decide)⟩
    omega
   refine wc_region ?_
   refine wlm hfr rfl fun a hfr => ?_
   refine wlv hfr (v_load_all (hst.get (k := 0) rfl) rfl (Try.isAgg49 _) (Try.sizeOf49 _)) fun a hfr => ?_
   refine wl_callm hfr hst Try.call26 rfl (rtake_ok v o (pieF ((xs.getD j ⟨0, 0, 0⟩).a) ((xs.getD j ⟨0, 0, 0⟩).b)) (pieT ((xs.getD j ⟨0, 0, 0⟩).a) ((xs.getD j ⟨0, 0, 0⟩).b)) _ (hst.ownAt (i := 1) rfl) (mapOk_of hoo (by omega)) (by omega) (pie_ok _ _)) ?_
   clear hfr hst
   intro a w7 x10 hp hfr hst
   obtain ⟨v8, o9⟩ := x10
   have hgv := hp
   replace hst : St No w0 [own v8 77 3 (o9.map Blo.cells), blk b3 [iv (pieF ((xs.getD j ⟨0, 0, 0⟩).a) ((xs.getD j ⟨0, 0, 0⟩).b)), iv (pieT ((xs.getD j ⟨0, 0, 0⟩).a) ((xs.getD j ⟨0, 0, 0⟩).b))] 49, own v 77 3 (o.map Blo.cells)] w7 := hst
   refine wlm hfr rfl fun a hfr => ?_
   refine wlv hfr (v_extract rfl rfl) fun a hfr => ?_
   refine wlv hfr (v_extract rfl rfl) fun a hfr => wla hfr rfl fun a hfr => ?_
   refine wl_nil ?_
   refine hK7 _ _ ?_
   replace hfr : Fr 51 [(0, _), (2, _), (4, _), (3, _)] [] a := hfr.pick [0, 2, 4, 3]
   replace hst : St No w0 [_, _] w7 := hst.mask [true, false, true]
   refine wc_region ?_
   refine wlm hfr rfl fun a hfr => ?_
   refine wlv hfr (v_add rfl rfl ⟨by omega, by omega⟩) fun a hfr => wla hfr rfl fun a hfr => ?_
   refine wl_nil ?_
   refine ⟨_, ?_, j + 1, v8, o9, rfl, (by omega), (by omega), (gives_ok hgv hol).1, (by have h9 := (gives_ok hgv hol).2; omega), hfr.pick [0, 2, 4, 3], hst.select [0] (by decide)⟩
   omega
  refine wc_exit ?_
  refine hK3 _ _ ?_
  refine wc_seq_region fun K11 hK11 => ?_
  refine wlm hfr rfl fun a hfr => wla hfr rfl fun a hfr => ?_
  refine wl_nil (hK11 _ _ ?_)
  refine wc_ret ?_
  refine fin_ret hfr Try.results5 (resAre_tmp rfl resAre_nil) ?_
  exact ⟨(v, o), rfl, ⟨hoo, by show o.length ≤ 24; omega⟩, hst.ext, St.out (E := [own v 77 3 (o.map Blo.cells)]) (H := []) (hst.select [0] (by decide))⟩
 rw [decide_eq_false hb1] at hfr
 refine wln hfr fun a hfr => ?_
 refine wln hfr fun a hfr => ?_
 refine wlv hfr (v_pick_f rfl rfl) fun a hfr => ?_
 refine wl_nil (hK6 _ _ ?_)
 replace hfr : Fr 51 [(0, _), (2, _), (4, _), (3, _), (14, _)] [] a := hfr.pick [0, 2, 4, 3, 14]
 refine wc_cond_f hfr rfl ?_
 refine wc_exit ?_
 refine hK3 _ _ ?_
 refine wc_seq_region fun K12 hK12 => ?_
 refine wlm hfr rfl fun a hfr => wla hfr rfl fun a hfr => ?_
 refine wl_nil (hK12 _ _ ?_)
 refine wc_ret ?_
 refine fin_ret hfr Try.results5 (resAre_tmp rfl resAre_nil) ?_
 exact ⟨(v, o), rfl, ⟨hoo, by show o.length ≤ 24; omega⟩, hst.ext, St.out (E := [own v 77 3 (o.map Blo.cells)]) (H := []) (hst.select [0] (by decide))⟩
theorem same13_ok (va vb : Value) (l : List Blo) (w0 : World) (hva : SlAt w0 va 3 (l.map Blo.cells)) (hvb : SlAt w0 vb 3 (l.map Blo.cells)) :
  Ret Try.prog 9 #[va, vb] w0 fun v w => v = .bool true ∧ Ext No w0 w := by
 have hxb := hva.2.1
 simp only [List.length_map, big] at hxb
 refine ret_of Try.func9 rfl Try.ntmps9 (lb rfl) fun a hfr => ?_
 replace hfr : Fr 26 [(0, _), (1, _)] [] a := hfr
 replace hst : St No w0 [] w0 := St.init w0
 refine wc_seq_region fun K1 hK1 => ?_
 refine wla hfr rfl fun a hfr => ?_
 refine wl_nil (hK1 _ _ ?_)
 refine wc_seq_k fun K2 hK2 => ?_
 refine wc_seq_region fun K3 hK3 => ?_
 refine wlm hfr rfl fun a hfr => ?_
 refine wlv hfr ((v_len_sl (sT := 28) (hst.arg hva) rfl rfl (Try.runUnderlying28 _)).asi (m' := (l.length : Int)) (by rw [List.length_map])) fun a hfr => wlm hfr rfl fun a hfr => ?_
 refine wlv hfr ((v_len_sl (sT := 28) (hst.arg hvb) rfl rfl (Try.runUnderlying28 _)).asi (m' := (l.length : Int)) (by rw [List.length_map])) fun a hfr => ?_
 refine wlv hfr ((v_ne rfl rfl).asb (b' := false) (by simp)) fun a hfr => ?_
 refine wl_nil (hK3 _ _ ?_)
 refine wc_cond_f hfr rfl ?_
 refine wc_skip ?_
 refine hK2 _ _ ?_
 refine wc_seq_k fun K4 hK4 => ?_
 refine wc_seq_region fun K5 hK5 => ?_
 refine wla hfr rfl fun a hfr => ?_
 refine wl_nil (hK5 _ _ ?_)
 refine wc_block ?_
 refine wc_loop (fun m a w => ∃ (k : Nat), m = l.length - k ∧ (k ≤ l.length) ∧ Fr 26 [(0, va), (1, vb), (5, iv (k : Int))] [] a ∧ St No w0 [] w) _ ⟨0, rfl, Nat.zero_le _, hfr.pick [0, 1, 5], hst.select [] (by decide)⟩ ?_
 rintro _ a w1 ⟨k, rfl, hk, hfr, hst⟩
 refine wc_seq_k fun K6 hK6 => ?_
 refine wc_seq_region fun K7 hK7 => ?_
 refine wlm hfr rfl fun a hfr => wlm hfr rfl fun a hfr => ?_
 refine wlv hfr ((v_len_sl (sT := 28) (hst.arg hva) rfl rfl (Try.runUnderlying28 _)).asi (m' := (l.length : Int)) (by rw [List.length_map])) fun a hfr => ?_
 refine wlv hfr (v_lt rfl rfl) fun a hfr => ?_
 refine wl_nil (hK7 _ _ ?_)
 refine wc_cond_d hfr rfl (fun hc1 => ?_) (fun hc1 => ?_)
 ·refine wc_skip ?_
  refine hK6 _ _ ?_
  refine wc_seq_k fun K8 hK8 => ?_
  refine wc_block ?_
  refine wc_seq_k fun K9 hK9 => ?_
  refine wc_of_dr (dr_of_wd fun w2 hxz => ?_)
  replace hst := hst.grow hxz
  refine wd_sub (k := 0) 8 [3, 7] hfr ?_
  replace hfr : Fr 26 [(0, _), (1, _), (5, _), (11, _), (12, _), (13, _)] [] a := hfr.pick [0, 1, 5, 11, 12, 13]
  refine dr_pl 8 hfr hst <| pl_m rfl <| pl_m rfl <| pl_w (fun hst => (v_indexAddr_sl (i := (k : Int)) (sT := 28) (hst.arg hva) rfl rfl (Try.runUnderlying28 _) (Try.sizeOf77 _) (by omega) (by rw [List.length_map]; omega)).as (v' := slAddr va (k * 3)) rfl) <| pl_w (fun hst => (v_load_sl (hst.arg hva) (i := k) (by rw [List.length_map]; omega) rfl (Try.isAgg77 _) (Try.sizeOf77 _)).as (v' := .agg #[iv ((l.getD k Blo.z).f), iv ((l.getD k Blo.z).t), iv ((l.getD k Blo.z).c)]) (by rw [el_at Blo.z]; rfl)) <| pl_m rfl <| pl_m rfl <| pl_w (fun hst => (v_indexAddr_sl (i := (k : Int)) (sT := 28) (hst.arg hvb) rfl rfl (Try.runUnderlying28 _) (Try.sizeOf77 _) (by omega) (by rw [List.length_map]; omega)).as (v' := slAddr vb (k * 3)) rfl) ?_
  refine pl_w (fun hst => (v_load_sl (hst.arg hvb) (i := k) (by rw [List.length_map]; omega) rfl (Try.isAgg77 _) (Try.sizeOf77 _)).as (v' := .agg #[iv ((l.getD k Blo.z).f), iv ((l.getD k Blo.z).t), iv ((l.getD k Blo.z).c)]) (by rw [el_at Blo.z]; rfl)) ?_
  clear hfr hst
  intro a w3 hfr hst
  replace hfr : Fr 26 [(0, _), (1, _), (5, _), (20, _), (24, _)] [] a := hfr.pick [0, 1, 5, 20, 24]
  refine wl_nil ?_
  refine wd_lin (k := 8) 9 [8] ?_
  refine wlv hfr ((v_ne_agg rfl rfl (by kernel_rfl) (eqBlo ((l.getD k Blo.z).f) ((l.getD k Blo.z).t) ((l.getD k Blo.z).c) ((l.getD k Blo.z).f) ((l.getD k Blo.z).t) ((l.getD k Blo.z).c) _)).asb (b' := false) (by simp)) fun a hfr => ?_
  refine wl_nil ?_
  refine wd_end ?_
  refine hK9 _ _ ?_
  refine wc_cond_f hfr rfl ?_
  refine wc_skip ?_
  refine hK8 _ _ ?_
  refine wc_region ?_
  refine wlm hfr rfl fun a hfr => ?_
  refine wlv hfr (v_add rfl rfl ⟨by omega, by omega⟩) fun a hfr => wla hfr rfl fun a hfr => ?_
  refine wl_nil ?_
  refine ⟨_, ?_, k + 1, rfl, (by omega), hfr.pick [0, 1, 5], hst.select [] (by decide)⟩
  omega
 refine wc_exit ?_
 refine hK4 _ _ ?_
 refine wc_seq_region fun K10 hK10 => ?_
 refine wla hfr rfl fun a hfr => ?_
 refine wl_nil (hK10 _ _ ?_)
 replace hfr : Fr 26 [(4, _)] [] a := hfr.pick [4]
 refine wc_ret ?_
 refine fin_ret hfr Try.results9 (resAre_tmp rfl resAre_nil) ?_
 exact ⟨by rfl, hst.ext⟩
theorem samer_ok (va vb : Value) (l : List Blo) (w0 : World) (hva : SlAt w0 va 2 (l.map Blo.rcells)) (hvb : SlAt w0 vb 2 (l.map Blo.rcells)) :
  Ret Try.prog 11 #[va, vb] w0 fun v w => v = .bool true ∧ Ext No w0 w := by
 have hxb := hva.2.1
 simp only [List.length_map, big] at hxb
 refine ret_of Try.func11 rfl Try.ntmps11 (lb rfl) fun a hfr => ?_
 replace hfr : Fr 26 [(0, _), (1, _)] [] a := hfr
 replace hst : St No w0 [] w0 := St.init w0
 refine wc_seq_region fun K1 hK1 => ?_
 refine wla hfr rfl fun a hfr => ?_
 refine wl_nil (hK1 _ _ ?_)
 refine wc_seq_k fun K2 hK2 => ?_
 refine wc_seq_region fun K3 hK3 => ?_
 refine wlm hfr rfl fun a hfr => ?_
 refine wlv hfr ((v_len_sl (sT := 43) (hst.arg hva) rfl rfl (Try.runUnderlying43 _)).asi (m' := (l.length : Int)) (by rw [List.length_map])) fun a hfr => wlm hfr rfl fun a hfr => ?_
 refine wlv hfr ((v_len_sl (sT := 43) (hst.arg hvb) rfl rfl (Try.runUnderlying43 _)).asi (m' := (l.length : Int)) (by rw [List.length_map])) fun a hfr => ?_
 refine wlv hfr ((v_ne rfl rfl).asb (b' := false) (by simp)) fun a hfr => ?_
 refine wl_nil (hK3 _ _ ?_)
 refine wc_cond_f hfr rfl ?_
 refine wc_skip ?_
 refine hK2 _ _ ?_
 refine wc_seq_k fun K4 hK4 => ?_
 refine wc_seq_region fun K5 hK5 => ?_
 refine wla hfr rfl fun a hfr => ?_
 refine wl_nil (hK5 _ _ ?_)
 refine wc_block ?_
 refine wc_loop (fun m a w => ∃ (k : Nat), m = l.length - k ∧ (k ≤ l.length) ∧ Fr 26 [(0, va), (1, vb), (5, iv (k : Int))] [] a ∧ St No w0 [] w) _ ⟨0, rfl, Nat.zero_le _, hfr.pick [0, 1, 5], hst.select [] (by decide)⟩ ?_
 rintro _ a w1 ⟨k, rfl, hk, hfr, hst⟩
 refine wc_seq_k fun K6 hK6 => ?_
 refine wc_seq_region fun K7 hK7 => ?_
 refine wlm hfr rfl fun a hfr => wlm hfr rfl fun a hfr => ?_
 refine wlv hfr ((v_len_sl (sT := 43) (hst.arg hva) rfl rfl (Try.runUnderlying43 _)).asi (m' := (l.length : Int)) (by rw [List.length_map])) fun a hfr => ?_
 refine wlv hfr (v_lt rfl rfl) fun a hfr => ?_
 refine wl_nil (hK7 _ _ ?_)
 refine wc_cond_d hfr rfl (fun hc1 => ?_) (fun hc1 => ?_)
 ·refine wc_skip ?_
  refine hK6 _ _ ?_
  refine wc_seq_k fun K8 hK8 => ?_
  refine wc_block ?_
  refine wc_seq_k fun K9 hK9 => ?_
  refine wc_of_dr (dr_of_wd fun w2 hxz => ?_)
  replace hst := hst.grow hxz
  refine wd_sub (k := 0) 8 [3, 7] hfr ?_
  replace hfr : Fr 26 [(0, _), (1, _), (5, _), (11, _), (12, _), (13, _)] [] a := hfr.pick [0, 1, 5, 11, 12, 13]
  refine dr_pl 8 hfr hst <| pl_m rfl <| pl_m rfl <| pl_w (fun hst => (v_indexAddr_sl (i := (k : Int)) (sT := 43) (hst.arg hva) rfl rfl (Try.runUnderlying43 _) (Try.sizeOf49 _) (by omega) (by rw [List.length_map]; omega)).as (v' := slAddr va (k * 2)) rfl) <| pl_w (fun hst => (v_load_sl (hst.arg hva) (i := k) (by rw [List.length_map]; omega) rfl (Try.isAgg49 _) (Try.sizeOf49 _)).as (v' := .agg #[iv ((l.getD k Blo.z).f), iv ((l.getD k Blo.z).t)]) (by rw [el_at Blo.z]; rfl)) <| pl_m rfl <| pl_m rfl <| pl_w (fun hst => (v_indexAddr_sl (i := (k : Int)) (sT := 43) (hst.arg hvb) rfl rfl (Try.runUnderlying43 _) (Try.sizeOf49 _) (by omega) (by rw [List.length_map]; omega)).as (v' := slAddr vb (k * 2)) rfl) ?_
  refine pl_w (fun hst => (v_load_sl (hst.arg hvb) (i := k) (by rw [List.length_map]; omega) rfl (Try.isAgg49 _) (Try.sizeOf49 _)).as (v' := .agg #[iv ((l.getD k Blo.z).f), iv ((l.getD k Blo.z).t)]) (by rw [el_at Blo.z]; rfl)) ?_
  clear hfr hst
  intro a w3 hfr hst
  replace hfr : Fr 26 [(0, _), (1, _), (5, _), (20, _), (24, _)] [] a := hfr.pick [0, 1, 5, 20, 24]
  refine wl_nil ?_
  refine wd_lin (k := 8) 9 [8] ?_
  refine wlv hfr ((v_ne_agg rfl rfl (by kernel_rfl) (eqRng ((l.getD k Blo.z).f) ((l.getD k Blo.z).t) ((l.getD k Blo.z).f) ((l.getD k Blo.z).t) _)).asb (b' := false) (by simp)) fun a hfr => ?_
  refine wl_nil ?_
  refine wd_end ?_
  refine hK9 _ _ ?_
  refine wc_cond_f hfr rfl ?_
  refine wc_skip ?_
  refine hK8 _ _ ?_
  refine wc_region ?_
  refine wlm hfr rfl fun a hfr => ?_
  refine wlv hfr (v_add rfl rfl ⟨by omega, by omega⟩) fun a hfr => wla hfr rfl fun a hfr => ?_
  refine wl_nil ?_
  refine ⟨_, ?_, k + 1, rfl, (by omega), hfr.pick [0, 1, 5], hst.select [] (by decide)⟩
  omega
 refine wc_exit ?_
 refine hK4 _ _ ?_
 refine wc_seq_region fun K10 hK10 => ?_
 refine wla hfr rfl fun a hfr => ?_
 refine wl_nil (hK10 _ _ ?_)
 replace hfr : Fr 26 [(4, _)] [] a := hfr.pick [4]
 refine wc_ret ?_
 refine fin_ret hfr Try.results11 (resAre_tmp rfl resAre_nil) ?_
 exact ⟨by rfl, hst.ext⟩
end Go.Proofs.Ytnfnkohkcmkddaa
namespace Go.Proofs.Ytnfnkohkcmkddaa
set_option linter.unusedVariables false
set_option linter.unusedSimpArgs false
section
variable {r : Rul} {c : Clm} {ea ef tw q t : Int}
theorem statuses_reverse (hr : areValid r = true) (hc : isClaim c = true) (h0 : c.asked ≤ ea) (hd : ea < c.asked + r.answer) (hef : ea + r.cooling = ef) (h1 : ef ≤ tw) (h2 : tw < ef + r.reverse) (hq : q ≠ 1) :
  statuses r c [⟨1, ea, 0⟩, ⟨6, tw, q⟩] = [⟨1, c.asked, c.asked + r.answer⟩, ⟨3, ea, ef⟩, ⟨4, ef, ef + r.reverse⟩, ⟨8, tw, -1⟩] := by
 have g1 := areValid_le hr
 have g2 := isClaim_le hc
 subst hef
 rw [statuses, first, begins1, runE_yes (now1 := ⟨1, c.asked, c.asked + r.answer⟩) (by rw [alone_wait (by simp only; omega)]; rfl) (by rw [after_consent])]
 simp only [after_consent, begins3]
 have e4 : alone r tw ⟨3, ea, ea + r.cooling⟩ = [⟨4, ea + r.cooling, ea + r.cooling + r.reverse⟩] := by
  unfold alone
  rw [aloneF_pos (by simp only; omega) (by simp only; omega)]
  rw [due3, begins4, aloneF_neg (by simp only; omega)]
 have e4' : lastOf ⟨3, ea, ea + r.cooling⟩ (alone r tw ⟨3, ea, ea + r.cooling⟩) = ⟨4, ea + r.cooling, ea + r.cooling + r.reverse⟩ := by rw [e4]; rfl
 rw [runE_yes (x := ⟨6, tw, q⟩) e4' (by rw [after_reverse hq])]
 simp only [after_reverse hq, begins8, runE, e4]
 rw [show alone r ea ⟨1, c.asked, c.asked + r.answer⟩ = [] from alone_wait (by omega), show alone r 4611686018427387904 ⟨8, tw, -1⟩ = [] from aloneF_shut]
 rfl
theorem after_final (b : Bool) (e : Evt) : (after b 5 e).2 = false := by
 have h : effect e.kind 5 = none := by
  cases he : effect e.kind 5 with
  | none => rfl
  | some n => have := effect_some he; omega
 unfold after
 rw [h]
 split <;> rfl
theorem late_run (hr : areValid r = true) (hc : isClaim c = true) (h0 : c.asked ≤ ea) (hd : ea < c.asked + r.answer) (hef : ea + r.cooling = ef) {e : Evt} (h1 : ef + r.reverse ≤ e.at_) :
  statuses r c [⟨1, ea, 0⟩, e] = [⟨1, c.asked, c.asked + r.answer⟩, ⟨3, ea, ef⟩, ⟨4, ef, ef + r.reverse⟩, ⟨5, ef + r.reverse, -1⟩] ∧ voids r c [⟨1, ea, 0⟩, e] = [1] := by
 have g1 := areValid_le hr
 have g2 := isClaim_le hc
 subst hef
 have e3 : alone r e.at_ ⟨3, ea, ea + r.cooling⟩ = [⟨4, ea + r.cooling, ea + r.cooling + r.reverse⟩, ⟨5, ea + r.cooling + r.reverse, -1⟩] := aloneF_3 (n := 2) (by omega) (by omega) (by omega) (by omega)
 have e3' : lastOf ⟨3, ea, ea + r.cooling⟩ (alone r e.at_ ⟨3, ea, ea + r.cooling⟩) = ⟨5, ea + r.cooling + r.reverse, -1⟩ := by rw [e3]; rfl
 have key : runE r c.backed 0 (first r c) [⟨1, ea, 0⟩, e] = ([⟨3, ea, ea + r.cooling⟩, ⟨4, ea + r.cooling, ea + r.cooling + r.reverse⟩, ⟨5, ea + r.cooling + r.reverse, -1⟩], [1]) := by
  rw [first, begins1, runE_yes (now1 := ⟨1, c.asked, c.asked + r.answer⟩) (by rw [alone_wait (by simp only; omega)]; rfl) (by rw [after_consent])]
  simp only [after_consent, begins3]
  rw [runE_no (x := e) e3' (after_final _ _)]
  simp only [runE, e3]
  rw [show alone r ea ⟨1, c.asked, c.asked + r.answer⟩ = [] from alone_wait (by omega), show alone r 4611686018427387904 ⟨5, ea + r.cooling + r.reverse, -1⟩ = [] from aloneF_shut]
  rfl
 constructor
 ·rw [statuses, key, first, begins1]
 ·rw [voids, key]
theorem late_voids (hr : areValid r = true) (hc : isClaim c = true) (h0 : c.asked ≤ ea) (hd : ea < c.asked + r.answer) (hef : ea + r.cooling = ef) {k : Int} (h1 : ef + r.reverse ≤ tw) : voids r c [⟨1, ea, 0⟩, ⟨k, tw, q⟩] = [1] :=
 (late_run hr hc h0 hd hef (e := ⟨k, tw, q⟩) h1).2
theorem late_out (hr : areValid r = true) (hc : isClaim c = true) (h0 : c.asked ≤ ea) (hd : ea < c.asked + r.answer) (hef : ea + r.cooling = ef) {k : Int} (h1 : ef + r.reverse ≤ tw) (h2 : ef + r.reverse ≤ t) : outcome r c [⟨1, ea, 0⟩, ⟨k, tw, q⟩] t = ⟨5, ef + r.reverse, -1⟩ := by
 have g1 := areValid_le hr
 exact out4e (late_run hr hc h0 hd hef (e := ⟨k, tw, q⟩) h1).1 (by simp only; omega) (by simp only; omega) (by simp only; omega) (by simp only; omega)
theorem with_frm {l : List Evt} {s : Stt} (h : outcome r c l t = s) (h4 : s.state ≠ 4) (h5 : s.state ≠ 5) : withAt r c l t = c.frm := by
 unfold withAt; rw [h, if_neg fun e => e.elim h4 h5]
theorem with_to {l : List Evt} {s : Stt} (h : outcome r c l t = s) (h4 : s.state = 4) : withAt r c l t = c.to := by
 unfold withAt; rw [h, if_pos (.inl h4)]
theorem with_before (hs : statuses r c [⟨1, ea, 0⟩, ⟨6, tw, q⟩] = [⟨1, c.asked, c.asked + r.answer⟩, ⟨3, ea, ef⟩, ⟨4, ef, ef + r.reverse⟩, ⟨8, tw, -1⟩]) (h0 : c.asked ≤ ea) (h1 : ea ≤ t) (h2 : t < ef) : withAt r c [⟨1, ea, 0⟩, ⟨6, tw, q⟩] t = c.frm :=
 with_frm (out2 hs (by simp only; omega) (by simp only; omega) (by simp only; omega)) (by simp) (by simp)
theorem with_after (hs : statuses r c [⟨1, ea, 0⟩, ⟨6, tw, q⟩] = [⟨1, c.asked, c.asked + r.answer⟩, ⟨3, ea, ef⟩, ⟨4, ef, ef + r.reverse⟩, ⟨8, tw, -1⟩]) (h0 : c.asked ≤ ea) (h1 : ea ≤ ef) (h2 : ef ≤ tw) (h3 : tw ≤ t) : withAt r c [⟨1, ea, 0⟩, ⟨6, tw, q⟩] t = c.frm :=
 with_frm (out4e hs (by simp only; omega) (by simp only; omega) (by simp only; omega) (by simp only; omega)) (by simp) (by simp)
theorem with_now (hs : statuses r c [⟨1, ea, 0⟩, ⟨6, tw, q⟩] = [⟨1, c.asked, c.asked + r.answer⟩, ⟨3, ea, ef⟩, ⟨4, ef, ef + r.reverse⟩, ⟨8, tw, -1⟩]) (h0 : c.asked ≤ ea) (h1 : ea ≤ ef) (h2 : ef ≤ t) (h3 : t < tw) : withAt r c [⟨1, ea, 0⟩, ⟨6, tw, q⟩] t = c.to :=
 with_to (out3 hs (by simp only; omega) (by simp only; omega) (by simp only; omega) (by simp only; omega)) rfl
theorem valid_rev (hr : areValid r = true) (hc : isClaim c = true) (h0 : c.asked ≤ ea) (h1 : ea ≤ tw) (h2 : tw ≤ 20000000) (hq : 1 ≤ q ∧ q ≤ 9) : valid r c [⟨1, ea, 0⟩, ⟨6, tw, q⟩] = true :=
 valid_two hr hc (by simp [badEvt, isIn]; omega) (by simp [badEvt, isIn]; omega)
theorem valid_late (hr : areValid r = true) (hc : isClaim c = true) (h0 : c.asked ≤ ea) {k : Int} (h1 : ea ≤ tw) (h2 : tw ≤ 20000000) (hk : 1 ≤ k ∧ k ≤ 6) (hq : (k = 2 ∨ k = 6) ∧ 1 ≤ q ∧ q ≤ 9 ∨ ¬ (k = 2 ∨ k = 6) ∧ q = 0) : valid r c [⟨1, ea, 0⟩, ⟨k, tw, q⟩] = true := by
 refine valid_two hr hc (by simp [badEvt, isIn]; omega) ?_
 unfold badEvt
 rcases hq with ⟨h, hq⟩ | ⟨h, hq⟩
 ·simp only [isIn, if_pos h]; simp; omega
 ·simp only [isIn, if_neg h]; simp; omega
end
end Go.Proofs.Ytnfnkohkcmkddaa
