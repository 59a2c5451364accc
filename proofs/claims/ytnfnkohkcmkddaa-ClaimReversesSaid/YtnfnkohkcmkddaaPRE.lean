/- Texts joined: BlkB, BlkC, BlkR, Apg, BlkD. -/
import Derived.Test.YtnfnkohkcmkddaaPRD
import Derived.Test.YtnfnkohkcmkddaaPRA
import Derived.Test.YtnfnkohkcmkddaaPRB
namespace Go.Proofs.Ytnfnkohkcmkddaa
open Go.RowKit Go.PW
set_option linter.unusedVariables false
set_option linter.unusedSimpArgs false
set_option maxRecDepth 4000
set_option maxHeartbeats 4000000 in
theorem at_run (lv : Value) (l : List Blo) (p : Int) (w0 : World) (hlv : SlAt w0 lv 3 (l.map Blo.cells)) :
  Ret Try.prog 56 #[lv, iv p] w0 fun u w => ∃ v, u = .tuple #[v, iv (atX l p), iv (atT l p)] ∧ (∀ W, SlAt W lv 3 (l.map Blo.cells) → SlAt W v 3 ((skipB l p).map Blo.cells)) ∧ Ext No w0 w := by
 refine ret_of Try.func56 rfl Try.ntmps56 (lb rfl) fun a hfr => ?_
 replace hfr : Fr 49 [(0, _), (1, _)] [] a := hfr
 replace hst : St No w0 [] w0 := St.init w0
 refine wc_seq_region fun K1 hK1 => ?_
 refine wla hfr rfl fun a hfr => wla hfr rfl fun a hfr => wla hfr rfl fun a hfr => ?_
 refine wl_nil (hK1 _ _ ?_)
 refine wc_seq_k fun K2 hK2 => ?_
 refine wc_block ?_
 refine wc_loop (fun m a w => ∃ (j : Nat) (v : Value), m = l.length - j ∧ (j ≤ l.length) ∧ (∀ W, SlAt W lv 3 (l.map Blo.cells) → SlAt W v 3 ((l.drop j).map Blo.cells)) ∧ (skipB l p = skipB (l.drop j) p) ∧ Fr 49 [(1, iv p), (4, .slice none 0 0), (5, iv 0), (6, iv 0), (0, v)] [] a ∧ St No w0 [] w) _ ⟨0, lv, rfl, Nat.zero_le _, (fun W h => h), rfl, hfr.pick [1, 4, 5, 6, 0], hst.select [] (by decide)⟩ ?_
 rintro _ a w1 ⟨j, v, rfl, hj, hsuf, hsk, hfr, hst⟩
 refine wc_seq_k fun K3 hK3 => ?_
 refine wc_seq_region fun K4 hK4 => ?_
 refine wlm hfr rfl fun a hfr => ?_
 refine wlv hfr ((v_len_sl (sT := 28) (hsuf _ (hst.arg hlv)) rfl rfl (Try.runUnderlying28 _)).asi (m' := ((l.drop j).length : Int)) (by rw [List.length_map])) fun a hfr => ?_
 refine wlv hfr (v_gt rfl rfl) fun a hfr => wlm hfr rfl fun a hfr => ?_
 rcases Decidable.em (0 < ((l.drop j).length : Int)) with hb1 | hb1
 ·rw [decide_eq_true hb1] at hfr
  have hq : (l.drop j).length = l.length - j := List.length_drop
  refine wly hfr (v_move rfl) fun a hfr => wly hfr ((v_indexAddr_sl (i := 0) (sT := 28) (hsuf _ (hst.arg hlv)) rfl rfl (Try.runUnderlying28 _) (Try.sizeOf77 _) (by omega) (by rw [List.length_map]; omega)).as (v' := slAddr v (0 * 3)) rfl) fun a hfr => wly hfr (v_fieldAddr_sl (k := 0 * 3) (j := 0) (hsuf _ (hst.arg hlv)) (i := 0) (by rw [List.length_map]; omega) rfl (fun _ _ => by kernel_rfl)) fun a hfr => wly hfr (v_fieldAddr_sl (k := 0 * 3 + 0) (j := 1) (hsuf _ (hst.arg hlv)) (i := 0) (by rw [List.length_map]; omega) rfl (fun _ _ => by kernel_rfl)) fun a hfr => wly hfr (v_load_sl1 (u := iv (((l.drop j).getD 0 Blo.z).t)) (i := 0) (j := 1) (hsuf _ (hst.arg hlv)) (by rw [List.length_map]; omega) rfl (Try.isAgg3 _) (by rw [el_at Blo.z]; rfl)) fun a hfr => wly hfr (v_move rfl) fun a hfr => wly hfr (v_le rfl rfl) fun a hfr => ?_
  refine wlv hfr (v_pick_t rfl rfl) fun a hfr => ?_
  refine wl_nil (hK4 _ _ ?_)
  replace hfr : Fr 49 [(1, _), (4, _), (5, _), (6, _), (0, _), (18, _)] [] a := hfr.pick [1, 4, 5, 6, 0, 18]
  refine wc_cond_d hfr rfl (fun hc2 => ?_) (fun hc2 => ?_)
  ·refine wc_skip ?_
   refine hK3 _ _ ?_
   refine wc_block ?_
   refine wc_region ?_
   refine wlm hfr rfl fun a hfr => ?_
   refine wlv hfr (v_slice_at (l := 1) (h := (l.drop j).length) (hsuf _ (hst.arg hlv)) rfl rfl rfl Try.underlying28 (by kernel_rfl) (.inr rfl) (.inl ⟨rfl, by simp⟩) (by omega) (by simp)) fun a hfr => wla hfr rfl fun a hfr => ?_
   refine wl_nil ?_
   refine ⟨_, ?_, j + 1, (cut v 3 1 (l.drop j).length (slCap v)), rfl, (by have hq : (l.drop j).length = l.length - j := List.length_drop; omega), (fun W h => by have h9 := (hsuf W h).cutd (l := 1) (by omega); rwa [List.drop_drop] at h9), (by rw [hsk, skip_go (by omega) (by omega), List.drop_drop]), hfr.pick [1, 4, 5, 6, 0], hst.select [] (by decide)⟩
   omega
  have hstop : skipB l p = (l.drop j) := hsk.trans (skip_stop fun _ => by omega)
  refine wc_exit ?_
  refine hK2 _ _ ?_
  refine wc_seq_k fun K5 hK5 => ?_
  refine wc_block ?_
  refine wc_seq_region fun K6 hK6 => ?_
  refine wlm hfr rfl fun a hfr => ?_
  refine wlv hfr ((v_len_sl (sT := 28) (hsuf _ (hst.arg hlv)) rfl rfl (Try.runUnderlying28 _)).asi (m' := ((l.drop j).length : Int)) (by rw [List.length_map])) fun a hfr => ?_
  refine wlv hfr (v_eq rfl rfl) fun a hfr => wla hfr rfl fun a hfr => ?_
  refine wl_nil (hK6 _ _ ?_)
  refine wc_cond_d hfr rfl (fun hc3 => ?_) (fun hc3 => ?_)
  ·omega
  refine wc_seq_region fun K7 hK7 => ?_
  refine wlm hfr rfl fun a hfr => wlm hfr rfl fun a hfr => ?_
  refine wlv hfr ((v_indexAddr_sl (i := 0) (sT := 28) (hsuf _ (hst.arg hlv)) rfl rfl (Try.runUnderlying28 _) (Try.sizeOf77 _) (by omega) (by rw [List.length_map]; omega)).as (v' := slAddr v (0 * 3)) rfl) fun a hfr => ?_
  refine wlv hfr (v_fieldAddr_sl (k := 0 * 3) (j := 0) (hsuf _ (hst.arg hlv)) (i := 0) (by rw [List.length_map]; omega) rfl (fun _ _ => by kernel_rfl)) fun a hfr => ?_
  refine wlv hfr (v_fieldAddr_sl (k := 0 * 3 + 0) (j := 0) (hsuf _ (hst.arg hlv)) (i := 0) (by rw [List.length_map]; omega) rfl (fun _ _ => by kernel_rfl)) fun a hfr => ?_
  refine wlv hfr (v_load_sl1 (u := iv (((l.drop j).getD 0 Blo.z).f)) (i := 0) (j := 0) (hsuf _ (hst.arg hlv)) (by rw [List.length_map]; omega) rfl (Try.isAgg3 _) (by rw [el_at Blo.z]; rfl)) fun a hfr => ?_
  refine wlv hfr (v_lt rfl rfl) fun a hfr => wla hfr rfl fun a hfr => ?_
  refine wl_nil (hK7 _ _ ?_)
  replace hfr : Fr 49 [(4, _), (5, _), (6, _), (0, _), (25, _)] [] a := hfr.pick [4, 5, 6, 0, 25]
  refine wc_cond_d hfr rfl (fun hc4 => ?_) (fun hc4 => ?_)
  ·refine wc_seq_k fun K8 hK8 => ?_
   refine wc_of_dr (dr_of_wd fun w2 hxz => ?_)
   replace hst := hst.grow hxz
   refine wd_sub (k := 0) 8 [5, 7] hfr ?_
   replace hfr : Fr 49 [(6, _), (0, _)] [] a := hfr.pick [6, 0]
   refine dr_pl 8 hfr hst <| pl_m rfl <| pl_m rfl <| pl_w (fun hst => (v_indexAddr_sl (i := 0) (sT := 28) (hsuf _ (hst.arg hlv)) rfl rfl (Try.runUnderlying28 _) (Try.sizeOf77 _) (by omega) (by rw [List.length_map]; omega)).as (v' := slAddr v (0 * 3)) rfl) <| pl_w (fun hst => v_fieldAddr_sl (k := 0 * 3) (j := 0) (hsuf _ (hst.arg hlv)) (i := 0) (by rw [List.length_map]; omega) rfl (fun _ _ => by kernel_rfl)) <| pl_w (fun hst => v_fieldAddr_sl (k := 0 * 3 + 0) (j := 0) (hsuf _ (hst.arg hlv)) (i := 0) (by rw [List.length_map]; omega) rfl (fun _ _ => by kernel_rfl)) <| pl_w (fun hst => v_load_sl1 (u := iv (((l.drop j).getD 0 Blo.z).f)) (i := 0) (j := 0) (hsuf _ (hst.arg hlv)) (by rw [List.length_map]; omega) rfl (Try.isAgg3 _) (by rw [el_at Blo.z]; rfl)) <| pl_v (v_assign rfl) <| pl_v (v_assign rfl) ?_
   clear hfr hst
   intro a w3 hfr hst
   replace hfr : Fr 49 [(0, _), (38, _), (4, _), (5, _)] [] a := hfr.pick [0, 38, 4, 5]
   refine wl_nil ?_
   refine wd_lin (k := 8) 9 [8] ?_
   refine wla hfr rfl fun a hfr => ?_
   refine wl_nil ?_
   refine wd_end ?_
   refine hK8 _ _ ?_
   refine wc_ret ?_
   refine fin_ret hfr Try.results56 (resAre_tmp rfl (resAre_tmp rfl (resAre_tmp rfl resAre_nil))) ?_
   obtain ⟨e1, e2⟩ := at_cons hstop (by omega)
   refine ⟨v, ?_, fun W h => by rw [hstop]; exact hsuf W h, hst.ext⟩
   rw [e1, e2, if_pos hc4, if_pos hc4]; rfl
  refine wc_skip ?_
  refine hK5 _ _ ?_
  refine wc_seq_k fun K9 hK9 => ?_
  refine wc_of_dr (dr_of_wd fun w4 hxz => ?_)
  replace hst := hst.grow hxz
  refine wd_sub (k := 0) 12 [9, 11] hfr ?_
  replace hfr : Fr 49 [(6, _), (0, _)] [] a := hfr.pick [6, 0]
  refine dr_pl 12 hfr hst <| pl_m rfl <| pl_m rfl <| pl_w (fun hst => (v_indexAddr_sl (i := 0) (sT := 28) (hsuf _ (hst.arg hlv)) rfl rfl (Try.runUnderlying28 _) (Try.sizeOf77 _) (by omega) (by rw [List.length_map]; omega)).as (v' := slAddr v (0 * 3)) rfl) <| pl_w (fun hst => v_fieldAddr_sl (k := 0 * 3) (j := 2) (hsuf _ (hst.arg hlv)) (i := 0) (by rw [List.length_map]; omega) rfl (fun _ _ => by kernel_rfl)) <| pl_w (fun hst => v_load_sl1 (u := iv (((l.drop j).getD 0 Blo.z).c)) (i := 0) (j := 2) (hsuf _ (hst.arg hlv)) (by rw [List.length_map]; omega) rfl (Try.isAgg3 _) (by rw [el_at Blo.z]; rfl)) <| pl_m rfl <| pl_w (fun hst => (v_indexAddr_sl (i := 0) (sT := 28) (hsuf _ (hst.arg hlv)) rfl rfl (Try.runUnderlying28 _) (Try.sizeOf77 _) (by omega) (by rw [List.length_map]; omega)).as (v' := slAddr v (0 * 3)) rfl) ?_
  refine pl_w (fun hst => v_fieldAddr_sl (k := 0 * 3) (j := 0) (hsuf _ (hst.arg hlv)) (i := 0) (by rw [List.length_map]; omega) rfl (fun _ _ => by kernel_rfl)) <| pl_w (fun hst => v_fieldAddr_sl (k := 0 * 3 + 0) (j := 1) (hsuf _ (hst.arg hlv)) (i := 0) (by rw [List.length_map]; omega) rfl (fun _ _ => by kernel_rfl)) <| pl_w (fun hst => v_load_sl1 (u := iv (((l.drop j).getD 0 Blo.z).t)) (i := 0) (j := 1) (hsuf _ (hst.arg hlv)) (by rw [List.length_map]; omega) rfl (Try.isAgg3 _) (by rw [el_at Blo.z]; rfl)) <| pl_v (v_assign rfl) <| pl_v (v_assign rfl) ?_
  clear hfr hst
  intro a w5 hfr hst
  replace hfr : Fr 49 [(48, _), (4, _), (5, _)] [] a := hfr.pick [48, 4, 5]
  refine wl_nil ?_
  refine wd_lin (k := 12) 13 [12] ?_
  refine wla hfr rfl fun a hfr => ?_
  refine wl_nil ?_
  refine wd_end ?_
  refine hK9 _ _ ?_
  refine wc_ret ?_
  refine fin_ret hfr Try.results56 (resAre_tmp rfl (resAre_tmp rfl (resAre_tmp rfl resAre_nil))) ?_
  obtain ⟨e1, e2⟩ := at_cons hstop (by omega)
  refine ⟨v, ?_, fun W h => by rw [hstop]; exact hsuf W h, hst.ext⟩
  rw [e1, e2, if_neg (by omega), if_neg (by omega)]; rfl
 rw [decide_eq_false hb1] at hfr
 have hstop : skipB l p = (l.drop j) := hsk.trans (skip_stop fun h => absurd h (by omega))
 refine wln hfr fun a hfr => ?_
 refine wln hfr fun a hfr => ?_
 refine wln hfr fun a hfr => ?_
 refine wln hfr fun a hfr => ?_
 refine wln hfr fun a hfr => ?_
 refine wln hfr fun a hfr => ?_
 refine wln hfr fun a hfr => ?_
 refine wlv hfr (v_pick_f rfl rfl) fun a hfr => ?_
 refine wl_nil (hK4 _ _ ?_)
 replace hfr : Fr 49 [(1, _), (4, _), (5, _), (6, _), (0, _), (18, _)] [] a := hfr.pick [1, 4, 5, 6, 0, 18]
 refine wc_cond_f hfr rfl ?_
 refine wc_exit ?_
 refine hK2 _ _ ?_
 refine wc_seq_k fun K10 hK10 => ?_
 refine wc_block ?_
 refine wc_seq_region fun K11 hK11 => ?_
 refine wlm hfr rfl fun a hfr => ?_
 refine wlv hfr ((v_len_sl (sT := 28) (hsuf _ (hst.arg hlv)) rfl rfl (Try.runUnderlying28 _)).asi (m' := ((l.drop j).length : Int)) (by rw [List.length_map])) fun a hfr => ?_
 refine wlv hfr (v_eq rfl rfl) fun a hfr => wla hfr rfl fun a hfr => ?_
 refine wl_nil (hK11 _ _ ?_)
 refine wc_cond_d hfr rfl (fun hc5 => ?_) (fun hc5 => ?_)
 ·refine wc_seq_region fun K12 hK12 => ?_
  refine wla hfr rfl fun a hfr => wla hfr rfl fun a hfr => wla hfr rfl fun a hfr => ?_
  refine wl_nil (hK12 _ _ ?_)
  replace hfr : Fr 49 [(0, _), (4, _), (5, _), (6, _)] [] a := hfr.pick [0, 4, 5, 6]
  refine wc_ret ?_
  refine fin_ret hfr Try.results56 (resAre_tmp rfl (resAre_tmp rfl (resAre_tmp rfl resAre_nil))) ?_
  have hnil : (l.drop j) = [] := List.eq_nil_of_length_eq_zero (by omega)
  rw [hnil] at hstop
  obtain ⟨e1, e2⟩ := at_nil hstop
  refine ⟨.slice none 0 0, ?_, fun W _ => by rw [hstop]; exact slAt_nil _ _, hst.ext⟩
  rw [e1, e2]; rfl
 omega
def encP (x : Pce) : List Value := [.agg #[iv x.f, iv x.t], .agg #[iv x.x, iv x.y]]
theorem pieces_run {M : Nat → Prop} {w0 : World} (va vb : Value) (la lbb : List Blo) (lp b1 b2 b3 : Nat) (J Jx : List Pce → Ent → Prop) (hY : Rounds Try.prog M w0 lp encP (NxP la lbb) J Jx) (e0 : Ent) (ws : World) (hoa : okF 0 (-1) la = true) (hob : okF 0 (-1) lbb = true) (hva : ∀ (H : List Ent) (w : World), St M w0 H w → SlAt w va 3 (la.map Blo.cells)) (hvb : ∀ (H : List Ent) (w : World), St M w0 H w → SlAt w vb 3 (lbb.map Blo.cells)) (hJ : J [] e0) (hst : St M w0 [e0, blk b1 [.func (.func 56) #[] #[]] 108, blk b2 [va] 28, blk b3 [vb] 28] ws) :
  Ret Try.prog 57 #[.func (.yield lp) #[] #[], .pointer (some ⟨b1, 0, none⟩), .pointer (some ⟨b2, 0, none⟩), .pointer (some ⟨b3, 0, none⟩)] ws fun _ w => ∃ e' Hi', St M w0 (e' :: Hi') w ∧ ((∃ xs, (fun xs Hi => Pcs la lbb xs 100000000 ∧ ∃ u1 u2 : Value, Hi = [blk b1 [.func (.func 56) #[] #[]] 108, blk b2 [u1] 28, blk b3 [u2] 28]) xs Hi' ∧ J xs e') ∨ (∃ pre, (fun pre Hi => ∃ u1 u2 : Value, Hi = [blk b1 [.func (.func 56) #[] #[]] 108, blk b2 [u1] 28, blk b3 [u2] 28]) pre Hi' ∧ Jx pre e')) := by
 refine ret_of Try.func57 rfl Try.ntmps57 (lb rfl) fun a hfr => ?_
 replace hfr : Fr 40 [(0, _), (1, _), (2, _), (3, _)] [] a := hfr
 skip
 refine wc_seq_region fun K1 hK1 => ?_
 refine wla hfr rfl fun a hfr => ?_
 refine wl_nil (hK1 _ _ ?_)
 refine wc_block ?_
 refine wc_loop (fun m a w => ∃ (p : Int) (l1 : List Blo) (l2 : List Blo) (v1 : Value) (v2 : Value) (e : Ent) (pre : List Pce), m = (100000000 - p).toNat ∧ (Pcs la lbb pre p) ∧ (p ≤ 100000000) ∧ (∀ W, SlAt W va 3 (la.map Blo.cells) → SlAt W v1 3 (l1.map Blo.cells)) ∧ (∀ W, SlAt W vb 3 (lbb.map Blo.cells) → SlAt W v2 3 (l2.map Blo.cells)) ∧ (∀ n, p ≤ n → hold l1 n = hold la n) ∧ (∀ n, p ≤ n → hold l2 n = hold lbb n) ∧ (∃ q c, okF q c l1 = true) ∧ (∃ q c, okF q c l2 = true) ∧ (J pre e) ∧ Fr 40 [(0, .func (.yield lp) #[] #[]), (1, .pointer (some ⟨b1, 0, none⟩)), (2, .pointer (some ⟨b2, 0, none⟩)), (3, .pointer (some ⟨b3, 0, none⟩)), (5, iv p)] [] a ∧ St M w0 [e, blk b1 [.func (.func 56) #[] #[]] 108, blk b2 [v1] 28, blk b3 [v2] 28] w) _ ⟨0, la, lbb, va, vb, e0, [], rfl, .nil, (by decide), (fun W h => h), (fun W h => h), (fun n _ => rfl), (fun n _ => rfl), ⟨_, _, hoa⟩, ⟨_, _, hob⟩, hJ, hfr.pick [0, 1, 2, 3, 5], hst⟩ ?_
 rintro _ a w1 ⟨p, l1, l2, v1, v2, e, pre, rfl, hp, hp1, hv1, hv2, hh1, hh2, ho1, ho2, hJ, hfr, hst⟩
 refine wc_seq_k fun K2 hK2 => ?_
 refine wc_seq_region fun K3 hK3 => ?_
 refine wlm hfr rfl fun a hfr => ?_
 refine wlv hfr (v_le rfl rfl) fun a hfr => ?_
 refine wl_nil (hK3 _ _ ?_)
 refine wc_cond_d hfr rfl (fun hc1 => ?_) (fun hc1 => ?_)
 ·refine wc_skip ?_
  refine hK2 _ _ ?_
  refine wc_block ?_
  refine wc_seq_region fun K4 hK4 => ?_
  refine wl_alloc hfr hst (Try.zeroValue82 _) [iv 0, iv 0] rfl ?_
  clear hfr hst
  intro a w2 hfr hst
  refine wl_nil (hK4 _ _ ?_)
  refine wc_seq_region fun K5 hK5 => ?_
  refine wla hfr rfl fun a hfr => wla hfr rfl fun a hfr => ?_
  refine wl_nil (hK5 _ _ ?_)
  refine wc_seq_region fun K6 hK6 => ?_
  refine wlv hfr (v_load_blk1 (hst.get (k := 2) rfl) rfl (Try.isAgg108 _) rfl) fun a hfr => ?_
  refine wlv hfr (v_load_blk1 (hst.get (k := 3) rfl) rfl (Try.isAgg28 _) rfl) fun a hfr => wlm hfr rfl fun a hfr => ?_
  refine wl_r (r_callv (cap := []) (vs := [v1, iv p]) rfl Try.call56 rfl (at_run v1 l1 p _ (hv1 _ (hva _ _ hst)))) rfl rfl hfr ?_
  clear hfr
  rintro a _ w3 ⟨u1, rfl, hu1, hx⟩ hfr
  have hst := hst.grow hx
  clear hx
  replace hst : St M w0 [blk w1.heap.size [iv 0, iv 0] 82, e, blk b1 [.func (.func 56) #[] #[]] 108, blk b2 [v1] 28, blk b3 [v2] 28] w3 := hst
  refine wlm hfr rfl fun a hfr => ?_
  refine wlv hfr (v_extract rfl rfl) fun a hfr => ?_
  refine wlv hfr (v_extract rfl rfl) fun a hfr => ?_
  refine wlv hfr (v_extract rfl rfl) fun a hfr => ?_
  refine wl_store_sl 3 hfr hst (hu1 _ (hv1 _ (hva _ _ hst))) rfl rfl rfl (Try.sizeOf28 _) (lb rfl) (ds := [u1]) rfl rfl ?_
  clear hfr hst
  intro a w4 hfr hst
  refine wlv hfr (v_indexAddr (v := .pointer (some ⟨w1.heap.size, 0, none⟩)) rfl rfl (by kernel_rfl)) fun a hfr => ?_
  refine wl_sto 0 hfr hst [iv (atX l1 p), iv 0] rfl (Try.sizeOf3 _) ?_
  clear hfr hst
  intro a w5 hfr hst
  refine wla hfr rfl fun a hfr => ?_
  refine wl_nil (hK6 _ _ ?_)
  replace hfr : Fr 40 [(0, _), (1, _), (2, _), (3, _), (5, _), (6, _), (7, _)] [] a := hfr.pick [0, 1, 2, 3, 5, 6, 7]
  refine wc_seq_region fun K7 hK7 => ?_
  refine wlv hfr (v_load_blk1 (hst.get (k := 2) rfl) rfl (Try.isAgg108 _) rfl) fun a hfr => ?_
  refine wlv hfr (v_load_blk1 (hst.get (k := 4) rfl) rfl (Try.isAgg28 _) rfl) fun a hfr => wlm hfr rfl fun a hfr => ?_
  refine wl_r (r_callv (cap := []) (vs := [v2, iv p]) rfl Try.call56 rfl (at_run v2 l2 p _ (hv2 _ (hvb _ _ hst)))) rfl rfl hfr ?_
  clear hfr
  rintro a _ w6 ⟨u2, rfl, hu2, hx⟩ hfr
  have hst := hst.grow hx
  clear hx
  replace hst : St M w0 [blk w1.heap.size [iv (atX l1 p), iv 0] 82, e, blk b1 [.func (.func 56) #[] #[]] 108, blk b2 [u1] 28, blk b3 [v2] 28] w6 := hst
  refine wlm hfr rfl fun a hfr => ?_
  refine wlv hfr (v_extract rfl rfl) fun a hfr => ?_
  refine wlv hfr (v_extract rfl rfl) fun a hfr => ?_
  refine wlv hfr (v_extract rfl rfl) fun a hfr => ?_
  refine wl_store_sl 4 hfr hst (hu2 _ (hv2 _ (hvb _ _ hst))) rfl rfl rfl (Try.sizeOf28 _) (lb rfl) (ds := [u2]) rfl rfl ?_
  clear hfr hst
  intro a w7 hfr hst
  refine wlv hfr (v_indexAddr (v := .pointer (some ⟨w1.heap.size, 1, none⟩)) rfl rfl (by kernel_rfl)) fun a hfr => ?_
  refine wl_sto 0 hfr hst [iv (atX l1 p), iv (atX l2 p)] rfl (Try.sizeOf3 _) ?_
  clear hfr hst
  intro a w8 hfr hst
  refine wla hfr rfl fun a hfr => ?_
  refine wl_nil (hK7 _ _ ?_)
  replace hfr : Fr 40 [(0, _), (1, _), (2, _), (3, _), (5, _), (6, _), (7, _), (8, _)] [] a := hfr.pick [0, 1, 2, 3, 5, 6, 7, 8]
  refine wc_seq_region fun K8 hK8 => ?_
  refine wlm hfr rfl fun a hfr => wlm hfr rfl fun a hfr => ?_
  refine wlv hfr (v_min2 rfl rfl) fun a hfr => wla hfr rfl fun a hfr => ?_
  refine wl_nil (hK8 _ _ ?_)
  refine wc_seq_k fun K9 hK9 => ?_
  obtain ⟨q1, c1, hq1⟩ := ho1
  obtain ⟨q2, c2, hq2⟩ := ho2
  obtain ⟨a1, a2, a3⟩ := at_ok hq1 (p := p) (by omega)
  obtain ⟨d1, d2, d3⟩ := at_ok hq2 (p := p) (by omega)
  have hnx : NxP la lbb pre ⟨p, min (atT l1 p) (atT l2 p), atX l1 p, atX l2 p⟩ := .of hp (by show p < min _ _; omega) (by show min _ _ ≤ _; omega) (fun n g1 g2 => by
   have g2 : n < min (atT l1 p) (atT l2 p) := g2
   have g1 : p ≤ n := g1
   exact ⟨(hh1 n g1).symm.trans (a3 n g1 (by omega)), (hh2 n g1).symm.trans (d3 n g1 (by omega))⟩)
  refine wc_seq_region fun K10 hK10 => ?_
  refine wlm hfr rfl fun a hfr => wlm hfr rfl fun a hfr => wlm hfr rfl fun a hfr => ?_
  refine wlv hfr (v_build (v := .agg #[iv p, iv (min (atT l1 p) (atT l2 p))]) rfl (by kernel_rfl)) fun a hfr => ?_
  refine wlv hfr (v_load_all (hst.get (k := 0) rfl) rfl (Try.isAgg82 _) (Try.sizeOf82 _)) fun a hfr => ?_
  refine wl_r (r_yield rfl rfl (hY.yield (pre := pre) (x := ⟨p, min (atT l1 p) (atT l2 p), atX l1 p, atX l2 p⟩) hnx hJ (hst.only (i := 1) rfl))) rfl rfl hfr ?_
  clear hfr
  intro a v w9 hR hfr
  obtain ⟨y2, e3, rfl, hx, hok, hft, hJt, hJf⟩ := hR
  replace hst := hst.exchange (k := 1) rfl hx hok hft
  replace hst : St M w0 [blk w1.heap.size [iv (atX l1 p), iv (atX l2 p)] 82, e3, blk b1 [.func (.func 56) #[] #[]] 108, blk b2 [u1] 28, blk b3 [u2] 28] w9 := hst
  clear hx hok hft
  refine wlv hfr (v_not rfl) fun a hfr => ?_
  refine wl_nil (hK10 _ _ ?_)
  replace hfr : Fr 40 [(0, _), (1, _), (2, _), (3, _), (7, _), (38, _)] [] a := hfr.pick [0, 1, 2, 3, 7, 38]
  replace hst : St M w0 [_, _, _, _] w9 := hst.mask [false, true, true, true, true]
  refine wc_cond hfr rfl (fun hc4 => ?_) (fun hc4 => ?_)
  ·try simp only [qz] at hc4
   have hJ := hJf hc4
   refine wc_ret ?_
   refine fin_ret hfr Try.results57 resAre_nil ?_
   exact ⟨_, _, hst, .inr ⟨_, ⟨_, _, rfl⟩, hJ⟩⟩
  try simp only [qz] at hc4
  have hJ := hJt hc4
  refine wc_skip ?_
  refine hK9 _ _ ?_
  refine wc_region ?_
  refine wlm hfr rfl fun a hfr => wla hfr rfl fun a hfr => ?_
  refine wl_nil ?_
  refine ⟨_, ?_, min (atT l1 p) (atT l2 p), (skipB l1 p), (skipB l2 p), u1, u2, e3, (pre ++ [⟨p, min (atT l1 p) (atT l2 p), atX l1 p, atX l2 p⟩]), rfl, hnx.snoc, (by omega), (fun W h => hu1 W (hv1 W h)), (fun W h => hu2 W (hv2 W h)), (fun n hn => (skip_hold (by omega)).trans (hh1 n (by omega))), (fun n hn => (skip_hold (by omega)).trans (hh2 n (by omega))), (okF_skip hq1), (okF_skip hq2), hJ, hfr.pick [0, 1, 2, 3, 5], hst⟩
  omega
 obtain rfl : p = 100000000 := by omega
 refine wc_exit ?_
 refine fin_end hfr Try.results57 resAre_nil ?_
 exact ⟨_, _, hst, .inl ⟨_, ⟨hp, _, _, rfl⟩, hJ⟩⟩
theorem pieces_iter {M : Nat → Prop} {w0 : World} (va vb : Value) (la lbb : List Blo) (b1 b2 b3 : Nat) (hoa : okF 0 (-1) la = true) (hob : okF 0 (-1) lbb = true) (hva : ∀ (H : List Ent) (w : World), St M w0 H w → SlAt w va 3 (la.map Blo.cells)) (hvb : ∀ (H : List Ent) (w : World), St M w0 H w → SlAt w vb 3 (lbb.map Blo.cells)) :
  Iter Try.prog 57 [.pointer (some ⟨b1, 0, none⟩), .pointer (some ⟨b2, 0, none⟩), .pointer (some ⟨b3, 0, none⟩)] encP (NxP la lbb) (fun xs Hi => Pcs la lbb xs 100000000 ∧ ∃ u1 u2 : Value, Hi = [blk b1 [.func (.func 56) #[] #[]] 108, blk b2 [u1] 28, blk b3 [u2] 28]) (fun pre Hi => ∃ u1 u2 : Value, Hi = [blk b1 [.func (.func 56) #[] #[]] 108, blk b2 [u1] 28, blk b3 [u2] 28]) M w0 [blk b1 [.func (.func 56) #[] #[]] 108, blk b2 [va] 28, blk b3 [vb] 28] :=
 fun lp J Jx w e hY hJ hst => pieces_run va vb la lbb lp b1 b2 b3 J Jx hY e w hoa hob hva hvb hJ hst
theorem pieces_ok (va vb : Value) (ea eb : List (List Value)) (w0 : World) (hva : SlAt w0 va 3 ea) (hvb : SlAt w0 vb 3 eb) :
  Ret Try.prog 32 #[va, vb] w0 (MemR w0 (fun z : Nat × Nat × Nat => .func (.func 57) #[] #[.pointer (some ⟨z.1, 0, none⟩), .pointer (some ⟨z.2.1, 0, none⟩), .pointer (some ⟨z.2.2, 0, none⟩)]) (fun z => [blk z.1 [.func (.func 56) #[] #[]] 108, blk z.2.1 [va] 28, blk z.2.2 [vb] 28]) (fun _ => True)) := by
 refine ret_of Try.func32 rfl Try.ntmps32 (lb rfl) fun a hfr => ?_
 replace hfr : Fr 7 [(0, _), (1, _)] [] a := hfr
 replace hst : St No w0 [] w0 := St.init w0
 refine wc_seq_region fun K1 hK1 => ?_
 refine wl_box hfr hst rfl [va] (by rw [(hst.arg hva).cells]) ?_
 clear hfr hst
 intro a w1 hfr hst
 refine wl_box hfr hst rfl [vb] (by rw [(hst.arg hvb).cells]) ?_
 clear hfr hst
 intro a w2 hfr hst
 refine wla hfr rfl fun a hfr => ?_
 refine wl_nil (hK1 _ _ ?_)
 refine wc_seq_region fun K2 hK2 => ?_
 refine wl_alloc hfr hst (Try.zeroValue108 _) [.nilFunc] rfl ?_
 clear hfr hst
 intro a w3 hfr hst
 refine wl_sto 0 hfr hst [.func (.func 56) #[] #[]] rfl (Try.sizeOf108 _) ?_
 clear hfr hst
 intro a w4 hfr hst
 refine wl_nil (hK2 _ _ ?_)
 refine wc_seq_region fun K3 hK3 => ?_
 refine wlv hfr (v_makeFunc rfl rfl) fun a hfr => wla hfr rfl fun a hfr => ?_
 refine wl_nil (hK3 _ _ ?_)
 replace hfr : Fr 7 [(4, _)] [] a := hfr.pick [4]
 refine wc_ret ?_
 refine fin_ret hfr Try.results32 (resAre_tmp rfl resAre_nil) ?_
 exact ⟨(w2.heap.size, w0.heap.size, w1.heap.size), rfl, trivial, hst.ext, St.out (H := []) (hst.select [0, 2, 1] (by decide))⟩
end Go.Proofs.Ytnfnkohkcmkddaa
namespace Go.Proofs.Ytnfnkohkcmkddaa
open Go.RowKit Go.PW
set_option linter.unusedVariables false
set_option linter.unusedSimpArgs false
set_option maxRecDepth 4000
set_option maxHeartbeats 4000000 in
theorem combine_ok (va vb : Value) (la lbb : List Blo) (w0 : World) (hva : SlAt w0 va 3 (la.map Blo.cells)) (hvb : SlAt w0 vb 3 (lbb.map Blo.cells)) (hoa : okF 0 (-1) la = true) (hob : okF 0 (-1) lbb = true) (hln : ∀ xs, Pcs la lbb xs 100000000 → (outP overX xs).length ≤ 40) :
  Ret Try.prog 51 #[va, vb, .func (.func 53) #[] #[]] w0 (MemR w0 (fun z : Value × List Pce => .tuple #[z.1, iv 0]) (fun z => [own z.1 77 3 ((outP overX z.2).map Blo.cells)]) (fun z => Pcs la lbb z.2 100000000)) := by
 refine ret_of Try.func51 rfl Try.ntmps51 (lb rfl) fun a hfr => ?_
 replace hfr : Fr 70 [(0, _), (1, _), (2, _)] [] a := hfr
 replace hst : St No w0 [] w0 := St.init w0
 refine wc_seq_region fun K1 hK1 => ?_
 refine wl_box hfr hst rfl [.func (.func 53) #[] #[]] rfl ?_
 clear hfr hst
 intro a w1 hfr hst
 refine wla hfr rfl fun a hfr => wla hfr rfl fun a hfr => ?_
 refine wl_nil (hK1 _ _ ?_)
 refine wc_seq_region fun K2 hK2 => ?_
 refine wl_alloc hfr hst (Try.zeroValue28 _) [.slice none 0 0] rfl ?_
 clear hfr hst
 intro a w2 hfr hst
 refine wl_nil (hK2 _ _ ?_)
 refine wc_seq_k fun K3 hK3 => ?_
 refine wc_seq_region fun K4 hK4 => ?_
 refine wlm hfr rfl fun a hfr => wlm hfr rfl fun a hfr => ?_
 refine wl_callm hfr hst Try.call32 rfl (pieces_ok _ _ _ _ _ (hst.arg hva) (hst.arg hvb)) ?_
 clear hfr hst
 intro a w3 x4 hp hfr hst
 obtain ⟨bp1, bp2, bp3⟩ := x4
 clear hp
 replace hst : St No w0 [blk bp1 [.func (.func 56) #[] #[]] 108, blk bp2 [va] 28, blk bp3 [vb] 28, blk w1.heap.size [.slice none 0 0] 28, blk w0.heap.size [.func (.func 53) #[] #[]] 37] w3 := hst
 refine wl_nil (hK4 _ _ ?_)
 refine wc_block ?_
 replace hst : St No w0 (own (.slice none 0 0) 77 3 [] :: [blk bp1 [.func (.func 56) #[] #[]] 108, blk bp2 [va] 28, blk bp3 [vb] 28, blk w1.heap.size [.slice none 0 0] 28, blk w0.heap.size [.func (.func 53) #[] #[]] 37]) w3 := hst.nil_own
 replace hst : St No w0 [blk w1.heap.size [.slice none 0 0] 28, own (.slice none 0 0) 77 3 ([]), blk w0.heap.size [.func (.func 53) #[] #[]] 37, blk bp1 [.func (.func 56) #[] #[]] 108, blk bp2 [va] 28, blk bp3 [vb] 28] w3 := hst.select [4, 0, 5, 1, 2, 3] (by decide)
 replace hfr : Fr 70 [(0, va), (1, vb), (2, .func (.func 53) #[] #[]), (5, .pointer (some ⟨w0.heap.size, 0, none⟩)), (6, .slice none 0 0), (7, iv 0), (8, .pointer (some ⟨w1.heap.size, 0, none⟩)), (13, va), (14, vb), (15, .func (.func 57) #[] #[.pointer (some ⟨bp1, 0, none⟩), .pointer (some ⟨bp2, 0, none⟩), .pointer (some ⟨bp3, 0, none⟩)])] [] a := hfr.pick [0, 1, 2, 5, 6, 7, 8, 13, 14, 15]
 refine wc_range (M := No) (w0 := w0) (encs := encP) (Hi := [blk bp1 [.func (.func 56) #[] #[]] 108, blk bp2 [va] 28, blk bp3 [vb] 28]) (Hc := [blk w1.heap.size [.slice none 0 0] 28, own (.slice none 0 0) 77 3 ([]), blk w0.heap.size [.func (.func 53) #[] #[]] 37]) (fun pre H => ∃ (vo : Value), ∃ (o : List Blo), (o = outP overX pre) ∧ H = [blk w1.heap.size [vo] 28, own vo 77 3 (o.map Blo.cells), blk w0.heap.size [.func (.func 53) #[] #[]] 37]) (fun _ _ _ => False) (fun pre xs H a => ∃ (bA0 : Nat), ∃ (bA1 : Nat), Fr 70 [(5, .pointer (some ⟨w0.heap.size, 0, none⟩)), (6, .slice none 0 0), (7, iv 0), (8, .pointer (some ⟨w1.heap.size, 0, none⟩)), (9, .pointer (some ⟨bA1, 0, none⟩)), (10, .pointer (some ⟨bA0, 0, none⟩))] [] a ∧ ∃ (vo : Value), ∃ (o : List Blo), (o = outP overX pre) ∧ H = [blk bA0 [iv xs.x, iv xs.y] 82, blk bA1 [iv xs.f, iv xs.t] 49, blk w1.heap.size [vo] 28, own vo 77 3 (o.map Blo.cells), blk w0.heap.size [.func (.func 53) #[] #[]] 37]) rfl Try.call57 hfr hst (pieces_iter va vb la lbb bp1 bp2 bp3 hoa hob (fun H w h => h.arg hva) (fun H w h => h.arg hvb)) (by decide) (fun _ => rfl) ⟨_, [], rfl, rfl⟩ ?_ ?_ ?_ ?_
 ·clear hfr hst
  rintro lp pre xs _ a w4 hnx ⟨vo, o, ho, rfl⟩ hfr hst
  generalize (join [blk w1.heap.size [vo] 28, own vo 77 3 (o.map Blo.cells), blk w0.heap.size [.func (.func 53) #[] #[]] 37]).foot = M1 at hst ⊢
  replace hfr : Fr 70 [(17, .agg #[iv xs.x, iv xs.y]), (16, .agg #[iv xs.f, iv xs.t]), (0, va), (1, vb), (2, .func (.func 53) #[] #[]), (5, .pointer (some ⟨w0.heap.size, 0, none⟩)), (6, .slice none 0 0), (7, iv 0), (8, .pointer (some ⟨w1.heap.size, 0, none⟩)), (13, va), (14, vb), (15, .func (.func 57) #[] #[.pointer (some ⟨bp1, 0, none⟩), .pointer (some ⟨bp2, 0, none⟩), .pointer (some ⟨bp3, 0, none⟩)])] [] a := hfr
  refine wc_seq_region fun K5 hK5 => ?_
  refine wl_alloc hfr hst (Try.zeroValue49 _) [iv 0, iv 0] rfl ?_
  clear hfr hst
  intro a w5 hfr hst
  refine wl_sto 0 hfr hst [iv xs.f, iv xs.t] rfl (Try.sizeOf49 _) ?_
  clear hfr hst
  intro a w6 hfr hst
  refine wl_nil (hK5 _ _ ?_)
  replace hfr : Fr 70 [(17, _), (5, _), (6, _), (7, _), (8, _), (9, _)] [] a := hfr.pick [17, 5, 6, 7, 8, 9]
  refine wc_region ?_
  refine wl_alloc hfr hst (Try.zeroValue82 _) [iv 0, iv 0] rfl ?_
  clear hfr hst
  intro a w7 hfr hst
  refine wl_sto 0 hfr hst [iv xs.x, iv xs.y] rfl (Try.sizeOf82 _) ?_
  clear hfr hst
  intro a w8 hfr hst
  refine wl_nil ?_
  exact ⟨_, ⟨w6.heap.size, w4.heap.size, hfr.pick [5, 6, 7, 8, 9, 10], vo, o, ho, rfl⟩, hst⟩
 ·rintro lp pre xs _ a w9 hnx ⟨bA0, bA1, hfr, vo, o, ho, rfl⟩ hout hrec hnl hst
  clear hrec hnl
  generalize (join [blk bA0 [iv xs.x, iv xs.y] 82, blk bA1 [iv xs.f, iv xs.t] 49, blk w1.heap.size [vo] 28, own vo 77 3 (o.map Blo.cells), blk w0.heap.size [.func (.func 53) #[] #[]] 37]).foot = M1 at hst hout ⊢
  refine wc_block ?_
  have hol := (outP_len (h := overX) hnx.1).1
  rw [← ho] at hol
  have hx8 := hnx.2.2.1
  have hx7 := hnx.2.2.2.1
  refine wc_seq_region fun K6 hK6 => ?_
  refine wlv hfr (v_load_blk1 (hst.get (k := 4) rfl) rfl (Try.isAgg37 _) rfl) fun a hfr => ?_
  refine wlv hfr (v_indexAddr (v := .pointer (some ⟨bA0, 0, none⟩)) rfl rfl (by kernel_rfl)) fun a hfr => ?_
  refine wlv hfr (v_load_blk1 (hst.get (k := 0) rfl) rfl (Try.isAgg3 _) rfl) fun a hfr => ?_
  refine wlv hfr (v_indexAddr (v := .pointer (some ⟨bA0, 1, none⟩)) rfl rfl (by kernel_rfl)) fun a hfr => ?_
  refine wlv hfr (v_load_blk1 (hst.get (k := 0) rfl) rfl (Try.isAgg3 _) rfl) fun a hfr => ?_
  refine wl_r (r_callv (cap := []) (vs := [iv xs.x, iv xs.y]) rfl Try.call53 rfl (over_ok xs.x xs.y _)) rfl rfl hfr ?_
  clear hfr
  rintro a _ w10 ⟨rfl, hx⟩ hfr
  have hst := hst.grow hx
  clear hx
  replace hst : St M1 w9 [blk bA0 [iv xs.x, iv xs.y] 82, blk bA1 [iv xs.f, iv xs.t] 49, blk w1.heap.size [vo] 28, own vo 77 3 (o.map Blo.cells), blk w0.heap.size [.func (.func 53) #[] #[]] 37] w10 := hst
  refine wla hfr rfl fun a hfr => ?_
  refine wl_nil (hK6 _ _ ?_)
  replace hfr : Fr 70 [(6, _), (7, _), (8, _), (9, _), (11, _)] [] a := hfr.pick [6, 7, 8, 9, 11]
  replace hst : St M1 w9 [_, _, _, _] w10 := hst.mask [false, true, true, true, true]
  refine wc_seq_k fun K7 hK7 => ?_
  refine wc_seq_region fun K8 hK8 => ?_
  refine wlm hfr rfl fun a hfr => ?_
  refine wlv hfr (v_eq rfl rfl) fun a hfr => ?_
  refine wl_nil (hK8 _ _ ?_)
  refine wc_cond_d hfr rfl (fun hc5 => ?_) (fun hc5 => ?_)
  ·refine wc_exit ?_
   exact ⟨_, ⟨vo, o, (by rw [outP_snoc, ← ho, stepB_skip hc5]), rfl⟩, hst.select [1, 2, 3] (by decide)⟩
  refine wc_skip ?_
  refine hK7 _ _ ?_
  refine wc_seq_k fun K9 hK9 => ?_
  refine wc_seq_region fun K10 hK10 => ?_
  refine wlv hfr (v_load_blk1 (hst.get (k := 1) rfl) rfl (Try.isAgg28 _) rfl) fun a hfr => ?_
  refine wlv hfr ((v_len_sl (sT := 28) (hst.ownAt (i := 2) rfl) rfl rfl (Try.runUnderlying28 _)).asi (m' := (o.length : Int)) (by rw [List.length_map])) fun a hfr => wla hfr rfl fun a hfr => ?_
  refine wl_nil (hK10 _ _ ?_)
  refine wc_seq_k fun K11 hK11 => ?_
  refine wc_of_dr (dr_of_wd fun w11 hxz => ?_)
  replace hst := hst.grow hxz
  refine wd_lin (k := 0) 3 [2] ?_
  refine wlm hfr rfl fun a hfr => ?_
  refine wlv hfr (v_gt rfl rfl) fun a hfr => wlm hfr rfl fun a hfr => ?_
  refine wl_nil ?_
  rcases Decidable.em (0 < (o.length : Int)) with hb6 | hb6
  ·rw [decide_eq_true hb6] at hfr
   refine wd_sub (k := 3) 12 [9, 11] hfr ?_
   replace hfr : Fr 70 [(6, _), (7, _), (8, _), (9, _), (11, _), (24, _), (26, _), (27, _), (12, _), (28, _), (29, _), (30, _)] [] a := hfr.pick [6, 7, 8, 9, 11, 24, 26, 27, 12, 28, 29, 30]
   refine dr_pl 9 hfr hst <| pl_w (fun hst => v_load_blk1 (hst.get (k := 1) rfl) rfl (Try.isAgg28 _) rfl) <| pl_m rfl <| pl_v (v_sub rfl rfl ⟨by omega, by omega⟩) <| pl_w (fun hst => (v_indexAddr_sl (i := (o.length : Int) - 1) (sT := 28) (hst.ownAt (i := 2) rfl) rfl rfl (Try.runUnderlying28 _) (Try.sizeOf77 _) (by omega) (by rw [List.length_map]; omega)).as (v' := slAddr vo ((o.length - 1) * 3)) (by rw [show ((o.length : Int) - 1).toNat = (o.length - 1) from by omega])) <| pl_w (fun hst => v_fieldAddr_sl (k := (o.length - 1) * 3) (j := 0) (hst.ownAt (i := 2) rfl) (i := (o.length - 1)) (by rw [List.length_map]; omega) rfl (fun _ _ => by kernel_rfl)) <| pl_w (fun hst => v_fieldAddr_sl (k := (o.length - 1) * 3 + 0) (j := 1) (hst.ownAt (i := 2) rfl) (i := (o.length - 1)) (by rw [List.length_map]; omega) rfl (fun _ _ => by kernel_rfl)) ?_
   refine pl_w (fun hst => v_load_sl1 (u := iv ((o.getD (o.length - 1) Blo.z).t)) (i := (o.length - 1)) (j := 1) (hst.ownAt (i := 2) rfl) (by rw [List.length_map]; omega) rfl (Try.isAgg3 _) (by rw [el_at Blo.z]; rfl)) <| pl_v (v_fieldAddr (v := .pointer (some ⟨bA1, 0, none⟩)) rfl (by kernel_rfl)) <| pl_w (fun hst => v_load_blk1 (hst.get (k := 0) rfl) rfl (Try.isAgg3 _) rfl) ?_
   clear hfr hst
   intro a w12 hfr hst
   replace hfr : Fr 70 [(6, _), (7, _), (8, _), (9, _), (11, _), (12, _), (30, _), (37, _), (39, _)] [] a := hfr.pick [6, 7, 8, 9, 11, 12, 30, 37, 39]
   refine wl_nil ?_
   refine wd_lin (k := 12) 15 [14] ?_
   refine wly hfr (v_eq rfl rfl) fun a hfr => ?_
   refine wlv hfr (v_pick_t rfl rfl) fun a hfr => wlm hfr rfl fun a hfr => ?_
   refine wl_nil ?_
   rcases Decidable.em ((o.getD (o.length - 1) Blo.z).t = xs.f) with hb7 | hb7
   ·rw [decide_eq_true hb7] at hfr
    refine wd_sub (k := 15) 22 [20, 21] hfr ?_
    replace hfr : Fr 70 [(6, _), (7, _), (8, _), (9, _), (11, _), (12, _), (30, _), (37, _), (39, _), (40, _), (41, _), (42, _)] [] a := hfr.pick [6, 7, 8, 9, 11, 12, 30, 37, 39, 40, 41, 42]
    refine dr_pl 7 hfr hst <| pl_w (fun hst => v_load_blk1 (hst.get (k := 1) rfl) rfl (Try.isAgg28 _) rfl) <| pl_m rfl <| pl_v (v_sub rfl rfl ⟨by omega, by omega⟩) <| pl_w (fun hst => (v_indexAddr_sl (i := (o.length : Int) - 1) (sT := 28) (hst.ownAt (i := 2) rfl) rfl rfl (Try.runUnderlying28 _) (Try.sizeOf77 _) (by omega) (by rw [List.length_map]; omega)).as (v' := slAddr vo ((o.length - 1) * 3)) (by rw [show ((o.length : Int) - 1).toNat = (o.length - 1) from by omega])) <| pl_w (fun hst => v_fieldAddr_sl (k := (o.length - 1) * 3) (j := 2) (hst.ownAt (i := 2) rfl) (i := (o.length - 1)) (by rw [List.length_map]; omega) rfl (fun _ _ => by kernel_rfl)) <| pl_w (fun hst => v_load_sl1 (u := iv ((o.getD (o.length - 1) Blo.z).c)) (i := (o.length - 1)) (j := 2) (hst.ownAt (i := 2) rfl) (by rw [List.length_map]; omega) rfl (Try.isAgg3 _) (by rw [el_at Blo.z]; rfl)) <| pl_m rfl ?_
    clear hfr hst
    intro a w13 hfr hst
    replace hfr : Fr 70 [(6, _), (7, _), (8, _), (9, _), (11, _), (12, _), (42, _), (48, _), (49, _)] [] a := hfr.pick [6, 7, 8, 9, 11, 12, 42, 48, 49]
    refine wl_nil ?_
    refine wd_lin (k := 22) 24 [23] ?_
    refine wly hfr (v_eq rfl rfl) fun a hfr => ?_
    refine wlv hfr (v_pick_t rfl rfl) fun a hfr => ?_
    refine wl_nil ?_
    refine wd_end ?_
    refine hK11 _ _ ?_
    refine wc_cond_d hfr rfl (fun hc8 => ?_) (fun hc8 => ?_)
    ·refine wc_seq_region fun K12 hK12 => ?_
     refine wlv hfr (v_load_blk1 (hst.get (k := 1) rfl) rfl (Try.isAgg28 _) rfl) fun a hfr => wlm hfr rfl fun a hfr => ?_
     refine wlv hfr (v_sub rfl rfl ⟨by omega, by omega⟩) fun a hfr => ?_
     refine wlv hfr (v_fieldAddr (v := .pointer (some ⟨bA1, 1, none⟩)) rfl (by kernel_rfl)) fun a hfr => ?_
     refine wlv hfr (v_load_blk1 (hst.get (k := 0) rfl) rfl (Try.isAgg3 _) rfl) fun a hfr => ?_
     refine wlv hfr ((v_indexAddr_sl (i := (o.length : Int) - 1) (sT := 28) (hst.ownAt (i := 2) rfl) rfl rfl (Try.runUnderlying28 _) (Try.sizeOf77 _) (by omega) (by rw [List.length_map]; omega)).as (v' := slAddr vo ((o.length - 1) * 3)) (by rw [show ((o.length : Int) - 1).toNat = (o.length - 1) from by omega])) fun a hfr => ?_
     refine wlv hfr (v_fieldAddr_sl (k := (o.length - 1) * 3) (j := 0) (hst.ownAt (i := 2) rfl) (i := (o.length - 1)) (by rw [List.length_map]; omega) rfl (fun _ _ => by kernel_rfl)) fun a hfr => ?_
     refine wlv hfr (v_fieldAddr_sl (k := (o.length - 1) * 3 + 0) (j := 1) (hst.ownAt (i := 2) rfl) (i := (o.length - 1)) (by rw [List.length_map]; omega) rfl (fun _ _ => by kernel_rfl)) fun a hfr => ?_
     refine wl_store_own (k := o.length - 1) (j := 1) 2 hfr hst rfl rfl rfl (by rw [List.length_map]; omega) (by omega) (Try.sizeOf3 _) (by simp [Value.oneCell', Value.cells]) (lb rfl) (els' := ((o.dropLast ++ [(⟨(o.getD (o.length - 1) Blo.z).f, xs.t, (o.getD (o.length - 1) Blo.z).c⟩ : Blo)]).map Blo.cells)) (blo_join (by omega) _) rfl ?_
     clear hfr hst
     intro a w14 hfr hst
     refine wl_nil (hK12 _ _ ?_)
     replace hfr : Fr 70 [(6, _), (7, _), (8, _), (9, _), (11, _)] [] a := hfr.pick [6, 7, 8, 9, 11]
     refine wc_exit ?_
     exact ⟨_, ⟨vo, (o.dropLast ++ [(⟨(o.getD (o.length - 1) Blo.z).f, xs.t, (o.getD (o.length - 1) Blo.z).c⟩ : Blo)]), (by rw [outP_snoc, ← ho, stepB_join hc5 (by omega) (by omega) (by omega)]), rfl⟩, hst.select [1, 2, 3] (by decide)⟩
    refine wc_skip ?_
    refine hK9 _ _ ?_
    refine wc_region ?_
    refine wlv hfr (v_load_blk1 (hst.get (k := 1) rfl) rfl (Try.isAgg28 _) rfl) fun a hfr => ?_
    refine wlv hfr (v_load_all (hst.get (k := 0) rfl) rfl (Try.isAgg49 _) (Try.sizeOf49 _)) fun a hfr => wlm hfr rfl fun a hfr => ?_
    refine wlv hfr (v_build (v := .agg #[iv xs.f, iv xs.t, iv (overX xs.x xs.y)]) rfl (by kernel_rfl)) fun a hfr => ?_
    refine wl_buildSlice (E := 77) (sz := 3) rfl [[iv xs.f, iv xs.t, iv (overX xs.x xs.y)]] (by kernel_rfl) (by simp) rfl (by decide) (by decide) hfr hst ?_
    clear hfr hst
    intro a w15 hfr hst
    refine wl_append (i := 3) (sT := 28) (inf := Try.t77) (z := .agg #[iv 0, iv 0, iv 0]) (b := 0) (off := 0) (m := 0) (c := 0) rfl rfl rfl (hst.ownAt (i := 0) rfl) (by simp) Try.underlying28 rfl rfl rfl rfl (by decide) (by simp [Value.oneCell', yv, wv, sv]) (by have hby : Try.t77.bytes = 24 := rfl; simp [big, hby]; omega) (by have hby : Try.t77.bytes = 24 := rfl; simp [big, hby]; omega) (by decide) hfr hst fun a w16 s9 hfr hst _ => ?_
    refine wl_store_sl 2 hfr hst (hst.ownAt (i := 3) rfl) rfl rfl rfl (Try.sizeOf28 _) (lb rfl) (ds := [s9]) rfl rfl ?_
    clear hfr hst
    intro a w17 hfr hst
    refine wl_nil ?_
    rw [show (o.map Blo.cells) ++ ([[iv xs.f, iv xs.t, iv (overX xs.x xs.y)]]) = ((o ++ [(⟨xs.f, xs.t, overX xs.x xs.y⟩ : Blo)]).map Blo.cells) from by rw [List.map_append]; rfl] at hst
    exact ⟨_, ⟨s9, (o ++ [(⟨xs.f, xs.t, overX xs.x xs.y⟩ : Blo)]), (by rw [outP_snoc, ← ho, stepB_new hc5 (by omega)]), rfl⟩, hst.select [2, 3, 4] (by decide)⟩
   rw [decide_eq_false hb7] at hfr
   replace hfr : Fr 70 [(6, .slice none 0 0), (7, iv 0), (8, .pointer (some ⟨w1.heap.size, 0, none⟩)), (9, .pointer (some ⟨bA1, 0, none⟩)), (11, iv (overX xs.x xs.y)), (12, iv (o.length : Int)), (30, .bool true), (37, iv ((o.getD (o.length - 1) Blo.z).t)), (39, iv xs.f), (40, .bool false), (41, .bool false), (42, .bool false)] [] a := hfr.pick [6, 7, 8, 9, 11, 12, 30, 37, 39, 40, 41, 42]
   refine wd_skip (k := 15) 22 [20, 21] hfr fun a hfr => ?_
   replace hfr : Fr 70 [(43, undef), (44, undef), (45, undef), (46, undef), (47, undef), (48, undef), (49, undef), (6, .slice none 0 0), (7, iv 0), (8, .pointer (some ⟨w1.heap.size, 0, none⟩)), (9, .pointer (some ⟨bA1, 0, none⟩)), (11, iv (overX xs.x xs.y)), (12, iv (o.length : Int)), (30, .bool true), (37, iv ((o.getD (o.length - 1) Blo.z).t)), (39, iv xs.f), (40, .bool false), (41, .bool false), (42, .bool false)] [] a := hfr
   refine wd_lin (k := 22) 24 [23] ?_
   refine wln hfr fun a hfr => ?_
   refine wlv hfr (v_pick_f rfl rfl) fun a hfr => ?_
   refine wl_nil ?_
   refine wd_end ?_
   refine hK11 _ _ ?_
   replace hfr : Fr 70 [(6, _), (7, _), (8, _), (9, _), (11, _), (12, _), (51, _)] [] a := hfr.pick [6, 7, 8, 9, 11, 12, 51]
   refine wc_cond_f hfr rfl ?_
   refine wc_skip ?_
   refine hK9 _ _ ?_
   refine wc_region ?_
   refine wlv hfr (v_load_blk1 (hst.get (k := 1) rfl) rfl (Try.isAgg28 _) rfl) fun a hfr => ?_
   refine wlv hfr (v_load_all (hst.get (k := 0) rfl) rfl (Try.isAgg49 _) (Try.sizeOf49 _)) fun a hfr => wlm hfr rfl fun a hfr => ?_
   refine wlv hfr (v_build (v := .agg #[iv xs.f, iv xs.t, iv (overX xs.x xs.y)]) rfl (by kernel_rfl)) fun a hfr => ?_
   refine wl_buildSlice (E := 77) (sz := 3) rfl [[iv xs.f, iv xs.t, iv (overX xs.x xs.y)]] (by kernel_rfl) (by simp) rfl (by decide) (by decide) hfr hst ?_
   clear hfr hst
   intro a w18 hfr hst
   refine wl_append (i := 3) (sT := 28) (inf := Try.t77) (z := .agg #[iv 0, iv 0, iv 0]) (b := 0) (off := 0) (m := 0) (c := 0) rfl rfl rfl (hst.ownAt (i := 0) rfl) (by simp) Try.underlying28 rfl rfl rfl rfl (by decide) (by simp [Value.oneCell', yv, wv, sv]) (by have hby : Try.t77.bytes = 24 := rfl; simp [big, hby]; omega) (by have hby : Try.t77.bytes = 24 := rfl; simp [big, hby]; omega) (by decide) hfr hst fun a w19 s10 hfr hst _ => ?_
   refine wl_store_sl 2 hfr hst (hst.ownAt (i := 3) rfl) rfl rfl rfl (Try.sizeOf28 _) (lb rfl) (ds := [s10]) rfl rfl ?_
   clear hfr hst
   intro a w20 hfr hst
   refine wl_nil ?_
   rw [show (o.map Blo.cells) ++ ([[iv xs.f, iv xs.t, iv (overX xs.x xs.y)]]) = ((o ++ [(⟨xs.f, xs.t, overX xs.x xs.y⟩ : Blo)]).map Blo.cells) from by rw [List.map_append]; rfl] at hst
   exact ⟨_, ⟨s10, (o ++ [(⟨xs.f, xs.t, overX xs.x xs.y⟩ : Blo)]), (by rw [outP_snoc, ← ho, stepB_new hc5 (by omega)]), rfl⟩, hst.select [2, 3, 4] (by decide)⟩
  rw [decide_eq_false hb6] at hfr
  replace hfr : Fr 70 [(6, .slice none 0 0), (7, iv 0), (8, .pointer (some ⟨w1.heap.size, 0, none⟩)), (9, .pointer (some ⟨bA1, 0, none⟩)), (11, iv (overX xs.x xs.y)), (24, iv (overX xs.x xs.y)), (26, vo), (27, iv (o.length : Int)), (12, iv (o.length : Int)), (28, iv (o.length : Int)), (29, .bool false), (30, .bool false)] [] a := hfr.pick [6, 7, 8, 9, 11, 24, 26, 27, 12, 28, 29, 30]
  refine wd_skip (k := 3) 12 [9, 11] hfr fun a hfr => ?_
  replace hfr : Fr 70 [(31, undef), (32, undef), (33, undef), (34, undef), (35, undef), (36, undef), (37, undef), (38, undef), (39, undef), (6, .slice none 0 0), (7, iv 0), (8, .pointer (some ⟨w1.heap.size, 0, none⟩)), (9, .pointer (some ⟨bA1, 0, none⟩)), (11, iv (overX xs.x xs.y)), (24, iv (overX xs.x xs.y)), (26, vo), (27, iv (o.length : Int)), (12, iv (o.length : Int)), (28, iv (o.length : Int)), (29, .bool false), (30, .bool false)] [] a := hfr
  refine wd_lin (k := 12) 15 [14] ?_
  refine wln hfr fun a hfr => ?_
  refine wlv hfr (v_pick_f rfl rfl) fun a hfr => wlm hfr rfl fun a hfr => ?_
  refine wl_nil ?_
  replace hfr : Fr 70 [(31, undef), (32, undef), (33, undef), (34, undef), (35, undef), (36, undef), (37, undef), (38, undef), (39, undef), (6, .slice none 0 0), (7, iv 0), (8, .pointer (some ⟨w1.heap.size, 0, none⟩)), (9, .pointer (some ⟨bA1, 0, none⟩)), (11, iv (overX xs.x xs.y)), (24, iv (overX xs.x xs.y)), (26, vo), (27, iv (o.length : Int)), (12, iv (o.length : Int)), (28, iv (o.length : Int)), (29, .bool false), (30, .bool false), (40, undef), (41, .bool false), (42, .bool false)] [] a := hfr.pick [31, 32, 33, 34, 35, 36, 37, 38, 39, 6, 7, 8, 9, 11, 24, 26, 27, 12, 28, 29, 30, 40, 41, 42]
  refine wd_skip (k := 15) 22 [20, 21] hfr fun a hfr => ?_
  replace hfr : Fr 70 [(43, undef), (44, undef), (45, undef), (46, undef), (47, undef), (48, undef), (49, undef), (31, undef), (32, undef), (33, undef), (34, undef), (35, undef), (36, undef), (37, undef), (38, undef), (39, undef), (6, .slice none 0 0), (7, iv 0), (8, .pointer (some ⟨w1.heap.size, 0, none⟩)), (9, .pointer (some ⟨bA1, 0, none⟩)), (11, iv (overX xs.x xs.y)), (24, iv (overX xs.x xs.y)), (26, vo), (27, iv (o.length : Int)), (12, iv (o.length : Int)), (28, iv (o.length : Int)), (29, .bool false), (30, .bool false), (40, undef), (41, .bool false), (42, .bool false)] [] a := hfr
  refine wd_lin (k := 22) 24 [23] ?_
  refine wln hfr fun a hfr => ?_
  refine wlv hfr (v_pick_f rfl rfl) fun a hfr => ?_
  refine wl_nil ?_
  refine wd_end ?_
  refine hK11 _ _ ?_
  replace hfr : Fr 70 [(6, _), (7, _), (8, _), (9, _), (11, _), (12, _), (51, _)] [] a := hfr.pick [6, 7, 8, 9, 11, 12, 51]
  refine wc_cond_f hfr rfl ?_
  refine wc_skip ?_
  refine hK9 _ _ ?_
  refine wc_region ?_
  refine wlv hfr (v_load_blk1 (hst.get (k := 1) rfl) rfl (Try.isAgg28 _) rfl) fun a hfr => ?_
  refine wlv hfr (v_load_all (hst.get (k := 0) rfl) rfl (Try.isAgg49 _) (Try.sizeOf49 _)) fun a hfr => wlm hfr rfl fun a hfr => ?_
  refine wlv hfr (v_build (v := .agg #[iv xs.f, iv xs.t, iv (overX xs.x xs.y)]) rfl (by kernel_rfl)) fun a hfr => ?_
  refine wl_buildSlice (E := 77) (sz := 3) rfl [[iv xs.f, iv xs.t, iv (overX xs.x xs.y)]] (by kernel_rfl) (by simp) rfl (by decide) (by decide) hfr hst ?_
  clear hfr hst
  intro a w21 hfr hst
  refine wl_append (i := 3) (sT := 28) (inf := Try.t77) (z := .agg #[iv 0, iv 0, iv 0]) (b := 0) (off := 0) (m := 0) (c := 0) rfl rfl rfl (hst.ownAt (i := 0) rfl) (by simp) Try.underlying28 rfl rfl rfl rfl (by decide) (by simp [Value.oneCell', yv, wv, sv]) (by have hby : Try.t77.bytes = 24 := rfl; simp [big, hby]; omega) (by have hby : Try.t77.bytes = 24 := rfl; simp [big, hby]; omega) (by decide) hfr hst fun a w22 s11 hfr hst _ => ?_
  refine wl_store_sl 2 hfr hst (hst.ownAt (i := 3) rfl) rfl rfl rfl (Try.sizeOf28 _) (lb rfl) (ds := [s11]) rfl rfl ?_
  clear hfr hst
  intro a w23 hfr hst
  refine wl_nil ?_
  rw [show (o.map Blo.cells) ++ ([[iv xs.f, iv xs.t, iv (overX xs.x xs.y)]]) = ((o ++ [(⟨xs.f, xs.t, overX xs.x xs.y⟩ : Blo)]).map Blo.cells) from by rw [List.map_append]; rfl] at hst
  exact ⟨_, ⟨s11, (o ++ [(⟨xs.f, xs.t, overX xs.x xs.y⟩ : Blo)]), (by rw [outP_snoc, ← ho, stepB_new hc5 (by omega)]), rfl⟩, hst.select [2, 3, 4] (by decide)⟩
 ·rintro D pre _ _ a w24 ⟨hpc, u1, u2, rfl⟩ ⟨vo, o, ho, rfl⟩ hst hfr
  replace hfr : Fr 70 [(0, va), (1, vb), (2, .func (.func 53) #[] #[]), (5, .pointer (some ⟨w0.heap.size, 0, none⟩)), (6, .slice none 0 0), (7, iv 0), (8, .pointer (some ⟨w1.heap.size, 0, none⟩)), (13, va), (14, vb), (15, .func (.func 57) #[] #[.pointer (some ⟨bp1, 0, none⟩), .pointer (some ⟨bp2, 0, none⟩), .pointer (some ⟨bp3, 0, none⟩)])] [{ target := .collected D, args := #[] }] a := hfr
  replace hst : St No w0 [obj D (.deferred (some [])), blk w1.heap.size [vo] 28, own vo 77 3 (o.map Blo.cells), blk w0.heap.size [.func (.func 53) #[] #[]] 37, blk bp1 [.func (.func 56) #[] #[]] 108, blk bp2 [u1] 28, blk bp3 [u2] 28] w24 := hst
  refine hK3 _ _ ?_
  refine wc_seq_k fun K13 hK13 => ?_
  have hln9 := hln _ hpc
  rw [← ho] at hln9
  refine wc_seq_region fun K14 hK14 => ?_
  refine wlv hfr (v_load_blk1 (hst.get (k := 1) rfl) rfl (Try.isAgg28 _) rfl) fun a hfr => ?_
  refine wlv hfr ((v_len_sl (sT := 28) (hst.ownAt (i := 2) rfl) rfl rfl (Try.runUnderlying28 _)).asi (m' := (o.length : Int)) (by rw [List.length_map])) fun a hfr => ?_
  refine wlv hfr (v_gt rfl rfl) fun a hfr => ?_
  refine wl_nil (hK14 _ _ ?_)
  replace hfr : Fr 70 [(6, _), (7, _), (8, _), (68, _)] [{ target := .collected D, args := #[] }] a := hfr.pick [6, 7, 8, 68]
  replace hst : St No w0 [_, _, _, _] w24 := hst.mask [true, true, true, true, false, false, false]
  refine wc_cond_d hfr rfl (fun hc12 => ?_) (fun hc12 => ?_)
  ·omega
  refine wc_skip ?_
  refine hK13 _ _ ?_
  refine wc_seq_region fun K15 hK15 => ?_
  refine wlv hfr (v_load_blk1 (hst.get (k := 1) rfl) rfl (Try.isAgg28 _) rfl) fun a hfr => wla hfr rfl fun a hfr => wla hfr rfl fun a hfr => ?_
  refine wl_nil (hK15 _ _ ?_)
  refine wc_ret ?_
  have hD := hst.get (k := 0) rfl
  replace hst := hst.unmark (i := 0) (o' := .deferred none) rfl
  replace hst : St No w0 [blk w1.heap.size [vo] 28, own vo 77 3 (o.map Blo.cells), blk w0.heap.size [.func (.func 53) #[] #[]] 37] _ := hst
  refine fin_ret1 hfr hD Try.results51 (resAre_tmp rfl (resAre_tmp rfl resAre_nil)) ?_
  exact ⟨(vo, pre), rfl, hpc, hst.ext, by subst ho; exact St.out (E := [own vo 77 3 ((outP overX pre).map Blo.cells)]) (H := []) (hst.select [1] (by decide))⟩
 ·rintro D c pre _ _ a w25 _ h
  exact h.elim
theorem bgive_ok (lv : Value) (l : List Blo) (f t k : Int) (w0 : World) (hlv : SlAt w0 lv 3 (l.map Blo.cells)) (hok : mapOk l = true) (hln : l.length ≤ 38) (hr : rngB f t = true) (hc : isIn k 0 7 = true) :
  Ret Try.prog 30 #[lv, .agg #[iv f, iv t], iv k] w0 (MemR w0 (fun z : Value × List Blo => .tuple #[z.1, iv 0]) (fun z => [own z.1 77 3 (z.2.map Blo.cells)]) (fun z => Gives l f t k z.2)) := by
 have hoa : okF 0 (-1) l = true := by unfold mapOk at hok; rw [Bool.and_eq_true] at hok; exact hok.1
 have hob := ok_one hr hc
 refine ret_of Try.func30 rfl Try.ntmps30 (lb rfl) fun a hfr => ?_
 replace hfr : Fr 28 [(0, _), (1, _), (2, _)] [] a := hfr
 replace hst : St No w0 [] w0 := St.init w0
 refine wc_seq_region fun K1 hK1 => ?_
 refine wl_box hfr hst rfl [iv f, iv t] rfl ?_
 clear hfr hst
 intro a w1 hfr hst
 refine wla hfr rfl fun a hfr => wla hfr rfl fun a hfr => ?_
 refine wl_nil (hK1 _ _ ?_)
 refine wc_seq_k fun K2 hK2 => ?_
 refine wc_seq_region fun K3 hK3 => ?_
 refine wlm hfr rfl fun a hfr => ?_
 refine wl_callp hfr hst Try.call31 rfl (bvalid_ok lv l _ (hst.arg hlv)) ?_
 clear hfr hst
 intro a w2 hfr hst
 refine wlv hfr (v_not rfl) fun a hfr => wlm hfr rfl fun a hfr => ?_
 rcases Bool.eq_false_or_eq_true (!(mapOk l)) with hb1 | hb1
 ·rw [hb1] at hfr
  try simp only [qz] at hb1
  simp_all
 rw [hb1] at hfr
 try simp only [qz] at hb1
 refine wly hfr (v_load_all (hst.get (k := 0) rfl) rfl (Try.isAgg49 _) (Try.sizeOf49 _)) fun a hfr => ?_
 refine wl_callpy hfr hst Try.call49 rfl (isRange_ok f t _) ?_
 clear hfr hst
 intro a w3 hfr hst
 refine wly hfr (v_not rfl) fun a hfr => ?_
 refine wlv hfr (v_pick_f rfl rfl) fun a hfr => wlm hfr rfl fun a hfr => ?_
 rcases Bool.eq_false_or_eq_true (!(rngB f t)) with hb2 | hb2
 ·rw [hb2] at hfr
  try simp only [qz] at hb2
  simp_all
 rw [hb2] at hfr
 try simp only [qz] at hb2
 refine wly hfr (v_move rfl) fun a hfr => ?_
 refine wl_callpy hfr hst Try.call50 rfl (isCarrier_ok k _) ?_
 clear hfr hst
 intro a w4 hfr hst
 refine wly hfr (v_not rfl) fun a hfr => ?_
 refine wlv hfr (v_pick_f rfl rfl) fun a hfr => ?_
 refine wl_nil (hK3 _ _ ?_)
 replace hfr : Fr 28 [(0, _), (2, _), (4, _), (6, _), (7, _), (20, _)] [] a := hfr.pick [0, 2, 4, 6, 7, 20]
 refine wc_cond hfr rfl (fun hc3 => ?_) (fun hc3 => ?_)
 ·try simp only [qz] at hc3
  simp_all
 try simp only [qz] at hc3
 refine wc_skip ?_
 refine hK2 _ _ ?_
 refine wc_seq_region fun K4 hK4 => ?_
 refine wlm hfr rfl fun a hfr => ?_
 refine wlv hfr (v_load_all (hst.get (k := 0) rfl) rfl (Try.isAgg49 _) (Try.sizeOf49 _)) fun a hfr => wlm hfr rfl fun a hfr => ?_
 refine wl_callm hfr hst Try.call52 rfl (on_ok f t k _) ?_
 clear hfr hst
 intro a w5 x5 hp hfr hst
 revert x5 hp hfr hst; rintro v4 hp hfr hst
 clear hp
 replace hst : St No w0 [own v4 77 3 (([(⟨f, t, k⟩ : Blo)]).map Blo.cells), blk w0.heap.size [iv f, iv t] 49] w5 := hst
 refine wl_callm hfr hst Try.call51 rfl (combine_ok lv v4 l ([(⟨f, t, k⟩ : Blo)]) _ (hst.arg hlv) (hst.ownAt (i := 0) rfl) hoa hob (fun xs hx => by have h9 := (gives_over hoa hr hc hx).2.1; omega)) ?_
 clear hfr hst
 intro a w6 x8 hp hfr hst
 obtain ⟨v6, ps7⟩ := x8
 have hpc := hp
 replace hst : St No w0 [own v6 77 3 ((outP overX ps7).map Blo.cells), own v4 77 3 (([(⟨f, t, k⟩ : Blo)]).map Blo.cells), blk w0.heap.size [iv f, iv t] 49] w6 := hst
 refine wlv hfr (v_extract rfl rfl) fun a hfr => ?_
 refine wlv hfr (v_extract rfl rfl) fun a hfr => wla hfr rfl fun a hfr => wla hfr rfl fun a hfr => ?_
 refine wl_nil (hK4 _ _ ?_)
 replace hfr : Fr 28 [(6, _), (7, _)] [] a := hfr.pick [6, 7]
 replace hst : St No w0 [_] w6 := hst.mask [true, false, false]
 refine wc_ret ?_
 refine fin_ret hfr Try.results30 (resAre_tmp rfl (resAre_tmp rfl resAre_nil)) ?_
 exact ⟨(v6, _), rfl, gives_over hoa hr hc hpc, hst.ext, St.out (E := [own _ 77 3 (List.map Blo.cells _)]) (H := []) (hst.select [0] (by decide))⟩
theorem diff_zero (xs : List Pce) : ∀ b ∈ outP diffX xs, b.c = 0 := by
 unfold outP
 have key : ∀ (xs : List Pce) (o : List Blo), (∀ b ∈ o, b.c = 0) → ∀ b ∈ xs.foldl (fun o x => stepB o x.f x.t (diffX x.x x.y)) o, b.c = 0 := by
  intro xs
  induction xs with
  | nil => exact fun o h => h
  | cons x xs ih => exact fun o h => ih _ (stepB_zero h (by unfold diffX; split <;> simp))
 exact key xs [] (by simp)
theorem getD_memB {l : List Blo} {k : Nat} (h : k < l.length) : l.getD k Blo.z ∈ l := by
 rw [List.getD_eq_getElem?_getD, List.getElem?_eq_getElem h, Option.getD_some]; exact List.getElem_mem h
set_option maxHeartbeats 4000000 in
theorem differ_ok (va vb : Value) (la lbb : List Blo) (w0 : World) (hva : SlAt w0 va 3 (la.map Blo.cells)) (hvb : SlAt w0 vb 3 (lbb.map Blo.cells)) (hoa : okF 0 (-1) la = true) (hob : okF 0 (-1) lbb = true) (hma : mapOk la = true) (hmb : mapOk lbb = true) :
  Ret Try.prog 10 #[va, vb] w0 (MemR w0 (fun z : Value × List Pce => .tuple #[z.1, iv 0]) (fun z => [own z.1 49 2 ((outP diffX z.2).map Blo.rcells)]) (fun z => Pcs la lbb z.2 100000000)) := by
 refine ret_of Try.func10 rfl Try.ntmps10 (lb rfl) fun a hfr => ?_
 replace hfr : Fr 55 [(0, _), (1, _)] [] a := hfr
 replace hst : St No w0 [] w0 := St.init w0
 refine wc_seq_region fun K1 hK1 => ?_
 refine wla hfr rfl fun a hfr => wla hfr rfl fun a hfr => ?_
 refine wl_nil (hK1 _ _ ?_)
 refine wc_seq_k fun K2 hK2 => ?_
 refine wc_seq_region fun K3 hK3 => ?_
 refine wlm hfr rfl fun a hfr => ?_
 refine wl_callp hfr hst Try.call31 rfl (bvalid_ok va la _ (hst.arg hva)) ?_
 clear hfr hst
 intro a w1 hfr hst
 refine wlv hfr (v_not rfl) fun a hfr => wlm hfr rfl fun a hfr => ?_
 rcases Bool.eq_false_or_eq_true (!(mapOk la)) with hb1 | hb1
 ·rw [hb1] at hfr
  try simp only [qz] at hb1
  simp_all
 rw [hb1] at hfr
 try simp only [qz] at hb1
 refine wly hfr (v_move rfl) fun a hfr => ?_
 refine wl_callpy hfr hst Try.call31 rfl (bvalid_ok vb lbb _ (hst.arg hvb)) ?_
 clear hfr hst
 intro a w2 hfr hst
 refine wly hfr (v_not rfl) fun a hfr => ?_
 refine wlv hfr (v_pick_f rfl rfl) fun a hfr => ?_
 refine wl_nil (hK3 _ _ ?_)
 replace hfr : Fr 55 [(0, _), (1, _), (4, _), (5, _), (17, _)] [] a := hfr.pick [0, 1, 4, 5, 17]
 refine wc_cond hfr rfl (fun hc2 => ?_) (fun hc2 => ?_)
 ·try simp only [qz] at hc2
  simp_all
 try simp only [qz] at hc2
 refine wc_skip ?_
 refine hK2 _ _ ?_
 refine wc_seq_region fun K4 hK4 => ?_
 refine wl_alloc hfr hst (Try.zeroValue43 _) [.slice none 0 0] rfl ?_
 clear hfr hst
 intro a w3 hfr hst
 refine wl_nil (hK4 _ _ ?_)
 refine wc_seq_k fun K5 hK5 => ?_
 refine wc_seq_region fun K6 hK6 => ?_
 refine wlm hfr rfl fun a hfr => wlm hfr rfl fun a hfr => ?_
 refine wl_callm hfr hst Try.call32 rfl (pieces_ok _ _ _ _ _ (hst.arg hva) (hst.arg hvb)) ?_
 clear hfr hst
 intro a w4 x6 hp hfr hst
 obtain ⟨bp3, bp4, bp5⟩ := x6
 clear hp
 replace hst : St No w0 [blk bp3 [.func (.func 56) #[] #[]] 108, blk bp4 [va] 28, blk bp5 [vb] 28, blk w2.heap.size [.slice none 0 0] 43] w4 := hst
 refine wl_nil (hK6 _ _ ?_)
 refine wc_block ?_
 replace hst : St No w0 (own (.slice none 0 0) 49 2 [] :: [blk bp3 [.func (.func 56) #[] #[]] 108, blk bp4 [va] 28, blk bp5 [vb] 28, blk w2.heap.size [.slice none 0 0] 43]) w4 := hst.nil_own
 replace hst : St No w0 [blk w2.heap.size [.slice none 0 0] 43, own (.slice none 0 0) 49 2 ([]), blk bp3 [.func (.func 56) #[] #[]] 108, blk bp4 [va] 28, blk bp5 [vb] 28] w4 := hst.select [4, 0, 1, 2, 3] (by decide)
 replace hfr : Fr 55 [(0, va), (1, vb), (4, .slice none 0 0), (5, iv 0), (6, .pointer (some ⟨w2.heap.size, 0, none⟩)), (18, va), (19, vb), (20, .func (.func 57) #[] #[.pointer (some ⟨bp3, 0, none⟩), .pointer (some ⟨bp4, 0, none⟩), .pointer (some ⟨bp5, 0, none⟩)])] [] a := hfr.pick [0, 1, 4, 5, 6, 18, 19, 20]
 refine wc_range (M := No) (w0 := w0) (encs := encP) (Hi := [blk bp3 [.func (.func 56) #[] #[]] 108, blk bp4 [va] 28, blk bp5 [vb] 28]) (Hc := [blk w2.heap.size [.slice none 0 0] 43, own (.slice none 0 0) 49 2 ([])]) (fun pre H => ∃ (vo : Value), ∃ (o : List Blo), (o = outP diffX pre) ∧ H = [blk w2.heap.size [vo] 43, own vo 49 2 (o.map Blo.rcells)]) (fun _ _ _ => False) (fun pre xs H a => ∃ (bA0 : Nat), ∃ (bA1 : Nat), Fr 55 [(4, .slice none 0 0), (5, iv 0), (6, .pointer (some ⟨w2.heap.size, 0, none⟩)), (7, .pointer (some ⟨bA1, 0, none⟩)), (8, .pointer (some ⟨bA0, 0, none⟩))] [] a ∧ ∃ (vo : Value), ∃ (o : List Blo), (o = outP diffX pre) ∧ H = [blk bA0 [iv xs.x, iv xs.y] 82, blk bA1 [iv xs.f, iv xs.t] 49, blk w2.heap.size [vo] 43, own vo 49 2 (o.map Blo.rcells)]) rfl Try.call57 hfr hst (pieces_iter va vb la lbb bp3 bp4 bp5 hoa hob (fun H w h => h.arg hva) (fun H w h => h.arg hvb)) (by decide) (fun _ => rfl) ⟨_, [], rfl, rfl⟩ ?_ ?_ ?_ ?_
 ·clear hfr hst
  rintro lp pre xs _ a w5 hnx ⟨vo, o, ho, rfl⟩ hfr hst
  generalize (join [blk w2.heap.size [vo] 43, own vo 49 2 (o.map Blo.rcells)]).foot = M1 at hst ⊢
  replace hfr : Fr 55 [(22, .agg #[iv xs.x, iv xs.y]), (21, .agg #[iv xs.f, iv xs.t]), (0, va), (1, vb), (4, .slice none 0 0), (5, iv 0), (6, .pointer (some ⟨w2.heap.size, 0, none⟩)), (18, va), (19, vb), (20, .func (.func 57) #[] #[.pointer (some ⟨bp3, 0, none⟩), .pointer (some ⟨bp4, 0, none⟩), .pointer (some ⟨bp5, 0, none⟩)])] [] a := hfr
  refine wc_seq_region fun K7 hK7 => ?_
  refine wl_alloc hfr hst (Try.zeroValue49 _) [iv 0, iv 0] rfl ?_
  clear hfr hst
  intro a w6 hfr hst
  refine wl_sto 0 hfr hst [iv xs.f, iv xs.t] rfl (Try.sizeOf49 _) ?_
  clear hfr hst
  intro a w7 hfr hst
  refine wl_nil (hK7 _ _ ?_)
  replace hfr : Fr 55 [(22, _), (4, _), (5, _), (6, _), (7, _)] [] a := hfr.pick [22, 4, 5, 6, 7]
  refine wc_region ?_
  refine wl_alloc hfr hst (Try.zeroValue82 _) [iv 0, iv 0] rfl ?_
  clear hfr hst
  intro a w8 hfr hst
  refine wl_sto 0 hfr hst [iv xs.x, iv xs.y] rfl (Try.sizeOf82 _) ?_
  clear hfr hst
  intro a w9 hfr hst
  refine wl_nil ?_
  exact ⟨_, ⟨w7.heap.size, w5.heap.size, hfr.pick [4, 5, 6, 7, 8], vo, o, ho, rfl⟩, hst⟩
 ·rintro lp pre xs _ a w10 hnx ⟨bA0, bA1, hfr, vo, o, ho, rfl⟩ hout hrec hnl hst
  clear hrec hnl
  generalize (join [blk bA0 [iv xs.x, iv xs.y] 82, blk bA1 [iv xs.f, iv xs.t] 49, blk w2.heap.size [vo] 43, own vo 49 2 (o.map Blo.rcells)]).foot = M1 at hst hout ⊢
  refine wc_block ?_
  refine wc_seq_k fun K8 hK8 => ?_
  have hol := (outP_len (h := diffX) hnx.1).1
  rw [← ho] at hol
  have hx8 := hnx.2.2.1
  have hx7 := hnx.2.2.2.1
  refine wc_seq_region fun K9 hK9 => ?_
  refine wlv hfr (v_indexAddr (v := .pointer (some ⟨bA0, 0, none⟩)) rfl rfl (by kernel_rfl)) fun a hfr => ?_
  refine wlv hfr (v_load_blk1 (hst.get (k := 0) rfl) rfl (Try.isAgg3 _) rfl) fun a hfr => ?_
  refine wlv hfr (v_indexAddr (v := .pointer (some ⟨bA0, 1, none⟩)) rfl rfl (by kernel_rfl)) fun a hfr => ?_
  refine wlv hfr (v_load_blk1 (hst.get (k := 0) rfl) rfl (Try.isAgg3 _) rfl) fun a hfr => ?_
  refine wlv hfr (v_eq rfl rfl) fun a hfr => ?_
  refine wl_nil (hK9 _ _ ?_)
  replace hfr : Fr 55 [(4, _), (5, _), (6, _), (7, _), (27, _)] [] a := hfr.pick [4, 5, 6, 7, 27]
  replace hst : St M1 w10 [_, _, _] w10 := hst.mask [false, true, true, true]
  refine wc_cond_d hfr rfl (fun hc7 => ?_) (fun hc7 => ?_)
  ·refine wc_exit ?_
   exact ⟨_, ⟨vo, o, (by rw [outP_snoc, ← ho, stepB_skip (show diffX xs.x xs.y = -1 from if_pos hc7)]), rfl⟩, hst.select [1, 2] (by decide)⟩
  have hd0 : diffX xs.x xs.y = 0 := if_neg hc7
  have hz0 : ∀ b ∈ o, b.c = 0 := ho ▸ diff_zero pre
  refine wc_skip ?_
  refine hK8 _ _ ?_
  refine wc_seq_k fun K10 hK10 => ?_
  refine wc_seq_region fun K11 hK11 => ?_
  refine wlv hfr (v_load_blk1 (hst.get (k := 1) rfl) rfl (Try.isAgg43 _) rfl) fun a hfr => ?_
  refine wlv hfr ((v_len_sl (sT := 43) (hst.ownAt (i := 2) rfl) rfl rfl (Try.runUnderlying43 _)).asi (m' := (o.length : Int)) (by rw [List.length_map])) fun a hfr => wla hfr rfl fun a hfr => ?_
  refine wl_nil (hK11 _ _ ?_)
  refine wc_seq_k fun K12 hK12 => ?_
  refine wc_of_dr (dr_of_wd fun w11 hxz => ?_)
  replace hst := hst.grow hxz
  refine wd_lin (k := 0) 3 [2] ?_
  refine wlm hfr rfl fun a hfr => ?_
  refine wlv hfr (v_gt rfl rfl) fun a hfr => wlm hfr rfl fun a hfr => ?_
  refine wl_nil ?_
  rcases Decidable.em (0 < (o.length : Int)) with hb8 | hb8
  ·rw [decide_eq_true hb8] at hfr
   refine wd_sub (k := 3) 11 [8, 10] hfr ?_
   replace hfr : Fr 55 [(4, _), (5, _), (6, _), (7, _), (28, _), (29, _), (9, _), (30, _), (31, _), (32, _)] [] a := hfr.pick [4, 5, 6, 7, 28, 29, 9, 30, 31, 32]
   refine dr_pl 8 hfr hst <| pl_w (fun hst => v_load_blk1 (hst.get (k := 1) rfl) rfl (Try.isAgg43 _) rfl) <| pl_m rfl <| pl_v (v_sub rfl rfl ⟨by omega, by omega⟩) <| pl_w (fun hst => (v_indexAddr_sl (i := (o.length : Int) - 1) (sT := 43) (hst.ownAt (i := 2) rfl) rfl rfl (Try.runUnderlying43 _) (Try.sizeOf49 _) (by omega) (by rw [List.length_map]; omega)).as (v' := slAddr vo ((o.length - 1) * 2)) (by rw [show ((o.length : Int) - 1).toNat = (o.length - 1) from by omega])) <| pl_w (fun hst => v_fieldAddr_sl (k := (o.length - 1) * 2) (j := 1) (hst.ownAt (i := 2) rfl) (i := (o.length - 1)) (by rw [List.length_map]; omega) rfl (fun _ _ => by kernel_rfl)) <| pl_w (fun hst => v_load_sl1 (u := iv ((o.getD (o.length - 1) Blo.z).t)) (i := (o.length - 1)) (j := 1) (hst.ownAt (i := 2) rfl) (by rw [List.length_map]; omega) rfl (Try.isAgg3 _) (by rw [el_at Blo.z]; rfl)) ?_
   refine pl_v (v_fieldAddr (v := .pointer (some ⟨bA1, 0, none⟩)) rfl (by kernel_rfl)) <| pl_w (fun hst => v_load_blk1 (hst.get (k := 0) rfl) rfl (Try.isAgg3 _) rfl) ?_
   clear hfr hst
   intro a w12 hfr hst
   replace hfr : Fr 55 [(4, _), (5, _), (6, _), (7, _), (9, _), (32, _), (38, _), (40, _)] [] a := hfr.pick [4, 5, 6, 7, 9, 32, 38, 40]
   refine wl_nil ?_
   refine wd_lin (k := 11) 13 [12] ?_
   refine wly hfr (v_eq rfl rfl) fun a hfr => ?_
   refine wlv hfr (v_pick_t rfl rfl) fun a hfr => ?_
   refine wl_nil ?_
   refine wd_end ?_
   refine hK12 _ _ ?_
   refine wc_cond_d hfr rfl (fun hc9 => ?_) (fun hc9 => ?_)
   ·refine wc_seq_region fun K13 hK13 => ?_
    refine wlv hfr (v_load_blk1 (hst.get (k := 1) rfl) rfl (Try.isAgg43 _) rfl) fun a hfr => wlm hfr rfl fun a hfr => ?_
    refine wlv hfr (v_sub rfl rfl ⟨by omega, by omega⟩) fun a hfr => ?_
    refine wlv hfr (v_fieldAddr (v := .pointer (some ⟨bA1, 1, none⟩)) rfl (by kernel_rfl)) fun a hfr => ?_
    refine wlv hfr (v_load_blk1 (hst.get (k := 0) rfl) rfl (Try.isAgg3 _) rfl) fun a hfr => ?_
    refine wlv hfr ((v_indexAddr_sl (i := (o.length : Int) - 1) (sT := 43) (hst.ownAt (i := 2) rfl) rfl rfl (Try.runUnderlying43 _) (Try.sizeOf49 _) (by omega) (by rw [List.length_map]; omega)).as (v' := slAddr vo ((o.length - 1) * 2)) (by rw [show ((o.length : Int) - 1).toNat = (o.length - 1) from by omega])) fun a hfr => ?_
    refine wlv hfr (v_fieldAddr_sl (k := (o.length - 1) * 2) (j := 1) (hst.ownAt (i := 2) rfl) (i := (o.length - 1)) (by rw [List.length_map]; omega) rfl (fun _ _ => by kernel_rfl)) fun a hfr => ?_
    refine wl_store_own (k := o.length - 1) (j := 1) 2 hfr hst rfl rfl rfl (by rw [List.length_map]; omega) (by omega) (Try.sizeOf3 _) (by simp [Value.oneCell', Value.cells]) (lb rfl) (els' := ((o.dropLast ++ [(⟨(o.getD (o.length - 1) Blo.z).f, xs.t, (o.getD (o.length - 1) Blo.z).c⟩ : Blo)]).map Blo.rcells)) (rng_join (by omega) _) rfl ?_
    clear hfr hst
    intro a w13 hfr hst
    refine wl_nil (hK13 _ _ ?_)
    replace hfr : Fr 55 [(4, _), (5, _), (6, _), (7, _)] [] a := hfr.pick [4, 5, 6, 7]
    refine wc_exit ?_
    exact ⟨_, ⟨vo, (o.dropLast ++ [(⟨(o.getD (o.length - 1) Blo.z).f, xs.t, (o.getD (o.length - 1) Blo.z).c⟩ : Blo)]), (by rw [outP_snoc, ← ho, stepB_join (show diffX xs.x xs.y ≠ -1 by unfold diffX; rw [if_neg hc7]; decide) (by omega) (by omega) (by rw [hd0]; exact hz0 _ (getD_memB (by omega)))]), rfl⟩, hst.select [1, 2] (by decide)⟩
   refine wc_skip ?_
   refine hK10 _ _ ?_
   refine wc_region ?_
   refine wlv hfr (v_load_blk1 (hst.get (k := 1) rfl) rfl (Try.isAgg43 _) rfl) fun a hfr => ?_
   refine wlv hfr (v_load_all (hst.get (k := 0) rfl) rfl (Try.isAgg49 _) (Try.sizeOf49 _)) fun a hfr => ?_
   refine wl_buildSlice (E := 49) (sz := 2) rfl [[iv xs.f, iv xs.t]] (by kernel_rfl) (by simp) rfl (by decide) (by decide) hfr hst ?_
   clear hfr hst
   intro a w14 hfr hst
   refine wl_append (i := 3) (sT := 43) (inf := Try.t49) (z := .agg #[iv 0, iv 0]) (b := 0) (off := 0) (m := 0) (c := 0) rfl rfl rfl (hst.ownAt (i := 0) rfl) (by simp) Try.underlying43 rfl rfl rfl rfl (by decide) (by simp [Value.oneCell', yv, wv, sv]) (by have hby : Try.t49.bytes = 16 := rfl; simp [big, hby]; omega) (by have hby : Try.t49.bytes = 16 := rfl; simp [big, hby]; omega) (by decide) hfr hst fun a w15 s10 hfr hst _ => ?_
   refine wl_store_sl 2 hfr hst (hst.ownAt (i := 3) rfl) rfl rfl rfl (Try.sizeOf43 _) (lb rfl) (ds := [s10]) rfl rfl ?_
   clear hfr hst
   intro a w16 hfr hst
   refine wl_nil ?_
   rw [show (o.map Blo.rcells) ++ ([[iv xs.f, iv xs.t]]) = ((o ++ [(⟨xs.f, xs.t, (0 : Int)⟩ : Blo)]).map Blo.rcells) from by rw [List.map_append]; rfl] at hst
   exact ⟨_, ⟨s10, (o ++ [(⟨xs.f, xs.t, (0 : Int)⟩ : Blo)]), (by rw [outP_snoc, ← ho, stepB_new (show diffX xs.x xs.y ≠ -1 by unfold diffX; rw [if_neg hc7]; decide) (by omega), hd0]), rfl⟩, hst.select [2, 3] (by decide)⟩
  rw [decide_eq_false hb8] at hfr
  replace hfr : Fr 55 [(4, .slice none 0 0), (5, iv 0), (6, .pointer (some ⟨w2.heap.size, 0, none⟩)), (7, .pointer (some ⟨bA1, 0, none⟩)), (28, vo), (29, iv (o.length : Int)), (9, iv (o.length : Int)), (30, iv (o.length : Int)), (31, .bool false), (32, .bool false)] [] a := hfr.pick [4, 5, 6, 7, 28, 29, 9, 30, 31, 32]
  refine wd_skip (k := 3) 11 [8, 10] hfr fun a hfr => ?_
  replace hfr : Fr 55 [(33, undef), (34, undef), (35, undef), (36, undef), (37, undef), (38, undef), (39, undef), (40, undef), (4, .slice none 0 0), (5, iv 0), (6, .pointer (some ⟨w2.heap.size, 0, none⟩)), (7, .pointer (some ⟨bA1, 0, none⟩)), (28, vo), (29, iv (o.length : Int)), (9, iv (o.length : Int)), (30, iv (o.length : Int)), (31, .bool false), (32, .bool false)] [] a := hfr
  refine wd_lin (k := 11) 13 [12] ?_
  refine wln hfr fun a hfr => ?_
  refine wlv hfr (v_pick_f rfl rfl) fun a hfr => ?_
  refine wl_nil ?_
  refine wd_end ?_
  refine hK12 _ _ ?_
  replace hfr : Fr 55 [(4, _), (5, _), (6, _), (7, _), (9, _), (42, _)] [] a := hfr.pick [4, 5, 6, 7, 9, 42]
  refine wc_cond_f hfr rfl ?_
  refine wc_skip ?_
  refine hK10 _ _ ?_
  refine wc_region ?_
  refine wlv hfr (v_load_blk1 (hst.get (k := 1) rfl) rfl (Try.isAgg43 _) rfl) fun a hfr => ?_
  refine wlv hfr (v_load_all (hst.get (k := 0) rfl) rfl (Try.isAgg49 _) (Try.sizeOf49 _)) fun a hfr => ?_
  refine wl_buildSlice (E := 49) (sz := 2) rfl [[iv xs.f, iv xs.t]] (by kernel_rfl) (by simp) rfl (by decide) (by decide) hfr hst ?_
  clear hfr hst
  intro a w17 hfr hst
  refine wl_append (i := 3) (sT := 43) (inf := Try.t49) (z := .agg #[iv 0, iv 0]) (b := 0) (off := 0) (m := 0) (c := 0) rfl rfl rfl (hst.ownAt (i := 0) rfl) (by simp) Try.underlying43 rfl rfl rfl rfl (by decide) (by simp [Value.oneCell', yv, wv, sv]) (by have hby : Try.t49.bytes = 16 := rfl; simp [big, hby]; omega) (by have hby : Try.t49.bytes = 16 := rfl; simp [big, hby]; omega) (by decide) hfr hst fun a w18 s11 hfr hst _ => ?_
  refine wl_store_sl 2 hfr hst (hst.ownAt (i := 3) rfl) rfl rfl rfl (Try.sizeOf43 _) (lb rfl) (ds := [s11]) rfl rfl ?_
  clear hfr hst
  intro a w19 hfr hst
  refine wl_nil ?_
  rw [show (o.map Blo.rcells) ++ ([[iv xs.f, iv xs.t]]) = ((o ++ [(⟨xs.f, xs.t, (0 : Int)⟩ : Blo)]).map Blo.rcells) from by rw [List.map_append]; rfl] at hst
  exact ⟨_, ⟨s11, (o ++ [(⟨xs.f, xs.t, (0 : Int)⟩ : Blo)]), (by rw [outP_snoc, ← ho, stepB_new (show diffX xs.x xs.y ≠ -1 by unfold diffX; rw [if_neg hc7]; decide) (by omega), hd0]), rfl⟩, hst.select [2, 3] (by decide)⟩
 ·rintro D pre _ _ a w20 ⟨hpc, u1, u2, rfl⟩ ⟨vo, o, ho, rfl⟩ hst hfr
  replace hfr : Fr 55 [(0, va), (1, vb), (4, .slice none 0 0), (5, iv 0), (6, .pointer (some ⟨w2.heap.size, 0, none⟩)), (18, va), (19, vb), (20, .func (.func 57) #[] #[.pointer (some ⟨bp3, 0, none⟩), .pointer (some ⟨bp4, 0, none⟩), .pointer (some ⟨bp5, 0, none⟩)])] [{ target := .collected D, args := #[] }] a := hfr
  replace hst : St No w0 [obj D (.deferred (some [])), blk w2.heap.size [vo] 43, own vo 49 2 (o.map Blo.rcells), blk bp3 [.func (.func 56) #[] #[]] 108, blk bp4 [u1] 28, blk bp5 [u2] 28] w20 := hst
  refine hK5 _ _ ?_
  refine wc_seq_region fun K14 hK14 => ?_
  refine wlv hfr (v_load_blk1 (hst.get (k := 1) rfl) rfl (Try.isAgg43 _) rfl) fun a hfr => wla hfr rfl fun a hfr => wla hfr rfl fun a hfr => ?_
  refine wl_nil (hK14 _ _ ?_)
  replace hfr : Fr 55 [(4, _), (5, _)] [{ target := .collected D, args := #[] }] a := hfr.pick [4, 5]
  replace hst : St No w0 [_, _, _] w20 := hst.mask [true, true, true, false, false, false]
  refine wc_ret ?_
  have hD := hst.get (k := 0) rfl
  replace hst := hst.unmark (i := 0) (o' := .deferred none) rfl
  replace hst : St No w0 [blk w2.heap.size [vo] 43, own vo 49 2 (o.map Blo.rcells)] _ := hst
  refine fin_ret1 hfr hD Try.results10 (resAre_tmp rfl (resAre_tmp rfl resAre_nil)) ?_
  exact ⟨(vo, pre), rfl, hpc, hst.ext, by subst ho; exact St.out (E := [own vo 49 2 ((outP diffX pre).map Blo.rcells)]) (H := []) (hst.select [1] (by decide))⟩
 ·rintro D c pre _ _ a w21 _ h
  exact h.elim
end Go.Proofs.Ytnfnkohkcmkddaa
namespace Go.Proofs.Ytnfnkohkcmkddaa
open Go.PW
set_option linter.unusedVariables false
set_option linter.unusedSimpArgs false
def insL : List Int → Int → List Int
 | [], n => [n]
 | x :: l, n => if x < n then x :: insL l n else if x = n then x :: l else n :: x :: l
theorem mem_insL {y : Int} : ∀ {l : List Int} {n : Int}, y ∈ insL l n ↔ y ∈ l ∨ y = n
 | [], n => by simp [insL]
 | x :: l, n => by
  unfold insL
  split
  ·rw [List.mem_cons, mem_insL, List.mem_cons, or_assoc]
  ·split
   ·rename_i h; subst h; simp only [List.mem_cons]
    constructor
    ·exact .inl
    ·rintro (h | h)
     ·exact h
     ·exact .inl h
   ·rw [List.mem_cons, Or.comm]
theorem sorted_insL : ∀ {l : List Int} {n : Int}, l.Pairwise (· < ·) → (insL l n).Pairwise (· < ·)
 | [], n, _ => by simp [insL]
 | x :: l, n, h => by
  obtain ⟨h1, h2⟩ := List.pairwise_cons.1 h
  unfold insL
  split
  ·refine List.pairwise_cons.2 ⟨fun y hy => ?_, sorted_insL h2⟩
   rcases mem_insL.1 hy with hy | rfl
   ·exact h1 y hy
   ·assumption
  ·split
   ·exact h
   ·refine List.pairwise_cons.2 ⟨fun y hy => ?_, h⟩
    rcases List.mem_cons.1 hy with rfl | hy
    ·omega
    ·have := h1 y hy; omega
theorem insL_len : ∀ {l : List Int} {n : Int}, (insL l n).length ≤ l.length + 1 ∧ l.length ≤ (insL l n).length
 | [], n => by simp [insL]
 | x :: l, n => by
  unfold insL
  have := @insL_len l n
  split
  ·simp only [List.length_cons]; omega
  ·split <;> simp only [List.length_cons] <;> omega
theorem insL_at : ∀ {l : List Int} {n : Int} {k : Nat}, k ≤ l.length → (∀ j, j < k → l.getD j 0 < n) → (k < l.length → ¬ l.getD k 0 < n) → insL l n = if k < l.length ∧ l.getD k 0 = n then l else l.take k ++ n :: l.drop k
 | [], n, k, hk, h1, h2 => by
  have : k = 0 := by simpa using hk
  subst this; rfl
 | x :: l, n, 0, hk, h1, h2 => by
  have hx : ¬ x < n := h2 (by simp)
  unfold insL
  rw [if_neg hx]
  by_cases e : x = n
  ·rw [if_pos e, if_pos ⟨by simp, e⟩]
  ·rw [if_neg e, if_neg fun h => e h.2]; rfl
 | x :: l, n, k + 1, hk, h1, h2 => by
  have hx : x < n := h1 0 (Nat.succ_pos _)
  unfold insL
  rw [if_pos hx, insL_at (k := k) (by simpa using hk) (fun j hj => h1 (j + 1) (by omega)) (fun h => h2 (by simpa using h))]
  have e : (k + 1 < (x :: l).length ∧ (x :: l).getD (k + 1) 0 = n) ↔ (k < l.length ∧ l.getD k 0 = n) := by
   rw [List.length_cons, Nat.add_lt_add_iff_right]; exact Iff.rfl
  by_cases h : k < l.length ∧ l.getD k 0 = n
  ·rw [if_pos h, if_pos (e.2 h)]
  ·rw [if_neg h, if_neg fun h' => h (e.1 h')]; rfl
theorem insL_yes {l : List Int} {n : Int} {k : Nat} (h1 : ∀ j, j < k → l.getD j 0 < n) (hk : k < l.length) (h : l.getD k 0 = n) : insL l n = l := by
 rw [insL_at (by omega) h1 (fun _ => by omega), if_pos ⟨hk, h⟩]
theorem insL_no {l : List Int} {n : Int} {k : Nat} (hk : k ≤ l.length) (h1 : ∀ j, j < k → l.getD j 0 < n) (h2 : k < l.length → ¬ l.getD k 0 < n) (h : ¬ (k < l.length ∧ l.getD k 0 = n)) : insL l n = l.take k ++ n :: l.drop k := by
 rw [insL_at hk h1 h2, if_neg h]
theorem getD_memI {l : List Int} {k : Nat} (h : k < l.length) : l.getD k 0 ∈ l := by
 rw [List.getD_eq_getElem?_getD, List.getElem?_eq_getElem h, Option.getD_some]; exact List.getElem_mem h
def edgL (b : List Blo) (l : List Int) : List Int := b.foldl (fun o x => insL (insL o x.f) x.t) l
theorem take_snocB {l : List Blo} {k : Nat} (h : k < l.length) : l.take (k + 1) = l.take k ++ [l.getD k Blo.z] := by
 rw [List.getD_eq_getElem?_getD, List.getElem?_eq_getElem h, Option.getD_some]
 exact List.take_succ_eq_append_getElem h
theorem edg_snoc {b : List Blo} {l : List Int} {k : Nat} (h : k < b.length) : edgL (b.take (k + 1)) l = insL (insL (edgL (b.take k) l) (b.getD k Blo.z).f) (b.getD k Blo.z).t := by
 rw [take_snocB h]; unfold edgL; rw [List.foldl_append]; rfl
theorem sorted_edg : ∀ {b : List Blo} {l : List Int}, l.Pairwise (· < ·) → (edgL b l).Pairwise (· < ·)
 | [], l, h => h
 | x :: b, l, h => sorted_edg (b := b) (sorted_insL (sorted_insL h))
theorem mem_edg {y : Int} : ∀ {b : List Blo} {l : List Int}, y ∈ edgL b l ↔ y ∈ l ∨ ∃ x ∈ b, y = x.f ∨ y = x.t
 | [], l => by simp [edgL]
 | x :: b, l => by
  show y ∈ edgL b (insL (insL l x.f) x.t) ↔ _
  rw [mem_edg, mem_insL, mem_insL]
  constructor
  ·rintro (((h | h) | h) | ⟨z, hz, h⟩)
   ·exact .inl h
   ·exact .inr ⟨x, List.mem_cons_self, .inl h⟩
   ·exact .inr ⟨x, List.mem_cons_self, .inr h⟩
   ·exact .inr ⟨z, List.mem_cons_of_mem _ hz, h⟩
  ·rintro (h | ⟨z, hz, h⟩)
   ·exact .inl (.inl (.inl h))
   ·rcases List.mem_cons.1 hz with rfl | hz
    ·rcases h with h | h
     ·exact .inl (.inl (.inr h))
     ·exact .inl (.inr h)
    ·exact .inr ⟨z, hz, h⟩
theorem edg_len : ∀ {b : List Blo} {l : List Int}, (edgL b l).length ≤ l.length + 2 * b.length ∧ l.length ≤ (edgL b l).length
 | [], l => by simp [edgL]
 | x :: b, l => by
  have h1 := @edg_len b (insL (insL l x.f) x.t)
  have h2 := @insL_len (insL l x.f) x.t
  have h3 := @insL_len l x.f
  show (edgL b (insL (insL l x.f) x.t)).length ≤ _ ∧ _ ≤ (edgL b (insL (insL l x.f) x.t)).length
  simp only [List.length_cons]; omega
def edgesL (a b : List Blo) : List Int := edgL b (edgL a [0, 100000000])
theorem okF_mem : ∀ {l : List Blo} {p c : Int}, okF p c l = true → ∀ b ∈ l, (0 ≤ b.f ∧ b.f < b.t ∧ b.t ≤ 100000000)
 | [], p, c, h, b, hb => by cases hb
 | a :: l, p, c, h, b, hb => by
  obtain ⟨k1, k2, _, _, k4⟩ := okF_cons.1 h
  rcases List.mem_cons.1 hb with rfl | hb
  ·exact k1
  ·exact okF_mem k4 b hb
theorem hold_const : ∀ {l : List Blo} {p q n : Int}, (∀ x ∈ l, ¬ (p < x.f ∧ x.f < q) ∧ ¬ (p < x.t ∧ x.t < q)) → p ≤ n → n < q → hold l n = hold l p
 | [], p, q, n, h, h1, h2 => rfl
 | x :: l, p, q, n, h, h1, h2 => by
  obtain ⟨h3, h4⟩ := h x List.mem_cons_self
  have ih := hold_const (l := l) (fun y hy => h y (List.mem_cons_of_mem _ hy)) h1 h2
  rw [hold_cons, hold_cons, ih]
  by_cases hin : x.f ≤ n ∧ n < x.t
  ·rw [if_pos hin, if_pos (by omega)]
  ·rw [if_neg hin, if_neg (by omega)]
section
variable {a b : List Blo} {pre : List Pce} {k : Nat}
theorem edges_all (ha : okF 0 (-1) a = true) (hb : okF 0 (-1) b = true) {y : Int} (h : y ∈ edgesL a b) : 0 ≤ y ∧ y ≤ 100000000 := by
 rcases mem_edg.1 h with h | ⟨x, hx, h⟩
 ·rcases mem_edg.1 h with h | ⟨x, hx, h⟩
  ·simp only [List.mem_cons, List.not_mem_nil, or_false] at h; omega
  ·have := okF_mem ha x hx; omega
 ·have := okF_mem hb x hx; omega
theorem edges_sorted : (edgesL a b).Pairwise (· < ·) := sorted_edg (sorted_edg (by simp))
theorem edges_lt {i j : Nat} (hij : i < j) (hj : j < (edgesL a b).length) : (edgesL a b).getD i 0 < (edgesL a b).getD j 0 := by
 rw [List.getD_eq_getElem?_getD, List.getElem?_eq_getElem (show i < _ by omega), Option.getD_some, List.getD_eq_getElem?_getD, List.getElem?_eq_getElem hj, Option.getD_some]
 exact List.pairwise_iff_getElem.1 edges_sorted i j (by omega) hj hij
theorem edges_len2 : 2 ≤ (edgesL a b).length ∧ (edgesL a b).length ≤ 2 + 2 * a.length + 2 * b.length := by
 have h1 := @edg_len b (edgL a [0, 100000000])
 have h2 := @edg_len a [0, 100000000]
 simp only [List.length_cons, List.length_nil] at h2
 unfold edgesL; omega
theorem mem_idx {l : List Int} {y : Int} (h : y ∈ l) : ∃ j, j < l.length ∧ l.getD j 0 = y := by
 obtain ⟨j, hj, e⟩ := List.getElem_of_mem h
 exact ⟨j, hj, by rw [List.getD_eq_getElem?_getD, List.getElem?_eq_getElem hj, Option.getD_some, e]⟩
theorem edges_first (ha : okF 0 (-1) a = true) (hb : okF 0 (-1) b = true) : (edgesL a b).getD 0 0 = 0 := by
 have h0 : (0 : Int) ∈ edgesL a b := mem_edg.2 (.inl (mem_edg.2 (.inl (by simp))))
 obtain ⟨j, hj, e⟩ := mem_idx h0
 rcases Nat.eq_zero_or_pos j with rfl | hp
 ·exact e
 ·have h1 := edges_lt hp hj
  have h2 := edges_all ha hb (getD_memI (show 0 < (edgesL a b).length by omega))
  omega
theorem edges_last (ha : okF 0 (-1) a = true) (hb : okF 0 (-1) b = true) (hk : k < (edgesL a b).length) (hk2 : ¬ k + 1 < (edgesL a b).length) : (edgesL a b).getD k 0 = 100000000 := by
 have h0 : (100000000 : Int) ∈ edgesL a b := mem_edg.2 (.inl (mem_edg.2 (.inl (by simp))))
 obtain ⟨j, hj, e⟩ := mem_idx h0
 rcases Nat.lt_or_ge j k with hp | hp
 ·have h1 := edges_lt hp hk
  have h2 := edges_all ha hb (getD_memI hk)
  omega
 ·rw [show k = j by omega]; exact e
theorem edges_next (ha : okF 0 (-1) a = true) (hb : okF 0 (-1) b = true) (hk : k + 1 < (edgesL a b).length) (hp : Pcs a b pre ((edgesL a b).getD k 0)) :
  NxP a b pre ⟨(edgesL a b).getD k 0, (edgesL a b).getD (k + 1) 0, hold a ((edgesL a b).getD k 0), hold b ((edgesL a b).getD k 0)⟩ := by
 have h1 := edges_lt (a := a) (b := b) (show k < k + 1 by omega) hk
 have h2 := edges_all ha hb (getD_memI hk)
 have hno : ∀ y ∈ edgesL a b, ¬ ((edgesL a b).getD k 0 < y ∧ y < (edgesL a b).getD (k + 1) 0) := by
  intro y hy
  obtain ⟨j, hj, rfl⟩ := mem_idx hy
  rcases Nat.lt_trichotomy j k with h | h | h
  ·have := edges_lt (a := a) (b := b) h (by omega); omega
  ·subst h; omega
  ·rcases Nat.lt_or_ge (k + 1) j with h' | h'
   ·have := edges_lt (a := a) (b := b) h' hj; omega
   ·rw [show j = k + 1 by omega]; omega
 refine .of hp h1 h2.2 fun n g1 g2 => ⟨hold_const (fun x hx => ⟨hno _ (mem_edg.2 (.inl (mem_edg.2 (.inr ⟨x, hx, .inl rfl⟩)))), hno _ (mem_edg.2 (.inl (mem_edg.2 (.inr ⟨x, hx, .inr rfl⟩))))⟩) g1 g2, hold_const (fun x hx => ⟨hno _ (mem_edg.2 (.inr ⟨x, hx, .inl rfl⟩)), hno _ (mem_edg.2 (.inr ⟨x, hx, .inr rfl⟩))⟩) g1 g2⟩
end
theorem dropB {l : List Blo} {k : Nat} (h : k < l.length) : l.drop k = l.getD k Blo.z :: l.drop (k + 1) := by
 rw [List.getD_eq_getElem?_getD, List.getElem?_eq_getElem h, Option.getD_some]; exact List.drop_eq_getElem_cons h
theorem hold_at {l : List Blo} {k : Nat} {n : Int} (h : k < l.length) : hold (l.drop k) n = if (l.getD k Blo.z).f ≤ n ∧ n < (l.getD k Blo.z).t then (l.getD k Blo.z).c else hold (l.drop (k + 1)) n := by
 rw [dropB h, hold_cons]
theorem okd_at {l : List Blo} {q : Blo} {k : Nat} (h : k < l.length) : okF q.t q.c (l.drop k) = (!badB q (l.getD k Blo.z) && okF (l.getD k Blo.z).t (l.getD k Blo.z).c (l.drop (k + 1))) := by
 rw [dropB h, okF_bad]
theorem okd_no {l : List Blo} {q : Blo} {k : Nat} (h : k < l.length) (hb : badB q (l.getD k Blo.z) = true) : okF q.t q.c (l.drop k) = false := by
 rw [okd_at h, hb]; rfl
theorem okd_go {l : List Blo} {q : Blo} {k : Nat} (h : k < l.length) (hb : badB q (l.getD k Blo.z) = false) : okF q.t q.c (l.drop k) = okF (l.getD k Blo.z).t (l.getD k Blo.z).c (l.drop (k + 1)) := by
 rw [okd_at h, hb]; rfl
theorem prevB_pos {q : Blo} {l : List Blo} {k : Nat} (h : 0 < k) : prevB q l k = l.getD (k - 1) Blo.z := by
 cases k with
 | zero => exact absurd h (Nat.lt_irrefl 0)
 | succ k => rfl
theorem rng_le {f t : Int} (h : rngB f t = true) : 0 ≤ f ∧ f < t ∧ t ≤ 100000000 := by
 simp only [rngB, Bool.and_eq_true, decide_eq_true_eq] at h; exact ⟨h.1.1, h.1.2, h.2⟩
theorem isIn_le {n lo hi : Int} (h : isIn n lo hi = true) : lo ≤ n ∧ n ≤ hi := by
 simpa [isIn] using h
theorem bad_at {q x : Blo} (h : badB q x ≠ false) : badB q x = true := by
 cases hb : badB q x
 ·exact absurd hb h
 ·rfl
theorem outP_next {h : Int → Int → Int} {o : List Blo} {pre : List Pce} {p q x y k : Int} (ho : o = outP h pre) (hk : h x y = k) : outP h (pre ++ [⟨p, q, x, y⟩]) = stepB o p q k := by
 rw [outP_snoc, ho, ← hk]
theorem pick_rng (c n : Int) (h : 0 < n) : 0 ≤ pick c n ∧ pick c n < n := by
 unfold pick
 exact ⟨Int.emod_nonneg _ (by omega), Int.emod_lt_of_pos _ h⟩
def pieF (a b : Int) : Int := if pick a 8 = 7 then 1666666 * pick a 60 else pick a 60
def pieT (a b : Int) : Int := if pick a 8 = 7 then 1666666 * (pick a 60 + 1 + pick b (60 - pick a 60)) + 40 else pick a 60 + 1 + pick b (60 - pick a 60)
theorem pie_ok (a b : Int) : rngB (pieF a b) (pieT a b) = true := by
 have h1 := pick_rng a 60 (by decide)
 have h2 := pick_rng b (60 - pick a 60) (by omega)
 unfold pieF pieT rngB
 split <;> simp <;> omega
theorem gives_ok {l m : List Blo} {f t k : Int} {n : Nat} (h : Gives l f t k m) (hl : l.length ≤ n) : okF 0 (-1) m = true ∧ m.length ≤ n + 2 := ⟨h.1, by have := h.2.1; omega⟩
theorem mapOk_of {l : List Blo} (h : okF 0 (-1) l = true) (hl : l.length ≤ 40) : mapOk l = true := by
 unfold mapOk; rw [h, decide_eq_true hl]; rfl
theorem mapOk_iff {l : List Blo} (h : mapOk l = true) : okF 0 (-1) l = true ∧ l.length ≤ 40 := by
 simpa [mapOk] using h
end Go.Proofs.Ytnfnkohkcmkddaa
namespace Go.PW
open Go.RowKit Go.Builtin
set_option linter.unusedVariables false
set_option linter.unusedSimpArgs false
section
variable {P : Program} {r : Option Nat} {w w' w0 : World} {L : List (Nat × Value)} {ty : TypeId} {pos : String} {af : Array Edge} {E : TypeId} {sz : Nat} {v u : Value} {els els' : List (List Value)} {x y : Operand}
theorem r_append_arg {sT : TypeId} {inf : TypeInfo} {z : Value} {i : Nat} (hok : (own u E sz els').ok w) (hu0 : 0 < els'.length) (hs : SlAt w v sz els) (hpos : 0 < els.length) (hi : i ≤ els.length) (hx : ev L x = some (cut v sz 0 i i)) (hy : ev L y = some u)
  (ht : P.underlying sT = some (.slice E)) (hinf : P.info? E = some inf) (hz : inf.zero = some z) (hsize : inf.size = sz) (hzs : z.cells.size = sz) (hsz : 0 < sz)
  (hbytes : (i + els'.length) * inf.bytes ≤ 140737488355328) (hbig : i + els'.length ≤ big) {dst : Option Tmp} {gd : Option (Nat × Bool)} :
  OpR P r ⟨dst, .call { callee := .builtin .append, args := #[x, y], argTypes := #[sT, sT] }, ty, pos, af, gd⟩ L w fun v' w' =>
   Ext (own u E sz els').foot w w' ∧ (own v' E sz (els.take i ++ els')).ok w' ∧ (∀ g, (own v' E sz (els.take i ++ els')).foot g → g < w'.heap.size ∧ ((own u E sz els').foot g ∨ w.heap.size ≤ g)) := by
 have hu := own_slAt hok
 have hsx := hs.cut (l := 0) (h := i) (m := i) (Nat.zero_le _) hi (Nat.le_refl _) (Nat.le_trans hi hs.shp.cap)
 rw [List.drop_zero, Nat.sub_zero] at hsx
 obtain ⟨g, go, cx, hcx, hcxi, hcxb, hco⟩ : ∃ g go cx, v = .slice (some ⟨g, go, none⟩) els.length cx ∧ i ≤ cx ∧ cut v sz 0 i i = .slice (some ⟨g, go, none⟩) i i ∧ CellsAt w g go els.flatten := by
  rcases hs.2.2 with ⟨_, h⟩ | ⟨b, off, cap, h1, h2, _, h4⟩
  ·subst h; exact absurd hpos (by simp)
  ·refine ⟨b, off, cap, h1, Nat.le_trans hi h2, ?_, h4⟩
   rw [h1]
   simp only [cut, Nat.zero_mul, Nat.sub_zero, Option.map_some]
   split
   ·rfl
   ·rw [addr_add]; rfl
 rw [hcxb] at hx hsx
 have hci : CellsAt w g go (els.take i).flatten := by
  rcases hsx.2.2 with ⟨h, _⟩ | ⟨b2, o2, c2, h, _, _, hc⟩
  ·cases h
  ·simp only [Value.slice.injEq, Option.some.injEq, Addr.mk.injEq] at h
   obtain ⟨⟨rfl, rfl, _⟩, _, _⟩ := h
   exact hc
 obtain ⟨b, off, cp, hub, hcells⟩ : ∃ b off cap, u = .slice (some ⟨b, off, none⟩) els'.length cap ∧ CellsAt w b off els'.flatten := by
  rcases hu.2.2 with ⟨_, h⟩ | ⟨b, off, cap, h1, _, _, h2⟩
  ·subst h; exact absurd hu0 (by simp)
  ·exact ⟨b, off, cap, h1, h2⟩
 have hfl : els'.flatten.length = els'.length * sz := flat_len hu.1
 have hti : (els.take i).length = i := by rw [List.length_take]; omega
 have hfo : (els.take i).flatten.length = i * sz := by rw [flat_len hsx.1, hti]
 subst hub
 obtain ⟨v', w', hr, h5, h6⟩ := run_append_arg_grows (P := P) w sT ty E inf z sz inf.bytes ht hinf hz hsize rfl hzs hsz ⟨g, go, none⟩ i i (els.take i).flatten hfo (fun j q hj => by rw [addr_add]; exact hci j q hj) ⟨b, off, none⟩ els'.length cp els'.flatten hfl
  (fun j q hj => by rw [addr_add]; exact hcells j q hj) (by omega) (by simp only [maxLen]; unfold big at hbig; omega) hbytes
 intro N df a hfr
 obtain ⟨h7, h8⟩ := h5
 rcases h8 with ⟨_, h8⟩ | ⟨g2, c2, cur2, rfl, hge, hh2, hn2, hm2, hs2, ht2⟩
 ·omega
 have hown : (own (.slice (some ⟨g2, 0, none⟩) (i + els'.length) c2) E sz (els.take i ++ els')).ok w' := by
  refine ⟨fun e he => ?_, by rw [List.length_append, hti]; exact hbig, ?_⟩
  ·rcases List.mem_append.1 he with he | he
   ·exact hsx.1 e he
   ·exact hu.1 e he
  ·refine ⟨by rw [List.flatten_append, List.length_append, hfo, hfl, List.length_append, hti, Nat.add_mul], .inr ⟨g2, c2, cur2, (0, 0), by rw [List.length_append, hti], hh2, .inl rfl, by rw [List.length_append, hti]; exact hn2, hm2, hs2, by rw [List.length_append, hti, List.flatten_append]; exact ht2⟩⟩
 refine opk_value rfl (v := .slice (some ⟨g2, 0, none⟩) (i + els'.length) c2) (w' := w') ?_ ⟨_, rfl, ?_, hown, ?_⟩
 ·simp only [execOp, resolve, invoke, builtin, Sem.run_bind, Sem.run_pure, Result.andThen_ok, List.map_toArray, List.map_cons, List.map_nil, hfr.eval hx, hfr.eval hy, hr]
 ·exact ⟨h6.os, h6.tape, h6.output, h6.size, fun k hk hn => h6.block k hk (by simp)⟩
 ·intro k hk
  have : g2 = k := by simpa [own, Value.ownBlock] using hk
  subst this
  exact ⟨(Array.getElem?_eq_some_iff.1 hh2).1, .inr hge⟩
end
end Go.PW
namespace Go.Proofs.Ytnfnkohkcmkddaa
open Go.RowKit Go.PW
set_option linter.unusedVariables false
set_option linter.unusedSimpArgs false
set_option maxRecDepth 4000
theorem pickr13_ok (c n : Int) (w0 : World) (hc1 : -9223372036854775808 ≤ c) (hc2 : c ≤ 9223372036854775807) (hn : 0 < n) (hn2 : n ≤ 9223372036854775807) :
  Ret Try.prog 24 #[iv c, iv n] w0 fun v w => v = iv (pick c n) ∧ Ext No w0 w := by
 refine ret_of Try.func24 rfl Try.ntmps24 (lb rfl) fun a hfr => ?_
 replace hfr : Fr 13 [(0, _), (1, _)] [] a := hfr
 replace hst : St No w0 [] w0 := St.init w0
 refine wc_seq_region fun K1 hK1 => ?_
 refine wla hfr rfl fun a hfr => ?_
 refine wl_nil (hK1 _ _ ?_)
 refine wc_seq_k fun K2 hK2 => ?_
 refine wc_seq_region fun K3 hK3 => ?_
 refine wlm hfr rfl fun a hfr => ?_
 refine wlv hfr (v_lt rfl rfl) fun a hfr => ?_
 refine wl_nil (hK3 _ _ ?_)
 refine wc_cond_d hfr rfl (fun hc1 => ?_) (fun hc1 => ?_)
 ·refine wc_region ?_
  refine wlm hfr rfl fun a hfr => ?_
  refine wlv hfr (v_add rfl rfl ⟨by omega, by omega⟩) fun a hfr => ?_
  refine wlv hfr (v_neg rfl (by omega) (by omega)) fun a hfr => wla hfr rfl fun a hfr => ?_
  refine wl_nil ?_
  refine hK2 _ _ ?_
  refine wc_seq_region fun K4 hK4 => ?_
  refine wlm hfr rfl fun a hfr => wlm hfr rfl fun a hfr => ?_
  refine wlv hfr (v_rem rfl rfl (by omega) (by omega)) fun a hfr => wla hfr rfl fun a hfr => ?_
  refine wl_nil (hK4 _ _ ?_)
  replace hfr : Fr 13 [(4, _)] [] a := hfr.pick [4]
  refine wc_ret ?_
  refine fin_ret hfr Try.results24 (resAre_tmp rfl resAre_nil) ?_
  exact ⟨by simp only [retv, pick]; congr 2; split <;> simp_all <;> omega, hst.ext⟩
 refine wc_skip ?_
 refine hK2 _ _ ?_
 refine wc_seq_region fun K5 hK5 => ?_
 refine wlm hfr rfl fun a hfr => wlm hfr rfl fun a hfr => ?_
 refine wlv hfr (v_rem rfl rfl (by omega) (by omega)) fun a hfr => wla hfr rfl fun a hfr => ?_
 refine wl_nil (hK5 _ _ ?_)
 replace hfr : Fr 13 [(4, _)] [] a := hfr.pick [4]
 refine wc_ret ?_
 refine fin_ret hfr Try.results24 (resAre_tmp rfl resAre_nil) ?_
 exact ⟨by simp only [retv, pick]; congr 2; split <;> simp_all <;> omega, hst.ext⟩
theorem piece_ok (p q : Int) (w0 : World) (hp : -9223372036854775808 ≤ p ∧ p ≤ 9223372036854775807) (hq : -9223372036854775808 ≤ q ∧ q ≤ 9223372036854775807) :
  Ret Try.prog 23 #[iv p, iv q] w0 fun v w => v = .agg #[iv (pieF p q), iv (pieT p q)] ∧ Ext No w0 w := by
 have hp1 := pick_rng p 60 (by decide)
 have hp2 := pick_rng q (60 - pick p 60) (by omega)
 refine ret_of Try.func23 rfl Try.ntmps23 (lb rfl) fun a hfr => ?_
 replace hfr : Fr 30 [(0, _), (1, _)] [] a := hfr
 replace hst : St No w0 [] w0 := St.init w0
 refine wc_seq_region fun K1 hK1 => ?_
 refine wl_alloc hfr hst (Try.zeroValue49 _) [iv 0, iv 0] rfl ?_
 clear hfr hst
 intro a w1 hfr hst
 refine wl_nil (hK1 _ _ ?_)
 refine wc_seq_region fun K2 hK2 => ?_
 refine wlm hfr rfl fun a hfr => ?_
 refine wl_callp hfr hst Try.call24 rfl (pickr13_ok _ _ _ (by omega) (by omega) (by omega) (by omega)) ?_
 clear hfr hst
 intro a w2 hfr hst
 refine wla hfr rfl fun a hfr => ?_
 refine wl_nil (hK2 _ _ ?_)
 refine wc_seq_region fun K3 hK3 => ?_
 refine wlm hfr rfl fun a hfr => wlm hfr rfl fun a hfr => ?_
 refine wlv hfr (v_add rfl rfl ⟨by omega, by omega⟩) fun a hfr => wlm hfr rfl fun a hfr => wlm hfr rfl fun a hfr => ?_
 refine wlv hfr (v_sub rfl rfl ⟨by omega, by omega⟩) fun a hfr => ?_
 refine wl_callp hfr hst Try.call24 rfl (pickr13_ok _ _ _ (by omega) (by omega) (by omega) (by omega)) ?_
 clear hfr hst
 intro a w3 hfr hst
 refine wlv hfr (v_add rfl rfl ⟨by omega, by omega⟩) fun a hfr => ?_
 refine wlv hfr (v_build (v := .agg #[iv (pick p 60), iv (((pick p 60) + 1) + (pick q (60 - (pick p 60))))]) rfl (by kernel_rfl)) fun a hfr => ?_
 refine wl_alloc hfr hst (Try.zeroValue49 _) [iv 0, iv 0] rfl ?_
 clear hfr hst
 intro a w4 hfr hst
 refine wl_sto 0 hfr hst [iv (pick p 60), iv (((pick p 60) + 1) + (pick q (60 - (pick p 60))))] rfl (Try.sizeOf49 _) ?_
 clear hfr hst
 intro a w5 hfr hst
 refine wl_nil (hK3 _ _ ?_)
 replace hfr : Fr 30 [(0, _), (4, _), (6, _)] [] a := hfr.pick [0, 4, 6]
 refine wc_seq_k fun K4 hK4 => ?_
 refine wc_seq_region fun K5 hK5 => ?_
 refine wlm hfr rfl fun a hfr => ?_
 refine wl_callp hfr hst Try.call24 rfl (pickr13_ok _ _ _ (by omega) (by omega) (by omega) (by omega)) ?_
 clear hfr hst
 intro a w6 hfr hst
 refine wlv hfr (v_eq rfl rfl) fun a hfr => ?_
 refine wl_nil (hK5 _ _ ?_)
 refine wc_cond_d hfr rfl (fun hc1 => ?_) (fun hc1 => ?_)
 ·refine wc_region ?_
  refine wlv hfr (v_fieldAddr (v := .pointer (some ⟨w3.heap.size, 0, none⟩)) rfl (by kernel_rfl)) fun a hfr => ?_
  refine wlv hfr (v_load_blk1 (hst.get (k := 0) rfl) rfl (Try.isAgg3 _) rfl) fun a hfr => ?_
  refine wlv hfr (v_mul rfl rfl ⟨by omega, by omega⟩) fun a hfr => ?_
  refine wlv hfr (v_fieldAddr (v := .pointer (some ⟨w3.heap.size, 1, none⟩)) rfl (by kernel_rfl)) fun a hfr => ?_
  refine wlv hfr (v_load_blk1 (hst.get (k := 0) rfl) rfl (Try.isAgg3 _) rfl) fun a hfr => ?_
  refine wlv hfr (v_mul rfl rfl ⟨by omega, by omega⟩) fun a hfr => ?_
  refine wlv hfr (v_add rfl rfl ⟨by omega, by omega⟩) fun a hfr => ?_
  refine wlv hfr (v_build (v := .agg #[iv (1666666 * (pick p 60)), iv ((1666666 * (((pick p 60) + 1) + (pick q (60 - (pick p 60))))) + 40)]) rfl (by kernel_rfl)) fun a hfr => ?_
  refine wl_sto 0 hfr hst [iv (1666666 * (pick p 60)), iv ((1666666 * (((pick p 60) + 1) + (pick q (60 - (pick p 60))))) + 40)] rfl (Try.sizeOf49 _) ?_
  clear hfr hst
  intro a w7 hfr hst
  refine wl_nil ?_
  refine hK4 _ _ ?_
  replace hfr : Fr 30 [(4, _), (6, _)] [] a := hfr.pick [4, 6]
  refine wc_seq_region fun K6 hK6 => ?_
  refine wlv hfr (v_load_all (hst.get (k := 0) rfl) rfl (Try.isAgg49 _) (Try.sizeOf49 _)) fun a hfr => ?_
  refine wl_sto 1 hfr hst [iv (1666666 * (pick p 60)), iv ((1666666 * (((pick p 60) + 1) + (pick q (60 - (pick p 60))))) + 40)] rfl (Try.sizeOf49 _) ?_
  clear hfr hst
  intro a w8 hfr hst
  refine wl_nil (hK6 _ _ ?_)
  refine wc_ret ?_
  refine fin_ret hfr Try.results23 (resAre_cell rfl (res_all (hst.get (k := 1) rfl) (Try.isAgg49 _) (Try.sizeOf49 _)) resAre_nil) ?_
  exact ⟨by simp only [retv]; unfold pieF pieT; simp [hc1], hst.ext⟩
 refine wc_skip ?_
 refine hK4 _ _ ?_
 refine wc_seq_region fun K7 hK7 => ?_
 refine wlv hfr (v_load_all (hst.get (k := 0) rfl) rfl (Try.isAgg49 _) (Try.sizeOf49 _)) fun a hfr => ?_
 refine wl_sto 1 hfr hst [iv (pick p 60), iv (((pick p 60) + 1) + (pick q (60 - (pick p 60))))] rfl (Try.sizeOf49 _) ?_
 clear hfr hst
 intro a w9 hfr hst
 refine wl_nil (hK7 _ _ ?_)
 replace hfr : Fr 30 [(4, _)] [] a := hfr.pick [4]
 replace hst : St No w0 [_] w9 := hst.mask [false, true]
 refine wc_ret ?_
 refine fin_ret hfr Try.results23 (resAre_cell rfl (res_all (hst.get (k := 0) rfl) (Try.isAgg49 _) (Try.sizeOf49 _)) resAre_nil) ?_
 exact ⟨by simp only [retv]; unfold pieF pieT; simp [hc1], hst.ext⟩
set_option maxHeartbeats 4000000 in
theorem rmap_ok (lv : Value) (l : List Blo) (w0 : World) (hlv : SlAt w0 lv 3 (l.map Blo.cells)) :
  Ret Try.prog 41 #[lv] w0 fun v w => v = .bool (mapOk l) ∧ Ext No w0 w := by
 refine ret_of Try.func41 rfl Try.ntmps41 (lb rfl) fun a hfr => ?_
 replace hfr : Fr 77 [(0, _)] [] a := hfr
 replace hst : St No w0 [] w0 := St.init w0
 refine wc_seq_region fun K1 hK1 => ?_
 refine wla hfr rfl fun a hfr => ?_
 refine wl_nil (hK1 _ _ ?_)
 refine wc_seq_k fun K2 hK2 => ?_
 refine wc_seq_region fun K3 hK3 => ?_
 refine wlm hfr rfl fun a hfr => ?_
 refine wlv hfr ((v_len_sl (sT := 28) (hst.arg hlv) rfl rfl (Try.runUnderlying28 _)).asi (m' := (l.length : Int)) (by rw [List.length_map])) fun a hfr => ?_
 refine wlv hfr (v_gt rfl rfl) fun a hfr => ?_
 refine wl_nil (hK3 _ _ ?_)
 refine wc_cond_d hfr rfl (fun hc1 => ?_) (fun hc1 => ?_)
 ·refine wc_seq_region fun K4 hK4 => ?_
  refine wla hfr rfl fun a hfr => ?_
  refine wl_nil (hK4 _ _ ?_)
  refine wc_ret ?_
  refine fin_ret hfr Try.results41 (resAre_tmp rfl resAre_nil) ?_
  refine ⟨?_, hst.ext⟩
  simp only [retv]
  refine congrArg Value.bool ?_
  unfold mapOk
  rw [decide_eq_false (by omega), Bool.and_false]
 refine wc_skip ?_
 refine hK2 _ _ ?_
 refine wc_seq_k fun K5 hK5 => ?_
 refine wc_seq_region fun K6 hK6 => ?_
 refine wla hfr rfl fun a hfr => ?_
 refine wl_nil (hK6 _ _ ?_)
 refine wc_block ?_
 refine wc_loop (fun m a w => ∃ (k : Nat), m = l.length - k ∧ (k ≤ l.length) ∧ (okF 0 (-1) l = okF (prevB ⟨0, 0, -1⟩ l k).t (prevB ⟨0, 0, -1⟩ l k).c (l.drop k)) ∧ Fr 77 [(0, lv), (3, iv (k : Int))] [] a ∧ St No w0 [] w) _ ⟨0, rfl, Nat.zero_le _, rfl, hfr.pick [0, 3], hst.select [] (by decide)⟩ ?_
 rintro _ a w1 ⟨k, rfl, hk, hs, hfr, hst⟩
 refine wc_seq_k fun K7 hK7 => ?_
 refine wc_seq_region fun K8 hK8 => ?_
 refine wlm hfr rfl fun a hfr => wlm hfr rfl fun a hfr => ?_
 refine wlv hfr ((v_len_sl (sT := 28) (hst.arg hlv) rfl rfl (Try.runUnderlying28 _)).asi (m' := (l.length : Int)) (by rw [List.length_map])) fun a hfr => ?_
 refine wlv hfr (v_lt rfl rfl) fun a hfr => ?_
 refine wl_nil (hK8 _ _ ?_)
 refine wc_cond_d hfr rfl (fun hc2 => ?_) (fun hc2 => ?_)
 ·have hkx : k < l.length := by omega
  refine wc_skip ?_
  refine hK7 _ _ ?_
  refine wc_seq_k fun K9 hK9 => ?_
  refine wc_block ?_
  refine wc_seq_k fun K10 hK10 => ?_
  refine wc_seq_region fun K11 hK11 => ?_
  refine wlm hfr rfl fun a hfr => wlm hfr rfl fun a hfr => ?_
  refine wlv hfr ((v_indexAddr_sl (i := (k : Int)) (sT := 28) (hst.arg hlv) rfl rfl (Try.runUnderlying28 _) (Try.sizeOf77 _) (by omega) (by rw [List.length_map]; omega)).as (v' := slAddr lv (k * 3)) rfl) fun a hfr => ?_
  refine wlv hfr (v_fieldAddr_sl (k := k * 3) (j := 0) (hst.arg hlv) (i := k) (by rw [List.length_map]; omega) rfl (fun _ _ => by kernel_rfl)) fun a hfr => ?_
  refine wlv hfr (v_load_slp (i := k) (j := 0) (ds := [iv ((l.getD k Blo.z).f), iv ((l.getD k Blo.z).t)]) (hst.arg hlv) (by rw [List.length_map]; omega) rfl (Try.isAgg49 _) (Try.sizeOf49 _) (by rw [el_at Blo.z]; rfl)) fun a hfr => ?_
  refine wl_callp hfr hst Try.call42 rfl (rRange_ok ((l.getD k Blo.z).f) ((l.getD k Blo.z).t) _) ?_
  clear hfr hst
  intro a w2 hfr hst
  refine wlv hfr (v_not rfl) fun a hfr => wlm hfr rfl fun a hfr => ?_
  rcases Bool.eq_false_or_eq_true (!(rngB ((l.getD k Blo.z).f) ((l.getD k Blo.z).t))) with hb3 | hb3
  ·rw [hb3] at hfr
   try simp only [qz] at hb3
   have hb9 : badB (prevB ⟨0, 0, -1⟩ l k) (l.getD k Blo.z) = true := bad_at fun h => by have h9 := (badB_iff.1 h).1; rw [h9] at hb3; cases hb3
   refine wln hfr fun a hfr => ?_
   refine wln hfr fun a hfr => ?_
   refine wln hfr fun a hfr => ?_
   refine wln hfr fun a hfr => ?_
   refine wln hfr fun a hfr => ?_
   refine wln hfr fun a hfr => ?_
   refine wln hfr fun a hfr => ?_
   refine wlv hfr (v_pick_t rfl rfl) fun a hfr => ?_
   refine wl_nil (hK11 _ _ ?_)
   replace hfr : Fr 77 [(0, _), (3, _), (28, _)] [] a := hfr.pick [0, 3, 28]
   refine wc_cond_t hfr rfl ?_
   refine wc_seq_region fun K12 hK12 => ?_
   refine wla hfr rfl fun a hfr => ?_
   refine wl_nil (hK12 _ _ ?_)
   refine wc_ret ?_
   refine fin_ret hfr Try.results41 (resAre_tmp rfl resAre_nil) ?_
   refine ⟨?_, hst.ext⟩
   simp only [retv]
   refine congrArg Value.bool ?_
   unfold mapOk
   rw [hs, okd_no hkx hb9]; rfl
  rw [hb3] at hfr
  try simp only [qz] at hb3
  have hr9 : rngB (l.getD k Blo.z).f (l.getD k Blo.z).t = true := by first | exact hb3 | simpa using hb3
  have hr8 := rng_le hr9
  refine wly hfr (v_move rfl) fun a hfr => wly hfr (v_move rfl) fun a hfr => wly hfr ((v_indexAddr_sl (i := (k : Int)) (sT := 28) (hst.arg hlv) rfl rfl (Try.runUnderlying28 _) (Try.sizeOf77 _) (by omega) (by rw [List.length_map]; omega)).as (v' := slAddr lv (k * 3)) rfl) fun a hfr => wly hfr (v_fieldAddr_sl (k := k * 3) (j := 2) (hst.arg hlv) (i := k) (by rw [List.length_map]; omega) rfl (fun _ _ => by kernel_rfl)) fun a hfr => wly hfr (v_load_sl1 (u := iv ((l.getD k Blo.z).c)) (i := k) (j := 2) (hst.arg hlv) (by rw [List.length_map]; omega) rfl (Try.isAgg3 _) (by rw [el_at Blo.z]; rfl)) fun a hfr => ?_
  refine wl_callpy hfr hst Try.call43 rfl (rCarrier_ok ((l.getD k Blo.z).c) _) ?_
  clear hfr hst
  intro a w3 hfr hst
  refine wly hfr (v_not rfl) fun a hfr => ?_
  refine wlv hfr (v_pick_f rfl rfl) fun a hfr => ?_
  refine wl_nil (hK11 _ _ ?_)
  replace hfr : Fr 77 [(0, _), (3, _), (28, _)] [] a := hfr.pick [0, 3, 28]
  refine wc_cond hfr rfl (fun hc4 => ?_) (fun hc4 => ?_)
  ·try simp only [qz] at hc4
   have hb9 : badB (prevB ⟨0, 0, -1⟩ l k) (l.getD k Blo.z) = true := bad_at fun h => by have h9 := (badB_iff.1 h).2.1; rw [h9] at hc4; cases hc4
   refine wc_seq_region fun K13 hK13 => ?_
   refine wla hfr rfl fun a hfr => ?_
   refine wl_nil (hK13 _ _ ?_)
   refine wc_ret ?_
   refine fin_ret hfr Try.results41 (resAre_tmp rfl resAre_nil) ?_
   refine ⟨?_, hst.ext⟩
   simp only [retv]
   refine congrArg Value.bool ?_
   unfold mapOk
   rw [hs, okd_no hkx hb9]; rfl
  try simp only [qz] at hc4
  have hc9 : isIn (l.getD k Blo.z).c 0 7 = true := by first | exact hc4 | simpa using hc4
  have hc8 := isIn_le hc9
  refine wc_skip ?_
  refine hK10 _ _ ?_
  refine wc_seq_k fun K14 hK14 => ?_
  refine wc_of_dr (dr_of_wd fun w4 hxz => ?_)
  replace hst := hst.grow hxz
  refine wd_lin (k := 0) 3 [2] ?_
  refine wlm hfr rfl fun a hfr => ?_
  refine wlv hfr (v_gt rfl rfl) fun a hfr => wlm hfr rfl fun a hfr => ?_
  refine wl_nil ?_
  rcases Decidable.em (0 < (k : Int)) with hb5 | hb5
  ·rw [decide_eq_true hb5] at hfr
   have hq : (prevB ⟨0, 0, -1⟩ l k) = l.getD (k - 1) Blo.z := prevB_pos (by omega)
   refine wd_sub (k := 3) 16 [9, 15] hfr ?_
   replace hfr : Fr 77 [(0, _), (3, _), (29, _), (30, _), (31, _)] [] a := hfr.pick [0, 3, 29, 30, 31]
   refine dr_pl 13 hfr hst <| pl_m rfl <| pl_m rfl <| pl_v (v_sub rfl rfl ⟨by omega, by omega⟩) <| pl_w (fun hst => (v_indexAddr_sl (i := (k : Int) - 1) (sT := 28) (hst.arg hlv) rfl rfl (Try.runUnderlying28 _) (Try.sizeOf77 _) (by omega) (by rw [List.length_map]; omega)).as (v' := slAddr lv ((k - 1) * 3)) (by rw [show ((k : Int) - 1).toNat = (k - 1) from by omega])) <| pl_w (fun hst => v_fieldAddr_sl (k := (k - 1) * 3) (j := 0) (hst.arg hlv) (i := (k - 1)) (by rw [List.length_map]; omega) rfl (fun _ _ => by kernel_rfl)) <| pl_w (fun hst => v_fieldAddr_sl (k := (k - 1) * 3 + 0) (j := 1) (hst.arg hlv) (i := (k - 1)) (by rw [List.length_map]; omega) rfl (fun _ _ => by kernel_rfl)) <| pl_w (fun hst => v_load_sl1 (u := iv ((l.getD (k - 1) Blo.z).t)) (i := (k - 1)) (j := 1) (hst.arg hlv) (by rw [List.length_map]; omega) rfl (Try.isAgg3 _) (by rw [el_at Blo.z]; rfl)) <| pl_m rfl <| pl_m rfl ?_
   refine pl_w (fun hst => (v_indexAddr_sl (i := (k : Int)) (sT := 28) (hst.arg hlv) rfl rfl (Try.runUnderlying28 _) (Try.sizeOf77 _) (by omega) (by rw [List.length_map]; omega)).as (v' := slAddr lv (k * 3)) rfl) <| pl_w (fun hst => v_fieldAddr_sl (k := k * 3) (j := 0) (hst.arg hlv) (i := k) (by rw [List.length_map]; omega) rfl (fun _ _ => by kernel_rfl)) <| pl_w (fun hst => v_fieldAddr_sl (k := k * 3 + 0) (j := 0) (hst.arg hlv) (i := k) (by rw [List.length_map]; omega) rfl (fun _ _ => by kernel_rfl)) <| pl_w (fun hst => v_load_sl1 (u := iv ((l.getD k Blo.z).f)) (i := k) (j := 0) (hst.arg hlv) (by rw [List.length_map]; omega) rfl (Try.isAgg3 _) (by rw [el_at Blo.z]; rfl)) ?_
   clear hfr hst
   intro a w5 hfr hst
   replace hfr : Fr 77 [(0, _), (3, _), (31, _), (38, _), (44, _)] [] a := hfr.pick [0, 3, 31, 38, 44]
   refine wl_nil ?_
   refine wd_lin (k := 16) 18 [17] ?_
   refine wly hfr (v_gt rfl rfl) fun a hfr => wly hfr (v_move rfl) fun a hfr => ?_
   refine wl_nil ?_
   rcases Decidable.em ((l.getD k Blo.z).f < (l.getD (k - 1) Blo.z).t) with hb6 | hb6
   ·rw [decide_eq_true hb6] at hfr
    have hb9 : badB (prevB ⟨0, 0, -1⟩ l k) (l.getD k Blo.z) = true := bad_at fun h => by have h9 := (badB_iff.1 h).2.2.1; rw [hq] at h9; omega
    replace hfr : Fr 77 [(0, lv), (3, iv (k : Int)), (31, .bool true), (38, iv ((l.getD (k - 1) Blo.z).t)), (44, iv ((l.getD k Blo.z).f)), (45, .bool true), (46, .bool true)] [] a := hfr.pick [0, 3, 31, 38, 44, 45, 46]
    refine wd_skip (k := 18) 31 [24, 30] hfr fun a hfr => ?_
    replace hfr : Fr 77 [(47, undef), (48, undef), (49, undef), (50, undef), (51, undef), (52, undef), (53, undef), (54, undef), (55, undef), (56, undef), (57, undef), (58, undef), (59, undef), (0, lv), (3, iv (k : Int)), (31, .bool true), (38, iv ((l.getD (k - 1) Blo.z).t)), (44, iv ((l.getD k Blo.z).f)), (45, .bool true), (46, .bool true)] [] a := hfr
    refine wd_lin (k := 31) 33 [32] ?_
    refine wln hfr fun a hfr => ?_
    refine wln hfr fun a hfr => ?_
    refine wl_nil ?_
    replace hfr : Fr 77 [(47, undef), (48, undef), (49, undef), (50, undef), (51, undef), (52, undef), (53, undef), (54, undef), (55, undef), (56, undef), (57, undef), (58, undef), (59, undef), (0, lv), (3, iv (k : Int)), (31, .bool true), (38, iv ((l.getD (k - 1) Blo.z).t)), (44, iv ((l.getD k Blo.z).f)), (45, .bool true), (46, .bool true), (60, undef), (61, undef)] [] a := hfr.pick [47, 48, 49, 50, 51, 52, 53, 54, 55, 56, 57, 58, 59, 0, 3, 31, 38, 44, 45, 46, 60, 61]
    refine wd_skip (k := 33) 44 [38, 43] hfr fun a hfr => ?_
    replace hfr : Fr 77 [(62, undef), (63, undef), (64, undef), (65, undef), (66, undef), (67, undef), (68, undef), (69, undef), (70, undef), (71, undef), (72, undef), (47, undef), (48, undef), (49, undef), (50, undef), (51, undef), (52, undef), (53, undef), (54, undef), (55, undef), (56, undef), (57, undef), (58, undef), (59, undef), (0, lv), (3, iv (k : Int)), (31, .bool true), (38, iv ((l.getD (k - 1) Blo.z).t)), (44, iv ((l.getD k Blo.z).f)), (45, .bool true), (46, .bool true), (60, undef), (61, undef)] [] a := hfr
    refine wd_lin (k := 44) 48 [47] ?_
    refine wl_vu hfr fun a hfr => ?_
    refine wln hfr fun a hfr => wly hfr (v_pick_t rfl rfl) fun a hfr => ?_
    refine wlv hfr (v_pick_t rfl rfl) fun a hfr => ?_
    refine wl_nil ?_
    refine wd_end ?_
    refine hK14 _ _ ?_
    replace hfr : Fr 77 [(0, _), (3, _), (76, _)] [] a := hfr.pick [0, 3, 76]
    refine wc_cond_t hfr rfl ?_
    refine wc_seq_region fun K15 hK15 => ?_
    refine wla hfr rfl fun a hfr => ?_
    refine wl_nil (hK15 _ _ ?_)
    refine wc_ret ?_
    refine fin_ret hfr Try.results41 (resAre_tmp rfl resAre_nil) ?_
    refine ⟨?_, hst.ext⟩
    simp only [retv]
    refine congrArg Value.bool ?_
    unfold mapOk
    rw [hs, okd_no hkx hb9]; rfl
   rw [decide_eq_false hb6] at hfr
   refine wd_sub (k := 18) 31 [24, 30] hfr ?_
   replace hfr : Fr 77 [(0, _), (3, _), (31, _), (38, _), (44, _), (45, _), (46, _)] [] a := hfr.pick [0, 3, 31, 38, 44, 45, 46]
   refine dr_pl 13 hfr hst <| pl_m rfl <| pl_m rfl <| pl_v (v_sub rfl rfl ⟨by omega, by omega⟩) <| pl_w (fun hst => (v_indexAddr_sl (i := (k : Int) - 1) (sT := 28) (hst.arg hlv) rfl rfl (Try.runUnderlying28 _) (Try.sizeOf77 _) (by omega) (by rw [List.length_map]; omega)).as (v' := slAddr lv ((k - 1) * 3)) (by rw [show ((k : Int) - 1).toNat = (k - 1) from by omega])) <| pl_w (fun hst => v_fieldAddr_sl (k := (k - 1) * 3) (j := 0) (hst.arg hlv) (i := (k - 1)) (by rw [List.length_map]; omega) rfl (fun _ _ => by kernel_rfl)) <| pl_w (fun hst => v_fieldAddr_sl (k := (k - 1) * 3 + 0) (j := 1) (hst.arg hlv) (i := (k - 1)) (by rw [List.length_map]; omega) rfl (fun _ _ => by kernel_rfl)) <| pl_w (fun hst => v_load_sl1 (u := iv ((l.getD (k - 1) Blo.z).t)) (i := (k - 1)) (j := 1) (hst.arg hlv) (by rw [List.length_map]; omega) rfl (Try.isAgg3 _) (by rw [el_at Blo.z]; rfl)) <| pl_m rfl <| pl_m rfl ?_
   refine pl_w (fun hst => (v_indexAddr_sl (i := (k : Int)) (sT := 28) (hst.arg hlv) rfl rfl (Try.runUnderlying28 _) (Try.sizeOf77 _) (by omega) (by rw [List.length_map]; omega)).as (v' := slAddr lv (k * 3)) rfl) <| pl_w (fun hst => v_fieldAddr_sl (k := k * 3) (j := 0) (hst.arg hlv) (i := k) (by rw [List.length_map]; omega) rfl (fun _ _ => by kernel_rfl)) <| pl_w (fun hst => v_fieldAddr_sl (k := k * 3 + 0) (j := 0) (hst.arg hlv) (i := k) (by rw [List.length_map]; omega) rfl (fun _ _ => by kernel_rfl)) <| pl_w (fun hst => v_load_sl1 (u := iv ((l.getD k Blo.z).f)) (i := k) (j := 0) (hst.arg hlv) (by rw [List.length_map]; omega) rfl (Try.isAgg3 _) (by rw [el_at Blo.z]; rfl)) ?_
   clear hfr hst
   intro a w6 hfr hst
   replace hfr : Fr 77 [(0, _), (3, _), (31, _), (46, _), (53, _), (59, _)] [] a := hfr.pick [0, 3, 31, 46, 53, 59]
   refine wl_nil ?_
   refine wd_lin (k := 31) 33 [32] ?_
   refine wly hfr (v_eq rfl rfl) fun a hfr => wly hfr (v_move rfl) fun a hfr => ?_
   refine wl_nil ?_
   rcases Decidable.em ((l.getD (k - 1) Blo.z).t = (l.getD k Blo.z).f) with hb7 | hb7
   ·rw [decide_eq_true hb7] at hfr
    refine wd_sub (k := 33) 44 [38, 43] hfr ?_
    replace hfr : Fr 77 [(0, _), (3, _), (31, _), (46, _), (53, _), (59, _), (60, _), (61, _)] [] a := hfr.pick [0, 3, 31, 46, 53, 59, 60, 61]
    refine dr_pl 11 hfr hst <| pl_m rfl <| pl_m rfl <| pl_v (v_sub rfl rfl ⟨by omega, by omega⟩) <| pl_w (fun hst => (v_indexAddr_sl (i := (k : Int) - 1) (sT := 28) (hst.arg hlv) rfl rfl (Try.runUnderlying28 _) (Try.sizeOf77 _) (by omega) (by rw [List.length_map]; omega)).as (v' := slAddr lv ((k - 1) * 3)) (by rw [show ((k : Int) - 1).toNat = (k - 1) from by omega])) <| pl_w (fun hst => v_fieldAddr_sl (k := (k - 1) * 3) (j := 2) (hst.arg hlv) (i := (k - 1)) (by rw [List.length_map]; omega) rfl (fun _ _ => by kernel_rfl)) <| pl_w (fun hst => v_load_sl1 (u := iv ((l.getD (k - 1) Blo.z).c)) (i := (k - 1)) (j := 2) (hst.arg hlv) (by rw [List.length_map]; omega) rfl (Try.isAgg3 _) (by rw [el_at Blo.z]; rfl)) <| pl_m rfl <| pl_m rfl ?_
    refine pl_w (fun hst => (v_indexAddr_sl (i := (k : Int)) (sT := 28) (hst.arg hlv) rfl rfl (Try.runUnderlying28 _) (Try.sizeOf77 _) (by omega) (by rw [List.length_map]; omega)).as (v' := slAddr lv (k * 3)) rfl) <| pl_w (fun hst => v_fieldAddr_sl (k := k * 3) (j := 2) (hst.arg hlv) (i := k) (by rw [List.length_map]; omega) rfl (fun _ _ => by kernel_rfl)) <| pl_w (fun hst => v_load_sl1 (u := iv ((l.getD k Blo.z).c)) (i := k) (j := 2) (hst.arg hlv) (by rw [List.length_map]; omega) rfl (Try.isAgg3 _) (by rw [el_at Blo.z]; rfl)) ?_
    clear hfr hst
    intro a w7 hfr hst
    replace hfr : Fr 77 [(0, _), (3, _), (31, _), (46, _), (61, _), (67, _), (72, _)] [] a := hfr.pick [0, 3, 31, 46, 61, 67, 72]
    refine wl_nil ?_
    refine wd_lin (k := 44) 48 [47] ?_
    refine wly hfr (v_eq rfl rfl) fun a hfr => wly hfr (v_pick_t rfl rfl) fun a hfr => wly hfr (v_pick_f rfl rfl) fun a hfr => ?_
    refine wlv hfr (v_pick_t rfl rfl) fun a hfr => ?_
    refine wl_nil ?_
    refine wd_end ?_
    refine hK14 _ _ ?_
    replace hfr : Fr 77 [(0, _), (3, _), (76, _)] [] a := hfr.pick [0, 3, 76]
    refine wc_cond_d hfr rfl (fun hc8 => ?_) (fun hc8 => ?_)
    ·have hb9 : badB (prevB ⟨0, 0, -1⟩ l k) (l.getD k Blo.z) = true := bad_at fun h => by have h9 := (badB_iff.1 h).2.2.2; rw [hq] at h9; exact h9 ⟨by omega, by omega⟩
     refine wc_seq_region fun K16 hK16 => ?_
     refine wla hfr rfl fun a hfr => ?_
     refine wl_nil (hK16 _ _ ?_)
     refine wc_ret ?_
     refine fin_ret hfr Try.results41 (resAre_tmp rfl resAre_nil) ?_
     refine ⟨?_, hst.ext⟩
     simp only [retv]
     refine congrArg Value.bool ?_
     unfold mapOk
     rw [hs, okd_no hkx hb9]; rfl
    refine wc_skip ?_
    refine hK9 _ _ ?_
    refine wc_region ?_
    refine wlm hfr rfl fun a hfr => ?_
    refine wlv hfr (v_add rfl rfl ⟨by omega, by omega⟩) fun a hfr => wla hfr rfl fun a hfr => ?_
    refine wl_nil ?_
    refine ⟨_, ?_, k + 1, rfl, (by omega), (by rw [hs]; exact okd_go hkx (badB_iff.2 ⟨hr9, hc9, by rw [hq]; first | omega | (simp only; omega), by rw [hq]; first | omega | (simp only; omega)⟩)), hfr.pick [0, 3], hst.select [] (by decide)⟩
    omega
   rw [decide_eq_false hb7] at hfr
   replace hfr : Fr 77 [(0, lv), (3, iv (k : Int)), (31, .bool true), (46, .bool false), (53, iv ((l.getD (k - 1) Blo.z).t)), (59, iv ((l.getD k Blo.z).f)), (60, .bool false), (61, .bool false)] [] a := hfr.pick [0, 3, 31, 46, 53, 59, 60, 61]
   refine wd_skip (k := 33) 44 [38, 43] hfr fun a hfr => ?_
   replace hfr : Fr 77 [(62, undef), (63, undef), (64, undef), (65, undef), (66, undef), (67, undef), (68, undef), (69, undef), (70, undef), (71, undef), (72, undef), (0, lv), (3, iv (k : Int)), (31, .bool true), (46, .bool false), (53, iv ((l.getD (k - 1) Blo.z).t)), (59, iv ((l.getD k Blo.z).f)), (60, .bool false), (61, .bool false)] [] a := hfr
   refine wd_lin (k := 44) 48 [47] ?_
   refine wln hfr fun a hfr => wly hfr (v_pick_f rfl rfl) fun a hfr => wly hfr (v_pick_f rfl rfl) fun a hfr => ?_
   refine wlv hfr (v_pick_t rfl rfl) fun a hfr => ?_
   refine wl_nil ?_
   refine wd_end ?_
   refine hK14 _ _ ?_
   replace hfr : Fr 77 [(0, _), (3, _), (76, _)] [] a := hfr.pick [0, 3, 76]
   refine wc_cond_f hfr rfl ?_
   refine wc_skip ?_
   refine hK9 _ _ ?_
   refine wc_region ?_
   refine wlm hfr rfl fun a hfr => ?_
   refine wlv hfr (v_add rfl rfl ⟨by omega, by omega⟩) fun a hfr => wla hfr rfl fun a hfr => ?_
   refine wl_nil ?_
   refine ⟨_, ?_, k + 1, rfl, (by omega), (by rw [hs]; exact okd_go hkx (badB_iff.2 ⟨hr9, hc9, by rw [hq]; first | omega | (simp only; omega), by rw [hq]; first | omega | (simp only; omega)⟩)), hfr.pick [0, 3], hst.select [] (by decide)⟩
   omega
  rw [decide_eq_false hb5] at hfr
  have hq : (prevB ⟨0, 0, -1⟩ l k) = ⟨0, 0, -1⟩ := by rw [show k = 0 by omega]; rfl
  replace hfr : Fr 77 [(0, lv), (3, iv (k : Int)), (29, iv (k : Int)), (30, .bool false), (31, .bool false)] [] a := hfr.pick [0, 3, 29, 30, 31]
  refine wd_skip (k := 3) 16 [9, 15] hfr fun a hfr => ?_
  replace hfr : Fr 77 [(32, undef), (33, undef), (34, undef), (35, undef), (36, undef), (37, undef), (38, undef), (39, undef), (40, undef), (41, undef), (42, undef), (43, undef), (44, undef), (0, lv), (3, iv (k : Int)), (29, iv (k : Int)), (30, .bool false), (31, .bool false)] [] a := hfr
  refine wd_lin (k := 16) 18 [17] ?_
  refine wln hfr fun a hfr => ?_
  refine wln hfr fun a hfr => ?_
  refine wl_nil ?_
  replace hfr : Fr 77 [(32, undef), (33, undef), (34, undef), (35, undef), (36, undef), (37, undef), (38, undef), (39, undef), (40, undef), (41, undef), (42, undef), (43, undef), (44, undef), (0, lv), (3, iv (k : Int)), (29, iv (k : Int)), (30, .bool false), (31, .bool false), (45, undef), (46, undef)] [] a := hfr.pick [32, 33, 34, 35, 36, 37, 38, 39, 40, 41, 42, 43, 44, 0, 3, 29, 30, 31, 45, 46]
  refine wd_skip (k := 18) 31 [24, 30] hfr fun a hfr => ?_
  replace hfr : Fr 77 [(47, undef), (48, undef), (49, undef), (50, undef), (51, undef), (52, undef), (53, undef), (54, undef), (55, undef), (56, undef), (57, undef), (58, undef), (59, undef), (32, undef), (33, undef), (34, undef), (35, undef), (36, undef), (37, undef), (38, undef), (39, undef), (40, undef), (41, undef), (42, undef), (43, undef), (44, undef), (0, lv), (3, iv (k : Int)), (29, iv (k : Int)), (30, .bool false), (31, .bool false), (45, undef), (46, undef)] [] a := hfr
  refine wd_lin (k := 31) 33 [32] ?_
  refine wl_vu hfr fun a hfr => ?_
  refine wl_vu hfr fun a hfr => ?_
  refine wl_nil ?_
  replace hfr : Fr 77 [(47, undef), (48, undef), (49, undef), (50, undef), (51, undef), (52, undef), (53, undef), (54, undef), (55, undef), (56, undef), (57, undef), (58, undef), (59, undef), (32, undef), (33, undef), (34, undef), (35, undef), (36, undef), (37, undef), (38, undef), (39, undef), (40, undef), (41, undef), (42, undef), (43, undef), (44, undef), (0, lv), (3, iv (k : Int)), (29, iv (k : Int)), (30, .bool false), (31, .bool false), (45, undef), (46, undef), (60, undef), (61, undef)] [] a := hfr.pick [47, 48, 49, 50, 51, 52, 53, 54, 55, 56, 57, 58, 59, 32, 33, 34, 35, 36, 37, 38, 39, 40, 41, 42, 43, 44, 0, 3, 29, 30, 31, 45, 46, 60, 61]
  refine wd_skip (k := 33) 44 [38, 43] hfr fun a hfr => ?_
  replace hfr : Fr 77 [(62, undef), (63, undef), (64, undef), (65, undef), (66, undef), (67, undef), (68, undef), (69, undef), (70, undef), (71, undef), (72, undef), (47, undef), (48, undef), (49, undef), (50, undef), (51, undef), (52, undef), (53, undef), (54, undef), (55, undef), (56, undef), (57, undef), (58, undef), (59, undef), (32, undef), (33, undef), (34, undef), (35, undef), (36, undef), (37, undef), (38, undef), (39, undef), (40, undef), (41, undef), (42, undef), (43, undef), (44, undef), (0, lv), (3, iv (k : Int)), (29, iv (k : Int)), (30, .bool false), (31, .bool false), (45, undef), (46, undef), (60, undef), (61, undef)] [] a := hfr
  refine wd_lin (k := 44) 48 [47] ?_
  refine wl_vu hfr fun a hfr => ?_
  refine wl_vu hfr fun a hfr => ?_
  refine wln hfr fun a hfr => ?_
  refine wlv hfr (v_pick_f rfl rfl) fun a hfr => ?_
  refine wl_nil ?_
  refine wd_end ?_
  refine hK14 _ _ ?_
  replace hfr : Fr 77 [(0, _), (3, _), (76, _)] [] a := hfr.pick [0, 3, 76]
  refine wc_cond_f hfr rfl ?_
  refine wc_skip ?_
  refine hK9 _ _ ?_
  refine wc_region ?_
  refine wlm hfr rfl fun a hfr => ?_
  refine wlv hfr (v_add rfl rfl ⟨by omega, by omega⟩) fun a hfr => wla hfr rfl fun a hfr => ?_
  refine wl_nil ?_
  refine ⟨_, ?_, k + 1, rfl, (by omega), (by rw [hs]; exact okd_go hkx (badB_iff.2 ⟨hr9, hc9, by rw [hq]; first | omega | (simp only; omega), by rw [hq]; first | omega | (simp only; omega)⟩)), hfr.pick [0, 3], hst.select [] (by decide)⟩
  omega
 have hall : okF 0 (-1) l = true := by rw [hs, show k = l.length by omega, List.drop_length]; rfl
 refine wc_exit ?_
 refine hK5 _ _ ?_
 refine wc_seq_region fun K17 hK17 => ?_
 refine wla hfr rfl fun a hfr => ?_
 refine wl_nil (hK17 _ _ ?_)
 replace hfr : Fr 77 [(2, _)] [] a := hfr.pick [2]
 refine wc_ret ?_
 refine fin_ret hfr Try.results41 (resAre_tmp rfl resAre_nil) ?_
 refine ⟨?_, hst.ext⟩
 simp only [retv]
 refine congrArg Value.bool ?_
 unfold mapOk
 rw [hall, decide_eq_true (by omega)]; rfl
theorem holder_ok (lv : Value) (l : List Blo) (n : Int) (w0 : World) (hlv : SlAt w0 lv 3 (l.map Blo.cells)) :
  Ret Try.prog 67 #[lv, iv n] w0 fun v w => v = iv (hold l n) ∧ Ext No w0 w := by
 have hxb := hlv.2.1
 simp only [List.length_map, big] at hxb
 refine ret_of Try.func67 rfl Try.ntmps67 (lb rfl) fun a hfr => ?_
 replace hfr : Fr 35 [(0, _), (1, _)] [] a := hfr
 replace hst : St No w0 [] w0 := St.init w0
 refine wc_seq_region fun K1 hK1 => ?_
 refine wla hfr rfl fun a hfr => ?_
 refine wl_nil (hK1 _ _ ?_)
 refine wc_seq_k fun K2 hK2 => ?_
 refine wc_seq_region fun K3 hK3 => ?_
 refine wla hfr rfl fun a hfr => ?_
 refine wl_nil (hK3 _ _ ?_)
 refine wc_block ?_
 refine wc_loop (fun m a w => ∃ (k : Nat), m = l.length - k ∧ (k ≤ l.length) ∧ (hold l n = hold (l.drop k) n) ∧ Fr 35 [(0, lv), (1, iv n), (5, iv (k : Int))] [] a ∧ St No w0 [] w) _ ⟨0, rfl, Nat.zero_le _, rfl, hfr.pick [0, 1, 5], hst.select [] (by decide)⟩ ?_
 rintro _ a w1 ⟨k, rfl, hk, hs, hfr, hst⟩
 refine wc_seq_k fun K4 hK4 => ?_
 refine wc_seq_region fun K5 hK5 => ?_
 refine wlm hfr rfl fun a hfr => wlm hfr rfl fun a hfr => ?_
 refine wlv hfr ((v_len_sl (sT := 28) (hst.arg hlv) rfl rfl (Try.runUnderlying28 _)).asi (m' := (l.length : Int)) (by rw [List.length_map])) fun a hfr => ?_
 refine wlv hfr (v_lt rfl rfl) fun a hfr => ?_
 refine wl_nil (hK5 _ _ ?_)
 refine wc_cond_d hfr rfl (fun hc1 => ?_) (fun hc1 => ?_)
 ·have hkx : k < l.length := by omega
  refine wc_skip ?_
  refine hK4 _ _ ?_
  refine wc_seq_k fun K6 hK6 => ?_
  refine wc_block ?_
  refine wc_seq_region fun K7 hK7 => ?_
  refine wlm hfr rfl fun a hfr => wlm hfr rfl fun a hfr => ?_
  refine wlv hfr ((v_indexAddr_sl (i := (k : Int)) (sT := 28) (hst.arg hlv) rfl rfl (Try.runUnderlying28 _) (Try.sizeOf77 _) (by omega) (by rw [List.length_map]; omega)).as (v' := slAddr lv (k * 3)) rfl) fun a hfr => ?_
  refine wlv hfr (v_fieldAddr_sl (k := k * 3) (j := 0) (hst.arg hlv) (i := k) (by rw [List.length_map]; omega) rfl (fun _ _ => by kernel_rfl)) fun a hfr => ?_
  refine wlv hfr (v_fieldAddr_sl (k := k * 3 + 0) (j := 0) (hst.arg hlv) (i := k) (by rw [List.length_map]; omega) rfl (fun _ _ => by kernel_rfl)) fun a hfr => ?_
  refine wlv hfr (v_load_sl1 (u := iv ((l.getD k Blo.z).f)) (i := k) (j := 0) (hst.arg hlv) (by rw [List.length_map]; omega) rfl (Try.isAgg3 _) (by rw [el_at Blo.z]; rfl)) fun a hfr => wlm hfr rfl fun a hfr => ?_
  refine wlv hfr (v_le rfl rfl) fun a hfr => wlm hfr rfl fun a hfr => ?_
  rcases Decidable.em ((l.getD k Blo.z).f ≤ n) with hb2 | hb2
  ·rw [decide_eq_true hb2] at hfr
   refine wly hfr (v_move rfl) fun a hfr => wly hfr (v_move rfl) fun a hfr => wly hfr (v_move rfl) fun a hfr => wly hfr ((v_indexAddr_sl (i := (k : Int)) (sT := 28) (hst.arg hlv) rfl rfl (Try.runUnderlying28 _) (Try.sizeOf77 _) (by omega) (by rw [List.length_map]; omega)).as (v' := slAddr lv (k * 3)) rfl) fun a hfr => wly hfr (v_fieldAddr_sl (k := k * 3) (j := 0) (hst.arg hlv) (i := k) (by rw [List.length_map]; omega) rfl (fun _ _ => by kernel_rfl)) fun a hfr => wly hfr (v_fieldAddr_sl (k := k * 3 + 0) (j := 1) (hst.arg hlv) (i := k) (by rw [List.length_map]; omega) rfl (fun _ _ => by kernel_rfl)) fun a hfr => wly hfr (v_load_sl1 (u := iv ((l.getD k Blo.z).t)) (i := k) (j := 1) (hst.arg hlv) (by rw [List.length_map]; omega) rfl (Try.isAgg3 _) (by rw [el_at Blo.z]; rfl)) fun a hfr => wly hfr (v_lt rfl rfl) fun a hfr => ?_
   refine wlv hfr (v_pick_t rfl rfl) fun a hfr => ?_
   refine wl_nil (hK7 _ _ ?_)
   replace hfr : Fr 35 [(0, _), (1, _), (5, _), (29, _)] [] a := hfr.pick [0, 1, 5, 29]
   refine wc_cond_d hfr rfl (fun hc3 => ?_) (fun hc3 => ?_)
   ·refine wc_seq_region fun K8 hK8 => ?_
    refine wlm hfr rfl fun a hfr => wlm hfr rfl fun a hfr => ?_
    refine wlv hfr ((v_indexAddr_sl (i := (k : Int)) (sT := 28) (hst.arg hlv) rfl rfl (Try.runUnderlying28 _) (Try.sizeOf77 _) (by omega) (by rw [List.length_map]; omega)).as (v' := slAddr lv (k * 3)) rfl) fun a hfr => ?_
    refine wlv hfr (v_fieldAddr_sl (k := k * 3) (j := 2) (hst.arg hlv) (i := k) (by rw [List.length_map]; omega) rfl (fun _ _ => by kernel_rfl)) fun a hfr => ?_
    refine wlv hfr (v_load_sl1 (u := iv ((l.getD k Blo.z).c)) (i := k) (j := 2) (hst.arg hlv) (by rw [List.length_map]; omega) rfl (Try.isAgg3 _) (by rw [el_at Blo.z]; rfl)) fun a hfr => wla hfr rfl fun a hfr => ?_
    refine wl_nil (hK8 _ _ ?_)
    replace hfr : Fr 35 [(0, _), (1, _), (5, _), (4, _)] [] a := hfr.pick [0, 1, 5, 4]
    refine wc_ret ?_
    refine fin_ret hfr Try.results67 (resAre_tmp rfl resAre_nil) ?_
    exact ⟨by simp only [retv]; refine congrArg (Value.int .i64) ?_; rw [hs, hold_at hkx, if_pos (by omega)], hst.ext⟩
   refine wc_skip ?_
   refine hK6 _ _ ?_
   refine wc_region ?_
   refine wlm hfr rfl fun a hfr => ?_
   refine wlv hfr (v_add rfl rfl ⟨by omega, by omega⟩) fun a hfr => wla hfr rfl fun a hfr => ?_
   refine wl_nil ?_
   refine ⟨_, ?_, k + 1, rfl, (by omega), (by rw [hs, hold_at hkx, if_neg (by omega)]), hfr.pick [0, 1, 5], hst.select [] (by decide)⟩
   omega
  rw [decide_eq_false hb2] at hfr
  refine wln hfr fun a hfr => ?_
  refine wln hfr fun a hfr => ?_
  refine wln hfr fun a hfr => ?_
  refine wln hfr fun a hfr => ?_
  refine wln hfr fun a hfr => ?_
  refine wln hfr fun a hfr => ?_
  refine wln hfr fun a hfr => ?_
  refine wln hfr fun a hfr => ?_
  refine wlv hfr (v_pick_f rfl rfl) fun a hfr => ?_
  refine wl_nil (hK7 _ _ ?_)
  replace hfr : Fr 35 [(0, _), (1, _), (5, _), (29, _)] [] a := hfr.pick [0, 1, 5, 29]
  refine wc_cond_f hfr rfl ?_
  refine wc_skip ?_
  refine hK6 _ _ ?_
  refine wc_region ?_
  refine wlm hfr rfl fun a hfr => ?_
  refine wlv hfr (v_add rfl rfl ⟨by omega, by omega⟩) fun a hfr => wla hfr rfl fun a hfr => ?_
  refine wl_nil ?_
  refine ⟨_, ?_, k + 1, rfl, (by omega), (by rw [hs, hold_at hkx, if_neg (by omega)]), hfr.pick [0, 1, 5], hst.select [] (by decide)⟩
  omega
 have hall : hold l n = -1 := by rw [hs, show k = l.length by omega, List.drop_length]; rfl
 refine wc_exit ?_
 refine hK2 _ _ ?_
 refine wc_seq_region fun K9 hK9 => ?_
 refine wla hfr rfl fun a hfr => ?_
 refine wl_nil (hK9 _ _ ?_)
 replace hfr : Fr 35 [(4, _)] [] a := hfr.pick [4]
 refine wc_ret ?_
 refine fin_ret hfr Try.results67 (resAre_tmp rfl resAre_nil) ?_
 exact ⟨by simp only [retv]; refine congrArg (Value.int .i64) ?_; exact hall.symm, hst.ext⟩
theorem ins_ne {ns : List Int} {n : Int} {k : Nat} (hk : k ≤ ns.length) : ¬ ns = ns.take k ++ n :: ns.drop k := fun e => by
 have := congrArg List.length e
 rw [List.length_append, List.length_cons, List.length_take, List.length_drop] at this
 omega
theorem put_yes (lv : Value) (ns : List Int) (n : Int) (w0 : World) (hlv : SlAt w0 lv 1 (ns.map fun n => [iv n])) (hnl : 0 < ns.length) (hnb : ns.length ≤ 1000) (hm : insL ns n = ns) :
  Ret Try.prog 78 #[lv, iv n] w0 fun v w => v = lv ∧ Ext No w0 w := by
 refine ret_of Try.func78 rfl Try.ntmps78 (lb rfl) fun a hfr => ?_
 replace hfr : Fr 44 [(0, _), (1, _)] [] a := hfr
 replace hst : St No w0 [] w0 := St.init w0
 refine wc_seq_region fun K1 hK1 => ?_
 refine wla hfr rfl fun a hfr => ?_
 refine wl_nil (hK1 _ _ ?_)
 refine wc_seq_region fun K2 hK2 => ?_
 refine wla hfr rfl fun a hfr => ?_
 refine wl_nil (hK2 _ _ ?_)
 refine wc_seq_k fun K3 hK3 => ?_
 refine wc_block ?_
 refine wc_loop (fun m a w => ∃ (k : Nat), m = ns.length - k ∧ (k ≤ ns.length) ∧ (∀ j, j < k → ns.getD j 0 < n) ∧ Fr 44 [(0, lv), (1, iv n), (4, .slice none 0 0), (5, iv (k : Int))] [] a ∧ St No w0 [] w) _ ⟨0, rfl, Nat.zero_le _, (by intro j hj; omega), hfr.pick [0, 1, 4, 5], hst.select [] (by decide)⟩ ?_
 rintro _ a w1 ⟨k, rfl, hk, hlt, hfr, hst⟩
 refine wc_seq_k fun K4 hK4 => ?_
 refine wc_seq_region fun K5 hK5 => ?_
 refine wlm hfr rfl fun a hfr => wlm hfr rfl fun a hfr => ?_
 refine wlv hfr ((v_len_sl (sT := 50) (hst.arg hlv) rfl rfl (Try.runUnderlying50 _)).asi (m' := (ns.length : Int)) (by rw [List.length_map])) fun a hfr => ?_
 refine wlv hfr (v_lt rfl rfl) fun a hfr => wlm hfr rfl fun a hfr => ?_
 rcases Decidable.em ((k : Int) < (ns.length : Int)) with hb1 | hb1
 ·rw [decide_eq_true hb1] at hfr
  have hkx : k < ns.length := by omega
  refine wly hfr (v_move rfl) fun a hfr => wly hfr (v_move rfl) fun a hfr => wly hfr ((v_indexAddr_sl (i := (k : Int)) (sT := 50) (hst.arg hlv) rfl rfl (Try.runUnderlying50 _) (Try.sizeOf3 _) (by omega) (by rw [List.length_map]; omega)).as (v' := slAddr lv (k * 1)) rfl) fun a hfr => wly hfr (v_load_sl1 (u := iv (ns.getD k 0)) (i := k) (j := 0) (hst.arg hlv) (by rw [List.length_map]; omega) rfl (Try.isAgg3 _) (by rw [el_at (0 : Int)]; rfl)) fun a hfr => wly hfr (v_move rfl) fun a hfr => wly hfr (v_lt rfl rfl) fun a hfr => ?_
  refine wlv hfr (v_pick_t rfl rfl) fun a hfr => ?_
  refine wl_nil (hK5 _ _ ?_)
  replace hfr : Fr 44 [(0, _), (1, _), (4, _), (5, _), (17, _)] [] a := hfr.pick [0, 1, 4, 5, 17]
  refine wc_cond_d hfr rfl (fun hc2 => ?_) (fun hc2 => ?_)
  ·refine wc_skip ?_
   refine hK4 _ _ ?_
   refine wc_block ?_
   refine wc_region ?_
   refine wlm hfr rfl fun a hfr => ?_
   refine wlv hfr (v_add rfl rfl ⟨by omega, by omega⟩) fun a hfr => wla hfr rfl fun a hfr => ?_
   refine wl_nil ?_
   refine ⟨_, ?_, k + 1, rfl, (by omega), (by intro j hj; by_cases e : j = k; (subst e; assumption); exact hlt j (by omega)), hfr.pick [0, 1, 4, 5], hst.select [] (by decide)⟩
   omega
  refine wc_exit ?_
  refine hK3 _ _ ?_
  refine wc_seq_k fun K6 hK6 => ?_
  refine wc_seq_region fun K7 hK7 => ?_
  refine wlm hfr rfl fun a hfr => wlm hfr rfl fun a hfr => ?_
  refine wlv hfr ((v_len_sl (sT := 50) (hst.arg hlv) rfl rfl (Try.runUnderlying50 _)).asi (m' := (ns.length : Int)) (by rw [List.length_map])) fun a hfr => ?_
  refine wlv hfr (v_lt rfl rfl) fun a hfr => wlm hfr rfl fun a hfr => ?_
  rcases Decidable.em ((k : Int) < (ns.length : Int)) with hb3 | hb3
  ·rw [decide_eq_true hb3] at hfr
   have hkx : k < ns.length := by omega
   refine wly hfr (v_move rfl) fun a hfr => wly hfr (v_move rfl) fun a hfr => wly hfr ((v_indexAddr_sl (i := (k : Int)) (sT := 50) (hst.arg hlv) rfl rfl (Try.runUnderlying50 _) (Try.sizeOf3 _) (by omega) (by rw [List.length_map]; omega)).as (v' := slAddr lv (k * 1)) rfl) fun a hfr => wly hfr (v_load_sl1 (u := iv (ns.getD k 0)) (i := k) (j := 0) (hst.arg hlv) (by rw [List.length_map]; omega) rfl (Try.isAgg3 _) (by rw [el_at (0 : Int)]; rfl)) fun a hfr => wly hfr (v_move rfl) fun a hfr => wly hfr (v_eq rfl rfl) fun a hfr => ?_
   refine wlv hfr (v_pick_t rfl rfl) fun a hfr => ?_
   refine wl_nil (hK7 _ _ ?_)
   replace hfr : Fr 44 [(0, _), (1, _), (4, _), (5, _), (31, _)] [] a := hfr.pick [0, 1, 4, 5, 31]
   refine wc_cond_d hfr rfl (fun hc4 => ?_) (fun hc4 => ?_)
   ·refine wc_seq_region fun K8 hK8 => ?_
    refine wlm hfr rfl fun a hfr => wla hfr rfl fun a hfr => ?_
    refine wl_nil (hK8 _ _ ?_)
    refine wc_ret ?_
    refine fin_ret hfr Try.results78 (resAre_tmp rfl resAre_nil) ?_
    exact ⟨rfl, hst.ext⟩
   exact absurd (insL_no hk hlt (by omega) (by omega)) (by rw [hm]; exact ins_ne hk)
  rw [decide_eq_false hb3] at hfr
  exact absurd (insL_no hk hlt (by omega) (by omega)) (by rw [hm]; exact ins_ne hk)
 rw [decide_eq_false hb1] at hfr
 exact absurd (insL_no hk hlt (by omega) (by omega)) (by rw [hm]; exact ins_ne hk)
set_option maxHeartbeats 4000000 in
theorem put_no (lv : Value) (ns : List Int) (n : Int) (w0 : World) (hlv : SlAt w0 lv 1 (ns.map fun n => [iv n])) (hnl : 0 < ns.length) (hnb : ns.length ≤ 1000) (hm : ¬ insL ns n = ns) :
  Ret Try.prog 78 #[lv, iv n] w0 (MemR w0 (fun v : Value => v) (fun v => [own v 3 1 ((insL ns n).map fun n => [iv n])]) (fun _ => True)) := by
 refine ret_of Try.func78 rfl Try.ntmps78 (lb rfl) fun a hfr => ?_
 replace hfr : Fr 44 [(0, _), (1, _)] [] a := hfr
 replace hst : St No w0 [] w0 := St.init w0
 refine wc_seq_region fun K1 hK1 => ?_
 refine wla hfr rfl fun a hfr => ?_
 refine wl_nil (hK1 _ _ ?_)
 refine wc_seq_region fun K2 hK2 => ?_
 refine wla hfr rfl fun a hfr => ?_
 refine wl_nil (hK2 _ _ ?_)
 refine wc_seq_k fun K3 hK3 => ?_
 refine wc_block ?_
 refine wc_loop (fun m a w => ∃ (k : Nat), m = ns.length - k ∧ (k ≤ ns.length) ∧ (∀ j, j < k → ns.getD j 0 < n) ∧ Fr 44 [(0, lv), (1, iv n), (4, .slice none 0 0), (5, iv (k : Int))] [] a ∧ St No w0 [] w) _ ⟨0, rfl, Nat.zero_le _, (by intro j hj; omega), hfr.pick [0, 1, 4, 5], hst.select [] (by decide)⟩ ?_
 rintro _ a w1 ⟨k, rfl, hk, hlt, hfr, hst⟩
 refine wc_seq_k fun K4 hK4 => ?_
 refine wc_seq_region fun K5 hK5 => ?_
 refine wlm hfr rfl fun a hfr => wlm hfr rfl fun a hfr => ?_
 refine wlv hfr ((v_len_sl (sT := 50) (hst.arg hlv) rfl rfl (Try.runUnderlying50 _)).asi (m' := (ns.length : Int)) (by rw [List.length_map])) fun a hfr => ?_
 refine wlv hfr (v_lt rfl rfl) fun a hfr => wlm hfr rfl fun a hfr => ?_
 rcases Decidable.em ((k : Int) < (ns.length : Int)) with hb1 | hb1
 ·rw [decide_eq_true hb1] at hfr
  have hkx : k < ns.length := by omega
  refine wly hfr (v_move rfl) fun a hfr => wly hfr (v_move rfl) fun a hfr => wly hfr ((v_indexAddr_sl (i := (k : Int)) (sT := 50) (hst.arg hlv) rfl rfl (Try.runUnderlying50 _) (Try.sizeOf3 _) (by omega) (by rw [List.length_map]; omega)).as (v' := slAddr lv (k * 1)) rfl) fun a hfr => wly hfr (v_load_sl1 (u := iv (ns.getD k 0)) (i := k) (j := 0) (hst.arg hlv) (by rw [List.length_map]; omega) rfl (Try.isAgg3 _) (by rw [el_at (0 : Int)]; rfl)) fun a hfr => wly hfr (v_move rfl) fun a hfr => wly hfr (v_lt rfl rfl) fun a hfr => ?_
  refine wlv hfr (v_pick_t rfl rfl) fun a hfr => ?_
  refine wl_nil (hK5 _ _ ?_)
  replace hfr : Fr 44 [(0, _), (1, _), (4, _), (5, _), (17, _)] [] a := hfr.pick [0, 1, 4, 5, 17]
  refine wc_cond_d hfr rfl (fun hc2 => ?_) (fun hc2 => ?_)
  ·refine wc_skip ?_
   refine hK4 _ _ ?_
   refine wc_block ?_
   refine wc_region ?_
   refine wlm hfr rfl fun a hfr => ?_
   refine wlv hfr (v_add rfl rfl ⟨by omega, by omega⟩) fun a hfr => wla hfr rfl fun a hfr => ?_
   refine wl_nil ?_
   refine ⟨_, ?_, k + 1, rfl, (by omega), (by intro j hj; by_cases e : j = k; (subst e; assumption); exact hlt j (by omega)), hfr.pick [0, 1, 4, 5], hst.select [] (by decide)⟩
   omega
  refine wc_exit ?_
  refine hK3 _ _ ?_
  refine wc_seq_k fun K6 hK6 => ?_
  refine wc_seq_region fun K7 hK7 => ?_
  refine wlm hfr rfl fun a hfr => wlm hfr rfl fun a hfr => ?_
  refine wlv hfr ((v_len_sl (sT := 50) (hst.arg hlv) rfl rfl (Try.runUnderlying50 _)).asi (m' := (ns.length : Int)) (by rw [List.length_map])) fun a hfr => ?_
  refine wlv hfr (v_lt rfl rfl) fun a hfr => wlm hfr rfl fun a hfr => ?_
  rcases Decidable.em ((k : Int) < (ns.length : Int)) with hb3 | hb3
  ·rw [decide_eq_true hb3] at hfr
   have hkx : k < ns.length := by omega
   refine wly hfr (v_move rfl) fun a hfr => wly hfr (v_move rfl) fun a hfr => wly hfr ((v_indexAddr_sl (i := (k : Int)) (sT := 50) (hst.arg hlv) rfl rfl (Try.runUnderlying50 _) (Try.sizeOf3 _) (by omega) (by rw [List.length_map]; omega)).as (v' := slAddr lv (k * 1)) rfl) fun a hfr => wly hfr (v_load_sl1 (u := iv (ns.getD k 0)) (i := k) (j := 0) (hst.arg hlv) (by rw [List.length_map]; omega) rfl (Try.isAgg3 _) (by rw [el_at (0 : Int)]; rfl)) fun a hfr => wly hfr (v_move rfl) fun a hfr => wly hfr (v_eq rfl rfl) fun a hfr => ?_
   refine wlv hfr (v_pick_t rfl rfl) fun a hfr => ?_
   refine wl_nil (hK7 _ _ ?_)
   replace hfr : Fr 44 [(0, _), (1, _), (4, _), (5, _), (31, _)] [] a := hfr.pick [0, 1, 4, 5, 31]
   refine wc_cond_d hfr rfl (fun hc4 => ?_) (fun hc4 => ?_)
   ·exact absurd (insL_yes hlt hkx hc4) hm
   refine wc_skip ?_
   refine hK6 _ _ ?_
   refine wc_seq_k fun K8 hK8 => ?_
   refine wc_of_dr ?_
   replace hfr : Fr 44 [(0, _), (1, _), (5, _)] [] a := hfr.pick [0, 1, 5]
   refine wc_phases_chain 5 9 10 (fun v => own v 3 1 ([[iv n]])) (fun v => own v 3 1 (([[iv n]]) ++ (((ns).drop k).map fun n => [iv n]))) (fun v => own v 3 1 (((ns).map fun n => [iv n]).take k ++ (([[iv n]]) ++ (((ns).drop k).map fun n => [iv n])))) 11 [[], [], [], [0, 1, 2], [], [4], [], [], [6, 7], [5, 8], [3, 9]] (fun i => match i with | 0 => pv (lv) | 1 => pv (iv (k : Int)) | 2 => pv (iv (k : Int)) | 3 => pv ((cut lv 1 0 k k)) | 4 => pv (iv n) | 5 => fun v E => E = [] | 6 => pv (lv) | 7 => pv (iv (k : Int)) | 8 => pv ((cut lv 1 k (ns).length (slCap lv))) | 9 => fun v E => E = [] | 10 => fun v E => E = [] | _ => fun _ _ => False) hfr hst (by kernel_rfl) (by kernel_rfl) (by kernel_rfl) (by decide) (by decide) (by decide) (by decide) ?_ ?_ ?_ ?_ ?_ ?_
   ·intro i v E h
    match i, h with
    | 0, _ => exact by decide
    | 1, _ => exact by decide
    | 2, _ => exact by decide
    | 3, _ => exact by decide
    | 4, _ => exact by decide
    | 5, _ => exact by decide
    | 6, _ => exact by decide
    | 7, _ => exact by decide
    | 8, _ => exact by decide
    | 9, _ => exact by decide
    | 10, _ => exact by decide
    | i + 11, h => exact h.elim
   ·intro i hi h0 h1 h2 e
    match i, hi, h0, h1, h2 with
    | 0, _, _, _, _ =>
     intro w hst
     exact OpV.g (v_move rfl)
    | 1, _, _, _, _ =>
     intro w hst
     exact OpV.g (v_move rfl)
    | 2, _, _, _, _ =>
     intro w hst
     exact OpV.g (v_move rfl)
    | 3, _, _, _, _ =>
     rintro _ _ ⟨rfl, rfl⟩ _ _ ⟨rfl, rfl⟩ _ _ ⟨rfl, rfl⟩
     intro w hst
     exact OpV.g (v_slice_k (h := k) (hst.arg hlv) rfl rfl rfl Try.underlying50 (by kernel_rfl) (by first | (rw [List.length_map]; omega) | (simp <;> omega)))
    | 4, _, _, _, _ =>
     intro w hst
     exact OpV.g (v_move rfl)
    | 5, _, h, _, _ => exact absurd rfl h
    | 6, _, _, _, _ =>
     intro w hst
     exact OpV.g (v_move rfl)
    | 7, _, _, _, _ =>
     intro w hst
     exact OpV.g (v_move rfl)
    | 8, _, _, _, _ =>
     rintro _ _ ⟨rfl, rfl⟩ _ _ ⟨rfl, rfl⟩
     intro w hst
     exact OpV.g (v_slice_at (l := k) (h := (ns).length) (hst.arg hlv) rfl rfl rfl Try.underlying50 (by kernel_rfl) (.inr rfl) (.inl ⟨rfl, by simp⟩) (by omega) (by simp))
    | 9, _, _, h, _ => exact absurd rfl h
    | 10, _, _, _, h => exact absurd rfl h
   ·rintro _ _ ⟨rfl, rfl⟩
    intro w hst
    exact OpR.to_own (f := fun b : Nat => .slice (some ⟨b, 0, none⟩) 1 1) (e := fun v => own v 3 1 ([[iv n]])) (g_buildSlice (E := 3) (sz := 1) rfl ([[iv n]]) (fun _ => by kernel_rfl) (by simp) rfl (by decide)) (fun v => rfl)
   ·rintro s5 _ rfl _ _ ⟨rfl, rfl⟩
    intro w hst
    replace hst : St No w0 (own s5 3 1 ([[iv n]]) :: _) w := hst
    exact (r_append_any (hst.get (k := 0) rfl) rfl rfl ((hst.arg hlv).cutd (l := k) (by first | omega | (rw [List.length_reverse]; omega) | simp | (simp; omega))) Try.underlying50 (inf := Try.t3) (z := iv 0) rfl rfl rfl rfl (by decide) (by intro e he u hu; obtain ⟨z, _, rfl⟩ := List.mem_map.1 he; rw [List.mem_singleton] at hu; subst hu; rfl) (by have hby : Try.t3.bytes = 8 := rfl; simp [big, hby]; omega) (by have hby : Try.t3.bytes = 8 := rfl; simp [big, hby]; omega)).mono fun v w' ⟨h1, h2, h3⟩ => ⟨h1, h2, h3, rfl⟩
   ·rintro _ _ ⟨rfl, rfl⟩ s7 _ rfl
    intro w hst
    replace hst : St No w0 (own s7 3 1 (([[iv n]]) ++ (((ns).drop k).map fun n => [iv n])) :: _) w := hst
    exact (r_append_arg (hst.get (k := 0) rfl) (by simp) (hst.arg hlv) (by rw [List.length_map]; omega) (by rw [List.length_map]; omega) rfl rfl Try.underlying50 (inf := Try.t3) (z := iv 0) rfl rfl rfl rfl (by decide) (by have hby : Try.t3.bytes = 8 := rfl; simp [big, hby]; omega) (by have hby : Try.t3.bytes = 8 := rfl; simp [big, hby]; omega)).mono fun v w' ⟨h1, h2, h3⟩ => ⟨h1, h2, h3, rfl⟩
   clear hfr hst
   rintro vq _ _ ⟨⟨rfl, rfl⟩, -⟩ _ _ ⟨⟨rfl, rfl⟩, -⟩ _ _ ⟨⟨rfl, rfl⟩, -⟩ _ _ ⟨⟨rfl, rfl⟩, -⟩ _ _ ⟨⟨rfl, rfl⟩, -⟩ s5 _ ⟨rfl, -⟩ _ _ ⟨⟨rfl, rfl⟩, -⟩ _ _ ⟨⟨rfl, rfl⟩, -⟩ _ _ ⟨⟨rfl, rfl⟩, -⟩ s7 _ ⟨rfl, -⟩ s8 _ ⟨rfl, hvq⟩ a w2 hfr hst
   obtain rfl := hvq rfl
   replace hfr : Fr 44 [(33, _), (34, _), (35, _), (36, _), (37, _), (38, _), (39, _), (40, _), (41, _), (42, _), (43, _), (0, _), (1, _), (5, _)] [] a := hfr
   replace hst : St No w0 [own s8 3 1 (((ns).map fun n => [iv n]).take k ++ (([[iv n]]) ++ (((ns).drop k).map fun n => [iv n])))] w2 := hst
   refine wla hfr rfl fun a hfr => ?_
   refine wl_nil ?_
   refine hK8 _ _ ?_
   replace hfr : Fr 44 [(4, _)] [] a := hfr.pick [4]
   refine wc_ret ?_
   refine fin_ret hfr Try.results78 (resAre_tmp rfl resAre_nil) ?_
   rw [show ((ns).map fun n => [iv n]).take k ++ (([[iv n]]) ++ (((ns).drop k).map fun n => [iv n])) = ((insL ns n).map fun n => [iv n]) from by rw [insL_no hk hlt (by omega) (by omega), List.map_append, List.map_cons, List.map_take]; simp] at hst
   exact ⟨_, rfl, trivial, hst.ext, St.out (E := [own _ 3 1 ((insL ns n).map fun n => [iv n])]) (H := []) (hst.select [0] (by decide))⟩
  rw [decide_eq_false hb3] at hfr
  refine wln hfr fun a hfr => ?_
  refine wln hfr fun a hfr => ?_
  refine wln hfr fun a hfr => ?_
  refine wln hfr fun a hfr => ?_
  refine wln hfr fun a hfr => ?_
  refine wln hfr fun a hfr => ?_
  refine wlv hfr (v_pick_f rfl rfl) fun a hfr => ?_
  refine wl_nil (hK7 _ _ ?_)
  replace hfr : Fr 44 [(0, _), (1, _), (4, _), (5, _), (31, _)] [] a := hfr.pick [0, 1, 4, 5, 31]
  refine wc_cond_f hfr rfl ?_
  refine wc_skip ?_
  refine hK6 _ _ ?_
  refine wc_seq_k fun K9 hK9 => ?_
  refine wc_of_dr ?_
  replace hfr : Fr 44 [(0, _), (1, _), (5, _), (31, _)] [] a := hfr.pick [0, 1, 5, 31]
  refine wc_phases_chain 5 9 10 (fun v => own v 3 1 ([[iv n]])) (fun v => own v 3 1 (([[iv n]]) ++ (((ns).drop k).map fun n => [iv n]))) (fun v => own v 3 1 (((ns).map fun n => [iv n]).take k ++ (([[iv n]]) ++ (((ns).drop k).map fun n => [iv n])))) 11 [[], [], [], [0, 1, 2], [], [4], [], [], [6, 7], [5, 8], [3, 9]] (fun i => match i with | 0 => pv (lv) | 1 => pv (iv (k : Int)) | 2 => pv (iv (k : Int)) | 3 => pv ((cut lv 1 0 k k)) | 4 => pv (iv n) | 5 => fun v E => E = [] | 6 => pv (lv) | 7 => pv (iv (k : Int)) | 8 => pv ((cut lv 1 k (ns).length (slCap lv))) | 9 => fun v E => E = [] | 10 => fun v E => E = [] | _ => fun _ _ => False) hfr hst (by kernel_rfl) (by kernel_rfl) (by kernel_rfl) (by decide) (by decide) (by decide) (by decide) ?_ ?_ ?_ ?_ ?_ ?_
  ·intro i v E h
   match i, h with
   | 0, _ => exact by decide
   | 1, _ => exact by decide
   | 2, _ => exact by decide
   | 3, _ => exact by decide
   | 4, _ => exact by decide
   | 5, _ => exact by decide
   | 6, _ => exact by decide
   | 7, _ => exact by decide
   | 8, _ => exact by decide
   | 9, _ => exact by decide
   | 10, _ => exact by decide
   | i + 11, h => exact h.elim
  ·intro i hi h0 h1 h2 e
   match i, hi, h0, h1, h2 with
   | 0, _, _, _, _ =>
    intro w hst
    exact OpV.g (v_move rfl)
   | 1, _, _, _, _ =>
    intro w hst
    exact OpV.g (v_move rfl)
   | 2, _, _, _, _ =>
    intro w hst
    exact OpV.g (v_move rfl)
   | 3, _, _, _, _ =>
    rintro _ _ ⟨rfl, rfl⟩ _ _ ⟨rfl, rfl⟩ _ _ ⟨rfl, rfl⟩
    intro w hst
    exact OpV.g (v_slice_k (h := k) (hst.arg hlv) rfl rfl rfl Try.underlying50 (by kernel_rfl) (by first | (rw [List.length_map]; omega) | (simp <;> omega)))
   | 4, _, _, _, _ =>
    intro w hst
    exact OpV.g (v_move rfl)
   | 5, _, h, _, _ => exact absurd rfl h
   | 6, _, _, _, _ =>
    intro w hst
    exact OpV.g (v_move rfl)
   | 7, _, _, _, _ =>
    intro w hst
    exact OpV.g (v_move rfl)
   | 8, _, _, _, _ =>
    rintro _ _ ⟨rfl, rfl⟩ _ _ ⟨rfl, rfl⟩
    intro w hst
    exact OpV.g (v_slice_at (l := k) (h := (ns).length) (hst.arg hlv) rfl rfl rfl Try.underlying50 (by kernel_rfl) (.inr rfl) (.inl ⟨rfl, by simp⟩) (by omega) (by simp))
   | 9, _, _, h, _ => exact absurd rfl h
   | 10, _, _, _, h => exact absurd rfl h
  ·rintro _ _ ⟨rfl, rfl⟩
   intro w hst
   exact OpR.to_own (f := fun b : Nat => .slice (some ⟨b, 0, none⟩) 1 1) (e := fun v => own v 3 1 ([[iv n]])) (g_buildSlice (E := 3) (sz := 1) rfl ([[iv n]]) (fun _ => by kernel_rfl) (by simp) rfl (by decide)) (fun v => rfl)
  ·rintro s9 _ rfl _ _ ⟨rfl, rfl⟩
   intro w hst
   replace hst : St No w0 (own s9 3 1 ([[iv n]]) :: _) w := hst
   exact (r_append_any (hst.get (k := 0) rfl) rfl rfl ((hst.arg hlv).cutd (l := k) (by first | omega | (rw [List.length_reverse]; omega) | simp | (simp; omega))) Try.underlying50 (inf := Try.t3) (z := iv 0) rfl rfl rfl rfl (by decide) (by intro e he u hu; obtain ⟨z, _, rfl⟩ := List.mem_map.1 he; rw [List.mem_singleton] at hu; subst hu; rfl) (by have hby : Try.t3.bytes = 8 := rfl; simp [big, hby]; omega) (by have hby : Try.t3.bytes = 8 := rfl; simp [big, hby]; omega)).mono fun v w' ⟨h1, h2, h3⟩ => ⟨h1, h2, h3, rfl⟩
  ·rintro _ _ ⟨rfl, rfl⟩ s11 _ rfl
   intro w hst
   replace hst : St No w0 (own s11 3 1 (([[iv n]]) ++ (((ns).drop k).map fun n => [iv n])) :: _) w := hst
   exact (r_append_arg (hst.get (k := 0) rfl) (by simp) (hst.arg hlv) (by rw [List.length_map]; omega) (by rw [List.length_map]; omega) rfl rfl Try.underlying50 (inf := Try.t3) (z := iv 0) rfl rfl rfl rfl (by decide) (by have hby : Try.t3.bytes = 8 := rfl; simp [big, hby]; omega) (by have hby : Try.t3.bytes = 8 := rfl; simp [big, hby]; omega)).mono fun v w' ⟨h1, h2, h3⟩ => ⟨h1, h2, h3, rfl⟩
  clear hfr hst
  rintro vq _ _ ⟨⟨rfl, rfl⟩, -⟩ _ _ ⟨⟨rfl, rfl⟩, -⟩ _ _ ⟨⟨rfl, rfl⟩, -⟩ _ _ ⟨⟨rfl, rfl⟩, -⟩ _ _ ⟨⟨rfl, rfl⟩, -⟩ s9 _ ⟨rfl, -⟩ _ _ ⟨⟨rfl, rfl⟩, -⟩ _ _ ⟨⟨rfl, rfl⟩, -⟩ _ _ ⟨⟨rfl, rfl⟩, -⟩ s11 _ ⟨rfl, -⟩ s12 _ ⟨rfl, hvq⟩ a w3 hfr hst
  obtain rfl := hvq rfl
  replace hfr : Fr 44 [(33, _), (34, _), (35, _), (36, _), (37, _), (38, _), (39, _), (40, _), (41, _), (42, _), (43, _), (0, _), (1, _), (5, _), (31, _)] [] a := hfr
  replace hst : St No w0 [own s12 3 1 (((ns).map fun n => [iv n]).take k ++ (([[iv n]]) ++ (((ns).drop k).map fun n => [iv n])))] w3 := hst
  refine wla hfr rfl fun a hfr => ?_
  refine wl_nil ?_
  refine hK9 _ _ ?_
  replace hfr : Fr 44 [(4, _)] [] a := hfr.pick [4]
  refine wc_ret ?_
  refine fin_ret hfr Try.results78 (resAre_tmp rfl resAre_nil) ?_
  rw [show ((ns).map fun n => [iv n]).take k ++ (([[iv n]]) ++ (((ns).drop k).map fun n => [iv n])) = ((insL ns n).map fun n => [iv n]) from by rw [insL_no hk hlt (by omega) (by omega), List.map_append, List.map_cons, List.map_take]; simp] at hst
  exact ⟨_, rfl, trivial, hst.ext, St.out (E := [own _ 3 1 ((insL ns n).map fun n => [iv n])]) (H := []) (hst.select [0] (by decide))⟩
 rw [decide_eq_false hb1] at hfr
 refine wln hfr fun a hfr => ?_
 refine wln hfr fun a hfr => ?_
 refine wln hfr fun a hfr => ?_
 refine wln hfr fun a hfr => ?_
 refine wln hfr fun a hfr => ?_
 refine wln hfr fun a hfr => ?_
 refine wlv hfr (v_pick_f rfl rfl) fun a hfr => ?_
 refine wl_nil (hK5 _ _ ?_)
 replace hfr : Fr 44 [(0, _), (1, _), (4, _), (5, _), (17, _)] [] a := hfr.pick [0, 1, 4, 5, 17]
 refine wc_cond_f hfr rfl ?_
 refine wc_exit ?_
 refine hK3 _ _ ?_
 refine wc_seq_k fun K10 hK10 => ?_
 refine wc_seq_region fun K11 hK11 => ?_
 refine wlm hfr rfl fun a hfr => wlm hfr rfl fun a hfr => ?_
 refine wlv hfr ((v_len_sl (sT := 50) (hst.arg hlv) rfl rfl (Try.runUnderlying50 _)).asi (m' := (ns.length : Int)) (by rw [List.length_map])) fun a hfr => ?_
 refine wlv hfr (v_lt rfl rfl) fun a hfr => wlm hfr rfl fun a hfr => ?_
 rcases Decidable.em ((k : Int) < (ns.length : Int)) with hb13 | hb13
 ·rw [decide_eq_true hb13] at hfr
  have hkx : k < ns.length := by omega
  refine wly hfr (v_move rfl) fun a hfr => wly hfr (v_move rfl) fun a hfr => wly hfr ((v_indexAddr_sl (i := (k : Int)) (sT := 50) (hst.arg hlv) rfl rfl (Try.runUnderlying50 _) (Try.sizeOf3 _) (by omega) (by rw [List.length_map]; omega)).as (v' := slAddr lv (k * 1)) rfl) fun a hfr => wly hfr (v_load_sl1 (u := iv (ns.getD k 0)) (i := k) (j := 0) (hst.arg hlv) (by rw [List.length_map]; omega) rfl (Try.isAgg3 _) (by rw [el_at (0 : Int)]; rfl)) fun a hfr => wly hfr (v_move rfl) fun a hfr => wly hfr (v_eq rfl rfl) fun a hfr => ?_
  refine wlv hfr (v_pick_t rfl rfl) fun a hfr => ?_
  refine wl_nil (hK11 _ _ ?_)
  replace hfr : Fr 44 [(0, _), (1, _), (4, _), (5, _), (31, _)] [] a := hfr.pick [0, 1, 4, 5, 31]
  refine wc_cond_d hfr rfl (fun hc14 => ?_) (fun hc14 => ?_)
  ·exact absurd (insL_yes hlt hkx hc14) hm
  refine wc_skip ?_
  refine hK10 _ _ ?_
  refine wc_seq_k fun K12 hK12 => ?_
  refine wc_of_dr ?_
  replace hfr : Fr 44 [(0, _), (1, _), (5, _)] [] a := hfr.pick [0, 1, 5]
  refine wc_phases_chain 5 9 10 (fun v => own v 3 1 ([[iv n]])) (fun v => own v 3 1 (([[iv n]]) ++ (((ns).drop k).map fun n => [iv n]))) (fun v => own v 3 1 (((ns).map fun n => [iv n]).take k ++ (([[iv n]]) ++ (((ns).drop k).map fun n => [iv n])))) 11 [[], [], [], [0, 1, 2], [], [4], [], [], [6, 7], [5, 8], [3, 9]] (fun i => match i with | 0 => pv (lv) | 1 => pv (iv (k : Int)) | 2 => pv (iv (k : Int)) | 3 => pv ((cut lv 1 0 k k)) | 4 => pv (iv n) | 5 => fun v E => E = [] | 6 => pv (lv) | 7 => pv (iv (k : Int)) | 8 => pv ((cut lv 1 k (ns).length (slCap lv))) | 9 => fun v E => E = [] | 10 => fun v E => E = [] | _ => fun _ _ => False) hfr hst (by kernel_rfl) (by kernel_rfl) (by kernel_rfl) (by decide) (by decide) (by decide) (by decide) ?_ ?_ ?_ ?_ ?_ ?_
  ·intro i v E h
   match i, h with
   | 0, _ => exact by decide
   | 1, _ => exact by decide
   | 2, _ => exact by decide
   | 3, _ => exact by decide
   | 4, _ => exact by decide
   | 5, _ => exact by decide
   | 6, _ => exact by decide
   | 7, _ => exact by decide
   | 8, _ => exact by decide
   | 9, _ => exact by decide
   | 10, _ => exact by decide
   | i + 11, h => exact h.elim
  ·intro i hi h0 h1 h2 e
   match i, hi, h0, h1, h2 with
   | 0, _, _, _, _ =>
    intro w hst
    exact OpV.g (v_move rfl)
   | 1, _, _, _, _ =>
    intro w hst
    exact OpV.g (v_move rfl)
   | 2, _, _, _, _ =>
    intro w hst
    exact OpV.g (v_move rfl)
   | 3, _, _, _, _ =>
    rintro _ _ ⟨rfl, rfl⟩ _ _ ⟨rfl, rfl⟩ _ _ ⟨rfl, rfl⟩
    intro w hst
    exact OpV.g (v_slice_k (h := k) (hst.arg hlv) rfl rfl rfl Try.underlying50 (by kernel_rfl) (by first | (rw [List.length_map]; omega) | (simp <;> omega)))
   | 4, _, _, _, _ =>
    intro w hst
    exact OpV.g (v_move rfl)
   | 5, _, h, _, _ => exact absurd rfl h
   | 6, _, _, _, _ =>
    intro w hst
    exact OpV.g (v_move rfl)
   | 7, _, _, _, _ =>
    intro w hst
    exact OpV.g (v_move rfl)
   | 8, _, _, _, _ =>
    rintro _ _ ⟨rfl, rfl⟩ _ _ ⟨rfl, rfl⟩
    intro w hst
    exact OpV.g (v_slice_at (l := k) (h := (ns).length) (hst.arg hlv) rfl rfl rfl Try.underlying50 (by kernel_rfl) (.inr rfl) (.inl ⟨rfl, by simp⟩) (by omega) (by simp))
   | 9, _, _, h, _ => exact absurd rfl h
   | 10, _, _, _, h => exact absurd rfl h
  ·rintro _ _ ⟨rfl, rfl⟩
   intro w hst
   exact OpR.to_own (f := fun b : Nat => .slice (some ⟨b, 0, none⟩) 1 1) (e := fun v => own v 3 1 ([[iv n]])) (g_buildSlice (E := 3) (sz := 1) rfl ([[iv n]]) (fun _ => by kernel_rfl) (by simp) rfl (by decide)) (fun v => rfl)
  ·rintro s15 _ rfl _ _ ⟨rfl, rfl⟩
   intro w hst
   replace hst : St No w0 (own s15 3 1 ([[iv n]]) :: _) w := hst
   exact (r_append_any (hst.get (k := 0) rfl) rfl rfl ((hst.arg hlv).cutd (l := k) (by first | omega | (rw [List.length_reverse]; omega) | simp | (simp; omega))) Try.underlying50 (inf := Try.t3) (z := iv 0) rfl rfl rfl rfl (by decide) (by intro e he u hu; obtain ⟨z, _, rfl⟩ := List.mem_map.1 he; rw [List.mem_singleton] at hu; subst hu; rfl) (by have hby : Try.t3.bytes = 8 := rfl; simp [big, hby]; omega) (by have hby : Try.t3.bytes = 8 := rfl; simp [big, hby]; omega)).mono fun v w' ⟨h1, h2, h3⟩ => ⟨h1, h2, h3, rfl⟩
  ·rintro _ _ ⟨rfl, rfl⟩ s17 _ rfl
   intro w hst
   replace hst : St No w0 (own s17 3 1 (([[iv n]]) ++ (((ns).drop k).map fun n => [iv n])) :: _) w := hst
   exact (r_append_arg (hst.get (k := 0) rfl) (by simp) (hst.arg hlv) (by rw [List.length_map]; omega) (by rw [List.length_map]; omega) rfl rfl Try.underlying50 (inf := Try.t3) (z := iv 0) rfl rfl rfl rfl (by decide) (by have hby : Try.t3.bytes = 8 := rfl; simp [big, hby]; omega) (by have hby : Try.t3.bytes = 8 := rfl; simp [big, hby]; omega)).mono fun v w' ⟨h1, h2, h3⟩ => ⟨h1, h2, h3, rfl⟩
  clear hfr hst
  rintro vq _ _ ⟨⟨rfl, rfl⟩, -⟩ _ _ ⟨⟨rfl, rfl⟩, -⟩ _ _ ⟨⟨rfl, rfl⟩, -⟩ _ _ ⟨⟨rfl, rfl⟩, -⟩ _ _ ⟨⟨rfl, rfl⟩, -⟩ s15 _ ⟨rfl, -⟩ _ _ ⟨⟨rfl, rfl⟩, -⟩ _ _ ⟨⟨rfl, rfl⟩, -⟩ _ _ ⟨⟨rfl, rfl⟩, -⟩ s17 _ ⟨rfl, -⟩ s18 _ ⟨rfl, hvq⟩ a w4 hfr hst
  obtain rfl := hvq rfl
  replace hfr : Fr 44 [(33, _), (34, _), (35, _), (36, _), (37, _), (38, _), (39, _), (40, _), (41, _), (42, _), (43, _), (0, _), (1, _), (5, _)] [] a := hfr
  replace hst : St No w0 [own s18 3 1 (((ns).map fun n => [iv n]).take k ++ (([[iv n]]) ++ (((ns).drop k).map fun n => [iv n])))] w4 := hst
  refine wla hfr rfl fun a hfr => ?_
  refine wl_nil ?_
  refine hK12 _ _ ?_
  replace hfr : Fr 44 [(4, _)] [] a := hfr.pick [4]
  refine wc_ret ?_
  refine fin_ret hfr Try.results78 (resAre_tmp rfl resAre_nil) ?_
  rw [show ((ns).map fun n => [iv n]).take k ++ (([[iv n]]) ++ (((ns).drop k).map fun n => [iv n])) = ((insL ns n).map fun n => [iv n]) from by rw [insL_no hk hlt (by omega) (by omega), List.map_append, List.map_cons, List.map_take]; simp] at hst
  exact ⟨_, rfl, trivial, hst.ext, St.out (E := [own _ 3 1 ((insL ns n).map fun n => [iv n])]) (H := []) (hst.select [0] (by decide))⟩
 rw [decide_eq_false hb13] at hfr
 refine wln hfr fun a hfr => ?_
 refine wln hfr fun a hfr => ?_
 refine wln hfr fun a hfr => ?_
 refine wln hfr fun a hfr => ?_
 refine wln hfr fun a hfr => ?_
 refine wln hfr fun a hfr => ?_
 refine wlv hfr (v_pick_f rfl rfl) fun a hfr => ?_
 refine wl_nil (hK11 _ _ ?_)
 replace hfr : Fr 44 [(0, _), (1, _), (4, _), (5, _), (31, _)] [] a := hfr.pick [0, 1, 4, 5, 31]
 refine wc_cond_f hfr rfl ?_
 refine wc_skip ?_
 refine hK10 _ _ ?_
 refine wc_seq_k fun K13 hK13 => ?_
 refine wc_of_dr ?_
 replace hfr : Fr 44 [(0, _), (1, _), (5, _), (31, _)] [] a := hfr.pick [0, 1, 5, 31]
 refine wc_phases_chain 5 9 10 (fun v => own v 3 1 ([[iv n]])) (fun v => own v 3 1 (([[iv n]]) ++ (((ns).drop k).map fun n => [iv n]))) (fun v => own v 3 1 (((ns).map fun n => [iv n]).take k ++ (([[iv n]]) ++ (((ns).drop k).map fun n => [iv n])))) 11 [[], [], [], [0, 1, 2], [], [4], [], [], [6, 7], [5, 8], [3, 9]] (fun i => match i with | 0 => pv (lv) | 1 => pv (iv (k : Int)) | 2 => pv (iv (k : Int)) | 3 => pv ((cut lv 1 0 k k)) | 4 => pv (iv n) | 5 => fun v E => E = [] | 6 => pv (lv) | 7 => pv (iv (k : Int)) | 8 => pv ((cut lv 1 k (ns).length (slCap lv))) | 9 => fun v E => E = [] | 10 => fun v E => E = [] | _ => fun _ _ => False) hfr hst (by kernel_rfl) (by kernel_rfl) (by kernel_rfl) (by decide) (by decide) (by decide) (by decide) ?_ ?_ ?_ ?_ ?_ ?_
 ·intro i v E h
  match i, h with
  | 0, _ => exact by decide
  | 1, _ => exact by decide
  | 2, _ => exact by decide
  | 3, _ => exact by decide
  | 4, _ => exact by decide
  | 5, _ => exact by decide
  | 6, _ => exact by decide
  | 7, _ => exact by decide
  | 8, _ => exact by decide
  | 9, _ => exact by decide
  | 10, _ => exact by decide
  | i + 11, h => exact h.elim
 ·intro i hi h0 h1 h2 e
  match i, hi, h0, h1, h2 with
  | 0, _, _, _, _ =>
   intro w hst
   exact OpV.g (v_move rfl)
  | 1, _, _, _, _ =>
   intro w hst
   exact OpV.g (v_move rfl)
  | 2, _, _, _, _ =>
   intro w hst
   exact OpV.g (v_move rfl)
  | 3, _, _, _, _ =>
   rintro _ _ ⟨rfl, rfl⟩ _ _ ⟨rfl, rfl⟩ _ _ ⟨rfl, rfl⟩
   intro w hst
   exact OpV.g (v_slice_k (h := k) (hst.arg hlv) rfl rfl rfl Try.underlying50 (by kernel_rfl) (by first | (rw [List.length_map]; omega) | (simp <;> omega)))
  | 4, _, _, _, _ =>
   intro w hst
   exact OpV.g (v_move rfl)
  | 5, _, h, _, _ => exact absurd rfl h
  | 6, _, _, _, _ =>
   intro w hst
   exact OpV.g (v_move rfl)
  | 7, _, _, _, _ =>
   intro w hst
   exact OpV.g (v_move rfl)
  | 8, _, _, _, _ =>
   rintro _ _ ⟨rfl, rfl⟩ _ _ ⟨rfl, rfl⟩
   intro w hst
   exact OpV.g (v_slice_at (l := k) (h := (ns).length) (hst.arg hlv) rfl rfl rfl Try.underlying50 (by kernel_rfl) (.inr rfl) (.inl ⟨rfl, by simp⟩) (by omega) (by simp))
  | 9, _, _, h, _ => exact absurd rfl h
  | 10, _, _, _, h => exact absurd rfl h
 ·rintro _ _ ⟨rfl, rfl⟩
  intro w hst
  exact OpR.to_own (f := fun b : Nat => .slice (some ⟨b, 0, none⟩) 1 1) (e := fun v => own v 3 1 ([[iv n]])) (g_buildSlice (E := 3) (sz := 1) rfl ([[iv n]]) (fun _ => by kernel_rfl) (by simp) rfl (by decide)) (fun v => rfl)
 ·rintro s19 _ rfl _ _ ⟨rfl, rfl⟩
  intro w hst
  replace hst : St No w0 (own s19 3 1 ([[iv n]]) :: _) w := hst
  exact (r_append_any (hst.get (k := 0) rfl) rfl rfl ((hst.arg hlv).cutd (l := k) (by first | omega | (rw [List.length_reverse]; omega) | simp | (simp; omega))) Try.underlying50 (inf := Try.t3) (z := iv 0) rfl rfl rfl rfl (by decide) (by intro e he u hu; obtain ⟨z, _, rfl⟩ := List.mem_map.1 he; rw [List.mem_singleton] at hu; subst hu; rfl) (by have hby : Try.t3.bytes = 8 := rfl; simp [big, hby]; omega) (by have hby : Try.t3.bytes = 8 := rfl; simp [big, hby]; omega)).mono fun v w' ⟨h1, h2, h3⟩ => ⟨h1, h2, h3, rfl⟩
 ·rintro _ _ ⟨rfl, rfl⟩ s21 _ rfl
  intro w hst
  replace hst : St No w0 (own s21 3 1 (([[iv n]]) ++ (((ns).drop k).map fun n => [iv n])) :: _) w := hst
  exact (r_append_arg (hst.get (k := 0) rfl) (by simp) (hst.arg hlv) (by rw [List.length_map]; omega) (by rw [List.length_map]; omega) rfl rfl Try.underlying50 (inf := Try.t3) (z := iv 0) rfl rfl rfl rfl (by decide) (by have hby : Try.t3.bytes = 8 := rfl; simp [big, hby]; omega) (by have hby : Try.t3.bytes = 8 := rfl; simp [big, hby]; omega)).mono fun v w' ⟨h1, h2, h3⟩ => ⟨h1, h2, h3, rfl⟩
 clear hfr hst
 rintro vq _ _ ⟨⟨rfl, rfl⟩, -⟩ _ _ ⟨⟨rfl, rfl⟩, -⟩ _ _ ⟨⟨rfl, rfl⟩, -⟩ _ _ ⟨⟨rfl, rfl⟩, -⟩ _ _ ⟨⟨rfl, rfl⟩, -⟩ s19 _ ⟨rfl, -⟩ _ _ ⟨⟨rfl, rfl⟩, -⟩ _ _ ⟨⟨rfl, rfl⟩, -⟩ _ _ ⟨⟨rfl, rfl⟩, -⟩ s21 _ ⟨rfl, -⟩ s22 _ ⟨rfl, hvq⟩ a w5 hfr hst
 obtain rfl := hvq rfl
 replace hfr : Fr 44 [(33, _), (34, _), (35, _), (36, _), (37, _), (38, _), (39, _), (40, _), (41, _), (42, _), (43, _), (0, _), (1, _), (5, _), (31, _)] [] a := hfr
 replace hst : St No w0 [own s22 3 1 (((ns).map fun n => [iv n]).take k ++ (([[iv n]]) ++ (((ns).drop k).map fun n => [iv n])))] w5 := hst
 refine wla hfr rfl fun a hfr => ?_
 refine wl_nil ?_
 refine hK13 _ _ ?_
 replace hfr : Fr 44 [(4, _)] [] a := hfr.pick [4]
 refine wc_ret ?_
 refine fin_ret hfr Try.results78 (resAre_tmp rfl resAre_nil) ?_
 rw [show ((ns).map fun n => [iv n]).take k ++ (([[iv n]]) ++ (((ns).drop k).map fun n => [iv n])) = ((insL ns n).map fun n => [iv n]) from by rw [insL_no hk hlt (by omega) (by omega), List.map_append, List.map_cons, List.map_take]; simp] at hst
 exact ⟨_, rfl, trivial, hst.ext, St.out (E := [own _ 3 1 ((insL ns n).map fun n => [iv n])]) (H := []) (hst.select [0] (by decide))⟩
end Go.Proofs.Ytnfnkohkcmkddaa
