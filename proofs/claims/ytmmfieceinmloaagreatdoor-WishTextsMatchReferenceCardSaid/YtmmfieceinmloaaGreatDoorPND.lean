/- Texts joined: WshF, WshG, WshH, WshI, WshJ, WshR, WshK, Rdr, WshL, WshM, WshN, WshO. -/
import Derived.Test.YtmmfieceinmloaaGreatDoorPNC
import Derived.Test.YtmmfieceinmloaaGreatDoorPNA
import Derived.Test.YtmmfieceinmloaaGreatDoorPNB
namespace Go.Proofs.YtmmfieceinmloaaGreatDoor
open Go.RowKit Go.PW
set_option linter.unusedVariables false
set_option linter.unusedSimpArgs false
set_option maxRecDepth 4000
theorem indexP_ok {M : Nat → Prop} {wb : World} {H : List Ent} {sv : Value} {els : List (List Value)} {caps : List Value} {g : FuncId} (p : Nat → Bool) (ev_ : Nat → Value) (J : Nat → Ent → Prop) (e0 : Ent) (w0 : World)
  (hen : ∀ args w, (callFunc g args).run Tryz.prog w = .ok (.enter g args) w) (hs : ∀ e w, St M wb (e :: H) w → SlAt w sv 7 els)
  (hev : ∀ k (h : k < els.length), .agg (els[k]).toArray = ev_ k) (hJ0 : J 0 e0) (hst : St M wb (e0 :: H) w0)
  (hcl : ∀ k e w, k < els.length → J k e → e.ok w → (∀ b, e.foot b → b < w.heap.size) → Ret Tryz.prog g ([ev_ k] ++ caps).toArray w fun v w' => v = .bool (p k) ∧ ∃ e', Ext e.foot w w' ∧ e'.ok w' ∧ (∀ b, e'.foot b → b < w'.heap.size ∧ (e.foot b ∨ w.heap.size ≤ b)) ∧ J (k + 1) e') :
  Ret Tryz.prog 116 #[sv, .func (.func g) #[] caps.toArray] w0 fun v w => v = iv (fstIdx p els.length) ∧ ∃ k e', J k e' ∧ St M wb (e' :: H) w := by
 have hsl := (hs _ _ hst).le
 refine ret_of Tryz.func116 rfl Tryz.ntmps116 (lb rfl) fun a hfr => ?_
 have hfr : Fr 19 [(0, _), (1, _)] [] a := hfr
 refine wc_seq_region fun K1 hK1 => ?_
 refine wla hfr rfl fun a hfr => ?_
 refine wl_nil (hK1 _ _ ?_)
 refine wc_seq_k fun K2 hK2 => ?_
 refine wc_seq_region fun K3 hK3 => ?_
 refine wlm hfr rfl fun a hfr => ?_
 refine wlv hfr (v_len_sl (sT := 31) (hs _ _ hst) rfl rfl (Tryz.runUnderlying31 _)) fun a hfr => wlm hfr rfl fun a hfr => ?_
 refine wl_nil (hK3 _ _ ?_)
 refine wc_block ?_
 refine wc_loop (fun m a w => ∃ (k : Nat) (e : Ent), m = els.length - k ∧ (k ≤ els.length) ∧ (∀ j, j < k → p j = false) ∧ (J k e) ∧ Fr 19 [(0, sv), (1, .func (.func g) #[] caps.toArray), (6, sv), (7, iv els.length), (8, iv (k : Int))] [] a ∧ St M wb (e :: H) w) _ ⟨0, e0, rfl, Nat.zero_le _, (by intro j hj; omega), hJ0, hfr.pick [0, 1, 6, 7, 8], hst⟩ ?_
 rintro _ a w1 ⟨k, e, rfl, hk, hp, hJ, hfr, hst⟩
 refine wc_seq_region fun K4 hK4 => ?_
 refine wlv hfr (v_lt rfl rfl) fun a hfr => ?_
 refine wl_nil (hK4 _ _ ?_)
 refine wc_seq_k fun K5 hK5 => ?_
 refine wc_cond hfr rfl (fun hc1 => ?_) (fun hc1 => ?_)
 ·rw [hc1] at hfr
  try simp only [qz] at hc1
  refine wc_skip ?_
  refine hK5 _ _ ?_
  refine wc_seq_k fun K6 hK6 => ?_
  refine wc_block ?_
  refine wc_seq_region fun K7 hK7 => ?_
  refine wlm hfr rfl fun a hfr => wla hfr rfl fun a hfr => ?_
  refine wl_nil (hK7 _ _ ?_)
  refine wc_seq_region fun K8 hK8 => ?_
  refine wlm hfr rfl fun a hfr => wlm hfr rfl fun a hfr => wlm hfr rfl fun a hfr => ?_
  refine wlv hfr ((v_indexAddr_sl (i := (k : Int)) (sT := 31) (hs _ _ hst) rfl rfl (Tryz.runUnderlying31 _) (Tryz.sizeOf40 _) (by omega) (by omega)).as (v' := slAddr sv (k * 7)) rfl) fun a hfr => ?_
  refine wlv hfr ((v_load_sl (hs _ _ hst) (i := k) (by omega) rfl (Tryz.isAgg40 _) (Tryz.sizeOf40 _)).as (v' := ev_ k) (hev k (by omega))) fun a hfr => ?_
  refine wl_r (r_callv (cap := caps) rfl hen rfl (hcl k _ _ (by omega) hJ (hst.get (k := 0) rfl) (fun b hb => hst.lt (k := 0) rfl hb))) rfl rfl hfr fun a v w2 hR hfr => ?_
  obtain ⟨rfl, e1, hx, hok, hft, hJ1⟩ := hR
  have hst := hst.exchange (k := 0) rfl hx hok hft
  have hst : St M wb (e1 :: H) w2 := hst
  refine wl_nil (hK8 _ _ ?_)
  refine wc_cond hfr rfl (fun hc2 => ?_) (fun hc2 => ?_)
  ·rw [hc2] at hfr
   try simp only [qz] at hc2
   refine wc_seq_region fun K9 hK9 => ?_
   refine wlm hfr rfl fun a hfr => wla hfr rfl fun a hfr => ?_
   refine wl_nil (hK9 _ _ ?_)
   refine wc_ret ?_
   refine fin_ret hfr Tryz.results116 (resAre_tmp rfl resAre_nil) ?_
   exact ⟨by rw [fstIdx_some (k := k) (by omega) hp (by assumption)]; rfl, _, _, hJ1, hst⟩
  rw [hc2] at hfr
  try simp only [qz] at hc2
  refine wc_skip ?_
  refine hK6 _ _ ?_
  refine wc_region ?_
  refine wlv hfr (v_add rfl rfl ⟨by omega, by omega⟩) fun a hfr => wlm hfr rfl fun a hfr => ?_
  refine wl_nil ?_
  refine ⟨_, ?_, k + 1, e1, rfl, (by omega), (by intro j hj; by_cases h : j = k; (subst h; assumption); exact hp j (by omega)), hJ1, hfr.pick [0, 1, 6, 7, 8], hst⟩
  omega
 rw [hc1] at hfr
 try simp only [qz] at hc1
 refine wc_exit ?_
 refine hK2 _ _ ?_
 refine wc_seq_region fun K10 hK10 => ?_
 refine wla hfr rfl fun a hfr => ?_
 refine wl_nil (hK10 _ _ ?_)
 refine wc_ret ?_
 refine fin_ret hfr Tryz.results116 (resAre_tmp rfl resAre_nil) ?_
 have hkl : k = els.length := by omega
 subst hkl
 exact ⟨by rw [fstIdx_none hp]; rfl, _, _, hJ, hst⟩
theorem index_pxy {sv : Value} {xs : List Pxy} {g : FuncId} (p : Pxy → Bool) (w0 : World) (hen : ∀ args w, (callFunc g args).run Tryz.prog w = .ok (.enter g args) w) (hs : SlAt w0 sv 7 (xs.map Pxy.cells))
  (hcl : ∀ (x : Pxy) (w : World), Ret Tryz.prog g #[.agg x.cells.toArray] w fun v w' => v = .bool (p x) ∧ Ext No w w') :
  Ret Tryz.prog 116 #[sv, .func (.func g) #[] #[]] w0 fun v w => v = iv (fstIdx (fun k => p (xs.getD k Pxy.z)) xs.length) ∧ Ext No w0 w := by
 have hst : St No w0 [join []] w0 := St.join [] [] (St.init w0)
 have h := indexP_ok (M := No) (wb := w0) (H := []) (sv := sv) (els := xs.map Pxy.cells) (caps := []) (g := g) (fun k => p (xs.getD k Pxy.z)) (fun k => .agg (xs.getD k Pxy.z).cells.toArray) (fun _ e => e = join []) (join []) w0 hen
  (fun e w h => h.arg hs) (fun k h => by rw [el_at Pxy.z]) rfl hst (fun k e w hk he hok hlt => by
   subst he
   refine (hcl _ w).mono fun v w' ⟨h1, h2⟩ => ⟨h1, join [], h2.mono (fun k _ hk => hk.elim), ?_, ?_, rfl⟩
   ·exact ⟨fun e he => (by cases he), List.Pairwise.nil⟩
   ·rintro b ⟨e, he, _⟩
    cases he)
 refine h.mono fun v w ⟨h1, k, e, he, hst⟩ => ⟨by rw [h1, List.length_map], hst.ext⟩
theorem badp1_ok (x : Pxy) (w0 : World) :
  Ret Tryz.prog 117 #[.agg #[iv x.frm, iv x.to, iv x.rf, iv x.rt, iv x.sf, iv x.st, sv x.sig]] w0 fun v w => v = .bool (!x.ok) ∧ Ext No w0 w := by
 refine ret_of Tryz.func117 rfl Tryz.ntmps117 (lb rfl) fun a hfr => ?_
 have hfr : Fr 6 [(0, _)] [] a := hfr
 have hst : St No w0 [] w0 := St.init w0
 refine wc_seq_region fun K1 hK1 => ?_
 refine wl_box hfr hst (by decide) rfl (cs := [iv x.frm, iv x.to, iv x.rf, iv x.rt, iv x.sf, iv x.st, sv x.sig]) rfl fun a w1 hfr hst => ?_
 refine wla hfr rfl fun a hfr => ?_
 refine wl_nil (hK1 _ _ ?_)
 refine wc_seq_region fun K2 hK2 => ?_
 refine wlv hfr (v_load_all (hst.get (k := 0) rfl) rfl (Tryz.isAgg40 _) (Tryz.sizeOf40 _)) fun a hfr => ?_
 refine wl_callp hfr hst (by decide) Tryz.call73 rfl (isProxy_ok x _) fun a w2 hfr hst => ?_
 refine wlv hfr (v_not rfl) fun a hfr => wla hfr rfl fun a hfr => ?_
 refine wl_nil (hK2 _ _ ?_)
 refine wc_ret ?_
 refine fin_ret hfr Tryz.results117 (resAre_tmp rfl resAre_nil) ?_
 exact ⟨by rfl, hst.ext⟩
def badN (xs : List Pxy) : Int := fstIdx (fun k => !(xs.getD k Pxy.z).ok) xs.length
theorem badp_call (v : Value) (xs : List Pxy) (w0 : World) (hv : SlAt w0 v 7 (xs.map Pxy.cells)) : Ret Tryz.prog 116 #[v, .func (.func 117) #[] #[]] w0 fun v w => v = iv (badN xs) ∧ Ext No w0 w :=
 index_pxy (fun x => !x.ok) w0 Tryz.call117 hv (fun x w => badp1_ok x w)
theorem badProxy_ok (lv : Value) (xs : List Pxy) (w0 : World) (hlv : SlAt w0 lv 7 (xs.map Pxy.cells)) :
  Ret Tryz.prog 59 #[lv] w0 fun v w => v = iv (badN xs) ∧ Ext No w0 w := by
 refine ret_of Tryz.func59 rfl Tryz.ntmps59 (lb rfl) fun a hfr => ?_
 have hfr : Fr 5 [(0, _)] [] a := hfr
 have hst : St No w0 [] w0 := St.init w0
 refine wc_seq_region fun K1 hK1 => ?_
 refine wla hfr rfl fun a hfr => ?_
 refine wl_nil (hK1 _ _ ?_)
 refine wc_seq_region fun K2 hK2 => ?_
 refine wlm hfr rfl fun a hfr => ?_
 refine wl_callp hfr hst (by decide) Tryz.call116 rfl (badp_call lv xs _ (hst.arg hlv)) fun a w1 hfr hst => ?_
 refine wla hfr rfl fun a hfr => ?_
 refine wl_nil (hK2 _ _ ?_)
 refine wc_ret ?_
 refine fin_ret hfr Tryz.results59 (resAre_tmp rfl resAre_nil) ?_
 exact ⟨by rfl, hst.ext⟩
theorem formed_ok (x : Wsh) (lv : Value) (xs : List Pxy) (w0 : World) (hlv : SlAt w0 lv 7 (xs.map Pxy.cells)) :
  Ret Tryz.prog 19 #[.agg #[iv x.signer, iv x.holder, iv x.rf, iv x.rt, iv x.carrier, iv x.serial, iv x.sf, iv x.st, sv x.sig], lv] w0 fun v w => v = .bool (x.ok && decide ((xs.length : Int) ≤ 4) && decide (badN xs < 0)) ∧ Ext No w0 w := by
 refine ret_of Tryz.func19 rfl Tryz.ntmps19 (lb rfl) fun a hfr => ?_
 have hfr : Fr 17 [(0, _), (1, _)] [] a := hfr
 have hst : St No w0 [] w0 := St.init w0
 refine wc_seq_region fun K1 hK1 => ?_
 refine wl_box hfr hst (by decide) rfl (cs := [iv x.signer, iv x.holder, iv x.rf, iv x.rt, iv x.carrier, iv x.serial, iv x.sf, iv x.st, sv x.sig]) rfl fun a w1 hfr hst => ?_
 refine wla hfr rfl fun a hfr => ?_
 refine wl_nil (hK1 _ _ ?_)
 refine wc_seq_region fun K2 hK2 => ?_
 refine wlv hfr (v_load_all (hst.get (k := 0) rfl) rfl (Tryz.isAgg30 _) (Tryz.sizeOf30 _)) fun a hfr => ?_
 refine wl_callp hfr hst (by decide) Tryz.call58 rfl (isWish_ok x _) fun a w2 hfr hst => ?_
 refine wlm hfr rfl fun a hfr => ?_
 rcases Bool.eq_false_or_eq_true (x.ok) with hb1 | hb1
 ·rw [hb1] at hfr
  try simp only [qz] at hb1
  refine wly hfr (v_move rfl) fun a hfr => wly hfr ((v_len_sl (sT := 31) (hst.arg hlv) rfl rfl (Tryz.runUnderlying31 _)).asi (m' := (xs.length : Int)) (by rw [List.length_map])) fun a hfr => wly hfr (v_le rfl rfl) fun a hfr => ?_
  refine wlv hfr (v_pick_t rfl rfl) fun a hfr => wlm hfr rfl fun a hfr => ?_
  rcases Bool.eq_false_or_eq_true (decide ((xs.length : Int) ≤ 4)) with hb2 | hb2
  ·rw [hb2] at hfr
   try simp only [qz] at hb2
   refine wly hfr (v_move rfl) fun a hfr => ?_
   refine wl_callpy hfr hst (by decide) rfl (by decide) rfl Tryz.call59 rfl (badProxy_ok lv xs _ (hst.arg hlv)) fun a w3 hfr hst => ?_
   refine wly hfr (v_lt rfl rfl) fun a hfr => ?_
   refine wlv hfr (v_pick_t rfl rfl) fun a hfr => wla hfr rfl fun a hfr => ?_
   refine wl_nil (hK2 _ _ ?_)
   have hfr : Fr 17 [(0, _), (1, _), (2, _), (4, _)] [] a := hfr.pick [0, 1, 2, 4]
   refine wc_ret ?_
   refine fin_ret hfr Tryz.results19 (resAre_tmp rfl resAre_nil) ?_
   exact ⟨by simp only [retv]; simp [hb1, hb2], hst.ext⟩
  rw [hb2] at hfr
  try simp only [qz] at hb2
  refine wln hfr fun a hfr => ?_
  refine wln hfr fun a hfr => ?_
  refine wln hfr fun a hfr => ?_
  refine wlv hfr (v_pick_f rfl rfl) fun a hfr => wla hfr rfl fun a hfr => ?_
  refine wl_nil (hK2 _ _ ?_)
  have hfr : Fr 17 [(0, _), (1, _), (2, _), (4, _)] [] a := hfr.pick [0, 1, 2, 4]
  refine wc_ret ?_
  refine fin_ret hfr Tryz.results19 (resAre_tmp rfl resAre_nil) ?_
  exact ⟨by simp only [retv]; simp [hb1, hb2], hst.ext⟩
 rw [hb1] at hfr
 try simp only [qz] at hb1
 refine wln hfr fun a hfr => ?_
 refine wln hfr fun a hfr => ?_
 refine wln hfr fun a hfr => ?_
 refine wlv hfr (v_pick_f rfl rfl) fun a hfr => wlm hfr rfl fun a hfr => ?_
 refine wln hfr fun a hfr => ?_
 refine wln hfr fun a hfr => ?_
 refine wln hfr fun a hfr => ?_
 refine wlv hfr (v_pick_f rfl rfl) fun a hfr => wla hfr rfl fun a hfr => ?_
 refine wl_nil (hK2 _ _ ?_)
 have hfr : Fr 17 [(0, _), (1, _), (2, _), (4, _)] [] a := hfr.pick [0, 1, 2, 4]
 refine wc_ret ?_
 refine fin_ret hfr Tryz.results19 (resAre_tmp rfl resAre_nil) ?_
 exact ⟨by simp only [retv]; simp [hb1], hst.ext⟩
end Go.Proofs.YtmmfieceinmloaaGreatDoor
namespace Go.Proofs.YtmmfieceinmloaaGreatDoor
open Go.RowKit Go.PW
set_option linter.unusedVariables false
set_option linter.unusedSimpArgs false
set_option maxRecDepth 4000
set_option maxHeartbeats 4000000 in
theorem isIn_ok (rf rt sf st : Int) (x : Pxy) (w0 : World) :
  Ret Tryz.prog 119 #[.agg #[iv rf, iv rt], .agg #[iv sf, iv st], .agg #[iv x.frm, iv x.to, iv x.rf, iv x.rt, iv x.sf, iv x.st, sv x.sig]] w0 fun v w => v = .bool (isInH rf rt sf st x) ∧ Ext No w0 w := by
 refine ret_of Tryz.func119 rfl Tryz.ntmps119 (lb rfl) fun a hfr => ?_
 replace hfr : Fr 37 [(0, _), (1, _), (2, _)] [] a := hfr
 replace hst : St No w0 [] w0 := St.init w0
 refine wc_seq_region fun K1 hK1 => ?_
 refine wl_box hfr hst (by decide) rfl (cs := [iv rf, iv rt]) rfl ?_
 clear hfr hst
 intro a w1 hfr hst
 refine wl_box hfr hst (by decide) rfl (cs := [iv sf, iv st]) rfl ?_
 clear hfr hst
 intro a w2 hfr hst
 refine wl_box hfr hst (by decide) rfl (cs := [iv x.frm, iv x.to, iv x.rf, iv x.rt, iv x.sf, iv x.st, sv x.sig]) rfl ?_
 clear hfr hst
 intro a w3 hfr hst
 refine wla hfr rfl fun a hfr => ?_
 refine wl_nil (hK1 _ _ ?_)
 refine wc_seq_region fun K2 hK2 => ?_
 refine wlv hfr (v_fieldAddr (v := .pointer (some ⟨w2.heap.size, 2, none⟩)) rfl (by kernel_rfl)) fun a hfr => ?_
 refine wlv hfr (v_fieldAddr (v := .pointer (some ⟨w2.heap.size, 2, none⟩)) rfl (by kernel_rfl)) fun a hfr => ?_
 refine wlv hfr (v_load_blk1 (hst.get (k := 0) rfl) rfl (Tryz.isAgg3 _) rfl) fun a hfr => ?_
 refine wlv hfr (v_fieldAddr (v := .pointer (some ⟨w0.heap.size, 0, none⟩)) rfl (by kernel_rfl)) fun a hfr => ?_
 refine wlv hfr (v_load_blk1 (hst.get (k := 2) rfl) rfl (Tryz.isAgg3 _) rfl) fun a hfr => ?_
 refine wlv hfr (v_le rfl rfl) fun a hfr => wlm hfr rfl fun a hfr => ?_
 refine wl_join (N := 37) (df := []) 7 [(20, .bool ((decide (x.rf ≤ rf)) && (decide (rt ≤ x.rt)))), (0, .agg #[iv rf, iv rt]), (1, .agg #[iv sf, iv st]), (2, .agg #[iv x.frm, iv x.to, iv x.rf, iv x.rt, iv x.sf, iv x.st, sv x.sig]), (3, .pointer (some ⟨w0.heap.size, 0, none⟩)), (4, .pointer (some ⟨w1.heap.size, 0, none⟩)), (5, .pointer (some ⟨w2.heap.size, 0, none⟩)), (6, .bool false)] ?_ (fun hj => ?_)
 rotate_left
 ·rcases Bool.eq_false_or_eq_true (decide (x.rf ≤ rf)) with hb1 | hb1
  ·rw [hb1] at hfr
   have hb1b := hb1
   try simp only [qz, Bool.and_eq_true, Bool.or_eq_true, Bool.and_eq_false_iff, Bool.or_eq_false_iff] at hb1
   refine wly hfr (v_fieldAddr (v := .pointer (some ⟨w0.heap.size, 1, none⟩)) rfl (by kernel_rfl)) fun a hfr => wly hfr (v_load_blk1 (hst.get (k := 2) rfl) rfl (Tryz.isAgg3 _) rfl) fun a hfr => wly hfr (v_fieldAddr (v := .pointer (some ⟨w2.heap.size, 2, none⟩)) rfl (by kernel_rfl)) fun a hfr => wly hfr (v_fieldAddr (v := .pointer (some ⟨w2.heap.size, 3, none⟩)) rfl (by kernel_rfl)) fun a hfr => wly hfr (v_load_blk1 (hst.get (k := 0) rfl) rfl (Tryz.isAgg3 _) rfl) fun a hfr => wly hfr (v_le rfl rfl) fun a hfr => ?_
   refine wlv hfr (v_pick_t rfl rfl) fun a hfr => ?_
   refine hj _ ?_
   try rw [hb1b]
   exact hfr.pick [20, 0, 1, 2, 3, 4, 5, 6]
  rw [hb1] at hfr
  have hb1b := hb1
  try simp only [qz, Bool.and_eq_true, Bool.or_eq_true, Bool.and_eq_false_iff, Bool.or_eq_false_iff] at hb1
  refine wln hfr fun a hfr => ?_
  refine wln hfr fun a hfr => ?_
  refine wln hfr fun a hfr => ?_
  refine wln hfr fun a hfr => ?_
  refine wln hfr fun a hfr => ?_
  refine wln hfr fun a hfr => ?_
  refine wlv hfr (v_pick_f rfl rfl) fun a hfr => ?_
  refine hj _ ?_
  try rw [hb1b]
  exact hfr.pick [20, 0, 1, 2, 3, 4, 5, 6]
 intro a hfr
 refine wlm hfr rfl fun a hfr => ?_
 refine wl_join (N := 37) (df := []) 7 [(28, .bool (((decide (x.rf ≤ rf)) && (decide (rt ≤ x.rt))) && (decide (x.sf ≤ sf)))), (0, .agg #[iv rf, iv rt]), (1, .agg #[iv sf, iv st]), (2, .agg #[iv x.frm, iv x.to, iv x.rf, iv x.rt, iv x.sf, iv x.st, sv x.sig]), (3, .pointer (some ⟨w0.heap.size, 0, none⟩)), (4, .pointer (some ⟨w1.heap.size, 0, none⟩)), (5, .pointer (some ⟨w2.heap.size, 0, none⟩)), (6, .bool false)] ?_ (fun hj => ?_)
 rotate_left
 ·rcases Bool.eq_false_or_eq_true ((decide (x.rf ≤ rf)) && (decide (rt ≤ x.rt))) with hb2 | hb2
  ·rw [hb2] at hfr
   have hb2b := hb2
   try simp only [qz, Bool.and_eq_true, Bool.or_eq_true, Bool.and_eq_false_iff, Bool.or_eq_false_iff] at hb2
   refine wly hfr (v_fieldAddr (v := .pointer (some ⟨w2.heap.size, 4, none⟩)) rfl (by kernel_rfl)) fun a hfr => wly hfr (v_fieldAddr (v := .pointer (some ⟨w2.heap.size, 4, none⟩)) rfl (by kernel_rfl)) fun a hfr => wly hfr (v_load_blk1 (hst.get (k := 0) rfl) rfl (Tryz.isAgg3 _) rfl) fun a hfr => wly hfr (v_fieldAddr (v := .pointer (some ⟨w1.heap.size, 0, none⟩)) rfl (by kernel_rfl)) fun a hfr => wly hfr (v_load_blk1 (hst.get (k := 1) rfl) rfl (Tryz.isAgg3 _) rfl) fun a hfr => wly hfr (v_le rfl rfl) fun a hfr => ?_
   refine wlv hfr (v_pick_t rfl rfl) fun a hfr => ?_
   refine hj _ ?_
   try rw [hb2b]
   exact hfr.pick [28, 0, 1, 2, 3, 4, 5, 6]
  rw [hb2] at hfr
  have hb2b := hb2
  try simp only [qz, Bool.and_eq_true, Bool.or_eq_true, Bool.and_eq_false_iff, Bool.or_eq_false_iff] at hb2
  refine wln hfr fun a hfr => ?_
  refine wln hfr fun a hfr => ?_
  refine wln hfr fun a hfr => ?_
  refine wln hfr fun a hfr => ?_
  refine wln hfr fun a hfr => ?_
  refine wln hfr fun a hfr => ?_
  refine wlv hfr (v_pick_f rfl rfl) fun a hfr => ?_
  refine hj _ ?_
  try rw [hb2b]
  exact hfr.pick [28, 0, 1, 2, 3, 4, 5, 6]
 intro a hfr
 refine wlm hfr rfl fun a hfr => ?_
 refine wl_join (N := 37) (df := []) 7 [(36, .bool ((((decide (x.rf ≤ rf)) && (decide (rt ≤ x.rt))) && (decide (x.sf ≤ sf))) && (decide (st ≤ x.st)))), (0, .agg #[iv rf, iv rt]), (1, .agg #[iv sf, iv st]), (2, .agg #[iv x.frm, iv x.to, iv x.rf, iv x.rt, iv x.sf, iv x.st, sv x.sig]), (3, .pointer (some ⟨w0.heap.size, 0, none⟩)), (4, .pointer (some ⟨w1.heap.size, 0, none⟩)), (5, .pointer (some ⟨w2.heap.size, 0, none⟩)), (6, .bool false)] ?_ (fun hj => ?_)
 rotate_left
 ·rcases Bool.eq_false_or_eq_true (((decide (x.rf ≤ rf)) && (decide (rt ≤ x.rt))) && (decide (x.sf ≤ sf))) with hb3 | hb3
  ·rw [hb3] at hfr
   have hb3b := hb3
   try simp only [qz, Bool.and_eq_true, Bool.or_eq_true, Bool.and_eq_false_iff, Bool.or_eq_false_iff] at hb3
   refine wly hfr (v_fieldAddr (v := .pointer (some ⟨w1.heap.size, 1, none⟩)) rfl (by kernel_rfl)) fun a hfr => wly hfr (v_load_blk1 (hst.get (k := 1) rfl) rfl (Tryz.isAgg3 _) rfl) fun a hfr => wly hfr (v_fieldAddr (v := .pointer (some ⟨w2.heap.size, 4, none⟩)) rfl (by kernel_rfl)) fun a hfr => wly hfr (v_fieldAddr (v := .pointer (some ⟨w2.heap.size, 5, none⟩)) rfl (by kernel_rfl)) fun a hfr => wly hfr (v_load_blk1 (hst.get (k := 0) rfl) rfl (Tryz.isAgg3 _) rfl) fun a hfr => wly hfr (v_le rfl rfl) fun a hfr => ?_
   refine wlv hfr (v_pick_t rfl rfl) fun a hfr => ?_
   refine hj _ ?_
   try rw [hb3b]
   exact hfr.pick [36, 0, 1, 2, 3, 4, 5, 6]
  rw [hb3] at hfr
  have hb3b := hb3
  try simp only [qz, Bool.and_eq_true, Bool.or_eq_true, Bool.and_eq_false_iff, Bool.or_eq_false_iff] at hb3
  refine wln hfr fun a hfr => ?_
  refine wln hfr fun a hfr => ?_
  refine wln hfr fun a hfr => ?_
  refine wln hfr fun a hfr => ?_
  refine wln hfr fun a hfr => ?_
  refine wln hfr fun a hfr => ?_
  refine wlv hfr (v_pick_f rfl rfl) fun a hfr => ?_
  refine hj _ ?_
  try rw [hb3b]
  exact hfr.pick [36, 0, 1, 2, 3, 4, 5, 6]
 intro a hfr
 refine wla hfr rfl fun a hfr => ?_
 refine wl_nil (hK2 _ _ ?_)
 replace hfr : Fr 37 [(6, _)] [] a := hfr.pick [6]
 replace hst : St No w0 [] w3 := hst.mask [false, false, false]
 refine wc_ret ?_
 refine fin_ret hfr Tryz.results119 (resAre_tmp rfl resAre_nil) ?_
 exact ⟨by rfl, hst.ext⟩
def prevP (xs : List Pxy) (k : Nat) : Option Pxy := if k = 0 then none else some (xs.getD (k - 1) Pxy.z)
theorem drop_cons {α : Type} {xs : List α} {k : Nat} (d : α) (h : k < xs.length) : xs.drop k = xs.getD k d :: xs.drop (k + 1) := by
 rw [List.drop_eq_getElem_cons h, List.getD_eq_getElem?_getD, List.getElem?_eq_getElem h]; rfl
def scopeV (x : Wsh) (xs : List Pxy) : Int × Bool := match scopeBad x none xs 0 with | some n => (n, true) | none => (-1, false)
theorem scope_none {x : Wsh} {xs : List Pxy} (h : scopeBad x none xs 0 = none) : scopeV x xs = (-1, false) := by unfold scopeV; rw [h]
theorem scope_some {x : Wsh} {xs : List Pxy} {n : Int} (h : scopeBad x none xs 0 = some n) : scopeV x xs = (n, true) := by unfold scopeV; rw [h]
theorem scope_step {x : Wsh} {xs : List Pxy} {k : Nat} (hk : k < xs.length) (h : k = 0 ∨ isInH (xs.getD k Pxy.z).rf (xs.getD k Pxy.z).rt (xs.getD k Pxy.z).sf (xs.getD k Pxy.z).st (xs.getD (k - 1) Pxy.z) = true) :
  scopeBad x (prevP xs k) (xs.drop k) k = scopeBad x (prevP xs (k + 1)) (xs.drop (k + 1)) (k + 1) := by
 rw [drop_cons Pxy.z hk]
 by_cases h0 : k = 0
 ·subst h0; rfl
 ·unfold prevP
  rw [if_neg h0, if_neg (by omega), scopeBad, if_pos (h.resolve_left h0)]; rfl
theorem scope_hit {x : Wsh} {xs : List Pxy} {k : Nat} (hk : k < xs.length) (h0 : 0 < k) (h : isInH (xs.getD k Pxy.z).rf (xs.getD k Pxy.z).rt (xs.getD k Pxy.z).sf (xs.getD k Pxy.z).st (xs.getD (k - 1) Pxy.z) = false) :
  scopeBad x (prevP xs k) (xs.drop k) k = some (k : Int) := by
 rw [drop_cons Pxy.z hk]
 unfold prevP
 rw [if_neg (by omega), scopeBad, if_neg (by rw [h]; simp)]
theorem scope_end {x : Wsh} {xs : List Pxy} : scopeBad x (prevP xs xs.length) (xs.drop xs.length) xs.length = if xs.length = 0 ∨ isInH x.rf x.rt x.sf x.st (xs.getD (xs.length - 1) Pxy.z) = true then none else some (-1) := by
 rw [List.drop_length]
 unfold prevP
 by_cases h0 : xs.length = 0
 ·rw [if_pos h0, if_pos (.inl h0)]; rfl
 ·rw [if_neg h0, scopeBad]; simp [h0]
theorem scope_zero {x : Wsh} {xs : List Pxy} (h : xs.length = 0) (hs : scopeBad x none xs 0 = if xs.length = 0 ∨ isInH x.rf x.rt x.sf x.st (xs.getD (xs.length - 1) Pxy.z) = true then none else some (-1)) : scopeV x xs = (-1, false) := by
 rw [if_pos (.inl h)] at hs; exact scope_none hs
theorem scope_last {x : Wsh} {xs : List Pxy} (h : 0 < xs.length) (hs : scopeBad x none xs 0 = if xs.length = 0 ∨ isInH x.rf x.rt x.sf x.st (xs.getD (xs.length - 1) Pxy.z) = true then none else some (-1)) : scopeV x xs = (-1, !isInH x.rf x.rt x.sf x.st (xs.getD (xs.length - 1) Pxy.z)) := by
 cases hc : isInH x.rf x.rt x.sf x.st (xs.getD (xs.length - 1) Pxy.z) with
 | true => rw [if_pos (.inr hc)] at hs; exact scope_none hs
 | false => rw [if_neg (fun hh => by rcases hh with hh | hh; omega; rw [hc] at hh; cases hh)] at hs; exact scope_some hs
set_option maxHeartbeats 4000000 in
theorem scope_ok (x : Wsh) (lv : Value) (xs : List Pxy) (w0 : World) (hlv : SlAt w0 lv 7 (xs.map Pxy.cells)) :
  Ret Tryz.prog 62 #[.agg #[iv x.signer, iv x.holder, iv x.rf, iv x.rt, iv x.carrier, iv x.serial, iv x.sf, iv x.st, sv x.sig], lv] w0 fun v w => v = .tuple #[iv (scopeV x xs).1, .bool (scopeV x xs).2] ∧ Ext No w0 w := by
 have hxb := hlv.2.1
 simp only [List.length_map, big] at hxb
 refine ret_of Tryz.func62 rfl Tryz.ntmps62 (lb rfl) fun a hfr => ?_
 replace hfr : Fr 49 [(0, _), (1, _)] [] a := hfr
 replace hst : St No w0 [] w0 := St.init w0
 refine wc_seq_region fun K1 hK1 => ?_
 refine wl_box hfr hst (by decide) rfl (cs := [iv x.signer, iv x.holder, iv x.rf, iv x.rt, iv x.carrier, iv x.serial, iv x.sf, iv x.st, sv x.sig]) rfl ?_
 clear hfr hst
 intro a w1 hfr hst
 refine wla hfr rfl fun a hfr => wla hfr rfl fun a hfr => ?_
 refine wl_nil (hK1 _ _ ?_)
 refine wc_seq_k fun K2 hK2 => ?_
 refine wc_seq_region fun K3 hK3 => ?_
 refine wlm hfr rfl fun a hfr => ?_
 refine wlv hfr ((v_len_sl (sT := 31) (hst.arg hlv) rfl rfl (Tryz.runUnderlying31 _)).asi (m' := (xs.length : Int)) (by rw [List.length_map])) fun a hfr => wlm hfr rfl fun a hfr => ?_
 refine wl_nil (hK3 _ _ ?_)
 refine wc_block ?_
 refine wc_loop (fun m a w => ∃ (k : Nat), m = xs.length - k ∧ (k ≤ xs.length) ∧ (scopeBad x none xs 0 = scopeBad x (prevP xs k) (xs.drop k) k) ∧ Fr 49 [(1, lv), (2, .pointer (some ⟨w0.heap.size, 0, none⟩)), (8, lv), (9, iv (xs.length : Int)), (10, iv (k : Int))] [] a ∧ St No w0 [blk w0.heap.size [iv x.signer, iv x.holder, iv x.rf, iv x.rt, iv x.carrier, iv x.serial, iv x.sf, iv x.st, sv x.sig] 30] w) _ ⟨0, rfl, Nat.zero_le _, rfl, hfr.pick [1, 2, 8, 9, 10], hst.select [0] (by decide)⟩ ?_
 rintro _ a w2 ⟨k, rfl, hk, hs, hfr, hst⟩
 refine wc_seq_region fun K4 hK4 => ?_
 refine wlv hfr (v_lt rfl rfl) fun a hfr => ?_
 refine wl_nil (hK4 _ _ ?_)
 refine wc_seq_k fun K5 hK5 => ?_
 refine wc_cond hfr rfl (fun hc1 => ?_) (fun hc1 => ?_)
 ·rw [hc1] at hfr
  try simp only [qz] at hc1
  have hkx : k < xs.length := by omega
  refine wc_skip ?_
  refine hK5 _ _ ?_
  refine wc_seq_k fun K6 hK6 => ?_
  refine wc_block ?_
  refine wc_seq_region fun K7 hK7 => ?_
  refine wlm hfr rfl fun a hfr => ?_
  refine wlv hfr ((v_indexAddr_sl (i := (k : Int)) (sT := 31) (hst.arg hlv) rfl rfl (Tryz.runUnderlying31 _) (Tryz.sizeOf40 _) (by omega) (by rw [List.length_map]; omega)).as (v' := slAddr lv (k * 7)) rfl) fun a hfr => ?_
  refine wlv hfr ((v_load_sl (hst.arg hlv) (i := k) (by rw [List.length_map]; omega) rfl (Tryz.isAgg40 _) (Tryz.sizeOf40 _)).as (v' := .agg #[iv ((xs.getD k Pxy.z).frm), iv ((xs.getD k Pxy.z).to), iv ((xs.getD k Pxy.z).rf), iv ((xs.getD k Pxy.z).rt), iv ((xs.getD k Pxy.z).sf), iv ((xs.getD k Pxy.z).st), sv ((xs.getD k Pxy.z).sig)]) (by rw [el_at Pxy.z]; rfl)) fun a hfr => ?_
  refine wl_alloc hfr hst (by decide) (Tryz.zeroValue40 _) (cs := [iv 0, iv 0, iv 0, iv 0, iv 0, iv 0, .string (⟨#[]⟩)]) rfl ?_
  clear hfr hst
  intro a w3 hfr hst
  refine wla hfr rfl fun a hfr => ?_
  refine wl_store 0 hfr hst rfl rfl rfl (Tryz.sizeOf40 _) rfl (lb rfl) (ds := [iv ((xs.getD k Pxy.z).frm), iv ((xs.getD k Pxy.z).to), iv ((xs.getD k Pxy.z).rf), iv ((xs.getD k Pxy.z).rt), iv ((xs.getD k Pxy.z).sf), iv ((xs.getD k Pxy.z).st), sv ((xs.getD k Pxy.z).sig)]) rfl rfl ?_
  clear hfr hst
  intro a w4 hfr hst
  refine wl_nil (hK7 _ _ ?_)
  refine wc_seq_k fun K8 hK8 => ?_
  refine wc_of_dr (by kernel_rfl) (dr_of_wd (by kernel_rfl) fun w5 hxz => ?_)
  replace hst := hst.grow hxz
  refine wd_lin (k := 0) 3 [2] (by kernel_rfl) (by kernel_rfl) (by kernel_rfl) ?_
  refine wlm hfr rfl fun a hfr => ?_
  refine wlv hfr (v_gt rfl rfl) fun a hfr => wlm hfr rfl fun a hfr => ?_
  refine wl_nil ?_
  rcases Bool.eq_false_or_eq_true (decide (0 < (k : Int))) with hb2 | hb2
  ·rw [hb2] at hfr
   try simp only [qz] at hb2
   refine wd_sub (k := 3) 12 [4, 6, 11] hfr (by kernel_rfl) (by kernel_rfl) (by kernel_rfl) (by rfl) ?_
   replace hfr : Fr 49 [(1, _), (2, _), (8, _), (9, _), (10, _), (11, _), (12, _), (13, _), (14, _), (7, _), (6, _), (15, _), (16, _), (17, _)] [] a := hfr.pick [1, 2, 8, 9, 10, 11, 12, 13, 14, 7, 6, 15, 16, 17]
   refine wc_phases_q [] (fun i => match i with | _ => fun _ _ => False) 9 [[], [0], [], [2], [], [], [5], [4, 6], [7]] [.pointer (some ⟨w2.heap.size, 2, none⟩), .agg #[iv ((xs.getD k Pxy.z).rf), iv ((xs.getD k Pxy.z).rt)], .pointer (some ⟨w2.heap.size, 4, none⟩), .agg #[iv ((xs.getD k Pxy.z).sf), iv ((xs.getD k Pxy.z).st)], lv, iv (k : Int), iv ((k : Int) - 1), slAddr lv ((k - 1) * 7), .agg #[iv ((xs.getD (k - 1) Pxy.z).frm), iv ((xs.getD (k - 1) Pxy.z).to), iv ((xs.getD (k - 1) Pxy.z).rf), iv ((xs.getD (k - 1) Pxy.z).rt), iv ((xs.getD (k - 1) Pxy.z).sf), iv ((xs.getD (k - 1) Pxy.z).st), sv ((xs.getD (k - 1) Pxy.z).sig)]] hfr hst (by kernel_rfl) (by kernel_rfl) (by kernel_rfl) ?_ ?_ ?_
   ·intro i hi hiq
    match i, hi, hiq with
    | 0, _, _ =>
     intro w hst
     exact OpV.g (v_fieldAddr (v := .pointer (some ⟨w2.heap.size, 2, none⟩)) rfl (by kernel_rfl))
    | 1, _, _ =>
     intro w hst
     exact OpV.g (v_load_blk (ds := [iv ((xs.getD k Pxy.z).rf), iv ((xs.getD k Pxy.z).rt)]) (hst.get (k := 0) rfl) rfl (Tryz.isAgg27 _) (Tryz.sizeOf27 _) rfl)
    | 2, _, _ =>
     intro w hst
     exact OpV.g (v_fieldAddr (v := .pointer (some ⟨w2.heap.size, 4, none⟩)) rfl (by kernel_rfl))
    | 3, _, _ =>
     intro w hst
     exact OpV.g (v_load_blk (ds := [iv ((xs.getD k Pxy.z).sf), iv ((xs.getD k Pxy.z).st)]) (hst.get (k := 0) rfl) rfl (Tryz.isAgg28 _) (Tryz.sizeOf28 _) rfl)
    | 4, _, _ =>
     intro w hst
     exact OpV.g (v_move rfl)
    | 5, _, _ =>
     intro w hst
     exact OpV.g (v_move rfl)
    | 6, _, _ =>
     intro w hst
     exact OpV.g (v_sub rfl rfl ⟨by omega, by omega⟩)
    | 7, _, _ =>
     intro w hst
     exact OpV.g ((v_indexAddr_sl (i := (k : Int) - 1) (sT := 31) (hst.arg hlv) rfl rfl (Tryz.runUnderlying31 _) (Tryz.sizeOf40 _) (by omega) (by rw [List.length_map]; omega)).as (v' := slAddr lv ((k - 1) * 7)) (by rw [show ((k : Int) - 1).toNat = (k - 1) from by omega]))
    | 8, _, _ =>
     intro w hst
     exact OpV.g ((v_load_sl (hst.arg hlv) (i := (k - 1)) (by rw [List.length_map]; omega) rfl (Tryz.isAgg40 _) (Tryz.sizeOf40 _)).as (v' := .agg #[iv ((xs.getD (k - 1) Pxy.z).frm), iv ((xs.getD (k - 1) Pxy.z).to), iv ((xs.getD (k - 1) Pxy.z).rf), iv ((xs.getD (k - 1) Pxy.z).rt), iv ((xs.getD (k - 1) Pxy.z).sf), iv ((xs.getD (k - 1) Pxy.z).st), sv ((xs.getD (k - 1) Pxy.z).sig)]) (by rw [el_at Pxy.z]; rfl))
   ·intro i hi
    exact absurd hi (by simp)
   clear hfr hst
   intro  a w6 hfr hst
   replace hfr : Fr 49 [(18, .pointer (some ⟨w2.heap.size, 2, none⟩)), (19, .agg #[iv ((xs.getD k Pxy.z).rf), iv ((xs.getD k Pxy.z).rt)]), (20, .pointer (some ⟨w2.heap.size, 4, none⟩)), (21, .agg #[iv ((xs.getD k Pxy.z).sf), iv ((xs.getD k Pxy.z).st)]), (22, lv), (23, iv (k : Int)), (24, iv ((k : Int) - 1)), (25, slAddr lv ((k - 1) * 7)), (26, .agg #[iv ((xs.getD (k - 1) Pxy.z).frm), iv ((xs.getD (k - 1) Pxy.z).to), iv ((xs.getD (k - 1) Pxy.z).rf), iv ((xs.getD (k - 1) Pxy.z).rt), iv ((xs.getD (k - 1) Pxy.z).sf), iv ((xs.getD (k - 1) Pxy.z).st), sv ((xs.getD (k - 1) Pxy.z).sig)]), (1, _), (2, _), (8, _), (9, _), (10, _), (11, _), (12, _), (13, _), (14, _), (7, _), (6, _), (15, _), (16, _), (17, _)] [] a := hfr
   refine wl_nil ?_
   refine wd_lin (k := 12) 15 [14] (by kernel_rfl) (by kernel_rfl) (by kernel_rfl) ?_
   refine wl_callpy hfr hst (by decide) rfl (by decide) rfl Tryz.call119 rfl (isIn_ok ((xs.getD k Pxy.z).rf) ((xs.getD k Pxy.z).rt) ((xs.getD k Pxy.z).sf) ((xs.getD k Pxy.z).st) (xs.getD (k - 1) Pxy.z) _) ?_
   clear hfr hst
   intro a w7 hfr hst
   refine wly hfr (v_not rfl) fun a hfr => ?_
   refine wlv hfr (v_pick_t rfl rfl) fun a hfr => ?_
   refine wl_nil ?_
   refine wd_end (by kernel_rfl) ?_
   refine hK8 _ _ ?_
   replace hfr : Fr 49 [(1, _), (2, _), (8, _), (9, _), (10, _), (6, _), (29, _)] [] a := hfr.pick [1, 2, 8, 9, 10, 6, 29]
   replace hst : St No w0 [_] w7 := hst.mask [false, true]
   refine wc_cond hfr rfl (fun hc3 => ?_) (fun hc3 => ?_)
   ·rw [hc3] at hfr
    try simp only [qz] at hc3
    refine wc_seq_region fun K9 hK9 => ?_
    refine wlm hfr rfl fun a hfr => wla hfr rfl fun a hfr => wla hfr rfl fun a hfr => ?_
    refine wl_nil (hK9 _ _ ?_)
    refine wc_ret ?_
    refine fin_ret hfr Tryz.results62 (resAre_tmp rfl (resAre_tmp rfl resAre_nil)) ?_
    exact ⟨by simp only [retv]; rw [scope_some (by rw [hs]; exact scope_hit hkx (by omega) (by simpa using hc3))], hst.ext⟩
   rw [hc3] at hfr
   try simp only [qz] at hc3
   refine wc_skip ?_
   refine hK6 _ _ ?_
   refine wc_region ?_
   refine wlv hfr (v_add rfl rfl ⟨by omega, by omega⟩) fun a hfr => wlm hfr rfl fun a hfr => ?_
   refine wl_nil ?_
   refine ⟨_, ?_, k + 1, rfl, (by omega), (by rw [hs]; exact scope_step hkx (by first | (left; omega) | (right; simpa using hc3))), hfr.pick [1, 2, 8, 9, 10], hst.select [0] (by decide)⟩
   omega
  rw [hb2] at hfr
  try simp only [qz] at hb2
  replace hfr : Fr 49 [(1, lv), (2, .pointer (some ⟨w0.heap.size, 0, none⟩)), (8, lv), (9, iv (xs.length : Int)), (10, iv (k : Int)), (11, .bool true), (12, iv (k : Int)), (13, slAddr lv (k * 7)), (14, .agg #[iv ((xs.getD k Pxy.z).frm), iv ((xs.getD k Pxy.z).to), iv ((xs.getD k Pxy.z).rf), iv ((xs.getD k Pxy.z).rt), iv ((xs.getD k Pxy.z).sf), iv ((xs.getD k Pxy.z).st), sv ((xs.getD k Pxy.z).sig)]), (7, .pointer (some ⟨w2.heap.size, 0, none⟩)), (6, iv (k : Int)), (15, iv (k : Int)), (16, .bool false), (17, .bool false)] [] a := hfr.pick [1, 2, 8, 9, 10, 11, 12, 13, 14, 7, 6, 15, 16, 17]
  refine wd_skip (k := 3) 12 [4, 6, 11] hfr (by kernel_rfl) (by kernel_rfl) (by kernel_rfl) (by rfl) fun a hfr => ?_
  replace hfr : Fr 49 [(18, undef), (19, undef), (20, undef), (21, undef), (22, undef), (23, undef), (24, undef), (25, undef), (26, undef), (1, lv), (2, .pointer (some ⟨w0.heap.size, 0, none⟩)), (8, lv), (9, iv (xs.length : Int)), (10, iv (k : Int)), (11, .bool true), (12, iv (k : Int)), (13, slAddr lv (k * 7)), (14, .agg #[iv ((xs.getD k Pxy.z).frm), iv ((xs.getD k Pxy.z).to), iv ((xs.getD k Pxy.z).rf), iv ((xs.getD k Pxy.z).rt), iv ((xs.getD k Pxy.z).sf), iv ((xs.getD k Pxy.z).st), sv ((xs.getD k Pxy.z).sig)]), (7, .pointer (some ⟨w2.heap.size, 0, none⟩)), (6, iv (k : Int)), (15, iv (k : Int)), (16, .bool false), (17, .bool false)] [] a := hfr
  refine wd_lin (k := 12) 15 [14] (by kernel_rfl) (by kernel_rfl) (by kernel_rfl) ?_
  refine wln hfr fun a hfr => ?_
  refine wln hfr fun a hfr => ?_
  refine wlv hfr (v_pick_f rfl rfl) fun a hfr => ?_
  refine wl_nil ?_
  refine wd_end (by kernel_rfl) ?_
  refine hK8 _ _ ?_
  replace hfr : Fr 49 [(1, _), (2, _), (8, _), (9, _), (10, _), (6, _), (29, _)] [] a := hfr.pick [1, 2, 8, 9, 10, 6, 29]
  replace hst : St No w0 [_] w5 := hst.mask [false, true]
  refine wc_cond_f hfr rfl ?_
  refine wc_skip ?_
  refine hK6 _ _ ?_
  refine wc_region ?_
  refine wlv hfr (v_add rfl rfl ⟨by omega, by omega⟩) fun a hfr => wlm hfr rfl fun a hfr => ?_
  refine wl_nil ?_
  refine ⟨_, ?_, k + 1, rfl, (by omega), (by rw [hs]; exact scope_step hkx (by first | (left; omega) | (right; simpa using hb2))), hfr.pick [1, 2, 8, 9, 10], hst.select [0] (by decide)⟩
  omega
 rw [hc1] at hfr
 try simp only [qz] at hc1
 have hke : k = xs.length := by omega
 rw [hke, scope_end] at hs
 refine wc_exit ?_
 refine hK2 _ _ ?_
 refine wc_seq_k fun K10 hK10 => ?_
 refine wc_of_dr (by kernel_rfl) (dr_of_wd (by kernel_rfl) fun w8 hxz => ?_)
 replace hst := hst.grow hxz
 refine wd_lin (k := 0) 4 [3] (by kernel_rfl) (by kernel_rfl) (by kernel_rfl) ?_
 refine wlm hfr rfl fun a hfr => ?_
 refine wlv hfr ((v_len_sl (sT := 31) (hst.arg hlv) rfl rfl (Tryz.runUnderlying31 _)).asi (m' := (xs.length : Int)) (by rw [List.length_map])) fun a hfr => ?_
 refine wlv hfr (v_gt rfl rfl) fun a hfr => wlm hfr rfl fun a hfr => ?_
 refine wl_nil ?_
 rcases Bool.eq_false_or_eq_true (decide (0 < (xs.length : Int))) with hb4 | hb4
 ·rw [hb4] at hfr
  try simp only [qz] at hb4
  refine wd_sub (k := 4) 14 [5, 7, 13] hfr (by kernel_rfl) (by kernel_rfl) (by kernel_rfl) (by rfl) ?_
  replace hfr : Fr 49 [(1, _), (2, _), (8, _), (9, _), (10, _), (11, _), (32, _), (33, _), (34, _), (35, _)] [] a := hfr.pick [1, 2, 8, 9, 10, 11, 32, 33, 34, 35]
  refine wc_phases_q [] (fun i => match i with | _ => fun _ _ => False) 10 [[], [0], [], [2], [], [], [5], [6], [4, 7], [8]] [.pointer (some ⟨w0.heap.size, 2, none⟩), .agg #[iv x.rf, iv x.rt], .pointer (some ⟨w0.heap.size, 6, none⟩), .agg #[iv x.sf, iv x.st], lv, lv, iv (xs.length : Int), iv ((xs.length : Int) - 1), slAddr lv ((xs.length - 1) * 7), .agg #[iv ((xs.getD (xs.length - 1) Pxy.z).frm), iv ((xs.getD (xs.length - 1) Pxy.z).to), iv ((xs.getD (xs.length - 1) Pxy.z).rf), iv ((xs.getD (xs.length - 1) Pxy.z).rt), iv ((xs.getD (xs.length - 1) Pxy.z).sf), iv ((xs.getD (xs.length - 1) Pxy.z).st), sv ((xs.getD (xs.length - 1) Pxy.z).sig)]] hfr hst (by kernel_rfl) (by kernel_rfl) (by kernel_rfl) ?_ ?_ ?_
  ·intro i hi hiq
   match i, hi, hiq with
   | 0, _, _ =>
    intro w hst
    exact OpV.g (v_fieldAddr (v := .pointer (some ⟨w0.heap.size, 2, none⟩)) rfl (by kernel_rfl))
   | 1, _, _ =>
    intro w hst
    exact OpV.g (v_load_blk (ds := [iv x.rf, iv x.rt]) (hst.get (k := 0) rfl) rfl (Tryz.isAgg27 _) (Tryz.sizeOf27 _) rfl)
   | 2, _, _ =>
    intro w hst
    exact OpV.g (v_fieldAddr (v := .pointer (some ⟨w0.heap.size, 6, none⟩)) rfl (by kernel_rfl))
   | 3, _, _ =>
    intro w hst
    exact OpV.g (v_load_blk (ds := [iv x.sf, iv x.st]) (hst.get (k := 0) rfl) rfl (Tryz.isAgg28 _) (Tryz.sizeOf28 _) rfl)
   | 4, _, _ =>
    intro w hst
    exact OpV.g (v_move rfl)
   | 5, _, _ =>
    intro w hst
    exact OpV.g (v_move rfl)
   | 6, _, _ =>
    intro w hst
    exact OpV.g ((v_len_sl (sT := 31) (hst.arg hlv) rfl rfl (Tryz.runUnderlying31 _)).asi (m' := (xs.length : Int)) (by rw [List.length_map]))
   | 7, _, _ =>
    intro w hst
    exact OpV.g (v_sub rfl rfl ⟨by omega, by omega⟩)
   | 8, _, _ =>
    intro w hst
    exact OpV.g ((v_indexAddr_sl (i := (xs.length : Int) - 1) (sT := 31) (hst.arg hlv) rfl rfl (Tryz.runUnderlying31 _) (Tryz.sizeOf40 _) (by omega) (by rw [List.length_map]; omega)).as (v' := slAddr lv ((xs.length - 1) * 7)) (by rw [show ((xs.length : Int) - 1).toNat = (xs.length - 1) from by omega]))
   | 9, _, _ =>
    intro w hst
    exact OpV.g ((v_load_sl (hst.arg hlv) (i := (xs.length - 1)) (by rw [List.length_map]; omega) rfl (Tryz.isAgg40 _) (Tryz.sizeOf40 _)).as (v' := .agg #[iv ((xs.getD (xs.length - 1) Pxy.z).frm), iv ((xs.getD (xs.length - 1) Pxy.z).to), iv ((xs.getD (xs.length - 1) Pxy.z).rf), iv ((xs.getD (xs.length - 1) Pxy.z).rt), iv ((xs.getD (xs.length - 1) Pxy.z).sf), iv ((xs.getD (xs.length - 1) Pxy.z).st), sv ((xs.getD (xs.length - 1) Pxy.z).sig)]) (by rw [el_at Pxy.z]; rfl))
  ·intro i hi
   exact absurd hi (by simp)
  clear hfr hst
  intro  a w9 hfr hst
  replace hfr : Fr 49 [(36, .pointer (some ⟨w0.heap.size, 2, none⟩)), (37, .agg #[iv x.rf, iv x.rt]), (38, .pointer (some ⟨w0.heap.size, 6, none⟩)), (39, .agg #[iv x.sf, iv x.st]), (40, lv), (41, lv), (42, iv (xs.length : Int)), (43, iv ((xs.length : Int) - 1)), (44, slAddr lv ((xs.length - 1) * 7)), (45, .agg #[iv ((xs.getD (xs.length - 1) Pxy.z).frm), iv ((xs.getD (xs.length - 1) Pxy.z).to), iv ((xs.getD (xs.length - 1) Pxy.z).rf), iv ((xs.getD (xs.length - 1) Pxy.z).rt), iv ((xs.getD (xs.length - 1) Pxy.z).sf), iv ((xs.getD (xs.length - 1) Pxy.z).st), sv ((xs.getD (xs.length - 1) Pxy.z).sig)]), (1, _), (2, _), (8, _), (9, _), (10, _), (11, _), (32, _), (33, _), (34, _), (35, _)] [] a := hfr
  refine wl_nil ?_
  refine wd_lin (k := 14) 15 [14] (by kernel_rfl) (by kernel_rfl) (by kernel_rfl) ?_
  refine wl_callpy hfr hst (by decide) rfl (by decide) rfl Tryz.call119 rfl (isIn_ok x.rf x.rt x.sf x.st (xs.getD (xs.length - 1) Pxy.z) _) ?_
  clear hfr hst
  intro a w10 hfr hst
  refine wl_nil ?_
  refine wd_sub (k := 15) 18 [16, 17] hfr (by kernel_rfl) (by kernel_rfl) (by kernel_rfl) (by rfl) ?_
  replace hfr : Fr 49 [(1, _), (2, _), (8, _), (9, _), (10, _), (11, _), (32, _), (33, _), (34, _), (35, _), (36, _), (37, _), (38, _), (39, _), (40, _), (41, _), (42, _), (43, _), (44, _), (45, _), (46, _)] [] a := hfr.pick [1, 2, 8, 9, 10, 11, 32, 33, 34, 35, 36, 37, 38, 39, 40, 41, 42, 43, 44, 45, 46]
  refine wc_phases_q [] (fun i => match i with | _ => fun _ _ => False) 3 [[], [0], []] [.bool (!(isInH x.rf x.rt x.sf x.st (xs.getD (xs.length - 1) Pxy.z))), .bool (!(isInH x.rf x.rt x.sf x.st (xs.getD (xs.length - 1) Pxy.z))), iv (-1)] hfr hst (by kernel_rfl) (by kernel_rfl) (by kernel_rfl) ?_ ?_ ?_
  ·intro i hi hiq
   match i, hi, hiq with
   | 0, _, _ =>
    intro w hst
    exact OpV.g (v_not rfl)
   | 1, _, _ =>
    intro w hst
    exact OpV.g (v_pick_t rfl rfl)
   | 2, _, _ =>
    intro w hst
    exact OpV.g (v_assign rfl)
  ·intro i hi
   exact absurd hi (by simp)
  clear hfr hst
  intro  a w11 hfr hst
  replace hfr : Fr 49 [(47, .bool (!(isInH x.rf x.rt x.sf x.st (xs.getD (xs.length - 1) Pxy.z)))), (48, .bool (!(isInH x.rf x.rt x.sf x.st (xs.getD (xs.length - 1) Pxy.z)))), (4, iv (-1)), (1, _), (2, _), (8, _), (9, _), (10, _), (11, _), (32, _), (33, _), (34, _), (35, _), (36, _), (37, _), (38, _), (39, _), (40, _), (41, _), (42, _), (43, _), (44, _), (45, _), (46, _)] [] a := hfr
  refine wl_nil ?_
  refine wd_lin (k := 18) 19 [18] (by kernel_rfl) (by kernel_rfl) (by kernel_rfl) ?_
  refine wla hfr rfl fun a hfr => ?_
  refine wl_nil ?_
  refine wd_end (by kernel_rfl) ?_
  refine hK10 _ _ ?_
  replace hfr : Fr 49 [(4, _), (5, _)] [] a := hfr.pick [4, 5]
  replace hst : St No w0 [] w11 := hst.mask [false]
  refine wc_ret ?_
  refine fin_ret hfr Tryz.results62 (resAre_tmp rfl (resAre_tmp rfl resAre_nil)) ?_
  exact ⟨by simp only [retv]; rw [scope_last (by omega) hs], hst.ext⟩
 rw [hb4] at hfr
 try simp only [qz] at hb4
 replace hfr : Fr 49 [(1, lv), (2, .pointer (some ⟨w0.heap.size, 0, none⟩)), (8, lv), (9, iv (xs.length : Int)), (10, iv (k : Int)), (11, .bool false), (32, lv), (33, iv (xs.length : Int)), (34, .bool false), (35, .bool false)] [] a := hfr.pick [1, 2, 8, 9, 10, 11, 32, 33, 34, 35]
 refine wd_skip (k := 4) 14 [5, 7, 13] hfr (by kernel_rfl) (by kernel_rfl) (by kernel_rfl) (by rfl) fun a hfr => ?_
 replace hfr : Fr 49 [(36, undef), (37, undef), (38, undef), (39, undef), (40, undef), (41, undef), (42, undef), (43, undef), (44, undef), (45, undef), (1, lv), (2, .pointer (some ⟨w0.heap.size, 0, none⟩)), (8, lv), (9, iv (xs.length : Int)), (10, iv (k : Int)), (11, .bool false), (32, lv), (33, iv (xs.length : Int)), (34, .bool false), (35, .bool false)] [] a := hfr
 refine wd_lin (k := 14) 15 [14] (by kernel_rfl) (by kernel_rfl) (by kernel_rfl) ?_
 refine wln hfr fun a hfr => ?_
 refine wl_nil ?_
 replace hfr : Fr 49 [(36, undef), (37, undef), (38, undef), (39, undef), (40, undef), (41, undef), (42, undef), (43, undef), (44, undef), (45, undef), (1, lv), (2, .pointer (some ⟨w0.heap.size, 0, none⟩)), (8, lv), (9, iv (xs.length : Int)), (10, iv (k : Int)), (11, .bool false), (32, lv), (33, iv (xs.length : Int)), (34, .bool false), (35, .bool false), (46, undef)] [] a := hfr.pick [36, 37, 38, 39, 40, 41, 42, 43, 44, 45, 1, 2, 8, 9, 10, 11, 32, 33, 34, 35, 46]
 refine wd_mix (k := 15) 18 [16, 17] (fun i => match i with | 15 => undef | 16 => .bool false | 17 => iv (-1) | _ => undef) hfr (by kernel_rfl) (by kernel_rfl) (by kernel_rfl) (by rfl) ?_ ?_
 ·intro i h1 h2
  have hi : i = 15 ∨ i = 16 ∨ i = 17 := by omega
  rcases hi with rfl | rfl | rfl
  ·exact ⟨fun _ => rfl, fun h => by cases h⟩
  ·exact ⟨fun h => (by cases h), fun _ => v_pick_f rfl rfl⟩
  ·exact ⟨fun h => (by cases h), fun _ => v_assign rfl⟩
 intro a hfr
 replace hfr : Fr 49 [(47, undef), (48, .bool false), (4, iv (-1)), (36, undef), (37, undef), (38, undef), (39, undef), (40, undef), (41, undef), (42, undef), (43, undef), (44, undef), (45, undef), (1, lv), (2, .pointer (some ⟨w0.heap.size, 0, none⟩)), (8, lv), (9, iv (xs.length : Int)), (10, iv (k : Int)), (11, .bool false), (32, lv), (33, iv (xs.length : Int)), (34, .bool false), (35, .bool false), (46, undef)] [] a := hfr
 refine wd_lin (k := 18) 19 [18] (by kernel_rfl) (by kernel_rfl) (by kernel_rfl) ?_
 refine wla hfr rfl fun a hfr => ?_
 refine wl_nil ?_
 refine wd_end (by kernel_rfl) ?_
 refine hK10 _ _ ?_
 replace hfr : Fr 49 [(4, _), (5, _)] [] a := hfr.pick [4, 5]
 replace hst : St No w0 [] w8 := hst.mask [false]
 refine wc_ret ?_
 refine fin_ret hfr Tryz.results62 (resAre_tmp rfl (resAre_tmp rfl resAre_nil)) ?_
 exact ⟨by simp only [retv]; rw [scope_zero (by omega) hs], hst.ext⟩
theorem pickL_ok (n m : Int) (w0 : World) (hn : -9223372036854775808 ≤ n ∧ n ≤ 9223372036854775807) (hm : 0 < m ∧ m ≤ 9223372036854775807) :
  Ret Tryz.prog 11 #[iv n, iv m] w0 fun v w => v = iv (pickI n m) ∧ Ext No w0 w := by
 refine ret_of Tryz.func11 rfl Tryz.ntmps11 (lb rfl) fun a hfr => ?_
 replace hfr : Fr 13 [(0, _), (1, _)] [] a := hfr
 replace hst : St No w0 [] w0 := St.init w0
 refine wc_seq_region fun K1 hK1 => ?_
 refine wla hfr rfl fun a hfr => ?_
 refine wl_nil (hK1 _ _ ?_)
 refine wc_seq_k fun K2 hK2 => ?_
 refine wc_seq_region fun K3 hK3 => ?_
 refine wlm hfr rfl fun a hfr => ?_
 refine wlv hfr (v_lt rfl rfl) fun a hfr => ?_
 refine wl_nil (hK3 _ _ ?_)
 refine wc_cond hfr rfl (fun hc1 => ?_) (fun hc1 => ?_)
 ·rw [hc1] at hfr
  try simp only [qz] at hc1
  refine wc_region ?_
  refine wlm hfr rfl fun a hfr => ?_
  refine wlv hfr (v_add rfl rfl ⟨by omega, by omega⟩) fun a hfr => ?_
  refine wlv hfr (v_neg rfl (by omega) (by omega)) fun a hfr => wla hfr rfl fun a hfr => ?_
  refine wl_nil ?_
  refine hK2 _ _ ?_
  refine wc_seq_region fun K4 hK4 => ?_
  refine wlm hfr rfl fun a hfr => wlm hfr rfl fun a hfr => ?_
  refine wlv hfr (v_rem rfl rfl (by omega) (by omega)) fun a hfr => wla hfr rfl fun a hfr => ?_
  refine wl_nil (hK4 _ _ ?_)
  replace hfr : Fr 13 [(4, _)] [] a := hfr.pick [4]
  refine wc_ret ?_
  refine fin_ret hfr Tryz.results11 (resAre_tmp rfl resAre_nil) ?_
  exact ⟨by simp only [retv, pickI]; simp [hc1], hst.ext⟩
 rw [hc1] at hfr
 try simp only [qz] at hc1
 refine wc_skip ?_
 refine hK2 _ _ ?_
 refine wc_seq_region fun K5 hK5 => ?_
 refine wlm hfr rfl fun a hfr => wlm hfr rfl fun a hfr => ?_
 refine wlv hfr (v_rem rfl rfl (by omega) (by omega)) fun a hfr => wla hfr rfl fun a hfr => ?_
 refine wl_nil (hK5 _ _ ?_)
 replace hfr : Fr 13 [(4, _)] [] a := hfr.pick [4]
 refine wc_ret ?_
 refine fin_ret hfr Tryz.results11 (resAre_tmp rfl resAre_nil) ?_
 exact ⟨by simp only [retv, pickI]; simp [hc1], hst.ext⟩
def grantedP (to : Int) : Pxy := ⟨1, 2, 1000, 2000, 100, to, []⟩
def wishedW (to : Int) : Wsh := ⟨2, 1, 1100, 1200, 3, 7, 150, to, []⟩
theorem grantedP_ok {to : Int} (h : 100 < to) (h2 : to ≤ 10000001) : (grantedP to).ok = true := by
 show (inB 1 0 63 && inB 2 0 63 && !decide ((1 : Int) = 2) && isRangeB 1000 2000 && isSpellB 100 to) = true
 simp [inB, isRangeB, isSpellB, h, h2]
theorem wishedW_ok {to : Int} (h : 150 < to) (h2 : to ≤ 10000001) : (wishedW to).ok = true := by
 show ((inB 2 0 63 && inB 1 0 63) && isRangeB 1100 1200 && inB 3 0 7 && inB 7 0 1000000 && isSpellB 150 to) = true
 simp [inB, isRangeB, isSpellB, h, h2]
theorem granted_ok (to : Int) (w0 : World) (h1 : 100 < to) (h2 : to ≤ 10000001) (hk0 : (blk 0 (kOf.map wv) 239).ok w0) :
  Ret Tryz.prog 51 #[iv to] w0 fun v w => v = .agg (((grantedP to).sealed (keyH 1)).cells).toArray ∧ Ext No w0 w := by
 refine ret_of Tryz.func51 rfl Tryz.ntmps51 (lb rfl) fun a hfr => ?_
 replace hfr : Fr 15 [(0, _)] [] a := hfr
 replace hst : St (· = 0) w0 [blk 0 (kOf.map wv) 239] w0 := St.one hk0
 refine wc_seq_region fun K1 hK1 => ?_
 refine wl_alloc hfr hst (by decide) (Tryz.zeroValue40 _) (cs := [iv 0, iv 0, iv 0, iv 0, iv 0, iv 0, .string (⟨#[]⟩)]) rfl ?_
 clear hfr hst
 intro a w1 hfr hst
 refine wl_nil (hK1 _ _ ?_)
 refine wc_seq_region fun K2 hK2 => ?_
 refine wl_callp hfr hst (by decide) Tryz.call21 rfl (key_ok 1 _) ?_
 clear hfr hst
 intro a w2 hfr hst
 refine wlv hfr (v_build (v := .agg #[iv 1000, iv 2000]) rfl (by kernel_rfl)) fun a hfr => wlm hfr rfl fun a hfr => ?_
 refine wlv hfr (v_build (v := .agg #[iv 100, iv to]) rfl (by kernel_rfl)) fun a hfr => ?_
 refine wlv hfr (v_build (v := .agg #[iv 1, iv 2, iv 1000, iv 2000, iv 100, iv to, .string (⟨#[]⟩)]) rfl (by kernel_rfl)) fun a hfr => ?_
 refine wl_callp hfr hst (by decide) Tryz.call24 rfl (signproxy_ok (keyH 1) (grantedP to) _ (keyH_len _) (grantedP_ok h1 h2) (hst.get (k := 1) rfl)) ?_
 clear hfr hst
 intro a w3 hfr hst
 refine wlm hfr rfl fun a hfr => ?_
 refine wlv hfr (v_extract rfl rfl) fun a hfr => ?_
 refine wlv hfr (v_extract rfl rfl) fun a hfr => ?_
 refine wl_alloc hfr hst (by decide) (Tryz.zeroValue40 _) (cs := [iv 0, iv 0, iv 0, iv 0, iv 0, iv 0, .string (⟨#[]⟩)]) rfl ?_
 clear hfr hst
 intro a w4 hfr hst
 refine wl_store 0 hfr hst rfl rfl rfl (Tryz.sizeOf40 _) rfl (lb rfl) (ds := [iv 1, iv 2, iv 1000, iv 2000, iv 100, iv to, sv (sealH (keyH 1) (grantedP to).content)]) rfl rfl ?_
 clear hfr hst
 intro a w5 hfr hst
 refine wla hfr rfl fun a hfr => ?_
 refine wl_nil (hK2 _ _ ?_)
 replace hfr : Fr 15 [(2, _), (3, _)] [] a := hfr.pick [2, 3]
 refine wc_seq_region fun K3 hK3 => ?_
 refine wlv hfr (v_load_all (hst.get (k := 0) rfl) rfl (Tryz.isAgg40 _) (Tryz.sizeOf40 _)) fun a hfr => ?_
 refine wl_store 1 hfr hst rfl rfl rfl (Tryz.sizeOf40 _) rfl (lb rfl) (ds := [iv 1, iv 2, iv 1000, iv 2000, iv 100, iv to, sv (sealH (keyH 1) (grantedP to).content)]) rfl rfl ?_
 clear hfr hst
 intro a w6 hfr hst
 refine wl_nil (hK3 _ _ ?_)
 refine wc_ret ?_
 refine fin_ret hfr Tryz.results51 (resAre_cell rfl (res_all (hst.get (k := 1) rfl) (Tryz.isAgg40 _) (Tryz.sizeOf40 _)) resAre_nil) ?_
 exact ⟨rfl, hst.ext.const hk0 (hst.get (k := 2) rfl)⟩
theorem wished_ok (to : Int) (w0 : World) (h1 : 150 < to) (h2 : to ≤ 10000001) (hk0 : (blk 0 (kOf.map wv) 239).ok w0) :
  Ret Tryz.prog 50 #[iv to] w0 fun v w => v = .agg (((wishedW to).sealed (keyH 2)).cells).toArray ∧ Ext No w0 w := by
 refine ret_of Tryz.func50 rfl Tryz.ntmps50 (lb rfl) fun a hfr => ?_
 replace hfr : Fr 15 [(0, _)] [] a := hfr
 replace hst : St (· = 0) w0 [blk 0 (kOf.map wv) 239] w0 := St.one hk0
 refine wc_seq_region fun K1 hK1 => ?_
 refine wl_alloc hfr hst (by decide) (Tryz.zeroValue30 _) (cs := [iv 0, iv 0, iv 0, iv 0, iv 0, iv 0, iv 0, iv 0, .string (⟨#[]⟩)]) rfl ?_
 clear hfr hst
 intro a w1 hfr hst
 refine wl_nil (hK1 _ _ ?_)
 refine wc_seq_region fun K2 hK2 => ?_
 refine wl_callp hfr hst (by decide) Tryz.call21 rfl (key_ok 2 _) ?_
 clear hfr hst
 intro a w2 hfr hst
 refine wlv hfr (v_build (v := .agg #[iv 1100, iv 1200]) rfl (by kernel_rfl)) fun a hfr => wlm hfr rfl fun a hfr => ?_
 refine wlv hfr (v_build (v := .agg #[iv 150, iv to]) rfl (by kernel_rfl)) fun a hfr => ?_
 refine wlv hfr (v_build (v := .agg #[iv 2, iv 1, iv 1100, iv 1200, iv 3, iv 7, iv 150, iv to, .string (⟨#[]⟩)]) rfl (by kernel_rfl)) fun a hfr => ?_
 refine wl_callp hfr hst (by decide) Tryz.call22 rfl (signwish_ok (keyH 2) (wishedW to) _ (keyH_len _) (wishedW_ok h1 h2) (hst.get (k := 1) rfl)) ?_
 clear hfr hst
 intro a w3 hfr hst
 refine wlm hfr rfl fun a hfr => ?_
 refine wlv hfr (v_extract rfl rfl) fun a hfr => ?_
 refine wlv hfr (v_extract rfl rfl) fun a hfr => ?_
 refine wl_alloc hfr hst (by decide) (Tryz.zeroValue30 _) (cs := [iv 0, iv 0, iv 0, iv 0, iv 0, iv 0, iv 0, iv 0, .string (⟨#[]⟩)]) rfl ?_
 clear hfr hst
 intro a w4 hfr hst
 refine wl_store 0 hfr hst rfl rfl rfl (Tryz.sizeOf30 _) rfl (lb rfl) (ds := [iv 2, iv 1, iv 1100, iv 1200, iv 3, iv 7, iv 150, iv to, sv (sealH (keyH 2) (wishedW to).content)]) rfl rfl ?_
 clear hfr hst
 intro a w5 hfr hst
 refine wla hfr rfl fun a hfr => ?_
 refine wl_nil (hK2 _ _ ?_)
 replace hfr : Fr 15 [(2, _), (3, _)] [] a := hfr.pick [2, 3]
 refine wc_seq_region fun K3 hK3 => ?_
 refine wlv hfr (v_load_all (hst.get (k := 0) rfl) rfl (Tryz.isAgg30 _) (Tryz.sizeOf30 _)) fun a hfr => ?_
 refine wl_store 1 hfr hst rfl rfl rfl (Tryz.sizeOf30 _) rfl (lb rfl) (ds := [iv 2, iv 1, iv 1100, iv 1200, iv 3, iv 7, iv 150, iv to, sv (sealH (keyH 2) (wishedW to).content)]) rfl rfl ?_
 clear hfr hst
 intro a w6 hfr hst
 refine wl_nil (hK3 _ _ ?_)
 refine wc_ret ?_
 refine fin_ret hfr Tryz.results50 (resAre_cell rfl (res_all (hst.get (k := 1) rfl) (Tryz.isAgg30 _) (Tryz.sizeOf30 _)) resAre_nil) ?_
 exact ⟨rfl, hst.ext.const hk0 (hst.get (k := 2) rfl)⟩
end Go.Proofs.YtmmfieceinmloaaGreatDoor
namespace Go.Proofs.YtmmfieceinmloaaGreatDoor
open Go.RowKit Go.PW
set_option linter.unusedVariables false
set_option linter.unusedSimpArgs false
set_option maxRecDepth 4000
def pers : Int → List Pxy → Nat → List (Int × Int)
 | who, [], _ => [(-1, who)]
 | who, p :: l, k => ((k : Int), who) :: pers p.to l (k + 1)
def encQ (x : Int × Int) : List Value := [iv x.1, iv x.2]
def NxQ (h : Int) (xs : List Pxy) (pre : List (Int × Int)) (x : Int × Int) : Prop := ∃ suf, pers h xs 0 = pre ++ x :: suf
theorem persons_run {M : Nat → Prop} {w0 : World} (h : Int) (lv : Value) (xs : List Pxy) (lp bh bl : Nat) (J Jx : List (Int × Int) → Ent → Prop) (hY : Rounds Tryz.prog M w0 lp encQ (NxQ h xs) J Jx) (e0 : Ent) (ws : World) (hsv : ∀ H w, St M w0 H w → SlAt w lv 7 (xs.map Pxy.cells)) (hJ : J [] e0) (hst : St M w0 [e0, blk bh [iv h] 3, blk bl [lv] 31] ws) :
  Ret Tryz.prog 118 #[.func (.yield lp) #[] #[], .pointer (some ⟨bh, 0, none⟩), .pointer (some ⟨bl, 0, none⟩)] ws fun _ w => ∃ e1 Hi1, St M w0 (e1 :: Hi1) w ∧ ((∃ zs, (zs = pers h xs 0 ∧ Hi1 = [blk bh [iv h] 3, blk bl [lv] 31]) ∧ J zs e1) ∨ (∃ pre, Hi1 = [blk bh [iv h] 3, blk bl [lv] 31] ∧ Jx pre e1)) := by
 refine ret_of Tryz.func118 rfl Tryz.ntmps118 (lb rfl) fun a hfr => ?_
 replace hfr : Fr 26 [(0, _), (1, _), (2, _)] [] a := hfr
 have hlb := (hsv _ _ hst).2.1
 rw [List.length_map] at hlb
 unfold big at hlb
 refine wc_seq_region fun K1 hK1 => ?_
 refine wlv hfr (v_load_blk1 (hst.get (k := 1) rfl) rfl (Tryz.isAgg3 _) rfl) fun a hfr => wla hfr rfl fun a hfr => ?_
 refine wl_nil (hK1 _ _ ?_)
 refine wc_seq_k fun K2 hK2 => ?_
 refine wc_seq_region fun K3 hK3 => ?_
 refine wlv hfr (v_load_blk1 (hst.get (k := 2) rfl) rfl (Tryz.isAgg31 _) rfl) fun a hfr => ?_
 refine wlv hfr ((v_len_sl (sT := 31) (hsv _ _ hst) rfl rfl (Tryz.runUnderlying31 _)).asi (m' := (xs.length : Int)) (by rw [List.length_map])) fun a hfr => wlm hfr rfl fun a hfr => ?_
 refine wl_nil (hK3 _ _ ?_)
 refine wc_block ?_
 refine wc_loop (fun m a w => ∃ (k : Nat) (who : Int) (e : Ent) (dn : List (Int × Int)), m = xs.length - k ∧ (k ≤ xs.length) ∧ (pers h xs 0 = dn ++ pers who (xs.drop k) k) ∧ (J dn e) ∧ Fr 26 [(0, .func (.yield lp) #[] #[]), (8, lv), (9, iv (xs.length : Int)), (4, iv who), (10, iv (k : Int))] [] a ∧ St M w0 [e, blk bh [iv h] 3, blk bl [lv] 31] w) _ ⟨0, h, e0, [], rfl, Nat.zero_le _, rfl, hJ, hfr.pick [0, 8, 9, 4, 10], hst.select [0, 1, 2] (by decide)⟩ ?_
 rintro _ a w1 ⟨k, who, e, dn, rfl, hk, hp, hJ, hfr, hst⟩
 refine wc_seq_region fun K4 hK4 => ?_
 refine wlv hfr (v_lt rfl rfl) fun a hfr => ?_
 refine wl_nil (hK4 _ _ ?_)
 refine wc_seq_k fun K5 hK5 => ?_
 refine wc_cond hfr rfl (fun hc1 => ?_) (fun hc1 => ?_)
 ·rw [hc1] at hfr
  try simp only [qz] at hc1
  have hkx : k < xs.length := by omega
  refine wc_skip ?_
  refine hK5 _ _ ?_
  refine wc_seq_k fun K6 hK6 => ?_
  refine wc_block ?_
  refine wc_seq_region fun K7 hK7 => ?_
  refine wlm hfr rfl fun a hfr => ?_
  refine wlv hfr ((v_indexAddr_sl (i := (k : Int)) (sT := 31) (hsv _ _ hst) rfl rfl (Tryz.runUnderlying31 _) (Tryz.sizeOf40 _) (by omega) (by rw [List.length_map]; omega)).as (v' := slAddr lv (k * 7)) rfl) fun a hfr => ?_
  refine wlv hfr ((v_load_sl (hsv _ _ hst) (i := k) (by rw [List.length_map]; omega) rfl (Tryz.isAgg40 _) (Tryz.sizeOf40 _)).as (v' := .agg #[iv ((xs.getD k Pxy.z).frm), iv ((xs.getD k Pxy.z).to), iv ((xs.getD k Pxy.z).rf), iv ((xs.getD k Pxy.z).rt), iv ((xs.getD k Pxy.z).sf), iv ((xs.getD k Pxy.z).st), sv ((xs.getD k Pxy.z).sig)]) (by rw [el_at Pxy.z]; rfl)) fun a hfr => ?_
  refine wl_alloc hfr hst (by decide) (Tryz.zeroValue40 _) (cs := [iv 0, iv 0, iv 0, iv 0, iv 0, iv 0, .string (⟨#[]⟩)]) rfl ?_
  clear hfr hst
  intro a w2 hfr hst
  refine wla hfr rfl fun a hfr => ?_
  refine wl_store 0 hfr hst rfl rfl rfl (Tryz.sizeOf40 _) rfl (lb rfl) (ds := [iv ((xs.getD k Pxy.z).frm), iv ((xs.getD k Pxy.z).to), iv ((xs.getD k Pxy.z).rf), iv ((xs.getD k Pxy.z).rt), iv ((xs.getD k Pxy.z).sf), iv ((xs.getD k Pxy.z).st), sv ((xs.getD k Pxy.z).sig)]) rfl rfl ?_
  clear hfr hst
  intro a w3 hfr hst
  refine wl_nil (hK7 _ _ ?_)
  refine wc_seq_k fun K8 hK8 => ?_
  refine wc_seq_region fun K9 hK9 => ?_
  refine wlm hfr rfl fun a hfr => wlm hfr rfl fun a hfr => wlm hfr rfl fun a hfr => ?_
  refine wl_r (r_yield rfl rfl (hY.yield (pre := dn) (x := ((k : Int), who)) ⟨_, by rw [hp, drop_cons Pxy.z hkx]; rfl⟩ hJ (hst.only (i := 1) rfl))) rfl rfl hfr ?_
  clear hfr
  intro a v w4 hR hfr
  obtain ⟨y2, e3, rfl, hx, hok, hft, hJt, hJf⟩ := hR
  replace hst := hst.exchange (k := 1) rfl hx hok hft
  replace hst : St M w0 [blk w1.heap.size [iv ((xs.getD k Pxy.z).frm), iv ((xs.getD k Pxy.z).to), iv ((xs.getD k Pxy.z).rf), iv ((xs.getD k Pxy.z).rt), iv ((xs.getD k Pxy.z).sf), iv ((xs.getD k Pxy.z).st), sv ((xs.getD k Pxy.z).sig)] 40, e3, blk bh [iv h] 3, blk bl [lv] 31] w4 := hst
  clear hx hok hft
  refine wlv hfr (v_not rfl) fun a hfr => ?_
  refine wl_nil (hK9 _ _ ?_)
  replace hfr : Fr 26 [(0, _), (8, _), (9, _), (10, _), (6, _), (19, _)] [] a := hfr.pick [0, 8, 9, 10, 6, 19]
  refine wc_cond hfr rfl (fun hc4 => ?_) (fun hc4 => ?_)
  ·rw [hc4] at hfr
   try simp only [qz] at hc4
   have hJ := hJf hc4
   refine wc_ret ?_
   refine fin_ret hfr Tryz.results118 resAre_nil ?_
   exact ⟨_, _, hst.select [1, 2, 3] (by decide), .inr ⟨_, rfl, hJ⟩⟩
  rw [hc4] at hfr
  try simp only [qz] at hc4
  have hJ := hJt hc4
  refine wc_skip ?_
  refine hK8 _ _ ?_
  refine wc_region ?_
  refine wlv hfr (v_fieldAddr (v := .pointer (some ⟨w1.heap.size, 1, none⟩)) rfl (by kernel_rfl)) fun a hfr => ?_
  refine wlv hfr (v_load_blk1 (hst.get (k := 0) rfl) rfl (Tryz.isAgg3 _) rfl) fun a hfr => wla hfr rfl fun a hfr => ?_
  refine wl_nil ?_
  refine hK6 _ _ ?_
  refine wc_region ?_
  refine wlv hfr (v_add rfl rfl ⟨by omega, by omega⟩) fun a hfr => wlm hfr rfl fun a hfr => ?_
  refine wl_nil ?_
  refine ⟨_, ?_, k + 1, (xs.getD k Pxy.z).to, e3, dn ++ [((k : Int), who)], rfl, (by omega), (by rw [hp, drop_cons Pxy.z hkx, pers, List.append_assoc]; rfl), hJ, hfr.pick [0, 8, 9, 4, 10], hst.select [1, 2, 3] (by decide)⟩
  omega
 rw [hc1] at hfr
 try simp only [qz] at hc1
 obtain rfl : k = xs.length := by omega
 rw [List.drop_length] at hp
 refine wc_exit ?_
 refine hK2 _ _ ?_
 refine wc_region ?_
 refine wlm hfr rfl fun a hfr => wlm hfr rfl fun a hfr => ?_
 refine wl_r (r_yield rfl rfl (hY.yield (pre := dn) (x := ((-1 : Int), who)) ⟨[], hp⟩ hJ (hst.only (i := 0) rfl))) rfl rfl hfr ?_
 clear hfr
 intro a v w5 hR hfr
 obtain ⟨y5, e6, rfl, hx, hok, hft, hJt, hJf⟩ := hR
 replace hst := hst.exchange (k := 0) rfl hx hok hft
 replace hst : St M w0 [e6, blk bh [iv h] 3, blk bl [lv] 31] w5 := hst
 clear hx hok hft
 refine wl_nil ?_
 refine fin_end hfr Tryz.results118 resAre_nil ?_
 rcases Bool.eq_false_or_eq_true y5 with hyy | hyy
 ·exact ⟨_, _, hst.select [0, 1, 2] (by decide), .inl ⟨_, ⟨hp.symm.symm ▸ rfl, rfl⟩, hJt hyy⟩⟩
 ·exact ⟨_, _, hst.select [0, 1, 2] (by decide), .inr ⟨_, rfl, hJf hyy⟩⟩
theorem persons_iter {M : Nat → Prop} {w0 : World} (h : Int) (lv : Value) (xs : List Pxy) (bh bl : Nat) (hsv : ∀ H w, St M w0 H w → SlAt w lv 7 (xs.map Pxy.cells)) :
  Iter Tryz.prog 118 [.pointer (some ⟨bh, 0, none⟩), .pointer (some ⟨bl, 0, none⟩)] encQ (NxQ h xs) (fun zs Hi1 => zs = pers h xs 0 ∧ Hi1 = [blk bh [iv h] 3, blk bl [lv] 31]) (fun pre Hi1 => Hi1 = [blk bh [iv h] 3, blk bl [lv] 31]) M w0 [blk bh [iv h] 3, blk bl [lv] 31] :=
 fun lp J Jx w e hY hJ hst => persons_run h lv xs lp bh bl J Jx hY e w hsv hJ hst
theorem persons_ok (h : Int) (lv : Value) (xs : List Pxy) (w0 : World) (hlv : SlAt w0 lv 7 (xs.map Pxy.cells)) :
  Ret Tryz.prog 61 #[iv h, lv] w0 (MemR w0 (fun z : Nat × Nat => .func (.func 118) #[] #[.pointer (some ⟨z.1, 0, none⟩), .pointer (some ⟨z.2, 0, none⟩)]) (fun z => [blk z.2 [lv] 31, blk z.1 [iv h] 3]) (fun _ => True)) := by
 refine ret_of Tryz.func61 rfl Tryz.ntmps61 (lb rfl) fun a hfr => ?_
 replace hfr : Fr 6 [(0, _), (1, _)] [] a := hfr
 replace hst : St No w0 [] w0 := St.init w0
 refine wc_seq_region fun K1 hK1 => ?_
 refine wl_box hfr hst (by decide) rfl (cs := [iv h]) rfl ?_
 clear hfr hst
 intro a w1 hfr hst
 refine wl_box hfr hst (by decide) rfl (cs := [lv]) (by rw [(hst.arg hlv).cells]) ?_
 clear hfr hst
 intro a w2 hfr hst
 refine wla hfr rfl fun a hfr => ?_
 refine wl_nil (hK1 _ _ ?_)
 refine wc_seq_region fun K2 hK2 => ?_
 refine wlv hfr (v_makeFunc rfl rfl) fun a hfr => wla hfr rfl fun a hfr => ?_
 refine wl_nil (hK2 _ _ ?_)
 refine wc_ret ?_
 refine fin_ret hfr Tryz.results61 (resAre_tmp rfl resAre_nil) ?_
 exact ⟨(w0.heap.size, w1.heap.size), rfl, trivial, hst.ext, St.out (H := []) hst⟩
end Go.Proofs.YtmmfieceinmloaaGreatDoor
namespace Go.Proofs.YtmmfieceinmloaaGreatDoor
open Go.RowKit Go.PW
set_option linter.unusedVariables false
set_option linter.unusedSimpArgs false
set_option maxRecDepth 4000
theorem indexS_ok {M : Nat → Prop} {wb : World} {H : List Ent} {sv : Value} {els : List (List Value)} {caps : List Value} {g : FuncId} (p : Nat → Bool) (ev_ : Nat → Value) (J : Nat → Ent → Prop) (e0 : Ent) (w0 : World)
  (hen : ∀ args w, (callFunc g args).run Tryz.prog w = .ok (.enter g args) w) (hs : ∀ e w, St M wb (e :: H) w → SlAt w sv 1 els)
  (hev : ∀ k (h : k < els.length), (els[k])[0]? = some (ev_ k)) (hJ0 : J 0 e0) (hst : St M wb (e0 :: H) w0)
  (hcl : ∀ k e w, k < els.length → J k e → e.ok w → (∀ b, e.foot b → b < w.heap.size) → Ret Tryz.prog g ([ev_ k] ++ caps).toArray w fun v w' => v = .bool (p k) ∧ ∃ e', Ext e.foot w w' ∧ e'.ok w' ∧ (∀ b, e'.foot b → b < w'.heap.size ∧ (e.foot b ∨ w.heap.size ≤ b)) ∧ J (k + 1) e') :
  Ret Tryz.prog 113 #[sv, .func (.func g) #[] caps.toArray] w0 fun v w => v = iv (fstIdx p els.length) ∧ ∃ k e', J k e' ∧ St M wb (e' :: H) w := by
 have hsl := (hs _ _ hst).le
 refine ret_of Tryz.func113 rfl Tryz.ntmps113 (lb rfl) fun a hfr => ?_
 have hfr : Fr 19 [(0, _), (1, _)] [] a := hfr
 refine wc_seq_region fun K1 hK1 => ?_
 refine wla hfr rfl fun a hfr => ?_
 refine wl_nil (hK1 _ _ ?_)
 refine wc_seq_k fun K2 hK2 => ?_
 refine wc_seq_region fun K3 hK3 => ?_
 refine wlm hfr rfl fun a hfr => ?_
 refine wlv hfr (v_len_sl (sT := 32) (hs _ _ hst) rfl rfl (Tryz.runUnderlying32 _)) fun a hfr => wlm hfr rfl fun a hfr => ?_
 refine wl_nil (hK3 _ _ ?_)
 refine wc_block ?_
 refine wc_loop (fun m a w => ∃ (k : Nat) (e : Ent), m = els.length - k ∧ (k ≤ els.length) ∧ (∀ j, j < k → p j = false) ∧ (J k e) ∧ Fr 19 [(0, sv), (1, .func (.func g) #[] caps.toArray), (6, sv), (7, iv els.length), (8, iv (k : Int))] [] a ∧ St M wb (e :: H) w) _ ⟨0, e0, rfl, Nat.zero_le _, (by intro j hj; omega), hJ0, hfr.pick [0, 1, 6, 7, 8], hst⟩ ?_
 rintro _ a w1 ⟨k, e, rfl, hk, hp, hJ, hfr, hst⟩
 refine wc_seq_region fun K4 hK4 => ?_
 refine wlv hfr (v_lt rfl rfl) fun a hfr => ?_
 refine wl_nil (hK4 _ _ ?_)
 refine wc_seq_k fun K5 hK5 => ?_
 refine wc_cond hfr rfl (fun hc1 => ?_) (fun hc1 => ?_)
 ·rw [hc1] at hfr
  try simp only [qz] at hc1
  refine wc_skip ?_
  refine hK5 _ _ ?_
  refine wc_seq_k fun K6 hK6 => ?_
  refine wc_block ?_
  refine wc_seq_region fun K7 hK7 => ?_
  refine wlm hfr rfl fun a hfr => wla hfr rfl fun a hfr => ?_
  refine wl_nil (hK7 _ _ ?_)
  refine wc_seq_region fun K8 hK8 => ?_
  refine wlm hfr rfl fun a hfr => wlm hfr rfl fun a hfr => wlm hfr rfl fun a hfr => ?_
  refine wlv hfr ((v_indexAddr_sl (i := (k : Int)) (sT := 32) (hs _ _ hst) rfl rfl (Tryz.runUnderlying32 _) (Tryz.sizeOf9 _) (by omega) (by omega)).as (v' := slAddr sv (k * 1)) rfl) fun a hfr => ?_
  refine wlv hfr ((v_load_sl1 (u := ev_ k) (i := k) (j := 0) (hs _ _ hst) (by omega) rfl (Tryz.isAgg9 _) (hev k (by omega)))) fun a hfr => ?_
  refine wl_r (r_callv (cap := caps) rfl hen rfl (hcl k _ _ (by omega) hJ (hst.get (k := 0) rfl) (fun b hb => hst.lt (k := 0) rfl hb))) rfl rfl hfr fun a v w2 hR hfr => ?_
  obtain ⟨rfl, e1, hx, hok, hft, hJ1⟩ := hR
  have hst := hst.exchange (k := 0) rfl hx hok hft
  have hst : St M wb (e1 :: H) w2 := hst
  refine wl_nil (hK8 _ _ ?_)
  refine wc_cond hfr rfl (fun hc2 => ?_) (fun hc2 => ?_)
  ·rw [hc2] at hfr
   try simp only [qz] at hc2
   refine wc_seq_region fun K9 hK9 => ?_
   refine wlm hfr rfl fun a hfr => wla hfr rfl fun a hfr => ?_
   refine wl_nil (hK9 _ _ ?_)
   refine wc_ret ?_
   refine fin_ret hfr Tryz.results113 (resAre_tmp rfl resAre_nil) ?_
   exact ⟨by rw [fstIdx_some (k := k) (by omega) hp (by assumption)]; rfl, _, _, hJ1, hst⟩
  rw [hc2] at hfr
  try simp only [qz] at hc2
  refine wc_skip ?_
  refine hK6 _ _ ?_
  refine wc_region ?_
  refine wlv hfr (v_add rfl rfl ⟨by omega, by omega⟩) fun a hfr => wlm hfr rfl fun a hfr => ?_
  refine wl_nil ?_
  refine ⟨_, ?_, k + 1, e1, rfl, (by omega), (by intro j hj; by_cases h : j = k; (subst h; assumption); exact hp j (by omega)), hJ1, hfr.pick [0, 1, 6, 7, 8], hst⟩
  omega
 rw [hc1] at hfr
 try simp only [qz] at hc1
 refine wc_exit ?_
 refine hK2 _ _ ?_
 refine wc_seq_region fun K10 hK10 => ?_
 refine wla hfr rfl fun a hfr => ?_
 refine wl_nil (hK10 _ _ ?_)
 refine wc_ret ?_
 refine fin_ret hfr Tryz.results113 (resAre_tmp rfl resAre_nil) ?_
 have hkl : k = els.length := by omega
 subst hkl
 exact ⟨by rw [fstIdx_none hp]; rfl, _, _, hJ, hst⟩
theorem containsS_ok {M : Nat → Prop} {wb : World} {H : List Ent} {sv : Value} {els : List (List Value)} {caps : List Value} {g : FuncId} (p : Nat → Bool) (ev_ : Nat → Value) (J : Nat → Ent → Prop) (e0 : Ent) (w0 : World)
  (hen : ∀ args w, (callFunc g args).run Tryz.prog w = .ok (.enter g args) w) (hs : ∀ e w, St M wb (e :: H) w → SlAt w sv 1 els)
  (hev : ∀ k (h : k < els.length), (els[k])[0]? = some (ev_ k)) (hJ0 : J 0 e0) (hst : St M wb (e0 :: H) w0)
  (hcl : ∀ k e w, k < els.length → J k e → e.ok w → (∀ b, e.foot b → b < w.heap.size) → Ret Tryz.prog g ([ev_ k] ++ caps).toArray w fun v w' => v = .bool (p k) ∧ ∃ e', Ext e.foot w w' ∧ e'.ok w' ∧ (∀ b, e'.foot b → b < w'.heap.size ∧ (e.foot b ∨ w.heap.size ≤ b)) ∧ J (k + 1) e') :
  Ret Tryz.prog 57 #[sv, .func (.func g) #[] caps.toArray] w0 fun v w => v = .bool ((List.range els.length).any p) ∧ ∃ k e', J k e' ∧ St M wb (e' :: H) w := by
 refine ret_of Tryz.func57 rfl Tryz.ntmps57 (lb rfl) fun a hfr => ?_
 have hfr : Fr 9 [(0, _), (1, _)] [] a := hfr
 refine wc_seq_region fun K1 hK1 => ?_
 refine wla hfr rfl fun a hfr => ?_
 refine wl_nil (hK1 _ _ ?_)
 refine wc_seq_region fun K2 hK2 => ?_
 refine wlm hfr rfl fun a hfr => wlm hfr rfl fun a hfr => ?_
 refine wl_r (r_call Tryz.call113 rfl (indexS_ok p ev_ J e0 _ hen hs hev hJ0 hst hcl)) rfl rfl hfr fun a v w1 hR hfr => ?_
 obtain ⟨rfl, kk, e1, hJ1, hst⟩ := hR
 refine wlv hfr (v_ge rfl rfl) fun a hfr => wla hfr rfl fun a hfr => ?_
 refine wl_nil (hK2 _ _ ?_)
 refine wc_ret ?_
 refine fin_ret hfr Tryz.results57 (resAre_tmp rfl resAre_nil) ?_
 exact ⟨by rw [fstIdx_any]; rfl, _, _, hJ1, hst⟩
theorem containsP_ok {M : Nat → Prop} {wb : World} {H : List Ent} {sv : Value} {els : List (List Value)} {caps : List Value} {g : FuncId} (p : Nat → Bool) (ev_ : Nat → Value) (J : Nat → Ent → Prop) (e0 : Ent) (w0 : World)
  (hen : ∀ args w, (callFunc g args).run Tryz.prog w = .ok (.enter g args) w) (hs : ∀ e w, St M wb (e :: H) w → SlAt w sv 7 els)
  (hev : ∀ k (h : k < els.length), .agg (els[k]).toArray = ev_ k) (hJ0 : J 0 e0) (hst : St M wb (e0 :: H) w0)
  (hcl : ∀ k e w, k < els.length → J k e → e.ok w → (∀ b, e.foot b → b < w.heap.size) → Ret Tryz.prog g ([ev_ k] ++ caps).toArray w fun v w' => v = .bool (p k) ∧ ∃ e', Ext e.foot w w' ∧ e'.ok w' ∧ (∀ b, e'.foot b → b < w'.heap.size ∧ (e.foot b ∨ w.heap.size ≤ b)) ∧ J (k + 1) e') :
  Ret Tryz.prog 76 #[sv, .func (.func g) #[] caps.toArray] w0 fun v w => v = .bool ((List.range els.length).any p) ∧ ∃ k e', J k e' ∧ St M wb (e' :: H) w := by
 refine ret_of Tryz.func76 rfl Tryz.ntmps76 (lb rfl) fun a hfr => ?_
 have hfr : Fr 9 [(0, _), (1, _)] [] a := hfr
 refine wc_seq_region fun K1 hK1 => ?_
 refine wla hfr rfl fun a hfr => ?_
 refine wl_nil (hK1 _ _ ?_)
 refine wc_seq_region fun K2 hK2 => ?_
 refine wlm hfr rfl fun a hfr => wlm hfr rfl fun a hfr => ?_
 refine wl_r (r_call Tryz.call116 rfl (indexP_ok p ev_ J e0 _ hen hs hev hJ0 hst hcl)) rfl rfl hfr fun a v w1 hR hfr => ?_
 obtain ⟨rfl, kk, e1, hJ1, hst⟩ := hR
 refine wlv hfr (v_ge rfl rfl) fun a hfr => wla hfr rfl fun a hfr => ?_
 refine wl_nil (hK2 _ _ ?_)
 refine wc_ret ?_
 refine fin_ret hfr Tryz.results76 (resAre_tmp rfl resAre_nil) ?_
 exact ⟨by rw [fstIdx_any]; rfl, _, _, hJ1, hst⟩
theorem any_pxy {u : Value} {xs : List Pxy} {g : FuncId} (p : Pxy → Bool) (w0 : World) (hen : ∀ args w, (callFunc g args).run Tryz.prog w = .ok (.enter g args) w) (hs : SlAt w0 u 7 (xs.map Pxy.cells))
  (hcl : ∀ (x : Pxy) (w : World), x ∈ xs → Ret Tryz.prog g #[.agg x.cells.toArray] w fun v w' => v = .bool (p x) ∧ Ext No w w') :
  Ret Tryz.prog 76 #[u, .func (.func g) #[] #[]] w0 fun v w => v = .bool (xs.any p) ∧ Ext No w0 w := by
 have hst : St No w0 [join []] w0 := St.join [] [] (St.init w0)
 have h := containsP_ok (M := No) (wb := w0) (H := []) (sv := u) (els := xs.map Pxy.cells) (caps := []) (g := g) (fun k => p (xs.getD k Pxy.z)) (fun k => .agg (xs.getD k Pxy.z).cells.toArray) (fun _ e => e = join []) (join []) w0 hen
  (fun e w h => h.arg hs) (fun k h => by rw [el_at Pxy.z]) rfl hst (fun k e w hk he hok hlt => by
   subst he
   refine (hcl _ w (getD_mem (by simpa using hk))).mono fun v w' ⟨h1, h2⟩ => ⟨h1, join [], h2.mono (fun k _ hk => hk.elim), ?_, ?_, rfl⟩
   ·exact ⟨fun e he => (by cases he), List.Pairwise.nil⟩
   ·rintro b ⟨e, he, _⟩
    cases he)
 refine h.mono fun v w ⟨h1, k, e, he, hst⟩ => ⟨?_, hst.ext⟩
 rw [h1, List.length_map]
 congr 1
 rw [Bool.eq_iff_iff, List.any_eq_true, List.any_eq_true]
 constructor
 ·rintro ⟨k, hk, hp⟩
  exact ⟨_, getD_mem (List.mem_range.1 hk), hp⟩
 ·rintro ⟨x, hx, hp⟩
  obtain ⟨k, hk, rfl⟩ := List.getElem_of_mem hx
  exact ⟨k, List.mem_range.2 hk, by rw [List.getD_eq_getElem?_getD, List.getElem?_eq_getElem hk]; exact hp⟩
theorem any_str {u : Value} {xs : List By} {g : FuncId} (p : By → Bool) (w0 : World) (hen : ∀ args w, (callFunc g args).run Tryz.prog w = .ok (.enter g args) w) (hs : SlAt w0 u 1 (xs.map (fun s => [sv s])))
  (hcl : ∀ (x : By) (w : World), x ∈ xs → Ret Tryz.prog g #[sv x] w fun v w' => v = .bool (p x) ∧ Ext No w w') :
  Ret Tryz.prog 57 #[u, .func (.func g) #[] #[]] w0 fun v w => v = .bool (xs.any p) ∧ Ext No w0 w := by
 have hst : St No w0 [join []] w0 := St.join [] [] (St.init w0)
 have h := containsS_ok (M := No) (wb := w0) (H := []) (sv := u) (els := xs.map (fun s => [sv s])) (caps := []) (g := g) (fun k => p (xs.getD k [])) (fun k => sv (xs.getD k [])) (fun _ e => e = join []) (join []) w0 hen
  (fun e w h => h.arg hs) (fun k h => by rw [el_at []]; rfl) rfl hst (fun k e w hk he hok hlt => by
   subst he
   refine (hcl _ w (getD_mem (by simpa using hk))).mono fun v w' ⟨h1, h2⟩ => ⟨h1, join [], h2.mono (fun k _ hk => hk.elim), ?_, ?_, rfl⟩
   ·exact ⟨fun e he => (by cases he), List.Pairwise.nil⟩
   ·rintro b ⟨e, he, _⟩
    cases he)
 refine h.mono fun v w ⟨h1, k, e, he, hst⟩ => ⟨?_, hst.ext⟩
 rw [h1, List.length_map]
 congr 1
 rw [Bool.eq_iff_iff, List.any_eq_true, List.any_eq_true]
 constructor
 ·rintro ⟨k, hk, hp⟩
  exact ⟨_, getD_mem (List.mem_range.1 hk), hp⟩
 ·rintro ⟨x, hx, hp⟩
  obtain ⟨k, hk, rfl⟩ := List.getElem_of_mem hx
  exact ⟨k, List.mem_range.2 hk, by rw [List.getD_eq_getElem?_getD, List.getElem?_eq_getElem hk]; exact hp⟩
theorem why1_ok (s : By) (w0 : World) :
  Ret Tryz.prog 55 #[sv s] w0 fun v w => v = .bool (!decide ((s.length : Int) = 32)) ∧ Ext No w0 w := by
 refine ret_of Tryz.func55 rfl Tryz.ntmps55 (lb rfl) fun a hfr => ?_
 replace hfr : Fr 6 [(0, _)] [] a := hfr
 replace hst : St No w0 [] w0 := St.init w0
 refine wc_seq_region fun K1 hK1 => ?_
 refine wla hfr rfl fun a hfr => ?_
 refine wl_nil (hK1 _ _ ?_)
 refine wc_seq_region fun K2 hK2 => ?_
 refine wlm hfr rfl fun a hfr => ?_
 refine wl_callp hfr hst (by decide) Tryz.call56 rfl (isKey_ok s _) ?_
 clear hfr hst
 intro a w1 hfr hst
 refine wlv hfr (v_not rfl) fun a hfr => wla hfr rfl fun a hfr => ?_
 refine wl_nil (hK2 _ _ ?_)
 refine wc_ret ?_
 refine fin_ret hfr Tryz.results55 (resAre_tmp rfl resAre_nil) ?_
 exact ⟨by rfl, hst.ext⟩
theorem enc1_ok (x : Pxy) (w0 : World) :
  Ret Tryz.prog 75 #[.agg #[iv x.frm, iv x.to, iv x.rf, iv x.rt, iv x.sf, iv x.st, sv x.sig]] w0 fun v w => v = .bool (!decide ((x.sig.length : Int) = 32)) ∧ Ext No w0 w := by
 refine ret_of Tryz.func75 rfl Tryz.ntmps75 (lb rfl) fun a hfr => ?_
 replace hfr : Fr 7 [(0, _)] [] a := hfr
 replace hst : St No w0 [] w0 := St.init w0
 refine wc_seq_region fun K1 hK1 => ?_
 refine wl_box hfr hst (by decide) rfl (cs := [iv x.frm, iv x.to, iv x.rf, iv x.rt, iv x.sf, iv x.st, sv x.sig]) rfl ?_
 clear hfr hst
 intro a w1 hfr hst
 refine wla hfr rfl fun a hfr => ?_
 refine wl_nil (hK1 _ _ ?_)
 refine wc_seq_region fun K2 hK2 => ?_
 refine wlv hfr (v_fieldAddr (v := .pointer (some ⟨w0.heap.size, 6, none⟩)) rfl (by kernel_rfl)) fun a hfr => ?_
 refine wlv hfr (v_load_blk1 (hst.get (k := 0) rfl) rfl (Tryz.isAgg9 _) rfl) fun a hfr => ?_
 refine wlv hfr (v_len_str rfl rfl (Tryz.runUnderlying9 _)) fun a hfr => ?_
 refine wlv hfr (v_ne rfl rfl) fun a hfr => wla hfr rfl fun a hfr => ?_
 refine wl_nil (hK2 _ _ ?_)
 replace hfr : Fr 7 [(2, _)] [] a := hfr.pick [2]
 replace hst : St No w0 [] w1 := hst.mask [false]
 refine wc_ret ?_
 refine fin_ret hfr Tryz.results75 (resAre_tmp rfl resAre_nil) ?_
 exact ⟨by rfl, hst.ext⟩
end Go.Proofs.YtmmfieceinmloaaGreatDoor
namespace Go.Proofs.YtmmfieceinmloaaGreatDoor
open Go.RowKit Go.PW
set_option linter.unusedVariables false
set_option linter.unusedSimpArgs false
set_option maxRecDepth 4000
theorem acc1_run {M : Nat → Prop} {w0 : World} (b bx by_ : Nat) (v : Value) (n d : Int) (ws : World) (hx : smalls [3, n, d]) (hst : St M w0 [bld 133 b (.pointer none) v ([] : By), blk bx [iv n] 3, blk by_ [iv d] 3] ws) :
  Ret Tryz.prog 87 #[.pointer (some ⟨b, 0, none⟩), .pointer (some ⟨bx, 0, none⟩), .pointer (some ⟨by_, 0, none⟩)] ws fun u w => u = .tuple #[] ∧ ∃ v2, St M w0 [bld 133 b (.pointer (some ⟨b, 0, none⟩)) v2 (puts [3, n, d]), blk bx [iv n] 3, blk by_ [iv d] 3] w := by
 refine ret_of Tryz.func87 rfl Tryz.ntmps87 (lb rfl) fun a hfr => ?_
 replace hfr : Fr 9 [(0, _), (1, _), (2, _)] [] a := hfr
 skip
 refine wc_region ?_
 refine wlm hfr rfl fun a hfr => ?_
 refine wlv hfr (v_load_blk1 (hst.get (k := 1) rfl) rfl (Tryz.isAgg3 _) rfl) fun a hfr => ?_
 refine wlv hfr (v_load_blk1 (hst.get (k := 2) rfl) rfl (Tryz.isAgg3 _) rfl) fun a hfr => ?_
 refine wl_buildSlice (E := 3) (sz := 1) rfl [[iv 3], [iv n], [iv d]] (by kernel_rfl) (by simp) rfl (by decide) (by decide) hfr hst ?_
 clear hfr hst
 intro a w1 hfr hst
 replace hst : St M w0 [bld 133 b (.pointer none) v ([] : By), own (.slice (some ⟨ws.heap.size, 0, none⟩) 3 3) 3 1 ([[iv 3], [iv n], [iv d]]), blk bx [iv n] 3, blk by_ [iv d] 3] w1 := hst.select [1, 0, 2, 3] (by decide)
 replace hst := St.join [bld 133 b (.pointer none) v ([] : By), own (.slice (some ⟨ws.heap.size, 0, none⟩) 3 3) 3 1 ([[iv 3], [iv n], [iv d]])] [blk bx [iv n] 3, blk by_ [iv d] 3] hst
 refine wl_callE (R := fun u e' => u = .tuple #[] ∧ ∃ v2, e' = bld 133 b (.pointer (some ⟨b, 0, none⟩)) v2 (([] : By) ++ puts [3, n, d])) 0 hfr hst rfl (by decide) Tryz.call77 rfl (fun h => (numbers_ok 133 b _ _ _ _ [3, n, d] _ (by kernel_rfl) (.inl rfl) hx (by simp) (by simp) (St.unjoin [bld 133 b (.pointer none) v ([] : By), own (.slice (some ⟨ws.heap.size, 0, none⟩) 3 3) 3 1 ([[iv 3], [iv n], [iv d]])] [] h)).mono fun u w ⟨h1, v2, h2⟩ => ⟨_, ⟨h1, v2, rfl⟩, h2⟩) ?_
 clear hfr hst
 rintro a w2 _ _ ⟨rfl, v1, rfl⟩ hfr hst
 replace hst : St M w0 [bld 133 b (.pointer (some ⟨b, 0, none⟩)) v1 (([] : By) ++ puts [3, n, d]), blk bx [iv n] 3, blk by_ [iv d] 3] w2 := hst
 refine wl_nil ?_
 refine fin_end hfr Tryz.results87 resAre_nil ?_
 exact ⟨rfl, _, hst.select [0, 1, 2] (by decide)⟩
end Go.Proofs.YtmmfieceinmloaaGreatDoor
namespace Go.Proofs.YtmmfieceinmloaaGreatDoor
set_option linter.unusedVariables false
set_option linter.unusedSimpArgs false
def gv : By → Nat
 | [] => 0
 | b :: l => b.toNat % 128 + 128 * gv l
def uz (z : Nat) : Int := if z % 2 = 0 then ((z / 2 : Nat) : Int) else -((z / 2 : Nat) : Int) - 1
theorem uz_zz (n : Int) : uz (zz n) = n := by
 unfold uz zz
 split <;> split <;> omega
theorem zz_uz (z : Nat) : zz (uz z) = z := by
 unfold uz zz
 split <;> split <;> omega
def rdG : Nat → By → Option (By × By)
 | 0, _ => none
 | _ + 1, [] => none
 | f + 1, b :: s => if b.toNat < 128 then some ([b], s) else (rdG f s).map fun p => (b :: p.1, p.2)
def rdI (s : By) : Option (Int × By) :=
 match rdG 9 s with
 | none => none
 | some (l, r) => if vb 8 (gv l) = l ∧ -4611686018427387903 ≤ uz (gv l) then some (uz (gv l), r) else none
theorem gv_lt : ∀ l : By, gv l < 128 ^ l.length
 | [] => by simp [gv]
 | b :: l => by
  have h := gv_lt l
  have := Nat.mod_lt b.toNat (y := 128) (by decide)
  rw [gv, List.length_cons, Nat.pow_succ]
  omega
theorem gv_vb : ∀ (f z : Nat), z < 128 ^ (f + 1) → gv (vb f z) = z
 | 0, z, h => by
  have h : z < 128 := by simpa using h
  rw [vb, gv, ofNat_lt (by omega), gv]; omega
 | f + 1, z, h => by
  unfold vb
  split
  ·rw [gv, ofNat_lt (by omega), gv]; omega
  ·rw [gv, ofNat_lt (by omega), gv_vb f _ (by rw [Nat.pow_succ] at h; exact Nat.div_lt_of_lt_mul (by rw [Nat.mul_comm]; exact h))]
   omega
theorem rdG_vb : ∀ (f z : Nat) (r : By), z < 128 ^ (f + 1) → rdG (f + 1) (vb f z ++ r) = some (vb f z, r)
 | 0, z, r, h => by
  have h : z < 128 := by simpa using h
  rw [vb, List.cons_append, List.nil_append, rdG, ofNat_lt (by omega), if_pos h]
 | f + 1, z, r, h => by
  unfold vb
  split
  ·rw [List.cons_append, List.nil_append, rdG, ofNat_lt (by omega), if_pos (by assumption)]
  ·rw [List.cons_append, rdG, ofNat_lt (by omega), if_neg (by omega), rdG_vb f _ r (by rw [Nat.pow_succ] at h; exact Nat.div_lt_of_lt_mul (by rw [Nat.mul_comm]; exact h))]
   rfl
theorem rdG_some : ∀ {f : Nat} {s l r : By}, rdG f s = some (l, r) → s = l ++ r ∧ l.length ≤ f
 | 0, s, l, r, h => by cases h
 | f + 1, [], l, r, h => by cases h
 | f + 1, b :: s, l, r, h => by
  rw [rdG] at h
  split at h
  ·cases h; exact ⟨rfl, by simp⟩
  ·cases hq : rdG f s with
   | none => rw [hq] at h; cases h
   | some p =>
    rw [hq] at h
    obtain ⟨l1, r1⟩ := p
    cases h
    obtain ⟨h1, h2⟩ := rdG_some hq
    exact ⟨by rw [h1]; rfl, by simp; omega⟩
theorem pow128 : (128 : Nat) ^ 9 = 9223372036854775808 := by decide
theorem rdI_put {n : Int} (h : small n) (r : By) : rdI (putI n ++ r) = some (n, r) := by
 have hz := zz_lt h.1 h.2
 unfold rdI putI
 rw [rdG_vb 8 _ r (by rw [pow128]; exact hz)]
 simp only
 rw [gv_vb 8 _ (by rw [pow128]; exact hz), uz_zz, if_pos ⟨rfl, h.1⟩]
theorem rdI_some {s r : By} {n : Int} (h : rdI s = some (n, r)) : small n ∧ s = putI n ++ r := by
 unfold rdI at h
 split at h
 ·cases h
 ·rename_i l r1 hq
  split at h
  ·rename_i hc
   cases h
   obtain ⟨h1, h2⟩ := rdG_some hq
   refine ⟨⟨hc.2, ?_⟩, ?_⟩
   ·have h3 := gv_lt l
    have h4 : (128 : Nat) ^ l.length ≤ 128 ^ 9 := Nat.pow_le_pow_right (by decide) h2
    rw [pow128] at h4
    unfold uz
    split <;> omega
   ·rw [h1]; unfold putI; rw [zz_uz, hc.1]
  ·cases h
theorem canon : ∀ (f : Nat) (l : By) (b : UInt8), l.length ≤ f → (∀ c ∈ l, 128 ≤ c.toNat) → b.toNat < 128 → (vb f (gv (l ++ [b])) = l ++ [b] ↔ (l = [] ∨ b ≠ 0))
 | f, [], b, hl, hc, hb => by
  have e : gv ([] ++ [b]) = b.toNat := by simp [gv]; omega
  rw [e]
  have h2 : UInt8.ofNat b.toNat = b := by simp
  cases f with
  | zero => simp [vb]
  | succ f => rw [vb, if_pos hb]; simp
 | 0, c :: l, b, hl, hc, hb => by simp at hl
 | f + 1, c :: l, b, hl, hc, hb => by
  have hcc := hc c (by simp)
  have hc2 : c.toNat < 256 := c.toNat_lt
  have ih := canon f l b (by simpa using hl) (fun c h => hc c (by simp [h])) hb
  have e : gv (c :: l ++ [b]) = c.toNat % 128 + 128 * gv (l ++ [b]) := rfl
  have hcb : UInt8.ofNat (c.toNat % 128 + 128) = c := by
   rw [show c.toNat % 128 + 128 = c.toNat from by omega]; simp
  constructor
  ·intro h
   right
   intro hb0
   rw [e, vb] at h
   split at h
   ·have := congrArg List.length h
    simp at this
   ·rename_i h128
    rw [List.cons_append] at h
    injection h with h1 h2
    rw [show (c.toNat % 128 + 128 * gv (l ++ [b])) / 128 = gv (l ++ [b]) from by omega] at h2
    rcases ih.1 h2 with rfl | h3
    ·subst hb0
     simp [gv] at h128; omega
    ·exact h3 hb0
  ·intro h
   have hb0 : b ≠ 0 := h.resolve_left (by simp)
   have hpos : ∀ l : By, 0 < gv (l ++ [b]) := by
    intro l
    induction l with
    | nil =>
     have : b.toNat ≠ 0 := fun h0 => hb0 (UInt8.toNat_inj.1 (by rw [h0]; rfl))
     simp [gv]; omega
    | cons d l ih => rw [List.cons_append, gv]; omega
   have hp := hpos l
   rw [e, vb, if_neg (by omega), show (c.toNat % 128 + 128 * gv (l ++ [b])) / 128 = gv (l ++ [b]) from by omega, show (c.toNat % 128 + 128 * gv (l ++ [b])) % 128 = c.toNat % 128 from by omega, hcb, ih.2 (.inr hb0)]
   rfl
theorem gv_snoc : ∀ (l : By) (b : UInt8), gv (l ++ [b]) = gv l + b.toNat % 128 * 128 ^ l.length
 | [], b => by simp [gv]
 | c :: l, b => by
  rw [List.cons_append, gv, gv_snoc l b, gv, List.length_cons, Nat.pow_succ, Nat.mul_add, Nat.add_assoc]
  congr 1
  congr 1
  rw [Nat.mul_comm, Nat.mul_assoc]
def wI : Nat → Nat → Nat → By → Option (Int × Nat)
 | 0, _, _, _ => none
 | _ + 1, _, _, [] => none
 | f + 1, i, z, b :: s =>
  if b.toNat < 128 then (if (b = 0 ∧ 0 < i) ∨ uz (z + b.toNat % 128 * 128 ^ i) < -4611686018427387903 then none else some (uz (z + b.toNat % 128 * 128 ^ i), i + 1))
  else wI f (i + 1) (z + b.toNat % 128 * 128 ^ i) s
theorem wI_gen : ∀ (f : Nat) (l s : By), f + l.length = 9 → (∀ c ∈ l, 128 ≤ c.toNat) →
  wI f l.length (gv l) s = match rdG f s with
   | none => none
   | some (m, r) => if vb 8 (gv (l ++ m)) = l ++ m ∧ -4611686018427387903 ≤ uz (gv (l ++ m)) then some (uz (gv (l ++ m)), (l ++ m).length) else none
 | 0, l, s, hf, hl => rfl
 | f + 1, l, [], hf, hl => rfl
 | f + 1, l, b :: s, hf, hl => by
  rw [wI, rdG]
  by_cases hb : b.toNat < 128
  ·rw [if_pos hb, if_pos hb]
   simp only
   rw [← gv_snoc]
   have hc := canon 8 l b (by omega) hl hb
   have h0 : 0 < l.length ↔ l ≠ [] := by rw [List.length_pos_iff]
   by_cases h1 : vb 8 (gv (l ++ [b])) = l ++ [b]
   ·have h2 := hc.1 h1
    by_cases h3 : uz (gv (l ++ [b])) < -4611686018427387903
    ·rw [if_pos (.inr h3), if_neg (by omega)]
    ·rw [if_neg, if_pos ⟨h1, by omega⟩]
     ·simp
     ·rintro (⟨h4, h5⟩ | h4)
      ·rcases h2 with h2 | h2
       ·exact (h0.1 h5) h2
       ·exact h2 h4
      ·exact h3 h4
   ·have h2 : ¬ (l = [] ∨ b ≠ 0) := fun h => h1 (hc.2 h)
    rw [if_pos, if_neg (fun h => h1 h.1)]
    refine .inl ⟨?_, ?_⟩
    ·exact Classical.byContradiction fun h => h2 (.inr h)
    ·exact h0.2 fun h => h2 (.inl h)
  ·rw [if_neg hb, if_neg hb, ← gv_snoc]
   have := wI_gen f (l ++ [b]) s (by simp; omega) (by
    intro c h
    rcases List.mem_append.1 h with h | h
    ·exact hl c h
    ·rw [List.mem_singleton.1 h]; omega)
   rw [List.length_append, List.length_cons, List.length_nil] at this
   rw [this]
   cases hq : rdG f s with
   | none => rfl
   | some p => simp [List.append_assoc]
theorem wI_rdI (s : By) : wI 9 0 0 s = (rdI s).map fun p => (p.1, s.length - p.2.length) := by
 have h := wI_gen 9 [] s rfl (by simp)
 rw [show gv [] = 0 from rfl, show ([] : By).length = 0 from rfl] at h
 rw [h]
 unfold rdI
 cases hq : rdG 9 s with
 | none => rfl
 | some p =>
  obtain ⟨m, r⟩ := p
  obtain ⟨h1, h2⟩ := rdG_some hq
  simp only [List.nil_append]
  split
  ·rw [h1]; simp
  ·rfl
section
variable {α : Type}
def getI (s : By) (k : Int → By → Option α) : Option α := match rdI s with
 | some (n, r) => k n r
 | none => none
def kindI (x : Int) (s : By) (k : By → Option α) : Option α := getI s fun n r => if n = x then k r else none
def getD32 (s : By) (k : By → By → Option α) : Option α := if 32 ≤ s.length then k (s.take 32) (s.drop 32) else none
def rdPxy (s : By) (k : Pxy → By → Option α) : Option α := kindI 2 s fun s => getI s fun a s => getI s fun b s => getI s fun c s => getI s fun d s => getI s fun e s => getI s fun f s => getD32 s fun g s => k ⟨a, b, c, d, e, f, g⟩ s
def rdWsh (s : By) (k : Wsh → By → Option α) : Option α := kindI 1 s fun s => getI s fun a s => getI s fun b s => getI s fun c s => getI s fun d s => getI s fun e s => getI s fun f s => getI s fun g s => getI s fun h s => getD32 s fun y s => k ⟨a, b, c, d, e, f, g, h, y⟩ s
def rdPxys : Nat → List Pxy → By → (List Pxy → By → Option α) → Option α
 | 0, acc, s, k => k acc s
 | n + 1, acc, s, k => rdPxy s fun p s => rdPxys n (acc ++ [p]) s k
theorem getI_ok {s r : By} {n : Int} {k : Int → By → Option α} (h : rdI s = some (n, r)) : getI s k = k n r := by unfold getI; rw [h]
theorem getI_bad {s : By} {k : Int → By → Option α} (h : rdI s = none) : getI s k = none := by unfold getI; rw [h]
theorem getI_put {n : Int} (h : small n) (r : By) (k : Int → By → Option α) : getI (putI n ++ r) k = k n r := getI_ok (rdI_put h r)
theorem getI_some {s : By} {k : Int → By → Option α} {x : α} (h : getI s k = some x) : ∃ n r, small n ∧ s = putI n ++ r ∧ k n r = some x := by
 unfold getI at h
 split at h
 ·rename_i n r hq
  obtain ⟨h1, h2⟩ := rdI_some hq
  exact ⟨n, r, h1, h2, h⟩
 ·cases h
theorem kindI_some {y : Int} {s : By} {k : By → Option α} {x : α} (h : kindI y s k = some x) : ∃ r, s = putI y ++ r ∧ k r = some x := by
 obtain ⟨n, r, h1, h2, h3⟩ := getI_some h
 split at h3
 ·rename_i e; exact ⟨r, by rw [h2, e], h3⟩
 ·cases h3
theorem getD32_some {s : By} {k : By → By → Option α} {x : α} (h : getD32 s k = some x) : ∃ g r, g.length = 32 ∧ s = g ++ r ∧ k g r = some x := by
 unfold getD32 at h
 split at h
 ·exact ⟨s.take 32, s.drop 32, by rw [List.length_take]; omega, (List.take_append_drop 32 s).symm, h⟩
 ·cases h
theorem getD32_put {g : By} (h : g.length = 32) (r : By) (k : By → By → Option α) : getD32 (g ++ r) k = k g r := by
 unfold getD32
 rw [if_pos (by rw [List.length_append]; omega), ← h, List.take_left, List.drop_left]
def Pxy.text (p : Pxy) : By := p.content ++ p.sig
def Wsh.text (w : Wsh) : By := w.content ++ w.sig
theorem rdPxy_some {s : By} {k : Pxy → By → Option α} {x : α} (h : rdPxy s k = some x) : ∃ p r, p.sig.length = 32 ∧ s = p.text ++ r ∧ k p r = some x := by
 obtain ⟨s1, rfl, h1⟩ := kindI_some h
 obtain ⟨a, s2, -, rfl, h2⟩ := getI_some h1
 obtain ⟨b, s3, -, rfl, h3⟩ := getI_some h2
 obtain ⟨c, s4, -, rfl, h4⟩ := getI_some h3
 obtain ⟨d, s5, -, rfl, h5⟩ := getI_some h4
 obtain ⟨e, s6, -, rfl, h6⟩ := getI_some h5
 obtain ⟨f, s7, -, rfl, h7⟩ := getI_some h6
 obtain ⟨g, s8, hg, rfl, h8⟩ := getD32_some h7
 exact ⟨⟨a, b, c, d, e, f, g⟩, s8, hg, by simp [Pxy.text, Pxy.content, puts], h8⟩
theorem rdWsh_some {s : By} {k : Wsh → By → Option α} {x : α} (h : rdWsh s k = some x) : ∃ w r, w.sig.length = 32 ∧ s = w.text ++ r ∧ k w r = some x := by
 obtain ⟨s1, rfl, h1⟩ := kindI_some h
 obtain ⟨a, s2, -, rfl, h2⟩ := getI_some h1
 obtain ⟨b, s3, -, rfl, h3⟩ := getI_some h2
 obtain ⟨c, s4, -, rfl, h4⟩ := getI_some h3
 obtain ⟨d, s5, -, rfl, h5⟩ := getI_some h4
 obtain ⟨e, s6, -, rfl, h6⟩ := getI_some h5
 obtain ⟨f, s7, -, rfl, h7⟩ := getI_some h6
 obtain ⟨f2, s9, -, rfl, h8⟩ := getI_some h7
 obtain ⟨f3, s10, -, rfl, h9⟩ := getI_some h8
 obtain ⟨g, s8, hg, rfl, h10⟩ := getD32_some h9
 exact ⟨⟨a, b, c, d, e, f, f2, f3, g⟩, s8, hg, by simp [Wsh.text, Wsh.content, puts], h10⟩
theorem kindI_put {n : Int} (h : small n) (r : By) (k : By → Option α) : kindI n (putI n ++ r) k = k r := by
 unfold kindI; rw [getI_put h, if_pos rfl]
theorem rdPxy_put {p : Pxy} (h : p.ok = true) (hs : p.sig.length = 32) (r : By) (k : Pxy → By → Option α) : rdPxy (p.text ++ r) k = k p r := by
 simp only [Pxy.ok, inB, isRangeB, isSpellB, Bool.and_eq_true, decide_eq_true_eq] at h
 unfold rdPxy Pxy.text Pxy.content
 simp only [puts, List.flatMap_cons, List.flatMap_nil, List.append_assoc, List.nil_append]
 rw [kindI_put (by unfold small; omega), getI_put (by unfold small; omega), getI_put (by unfold small; omega), getI_put (by unfold small; omega), getI_put (by unfold small; omega), getI_put (by unfold small; omega), getI_put (by unfold small; omega), getD32_put hs]
theorem rdWsh_put {w : Wsh} (h : w.ok = true) (hs : w.sig.length = 32) (r : By) (k : Wsh → By → Option α) : rdWsh (w.text ++ r) k = k w r := by
 simp only [Wsh.ok, inB, isRangeB, isSpellB, Bool.and_eq_true, decide_eq_true_eq] at h
 unfold rdWsh Wsh.text Wsh.content
 simp only [puts, List.flatMap_cons, List.flatMap_nil, List.append_assoc, List.nil_append]
 rw [kindI_put (by unfold small; omega), getI_put (by unfold small; omega), getI_put (by unfold small; omega), getI_put (by unfold small; omega), getI_put (by unfold small; omega), getI_put (by unfold small; omega), getI_put (by unfold small; omega), getI_put (by unfold small; omega), getI_put (by unfold small; omega), getD32_put hs]
theorem rdPxys_some : ∀ {n : Nat} {acc : List Pxy} {s : By} {k : List Pxy → By → Option α} {x : α}, rdPxys n acc s k = some x → ∃ l r, l.length = n ∧ (∀ p ∈ l, p.sig.length = 32) ∧ s = l.flatMap Pxy.text ++ r ∧ k (acc ++ l) r = some x
 | 0, acc, s, k, x, h => ⟨[], s, rfl, by simp, rfl, by rw [List.append_nil]; exact h⟩
 | n + 1, acc, s, k, x, h => by
  obtain ⟨p, r, hp, rfl, h0⟩ := rdPxy_some h
  obtain ⟨l, q, h1, h2, rfl, h3⟩ := rdPxys_some h0
  refine ⟨p :: l, q, by simp [h1], ?_, by simp, by simpa using h3⟩
  intro z hz
  rcases List.mem_cons.1 hz with rfl | hz
  ·exact hp
  ·exact h2 z hz
theorem rdPxys_put : ∀ {l : List Pxy} {acc : List Pxy} (r : By) (k : List Pxy → By → Option α), (∀ p ∈ l, p.ok = true) → (∀ p ∈ l, p.sig.length = 32) → rdPxys l.length acc (l.flatMap Pxy.text ++ r) k = k (acc ++ l) r
 | [], acc, r, k, h1, h2 => by simp [rdPxys]
 | p :: l, acc, r, k, h1, h2 => by
  rw [List.length_cons, rdPxys, List.flatMap_cons, List.append_assoc, rdPxy_put (h1 p (by simp)) (h2 p (by simp)), rdPxys_put r k (fun p h => h1 p (by simp [h])) (fun p h => h2 p (by simp [h]))]
  simp
end
theorem badIdx_all : ∀ {l : List Pxy} {k : Nat}, badIdx l k = none → ∀ p ∈ l, p.ok = true
 | [], k, h => by simp
 | q :: l, k, h => by
  rw [badIdx] at h
  split at h
  ·rename_i hq
   intro p hp
   rcases List.mem_cons.1 hp with rfl | hp
   ·exact hq
   ·exact badIdx_all h p hp
  ·cases h
def shutH (l : List Pxy) (w : Wsh) (r : By) : Option (Wsh × List Pxy) := if r = [] ∧ formedH w l = true then some (w, l) else none
def tailH (l : List Pxy) (s : By) : Option (Wsh × List Pxy) := rdWsh s (shutH l)
def decodeH (s : By) : Option (Wsh × List Pxy) := getI s fun n r => if inB n 0 4 = true then rdPxys n.toNat [] r tailH else none
def sealedH (w : Wsh) (l : List Pxy) : Bool := decide (w.sig.length = 32) && l.all fun p => decide (p.sig.length = 32)
def encodeH (w : Wsh) (l : List Pxy) : Option By := if formedH w l && sealedH w l then some (putI (l.length : Int) ++ (l.flatMap Pxy.text ++ w.text)) else none
theorem encode_some {w : Wsh} {l : List Pxy} {s : By} : encodeH w l = some s ↔ formedH w l = true ∧ w.sig.length = 32 ∧ (∀ p ∈ l, p.sig.length = 32) ∧ s = putI (l.length : Int) ++ (l.flatMap Pxy.text ++ w.text) := by
 unfold encodeH sealedH
 constructor
 ·intro h
  split at h
  ·rename_i hc
   cases h
   simpa [and_assoc] using hc
  ·cases h
 ·rintro ⟨h1, h2, h3, rfl⟩
  rw [if_pos (by simp [h1, h2]; exact h3)]
theorem decode_encode {w : Wsh} {l : List Pxy} {s : By} (h : encodeH w l = some s) : decodeH s = some (w, l) := by
 obtain ⟨h1, h2, h3, rfl⟩ := encode_some.1 h
 have hf := h1
 simp only [formedH, Bool.and_eq_true, decide_eq_true_eq, Option.isNone_iff_eq_none] at h1
 obtain ⟨⟨h4, h5⟩, h6⟩ := h1
 unfold decodeH
 rw [getI_put (by unfold small; omega), if_pos (by simp [inB]; omega), Int.toNat_natCast, rdPxys_put _ _ (badIdx_all h6) h3]
 unfold tailH
 have := rdWsh_put h4 h2 [] (shutH ([] ++ l))
 rw [List.append_nil] at this
 rw [this, List.nil_append]
 exact if_pos ⟨rfl, hf⟩
theorem encode_decode {w : Wsh} {l : List Pxy} {s : By} (h : decodeH s = some (w, l)) : encodeH w l = some s := by
 obtain ⟨n, r, h1, rfl, k⟩ := getI_some h
 clear h
 split at k
 ·rename_i hn
  obtain ⟨m, q, h2, h3, rfl, k2⟩ := rdPxys_some k
  clear k
  obtain ⟨v, q, h4, rfl, k3⟩ := rdWsh_some k2
  clear k2
  unfold shutH at k3
  split at k3
  ·rename_i hc
   obtain ⟨rfl, hf⟩ := hc
   cases k3
   simp only [inB, Bool.and_eq_true, decide_eq_true_eq] at hn
   refine encode_some.2 ⟨hf, h4, h3, ?_⟩
   rw [List.nil_append, h2, Int.toNat_of_nonneg hn.1, List.append_nil]
  ·cases k3
 ·cases k
end Go.Proofs.YtmmfieceinmloaaGreatDoor
namespace Go.Proofs.YtmmfieceinmloaaGreatDoor
open Go.RowKit Go.PW
set_option linter.unusedVariables false
set_option linter.unusedSimpArgs false
set_option maxRecDepth 4000
theorem ext_const2 {w0 w : World} {b1 b2 : Nat} {c1 c2 : List Value} {T1 T2 : TypeId} (h : Ext (fun k => k = b1 ∨ k = b2) w0 w) (h1 : (blk b1 c1 T1).ok w0) (h1' : (blk b1 c1 T1).ok w) (h2 : (blk b2 c2 T2).ok w0) (h2' : (blk b2 c2 T2).ok w) : Ext No w0 w := by
 refine ⟨h.os, h.tape, h.output, h.size, fun k hk _ => ?_⟩
 by_cases e1 : k = b1
 ·subst e1; exact Eq.trans h1' (Eq.symm h1)
 ·by_cases e2 : k = b2
  ·subst e2; exact Eq.trans h2' (Eq.symm h2)
  ·exact h.same k hk fun hh => hh.elim e1 e2
theorem st_fresh {w0 w : World} {H : List Ent} {i b g : Nat} {cs c1 : List Value} {T T1 : TypeId} (h : St No w0 H w) (hi : H[i]? = some (blk b cs T)) (hg : (blk g c1 T1).ok w0) : b ≠ g := by
 rintro rfl
 exact ((h.ok _ (List.mem_of_getElem? hi)).2 b rfl).2 (Array.getElem?_eq_some_iff.1 hg).1
theorem seal_pure (key content : By) (g : FuncId) (bx : Nat) (cs : List Value) (T : TypeId) (w0 : World) (hen : ∀ args w, (callFunc g args).run Tryz.prog w = .ok (.enter g args) w)
  (hc : ∀ {M : Nat → Prop} {w0 : World} (b : Nat) (v : Value) (ws : World), St M w0 [bld 133 b (.pointer none) v [], blk bx cs T] ws → Ret Tryz.prog g ([Value.pointer (some ⟨b, 0, none⟩)] ++ [Value.pointer (some ⟨bx, 0, none⟩)]).toArray ws fun u w => u = .tuple #[] ∧ ∃ v2, St M w0 [bld 133 b (.pointer (some ⟨b, 0, none⟩)) v2 content, blk bx cs T] w)
  (hne : content ≠ []) (hkl : key.length ≤ 40000000) (hcl : content.length ≤ 40000000) (hk0 : (blk 0 (kOf.map wv) 239).ok w0) (hbx : (blk bx cs T).ok w0) (hgb : bx ≠ 0) :
  Ret Tryz.prog 63 #[sv key, .func (.func g) #[] #[.pointer (some ⟨bx, 0, none⟩)]] w0 fun v w => v = sv (sealH key content) ∧ Ext No w0 w := by
 have hst : St (fun k => k = 0 ∨ k = bx) w0 [(blk 0 (kOf.map wv) 239), blk bx cs T] w0 := by
  refine ⟨Ext.refl _ _, fun e he => ?_, ?_⟩
  ·simp only [List.mem_cons, List.not_mem_nil, or_false] at he
   rcases he with rfl | rfl
   ·exact ⟨hk0, fun k hk => by cases hk; exact ⟨(Array.getElem?_eq_some_iff.1 hk0).1, fun _ => .inl rfl⟩⟩
   ·exact ⟨hbx, fun k hk => by cases hk; exact ⟨(Array.getElem?_eq_some_iff.1 hbx).1, fun _ => .inr rfl⟩⟩
  ·refine List.Pairwise.cons (fun e he k hk hk' => ?_) (List.pairwise_singleton _ _)
   simp only [List.mem_cons, List.not_mem_nil, or_false] at he
   subst he
   cases hk
   exact hgb (Eq.symm hk')
 exact (seal_ok key content g [.pointer (some ⟨bx, 0, none⟩)] (blk bx cs T) w0 hen hc hne hkl hcl hst).mono fun v w ⟨h1, h2⟩ => ⟨h1, ext_const2 h2.ext hk0 (h2.get (k := 0) rfl) hbx (h2.get (k := 1) rfl)⟩
theorem bad_some : ∀ {l : List Pxy} {k i : Nat}, badIdx l k = some i → k ≤ i ∧ i - k < l.length ∧ (l.getD (i - k) Pxy.z).ok = false ∧ ∀ j, j < i - k → (l.getD j Pxy.z).ok = true
 | [], k, i, h => by cases h
 | p :: l, k, i, h => by
  rw [badIdx] at h
  split at h
  ·rename_i hp
   obtain ⟨h1, h2, h3, h4⟩ := bad_some h
   have e : i - k = (i - (k + 1)) + 1 := by omega
   refine ⟨by omega, by simp; omega, by rw [e]; exact h3, fun j hj => ?_⟩
   cases j with
   | zero => exact hp
   | succ j => exact h4 j (by omega)
  ·rename_i hp
   cases h
   refine ⟨Nat.le_refl _, by simp, by rw [Nat.sub_self]; simpa using hp, fun j hj => by omega⟩
theorem bad_idx (l : List Pxy) : badN l = match badIdx l 0 with | some i => (i : Int) | none => -1 := by
 cases h : badIdx l 0 with
 | none =>
  refine fstIdx_none fun j hj => ?_
  rw [badIdx_all h _ (getD_mem hj)]; rfl
 | some i =>
  obtain ⟨_, h2, h3, h4⟩ := bad_some h
  rw [Nat.sub_zero] at h2 h3 h4
  exact fstIdx_some h2 (fun j hj => by rw [h4 j hj]; rfl) (by rw [h3]; rfl)
theorem bad_none_of {l : List Pxy} (h : badN l < 0) : badIdx l 0 = none := by
 rw [bad_idx] at h
 cases hb : badIdx l 0 with
 | none => rfl
 | some i => rw [hb] at h; simp only at h; omega
theorem formed_bad (x : Wsh) (l : List Pxy) : (x.ok && decide ((l.length : Int) ≤ 4) && decide (badN l < 0)) = formedH x l := by
 unfold formedH
 rw [bad_idx]
 congr 1
 ·congr 1
  exact decide_eq_decide.2 (by omega)
 ·cases badIdx l 0 with
  | none => rfl
  | some i => exact decide_eq_false (by simp only; omega)
section
variable {ks : List By} {x : Wsh} {ps : List Pxy} {number t : Int}
abbrev formB (ks : List By) (x : Wsh) (ps : List Pxy) : Prop := 64 < ks.length ∨ (ks.all fun s => decide (s.length = 32)) = false ∨ x.ok = false ∨ 4 < ps.length
theorem any_keys : (ks.any fun s => !decide ((s.length : Int) = 32)) = !(ks.all fun s => decide (s.length = 32)) := by
 rw [List.all_eq_not_any_not, Bool.not_not]
 congr 1
 funext s
 congr 1
 exact decide_eq_decide.2 (by omega)
theorem keys_32 (h : ¬ formB ks x ps) : ∀ s ∈ ks, s.length = 32 := by
 have : (ks.all fun s => decide (s.length = 32)) = true := by
  cases hh : (ks.all fun s => decide (s.length = 32)) with
  | true => rfl
  | false => exact absurd (.inr (.inl hh)) h
 intro s hs
 exact of_decide_eq_true (List.all_eq_true.1 this s hs)
theorem why_form (h : formB ks x ps) : whyH ks x ps number t = (1, -1) := by unfold whyH; rw [if_pos h]
theorem why_bad (h : ¬ formB ks x ps) (hb : 0 ≤ badN ps) : whyH ks x ps number t = (1, badN ps) := by
 unfold whyH; rw [if_neg h]
 rw [bad_idx] at hb ⊢
 cases he : badIdx ps 0 with
 | none => rw [he] at hb; simp only at hb; omega
 | some i => rfl
def whyP (ks : List By) (x : Wsh) (ps : List Pxy) (number t : Int) : Prop := ¬ formB ks x ps ∧ badIdx ps 0 = none ∧ inB t x.sf (x.st - 1) = true ∧ inB number x.rf (x.rt - 1) = true
theorem why_time (h : ¬ formB ks x ps) (hb : badIdx ps 0 = none) (ht : inB t x.sf (x.st - 1) = false) : whyH ks x ps number t = (2, -1) := by
 unfold whyH; rw [if_neg h, hb]; simp only; rw [if_pos ht]
theorem why_num (h : ¬ formB ks x ps) (hb : badIdx ps 0 = none) (ht : inB t x.sf (x.st - 1) = true) (hn : inB number x.rf (x.rt - 1) = false) : whyH ks x ps number t = (3, -1) := by
 unfold whyH; rw [if_neg h, hb]; simp only; rw [if_neg (by rw [ht]; decide), if_pos hn]
theorem why_chain {i : Int} (h : whyP ks x ps number t) (hc : chainBad x.signer x.holder ps 0 = some i) : whyH ks x ps number t = (4, i) := by
 obtain ⟨h, hb, ht, hn⟩ := h
 unfold whyH; rw [if_neg h, hb]; simp only; rw [if_neg (by rw [ht]; decide), if_neg (by rw [hn]; decide), hc]
theorem why_scope {i : Int} (h : whyP ks x ps number t) (hc : chainBad x.signer x.holder ps 0 = none) (hs : scopeBad x none ps 0 = some i) : whyH ks x ps number t = (5, i) := by
 obtain ⟨h, hb, ht, hn⟩ := h
 unfold whyH; rw [if_neg h, hb]; simp only; rw [if_neg (by rw [ht]; decide), if_neg (by rw [hn]; decide), hc]; simp only; rw [hs]
theorem why_seal {i : Int} (h : whyP ks x ps number t) (hc : chainBad x.signer x.holder ps 0 = none) (hs : scopeBad x none ps 0 = none) (hl : sealBad ks x ps 0 = some i) : whyH ks x ps number t = (6, i) := by
 obtain ⟨h, hb, ht, hn⟩ := h
 unfold whyH; rw [if_neg h, hb]; simp only; rw [if_neg (by rw [ht]; decide), if_neg (by rw [hn]; decide), hc]; simp only; rw [hs]; simp only; rw [hl]
theorem why_none (h : whyP ks x ps number t) (hc : chainBad x.signer x.holder ps 0 = none) (hs : scopeBad x none ps 0 = none) (hl : sealBad ks x ps 0 = none) : whyH ks x ps number t = (0, -1) := by
 obtain ⟨h, hb, ht, hn⟩ := h
 unfold whyH; rw [if_neg h, hb]; simp only; rw [if_neg (by rw [ht]; decide), if_neg (by rw [hn]; decide), hc]; simp only; rw [hs]; simp only; rw [hl]
def okQ (ps : List Pxy) (sg : Int) (z : Int × Int) : Bool := if 0 ≤ z.1 then decide ((ps.getD z.1.toNat Pxy.z).frm = z.2) else decide (sg = z.2)
theorem okQ_pos {sg : Int} {z : Int × Int} (h : 0 ≤ z.1) (h2 : (ps.getD z.1.toNat Pxy.z).frm = z.2) : okQ ps sg z = true := by unfold okQ; rw [if_pos h]; exact decide_eq_true h2
theorem okQ_neg {sg : Int} {z : Int × Int} (h : ¬ 0 ≤ z.1) (h2 : sg = z.2) : okQ ps sg z = true := by unfold okQ; rw [if_neg h]; exact decide_eq_true h2
theorem noQ_pos {sg : Int} {z : Int × Int} (h : 0 ≤ z.1) (h2 : ¬ (ps.getD z.1.toNat Pxy.z).frm = z.2) : okQ ps sg z = false := by unfold okQ; rw [if_pos h]; exact decide_eq_false h2
theorem noQ_neg {sg : Int} {z : Int × Int} (h : ¬ 0 ≤ z.1) (h2 : ¬ sg = z.2) : okQ ps sg z = false := by unfold okQ; rw [if_neg h]; exact decide_eq_false h2
theorem chain_pers {sg : Int} : ∀ (l : List Pxy) (k : Nat) (who : Int), l = ps.drop k → chainBad sg who l k = ((pers who l k).find? fun z => !okQ ps sg z).map (·.1)
 | [], k, who, h => by
  rw [chainBad, pers, List.find?_cons, List.find?_nil]
  unfold okQ
  rw [if_neg (show ¬ (0 : Int) ≤ -1 by decide)]
  by_cases hs : sg = who
  ·rw [if_pos hs, decide_eq_true hs]; rfl
  ·rw [if_neg hs, decide_eq_false hs]; rfl
 | p :: l, k, who, h => by
  have hp : ps.getD k Pxy.z = p := by rw [List.getD_eq_getElem?_getD, show ps[k]? = some p from by rw [← List.head?_drop, ← h]; rfl]; rfl
  have hl : l = ps.drop (k + 1) := by rw [← List.drop_drop, ← h, List.drop_one]; rfl
  rw [chainBad, pers, List.find?_cons, chain_pers l (k + 1) p.to hl]
  unfold okQ
  rw [if_pos (Int.natCast_nonneg k), Int.toNat_natCast, hp]
  by_cases hs : p.frm = who
  ·rw [if_pos hs, decide_eq_true hs]; rfl
  ·rw [if_neg hs, decide_eq_false hs]; rfl
theorem pers_mem {who : Int} : ∀ {l : List Pxy} {k : Nat} {who : Int} {z : Int × Int}, z ∈ pers who l k → z.1 < ((k + l.length : Nat) : Int) ∧ -1 ≤ z.1
 | [], k, who, z, h => by
  rw [pers, List.mem_singleton] at h
  subst h
  exact ⟨by simp only; omega, by simp only; omega⟩
 | p :: l, k, who, z, h => by
  rw [pers] at h
  rcases List.mem_cons.1 h with rfl | h
  ·exact ⟨by simp only [List.length_cons]; omega, by simp only; omega⟩
  ·have := pers_mem (who := who) h
   rw [List.length_cons]
   exact ⟨by omega, this.2⟩
theorem pers_lt {who : Int} {pre : List (Int × Int)} {z : Int × Int} (h : NxQ who ps pre z) : z.1 < (ps.length : Int) := by
 obtain ⟨suf, h⟩ := h
 have := (pers_mem (who := who) (l := ps) (k := 0) (z := z) (by rw [h]; simp)).1
 rwa [Nat.zero_add] at this
theorem pq_snoc {sg : Int} {pre : List (Int × Int)} {z : Int × Int} (h : ∀ y ∈ pre, okQ ps sg y = true) (hz : okQ ps sg z = true) : ∀ y ∈ pre ++ [z], okQ ps sg y = true := by
 intro y hy
 rcases List.mem_append.1 hy with h1 | h1
 ·exact h y h1
 ·rw [List.mem_singleton.1 h1]; exact hz
theorem chain_hit {sg who : Int} {pre : List (Int × Int)} {z : Int × Int} (hn : NxQ who ps pre z) (h : ∀ y ∈ pre, okQ ps sg y = true) (hz : okQ ps sg z = false) : chainBad sg who ps 0 = some z.1 := by
 obtain ⟨suf, e⟩ := hn
 rw [chain_pers ps 0 who rfl, e, List.find?_append, List.find?_eq_none.2 (fun y hy => by rw [h y hy]; simp), Option.none_or, List.find?_cons, hz]
 rfl
theorem chain_all {sg who : Int} (h : ∀ y ∈ pers who ps 0, okQ ps sg y = true) : chainBad sg who ps 0 = none := by
 rw [chain_pers ps 0 who rfl, List.find?_eq_none.2 (fun y hy => by rw [h y hy]; simp)]
 rfl
theorem Pxy.ok_frm {p : Pxy} (h : p.ok = true) : 0 ≤ p.frm ∧ p.frm ≤ 63 := by
 simp only [Pxy.ok, inB, Bool.and_eq_true, decide_eq_true_eq] at h; omega
theorem Wsh.ok_signer {x : Wsh} (h : x.ok = true) : 0 ≤ x.signer ∧ x.signer ≤ 63 := by
 simp only [Wsh.ok, inB, Bool.and_eq_true, decide_eq_true_eq] at h; omega
theorem Wsh.ok_bnd {x : Wsh} (h : x.ok = true) : 0 ≤ x.rf ∧ x.rf < x.rt ∧ x.rt ≤ 100000000 ∧ 0 ≤ x.sf ∧ x.sf < x.st ∧ x.st ≤ 10000001 := by
 simp only [Wsh.ok, isRangeB, isSpellB, Bool.and_eq_true, decide_eq_true_eq] at h; omega
theorem keyAt_in {n : Int} (h0 : 0 ≤ n) (h1 : n.toNat < ks.length) : keyAt ks n = some (ks.getD n.toNat []) := by
 unfold keyAt; rw [if_neg (by omega), List.getD_eq_getElem?_getD, List.getElem?_eq_getElem h1]; rfl
theorem keyAt_out {n : Int} (h0 : 0 ≤ n) (h1 : ks.length ≤ n.toNat) : keyAt ks n = none := by
 unfold keyAt; rw [if_neg (by omega), List.getElem?_eq_none h1]
theorem seal_step {k : Nat} (hk : k < ps.length) (h0 : 0 ≤ (ps.getD k Pxy.z).frm) (h1 : (ps.getD k Pxy.z).frm.toNat < ks.length) (h2 : (ps.getD k Pxy.z).sig = sealH (ks.getD (ps.getD k Pxy.z).frm.toNat []) (ps.getD k Pxy.z).content) :
  sealBad ks x (ps.drop k) k = sealBad ks x (ps.drop (k + 1)) (k + 1) := by
 rw [drop_cons Pxy.z hk, sealBad, keyAt_in h0 h1, if_pos]
 exact decide_eq_true h2
theorem seal_out {k : Nat} (hk : k < ps.length) (h0 : 0 ≤ (ps.getD k Pxy.z).frm) (h1 : ks.length ≤ (ps.getD k Pxy.z).frm.toNat) : sealBad ks x (ps.drop k) k = some (k : Int) := by
 rw [drop_cons Pxy.z hk, sealBad, keyAt_out h0 h1, if_neg]; simp
theorem seal_hit {k : Nat} (hk : k < ps.length) (h0 : 0 ≤ (ps.getD k Pxy.z).frm) (h1 : (ps.getD k Pxy.z).frm.toNat < ks.length) (h2 : ¬ (ps.getD k Pxy.z).sig = sealH (ks.getD (ps.getD k Pxy.z).frm.toNat []) (ps.getD k Pxy.z).content) :
  sealBad ks x (ps.drop k) k = some (k : Int) := by
 rw [drop_cons Pxy.z hk, sealBad, keyAt_in h0 h1, if_neg]
 rw [Option.any_some, decide_eq_false h2]; simp
theorem seal_endN {k : Nat} (h0 : 0 ≤ x.signer) (h1 : ks.length ≤ x.signer.toNat) : sealBad ks x [] k = some (-1) := by
 rw [sealBad, keyAt_out h0 h1, if_neg]; simp
theorem seal_endB {k : Nat} (h0 : 0 ≤ x.signer) (h1 : x.signer.toNat < ks.length) (h2 : ¬ x.sig = sealH (ks.getD x.signer.toNat []) x.content) : sealBad ks x [] k = some (-1) := by
 rw [sealBad, keyAt_in h0 h1, if_neg]
 rw [Option.any_some, decide_eq_false h2]; simp
theorem seal_endT {k : Nat} (h0 : 0 ≤ x.signer) (h1 : x.signer.toNat < ks.length) (h2 : x.sig = sealH (ks.getD x.signer.toNat []) x.content) : sealBad ks x [] k = none := by
 rw [sealBad, keyAt_in h0 h1, if_pos]
 exact decide_eq_true h2
end
theorem scope_no {x : Wsh} {ps : List Pxy} (h : (scopeV x ps).2 = false) : scopeBad x none ps 0 = none := by
 unfold scopeV at h
 cases hs : scopeBad x none ps 0 with
 | none => rfl
 | some n => rw [hs] at h; cases h
theorem scope_yes {x : Wsh} {ps : List Pxy} (h : (scopeV x ps).2 = true) : scopeBad x none ps 0 = some (scopeV x ps).1 := by
 unfold scopeV at h ⊢
 cases hs : scopeBad x none ps 0 with
 | none => rw [hs] at h; cases h
 | some n => rfl
set_option maxHeartbeats 4000000 in
theorem why_ok (kv lv : Value) (ks : List By) (x : Wsh) (ps : List Pxy) (number t : Int) (w0 : World) (hkv : SlAt w0 kv 1 (ks.map fun s => [sv s])) (hlv : SlAt w0 lv 7 (ps.map Pxy.cells)) (hk0 : (blk 0 (kOf.map wv) 239).ok w0) :
  Ret Tryz.prog 15 #[kv, .agg #[iv x.signer, iv x.holder, iv x.rf, iv x.rt, iv x.carrier, iv x.serial, iv x.sf, iv x.st, sv x.sig], lv, iv number, iv t] w0 fun v w => v = .tuple #[iv (whyH ks x ps number t).1, iv (whyH ks x ps number t).2] ∧ Ext No w0 w := by
 have hxb := hlv.2.1
 simp only [List.length_map, big] at hxb
 have hyb := hkv.2.1
 simp only [List.length_map, big] at hyb
 refine ret_of Tryz.func15 rfl Tryz.ntmps15 (lb rfl) fun a hfr => ?_
 replace hfr : Fr 142 [(0, _), (1, _), (2, _), (3, _), (4, _)] [] a := hfr
 replace hst : St No w0 [] w0 := St.init w0
 refine wc_seq_region fun K1 hK1 => ?_
 refine wl_box hfr hst (by decide) rfl (cs := [iv x.signer, iv x.holder, iv x.rf, iv x.rt, iv x.carrier, iv x.serial, iv x.sf, iv x.st, sv x.sig]) rfl ?_
 clear hfr hst
 intro a w1 hfr hst
 refine wl_box hfr hst (by decide) rfl (cs := [lv]) (by rw [(hst.arg hlv).cells]) ?_
 clear hfr hst
 intro a w2 hfr hst
 refine wl_alloc hfr hst (by decide) (Tryz.zeroValue3 _) (cs := [iv 0]) rfl ?_
 clear hfr hst
 intro a w3 hfr hst
 refine wl_alloc hfr hst (by decide) (Tryz.zeroValue3 _) (cs := [iv 0]) rfl ?_
 clear hfr hst
 intro a w4 hfr hst
 refine wl_nil (hK1 _ _ ?_)
 refine wc_seq_region fun K2 hK2 => ?_
 refine wla hfr rfl fun a hfr => ?_
 refine wl_nil (hK2 _ _ ?_)
 refine wc_seq_k fun K3 hK3 => ?_
 refine wc_seq_region fun K4 hK4 => ?_
 refine wlm hfr rfl fun a hfr => ?_
 refine wlv hfr ((v_len_sl (sT := 32) (hst.arg hkv) rfl rfl (Tryz.runUnderlying32 _)).asi (m' := (ks.length : Int)) (by rw [List.length_map])) fun a hfr => ?_
 refine wlv hfr (v_gt rfl rfl) fun a hfr => wlm hfr rfl fun a hfr => ?_
 rcases Bool.eq_false_or_eq_true (decide (64 < (ks.length : Int))) with hb1 | hb1
 ·rw [hb1] at hfr
  try simp only [qz] at hb1
  refine wln hfr fun a hfr => ?_
  refine wln hfr fun a hfr => ?_
  refine wln hfr fun a hfr => ?_
  refine wlv hfr (v_pick_t rfl rfl) fun a hfr => wlm hfr rfl fun a hfr => ?_
  refine wln hfr fun a hfr => ?_
  refine wln hfr fun a hfr => ?_
  refine wln hfr fun a hfr => ?_
  refine wlv hfr (v_pick_t rfl rfl) fun a hfr => wlm hfr rfl fun a hfr => ?_
  refine wln hfr fun a hfr => ?_
  refine wln hfr fun a hfr => ?_
  refine wln hfr fun a hfr => ?_
  refine wlv hfr (v_pick_t rfl rfl) fun a hfr => ?_
  refine wl_nil (hK4 _ _ ?_)
  replace hfr : Fr 142 [(0, _), (3, _), (4, _), (6, _), (7, _), (10, _), (11, _), (37, _)] [] a := hfr.pick [0, 3, 4, 6, 7, 10, 11, 37]
  refine wc_cond_t hfr rfl ?_
  refine wc_seq_region fun K5 hK5 => ?_
  refine wl_store 1 hfr hst rfl rfl rfl (Tryz.sizeOf3 _) rfl (lb rfl) (ds := [iv 1]) rfl rfl ?_
  clear hfr hst
  intro a w5 hfr hst
  refine wl_store 0 hfr hst rfl rfl rfl (Tryz.sizeOf3 _) rfl (lb rfl) (ds := [iv (-1)]) rfl rfl ?_
  clear hfr hst
  intro a w6 hfr hst
  refine wl_nil (hK5 _ _ ?_)
  refine wc_ret ?_
  refine fin_ret hfr Tryz.results15 (resAre_cell rfl (res_one (hst.get (k := 1) rfl) (Tryz.isAgg3 _)) (resAre_cell rfl (res_one (hst.get (k := 0) rfl) (Tryz.isAgg3 _)) resAre_nil)) ?_
  exact ⟨by rw [why_form (by unfold formB; first | exact .inl (by omega) | exact .inr (.inr (.inr (by omega))) | exact .inr (.inr (.inl hb1)) | exact .inr (.inl (by rw [any_keys] at hb1; simpa using hb1)))]; rfl, hst.ext⟩
 rw [hb1] at hfr
 try simp only [qz] at hb1
 refine wly hfr (v_move rfl) fun a hfr => wly hfr (v_move rfl) fun a hfr => ?_
 refine wl_callpy hfr hst (by decide) rfl (by decide) rfl Tryz.call57 rfl (any_str (fun s => !decide ((s.length : Int) = 32)) _ Tryz.call55 (hst.arg hkv) (fun x w _ => why1_ok x w)) ?_
 clear hfr hst
 intro a w7 hfr hst
 refine wlv hfr (v_pick_f rfl rfl) fun a hfr => wlm hfr rfl fun a hfr => ?_
 rcases Bool.eq_false_or_eq_true (ks.any fun s => !decide ((s.length : Int) = 32)) with hb2 | hb2
 ·rw [hb2] at hfr
  try simp only [qz] at hb2
  refine wln hfr fun a hfr => ?_
  refine wln hfr fun a hfr => ?_
  refine wln hfr fun a hfr => ?_
  refine wlv hfr (v_pick_t rfl rfl) fun a hfr => wlm hfr rfl fun a hfr => ?_
  refine wln hfr fun a hfr => ?_
  refine wln hfr fun a hfr => ?_
  refine wln hfr fun a hfr => ?_
  refine wlv hfr (v_pick_t rfl rfl) fun a hfr => ?_
  refine wl_nil (hK4 _ _ ?_)
  replace hfr : Fr 142 [(0, _), (3, _), (4, _), (6, _), (7, _), (10, _), (11, _), (37, _)] [] a := hfr.pick [0, 3, 4, 6, 7, 10, 11, 37]
  refine wc_cond_t hfr rfl ?_
  refine wc_seq_region fun K6 hK6 => ?_
  refine wl_store 1 hfr hst rfl rfl rfl (Tryz.sizeOf3 _) rfl (lb rfl) (ds := [iv 1]) rfl rfl ?_
  clear hfr hst
  intro a w8 hfr hst
  refine wl_store 0 hfr hst rfl rfl rfl (Tryz.sizeOf3 _) rfl (lb rfl) (ds := [iv (-1)]) rfl rfl ?_
  clear hfr hst
  intro a w9 hfr hst
  refine wl_nil (hK6 _ _ ?_)
  refine wc_ret ?_
  refine fin_ret hfr Tryz.results15 (resAre_cell rfl (res_one (hst.get (k := 1) rfl) (Tryz.isAgg3 _)) (resAre_cell rfl (res_one (hst.get (k := 0) rfl) (Tryz.isAgg3 _)) resAre_nil)) ?_
  exact ⟨by rw [why_form (by unfold formB; first | exact .inl (by omega) | exact .inr (.inr (.inr (by omega))) | exact .inr (.inr (.inl hb2)) | exact .inr (.inl (by rw [any_keys] at hb2; simpa using hb2)))]; rfl, hst.ext⟩
 rw [hb2] at hfr
 try simp only [qz] at hb2
 refine wly hfr (v_load_all (hst.get (k := 3) rfl) rfl (Tryz.isAgg30 _) (Tryz.sizeOf30 _)) fun a hfr => ?_
 refine wl_callpy hfr hst (by decide) rfl (by decide) rfl Tryz.call58 rfl (isWish_ok x _) ?_
 clear hfr hst
 intro a w10 hfr hst
 refine wly hfr (v_not rfl) fun a hfr => ?_
 refine wlv hfr (v_pick_f rfl rfl) fun a hfr => wlm hfr rfl fun a hfr => ?_
 rcases Bool.eq_false_or_eq_true (!x.ok) with hb3 | hb3
 ·rw [hb3] at hfr
  try simp only [qz] at hb3
  refine wln hfr fun a hfr => ?_
  refine wln hfr fun a hfr => ?_
  refine wln hfr fun a hfr => ?_
  refine wlv hfr (v_pick_t rfl rfl) fun a hfr => ?_
  refine wl_nil (hK4 _ _ ?_)
  replace hfr : Fr 142 [(0, _), (3, _), (4, _), (6, _), (7, _), (10, _), (11, _), (37, _)] [] a := hfr.pick [0, 3, 4, 6, 7, 10, 11, 37]
  refine wc_cond_t hfr rfl ?_
  refine wc_seq_region fun K7 hK7 => ?_
  refine wl_store 1 hfr hst rfl rfl rfl (Tryz.sizeOf3 _) rfl (lb rfl) (ds := [iv 1]) rfl rfl ?_
  clear hfr hst
  intro a w11 hfr hst
  refine wl_store 0 hfr hst rfl rfl rfl (Tryz.sizeOf3 _) rfl (lb rfl) (ds := [iv (-1)]) rfl rfl ?_
  clear hfr hst
  intro a w12 hfr hst
  refine wl_nil (hK7 _ _ ?_)
  refine wc_ret ?_
  refine fin_ret hfr Tryz.results15 (resAre_cell rfl (res_one (hst.get (k := 1) rfl) (Tryz.isAgg3 _)) (resAre_cell rfl (res_one (hst.get (k := 0) rfl) (Tryz.isAgg3 _)) resAre_nil)) ?_
  exact ⟨by rw [why_form (by unfold formB; first | exact .inl (by omega) | exact .inr (.inr (.inr (by omega))) | exact .inr (.inr (.inl hb3)) | exact .inr (.inl (by rw [any_keys] at hb3; simpa using hb3)))]; rfl, hst.ext⟩
 rw [hb3] at hfr
 try simp only [qz] at hb3
 refine wly hfr (v_load_blk1 (hst.get (k := 2) rfl) rfl (Tryz.isAgg31 _) rfl) fun a hfr => wly hfr ((v_len_sl (sT := 31) (hst.arg hlv) rfl rfl (Tryz.runUnderlying31 _)).asi (m' := (ps.length : Int)) (by rw [List.length_map])) fun a hfr => wly hfr (v_gt rfl rfl) fun a hfr => ?_
 refine wlv hfr (v_pick_f rfl rfl) fun a hfr => ?_
 refine wl_nil (hK4 _ _ ?_)
 replace hfr : Fr 142 [(0, _), (3, _), (4, _), (6, _), (7, _), (10, _), (11, _), (37, _)] [] a := hfr.pick [0, 3, 4, 6, 7, 10, 11, 37]
 refine wc_cond hfr rfl (fun hc4 => ?_) (fun hc4 => ?_)
 ·rw [hc4] at hfr
  try simp only [qz] at hc4
  refine wc_seq_region fun K8 hK8 => ?_
  refine wl_store 1 hfr hst rfl rfl rfl (Tryz.sizeOf3 _) rfl (lb rfl) (ds := [iv 1]) rfl rfl ?_
  clear hfr hst
  intro a w13 hfr hst
  refine wl_store 0 hfr hst rfl rfl rfl (Tryz.sizeOf3 _) rfl (lb rfl) (ds := [iv (-1)]) rfl rfl ?_
  clear hfr hst
  intro a w14 hfr hst
  refine wl_nil (hK8 _ _ ?_)
  refine wc_ret ?_
  refine fin_ret hfr Tryz.results15 (resAre_cell rfl (res_one (hst.get (k := 1) rfl) (Tryz.isAgg3 _)) (resAre_cell rfl (res_one (hst.get (k := 0) rfl) (Tryz.isAgg3 _)) resAre_nil)) ?_
  exact ⟨by rw [why_form (by unfold formB; first | exact .inl (by omega) | exact .inr (.inr (.inr (by omega))) | exact .inr (.inr (.inl hc4)) | exact .inr (.inl (by rw [any_keys] at hc4; simpa using hc4)))]; rfl, hst.ext⟩
 rw [hc4] at hfr
 try simp only [qz] at hc4
 refine wc_skip ?_
 refine hK3 _ _ ?_
 refine wc_seq_k fun K9 hK9 => ?_
 have hxo : x.ok = true := hb3
 have hnf : ¬ formB ks x ps := by
  rintro (h | h | h | h)
  ·omega
  ·rw [any_keys, h] at hb2; simp at hb2
  ·rw [hxo] at h; cases h
  ·omega
 have hk32 := keys_32 hnf
 have hxd := Wsh.ok_bnd hxo
 have hxg := Wsh.ok_signer hxo
 refine wc_seq_region fun K10 hK10 => ?_
 refine wlv hfr (v_load_blk1 (hst.get (k := 2) rfl) rfl (Tryz.isAgg31 _) rfl) fun a hfr => ?_
 refine wl_callp hfr hst (by decide) Tryz.call59 rfl (badProxy_ok lv ps _ (hst.arg hlv)) ?_
 clear hfr hst
 intro a w15 hfr hst
 refine wla hfr rfl fun a hfr => ?_
 refine wl_nil (hK10 _ _ ?_)
 refine wc_seq_region fun K11 hK11 => ?_
 refine wlm hfr rfl fun a hfr => ?_
 refine wlv hfr (v_ge rfl rfl) fun a hfr => ?_
 refine wl_nil (hK11 _ _ ?_)
 refine wc_cond hfr rfl (fun hc5 => ?_) (fun hc5 => ?_)
 ·rw [hc5] at hfr
  try simp only [qz] at hc5
  refine wc_seq_region fun K12 hK12 => ?_
  refine wlm hfr rfl fun a hfr => ?_
  refine wl_store 1 hfr hst rfl rfl rfl (Tryz.sizeOf3 _) rfl (lb rfl) (ds := [iv 1]) rfl rfl ?_
  clear hfr hst
  intro a w16 hfr hst
  refine wl_store 0 hfr hst rfl rfl rfl (Tryz.sizeOf3 _) rfl (lb rfl) (ds := [iv (badN ps)]) rfl rfl ?_
  clear hfr hst
  intro a w17 hfr hst
  refine wl_nil (hK12 _ _ ?_)
  replace hfr : Fr 142 [(0, _), (3, _), (4, _), (6, _), (7, _), (10, _), (11, _)] [] a := hfr.pick [0, 3, 4, 6, 7, 10, 11]
  refine wc_ret ?_
  refine fin_ret hfr Tryz.results15 (resAre_cell rfl (res_one (hst.get (k := 1) rfl) (Tryz.isAgg3 _)) (resAre_cell rfl (res_one (hst.get (k := 0) rfl) (Tryz.isAgg3 _)) resAre_nil)) ?_
  exact ⟨by rw [why_bad hnf hc5]; rfl, hst.ext⟩
 rw [hc5] at hfr
 try simp only [qz] at hc5
 refine wc_skip ?_
 refine hK9 _ _ ?_
 refine wc_seq_k fun K13 hK13 => ?_
 have hbn := bad_none_of (l := ps) (by omega)
 refine wc_seq_region fun K14 hK14 => ?_
 refine wlm hfr rfl fun a hfr => ?_
 refine wlv hfr (v_fieldAddr (v := .pointer (some ⟨w0.heap.size, 6, none⟩)) rfl (by kernel_rfl)) fun a hfr => ?_
 refine wlv hfr (v_fieldAddr (v := .pointer (some ⟨w0.heap.size, 6, none⟩)) rfl (by kernel_rfl)) fun a hfr => ?_
 refine wlv hfr (v_load_blk1 (hst.get (k := 3) rfl) rfl (Tryz.isAgg3 _) rfl) fun a hfr => ?_
 refine wlv hfr (v_fieldAddr (v := .pointer (some ⟨w0.heap.size, 6, none⟩)) rfl (by kernel_rfl)) fun a hfr => ?_
 refine wlv hfr (v_fieldAddr (v := .pointer (some ⟨w0.heap.size, 7, none⟩)) rfl (by kernel_rfl)) fun a hfr => ?_
 refine wlv hfr (v_load_blk1 (hst.get (k := 3) rfl) rfl (Tryz.isAgg3 _) rfl) fun a hfr => ?_
 refine wlv hfr (v_sub rfl rfl ⟨by omega, by omega⟩) fun a hfr => ?_
 refine wl_callp hfr hst (by decide) Tryz.call60 rfl (isWithin_ok t x.sf (x.st - 1) _) ?_
 clear hfr hst
 intro a w18 hfr hst
 refine wlv hfr (v_not rfl) fun a hfr => ?_
 refine wl_nil (hK14 _ _ ?_)
 replace hfr : Fr 142 [(0, _), (3, _), (6, _), (7, _), (10, _), (11, _), (52, _)] [] a := hfr.pick [0, 3, 6, 7, 10, 11, 52]
 refine wc_cond hfr rfl (fun hc6 => ?_) (fun hc6 => ?_)
 ·rw [hc6] at hfr
  try simp only [qz] at hc6
  refine wc_seq_region fun K15 hK15 => ?_
  refine wl_store 1 hfr hst rfl rfl rfl (Tryz.sizeOf3 _) rfl (lb rfl) (ds := [iv 2]) rfl rfl ?_
  clear hfr hst
  intro a w19 hfr hst
  refine wl_store 0 hfr hst rfl rfl rfl (Tryz.sizeOf3 _) rfl (lb rfl) (ds := [iv (-1)]) rfl rfl ?_
  clear hfr hst
  intro a w20 hfr hst
  refine wl_nil (hK15 _ _ ?_)
  refine wc_ret ?_
  refine fin_ret hfr Tryz.results15 (resAre_cell rfl (res_one (hst.get (k := 1) rfl) (Tryz.isAgg3 _)) (resAre_cell rfl (res_one (hst.get (k := 0) rfl) (Tryz.isAgg3 _)) resAre_nil)) ?_
  exact ⟨by rw [why_time hnf hbn hc6]; rfl, hst.ext⟩
 rw [hc6] at hfr
 try simp only [qz] at hc6
 refine wc_skip ?_
 refine hK13 _ _ ?_
 refine wc_seq_k fun K16 hK16 => ?_
 refine wc_seq_region fun K17 hK17 => ?_
 refine wlm hfr rfl fun a hfr => ?_
 refine wlv hfr (v_fieldAddr (v := .pointer (some ⟨w0.heap.size, 2, none⟩)) rfl (by kernel_rfl)) fun a hfr => ?_
 refine wlv hfr (v_fieldAddr (v := .pointer (some ⟨w0.heap.size, 2, none⟩)) rfl (by kernel_rfl)) fun a hfr => ?_
 refine wlv hfr (v_load_blk1 (hst.get (k := 3) rfl) rfl (Tryz.isAgg3 _) rfl) fun a hfr => ?_
 refine wlv hfr (v_fieldAddr (v := .pointer (some ⟨w0.heap.size, 2, none⟩)) rfl (by kernel_rfl)) fun a hfr => ?_
 refine wlv hfr (v_fieldAddr (v := .pointer (some ⟨w0.heap.size, 3, none⟩)) rfl (by kernel_rfl)) fun a hfr => ?_
 refine wlv hfr (v_load_blk1 (hst.get (k := 3) rfl) rfl (Tryz.isAgg3 _) rfl) fun a hfr => ?_
 refine wlv hfr (v_sub rfl rfl ⟨by omega, by omega⟩) fun a hfr => ?_
 refine wl_callp hfr hst (by decide) Tryz.call60 rfl (isWithin_ok number x.rf (x.rt - 1) _) ?_
 clear hfr hst
 intro a w21 hfr hst
 refine wlv hfr (v_not rfl) fun a hfr => ?_
 refine wl_nil (hK17 _ _ ?_)
 replace hfr : Fr 142 [(0, _), (6, _), (7, _), (10, _), (11, _), (62, _)] [] a := hfr.pick [0, 6, 7, 10, 11, 62]
 refine wc_cond hfr rfl (fun hc7 => ?_) (fun hc7 => ?_)
 ·rw [hc7] at hfr
  try simp only [qz] at hc7
  refine wc_seq_region fun K18 hK18 => ?_
  refine wl_store 1 hfr hst rfl rfl rfl (Tryz.sizeOf3 _) rfl (lb rfl) (ds := [iv 3]) rfl rfl ?_
  clear hfr hst
  intro a w22 hfr hst
  refine wl_store 0 hfr hst rfl rfl rfl (Tryz.sizeOf3 _) rfl (lb rfl) (ds := [iv (-1)]) rfl rfl ?_
  clear hfr hst
  intro a w23 hfr hst
  refine wl_nil (hK18 _ _ ?_)
  refine wc_ret ?_
  refine fin_ret hfr Tryz.results15 (resAre_cell rfl (res_one (hst.get (k := 1) rfl) (Tryz.isAgg3 _)) (resAre_cell rfl (res_one (hst.get (k := 0) rfl) (Tryz.isAgg3 _)) resAre_nil)) ?_
  exact ⟨by rw [why_num hnf hbn hc6 hc7]; rfl, hst.ext⟩
 rw [hc7] at hfr
 try simp only [qz] at hc7
 refine wc_skip ?_
 refine hK16 _ _ ?_
 refine wc_seq_k fun K19 hK19 => ?_
 have hwp : whyP ks x ps number t := ⟨hnf, hbn, hc6, hc7⟩
 refine wc_seq_region fun K20 hK20 => ?_
 refine wlv hfr (v_fieldAddr (v := .pointer (some ⟨w0.heap.size, 1, none⟩)) rfl (by kernel_rfl)) fun a hfr => ?_
 refine wlv hfr (v_load_blk1 (hst.get (k := 3) rfl) rfl (Tryz.isAgg3 _) rfl) fun a hfr => ?_
 refine wlv hfr (v_load_blk1 (hst.get (k := 2) rfl) rfl (Tryz.isAgg31 _) rfl) fun a hfr => ?_
 refine wl_callm hfr hst (by decide) Tryz.call61 rfl (persons_ok x.holder lv ps _ (hst.arg hlv)) ?_
 clear hfr hst
 intro a w24 x8 hp hfr hst
 obtain ⟨bh, bl⟩ := x8
 clear hp
 replace hst : St No w0 [blk bl [lv] 31, blk bh [iv x.holder] 3, blk w3.heap.size [iv 0] 3, blk w2.heap.size [iv 0] 3, blk w1.heap.size [lv] 31, blk w0.heap.size [iv x.signer, iv x.holder, iv x.rf, iv x.rt, iv x.carrier, iv x.serial, iv x.sf, iv x.st, sv x.sig] 30] w24 := hst
 refine wl_nil (hK20 _ _ ?_)
 refine wc_block ?_
 replace hst : St No w0 [blk w0.heap.size [iv x.signer, iv x.holder, iv x.rf, iv x.rt, iv x.carrier, iv x.serial, iv x.sf, iv x.st, sv x.sig] 30, blk w1.heap.size [lv] 31, blk w2.heap.size [iv 0] 3, blk w3.heap.size [iv 0] 3, blk bh [iv x.holder] 3, blk bl [lv] 31] w24 := hst.select [5, 4, 3, 2, 1, 0] (by decide)
 replace hfr : Fr 142 [(0, kv), (6, .pointer (some ⟨w0.heap.size, 0, none⟩)), (7, .pointer (some ⟨w1.heap.size, 0, none⟩)), (10, .pointer (some ⟨w2.heap.size, 0, none⟩)), (11, .pointer (some ⟨w3.heap.size, 0, none⟩)), (62, .bool false), (63, .pointer (some ⟨w0.heap.size, 1, none⟩)), (64, iv x.holder), (65, lv), (66, .func (.func 118) #[] #[.pointer (some ⟨bh, 0, none⟩), .pointer (some ⟨bl, 0, none⟩)])] [] a := hfr.pick [0, 6, 7, 10, 11, 62, 63, 64, 65, 66]
 refine wc_range (M := No) (w0 := w0) (encs := encQ) (Hi := [blk bh [iv x.holder] 3, blk bl [lv] 31]) (Hc := [blk w0.heap.size [iv x.signer, iv x.holder, iv x.rf, iv x.rt, iv x.carrier, iv x.serial, iv x.sf, iv x.st, sv x.sig] 30, blk w1.heap.size [lv] 31, blk w2.heap.size [iv 0] 3, blk w3.heap.size [iv 0] 3]) (fun pre H => (∀ z ∈ pre, okQ ps x.signer z = true) ∧ H = [blk w0.heap.size [iv x.signer, iv x.holder, iv x.rf, iv x.rt, iv x.carrier, iv x.serial, iv x.sf, iv x.st, sv x.sig] 30, blk w1.heap.size [lv] 31, blk w2.heap.size [iv 0] 3, blk w3.heap.size [iv 0] 3]) (fun c pre H => c = .ret ∧ ∃ (i : Int), (chainBad x.signer x.holder ps 0 = some i) ∧ H = [blk w0.heap.size [iv x.signer, iv x.holder, iv x.rf, iv x.rt, iv x.carrier, iv x.serial, iv x.sf, iv x.st, sv x.sig] 30, blk w1.heap.size [lv] 31, blk w2.heap.size [iv 4] 3, blk w3.heap.size [iv i] 3]) (fun pre xs H a => Fr 142 [(6, .pointer (some ⟨w0.heap.size, 0, none⟩)), (7, .pointer (some ⟨w1.heap.size, 0, none⟩)), (10, .pointer (some ⟨w2.heap.size, 0, none⟩)), (11, .pointer (some ⟨w3.heap.size, 0, none⟩)), (14, iv xs.1), (15, iv xs.2)] [] a ∧ (∀ z ∈ pre, okQ ps x.signer z = true) ∧ H = [blk w0.heap.size [iv x.signer, iv x.holder, iv x.rf, iv x.rt, iv x.carrier, iv x.serial, iv x.sf, iv x.st, sv x.sig] 30, blk w1.heap.size [lv] 31, blk w2.heap.size [iv 0] 3, blk w3.heap.size [iv 0] 3]) rfl Tryz.call118 hfr hst (persons_iter x.holder lv ps bh bl (fun H w h => h.arg hlv)) (by decide) (fun _ => rfl) ⟨(by simp), rfl⟩ ?_ ?_ ?_ ?_
 ·clear hfr hst
  rintro lp pre xs _ a w25 hnx ⟨hpq, rfl⟩ hfr hst
  generalize (join [blk w0.heap.size [iv x.signer, iv x.holder, iv x.rf, iv x.rt, iv x.carrier, iv x.serial, iv x.sf, iv x.st, sv x.sig] 30, blk w1.heap.size [lv] 31, blk w2.heap.size [iv 0] 3, blk w3.heap.size [iv 0] 3]).foot = M1 at hst ⊢
  replace hfr : Fr 142 [(68, iv xs.2), (67, iv xs.1), (0, kv), (6, .pointer (some ⟨w0.heap.size, 0, none⟩)), (7, .pointer (some ⟨w1.heap.size, 0, none⟩)), (10, .pointer (some ⟨w2.heap.size, 0, none⟩)), (11, .pointer (some ⟨w3.heap.size, 0, none⟩)), (62, .bool false), (63, .pointer (some ⟨w0.heap.size, 1, none⟩)), (64, iv x.holder), (65, lv), (66, .func (.func 118) #[] #[.pointer (some ⟨bh, 0, none⟩), .pointer (some ⟨bl, 0, none⟩)])] [] a := hfr
  refine wc_seq_region fun K21 hK21 => ?_
  refine wla hfr rfl fun a hfr => ?_
  refine wl_nil (hK21 _ _ ?_)
  replace hfr : Fr 142 [(68, _), (6, _), (7, _), (10, _), (11, _), (14, _)] [] a := hfr.pick [68, 6, 7, 10, 11, 14]
  refine wc_region ?_
  refine wla hfr rfl fun a hfr => ?_
  refine wl_nil ?_
  exact ⟨_, ⟨hfr.pick [6, 7, 10, 11, 14, 15], hpq, rfl⟩, hst⟩
 ·rintro lp pre xs _ a w26 hnx ⟨hfr, hpq, rfl⟩ hout hrec hnl hst
  clear hrec hnl
  generalize (join [blk w0.heap.size [iv x.signer, iv x.holder, iv x.rf, iv x.rt, iv x.carrier, iv x.serial, iv x.sf, iv x.st, sv x.sig] 30, blk w1.heap.size [lv] 31, blk w2.heap.size [iv 0] 3, blk w3.heap.size [iv 0] 3]).foot = M1 at hst hout ⊢
  refine wc_block ?_
  refine wc_seq_region fun K22 hK22 => ?_
  refine wlm hfr rfl fun a hfr => ?_
  refine wlv hfr (v_ge rfl rfl) fun a hfr => wlm hfr rfl fun a hfr => ?_
  rcases Bool.eq_false_or_eq_true (decide (0 ≤ xs.1)) with hb9 | hb9
  ·rw [hb9] at hfr
   try simp only [qz] at hb9
   have hqlt := pers_lt hnx
   refine wly hfr (v_load_blk1 (hst.get (k := 1) rfl) rfl (Tryz.isAgg31 _) rfl) fun a hfr => wly hfr (v_move rfl) fun a hfr => wly hfr ((v_indexAddr_sl (i := xs.1) (sT := 31) (hlv.grow (hout _ hst.ext)) rfl rfl (Tryz.runUnderlying31 _) (Tryz.sizeOf40 _) (by omega) (by rw [List.length_map]; omega)).as (v' := slAddr lv (xs.1.toNat * 7)) (by rw [show (xs.1).toNat = xs.1.toNat from by omega])) fun a hfr => wly hfr (v_fieldAddr_sl (k := xs.1.toNat * 7) (j := 0) (hlv.grow (hout _ hst.ext)) (i := xs.1.toNat) (by rw [List.length_map]; omega) rfl (fun _ _ => by kernel_rfl)) fun a hfr => wly hfr (v_load_sl1 (u := iv ((ps.getD xs.1.toNat Pxy.z).frm)) (i := xs.1.toNat) (j := 0) (hlv.grow (hout _ hst.ext)) (by rw [List.length_map]; omega) rfl (Tryz.isAgg3 _) (by rw [el_at Pxy.z]; rfl)) fun a hfr => wly hfr (v_move rfl) fun a hfr => wly hfr (v_ne rfl rfl) fun a hfr => ?_
   refine wlv hfr (v_pick_t rfl rfl) fun a hfr => wlm hfr rfl fun a hfr => ?_
   rcases Bool.eq_false_or_eq_true (!decide ((ps.getD xs.1.toNat Pxy.z).frm = xs.2)) with hb10 | hb10
   ·rw [hb10] at hfr
    try simp only [qz] at hb10
    refine wln hfr fun a hfr => ?_
    refine wln hfr fun a hfr => ?_
    refine wln hfr fun a hfr => ?_
    refine wl_vu hfr (by decide) rfl (by decide) rfl fun a hfr => ?_
    refine wl_vu hfr (by decide) rfl (by decide) rfl fun a hfr => ?_
    refine wl_vu hfr (by decide) rfl (by decide) rfl fun a hfr => ?_
    refine wl_vu hfr (by decide) rfl (by decide) rfl fun a hfr => ?_
    refine wln hfr fun a hfr => ?_
    refine wlv hfr (v_pick_t rfl rfl) fun a hfr => ?_
    refine wl_nil (hK22 _ _ ?_)
    replace hfr : Fr 142 [(10, _), (11, _), (14, _), (89, _)] [] a := hfr.pick [10, 11, 14, 89]
    refine wc_cond_t hfr rfl ?_
    refine wc_seq_region fun K23 hK23 => ?_
    refine wlm hfr rfl fun a hfr => ?_
    refine wl_store 2 hfr hst rfl rfl rfl (Tryz.sizeOf3 _) rfl (lb rfl) (ds := [iv 4]) rfl rfl ?_
    clear hfr hst
    intro a w27 hfr hst
    refine wl_store 3 hfr hst rfl rfl rfl (Tryz.sizeOf3 _) rfl (lb rfl) (ds := [iv xs.1]) rfl rfl ?_
    clear hfr hst
    intro a w28 hfr hst
    refine wl_nil (hK23 _ _ ?_)
    refine wc_ret ?_
    exact ⟨_, ⟨rfl, xs.1, chain_hit hnx hpq (noQ_pos hb9 hb10), rfl⟩, hst.select [0, 1, 2, 3] (by decide)⟩
   rw [hb10] at hfr
   try simp only [qz] at hb10
   refine wly hfr (v_move rfl) fun a hfr => wly hfr ((v_lt rfl rfl).asb (b' := false) (by exact decide_eq_false (by omega))) fun a hfr => wly hfr (v_move rfl) fun a hfr => ?_
   refine wln hfr fun a hfr => ?_
   refine wln hfr fun a hfr => ?_
   refine wln hfr fun a hfr => ?_
   refine wln hfr fun a hfr => wly hfr (v_pick_f rfl rfl) fun a hfr => ?_
   refine wlv hfr (v_pick_f rfl rfl) fun a hfr => ?_
   refine wl_nil (hK22 _ _ ?_)
   replace hfr : Fr 142 [(10, _), (11, _), (14, _), (89, _)] [] a := hfr.pick [10, 11, 14, 89]
   refine wc_cond_f hfr rfl ?_
   refine wc_skip ?_
   exact ⟨_, ⟨pq_snoc hpq (okQ_pos hb9 hb10), rfl⟩, hst.select [0, 1, 2, 3] (by decide)⟩
  rw [hb9] at hfr
  try simp only [qz] at hb9
  have hqlt := pers_lt hnx
  refine wln hfr fun a hfr => ?_
  refine wln hfr fun a hfr => ?_
  refine wln hfr fun a hfr => ?_
  refine wln hfr fun a hfr => ?_
  refine wln hfr fun a hfr => ?_
  refine wln hfr fun a hfr => ?_
  refine wln hfr fun a hfr => ?_
  refine wlv hfr (v_pick_f rfl rfl) fun a hfr => wlm hfr rfl fun a hfr => wly hfr (v_move rfl) fun a hfr => wly hfr ((v_lt rfl rfl).asb (b' := true) (by exact decide_eq_true (by omega))) fun a hfr => wly hfr (v_move rfl) fun a hfr => wly hfr (v_fieldAddr (v := .pointer (some ⟨w0.heap.size, 0, none⟩)) rfl (by kernel_rfl)) fun a hfr => wly hfr (v_load_blk1 (hst.get (k := 0) rfl) rfl (Tryz.isAgg3 _) rfl) fun a hfr => wly hfr (v_move rfl) fun a hfr => wly hfr (v_ne rfl rfl) fun a hfr => ?_
  refine wly hfr (v_pick_t rfl rfl) fun a hfr => ?_
  refine wlv hfr (v_pick_f rfl rfl) fun a hfr => ?_
  refine wl_nil (hK22 _ _ ?_)
  replace hfr : Fr 142 [(10, _), (11, _), (14, _), (89, _)] [] a := hfr.pick [10, 11, 14, 89]
  refine wc_cond hfr rfl (fun hc11 => ?_) (fun hc11 => ?_)
  ·rw [hc11] at hfr
   try simp only [qz] at hc11
   refine wc_seq_region fun K24 hK24 => ?_
   refine wlm hfr rfl fun a hfr => ?_
   refine wl_store 2 hfr hst rfl rfl rfl (Tryz.sizeOf3 _) rfl (lb rfl) (ds := [iv 4]) rfl rfl ?_
   clear hfr hst
   intro a w29 hfr hst
   refine wl_store 3 hfr hst rfl rfl rfl (Tryz.sizeOf3 _) rfl (lb rfl) (ds := [iv xs.1]) rfl rfl ?_
   clear hfr hst
   intro a w30 hfr hst
   refine wl_nil (hK24 _ _ ?_)
   refine wc_ret ?_
   exact ⟨_, ⟨rfl, xs.1, chain_hit hnx hpq (noQ_neg (by omega) hc11), rfl⟩, hst.select [0, 1, 2, 3] (by decide)⟩
  rw [hc11] at hfr
  try simp only [qz] at hc11
  refine wc_skip ?_
  exact ⟨_, ⟨pq_snoc hpq (okQ_neg (by omega) hc11), rfl⟩, hst.select [0, 1, 2, 3] (by decide)⟩
 ·rintro D pre _ _ a w31 ⟨rfl, rfl⟩ ⟨hpq, rfl⟩ hst hfr
  replace hfr : Fr 142 [(0, kv), (6, .pointer (some ⟨w0.heap.size, 0, none⟩)), (7, .pointer (some ⟨w1.heap.size, 0, none⟩)), (10, .pointer (some ⟨w2.heap.size, 0, none⟩)), (11, .pointer (some ⟨w3.heap.size, 0, none⟩)), (62, .bool false), (63, .pointer (some ⟨w0.heap.size, 1, none⟩)), (64, iv x.holder), (65, lv), (66, .func (.func 118) #[] #[.pointer (some ⟨bh, 0, none⟩), .pointer (some ⟨bl, 0, none⟩)])] [{ target := .collected D, args := #[] }] a := hfr
  replace hst : St No w0 [obj D (.deferred (some [])), blk w0.heap.size [iv x.signer, iv x.holder, iv x.rf, iv x.rt, iv x.carrier, iv x.serial, iv x.sf, iv x.st, sv x.sig] 30, blk w1.heap.size [lv] 31, blk w2.heap.size [iv 0] 3, blk w3.heap.size [iv 0] 3, blk bh [iv x.holder] 3, blk bl [lv] 31] w31 := hst
  refine hK19 _ _ ?_
  refine wc_seq_k fun K25 hK25 => ?_
  have hch := chain_all hpq
  refine wc_seq_region fun K26 hK26 => ?_
  refine wlv hfr (v_load_all (hst.get (k := 1) rfl) rfl (Tryz.isAgg30 _) (Tryz.sizeOf30 _)) fun a hfr => ?_
  refine wlv hfr (v_load_blk1 (hst.get (k := 2) rfl) rfl (Tryz.isAgg31 _) rfl) fun a hfr => ?_
  refine wl_callp hfr hst (by decide) Tryz.call62 rfl (scope_ok x lv ps _ (hst.arg hlv)) ?_
  clear hfr hst
  intro a w32 hfr hst
  refine wlm hfr rfl fun a hfr => ?_
  refine wlv hfr (v_extract rfl rfl) fun a hfr => ?_
  refine wlv hfr (v_extract rfl rfl) fun a hfr => wla hfr rfl fun a hfr => wla hfr rfl fun a hfr => ?_
  refine wl_nil (hK26 _ _ ?_)
  replace hfr : Fr 142 [(0, _), (6, _), (7, _), (10, _), (11, _), (16, _), (17, _)] [{ target := .collected D, args := #[] }] a := hfr.pick [0, 6, 7, 10, 11, 16, 17]
  refine wc_seq_region fun K27 hK27 => ?_
  refine wlm hfr rfl fun a hfr => ?_
  refine wl_nil (hK27 _ _ ?_)
  refine wc_cond hfr rfl (fun hc12 => ?_) (fun hc12 => ?_)
  ·rw [hc12] at hfr
   try simp only [qz] at hc12
   refine wc_seq_region fun K28 hK28 => ?_
   refine wlm hfr rfl fun a hfr => ?_
   refine wl_store 3 hfr hst rfl rfl rfl (Tryz.sizeOf3 _) rfl (lb rfl) (ds := [iv 5]) rfl rfl ?_
   clear hfr hst
   intro a w33 hfr hst
   refine wl_store 4 hfr hst rfl rfl rfl (Tryz.sizeOf3 _) rfl (lb rfl) (ds := [iv ((scopeV x ps).1)]) rfl rfl ?_
   clear hfr hst
   intro a w34 hfr hst
   refine wl_nil (hK28 _ _ ?_)
   refine wc_ret ?_
   have hD := hst.get (k := 0) rfl
   replace hst := hst.unmark (i := 0) (o' := .deferred none) rfl
   replace hst : St No w0 [blk w0.heap.size [iv x.signer, iv x.holder, iv x.rf, iv x.rt, iv x.carrier, iv x.serial, iv x.sf, iv x.st, sv x.sig] 30, blk w1.heap.size [lv] 31, blk w2.heap.size [iv 5] 3, blk w3.heap.size [iv ((scopeV x ps).1)] 3, blk bh [iv x.holder] 3, blk bl [lv] 31] _ := hst
   refine fin_ret1 hfr hD Tryz.results15 (resAre_cell rfl (res_one (hst.get (k := 2) rfl) (Tryz.isAgg3 _)) (resAre_cell rfl (res_one (hst.get (k := 3) rfl) (Tryz.isAgg3 _)) resAre_nil)) ?_
   exact ⟨by rw [why_scope hwp hch (scope_yes hc12)]; rfl, hst.ext⟩
  rw [hc12] at hfr
  try simp only [qz] at hc12
  refine wc_skip ?_
  refine hK25 _ _ ?_
  refine wc_seq_k fun K29 hK29 => ?_
  have hsc : scopeBad x none ps 0 = none := scope_no hc12
  refine wc_seq_region fun K30 hK30 => ?_
  refine wlv hfr (v_load_blk1 (hst.get (k := 2) rfl) rfl (Tryz.isAgg31 _) rfl) fun a hfr => ?_
  refine wlv hfr ((v_len_sl (sT := 31) (hst.arg hlv) rfl rfl (Tryz.runUnderlying31 _)).asi (m' := (ps.length : Int)) (by rw [List.length_map])) fun a hfr => wlm hfr rfl fun a hfr => ?_
  refine wl_nil (hK30 _ _ ?_)
  refine wc_block ?_
  refine wc_loop (fun m a w => ∃ (k : Nat), m = ps.length - k ∧ (k ≤ ps.length) ∧ (sealBad ks x ps 0 = sealBad ks x (ps.drop k) k) ∧ Fr 142 [(0, kv), (6, .pointer (some ⟨w0.heap.size, 0, none⟩)), (10, .pointer (some ⟨w2.heap.size, 0, none⟩)), (11, .pointer (some ⟨w3.heap.size, 0, none⟩)), (99, lv), (100, iv (ps.length : Int)), (101, iv (k : Int))] [{ target := .collected D, args := #[] }] a ∧ St No w0 [obj D (.deferred (some [])), blk w0.heap.size [iv x.signer, iv x.holder, iv x.rf, iv x.rt, iv x.carrier, iv x.serial, iv x.sf, iv x.st, sv x.sig] 30, blk w1.heap.size [lv] 31, blk w2.heap.size [iv 0] 3, blk w3.heap.size [iv 0] 3, blk bh [iv x.holder] 3, blk bl [lv] 31] w) _ ⟨0, rfl, Nat.zero_le _, rfl, hfr.pick [0, 6, 10, 11, 99, 100, 101], hst.select [0, 1, 2, 3, 4, 5, 6] (by decide)⟩ ?_
  rintro _ a w35 ⟨k, rfl, hk, hsb, hfr, hst⟩
  refine wc_seq_region fun K31 hK31 => ?_
  refine wlv hfr (v_lt rfl rfl) fun a hfr => ?_
  refine wl_nil (hK31 _ _ ?_)
  refine wc_seq_k fun K32 hK32 => ?_
  refine wc_cond hfr rfl (fun hc13 => ?_) (fun hc13 => ?_)
  ·rw [hc13] at hfr
   try simp only [qz] at hc13
   have hkx : k < ps.length := by omega
   have hpk := badIdx_all hbn _ (getD_mem (d := Pxy.z) hkx)
   have hp0 := Pxy.ok_frm hpk
   refine wc_skip ?_
   refine hK32 _ _ ?_
   refine wc_seq_k fun K33 hK33 => ?_
   refine wc_block ?_
   refine wc_seq_region fun K34 hK34 => ?_
   refine wlm hfr rfl fun a hfr => ?_
   refine wlv hfr ((v_indexAddr_sl (i := (k : Int)) (sT := 31) (hst.arg hlv) rfl rfl (Tryz.runUnderlying31 _) (Tryz.sizeOf40 _) (by omega) (by rw [List.length_map]; omega)).as (v' := slAddr lv (k * 7)) rfl) fun a hfr => ?_
   refine wlv hfr ((v_load_sl (hst.arg hlv) (i := k) (by rw [List.length_map]; omega) rfl (Tryz.isAgg40 _) (Tryz.sizeOf40 _)).as (v' := .agg #[iv ((ps.getD k Pxy.z).frm), iv ((ps.getD k Pxy.z).to), iv ((ps.getD k Pxy.z).rf), iv ((ps.getD k Pxy.z).rt), iv ((ps.getD k Pxy.z).sf), iv ((ps.getD k Pxy.z).st), sv ((ps.getD k Pxy.z).sig)]) (by rw [el_at Pxy.z]; rfl)) fun a hfr => ?_
   refine wl_alloc hfr hst (by decide) (Tryz.zeroValue40 _) (cs := [iv 0, iv 0, iv 0, iv 0, iv 0, iv 0, .string (⟨#[]⟩)]) rfl ?_
   clear hfr hst
   intro a w36 hfr hst
   refine wla hfr rfl fun a hfr => ?_
   refine wl_store 0 hfr hst rfl rfl rfl (Tryz.sizeOf40 _) rfl (lb rfl) (ds := [iv ((ps.getD k Pxy.z).frm), iv ((ps.getD k Pxy.z).to), iv ((ps.getD k Pxy.z).rf), iv ((ps.getD k Pxy.z).rt), iv ((ps.getD k Pxy.z).sf), iv ((ps.getD k Pxy.z).st), sv ((ps.getD k Pxy.z).sig)]) rfl rfl ?_
   clear hfr hst
   intro a w37 hfr hst
   refine wl_nil (hK34 _ _ ?_)
   refine wc_seq_k fun K35 hK35 => ?_
   refine wc_of_dr (by kernel_rfl) (dr_of_wd (by kernel_rfl) fun w38 hxz => ?_)
   replace hst := hst.grow hxz
   refine wd_sub (k := 0) 4 [1, 3] hfr (by kernel_rfl) (by kernel_rfl) (by kernel_rfl) (by rfl) ?_
   replace hfr : Fr 142 [(0, _), (6, _), (10, _), (11, _), (99, _), (100, _), (101, _), (102, _), (103, _), (104, _), (105, _), (19, _), (18, _)] [{ target := .collected D, args := #[] }] a := hfr.pick [0, 6, 10, 11, 99, 100, 101, 102, 103, 104, 105, 19, 18]
   refine wc_phases_q [] (fun i => match i with | _ => fun _ _ => False) 4 [[], [0], [], [2]] [.pointer (some ⟨w35.heap.size, 0, none⟩), iv ((ps.getD k Pxy.z).frm), kv, iv (ks.length : Int)] hfr hst (by kernel_rfl) (by kernel_rfl) (by kernel_rfl) ?_ ?_ ?_
   ·intro i hi hiq
    match i, hi, hiq with
    | 0, _, _ =>
     intro w hst
     exact OpV.g (v_fieldAddr (v := .pointer (some ⟨w35.heap.size, 0, none⟩)) rfl (by kernel_rfl))
    | 1, _, _ =>
     intro w hst
     exact OpV.g (v_load_blk1 (hst.get (k := 0) rfl) rfl (Tryz.isAgg3 _) rfl)
    | 2, _, _ =>
     intro w hst
     exact OpV.g (v_move rfl)
    | 3, _, _ =>
     intro w hst
     exact OpV.g ((v_len_sl (sT := 32) (hst.arg hkv) rfl rfl (Tryz.runUnderlying32 _)).asi (m' := (ks.length : Int)) (by rw [List.length_map]))
   ·intro i hi
    exact absurd hi (by simp)
   clear hfr hst
   intro  a w39 hfr hst
   replace hfr : Fr 142 [(106, .pointer (some ⟨w35.heap.size, 0, none⟩)), (107, iv ((ps.getD k Pxy.z).frm)), (108, kv), (109, iv (ks.length : Int)), (0, _), (6, _), (10, _), (11, _), (99, _), (100, _), (101, _), (102, _), (103, _), (104, _), (105, _), (19, _), (18, _)] [{ target := .collected D, args := #[] }] a := hfr
   refine wl_nil ?_
   refine wd_lin (k := 4) 6 [5] (by kernel_rfl) (by kernel_rfl) (by kernel_rfl) ?_
   refine wlv hfr (v_ge rfl rfl) fun a hfr => wlm hfr rfl fun a hfr => ?_
   refine wl_nil ?_
   rcases Bool.eq_false_or_eq_true (decide ((ks.length : Int) ≤ (ps.getD k Pxy.z).frm)) with hb14 | hb14
   ·rw [hb14] at hfr
    try simp only [qz] at hb14
    replace hfr : Fr 142 [(0, kv), (6, .pointer (some ⟨w0.heap.size, 0, none⟩)), (10, .pointer (some ⟨w2.heap.size, 0, none⟩)), (11, .pointer (some ⟨w3.heap.size, 0, none⟩)), (99, lv), (100, iv (ps.length : Int)), (101, iv (k : Int)), (102, .bool true), (103, iv (k : Int)), (104, slAddr lv (k * 7)), (105, .agg #[iv ((ps.getD k Pxy.z).frm), iv ((ps.getD k Pxy.z).to), iv ((ps.getD k Pxy.z).rf), iv ((ps.getD k Pxy.z).rt), iv ((ps.getD k Pxy.z).sf), iv ((ps.getD k Pxy.z).st), sv ((ps.getD k Pxy.z).sig)]), (19, .pointer (some ⟨w35.heap.size, 0, none⟩)), (18, iv (k : Int)), (106, .pointer (some ⟨w35.heap.size, 0, none⟩)), (107, iv ((ps.getD k Pxy.z).frm)), (108, kv), (109, iv (ks.length : Int)), (110, .bool true), (111, .bool true)] [{ target := .collected D, args := #[] }] a := hfr.pick [0, 6, 10, 11, 99, 100, 101, 102, 103, 104, 105, 19, 18, 106, 107, 108, 109, 110, 111]
    refine wd_skip (k := 6) 15 [7, 14] hfr (by kernel_rfl) (by kernel_rfl) (by kernel_rfl) (by rfl) fun a hfr => ?_
    replace hfr : Fr 142 [(112, undef), (113, undef), (114, undef), (115, undef), (116, undef), (117, undef), (118, undef), (119, undef), (120, undef), (0, kv), (6, .pointer (some ⟨w0.heap.size, 0, none⟩)), (10, .pointer (some ⟨w2.heap.size, 0, none⟩)), (11, .pointer (some ⟨w3.heap.size, 0, none⟩)), (99, lv), (100, iv (ps.length : Int)), (101, iv (k : Int)), (102, .bool true), (103, iv (k : Int)), (104, slAddr lv (k * 7)), (105, .agg #[iv ((ps.getD k Pxy.z).frm), iv ((ps.getD k Pxy.z).to), iv ((ps.getD k Pxy.z).rf), iv ((ps.getD k Pxy.z).rt), iv ((ps.getD k Pxy.z).sf), iv ((ps.getD k Pxy.z).st), sv ((ps.getD k Pxy.z).sig)]), (19, .pointer (some ⟨w35.heap.size, 0, none⟩)), (18, iv (k : Int)), (106, .pointer (some ⟨w35.heap.size, 0, none⟩)), (107, iv ((ps.getD k Pxy.z).frm)), (108, kv), (109, iv (ks.length : Int)), (110, .bool true), (111, .bool true)] [{ target := .collected D, args := #[] }] a := hfr
    refine wd_lin (k := 15) 17 [16] (by kernel_rfl) (by kernel_rfl) (by kernel_rfl) ?_
    refine wln hfr fun a hfr => ?_
    refine wlv hfr (v_pick_t rfl rfl) fun a hfr => ?_
    refine wl_nil ?_
    refine wd_end (by kernel_rfl) ?_
    refine hK35 _ _ ?_
    replace hfr : Fr 142 [(0, _), (6, _), (10, _), (11, _), (99, _), (100, _), (101, _), (18, _), (122, _)] [{ target := .collected D, args := #[] }] a := hfr.pick [0, 6, 10, 11, 99, 100, 101, 18, 122]
    replace hst : St No w0 [_, _, _, _, _, _, _] w39 := hst.mask [false, true, true, true, true, true, true, true]
    refine wc_cond_t hfr rfl ?_
    refine wc_seq_region fun K36 hK36 => ?_
    refine wlm hfr rfl fun a hfr => ?_
    refine wl_store 3 hfr hst rfl rfl rfl (Tryz.sizeOf3 _) rfl (lb rfl) (ds := [iv 6]) rfl rfl ?_
    clear hfr hst
    intro a w40 hfr hst
    refine wl_store 4 hfr hst rfl rfl rfl (Tryz.sizeOf3 _) rfl (lb rfl) (ds := [iv (k : Int)]) rfl rfl ?_
    clear hfr hst
    intro a w41 hfr hst
    refine wl_nil (hK36 _ _ ?_)
    refine wc_ret ?_
    have hD := hst.get (k := 0) rfl
    replace hst := hst.unmark (i := 0) (o' := .deferred none) rfl
    replace hst : St No w0 [blk w0.heap.size [iv x.signer, iv x.holder, iv x.rf, iv x.rt, iv x.carrier, iv x.serial, iv x.sf, iv x.st, sv x.sig] 30, blk w1.heap.size [lv] 31, blk w2.heap.size [iv 6] 3, blk w3.heap.size [iv (k : Int)] 3, blk bh [iv x.holder] 3, blk bl [lv] 31] _ := hst
    refine fin_ret1 hfr hD Tryz.results15 (resAre_cell rfl (res_one (hst.get (k := 2) rfl) (Tryz.isAgg3 _)) (resAre_cell rfl (res_one (hst.get (k := 3) rfl) (Tryz.isAgg3 _)) resAre_nil)) ?_
    exact ⟨by rw [why_seal hwp hch hsc (by rw [hsb]; first | exact seal_out hkx hp0.1 (by omega) | exact seal_hit hkx hp0.1 (by omega) hb14)]; rfl, hst.ext⟩
   rw [hb14] at hfr
   try simp only [qz] at hb14
   refine wd_sub (k := 6) 15 [7, 14] hfr (by kernel_rfl) (by kernel_rfl) (by kernel_rfl) (by rfl) ?_
   replace hfr : Fr 142 [(0, _), (6, _), (10, _), (11, _), (99, _), (100, _), (101, _), (102, _), (103, _), (104, _), (105, _), (19, _), (18, _), (106, _), (107, _), (108, _), (109, _), (110, _), (111, _)] [{ target := .collected D, args := #[] }] a := hfr.pick [0, 6, 10, 11, 99, 100, 101, 102, 103, 104, 105, 19, 18, 106, 107, 108, 109, 110, 111]
   refine wc_phases_q [] (fun i => match i with | _ => fun _ _ => False) 9 [[], [0], [], [], [3], [2, 4], [5], [], [6, 7]] [.pointer (some ⟨w35.heap.size, 6, none⟩), sv ((ps.getD k Pxy.z).sig), kv, .pointer (some ⟨w35.heap.size, 0, none⟩), iv ((ps.getD k Pxy.z).frm), slAddr kv (((ps.getD k Pxy.z).frm.toNat) * 1), sv (ks.getD ((ps.getD k Pxy.z).frm.toNat) []), .func (.func 64) #[] #[.pointer (some ⟨w35.heap.size, 0, none⟩)], sv (sealH (ks.getD ((ps.getD k Pxy.z).frm.toNat) []) (ps.getD k Pxy.z).content)] hfr hst (by kernel_rfl) (by kernel_rfl) (by kernel_rfl) ?_ ?_ ?_
   ·intro i hi hiq
    match i, hi, hiq with
    | 0, _, _ =>
     intro w hst
     exact OpV.g (v_fieldAddr (v := .pointer (some ⟨w35.heap.size, 6, none⟩)) rfl (by kernel_rfl))
    | 1, _, _ =>
     intro w hst
     exact OpV.g (v_load_blk1 (hst.get (k := 0) rfl) rfl (Tryz.isAgg9 _) rfl)
    | 2, _, _ =>
     intro w hst
     exact OpV.g (v_move rfl)
    | 3, _, _ =>
     intro w hst
     exact OpV.g (v_fieldAddr (v := .pointer (some ⟨w35.heap.size, 0, none⟩)) rfl (by kernel_rfl))
    | 4, _, _ =>
     intro w hst
     exact OpV.g (v_load_blk1 (hst.get (k := 0) rfl) rfl (Tryz.isAgg3 _) rfl)
    | 5, _, _ =>
     intro w hst
     exact OpV.g ((v_indexAddr_sl (i := (ps.getD k Pxy.z).frm) (sT := 32) (hst.arg hkv) rfl rfl (Tryz.runUnderlying32 _) (Tryz.sizeOf9 _) (by omega) (by rw [List.length_map]; omega)).as (v' := slAddr kv (((ps.getD k Pxy.z).frm.toNat) * 1)) (by rw [show ((ps.getD k Pxy.z).frm).toNat = (ps.getD k Pxy.z).frm.toNat from by omega]))
    | 6, _, _ =>
     intro w hst
     exact OpV.g (v_load_sl1 (u := sv (ks.getD ((ps.getD k Pxy.z).frm.toNat) [])) (i := ((ps.getD k Pxy.z).frm.toNat)) (j := 0) (hst.arg hkv) (by rw [List.length_map]; omega) rfl (Tryz.isAgg9 _) (by rw [el_at ([] : By)]; rfl))
    | 7, _, _ =>
     intro w hst
     exact OpV.g (v_makeFunc rfl rfl)
    | 8, _, _ =>
     intro w hst
     exact g_callp Tryz.call63 rfl (seal_pure (ks.getD ((ps.getD k Pxy.z).frm.toNat) []) (ps.getD k Pxy.z).content 64 w35.heap.size [iv ((ps.getD k Pxy.z).frm), iv ((ps.getD k Pxy.z).to), iv ((ps.getD k Pxy.z).rf), iv ((ps.getD k Pxy.z).rt), iv ((ps.getD k Pxy.z).sf), iv ((ps.getD k Pxy.z).st), sv ((ps.getD k Pxy.z).sig)] 40 _ Tryz.call64 (fun b v ws h => wp2_run b w35.heap.size v (ps.getD k Pxy.z) ws (Pxy.smalls_of hpk) h) puts_ne (by have := hk32 _ (getD_mem (d := []) (by omega : ((ps.getD k Pxy.z).frm.toNat) < ks.length)); omega) (Nat.le_trans ((ps.getD k Pxy.z).content_len) (by decide)) (hst.keepb hk0) (hst.get (k := 0) rfl) (st_fresh hst (i := 0) rfl hk0))
   ·intro i hi
    exact absurd hi (by simp)
   clear hfr hst
   intro  a w42 hfr hst
   replace hfr : Fr 142 [(112, .pointer (some ⟨w35.heap.size, 6, none⟩)), (113, sv ((ps.getD k Pxy.z).sig)), (114, kv), (115, .pointer (some ⟨w35.heap.size, 0, none⟩)), (116, iv ((ps.getD k Pxy.z).frm)), (117, slAddr kv (((ps.getD k Pxy.z).frm.toNat) * 1)), (118, sv (ks.getD ((ps.getD k Pxy.z).frm.toNat) [])), (119, .func (.func 64) #[] #[.pointer (some ⟨w35.heap.size, 0, none⟩)]), (120, sv (sealH (ks.getD ((ps.getD k Pxy.z).frm.toNat) []) (ps.getD k Pxy.z).content)), (0, _), (6, _), (10, _), (11, _), (99, _), (100, _), (101, _), (102, _), (103, _), (104, _), (105, _), (19, _), (18, _), (106, _), (107, _), (108, _), (109, _), (110, _), (111, _)] [{ target := .collected D, args := #[] }] a := hfr
   refine wl_nil ?_
   refine wd_lin (k := 15) 17 [16] (by kernel_rfl) (by kernel_rfl) (by kernel_rfl) ?_
   refine wly hfr (v_sne rfl rfl) fun a hfr => ?_
   refine wlv hfr (v_pick_f rfl rfl) fun a hfr => ?_
   refine wl_nil ?_
   refine wd_end (by kernel_rfl) ?_
   refine hK35 _ _ ?_
   replace hfr : Fr 142 [(0, _), (6, _), (10, _), (11, _), (99, _), (100, _), (101, _), (18, _), (122, _)] [{ target := .collected D, args := #[] }] a := hfr.pick [0, 6, 10, 11, 99, 100, 101, 18, 122]
   replace hst : St No w0 [_, _, _, _, _, _, _] w42 := hst.mask [false, true, true, true, true, true, true, true]
   refine wc_cond hfr rfl (fun hc15 => ?_) (fun hc15 => ?_)
   ·rw [hc15] at hfr
    try simp only [qz] at hc15
    refine wc_seq_region fun K37 hK37 => ?_
    refine wlm hfr rfl fun a hfr => ?_
    refine wl_store 3 hfr hst rfl rfl rfl (Tryz.sizeOf3 _) rfl (lb rfl) (ds := [iv 6]) rfl rfl ?_
    clear hfr hst
    intro a w43 hfr hst
    refine wl_store 4 hfr hst rfl rfl rfl (Tryz.sizeOf3 _) rfl (lb rfl) (ds := [iv (k : Int)]) rfl rfl ?_
    clear hfr hst
    intro a w44 hfr hst
    refine wl_nil (hK37 _ _ ?_)
    refine wc_ret ?_
    have hD := hst.get (k := 0) rfl
    replace hst := hst.unmark (i := 0) (o' := .deferred none) rfl
    replace hst : St No w0 [blk w0.heap.size [iv x.signer, iv x.holder, iv x.rf, iv x.rt, iv x.carrier, iv x.serial, iv x.sf, iv x.st, sv x.sig] 30, blk w1.heap.size [lv] 31, blk w2.heap.size [iv 6] 3, blk w3.heap.size [iv (k : Int)] 3, blk bh [iv x.holder] 3, blk bl [lv] 31] _ := hst
    refine fin_ret1 hfr hD Tryz.results15 (resAre_cell rfl (res_one (hst.get (k := 2) rfl) (Tryz.isAgg3 _)) (resAre_cell rfl (res_one (hst.get (k := 3) rfl) (Tryz.isAgg3 _)) resAre_nil)) ?_
    exact ⟨by rw [why_seal hwp hch hsc (by rw [hsb]; first | exact seal_out hkx hp0.1 (by omega) | exact seal_hit hkx hp0.1 (by omega) hc15)]; rfl, hst.ext⟩
   rw [hc15] at hfr
   try simp only [qz] at hc15
   refine wc_skip ?_
   refine hK33 _ _ ?_
   refine wc_region ?_
   refine wlv hfr (v_add rfl rfl ⟨by omega, by omega⟩) fun a hfr => wlm hfr rfl fun a hfr => ?_
   refine wl_nil ?_
   refine ⟨_, ?_, k + 1, rfl, (by omega), (by rw [hsb]; exact seal_step hkx hp0.1 (by omega) hc15), hfr.pick [0, 6, 10, 11, 99, 100, 101], hst.select [0, 1, 2, 3, 4, 5, 6] (by decide)⟩
   omega
  rw [hc13] at hfr
  try simp only [qz] at hc13
  have hke : k = ps.length := by omega
  rw [hke, List.drop_length] at hsb
  refine wc_exit ?_
  refine hK29 _ _ ?_
  refine wc_seq_k fun K38 hK38 => ?_
  refine wc_seq_k fun K39 hK39 => ?_
  refine wc_of_dr (by kernel_rfl) (dr_of_wd (by kernel_rfl) fun w45 hxz => ?_)
  replace hst := hst.grow hxz
  refine wd_sub (k := 0) 4 [1, 3] hfr (by kernel_rfl) (by kernel_rfl) (by kernel_rfl) (by rfl) ?_
  replace hfr : Fr 142 [(0, _), (6, _), (10, _), (11, _), (99, _), (100, _), (101, _), (102, _)] [{ target := .collected D, args := #[] }] a := hfr.pick [0, 6, 10, 11, 99, 100, 101, 102]
  refine wc_phases_q [] (fun i => match i with | _ => fun _ _ => False) 4 [[], [0], [], [2]] [.pointer (some ⟨w0.heap.size, 0, none⟩), iv x.signer, kv, iv (ks.length : Int)] hfr hst (by kernel_rfl) (by kernel_rfl) (by kernel_rfl) ?_ ?_ ?_
  ·intro i hi hiq
   match i, hi, hiq with
   | 0, _, _ =>
    intro w hst
    exact OpV.g (v_fieldAddr (v := .pointer (some ⟨w0.heap.size, 0, none⟩)) rfl (by kernel_rfl))
   | 1, _, _ =>
    intro w hst
    exact OpV.g (v_load_blk1 (hst.get (k := 1) rfl) rfl (Tryz.isAgg3 _) rfl)
   | 2, _, _ =>
    intro w hst
    exact OpV.g (v_move rfl)
   | 3, _, _ =>
    intro w hst
    exact OpV.g ((v_len_sl (sT := 32) (hst.arg hkv) rfl rfl (Tryz.runUnderlying32 _)).asi (m' := (ks.length : Int)) (by rw [List.length_map]))
  ·intro i hi
   exact absurd hi (by simp)
  clear hfr hst
  intro  a w46 hfr hst
  replace hfr : Fr 142 [(125, .pointer (some ⟨w0.heap.size, 0, none⟩)), (126, iv x.signer), (127, kv), (128, iv (ks.length : Int)), (0, _), (6, _), (10, _), (11, _), (99, _), (100, _), (101, _), (102, _)] [{ target := .collected D, args := #[] }] a := hfr
  refine wl_nil ?_
  refine wd_lin (k := 4) 6 [5] (by kernel_rfl) (by kernel_rfl) (by kernel_rfl) ?_
  refine wlv hfr (v_ge rfl rfl) fun a hfr => wlm hfr rfl fun a hfr => ?_
  refine wl_nil ?_
  rcases Bool.eq_false_or_eq_true (decide ((ks.length : Int) ≤ x.signer)) with hb16 | hb16
  ·rw [hb16] at hfr
   try simp only [qz] at hb16
   replace hfr : Fr 142 [(0, kv), (6, .pointer (some ⟨w0.heap.size, 0, none⟩)), (10, .pointer (some ⟨w2.heap.size, 0, none⟩)), (11, .pointer (some ⟨w3.heap.size, 0, none⟩)), (99, lv), (100, iv (ps.length : Int)), (101, iv (k : Int)), (102, .bool false), (125, .pointer (some ⟨w0.heap.size, 0, none⟩)), (126, iv x.signer), (127, kv), (128, iv (ks.length : Int)), (129, .bool true), (130, .bool true)] [{ target := .collected D, args := #[] }] a := hfr.pick [0, 6, 10, 11, 99, 100, 101, 102, 125, 126, 127, 128, 129, 130]
   refine wd_skip (k := 6) 15 [7, 14] hfr (by kernel_rfl) (by kernel_rfl) (by kernel_rfl) (by rfl) fun a hfr => ?_
   replace hfr : Fr 142 [(131, undef), (132, undef), (133, undef), (134, undef), (135, undef), (136, undef), (137, undef), (138, undef), (139, undef), (0, kv), (6, .pointer (some ⟨w0.heap.size, 0, none⟩)), (10, .pointer (some ⟨w2.heap.size, 0, none⟩)), (11, .pointer (some ⟨w3.heap.size, 0, none⟩)), (99, lv), (100, iv (ps.length : Int)), (101, iv (k : Int)), (102, .bool false), (125, .pointer (some ⟨w0.heap.size, 0, none⟩)), (126, iv x.signer), (127, kv), (128, iv (ks.length : Int)), (129, .bool true), (130, .bool true)] [{ target := .collected D, args := #[] }] a := hfr
   refine wd_lin (k := 15) 17 [16] (by kernel_rfl) (by kernel_rfl) (by kernel_rfl) ?_
   refine wln hfr fun a hfr => ?_
   refine wlv hfr (v_pick_t rfl rfl) fun a hfr => ?_
   refine wl_nil ?_
   refine wd_end (by kernel_rfl) ?_
   refine hK39 _ _ ?_
   replace hfr : Fr 142 [(10, _), (11, _), (141, _)] [{ target := .collected D, args := #[] }] a := hfr.pick [10, 11, 141]
   refine wc_cond_t hfr rfl ?_
   refine wc_seq_region fun K40 hK40 => ?_
   refine wl_store 3 hfr hst rfl rfl rfl (Tryz.sizeOf3 _) rfl (lb rfl) (ds := [iv 6]) rfl rfl ?_
   clear hfr hst
   intro a w47 hfr hst
   refine wl_store 4 hfr hst rfl rfl rfl (Tryz.sizeOf3 _) rfl (lb rfl) (ds := [iv (-1)]) rfl rfl ?_
   clear hfr hst
   intro a w48 hfr hst
   refine wl_nil (hK40 _ _ ?_)
   refine wc_ret ?_
   have hD := hst.get (k := 0) rfl
   replace hst := hst.unmark (i := 0) (o' := .deferred none) rfl
   replace hst : St No w0 [blk w0.heap.size [iv x.signer, iv x.holder, iv x.rf, iv x.rt, iv x.carrier, iv x.serial, iv x.sf, iv x.st, sv x.sig] 30, blk w1.heap.size [lv] 31, blk w2.heap.size [iv 6] 3, blk w3.heap.size [iv (-1)] 3, blk bh [iv x.holder] 3, blk bl [lv] 31] _ := hst
   refine fin_ret1 hfr hD Tryz.results15 (resAre_cell rfl (res_one (hst.get (k := 2) rfl) (Tryz.isAgg3 _)) (resAre_cell rfl (res_one (hst.get (k := 3) rfl) (Tryz.isAgg3 _)) resAre_nil)) ?_
   exact ⟨by rw [why_seal hwp hch hsc (by rw [hsb]; first | exact seal_endN (Wsh.ok_signer hxo).1 (by omega) | exact seal_endB (Wsh.ok_signer hxo).1 (by omega) hb16)]; rfl, hst.ext⟩
  rw [hb16] at hfr
  try simp only [qz] at hb16
  refine wd_sub (k := 6) 15 [7, 14] hfr (by kernel_rfl) (by kernel_rfl) (by kernel_rfl) (by rfl) ?_
  replace hfr : Fr 142 [(0, _), (6, _), (10, _), (11, _), (99, _), (100, _), (101, _), (102, _), (125, _), (126, _), (127, _), (128, _), (129, _), (130, _)] [{ target := .collected D, args := #[] }] a := hfr.pick [0, 6, 10, 11, 99, 100, 101, 102, 125, 126, 127, 128, 129, 130]
  refine wc_phases_q [] (fun i => match i with | _ => fun _ _ => False) 9 [[], [0], [], [], [3], [2, 4], [5], [], [6, 7]] [.pointer (some ⟨w0.heap.size, 8, none⟩), sv x.sig, kv, .pointer (some ⟨w0.heap.size, 0, none⟩), iv x.signer, slAddr kv (x.signer.toNat * 1), sv (ks.getD x.signer.toNat []), .func (.func 66) #[] #[.pointer (some ⟨w0.heap.size, 0, none⟩)], sv (sealH (ks.getD x.signer.toNat []) x.content)] hfr hst (by kernel_rfl) (by kernel_rfl) (by kernel_rfl) ?_ ?_ ?_
  ·intro i hi hiq
   match i, hi, hiq with
   | 0, _, _ =>
    intro w hst
    exact OpV.g (v_fieldAddr (v := .pointer (some ⟨w0.heap.size, 8, none⟩)) rfl (by kernel_rfl))
   | 1, _, _ =>
    intro w hst
    exact OpV.g (v_load_blk1 (hst.get (k := 1) rfl) rfl (Tryz.isAgg9 _) rfl)
   | 2, _, _ =>
    intro w hst
    exact OpV.g (v_move rfl)
   | 3, _, _ =>
    intro w hst
    exact OpV.g (v_fieldAddr (v := .pointer (some ⟨w0.heap.size, 0, none⟩)) rfl (by kernel_rfl))
   | 4, _, _ =>
    intro w hst
    exact OpV.g (v_load_blk1 (hst.get (k := 1) rfl) rfl (Tryz.isAgg3 _) rfl)
   | 5, _, _ =>
    intro w hst
    exact OpV.g ((v_indexAddr_sl (i := x.signer) (sT := 32) (hst.arg hkv) rfl rfl (Tryz.runUnderlying32 _) (Tryz.sizeOf9 _) (by omega) (by rw [List.length_map]; omega)).as (v' := slAddr kv (x.signer.toNat * 1)) (by rw [show (x.signer).toNat = x.signer.toNat from by omega]))
   | 6, _, _ =>
    intro w hst
    exact OpV.g (v_load_sl1 (u := sv (ks.getD x.signer.toNat [])) (i := x.signer.toNat) (j := 0) (hst.arg hkv) (by rw [List.length_map]; omega) rfl (Tryz.isAgg9 _) (by rw [el_at ([] : By)]; rfl))
   | 7, _, _ =>
    intro w hst
    exact OpV.g (v_makeFunc rfl rfl)
   | 8, _, _ =>
    intro w hst
    exact g_callp Tryz.call63 rfl (seal_pure (ks.getD x.signer.toNat []) x.content 66 w0.heap.size [iv x.signer, iv x.holder, iv x.rf, iv x.rt, iv x.carrier, iv x.serial, iv x.sf, iv x.st, sv x.sig] 30 _ Tryz.call66 (fun b v ws h => ww3_run b w0.heap.size v x ws (Wsh.smalls_of hxo) h) puts_ne (by have := hk32 _ (getD_mem (d := []) (by omega : x.signer.toNat < ks.length)); omega) (Nat.le_trans (x.content_len) (by decide)) (hst.keepb hk0) (hst.get (k := 1) rfl) (st_fresh hst (i := 1) rfl hk0))
  ·intro i hi
   exact absurd hi (by simp)
  clear hfr hst
  intro  a w49 hfr hst
  replace hfr : Fr 142 [(131, .pointer (some ⟨w0.heap.size, 8, none⟩)), (132, sv x.sig), (133, kv), (134, .pointer (some ⟨w0.heap.size, 0, none⟩)), (135, iv x.signer), (136, slAddr kv (x.signer.toNat * 1)), (137, sv (ks.getD x.signer.toNat [])), (138, .func (.func 66) #[] #[.pointer (some ⟨w0.heap.size, 0, none⟩)]), (139, sv (sealH (ks.getD x.signer.toNat []) x.content)), (0, _), (6, _), (10, _), (11, _), (99, _), (100, _), (101, _), (102, _), (125, _), (126, _), (127, _), (128, _), (129, _), (130, _)] [{ target := .collected D, args := #[] }] a := hfr
  refine wl_nil ?_
  refine wd_lin (k := 15) 17 [16] (by kernel_rfl) (by kernel_rfl) (by kernel_rfl) ?_
  refine wly hfr (v_sne rfl rfl) fun a hfr => ?_
  refine wlv hfr (v_pick_f rfl rfl) fun a hfr => ?_
  refine wl_nil ?_
  refine wd_end (by kernel_rfl) ?_
  refine hK39 _ _ ?_
  replace hfr : Fr 142 [(10, _), (11, _), (141, _)] [{ target := .collected D, args := #[] }] a := hfr.pick [10, 11, 141]
  refine wc_cond hfr rfl (fun hc17 => ?_) (fun hc17 => ?_)
  ·rw [hc17] at hfr
   try simp only [qz] at hc17
   refine wc_seq_region fun K41 hK41 => ?_
   refine wl_store 3 hfr hst rfl rfl rfl (Tryz.sizeOf3 _) rfl (lb rfl) (ds := [iv 6]) rfl rfl ?_
   clear hfr hst
   intro a w50 hfr hst
   refine wl_store 4 hfr hst rfl rfl rfl (Tryz.sizeOf3 _) rfl (lb rfl) (ds := [iv (-1)]) rfl rfl ?_
   clear hfr hst
   intro a w51 hfr hst
   refine wl_nil (hK41 _ _ ?_)
   refine wc_ret ?_
   have hD := hst.get (k := 0) rfl
   replace hst := hst.unmark (i := 0) (o' := .deferred none) rfl
   replace hst : St No w0 [blk w0.heap.size [iv x.signer, iv x.holder, iv x.rf, iv x.rt, iv x.carrier, iv x.serial, iv x.sf, iv x.st, sv x.sig] 30, blk w1.heap.size [lv] 31, blk w2.heap.size [iv 6] 3, blk w3.heap.size [iv (-1)] 3, blk bh [iv x.holder] 3, blk bl [lv] 31] _ := hst
   refine fin_ret1 hfr hD Tryz.results15 (resAre_cell rfl (res_one (hst.get (k := 2) rfl) (Tryz.isAgg3 _)) (resAre_cell rfl (res_one (hst.get (k := 3) rfl) (Tryz.isAgg3 _)) resAre_nil)) ?_
   exact ⟨by rw [why_seal hwp hch hsc (by rw [hsb]; first | exact seal_endN (Wsh.ok_signer hxo).1 (by omega) | exact seal_endB (Wsh.ok_signer hxo).1 (by omega) hc17)]; rfl, hst.ext⟩
  rw [hc17] at hfr
  try simp only [qz] at hc17
  refine wc_skip ?_
  refine hK38 _ _ ?_
  refine wc_seq_region fun K42 hK42 => ?_
  refine wl_store 3 hfr hst rfl rfl rfl (Tryz.sizeOf3 _) rfl (lb rfl) (ds := [iv 0]) rfl rfl ?_
  clear hfr hst
  intro a w52 hfr hst
  refine wl_store 4 hfr hst rfl rfl rfl (Tryz.sizeOf3 _) rfl (lb rfl) (ds := [iv (-1)]) rfl rfl ?_
  clear hfr hst
  intro a w53 hfr hst
  refine wl_nil (hK42 _ _ ?_)
  refine wc_ret ?_
  have hD := hst.get (k := 0) rfl
  replace hst := hst.unmark (i := 0) (o' := .deferred none) rfl
  replace hst : St No w0 [blk w0.heap.size [iv x.signer, iv x.holder, iv x.rf, iv x.rt, iv x.carrier, iv x.serial, iv x.sf, iv x.st, sv x.sig] 30, blk w1.heap.size [lv] 31, blk w2.heap.size [iv 0] 3, blk w3.heap.size [iv (-1)] 3, blk bh [iv x.holder] 3, blk bl [lv] 31] _ := hst
  refine fin_ret1 hfr hD Tryz.results15 (resAre_cell rfl (res_one (hst.get (k := 2) rfl) (Tryz.isAgg3 _)) (resAre_cell rfl (res_one (hst.get (k := 3) rfl) (Tryz.isAgg3 _)) resAre_nil)) ?_
  exact ⟨by rw [why_none hwp hch hsc (by rw [hsb]; exact seal_endT (Wsh.ok_signer hxo).1 (by omega) hc17)]; rfl, hst.ext⟩
 ·rintro D _ pre _ _ a w54 rfl ⟨rfl, i, hci, rfl⟩ hst hfr
  replace hfr : Fr 142 [(0, kv), (6, .pointer (some ⟨w0.heap.size, 0, none⟩)), (7, .pointer (some ⟨w1.heap.size, 0, none⟩)), (10, .pointer (some ⟨w2.heap.size, 0, none⟩)), (11, .pointer (some ⟨w3.heap.size, 0, none⟩)), (62, .bool false), (63, .pointer (some ⟨w0.heap.size, 1, none⟩)), (64, iv x.holder), (65, lv), (66, .func (.func 118) #[] #[.pointer (some ⟨bh, 0, none⟩), .pointer (some ⟨bl, 0, none⟩)])] [{ target := .collected D, args := #[] }] a := hfr
  replace hst : St No w0 [obj D (.deferred (some [])), blk w0.heap.size [iv x.signer, iv x.holder, iv x.rf, iv x.rt, iv x.carrier, iv x.serial, iv x.sf, iv x.st, sv x.sig] 30, blk w1.heap.size [lv] 31, blk w2.heap.size [iv 4] 3, blk w3.heap.size [iv i] 3, blk bh [iv x.holder] 3, blk bl [lv] 31] w54 := hst
  refine wc_ret ?_
  have hD := hst.get (k := 0) rfl
  replace hst := hst.unmark (i := 0) (o' := .deferred none) rfl
  replace hst : St No w0 [blk w0.heap.size [iv x.signer, iv x.holder, iv x.rf, iv x.rt, iv x.carrier, iv x.serial, iv x.sf, iv x.st, sv x.sig] 30, blk w1.heap.size [lv] 31, blk w2.heap.size [iv 4] 3, blk w3.heap.size [iv i] 3, blk bh [iv x.holder] 3, blk bl [lv] 31] _ := hst
  refine fin_ret1 hfr hD Tryz.results15 (resAre_cell rfl (res_one (hst.get (k := 2) rfl) (Tryz.isAgg3 _)) (resAre_cell rfl (res_one (hst.get (k := 3) rfl) (Tryz.isAgg3 _)) resAre_nil)) ?_
  exact ⟨by rw [why_chain hwp hci]; rfl, hst.ext⟩
end Go.Proofs.YtmmfieceinmloaaGreatDoor
namespace Go.PW
open Go.RowKit
set_option linter.unusedVariables false
section
variable {P : Program} {w : World} {L : List (Nat × Value)} {dst : Option Tmp} {T T' ty : TypeId} {pos : String} {af : Array Edge} {gd : Option (Nat × Bool)} {x y : Operand}
theorem v_yshr {b : UInt8} {n : Nat} {k : IntKind} (hn : n ≤ 8) (hx : ev L x = some (yv b)) (hy : ev L y = some (.int k (n : Int))) : OpV P ⟨dst, .binOp .shr T x y T', ty, pos, af, gd⟩ L w (yv (UInt8.ofNat (b.toNat / 2 ^ n))) :=
 v_bin2 (u := yv b) (v := .int k (n : Int)) hx hy rfl (by
  have h0 : ¬ ((n : Int) < 0) := by omega
  show (Op.shift .shr .u8 (b.toNat : Int) k (n : Int)).run P w = _
  simp only [Op.shift, if_neg h0, Int.toNat_natCast]
  show Result.ok (Value.int .u8 ((b.toNat : Int).fdiv (2 ^ (min n 8)))) w = _
  rw [Nat.min_eq_left hn]
  have : ((2 : Int) ^ n) = ((2 ^ n : Nat) : Int) := by push_cast; rfl
  rw [this, Int.fdiv_eq_ediv_of_nonneg _ (Int.natCast_nonneg _), ← Int.natCast_ediv]
  have hb := b.toNat_lt
  have hd : b.toNat / 2 ^ n < 256 := Nat.lt_of_le_of_lt (Nat.div_le_self _ _) hb
  unfold yv
  rw [UInt8.toNat_ofNat_of_lt' hd])
theorem v_index_stry {i : Nat} {kd : IntKind} {s : List UInt8} (hx : ev L x = some (sv s)) (hy : ev L y = some (.int kd (i : Int))) (hu : (underlying T).run P w = .ok .string w) (hl : i < s.length) : OpV P ⟨dst, .index T x y, ty, pos, af, gd⟩ L w (yv (s.getD i 0)) := by
 refine v_index hx hy ?_
 have hsz : (ByteArray.mk s.toArray).size = s.length := by simp [ByteArray.size]
 have h2 : (i : Int) < (s.length : Int) := by omega
 simp only [sv, Instr.index, asIntOf, Sem.run_bind, Sem.run_pure, Result.andThen_ok, hu]
 have hg : s.getD i 0 = s[i] := by simp [List.getD_eq_getElem?_getD, hl]
 simp [hsz, hl, yv, -List.getD_eq_getElem?_getD, hg]
 rfl
theorem y15 (b : UInt8) : (b &&& 15).toNat = b.toNat % 16 := by rw [UInt8.toNat_and]; exact Nat.and_two_pow_sub_one_eq_mod b.toNat 4
theorem y127 (b : UInt8) : (b &&& 127).toNat = b.toNat % 128 := by rw [UInt8.toNat_and]; exact Nat.and_two_pow_sub_one_eq_mod b.toNat 7
end
end Go.PW
namespace Go.Proofs.YtmmfieceinmloaaGreatDoor
open Go.RowKit Go.PW
set_option linter.unusedVariables false
set_option linter.unusedSimpArgs false
set_option maxRecDepth 4000
theorem valid_ok (kv lv : Value) (ks : List By) (x : Wsh) (ps : List Pxy) (number t : Int) (w0 : World) (hkv : SlAt w0 kv 1 (ks.map fun s => [sv s])) (hlv : SlAt w0 lv 7 (ps.map Pxy.cells)) (hk0 : (blk 0 (kOf.map wv) 239).ok w0) :
  Ret Tryz.prog 17 #[kv, .agg #[iv x.signer, iv x.holder, iv x.rf, iv x.rt, iv x.carrier, iv x.serial, iv x.sf, iv x.st, sv x.sig], lv, iv number, iv t] w0 fun v w => v = .bool (validH ks x ps number t) ∧ Ext No w0 w := by
 refine ret_of Tryz.func17 rfl Tryz.ntmps17 (lb rfl) fun a hfr => ?_
 replace hfr : Fr 24 [(0, _), (1, _), (2, _), (3, _), (4, _)] [] a := hfr
 replace hst : St No w0 [] w0 := St.init w0
 refine wc_seq_region fun K1 hK1 => ?_
 refine wl_box hfr hst (by decide) rfl (cs := [iv x.signer, iv x.holder, iv x.rf, iv x.rt, iv x.carrier, iv x.serial, iv x.sf, iv x.st, sv x.sig]) rfl ?_
 clear hfr hst
 intro a w1 hfr hst
 refine wla hfr rfl fun a hfr => ?_
 refine wl_nil (hK1 _ _ ?_)
 refine wc_seq_region fun K2 hK2 => ?_
 refine wlm hfr rfl fun a hfr => ?_
 refine wlv hfr (v_load_all (hst.get (k := 0) rfl) rfl (Tryz.isAgg30 _) (Tryz.sizeOf30 _)) fun a hfr => wlm hfr rfl fun a hfr => wlm hfr rfl fun a hfr => wlm hfr rfl fun a hfr => ?_
 refine wl_callp hfr hst (by decide) Tryz.call15 rfl (why_ok kv lv ks x ps number t _ (hst.arg hkv) (hst.arg hlv) (hst.keepb hk0)) ?_
 clear hfr hst
 intro a w2 hfr hst
 refine wlm hfr rfl fun a hfr => ?_
 refine wlv hfr (v_extract rfl rfl) fun a hfr => ?_
 refine wlv hfr (v_extract rfl rfl) fun a hfr => wla hfr rfl fun a hfr => wla hfr rfl fun a hfr => ?_
 refine wl_nil (hK2 _ _ ?_)
 replace hfr : Fr 24 [(10, _), (11, _)] [] a := hfr.pick [10, 11]
 replace hst : St No w0 [] w2 := hst.mask [false]
 refine wc_seq_region fun K3 hK3 => ?_
 refine wlm hfr rfl fun a hfr => ?_
 refine wlv hfr (v_eq rfl rfl) fun a hfr => wla hfr rfl fun a hfr => ?_
 refine wl_nil (hK3 _ _ ?_)
 refine wc_ret ?_
 refine fin_ret hfr Tryz.results17 (resAre_tmp rfl resAre_nil) ?_
 exact ⟨by rfl, hst.ext⟩
theorem wbyte_any {M : Nat → Prop} {w0 : World} (T : TypeId) (b : Nat) (ad v : Value) (bs : By) (z : UInt8) (ws : World) (hlie : liesAt Tryz.prog Tryz.prog.depth T (2 / Tryz.prog.cellsOf T) 0 131 1 = true) (had : ad = .pointer none ∨ ad = .pointer (some ⟨b, 0, none⟩)) (hbn : bs.length + 1 ≤ 1000000000) (hst : St M w0 [bld T b ad v bs] ws) :
  Ret Tryz.prog 88 #[.pointer (some ⟨b, 0, none⟩), yv z] ws fun u w => u = .nilIface ∧ ∃ v2, St M w0 [bld T b (.pointer (some ⟨b, 0, none⟩)) v2 (bs ++ [z])] w := by
 rcases had with rfl | rfl
 ·exact wbyte_fresh T b v bs z ws hlie hbn hst
 ·exact wbyte_used T b v bs z ws hlie hbn hst
def hexD (n : Nat) : UInt8 := ([48, 49, 50, 51, 52, 53, 54, 55, 56, 57, 97, 98, 99, 100, 101, 102] : By).getD n 0
def hexs (l : By) : By := l.flatMap fun b => [hexD (b.toNat / 16), hexD (b.toNat % 16)]
theorem hexs_snoc (l : By) (b : UInt8) : hexs (l ++ [b]) = hexs l ++ [hexD (b.toNat / 16)] ++ [hexD (b.toNat % 16)] := by simp [hexs]
theorem hexs_len (l : By) : (hexs l).length = 2 * l.length := by
 induction l with
 | nil => rfl
 | cons b l ih => simp only [hexs, List.flatMap_cons, List.length_append, List.length_cons, List.length_nil] at *; omega
def accC (n d : Int) : By := puts [3, n, d]
def accH (key : By) (n d : Int) : By := hexs ((sealH key (accC n d)).take 8)
def accOk (key : By) (n d : Int) : Bool := decide (key.length = 32) && inB n 0 99999999 && inB d 0 1000000
theorem sealH_len (key c : By) : (sealH key c).length = 32 := by unfold sealH nodeH; exact sha_len _
theorem accH_len (key : By) (n d : Int) : (accH key n d).length = 16 := by unfold accH; rw [hexs_len, List.length_take, sealH_len]; rfl
theorem take_one {l : By} {k : Nat} (h : k < l.length) : l.take (k + 1) = l.take k ++ [l.getD k 0] := by
 rw [List.take_add_one, List.getElem?_eq_getElem h, List.getD_eq_getElem?_getD, List.getElem?_eq_getElem h]; rfl
theorem acc_smalls {n d : Int} (h1 : inB n 0 99999999 = true) (h2 : inB d 0 1000000 = true) : smalls [3, n, d] := by
 simp only [inB, Bool.and_eq_true, decide_eq_true_eq] at h1 h2
 intro z hz
 simp only [List.mem_cons, List.not_mem_nil, or_false] at hz
 unfold small
 rcases hz with rfl | rfl | rfl <;> omega
theorem acc_len (n d : Int) : (puts [3, n, d]).length ≤ 40000000 := Nat.le_trans (puts_len _) (by show 9 * 3 ≤ 40000000; decide)
theorem seal_pure2 (key : By) (n d : Int) (bx by_ : Nat) (w0 : World) (hx : smalls [3, n, d]) (hkl : key.length ≤ 40000000) (hk0 : (blk 0 (kOf.map wv) 239).ok w0) (hbx : (blk bx [iv n] 3).ok w0) (hby : (blk by_ [iv d] 3).ok w0) (h1 : bx ≠ 0) (h2 : by_ ≠ 0) (h3 : bx ≠ by_) :
  Ret Tryz.prog 63 #[sv key, .func (.func 87) #[] #[.pointer (some ⟨bx, 0, none⟩), .pointer (some ⟨by_, 0, none⟩)]] w0 fun v w => v = sv (sealH key (accC n d)) ∧ Ext No w0 w := by
 have hst : St (fun k => k = 0 ∨ k = bx ∨ k = by_) w0 [blk 0 (kOf.map wv) 239, join [blk bx [iv n] 3, blk by_ [iv d] 3]] w0 := by
  have l1 := (Array.getElem?_eq_some_iff.1 hk0).1
  have l2 := (Array.getElem?_eq_some_iff.1 hbx).1
  have l3 := (Array.getElem?_eq_some_iff.1 hby).1
  refine ⟨Ext.refl _ _, fun e he => ?_, ?_⟩
  ·simp only [List.mem_cons, List.not_mem_nil, or_false] at he
   rcases he with rfl | rfl
   ·exact ⟨hk0, fun k hk => by cases hk; exact ⟨l1, fun _ => .inl rfl⟩⟩
   ·refine ⟨⟨fun e he => ?_, ?_⟩, fun k ⟨e, he, hk⟩ => ?_⟩
    ·simp only [List.mem_cons, List.not_mem_nil, or_false] at he
     rcases he with rfl | rfl
     ·exact hbx
     ·exact hby
    ·refine List.Pairwise.cons (fun e he k hk hk' => ?_) (List.pairwise_singleton _ _)
     simp only [List.mem_cons, List.not_mem_nil, or_false] at he
     subst he; cases hk; exact h3 hk'
    ·simp only [List.mem_cons, List.not_mem_nil, or_false] at he
     rcases he with rfl | rfl
     ·cases hk; exact ⟨l2, fun _ => .inr (.inl rfl)⟩
     ·cases hk; exact ⟨l3, fun _ => .inr (.inr rfl)⟩
  ·refine List.Pairwise.cons (fun e he k hk hk' => ?_) (List.pairwise_singleton _ _)
   simp only [List.mem_cons, List.not_mem_nil, or_false] at he
   subst he
   cases hk
   obtain ⟨e, he, hk⟩ := hk'
   simp only [List.mem_cons, List.not_mem_nil, or_false] at he
   rcases he with rfl | rfl
   ·exact h1 (Eq.symm hk)
   ·exact h2 (Eq.symm hk)
 refine (seal_ok key (accC n d) 87 [.pointer (some ⟨bx, 0, none⟩), .pointer (some ⟨by_, 0, none⟩)] (join [blk bx [iv n] 3, blk by_ [iv d] 3]) w0 Tryz.call87 (fun b v ws h => ?_) puts_ne hkl (acc_len n d) hst).mono fun v w ⟨e1, e2⟩ => ⟨e1, ?_⟩
 ·refine (acc1_run b bx by_ v n d ws hx (St.unjoinTail [bld 133 b (.pointer none) v []] [blk bx [iv n] 3, blk by_ [iv d] 3] h)).mono fun u w ⟨g1, v2, g2⟩ => ⟨g1, v2, ?_⟩
  exact St.joinTail [bld 133 b (.pointer (some ⟨b, 0, none⟩)) v2 (puts [3, n, d])] [blk bx [iv n] 3, blk by_ [iv d] 3] g2
 ·have e3 := St.unjoinTail [blk 0 (kOf.map wv) 239] [blk bx [iv n] 3, blk by_ [iv d] 3] e2
  refine ⟨e2.ext.os, e2.ext.tape, e2.ext.output, e2.ext.size, fun k hk _ => ?_⟩
  by_cases q1 : k = 0
  ·subst q1; exact Eq.trans (e3.get (k := 0) rfl) (Eq.symm hk0)
  ·by_cases q2 : k = bx
   ·subst q2; exact Eq.trans (e3.get (k := 1) rfl) (Eq.symm hbx)
   ·by_cases q3 : k = by_
    ·subst q3; exact Eq.trans (e3.get (k := 2) rfl) (Eq.symm hby)
    ·exact e2.ext.same k hk fun hh => hh.elim q1 (fun hh => hh.elim q2 q3)
theorem st_apart {M : Nat → Prop} {w0 w : World} {H : List Ent} {i j b g : Nat} {cs c1 : List Value} {T T1 : TypeId} (h : St M w0 H w) (hi : H[i]? = some (blk b cs T)) (hj : H[j]? = some (blk g c1 T1)) (hij : i ≠ j) : b ≠ g := by
 rintro rfl
 obtain ⟨a1, a2⟩ := List.getElem?_eq_some_iff.1 hi
 obtain ⟨b1, b2⟩ := List.getElem?_eq_some_iff.1 hj
 have hp := List.pairwise_iff_getElem.1 h.dis
 rcases Nat.lt_or_gt_of_ne hij with hlt | hlt
 ·exact hp i j a1 b1 hlt b (by rw [a2]; rfl) (by rw [b2]; rfl)
 ·exact hp j i b1 a1 hlt b (by rw [b2]; rfl) (by rw [a2]; rfl)
set_option maxHeartbeats 4000000 in
theorem account_ok (key : By) (n d : Int) (w0 : World) (hkl : key.length ≤ 40000000) (hk0 : (blk 0 (kOf.map wv) 239).ok w0) :
  Ret Tryz.prog 31 #[sv key, iv n, iv d] w0 fun v w => v = (if accOk key n d = true then .tuple #[sv (accH key n d), iv 0] else .tuple #[sv [], iv 150]) ∧ Ext No w0 w := by
 refine ret_of Tryz.func31 rfl Tryz.ntmps31 (lb rfl) fun a hfr => ?_
 replace hfr : Fr 44 [(0, _), (1, _), (2, _)] [] a := hfr
 replace hst : St No w0 [] w0 := St.init w0
 refine wc_seq_region fun K1 hK1 => ?_
 refine wl_box hfr hst (by decide) rfl (cs := [iv n]) rfl ?_
 clear hfr hst
 intro a w1 hfr hst
 refine wl_box hfr hst (by decide) rfl (cs := [iv d]) rfl ?_
 clear hfr hst
 intro a w2 hfr hst
 refine wla hfr rfl fun a hfr => wla hfr rfl fun a hfr => ?_
 refine wl_nil (hK1 _ _ ?_)
 refine wc_seq_k fun K2 hK2 => ?_
 refine wc_seq_region fun K3 hK3 => ?_
 refine wlm hfr rfl fun a hfr => ?_
 refine wl_callp hfr hst (by decide) Tryz.call56 rfl (isKey_ok key _) ?_
 clear hfr hst
 intro a w3 hfr hst
 refine wlv hfr (v_not rfl) fun a hfr => wlm hfr rfl fun a hfr => ?_
 rcases Bool.eq_false_or_eq_true (!(decide ((key.length : Int) = 32))) with hb1 | hb1
 ·rw [hb1] at hfr
  try simp only [qz] at hb1
  refine wln hfr fun a hfr => ?_
  refine wln hfr fun a hfr => ?_
  refine wln hfr fun a hfr => ?_
  refine wlv hfr (v_pick_t rfl rfl) fun a hfr => wlm hfr rfl fun a hfr => ?_
  refine wln hfr fun a hfr => ?_
  refine wln hfr fun a hfr => ?_
  refine wln hfr fun a hfr => ?_
  refine wlv hfr (v_pick_t rfl rfl) fun a hfr => ?_
  refine wl_nil (hK3 _ _ ?_)
  replace hfr : Fr 44 [(0, _), (4, _), (5, _), (6, _), (7, _), (23, _)] [] a := hfr.pick [0, 4, 5, 6, 7, 23]
  refine wc_cond_t hfr rfl ?_
  refine wc_seq_region fun K4 hK4 => ?_
  refine wla hfr rfl fun a hfr => wla hfr rfl fun a hfr => ?_
  refine wl_nil (hK4 _ _ ?_)
  refine wc_ret ?_
  refine fin_ret hfr Tryz.results31 (resAre_tmp rfl (resAre_tmp rfl resAre_nil)) ?_
  exact ⟨by simp only [retv]; rw [if_neg (by unfold accOk; simp [hb1]; omega)]; rfl, hst.ext⟩
 rw [hb1] at hfr
 try simp only [qz] at hb1
 refine wly hfr (v_load_blk1 (hst.get (k := 1) rfl) rfl (Tryz.isAgg3 _) rfl) fun a hfr => ?_
 refine wl_callpy hfr hst (by decide) rfl (by decide) rfl Tryz.call60 rfl (isWithin_ok n 0 99999999 _) ?_
 clear hfr hst
 intro a w4 hfr hst
 refine wly hfr (v_not rfl) fun a hfr => ?_
 refine wlv hfr (v_pick_f rfl rfl) fun a hfr => wlm hfr rfl fun a hfr => ?_
 rcases Bool.eq_false_or_eq_true (!(inB n 0 99999999)) with hb2 | hb2
 ·rw [hb2] at hfr
  try simp only [qz] at hb2
  refine wln hfr fun a hfr => ?_
  refine wln hfr fun a hfr => ?_
  refine wln hfr fun a hfr => ?_
  refine wlv hfr (v_pick_t rfl rfl) fun a hfr => ?_
  refine wl_nil (hK3 _ _ ?_)
  replace hfr : Fr 44 [(0, _), (4, _), (5, _), (6, _), (7, _), (23, _)] [] a := hfr.pick [0, 4, 5, 6, 7, 23]
  refine wc_cond_t hfr rfl ?_
  refine wc_seq_region fun K5 hK5 => ?_
  refine wla hfr rfl fun a hfr => wla hfr rfl fun a hfr => ?_
  refine wl_nil (hK5 _ _ ?_)
  refine wc_ret ?_
  refine fin_ret hfr Tryz.results31 (resAre_tmp rfl (resAre_tmp rfl resAre_nil)) ?_
  exact ⟨by simp only [retv]; rw [if_neg (by unfold accOk; simp [hb2])]; rfl, hst.ext⟩
 rw [hb2] at hfr
 try simp only [qz] at hb2
 refine wly hfr (v_load_blk1 (hst.get (k := 0) rfl) rfl (Tryz.isAgg3 _) rfl) fun a hfr => ?_
 refine wl_callpy hfr hst (by decide) rfl (by decide) rfl Tryz.call60 rfl (isWithin_ok d 0 1000000 _) ?_
 clear hfr hst
 intro a w5 hfr hst
 refine wly hfr (v_not rfl) fun a hfr => ?_
 refine wlv hfr (v_pick_f rfl rfl) fun a hfr => ?_
 refine wl_nil (hK3 _ _ ?_)
 replace hfr : Fr 44 [(0, _), (4, _), (5, _), (6, _), (7, _), (23, _)] [] a := hfr.pick [0, 4, 5, 6, 7, 23]
 refine wc_cond hfr rfl (fun hc3 => ?_) (fun hc3 => ?_)
 ·rw [hc3] at hfr
  try simp only [qz] at hc3
  refine wc_seq_region fun K6 hK6 => ?_
  refine wla hfr rfl fun a hfr => wla hfr rfl fun a hfr => ?_
  refine wl_nil (hK6 _ _ ?_)
  refine wc_ret ?_
  refine fin_ret hfr Tryz.results31 (resAre_tmp rfl (resAre_tmp rfl resAre_nil)) ?_
  exact ⟨by simp only [retv]; rw [if_neg (by unfold accOk; simp [hc3])]; rfl, hst.ext⟩
 rw [hc3] at hfr
 try simp only [qz] at hc3
 refine wc_skip ?_
 refine hK2 _ _ ?_
 refine wc_seq_region fun K7 hK7 => ?_
 refine wlm hfr rfl fun a hfr => ?_
 refine wlv hfr (v_makeFunc rfl rfl) fun a hfr => ?_
 refine wl_callp hfr hst (by decide) Tryz.call63 rfl (seal_pure2 key n d w0.heap.size w1.heap.size _ (acc_smalls hb2 hc3) (by omega) (hst.keepb hk0) (hst.get (k := 1) rfl) (hst.get (k := 0) rfl) (st_fresh hst (i := 1) rfl hk0) (st_fresh hst (i := 0) rfl hk0) (st_apart hst (i := 1) (j := 0) rfl rfl (by decide))) ?_
 clear hfr hst
 intro a w6 hfr hst
 refine wla hfr rfl fun a hfr => ?_
 refine wl_nil (hK7 _ _ ?_)
 replace hfr : Fr 44 [(6, _), (7, _), (8, _)] [] a := hfr.pick [6, 7, 8]
 replace hst : St No w0 [] w6 := hst.mask [false, false]
 refine wc_seq_region fun K8 hK8 => ?_
 refine wl_alloc hfr hst (by decide) (Tryz.zeroValue131 _) (cs := [.pointer none, .slice none 0 0]) rfl ?_
 clear hfr hst
 intro a w7 hfr hst
 refine wl_nil (hK8 _ _ ?_)
 refine wc_seq_k fun K9 hK9 => ?_
 replace hst : St No w0 (own (.slice none 0 0) 5 1 [] :: [blk w6.heap.size [.pointer none, .slice none 0 0] 131]) w7 := hst.nil_own
 replace hst : St No w0 [blk w6.heap.size [.pointer none, .slice none 0 0] 131, own (.slice none 0 0) 5 1 ([])] w7 := hst.select [1, 0] (by decide)
 replace hst : St No w0 [bld 131 w6.heap.size (.pointer none) (.slice none 0 0) ([] : By)] w7 := St.join [blk w6.heap.size [.pointer none, .slice none 0 0] 131, own (.slice none 0 0) 5 1 ([])] [] hst
 refine wc_seq_region fun K10 hK10 => ?_
 refine wlm hfr rfl fun a hfr => ?_
 refine wl_nil (hK10 _ _ ?_)
 refine wc_block ?_
 refine wc_loop (fun m a w => ∃ (k : Nat) (ad : Value) (v : Value), m = 8 - k ∧ (k ≤ 8) ∧ (ad = .pointer none ∨ ad = .pointer (some ⟨w6.heap.size, 0, none⟩)) ∧ (0 < k → ad = .pointer (some ⟨w6.heap.size, 0, none⟩)) ∧ Fr 44 [(6, sv ([])), (7, iv 0), (8, sv (sealH key (accC n d))), (9, .pointer (some ⟨w6.heap.size, 0, none⟩)), (27, iv (k : Int))] [] a ∧ St No w0 [bld 131 w6.heap.size (ad) v (hexs ((sealH key (accC n d)).take k))] w) _ ⟨0, .pointer none, .slice none 0 0, rfl, (by decide), (.inl rfl), (fun h => absurd h (Nat.lt_irrefl 0)), hfr.pick [6, 7, 8, 9, 27], hst.select [0] (by decide)⟩ ?_
 rintro _ a w8 ⟨k, ad, v, rfl, hk, had, hak, hfr, hst⟩
 refine wc_seq_region fun K11 hK11 => ?_
 refine wlv hfr (v_lt rfl rfl) fun a hfr => ?_
 refine wl_nil (hK11 _ _ ?_)
 refine wc_seq_k fun K12 hK12 => ?_
 refine wc_cond hfr rfl (fun hc4 => ?_) (fun hc4 => ?_)
 ·rw [hc4] at hfr
  try simp only [qz] at hc4
  have hsl : (sealH key (accC n d)).length = 32 := sealH_len _ _
  refine wc_skip ?_
  refine hK12 _ _ ?_
  refine wc_seq_k fun K13 hK13 => ?_
  refine wc_block ?_
  refine wc_seq_region fun K14 hK14 => ?_
  refine wlm hfr rfl fun a hfr => wla hfr rfl fun a hfr => ?_
  refine wl_nil (hK14 _ _ ?_)
  refine wc_seq_region fun K15 hK15 => ?_
  refine wlm hfr rfl fun a hfr => wlm hfr rfl fun a hfr => ?_
  refine wlv hfr (v_index_str (k := k) rfl rfl (Tryz.runUnderlying9 _) (by omega) (by omega)) fun a hfr => ?_
  refine wlv hfr ((v_yshr (n := 4) (by decide) rfl rfl).as (v' := .int .u8 ((((sealH key (accC n d)).getD k 0).toNat / 16 : Nat) : Int)) (by unfold yv; rw [UInt8.toNat_ofNat_of_lt' (by have := ((sealH key (accC n d)).getD k 0).toNat_lt; simp only [UInt8.size]; omega)])) fun a hfr => ?_
  refine wlv hfr (v_index_stry (i := ((sealH key (accC n d)).getD k 0).toNat / 16) rfl rfl (Tryz.runUnderlying9 _) (by have := UInt8.toNat_lt ((sealH key (accC n d)).getD k 0); simp only [List.length_cons, List.length_nil]; omega)) fun a hfr => ?_
  refine wl_callE (R := fun u e' => u = .nilIface ∧ ∃ v2, e' = bld 131 w6.heap.size (.pointer (some ⟨w6.heap.size, 0, none⟩)) v2 ((hexs ((sealH key (accC n d)).take k)) ++ [hexD (((sealH key (accC n d)).getD k 0).toNat / 16)])) 0 hfr hst rfl (by decide) Tryz.call88 rfl (fun h => (wbyte_any 131 w6.heap.size _ _ _ _ _ (by kernel_rfl) had (by simp only [List.length_append, hexs_len, List.length_take, List.length_cons, List.length_nil]; omega) h).mono fun u w ⟨h1, v2, h2⟩ => ⟨_, ⟨h1, v2, rfl⟩, h2⟩) ?_
  clear hfr hst
  rintro a w9 _ _ ⟨rfl, v5, rfl⟩ hfr hst
  replace hst : St No w0 [bld 131 w6.heap.size (.pointer (some ⟨w6.heap.size, 0, none⟩)) v5 ((hexs ((sealH key (accC n d)).take k)) ++ [hexD (((sealH key (accC n d)).getD k 0).toNat / 16)])] w9 := hst
  refine wl_nil (hK15 _ _ ?_)
  replace hfr : Fr 44 [(6, _), (7, _), (8, _), (9, _), (27, _), (10, _)] [] a := hfr.pick [6, 7, 8, 9, 27, 10]
  refine wc_region ?_
  refine wlm hfr rfl fun a hfr => wlm hfr rfl fun a hfr => ?_
  refine wlv hfr (v_index_str (k := k) rfl rfl (Tryz.runUnderlying9 _) (by omega) (by omega)) fun a hfr => ?_
  refine wlv hfr ((v_yand rfl rfl).as (v' := .int .u8 ((((sealH key (accC n d)).getD k 0).toNat % 16 : Nat) : Int)) (by unfold yv; rw [y15])) fun a hfr => ?_
  refine wlv hfr (v_index_stry (i := ((sealH key (accC n d)).getD k 0).toNat % 16) rfl rfl (Tryz.runUnderlying9 _) (by have := UInt8.toNat_lt ((sealH key (accC n d)).getD k 0); simp only [List.length_cons, List.length_nil]; omega)) fun a hfr => ?_
  refine wl_callE (R := fun u e' => u = .nilIface ∧ ∃ v2, e' = bld 131 w6.heap.size (.pointer (some ⟨w6.heap.size, 0, none⟩)) v2 (((hexs ((sealH key (accC n d)).take k)) ++ [hexD (((sealH key (accC n d)).getD k 0).toNat / 16)]) ++ [hexD (((sealH key (accC n d)).getD k 0).toNat % 16)])) 0 hfr hst rfl (by decide) Tryz.call88 rfl (fun h => (wbyte_any 131 w6.heap.size _ _ _ _ _ (by kernel_rfl) (.inr rfl) (by simp only [List.length_append, hexs_len, List.length_take, List.length_cons, List.length_nil]; omega) h).mono fun u w ⟨h1, v2, h2⟩ => ⟨_, ⟨h1, v2, rfl⟩, h2⟩) ?_
  clear hfr hst
  rintro a w10 _ _ ⟨rfl, v6, rfl⟩ hfr hst
  replace hst : St No w0 [bld 131 w6.heap.size (.pointer (some ⟨w6.heap.size, 0, none⟩)) v6 (((hexs ((sealH key (accC n d)).take k)) ++ [hexD (((sealH key (accC n d)).getD k 0).toNat / 16)]) ++ [hexD (((sealH key (accC n d)).getD k 0).toNat % 16)])] w10 := hst
  refine wl_nil ?_
  refine hK13 _ _ ?_
  replace hfr : Fr 44 [(6, _), (7, _), (8, _), (9, _), (27, _)] [] a := hfr.pick [6, 7, 8, 9, 27]
  refine wc_region ?_
  refine wlv hfr (v_add rfl rfl ⟨by omega, by omega⟩) fun a hfr => wlm hfr rfl fun a hfr => ?_
  refine wl_nil ?_
  replace hst : St No w0 [bld 131 w6.heap.size (.pointer (some ⟨w6.heap.size, 0, none⟩)) v6 (hexs ((sealH key (accC n d)).take (k + 1)))] w10 := by rw [show hexs ((sealH key (accC n d)).take (k + 1)) = ((hexs ((sealH key (accC n d)).take k)) ++ [hexD (((sealH key (accC n d)).getD k 0).toNat / 16)]) ++ [hexD (((sealH key (accC n d)).getD k 0).toNat % 16)] from by rw [take_one (by rw [sealH_len]; omega), hexs_snoc]]; exact hst
  refine ⟨_, ?_, k + 1, (.pointer (some ⟨w6.heap.size, 0, none⟩)), v6, rfl, (by omega), (.inr rfl), (fun _ => rfl), hfr.pick [6, 7, 8, 9, 27], hst.select [0] (by decide)⟩
  omega
 rw [hc4] at hfr
 try simp only [qz] at hc4
 have hke : k = 8 := by omega
 subst hke
 obtain rfl := hak (by decide)
 refine wc_exit ?_
 refine hK9 _ _ ?_
 refine wc_seq_region fun K16 hK16 => ?_
 refine wl_callE (R := fun u e' => u = sv (hexs ((sealH key (accC n d)).take 8)) ∧ e' = blk w6.heap.size [.pointer (some ⟨w6.heap.size, 0, none⟩), v] 131) 0 hfr hst rfl (by decide) Tryz.call79 rfl (fun h => (bstring_ok 131 w6.heap.size _ _ _ (by intro h; have := congrArg List.length h; rw [hexs_len, List.length_take, sealH_len] at this; simp at this) h).mono fun u w ⟨h1, h2⟩ => ⟨_, ⟨h1, rfl⟩, h2⟩) ?_
 clear hfr hst
 rintro a w11 _ _ ⟨rfl, rfl⟩ hfr hst
 replace hst : St No w0 [blk w6.heap.size [.pointer (some ⟨w6.heap.size, 0, none⟩), v] 131] w11 := hst
 refine wla hfr rfl fun a hfr => wla hfr rfl fun a hfr => ?_
 refine wl_nil (hK16 _ _ ?_)
 refine wc_ret ?_
 refine fin_ret hfr Tryz.results31 (resAre_tmp rfl (resAre_tmp rfl resAre_nil)) ?_
 exact ⟨by simp only [retv]; rw [if_pos (by unfold accOk; simp [hb2, hc3]; omega)]; rfl, hst.ext⟩
end Go.Proofs.YtmmfieceinmloaaGreatDoor
namespace Go.Proofs.YtmmfieceinmloaaGreatDoor
open Go.RowKit Go.PW
set_option linter.unusedVariables false
set_option linter.unusedSimpArgs false
set_option maxRecDepth 4000
def checksH (key : By) (n d : Int) (code : By) : Bool := accOk key n d && decide (accH key n d = code)
theorem account_yes {key : By} {n d : Int} {w0 : World} (hkl : key.length ≤ 40000000) (hk0 : (blk 0 (kOf.map wv) 239).ok w0) (h : accOk key n d = true) : Ret Tryz.prog 31 #[sv key, iv n, iv d] w0 fun v w => v = .tuple #[sv (accH key n d), iv 0] ∧ Ext No w0 w := by
 have := account_ok key n d w0 hkl hk0
 rwa [if_pos h] at this
theorem account_no {key : By} {n d : Int} {w0 : World} (hkl : key.length ≤ 40000000) (hk0 : (blk 0 (kOf.map wv) 239).ok w0) (h : accOk key n d = false) : Ret Tryz.prog 31 #[sv key, iv n, iv d] w0 fun v w => v = .tuple #[sv [], iv 150] ∧ Ext No w0 w := by
 have := account_ok key n d w0 hkl hk0
 rwa [if_neg (by rw [h]; decide)] at this
theorem checks_ok (key : By) (n d : Int) (code : By) (w0 : World) (hkl : key.length ≤ 40000000) (hk0 : (blk 0 (kOf.map wv) 239).ok w0) :
  Ret Tryz.prog 33 #[sv key, iv n, iv d, sv code] w0 fun v w => v = .bool (checksH key n d code) ∧ Ext No w0 w := by
 refine ret_of Tryz.func33 rfl Tryz.ntmps33 (lb rfl) fun a hfr => ?_
 replace hfr : Fr 25 [(0, _), (1, _), (2, _), (3, _)] [] a := hfr
 replace hst : St No w0 [] w0 := St.init w0
 refine wc_seq_region fun K1 hK1 => ?_
 refine wla hfr rfl fun a hfr => ?_
 refine wl_nil (hK1 _ _ ?_)
 refine wc_seq_region fun K2 hK2 => ?_
 refine wlm hfr rfl fun a hfr => wlm hfr rfl fun a hfr => wlm hfr rfl fun a hfr => ?_
 rcases Bool.eq_false_or_eq_true (accOk key n d) with hb1 | hb1
 ·try simp only [qz] at hb1
  refine wl_callp hfr hst (by decide) Tryz.call31 rfl (account_yes hkl (hst.keepb hk0) hb1) ?_
  clear hfr hst
  intro a w1 hfr hst
  refine wlm hfr rfl fun a hfr => ?_
  refine wlv hfr (v_extract rfl rfl) fun a hfr => ?_
  refine wlv hfr (v_extract rfl rfl) fun a hfr => wla hfr rfl fun a hfr => wla hfr rfl fun a hfr => ?_
  refine wl_nil (hK2 _ _ ?_)
  replace hfr : Fr 25 [(3, _), (8, _), (9, _), (10, _)] [] a := hfr.pick [3, 8, 9, 10]
  refine wc_seq_region fun K3 hK3 => ?_
  refine wlm hfr rfl fun a hfr => ?_
  refine wlv hfr ((v_eq rfl rfl).asb (b' := true) rfl) fun a hfr => wlm hfr rfl fun a hfr => wly hfr (v_move rfl) fun a hfr => wly hfr (v_move rfl) fun a hfr => wly hfr (v_seq rfl rfl) fun a hfr => ?_
  refine wlv hfr (v_pick_t rfl rfl) fun a hfr => wla hfr rfl fun a hfr => ?_
  refine wl_nil (hK3 _ _ ?_)
  replace hfr : Fr 25 [(8, _)] [] a := hfr.pick [8]
  refine wc_ret ?_
  refine fin_ret hfr Tryz.results33 (resAre_tmp rfl resAre_nil) ?_
  exact ⟨by simp only [retv]; unfold checksH; simp [hb1], hst.ext⟩
 try simp only [qz] at hb1
 refine wl_callp hfr hst (by decide) Tryz.call31 rfl (account_no hkl (hst.keepb hk0) hb1) ?_
 clear hfr hst
 intro a w2 hfr hst
 refine wlm hfr rfl fun a hfr => ?_
 refine wlv hfr (v_extract rfl rfl) fun a hfr => ?_
 refine wlv hfr (v_extract rfl rfl) fun a hfr => wla hfr rfl fun a hfr => wla hfr rfl fun a hfr => ?_
 refine wl_nil (hK2 _ _ ?_)
 replace hfr : Fr 25 [(3, _), (8, _), (9, _), (10, _)] [] a := hfr.pick [3, 8, 9, 10]
 refine wc_seq_region fun K4 hK4 => ?_
 refine wlm hfr rfl fun a hfr => ?_
 refine wlv hfr ((v_eq rfl rfl).asb (b' := false) rfl) fun a hfr => wlm hfr rfl fun a hfr => ?_
 refine wln hfr fun a hfr => ?_
 refine wln hfr fun a hfr => ?_
 refine wln hfr fun a hfr => ?_
 refine wlv hfr (v_pick_f rfl rfl) fun a hfr => wla hfr rfl fun a hfr => ?_
 refine wl_nil (hK4 _ _ ?_)
 replace hfr : Fr 25 [(8, _)] [] a := hfr.pick [8]
 refine wc_ret ?_
 refine fin_ret hfr Tryz.results33 (resAre_tmp rfl resAre_nil) ?_
 exact ⟨by simp only [retv]; unfold checksH; simp [hb1], hst.ext⟩
theorem formed_H {x : Wsh} {lv : Value} {ps : List Pxy} {w0 : World} (hlv : SlAt w0 lv 7 (ps.map Pxy.cells)) : Ret Tryz.prog 19 #[.agg #[iv x.signer, iv x.holder, iv x.rf, iv x.rt, iv x.carrier, iv x.serial, iv x.sf, iv x.st, sv x.sig], lv] w0 fun v w => v = .bool (formedH x ps) ∧ Ext No w0 w := by
 have := formed_ok x lv ps w0 hlv
 rwa [formed_bad] at this
theorem texts_len : ∀ {l : List Pxy}, (∀ p ∈ l, p.sig.length = 32) → (l.flatMap Pxy.text).length ≤ 1000 * l.length
 | [], h => by simp
 | p :: l, h => by
  have h1 := h p (by simp)
  have h2 := texts_len (l := l) (fun q hq => h q (by simp [hq]))
  have h3 : p.content.length ≤ 9 * 7 := puts_len _
  rw [List.flatMap_cons, List.length_append, Pxy.text, List.length_append, List.length_cons]
  omega
theorem formed_len {x : Wsh} {ps : List Pxy} (h : formedH x ps = true) : ps.length ≤ 4 := by
 simp only [formedH, Bool.and_eq_true, decide_eq_true_eq] at h; exact h.1.2
theorem formed_wok {x : Wsh} {ps : List Pxy} (h : formedH x ps = true) : x.ok = true := by
 simp only [formedH, Bool.and_eq_true, decide_eq_true_eq] at h; exact h.1.1
theorem formed_pok {x : Wsh} {ps : List Pxy} (h : formedH x ps = true) : ∀ p ∈ ps, p.ok = true := by
 simp only [formedH, Bool.and_eq_true, decide_eq_true_eq, Option.isNone_iff_eq_none] at h; exact badIdx_all h.2
theorem no_open {ps : List Pxy} (h : (ps.any fun p => !decide ((p.sig.length : Int) = 32)) = false) : ∀ p ∈ ps, p.sig.length = 32 := by
 intro p hp
 have := List.any_eq_false.1 h p hp
 simp only [Bool.not_eq_true', Bool.not_eq_false', decide_eq_false_iff_not, Classical.not_not] at this
 omega
theorem some_open {ps : List Pxy} (h : (ps.any fun p => !decide ((p.sig.length : Int) = 32)) = true) : ¬ ∀ p ∈ ps, p.sig.length = 32 := by
 intro hh
 obtain ⟨p, hp, h⟩ := List.any_eq_true.1 h
 simp [hh p hp] at h
theorem enc_none {x : Wsh} {ps : List Pxy} (h : formedH x ps = false ∨ ¬ (x.sig.length : Int) = 32 ∨ (ps.any fun p => !decide ((p.sig.length : Int) = 32)) = true) : encodeH x ps = none := by
 cases he : encodeH x ps with
 | none => rfl
 | some s =>
  obtain ⟨h1, h2, h3, _⟩ := encode_some.1 he
  rcases h with h | h | h
  ·rw [h1] at h; cases h
  ·omega
  ·exact absurd h3 (some_open h)
def encB (ps : List Pxy) (k : Nat) : By := puts [(ps.length : Int)] ++ (ps.take k).flatMap Pxy.text
theorem encB_snoc {ps : List Pxy} {k : Nat} (h : k < ps.length) : encB ps (k + 1) = encB ps k ++ (ps.getD k Pxy.z).content ++ (ps.getD k Pxy.z).sig := by
 unfold encB
 rw [take_snoc Pxy.z h, List.flatMap_append]
 simp [Pxy.text, List.append_assoc]
theorem encB_len {ps : List Pxy} {k : Nat} (h4 : ps.length ≤ 4) (h : ∀ p ∈ ps, p.sig.length = 32) : (encB ps k).length ≤ 10000 := by
 unfold encB
 have h1 := puts_len [(ps.length : Int)]
 have h2 := texts_len (l := ps.take k) (fun p hp => h p (List.mem_of_mem_take hp))
 rw [List.length_append]
 rw [List.length_take] at h2
 simp only [List.length_cons, List.length_nil] at h1
 omega
theorem encB_all {x : Wsh} {ps : List Pxy} : encB ps ps.length ++ x.content ++ x.sig = putI (ps.length : Int) ++ (ps.flatMap Pxy.text ++ x.text) := by
 unfold encB Wsh.text; simp [puts, List.append_assoc]
theorem enc_yes {x : Wsh} {ps : List Pxy} (h1 : formedH x ps = true) (h2 : x.sig.length = 32) (h3 : ∀ p ∈ ps, p.sig.length = 32) : encodeH x ps = some (encB ps ps.length ++ x.content ++ x.sig) :=
 encode_some.2 ⟨h1, h2, h3, encB_all⟩
theorem encB_ne {ps : List Pxy} {k : Nat} {a b : By} : encB ps k ++ a ++ b ≠ [] := by
 intro h
 unfold encB at h
 simp only [List.append_eq_nil_iff] at h
 exact puts_ne h.1.1.1
theorem pxy_clen (x : Pxy) : x.content.length ≤ 63 := puts_len _
theorem wsh_clen (x : Wsh) : x.content.length ≤ 81 := puts_len _
set_option maxHeartbeats 4000000 in
theorem encode_ok (x : Wsh) (lv : Value) (ps : List Pxy) (w0 : World) (hlv : SlAt w0 lv 7 (ps.map Pxy.cells)) :
  Ret Tryz.prog 26 #[.agg #[iv x.signer, iv x.holder, iv x.rf, iv x.rt, iv x.carrier, iv x.serial, iv x.sf, iv x.st, sv x.sig], lv] w0 fun v w => v = (match encodeH x ps with | some s => .tuple #[sv s, iv 0] | none => .tuple #[sv [], iv 150]) ∧ Ext No w0 w := by
 have hxb := hlv.2.1
 simp only [List.length_map, big] at hxb
 refine ret_of Tryz.func26 rfl Tryz.ntmps26 (lb rfl) fun a hfr => ?_
 replace hfr : Fr 50 [(0, _), (1, _)] [] a := hfr
 replace hst : St No w0 [] w0 := St.init w0
 refine wc_seq_region fun K1 hK1 => ?_
 refine wl_box hfr hst (by decide) rfl (cs := [iv x.signer, iv x.holder, iv x.rf, iv x.rt, iv x.carrier, iv x.serial, iv x.sf, iv x.st, sv x.sig]) rfl ?_
 clear hfr hst
 intro a w1 hfr hst
 refine wla hfr rfl fun a hfr => wla hfr rfl fun a hfr => ?_
 refine wl_nil (hK1 _ _ ?_)
 refine wc_seq_region fun K2 hK2 => ?_
 refine wla hfr rfl fun a hfr => ?_
 refine wl_nil (hK2 _ _ ?_)
 refine wc_seq_k fun K3 hK3 => ?_
 refine wc_seq_region fun K4 hK4 => ?_
 refine wlv hfr (v_load_all (hst.get (k := 0) rfl) rfl (Tryz.isAgg30 _) (Tryz.sizeOf30 _)) fun a hfr => wlm hfr rfl fun a hfr => ?_
 refine wl_callp hfr hst (by decide) Tryz.call19 rfl (formed_H (hst.arg hlv)) ?_
 clear hfr hst
 intro a w2 hfr hst
 refine wlv hfr (v_not rfl) fun a hfr => wlm hfr rfl fun a hfr => ?_
 rcases Bool.eq_false_or_eq_true (!(formedH x ps)) with hb1 | hb1
 ·rw [hb1] at hfr
  try simp only [qz] at hb1
  refine wln hfr fun a hfr => ?_
  refine wln hfr fun a hfr => ?_
  refine wln hfr fun a hfr => ?_
  refine wln hfr fun a hfr => ?_
  refine wlv hfr (v_pick_t rfl rfl) fun a hfr => wlm hfr rfl fun a hfr => ?_
  refine wln hfr fun a hfr => ?_
  refine wln hfr fun a hfr => ?_
  refine wln hfr fun a hfr => ?_
  refine wlv hfr (v_pick_t rfl rfl) fun a hfr => ?_
  refine wl_nil (hK4 _ _ ?_)
  replace hfr : Fr 50 [(1, _), (2, _), (4, _), (5, _), (24, _)] [] a := hfr.pick [1, 2, 4, 5, 24]
  refine wc_cond_t hfr rfl ?_
  refine wc_seq_region fun K5 hK5 => ?_
  refine wla hfr rfl fun a hfr => wla hfr rfl fun a hfr => ?_
  refine wl_nil (hK5 _ _ ?_)
  refine wc_ret ?_
  refine fin_ret hfr Tryz.results26 (resAre_tmp rfl (resAre_tmp rfl resAre_nil)) ?_
  exact ⟨by simp only [retv]; rw [enc_none (.inl hb1)]; rfl, hst.ext⟩
 rw [hb1] at hfr
 try simp only [qz] at hb1
 refine wly hfr (v_fieldAddr (v := .pointer (some ⟨w0.heap.size, 8, none⟩)) rfl (by kernel_rfl)) fun a hfr => wly hfr (v_load_blk1 (hst.get (k := 0) rfl) rfl (Tryz.isAgg9 _) rfl) fun a hfr => wly hfr (v_len_str rfl rfl (Tryz.runUnderlying9 _)) fun a hfr => wly hfr (v_ne rfl rfl) fun a hfr => ?_
 refine wlv hfr (v_pick_f rfl rfl) fun a hfr => wlm hfr rfl fun a hfr => ?_
 rcases Bool.eq_false_or_eq_true (!decide ((x.sig.length : Int) = 32)) with hb2 | hb2
 ·rw [hb2] at hfr
  try simp only [qz] at hb2
  refine wln hfr fun a hfr => ?_
  refine wln hfr fun a hfr => ?_
  refine wln hfr fun a hfr => ?_
  refine wlv hfr (v_pick_t rfl rfl) fun a hfr => ?_
  refine wl_nil (hK4 _ _ ?_)
  replace hfr : Fr 50 [(1, _), (2, _), (4, _), (5, _), (24, _)] [] a := hfr.pick [1, 2, 4, 5, 24]
  refine wc_cond_t hfr rfl ?_
  refine wc_seq_region fun K6 hK6 => ?_
  refine wla hfr rfl fun a hfr => wla hfr rfl fun a hfr => ?_
  refine wl_nil (hK6 _ _ ?_)
  refine wc_ret ?_
  refine fin_ret hfr Tryz.results26 (resAre_tmp rfl (resAre_tmp rfl resAre_nil)) ?_
  exact ⟨by simp only [retv]; rw [enc_none (.inr (.inl hb2))]; rfl, hst.ext⟩
 rw [hb2] at hfr
 try simp only [qz] at hb2
 refine wly hfr (v_move rfl) fun a hfr => wly hfr (v_move rfl) fun a hfr => ?_
 refine wl_callpy hfr hst (by decide) rfl (by decide) rfl Tryz.call76 rfl (any_pxy (fun p => !decide ((p.sig.length : Int) = 32)) _ Tryz.call75 (hst.arg hlv) (fun x w _ => enc1_ok x w)) ?_
 clear hfr hst
 intro a w3 hfr hst
 refine wlv hfr (v_pick_f rfl rfl) fun a hfr => ?_
 refine wl_nil (hK4 _ _ ?_)
 replace hfr : Fr 50 [(1, _), (2, _), (4, _), (5, _), (24, _)] [] a := hfr.pick [1, 2, 4, 5, 24]
 refine wc_cond hfr rfl (fun hc3 => ?_) (fun hc3 => ?_)
 ·rw [hc3] at hfr
  try simp only [qz] at hc3
  refine wc_seq_region fun K7 hK7 => ?_
  refine wla hfr rfl fun a hfr => wla hfr rfl fun a hfr => ?_
  refine wl_nil (hK7 _ _ ?_)
  refine wc_ret ?_
  refine fin_ret hfr Tryz.results26 (resAre_tmp rfl (resAre_tmp rfl resAre_nil)) ?_
  exact ⟨by simp only [retv]; rw [enc_none (.inr (.inr hc3))]; rfl, hst.ext⟩
 rw [hc3] at hfr
 try simp only [qz] at hc3
 refine wc_skip ?_
 refine hK3 _ _ ?_
 have hfo := hb1
 have hsx : x.sig.length = 32 := by omega
 have hop := no_open hc3
 have h4 := formed_len hfo
 have hxo := formed_wok hfo
 refine wc_seq_region fun K8 hK8 => ?_
 refine wl_alloc hfr hst (by decide) (Tryz.zeroValue133 _) (cs := [.pointer none, .slice none 0 0]) rfl ?_
 clear hfr hst
 intro a w4 hfr hst
 refine wl_nil (hK8 _ _ ?_)
 replace hst : St No w0 (own (.slice none 0 0) 5 1 [] :: [blk w3.heap.size [.pointer none, .slice none 0 0] 133, blk w0.heap.size [iv x.signer, iv x.holder, iv x.rf, iv x.rt, iv x.carrier, iv x.serial, iv x.sf, iv x.st, sv x.sig] 30]) w4 := hst.nil_own
 replace hst : St No w0 [blk w3.heap.size [.pointer none, .slice none 0 0] 133, own (.slice none 0 0) 5 1 ([]), blk w0.heap.size [iv x.signer, iv x.holder, iv x.rf, iv x.rt, iv x.carrier, iv x.serial, iv x.sf, iv x.st, sv x.sig] 30] w4 := hst.select [1, 0, 2] (by decide)
 replace hst : St No w0 [bld 133 w3.heap.size (.pointer none) (.slice none 0 0) ([] : By), blk w0.heap.size [iv x.signer, iv x.holder, iv x.rf, iv x.rt, iv x.carrier, iv x.serial, iv x.sf, iv x.st, sv x.sig] 30] w4 := St.join [blk w3.heap.size [.pointer none, .slice none 0 0] 133, own (.slice none 0 0) 5 1 ([])] [blk w0.heap.size [iv x.signer, iv x.holder, iv x.rf, iv x.rt, iv x.carrier, iv x.serial, iv x.sf, iv x.st, sv x.sig] 30] hst
 refine wc_seq_region fun K9 hK9 => ?_
 refine wlm hfr rfl fun a hfr => ?_
 refine wlv hfr ((v_len_sl (sT := 31) (hst.arg hlv) rfl rfl (Tryz.runUnderlying31 _)).asi (m' := (ps.length : Int)) (by rw [List.length_map])) fun a hfr => ?_
 refine wl_buildSlice (E := 3) (sz := 1) rfl [[iv (ps.length : Int)]] (by kernel_rfl) (by simp) rfl (by decide) (by decide) hfr hst ?_
 clear hfr hst
 intro a w5 hfr hst
 replace hst : St No w0 [bld 133 w3.heap.size (.pointer none) (.slice none 0 0) ([] : By), own (.slice (some ⟨w4.heap.size, 0, none⟩) 1 1) 3 1 ([[iv (ps.length : Int)]]), blk w0.heap.size [iv x.signer, iv x.holder, iv x.rf, iv x.rt, iv x.carrier, iv x.serial, iv x.sf, iv x.st, sv x.sig] 30] w5 := hst.select [1, 0, 2] (by decide)
 replace hst := St.join [bld 133 w3.heap.size (.pointer none) (.slice none 0 0) ([] : By), own (.slice (some ⟨w4.heap.size, 0, none⟩) 1 1) 3 1 ([[iv (ps.length : Int)]])] [blk w0.heap.size [iv x.signer, iv x.holder, iv x.rf, iv x.rt, iv x.carrier, iv x.serial, iv x.sf, iv x.st, sv x.sig] 30] hst
 refine wl_callE (R := fun u e' => u = .tuple #[] ∧ ∃ v2, e' = bld 133 w3.heap.size (.pointer (some ⟨w3.heap.size, 0, none⟩)) v2 (puts [(ps.length : Int)])) 0 hfr hst rfl (by decide) Tryz.call77 rfl (fun h => (numbers_ok 133 w3.heap.size _ _ _ [] [(ps.length : Int)] _ (by kernel_rfl) (.inl rfl) (fun z hz => by rw [List.mem_singleton.1 hz]; unfold small; omega) (by simp) (by simp) (St.unjoin [bld 133 w3.heap.size (.pointer none) (.slice none 0 0) ([] : By), own (.slice (some ⟨w4.heap.size, 0, none⟩) 1 1) 3 1 ([[iv (ps.length : Int)]])] [] h)).mono fun u w ⟨h1, v2, h2⟩ => ⟨_, ⟨h1, v2, rfl⟩, h2⟩) ?_
 clear hfr hst
 rintro a w6 _ _ ⟨rfl, v4, rfl⟩ hfr hst
 replace hst : St No w0 [bld 133 w3.heap.size (.pointer (some ⟨w3.heap.size, 0, none⟩)) v4 (encB ps 0), blk w0.heap.size [iv x.signer, iv x.holder, iv x.rf, iv x.rt, iv x.carrier, iv x.serial, iv x.sf, iv x.st, sv x.sig] 30] w6 := by rw [show encB ps 0 = puts [(ps.length : Int)] from by unfold encB; simp]; exact hst
 refine wl_nil (hK9 _ _ ?_)
 refine wc_seq_k fun K10 hK10 => ?_
 refine wc_seq_region fun K11 hK11 => ?_
 refine wlm hfr rfl fun a hfr => ?_
 refine wlv hfr ((v_len_sl (sT := 31) (hst.arg hlv) rfl rfl (Tryz.runUnderlying31 _)).asi (m' := (ps.length : Int)) (by rw [List.length_map])) fun a hfr => wlm hfr rfl fun a hfr => ?_
 refine wl_nil (hK11 _ _ ?_)
 replace hfr : Fr 50 [(2, _), (4, _), (5, _), (7, _), (29, _), (30, _), (31, _)] [] a := hfr.pick [2, 4, 5, 7, 29, 30, 31]
 refine wc_block ?_
 refine wc_loop (fun m a w => ∃ (k : Nat) (v : Value), m = ps.length - k ∧ (k ≤ ps.length) ∧ Fr 50 [(2, .pointer (some ⟨w0.heap.size, 0, none⟩)), (4, sv ([])), (5, iv 0), (7, .pointer (some ⟨w3.heap.size, 0, none⟩)), (29, lv), (30, iv (ps.length : Int)), (31, iv (k : Int))] [] a ∧ St No w0 [bld 133 w3.heap.size (.pointer (some ⟨w3.heap.size, 0, none⟩)) v (encB ps k), blk w0.heap.size [iv x.signer, iv x.holder, iv x.rf, iv x.rt, iv x.carrier, iv x.serial, iv x.sf, iv x.st, sv x.sig] 30] w) _ ⟨0, v4, rfl, Nat.zero_le _, hfr.pick [2, 4, 5, 7, 29, 30, 31], hst.select [0, 1] (by decide)⟩ ?_
 rintro _ a w7 ⟨k, v, rfl, hk, hfr, hst⟩
 refine wc_seq_region fun K12 hK12 => ?_
 refine wlv hfr (v_lt rfl rfl) fun a hfr => ?_
 refine wl_nil (hK12 _ _ ?_)
 refine wc_seq_k fun K13 hK13 => ?_
 refine wc_cond hfr rfl (fun hc5 => ?_) (fun hc5 => ?_)
 ·rw [hc5] at hfr
  try simp only [qz] at hc5
  have hkx : k < ps.length := by omega
  have hpk := formed_pok hfo _ (getD_mem (d := Pxy.z) hkx)
  have hsk := hop _ (getD_mem (d := Pxy.z) hkx)
  refine wc_skip ?_
  refine hK13 _ _ ?_
  refine wc_seq_k fun K14 hK14 => ?_
  refine wc_block ?_
  refine wc_seq_region fun K15 hK15 => ?_
  refine wlv hfr ((v_indexAddr_sl (i := (k : Int)) (sT := 31) (hst.arg hlv) rfl rfl (Tryz.runUnderlying31 _) (Tryz.sizeOf40 _) (by omega) (by rw [List.length_map]; omega)).as (v' := slAddr lv (k * 7)) rfl) fun a hfr => ?_
  refine wlv hfr ((v_load_sl (hst.arg hlv) (i := k) (by rw [List.length_map]; omega) rfl (Tryz.isAgg40 _) (Tryz.sizeOf40 _)).as (v' := .agg #[iv ((ps.getD k Pxy.z).frm), iv ((ps.getD k Pxy.z).to), iv ((ps.getD k Pxy.z).rf), iv ((ps.getD k Pxy.z).rt), iv ((ps.getD k Pxy.z).sf), iv ((ps.getD k Pxy.z).st), sv ((ps.getD k Pxy.z).sig)]) (by rw [el_at Pxy.z]; rfl)) fun a hfr => ?_
  refine wl_alloc hfr hst (by decide) (Tryz.zeroValue40 _) (cs := [iv 0, iv 0, iv 0, iv 0, iv 0, iv 0, .string (⟨#[]⟩)]) rfl ?_
  clear hfr hst
  intro a w8 hfr hst
  refine wl_store 0 hfr hst rfl rfl rfl (Tryz.sizeOf40 _) rfl (lb rfl) (ds := [iv ((ps.getD k Pxy.z).frm), iv ((ps.getD k Pxy.z).to), iv ((ps.getD k Pxy.z).rf), iv ((ps.getD k Pxy.z).rt), iv ((ps.getD k Pxy.z).sf), iv ((ps.getD k Pxy.z).st), sv ((ps.getD k Pxy.z).sig)]) rfl rfl ?_
  clear hfr hst
  intro a w9 hfr hst
  refine wl_nil (hK15 _ _ ?_)
  refine wc_seq_region fun K16 hK16 => ?_
  refine wlv hfr (v_load_all (hst.get (k := 0) rfl) rfl (Tryz.isAgg40 _) (Tryz.sizeOf40 _)) fun a hfr => ?_
  refine wl_callE (R := fun u e' => u = .tuple #[] ∧ ∃ v2, e' = bld 133 w3.heap.size (.pointer (some ⟨w3.heap.size, 0, none⟩)) v2 ((encB ps k) ++ (ps.getD k Pxy.z).content)) 1 hfr hst rfl (by decide) Tryz.call65 rfl (fun h => (wproxy_ok 133 w3.heap.size _ _ _ (ps.getD k Pxy.z) _ (by kernel_rfl) (.inr rfl) (Pxy.smalls_of hpk) (by have := encB_len (k := k) h4 hop; omega) h).mono fun u w ⟨h1, v2, h2⟩ => ⟨_, ⟨h1, v2, rfl⟩, h2⟩) ?_
  clear hfr hst
  rintro a w10 _ _ ⟨rfl, v6, rfl⟩ hfr hst
  replace hst : St No w0 [blk w7.heap.size [iv ((ps.getD k Pxy.z).frm), iv ((ps.getD k Pxy.z).to), iv ((ps.getD k Pxy.z).rf), iv ((ps.getD k Pxy.z).rt), iv ((ps.getD k Pxy.z).sf), iv ((ps.getD k Pxy.z).st), sv ((ps.getD k Pxy.z).sig)] 40, bld 133 w3.heap.size (.pointer (some ⟨w3.heap.size, 0, none⟩)) v6 ((encB ps k) ++ (ps.getD k Pxy.z).content), blk w0.heap.size [iv x.signer, iv x.holder, iv x.rf, iv x.rt, iv x.carrier, iv x.serial, iv x.sf, iv x.st, sv x.sig] 30] w10 := hst
  refine wl_nil (hK16 _ _ ?_)
  refine wc_region ?_
  refine wlv hfr (v_fieldAddr (v := .pointer (some ⟨w3.heap.size, 0, none⟩)) rfl (by kernel_rfl)) fun a hfr => ?_
  refine wlv hfr (v_fieldAddr (v := .pointer (some ⟨w7.heap.size, 6, none⟩)) rfl (by kernel_rfl)) fun a hfr => ?_
  refine wlv hfr (v_load_blk1 (hst.get (k := 0) rfl) rfl (Tryz.isAgg9 _) rfl) fun a hfr => ?_
  refine wl_callE (R := fun u e' => u = .tuple #[iv (((ps.getD k Pxy.z).sig).length : Int), .nilIface] ∧ ∃ v2, e' = bld 133 w3.heap.size (.pointer (some ⟨w3.heap.size, 0, none⟩)) v2 (((encB ps k) ++ (ps.getD k Pxy.z).content) ++ ((ps.getD k Pxy.z).sig))) 1 hfr hst rfl (by decide) Tryz.call78 rfl (fun h => (wstr_any 133 w3.heap.size _ _ _ ((ps.getD k Pxy.z).sig) _ (by kernel_rfl) (.inr rfl) (by intro h; have h9 := congrArg List.length h; rw [List.length_nil] at h9; omega) (by have h7 := encB_len (k := k) h4 hop; have h8 := pxy_clen (ps.getD k Pxy.z); rw [List.length_append]; omega) h).mono fun u w ⟨h1, v2, h2⟩ => ⟨_, ⟨h1, v2, rfl⟩, h2⟩) ?_
  clear hfr hst
  rintro a w11 _ _ ⟨rfl, v7, rfl⟩ hfr hst
  replace hst : St No w0 [blk w7.heap.size [iv ((ps.getD k Pxy.z).frm), iv ((ps.getD k Pxy.z).to), iv ((ps.getD k Pxy.z).rf), iv ((ps.getD k Pxy.z).rt), iv ((ps.getD k Pxy.z).sf), iv ((ps.getD k Pxy.z).st), sv ((ps.getD k Pxy.z).sig)] 40, bld 133 w3.heap.size (.pointer (some ⟨w3.heap.size, 0, none⟩)) v7 (((encB ps k) ++ (ps.getD k Pxy.z).content) ++ ((ps.getD k Pxy.z).sig)), blk w0.heap.size [iv x.signer, iv x.holder, iv x.rf, iv x.rt, iv x.carrier, iv x.serial, iv x.sf, iv x.st, sv x.sig] 30] w11 := hst
  refine wl_nil ?_
  refine hK14 _ _ ?_
  replace hfr : Fr 50 [(2, _), (4, _), (5, _), (7, _), (29, _), (30, _), (31, _)] [] a := hfr.pick [2, 4, 5, 7, 29, 30, 31]
  replace hst : St No w0 [_, _] w11 := hst.mask [false, true, true]
  refine wc_region ?_
  refine wlv hfr (v_add rfl rfl ⟨by omega, by omega⟩) fun a hfr => wlm hfr rfl fun a hfr => ?_
  refine wl_nil ?_
  replace hst : St No w0 [bld 133 w3.heap.size (.pointer (some ⟨w3.heap.size, 0, none⟩)) v7 (encB ps (k + 1)), blk w0.heap.size [iv x.signer, iv x.holder, iv x.rf, iv x.rt, iv x.carrier, iv x.serial, iv x.sf, iv x.st, sv x.sig] 30] w11 := by rw [encB_snoc hkx]; exact hst
  refine ⟨_, ?_, k + 1, v7, rfl, (by omega), hfr.pick [2, 4, 5, 7, 29, 30, 31], hst.select [0, 1] (by decide)⟩
  omega
 rw [hc5] at hfr
 try simp only [qz] at hc5
 have hke : k = ps.length := by omega
 subst hke
 refine wc_exit ?_
 refine hK10 _ _ ?_
 refine wc_seq_region fun K17 hK17 => ?_
 refine wlv hfr (v_load_all (hst.get (k := 1) rfl) rfl (Tryz.isAgg30 _) (Tryz.sizeOf30 _)) fun a hfr => ?_
 refine wl_callE (R := fun u e' => u = .tuple #[] ∧ ∃ v2, e' = bld 133 w3.heap.size (.pointer (some ⟨w3.heap.size, 0, none⟩)) v2 ((encB ps ps.length) ++ x.content)) 0 hfr hst rfl (by decide) Tryz.call67 rfl (fun h => (wwish_ok 133 w3.heap.size _ _ _ x _ (by kernel_rfl) (.inr rfl) (Wsh.smalls_of hxo) (by have := encB_len (k := ps.length) h4 hop; omega) h).mono fun u w ⟨h1, v2, h2⟩ => ⟨_, ⟨h1, v2, rfl⟩, h2⟩) ?_
 clear hfr hst
 rintro a w12 _ _ ⟨rfl, v8, rfl⟩ hfr hst
 replace hst : St No w0 [bld 133 w3.heap.size (.pointer (some ⟨w3.heap.size, 0, none⟩)) v8 ((encB ps ps.length) ++ x.content), blk w0.heap.size [iv x.signer, iv x.holder, iv x.rf, iv x.rt, iv x.carrier, iv x.serial, iv x.sf, iv x.st, sv x.sig] 30] w12 := hst
 refine wl_nil (hK17 _ _ ?_)
 replace hfr : Fr 50 [(2, _), (4, _), (5, _), (7, _)] [] a := hfr.pick [2, 4, 5, 7]
 refine wc_seq_region fun K18 hK18 => ?_
 refine wlv hfr (v_fieldAddr (v := .pointer (some ⟨w3.heap.size, 0, none⟩)) rfl (by kernel_rfl)) fun a hfr => ?_
 refine wlv hfr (v_fieldAddr (v := .pointer (some ⟨w0.heap.size, 8, none⟩)) rfl (by kernel_rfl)) fun a hfr => ?_
 refine wlv hfr (v_load_blk1 (hst.get (k := 1) rfl) rfl (Tryz.isAgg9 _) rfl) fun a hfr => ?_
 refine wl_callE (R := fun u e' => u = .tuple #[iv (x.sig.length : Int), .nilIface] ∧ ∃ v2, e' = bld 133 w3.heap.size (.pointer (some ⟨w3.heap.size, 0, none⟩)) v2 (((encB ps ps.length) ++ x.content) ++ x.sig)) 0 hfr hst rfl (by decide) Tryz.call78 rfl (fun h => (wstr_any 133 w3.heap.size _ _ _ x.sig _ (by kernel_rfl) (.inr rfl) (by intro h; have h9 := congrArg List.length h; rw [List.length_nil] at h9; omega) (by have h7 := encB_len (k := ps.length) h4 hop; have h8 := wsh_clen x; rw [List.length_append]; omega) h).mono fun u w ⟨h1, v2, h2⟩ => ⟨_, ⟨h1, v2, rfl⟩, h2⟩) ?_
 clear hfr hst
 rintro a w13 _ _ ⟨rfl, v9, rfl⟩ hfr hst
 replace hst : St No w0 [bld 133 w3.heap.size (.pointer (some ⟨w3.heap.size, 0, none⟩)) v9 (((encB ps ps.length) ++ x.content) ++ x.sig), blk w0.heap.size [iv x.signer, iv x.holder, iv x.rf, iv x.rt, iv x.carrier, iv x.serial, iv x.sf, iv x.st, sv x.sig] 30] w13 := hst
 refine wl_nil (hK18 _ _ ?_)
 refine wc_seq_region fun K19 hK19 => ?_
 refine wlv hfr (v_fieldAddr (v := .pointer (some ⟨w3.heap.size, 0, none⟩)) rfl (by kernel_rfl)) fun a hfr => ?_
 refine wl_callE (R := fun u e' => u = sv (((encB ps ps.length) ++ x.content) ++ x.sig) ∧ e' = blk w3.heap.size [.pointer (some ⟨w3.heap.size, 0, none⟩), v9] 133) 0 hfr hst rfl (by decide) Tryz.call79 rfl (fun h => (bstring_ok 133 w3.heap.size _ _ _ encB_ne h).mono fun u w ⟨h1, h2⟩ => ⟨_, ⟨h1, rfl⟩, h2⟩) ?_
 clear hfr hst
 rintro a w14 _ _ ⟨rfl, rfl⟩ hfr hst
 replace hst : St No w0 [blk w3.heap.size [.pointer (some ⟨w3.heap.size, 0, none⟩), v9] 133, blk w0.heap.size [iv x.signer, iv x.holder, iv x.rf, iv x.rt, iv x.carrier, iv x.serial, iv x.sf, iv x.st, sv x.sig] 30] w14 := hst
 refine wla hfr rfl fun a hfr => wla hfr rfl fun a hfr => ?_
 refine wl_nil (hK19 _ _ ?_)
 replace hfr : Fr 50 [(4, _), (5, _)] [] a := hfr.pick [4, 5]
 refine wc_ret ?_
 refine fin_ret hfr Tryz.results26 (resAre_tmp rfl (resAre_tmp rfl resAre_nil)) ?_
 exact ⟨by simp only [retv]; rw [enc_yes hfo hsx hop], hst.ext⟩
end Go.Proofs.YtmmfieceinmloaaGreatDoor
namespace Go.Proofs.YtmmfieceinmloaaGreatDoor
open Go.RowKit Go.PW
set_option linter.unusedVariables false
set_option linter.unusedSimpArgs false
set_option maxRecDepth 4000
theorem p128 (i : Nat) : (128 : Nat) ^ i = 2 ^ (7 * i) := by rw [Nat.pow_mul]
theorem v_ixz {P : Program} {w : World} {L : List (Nat × Value)} {dst : Option Tmp} {T T' ty : TypeId} {pos : String} {af : Array Edge} {gd : Option (Nat × Bool)} {x y : Operand} {z : Nat} (hz : z < 9223372036854775808)
  (hx : ev L x = some (iv ((z / 2 : Nat) : Int))) (hy : ev L y = some (iv (-((z % 2 : Nat) : Int)))) : OpV P ⟨dst, .binOp .xor T x y T', ty, pos, af, gd⟩ L w (iv (uz z)) := by
 have h := v_ixor (P := P) (w := w) (dst := dst) (T := T) (T' := T') (ty := ty) (pos := pos) (af := af) (gd := gd) (n := ((z / 2 : Nat) : Int)) (decide (z % 2 = 1)) (by omega) (by omega) hx (hy.trans (by
  congr 2
  by_cases h : z % 2 = 1
  ·rw [decide_eq_true h, h]; rfl
  ·rw [decide_eq_false h, show z % 2 = 0 from by omega]; rfl))
 refine h.as ?_
 congr 1
 unfold uz
 by_cases h : z % 2 = 1
 ·rw [decide_eq_true h, if_pos rfl, if_neg (by omega)]
 ·rw [decide_eq_false h, if_neg (by decide), if_pos (by omega)]
theorem wI_nil {f i z : Nat} : wI f i z [] = none := by cases f <;> rfl
theorem drop_at {s : By} {p : Nat} (h : p < s.length) : s.drop p = s.getD p 0 :: s.drop (p + 1) := by
 rw [List.drop_eq_getElem_cons h, List.getD_eq_getElem?_getD, List.getElem?_eq_getElem h]; rfl
theorem wI_more {s : By} {p i z : Nat} (hi : i < 9) (hp : p + i < s.length) (hb : 128 ≤ (s.getD (p + i) 0).toNat) :
  wI (9 - i) i z (s.drop (p + i)) = wI (9 - (i + 1)) (i + 1) (z + (s.getD (p + i) 0).toNat % 128 * 2 ^ (7 * i)) (s.drop (p + (i + 1))) := by
 rw [drop_at hp, show 9 - i = (9 - (i + 1)) + 1 from by omega, wI, if_neg (by omega), p128]; rfl
theorem wI_bad {s : By} {p i z : Nat} (hi : i < 9) (hp : p + i < s.length) (hb : (s.getD (p + i) 0).toNat < 128) (h : ((s.getD (p + i) 0).toNat = 0 ∧ 0 < i) ∨ uz (z + (s.getD (p + i) 0).toNat % 128 * 2 ^ (7 * i)) < -4611686018427387903) :
  wI (9 - i) i z (s.drop (p + i)) = none := by
 rw [drop_at hp, show 9 - i = (9 - (i + 1)) + 1 from by omega, wI, if_pos hb, p128, if_pos]
 exact h.imp_left fun ⟨h1, h2⟩ => ⟨UInt8.toNat_inj.1 (by rw [h1]; rfl), h2⟩
theorem wI_good {s : By} {p i z : Nat} (hi : i < 9) (hp : p + i < s.length) (hb : (s.getD (p + i) 0).toNat < 128) (h : ¬ ((s.getD (p + i) 0).toNat = 0 ∧ 0 < i)) (h2 : ¬ uz (z + (s.getD (p + i) 0).toNat % 128 * 2 ^ (7 * i)) < -4611686018427387903) :
  wI (9 - i) i z (s.drop (p + i)) = some (uz (z + (s.getD (p + i) 0).toNat % 128 * 2 ^ (7 * i)), i + 1) := by
 rw [drop_at hp, show 9 - i = (9 - (i + 1)) + 1 from by omega, wI, if_pos hb, p128, if_neg]
 rintro (⟨h3, h4⟩ | h3)
 ·exact h ⟨by rw [h3]; rfl, h4⟩
 ·exact h2 h3
theorem z_less {z i b : Nat} (hz : z < 2 ^ (7 * i)) (hb : b < 128) : z + b * 2 ^ (7 * i) < 2 ^ (7 * (i + 1)) := by
 have e : 2 ^ (7 * (i + 1)) = 128 * 2 ^ (7 * i) := by rw [Nat.mul_add, Nat.pow_add, Nat.mul_comm]
 rw [e]
 have : (b + 1) * 2 ^ (7 * i) ≤ 128 * 2 ^ (7 * i) := Nat.mul_le_mul_right _ (by omega)
 rw [Nat.add_mul] at this
 omega
theorem z_63 {z i : Nat} (hi : i < 9) (hz : z < 2 ^ (7 * (i + 1))) : z < 9223372036854775808 := by
 have : (2 : Nat) ^ (7 * (i + 1)) ≤ 2 ^ 63 := Nat.pow_le_pow_right (by decide) (by omega)
 omega
def intV (s : By) (p : Nat) : Value := match rdI (s.drop p) with
 | some (n, r) => .tuple #[iv n, iv ((s.length - r.length : Nat) : Int), iv 0]
 | none => .tuple #[iv 0, iv 0, iv 10]
theorem int_none {s : By} {p : Nat} (h : wI 9 0 0 (s.drop p) = none) : intV s p = .tuple #[iv 0, iv 0, iv 10] := by
 rw [wI_rdI] at h
 unfold intV
 cases hr : rdI (s.drop p) with
 | none => rfl
 | some x => rw [hr] at h; cases h
theorem int_some {s : By} {p k : Nat} {n : Int} (hp : p ≤ s.length) (h : wI 9 0 0 (s.drop p) = some (n, k)) : intV s p = .tuple #[iv n, iv ((p + k : Nat) : Int), iv 0] := by
 rw [wI_rdI] at h
 unfold intV
 cases hr : rdI (s.drop p) with
 | none => rw [hr] at h; cases h
 | some x =>
  obtain ⟨n2, r⟩ := x
  rw [hr] at h
  simp only [Option.map_some, Option.some.injEq, Prod.mk.injEq] at h
  obtain ⟨rfl, rfl⟩ := h
  obtain ⟨_, h2⟩ := rdI_some hr
  have h3 := congrArg List.length h2
  rw [List.length_drop, List.length_append] at h3
  have h4 := (putI_len n2).1
  simp only
  rw [List.length_drop, show p + (s.length - p - r.length) = s.length - r.length from by omega]
set_option maxHeartbeats 4000000 in
theorem int_walk (s : By) (p : Nat) (w0 : World) (hp : p ≤ s.length) (hsl : s.length ≤ 1000000) :
  Ret Tryz.prog 128 #[sv s, iv (p : Int)] w0 fun v w => v = intV s p ∧ Ext No w0 w := by
 refine ret_of Tryz.func128 rfl Tryz.ntmps128 (lb rfl) fun a hfr => ?_
 replace hfr : Fr 67 [(0, _), (1, _)] [] a := hfr
 replace hst : St No w0 [] w0 := St.init w0
 refine wc_seq_region fun K1 hK1 => ?_
 refine wla hfr rfl fun a hfr => wla hfr rfl fun a hfr => wla hfr rfl fun a hfr => ?_
 refine wl_nil (hK1 _ _ ?_)
 refine wc_seq_k fun K2 hK2 => ?_
 refine wc_seq_region fun K3 hK3 => ?_
 refine wlm hfr rfl fun a hfr => ?_
 refine wlv hfr ((v_lt rfl rfl).asb (b' := false) (by exact decide_eq_false (by omega))) fun a hfr => wlm hfr rfl fun a hfr => wly hfr (v_move rfl) fun a hfr => wly hfr (v_move rfl) fun a hfr => wly hfr (v_len_str rfl rfl (Tryz.runUnderlying9 _)) fun a hfr => wly hfr ((v_gt rfl rfl).asb (b' := false) (by exact decide_eq_false (by omega))) fun a hfr => ?_
 refine wlv hfr (v_pick_f rfl rfl) fun a hfr => ?_
 refine wl_nil (hK3 _ _ ?_)
 replace hfr : Fr 67 [(0, _), (1, _), (4, _), (5, _), (6, _), (18, _)] [] a := hfr.pick [0, 1, 4, 5, 6, 18]
 refine wc_cond_f hfr rfl ?_
 refine wc_skip ?_
 refine hK2 _ _ ?_
 refine wc_seq_region fun K4 hK4 => ?_
 refine wla hfr rfl fun a hfr => ?_
 refine wl_nil (hK4 _ _ ?_)
 refine wc_seq_k fun K5 hK5 => ?_
 refine wc_seq_region fun K6 hK6 => ?_
 refine wlm hfr rfl fun a hfr => ?_
 refine wl_nil (hK6 _ _ ?_)
 refine wc_block ?_
 refine wc_loop (fun m a w => ∃ (i : Nat) (z : Nat), m = 9 - i ∧ (i ≤ 9) ∧ (wI 9 0 0 (s.drop p) = wI (9 - i) i z (s.drop (p + i))) ∧ (z < 2 ^ (7 * i)) ∧ Fr 67 [(0, sv s), (1, iv (p : Int)), (7, .int .u64 (z : Int)), (19, iv (i : Int))] [] a ∧ St No w0 [] w) _ ⟨0, 0, rfl, (by decide), rfl, (by decide), hfr.pick [0, 1, 7, 19], hst.select [] (by decide)⟩ ?_
 rintro _ a w1 ⟨i, z, rfl, hi, hw, hz, hfr, hst⟩
 refine wc_seq_region fun K7 hK7 => ?_
 refine wlv hfr (v_lt rfl rfl) fun a hfr => ?_
 refine wl_nil (hK7 _ _ ?_)
 refine wc_seq_k fun K8 hK8 => ?_
 refine wc_cond hfr rfl (fun hc1 => ?_) (fun hc1 => ?_)
 ·rw [hc1] at hfr
  try simp only [qz] at hc1
  refine wc_skip ?_
  refine hK8 _ _ ?_
  refine wc_seq_k fun K9 hK9 => ?_
  refine wc_block ?_
  refine wc_seq_region fun K10 hK10 => ?_
  refine wlm hfr rfl fun a hfr => wla hfr rfl fun a hfr => ?_
  refine wl_nil (hK10 _ _ ?_)
  refine wc_seq_k fun K11 hK11 => ?_
  refine wc_seq_region fun K12 hK12 => ?_
  refine wlm hfr rfl fun a hfr => wlm hfr rfl fun a hfr => ?_
  refine wlv hfr (v_add rfl rfl ⟨by omega, by omega⟩) fun a hfr => wlm hfr rfl fun a hfr => ?_
  refine wlv hfr (v_len_str rfl rfl (Tryz.runUnderlying9 _)) fun a hfr => ?_
  refine wlv hfr (v_ge rfl rfl) fun a hfr => ?_
  refine wl_nil (hK12 _ _ ?_)
  replace hfr : Fr 67 [(0, _), (1, _), (7, _), (19, _), (8, _), (27, _)] [] a := hfr.pick [0, 1, 7, 19, 8, 27]
  refine wc_cond hfr rfl (fun hc2 => ?_) (fun hc2 => ?_)
  ·rw [hc2] at hfr
   try simp only [qz] at hc2
   have hwn : wI 9 0 0 (s.drop p) = none := by rw [hw, List.drop_eq_nil_of_le (by omega)]; exact wI_nil
   refine wc_exit ?_
   refine hK5 _ _ ?_
   refine wc_seq_region fun K13 hK13 => ?_
   refine wla hfr rfl fun a hfr => wla hfr rfl fun a hfr => wla hfr rfl fun a hfr => ?_
   refine wl_nil (hK13 _ _ ?_)
   replace hfr : Fr 67 [(4, _), (5, _), (6, _)] [] a := hfr.pick [4, 5, 6]
   refine wc_ret ?_
   refine fin_ret hfr Tryz.results128 (resAre_tmp rfl (resAre_tmp rfl (resAre_tmp rfl resAre_nil))) ?_
   exact ⟨(int_none hwn).symm, hst.ext⟩
  rw [hc2] at hfr
  try simp only [qz] at hc2
  have hpi : p + i < s.length := by omega
  have hm8 : (s.getD (p + i) 0).toNat % 128 < 128 := Nat.mod_lt _ (by decide)
  have hzl := z_less hz hm8
  have hz6 := z_63 (i := i) (by omega) hzl
  refine wc_skip ?_
  refine hK11 _ _ ?_
  refine wc_seq_region fun K14 hK14 => ?_
  refine wlm hfr rfl fun a hfr => wlm hfr rfl fun a hfr => wlm hfr rfl fun a hfr => ?_
  refine wlv hfr (v_add rfl rfl ⟨by omega, by omega⟩) fun a hfr => ?_
  refine wlv hfr (v_index_str (k := (p + i)) rfl rfl (Tryz.runUnderlying9 _) (by omega) (by omega)) fun a hfr => wla hfr rfl fun a hfr => ?_
  refine wl_nil (hK14 _ _ ?_)
  replace hfr : Fr 67 [(0, _), (1, _), (7, _), (19, _), (8, _), (9, _)] [] a := hfr.pick [0, 1, 7, 19, 8, 9]
  refine wc_seq_region fun K15 hK15 => ?_
  refine wlm hfr rfl fun a hfr => wlm hfr rfl fun a hfr => ?_
  refine wlv hfr (v_yand (a := s.getD (p + i) 0) (b := (127 : UInt8)) rfl rfl) fun a hfr => ?_
  refine wlv hfr ((v_conv_yu rfl (by kernel_rfl) Tryz.underlying215).asi (m' := (((s.getD (p + i) 0).toNat % 128 : Nat) : Int)) (by rw [y127])) fun a hfr => wlm hfr rfl fun a hfr => ?_
  refine wlv hfr ((v_mul rfl rfl ⟨by omega, by omega⟩).asi (m' := ((7 * i : Nat) : Int)) (by omega)) fun a hfr => ?_
  refine wlv hfr ((v_ushl (m := (s.getD (p + i) 0).toNat % 128) (n := 7 * i) (by omega) rfl rfl).asi (m' := (((s.getD (p + i) 0).toNat % 128 * 2 ^ (7 * i) : Nat) : Int)) (by rw [Nat.mod_eq_of_lt (by omega)])) fun a hfr => ?_
  refine wlv hfr (v_uor (m := z) (n := (s.getD (p + i) 0).toNat % 128) (k := 7 * i) hz (by omega) rfl rfl) fun a hfr => wla hfr rfl fun a hfr => ?_
  refine wl_nil (hK15 _ _ ?_)
  replace hfr : Fr 67 [(0, _), (1, _), (19, _), (8, _), (9, _), (7, _)] [] a := hfr.pick [0, 1, 19, 8, 9, 7]
  refine wc_seq_k fun K16 hK16 => ?_
  refine wc_seq_region fun K17 hK17 => ?_
  refine wlm hfr rfl fun a hfr => ?_
  refine wlv hfr (v_ge rfl rfl) fun a hfr => ?_
  refine wl_nil (hK17 _ _ ?_)
  refine wc_cond hfr rfl (fun hc3 => ?_) (fun hc3 => ?_)
  ·rw [hc3] at hfr
   try simp only [qz] at hc3
   refine wc_exit ?_
   refine hK9 _ _ ?_
   refine wc_region ?_
   refine wlv hfr (v_add rfl rfl ⟨by omega, by omega⟩) fun a hfr => wlm hfr rfl fun a hfr => ?_
   refine wl_nil ?_
   refine ⟨_, ?_, i + 1, (z + (s.getD (p + i) 0).toNat % 128 * 2 ^ (7 * i)), rfl, (by omega), (by rw [hw]; exact wI_more (by omega) hpi (by omega)), hzl, hfr.pick [0, 1, 7, 19], hst.select [] (by decide)⟩
   omega
  rw [hc3] at hfr
  try simp only [qz] at hc3
  refine wc_skip ?_
  refine hK16 _ _ ?_
  refine wc_seq_region fun K18 hK18 => ?_
  refine wlm hfr rfl fun a hfr => ?_
  refine wlv hfr ((v_ushr (m := (z + (s.getD (p + i) 0).toNat % 128 * 2 ^ (7 * i))) (n := 1) (by decide) rfl rfl).asi (m' := (((z + (s.getD (p + i) 0).toNat % 128 * 2 ^ (7 * i)) / 2 : Nat) : Int)) rfl) fun a hfr => ?_
  refine wlv hfr (v_conv_ui (n := (z + (s.getD (p + i) 0).toNat % 128 * 2 ^ (7 * i)) / 2) (by omega) rfl (by kernel_rfl) Tryz.underlying3) fun a hfr => wlm hfr rfl fun a hfr => ?_
  refine wlv hfr ((v_uand (m := (z + (s.getD (p + i) 0).toNat % 128 * 2 ^ (7 * i))) (k := 1) (by omega) (by decide) rfl rfl).asi (m' := (((z + (s.getD (p + i) 0).toNat % 128 * 2 ^ (7 * i)) % 2 : Nat) : Int)) rfl) fun a hfr => ?_
  refine wlv hfr (v_conv_ui (n := (z + (s.getD (p + i) 0).toNat % 128 * 2 ^ (7 * i)) % 2) (by omega) rfl (by kernel_rfl) Tryz.underlying3) fun a hfr => ?_
  refine wlv hfr (v_neg rfl (by omega) (by omega)) fun a hfr => ?_
  refine wlv hfr (v_ixz (z := (z + (s.getD (p + i) 0).toNat % 128 * 2 ^ (7 * i))) (by omega) rfl rfl) fun a hfr => wla hfr rfl fun a hfr => ?_
  refine wl_nil (hK18 _ _ ?_)
  replace hfr : Fr 67 [(0, _), (1, _), (19, _), (8, _), (9, _), (7, _), (10, _)] [] a := hfr.pick [0, 1, 19, 8, 9, 7, 10]
  refine wc_seq_k fun K19 hK19 => ?_
  refine wc_seq_region fun K20 hK20 => ?_
  refine wlm hfr rfl fun a hfr => ?_
  refine wlv hfr (v_eq rfl rfl) fun a hfr => wlm hfr rfl fun a hfr => ?_
  rcases Bool.eq_false_or_eq_true (decide (((s.getD (p + i) 0).toNat : Int) = 0)) with hb4 | hb4
  ·rw [hb4] at hfr
   try simp only [qz] at hb4
   refine wly hfr (v_move rfl) fun a hfr => wly hfr (v_gt rfl rfl) fun a hfr => ?_
   refine wlv hfr (v_pick_t rfl rfl) fun a hfr => wlm hfr rfl fun a hfr => ?_
   rcases Bool.eq_false_or_eq_true (decide (0 < (i : Int))) with hb5 | hb5
   ·rw [hb5] at hfr
    try simp only [qz] at hb5
    have hwn : wI 9 0 0 (s.drop p) = none := by rw [hw]; exact wI_bad (by omega) hpi (by omega) (.inl ⟨by omega, by omega⟩)
    refine wln hfr fun a hfr => ?_
    refine wln hfr fun a hfr => ?_
    refine wlv hfr (v_pick_t rfl rfl) fun a hfr => ?_
    refine wl_nil (hK20 _ _ ?_)
    replace hfr : Fr 67 [(0, _), (1, _), (19, _), (8, _), (7, _), (10, _), (60, _)] [] a := hfr.pick [0, 1, 19, 8, 7, 10, 60]
    refine wc_cond_t hfr rfl ?_
    refine wc_exit ?_
    refine hK5 _ _ ?_
    refine wc_seq_region fun K21 hK21 => ?_
    refine wla hfr rfl fun a hfr => wla hfr rfl fun a hfr => wla hfr rfl fun a hfr => ?_
    refine wl_nil (hK21 _ _ ?_)
    replace hfr : Fr 67 [(4, _), (5, _), (6, _)] [] a := hfr.pick [4, 5, 6]
    refine wc_ret ?_
    refine fin_ret hfr Tryz.results128 (resAre_tmp rfl (resAre_tmp rfl (resAre_tmp rfl resAre_nil))) ?_
    exact ⟨(int_none hwn).symm, hst.ext⟩
   rw [hb5] at hfr
   try simp only [qz] at hb5
   have hng : ¬ ((s.getD (p + i) 0).toNat = 0 ∧ 0 < i) := by omega
   refine wly hfr (v_move rfl) fun a hfr => wly hfr (v_lt rfl rfl) fun a hfr => ?_
   refine wlv hfr (v_pick_f rfl rfl) fun a hfr => ?_
   refine wl_nil (hK20 _ _ ?_)
   replace hfr : Fr 67 [(0, _), (1, _), (19, _), (8, _), (7, _), (10, _), (60, _)] [] a := hfr.pick [0, 1, 19, 8, 7, 10, 60]
   refine wc_cond hfr rfl (fun hc6 => ?_) (fun hc6 => ?_)
   ·rw [hc6] at hfr
    try simp only [qz] at hc6
    have hwn : wI 9 0 0 (s.drop p) = none := by rw [hw]; exact wI_bad (by omega) hpi (by omega) (.inr hc6)
    refine wc_exit ?_
    refine hK5 _ _ ?_
    refine wc_seq_region fun K22 hK22 => ?_
    refine wla hfr rfl fun a hfr => wla hfr rfl fun a hfr => wla hfr rfl fun a hfr => ?_
    refine wl_nil (hK22 _ _ ?_)
    replace hfr : Fr 67 [(4, _), (5, _), (6, _)] [] a := hfr.pick [4, 5, 6]
    refine wc_ret ?_
    refine fin_ret hfr Tryz.results128 (resAre_tmp rfl (resAre_tmp rfl (resAre_tmp rfl resAre_nil))) ?_
    exact ⟨(int_none hwn).symm, hst.ext⟩
   rw [hc6] at hfr
   try simp only [qz] at hc6
   have hwg := hw.trans (wI_good (by omega) hpi (by omega) (by omega) hc6)
   refine wc_skip ?_
   refine hK19 _ _ ?_
   refine wc_seq_region fun K23 hK23 => ?_
   refine wlm hfr rfl fun a hfr => wlm hfr rfl fun a hfr => wlm hfr rfl fun a hfr => ?_
   refine wlv hfr (v_add rfl rfl ⟨by omega, by omega⟩) fun a hfr => ?_
   refine wlv hfr (v_add rfl rfl ⟨by omega, by omega⟩) fun a hfr => wla hfr rfl fun a hfr => wla hfr rfl fun a hfr => wla hfr rfl fun a hfr => ?_
   refine wl_nil (hK23 _ _ ?_)
   replace hfr : Fr 67 [(0, _), (1, _), (19, _), (7, _), (4, _), (5, _), (6, _)] [] a := hfr.pick [0, 1, 19, 7, 4, 5, 6]
   refine wc_ret ?_
   refine fin_ret hfr Tryz.results128 (resAre_tmp rfl (resAre_tmp rfl (resAre_tmp rfl resAre_nil))) ?_
   exact ⟨((int_some hp hwg).trans (by simp only [retv]; congr 3; all_goals omega)).symm, hst.ext⟩
  rw [hb4] at hfr
  try simp only [qz] at hb4
  refine wln hfr fun a hfr => ?_
  refine wln hfr fun a hfr => ?_
  refine wlv hfr (v_pick_f rfl rfl) fun a hfr => wlm hfr rfl fun a hfr => wly hfr (v_move rfl) fun a hfr => wly hfr (v_lt rfl rfl) fun a hfr => ?_
  refine wlv hfr (v_pick_f rfl rfl) fun a hfr => ?_
  refine wl_nil (hK20 _ _ ?_)
  replace hfr : Fr 67 [(0, _), (1, _), (19, _), (8, _), (7, _), (10, _), (60, _)] [] a := hfr.pick [0, 1, 19, 8, 7, 10, 60]
  refine wc_cond hfr rfl (fun hc7 => ?_) (fun hc7 => ?_)
  ·rw [hc7] at hfr
   try simp only [qz] at hc7
   have hwn : wI 9 0 0 (s.drop p) = none := by rw [hw]; exact wI_bad (by omega) hpi (by omega) (.inr hc7)
   refine wc_exit ?_
   refine hK5 _ _ ?_
   refine wc_seq_region fun K24 hK24 => ?_
   refine wla hfr rfl fun a hfr => wla hfr rfl fun a hfr => wla hfr rfl fun a hfr => ?_
   refine wl_nil (hK24 _ _ ?_)
   replace hfr : Fr 67 [(4, _), (5, _), (6, _)] [] a := hfr.pick [4, 5, 6]
   refine wc_ret ?_
   refine fin_ret hfr Tryz.results128 (resAre_tmp rfl (resAre_tmp rfl (resAre_tmp rfl resAre_nil))) ?_
   exact ⟨(int_none hwn).symm, hst.ext⟩
  rw [hc7] at hfr
  try simp only [qz] at hc7
  have hwg := hw.trans (wI_good (by omega) hpi (by omega) (by omega) hc7)
  refine wc_skip ?_
  refine hK19 _ _ ?_
  refine wc_seq_region fun K25 hK25 => ?_
  refine wlm hfr rfl fun a hfr => wlm hfr rfl fun a hfr => wlm hfr rfl fun a hfr => ?_
  refine wlv hfr (v_add rfl rfl ⟨by omega, by omega⟩) fun a hfr => ?_
  refine wlv hfr (v_add rfl rfl ⟨by omega, by omega⟩) fun a hfr => wla hfr rfl fun a hfr => wla hfr rfl fun a hfr => wla hfr rfl fun a hfr => ?_
  refine wl_nil (hK25 _ _ ?_)
  replace hfr : Fr 67 [(0, _), (1, _), (19, _), (7, _), (4, _), (5, _), (6, _)] [] a := hfr.pick [0, 1, 19, 7, 4, 5, 6]
  refine wc_ret ?_
  refine fin_ret hfr Tryz.results128 (resAre_tmp rfl (resAre_tmp rfl (resAre_tmp rfl resAre_nil))) ?_
  exact ⟨((int_some hp hwg).trans (by simp only [retv]; congr 3; all_goals omega)).symm, hst.ext⟩
 rw [hc1] at hfr
 try simp only [qz] at hc1
 have hwn : wI 9 0 0 (s.drop p) = none := by rw [hw, show 9 - i = 0 from by omega]; rfl
 refine wc_exit ?_
 refine hK5 _ _ ?_
 refine wc_seq_region fun K26 hK26 => ?_
 refine wla hfr rfl fun a hfr => wla hfr rfl fun a hfr => wla hfr rfl fun a hfr => ?_
 refine wl_nil (hK26 _ _ ?_)
 refine wc_ret ?_
 refine fin_ret hfr Tryz.results128 (resAre_tmp rfl (resAre_tmp rfl (resAre_tmp rfl resAre_nil))) ?_
 exact ⟨(int_none hwn).symm, hst.ext⟩
end Go.Proofs.YtmmfieceinmloaaGreatDoor
namespace Go.Proofs.YtmmfieceinmloaaGreatDoor
open Go.RowKit Go.PW
set_option linter.unusedVariables false
set_option linter.unusedSimpArgs false
set_option maxRecDepth 4000
def kdI (x : Int) (r : By) : Option By := match rdI r with
 | some (n, q) => if n = x then some q else none
 | none => none
def dgI (r : By) : Option (By × By) := if 32 ≤ r.length then some (r.take 32, r.drop 32) else none
section
variable {α : Type} {r q g : By} {x n : Int}
theorem kdI_some (h : kdI x r = some q) : rdI r = some (x, q) := by
 unfold kdI at h
 split at h
 ·rename_i n q2 hq
  split at h
  ·rename_i e; cases h; rw [hq, e]
  ·cases h
 ·cases h
theorem kdI_none (h : kdI x r = none) : rdI r = none ∨ ∃ n q, rdI r = some (n, q) ∧ ¬ n = x := by
 unfold kdI at h
 split at h
 ·rename_i n q2 hq
  split at h
  ·cases h
  ·rename_i e; exact .inr ⟨n, q2, hq, e⟩
 ·rename_i hq; exact .inl hq
theorem kindI_ok {k : By → Option α} (h : kdI x r = some q) : kindI x r k = k q := by
 unfold kindI; rw [getI_ok (kdI_some h), if_pos rfl]
theorem kindI_bad {k : By → Option α} (h : kdI x r = none) : kindI x r k = none := by
 unfold kindI
 rcases kdI_none h with h | ⟨n, q, h, e⟩
 ·exact getI_bad h
 ·rw [getI_ok h, if_neg e]
theorem getD32_ok {k : By → By → Option α} (h : dgI r = some (g, q)) : getD32 r k = k g q := by
 unfold dgI at h; unfold getD32
 split at h
 ·rename_i hl; cases h; rw [if_pos hl]
 ·cases h
theorem getD32_bad {k : By → By → Option α} (h : dgI r = none) : getD32 r k = none := by
 unfold dgI at h; unfold getD32
 split at h
 ·cases h
 ·rename_i hl; rw [if_neg hl]
theorem rdI_suf (h : rdI r = some (n, q)) : q <:+ r := by
 obtain ⟨_, rfl⟩ := rdI_some h; exact List.suffix_append _ _
theorem kdI_suf (h : kdI x r = some q) : q <:+ r := rdI_suf (kdI_some h)
theorem dgI_suf (h : dgI r = some (g, q)) : q <:+ r := by
 unfold dgI at h
 split at h
 ·cases h; exact List.drop_suffix _ _
 ·cases h
end
theorem int_ok {s r r2 : By} {n z : Int} {w0 : World} (hz : z = ((s.length - r.length : Nat) : Int)) (hsf : r <:+ s) (hsl : s.length ≤ 1000000) (hq : rdI r = some (n, r2)) :
  Ret Tryz.prog 128 #[sv s, iv z] w0 fun v w => v = .tuple #[iv n, iv ((s.length - r2.length : Nat) : Int), iv 0] ∧ Ext No w0 w := by
 subst hz
 have := int_walk s (s.length - r.length) w0 (by omega) hsl
 unfold intV at this
 rw [← List.suffix_iff_eq_drop.1 hsf, hq] at this
 exact this
theorem int_bad {s r : By} {z : Int} {w0 : World} (hz : z = ((s.length - r.length : Nat) : Int)) (hsf : r <:+ s) (hsl : s.length ≤ 1000000) (hq : rdI r = none) :
  Ret Tryz.prog 128 #[sv s, iv z] w0 fun v w => v = .tuple #[iv 0, iv 0, iv 10] ∧ Ext No w0 w := by
 subst hz
 have := int_walk s (s.length - r.length) w0 (by omega) hsl
 unfold intV at this
 rw [← List.suffix_iff_eq_drop.1 hsf, hq] at this
 exact this
theorem number_ok {M : Nat → Prop} {w0 : World} (b : Nat) (s r r2 : By) (n z : Int) (ws : World) (hz : z = ((s.length - r.length : Nat) : Int)) (hsf : r <:+ s) (hsl : s.length ≤ 1000000) (hq : rdI r = some (n, r2)) (hst : St M w0 [blk b [sv s, iv z] 145] ws) :
  Ret Tryz.prog 82 #[.pointer (some ⟨b, 0, none⟩)] ws fun u w => u = iv n ∧ St M w0 [blk b [sv s, iv ((s.length - r2.length : Nat) : Int)] 145] w := by
 refine ret_of Tryz.func82 rfl Tryz.ntmps82 (lb rfl) fun a hfr => ?_
 replace hfr : Fr 28 [(0, _)] [] a := hfr
 skip
 refine wc_seq_region fun K1 hK1 => ?_
 refine wla hfr rfl fun a hfr => ?_
 refine wl_nil (hK1 _ _ ?_)
 refine wc_seq_k fun K2 hK2 => ?_
 refine wc_of_dr (by kernel_rfl) (dr_of_wd (by kernel_rfl) fun w1 hxz => ?_)
 replace hst := hst.grow hxz
 refine wd_sub (k := 0) 8 [3, 7] hfr (by kernel_rfl) (by kernel_rfl) (by kernel_rfl) (by rfl) ?_
 replace hfr : Fr 28 [(0, _), (2, _)] [] a := hfr.pick [0, 2]
 refine wc_phases_q [] (fun i => match i with | _ => fun _ _ => False) 8 [[], [0], [1], [2], [], [4], [5], [6]] [.pointer (some ⟨b, 0, none⟩), .pointer (some ⟨b, 0, none⟩), .pointer (some ⟨b, 0, none⟩), sv s, .pointer (some ⟨b, 0, none⟩), .pointer (some ⟨b, 0, none⟩), .pointer (some ⟨b, 1, none⟩), iv z] hfr hst (by kernel_rfl) (by kernel_rfl) (by kernel_rfl) ?_ ?_ ?_
 ·intro i hi hiq
  match i, hi, hiq with
  | 0, _, _ =>
   intro w hst
   exact OpV.g (v_move rfl)
  | 1, _, _ =>
   intro w hst
   exact OpV.g (v_nilCheck rfl)
  | 2, _, _ =>
   intro w hst
   exact OpV.g (v_fieldAddr (v := .pointer (some ⟨b, 0, none⟩)) rfl (by kernel_rfl))
  | 3, _, _ =>
   intro w hst
   exact OpV.g (v_load_blk1 (hst.get (k := 0) rfl) rfl (Tryz.isAgg9 _) rfl)
  | 4, _, _ =>
   intro w hst
   exact OpV.g (v_move rfl)
  | 5, _, _ =>
   intro w hst
   exact OpV.g (v_nilCheck rfl)
  | 6, _, _ =>
   intro w hst
   exact OpV.g (v_fieldAddr (v := .pointer (some ⟨b, 1, none⟩)) rfl (by kernel_rfl))
  | 7, _, _ =>
   intro w hst
   exact OpV.g (v_load_blk1 (hst.get (k := 0) rfl) rfl (Tryz.isAgg3 _) rfl)
 ·intro i hi
  exact absurd hi (by simp)
 clear hfr hst
 intro  a w2 hfr hst
 replace hfr : Fr 28 [(7, .pointer (some ⟨b, 0, none⟩)), (8, .pointer (some ⟨b, 0, none⟩)), (9, .pointer (some ⟨b, 0, none⟩)), (10, sv s), (11, .pointer (some ⟨b, 0, none⟩)), (12, .pointer (some ⟨b, 0, none⟩)), (13, .pointer (some ⟨b, 1, none⟩)), (14, iv z), (0, _), (2, _)] [] a := hfr
 refine wl_nil ?_
 refine wd_lin (k := 8) 10 [9] (by kernel_rfl) (by kernel_rfl) (by kernel_rfl) ?_
 refine wl_callp hfr hst (by decide) Tryz.call128 rfl (int_ok hz hsf hsl hq) ?_
 clear hfr hst
 intro a w3 hfr hst
 refine wlm hfr rfl fun a hfr => ?_
 refine wl_nil ?_
 refine wd_sub (k := 10) 15 [12, 14] hfr (by kernel_rfl) (by kernel_rfl) (by kernel_rfl) (by rfl) ?_
 replace hfr : Fr 28 [(0, _), (2, _), (7, _), (8, _), (9, _), (10, _), (11, _), (12, _), (13, _), (14, _), (15, _), (6, _)] [] a := hfr.pick [0, 2, 7, 8, 9, 10, 11, 12, 13, 14, 15, 6]
 refine wc_phases_q [] (fun i => match i with | _ => fun _ _ => False) 5 [[], [], [], [0], [1]] [iv n, iv ((s.length - r2.length : Nat) : Int), iv 0, iv n, iv ((s.length - r2.length : Nat) : Int)] hfr hst (by kernel_rfl) (by kernel_rfl) (by kernel_rfl) ?_ ?_ ?_
 ·intro i hi hiq
  match i, hi, hiq with
  | 0, _, _ =>
   intro w hst
   exact OpV.g (v_extract rfl rfl)
  | 1, _, _ =>
   intro w hst
   exact OpV.g (v_extract rfl rfl)
  | 2, _, _ =>
   intro w hst
   exact OpV.g (v_extract rfl rfl)
  | 3, _, _ =>
   intro w hst
   exact OpV.g (v_assign rfl)
  | 4, _, _ =>
   intro w hst
   exact OpV.g (v_assign rfl)
 ·intro i hi
  exact absurd hi (by simp)
 clear hfr hst
 intro  a w4 hfr hst
 replace hfr : Fr 28 [(16, iv n), (17, iv ((s.length - r2.length : Nat) : Int)), (18, iv 0), (3, iv n), (4, iv ((s.length - r2.length : Nat) : Int)), (0, _), (2, _), (7, _), (8, _), (9, _), (10, _), (11, _), (12, _), (13, _), (14, _), (15, _), (6, _)] [] a := hfr
 refine wl_nil ?_
 refine wd_lin (k := 15) 16 [15] (by kernel_rfl) (by kernel_rfl) (by kernel_rfl) ?_
 refine wla hfr rfl fun a hfr => ?_
 refine wl_nil ?_
 refine wd_end (by kernel_rfl) ?_
 refine hK2 _ _ ?_
 replace hfr : Fr 28 [(0, _), (2, _), (3, _), (4, _), (5, _)] [] a := hfr.pick [0, 2, 3, 4, 5]
 refine wc_seq_k fun K3 hK3 => ?_
 refine wc_seq_region fun K4 hK4 => ?_
 refine wlm hfr rfl fun a hfr => ?_
 refine wlv hfr ((v_ne rfl rfl).asb (b' := false) rfl) fun a hfr => ?_
 refine wl_nil (hK4 _ _ ?_)
 refine wc_cond_f hfr rfl ?_
 refine wc_skip ?_
 refine hK3 _ _ ?_
 refine wc_seq_region fun K5 hK5 => ?_
 refine wlm hfr rfl fun a hfr => wlm hfr rfl fun a hfr => ?_
 refine wlv hfr (v_nilCheck rfl) fun a hfr => ?_
 refine wlv hfr (v_fieldAddr (v := .pointer (some ⟨b, 1, none⟩)) rfl (by kernel_rfl)) fun a hfr => ?_
 refine wl_store 0 hfr hst rfl rfl rfl (Tryz.sizeOf3 _) rfl (lb rfl) (ds := [sv s, iv ((s.length - r2.length : Nat) : Int)]) rfl rfl ?_
 clear hfr hst
 intro a w5 hfr hst
 refine wl_nil (hK5 _ _ ?_)
 replace hfr : Fr 28 [(2, _), (3, _)] [] a := hfr.pick [2, 3]
 refine wc_seq_region fun K6 hK6 => ?_
 refine wlm hfr rfl fun a hfr => wla hfr rfl fun a hfr => ?_
 refine wl_nil (hK6 _ _ ?_)
 refine wc_ret ?_
 refine fin_ret hfr Tryz.results82 (resAre_tmp rfl resAre_nil) ?_
 exact ⟨rfl, hst.select [0] (by decide)⟩
theorem number_bad {M : Nat → Prop} {w0 : World} (b : Nat) (s r  : By) (z : Int) (ws : World) (hz : z = ((s.length - r.length : Nat) : Int)) (hsf : r <:+ s) (hsl : s.length ≤ 1000000) (hq : rdI r = none) (hst : St M w0 [blk b [sv s, iv z] 145] ws) :
  Pan Tryz.prog 82 #[.pointer (some ⟨b, 0, none⟩)] ws fun c w => c = [{ v := .iface 142 (.agg #[]), recovered := false }] ∧ St M w0 [blk b [sv s, iv z] 145] w := by
 refine pan_of Tryz.func82 rfl Tryz.ntmps82 (lb rfl) fun a hfr => ?_
 replace hfr : Fr 28 [(0, _)] [] a := hfr
 skip
 refine wc_seq_region fun K1 hK1 => ?_
 refine wla hfr rfl fun a hfr => ?_
 refine wl_nil (hK1 _ _ ?_)
 refine wc_seq_k fun K2 hK2 => ?_
 refine wc_of_dr (by kernel_rfl) (dr_of_wd (by kernel_rfl) fun w1 hxz => ?_)
 replace hst := hst.grow hxz
 refine wd_sub (k := 0) 8 [3, 7] hfr (by kernel_rfl) (by kernel_rfl) (by kernel_rfl) (by rfl) ?_
 replace hfr : Fr 28 [(0, _), (2, _)] [] a := hfr.pick [0, 2]
 refine wc_phases_q [] (fun i => match i with | _ => fun _ _ => False) 8 [[], [0], [1], [2], [], [4], [5], [6]] [.pointer (some ⟨b, 0, none⟩), .pointer (some ⟨b, 0, none⟩), .pointer (some ⟨b, 0, none⟩), sv s, .pointer (some ⟨b, 0, none⟩), .pointer (some ⟨b, 0, none⟩), .pointer (some ⟨b, 1, none⟩), iv z] hfr hst (by kernel_rfl) (by kernel_rfl) (by kernel_rfl) ?_ ?_ ?_
 ·intro i hi hiq
  match i, hi, hiq with
  | 0, _, _ =>
   intro w hst
   exact OpV.g (v_move rfl)
  | 1, _, _ =>
   intro w hst
   exact OpV.g (v_nilCheck rfl)
  | 2, _, _ =>
   intro w hst
   exact OpV.g (v_fieldAddr (v := .pointer (some ⟨b, 0, none⟩)) rfl (by kernel_rfl))
  | 3, _, _ =>
   intro w hst
   exact OpV.g (v_load_blk1 (hst.get (k := 0) rfl) rfl (Tryz.isAgg9 _) rfl)
  | 4, _, _ =>
   intro w hst
   exact OpV.g (v_move rfl)
  | 5, _, _ =>
   intro w hst
   exact OpV.g (v_nilCheck rfl)
  | 6, _, _ =>
   intro w hst
   exact OpV.g (v_fieldAddr (v := .pointer (some ⟨b, 1, none⟩)) rfl (by kernel_rfl))
  | 7, _, _ =>
   intro w hst
   exact OpV.g (v_load_blk1 (hst.get (k := 0) rfl) rfl (Tryz.isAgg3 _) rfl)
 ·intro i hi
  exact absurd hi (by simp)
 clear hfr hst
 intro  a w2 hfr hst
 replace hfr : Fr 28 [(7, .pointer (some ⟨b, 0, none⟩)), (8, .pointer (some ⟨b, 0, none⟩)), (9, .pointer (some ⟨b, 0, none⟩)), (10, sv s), (11, .pointer (some ⟨b, 0, none⟩)), (12, .pointer (some ⟨b, 0, none⟩)), (13, .pointer (some ⟨b, 1, none⟩)), (14, iv z), (0, _), (2, _)] [] a := hfr
 refine wl_nil ?_
 refine wd_lin (k := 8) 10 [9] (by kernel_rfl) (by kernel_rfl) (by kernel_rfl) ?_
 refine wl_callp hfr hst (by decide) Tryz.call128 rfl (int_bad hz hsf hsl hq) ?_
 clear hfr hst
 intro a w3 hfr hst
 refine wlm hfr rfl fun a hfr => ?_
 refine wl_nil ?_
 refine wd_sub (k := 10) 15 [12, 14] hfr (by kernel_rfl) (by kernel_rfl) (by kernel_rfl) (by rfl) ?_
 replace hfr : Fr 28 [(0, _), (2, _), (7, _), (8, _), (9, _), (10, _), (11, _), (12, _), (13, _), (14, _), (15, _), (6, _)] [] a := hfr.pick [0, 2, 7, 8, 9, 10, 11, 12, 13, 14, 15, 6]
 refine wc_phases_q [] (fun i => match i with | _ => fun _ _ => False) 5 [[], [], [], [0], [1]] [iv 0, iv 0, iv 10, iv 0, iv 0] hfr hst (by kernel_rfl) (by kernel_rfl) (by kernel_rfl) ?_ ?_ ?_
 ·intro i hi hiq
  match i, hi, hiq with
  | 0, _, _ =>
   intro w hst
   exact OpV.g (v_extract rfl rfl)
  | 1, _, _ =>
   intro w hst
   exact OpV.g (v_extract rfl rfl)
  | 2, _, _ =>
   intro w hst
   exact OpV.g (v_extract rfl rfl)
  | 3, _, _ =>
   intro w hst
   exact OpV.g (v_assign rfl)
  | 4, _, _ =>
   intro w hst
   exact OpV.g (v_assign rfl)
 ·intro i hi
  exact absurd hi (by simp)
 clear hfr hst
 intro  a w4 hfr hst
 replace hfr : Fr 28 [(16, iv 0), (17, iv 0), (18, iv 10), (3, iv 0), (4, iv 0), (0, _), (2, _), (7, _), (8, _), (9, _), (10, _), (11, _), (12, _), (13, _), (14, _), (15, _), (6, _)] [] a := hfr
 refine wl_nil ?_
 refine wd_lin (k := 15) 16 [15] (by kernel_rfl) (by kernel_rfl) (by kernel_rfl) ?_
 refine wla hfr rfl fun a hfr => ?_
 refine wl_nil ?_
 refine wd_end (by kernel_rfl) ?_
 refine hK2 _ _ ?_
 replace hfr : Fr 28 [(0, _), (2, _), (3, _), (4, _), (5, _)] [] a := hfr.pick [0, 2, 3, 4, 5]
 refine wc_seq_k fun K3 hK3 => ?_
 refine wc_seq_region fun K4 hK4 => ?_
 refine wlm hfr rfl fun a hfr => ?_
 refine wlv hfr ((v_ne rfl rfl).asb (b' := true) rfl) fun a hfr => ?_
 refine wl_nil (hK4 _ _ ?_)
 refine wc_cond_t hfr rfl ?_
 refine wcx_region ?_
 refine wx_split 2 ?_
 refine wlv hfr (v_build (v := .agg #[]) rfl (by kernel_rfl)) fun a hfr => ?_
 refine wlv hfr (v_makeIface rfl Tryz.underlying142) fun a hfr => ?_
 refine wl_nil ?_
 refine wx_panic hfr rfl ?_
 exact post_panic (X := fun c w => c = [{ v := .iface 142 (.agg #[]), recovered := false }] ∧ St M w0 [blk b [sv s, iv z] 145] w) hfr ⟨rfl, hst.select [0] (by decide)⟩
theorem kind_ok {M : Nat → Prop} {w0 : World} (b : Nat) (s r r2 : By) (x z : Int) (ws : World) (hz : z = ((s.length - r.length : Nat) : Int)) (hsf : r <:+ s) (hsl : s.length ≤ 1000000) (hq : kdI x r = some r2) (hst : St M w0 [blk b [sv s, iv z] 145] ws) :
  Ret Tryz.prog 83 #[.pointer (some ⟨b, 0, none⟩), iv x] ws fun u w => u = .tuple #[] ∧ St M w0 [blk b [sv s, iv ((s.length - r2.length : Nat) : Int)] 145] w := by
 refine ret_of Tryz.func83 rfl Tryz.ntmps83 (lb rfl) fun a hfr => ?_
 replace hfr : Fr 10 [(0, _), (1, _)] [] a := hfr
 skip
 refine wc_seq_region fun K1 hK1 => ?_
 refine wlm hfr rfl fun a hfr => ?_
 refine wl_callE (R := fun u e' => u = iv x ∧ e' = blk b [sv s, iv ((s.length - r2.length : Nat) : Int)] 145) 0 hfr hst rfl (by decide) Tryz.call82 rfl (fun h => (number_ok b s _ r2 x _ _ hz hsf hsl (kdI_some hq) h).mono fun u w ⟨h1, h2⟩ => ⟨_, ⟨h1, rfl⟩, h2⟩) ?_
 clear hfr hst
 rintro a w1 _ _ ⟨rfl, rfl⟩ hfr hst
 replace hst : St M w0 [blk b [sv s, iv ((s.length - r2.length : Nat) : Int)] 145] w1 := hst
 refine wlm hfr rfl fun a hfr => ?_
 refine wlv hfr ((v_ne rfl rfl).asb (b' := false) (by simp)) fun a hfr => ?_
 refine wl_nil (hK1 _ _ ?_)
 refine wc_cond_f hfr rfl ?_
 refine wc_skip ?_
 refine fin_end hfr Tryz.results83 resAre_nil ?_
 exact ⟨rfl, hst.select [0] (by decide)⟩
theorem kind_bad {M : Nat → Prop} {w0 : World} (b : Nat) (s r  : By) (x z : Int) (ws : World) (hz : z = ((s.length - r.length : Nat) : Int)) (hsf : r <:+ s) (hsl : s.length ≤ 1000000) (hq : kdI x r = none) (hst : St M w0 [blk b [sv s, iv z] 145] ws) :
  Pan Tryz.prog 83 #[.pointer (some ⟨b, 0, none⟩), iv x] ws fun c w => c = [{ v := .iface 142 (.agg #[]), recovered := false }] ∧ Ext M w0 w := by
 refine pan_of Tryz.func83 rfl Tryz.ntmps83 (lb rfl) fun a hfr => ?_
 replace hfr : Fr 10 [(0, _), (1, _)] [] a := hfr
 skip
 refine wcx_seq_region fun K1 hK1 hP1 => ?_
 refine wx_split 1 ?_
 refine wlm hfr rfl fun a hfr => ?_
 refine wl_nil ?_
 rcases kdI_none hq with hq1 | ⟨n, r2, hq1, hnx⟩
 ·refine wx_panE (X := fun c => c = [{ v := .iface 142 (.agg #[]), recovered := false }]) 0 hfr hst rfl Tryz.call82 rfl (fun h => (number_bad b s r z _ hz hsf hsl hq1 h).mono fun e w ⟨c, h1, h2, h3⟩ => ⟨c, h1, _, h2, h3⟩) ?_
  clear hst
  rintro _ w1 e9 rfl hst
  refine hP1 _ _ _ ?_
  exact post_panic (X := fun c w => c = [{ v := .iface 142 (.agg #[]), recovered := false }] ∧ Ext M w0 w) hfr ⟨rfl, hst.ext⟩
 refine wx_split 1 ?_
 refine wl_callE (R := fun u e' => u = iv n ∧ e' = blk b [sv s, iv ((s.length - r2.length : Nat) : Int)] 145) 0 hfr hst rfl (by decide) Tryz.call82 rfl (fun h => (number_ok b s _ r2 n _ _ hz hsf hsl hq1 h).mono fun u w ⟨h1, h2⟩ => ⟨_, ⟨h1, rfl⟩, h2⟩) ?_
 clear hfr hst
 rintro a w2 _ _ ⟨rfl, rfl⟩ hfr hst
 replace hst : St M w0 [blk b [sv s, iv ((s.length - r2.length : Nat) : Int)] 145] w2 := hst
 refine wl_nil ?_
 refine wx_wl ?_
 refine wlm hfr rfl fun a hfr => ?_
 refine wlv hfr (v_ne rfl rfl) fun a hfr => ?_
 refine wl_nil (hK1 _ _ ?_)
 refine wc_cond hfr rfl (fun hc1 => ?_) (fun hc1 => ?_)
 ·rw [hc1] at hfr
  try simp only [qz] at hc1
  refine wcx_region ?_
  refine wx_split 2 ?_
  refine wlv hfr (v_build (v := .agg #[]) rfl (by kernel_rfl)) fun a hfr => ?_
  refine wlv hfr (v_makeIface rfl Tryz.underlying142) fun a hfr => ?_
  refine wl_nil ?_
  refine wx_panic hfr rfl ?_
  exact post_panic (X := fun c w => c = [{ v := .iface 142 (.agg #[]), recovered := false }] ∧ Ext M w0 w) hfr ⟨rfl, hst.ext⟩
 rw [hc1] at hfr
 try simp only [qz] at hc1
 exact absurd hc1 hnx
theorem dg_len {r g q : By} (h : dgI r = some (g, q)) : 32 ≤ r.length ∧ q.length + 32 = r.length ∧ g = r.take 32 := by
 unfold dgI at h
 split at h
 ·rename_i hl; cases h; exact ⟨hl, by rw [List.length_drop]; omega, rfl⟩
 ·cases h
theorem dg_cut {s r g q : By} (h : dgI r = some (g, q)) (hs : r <:+ s) : g = (s.drop (s.length - r.length)).take (s.length - r.length + 32 - (s.length - r.length)) := by
 rw [← List.suffix_iff_eq_drop.1 hs, show s.length - r.length + 32 - (s.length - r.length) = 32 from by omega]; exact (dg_len h).2.2
theorem dg_no {r : By} (h : dgI r = none) : r.length < 32 := by
 unfold dgI at h
 split at h
 ·cases h
 ·omega
theorem dgr_ok {M : Nat → Prop} {w0 : World} (b : Nat) (s r r2 g : By) (z : Int) (ws : World) (hz : z = ((s.length - r.length : Nat) : Int)) (hsf : r <:+ s) (hsl : s.length ≤ 1000000) (hq : dgI r = some (g, r2)) (hst : St M w0 [blk b [sv s, iv z] 145] ws) :
  Ret Tryz.prog 84 #[.pointer (some ⟨b, 0, none⟩)] ws fun u w => u = sv g ∧ St M w0 [blk b [sv s, iv ((s.length - r2.length : Nat) : Int)] 145] w := by
 have hsu := hsf.length_le
 obtain ⟨hd1, hd2, -⟩ := dg_len hq
 have hzz := hz
 refine ret_of Tryz.func84 rfl Tryz.ntmps84 (lb rfl) fun a hfr => ?_
 replace hfr : Fr 39 [(0, _)] [] a := hfr
 skip
 refine wc_seq_region fun K1 hK1 => ?_
 refine wla hfr rfl fun a hfr => ?_
 refine wl_nil (hK1 _ _ ?_)
 refine wc_seq_k fun K2 hK2 => ?_
 refine wc_seq_k fun K3 hK3 => ?_
 refine wc_of_dr (by kernel_rfl) (dr_of_wd (by kernel_rfl) fun w1 hxz => ?_)
 replace hst := hst.grow hxz
 refine wd_sub (k := 0) 9 [4, 8] hfr (by kernel_rfl) (by kernel_rfl) (by kernel_rfl) (by rfl) ?_
 replace hfr : Fr 39 [(0, _), (2, _)] [] a := hfr.pick [0, 2]
 refine wc_phases_q [] (fun i => match i with | _ => fun _ _ => False) 9 [[], [0], [1], [2], [3], [], [5], [6], [7]] [.pointer (some ⟨b, 0, none⟩), .pointer (some ⟨b, 0, none⟩), .pointer (some ⟨b, 0, none⟩), sv s, iv (s.length : Int), .pointer (some ⟨b, 0, none⟩), .pointer (some ⟨b, 0, none⟩), .pointer (some ⟨b, 1, none⟩), iv z] hfr hst (by kernel_rfl) (by kernel_rfl) (by kernel_rfl) ?_ ?_ ?_
 ·intro i hi hiq
  match i, hi, hiq with
  | 0, _, _ =>
   intro w hst
   exact OpV.g (v_move rfl)
  | 1, _, _ =>
   intro w hst
   exact OpV.g (v_nilCheck rfl)
  | 2, _, _ =>
   intro w hst
   exact OpV.g (v_fieldAddr (v := .pointer (some ⟨b, 0, none⟩)) rfl (by kernel_rfl))
  | 3, _, _ =>
   intro w hst
   exact OpV.g (v_load_blk1 (hst.get (k := 0) rfl) rfl (Tryz.isAgg9 _) rfl)
  | 4, _, _ =>
   intro w hst
   exact OpV.g (v_len_str rfl rfl (Tryz.runUnderlying9 _))
  | 5, _, _ =>
   intro w hst
   exact OpV.g (v_move rfl)
  | 6, _, _ =>
   intro w hst
   exact OpV.g (v_nilCheck rfl)
  | 7, _, _ =>
   intro w hst
   exact OpV.g (v_fieldAddr (v := .pointer (some ⟨b, 1, none⟩)) rfl (by kernel_rfl))
  | 8, _, _ =>
   intro w hst
   exact OpV.g (v_load_blk1 (hst.get (k := 0) rfl) rfl (Tryz.isAgg3 _) rfl)
 ·intro i hi
  exact absurd hi (by simp)
 clear hfr hst
 intro  a w2 hfr hst
 replace hfr : Fr 39 [(4, .pointer (some ⟨b, 0, none⟩)), (5, .pointer (some ⟨b, 0, none⟩)), (6, .pointer (some ⟨b, 0, none⟩)), (7, sv s), (8, iv (s.length : Int)), (9, .pointer (some ⟨b, 0, none⟩)), (10, .pointer (some ⟨b, 0, none⟩)), (11, .pointer (some ⟨b, 1, none⟩)), (12, iv z), (0, _), (2, _)] [] a := hfr
 refine wl_nil ?_
 refine wd_lin (k := 9) 11 [10] (by kernel_rfl) (by kernel_rfl) (by kernel_rfl) ?_
 refine wlv hfr (v_sub rfl rfl ⟨by omega, by omega⟩) fun a hfr => ?_
 refine wlv hfr ((v_lt rfl rfl).asb (b' := false) (by exact decide_eq_false (by rw [hz]; omega))) fun a hfr => ?_
 refine wl_nil ?_
 refine wd_end (by kernel_rfl) ?_
 refine hK3 _ _ ?_
 replace hfr : Fr 39 [(0, _), (2, _), (14, _)] [] a := hfr.pick [0, 2, 14]
 refine wc_cond_f hfr rfl ?_
 refine wc_skip ?_
 refine hK2 _ _ ?_
 refine wc_seq_k fun K4 hK4 => ?_
 refine wc_of_dr (by kernel_rfl) (dr_of_wd (by kernel_rfl) fun w3 hxz => ?_)
 replace hst := hst.grow hxz
 refine wd_sub (k := 0) 13 [3, 7, 12] hfr (by kernel_rfl) (by kernel_rfl) (by kernel_rfl) (by rfl) ?_
 replace hfr : Fr 39 [(0, _), (2, _), (14, _)] [] a := hfr.pick [0, 2, 14]
 refine wc_phases_q [] (fun i => match i with | _ => fun _ _ => False) 13 [[], [0], [1], [2], [], [4], [5], [6], [], [8], [9], [10], [11]] [.pointer (some ⟨b, 0, none⟩), .pointer (some ⟨b, 0, none⟩), .pointer (some ⟨b, 0, none⟩), sv s, .pointer (some ⟨b, 0, none⟩), .pointer (some ⟨b, 0, none⟩), .pointer (some ⟨b, 1, none⟩), iv z, .pointer (some ⟨b, 0, none⟩), .pointer (some ⟨b, 0, none⟩), .pointer (some ⟨b, 1, none⟩), iv z, iv ((s.length - r2.length : Nat) : Int)] hfr hst (by kernel_rfl) (by kernel_rfl) (by kernel_rfl) ?_ ?_ ?_
 ·intro i hi hiq
  match i, hi, hiq with
  | 0, _, _ =>
   intro w hst
   exact OpV.g (v_move rfl)
  | 1, _, _ =>
   intro w hst
   exact OpV.g (v_nilCheck rfl)
  | 2, _, _ =>
   intro w hst
   exact OpV.g (v_fieldAddr (v := .pointer (some ⟨b, 0, none⟩)) rfl (by kernel_rfl))
  | 3, _, _ =>
   intro w hst
   exact OpV.g (v_load_blk1 (hst.get (k := 0) rfl) rfl (Tryz.isAgg9 _) rfl)
  | 4, _, _ =>
   intro w hst
   exact OpV.g (v_move rfl)
  | 5, _, _ =>
   intro w hst
   exact OpV.g (v_nilCheck rfl)
  | 6, _, _ =>
   intro w hst
   exact OpV.g (v_fieldAddr (v := .pointer (some ⟨b, 1, none⟩)) rfl (by kernel_rfl))
  | 7, _, _ =>
   intro w hst
   exact OpV.g (v_load_blk1 (hst.get (k := 0) rfl) rfl (Tryz.isAgg3 _) rfl)
  | 8, _, _ =>
   intro w hst
   exact OpV.g (v_move rfl)
  | 9, _, _ =>
   intro w hst
   exact OpV.g (v_nilCheck rfl)
  | 10, _, _ =>
   intro w hst
   exact OpV.g (v_fieldAddr (v := .pointer (some ⟨b, 1, none⟩)) rfl (by kernel_rfl))
  | 11, _, _ =>
   intro w hst
   exact OpV.g (v_load_blk1 (hst.get (k := 0) rfl) rfl (Tryz.isAgg3 _) rfl)
  | 12, _, _ =>
   intro w hst
   exact OpV.g ((v_add rfl rfl ⟨by omega, by omega⟩).asi (m' := ((s.length - r2.length : Nat) : Int)) (by omega))
  | i + 13, h, _ => exact absurd h (by omega)
 ·intro i hi
  exact absurd hi (by simp)
 clear hfr hst
 intro  a w4 hfr hst
 replace hfr : Fr 39 [(17, .pointer (some ⟨b, 0, none⟩)), (18, .pointer (some ⟨b, 0, none⟩)), (19, .pointer (some ⟨b, 0, none⟩)), (20, sv s), (21, .pointer (some ⟨b, 0, none⟩)), (22, .pointer (some ⟨b, 0, none⟩)), (23, .pointer (some ⟨b, 1, none⟩)), (24, iv z), (25, .pointer (some ⟨b, 0, none⟩)), (26, .pointer (some ⟨b, 0, none⟩)), (27, .pointer (some ⟨b, 1, none⟩)), (28, iv z), (29, iv ((s.length - r2.length : Nat) : Int)), (0, _), (2, _), (14, _)] [] a := hfr
 refine wl_nil ?_
 refine wd_lin (k := 13) 15 [14] (by kernel_rfl) (by kernel_rfl) (by kernel_rfl) ?_
 refine wlv hfr ((v_slice_strk (xs := s) (l := s.length - r.length) (h := s.length - r.length + 32) rfl rfl rfl Tryz.underlying9 (.inr ⟨.i64, congrArg (fun i => some (iv i)) hz⟩) (.inr ⟨.i64, congrArg (fun i => some (iv i)) (by omega)⟩) (by omega) (by omega)).as (v' := sv g) (by rw [← dg_cut hq hsf])) fun a hfr => wla hfr rfl fun a hfr => ?_
 refine wl_nil ?_
 refine wd_end (by kernel_rfl) ?_
 refine hK4 _ _ ?_
 replace hfr : Fr 39 [(0, _), (2, _), (3, _)] [] a := hfr.pick [0, 2, 3]
 refine wc_seq_region fun K5 hK5 => ?_
 refine wlm hfr rfl fun a hfr => ?_
 refine wlv hfr (v_nilCheck rfl) fun a hfr => ?_
 refine wlv hfr (v_fieldAddr (v := .pointer (some ⟨b, 1, none⟩)) rfl (by kernel_rfl)) fun a hfr => ?_
 refine wlv hfr (v_load_blk1 (hst.get (k := 0) rfl) rfl (Tryz.isAgg3 _) rfl) fun a hfr => ?_
 refine wlv hfr ((v_add rfl rfl ⟨by omega, by omega⟩).asi (m' := ((s.length - r2.length : Nat) : Int)) (by omega)) fun a hfr => ?_
 refine wlv hfr (v_nilCheck rfl) fun a hfr => ?_
 refine wlv hfr (v_fieldAddr (v := .pointer (some ⟨b, 1, none⟩)) rfl (by kernel_rfl)) fun a hfr => ?_
 refine wl_store 0 hfr hst rfl rfl rfl (Tryz.sizeOf3 _) rfl (lb rfl) (ds := [sv s, iv ((s.length - r2.length : Nat) : Int)]) rfl rfl ?_
 clear hfr hst
 intro a w5 hfr hst
 refine wl_nil (hK5 _ _ ?_)
 replace hfr : Fr 39 [(2, _), (3, _)] [] a := hfr.pick [2, 3]
 refine wc_seq_region fun K6 hK6 => ?_
 refine wlm hfr rfl fun a hfr => wla hfr rfl fun a hfr => ?_
 refine wl_nil (hK6 _ _ ?_)
 refine wc_ret ?_
 refine fin_ret hfr Tryz.results84 (resAre_tmp rfl resAre_nil) ?_
 exact ⟨rfl, hst.select [0] (by decide)⟩
theorem dgr_bad {M : Nat → Prop} {w0 : World} (b : Nat) (s r  : By) (z : Int) (ws : World) (hz : z = ((s.length - r.length : Nat) : Int)) (hsf : r <:+ s) (hsl : s.length ≤ 1000000) (hq : dgI r = none) (hst : St M w0 [blk b [sv s, iv z] 145] ws) :
  Pan Tryz.prog 84 #[.pointer (some ⟨b, 0, none⟩)] ws fun c w => c = [{ v := .iface 142 (.agg #[]), recovered := false }] ∧ St M w0 [blk b [sv s, iv z] 145] w := by
 have hsu := hsf.length_le
 have hd1 := dg_no hq
 refine pan_of Tryz.func84 rfl Tryz.ntmps84 (lb rfl) fun a hfr => ?_
 replace hfr : Fr 39 [(0, _)] [] a := hfr
 skip
 refine wc_seq_region fun K1 hK1 => ?_
 refine wla hfr rfl fun a hfr => ?_
 refine wl_nil (hK1 _ _ ?_)
 refine wc_seq_k fun K2 hK2 => ?_
 refine wc_seq_k fun K3 hK3 => ?_
 refine wc_of_dr (by kernel_rfl) (dr_of_wd (by kernel_rfl) fun w1 hxz => ?_)
 replace hst := hst.grow hxz
 refine wd_sub (k := 0) 9 [4, 8] hfr (by kernel_rfl) (by kernel_rfl) (by kernel_rfl) (by rfl) ?_
 replace hfr : Fr 39 [(0, _), (2, _)] [] a := hfr.pick [0, 2]
 refine wc_phases_q [] (fun i => match i with | _ => fun _ _ => False) 9 [[], [0], [1], [2], [3], [], [5], [6], [7]] [.pointer (some ⟨b, 0, none⟩), .pointer (some ⟨b, 0, none⟩), .pointer (some ⟨b, 0, none⟩), sv s, iv (s.length : Int), .pointer (some ⟨b, 0, none⟩), .pointer (some ⟨b, 0, none⟩), .pointer (some ⟨b, 1, none⟩), iv z] hfr hst (by kernel_rfl) (by kernel_rfl) (by kernel_rfl) ?_ ?_ ?_
 ·intro i hi hiq
  match i, hi, hiq with
  | 0, _, _ =>
   intro w hst
   exact OpV.g (v_move rfl)
  | 1, _, _ =>
   intro w hst
   exact OpV.g (v_nilCheck rfl)
  | 2, _, _ =>
   intro w hst
   exact OpV.g (v_fieldAddr (v := .pointer (some ⟨b, 0, none⟩)) rfl (by kernel_rfl))
  | 3, _, _ =>
   intro w hst
   exact OpV.g (v_load_blk1 (hst.get (k := 0) rfl) rfl (Tryz.isAgg9 _) rfl)
  | 4, _, _ =>
   intro w hst
   exact OpV.g (v_len_str rfl rfl (Tryz.runUnderlying9 _))
  | 5, _, _ =>
   intro w hst
   exact OpV.g (v_move rfl)
  | 6, _, _ =>
   intro w hst
   exact OpV.g (v_nilCheck rfl)
  | 7, _, _ =>
   intro w hst
   exact OpV.g (v_fieldAddr (v := .pointer (some ⟨b, 1, none⟩)) rfl (by kernel_rfl))
  | 8, _, _ =>
   intro w hst
   exact OpV.g (v_load_blk1 (hst.get (k := 0) rfl) rfl (Tryz.isAgg3 _) rfl)
 ·intro i hi
  exact absurd hi (by simp)
 clear hfr hst
 intro  a w2 hfr hst
 replace hfr : Fr 39 [(4, .pointer (some ⟨b, 0, none⟩)), (5, .pointer (some ⟨b, 0, none⟩)), (6, .pointer (some ⟨b, 0, none⟩)), (7, sv s), (8, iv (s.length : Int)), (9, .pointer (some ⟨b, 0, none⟩)), (10, .pointer (some ⟨b, 0, none⟩)), (11, .pointer (some ⟨b, 1, none⟩)), (12, iv z), (0, _), (2, _)] [] a := hfr
 refine wl_nil ?_
 refine wd_lin (k := 9) 11 [10] (by kernel_rfl) (by kernel_rfl) (by kernel_rfl) ?_
 refine wlv hfr (v_sub rfl rfl ⟨by omega, by omega⟩) fun a hfr => ?_
 refine wlv hfr ((v_lt rfl rfl).asb (b' := true) (by exact decide_eq_true (by rw [hz]; omega))) fun a hfr => ?_
 refine wl_nil ?_
 refine wd_end (by kernel_rfl) ?_
 refine hK3 _ _ ?_
 replace hfr : Fr 39 [(0, _), (2, _), (14, _)] [] a := hfr.pick [0, 2, 14]
 refine wc_cond_t hfr rfl ?_
 refine wcx_region ?_
 refine wx_split 2 ?_
 refine wlv hfr (v_build (v := .agg #[]) rfl (by kernel_rfl)) fun a hfr => ?_
 refine wlv hfr (v_makeIface rfl Tryz.underlying142) fun a hfr => ?_
 refine wl_nil ?_
 refine wx_panic hfr rfl ?_
 exact post_panic (X := fun c w => c = [{ v := .iface 142 (.agg #[]), recovered := false }] ∧ St M w0 [blk b [sv s, iv z] 145] w) hfr ⟨rfl, hst.select [0] (by decide)⟩
end Go.Proofs.YtmmfieceinmloaaGreatDoor
