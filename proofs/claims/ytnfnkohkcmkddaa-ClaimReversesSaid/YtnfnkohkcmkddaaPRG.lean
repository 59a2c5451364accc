/- Texts joined: BlkM, ClkX. -/
import Derived.Test.YtnfnkohkcmkddaaPRF
import Derived.Test.YtnfnkohkcmkddaaPRD
namespace Go.Proofs.Ytnfnkohkcmkddaa
open Go.RowKit Go.PW
set_option linter.unusedVariables false
set_option linter.unusedSimpArgs false
set_option maxRecDepth 4000
theorem made2 {x0 x1 x2 x3 y0 y1 y2 y3 y4 y5 : Int} {xs : List Tri} {f : FuncId} {args : Array Value} {w : World} {rl : Rul} {cl : Clm} {l : List Evt} {E : TypeId} (hrl : mkRul x0 x1 x2 x3 = rl) (hcl : mkClm y0 y1 y2 y3 y4 y5 = cl) (hl : mkL rl cl xs = l)
  (h : Ret Try.prog f args w (MemR w (fun v : Value => .tuple #[(mkRul x0 x1 x2 x3).val, (mkClm y0 y1 y2 y3 y4 y5).val, v]) (fun v => [own v E 3 ((mkL (mkRul x0 x1 x2 x3) (mkClm y0 y1 y2 y3 y4 y5) xs).map Evt.cells)]) (fun _ => True))) :
  Ret Try.prog f args w (MemR w (fun v : Value => .tuple #[rl.val, cl.val, v]) (fun v => [own v E 3 (l.map Evt.cells)]) (fun _ => True)) := by
 subst hrl; subst hcl; subst hl; exact h
theorem outcome2 {rl : Rul} {cl : Clm} {l : List Evt} {t : Int} {s : Stt} {f : FuncId} {args : Array Value} {w : World} (hs : outcome rl cl l t = s) (h : Ret Try.prog f args w fun v w' => v = .tuple #[(outcome rl cl l t).val, iv 0] ∧ Ext No w w') :
  Ret Try.prog f args w fun v w' => v = .tuple #[.agg #[iv s.state, iv s.since, iv s.next], iv 0] ∧ Ext No w w' := by
 subst hs; exact h
theorem pick2 {c n k : Int} {f : FuncId} {args : Array Value} {w : World} (hk : pick c n = k) (h : Ret Try.prog f args w fun v w' => v = iv (pick c n) ∧ Ext No w w') : Ret Try.prog f args w fun v w' => v = iv k ∧ Ext No w w' := by subst hk; exact h
theorem mkRul_day (x0 x1 x2 x3 : Int) : (mkRul x0 x1 x2 x3).answer ≤ 86400 ∧ (mkRul x0 x1 x2 x3).cooling ≤ 86400 ∧ (mkRul x0 x1 x2 x3).settle ≤ 86400 ∧ (mkRul x0 x1 x2 x3).reverse ≤ 86400 := ⟨(mkRule_le x0).2, (mkRule_le x1).2, (mkRule_le x2).2, (mkRule_le x3).2⟩
theorem void4 {rl : Rul} {cl : Clm} {l : List Evt} {vo : List Int} {E : TypeId} {f : FuncId} {args : Array Value} {w : World} (hs : voids rl cl l = vo) (h : Ret Try.prog f args w (MemR w (fun v : Value => .tuple #[v, iv 0]) (fun v => [own v E 1 ((voids rl cl l).map fun i => [iv i])]) (fun _ => True))) :
  Ret Try.prog f args w (MemR w (fun v : Value => .tuple #[v, iv 0]) (fun v => [own v E 1 (vo.map fun i => [iv i])]) (fun _ => True)) := by subst hs; exact h
theorem with4 {rl : Rul} {cl : Clm} {l : List Evt} {t k : Int} {f : FuncId} {args : Array Value} {w : World} (hk : withAt rl cl l t = k) (h : Ret Try.prog f args w fun v w' => v = .tuple #[iv (withAt rl cl l t), iv 0] ∧ Ext No w w') :
  Ret Try.prog f args w fun v w' => v = .tuple #[iv k, iv 0] ∧ Ext No w w' := by subst hk; exact h
theorem given_ok (lv : Value) (m : List Blo) (rl : Rul) (cl : Clm) (sv : Value) (l : List Evt) (t k : Int) (w0 : World) (hlv : SlAt w0 lv 3 (m.map Blo.cells)) (hsv : SlAt w0 sv 3 (l.map Evt.cells)) (hok : mapOk m = true) (hln : m.length ≤ 38) (hc : isClaim cl = true) (hv : valid rl cl l = true) (hin : isIn t 0 20000000 = true) (hk : withAt rl cl l t = k) (hkc : isIn k 0 7 = true) :
  Ret Try.prog 8 #[lv, .agg #[iv rl.answer, iv rl.cooling, iv rl.settle, iv rl.reverse], .agg #[iv cl.number, iv cl.frm, iv cl.to, iv cl.holder, iv cl.asked, .bool cl.backed], sv, iv t] w0 (MemR w0 (fun z : Value × List Blo => .tuple #[z.1, .bool true]) (fun z => [own z.1 77 3 (z.2.map Blo.cells)]) (fun z => Gives m cl.number (cl.number + 1) k z.2)) := by
 have hcl := isClaim_le hc
 have hr : rngB cl.number (cl.number + 1) = true := by simp [rngB]; omega
 refine ret_of Try.func8 rfl Try.ntmps8 (lb rfl) fun a hfr => ?_
 replace hfr : Fr 43 [(0, _), (1, _), (2, _), (3, _), (4, _)] [] a := hfr
 replace hst : St No w0 [] w0 := St.init w0
 refine wc_seq_region fun K1 hK1 => ?_
 refine wl_box hfr hst rfl [iv rl.answer, iv rl.cooling, iv rl.settle, iv rl.reverse] rfl ?_
 clear hfr hst
 intro a w1 hfr hst
 refine wl_box hfr hst rfl [iv cl.number, iv cl.frm, iv cl.to, iv cl.holder, iv cl.asked, .bool cl.backed] rfl ?_
 clear hfr hst
 intro a w2 hfr hst
 refine wla hfr rfl fun a hfr => wla hfr rfl fun a hfr => ?_
 refine wl_nil (hK1 _ _ ?_)
 refine wc_seq_region fun K2 hK2 => ?_
 refine wlv hfr (v_load_all (hst.get (k := 1) rfl) rfl (Try.isAgg31 _) (Try.sizeOf31 _)) fun a hfr => ?_
 refine wlv hfr (v_load_all (hst.get (k := 0) rfl) rfl (Try.isAgg33 _) (Try.sizeOf33 _)) fun a hfr => wlm hfr rfl fun a hfr => wlm hfr rfl fun a hfr => ?_
 refine wl_callp hfr hst Try.call19 rfl (with4 hk (with_ok rl cl sv l t _ (hst.arg hsv) hv hin)) ?_
 clear hfr hst
 intro a w3 hfr hst
 refine wlm hfr rfl fun a hfr => ?_
 refine wlv hfr (v_extract rfl rfl) fun a hfr => ?_
 refine wlv hfr (v_extract rfl rfl) fun a hfr => wla hfr rfl fun a hfr => wla hfr rfl fun a hfr => ?_
 refine wl_nil (hK2 _ _ ?_)
 replace hfr : Fr 43 [(0, _), (7, _), (10, _), (11, _), (12, _), (13, _)] [] a := hfr.pick [0, 7, 10, 11, 12, 13]
 replace hst : St No w0 [_] w3 := hst.mask [true, false]
 refine wc_seq_region fun K3 hK3 => ?_
 refine wlm hfr rfl fun a hfr => ?_
 refine wlv hfr (v_fieldAddr (v := .pointer (some ⟨w1.heap.size, 0, none⟩)) rfl (by kernel_rfl)) fun a hfr => ?_
 refine wlv hfr (v_load_blk1 (hst.get (k := 0) rfl) rfl (Try.isAgg3 _) rfl) fun a hfr => ?_
 refine wlv hfr (v_fieldAddr (v := .pointer (some ⟨w1.heap.size, 0, none⟩)) rfl (by kernel_rfl)) fun a hfr => ?_
 refine wlv hfr (v_load_blk1 (hst.get (k := 0) rfl) rfl (Try.isAgg3 _) rfl) fun a hfr => ?_
 refine wlv hfr (v_add rfl rfl ⟨by omega, by omega⟩) fun a hfr => ?_
 refine wlv hfr (v_build (v := .agg #[iv cl.number, iv (cl.number + 1)]) rfl (by kernel_rfl)) fun a hfr => wlm hfr rfl fun a hfr => ?_
 refine wl_callm hfr hst Try.call30 rfl (bgive_ok lv m cl.number (cl.number + 1) k _ (hst.arg hlv) hok hln hr hkc) ?_
 clear hfr hst
 intro a w4 x3 hp hfr hst
 obtain ⟨v1, o2⟩ := x3
 have hgv := hp
 replace hst : St No w0 [own v1 77 3 (o2.map Blo.cells), blk w1.heap.size [iv cl.number, iv cl.frm, iv cl.to, iv cl.holder, iv cl.asked, .bool cl.backed] 33] w4 := hst
 refine wlm hfr rfl fun a hfr => ?_
 refine wlv hfr (v_extract rfl rfl) fun a hfr => ?_
 refine wlv hfr (v_extract rfl rfl) fun a hfr => wla hfr rfl fun a hfr => wla hfr rfl fun a hfr => ?_
 refine wl_nil (hK3 _ _ ?_)
 replace hfr : Fr 43 [(10, _), (11, _), (13, _), (14, _), (15, _)] [] a := hfr.pick [10, 11, 13, 14, 15]
 replace hst : St No w0 [_] w4 := hst.mask [true, false]
 refine wc_seq_region fun K4 hK4 => ?_
 refine wlm hfr rfl fun a hfr => wlm hfr rfl fun a hfr => ?_
 refine wlv hfr ((v_eq rfl rfl).asb (b' := true) rfl) fun a hfr => wlm hfr rfl fun a hfr => wly hfr (v_move rfl) fun a hfr => wly hfr ((v_eq rfl rfl).asb (b' := true) rfl) fun a hfr => ?_
 refine wlv hfr (v_pick_t rfl rfl) fun a hfr => wla hfr rfl fun a hfr => wla hfr rfl fun a hfr => ?_
 refine wl_nil (hK4 _ _ ?_)
 replace hfr : Fr 43 [(10, _), (11, _)] [] a := hfr.pick [10, 11]
 refine wc_ret ?_
 refine fin_ret hfr Try.results8 (resAre_tmp rfl (resAre_tmp rfl resAre_nil)) ?_
 exact ⟨(v1, _), rfl, hgv, hst.ext, St.out (E := [own _ 77 3 (List.map Blo.cells _)]) (H := []) (hst.select [0] (by decide))⟩
set_option maxHeartbeats 4000000 in
theorem reverses_walk (x0 x1 x2 x3 y0 y1 y2 y3 y4 y5 : Int) (xv : Value) (xs : List Tri) (w0 : World) (gf : isI64 x0 ∧ isI64 x1 ∧ isI64 x2 ∧ isI64 x3 ∧ isI64 y0 ∧ isI64 y1 ∧ isI64 y2 ∧ isI64 y3 ∧ isI64 y4 ∧ isI64 y5) (hxv : SlAt w0 xv 3 (xs.map Tri.cells)) (hfit : ∀ k, k < xs.length → (xs.getD k ⟨0, 0, 0⟩).fits) (yv : Value) (ys : List Tri) (hyv : SlAt w0 yv 3 (ys.map Tri.cells)) (hyfit : ∀ k, k < ys.length → (ys.getD k ⟨0, 0, 0⟩).fits) (consent back reason later kind : Int) (gconsent : isI64 consent) (gback : isI64 back) (greason : isI64 reason) (glater : isI64 later) (gkind : isI64 kind) :
  Ret Try.prog 3 #[yv, .agg #[iv x0, iv x1, iv x2, iv x3, iv y0, iv y1, iv y2, iv y3, iv y4, iv y5, xv], iv consent, iv back, iv reason, iv later, iv kind] w0 fun v w => v = .bool true ∧ Ext No w0 w := by
 obtain ⟨g0, g1, g2, g3, g4, g5, g6, g7, g8, g9⟩ := gf
 obtain ⟨rl, hrl⟩ : ∃ r, mkRul x0 x1 x2 x3 = r := ⟨_, rfl⟩
 obtain ⟨cl, hcl0⟩ : ∃ c, mkClm y0 y1 y2 y3 y4 y5 = c := ⟨_, rfl⟩
 have hr : areValid rl = true := hrl ▸ mkRul_valid x0 x1 x2 x3
 have hc : isClaim cl = true := hcl0 ▸ (mkClm_valid y0 y1 y2 y3 y4 y5).1
 have ha : cl.asked < 1000 := hcl0 ▸ (mkClm_valid y0 y1 y2 y3 y4 y5).2
 have hcl := isClaim_le hc
 have hrl1 := areValid_le hr
 have hrl2 := mkRul_day x0 x1 x2 x3
 rw [hrl] at hrl2
 obtain ⟨l, hl0⟩ : ∃ l, mkL rl cl xs = l := ⟨_, rfl⟩
 obtain ⟨hv, hl10⟩ : valid rl cl l = true ∧ l.length ≤ 10 := hl0 ▸ mkL_valid hr hc ha xs
 unfold isI64 at gconsent gback greason glater gkind
 obtain ⟨pa, hpa⟩ : ∃ k, pick consent rl.answer = k := ⟨_, rfl⟩
 have bpa := pick_lt consent rl.answer (by omega)
 rw [hpa] at bpa
 obtain ⟨pb, hpb⟩ : ∃ k, pick back rl.reverse = k := ⟨_, rfl⟩
 have bpb := pick_lt back rl.reverse (by omega)
 rw [hpb] at bpb
 obtain ⟨pr, hpr⟩ : ∃ k, pick reason 8 = k := ⟨_, rfl⟩
 have bpr := pick_lt reason 8 (by omega)
 rw [hpr] at bpr
 obtain ⟨pe, hpe⟩ : ∃ k, pick later 1000000 = k := ⟨_, rfl⟩
 have bpe := pick_lt later 1000000 (by omega)
 rw [hpe] at bpe
 obtain ⟨pq, hpq⟩ : ∃ k, pick kind 6 = k := ⟨_, rfl⟩
 have bpq := pick_lt kind 6 (by omega)
 rw [hpq] at bpq
 obtain ⟨pl, hpl⟩ : ∃ k, pick later 1000 = k := ⟨_, rfl⟩
 have bpl := pick_lt later 1000 (by omega)
 rw [hpl] at bpl
 obtain ⟨ps, hps⟩ : ∃ k, pick reason 9 = k := ⟨_, rfl⟩
 have bps := pick_lt reason 9 (by omega)
 rw [hps] at bps
 obtain ⟨ea, hea⟩ : ∃ n, cl.asked + pa = n := ⟨_, rfl⟩
 obtain ⟨ef, hef⟩ : ∃ n, ea + rl.cooling = n := ⟨_, rfl⟩
 obtain ⟨tw, htw⟩ : ∃ n, ef + pb = n := ⟨_, rfl⟩
 obtain ⟨te, hte⟩ : ∃ n, tw + pe = n := ⟨_, rfl⟩
 obtain ⟨la, hla⟩ : ∃ n, ef + rl.reverse + pl = n := ⟨_, rfl⟩
 have hst0 := statuses_reverse (q := 2 + pr) hr hc (show cl.asked ≤ ea by omega) (by omega) hef (show ef ≤ tw by omega) (by omega) (by omega)
 have hvl : valid rl cl [⟨1, ea, 0⟩, ⟨6, tw, 2 + pr⟩] = true := valid_rev hr hc (by omega) (by omega) (by omega) (by omega)
 have hkf : isIn cl.frm 0 7 = true := isIn_of (by omega) (by omega)
 have hkt : isIn cl.to 0 7 = true := isIn_of (by omega) (by omega)
 refine ret_of Try.func3 rfl Try.ntmps3 (lb rfl) fun a hfr => ?_
 replace hfr : Fr 235 [(0, _), (1, _), (2, _), (3, _), (4, _), (5, _), (6, _)] [] a := hfr
 replace hst : St No w0 [] w0 := St.init w0
 refine wc_seq_region fun K1 hK1 => ?_
 refine wl_box hfr hst rfl [iv x0, iv x1, iv x2, iv x3, iv y0, iv y1, iv y2, iv y3, iv y4, iv y5, xv] rfl ?_
 clear hfr hst
 intro a w1 hfr hst
 refine wla hfr rfl fun a hfr => ?_
 refine wl_nil (hK1 _ _ ?_)
 refine wc_seq_region fun K2 hK2 => ?_
 refine wl_callp hfr hst Try.call4 rfl (sane_ok _) ?_
 clear hfr hst
 intro a w2 hfr hst
 refine wla hfr rfl fun a hfr => ?_
 refine wl_nil (hK2 _ _ ?_)
 refine wc_seq_k fun K3 hK3 => ?_
 refine wc_seq_region fun K4 hK4 => ?_
 refine wlm hfr rfl fun a hfr => ?_
 refine wlv hfr ((v_not rfl).asb (b' := false) rfl) fun a hfr => ?_
 refine wl_nil (hK4 _ _ ?_)
 refine wc_cond_f hfr rfl ?_
 refine wc_skip ?_
 refine hK3 _ _ ?_
 refine wc_seq_region fun K5 hK5 => ?_
 refine wlm hfr rfl fun a hfr => ?_
 refine wl_callm hfr hst Try.call5 rfl (made13_ok yv ys _ (hst.arg hyv) hyfit) ?_
 clear hfr hst
 intro a w3 x1 hp hfr hst
 obtain ⟨v0, o0⟩ := x1
 obtain ⟨hq0, hn0⟩ := hp
 replace hst : St No w0 [own v0 77 3 (o0.map Blo.cells), blk w0.heap.size [iv x0, iv x1, iv x2, iv x3, iv y0, iv y1, iv y2, iv y3, iv y4, iv y5, xv] 26] w3 := hst
 refine wla hfr rfl fun a hfr => ?_
 refine wl_nil (hK5 _ _ ?_)
 replace hfr : Fr 235 [(2, _), (3, _), (4, _), (5, _), (6, _), (8, _), (14, _), (16, _)] [] a := hfr.pick [2, 3, 4, 5, 6, 8, 14, 16]
 have hn0 : o0.length ≤ 24 := hn0
 refine wc_seq_region fun K6 hK6 => ?_
 refine wlv hfr (v_load_all (hst.get (k := 1) rfl) rfl (Try.isAgg26 _) (Try.sizeOf26 _)) fun a hfr => ?_
 refine wl_callm hfr hst Try.call6 rfl (made2 hrl hcl0 hl0 (made_ok x0 x1 x2 x3 y0 y1 y2 y3 y4 y5 xv xs _ g0 g1 g2 g3 g4 g5 g6 g7 g8 g9 (hst.arg hxv) hfit)) ?_
 clear hfr hst
 intro a w4 x3 hp hfr hst
 revert x3 hp hfr hst; rintro v2 hp hfr hst
 clear hp
 replace hst : St No w0 [own v2 39 3 (l.map Evt.cells), own v0 77 3 (o0.map Blo.cells), blk w0.heap.size [iv x0, iv x1, iv x2, iv x3, iv y0, iv y1, iv y2, iv y3, iv y4, iv y5, xv] 26] w4 := hst
 refine wlm hfr rfl fun a hfr => ?_
 refine wlv hfr (v_extract rfl rfl) fun a hfr => ?_
 refine wlv hfr (v_extract rfl rfl) fun a hfr => ?_
 refine wlv hfr (v_extract rfl rfl) fun a hfr => ?_
 refine wl_alloc hfr hst (Try.zeroValue31 _) [iv 0, iv 0, iv 0, iv 0] rfl ?_
 clear hfr hst
 intro a w5 hfr hst
 refine wl_alloc hfr hst (Try.zeroValue33 _) [iv 0, iv 0, iv 0, iv 0, iv 0, .bool false] rfl ?_
 clear hfr hst
 intro a w6 hfr hst
 refine wl_sto 1 hfr hst [iv rl.answer, iv rl.cooling, iv rl.settle, iv rl.reverse] rfl (Try.sizeOf31 _) ?_
 clear hfr hst
 intro a w7 hfr hst
 refine wl_sto 0 hfr hst [iv cl.number, iv cl.frm, iv cl.to, iv cl.holder, iv cl.asked, .bool cl.backed] rfl (Try.sizeOf33 _) ?_
 clear hfr hst
 intro a w8 hfr hst
 refine wla hfr rfl fun a hfr => ?_
 refine wl_nil (hK6 _ _ ?_)
 replace hfr : Fr 235 [(2, _), (3, _), (4, _), (5, _), (6, _), (14, _), (16, _), (17, _), (18, _)] [] a := hfr.pick [2, 3, 4, 5, 6, 14, 16, 17, 18]
 replace hst : St No w0 [_, _, _] w8 := hst.mask [true, true, false, true, false]
 refine wc_seq_k fun K7 hK7 => ?_
 refine wc_of_dr (dr_of_wd fun w9 hxz => ?_)
 replace hst := hst.grow hxz
 refine wd_sub (k := 0) 9 [6, 8] hfr ?_
 replace hfr : Fr 235 [(2, _), (3, _), (4, _), (5, _), (6, _), (14, _), (16, _), (17, _), (18, _)] [] a := hfr.pick [2, 3, 4, 5, 6, 14, 16, 17, 18]
 refine dr_pl 9 hfr hst <| pl_v (v_fieldAddr (v := .pointer (some ⟨w5.heap.size, 4, none⟩)) rfl (by kernel_rfl)) <| pl_w (fun hst => v_load_blk1 (hst.get (k := 0) rfl) rfl (Try.isAgg3 _) rfl) <| pl_m rfl <| pl_v (v_fieldAddr (v := .pointer (some ⟨w4.heap.size, 0, none⟩)) rfl (by kernel_rfl)) <| pl_w (fun hst => v_load_blk1 (hst.get (k := 1) rfl) rfl (Try.isAgg3 _) rfl) <| pl_r (fun hst => g_callp Try.call7 rfl (pick2 hpa (pick16_ok _ _ _ (by omega) (by omega) (by omega) (by omega)))) <| pl_v ((v_add rfl rfl ⟨by omega, by omega⟩).asi (m' := ea) (by omega)) <| pl_v (v_fieldAddr (v := .pointer (some ⟨w4.heap.size, 1, none⟩)) rfl (by kernel_rfl)) <| pl_w (fun hst => v_load_blk1 (hst.get (k := 1) rfl) rfl (Try.isAgg3 _) rfl) ?_
 clear hfr hst
 intro a w10 hfr hst
 replace hfr : Fr 235 [(3, _), (4, _), (5, _), (6, _), (14, _), (16, _), (17, _), (18, _), (56, _), (58, _)] [] a := hfr.pick [3, 4, 5, 6, 14, 16, 17, 18, 56, 58]
 refine wl_nil ?_
 refine wd_lin (k := 9) 11 [10] ?_
 refine wlv hfr ((v_add rfl rfl ⟨by omega, by omega⟩).asi (m' := ef) (by omega)) fun a hfr => wla hfr rfl fun a hfr => ?_
 refine wl_nil ?_
 refine wd_end ?_
 refine hK7 _ _ ?_
 refine wc_seq_region fun K8 hK8 => ?_
 refine wlm hfr rfl fun a hfr => ?_
 refine wlv hfr (v_fieldAddr (v := .pointer (some ⟨w4.heap.size, 1, none⟩)) rfl (by kernel_rfl)) fun a hfr => ?_
 refine wlv hfr (v_load_blk1 (hst.get (k := 1) rfl) rfl (Try.isAgg3 _) rfl) fun a hfr => ?_
 refine wlv hfr ((v_sub rfl rfl ⟨by omega, by omega⟩).asi (m' := ea) (by omega)) fun a hfr => ?_
 refine wlv hfr (v_build (v := .agg #[iv 1, iv ea, iv 0]) rfl (by kernel_rfl)) fun a hfr => ?_
 refine wl_alloc hfr hst (Try.zeroValue39 _) [iv 0, iv 0, iv 0] rfl ?_
 clear hfr hst
 intro a w11 hfr hst
 refine wl_sto 0 hfr hst [iv 1, iv ea, iv 0] rfl (Try.sizeOf39 _) ?_
 clear hfr hst
 intro a w12 hfr hst
 refine wl_nil (hK8 _ _ ?_)
 replace hfr : Fr 235 [(3, _), (4, _), (5, _), (6, _), (14, _), (16, _), (17, _), (18, _), (20, _), (21, _)] [] a := hfr.pick [3, 4, 5, 6, 14, 16, 17, 18, 20, 21]
 refine wc_seq_region fun K9 hK9 => ?_
 refine wlm hfr rfl fun a hfr => wlm hfr rfl fun a hfr => ?_
 refine wlv hfr (v_fieldAddr (v := .pointer (some ⟨w4.heap.size, 3, none⟩)) rfl (by kernel_rfl)) fun a hfr => ?_
 refine wlv hfr (v_load_blk1 (hst.get (k := 2) rfl) rfl (Try.isAgg3 _) rfl) fun a hfr => ?_
 refine wl_callp hfr hst Try.call7 rfl (pick2 hpb (pick16_ok _ _ _ (by omega) (by omega) (by omega) (by omega))) ?_
 clear hfr hst
 intro a w13 hfr hst
 refine wlv hfr ((v_add rfl rfl ⟨by omega, by omega⟩).asi (m' := tw) (by omega)) fun a hfr => wlm hfr rfl fun a hfr => ?_
 refine wl_callp hfr hst Try.call7 rfl (pick2 hpr (pick16_ok _ _ _ (by omega) (by omega) (by omega) (by omega))) ?_
 clear hfr hst
 intro a w14 hfr hst
 refine wlv hfr (v_add rfl rfl ⟨by omega, by omega⟩) fun a hfr => ?_
 refine wlv hfr (v_build (v := .agg #[iv 6, iv tw, iv (2 + pr)]) rfl (by kernel_rfl)) fun a hfr => ?_
 refine wl_alloc hfr hst (Try.zeroValue39 _) [iv 0, iv 0, iv 0] rfl ?_
 clear hfr hst
 intro a w15 hfr hst
 refine wl_sto 0 hfr hst [iv 6, iv tw, iv (2 + pr)] rfl (Try.sizeOf39 _) ?_
 clear hfr hst
 intro a w16 hfr hst
 refine wl_nil (hK9 _ _ ?_)
 replace hfr : Fr 235 [(4, _), (5, _), (6, _), (14, _), (16, _), (17, _), (18, _), (20, _), (21, _), (22, _)] [] a := hfr.pick [4, 5, 6, 14, 16, 17, 18, 20, 21, 22]
 refine wc_seq_region fun K10 hK10 => ?_
 refine wlv hfr (v_load_all (hst.get (k := 1) rfl) rfl (Try.isAgg39 _) (Try.sizeOf39 _)) fun a hfr => ?_
 refine wlv hfr (v_load_all (hst.get (k := 0) rfl) rfl (Try.isAgg39 _) (Try.sizeOf39 _)) fun a hfr => ?_
 refine wl_buildSlice (E := 39) (sz := 3) rfl [[iv 1, iv ea, iv 0], [iv 6, iv tw, iv (2 + pr)]] (by kernel_rfl) (by simp) rfl (by decide) (by decide) hfr hst ?_
 clear hfr hst
 intro a w17 hfr hst
 refine wla hfr rfl fun a hfr => ?_
 refine wl_nil (hK10 _ _ ?_)
 refine wc_seq_region fun K11 hK11 => ?_
 refine wlm hfr rfl fun a hfr => ?_
 refine wlv hfr (v_load_all (hst.get (k := 4) rfl) rfl (Try.isAgg31 _) (Try.sizeOf31 _)) fun a hfr => ?_
 refine wlv hfr (v_load_all (hst.get (k := 3) rfl) rfl (Try.isAgg33 _) (Try.sizeOf33 _)) fun a hfr => wlm hfr rfl fun a hfr => wlm hfr rfl fun a hfr => ?_
 refine wlv hfr (v_sub rfl rfl ⟨by omega, by omega⟩) fun a hfr => ?_
 refine wl_callm hfr hst Try.call8 rfl (given_ok v0 o0 rl cl (.slice (some ⟨w16.heap.size, 0, none⟩) 2 2) [⟨1, ea, 0⟩, ⟨6, tw, 2 + pr⟩] (ef - 1) cl.frm _ (hst.ownAt (i := 5) rfl) (hst.ownAt (i := 0) rfl) (mapOk_of hq0 (by omega)) (by omega) hc hvl (isIn_of (by omega) (by omega)) (with_before hst0 (by omega) (by omega) (by omega)) hkf) ?_
 clear hfr hst
 intro a w18 x4 hp hfr hst
 obtain ⟨v1, o1⟩ := x4
 have hg1 := hp
 replace hst : St No w0 [own v1 77 3 (o1.map Blo.cells), own (.slice (some ⟨w16.heap.size, 0, none⟩) 2 2) 39 3 ([[iv 1, iv ea, iv 0], [iv 6, iv tw, iv (2 + pr)]]), blk w14.heap.size [iv 6, iv tw, iv (2 + pr)] 39, blk w10.heap.size [iv 1, iv ea, iv 0] 39, blk w5.heap.size [iv cl.number, iv cl.frm, iv cl.to, iv cl.holder, iv cl.asked, .bool cl.backed] 33, blk w4.heap.size [iv rl.answer, iv rl.cooling, iv rl.settle, iv rl.reverse] 31, own v0 77 3 (o0.map Blo.cells)] w18 := hst
 refine wlm hfr rfl fun a hfr => ?_
 refine wlv hfr (v_extract rfl rfl) fun a hfr => ?_
 refine wlv hfr (v_extract rfl rfl) fun a hfr => wla hfr rfl fun a hfr => wla hfr rfl fun a hfr => ?_
 refine wl_nil (hK11 _ _ ?_)
 replace hfr : Fr 235 [(4, _), (5, _), (6, _), (14, _), (17, _), (18, _), (20, _), (21, _), (22, _), (23, _), (24, _), (25, _)] [] a := hfr.pick [4, 5, 6, 14, 17, 18, 20, 21, 22, 23, 24, 25]
 replace hst : St No w0 [_, _, _, _, _, _] w18 := hst.mask [true, true, true, true, true, true, false]
 have hn1 : o1.length ≤ o0.length + 2 := hg1.2.1
 refine wc_seq_region fun K12 hK12 => ?_
 refine wlm hfr rfl fun a hfr => ?_
 refine wlv hfr (v_load_all (hst.get (k := 5) rfl) rfl (Try.isAgg31 _) (Try.sizeOf31 _)) fun a hfr => ?_
 refine wlv hfr (v_load_all (hst.get (k := 4) rfl) rfl (Try.isAgg33 _) (Try.sizeOf33 _)) fun a hfr => wlm hfr rfl fun a hfr => ?_
 refine wlv hfr (v_fieldAddr (v := .pointer (some ⟨w14.heap.size, 1, none⟩)) rfl (by kernel_rfl)) fun a hfr => ?_
 refine wlv hfr (v_load_blk1 (hst.get (k := 2) rfl) rfl (Try.isAgg3 _) rfl) fun a hfr => ?_
 refine wl_callm hfr hst Try.call8 rfl (given_ok v1 o1 rl cl (.slice (some ⟨w16.heap.size, 0, none⟩) 2 2) [⟨1, ea, 0⟩, ⟨6, tw, 2 + pr⟩] tw cl.frm _ (hst.ownAt (i := 0) rfl) (hst.ownAt (i := 1) rfl) (mapOk_of hg1.1 (by omega)) (by omega) hc hvl (isIn_of (by omega) (by omega)) (with_after hst0 (by omega) (by omega) (by omega) (by omega)) hkf) ?_
 clear hfr hst
 intro a w19 x5 hp hfr hst
 obtain ⟨v2, o2⟩ := x5
 have hg2 := hp
 replace hst : St No w0 [own v2 77 3 (o2.map Blo.cells), own v1 77 3 (o1.map Blo.cells), own (.slice (some ⟨w16.heap.size, 0, none⟩) 2 2) 39 3 ([[iv 1, iv ea, iv 0], [iv 6, iv tw, iv (2 + pr)]]), blk w14.heap.size [iv 6, iv tw, iv (2 + pr)] 39, blk w10.heap.size [iv 1, iv ea, iv 0] 39, blk w5.heap.size [iv cl.number, iv cl.frm, iv cl.to, iv cl.holder, iv cl.asked, .bool cl.backed] 33, blk w4.heap.size [iv rl.answer, iv rl.cooling, iv rl.settle, iv rl.reverse] 31] w19 := hst
 refine wlm hfr rfl fun a hfr => ?_
 refine wlv hfr (v_extract rfl rfl) fun a hfr => ?_
 refine wlv hfr (v_extract rfl rfl) fun a hfr => wla hfr rfl fun a hfr => wla hfr rfl fun a hfr => ?_
 refine wl_nil (hK12 _ _ ?_)
 replace hfr : Fr 235 [(4, _), (5, _), (6, _), (14, _), (17, _), (18, _), (20, _), (21, _), (22, _), (23, _), (24, _), (25, _), (26, _), (27, _)] [] a := hfr.pick [4, 5, 6, 14, 17, 18, 20, 21, 22, 23, 24, 25, 26, 27]
 refine wc_seq_k fun K13 hK13 => ?_
 have he : o2 = o1 := gives_same hg1.1 hg2 (fun n h1 h2 => gives_hold hg1 (by omega) (by omega) h1 h2)
 rw [he] at hst
 clear he
 refine wc_of_dr (dr_of_wd fun w20 hxz => ?_)
 replace hst := hst.grow hxz
 refine wd_sub (k := 0) 9 [0, 1, 2, 3, 8] hfr ?_
 replace hfr : Fr 235 [(4, _), (5, _), (6, _), (14, _), (17, _), (18, _), (20, _), (21, _), (22, _), (23, _), (24, _), (25, _), (26, _), (27, _)] [] a := hfr.pick [4, 5, 6, 14, 17, 18, 20, 21, 22, 23, 24, 25, 26, 27]
 refine dr_pl 9 hfr hst <| pl_m rfl <| pl_w (fun hst => v_load_all (hst.get (k := 6) rfl) rfl (Try.isAgg31 _) (Try.sizeOf31 _)) <| pl_w (fun hst => v_load_all (hst.get (k := 5) rfl) rfl (Try.isAgg33 _) (Try.sizeOf33 _)) <| pl_m rfl <| pl_v (v_fieldAddr (v := .pointer (some ⟨w14.heap.size, 1, none⟩)) rfl (by kernel_rfl)) <| pl_w (fun hst => v_load_blk1 (hst.get (k := 3) rfl) rfl (Try.isAgg3 _) rfl) <| pl_m rfl <| pl_r (fun hst => g_callp Try.call7 rfl (pick2 hpe (pick16_ok _ _ _ (by omega) (by omega) (by omega) (by omega)))) <| pl_v ((v_add rfl rfl ⟨by omega, by omega⟩).asi (m' := te) (by omega)) ?_
 clear hfr hst
 intro a w21 hfr hst
 replace hfr : Fr 235 [(4, _), (5, _), (6, _), (14, _), (17, _), (18, _), (20, _), (21, _), (22, _), (23, _), (24, _), (25, _), (26, _), (27, _), (99, _), (100, _), (101, _), (102, _), (107, _)] [] a := hfr.pick [4, 5, 6, 14, 17, 18, 20, 21, 22, 23, 24, 25, 26, 27, 99, 100, 101, 102, 107]
 refine wl_nil ?_
 refine wd_lin (k := 9) 11 [10] ?_
 refine wl_callm hfr hst Try.call8 rfl (given_ok v2 o1 rl cl (.slice (some ⟨w16.heap.size, 0, none⟩) 2 2) [⟨1, ea, 0⟩, ⟨6, tw, 2 + pr⟩] te cl.frm _ (hst.ownAt (i := 0) rfl) (hst.ownAt (i := 2) rfl) (mapOk_of hg1.1 (by omega)) (by omega) hc hvl (isIn_of (by omega) (by omega)) (with_after hst0 (by omega) (by omega) (by omega) (by omega)) hkf) ?_
 clear hfr hst
 intro a w22 x6 hp hfr hst
 obtain ⟨v3, o3⟩ := x6
 have hg3 := hp
 replace hst : St No w0 [own v3 77 3 (o3.map Blo.cells), own v2 77 3 (o1.map Blo.cells), own v1 77 3 (o1.map Blo.cells), own (.slice (some ⟨w16.heap.size, 0, none⟩) 2 2) 39 3 ([[iv 1, iv ea, iv 0], [iv 6, iv tw, iv (2 + pr)]]), blk w14.heap.size [iv 6, iv tw, iv (2 + pr)] 39, blk w10.heap.size [iv 1, iv ea, iv 0] 39, blk w5.heap.size [iv cl.number, iv cl.frm, iv cl.to, iv cl.holder, iv cl.asked, .bool cl.backed] 33, blk w4.heap.size [iv rl.answer, iv rl.cooling, iv rl.settle, iv rl.reverse] 31] w22 := hst
 refine wlm hfr rfl fun a hfr => ?_
 refine wl_nil ?_
 refine wd_sub (k := 11) 14 [12, 13] hfr ?_
 replace hfr : Fr 235 [(4, _), (5, _), (6, _), (14, _), (17, _), (18, _), (20, _), (21, _), (22, _), (23, _), (24, _), (25, _), (26, _), (27, _), (99, _), (100, _), (101, _), (102, _), (107, _), (108, _), (98, _)] [] a := hfr.pick [4, 5, 6, 14, 17, 18, 20, 21, 22, 23, 24, 25, 26, 27, 99, 100, 101, 102, 107, 108, 98]
 refine dr_pl 3 hfr hst <| pl_v (v_extract rfl rfl) <| pl_v (v_extract rfl rfl) <| pl_v (v_assign rfl) ?_
 clear hfr hst
 intro a w23 hfr hst
 replace hfr : Fr 235 [(4, _), (5, _), (6, _), (14, _), (17, _), (18, _), (20, _), (21, _), (22, _), (23, _), (24, _), (25, _), (26, _), (27, _), (110, _), (28, _)] [] a := hfr.pick [4, 5, 6, 14, 17, 18, 20, 21, 22, 23, 24, 25, 26, 27, 110, 28]
 refine wl_nil ?_
 refine wd_lin (k := 14) 15 [14] ?_
 refine wla hfr rfl fun a hfr => ?_
 refine wl_nil ?_
 refine wd_end ?_
 refine hK13 _ _ ?_
 refine wc_seq_k fun K14 hK14 => ?_
 have he : o3 = o1 := gives_same hg1.1 hg3 (fun n h1 h2 => gives_hold hg1 (by omega) (by omega) h1 h2)
 rw [he] at hst
 clear he
 refine wc_seq_region fun K15 hK15 => ?_
 refine wlm hfr rfl fun a hfr => ?_
 refine wlv hfr ((v_not rfl).asb (b' := false) rfl) fun a hfr => wlm hfr rfl fun a hfr => wly hfr (v_move rfl) fun a hfr => wly hfr ((v_not rfl).asb (b' := false) rfl) fun a hfr => ?_
 refine wlv hfr (v_pick_f rfl rfl) fun a hfr => wlm hfr rfl fun a hfr => wly hfr (v_move rfl) fun a hfr => wly hfr ((v_not rfl).asb (b' := false) rfl) fun a hfr => ?_
 refine wlv hfr (v_pick_f rfl rfl) fun a hfr => wlm hfr rfl fun a hfr => wly hfr (v_move rfl) fun a hfr => wly hfr (v_move rfl) fun a hfr => ?_
 refine wl_callpy hfr hst Try.call9 rfl (same13_ok v2 v1 o1 _ (hst.ownAt (i := 1) rfl) (hst.ownAt (i := 2) rfl)) ?_
 clear hfr hst
 intro a w24 hfr hst
 refine wly hfr ((v_not rfl).asb (b' := false) rfl) fun a hfr => ?_
 refine wlv hfr (v_pick_f rfl rfl) fun a hfr => wlm hfr rfl fun a hfr => wly hfr (v_move rfl) fun a hfr => wly hfr (v_move rfl) fun a hfr => ?_
 refine wl_callpy hfr hst Try.call9 rfl (same13_ok v3 v1 o1 _ (hst.ownAt (i := 0) rfl) (hst.ownAt (i := 2) rfl)) ?_
 clear hfr hst
 intro a w25 hfr hst
 refine wly hfr ((v_not rfl).asb (b' := false) rfl) fun a hfr => ?_
 refine wlv hfr (v_pick_f rfl rfl) fun a hfr => ?_
 refine wl_nil (hK15 _ _ ?_)
 replace hfr : Fr 235 [(4, _), (5, _), (6, _), (14, _), (17, _), (18, _), (20, _), (21, _), (22, _), (23, _), (24, _), (132, _)] [] a := hfr.pick [4, 5, 6, 14, 17, 18, 20, 21, 22, 23, 24, 132]
 replace hst : St No w0 [_, _, _, _, _, _] w25 := hst.mask [false, false, true, true, true, true, true, true]
 refine wc_cond_f hfr rfl ?_
 refine wc_skip ?_
 refine hK14 _ _ ?_
 refine wc_seq_k fun K16 hK16 => ?_
 refine wc_seq_region fun K17 hK17 => ?_
 refine wlv hfr (v_fieldAddr (v := .pointer (some ⟨w14.heap.size, 1, none⟩)) rfl (by kernel_rfl)) fun a hfr => ?_
 refine wlv hfr (v_load_blk1 (hst.get (k := 2) rfl) rfl (Try.isAgg3 _) rfl) fun a hfr => wlm hfr rfl fun a hfr => ?_
 refine wlv hfr (v_gt rfl rfl) fun a hfr => ?_
 refine wl_nil (hK17 _ _ ?_)
 refine wc_cond_d hfr rfl (fun hc7 => ?_) (fun hc7 => ?_)
 ·refine wc_seq_region fun K18 hK18 => ?_
  refine wlm hfr rfl fun a hfr => ?_
  refine wlv hfr (v_load_all (hst.get (k := 5) rfl) rfl (Try.isAgg31 _) (Try.sizeOf31 _)) fun a hfr => ?_
  refine wlv hfr (v_load_all (hst.get (k := 4) rfl) rfl (Try.isAgg33 _) (Try.sizeOf33 _)) fun a hfr => wlm hfr rfl fun a hfr => ?_
  refine wlv hfr (v_fieldAddr (v := .pointer (some ⟨w14.heap.size, 1, none⟩)) rfl (by kernel_rfl)) fun a hfr => ?_
  refine wlv hfr (v_load_blk1 (hst.get (k := 2) rfl) rfl (Try.isAgg3 _) rfl) fun a hfr => ?_
  refine wlv hfr (v_sub rfl rfl ⟨by omega, by omega⟩) fun a hfr => ?_
  refine wl_callm hfr hst Try.call8 rfl (given_ok v1 o1 rl cl (.slice (some ⟨w16.heap.size, 0, none⟩) 2 2) [⟨1, ea, 0⟩, ⟨6, tw, 2 + pr⟩] (tw - 1) cl.to _ (hst.ownAt (i := 0) rfl) (hst.ownAt (i := 1) rfl) (mapOk_of hg1.1 (by omega)) (by omega) hc hvl (isIn_of (by omega) (by omega)) (with_now hst0 (by omega) (by omega) (by omega) (by omega)) hkt) ?_
  clear hfr hst
  intro a w26 x8 hp hfr hst
  obtain ⟨v4, o4⟩ := x8
  have hg4 := hp
  replace hst : St No w0 [own v4 77 3 (o4.map Blo.cells), own v1 77 3 (o1.map Blo.cells), own (.slice (some ⟨w16.heap.size, 0, none⟩) 2 2) 39 3 ([[iv 1, iv ea, iv 0], [iv 6, iv tw, iv (2 + pr)]]), blk w14.heap.size [iv 6, iv tw, iv (2 + pr)] 39, blk w10.heap.size [iv 1, iv ea, iv 0] 39, blk w5.heap.size [iv cl.number, iv cl.frm, iv cl.to, iv cl.holder, iv cl.asked, .bool cl.backed] 33, blk w4.heap.size [iv rl.answer, iv rl.cooling, iv rl.settle, iv rl.reverse] 31] w26 := hst
  refine wlm hfr rfl fun a hfr => ?_
  refine wlv hfr (v_extract rfl rfl) fun a hfr => ?_
  refine wlv hfr (v_extract rfl rfl) fun a hfr => wla hfr rfl fun a hfr => wla hfr rfl fun a hfr => ?_
  refine wl_nil (hK18 _ _ ?_)
  replace hfr : Fr 235 [(4, _), (5, _), (6, _), (14, _), (17, _), (18, _), (20, _), (21, _), (24, _), (30, _), (31, _)] [] a := hfr.pick [4, 5, 6, 14, 17, 18, 20, 21, 24, 30, 31]
  replace hst : St No w0 [_, _, _, _, _] w26 := hst.mask [true, true, false, false, true, true, true]
  refine wc_seq_region fun K19 hK19 => ?_
  refine wlm hfr rfl fun a hfr => wlm hfr rfl fun a hfr => ?_
  refine wl_callm hfr hst Try.call10 rfl (differ_ok v4 v1 o4 o1 _ (hst.ownAt (i := 0) rfl) (hst.ownAt (i := 1) rfl) hg4.1 hg1.1 (mapOk_of hg4.1 (by have h9 : o4.length ≤ o1.length + 2 := hg4.2.1; omega)) (mapOk_of hg1.1 (by omega))) ?_
  clear hfr hst
  intro a w27 x9 hp hfr hst
  obtain ⟨vd, px⟩ := x9
  have hpx := hp
  replace hst : St No w0 [own vd 49 2 ((outP diffX px).map Blo.rcells), own v4 77 3 (o4.map Blo.cells), own v1 77 3 (o1.map Blo.cells), blk w10.heap.size [iv 1, iv ea, iv 0] 39, blk w5.heap.size [iv cl.number, iv cl.frm, iv cl.to, iv cl.holder, iv cl.asked, .bool cl.backed] 33, blk w4.heap.size [iv rl.answer, iv rl.cooling, iv rl.settle, iv rl.reverse] 31] w27 := hst
  refine wlm hfr rfl fun a hfr => ?_
  refine wlv hfr (v_extract rfl rfl) fun a hfr => ?_
  refine wlv hfr (v_extract rfl rfl) fun a hfr => wla hfr rfl fun a hfr => wla hfr rfl fun a hfr => ?_
  refine wl_nil (hK19 _ _ ?_)
  replace hfr : Fr 235 [(4, _), (5, _), (6, _), (14, _), (17, _), (18, _), (20, _), (21, _), (31, _), (32, _), (33, _)] [] a := hfr.pick [4, 5, 6, 14, 17, 18, 20, 21, 31, 32, 33]
  replace hst : St No w0 [_, _, _, _] w27 := hst.mask [true, false, false, true, true, true]
  have hdf : outP diffX px = [(⟨cl.number, cl.number + 1, 0⟩ : Blo)] := diff_one hpx (by omega) (by omega) hg4 (by rw [gives_hold hg1 (by omega) (by omega) (Int.le_refl _) (by omega)]; omega)
  rw [hdf] at hst
  clear hdf
  refine wc_seq_region fun K20 hK20 => ?_
  refine wlm hfr rfl fun a hfr => ?_
  refine wlv hfr ((v_not rfl).asb (b' := false) rfl) fun a hfr => wlm hfr rfl fun a hfr => wly hfr (v_move rfl) fun a hfr => wly hfr ((v_ne rfl rfl).asb (b' := false) rfl) fun a hfr => ?_
  refine wlv hfr (v_pick_f rfl rfl) fun a hfr => wlm hfr rfl fun a hfr => wly hfr (v_move rfl) fun a hfr => wly hfr (v_fieldAddr (v := .pointer (some ⟨w5.heap.size, 0, none⟩)) rfl (by kernel_rfl)) fun a hfr => wly hfr (v_load_blk1 (hst.get (k := 2) rfl) rfl (Try.isAgg3 _) rfl) fun a hfr => wly hfr (v_fieldAddr (v := .pointer (some ⟨w5.heap.size, 0, none⟩)) rfl (by kernel_rfl)) fun a hfr => wly hfr (v_load_blk1 (hst.get (k := 2) rfl) rfl (Try.isAgg3 _) rfl) fun a hfr => wly hfr (v_add rfl rfl ⟨by omega, by omega⟩) fun a hfr => wly hfr (v_build (v := .agg #[iv cl.number, iv (cl.number + 1)]) rfl (by kernel_rfl)) fun a hfr => ?_
  refine wl_open hfr ?_
  refine wl_buildSlice (E := 49) (sz := 2) rfl [[iv cl.number, iv (cl.number + 1)]] (by kernel_rfl) (by simp) rfl (by decide) (by decide) hfr hst ?_
  clear hfr hst
  intro a w28 hfr hst
  refine wl_callpy hfr hst Try.call11 rfl (samer_ok vd (.slice (some ⟨w27.heap.size, 0, none⟩) 1 1) [(⟨cl.number, cl.number + 1, 0⟩ : Blo)] _ (hst.ownAt (i := 1) rfl) (hst.ownAt (i := 0) rfl)) ?_
  clear hfr hst
  intro a w29 hfr hst
  refine wly hfr ((v_not rfl).asb (b' := false) rfl) fun a hfr => ?_
  refine wlv hfr (v_pick_f rfl rfl) fun a hfr => ?_
  refine wl_nil (hK20 _ _ ?_)
  replace hfr : Fr 235 [(4, _), (5, _), (6, _), (14, _), (17, _), (18, _), (20, _), (21, _), (171, _)] [] a := hfr.pick [4, 5, 6, 14, 17, 18, 20, 21, 171]
  replace hst : St No w0 [_, _, _] w29 := hst.mask [false, false, true, true, true]
  refine wc_cond_f hfr rfl ?_
  refine wc_skip ?_
  refine hK16 _ _ ?_
  refine wc_seq_k fun K21 hK21 => ?_
  refine wc_of_dr (dr_of_wd fun w30 hxz => ?_)
  replace hst := hst.grow hxz
  refine wd_sub (k := 0) 12 [10, 11] hfr ?_
  replace hfr : Fr 235 [(4, _), (5, _), (6, _), (14, _), (17, _), (18, _), (20, _), (21, _), (171, _)] [] a := hfr.pick [4, 5, 6, 14, 17, 18, 20, 21, 171]
  refine wc_phases_q [11] (fun i => match i with | 11 => pm (fun b : Nat => .pointer (some ⟨b, 0, none⟩)) (fun b => [blk b [iv 0, iv 0, iv 0] 39]) (fun _ => True) | _ => fun _ _ => False) 12 [[], [0], [1], [], [], [4], [3, 5], [], [7], [6, 8], [2, 9], []] [iv kind, iv pq, iv (1 + pq), iv ef, .pointer (some ⟨w4.heap.size, 3, none⟩), iv rl.reverse, iv (ef + rl.reverse), iv later, iv pl, iv la, .agg #[iv (1 + pq), iv la, iv 0], undef] hfr hst ?_ ?_ ?_
  ·intro i hi hiq
   match i, hi, hiq with
   | 0, _, _ =>
    intro w hst
    exact OpV.g (v_move rfl)
   | 1, _, _ =>
    intro w hst
    exact g_callp Try.call7 rfl (pick2 hpq (pick16_ok _ _ _ (by omega) (by omega) (by omega) (by omega)))
   | 2, _, _ =>
    intro w hst
    exact OpV.g (v_add rfl rfl ⟨by omega, by omega⟩)
   | 3, _, _ =>
    intro w hst
    exact OpV.g (v_move rfl)
   | 4, _, _ =>
    intro w hst
    exact OpV.g (v_fieldAddr (v := .pointer (some ⟨w4.heap.size, 3, none⟩)) rfl (by kernel_rfl))
   | 5, _, _ =>
    intro w hst
    exact OpV.g (v_load_blk1 (hst.get (k := 2) rfl) rfl (Try.isAgg3 _) rfl)
   | 6, _, _ =>
    intro w hst
    exact OpV.g (v_add rfl rfl ⟨by omega, by omega⟩)
   | 7, _, _ =>
    intro w hst
    exact OpV.g (v_move rfl)
   | 8, _, _ =>
    intro w hst
    exact g_callp Try.call7 rfl (pick2 hpl (pick16_ok _ _ _ (by omega) (by omega) (by omega) (by omega)))
   | 9, _, _ =>
    intro w hst
    exact OpV.g ((v_add rfl rfl ⟨by omega, by omega⟩).asi (m' := la) (by omega))
   | 10, _, _ =>
    intro w hst
    exact OpV.g (v_build (v := .agg #[iv (1 + pq), iv la, iv 0]) rfl (by kernel_rfl))
   | 11, _, h => exact absurd (by simp) h
   | i + 12, h, _ => exact absurd h (by omega)
  ·intro i hi
   simp only [List.mem_cons, List.not_mem_nil, or_false] at hi
   subst hi
   ·intro w hst
    exact g_alloc (Try.zeroValue39 _) (cs := [iv 0, iv 0, iv 0]) rfl
  clear hfr hst
  rintro _ _ ⟨b10, rfl, -, rfl⟩ a w31 hfr hst
  replace hfr : Fr 235 [(182, .agg #[iv (1 + pq), iv la, iv 0]), (34, _), (4, _), (14, _), (17, _), (18, _), (20, _), (21, _)] [] a := hfr.pick [182, 34, 4, 14, 17, 18, 20, 21]
  replace hst : St No w0 [_, _, _, _] w31 := hst
  refine wl_nil ?_
  refine wd_lin (k := 12) 13 [12] ?_
  refine wl_sto 0 hfr hst [iv (1 + pq), iv la, iv 0] rfl (Try.sizeOf39 _) ?_
  clear hfr hst
  intro a w32 hfr hst
  refine wl_nil ?_
  refine wd_end ?_
  refine hK21 _ _ ?_
  replace hfr : Fr 235 [(4, _), (14, _), (17, _), (18, _), (20, _), (21, _), (34, _)] [] a := hfr.pick [4, 14, 17, 18, 20, 21, 34]
  refine wc_seq_k fun K22 hK22 => ?_
  refine wc_seq_region fun K23 hK23 => ?_
  refine wlv hfr (v_fieldAddr (v := .pointer (some ⟨b10, 0, none⟩)) rfl (by kernel_rfl)) fun a hfr => ?_
  refine wlv hfr (v_load_blk1 (hst.get (k := 0) rfl) rfl (Try.isAgg3 _) rfl) fun a hfr => ?_
  refine wlv hfr (v_eq rfl rfl) fun a hfr => wlm hfr rfl fun a hfr => ?_
  rcases Decidable.em (1 + pq = 2) with hb11 | hb11
  ·rw [decide_eq_true hb11] at hfr
   refine wln hfr fun a hfr => ?_
   refine wln hfr fun a hfr => ?_
   refine wln hfr fun a hfr => ?_
   refine wlv hfr (v_pick_t rfl rfl) fun a hfr => ?_
   refine wl_nil (hK23 _ _ ?_)
   replace hfr : Fr 235 [(4, _), (14, _), (17, _), (18, _), (20, _), (21, _), (34, _), (190, _)] [] a := hfr.pick [4, 14, 17, 18, 20, 21, 34, 190]
   refine wc_cond_t hfr rfl ?_
   refine wc_region ?_
   refine wlm hfr rfl fun a hfr => ?_
   refine wl_callp hfr hst Try.call7 rfl (pick2 hps (pick16_ok _ _ _ (by omega) (by omega) (by omega) (by omega))) ?_
   clear hfr hst
   intro a w33 hfr hst
   refine wlv hfr (v_add rfl rfl ⟨by omega, by omega⟩) fun a hfr => ?_
   refine wlv hfr (v_fieldAddr (v := .pointer (some ⟨b10, 2, none⟩)) rfl (by kernel_rfl)) fun a hfr => ?_
   refine wl_sto 0 hfr hst [iv (1 + pq), iv la, iv (1 + ps)] rfl (Try.sizeOf3 _) ?_
   clear hfr hst
   intro a w34 hfr hst
   refine wl_nil ?_
   refine hK22 _ _ ?_
   replace hfr : Fr 235 [(14, _), (17, _), (18, _), (20, _), (21, _), (34, _)] [] a := hfr.pick [14, 17, 18, 20, 21, 34]
   refine wc_seq_region fun K24 hK24 => ?_
   refine wlv hfr (v_load_all (hst.get (k := 3) rfl) rfl (Try.isAgg31 _) (Try.sizeOf31 _)) fun a hfr => ?_
   refine wlv hfr (v_load_all (hst.get (k := 2) rfl) rfl (Try.isAgg33 _) (Try.sizeOf33 _)) fun a hfr => ?_
   refine wlv hfr (v_load_all (hst.get (k := 1) rfl) rfl (Try.isAgg39 _) (Try.sizeOf39 _)) fun a hfr => ?_
   refine wlv hfr (v_load_all (hst.get (k := 0) rfl) rfl (Try.isAgg39 _) (Try.sizeOf39 _)) fun a hfr => ?_
   refine wl_buildSlice (E := 39) (sz := 3) rfl [[iv 1, iv ea, iv 0], [iv (1 + pq), iv la, iv (1 + ps)]] (by kernel_rfl) (by simp) rfl (by decide) (by decide) hfr hst ?_
   clear hfr hst
   intro a w35 hfr hst
   refine wl_callm hfr hst Try.call12 rfl (void4 (late_voids hr hc (by omega) (by omega) (by omega) (by omega)) (void_ok rl cl (.slice (some ⟨w34.heap.size, 0, none⟩) 2 2) [⟨1, ea, 0⟩, ⟨1 + pq, la, 1 + ps⟩] _ (hst.ownAt (i := 0) rfl) (valid_late hr hc (by omega) (by omega) (by omega) (by omega) (by omega)))) ?_
   clear hfr hst
   intro a w36 x12 hp hfr hst
   revert x12 hp hfr hst; rintro vo hp hfr hst
   clear hp
   replace hst : St No w0 [own vo 3 1 ([(1 : Int)].map fun i => [iv i]), own (.slice (some ⟨w34.heap.size, 0, none⟩) 2 2) 39 3 ([[iv 1, iv ea, iv 0], [iv (1 + pq), iv la, iv (1 + ps)]]), blk b10 [iv (1 + pq), iv la, iv (1 + ps)] 39, blk w10.heap.size [iv 1, iv ea, iv 0] 39, blk w5.heap.size [iv cl.number, iv cl.frm, iv cl.to, iv cl.holder, iv cl.asked, .bool cl.backed] 33, blk w4.heap.size [iv rl.answer, iv rl.cooling, iv rl.settle, iv rl.reverse] 31] w36 := hst
   refine wlm hfr rfl fun a hfr => ?_
   refine wlv hfr (v_extract rfl rfl) fun a hfr => ?_
   refine wlv hfr (v_extract rfl rfl) fun a hfr => wla hfr rfl fun a hfr => wla hfr rfl fun a hfr => ?_
   refine wl_nil (hK24 _ _ ?_)
   replace hfr : Fr 235 [(14, _), (17, _), (18, _), (20, _), (21, _), (34, _), (35, _), (36, _)] [] a := hfr.pick [14, 17, 18, 20, 21, 34, 35, 36]
   replace hst : St No w0 [_, _, _, _, _] w36 := hst.mask [true, false, true, true, true, true]
   refine wc_seq_region fun K25 hK25 => ?_
   refine wlv hfr (v_load_all (hst.get (k := 4) rfl) rfl (Try.isAgg31 _) (Try.sizeOf31 _)) fun a hfr => ?_
   refine wlv hfr (v_load_all (hst.get (k := 3) rfl) rfl (Try.isAgg33 _) (Try.sizeOf33 _)) fun a hfr => ?_
   refine wlv hfr (v_load_all (hst.get (k := 2) rfl) rfl (Try.isAgg39 _) (Try.sizeOf39 _)) fun a hfr => ?_
   refine wlv hfr (v_load_all (hst.get (k := 1) rfl) rfl (Try.isAgg39 _) (Try.sizeOf39 _)) fun a hfr => ?_
   refine wl_buildSlice (E := 39) (sz := 3) rfl [[iv 1, iv ea, iv 0], [iv (1 + pq), iv la, iv (1 + ps)]] (by kernel_rfl) (by simp) rfl (by decide) (by decide) hfr hst ?_
   clear hfr hst
   intro a w37 hfr hst
   refine wlv hfr (v_fieldAddr (v := .pointer (some ⟨b10, 1, none⟩)) rfl (by kernel_rfl)) fun a hfr => ?_
   refine wlv hfr (v_load_blk1 (hst.get (k := 2) rfl) rfl (Try.isAgg3 _) rfl) fun a hfr => ?_
   refine wl_callp hfr hst Try.call13 rfl (outcome2 (s := ⟨5, ef + rl.reverse, -1⟩) (late_out hr hc (by omega) (by omega) (by omega) (by omega) (by omega)) (outcome_ok rl cl (.slice (some ⟨w36.heap.size, 0, none⟩) 2 2) [⟨1, ea, 0⟩, ⟨1 + pq, la, 1 + ps⟩] la _ (hst.ownAt (i := 0) rfl) (valid_late hr hc (by omega) (by omega) (by omega) (by omega) (by omega)) (isIn_of (by omega) (by omega)))) ?_
   clear hfr hst
   intro a w38 hfr hst
   refine wlm hfr rfl fun a hfr => ?_
   refine wlv hfr (v_extract rfl rfl) fun a hfr => ?_
   refine wlv hfr (v_extract rfl rfl) fun a hfr => ?_
   refine wl_alloc hfr hst (Try.zeroValue54 _) [iv 0, iv 0, iv 0] rfl ?_
   clear hfr hst
   intro a w39 hfr hst
   refine wl_sto 0 hfr hst [iv 5, iv (ef + rl.reverse), iv (-1)] rfl (Try.sizeOf54 _) ?_
   clear hfr hst
   intro a w40 hfr hst
   refine wla hfr rfl fun a hfr => ?_
   refine wl_nil (hK25 _ _ ?_)
   replace hfr : Fr 235 [(14, _), (17, _), (20, _), (35, _), (36, _), (37, _), (38, _)] [] a := hfr.pick [14, 17, 20, 35, 36, 37, 38]
   replace hst : St No w0 [_, _, _] w40 := hst.mask [true, false, true, false, false, false, true]
   refine wc_seq_region fun K26 hK26 => ?_
   refine wlm hfr rfl fun a hfr => ?_
   refine wlv hfr ((v_eq rfl rfl).asb (b' := true) rfl) fun a hfr => wlm hfr rfl fun a hfr => wly hfr (v_move rfl) fun a hfr => wly hfr ((v_eq rfl rfl).asb (b' := true) rfl) fun a hfr => ?_
   refine wlv hfr (v_pick_t rfl rfl) fun a hfr => wlm hfr rfl fun a hfr => wly hfr (v_move rfl) fun a hfr => ?_
   refine wl_open hfr ?_
   refine wl_buildSlice (E := 3) (sz := 1) rfl [[iv 1]] (by kernel_rfl) (by simp) rfl (by decide) (by decide) hfr hst ?_
   clear hfr hst
   intro a w41 hfr hst
   refine wl_callpy hfr hst Try.call14 rfl (ret_lit (y := .bool true) (ints_ok [1] [1] vo (.slice (some ⟨w40.heap.size, 0, none⟩) 1 1) _ (hst.ownAt (i := 2) rfl) (hst.ownAt (i := 0) rfl)) (by simp)) ?_
   clear hfr hst
   intro a w42 hfr hst
   refine wlv hfr (v_pick_t rfl rfl) fun a hfr => wlm hfr rfl fun a hfr => wly hfr (v_load_all (hst.get (k := 1) rfl) rfl (Try.isAgg54 _) (Try.sizeOf54 _)) fun a hfr => wly hfr (v_move rfl) fun a hfr => wly hfr (v_fieldAddr (v := .pointer (some ⟨w4.heap.size, 3, none⟩)) rfl (by kernel_rfl)) fun a hfr => wly hfr (v_load_blk1 (hst.get (k := 3) rfl) rfl (Try.isAgg3 _) rfl) fun a hfr => wly hfr (v_add rfl rfl ⟨by omega, by omega⟩) fun a hfr => wly hfr (v_build (v := .agg #[iv 5, iv (ef + rl.reverse), iv (-1)]) rfl (by kernel_rfl)) fun a hfr => wly hfr ((v_eq_agg rfl rfl (by kernel_rfl) (eqStt 5 (ef + rl.reverse) (-1) 5 (ef + rl.reverse) (-1) _)).asb (b' := true) (by simp)) fun a hfr => ?_
   refine wlv hfr (v_pick_t rfl rfl) fun a hfr => wla hfr rfl fun a hfr => ?_
   refine wl_nil (hK26 _ _ ?_)
   replace hfr : Fr 235 [(14, _)] [] a := hfr.pick [14]
   replace hst : St No w0 [] w42 := hst.mask [false, false, false, false]
   refine wc_ret ?_
   refine fin_ret hfr Try.results3 (resAre_tmp rfl resAre_nil) ?_
   exact ⟨by simp [retv], hst.ext⟩
  rw [decide_eq_false hb11] at hfr
  refine wly hfr (v_fieldAddr (v := .pointer (some ⟨b10, 0, none⟩)) rfl (by kernel_rfl)) fun a hfr => wly hfr (v_load_blk1 (hst.get (k := 0) rfl) rfl (Try.isAgg3 _) rfl) fun a hfr => wly hfr (v_eq rfl rfl) fun a hfr => ?_
  refine wlv hfr (v_pick_f rfl rfl) fun a hfr => ?_
  refine wl_nil (hK23 _ _ ?_)
  replace hfr : Fr 235 [(4, _), (14, _), (17, _), (18, _), (20, _), (21, _), (34, _), (190, _)] [] a := hfr.pick [4, 14, 17, 18, 20, 21, 34, 190]
  refine wc_cond_d hfr rfl (fun hc13 => ?_) (fun hc13 => ?_)
  ·refine wc_region ?_
   refine wlm hfr rfl fun a hfr => ?_
   refine wl_callp hfr hst Try.call7 rfl (pick2 hps (pick16_ok _ _ _ (by omega) (by omega) (by omega) (by omega))) ?_
   clear hfr hst
   intro a w43 hfr hst
   refine wlv hfr (v_add rfl rfl ⟨by omega, by omega⟩) fun a hfr => ?_
   refine wlv hfr (v_fieldAddr (v := .pointer (some ⟨b10, 2, none⟩)) rfl (by kernel_rfl)) fun a hfr => ?_
   refine wl_sto 0 hfr hst [iv (1 + pq), iv la, iv (1 + ps)] rfl (Try.sizeOf3 _) ?_
   clear hfr hst
   intro a w44 hfr hst
   refine wl_nil ?_
   refine hK22 _ _ ?_
   replace hfr : Fr 235 [(14, _), (17, _), (18, _), (20, _), (21, _), (34, _)] [] a := hfr.pick [14, 17, 18, 20, 21, 34]
   refine wc_seq_region fun K27 hK27 => ?_
   refine wlv hfr (v_load_all (hst.get (k := 3) rfl) rfl (Try.isAgg31 _) (Try.sizeOf31 _)) fun a hfr => ?_
   refine wlv hfr (v_load_all (hst.get (k := 2) rfl) rfl (Try.isAgg33 _) (Try.sizeOf33 _)) fun a hfr => ?_
   refine wlv hfr (v_load_all (hst.get (k := 1) rfl) rfl (Try.isAgg39 _) (Try.sizeOf39 _)) fun a hfr => ?_
   refine wlv hfr (v_load_all (hst.get (k := 0) rfl) rfl (Try.isAgg39 _) (Try.sizeOf39 _)) fun a hfr => ?_
   refine wl_buildSlice (E := 39) (sz := 3) rfl [[iv 1, iv ea, iv 0], [iv (1 + pq), iv la, iv (1 + ps)]] (by kernel_rfl) (by simp) rfl (by decide) (by decide) hfr hst ?_
   clear hfr hst
   intro a w45 hfr hst
   refine wl_callm hfr hst Try.call12 rfl (void4 (late_voids hr hc (by omega) (by omega) (by omega) (by omega)) (void_ok rl cl (.slice (some ⟨w44.heap.size, 0, none⟩) 2 2) [⟨1, ea, 0⟩, ⟨1 + pq, la, 1 + ps⟩] _ (hst.ownAt (i := 0) rfl) (valid_late hr hc (by omega) (by omega) (by omega) (by omega) (by omega)))) ?_
   clear hfr hst
   intro a w46 x14 hp hfr hst
   revert x14 hp hfr hst; rintro vo hp hfr hst
   clear hp
   replace hst : St No w0 [own vo 3 1 ([(1 : Int)].map fun i => [iv i]), own (.slice (some ⟨w44.heap.size, 0, none⟩) 2 2) 39 3 ([[iv 1, iv ea, iv 0], [iv (1 + pq), iv la, iv (1 + ps)]]), blk b10 [iv (1 + pq), iv la, iv (1 + ps)] 39, blk w10.heap.size [iv 1, iv ea, iv 0] 39, blk w5.heap.size [iv cl.number, iv cl.frm, iv cl.to, iv cl.holder, iv cl.asked, .bool cl.backed] 33, blk w4.heap.size [iv rl.answer, iv rl.cooling, iv rl.settle, iv rl.reverse] 31] w46 := hst
   refine wlm hfr rfl fun a hfr => ?_
   refine wlv hfr (v_extract rfl rfl) fun a hfr => ?_
   refine wlv hfr (v_extract rfl rfl) fun a hfr => wla hfr rfl fun a hfr => wla hfr rfl fun a hfr => ?_
   refine wl_nil (hK27 _ _ ?_)
   replace hfr : Fr 235 [(14, _), (17, _), (18, _), (20, _), (21, _), (34, _), (35, _), (36, _)] [] a := hfr.pick [14, 17, 18, 20, 21, 34, 35, 36]
   replace hst : St No w0 [_, _, _, _, _] w46 := hst.mask [true, false, true, true, true, true]
   refine wc_seq_region fun K28 hK28 => ?_
   refine wlv hfr (v_load_all (hst.get (k := 4) rfl) rfl (Try.isAgg31 _) (Try.sizeOf31 _)) fun a hfr => ?_
   refine wlv hfr (v_load_all (hst.get (k := 3) rfl) rfl (Try.isAgg33 _) (Try.sizeOf33 _)) fun a hfr => ?_
   refine wlv hfr (v_load_all (hst.get (k := 2) rfl) rfl (Try.isAgg39 _) (Try.sizeOf39 _)) fun a hfr => ?_
   refine wlv hfr (v_load_all (hst.get (k := 1) rfl) rfl (Try.isAgg39 _) (Try.sizeOf39 _)) fun a hfr => ?_
   refine wl_buildSlice (E := 39) (sz := 3) rfl [[iv 1, iv ea, iv 0], [iv (1 + pq), iv la, iv (1 + ps)]] (by kernel_rfl) (by simp) rfl (by decide) (by decide) hfr hst ?_
   clear hfr hst
   intro a w47 hfr hst
   refine wlv hfr (v_fieldAddr (v := .pointer (some ⟨b10, 1, none⟩)) rfl (by kernel_rfl)) fun a hfr => ?_
   refine wlv hfr (v_load_blk1 (hst.get (k := 2) rfl) rfl (Try.isAgg3 _) rfl) fun a hfr => ?_
   refine wl_callp hfr hst Try.call13 rfl (outcome2 (s := ⟨5, ef + rl.reverse, -1⟩) (late_out hr hc (by omega) (by omega) (by omega) (by omega) (by omega)) (outcome_ok rl cl (.slice (some ⟨w46.heap.size, 0, none⟩) 2 2) [⟨1, ea, 0⟩, ⟨1 + pq, la, 1 + ps⟩] la _ (hst.ownAt (i := 0) rfl) (valid_late hr hc (by omega) (by omega) (by omega) (by omega) (by omega)) (isIn_of (by omega) (by omega)))) ?_
   clear hfr hst
   intro a w48 hfr hst
   refine wlm hfr rfl fun a hfr => ?_
   refine wlv hfr (v_extract rfl rfl) fun a hfr => ?_
   refine wlv hfr (v_extract rfl rfl) fun a hfr => ?_
   refine wl_alloc hfr hst (Try.zeroValue54 _) [iv 0, iv 0, iv 0] rfl ?_
   clear hfr hst
   intro a w49 hfr hst
   refine wl_sto 0 hfr hst [iv 5, iv (ef + rl.reverse), iv (-1)] rfl (Try.sizeOf54 _) ?_
   clear hfr hst
   intro a w50 hfr hst
   refine wla hfr rfl fun a hfr => ?_
   refine wl_nil (hK28 _ _ ?_)
   replace hfr : Fr 235 [(14, _), (17, _), (20, _), (35, _), (36, _), (37, _), (38, _)] [] a := hfr.pick [14, 17, 20, 35, 36, 37, 38]
   replace hst : St No w0 [_, _, _] w50 := hst.mask [true, false, true, false, false, false, true]
   refine wc_seq_region fun K29 hK29 => ?_
   refine wlm hfr rfl fun a hfr => ?_
   refine wlv hfr ((v_eq rfl rfl).asb (b' := true) rfl) fun a hfr => wlm hfr rfl fun a hfr => wly hfr (v_move rfl) fun a hfr => wly hfr ((v_eq rfl rfl).asb (b' := true) rfl) fun a hfr => ?_
   refine wlv hfr (v_pick_t rfl rfl) fun a hfr => wlm hfr rfl fun a hfr => wly hfr (v_move rfl) fun a hfr => ?_
   refine wl_open hfr ?_
   refine wl_buildSlice (E := 3) (sz := 1) rfl [[iv 1]] (by kernel_rfl) (by simp) rfl (by decide) (by decide) hfr hst ?_
   clear hfr hst
   intro a w51 hfr hst
   refine wl_callpy hfr hst Try.call14 rfl (ret_lit (y := .bool true) (ints_ok [1] [1] vo (.slice (some ⟨w50.heap.size, 0, none⟩) 1 1) _ (hst.ownAt (i := 2) rfl) (hst.ownAt (i := 0) rfl)) (by simp)) ?_
   clear hfr hst
   intro a w52 hfr hst
   refine wlv hfr (v_pick_t rfl rfl) fun a hfr => wlm hfr rfl fun a hfr => wly hfr (v_load_all (hst.get (k := 1) rfl) rfl (Try.isAgg54 _) (Try.sizeOf54 _)) fun a hfr => wly hfr (v_move rfl) fun a hfr => wly hfr (v_fieldAddr (v := .pointer (some ⟨w4.heap.size, 3, none⟩)) rfl (by kernel_rfl)) fun a hfr => wly hfr (v_load_blk1 (hst.get (k := 3) rfl) rfl (Try.isAgg3 _) rfl) fun a hfr => wly hfr (v_add rfl rfl ⟨by omega, by omega⟩) fun a hfr => wly hfr (v_build (v := .agg #[iv 5, iv (ef + rl.reverse), iv (-1)]) rfl (by kernel_rfl)) fun a hfr => wly hfr ((v_eq_agg rfl rfl (by kernel_rfl) (eqStt 5 (ef + rl.reverse) (-1) 5 (ef + rl.reverse) (-1) _)).asb (b' := true) (by simp)) fun a hfr => ?_
   refine wlv hfr (v_pick_t rfl rfl) fun a hfr => wla hfr rfl fun a hfr => ?_
   refine wl_nil (hK29 _ _ ?_)
   replace hfr : Fr 235 [(14, _)] [] a := hfr.pick [14]
   replace hst : St No w0 [] w52 := hst.mask [false, false, false, false]
   refine wc_ret ?_
   refine fin_ret hfr Try.results3 (resAre_tmp rfl resAre_nil) ?_
   exact ⟨by simp [retv], hst.ext⟩
  refine wc_skip ?_
  refine hK22 _ _ ?_
  refine wc_seq_region fun K30 hK30 => ?_
  refine wlv hfr (v_load_all (hst.get (k := 3) rfl) rfl (Try.isAgg31 _) (Try.sizeOf31 _)) fun a hfr => ?_
  refine wlv hfr (v_load_all (hst.get (k := 2) rfl) rfl (Try.isAgg33 _) (Try.sizeOf33 _)) fun a hfr => ?_
  refine wlv hfr (v_load_all (hst.get (k := 1) rfl) rfl (Try.isAgg39 _) (Try.sizeOf39 _)) fun a hfr => ?_
  refine wlv hfr (v_load_all (hst.get (k := 0) rfl) rfl (Try.isAgg39 _) (Try.sizeOf39 _)) fun a hfr => ?_
  refine wl_buildSlice (E := 39) (sz := 3) rfl [[iv 1, iv ea, iv 0], [iv (1 + pq), iv la, iv 0]] (by kernel_rfl) (by simp) rfl (by decide) (by decide) hfr hst ?_
  clear hfr hst
  intro a w53 hfr hst
  refine wl_callm hfr hst Try.call12 rfl (void4 (late_voids hr hc (by omega) (by omega) (by omega) (by omega)) (void_ok rl cl (.slice (some ⟨w32.heap.size, 0, none⟩) 2 2) [⟨1, ea, 0⟩, ⟨1 + pq, la, 0⟩] _ (hst.ownAt (i := 0) rfl) (valid_late hr hc (by omega) (by omega) (by omega) (by omega) (by omega)))) ?_
  clear hfr hst
  intro a w54 x15 hp hfr hst
  revert x15 hp hfr hst; rintro vo hp hfr hst
  clear hp
  replace hst : St No w0 [own vo 3 1 ([(1 : Int)].map fun i => [iv i]), own (.slice (some ⟨w32.heap.size, 0, none⟩) 2 2) 39 3 ([[iv 1, iv ea, iv 0], [iv (1 + pq), iv la, iv 0]]), blk b10 [iv (1 + pq), iv la, iv 0] 39, blk w10.heap.size [iv 1, iv ea, iv 0] 39, blk w5.heap.size [iv cl.number, iv cl.frm, iv cl.to, iv cl.holder, iv cl.asked, .bool cl.backed] 33, blk w4.heap.size [iv rl.answer, iv rl.cooling, iv rl.settle, iv rl.reverse] 31] w54 := hst
  refine wlm hfr rfl fun a hfr => ?_
  refine wlv hfr (v_extract rfl rfl) fun a hfr => ?_
  refine wlv hfr (v_extract rfl rfl) fun a hfr => wla hfr rfl fun a hfr => wla hfr rfl fun a hfr => ?_
  refine wl_nil (hK30 _ _ ?_)
  replace hfr : Fr 235 [(14, _), (17, _), (18, _), (20, _), (21, _), (34, _), (35, _), (36, _)] [] a := hfr.pick [14, 17, 18, 20, 21, 34, 35, 36]
  replace hst : St No w0 [_, _, _, _, _] w54 := hst.mask [true, false, true, true, true, true]
  refine wc_seq_region fun K31 hK31 => ?_
  refine wlv hfr (v_load_all (hst.get (k := 4) rfl) rfl (Try.isAgg31 _) (Try.sizeOf31 _)) fun a hfr => ?_
  refine wlv hfr (v_load_all (hst.get (k := 3) rfl) rfl (Try.isAgg33 _) (Try.sizeOf33 _)) fun a hfr => ?_
  refine wlv hfr (v_load_all (hst.get (k := 2) rfl) rfl (Try.isAgg39 _) (Try.sizeOf39 _)) fun a hfr => ?_
  refine wlv hfr (v_load_all (hst.get (k := 1) rfl) rfl (Try.isAgg39 _) (Try.sizeOf39 _)) fun a hfr => ?_
  refine wl_buildSlice (E := 39) (sz := 3) rfl [[iv 1, iv ea, iv 0], [iv (1 + pq), iv la, iv 0]] (by kernel_rfl) (by simp) rfl (by decide) (by decide) hfr hst ?_
  clear hfr hst
  intro a w55 hfr hst
  refine wlv hfr (v_fieldAddr (v := .pointer (some ⟨b10, 1, none⟩)) rfl (by kernel_rfl)) fun a hfr => ?_
  refine wlv hfr (v_load_blk1 (hst.get (k := 2) rfl) rfl (Try.isAgg3 _) rfl) fun a hfr => ?_
  refine wl_callp hfr hst Try.call13 rfl (outcome2 (s := ⟨5, ef + rl.reverse, -1⟩) (late_out hr hc (by omega) (by omega) (by omega) (by omega) (by omega)) (outcome_ok rl cl (.slice (some ⟨w54.heap.size, 0, none⟩) 2 2) [⟨1, ea, 0⟩, ⟨1 + pq, la, 0⟩] la _ (hst.ownAt (i := 0) rfl) (valid_late hr hc (by omega) (by omega) (by omega) (by omega) (by omega)) (isIn_of (by omega) (by omega)))) ?_
  clear hfr hst
  intro a w56 hfr hst
  refine wlm hfr rfl fun a hfr => ?_
  refine wlv hfr (v_extract rfl rfl) fun a hfr => ?_
  refine wlv hfr (v_extract rfl rfl) fun a hfr => ?_
  refine wl_alloc hfr hst (Try.zeroValue54 _) [iv 0, iv 0, iv 0] rfl ?_
  clear hfr hst
  intro a w57 hfr hst
  refine wl_sto 0 hfr hst [iv 5, iv (ef + rl.reverse), iv (-1)] rfl (Try.sizeOf54 _) ?_
  clear hfr hst
  intro a w58 hfr hst
  refine wla hfr rfl fun a hfr => ?_
  refine wl_nil (hK31 _ _ ?_)
  replace hfr : Fr 235 [(14, _), (17, _), (20, _), (35, _), (36, _), (37, _), (38, _)] [] a := hfr.pick [14, 17, 20, 35, 36, 37, 38]
  replace hst : St No w0 [_, _, _] w58 := hst.mask [true, false, true, false, false, false, true]
  refine wc_seq_region fun K32 hK32 => ?_
  refine wlm hfr rfl fun a hfr => ?_
  refine wlv hfr ((v_eq rfl rfl).asb (b' := true) rfl) fun a hfr => wlm hfr rfl fun a hfr => wly hfr (v_move rfl) fun a hfr => wly hfr ((v_eq rfl rfl).asb (b' := true) rfl) fun a hfr => ?_
  refine wlv hfr (v_pick_t rfl rfl) fun a hfr => wlm hfr rfl fun a hfr => wly hfr (v_move rfl) fun a hfr => ?_
  refine wl_open hfr ?_
  refine wl_buildSlice (E := 3) (sz := 1) rfl [[iv 1]] (by kernel_rfl) (by simp) rfl (by decide) (by decide) hfr hst ?_
  clear hfr hst
  intro a w59 hfr hst
  refine wl_callpy hfr hst Try.call14 rfl (ret_lit (y := .bool true) (ints_ok [1] [1] vo (.slice (some ⟨w58.heap.size, 0, none⟩) 1 1) _ (hst.ownAt (i := 2) rfl) (hst.ownAt (i := 0) rfl)) (by simp)) ?_
  clear hfr hst
  intro a w60 hfr hst
  refine wlv hfr (v_pick_t rfl rfl) fun a hfr => wlm hfr rfl fun a hfr => wly hfr (v_load_all (hst.get (k := 1) rfl) rfl (Try.isAgg54 _) (Try.sizeOf54 _)) fun a hfr => wly hfr (v_move rfl) fun a hfr => wly hfr (v_fieldAddr (v := .pointer (some ⟨w4.heap.size, 3, none⟩)) rfl (by kernel_rfl)) fun a hfr => wly hfr (v_load_blk1 (hst.get (k := 3) rfl) rfl (Try.isAgg3 _) rfl) fun a hfr => wly hfr (v_add rfl rfl ⟨by omega, by omega⟩) fun a hfr => wly hfr (v_build (v := .agg #[iv 5, iv (ef + rl.reverse), iv (-1)]) rfl (by kernel_rfl)) fun a hfr => wly hfr ((v_eq_agg rfl rfl (by kernel_rfl) (eqStt 5 (ef + rl.reverse) (-1) 5 (ef + rl.reverse) (-1) _)).asb (b' := true) (by simp)) fun a hfr => ?_
  refine wlv hfr (v_pick_t rfl rfl) fun a hfr => wla hfr rfl fun a hfr => ?_
  refine wl_nil (hK32 _ _ ?_)
  replace hfr : Fr 235 [(14, _)] [] a := hfr.pick [14]
  replace hst : St No w0 [] w60 := hst.mask [false, false, false, false]
  refine wc_ret ?_
  refine fin_ret hfr Try.results3 (resAre_tmp rfl resAre_nil) ?_
  exact ⟨by simp [retv], hst.ext⟩
 refine wc_skip ?_
 refine hK16 _ _ ?_
 refine wc_seq_k fun K33 hK33 => ?_
 refine wc_of_dr (dr_of_wd fun w61 hxz => ?_)
 replace hst := hst.grow hxz
 refine wd_sub (k := 0) 12 [10, 11] hfr ?_
 replace hfr : Fr 235 [(4, _), (5, _), (6, _), (14, _), (17, _), (18, _), (20, _), (21, _), (22, _), (23, _), (24, _), (132, _), (133, _), (134, _), (135, _)] [] a := hfr.pick [4, 5, 6, 14, 17, 18, 20, 21, 22, 23, 24, 132, 133, 134, 135]
 refine wc_phases_q [11] (fun i => match i with | 11 => pm (fun b : Nat => .pointer (some ⟨b, 0, none⟩)) (fun b => [blk b [iv 0, iv 0, iv 0] 39]) (fun _ => True) | _ => fun _ _ => False) 12 [[], [0], [1], [], [], [4], [3, 5], [], [7], [6, 8], [2, 9], []] [iv kind, iv pq, iv (1 + pq), iv ef, .pointer (some ⟨w4.heap.size, 3, none⟩), iv rl.reverse, iv (ef + rl.reverse), iv later, iv pl, iv la, .agg #[iv (1 + pq), iv la, iv 0], undef] hfr hst ?_ ?_ ?_
 ·intro i hi hiq
  match i, hi, hiq with
  | 0, _, _ =>
   intro w hst
   exact OpV.g (v_move rfl)
  | 1, _, _ =>
   intro w hst
   exact g_callp Try.call7 rfl (pick2 hpq (pick16_ok _ _ _ (by omega) (by omega) (by omega) (by omega)))
  | 2, _, _ =>
   intro w hst
   exact OpV.g (v_add rfl rfl ⟨by omega, by omega⟩)
  | 3, _, _ =>
   intro w hst
   exact OpV.g (v_move rfl)
  | 4, _, _ =>
   intro w hst
   exact OpV.g (v_fieldAddr (v := .pointer (some ⟨w4.heap.size, 3, none⟩)) rfl (by kernel_rfl))
  | 5, _, _ =>
   intro w hst
   exact OpV.g (v_load_blk1 (hst.get (k := 5) rfl) rfl (Try.isAgg3 _) rfl)
  | 6, _, _ =>
   intro w hst
   exact OpV.g (v_add rfl rfl ⟨by omega, by omega⟩)
  | 7, _, _ =>
   intro w hst
   exact OpV.g (v_move rfl)
  | 8, _, _ =>
   intro w hst
   exact g_callp Try.call7 rfl (pick2 hpl (pick16_ok _ _ _ (by omega) (by omega) (by omega) (by omega)))
  | 9, _, _ =>
   intro w hst
   exact OpV.g ((v_add rfl rfl ⟨by omega, by omega⟩).asi (m' := la) (by omega))
  | 10, _, _ =>
   intro w hst
   exact OpV.g (v_build (v := .agg #[iv (1 + pq), iv la, iv 0]) rfl (by kernel_rfl))
  | 11, _, h => exact absurd (by simp) h
  | i + 12, h, _ => exact absurd h (by omega)
 ·intro i hi
  simp only [List.mem_cons, List.not_mem_nil, or_false] at hi
  subst hi
  ·intro w hst
   exact g_alloc (Try.zeroValue39 _) (cs := [iv 0, iv 0, iv 0]) rfl
 clear hfr hst
 rintro _ _ ⟨b16, rfl, -, rfl⟩ a w62 hfr hst
 replace hfr : Fr 235 [(182, .agg #[iv (1 + pq), iv la, iv 0]), (34, _), (4, _), (14, _), (17, _), (18, _), (20, _), (21, _)] [] a := hfr.pick [182, 34, 4, 14, 17, 18, 20, 21]
 replace hst : St No w0 [_, _, _, _, _, _, _] w62 := hst
 refine wl_nil ?_
 refine wd_lin (k := 12) 13 [12] ?_
 refine wl_sto 0 hfr hst [iv (1 + pq), iv la, iv 0] rfl (Try.sizeOf39 _) ?_
 clear hfr hst
 intro a w63 hfr hst
 refine wl_nil ?_
 refine wd_end ?_
 refine hK33 _ _ ?_
 replace hfr : Fr 235 [(4, _), (14, _), (17, _), (18, _), (20, _), (21, _), (34, _)] [] a := hfr.pick [4, 14, 17, 18, 20, 21, 34]
 replace hst : St No w0 [_, _, _, _] w63 := hst.mask [true, false, false, false, true, true, true]
 refine wc_seq_k fun K34 hK34 => ?_
 refine wc_seq_region fun K35 hK35 => ?_
 refine wlv hfr (v_fieldAddr (v := .pointer (some ⟨b16, 0, none⟩)) rfl (by kernel_rfl)) fun a hfr => ?_
 refine wlv hfr (v_load_blk1 (hst.get (k := 0) rfl) rfl (Try.isAgg3 _) rfl) fun a hfr => ?_
 refine wlv hfr (v_eq rfl rfl) fun a hfr => wlm hfr rfl fun a hfr => ?_
 rcases Decidable.em (1 + pq = 2) with hb17 | hb17
 ·rw [decide_eq_true hb17] at hfr
  refine wln hfr fun a hfr => ?_
  refine wln hfr fun a hfr => ?_
  refine wln hfr fun a hfr => ?_
  refine wlv hfr (v_pick_t rfl rfl) fun a hfr => ?_
  refine wl_nil (hK35 _ _ ?_)
  replace hfr : Fr 235 [(4, _), (14, _), (17, _), (18, _), (20, _), (21, _), (34, _), (190, _)] [] a := hfr.pick [4, 14, 17, 18, 20, 21, 34, 190]
  refine wc_cond_t hfr rfl ?_
  refine wc_region ?_
  refine wlm hfr rfl fun a hfr => ?_
  refine wl_callp hfr hst Try.call7 rfl (pick2 hps (pick16_ok _ _ _ (by omega) (by omega) (by omega) (by omega))) ?_
  clear hfr hst
  intro a w64 hfr hst
  refine wlv hfr (v_add rfl rfl ⟨by omega, by omega⟩) fun a hfr => ?_
  refine wlv hfr (v_fieldAddr (v := .pointer (some ⟨b16, 2, none⟩)) rfl (by kernel_rfl)) fun a hfr => ?_
  refine wl_sto 0 hfr hst [iv (1 + pq), iv la, iv (1 + ps)] rfl (Try.sizeOf3 _) ?_
  clear hfr hst
  intro a w65 hfr hst
  refine wl_nil ?_
  refine hK34 _ _ ?_
  replace hfr : Fr 235 [(14, _), (17, _), (18, _), (20, _), (21, _), (34, _)] [] a := hfr.pick [14, 17, 18, 20, 21, 34]
  refine wc_seq_region fun K36 hK36 => ?_
  refine wlv hfr (v_load_all (hst.get (k := 3) rfl) rfl (Try.isAgg31 _) (Try.sizeOf31 _)) fun a hfr => ?_
  refine wlv hfr (v_load_all (hst.get (k := 2) rfl) rfl (Try.isAgg33 _) (Try.sizeOf33 _)) fun a hfr => ?_
  refine wlv hfr (v_load_all (hst.get (k := 1) rfl) rfl (Try.isAgg39 _) (Try.sizeOf39 _)) fun a hfr => ?_
  refine wlv hfr (v_load_all (hst.get (k := 0) rfl) rfl (Try.isAgg39 _) (Try.sizeOf39 _)) fun a hfr => ?_
  refine wl_buildSlice (E := 39) (sz := 3) rfl [[iv 1, iv ea, iv 0], [iv (1 + pq), iv la, iv (1 + ps)]] (by kernel_rfl) (by simp) rfl (by decide) (by decide) hfr hst ?_
  clear hfr hst
  intro a w66 hfr hst
  refine wl_callm hfr hst Try.call12 rfl (void4 (late_voids hr hc (by omega) (by omega) (by omega) (by omega)) (void_ok rl cl (.slice (some ⟨w65.heap.size, 0, none⟩) 2 2) [⟨1, ea, 0⟩, ⟨1 + pq, la, 1 + ps⟩] _ (hst.ownAt (i := 0) rfl) (valid_late hr hc (by omega) (by omega) (by omega) (by omega) (by omega)))) ?_
  clear hfr hst
  intro a w67 x18 hp hfr hst
  revert x18 hp hfr hst; rintro vo hp hfr hst
  clear hp
  replace hst : St No w0 [own vo 3 1 ([(1 : Int)].map fun i => [iv i]), own (.slice (some ⟨w65.heap.size, 0, none⟩) 2 2) 39 3 ([[iv 1, iv ea, iv 0], [iv (1 + pq), iv la, iv (1 + ps)]]), blk b16 [iv (1 + pq), iv la, iv (1 + ps)] 39, blk w10.heap.size [iv 1, iv ea, iv 0] 39, blk w5.heap.size [iv cl.number, iv cl.frm, iv cl.to, iv cl.holder, iv cl.asked, .bool cl.backed] 33, blk w4.heap.size [iv rl.answer, iv rl.cooling, iv rl.settle, iv rl.reverse] 31] w67 := hst
  refine wlm hfr rfl fun a hfr => ?_
  refine wlv hfr (v_extract rfl rfl) fun a hfr => ?_
  refine wlv hfr (v_extract rfl rfl) fun a hfr => wla hfr rfl fun a hfr => wla hfr rfl fun a hfr => ?_
  refine wl_nil (hK36 _ _ ?_)
  replace hfr : Fr 235 [(14, _), (17, _), (18, _), (20, _), (21, _), (34, _), (35, _), (36, _)] [] a := hfr.pick [14, 17, 18, 20, 21, 34, 35, 36]
  replace hst : St No w0 [_, _, _, _, _] w67 := hst.mask [true, false, true, true, true, true]
  refine wc_seq_region fun K37 hK37 => ?_
  refine wlv hfr (v_load_all (hst.get (k := 4) rfl) rfl (Try.isAgg31 _) (Try.sizeOf31 _)) fun a hfr => ?_
  refine wlv hfr (v_load_all (hst.get (k := 3) rfl) rfl (Try.isAgg33 _) (Try.sizeOf33 _)) fun a hfr => ?_
  refine wlv hfr (v_load_all (hst.get (k := 2) rfl) rfl (Try.isAgg39 _) (Try.sizeOf39 _)) fun a hfr => ?_
  refine wlv hfr (v_load_all (hst.get (k := 1) rfl) rfl (Try.isAgg39 _) (Try.sizeOf39 _)) fun a hfr => ?_
  refine wl_buildSlice (E := 39) (sz := 3) rfl [[iv 1, iv ea, iv 0], [iv (1 + pq), iv la, iv (1 + ps)]] (by kernel_rfl) (by simp) rfl (by decide) (by decide) hfr hst ?_
  clear hfr hst
  intro a w68 hfr hst
  refine wlv hfr (v_fieldAddr (v := .pointer (some ⟨b16, 1, none⟩)) rfl (by kernel_rfl)) fun a hfr => ?_
  refine wlv hfr (v_load_blk1 (hst.get (k := 2) rfl) rfl (Try.isAgg3 _) rfl) fun a hfr => ?_
  refine wl_callp hfr hst Try.call13 rfl (outcome2 (s := ⟨5, ef + rl.reverse, -1⟩) (late_out hr hc (by omega) (by omega) (by omega) (by omega) (by omega)) (outcome_ok rl cl (.slice (some ⟨w67.heap.size, 0, none⟩) 2 2) [⟨1, ea, 0⟩, ⟨1 + pq, la, 1 + ps⟩] la _ (hst.ownAt (i := 0) rfl) (valid_late hr hc (by omega) (by omega) (by omega) (by omega) (by omega)) (isIn_of (by omega) (by omega)))) ?_
  clear hfr hst
  intro a w69 hfr hst
  refine wlm hfr rfl fun a hfr => ?_
  refine wlv hfr (v_extract rfl rfl) fun a hfr => ?_
  refine wlv hfr (v_extract rfl rfl) fun a hfr => ?_
  refine wl_alloc hfr hst (Try.zeroValue54 _) [iv 0, iv 0, iv 0] rfl ?_
  clear hfr hst
  intro a w70 hfr hst
  refine wl_sto 0 hfr hst [iv 5, iv (ef + rl.reverse), iv (-1)] rfl (Try.sizeOf54 _) ?_
  clear hfr hst
  intro a w71 hfr hst
  refine wla hfr rfl fun a hfr => ?_
  refine wl_nil (hK37 _ _ ?_)
  replace hfr : Fr 235 [(14, _), (17, _), (20, _), (35, _), (36, _), (37, _), (38, _)] [] a := hfr.pick [14, 17, 20, 35, 36, 37, 38]
  replace hst : St No w0 [_, _, _] w71 := hst.mask [true, false, true, false, false, false, true]
  refine wc_seq_region fun K38 hK38 => ?_
  refine wlm hfr rfl fun a hfr => ?_
  refine wlv hfr ((v_eq rfl rfl).asb (b' := true) rfl) fun a hfr => wlm hfr rfl fun a hfr => wly hfr (v_move rfl) fun a hfr => wly hfr ((v_eq rfl rfl).asb (b' := true) rfl) fun a hfr => ?_
  refine wlv hfr (v_pick_t rfl rfl) fun a hfr => wlm hfr rfl fun a hfr => wly hfr (v_move rfl) fun a hfr => ?_
  refine wl_open hfr ?_
  refine wl_buildSlice (E := 3) (sz := 1) rfl [[iv 1]] (by kernel_rfl) (by simp) rfl (by decide) (by decide) hfr hst ?_
  clear hfr hst
  intro a w72 hfr hst
  refine wl_callpy hfr hst Try.call14 rfl (ret_lit (y := .bool true) (ints_ok [1] [1] vo (.slice (some ⟨w71.heap.size, 0, none⟩) 1 1) _ (hst.ownAt (i := 2) rfl) (hst.ownAt (i := 0) rfl)) (by simp)) ?_
  clear hfr hst
  intro a w73 hfr hst
  refine wlv hfr (v_pick_t rfl rfl) fun a hfr => wlm hfr rfl fun a hfr => wly hfr (v_load_all (hst.get (k := 1) rfl) rfl (Try.isAgg54 _) (Try.sizeOf54 _)) fun a hfr => wly hfr (v_move rfl) fun a hfr => wly hfr (v_fieldAddr (v := .pointer (some ⟨w4.heap.size, 3, none⟩)) rfl (by kernel_rfl)) fun a hfr => wly hfr (v_load_blk1 (hst.get (k := 3) rfl) rfl (Try.isAgg3 _) rfl) fun a hfr => wly hfr (v_add rfl rfl ⟨by omega, by omega⟩) fun a hfr => wly hfr (v_build (v := .agg #[iv 5, iv (ef + rl.reverse), iv (-1)]) rfl (by kernel_rfl)) fun a hfr => wly hfr ((v_eq_agg rfl rfl (by kernel_rfl) (eqStt 5 (ef + rl.reverse) (-1) 5 (ef + rl.reverse) (-1) _)).asb (b' := true) (by simp)) fun a hfr => ?_
  refine wlv hfr (v_pick_t rfl rfl) fun a hfr => wla hfr rfl fun a hfr => ?_
  refine wl_nil (hK38 _ _ ?_)
  replace hfr : Fr 235 [(14, _)] [] a := hfr.pick [14]
  replace hst : St No w0 [] w73 := hst.mask [false, false, false, false]
  refine wc_ret ?_
  refine fin_ret hfr Try.results3 (resAre_tmp rfl resAre_nil) ?_
  exact ⟨by simp [retv], hst.ext⟩
 rw [decide_eq_false hb17] at hfr
 refine wly hfr (v_fieldAddr (v := .pointer (some ⟨b16, 0, none⟩)) rfl (by kernel_rfl)) fun a hfr => wly hfr (v_load_blk1 (hst.get (k := 0) rfl) rfl (Try.isAgg3 _) rfl) fun a hfr => wly hfr (v_eq rfl rfl) fun a hfr => ?_
 refine wlv hfr (v_pick_f rfl rfl) fun a hfr => ?_
 refine wl_nil (hK35 _ _ ?_)
 replace hfr : Fr 235 [(4, _), (14, _), (17, _), (18, _), (20, _), (21, _), (34, _), (190, _)] [] a := hfr.pick [4, 14, 17, 18, 20, 21, 34, 190]
 refine wc_cond_d hfr rfl (fun hc19 => ?_) (fun hc19 => ?_)
 ·refine wc_region ?_
  refine wlm hfr rfl fun a hfr => ?_
  refine wl_callp hfr hst Try.call7 rfl (pick2 hps (pick16_ok _ _ _ (by omega) (by omega) (by omega) (by omega))) ?_
  clear hfr hst
  intro a w74 hfr hst
  refine wlv hfr (v_add rfl rfl ⟨by omega, by omega⟩) fun a hfr => ?_
  refine wlv hfr (v_fieldAddr (v := .pointer (some ⟨b16, 2, none⟩)) rfl (by kernel_rfl)) fun a hfr => ?_
  refine wl_sto 0 hfr hst [iv (1 + pq), iv la, iv (1 + ps)] rfl (Try.sizeOf3 _) ?_
  clear hfr hst
  intro a w75 hfr hst
  refine wl_nil ?_
  refine hK34 _ _ ?_
  replace hfr : Fr 235 [(14, _), (17, _), (18, _), (20, _), (21, _), (34, _)] [] a := hfr.pick [14, 17, 18, 20, 21, 34]
  refine wc_seq_region fun K39 hK39 => ?_
  refine wlv hfr (v_load_all (hst.get (k := 3) rfl) rfl (Try.isAgg31 _) (Try.sizeOf31 _)) fun a hfr => ?_
  refine wlv hfr (v_load_all (hst.get (k := 2) rfl) rfl (Try.isAgg33 _) (Try.sizeOf33 _)) fun a hfr => ?_
  refine wlv hfr (v_load_all (hst.get (k := 1) rfl) rfl (Try.isAgg39 _) (Try.sizeOf39 _)) fun a hfr => ?_
  refine wlv hfr (v_load_all (hst.get (k := 0) rfl) rfl (Try.isAgg39 _) (Try.sizeOf39 _)) fun a hfr => ?_
  refine wl_buildSlice (E := 39) (sz := 3) rfl [[iv 1, iv ea, iv 0], [iv (1 + pq), iv la, iv (1 + ps)]] (by kernel_rfl) (by simp) rfl (by decide) (by decide) hfr hst ?_
  clear hfr hst
  intro a w76 hfr hst
  refine wl_callm hfr hst Try.call12 rfl (void4 (late_voids hr hc (by omega) (by omega) (by omega) (by omega)) (void_ok rl cl (.slice (some ⟨w75.heap.size, 0, none⟩) 2 2) [⟨1, ea, 0⟩, ⟨1 + pq, la, 1 + ps⟩] _ (hst.ownAt (i := 0) rfl) (valid_late hr hc (by omega) (by omega) (by omega) (by omega) (by omega)))) ?_
  clear hfr hst
  intro a w77 x20 hp hfr hst
  revert x20 hp hfr hst; rintro vo hp hfr hst
  clear hp
  replace hst : St No w0 [own vo 3 1 ([(1 : Int)].map fun i => [iv i]), own (.slice (some ⟨w75.heap.size, 0, none⟩) 2 2) 39 3 ([[iv 1, iv ea, iv 0], [iv (1 + pq), iv la, iv (1 + ps)]]), blk b16 [iv (1 + pq), iv la, iv (1 + ps)] 39, blk w10.heap.size [iv 1, iv ea, iv 0] 39, blk w5.heap.size [iv cl.number, iv cl.frm, iv cl.to, iv cl.holder, iv cl.asked, .bool cl.backed] 33, blk w4.heap.size [iv rl.answer, iv rl.cooling, iv rl.settle, iv rl.reverse] 31] w77 := hst
  refine wlm hfr rfl fun a hfr => ?_
  refine wlv hfr (v_extract rfl rfl) fun a hfr => ?_
  refine wlv hfr (v_extract rfl rfl) fun a hfr => wla hfr rfl fun a hfr => wla hfr rfl fun a hfr => ?_
  refine wl_nil (hK39 _ _ ?_)
  replace hfr : Fr 235 [(14, _), (17, _), (18, _), (20, _), (21, _), (34, _), (35, _), (36, _)] [] a := hfr.pick [14, 17, 18, 20, 21, 34, 35, 36]
  replace hst : St No w0 [_, _, _, _, _] w77 := hst.mask [true, false, true, true, true, true]
  refine wc_seq_region fun K40 hK40 => ?_
  refine wlv hfr (v_load_all (hst.get (k := 4) rfl) rfl (Try.isAgg31 _) (Try.sizeOf31 _)) fun a hfr => ?_
  refine wlv hfr (v_load_all (hst.get (k := 3) rfl) rfl (Try.isAgg33 _) (Try.sizeOf33 _)) fun a hfr => ?_
  refine wlv hfr (v_load_all (hst.get (k := 2) rfl) rfl (Try.isAgg39 _) (Try.sizeOf39 _)) fun a hfr => ?_
  refine wlv hfr (v_load_all (hst.get (k := 1) rfl) rfl (Try.isAgg39 _) (Try.sizeOf39 _)) fun a hfr => ?_
  refine wl_buildSlice (E := 39) (sz := 3) rfl [[iv 1, iv ea, iv 0], [iv (1 + pq), iv la, iv (1 + ps)]] (by kernel_rfl) (by simp) rfl (by decide) (by decide) hfr hst ?_
  clear hfr hst
  intro a w78 hfr hst
  refine wlv hfr (v_fieldAddr (v := .pointer (some ⟨b16, 1, none⟩)) rfl (by kernel_rfl)) fun a hfr => ?_
  refine wlv hfr (v_load_blk1 (hst.get (k := 2) rfl) rfl (Try.isAgg3 _) rfl) fun a hfr => ?_
  refine wl_callp hfr hst Try.call13 rfl (outcome2 (s := ⟨5, ef + rl.reverse, -1⟩) (late_out hr hc (by omega) (by omega) (by omega) (by omega) (by omega)) (outcome_ok rl cl (.slice (some ⟨w77.heap.size, 0, none⟩) 2 2) [⟨1, ea, 0⟩, ⟨1 + pq, la, 1 + ps⟩] la _ (hst.ownAt (i := 0) rfl) (valid_late hr hc (by omega) (by omega) (by omega) (by omega) (by omega)) (isIn_of (by omega) (by omega)))) ?_
  clear hfr hst
  intro a w79 hfr hst
  refine wlm hfr rfl fun a hfr => ?_
  refine wlv hfr (v_extract rfl rfl) fun a hfr => ?_
  refine wlv hfr (v_extract rfl rfl) fun a hfr => ?_
  refine wl_alloc hfr hst (Try.zeroValue54 _) [iv 0, iv 0, iv 0] rfl ?_
  clear hfr hst
  intro a w80 hfr hst
  refine wl_sto 0 hfr hst [iv 5, iv (ef + rl.reverse), iv (-1)] rfl (Try.sizeOf54 _) ?_
  clear hfr hst
  intro a w81 hfr hst
  refine wla hfr rfl fun a hfr => ?_
  refine wl_nil (hK40 _ _ ?_)
  replace hfr : Fr 235 [(14, _), (17, _), (20, _), (35, _), (36, _), (37, _), (38, _)] [] a := hfr.pick [14, 17, 20, 35, 36, 37, 38]
  replace hst : St No w0 [_, _, _] w81 := hst.mask [true, false, true, false, false, false, true]
  refine wc_seq_region fun K41 hK41 => ?_
  refine wlm hfr rfl fun a hfr => ?_
  refine wlv hfr ((v_eq rfl rfl).asb (b' := true) rfl) fun a hfr => wlm hfr rfl fun a hfr => wly hfr (v_move rfl) fun a hfr => wly hfr ((v_eq rfl rfl).asb (b' := true) rfl) fun a hfr => ?_
  refine wlv hfr (v_pick_t rfl rfl) fun a hfr => wlm hfr rfl fun a hfr => wly hfr (v_move rfl) fun a hfr => ?_
  refine wl_open hfr ?_
  refine wl_buildSlice (E := 3) (sz := 1) rfl [[iv 1]] (by kernel_rfl) (by simp) rfl (by decide) (by decide) hfr hst ?_
  clear hfr hst
  intro a w82 hfr hst
  refine wl_callpy hfr hst Try.call14 rfl (ret_lit (y := .bool true) (ints_ok [1] [1] vo (.slice (some ⟨w81.heap.size, 0, none⟩) 1 1) _ (hst.ownAt (i := 2) rfl) (hst.ownAt (i := 0) rfl)) (by simp)) ?_
  clear hfr hst
  intro a w83 hfr hst
  refine wlv hfr (v_pick_t rfl rfl) fun a hfr => wlm hfr rfl fun a hfr => wly hfr (v_load_all (hst.get (k := 1) rfl) rfl (Try.isAgg54 _) (Try.sizeOf54 _)) fun a hfr => wly hfr (v_move rfl) fun a hfr => wly hfr (v_fieldAddr (v := .pointer (some ⟨w4.heap.size, 3, none⟩)) rfl (by kernel_rfl)) fun a hfr => wly hfr (v_load_blk1 (hst.get (k := 3) rfl) rfl (Try.isAgg3 _) rfl) fun a hfr => wly hfr (v_add rfl rfl ⟨by omega, by omega⟩) fun a hfr => wly hfr (v_build (v := .agg #[iv 5, iv (ef + rl.reverse), iv (-1)]) rfl (by kernel_rfl)) fun a hfr => wly hfr ((v_eq_agg rfl rfl (by kernel_rfl) (eqStt 5 (ef + rl.reverse) (-1) 5 (ef + rl.reverse) (-1) _)).asb (b' := true) (by simp)) fun a hfr => ?_
  refine wlv hfr (v_pick_t rfl rfl) fun a hfr => wla hfr rfl fun a hfr => ?_
  refine wl_nil (hK41 _ _ ?_)
  replace hfr : Fr 235 [(14, _)] [] a := hfr.pick [14]
  replace hst : St No w0 [] w83 := hst.mask [false, false, false, false]
  refine wc_ret ?_
  refine fin_ret hfr Try.results3 (resAre_tmp rfl resAre_nil) ?_
  exact ⟨by simp [retv], hst.ext⟩
 refine wc_skip ?_
 refine hK34 _ _ ?_
 refine wc_seq_region fun K42 hK42 => ?_
 refine wlv hfr (v_load_all (hst.get (k := 3) rfl) rfl (Try.isAgg31 _) (Try.sizeOf31 _)) fun a hfr => ?_
 refine wlv hfr (v_load_all (hst.get (k := 2) rfl) rfl (Try.isAgg33 _) (Try.sizeOf33 _)) fun a hfr => ?_
 refine wlv hfr (v_load_all (hst.get (k := 1) rfl) rfl (Try.isAgg39 _) (Try.sizeOf39 _)) fun a hfr => ?_
 refine wlv hfr (v_load_all (hst.get (k := 0) rfl) rfl (Try.isAgg39 _) (Try.sizeOf39 _)) fun a hfr => ?_
 refine wl_buildSlice (E := 39) (sz := 3) rfl [[iv 1, iv ea, iv 0], [iv (1 + pq), iv la, iv 0]] (by kernel_rfl) (by simp) rfl (by decide) (by decide) hfr hst ?_
 clear hfr hst
 intro a w84 hfr hst
 refine wl_callm hfr hst Try.call12 rfl (void4 (late_voids hr hc (by omega) (by omega) (by omega) (by omega)) (void_ok rl cl (.slice (some ⟨w63.heap.size, 0, none⟩) 2 2) [⟨1, ea, 0⟩, ⟨1 + pq, la, 0⟩] _ (hst.ownAt (i := 0) rfl) (valid_late hr hc (by omega) (by omega) (by omega) (by omega) (by omega)))) ?_
 clear hfr hst
 intro a w85 x21 hp hfr hst
 revert x21 hp hfr hst; rintro vo hp hfr hst
 clear hp
 replace hst : St No w0 [own vo 3 1 ([(1 : Int)].map fun i => [iv i]), own (.slice (some ⟨w63.heap.size, 0, none⟩) 2 2) 39 3 ([[iv 1, iv ea, iv 0], [iv (1 + pq), iv la, iv 0]]), blk b16 [iv (1 + pq), iv la, iv 0] 39, blk w10.heap.size [iv 1, iv ea, iv 0] 39, blk w5.heap.size [iv cl.number, iv cl.frm, iv cl.to, iv cl.holder, iv cl.asked, .bool cl.backed] 33, blk w4.heap.size [iv rl.answer, iv rl.cooling, iv rl.settle, iv rl.reverse] 31] w85 := hst
 refine wlm hfr rfl fun a hfr => ?_
 refine wlv hfr (v_extract rfl rfl) fun a hfr => ?_
 refine wlv hfr (v_extract rfl rfl) fun a hfr => wla hfr rfl fun a hfr => wla hfr rfl fun a hfr => ?_
 refine wl_nil (hK42 _ _ ?_)
 replace hfr : Fr 235 [(14, _), (17, _), (18, _), (20, _), (21, _), (34, _), (35, _), (36, _)] [] a := hfr.pick [14, 17, 18, 20, 21, 34, 35, 36]
 replace hst : St No w0 [_, _, _, _, _] w85 := hst.mask [true, false, true, true, true, true]
 refine wc_seq_region fun K43 hK43 => ?_
 refine wlv hfr (v_load_all (hst.get (k := 4) rfl) rfl (Try.isAgg31 _) (Try.sizeOf31 _)) fun a hfr => ?_
 refine wlv hfr (v_load_all (hst.get (k := 3) rfl) rfl (Try.isAgg33 _) (Try.sizeOf33 _)) fun a hfr => ?_
 refine wlv hfr (v_load_all (hst.get (k := 2) rfl) rfl (Try.isAgg39 _) (Try.sizeOf39 _)) fun a hfr => ?_
 refine wlv hfr (v_load_all (hst.get (k := 1) rfl) rfl (Try.isAgg39 _) (Try.sizeOf39 _)) fun a hfr => ?_
 refine wl_buildSlice (E := 39) (sz := 3) rfl [[iv 1, iv ea, iv 0], [iv (1 + pq), iv la, iv 0]] (by kernel_rfl) (by simp) rfl (by decide) (by decide) hfr hst ?_
 clear hfr hst
 intro a w86 hfr hst
 refine wlv hfr (v_fieldAddr (v := .pointer (some ⟨b16, 1, none⟩)) rfl (by kernel_rfl)) fun a hfr => ?_
 refine wlv hfr (v_load_blk1 (hst.get (k := 2) rfl) rfl (Try.isAgg3 _) rfl) fun a hfr => ?_
 refine wl_callp hfr hst Try.call13 rfl (outcome2 (s := ⟨5, ef + rl.reverse, -1⟩) (late_out hr hc (by omega) (by omega) (by omega) (by omega) (by omega)) (outcome_ok rl cl (.slice (some ⟨w85.heap.size, 0, none⟩) 2 2) [⟨1, ea, 0⟩, ⟨1 + pq, la, 0⟩] la _ (hst.ownAt (i := 0) rfl) (valid_late hr hc (by omega) (by omega) (by omega) (by omega) (by omega)) (isIn_of (by omega) (by omega)))) ?_
 clear hfr hst
 intro a w87 hfr hst
 refine wlm hfr rfl fun a hfr => ?_
 refine wlv hfr (v_extract rfl rfl) fun a hfr => ?_
 refine wlv hfr (v_extract rfl rfl) fun a hfr => ?_
 refine wl_alloc hfr hst (Try.zeroValue54 _) [iv 0, iv 0, iv 0] rfl ?_
 clear hfr hst
 intro a w88 hfr hst
 refine wl_sto 0 hfr hst [iv 5, iv (ef + rl.reverse), iv (-1)] rfl (Try.sizeOf54 _) ?_
 clear hfr hst
 intro a w89 hfr hst
 refine wla hfr rfl fun a hfr => ?_
 refine wl_nil (hK43 _ _ ?_)
 replace hfr : Fr 235 [(14, _), (17, _), (20, _), (35, _), (36, _), (37, _), (38, _)] [] a := hfr.pick [14, 17, 20, 35, 36, 37, 38]
 replace hst : St No w0 [_, _, _] w89 := hst.mask [true, false, true, false, false, false, true]
 refine wc_seq_region fun K44 hK44 => ?_
 refine wlm hfr rfl fun a hfr => ?_
 refine wlv hfr ((v_eq rfl rfl).asb (b' := true) rfl) fun a hfr => wlm hfr rfl fun a hfr => wly hfr (v_move rfl) fun a hfr => wly hfr ((v_eq rfl rfl).asb (b' := true) rfl) fun a hfr => ?_
 refine wlv hfr (v_pick_t rfl rfl) fun a hfr => wlm hfr rfl fun a hfr => wly hfr (v_move rfl) fun a hfr => ?_
 refine wl_open hfr ?_
 refine wl_buildSlice (E := 3) (sz := 1) rfl [[iv 1]] (by kernel_rfl) (by simp) rfl (by decide) (by decide) hfr hst ?_
 clear hfr hst
 intro a w90 hfr hst
 refine wl_callpy hfr hst Try.call14 rfl (ret_lit (y := .bool true) (ints_ok [1] [1] vo (.slice (some ⟨w89.heap.size, 0, none⟩) 1 1) _ (hst.ownAt (i := 2) rfl) (hst.ownAt (i := 0) rfl)) (by simp)) ?_
 clear hfr hst
 intro a w91 hfr hst
 refine wlv hfr (v_pick_t rfl rfl) fun a hfr => wlm hfr rfl fun a hfr => wly hfr (v_load_all (hst.get (k := 1) rfl) rfl (Try.isAgg54 _) (Try.sizeOf54 _)) fun a hfr => wly hfr (v_move rfl) fun a hfr => wly hfr (v_fieldAddr (v := .pointer (some ⟨w4.heap.size, 3, none⟩)) rfl (by kernel_rfl)) fun a hfr => wly hfr (v_load_blk1 (hst.get (k := 3) rfl) rfl (Try.isAgg3 _) rfl) fun a hfr => wly hfr (v_add rfl rfl ⟨by omega, by omega⟩) fun a hfr => wly hfr (v_build (v := .agg #[iv 5, iv (ef + rl.reverse), iv (-1)]) rfl (by kernel_rfl)) fun a hfr => wly hfr ((v_eq_agg rfl rfl (by kernel_rfl) (eqStt 5 (ef + rl.reverse) (-1) 5 (ef + rl.reverse) (-1) _)).asb (b' := true) (by simp)) fun a hfr => ?_
 refine wlv hfr (v_pick_t rfl rfl) fun a hfr => wla hfr rfl fun a hfr => ?_
 refine wl_nil (hK44 _ _ ?_)
 replace hfr : Fr 235 [(14, _)] [] a := hfr.pick [14]
 replace hst : St No w0 [] w91 := hst.mask [false, false, false, false]
 refine wc_ret ?_
 refine fin_ret hfr Try.results3 (resAre_tmp rfl resAre_nil) ?_
 exact ⟨by simp [retv], hst.ext⟩
end Go.Proofs.Ytnfnkohkcmkddaa
namespace Go.Proofs.Ytnfnkohkcmkddaa
open Go.RowKit Go.PW
set_option linter.unusedVariables false
set_option linter.unusedSimpArgs false
set_option maxRecDepth 4000
open Go.ChangeShapes Go.WideShapes Go.ChangeAt
section
variable {H : Type} {enc : TypeId × Value → H} {W : World} {base b0 : Nat} {sp : Nat → Bool} {hd : Bool} {v : Value} {d : DataW H} {ps : List MemPlace} {r : Reach}
theorem cells_sl {P : Program} {w : World} {t e : TypeId} (ht : P.underlying t = some (.slice e)) (hok : Cell.okWide P w r b0 t v) : v.cells = #[v] := by
 cases v <;> first | rfl | (simp [Cell.okWide, Cell.ok, ht] at hok)
theorem open_tri_arg (hval : Value.okWide Try.prog W r b0 22 v) (hw : Wt Try.prog 22 d) (hd0 : DataW.Trod enc Try.prog W base sp hd 22 v d ps) :
  ∃ xs : List Tri, SlAt W v 3 (xs.map Tri.cells) ∧ ∀ k, k < xs.length → (xs.getD k ⟨0, 0, 0⟩).fits := by
 have hok := okWide_one (by kernel_rfl) hval
 obtain ⟨fuel, hf⟩ := hd0
 rw [cells_sl Try.underlying22 hok] at hf
 exact open_tris (x := (d, ps)) Try.underlying22 hok hw hf
end
end Go.Proofs.Ytnfnkohkcmkddaa
