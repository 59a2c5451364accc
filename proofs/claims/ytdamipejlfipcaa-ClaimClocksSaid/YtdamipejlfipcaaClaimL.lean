import Derived.Test.YtdamipejlfipcaaClaimQ
import Derived.Test.YtdamipejlfipcaaClaimV
namespace Go.Proofs.Ytdamipejlfipcaa
open Go.RowKit Go.PW
set_option linter.unusedVariables false
set_option linter.unusedSimpArgs false
set_option maxRecDepth 4000

theorem made2 {x0 x1 x2 x3 y0 y1 y2 y3 y4 y5 : Int} {xs : List Tri} {f : FuncId} {args : Array Value} {w : World} {rl : Rul} {cl : Clm} {l : List Evt} {E : TypeId} (hrl : mkRul x0 x1 x2 x3 = rl) (hcl : mkClm y0 y1 y2 y3 y4 y5 = cl) (hl : mkL rl cl xs = l)
    (h : Ret Try.prog f args w (MemR w (fun v : Value => .tuple #[(mkRul x0 x1 x2 x3).val, (mkClm y0 y1 y2 y3 y4 y5).val, v]) (fun v => [own v E 3 ((mkL (mkRul x0 x1 x2 x3) (mkClm y0 y1 y2 y3 y4 y5) xs).map Evt.cells)]) (fun _ => True))) :
    Ret Try.prog f args w (MemR w (fun v : Value => .tuple #[rl.val, cl.val, v]) (fun v => [own v E 3 (l.map Evt.cells)]) (fun _ => True)) := by
  subst hrl; subst hcl; subst hl; exact h
theorem outcome2 {rl : Rul} {cl : Clm} {l : List Evt} {t : Int} {s : Stt} {f : FuncId} {args : Array Value} {w : World} (hs : outcome rl cl l t = s) (h : Ret Try.prog f args w fun v w' => v = .tuple #[(outcome rl cl l t).val, .int .i64 0] ∧ Ext No w w') :
    Ret Try.prog f args w fun v w' => v = .tuple #[.agg #[.int .i64 s.state, .int .i64 s.since, .int .i64 s.next], .int .i64 0] ∧ Ext No w w' := by
  subst hs; exact h
theorem ends2 {rl : Rul} {cl : Clm} {en : Int} {f : FuncId} {args : Array Value} {w : World} (hr : areValid rl = true) (hc : isClaim cl = true) (he : ends rl cl = en) (h : Ret Try.prog f args w fun v w' => v = (if areValid rl && isClaim cl then .tuple #[.int .i64 (ends rl cl), .int .i64 0] else .tuple #[.int .i64 0, .int .i64 160]) ∧ Ext No w w') :
    Ret Try.prog f args w fun v w' => v = .tuple #[.int .i64 en, .int .i64 0] ∧ Ext No w w' := by
  subst he; simpa [hr, hc] using h
theorem pick2 {c n k : Int} {f : FuncId} {args : Array Value} {w : World} (hk : pick c n = k) (h : Ret Try.prog f args w fun v w' => v = .int .i64 (pick c n) ∧ Ext No w w') : Ret Try.prog f args w fun v w' => v = .int .i64 k ∧ Ext No w w' := by subst hk; exact h
theorem mkRul_day (x0 x1 x2 x3 : Int) : (mkRul x0 x1 x2 x3).answer ≤ 86400 ∧ (mkRul x0 x1 x2 x3).cooling ≤ 86400 ∧ (mkRul x0 x1 x2 x3).settle ≤ 86400 ∧ (mkRul x0 x1 x2 x3).reverse ≤ 86400 := ⟨(mkRule_le x0).2, (mkRule_le x1).2, (mkRule_le x2).2, (mkRule_le x3).2⟩

set_option maxHeartbeats 4000000 in
/-- dialtone/dialtonelaw16.ClaimDecided -/
theorem decided_walk (x0 x1 x2 x3 y0 y1 y2 y3 y4 y5 : Int) (xv : Value) (xs : List Tri) (w0 : World) (gf : isI64 x0 ∧ isI64 x1 ∧ isI64 x2 ∧ isI64 x3 ∧ isI64 y0 ∧ isI64 y1 ∧ isI64 y2 ∧ isI64 y3 ∧ isI64 y4 ∧ isI64 y5) (hxv : SlAt w0 xv 3 (xs.map Tri.cells)) (hfit : ∀ k, k < xs.length → (xs.getD k ⟨0, 0, 0⟩).fits) (later reason : Int) (glater : isI64 later) (greason : isI64 reason) :
    Ret Try.prog 3 #[.agg #[.int .i64 x0, .int .i64 x1, .int .i64 x2, .int .i64 x3, .int .i64 y0, .int .i64 y1, .int .i64 y2, .int .i64 y3, .int .i64 y4, .int .i64 y5, xv], .int .i64 later, .int .i64 reason] w0 fun v w => v = .bool true ∧ Ext No w0 w := by
  obtain ⟨g0, g1, g2, g3, g4, g5, g6, g7, g8, g9⟩ := gf
  obtain ⟨rl, hrl⟩ : ∃ r, mkRul x0 x1 x2 x3 = r := ⟨_, rfl⟩
  obtain ⟨cl, hcl0⟩ : ∃ c, mkClm y0 y1 y2 y3 y4 y5 = c := ⟨_, rfl⟩
  have hr : areValid rl = true := hrl ▸ mkRul_valid x0 x1 x2 x3
  have hc : isClaim cl = true := hcl0 ▸ (mkClm_valid y0 y1 y2 y3 y4 y5).1
  have ha : cl.asked < 1000 := hcl0 ▸ (mkClm_valid y0 y1 y2 y3 y4 y5).2
  have hcl := isClaim_le hc
  have hrl1 := areValid_le hr
  have hrl2 := mkRul_day x0 x1 x2 x3
  rw [hrl] at hrl2
  obtain ⟨l, hl0⟩ : ∃ l, mkL rl cl xs = l := ⟨_, rfl⟩
  obtain ⟨hv, hl10⟩ : valid rl cl l = true ∧ l.length ≤ 10 := hl0 ▸ mkL_valid hr hc ha xs
  unfold isI64 at glater greason
  obtain ⟨pl, hpl⟩ : ∃ k, pick later 1000000 = k := ⟨_, rfl⟩
  have bpl := pick_lt later 1000000 (by omega)
  rw [hpl] at bpl
  obtain ⟨pr, hpr⟩ : ∃ k, pick reason 8 = k := ⟨_, rfl⟩
  have bpr := pick_lt reason 8 (by omega)
  rw [hpr] at bpr
  obtain ⟨en, hen⟩ : ∃ n, ends rl cl = n := ⟨_, rfl⟩
  have hen1 : en = cl.asked + rl.answer - 1 + rl.settle + rl.cooling + rl.reverse := hen.symm
  obtain ⟨so, so1, so2, so3, ho⟩ := outcome_ends hv
  rw [hen] at so3 ho
  have hvo : valid rl cl [⟨2, cl.asked + rl.answer - 1, 2 + pr⟩] = true := valid_one hr hc (by simp [badEvt, isIn]; omega)
  refine ret_of Try.func3 rfl Try.ntmps3 (Nat.le_of_ble_eq_true rfl) fun a hfr => ?_
  replace hfr : Fr 133 [(0, _), (1, _), (2, _)] [] a := hfr
  replace hst : St No w0 [] w0 := St.init w0
  refine wc_seq_region fun K1 hK1 => ?_
  refine wl_box hfr hst (by decide) rfl (cs := [.int .i64 x0, .int .i64 x1, .int .i64 x2, .int .i64 x3, .int .i64 y0, .int .i64 y1, .int .i64 y2, .int .i64 y3, .int .i64 y4, .int .i64 y5, xv]) rfl ?_
  clear hfr hst
  intro a w1 hfr hst
  refine wl_v hfr (by decide) (v_assign rfl) ?_
  clear hfr
  intro a hfr
  refine wl_nil (hK1 _ _ ?_)
  refine wc_seq_region fun K2 hK2 => ?_
  refine wl_callp hfr hst (by decide) Try.call11 rfl (sane_ok _) ?_
  clear hfr hst
  intro a w2 hfr hst
  refine wl_v hfr (by decide) (v_assign rfl) ?_
  clear hfr
  intro a hfr
  refine wl_nil (hK2 _ _ ?_)
  refine wc_seq_k fun K3 hK3 => ?_
  refine wc_seq_region fun K4 hK4 => ?_
  refine wl_v hfr (by decide) (v_move rfl) ?_
  clear hfr
  intro a hfr
  refine wl_v hfr (by decide) ((v_not rfl).asb (b' := false) rfl) ?_
  clear hfr
  intro a hfr
  refine wl_nil (hK4 _ _ ?_)
  refine wc_cond_f hfr rfl ?_
  refine wc_skip ?_
  refine hK3 _ _ ?_
  refine wc_seq_region fun K5 hK5 => ?_
  refine wl_v hfr (by decide) (v_load_all (hst.get (k := 0) rfl) rfl (Try.isAgg26 _) (Try.sizeOf26 _)) ?_
  clear hfr
  intro a hfr
  refine wl_callm hfr hst (by decide) Try.call12 rfl (made2 hrl hcl0 hl0 (made_ok x0 x1 x2 x3 y0 y1 y2 y3 y4 y5 xv xs _ g0 g1 g2 g3 g4 g5 g6 g7 g8 g9 (hst.arg hxv) hfit)) ?_
  clear hfr hst
  intro a w3 x2 hp hfr hst
  revert x2 hp hfr hst; rintro v1 hp hfr hst
  clear hp
  replace hst : St No w0 [own v1 45 3 (l.map Evt.cells), blk w0.heap.size [.int .i64 x0, .int .i64 x1, .int .i64 x2, .int .i64 x3, .int .i64 y0, .int .i64 y1, .int .i64 y2, .int .i64 y3, .int .i64 y4, .int .i64 y5, xv] 26] w3 := hst
  refine wl_v hfr (by decide) (v_move rfl) ?_
  clear hfr
  intro a hfr
  refine wl_v hfr (by decide) (v_extract rfl rfl) ?_
  clear hfr
  intro a hfr
  refine wl_v hfr (by decide) (v_extract rfl rfl) ?_
  clear hfr
  intro a hfr
  refine wl_v hfr (by decide) (v_extract rfl rfl) ?_
  clear hfr
  intro a hfr
  refine wl_alloc hfr hst (by decide) (Try.zeroValue29 _) (cs := [.int .i64 0, .int .i64 0, .int .i64 0, .int .i64 0]) rfl ?_
  clear hfr hst
  intro a w4 hfr hst
  refine wl_alloc hfr hst (by decide) (Try.zeroValue31 _) (cs := [.int .i64 0, .int .i64 0, .int .i64 0, .int .i64 0, .int .i64 0, .bool false]) rfl ?_
  clear hfr hst
  intro a w5 hfr hst
  refine wl_store 1 hfr hst rfl rfl rfl (Try.sizeOf29 _) rfl (Nat.le_of_ble_eq_true rfl) (ds := [.int .i64 rl.answer, .int .i64 rl.cooling, .int .i64 rl.settle, .int .i64 rl.reverse]) rfl rfl ?_
  clear hfr hst
  intro a w6 hfr hst
  refine wl_store 0 hfr hst rfl rfl rfl (Try.sizeOf31 _) rfl (Nat.le_of_ble_eq_true rfl) (ds := [.int .i64 cl.number, .int .i64 cl.frm, .int .i64 cl.to, .int .i64 cl.holder, .int .i64 cl.asked, .bool cl.backed]) rfl rfl ?_
  clear hfr hst
  intro a w7 hfr hst
  refine wl_v hfr (by decide) (v_assign rfl) ?_
  clear hfr
  intro a hfr
  refine wl_nil (hK5 _ _ ?_)
  replace hfr : Fr 133 [(1, _), (2, _), (6, _), (8, _), (9, _), (10, _)] [] a := hfr.pick [1, 2, 6, 8, 9, 10]
  replace hst : St No w0 [_, _, _] w7 := hst.mask [true, true, true, false]
  refine wc_seq_region fun K6 hK6 => ?_
  refine wl_v hfr (by decide) (v_load_all (hst.get (k := 1) rfl) rfl (Try.isAgg29 _) (Try.sizeOf29 _)) ?_
  clear hfr
  intro a hfr
  refine wl_v hfr (by decide) (v_load_all (hst.get (k := 0) rfl) rfl (Try.isAgg31 _) (Try.sizeOf31 _)) ?_
  clear hfr
  intro a hfr
  refine wl_callp hfr hst (by decide) Try.call13 rfl (ends2 hr hc hen (ends_ok rl cl _)) ?_
  clear hfr hst
  intro a w8 hfr hst
  refine wl_v hfr (by decide) (v_move rfl) ?_
  clear hfr
  intro a hfr
  refine wl_v hfr (by decide) (v_extract rfl rfl) ?_
  clear hfr
  intro a hfr
  refine wl_v hfr (by decide) (v_extract rfl rfl) ?_
  clear hfr
  intro a hfr
  refine wl_v hfr (by decide) (v_assign rfl) ?_
  clear hfr
  intro a hfr
  refine wl_v hfr (by decide) (v_assign rfl) ?_
  clear hfr
  intro a hfr
  refine wl_nil (hK6 _ _ ?_)
  replace hfr : Fr 133 [(1, _), (2, _), (6, _), (8, _), (9, _), (10, _), (11, _), (12, _)] [] a := hfr.pick [1, 2, 6, 8, 9, 10, 11, 12]
  refine wc_seq_region fun K7 hK7 => ?_
  refine wl_v hfr (by decide) (v_load_all (hst.get (k := 1) rfl) rfl (Try.isAgg29 _) (Try.sizeOf29 _)) ?_
  clear hfr
  intro a hfr
  refine wl_v hfr (by decide) (v_load_all (hst.get (k := 0) rfl) rfl (Try.isAgg31 _) (Try.sizeOf31 _)) ?_
  clear hfr
  intro a hfr
  refine wl_v hfr (by decide) (v_move rfl) ?_
  clear hfr
  intro a hfr
  refine wl_v hfr (by decide) (v_move rfl) ?_
  clear hfr
  intro a hfr
  refine wl_callp hfr hst (by decide) Try.call14 rfl (outcome2 (s := so) (ho en (by omega)) (outcome_ok rl cl v1 l en _ (hst.ownAt (i := 2) rfl) hv (by simp [isIn]; omega))) ?_
  clear hfr hst
  intro a w9 hfr hst
  refine wl_v hfr (by decide) (v_move rfl) ?_
  clear hfr
  intro a hfr
  refine wl_v hfr (by decide) (v_extract rfl rfl) ?_
  clear hfr
  intro a hfr
  refine wl_v hfr (by decide) (v_extract rfl rfl) ?_
  clear hfr
  intro a hfr
  refine wl_alloc hfr hst (by decide) (Try.zeroValue39 _) (cs := [.int .i64 0, .int .i64 0, .int .i64 0]) rfl ?_
  clear hfr hst
  intro a w10 hfr hst
  refine wl_store 0 hfr hst rfl rfl rfl (Try.sizeOf39 _) rfl (Nat.le_of_ble_eq_true rfl) (ds := [.int .i64 so.state, .int .i64 so.since, .int .i64 so.next]) rfl rfl ?_
  clear hfr hst
  intro a w11 hfr hst
  refine wl_v hfr (by decide) (v_assign rfl) ?_
  clear hfr
  intro a hfr
  refine wl_nil (hK7 _ _ ?_)
  replace hfr : Fr 133 [(1, _), (2, _), (6, _), (8, _), (9, _), (10, _), (11, _), (12, _), (13, _), (14, _)] [] a := hfr.pick [1, 2, 6, 8, 9, 10, 11, 12, 13, 14]
  refine wc_seq_k fun K8 hK8 => ?_
  refine wc_of_dr (by kernel_rfl) (dr_of_wd (by kernel_rfl) fun w12 hxz => ?_)
  replace hst : St No w0 [blk w9.heap.size [.int .i64 so.state, .int .i64 so.since, .int .i64 so.next] 39, blk w4.heap.size [.int .i64 cl.number, .int .i64 cl.frm, .int .i64 cl.to, .int .i64 cl.holder, .int .i64 cl.asked, .bool cl.backed] 31, blk w3.heap.size [.int .i64 rl.answer, .int .i64 rl.cooling, .int .i64 rl.settle, .int .i64 rl.reverse] 29, own v1 45 3 (l.map Evt.cells)] w12 := hst.grow hxz
  refine wd_sub (k := 0) 13 [10, 12] hfr (by kernel_rfl) (by kernel_rfl) (by kernel_rfl) (by rfl) ?_
  replace hfr : Fr 133 [(1, _), (2, _), (6, _), (8, _), (9, _), (10, _), (11, _), (12, _), (13, _), (14, _)] [] a := hfr.pick [1, 2, 6, 8, 9, 10, 11, 12, 13, 14]
  refine wc_phases_new 11 12 39 [.int .i64 0, .int .i64 0, .int .i64 0] [.int .i64 so.state, .int .i64 so.since, .int .i64 so.next] 13 [[], [], [], [], [], [4], [3, 5], [0, 1, 2, 6], [7], [8], [8], [], [9, 11]] (fun i => match i with | 0 => pv (.agg #[.int .i64 rl.answer, .int .i64 rl.cooling, .int .i64 rl.settle, .int .i64 rl.reverse]) | 1 => pv (.agg #[.int .i64 cl.number, .int .i64 cl.frm, .int .i64 cl.to, .int .i64 cl.holder, .int .i64 cl.asked, .bool cl.backed]) | 2 => pv (v1) | 3 => pv (.int .i64 en) | 4 => pv (.int .i64 later) | 5 => pv (.int .i64 pl) | 6 => pv (.int .i64 (en + pl)) | 7 => pv (.tuple #[.agg #[.int .i64 so.state, .int .i64 so.since, .int .i64 so.next], .int .i64 0]) | 8 => pv (.tuple #[.agg #[.int .i64 so.state, .int .i64 so.since, .int .i64 so.next], .int .i64 0]) | 9 => pv (.agg #[.int .i64 so.state, .int .i64 so.since, .int .i64 so.next]) | 10 => pv (.int .i64 0) | 11 => fun v E => ∃ b, v = ptr b ∧ E = [] | 12 => fun v E => v = undef ∧ E = [] | _ => fun _ _ => False) hfr (H := [blk w9.heap.size [.int .i64 so.state, .int .i64 so.since, .int .i64 so.next] 39, blk w4.heap.size [.int .i64 cl.number, .int .i64 cl.frm, .int .i64 cl.to, .int .i64 cl.holder, .int .i64 cl.asked, .bool cl.backed] 31, blk w3.heap.size [.int .i64 rl.answer, .int .i64 rl.cooling, .int .i64 rl.settle, .int .i64 rl.reverse] 29, own v1 45 3 (l.map Evt.cells)]) hst (by kernel_rfl) (by kernel_rfl) (by kernel_rfl) (by kernel_rfl) (by decide) (by decide) (by decide) (by decide) (by decide) ?_ (fun v E h => h) ⟨rfl, rfl⟩ (fun v E => Iff.rfl) ?_ ?_ ?_ ?_
  · intro i v E h
    match i, h with
    | 0, _ => exact by decide
    | 1, _ => exact by decide
    | 2, _ => exact by decide
    | 3, _ => exact by decide
    | 4, _ => exact by decide
    | 5, _ => exact by decide
    | 6, _ => exact by decide
    | 7, _ => exact by decide
    | 8, _ => exact by decide
    | 9, _ => exact by decide
    | 10, _ => exact by decide
    | 11, _ => exact by decide
    | 12, _ => exact by decide
    | i + 13, h => exact h.elim
  · intro i hi hia hij e
    match i, hi, hia, hij with
    | 0, _, _, _ =>
      intro w hst
      exact OpV.g (v_load_all (hst.get (k := 3) rfl) rfl (Try.isAgg29 _) (Try.sizeOf29 _))
    | 1, _, _, _ =>
      intro w hst
      exact OpV.g (v_load_all (hst.get (k := 2) rfl) rfl (Try.isAgg31 _) (Try.sizeOf31 _))
    | 2, _, _, _ =>
      intro w hst
      exact OpV.g (v_move rfl)
    | 3, _, _, _ =>
      intro w hst
      exact OpV.g (v_move rfl)
    | 4, _, _, _ =>
      intro w hst
      exact OpV.g (v_move rfl)
    | 5, _, _, _ =>
      rintro _ _ ⟨rfl, rfl⟩
      intro w hst
      exact g_callp Try.call15 rfl (pick2 hpl (pick16_ok _ _ _ (by omega) (by omega) (by omega) (by omega)))
    | 6, _, _, _ =>
      rintro _ _ ⟨rfl, rfl⟩ _ _ ⟨rfl, rfl⟩
      intro w hst
      exact OpV.g (v_add rfl rfl ⟨by omega, by omega⟩)
    | 7, _, _, _ =>
      rintro _ _ ⟨rfl, rfl⟩ _ _ ⟨rfl, rfl⟩ _ _ ⟨rfl, rfl⟩ _ _ ⟨rfl, rfl⟩
      intro w hst
      exact g_callp Try.call14 rfl (outcome2 (s := so) (ho _ (by omega)) (outcome_ok rl cl v1 l (en + pl) _ (hst.ownAt (i := 4) rfl) hv (by simp [isIn]; omega)))
    | 8, _, _, _ =>
      rintro _ _ ⟨rfl, rfl⟩
      intro w hst
      exact OpV.g (v_move rfl)
    | 9, _, _, _ =>
      rintro _ _ ⟨rfl, rfl⟩
      intro w hst
      exact OpV.g (v_extract rfl rfl)
    | 10, _, _, _ =>
      rintro _ _ ⟨rfl, rfl⟩
      intro w hst
      exact OpV.g (v_extract rfl rfl)
    | 11, _, h, _ => exact absurd rfl h
    | 12, _, _, h => exact absurd rfl h
    | i + 13, h, _, _ => exact absurd h (by omega)
  · exact fun Lv w => r_alloc (Try.zeroValue39 _)
  · rintro _ _ ⟨rfl, rfl⟩ _ _ ⟨b3, rfl, rfl⟩
    intro b hb w h
    have hb : some (ptr b3) = some (ptr b) := hb
    cases hb
    exact r_storeU rfl rfl h (Try.sizeOf39 _) rfl (Nat.le_of_ble_eq_true rfl) rfl
  clear hfr hst
  rintro bq _ _ ⟨⟨rfl, rfl⟩, -⟩ _ _ ⟨⟨rfl, rfl⟩, -⟩ _ _ ⟨⟨rfl, rfl⟩, -⟩ _ _ ⟨⟨rfl, rfl⟩, -⟩ _ _ ⟨⟨rfl, rfl⟩, -⟩ _ _ ⟨⟨rfl, rfl⟩, -⟩ _ _ ⟨⟨rfl, rfl⟩, -⟩ _ _ ⟨⟨rfl, rfl⟩, -⟩ _ _ ⟨⟨rfl, rfl⟩, -⟩ _ _ ⟨⟨rfl, rfl⟩, -⟩ _ _ ⟨⟨rfl, rfl⟩, -⟩ _ _ ⟨⟨b3, rfl, rfl⟩, hva⟩ a w13 hfr hst
  obtain rfl : b3 = bq := ptr_inj (hva rfl)
  replace hfr : Fr 133 [(46, _), (47, _), (48, _), (49, _), (50, _), (51, _), (52, _), (53, _), (45, _), (54, _), (55, _), (15, _), (1, _), (2, _), (6, _), (8, _), (9, _), (10, _), (11, _), (12, _), (13, _), (14, _)] [] a := hfr
  replace hst : St No w0 [blk b3 [.int .i64 so.state, .int .i64 so.since, .int .i64 so.next] 39, blk w9.heap.size [.int .i64 so.state, .int .i64 so.since, .int .i64 so.next] 39, blk w4.heap.size [.int .i64 cl.number, .int .i64 cl.frm, .int .i64 cl.to, .int .i64 cl.holder, .int .i64 cl.asked, .bool cl.backed] 31, blk w3.heap.size [.int .i64 rl.answer, .int .i64 rl.cooling, .int .i64 rl.settle, .int .i64 rl.reverse] 29, own v1 45 3 (l.map Evt.cells)] w13 := hst
  refine wl_nil ?_
  refine wd_lin (k := 13) 14 [13] (by kernel_rfl) (by kernel_rfl) (by kernel_rfl) ?_
  refine wl_v hfr (by decide) (v_assign rfl) ?_
  clear hfr
  intro a hfr
  refine wl_nil ?_
  refine wd_end (by kernel_rfl) ?_
  refine hK8 _ _ ?_
  replace hfr : Fr 133 [(2, _), (6, _), (8, _), (9, _), (11, _), (12, _), (13, _), (14, _), (15, _), (16, _)] [] a := hfr.pick [2, 6, 8, 9, 11, 12, 13, 14, 15, 16]
  replace hst : St No w0 [_, _, _, _] w13 := hst.mask [true, true, true, true, false]
  refine wc_seq_k fun K9 hK9 => ?_
  refine wc_seq_region fun K10 hK10 => ?_
  refine wl_v hfr (by decide) (v_move rfl) ?_
  clear hfr
  intro a hfr
  refine wl_v hfr (by decide) ((v_ne rfl rfl).asb (b' := false) rfl) ?_
  clear hfr
  intro a hfr
  refine wl_v hfr (by decide) (v_move rfl) ?_
  clear hfr
  intro a hfr
  refine wl_vy hfr (by decide) rfl (by decide) rfl (v_move rfl) ?_
  clear hfr
  intro a hfr
  refine wl_vy hfr (by decide) rfl (by decide) rfl ((v_ne rfl rfl).asb (b' := false) rfl) ?_
  clear hfr
  intro a hfr
  refine wl_v hfr (by decide) (v_pick_f rfl rfl) ?_
  clear hfr
  intro a hfr
  refine wl_v hfr (by decide) (v_move rfl) ?_
  clear hfr
  intro a hfr
  refine wl_vy hfr (by decide) rfl (by decide) rfl (v_move rfl) ?_
  clear hfr
  intro a hfr
  refine wl_vy hfr (by decide) rfl (by decide) rfl ((v_ne rfl rfl).asb (b' := false) rfl) ?_
  clear hfr
  intro a hfr
  refine wl_v hfr (by decide) (v_pick_f rfl rfl) ?_
  clear hfr
  intro a hfr
  refine wl_v hfr (by decide) (v_move rfl) ?_
  clear hfr
  intro a hfr
  refine wl_vy hfr (by decide) rfl (by decide) rfl (v_load_all (hst.get (k := 1) rfl) rfl (Try.isAgg39 _) (Try.sizeOf39 _)) ?_
  clear hfr
  intro a hfr
  refine wl_callpy hfr hst (by decide) rfl (by decide) rfl Try.call16 rfl (ret_lit (y := .bool true) (closed_ok so _) (by simp [so1]; omega)) ?_
  clear hfr hst
  intro a w14 hfr hst
  refine wl_vy hfr (by decide) rfl (by decide) rfl ((v_not rfl).asb (b' := false) rfl) ?_
  clear hfr
  intro a hfr
  refine wl_v hfr (by decide) (v_pick_f rfl rfl) ?_
  clear hfr
  intro a hfr
  refine wl_v hfr (by decide) (v_move rfl) ?_
  clear hfr
  intro a hfr
  refine wl_vy hfr (by decide) rfl (by decide) rfl (v_load_all (hst.get (k := 1) rfl) rfl (Try.isAgg39 _) (Try.sizeOf39 _)) ?_
  clear hfr
  intro a hfr
  refine wl_vy hfr (by decide) rfl (by decide) rfl (v_load_all (hst.get (k := 0) rfl) rfl (Try.isAgg39 _) (Try.sizeOf39 _)) ?_
  clear hfr
  intro a hfr
  refine wl_vy hfr (by decide) rfl (by decide) rfl ((v_ne_agg rfl rfl (by kernel_rfl) (eqStt so.state so.since so.next so.state so.since so.next _)).asb (b' := false) (by simp)) ?_
  clear hfr
  intro a hfr
  refine wl_v hfr (by decide) (v_pick_f rfl rfl) ?_
  clear hfr
  intro a hfr
  refine wl_v hfr (by decide) (v_move rfl) ?_
  clear hfr
  intro a hfr
  refine wl_vy hfr (by decide) rfl (by decide) rfl (v_fieldAddr (v := .pointer (some ⟨w9.heap.size, 1, none⟩)) rfl (by kernel_rfl)) ?_
  clear hfr
  intro a hfr
  refine wl_vy hfr (by decide) rfl (by decide) rfl (v_load_blk1 (hst.get (k := 1) rfl) rfl (Try.isAgg3 _) rfl) ?_
  clear hfr
  intro a hfr
  refine wl_vy hfr (by decide) rfl (by decide) rfl (v_move rfl) ?_
  clear hfr
  intro a hfr
  refine wl_vy hfr (by decide) rfl (by decide) rfl ((v_gt rfl rfl).asb (b' := false) (by simp; omega)) ?_
  clear hfr
  intro a hfr
  refine wl_v hfr (by decide) (v_pick_f rfl rfl) ?_
  clear hfr
  intro a hfr
  refine wl_nil (hK10 _ _ ?_)
  replace hfr : Fr 133 [(2, _), (6, _), (8, _), (9, _), (11, _), (81, _)] [] a := hfr.pick [2, 6, 8, 9, 11, 81]
  replace hst : St No w0 [_, _] w14 := hst.mask [false, false, true, true]
  refine wc_cond_f hfr rfl ?_
  refine wc_skip ?_
  refine hK9 _ _ ?_
  refine wc_seq_k fun K11 hK11 => ?_
  refine wc_of_dr (by kernel_rfl) (dr_of_wd (by kernel_rfl) fun w15 hxz => ?_)
  replace hst : St No w0 [blk w4.heap.size [.int .i64 cl.number, .int .i64 cl.frm, .int .i64 cl.to, .int .i64 cl.holder, .int .i64 cl.asked, .bool cl.backed] 31, blk w3.heap.size [.int .i64 rl.answer, .int .i64 rl.cooling, .int .i64 rl.settle, .int .i64 rl.reverse] 29] w15 := hst.grow hxz
  refine wd_sub (k := 0) 9 [5, 8] hfr (by kernel_rfl) (by kernel_rfl) (by kernel_rfl) (by rfl) ?_
  replace hfr : Fr 133 [(2, _), (6, _), (8, _), (9, _), (11, _), (81, _)] [] a := hfr.pick [2, 6, 8, 9, 11, 81]
  refine wc_phases' 9 [[], [0], [], [2], [1, 3], [4], [], [6], [7]] (fun i => match i with | 0 => pv (.pointer (some ⟨w4.heap.size, 4, none⟩)) | 1 => pv (.int .i64 cl.asked) | 2 => pv (.pointer (some ⟨w3.heap.size, 0, none⟩)) | 3 => pv (.int .i64 rl.answer) | 4 => pv (.int .i64 (cl.asked + rl.answer)) | 5 => pv (.int .i64 ((cl.asked + rl.answer) - 1)) | 6 => pv (.int .i64 reason) | 7 => pv (.int .i64 pr) | 8 => pv (.int .i64 (2 + pr)) | _ => fun _ _ => False) hfr hst (by kernel_rfl) (by kernel_rfl) ?_ ?_
  · intro i hi
    match i, hi with
    | 0, _ =>
      intro w hst
      exact OpV.g (v_fieldAddr (v := .pointer (some ⟨w4.heap.size, 4, none⟩)) rfl (by kernel_rfl))
    | 1, _ =>
      rintro _ _ ⟨rfl, rfl⟩
      intro w hst
      exact OpV.g (v_load_blk1 (hst.get (k := 0) rfl) rfl (Try.isAgg3 _) rfl)
    | 2, _ =>
      intro w hst
      exact OpV.g (v_fieldAddr (v := .pointer (some ⟨w3.heap.size, 0, none⟩)) rfl (by kernel_rfl))
    | 3, _ =>
      rintro _ _ ⟨rfl, rfl⟩
      intro w hst
      exact OpV.g (v_load_blk1 (hst.get (k := 1) rfl) rfl (Try.isAgg3 _) rfl)
    | 4, _ =>
      rintro _ _ ⟨rfl, rfl⟩ _ _ ⟨rfl, rfl⟩
      intro w hst
      exact OpV.g (v_add rfl rfl ⟨by omega, by omega⟩)
    | 5, _ =>
      rintro _ _ ⟨rfl, rfl⟩
      intro w hst
      exact OpV.g (v_sub rfl rfl ⟨by omega, by omega⟩)
    | 6, _ =>
      intro w hst
      exact OpV.g (v_move rfl)
    | 7, _ =>
      rintro _ _ ⟨rfl, rfl⟩
      intro w hst
      exact g_callp Try.call15 rfl (pick2 hpr (pick16_ok _ _ _ (by omega) (by omega) (by omega) (by omega)))
    | 8, _ =>
      rintro _ _ ⟨rfl, rfl⟩
      intro w hst
      exact OpV.g (v_add rfl rfl ⟨by omega, by omega⟩)
  clear hfr hst
  rintro _ _ ⟨rfl, rfl⟩ _ _ ⟨rfl, rfl⟩ _ _ ⟨rfl, rfl⟩ _ _ ⟨rfl, rfl⟩ _ _ ⟨rfl, rfl⟩ _ _ ⟨rfl, rfl⟩ _ _ ⟨rfl, rfl⟩ _ _ ⟨rfl, rfl⟩ _ _ ⟨rfl, rfl⟩ a w16 hfr hst
  replace hfr : Fr 133 [(82, _), (83, _), (84, _), (85, _), (86, _), (87, _), (88, _), (89, _), (90, _), (2, _), (6, _), (8, _), (9, _), (11, _), (81, _)] [] a := hfr
  replace hst : St No w0 [_, _] w16 := hst
  refine wl_nil ?_
  refine wd_lin (k := 9) 12 [11] (by kernel_rfl) (by kernel_rfl) (by kernel_rfl) ?_
  refine wl_v hfr (by decide) (v_build (v := .agg #[.int .i64 2, .int .i64 ((cl.asked + rl.answer) - 1), .int .i64 (2 + pr)]) rfl (by kernel_rfl)) ?_
  clear hfr
  intro a hfr
  refine wl_buildSlice (E := 45) (sz := 3) rfl [[.int .i64 2, .int .i64 ((cl.asked + rl.answer) - 1), .int .i64 (2 + pr)]] (by kernel_rfl) (by simp) rfl (by decide) (by decide) hfr hst ?_
  clear hfr hst
  intro a w17 hfr hst
  refine wl_v hfr (by decide) (v_assign rfl) ?_
  clear hfr
  intro a hfr
  refine wl_nil ?_
  refine wd_end (by kernel_rfl) ?_
  refine hK11 _ _ ?_
  replace hfr : Fr 133 [(6, _), (8, _), (9, _), (11, _), (17, _)] [] a := hfr.pick [6, 8, 9, 11, 17]
  refine wc_seq_region fun K12 hK12 => ?_
  refine wl_v hfr (by decide) (v_load_all (hst.get (k := 2) rfl) rfl (Try.isAgg29 _) (Try.sizeOf29 _)) ?_
  clear hfr
  intro a hfr
  refine wl_v hfr (by decide) (v_load_all (hst.get (k := 1) rfl) rfl (Try.isAgg31 _) (Try.sizeOf31 _)) ?_
  clear hfr
  intro a hfr
  refine wl_v hfr (by decide) (v_move rfl) ?_
  clear hfr
  intro a hfr
  refine wl_v hfr (by decide) (v_move rfl) ?_
  clear hfr
  intro a hfr
  refine wl_callp hfr hst (by decide) Try.call14 rfl (outcome2 (s := ⟨5, en, -1⟩) (by rw [out5e (statuses_object hr hc (q := 2 + pr) (by omega)) (by simp only; omega) (by simp only; omega) (by simp only; omega) (by simp only; omega) (by simp only; omega), hen]) (outcome_ok rl cl (.slice (some ⟨w16.heap.size, 0, none⟩) 1 1) [⟨2, (cl.asked + rl.answer) - 1, 2 + pr⟩] en _ (hst.ownAt (i := 0) rfl) (hvo) (by simp [isIn]; omega))) ?_
  clear hfr hst
  intro a w18 hfr hst
  refine wl_v hfr (by decide) (v_move rfl) ?_
  clear hfr
  intro a hfr
  refine wl_v hfr (by decide) (v_extract rfl rfl) ?_
  clear hfr
  intro a hfr
  refine wl_v hfr (by decide) (v_extract rfl rfl) ?_
  clear hfr
  intro a hfr
  refine wl_alloc hfr hst (by decide) (Try.zeroValue39 _) (cs := [.int .i64 0, .int .i64 0, .int .i64 0]) rfl ?_
  clear hfr hst
  intro a w19 hfr hst
  refine wl_store 0 hfr hst rfl rfl rfl (Try.sizeOf39 _) rfl (Nat.le_of_ble_eq_true rfl) (ds := [.int .i64 5, .int .i64 en, .int .i64 (-1)]) rfl rfl ?_
  clear hfr hst
  intro a w20 hfr hst
  refine wl_v hfr (by decide) (v_assign rfl) ?_
  clear hfr
  intro a hfr
  refine wl_nil (hK12 _ _ ?_)
  replace hfr : Fr 133 [(6, _), (8, _), (9, _), (11, _), (17, _), (18, _), (19, _)] [] a := hfr.pick [6, 8, 9, 11, 17, 18, 19]
  refine wc_seq_region fun K13 hK13 => ?_
  refine wl_v hfr (by decide) (v_load_all (hst.get (k := 3) rfl) rfl (Try.isAgg29 _) (Try.sizeOf29 _)) ?_
  clear hfr
  intro a hfr
  refine wl_v hfr (by decide) (v_load_all (hst.get (k := 2) rfl) rfl (Try.isAgg31 _) (Try.sizeOf31 _)) ?_
  clear hfr
  intro a hfr
  refine wl_v hfr (by decide) (v_move rfl) ?_
  clear hfr
  intro a hfr
  refine wl_v hfr (by decide) (v_move rfl) ?_
  clear hfr
  intro a hfr
  refine wl_v hfr (by decide) (v_sub rfl rfl ⟨by omega, by omega⟩) ?_
  clear hfr
  intro a hfr
  refine wl_callp hfr hst (by decide) Try.call14 rfl (outcome2 (s := ⟨4, cl.asked + rl.answer - 1 + rl.settle + rl.cooling, en⟩) (by rw [out4 (statuses_object hr hc (q := 2 + pr) (by omega)) (by simp only; omega) (by simp only; omega) (by simp only; omega) (by simp only; omega) (by simp only; omega), hen]) (outcome_ok rl cl (.slice (some ⟨w16.heap.size, 0, none⟩) 1 1) [⟨2, (cl.asked + rl.answer) - 1, 2 + pr⟩] (en - 1) _ (hst.ownAt (i := 1) rfl) (hvo) (by simp [isIn]; omega))) ?_
  clear hfr hst
  intro a w21 hfr hst
  refine wl_v hfr (by decide) (v_move rfl) ?_
  clear hfr
  intro a hfr
  refine wl_v hfr (by decide) (v_extract rfl rfl) ?_
  clear hfr
  intro a hfr
  refine wl_v hfr (by decide) (v_extract rfl rfl) ?_
  clear hfr
  intro a hfr
  refine wl_alloc hfr hst (by decide) (Try.zeroValue39 _) (cs := [.int .i64 0, .int .i64 0, .int .i64 0]) rfl ?_
  clear hfr hst
  intro a w22 hfr hst
  refine wl_store 0 hfr hst rfl rfl rfl (Try.sizeOf39 _) rfl (Nat.le_of_ble_eq_true rfl) (ds := [.int .i64 4, .int .i64 (cl.asked + rl.answer - 1 + rl.settle + rl.cooling), .int .i64 en]) rfl rfl ?_
  clear hfr hst
  intro a w23 hfr hst
  refine wl_v hfr (by decide) (v_assign rfl) ?_
  clear hfr
  intro a hfr
  refine wl_nil (hK13 _ _ ?_)
  replace hfr : Fr 133 [(6, _), (11, _), (18, _), (19, _), (20, _), (21, _)] [] a := hfr.pick [6, 11, 18, 19, 20, 21]
  replace hst : St No w0 [_, _] w23 := hst.mask [true, true, false, false, false]
  refine wc_seq_region fun K14 hK14 => ?_
  refine wl_v hfr (by decide) (v_move rfl) ?_
  clear hfr
  intro a hfr
  refine wl_v hfr (by decide) ((v_eq rfl rfl).asb (b' := true) rfl) ?_
  clear hfr
  intro a hfr
  refine wl_v hfr (by decide) (v_move rfl) ?_
  clear hfr
  intro a hfr
  refine wl_vy hfr (by decide) rfl (by decide) rfl (v_move rfl) ?_
  clear hfr
  intro a hfr
  refine wl_vy hfr (by decide) rfl (by decide) rfl ((v_eq rfl rfl).asb (b' := true) rfl) ?_
  clear hfr
  intro a hfr
  refine wl_v hfr (by decide) (v_pick_t rfl rfl) ?_
  clear hfr
  intro a hfr
  refine wl_v hfr (by decide) (v_move rfl) ?_
  clear hfr
  intro a hfr
  refine wl_vy hfr (by decide) rfl (by decide) rfl (v_load_all (hst.get (k := 1) rfl) rfl (Try.isAgg39 _) (Try.sizeOf39 _)) ?_
  clear hfr
  intro a hfr
  refine wl_vy hfr (by decide) rfl (by decide) rfl (v_move rfl) ?_
  clear hfr
  intro a hfr
  refine wl_vy hfr (by decide) rfl (by decide) rfl (v_build (v := .agg #[.int .i64 5, .int .i64 en, .int .i64 (-1)]) rfl (by kernel_rfl)) ?_
  clear hfr
  intro a hfr
  refine wl_vy hfr (by decide) rfl (by decide) rfl ((v_eq_agg rfl rfl (by kernel_rfl) (eqStt 5 en (-1) 5 en (-1) _)).asb (b' := true) (by simp)) ?_
  clear hfr
  intro a hfr
  refine wl_v hfr (by decide) (v_pick_t rfl rfl) ?_
  clear hfr
  intro a hfr
  refine wl_v hfr (by decide) (v_move rfl) ?_
  clear hfr
  intro a hfr
  refine wl_vy hfr (by decide) rfl (by decide) rfl (v_fieldAddr (v := .pointer (some ⟨w21.heap.size, 0, none⟩)) rfl (by kernel_rfl)) ?_
  clear hfr
  intro a hfr
  refine wl_vy hfr (by decide) rfl (by decide) rfl (v_load_blk1 (hst.get (k := 0) rfl) rfl (Try.isAgg3 _) rfl) ?_
  clear hfr
  intro a hfr
  refine wl_vy hfr (by decide) rfl (by decide) rfl ((v_eq rfl rfl).asb (b' := true) rfl) ?_
  clear hfr
  intro a hfr
  refine wl_v hfr (by decide) (v_pick_t rfl rfl) ?_
  clear hfr
  intro a hfr
  refine wl_v hfr (by decide) (v_move rfl) ?_
  clear hfr
  intro a hfr
  refine wl_vy hfr (by decide) rfl (by decide) rfl (v_fieldAddr (v := .pointer (some ⟨w21.heap.size, 2, none⟩)) rfl (by kernel_rfl)) ?_
  clear hfr
  intro a hfr
  refine wl_vy hfr (by decide) rfl (by decide) rfl (v_load_blk1 (hst.get (k := 0) rfl) rfl (Try.isAgg3 _) rfl) ?_
  clear hfr
  intro a hfr
  refine wl_vy hfr (by decide) rfl (by decide) rfl (v_move rfl) ?_
  clear hfr
  intro a hfr
  refine wl_vy hfr (by decide) rfl (by decide) rfl (v_eq rfl rfl) ?_
  clear hfr
  intro a hfr
  refine wl_v hfr (by decide) (v_pick_t rfl rfl) ?_
  clear hfr
  intro a hfr
  refine wl_v hfr (by decide) (v_assign rfl) ?_
  clear hfr
  intro a hfr
  refine wl_nil (hK14 _ _ ?_)
  replace hfr : Fr 133 [(6, _)] [] a := hfr.pick [6]
  replace hst : St No w0 [] w23 := hst.mask [false, false]
  refine wc_ret ?_
  refine fin_ret hfr Try.results3 (resAre_tmp rfl resAre_nil) ?_
  exact ⟨by simp [retv], hst.ext⟩

theorem timeline2 {rl : Rul} {cl : Clm} {l : List Evt} {ss : List Stt} {E : TypeId} {f : FuncId} {args : Array Value} {w : World} (hs : statuses rl cl l = ss) (h : Ret Try.prog f args w (MemR w (fun v : Value => .tuple #[v, .int .i64 0]) (fun v => [own v E 3 ((statuses rl cl l).map Stt.cells)]) (fun _ => True))) :
    Ret Try.prog f args w (MemR w (fun v : Value => .tuple #[v, .int .i64 0]) (fun v => [own v E 3 (ss.map Stt.cells)]) (fun _ => True)) := by subst hs; exact h

set_option maxHeartbeats 4000000 in
/-- dialtone/dialtonelaw16.ClaimConsents -/
theorem consents_walk (x0 x1 x2 x3 y0 y1 y2 y3 y4 y5 : Int) (xv : Value) (xs : List Tri) (w0 : World) (gf : isI64 x0 ∧ isI64 x1 ∧ isI64 x2 ∧ isI64 x3 ∧ isI64 y0 ∧ isI64 y1 ∧ isI64 y2 ∧ isI64 y3 ∧ isI64 y4 ∧ isI64 y5) (hxv : SlAt w0 xv 3 (xs.map Tri.cells)) (hfit : ∀ k, k < xs.length → (xs.getD k ⟨0, 0, 0⟩).fits) (one two : Int) (gone : isI64 one) (gtwo : isI64 two) :
    Ret Try.prog 7 #[.agg #[.int .i64 x0, .int .i64 x1, .int .i64 x2, .int .i64 x3, .int .i64 y0, .int .i64 y1, .int .i64 y2, .int .i64 y3, .int .i64 y4, .int .i64 y5, xv], .int .i64 one, .int .i64 two] w0 fun v w => v = .bool true ∧ Ext No w0 w := by
  obtain ⟨g0, g1, g2, g3, g4, g5, g6, g7, g8, g9⟩ := gf
  obtain ⟨rl, hrl⟩ : ∃ r, mkRul x0 x1 x2 x3 = r := ⟨_, rfl⟩
  obtain ⟨cl, hcl0⟩ : ∃ c, mkClm y0 y1 y2 y3 y4 y5 = c := ⟨_, rfl⟩
  have hr : areValid rl = true := hrl ▸ mkRul_valid x0 x1 x2 x3
  have hc : isClaim cl = true := hcl0 ▸ (mkClm_valid y0 y1 y2 y3 y4 y5).1
  have ha : cl.asked < 1000 := hcl0 ▸ (mkClm_valid y0 y1 y2 y3 y4 y5).2
  have hcl := isClaim_le hc
  have hrl1 := areValid_le hr
  have hrl2 := mkRul_day x0 x1 x2 x3
  rw [hrl] at hrl2
  obtain ⟨l, hl0⟩ : ∃ l, mkL rl cl xs = l := ⟨_, rfl⟩
  obtain ⟨hv, hl10⟩ : valid rl cl l = true ∧ l.length ≤ 10 := hl0 ▸ mkL_valid hr hc ha xs
  unfold isI64 at gone gtwo
  obtain ⟨pa, hpa⟩ : ∃ k, pick one rl.answer = k := ⟨_, rfl⟩
  have bpa := pick_lt one rl.answer (by omega)
  rw [hpa] at bpa
  obtain ⟨pb, hpb⟩ : ∃ k, pick two rl.answer = k := ⟨_, rfl⟩
  have bpb := pick_lt two rl.answer (by omega)
  rw [hpb] at bpb
  obtain ⟨ea, hea⟩ : ∃ k, min pa pb = k := ⟨_, rfl⟩
  obtain ⟨la, hla⟩ : ∃ k, max pa pb = k := ⟨_, rfl⟩
  have hea1 : 0 ≤ ea ∧ ea < rl.answer := by omega
  have hla1 : 0 ≤ la ∧ la < rl.answer := by omega
  refine ret_of Try.func7 rfl Try.ntmps7 (Nat.le_of_ble_eq_true rfl) fun a hfr => ?_
  replace hfr : Fr 152 [(0, _), (1, _), (2, _)] [] a := hfr
  replace hst : St No w0 [] w0 := St.init w0
  refine wc_seq_region fun K1 hK1 => ?_
  refine wl_box hfr hst (by decide) rfl (cs := [.int .i64 x0, .int .i64 x1, .int .i64 x2, .int .i64 x3, .int .i64 y0, .int .i64 y1, .int .i64 y2, .int .i64 y3, .int .i64 y4, .int .i64 y5, xv]) rfl ?_
  clear hfr hst
  intro a w1 hfr hst
  refine wl_v hfr (by decide) (v_assign rfl) ?_
  clear hfr
  intro a hfr
  refine wl_nil (hK1 _ _ ?_)
  refine wc_seq_region fun K2 hK2 => ?_
  refine wl_callp hfr hst (by decide) Try.call11 rfl (sane_ok _) ?_
  clear hfr hst
  intro a w2 hfr hst
  refine wl_v hfr (by decide) (v_assign rfl) ?_
  clear hfr
  intro a hfr
  refine wl_nil (hK2 _ _ ?_)
  refine wc_seq_k fun K3 hK3 => ?_
  refine wc_seq_region fun K4 hK4 => ?_
  refine wl_v hfr (by decide) (v_move rfl) ?_
  clear hfr
  intro a hfr
  refine wl_v hfr (by decide) ((v_not rfl).asb (b' := false) rfl) ?_
  clear hfr
  intro a hfr
  refine wl_nil (hK4 _ _ ?_)
  refine wc_cond_f hfr rfl ?_
  refine wc_skip ?_
  refine hK3 _ _ ?_
  refine wc_seq_region fun K5 hK5 => ?_
  refine wl_v hfr (by decide) (v_load_all (hst.get (k := 0) rfl) rfl (Try.isAgg26 _) (Try.sizeOf26 _)) ?_
  clear hfr
  intro a hfr
  refine wl_callm hfr hst (by decide) Try.call12 rfl (made2 hrl hcl0 hl0 (made_ok x0 x1 x2 x3 y0 y1 y2 y3 y4 y5 xv xs _ g0 g1 g2 g3 g4 g5 g6 g7 g8 g9 (hst.arg hxv) hfit)) ?_
  clear hfr hst
  intro a w3 x2 hp hfr hst
  revert x2 hp hfr hst; rintro v1 hp hfr hst
  clear hp
  replace hst : St No w0 [own v1 45 3 (l.map Evt.cells), blk w0.heap.size [.int .i64 x0, .int .i64 x1, .int .i64 x2, .int .i64 x3, .int .i64 y0, .int .i64 y1, .int .i64 y2, .int .i64 y3, .int .i64 y4, .int .i64 y5, xv] 26] w3 := hst
  refine wl_v hfr (by decide) (v_move rfl) ?_
  clear hfr
  intro a hfr
  refine wl_v hfr (by decide) (v_extract rfl rfl) ?_
  clear hfr
  intro a hfr
  refine wl_v hfr (by decide) (v_extract rfl rfl) ?_
  clear hfr
  intro a hfr
  refine wl_v hfr (by decide) (v_extract rfl rfl) ?_
  clear hfr
  intro a hfr
  refine wl_alloc hfr hst (by decide) (Try.zeroValue29 _) (cs := [.int .i64 0, .int .i64 0, .int .i64 0, .int .i64 0]) rfl ?_
  clear hfr hst
  intro a w4 hfr hst
  refine wl_alloc hfr hst (by decide) (Try.zeroValue31 _) (cs := [.int .i64 0, .int .i64 0, .int .i64 0, .int .i64 0, .int .i64 0, .bool false]) rfl ?_
  clear hfr hst
  intro a w5 hfr hst
  refine wl_store 1 hfr hst rfl rfl rfl (Try.sizeOf29 _) rfl (Nat.le_of_ble_eq_true rfl) (ds := [.int .i64 rl.answer, .int .i64 rl.cooling, .int .i64 rl.settle, .int .i64 rl.reverse]) rfl rfl ?_
  clear hfr hst
  intro a w6 hfr hst
  refine wl_store 0 hfr hst rfl rfl rfl (Try.sizeOf31 _) rfl (Nat.le_of_ble_eq_true rfl) (ds := [.int .i64 cl.number, .int .i64 cl.frm, .int .i64 cl.to, .int .i64 cl.holder, .int .i64 cl.asked, .bool cl.backed]) rfl rfl ?_
  clear hfr hst
  intro a w7 hfr hst
  refine wl_v hfr (by decide) (v_assign rfl) ?_
  clear hfr
  intro a hfr
  refine wl_nil (hK5 _ _ ?_)
  replace hfr : Fr 152 [(1, _), (2, _), (6, _), (8, _), (9, _)] [] a := hfr.pick [1, 2, 6, 8, 9]
  replace hst : St No w0 [_, _] w7 := hst.mask [true, true, false, false]
  refine wc_seq_k fun K6 hK6 => ?_
  refine wc_of_dr (by kernel_rfl) (dr_of_wd (by kernel_rfl) fun w8 hxz => ?_)
  replace hst : St No w0 [blk w4.heap.size [.int .i64 cl.number, .int .i64 cl.frm, .int .i64 cl.to, .int .i64 cl.holder, .int .i64 cl.asked, .bool cl.backed] 31, blk w3.heap.size [.int .i64 rl.answer, .int .i64 rl.cooling, .int .i64 rl.settle, .int .i64 rl.reverse] 29] w8 := hst.grow hxz
  refine wd_sub (k := 0) 7 [3, 4, 6] hfr (by kernel_rfl) (by kernel_rfl) (by kernel_rfl) (by rfl) ?_
  replace hfr : Fr 152 [(1, _), (2, _), (6, _), (8, _), (9, _)] [] a := hfr.pick [1, 2, 6, 8, 9]
  refine wc_phases' 7 [[], [], [1], [0, 2], [], [], [5]] (fun i => match i with | 0 => pv (.int .i64 one) | 1 => pv (.pointer (some ⟨w3.heap.size, 0, none⟩)) | 2 => pv (.int .i64 rl.answer) | 3 => pv (.int .i64 pa) | 4 => pv (.int .i64 two) | 5 => pv (.pointer (some ⟨w3.heap.size, 0, none⟩)) | 6 => pv (.int .i64 rl.answer) | _ => fun _ _ => False) hfr hst (by kernel_rfl) (by kernel_rfl) ?_ ?_
  · intro i hi
    match i, hi with
    | 0, _ =>
      intro w hst
      exact OpV.g (v_move rfl)
    | 1, _ =>
      intro w hst
      exact OpV.g (v_fieldAddr (v := .pointer (some ⟨w3.heap.size, 0, none⟩)) rfl (by kernel_rfl))
    | 2, _ =>
      rintro _ _ ⟨rfl, rfl⟩
      intro w hst
      exact OpV.g (v_load_blk1 (hst.get (k := 1) rfl) rfl (Try.isAgg3 _) rfl)
    | 3, _ =>
      rintro _ _ ⟨rfl, rfl⟩ _ _ ⟨rfl, rfl⟩
      intro w hst
      exact g_callp Try.call15 rfl (pick2 hpa (pick16_ok _ _ _ (by omega) (by omega) (by omega) (by omega)))
    | 4, _ =>
      intro w hst
      exact OpV.g (v_move rfl)
    | 5, _ =>
      intro w hst
      exact OpV.g (v_fieldAddr (v := .pointer (some ⟨w3.heap.size, 0, none⟩)) rfl (by kernel_rfl))
    | 6, _ =>
      rintro _ _ ⟨rfl, rfl⟩
      intro w hst
      exact OpV.g (v_load_blk1 (hst.get (k := 1) rfl) rfl (Try.isAgg3 _) rfl)
  clear hfr hst
  rintro _ _ ⟨rfl, rfl⟩ _ _ ⟨rfl, rfl⟩ _ _ ⟨rfl, rfl⟩ _ _ ⟨rfl, rfl⟩ _ _ ⟨rfl, rfl⟩ _ _ ⟨rfl, rfl⟩ _ _ ⟨rfl, rfl⟩ a w9 hfr hst
  replace hfr : Fr 152 [(27, _), (28, _), (29, _), (30, _), (31, _), (32, _), (33, _), (1, _), (2, _), (6, _), (8, _), (9, _)] [] a := hfr
  replace hst : St No w0 [_, _] w9 := hst
  refine wl_nil ?_
  refine wd_lin (k := 7) 10 [9] (by kernel_rfl) (by kernel_rfl) (by kernel_rfl) ?_
  refine wl_callp hfr hst (by decide) Try.call15 rfl (pick2 hpb (pick16_ok _ _ _ (by omega) (by omega) (by omega) (by omega))) ?_
  clear hfr hst
  intro a w10 hfr hst
  refine wl_v hfr (by decide) (v_min2 rfl rfl) ?_
  clear hfr
  intro a hfr
  refine wl_v hfr (by decide) (v_assign rfl) ?_
  clear hfr
  intro a hfr
  refine wl_nil ?_
  refine wd_end (by kernel_rfl) ?_
  refine hK6 _ _ ?_
  replace hfr : Fr 152 [(1, _), (2, _), (6, _), (8, _), (9, _), (11, _)] [] a := hfr.pick [1, 2, 6, 8, 9, 11]
  refine wc_seq_k fun K7 hK7 => ?_
  rw [hea] at hfr
  refine wc_of_dr (by kernel_rfl) (dr_of_wd (by kernel_rfl) fun w11 hxz => ?_)
  replace hst : St No w0 [blk w4.heap.size [.int .i64 cl.number, .int .i64 cl.frm, .int .i64 cl.to, .int .i64 cl.holder, .int .i64 cl.asked, .bool cl.backed] 31, blk w3.heap.size [.int .i64 rl.answer, .int .i64 rl.cooling, .int .i64 rl.settle, .int .i64 rl.reverse] 29] w11 := hst.grow hxz
  refine wd_sub (k := 0) 7 [3, 4, 6] hfr (by kernel_rfl) (by kernel_rfl) (by kernel_rfl) (by rfl) ?_
  replace hfr : Fr 152 [(1, _), (2, _), (6, _), (8, _), (9, _), (11, _)] [] a := hfr.pick [1, 2, 6, 8, 9, 11]
  refine wc_phases' 7 [[], [], [1], [0, 2], [], [], [5]] (fun i => match i with | 0 => pv (.int .i64 one) | 1 => pv (.pointer (some ⟨w3.heap.size, 0, none⟩)) | 2 => pv (.int .i64 rl.answer) | 3 => pv (.int .i64 pa) | 4 => pv (.int .i64 two) | 5 => pv (.pointer (some ⟨w3.heap.size, 0, none⟩)) | 6 => pv (.int .i64 rl.answer) | _ => fun _ _ => False) hfr hst (by kernel_rfl) (by kernel_rfl) ?_ ?_
  · intro i hi
    match i, hi with
    | 0, _ =>
      intro w hst
      exact OpV.g (v_move rfl)
    | 1, _ =>
      intro w hst
      exact OpV.g (v_fieldAddr (v := .pointer (some ⟨w3.heap.size, 0, none⟩)) rfl (by kernel_rfl))
    | 2, _ =>
      rintro _ _ ⟨rfl, rfl⟩
      intro w hst
      exact OpV.g (v_load_blk1 (hst.get (k := 1) rfl) rfl (Try.isAgg3 _) rfl)
    | 3, _ =>
      rintro _ _ ⟨rfl, rfl⟩ _ _ ⟨rfl, rfl⟩
      intro w hst
      exact g_callp Try.call15 rfl (pick2 hpa (pick16_ok _ _ _ (by omega) (by omega) (by omega) (by omega)))
    | 4, _ =>
      intro w hst
      exact OpV.g (v_move rfl)
    | 5, _ =>
      intro w hst
      exact OpV.g (v_fieldAddr (v := .pointer (some ⟨w3.heap.size, 0, none⟩)) rfl (by kernel_rfl))
    | 6, _ =>
      rintro _ _ ⟨rfl, rfl⟩
      intro w hst
      exact OpV.g (v_load_blk1 (hst.get (k := 1) rfl) rfl (Try.isAgg3 _) rfl)
  clear hfr hst
  rintro _ _ ⟨rfl, rfl⟩ _ _ ⟨rfl, rfl⟩ _ _ ⟨rfl, rfl⟩ _ _ ⟨rfl, rfl⟩ _ _ ⟨rfl, rfl⟩ _ _ ⟨rfl, rfl⟩ _ _ ⟨rfl, rfl⟩ a w12 hfr hst
  replace hfr : Fr 152 [(36, _), (37, _), (38, _), (39, _), (40, _), (41, _), (42, _), (1, _), (2, _), (6, _), (8, _), (9, _), (11, _)] [] a := hfr
  replace hst : St No w0 [_, _] w12 := hst
  refine wl_nil ?_
  refine wd_lin (k := 7) 10 [9] (by kernel_rfl) (by kernel_rfl) (by kernel_rfl) ?_
  refine wl_callp hfr hst (by decide) Try.call15 rfl (pick2 hpb (pick16_ok _ _ _ (by omega) (by omega) (by omega) (by omega))) ?_
  clear hfr hst
  intro a w13 hfr hst
  refine wl_v hfr (by decide) (v_max2 rfl rfl) ?_
  clear hfr
  intro a hfr
  refine wl_v hfr (by decide) (v_assign rfl) ?_
  clear hfr
  intro a hfr
  refine wl_nil ?_
  refine wd_end (by kernel_rfl) ?_
  refine hK7 _ _ ?_
  replace hfr : Fr 152 [(6, _), (8, _), (9, _), (11, _), (12, _)] [] a := hfr.pick [6, 8, 9, 11, 12]
  rw [hla] at hfr
  refine wc_seq_region fun K8 hK8 => ?_
  refine wl_v hfr (by decide) (v_load_all (hst.get (k := 1) rfl) rfl (Try.isAgg29 _) (Try.sizeOf29 _)) ?_
  clear hfr
  intro a hfr
  refine wl_v hfr (by decide) (v_load_all (hst.get (k := 0) rfl) rfl (Try.isAgg31 _) (Try.sizeOf31 _)) ?_
  clear hfr
  intro a hfr
  refine wl_v hfr (by decide) (v_fieldAddr (v := .pointer (some ⟨w4.heap.size, 4, none⟩)) rfl (by kernel_rfl)) ?_
  clear hfr
  intro a hfr
  refine wl_v hfr (by decide) (v_load_blk1 (hst.get (k := 0) rfl) rfl (Try.isAgg3 _) rfl) ?_
  clear hfr
  intro a hfr
  refine wl_v hfr (by decide) (v_move rfl) ?_
  clear hfr
  intro a hfr
  refine wl_v hfr (by decide) (v_add rfl rfl ⟨by omega, by omega⟩) ?_
  clear hfr
  intro a hfr
  refine wl_v hfr (by decide) (v_build (v := .agg #[.int .i64 1, .int .i64 (cl.asked + ea), .int .i64 0]) rfl (by kernel_rfl)) ?_
  clear hfr
  intro a hfr
  refine wl_buildSlice (E := 45) (sz := 3) rfl [[.int .i64 1, .int .i64 (cl.asked + ea), .int .i64 0]] (by kernel_rfl) (by simp) rfl (by decide) (by decide) hfr hst ?_
  clear hfr hst
  intro a w14 hfr hst
  refine wl_callm hfr hst (by decide) Try.call18 rfl (timeline2 (statuses_consent hr hc (d := ea) (by omega) (by omega)) (timeline_ok rl cl (.slice (some ⟨w13.heap.size, 0, none⟩) 1 1) [⟨1, cl.asked + ea, 0⟩] _ (hst.ownAt (i := 0) rfl) (valid_one hr hc (by simp [badEvt, isIn]; omega)))) ?_
  clear hfr hst
  intro a w15 x4 hp hfr hst
  revert x4 hp hfr hst; rintro v3 hp hfr hst
  clear hp
  replace hst : St No w0 [own v3 39 3 ([[.int .i64 1, .int .i64 cl.asked, .int .i64 (cl.asked + rl.answer)], [.int .i64 3, .int .i64 (cl.asked + ea), .int .i64 (cl.asked + ea + rl.cooling)], [.int .i64 4, .int .i64 (cl.asked + ea + rl.cooling), .int .i64 (cl.asked + ea + rl.cooling + rl.reverse)], [.int .i64 5, .int .i64 (cl.asked + ea + rl.cooling + rl.reverse), .int .i64 (-1)]]), own (.slice (some ⟨w13.heap.size, 0, none⟩) 1 1) 45 3 ([[.int .i64 1, .int .i64 (cl.asked + ea), .int .i64 0]]), blk w4.heap.size [.int .i64 cl.number, .int .i64 cl.frm, .int .i64 cl.to, .int .i64 cl.holder, .int .i64 cl.asked, .bool cl.backed] 31, blk w3.heap.size [.int .i64 rl.answer, .int .i64 rl.cooling, .int .i64 rl.settle, .int .i64 rl.reverse] 29] w15 := hst
  refine wl_v hfr (by decide) (v_move rfl) ?_
  clear hfr
  intro a hfr
  refine wl_v hfr (by decide) (v_extract rfl rfl) ?_
  clear hfr
  intro a hfr
  refine wl_v hfr (by decide) (v_extract rfl rfl) ?_
  clear hfr
  intro a hfr
  refine wl_v hfr (by decide) (v_assign rfl) ?_
  clear hfr
  intro a hfr
  refine wl_v hfr (by decide) (v_assign rfl) ?_
  clear hfr
  intro a hfr
  refine wl_nil (hK8 _ _ ?_)
  replace hfr : Fr 152 [(6, _), (8, _), (9, _), (11, _), (12, _), (13, _), (14, _)] [] a := hfr.pick [6, 8, 9, 11, 12, 13, 14]
  replace hst : St No w0 [_, _, _] w15 := hst.mask [true, false, true, true]
  refine wc_seq_region fun K9 hK9 => ?_
  refine wl_v hfr (by decide) (v_load_all (hst.get (k := 2) rfl) rfl (Try.isAgg29 _) (Try.sizeOf29 _)) ?_
  clear hfr
  intro a hfr
  refine wl_v hfr (by decide) (v_load_all (hst.get (k := 1) rfl) rfl (Try.isAgg31 _) (Try.sizeOf31 _)) ?_
  clear hfr
  intro a hfr
  refine wl_v hfr (by decide) (v_fieldAddr (v := .pointer (some ⟨w4.heap.size, 4, none⟩)) rfl (by kernel_rfl)) ?_
  clear hfr
  intro a hfr
  refine wl_v hfr (by decide) (v_load_blk1 (hst.get (k := 1) rfl) rfl (Try.isAgg3 _) rfl) ?_
  clear hfr
  intro a hfr
  refine wl_v hfr (by decide) (v_move rfl) ?_
  clear hfr
  intro a hfr
  refine wl_v hfr (by decide) (v_add rfl rfl ⟨by omega, by omega⟩) ?_
  clear hfr
  intro a hfr
  refine wl_v hfr (by decide) (v_build (v := .agg #[.int .i64 1, .int .i64 (cl.asked + la), .int .i64 0]) rfl (by kernel_rfl)) ?_
  clear hfr
  intro a hfr
  refine wl_buildSlice (E := 45) (sz := 3) rfl [[.int .i64 1, .int .i64 (cl.asked + la), .int .i64 0]] (by kernel_rfl) (by simp) rfl (by decide) (by decide) hfr hst ?_
  clear hfr hst
  intro a w16 hfr hst
  refine wl_callm hfr hst (by decide) Try.call18 rfl (timeline2 (statuses_consent hr hc (d := la) (by omega) (by omega)) (timeline_ok rl cl (.slice (some ⟨w15.heap.size, 0, none⟩) 1 1) [⟨1, cl.asked + la, 0⟩] _ (hst.ownAt (i := 0) rfl) (valid_one hr hc (by simp [badEvt, isIn]; omega)))) ?_
  clear hfr hst
  intro a w17 x6 hp hfr hst
  revert x6 hp hfr hst; rintro v5 hp hfr hst
  clear hp
  replace hst : St No w0 [own v5 39 3 ([[.int .i64 1, .int .i64 cl.asked, .int .i64 (cl.asked + rl.answer)], [.int .i64 3, .int .i64 (cl.asked + la), .int .i64 (cl.asked + la + rl.cooling)], [.int .i64 4, .int .i64 (cl.asked + la + rl.cooling), .int .i64 (cl.asked + la + rl.cooling + rl.reverse)], [.int .i64 5, .int .i64 (cl.asked + la + rl.cooling + rl.reverse), .int .i64 (-1)]]), own (.slice (some ⟨w15.heap.size, 0, none⟩) 1 1) 45 3 ([[.int .i64 1, .int .i64 (cl.asked + la), .int .i64 0]]), own v3 39 3 ([[.int .i64 1, .int .i64 cl.asked, .int .i64 (cl.asked + rl.answer)], [.int .i64 3, .int .i64 (cl.asked + ea), .int .i64 (cl.asked + ea + rl.cooling)], [.int .i64 4, .int .i64 (cl.asked + ea + rl.cooling), .int .i64 (cl.asked + ea + rl.cooling + rl.reverse)], [.int .i64 5, .int .i64 (cl.asked + ea + rl.cooling + rl.reverse), .int .i64 (-1)]]), blk w4.heap.size [.int .i64 cl.number, .int .i64 cl.frm, .int .i64 cl.to, .int .i64 cl.holder, .int .i64 cl.asked, .bool cl.backed] 31, blk w3.heap.size [.int .i64 rl.answer, .int .i64 rl.cooling, .int .i64 rl.settle, .int .i64 rl.reverse] 29] w17 := hst
  refine wl_v hfr (by decide) (v_move rfl) ?_
  clear hfr
  intro a hfr
  refine wl_v hfr (by decide) (v_extract rfl rfl) ?_
  clear hfr
  intro a hfr
  refine wl_v hfr (by decide) (v_extract rfl rfl) ?_
  clear hfr
  intro a hfr
  refine wl_v hfr (by decide) (v_assign rfl) ?_
  clear hfr
  intro a hfr
  refine wl_v hfr (by decide) (v_assign rfl) ?_
  clear hfr
  intro a hfr
  refine wl_nil (hK9 _ _ ?_)
  replace hfr : Fr 152 [(6, _), (8, _), (9, _), (11, _), (12, _), (13, _), (14, _), (15, _), (16, _)] [] a := hfr.pick [6, 8, 9, 11, 12, 13, 14, 15, 16]
  replace hst : St No w0 [_, _, _, _] w17 := hst.mask [true, false, true, true, true]
  refine wc_seq_k fun K10 hK10 => ?_
  refine wc_seq_k fun K11 hK11 => ?_
  refine wc_of_dr (by kernel_rfl) (dr_of_wd (by kernel_rfl) fun w18 hxz => ?_)
  replace hst : St No w0 [own v5 39 3 ([[.int .i64 1, .int .i64 cl.asked, .int .i64 (cl.asked + rl.answer)], [.int .i64 3, .int .i64 (cl.asked + la), .int .i64 (cl.asked + la + rl.cooling)], [.int .i64 4, .int .i64 (cl.asked + la + rl.cooling), .int .i64 (cl.asked + la + rl.cooling + rl.reverse)], [.int .i64 5, .int .i64 (cl.asked + la + rl.cooling + rl.reverse), .int .i64 (-1)]]), own v3 39 3 ([[.int .i64 1, .int .i64 cl.asked, .int .i64 (cl.asked + rl.answer)], [.int .i64 3, .int .i64 (cl.asked + ea), .int .i64 (cl.asked + ea + rl.cooling)], [.int .i64 4, .int .i64 (cl.asked + ea + rl.cooling), .int .i64 (cl.asked + ea + rl.cooling + rl.reverse)], [.int .i64 5, .int .i64 (cl.asked + ea + rl.cooling + rl.reverse), .int .i64 (-1)]]), blk w4.heap.size [.int .i64 cl.number, .int .i64 cl.frm, .int .i64 cl.to, .int .i64 cl.holder, .int .i64 cl.asked, .bool cl.backed] 31, blk w3.heap.size [.int .i64 rl.answer, .int .i64 rl.cooling, .int .i64 rl.settle, .int .i64 rl.reverse] 29] w18 := hst.grow hxz
  refine wd_lin (k := 0) 17 [16] (by kernel_rfl) (by kernel_rfl) (by kernel_rfl) ?_
  refine wl_v hfr (by decide) (v_move rfl) ?_
  clear hfr
  intro a hfr
  refine wl_v hfr (by decide) ((v_ne rfl rfl).asb (b' := false) rfl) ?_
  clear hfr
  intro a hfr
  refine wl_v hfr (by decide) (v_move rfl) ?_
  clear hfr
  intro a hfr
  refine wl_vy hfr (by decide) rfl (by decide) rfl (v_move rfl) ?_
  clear hfr
  intro a hfr
  refine wl_vy hfr (by decide) rfl (by decide) rfl ((v_ne rfl rfl).asb (b' := false) rfl) ?_
  clear hfr
  intro a hfr
  refine wl_v hfr (by decide) (v_pick_f rfl rfl) ?_
  clear hfr
  intro a hfr
  refine wl_v hfr (by decide) (v_move rfl) ?_
  clear hfr
  intro a hfr
  refine wl_vy hfr (by decide) rfl (by decide) rfl (v_move rfl) ?_
  clear hfr
  intro a hfr
  refine wl_vy hfr (by decide) rfl (by decide) rfl ((v_len_sl (sT := 47) (hst.ownAt (i := 1) rfl) rfl rfl (Try.runUnderlying47 _)).asi (m' := 4) (by rfl)) ?_
  clear hfr
  intro a hfr
  refine wl_vy hfr (by decide) rfl (by decide) rfl ((v_ne rfl rfl).asb (b' := false) rfl) ?_
  clear hfr
  intro a hfr
  refine wl_v hfr (by decide) (v_pick_f rfl rfl) ?_
  clear hfr
  intro a hfr
  refine wl_v hfr (by decide) (v_move rfl) ?_
  clear hfr
  intro a hfr
  refine wl_vy hfr (by decide) rfl (by decide) rfl (v_move rfl) ?_
  clear hfr
  intro a hfr
  refine wl_vy hfr (by decide) rfl (by decide) rfl ((v_len_sl (sT := 47) (hst.ownAt (i := 0) rfl) rfl rfl (Try.runUnderlying47 _)).asi (m' := 4) (by rfl)) ?_
  clear hfr
  intro a hfr
  refine wl_vy hfr (by decide) rfl (by decide) rfl ((v_ne rfl rfl).asb (b' := false) rfl) ?_
  clear hfr
  intro a hfr
  refine wl_v hfr (by decide) (v_pick_f rfl rfl) ?_
  clear hfr
  intro a hfr
  refine wl_v hfr (by decide) (v_move rfl) ?_
  clear hfr
  intro a hfr
  refine wl_nil ?_
  refine wd_sub (k := 17) 23 [19, 22] hfr (by kernel_rfl) (by kernel_rfl) (by kernel_rfl) (by rfl) ?_
  replace hfr : Fr 152 [(6, _), (8, _), (9, _), (11, _), (12, _), (13, _), (14, _), (15, _), (16, _), (69, _), (70, _), (71, _), (72, _), (73, _), (74, _), (75, _), (76, _), (77, _), (78, _), (79, _), (80, _), (81, _), (82, _), (83, _), (84, _), (85, _)] [] a := hfr.pick [6, 8, 9, 11, 12, 13, 14, 15, 16, 69, 70, 71, 72, 73, 74, 75, 76, 77, 78, 79, 80, 81, 82, 83, 84, 85]
  refine wc_phases' 6 [[], [0], [1], [], [3], [4]] (fun i => match i with | 0 => pv (v3) | 1 => pv (slAddr v3 (0 * 3)) | 2 => pv (.agg #[.int .i64 1, .int .i64 cl.asked, .int .i64 (cl.asked + rl.answer)]) | 3 => pv (v5) | 4 => pv (slAddr v5 (0 * 3)) | 5 => pv (.agg #[.int .i64 1, .int .i64 cl.asked, .int .i64 (cl.asked + rl.answer)]) | _ => fun _ _ => False) hfr hst (by kernel_rfl) (by kernel_rfl) ?_ ?_
  · intro i hi
    match i, hi with
    | 0, _ =>
      intro w hst
      exact OpV.g (v_move rfl)
    | 1, _ =>
      rintro _ _ ⟨rfl, rfl⟩
      intro w hst
      exact OpV.g ((v_indexAddr_sl (i := 0) (sT := 47) (hst.ownAt (i := 1) rfl) rfl rfl (Try.runUnderlying47 _) (Try.sizeOf39 _) (by omega) (by simp)).as (v' := slAddr v3 (0 * 3)) rfl)
    | 2, _ =>
      rintro _ _ ⟨rfl, rfl⟩
      intro w hst
      exact OpV.g ((v_load_sl (hst.ownAt (i := 1) rfl) (i := 0) (by simp) rfl (Try.isAgg39 _) (Try.sizeOf39 _)).as (v' := .agg #[.int .i64 1, .int .i64 cl.asked, .int .i64 (cl.asked + rl.answer)]) (by rfl))
    | 3, _ =>
      intro w hst
      exact OpV.g (v_move rfl)
    | 4, _ =>
      rintro _ _ ⟨rfl, rfl⟩
      intro w hst
      exact OpV.g ((v_indexAddr_sl (i := 0) (sT := 47) (hst.ownAt (i := 0) rfl) rfl rfl (Try.runUnderlying47 _) (Try.sizeOf39 _) (by omega) (by simp)).as (v' := slAddr v5 (0 * 3)) rfl)
    | 5, _ =>
      rintro _ _ ⟨rfl, rfl⟩
      intro w hst
      exact OpV.g ((v_load_sl (hst.ownAt (i := 0) rfl) (i := 0) (by simp) rfl (Try.isAgg39 _) (Try.sizeOf39 _)).as (v' := .agg #[.int .i64 1, .int .i64 cl.asked, .int .i64 (cl.asked + rl.answer)]) (by rfl))
  clear hfr hst
  rintro _ _ ⟨rfl, rfl⟩ _ _ ⟨rfl, rfl⟩ _ _ ⟨rfl, rfl⟩ _ _ ⟨rfl, rfl⟩ _ _ ⟨rfl, rfl⟩ _ _ ⟨rfl, rfl⟩ a w19 hfr hst
  replace hfr : Fr 152 [(86, _), (87, _), (88, _), (89, _), (90, _), (91, _), (6, _), (8, _), (9, _), (11, _), (12, _), (13, _), (14, _), (15, _), (16, _), (69, _), (70, _), (71, _), (72, _), (73, _), (74, _), (75, _), (76, _), (77, _), (78, _), (79, _), (80, _), (81, _), (82, _), (83, _), (84, _), (85, _)] [] a := hfr
  replace hst : St No w0 [_, _, _, _] w19 := hst
  refine wl_nil ?_
  refine wd_lin (k := 23) 25 [24] (by kernel_rfl) (by kernel_rfl) (by kernel_rfl) ?_
  refine wl_vy hfr (by decide) rfl (by decide) rfl ((v_ne_agg rfl rfl (by kernel_rfl) (eqStt 1 cl.asked (cl.asked + rl.answer) 1 cl.asked (cl.asked + rl.answer) _)).asb (b' := false) (by simp <;> omega)) ?_
  clear hfr
  intro a hfr
  refine wl_v hfr (by decide) (v_pick_f rfl rfl) ?_
  clear hfr
  intro a hfr
  refine wl_nil ?_
  refine wd_end (by kernel_rfl) ?_
  refine hK11 _ _ ?_
  replace hfr : Fr 152 [(6, _), (8, _), (9, _), (11, _), (12, _), (13, _), (15, _), (93, _)] [] a := hfr.pick [6, 8, 9, 11, 12, 13, 15, 93]
  refine wc_cond_f hfr rfl ?_
  refine wc_skip ?_
  refine hK10 _ _ ?_
  refine wc_seq_k fun K12 hK12 => ?_
  refine wc_seq_region fun K13 hK13 => ?_
  refine wl_v hfr (by decide) (v_assign rfl) ?_
  clear hfr
  intro a hfr
  refine wl_nil (hK13 _ _ ?_)
  refine wc_block ?_
  refine wc_rounds 5 ?_
  refine wr_succ ?_
  refine wc_seq_k fun K14 hK14 => ?_
  refine wc_seq_region fun K15 hK15 => ?_
  refine wl_v hfr (by decide) (v_move rfl) ?_
  clear hfr
  intro a hfr
  refine wl_v hfr (by decide) ((v_lt rfl rfl).asb (b' := true) rfl) ?_
  clear hfr
  intro a hfr
  refine wl_nil (hK15 _ _ ?_)
  refine wc_cond_t hfr rfl ?_
  refine wc_skip ?_
  refine hK14 _ _ ?_
  refine wc_seq_k fun K16 hK16 => ?_
  refine wc_block ?_
  refine wc_seq_k fun K17 hK17 => ?_
  refine wc_of_dr (by kernel_rfl) (dr_of_wd (by kernel_rfl) fun w20 hxz => ?_)
  replace hst : St No w0 [own v5 39 3 ([[.int .i64 1, .int .i64 cl.asked, .int .i64 (cl.asked + rl.answer)], [.int .i64 3, .int .i64 (cl.asked + la), .int .i64 (cl.asked + la + rl.cooling)], [.int .i64 4, .int .i64 (cl.asked + la + rl.cooling), .int .i64 (cl.asked + la + rl.cooling + rl.reverse)], [.int .i64 5, .int .i64 (cl.asked + la + rl.cooling + rl.reverse), .int .i64 (-1)]]), own v3 39 3 ([[.int .i64 1, .int .i64 cl.asked, .int .i64 (cl.asked + rl.answer)], [.int .i64 3, .int .i64 (cl.asked + ea), .int .i64 (cl.asked + ea + rl.cooling)], [.int .i64 4, .int .i64 (cl.asked + ea + rl.cooling), .int .i64 (cl.asked + ea + rl.cooling + rl.reverse)], [.int .i64 5, .int .i64 (cl.asked + ea + rl.cooling + rl.reverse), .int .i64 (-1)]]), blk w4.heap.size [.int .i64 cl.number, .int .i64 cl.frm, .int .i64 cl.to, .int .i64 cl.holder, .int .i64 cl.asked, .bool cl.backed] 31, blk w3.heap.size [.int .i64 rl.answer, .int .i64 rl.cooling, .int .i64 rl.settle, .int .i64 rl.reverse] 29] w20 := hst.grow hxz
  refine wd_sub (k := 0) 10 [4, 9] hfr (by kernel_rfl) (by kernel_rfl) (by kernel_rfl) (by rfl) ?_
  replace hfr : Fr 152 [(6, _), (8, _), (9, _), (11, _), (12, _), (13, _), (15, _), (93, _), (17, _), (94, _), (95, _)] [] a := hfr.pick [6, 8, 9, 11, 12, 13, 15, 93, 17, 94, 95]
  refine wc_phases' 10 [[], [], [0, 1], [2], [3], [], [], [5, 6], [7], [8]] (fun i => match i with | 0 => pv (v3) | 1 => pv (.int .i64 1) | 2 => pv (slAddr v3 (1 * 3)) | 3 => pv (slAddr v3 (1 * 3 + 0)) | 4 => pv (.int .i64 3) | 5 => pv (v5) | 6 => pv (.int .i64 1) | 7 => pv (slAddr v5 (1 * 3)) | 8 => pv (slAddr v5 (1 * 3 + 0)) | 9 => pv (.int .i64 3) | _ => fun _ _ => False) hfr hst (by kernel_rfl) (by kernel_rfl) ?_ ?_
  · intro i hi
    match i, hi with
    | 0, _ =>
      intro w hst
      exact OpV.g (v_move rfl)
    | 1, _ =>
      intro w hst
      exact OpV.g (v_move rfl)
    | 2, _ =>
      rintro _ _ ⟨rfl, rfl⟩ _ _ ⟨rfl, rfl⟩
      intro w hst
      exact OpV.g ((v_indexAddr_sl (i := 1) (sT := 47) (hst.ownAt (i := 1) rfl) rfl rfl (Try.runUnderlying47 _) (Try.sizeOf39 _) (by omega) (by simp)).as (v' := slAddr v3 (1 * 3)) rfl)
    | 3, _ =>
      rintro _ _ ⟨rfl, rfl⟩
      intro w hst
      exact OpV.g (v_fieldAddr_sl (k := 1 * 3) (j := 0) (hst.ownAt (i := 1) rfl) (i := 1) (by simp) rfl (fun _ _ => by kernel_rfl))
    | 4, _ =>
      rintro _ _ ⟨rfl, rfl⟩
      intro w hst
      exact OpV.g (v_load_sl1 (u := .int .i64 3) (i := 1) (j := 0) (hst.ownAt (i := 1) rfl) (by simp) rfl (Try.isAgg3 _) (by rfl))
    | 5, _ =>
      intro w hst
      exact OpV.g (v_move rfl)
    | 6, _ =>
      intro w hst
      exact OpV.g (v_move rfl)
    | 7, _ =>
      rintro _ _ ⟨rfl, rfl⟩ _ _ ⟨rfl, rfl⟩
      intro w hst
      exact OpV.g ((v_indexAddr_sl (i := 1) (sT := 47) (hst.ownAt (i := 0) rfl) rfl rfl (Try.runUnderlying47 _) (Try.sizeOf39 _) (by omega) (by simp)).as (v' := slAddr v5 (1 * 3)) rfl)
    | 8, _ =>
      rintro _ _ ⟨rfl, rfl⟩
      intro w hst
      exact OpV.g (v_fieldAddr_sl (k := 1 * 3) (j := 0) (hst.ownAt (i := 0) rfl) (i := 1) (by simp) rfl (fun _ _ => by kernel_rfl))
    | 9, _ =>
      rintro _ _ ⟨rfl, rfl⟩
      intro w hst
      exact OpV.g (v_load_sl1 (u := .int .i64 3) (i := 1) (j := 0) (hst.ownAt (i := 0) rfl) (by simp) rfl (Try.isAgg3 _) (by rfl))
  clear hfr hst
  rintro _ _ ⟨rfl, rfl⟩ _ _ ⟨rfl, rfl⟩ _ _ ⟨rfl, rfl⟩ _ _ ⟨rfl, rfl⟩ _ _ ⟨rfl, rfl⟩ _ _ ⟨rfl, rfl⟩ _ _ ⟨rfl, rfl⟩ _ _ ⟨rfl, rfl⟩ _ _ ⟨rfl, rfl⟩ _ _ ⟨rfl, rfl⟩ a w21 hfr hst
  replace hfr : Fr 152 [(98, _), (99, _), (100, _), (101, _), (102, _), (103, _), (104, _), (105, _), (106, _), (107, _), (6, _), (8, _), (9, _), (11, _), (12, _), (13, _), (15, _), (93, _), (17, _), (94, _), (95, _)] [] a := hfr
  replace hst : St No w0 [_, _, _, _] w21 := hst
  refine wl_nil ?_
  refine wd_lin (k := 10) 12 [11] (by kernel_rfl) (by kernel_rfl) (by kernel_rfl) ?_
  refine wl_v hfr (by decide) ((v_ne rfl rfl).asb (b' := false) rfl) ?_
  clear hfr
  intro a hfr
  refine wl_v hfr (by decide) (v_move rfl) ?_
  clear hfr
  intro a hfr
  refine wl_nil ?_
  refine wd_sub (k := 12) 26 [22, 25] hfr (by kernel_rfl) (by kernel_rfl) (by kernel_rfl) (by rfl) ?_
  replace hfr : Fr 152 [(6, _), (8, _), (9, _), (11, _), (12, _), (13, _), (15, _), (93, _), (17, _), (94, _), (95, _), (98, _), (99, _), (100, _), (101, _), (102, _), (103, _), (104, _), (105, _), (106, _), (107, _), (108, _), (109, _)] [] a := hfr.pick [6, 8, 9, 11, 12, 13, 15, 93, 17, 94, 95, 98, 99, 100, 101, 102, 103, 104, 105, 106, 107, 108, 109]
  refine wc_phases' 14 [[], [], [0, 1], [2], [3], [], [], [5, 6], [7], [8], [4, 9], [], [], [11, 12]] (fun i => match i with | 0 => pv (v5) | 1 => pv (.int .i64 1) | 2 => pv (slAddr v5 (1 * 3)) | 3 => pv (slAddr v5 (1 * 3 + 1)) | 4 => pv (.int .i64 (cl.asked + la)) | 5 => pv (v3) | 6 => pv (.int .i64 1) | 7 => pv (slAddr v3 (1 * 3)) | 8 => pv (slAddr v3 (1 * 3 + 1)) | 9 => pv (.int .i64 (cl.asked + ea)) | 10 => pv (.int .i64 ((cl.asked + la) - (cl.asked + ea))) | 11 => pv (.int .i64 la) | 12 => pv (.int .i64 ea) | 13 => pv (.int .i64 (la - ea)) | _ => fun _ _ => False) hfr hst (by kernel_rfl) (by kernel_rfl) ?_ ?_
  · intro i hi
    match i, hi with
    | 0, _ =>
      intro w hst
      exact OpV.g (v_move rfl)
    | 1, _ =>
      intro w hst
      exact OpV.g (v_move rfl)
    | 2, _ =>
      rintro _ _ ⟨rfl, rfl⟩ _ _ ⟨rfl, rfl⟩
      intro w hst
      exact OpV.g ((v_indexAddr_sl (i := 1) (sT := 47) (hst.ownAt (i := 0) rfl) rfl rfl (Try.runUnderlying47 _) (Try.sizeOf39 _) (by omega) (by simp)).as (v' := slAddr v5 (1 * 3)) rfl)
    | 3, _ =>
      rintro _ _ ⟨rfl, rfl⟩
      intro w hst
      exact OpV.g (v_fieldAddr_sl (k := 1 * 3) (j := 1) (hst.ownAt (i := 0) rfl) (i := 1) (by simp) rfl (fun _ _ => by kernel_rfl))
    | 4, _ =>
      rintro _ _ ⟨rfl, rfl⟩
      intro w hst
      exact OpV.g (v_load_sl1 (u := .int .i64 (cl.asked + la)) (i := 1) (j := 1) (hst.ownAt (i := 0) rfl) (by simp) rfl (Try.isAgg3 _) (by rfl))
    | 5, _ =>
      intro w hst
      exact OpV.g (v_move rfl)
    | 6, _ =>
      intro w hst
      exact OpV.g (v_move rfl)
    | 7, _ =>
      rintro _ _ ⟨rfl, rfl⟩ _ _ ⟨rfl, rfl⟩
      intro w hst
      exact OpV.g ((v_indexAddr_sl (i := 1) (sT := 47) (hst.ownAt (i := 1) rfl) rfl rfl (Try.runUnderlying47 _) (Try.sizeOf39 _) (by omega) (by simp)).as (v' := slAddr v3 (1 * 3)) rfl)
    | 8, _ =>
      rintro _ _ ⟨rfl, rfl⟩
      intro w hst
      exact OpV.g (v_fieldAddr_sl (k := 1 * 3) (j := 1) (hst.ownAt (i := 1) rfl) (i := 1) (by simp) rfl (fun _ _ => by kernel_rfl))
    | 9, _ =>
      rintro _ _ ⟨rfl, rfl⟩
      intro w hst
      exact OpV.g (v_load_sl1 (u := .int .i64 (cl.asked + ea)) (i := 1) (j := 1) (hst.ownAt (i := 1) rfl) (by simp) rfl (Try.isAgg3 _) (by rfl))
    | 10, _ =>
      rintro _ _ ⟨rfl, rfl⟩ _ _ ⟨rfl, rfl⟩
      intro w hst
      exact OpV.g (v_sub rfl rfl ⟨by omega, by omega⟩)
    | 11, _ =>
      intro w hst
      exact OpV.g (v_move rfl)
    | 12, _ =>
      intro w hst
      exact OpV.g (v_move rfl)
    | 13, _ =>
      rintro _ _ ⟨rfl, rfl⟩ _ _ ⟨rfl, rfl⟩
      intro w hst
      exact OpV.g (v_sub rfl rfl ⟨by omega, by omega⟩)
    | i + 14, h => exact absurd h (by omega)
  clear hfr hst
  rintro _ _ ⟨rfl, rfl⟩ _ _ ⟨rfl, rfl⟩ _ _ ⟨rfl, rfl⟩ _ _ ⟨rfl, rfl⟩ _ _ ⟨rfl, rfl⟩ _ _ ⟨rfl, rfl⟩ _ _ ⟨rfl, rfl⟩ _ _ ⟨rfl, rfl⟩ _ _ ⟨rfl, rfl⟩ _ _ ⟨rfl, rfl⟩ _ _ ⟨rfl, rfl⟩ _ _ ⟨rfl, rfl⟩ _ _ ⟨rfl, rfl⟩ _ _ ⟨rfl, rfl⟩ a w22 hfr hst
  replace hfr : Fr 152 [(110, _), (111, _), (112, _), (113, _), (114, _), (115, _), (116, _), (117, _), (118, _), (119, _), (120, _), (121, _), (122, _), (123, _), (6, _), (8, _), (9, _), (11, _), (12, _), (13, _), (15, _), (93, _), (17, _), (94, _), (95, _), (98, _), (99, _), (100, _), (101, _), (102, _), (103, _), (104, _), (105, _), (106, _), (107, _), (108, _), (109, _)] [] a := hfr
  replace hst : St No w0 [_, _, _, _] w22 := hst
  refine wl_nil ?_
  refine wd_lin (k := 26) 28 [27] (by kernel_rfl) (by kernel_rfl) (by kernel_rfl) ?_
  refine wl_vy hfr (by decide) rfl (by decide) rfl ((v_ne rfl rfl).asb (b' := false) (by simp <;> omega)) ?_
  clear hfr
  intro a hfr
  refine wl_v hfr (by decide) (v_pick_f rfl rfl) ?_
  clear hfr
  intro a hfr
  refine wl_nil ?_
  refine wd_end (by kernel_rfl) ?_
  refine hK17 _ _ ?_
  replace hfr : Fr 152 [(6, _), (8, _), (9, _), (11, _), (12, _), (13, _), (15, _), (17, _), (125, _)] [] a := hfr.pick [6, 8, 9, 11, 12, 13, 15, 17, 125]
  refine wc_cond_f hfr rfl ?_
  refine wc_skip ?_
  refine hK16 _ _ ?_
  refine wc_region ?_
  refine wl_v hfr (by decide) (v_move rfl) ?_
  clear hfr
  intro a hfr
  refine wl_v hfr (by decide) ((v_add rfl rfl (by decide)).asi (m' := 2) rfl) ?_
  clear hfr
  intro a hfr
  refine wl_v hfr (by decide) (v_assign rfl) ?_
  clear hfr
  intro a hfr
  refine wl_nil ?_
  refine wr_succ ?_
  refine wc_seq_k fun K18 hK18 => ?_
  refine wc_seq_region fun K19 hK19 => ?_
  refine wl_v hfr (by decide) (v_move rfl) ?_
  clear hfr
  intro a hfr
  refine wl_v hfr (by decide) ((v_lt rfl rfl).asb (b' := true) rfl) ?_
  clear hfr
  intro a hfr
  refine wl_nil (hK19 _ _ ?_)
  refine wc_cond_t hfr rfl ?_
  refine wc_skip ?_
  refine hK18 _ _ ?_
  refine wc_seq_k fun K20 hK20 => ?_
  refine wc_block ?_
  refine wc_seq_k fun K21 hK21 => ?_
  refine wc_of_dr (by kernel_rfl) (dr_of_wd (by kernel_rfl) fun w23 hxz => ?_)
  replace hst : St No w0 [own v5 39 3 ([[.int .i64 1, .int .i64 cl.asked, .int .i64 (cl.asked + rl.answer)], [.int .i64 3, .int .i64 (cl.asked + la), .int .i64 (cl.asked + la + rl.cooling)], [.int .i64 4, .int .i64 (cl.asked + la + rl.cooling), .int .i64 (cl.asked + la + rl.cooling + rl.reverse)], [.int .i64 5, .int .i64 (cl.asked + la + rl.cooling + rl.reverse), .int .i64 (-1)]]), own v3 39 3 ([[.int .i64 1, .int .i64 cl.asked, .int .i64 (cl.asked + rl.answer)], [.int .i64 3, .int .i64 (cl.asked + ea), .int .i64 (cl.asked + ea + rl.cooling)], [.int .i64 4, .int .i64 (cl.asked + ea + rl.cooling), .int .i64 (cl.asked + ea + rl.cooling + rl.reverse)], [.int .i64 5, .int .i64 (cl.asked + ea + rl.cooling + rl.reverse), .int .i64 (-1)]]), blk w4.heap.size [.int .i64 cl.number, .int .i64 cl.frm, .int .i64 cl.to, .int .i64 cl.holder, .int .i64 cl.asked, .bool cl.backed] 31, blk w3.heap.size [.int .i64 rl.answer, .int .i64 rl.cooling, .int .i64 rl.settle, .int .i64 rl.reverse] 29] w23 := hst.grow hxz
  refine wd_sub (k := 0) 10 [4, 9] hfr (by kernel_rfl) (by kernel_rfl) (by kernel_rfl) (by rfl) ?_
  replace hfr : Fr 152 [(6, _), (8, _), (9, _), (11, _), (12, _), (13, _), (15, _), (125, _), (96, _), (97, _), (17, _), (94, _), (95, _)] [] a := hfr.pick [6, 8, 9, 11, 12, 13, 15, 125, 96, 97, 17, 94, 95]
  refine wc_phases' 10 [[], [], [0, 1], [2], [3], [], [], [5, 6], [7], [8]] (fun i => match i with | 0 => pv (v3) | 1 => pv (.int .i64 2) | 2 => pv (slAddr v3 (2 * 3)) | 3 => pv (slAddr v3 (2 * 3 + 0)) | 4 => pv (.int .i64 4) | 5 => pv (v5) | 6 => pv (.int .i64 2) | 7 => pv (slAddr v5 (2 * 3)) | 8 => pv (slAddr v5 (2 * 3 + 0)) | 9 => pv (.int .i64 4) | _ => fun _ _ => False) hfr hst (by kernel_rfl) (by kernel_rfl) ?_ ?_
  · intro i hi
    match i, hi with
    | 0, _ =>
      intro w hst
      exact OpV.g (v_move rfl)
    | 1, _ =>
      intro w hst
      exact OpV.g (v_move rfl)
    | 2, _ =>
      rintro _ _ ⟨rfl, rfl⟩ _ _ ⟨rfl, rfl⟩
      intro w hst
      exact OpV.g ((v_indexAddr_sl (i := 2) (sT := 47) (hst.ownAt (i := 1) rfl) rfl rfl (Try.runUnderlying47 _) (Try.sizeOf39 _) (by omega) (by simp)).as (v' := slAddr v3 (2 * 3)) rfl)
    | 3, _ =>
      rintro _ _ ⟨rfl, rfl⟩
      intro w hst
      exact OpV.g (v_fieldAddr_sl (k := 2 * 3) (j := 0) (hst.ownAt (i := 1) rfl) (i := 2) (by simp) rfl (fun _ _ => by kernel_rfl))
    | 4, _ =>
      rintro _ _ ⟨rfl, rfl⟩
      intro w hst
      exact OpV.g (v_load_sl1 (u := .int .i64 4) (i := 2) (j := 0) (hst.ownAt (i := 1) rfl) (by simp) rfl (Try.isAgg3 _) (by rfl))
    | 5, _ =>
      intro w hst
      exact OpV.g (v_move rfl)
    | 6, _ =>
      intro w hst
      exact OpV.g (v_move rfl)
    | 7, _ =>
      rintro _ _ ⟨rfl, rfl⟩ _ _ ⟨rfl, rfl⟩
      intro w hst
      exact OpV.g ((v_indexAddr_sl (i := 2) (sT := 47) (hst.ownAt (i := 0) rfl) rfl rfl (Try.runUnderlying47 _) (Try.sizeOf39 _) (by omega) (by simp)).as (v' := slAddr v5 (2 * 3)) rfl)
    | 8, _ =>
      rintro _ _ ⟨rfl, rfl⟩
      intro w hst
      exact OpV.g (v_fieldAddr_sl (k := 2 * 3) (j := 0) (hst.ownAt (i := 0) rfl) (i := 2) (by simp) rfl (fun _ _ => by kernel_rfl))
    | 9, _ =>
      rintro _ _ ⟨rfl, rfl⟩
      intro w hst
      exact OpV.g (v_load_sl1 (u := .int .i64 4) (i := 2) (j := 0) (hst.ownAt (i := 0) rfl) (by simp) rfl (Try.isAgg3 _) (by rfl))
  clear hfr hst
  rintro _ _ ⟨rfl, rfl⟩ _ _ ⟨rfl, rfl⟩ _ _ ⟨rfl, rfl⟩ _ _ ⟨rfl, rfl⟩ _ _ ⟨rfl, rfl⟩ _ _ ⟨rfl, rfl⟩ _ _ ⟨rfl, rfl⟩ _ _ ⟨rfl, rfl⟩ _ _ ⟨rfl, rfl⟩ _ _ ⟨rfl, rfl⟩ a w24 hfr hst
  replace hfr : Fr 152 [(98, _), (99, _), (100, _), (101, _), (102, _), (103, _), (104, _), (105, _), (106, _), (107, _), (6, _), (8, _), (9, _), (11, _), (12, _), (13, _), (15, _), (125, _), (96, _), (97, _), (17, _), (94, _), (95, _)] [] a := hfr
  replace hst : St No w0 [_, _, _, _] w24 := hst
  refine wl_nil ?_
  refine wd_lin (k := 10) 12 [11] (by kernel_rfl) (by kernel_rfl) (by kernel_rfl) ?_
  refine wl_v hfr (by decide) ((v_ne rfl rfl).asb (b' := false) rfl) ?_
  clear hfr
  intro a hfr
  refine wl_v hfr (by decide) (v_move rfl) ?_
  clear hfr
  intro a hfr
  refine wl_nil ?_
  refine wd_sub (k := 12) 26 [22, 25] hfr (by kernel_rfl) (by kernel_rfl) (by kernel_rfl) (by rfl) ?_
  replace hfr : Fr 152 [(6, _), (8, _), (9, _), (11, _), (12, _), (13, _), (15, _), (125, _), (96, _), (97, _), (17, _), (94, _), (95, _), (98, _), (99, _), (100, _), (101, _), (102, _), (103, _), (104, _), (105, _), (106, _), (107, _), (108, _), (109, _)] [] a := hfr.pick [6, 8, 9, 11, 12, 13, 15, 125, 96, 97, 17, 94, 95, 98, 99, 100, 101, 102, 103, 104, 105, 106, 107, 108, 109]
  refine wc_phases' 14 [[], [], [0, 1], [2], [3], [], [], [5, 6], [7], [8], [4, 9], [], [], [11, 12]] (fun i => match i with | 0 => pv (v5) | 1 => pv (.int .i64 2) | 2 => pv (slAddr v5 (2 * 3)) | 3 => pv (slAddr v5 (2 * 3 + 1)) | 4 => pv (.int .i64 (cl.asked + la + rl.cooling)) | 5 => pv (v3) | 6 => pv (.int .i64 2) | 7 => pv (slAddr v3 (2 * 3)) | 8 => pv (slAddr v3 (2 * 3 + 1)) | 9 => pv (.int .i64 (cl.asked + ea + rl.cooling)) | 10 => pv (.int .i64 ((cl.asked + la + rl.cooling) - (cl.asked + ea + rl.cooling))) | 11 => pv (.int .i64 la) | 12 => pv (.int .i64 ea) | 13 => pv (.int .i64 (la - ea)) | _ => fun _ _ => False) hfr hst (by kernel_rfl) (by kernel_rfl) ?_ ?_
  · intro i hi
    match i, hi with
    | 0, _ =>
      intro w hst
      exact OpV.g (v_move rfl)
    | 1, _ =>
      intro w hst
      exact OpV.g (v_move rfl)
    | 2, _ =>
      rintro _ _ ⟨rfl, rfl⟩ _ _ ⟨rfl, rfl⟩
      intro w hst
      exact OpV.g ((v_indexAddr_sl (i := 2) (sT := 47) (hst.ownAt (i := 0) rfl) rfl rfl (Try.runUnderlying47 _) (Try.sizeOf39 _) (by omega) (by simp)).as (v' := slAddr v5 (2 * 3)) rfl)
    | 3, _ =>
      rintro _ _ ⟨rfl, rfl⟩
      intro w hst
      exact OpV.g (v_fieldAddr_sl (k := 2 * 3) (j := 1) (hst.ownAt (i := 0) rfl) (i := 2) (by simp) rfl (fun _ _ => by kernel_rfl))
    | 4, _ =>
      rintro _ _ ⟨rfl, rfl⟩
      intro w hst
      exact OpV.g (v_load_sl1 (u := .int .i64 (cl.asked + la + rl.cooling)) (i := 2) (j := 1) (hst.ownAt (i := 0) rfl) (by simp) rfl (Try.isAgg3 _) (by rfl))
    | 5, _ =>
      intro w hst
      exact OpV.g (v_move rfl)
    | 6, _ =>
      intro w hst
      exact OpV.g (v_move rfl)
    | 7, _ =>
      rintro _ _ ⟨rfl, rfl⟩ _ _ ⟨rfl, rfl⟩
      intro w hst
      exact OpV.g ((v_indexAddr_sl (i := 2) (sT := 47) (hst.ownAt (i := 1) rfl) rfl rfl (Try.runUnderlying47 _) (Try.sizeOf39 _) (by omega) (by simp)).as (v' := slAddr v3 (2 * 3)) rfl)
    | 8, _ =>
      rintro _ _ ⟨rfl, rfl⟩
      intro w hst
      exact OpV.g (v_fieldAddr_sl (k := 2 * 3) (j := 1) (hst.ownAt (i := 1) rfl) (i := 2) (by simp) rfl (fun _ _ => by kernel_rfl))
    | 9, _ =>
      rintro _ _ ⟨rfl, rfl⟩
      intro w hst
      exact OpV.g (v_load_sl1 (u := .int .i64 (cl.asked + ea + rl.cooling)) (i := 2) (j := 1) (hst.ownAt (i := 1) rfl) (by simp) rfl (Try.isAgg3 _) (by rfl))
    | 10, _ =>
      rintro _ _ ⟨rfl, rfl⟩ _ _ ⟨rfl, rfl⟩
      intro w hst
      exact OpV.g (v_sub rfl rfl ⟨by omega, by omega⟩)
    | 11, _ =>
      intro w hst
      exact OpV.g (v_move rfl)
    | 12, _ =>
      intro w hst
      exact OpV.g (v_move rfl)
    | 13, _ =>
      rintro _ _ ⟨rfl, rfl⟩ _ _ ⟨rfl, rfl⟩
      intro w hst
      exact OpV.g (v_sub rfl rfl ⟨by omega, by omega⟩)
    | i + 14, h => exact absurd h (by omega)
  clear hfr hst
  rintro _ _ ⟨rfl, rfl⟩ _ _ ⟨rfl, rfl⟩ _ _ ⟨rfl, rfl⟩ _ _ ⟨rfl, rfl⟩ _ _ ⟨rfl, rfl⟩ _ _ ⟨rfl, rfl⟩ _ _ ⟨rfl, rfl⟩ _ _ ⟨rfl, rfl⟩ _ _ ⟨rfl, rfl⟩ _ _ ⟨rfl, rfl⟩ _ _ ⟨rfl, rfl⟩ _ _ ⟨rfl, rfl⟩ _ _ ⟨rfl, rfl⟩ _ _ ⟨rfl, rfl⟩ a w25 hfr hst
  replace hfr : Fr 152 [(110, _), (111, _), (112, _), (113, _), (114, _), (115, _), (116, _), (117, _), (118, _), (119, _), (120, _), (121, _), (122, _), (123, _), (6, _), (8, _), (9, _), (11, _), (12, _), (13, _), (15, _), (125, _), (96, _), (97, _), (17, _), (94, _), (95, _), (98, _), (99, _), (100, _), (101, _), (102, _), (103, _), (104, _), (105, _), (106, _), (107, _), (108, _), (109, _)] [] a := hfr
  replace hst : St No w0 [_, _, _, _] w25 := hst
  refine wl_nil ?_
  refine wd_lin (k := 26) 28 [27] (by kernel_rfl) (by kernel_rfl) (by kernel_rfl) ?_
  refine wl_vy hfr (by decide) rfl (by decide) rfl ((v_ne rfl rfl).asb (b' := false) (by simp <;> omega)) ?_
  clear hfr
  intro a hfr
  refine wl_v hfr (by decide) (v_pick_f rfl rfl) ?_
  clear hfr
  intro a hfr
  refine wl_nil ?_
  refine wd_end (by kernel_rfl) ?_
  refine hK21 _ _ ?_
  replace hfr : Fr 152 [(6, _), (8, _), (9, _), (11, _), (12, _), (13, _), (15, _), (17, _), (125, _)] [] a := hfr.pick [6, 8, 9, 11, 12, 13, 15, 17, 125]
  refine wc_cond_f hfr rfl ?_
  refine wc_skip ?_
  refine hK20 _ _ ?_
  refine wc_region ?_
  refine wl_v hfr (by decide) (v_move rfl) ?_
  clear hfr
  intro a hfr
  refine wl_v hfr (by decide) ((v_add rfl rfl (by decide)).asi (m' := 3) rfl) ?_
  clear hfr
  intro a hfr
  refine wl_v hfr (by decide) (v_assign rfl) ?_
  clear hfr
  intro a hfr
  refine wl_nil ?_
  refine wr_succ ?_
  refine wc_seq_k fun K22 hK22 => ?_
  refine wc_seq_region fun K23 hK23 => ?_
  refine wl_v hfr (by decide) (v_move rfl) ?_
  clear hfr
  intro a hfr
  refine wl_v hfr (by decide) ((v_lt rfl rfl).asb (b' := true) rfl) ?_
  clear hfr
  intro a hfr
  refine wl_nil (hK23 _ _ ?_)
  refine wc_cond_t hfr rfl ?_
  refine wc_skip ?_
  refine hK22 _ _ ?_
  refine wc_seq_k fun K24 hK24 => ?_
  refine wc_block ?_
  refine wc_seq_k fun K25 hK25 => ?_
  refine wc_of_dr (by kernel_rfl) (dr_of_wd (by kernel_rfl) fun w26 hxz => ?_)
  replace hst : St No w0 [own v5 39 3 ([[.int .i64 1, .int .i64 cl.asked, .int .i64 (cl.asked + rl.answer)], [.int .i64 3, .int .i64 (cl.asked + la), .int .i64 (cl.asked + la + rl.cooling)], [.int .i64 4, .int .i64 (cl.asked + la + rl.cooling), .int .i64 (cl.asked + la + rl.cooling + rl.reverse)], [.int .i64 5, .int .i64 (cl.asked + la + rl.cooling + rl.reverse), .int .i64 (-1)]]), own v3 39 3 ([[.int .i64 1, .int .i64 cl.asked, .int .i64 (cl.asked + rl.answer)], [.int .i64 3, .int .i64 (cl.asked + ea), .int .i64 (cl.asked + ea + rl.cooling)], [.int .i64 4, .int .i64 (cl.asked + ea + rl.cooling), .int .i64 (cl.asked + ea + rl.cooling + rl.reverse)], [.int .i64 5, .int .i64 (cl.asked + ea + rl.cooling + rl.reverse), .int .i64 (-1)]]), blk w4.heap.size [.int .i64 cl.number, .int .i64 cl.frm, .int .i64 cl.to, .int .i64 cl.holder, .int .i64 cl.asked, .bool cl.backed] 31, blk w3.heap.size [.int .i64 rl.answer, .int .i64 rl.cooling, .int .i64 rl.settle, .int .i64 rl.reverse] 29] w26 := hst.grow hxz
  refine wd_sub (k := 0) 10 [4, 9] hfr (by kernel_rfl) (by kernel_rfl) (by kernel_rfl) (by rfl) ?_
  replace hfr : Fr 152 [(6, _), (8, _), (9, _), (11, _), (12, _), (13, _), (15, _), (125, _), (96, _), (97, _), (17, _), (94, _), (95, _)] [] a := hfr.pick [6, 8, 9, 11, 12, 13, 15, 125, 96, 97, 17, 94, 95]
  refine wc_phases' 10 [[], [], [0, 1], [2], [3], [], [], [5, 6], [7], [8]] (fun i => match i with | 0 => pv (v3) | 1 => pv (.int .i64 3) | 2 => pv (slAddr v3 (3 * 3)) | 3 => pv (slAddr v3 (3 * 3 + 0)) | 4 => pv (.int .i64 5) | 5 => pv (v5) | 6 => pv (.int .i64 3) | 7 => pv (slAddr v5 (3 * 3)) | 8 => pv (slAddr v5 (3 * 3 + 0)) | 9 => pv (.int .i64 5) | _ => fun _ _ => False) hfr hst (by kernel_rfl) (by kernel_rfl) ?_ ?_
  · intro i hi
    match i, hi with
    | 0, _ =>
      intro w hst
      exact OpV.g (v_move rfl)
    | 1, _ =>
      intro w hst
      exact OpV.g (v_move rfl)
    | 2, _ =>
      rintro _ _ ⟨rfl, rfl⟩ _ _ ⟨rfl, rfl⟩
      intro w hst
      exact OpV.g ((v_indexAddr_sl (i := 3) (sT := 47) (hst.ownAt (i := 1) rfl) rfl rfl (Try.runUnderlying47 _) (Try.sizeOf39 _) (by omega) (by simp)).as (v' := slAddr v3 (3 * 3)) rfl)
    | 3, _ =>
      rintro _ _ ⟨rfl, rfl⟩
      intro w hst
      exact OpV.g (v_fieldAddr_sl (k := 3 * 3) (j := 0) (hst.ownAt (i := 1) rfl) (i := 3) (by simp) rfl (fun _ _ => by kernel_rfl))
    | 4, _ =>
      rintro _ _ ⟨rfl, rfl⟩
      intro w hst
      exact OpV.g (v_load_sl1 (u := .int .i64 5) (i := 3) (j := 0) (hst.ownAt (i := 1) rfl) (by simp) rfl (Try.isAgg3 _) (by rfl))
    | 5, _ =>
      intro w hst
      exact OpV.g (v_move rfl)
    | 6, _ =>
      intro w hst
      exact OpV.g (v_move rfl)
    | 7, _ =>
      rintro _ _ ⟨rfl, rfl⟩ _ _ ⟨rfl, rfl⟩
      intro w hst
      exact OpV.g ((v_indexAddr_sl (i := 3) (sT := 47) (hst.ownAt (i := 0) rfl) rfl rfl (Try.runUnderlying47 _) (Try.sizeOf39 _) (by omega) (by simp)).as (v' := slAddr v5 (3 * 3)) rfl)
    | 8, _ =>
      rintro _ _ ⟨rfl, rfl⟩
      intro w hst
      exact OpV.g (v_fieldAddr_sl (k := 3 * 3) (j := 0) (hst.ownAt (i := 0) rfl) (i := 3) (by simp) rfl (fun _ _ => by kernel_rfl))
    | 9, _ =>
      rintro _ _ ⟨rfl, rfl⟩
      intro w hst
      exact OpV.g (v_load_sl1 (u := .int .i64 5) (i := 3) (j := 0) (hst.ownAt (i := 0) rfl) (by simp) rfl (Try.isAgg3 _) (by rfl))
  clear hfr hst
  rintro _ _ ⟨rfl, rfl⟩ _ _ ⟨rfl, rfl⟩ _ _ ⟨rfl, rfl⟩ _ _ ⟨rfl, rfl⟩ _ _ ⟨rfl, rfl⟩ _ _ ⟨rfl, rfl⟩ _ _ ⟨rfl, rfl⟩ _ _ ⟨rfl, rfl⟩ _ _ ⟨rfl, rfl⟩ _ _ ⟨rfl, rfl⟩ a w27 hfr hst
  replace hfr : Fr 152 [(98, _), (99, _), (100, _), (101, _), (102, _), (103, _), (104, _), (105, _), (106, _), (107, _), (6, _), (8, _), (9, _), (11, _), (12, _), (13, _), (15, _), (125, _), (96, _), (97, _), (17, _), (94, _), (95, _)] [] a := hfr
  replace hst : St No w0 [_, _, _, _] w27 := hst
  refine wl_nil ?_
  refine wd_lin (k := 10) 12 [11] (by kernel_rfl) (by kernel_rfl) (by kernel_rfl) ?_
  refine wl_v hfr (by decide) ((v_ne rfl rfl).asb (b' := false) rfl) ?_
  clear hfr
  intro a hfr
  refine wl_v hfr (by decide) (v_move rfl) ?_
  clear hfr
  intro a hfr
  refine wl_nil ?_
  refine wd_sub (k := 12) 26 [22, 25] hfr (by kernel_rfl) (by kernel_rfl) (by kernel_rfl) (by rfl) ?_
  replace hfr : Fr 152 [(6, _), (8, _), (9, _), (11, _), (12, _), (13, _), (15, _), (125, _), (96, _), (97, _), (17, _), (94, _), (95, _), (98, _), (99, _), (100, _), (101, _), (102, _), (103, _), (104, _), (105, _), (106, _), (107, _), (108, _), (109, _)] [] a := hfr.pick [6, 8, 9, 11, 12, 13, 15, 125, 96, 97, 17, 94, 95, 98, 99, 100, 101, 102, 103, 104, 105, 106, 107, 108, 109]
  refine wc_phases' 14 [[], [], [0, 1], [2], [3], [], [], [5, 6], [7], [8], [4, 9], [], [], [11, 12]] (fun i => match i with | 0 => pv (v5) | 1 => pv (.int .i64 3) | 2 => pv (slAddr v5 (3 * 3)) | 3 => pv (slAddr v5 (3 * 3 + 1)) | 4 => pv (.int .i64 (cl.asked + la + rl.cooling + rl.reverse)) | 5 => pv (v3) | 6 => pv (.int .i64 3) | 7 => pv (slAddr v3 (3 * 3)) | 8 => pv (slAddr v3 (3 * 3 + 1)) | 9 => pv (.int .i64 (cl.asked + ea + rl.cooling + rl.reverse)) | 10 => pv (.int .i64 ((cl.asked + la + rl.cooling + rl.reverse) - (cl.asked + ea + rl.cooling + rl.reverse))) | 11 => pv (.int .i64 la) | 12 => pv (.int .i64 ea) | 13 => pv (.int .i64 (la - ea)) | _ => fun _ _ => False) hfr hst (by kernel_rfl) (by kernel_rfl) ?_ ?_
  · intro i hi
    match i, hi with
    | 0, _ =>
      intro w hst
      exact OpV.g (v_move rfl)
    | 1, _ =>
      intro w hst
      exact OpV.g (v_move rfl)
    | 2, _ =>
      rintro _ _ ⟨rfl, rfl⟩ _ _ ⟨rfl, rfl⟩
      intro w hst
      exact OpV.g ((v_indexAddr_sl (i := 3) (sT := 47) (hst.ownAt (i := 0) rfl) rfl rfl (Try.runUnderlying47 _) (Try.sizeOf39 _) (by omega) (by simp)).as (v' := slAddr v5 (3 * 3)) rfl)
    | 3, _ =>
      rintro _ _ ⟨rfl, rfl⟩
      intro w hst
      exact OpV.g (v_fieldAddr_sl (k := 3 * 3) (j := 1) (hst.ownAt (i := 0) rfl) (i := 3) (by simp) rfl (fun _ _ => by kernel_rfl))
    | 4, _ =>
      rintro _ _ ⟨rfl, rfl⟩
      intro w hst
      exact OpV.g (v_load_sl1 (u := .int .i64 (cl.asked + la + rl.cooling + rl.reverse)) (i := 3) (j := 1) (hst.ownAt (i := 0) rfl) (by simp) rfl (Try.isAgg3 _) (by rfl))
    | 5, _ =>
      intro w hst
      exact OpV.g (v_move rfl)
    | 6, _ =>
      intro w hst
      exact OpV.g (v_move rfl)
    | 7, _ =>
      rintro _ _ ⟨rfl, rfl⟩ _ _ ⟨rfl, rfl⟩
      intro w hst
      exact OpV.g ((v_indexAddr_sl (i := 3) (sT := 47) (hst.ownAt (i := 1) rfl) rfl rfl (Try.runUnderlying47 _) (Try.sizeOf39 _) (by omega) (by simp)).as (v' := slAddr v3 (3 * 3)) rfl)
    | 8, _ =>
      rintro _ _ ⟨rfl, rfl⟩
      intro w hst
      exact OpV.g (v_fieldAddr_sl (k := 3 * 3) (j := 1) (hst.ownAt (i := 1) rfl) (i := 3) (by simp) rfl (fun _ _ => by kernel_rfl))
    | 9, _ =>
      rintro _ _ ⟨rfl, rfl⟩
      intro w hst
      exact OpV.g (v_load_sl1 (u := .int .i64 (cl.asked + ea + rl.cooling + rl.reverse)) (i := 3) (j := 1) (hst.ownAt (i := 1) rfl) (by simp) rfl (Try.isAgg3 _) (by rfl))
    | 10, _ =>
      rintro _ _ ⟨rfl, rfl⟩ _ _ ⟨rfl, rfl⟩
      intro w hst
      exact OpV.g (v_sub rfl rfl ⟨by omega, by omega⟩)
    | 11, _ =>
      intro w hst
      exact OpV.g (v_move rfl)
    | 12, _ =>
      intro w hst
      exact OpV.g (v_move rfl)
    | 13, _ =>
      rintro _ _ ⟨rfl, rfl⟩ _ _ ⟨rfl, rfl⟩
      intro w hst
      exact OpV.g (v_sub rfl rfl ⟨by omega, by omega⟩)
    | i + 14, h => exact absurd h (by omega)
  clear hfr hst
  rintro _ _ ⟨rfl, rfl⟩ _ _ ⟨rfl, rfl⟩ _ _ ⟨rfl, rfl⟩ _ _ ⟨rfl, rfl⟩ _ _ ⟨rfl, rfl⟩ _ _ ⟨rfl, rfl⟩ _ _ ⟨rfl, rfl⟩ _ _ ⟨rfl, rfl⟩ _ _ ⟨rfl, rfl⟩ _ _ ⟨rfl, rfl⟩ _ _ ⟨rfl, rfl⟩ _ _ ⟨rfl, rfl⟩ _ _ ⟨rfl, rfl⟩ _ _ ⟨rfl, rfl⟩ a w28 hfr hst
  replace hfr : Fr 152 [(110, _), (111, _), (112, _), (113, _), (114, _), (115, _), (116, _), (117, _), (118, _), (119, _), (120, _), (121, _), (122, _), (123, _), (6, _), (8, _), (9, _), (11, _), (12, _), (13, _), (15, _), (125, _), (96, _), (97, _), (17, _), (94, _), (95, _), (98, _), (99, _), (100, _), (101, _), (102, _), (103, _), (104, _), (105, _), (106, _), (107, _), (108, _), (109, _)] [] a := hfr
  replace hst : St No w0 [_, _, _, _] w28 := hst
  refine wl_nil ?_
  refine wd_lin (k := 26) 28 [27] (by kernel_rfl) (by kernel_rfl) (by kernel_rfl) ?_
  refine wl_vy hfr (by decide) rfl (by decide) rfl ((v_ne rfl rfl).asb (b' := false) (by simp <;> omega)) ?_
  clear hfr
  intro a hfr
  refine wl_v hfr (by decide) (v_pick_f rfl rfl) ?_
  clear hfr
  intro a hfr
  refine wl_nil ?_
  refine wd_end (by kernel_rfl) ?_
  refine hK25 _ _ ?_
  replace hfr : Fr 152 [(6, _), (8, _), (9, _), (11, _), (12, _), (13, _), (15, _), (17, _), (125, _)] [] a := hfr.pick [6, 8, 9, 11, 12, 13, 15, 17, 125]
  refine wc_cond_f hfr rfl ?_
  refine wc_skip ?_
  refine hK24 _ _ ?_
  refine wc_region ?_
  refine wl_v hfr (by decide) (v_move rfl) ?_
  clear hfr
  intro a hfr
  refine wl_v hfr (by decide) ((v_add rfl rfl (by decide)).asi (m' := 4) rfl) ?_
  clear hfr
  intro a hfr
  refine wl_v hfr (by decide) (v_assign rfl) ?_
  clear hfr
  intro a hfr
  refine wl_nil ?_
  refine wr_succ ?_
  refine wc_seq_k fun K26 hK26 => ?_
  refine wc_seq_region fun K27 hK27 => ?_
  refine wl_v hfr (by decide) (v_move rfl) ?_
  clear hfr
  intro a hfr
  refine wl_v hfr (by decide) ((v_lt rfl rfl).asb (b' := false) rfl) ?_
  clear hfr
  intro a hfr
  refine wl_nil (hK27 _ _ ?_)
  refine wc_cond_f hfr rfl ?_
  refine wc_exit ?_
  refine hK12 _ _ ?_
  refine wc_seq_k fun K28 hK28 => ?_
  refine wc_of_dr (by kernel_rfl) (dr_of_wd (by kernel_rfl) fun w29 hxz => ?_)
  replace hst : St No w0 [own v5 39 3 ([[.int .i64 1, .int .i64 cl.asked, .int .i64 (cl.asked + rl.answer)], [.int .i64 3, .int .i64 (cl.asked + la), .int .i64 (cl.asked + la + rl.cooling)], [.int .i64 4, .int .i64 (cl.asked + la + rl.cooling), .int .i64 (cl.asked + la + rl.cooling + rl.reverse)], [.int .i64 5, .int .i64 (cl.asked + la + rl.cooling + rl.reverse), .int .i64 (-1)]]), own v3 39 3 ([[.int .i64 1, .int .i64 cl.asked, .int .i64 (cl.asked + rl.answer)], [.int .i64 3, .int .i64 (cl.asked + ea), .int .i64 (cl.asked + ea + rl.cooling)], [.int .i64 4, .int .i64 (cl.asked + ea + rl.cooling), .int .i64 (cl.asked + ea + rl.cooling + rl.reverse)], [.int .i64 5, .int .i64 (cl.asked + ea + rl.cooling + rl.reverse), .int .i64 (-1)]]), blk w4.heap.size [.int .i64 cl.number, .int .i64 cl.frm, .int .i64 cl.to, .int .i64 cl.holder, .int .i64 cl.asked, .bool cl.backed] 31, blk w3.heap.size [.int .i64 rl.answer, .int .i64 rl.cooling, .int .i64 rl.settle, .int .i64 rl.reverse] 29] w29 := hst.grow hxz
  refine wd_lin (k := 0) 6 [5] (by kernel_rfl) (by kernel_rfl) (by kernel_rfl) ?_
  refine wl_v hfr (by decide) (v_move rfl) ?_
  clear hfr
  intro a hfr
  refine wl_v hfr (by decide) ((v_indexAddr_sl (i := 2) (sT := 47) (hst.ownAt (i := 1) rfl) rfl rfl (Try.runUnderlying47 _) (Try.sizeOf39 _) (by omega) (by simp)).as (v' := slAddr v3 (2 * 3)) rfl) ?_
  clear hfr
  intro a hfr
  refine wl_v hfr (by decide) (v_fieldAddr_sl (k := 2 * 3) (j := 0) (hst.ownAt (i := 1) rfl) (i := 2) (by simp) rfl (fun _ _ => by kernel_rfl)) ?_
  clear hfr
  intro a hfr
  refine wl_v hfr (by decide) (v_load_sl1 (u := .int .i64 4) (i := 2) (j := 0) (hst.ownAt (i := 1) rfl) (by simp) rfl (Try.isAgg3 _) (by rfl)) ?_
  clear hfr
  intro a hfr
  refine wl_v hfr (by decide) ((v_eq rfl rfl).asb (b' := true) rfl) ?_
  clear hfr
  intro a hfr
  refine wl_v hfr (by decide) (v_move rfl) ?_
  clear hfr
  intro a hfr
  refine wl_nil ?_
  refine wd_sub (k := 6) 17 [9, 16] hfr (by kernel_rfl) (by kernel_rfl) (by kernel_rfl) (by rfl) ?_
  replace hfr : Fr 152 [(6, _), (8, _), (9, _), (11, _), (12, _), (13, _), (15, _), (125, _), (96, _), (97, _), (17, _), (94, _), (95, _), (126, _), (127, _), (128, _), (129, _), (130, _), (131, _)] [] a := hfr.pick [6, 8, 9, 11, 12, 13, 15, 125, 96, 97, 17, 94, 95, 126, 127, 128, 129, 130, 131]
  refine wc_phases' 11 [[], [0], [1], [2], [], [4], [], [5, 6], [], [8], [7, 9]] (fun i => match i with | 0 => pv (v3) | 1 => pv (slAddr v3 (2 * 3)) | 2 => pv (slAddr v3 (2 * 3 + 1)) | 3 => pv (.int .i64 (cl.asked + ea + rl.cooling)) | 4 => pv (.pointer (some ⟨w4.heap.size, 4, none⟩)) | 5 => pv (.int .i64 cl.asked) | 6 => pv (.int .i64 ea) | 7 => pv (.int .i64 (cl.asked + ea)) | 8 => pv (.pointer (some ⟨w3.heap.size, 1, none⟩)) | 9 => pv (.int .i64 rl.cooling) | 10 => pv (.int .i64 ((cl.asked + ea) + rl.cooling)) | _ => fun _ _ => False) hfr hst (by kernel_rfl) (by kernel_rfl) ?_ ?_
  · intro i hi
    match i, hi with
    | 0, _ =>
      intro w hst
      exact OpV.g (v_move rfl)
    | 1, _ =>
      rintro _ _ ⟨rfl, rfl⟩
      intro w hst
      exact OpV.g ((v_indexAddr_sl (i := 2) (sT := 47) (hst.ownAt (i := 1) rfl) rfl rfl (Try.runUnderlying47 _) (Try.sizeOf39 _) (by omega) (by simp)).as (v' := slAddr v3 (2 * 3)) rfl)
    | 2, _ =>
      rintro _ _ ⟨rfl, rfl⟩
      intro w hst
      exact OpV.g (v_fieldAddr_sl (k := 2 * 3) (j := 1) (hst.ownAt (i := 1) rfl) (i := 2) (by simp) rfl (fun _ _ => by kernel_rfl))
    | 3, _ =>
      rintro _ _ ⟨rfl, rfl⟩
      intro w hst
      exact OpV.g (v_load_sl1 (u := .int .i64 (cl.asked + ea + rl.cooling)) (i := 2) (j := 1) (hst.ownAt (i := 1) rfl) (by simp) rfl (Try.isAgg3 _) (by rfl))
    | 4, _ =>
      intro w hst
      exact OpV.g (v_fieldAddr (v := .pointer (some ⟨w4.heap.size, 4, none⟩)) rfl (by kernel_rfl))
    | 5, _ =>
      rintro _ _ ⟨rfl, rfl⟩
      intro w hst
      exact OpV.g (v_load_blk1 (hst.get (k := 2) rfl) rfl (Try.isAgg3 _) rfl)
    | 6, _ =>
      intro w hst
      exact OpV.g (v_move rfl)
    | 7, _ =>
      rintro _ _ ⟨rfl, rfl⟩ _ _ ⟨rfl, rfl⟩
      intro w hst
      exact OpV.g (v_add rfl rfl ⟨by omega, by omega⟩)
    | 8, _ =>
      intro w hst
      exact OpV.g (v_fieldAddr (v := .pointer (some ⟨w3.heap.size, 1, none⟩)) rfl (by kernel_rfl))
    | 9, _ =>
      rintro _ _ ⟨rfl, rfl⟩
      intro w hst
      exact OpV.g (v_load_blk1 (hst.get (k := 3) rfl) rfl (Try.isAgg3 _) rfl)
    | 10, _ =>
      rintro _ _ ⟨rfl, rfl⟩ _ _ ⟨rfl, rfl⟩
      intro w hst
      exact OpV.g (v_add rfl rfl ⟨by omega, by omega⟩)
  clear hfr hst
  rintro _ _ ⟨rfl, rfl⟩ _ _ ⟨rfl, rfl⟩ _ _ ⟨rfl, rfl⟩ _ _ ⟨rfl, rfl⟩ _ _ ⟨rfl, rfl⟩ _ _ ⟨rfl, rfl⟩ _ _ ⟨rfl, rfl⟩ _ _ ⟨rfl, rfl⟩ _ _ ⟨rfl, rfl⟩ _ _ ⟨rfl, rfl⟩ _ _ ⟨rfl, rfl⟩ a w30 hfr hst
  replace hfr : Fr 152 [(132, _), (133, _), (134, _), (135, _), (136, _), (137, _), (138, _), (139, _), (140, _), (141, _), (142, _), (6, _), (8, _), (9, _), (11, _), (12, _), (13, _), (15, _), (125, _), (96, _), (97, _), (17, _), (94, _), (95, _), (126, _), (127, _), (128, _), (129, _), (130, _), (131, _)] [] a := hfr
  replace hst : St No w0 [_, _, _, _] w30 := hst
  refine wl_nil ?_
  refine wd_lin (k := 17) 27 [26] (by kernel_rfl) (by kernel_rfl) (by kernel_rfl) ?_
  refine wl_vy hfr (by decide) rfl (by decide) rfl ((v_eq rfl rfl).asb (b' := true) (by simp <;> omega)) ?_
  clear hfr
  intro a hfr
  refine wl_v hfr (by decide) (v_pick_t rfl rfl) ?_
  clear hfr
  intro a hfr
  refine wl_v hfr (by decide) (v_move rfl) ?_
  clear hfr
  intro a hfr
  refine wl_vy hfr (by decide) rfl (by decide) rfl (v_move rfl) ?_
  clear hfr
  intro a hfr
  refine wl_vy hfr (by decide) rfl (by decide) rfl ((v_indexAddr_sl (i := 3) (sT := 47) (hst.ownAt (i := 1) rfl) rfl rfl (Try.runUnderlying47 _) (Try.sizeOf39 _) (by omega) (by simp)).as (v' := slAddr v3 (3 * 3)) rfl) ?_
  clear hfr
  intro a hfr
  refine wl_vy hfr (by decide) rfl (by decide) rfl (v_fieldAddr_sl (k := 3 * 3) (j := 0) (hst.ownAt (i := 1) rfl) (i := 3) (by simp) rfl (fun _ _ => by kernel_rfl)) ?_
  clear hfr
  intro a hfr
  refine wl_vy hfr (by decide) rfl (by decide) rfl (v_load_sl1 (u := .int .i64 5) (i := 3) (j := 0) (hst.ownAt (i := 1) rfl) (by simp) rfl (Try.isAgg3 _) (by rfl)) ?_
  clear hfr
  intro a hfr
  refine wl_vy hfr (by decide) rfl (by decide) rfl ((v_eq rfl rfl).asb (b' := true) rfl) ?_
  clear hfr
  intro a hfr
  refine wl_v hfr (by decide) (v_pick_t rfl rfl) ?_
  clear hfr
  intro a hfr
  refine wl_v hfr (by decide) (v_assign rfl) ?_
  clear hfr
  intro a hfr
  refine wl_nil ?_
  refine wd_end (by kernel_rfl) ?_
  refine hK28 _ _ ?_
  replace hfr : Fr 152 [(6, _)] [] a := hfr.pick [6]
  replace hst : St No w0 [] w30 := hst.mask [false, false, false, false]
  refine wc_ret ?_
  refine fin_ret hfr Try.results7 (resAre_tmp rfl resAre_nil) ?_
  exact ⟨by simp [retv], hst.ext⟩
end Go.Proofs.Ytdamipejlfipcaa
