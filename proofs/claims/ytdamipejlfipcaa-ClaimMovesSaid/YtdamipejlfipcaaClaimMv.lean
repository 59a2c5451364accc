import Derived.Test.YtdamipejlfipcaaClaimW
import Derived.Test.YtdamipejlfipcaaClaimL
namespace Go.Proofs.Ytdamipejlfipcaa
open Go.RowKit Go.PW
set_option linter.unusedVariables false
set_option linter.unusedSimpArgs false
set_option maxRecDepth 4000

theorem timeline3 {rl : Rul} {cl : Clm} {l : List Evt} {ss : List Stt} {E : TypeId} {f : FuncId} {args : Array Value} {w : World} (hs : statuses rl cl l = ss) (h : Ret Try.prog f args w (MemR w (fun v : Value => .tuple #[v, .int .i64 0]) (fun v => [own v E 3 ((statuses rl cl l).map Stt.cells)]) (fun _ => True))) :
    Ret Try.prog f args w (MemR w (fun v : Value => .tuple #[v, .int .i64 0]) (fun v => [own v E 3 (ss.map Stt.cells)]) (fun _ => True)) := by subst hs; exact h
theorem void3 {rl : Rul} {cl : Clm} {l : List Evt} {vo : List Int} {E : TypeId} {f : FuncId} {args : Array Value} {w : World} (hs : voids rl cl l = vo) (h : Ret Try.prog f args w (MemR w (fun v : Value => .tuple #[v, .int .i64 0]) (fun v => [own v E 1 ((voids rl cl l).map fun i => [.int .i64 i])]) (fun _ => True))) :
    Ret Try.prog f args w (MemR w (fun v : Value => .tuple #[v, .int .i64 0]) (fun v => [own v E 1 (vo.map fun i => [.int .i64 i])]) (fun _ => True)) := by subst hs; exact h
theorem take_snoc {α : Type} {l : List α} {k : Nat} {d ev : α} (hk : k < l.length) (he : l.getD k d = ev) : l.take (k + 1) = l.take k ++ [ev] := by
  rw [List.take_succ_eq_append_getElem hk, ← he]; simp [List.getD_eq_getElem?_getD, List.getElem?_eq_getElem hk]
theorem getD_mem {α : Type} {l : List α} {k : Nat} {d ev : α} (hk : k < l.length) (he : l.getD k d = ev) : ev ∈ l := by
  rw [← he]; simp [List.getD_eq_getElem?_getD, List.getElem?_eq_getElem hk]
theorem with2 {rl : Rul} {cl : Clm} {l : List Evt} {t : Int} {s : Stt} {f : FuncId} {args : Array Value} {w : World} (hs : outcome rl cl l t = s) (h : Ret Try.prog f args w fun v w' => v = .tuple #[.int .i64 (withAt rl cl l t), .int .i64 0] ∧ Ext No w w') :
    Ret Try.prog f args w fun v w' => v = .tuple #[.int .i64 (if s.state = 4 ∨ s.state = 5 then cl.to else cl.frm), .int .i64 0] ∧ Ext No w w' := by subst hs; exact h

set_option maxHeartbeats 4000000 in
/-- dialtone/dialtonelaw16.ClaimMoves -/
theorem moves_walk (x0 x1 x2 x3 y0 y1 y2 y3 y4 y5 : Int) (xv : Value) (xs : List Tri) (w0 : World) (gf : isI64 x0 ∧ isI64 x1 ∧ isI64 x2 ∧ isI64 x3 ∧ isI64 y0 ∧ isI64 y1 ∧ isI64 y2 ∧ isI64 y3 ∧ isI64 y4 ∧ isI64 y5) (hxv : SlAt w0 xv 3 (xs.map Tri.cells)) (hfit : ∀ k, k < xs.length → (xs.getD k ⟨0, 0, 0⟩).fits) (bb : Int) (gbb : isI64 bb) :
    Ret Try.prog 8 #[.agg #[.int .i64 x0, .int .i64 x1, .int .i64 x2, .int .i64 x3, .int .i64 y0, .int .i64 y1, .int .i64 y2, .int .i64 y3, .int .i64 y4, .int .i64 y5, xv], .int .i64 bb] w0 fun v w => v = .bool true ∧ Ext No w0 w := by
  obtain ⟨g0, g1, g2, g3, g4, g5, g6, g7, g8, g9⟩ := gf
  obtain ⟨rl, hrl⟩ : ∃ r, mkRul x0 x1 x2 x3 = r := ⟨_, rfl⟩
  obtain ⟨cl, hcl0⟩ : ∃ c, mkClm y0 y1 y2 y3 y4 y5 = c := ⟨_, rfl⟩
  have hr : areValid rl = true := hrl ▸ mkRul_valid x0 x1 x2 x3
  have hc : isClaim cl = true := hcl0 ▸ (mkClm_valid y0 y1 y2 y3 y4 y5).1
  have ha : cl.asked < 1000 := hcl0 ▸ (mkClm_valid y0 y1 y2 y3 y4 y5).2
  have hcl := isClaim_le hc
  have hrl1 := areValid_le hr
  have hrl2 := mkRul_day x0 x1 x2 x3
  rw [hrl] at hrl2
  obtain ⟨l, hl0⟩ : ∃ l, mkL rl cl xs = l := ⟨_, rfl⟩
  obtain ⟨hv, hl10⟩ : valid rl cl l = true ∧ l.length ≤ 10 := hl0 ▸ mkL_valid hr hc ha xs
  unfold isI64 at gbb
  obtain ⟨d, hd⟩ : ∃ k, pick bb 1000000 = k := ⟨_, rfl⟩
  have bd := pick_lt bb 1000000 (by omega)
  rw [hd] at bd
  have hat : ∀ e ∈ l, e.at_ ≤ 10001100 := fun e he => by subst hl0; exact (mkL_at hr hc ha xs e he).2
  have hat0 : ∀ e ∈ l, 0 ≤ e.at_ := fun e he => by subst hl0; have := (mkL_at hr hc ha xs e he).1; omega
  obtain ⟨en, hen⟩ : ∃ n, ends rl cl = n := ⟨_, rfl⟩
  have hen2 : ends rl (shC d cl) = en + d := by rw [← hen]; simp only [ends, shC]; omega
  have hen1 : en = cl.asked + rl.answer - 1 + rl.settle + rl.cooling + rl.reverse := hen.symm
  have hv2 : valid rl (shC d cl) (l.map (shE d)) = true := valid_sh hv (by omega) (by omega) ha hat
  have hc2 := (valid_parts hv2).2.1
  obtain ⟨ss, hss⟩ : ∃ s, statuses rl cl l = s := ⟨_, rfl⟩
  obtain ⟨vo, hvo⟩ : ∃ s, voids rl cl l = s := ⟨_, rfl⟩
  obtain ⟨hss2, hvo2⟩ := statuses_sh (d := d) hv (by omega) (by omega)
  rw [hss] at hss2
  rw [hvo] at hvo2
  have htame := (statuses_tame hv).1
  have hssl := statuses_len hv
  rw [hss] at htame hssl
  have hl20 := (valid_parts hv).2.2.1
  refine ret_of Try.func8 rfl Try.ntmps8 (Nat.le_of_ble_eq_true rfl) fun a hfr => ?_
  replace hfr : Fr 223 [(0, _), (1, _)] [] a := hfr
  replace hst : St No w0 [] w0 := St.init w0
  refine wc_seq_region fun K1 hK1 => ?_
  refine wl_box hfr hst (by decide) rfl (cs := [.int .i64 x0, .int .i64 x1, .int .i64 x2, .int .i64 x3, .int .i64 y0, .int .i64 y1, .int .i64 y2, .int .i64 y3, .int .i64 y4, .int .i64 y5, xv]) rfl ?_
  clear hfr hst
  intro a w1 hfr hst
  refine wl_v hfr (by decide) (v_assign rfl) ?_
  clear hfr
  intro a hfr
  refine wl_nil (hK1 _ _ ?_)
  refine wc_seq_region fun K2 hK2 => ?_
  refine wl_callp hfr hst (by decide) Try.call11 rfl (sane_ok _) ?_
  clear hfr hst
  intro a w2 hfr hst
  refine wl_v hfr (by decide) (v_assign rfl) ?_
  clear hfr
  intro a hfr
  refine wl_nil (hK2 _ _ ?_)
  refine wc_seq_k fun K3 hK3 => ?_
  refine wc_seq_region fun K4 hK4 => ?_
  refine wl_v hfr (by decide) (v_move rfl) ?_
  clear hfr
  intro a hfr
  refine wl_v hfr (by decide) ((v_not rfl).asb (b' := false) rfl) ?_
  clear hfr
  intro a hfr
  refine wl_nil (hK4 _ _ ?_)
  refine wc_cond_f hfr rfl ?_
  refine wc_skip ?_
  refine hK3 _ _ ?_
  refine wc_seq_region fun K5 hK5 => ?_
  refine wl_v hfr (by decide) (v_load_all (hst.get (k := 0) rfl) rfl (Try.isAgg26 _) (Try.sizeOf26 _)) ?_
  clear hfr
  intro a hfr
  refine wl_callm hfr hst (by decide) Try.call12 rfl (made2 hrl hcl0 hl0 (made_ok x0 x1 x2 x3 y0 y1 y2 y3 y4 y5 xv xs _ g0 g1 g2 g3 g4 g5 g6 g7 g8 g9 (hst.arg hxv) hfit)) ?_
  clear hfr hst
  intro a w3 x2 hp hfr hst
  revert x2 hp hfr hst; rintro v1 hp hfr hst
  clear hp
  replace hst : St No w0 [own v1 45 3 (l.map Evt.cells), blk w0.heap.size [.int .i64 x0, .int .i64 x1, .int .i64 x2, .int .i64 x3, .int .i64 y0, .int .i64 y1, .int .i64 y2, .int .i64 y3, .int .i64 y4, .int .i64 y5, xv] 26] w3 := hst
  refine wl_v hfr (by decide) (v_move rfl) ?_
  clear hfr
  intro a hfr
  refine wl_v hfr (by decide) (v_extract rfl rfl) ?_
  clear hfr
  intro a hfr
  refine wl_v hfr (by decide) (v_extract rfl rfl) ?_
  clear hfr
  intro a hfr
  refine wl_v hfr (by decide) (v_extract rfl rfl) ?_
  clear hfr
  intro a hfr
  refine wl_alloc hfr hst (by decide) (Try.zeroValue29 _) (cs := [.int .i64 0, .int .i64 0, .int .i64 0, .int .i64 0]) rfl ?_
  clear hfr hst
  intro a w4 hfr hst
  refine wl_alloc hfr hst (by decide) (Try.zeroValue31 _) (cs := [.int .i64 0, .int .i64 0, .int .i64 0, .int .i64 0, .int .i64 0, .bool false]) rfl ?_
  clear hfr hst
  intro a w5 hfr hst
  refine wl_store 1 hfr hst rfl rfl rfl (Try.sizeOf29 _) rfl (Nat.le_of_ble_eq_true rfl) (ds := [.int .i64 rl.answer, .int .i64 rl.cooling, .int .i64 rl.settle, .int .i64 rl.reverse]) rfl rfl ?_
  clear hfr hst
  intro a w6 hfr hst
  refine wl_store 0 hfr hst rfl rfl rfl (Try.sizeOf31 _) rfl (Nat.le_of_ble_eq_true rfl) (ds := [.int .i64 cl.number, .int .i64 cl.frm, .int .i64 cl.to, .int .i64 cl.holder, .int .i64 cl.asked, .bool cl.backed]) rfl rfl ?_
  clear hfr hst
  intro a w7 hfr hst
  refine wl_v hfr (by decide) (v_assign rfl) ?_
  clear hfr
  intro a hfr
  refine wl_nil (hK5 _ _ ?_)
  replace hfr : Fr 223 [(1, _), (4, _), (5, _), (6, _), (7, _), (8, _)] [] a := hfr.pick [1, 4, 5, 6, 7, 8]
  replace hst : St No w0 [_, _, _] w7 := hst.mask [true, true, true, false]
  refine wc_seq_region fun K6 hK6 => ?_
  refine wl_v hfr (by decide) (v_move rfl) ?_
  clear hfr
  intro a hfr
  refine wl_callp hfr hst (by decide) Try.call15 rfl (pick2 hd (pick16_ok _ _ _ (by omega) (by omega) (by omega) (by omega))) ?_
  clear hfr hst
  intro a w8 hfr hst
  refine wl_v hfr (by decide) (v_assign rfl) ?_
  clear hfr
  intro a hfr
  refine wl_nil (hK6 _ _ ?_)
  refine wc_seq_region fun K7 hK7 => ?_
  refine wl_v hfr (by decide) (v_load_all (hst.get (k := 0) rfl) rfl (Try.isAgg31 _) (Try.sizeOf31 _)) ?_
  clear hfr
  intro a hfr
  refine wl_alloc hfr hst (by decide) (Try.zeroValue31 _) (cs := [.int .i64 0, .int .i64 0, .int .i64 0, .int .i64 0, .int .i64 0, .bool false]) rfl ?_
  clear hfr hst
  intro a w9 hfr hst
  refine wl_store 0 hfr hst rfl rfl rfl (Try.sizeOf31 _) rfl (Nat.le_of_ble_eq_true rfl) (ds := [.int .i64 cl.number, .int .i64 cl.frm, .int .i64 cl.to, .int .i64 cl.holder, .int .i64 cl.asked, .bool cl.backed]) rfl rfl ?_
  clear hfr hst
  intro a w10 hfr hst
  refine wl_nil (hK7 _ _ ?_)
  refine wc_seq_region fun K8 hK8 => ?_
  refine wl_v hfr (by decide) (v_fieldAddr (v := .pointer (some ⟨w4.heap.size, 4, none⟩)) rfl (by kernel_rfl)) ?_
  clear hfr
  intro a hfr
  refine wl_v hfr (by decide) (v_load_blk1 (hst.get (k := 1) rfl) rfl (Try.isAgg3 _) rfl) ?_
  clear hfr
  intro a hfr
  refine wl_v hfr (by decide) (v_move rfl) ?_
  clear hfr
  intro a hfr
  refine wl_v hfr (by decide) (v_add rfl rfl ⟨by omega, by omega⟩) ?_
  clear hfr
  intro a hfr
  refine wl_v hfr (by decide) (v_fieldAddr (v := .pointer (some ⟨w8.heap.size, 4, none⟩)) rfl (by kernel_rfl)) ?_
  clear hfr
  intro a hfr
  refine wl_store 0 hfr hst rfl rfl rfl (Try.sizeOf3 _) rfl (Nat.le_of_ble_eq_true rfl) (ds := [.int .i64 cl.number, .int .i64 cl.frm, .int .i64 cl.to, .int .i64 cl.holder, .int .i64 (cl.asked + d), .bool cl.backed]) rfl rfl ?_
  clear hfr hst
  intro a w11 hfr hst
  refine wl_nil (hK8 _ _ ?_)
  replace hfr : Fr 223 [(4, _), (5, _), (6, _), (7, _), (8, _), (1, _), (9, _)] [] a := hfr.pick [4, 5, 6, 7, 8, 1, 9]
  refine wc_seq_region fun K9 hK9 => ?_
  refine wl_v hfr (by decide) (v_assign rfl) ?_
  clear hfr
  intro a hfr
  refine wl_nil (hK9 _ _ ?_)
  refine wc_seq_k fun K10 hK10 => ?_
  refine wc_seq_region fun K11 hK11 => ?_
  refine wl_v hfr (by decide) (v_assign rfl) ?_
  clear hfr
  intro a hfr
  refine wl_nil (hK11 _ _ ?_)
  refine wc_block ?_
  replace hst : St No w0 (own (.slice none 0 0) 45 3 [] :: [blk w8.heap.size [.int .i64 cl.number, .int .i64 cl.frm, .int .i64 cl.to, .int .i64 cl.holder, .int .i64 (cl.asked + d), .bool cl.backed] 31, blk w4.heap.size [.int .i64 cl.number, .int .i64 cl.frm, .int .i64 cl.to, .int .i64 cl.holder, .int .i64 cl.asked, .bool cl.backed] 31, blk w3.heap.size [.int .i64 rl.answer, .int .i64 rl.cooling, .int .i64 rl.settle, .int .i64 rl.reverse] 29, own v1 45 3 (l.map Evt.cells)]) w11 := hst.nil_own
  refine wc_loop (fun m a w => ∃ (k : Nat) (v : Value), m = l.length - k ∧ (k ≤ l.length) ∧ Fr 223 [(4, .bool false), (5, .bool true), (6, .pointer (some ⟨w3.heap.size, 0, none⟩)), (7, .pointer (some ⟨w4.heap.size, 0, none⟩)), (8, v1), (1, .int .i64 d), (9, .pointer (some ⟨w8.heap.size, 0, none⟩)), (11, .int .i64 (k : Int)), (10, v)] [] a ∧ St No w0 [own v 45 3 (((l.take k).map (shE d)).map Evt.cells), blk w8.heap.size [.int .i64 cl.number, .int .i64 cl.frm, .int .i64 cl.to, .int .i64 cl.holder, .int .i64 (cl.asked + d), .bool cl.backed] 31, blk w4.heap.size [.int .i64 cl.number, .int .i64 cl.frm, .int .i64 cl.to, .int .i64 cl.holder, .int .i64 cl.asked, .bool cl.backed] 31, blk w3.heap.size [.int .i64 rl.answer, .int .i64 rl.cooling, .int .i64 rl.settle, .int .i64 rl.reverse] 29, own v1 45 3 (l.map Evt.cells)] w) _ ⟨0, .slice none 0 0, rfl, Nat.zero_le _, hfr.pick [4, 5, 6, 7, 8, 1, 9, 11, 10], hst.select [0, 1, 2, 3, 4] (by decide)⟩ ?_
  rintro _ a w12 ⟨k, v, rfl, hk, hfr, hst⟩
  refine wc_seq_k fun K12 hK12 => ?_
  refine wc_seq_region fun K13 hK13 => ?_
  refine wl_v hfr (by decide) (v_move rfl) ?_
  clear hfr
  intro a hfr
  refine wl_v hfr (by decide) (v_move rfl) ?_
  clear hfr
  intro a hfr
  refine wl_v hfr (by decide) ((v_len_sl (sT := 32) (hst.ownAt (i := 4) rfl) rfl rfl (Try.runUnderlying32 _)).asi (m' := (l.length : Int)) (by simp)) ?_
  clear hfr
  intro a hfr
  refine wl_v hfr (by decide) (v_lt rfl rfl) ?_
  clear hfr
  intro a hfr
  refine wl_nil (hK13 _ _ ?_)
  refine wc_cond hfr rfl (fun hc3 => ?_) (fun hc3 => ?_)
  · rw [hc3] at hfr
    try simp only [Bool.not_eq_true', Bool.not_eq_false', decide_eq_true_eq, decide_eq_false_iff_not] at hc3
    have hkl : k < l.length := by omega
    obtain ⟨ev, hev⟩ : ∃ ev, l.getD k ⟨0, 0, 0⟩ = ev := ⟨_, rfl⟩
    have hea := hat ev (getD_mem hkl hev)
    have hea0 := hat0 ev (getD_mem hkl hev)
    refine wc_skip ?_
    refine hK12 _ _ ?_
    refine wc_seq_k fun K14 hK14 => ?_
    refine wc_block ?_
    refine wc_of_dr (by kernel_rfl) (dr_of_wd (by kernel_rfl) fun w13 hxz => ?_)
    replace hst : St No w0 [own v 45 3 (((l.take k).map (shE d)).map Evt.cells), blk w8.heap.size [.int .i64 cl.number, .int .i64 cl.frm, .int .i64 cl.to, .int .i64 cl.holder, .int .i64 (cl.asked + d), .bool cl.backed] 31, blk w4.heap.size [.int .i64 cl.number, .int .i64 cl.frm, .int .i64 cl.to, .int .i64 cl.holder, .int .i64 cl.asked, .bool cl.backed] 31, blk w3.heap.size [.int .i64 rl.answer, .int .i64 rl.cooling, .int .i64 rl.settle, .int .i64 rl.reverse] 29, own v1 45 3 (l.map Evt.cells)] w13 := hst.grow hxz
    refine wd_sub (k := 0) 20 [0, 19] hfr (by kernel_rfl) (by kernel_rfl) (by kernel_rfl) (by rfl) ?_
    replace hfr : Fr 223 [(4, _), (5, _), (6, _), (7, _), (8, _), (1, _), (9, _), (11, _), (10, _), (42, _), (43, _), (44, _), (45, _)] [] a := hfr.pick [4, 5, 6, 7, 8, 1, 9, 11, 10, 42, 43, 44, 45]
    refine wc_phases' 20 [[], [], [], [1, 2], [3], [4], [], [], [6, 7], [8], [9], [], [10, 11], [], [], [13, 14], [15], [16], [5, 12, 17], [18]] (fun i => match i with | 0 => pv (v) | 1 => pv (v1) | 2 => pv (.int .i64 (k : Int)) | 3 => pv (slAddr v1 (k * 3)) | 4 => pv (slAddr v1 (k * 3 + 0)) | 5 => pv (.int .i64 ev.kind) | 6 => pv (v1) | 7 => pv (.int .i64 (k : Int)) | 8 => pv (slAddr v1 (k * 3)) | 9 => pv (slAddr v1 (k * 3 + 1)) | 10 => pv (.int .i64 ev.at_) | 11 => pv (.int .i64 d) | 12 => pv (.int .i64 (ev.at_ + d)) | 13 => pv (v1) | 14 => pv (.int .i64 (k : Int)) | 15 => pv (slAddr v1 (k * 3)) | 16 => pv (slAddr v1 (k * 3 + 2)) | 17 => pv (.int .i64 ev.reason) | 18 => pv (.agg #[.int .i64 ev.kind, .int .i64 (ev.at_ + d), .int .i64 ev.reason]) | 19 => pm (fun b : Nat => .slice (some ⟨b, 0, none⟩) 1 1) (fun b => [own (.slice (some ⟨b, 0, none⟩) 1 1) 45 3 [[.int .i64 ev.kind, .int .i64 (ev.at_ + d), .int .i64 ev.reason]]]) (fun _ => True) | _ => fun _ _ => False) hfr hst (by kernel_rfl) (by kernel_rfl) ?_ ?_
    · intro i hi
      match i, hi with
      | 0, _ =>
        intro w hst
        exact OpV.g (v_move rfl)
      | 1, _ =>
        intro w hst
        exact OpV.g (v_move rfl)
      | 2, _ =>
        intro w hst
        exact OpV.g (v_move rfl)
      | 3, _ =>
        rintro _ _ ⟨rfl, rfl⟩ _ _ ⟨rfl, rfl⟩
        intro w hst
        exact OpV.g ((v_indexAddr_sl (i := (k : Int)) (sT := 32) (hst.ownAt (i := 4) rfl) rfl rfl (Try.runUnderlying32 _) (Try.sizeOf45 _) (by omega) (by simpa using hkl)).as (v' := slAddr v1 (k * 3)) rfl)
      | 4, _ =>
        rintro _ _ ⟨rfl, rfl⟩
        intro w hst
        exact OpV.g (v_fieldAddr_sl (k := k * 3) (j := 0) (hst.ownAt (i := 4) rfl) (i := k) (by simpa using hkl) rfl (fun _ _ => by kernel_rfl))
      | 5, _ =>
        rintro _ _ ⟨rfl, rfl⟩
        intro w hst
        exact OpV.g (v_load_sl1 (u := .int .i64 ev.kind) (i := k) (j := 0) (hst.ownAt (i := 4) rfl) (by simpa using hkl) rfl (Try.isAgg3 _) (by rw [← hev]; first | (show _ = Value.agg (l.getD k ⟨0, 0, 0⟩).cells.toArray; simp [hkl]) | simp [List.getElem?_eq_getElem hkl, Evt.cells]))
      | 6, _ =>
        intro w hst
        exact OpV.g (v_move rfl)
      | 7, _ =>
        intro w hst
        exact OpV.g (v_move rfl)
      | 8, _ =>
        rintro _ _ ⟨rfl, rfl⟩ _ _ ⟨rfl, rfl⟩
        intro w hst
        exact OpV.g ((v_indexAddr_sl (i := (k : Int)) (sT := 32) (hst.ownAt (i := 4) rfl) rfl rfl (Try.runUnderlying32 _) (Try.sizeOf45 _) (by omega) (by simpa using hkl)).as (v' := slAddr v1 (k * 3)) rfl)
      | 9, _ =>
        rintro _ _ ⟨rfl, rfl⟩
        intro w hst
        exact OpV.g (v_fieldAddr_sl (k := k * 3) (j := 1) (hst.ownAt (i := 4) rfl) (i := k) (by simpa using hkl) rfl (fun _ _ => by kernel_rfl))
      | 10, _ =>
        rintro _ _ ⟨rfl, rfl⟩
        intro w hst
        exact OpV.g (v_load_sl1 (u := .int .i64 ev.at_) (i := k) (j := 1) (hst.ownAt (i := 4) rfl) (by simpa using hkl) rfl (Try.isAgg3 _) (by rw [← hev]; first | (show _ = Value.agg (l.getD k ⟨0, 0, 0⟩).cells.toArray; simp [hkl]) | simp [List.getElem?_eq_getElem hkl, Evt.cells]))
      | 11, _ =>
        intro w hst
        exact OpV.g (v_move rfl)
      | 12, _ =>
        rintro _ _ ⟨rfl, rfl⟩ _ _ ⟨rfl, rfl⟩
        intro w hst
        exact OpV.g (v_add rfl rfl ⟨by omega, by omega⟩)
      | 13, _ =>
        intro w hst
        exact OpV.g (v_move rfl)
      | 14, _ =>
        intro w hst
        exact OpV.g (v_move rfl)
      | 15, _ =>
        rintro _ _ ⟨rfl, rfl⟩ _ _ ⟨rfl, rfl⟩
        intro w hst
        exact OpV.g ((v_indexAddr_sl (i := (k : Int)) (sT := 32) (hst.ownAt (i := 4) rfl) rfl rfl (Try.runUnderlying32 _) (Try.sizeOf45 _) (by omega) (by simpa using hkl)).as (v' := slAddr v1 (k * 3)) rfl)
      | 16, _ =>
        rintro _ _ ⟨rfl, rfl⟩
        intro w hst
        exact OpV.g (v_fieldAddr_sl (k := k * 3) (j := 2) (hst.ownAt (i := 4) rfl) (i := k) (by simpa using hkl) rfl (fun _ _ => by kernel_rfl))
      | 17, _ =>
        rintro _ _ ⟨rfl, rfl⟩
        intro w hst
        exact OpV.g (v_load_sl1 (u := .int .i64 ev.reason) (i := k) (j := 2) (hst.ownAt (i := 4) rfl) (by simpa using hkl) rfl (Try.isAgg3 _) (by rw [← hev]; first | (show _ = Value.agg (l.getD k ⟨0, 0, 0⟩).cells.toArray; simp [hkl]) | simp [List.getElem?_eq_getElem hkl, Evt.cells]))
      | 18, _ =>
        rintro _ _ ⟨rfl, rfl⟩ _ _ ⟨rfl, rfl⟩ _ _ ⟨rfl, rfl⟩
        intro w hst
        exact OpV.g (v_build (v := .agg #[.int .i64 ev.kind, .int .i64 (ev.at_ + d), .int .i64 ev.reason]) rfl (by kernel_rfl))
      | 19, _ =>
        rintro _ _ ⟨rfl, rfl⟩
        intro w hst
        exact g_buildSlice (E := 45) (sz := 3) rfl [[.int .i64 ev.kind, .int .i64 (ev.at_ + d), .int .i64 ev.reason]] (fun _ => by kernel_rfl) (by simp) rfl (by decide)
      | i + 20, h => exact absurd h (by omega)
    clear hfr hst
    rintro _ _ ⟨rfl, rfl⟩ _ _ ⟨rfl, rfl⟩ _ _ ⟨rfl, rfl⟩ _ _ ⟨rfl, rfl⟩ _ _ ⟨rfl, rfl⟩ _ _ ⟨rfl, rfl⟩ _ _ ⟨rfl, rfl⟩ _ _ ⟨rfl, rfl⟩ _ _ ⟨rfl, rfl⟩ _ _ ⟨rfl, rfl⟩ _ _ ⟨rfl, rfl⟩ _ _ ⟨rfl, rfl⟩ _ _ ⟨rfl, rfl⟩ _ _ ⟨rfl, rfl⟩ _ _ ⟨rfl, rfl⟩ _ _ ⟨rfl, rfl⟩ _ _ ⟨rfl, rfl⟩ _ _ ⟨rfl, rfl⟩ _ _ ⟨rfl, rfl⟩ _ _ ⟨b4, rfl, -, rfl⟩ a w14 hfr hst
    replace hfr : Fr 223 [(48, _), (49, _), (50, _), (51, _), (52, _), (53, _), (54, _), (55, _), (56, _), (57, _), (58, _), (59, _), (60, _), (61, _), (62, _), (63, _), (64, _), (65, _), (66, _), (67, _), (4, _), (5, _), (6, _), (7, _), (8, _), (1, _), (9, _), (11, _), (10, _), (42, _), (43, _), (44, _), (45, _)] [] a := hfr
    replace hst : St No w0 [_, _, _, _, _, _] w14 := hst
    refine wl_nil ?_
    refine wd_lin (k := 20) 22 [21] (by kernel_rfl) (by kernel_rfl) (by kernel_rfl) ?_
    refine wl_append (i := 1) (sT := 32) (inf := Try.t45) (z := .agg #[.int .i64 0, .int .i64 0, .int .i64 0]) (b := 0) (off := 0) (m := 0) (c := 0) rfl rfl rfl (hst.ownAt (i := 0) rfl) (by simp) Try.underlying32 rfl rfl rfl rfl (by decide) (by simp [Value.oneCell']) (by have hby : Try.t45.bytes = 24 := rfl; simp [big, hby]; omega) (by have hby : Try.t45.bytes = 24 := rfl; simp [big, hby]; omega) (by decide) hfr hst fun a w15 s5 hfr hst _ => ?_
    refine wl_v hfr (by decide) (v_assign rfl) ?_
    clear hfr
    intro a hfr
    refine wl_nil ?_
    refine wd_end (by kernel_rfl) ?_
    refine hK14 _ _ ?_
    replace hfr : Fr 223 [(4, _), (5, _), (6, _), (7, _), (8, _), (1, _), (9, _), (11, _), (10, _)] [] a := hfr.pick [4, 5, 6, 7, 8, 1, 9, 11, 10]
    replace hst : St No w0 [_, _, _, _, _] w15 := hst.mask [false, true, true, true, true, true]
    refine wc_region ?_
    refine wl_v hfr (by decide) (v_move rfl) ?_
    clear hfr
    intro a hfr
    refine wl_v hfr (by decide) (v_add rfl rfl ⟨by omega, by omega⟩) ?_
    clear hfr
    intro a hfr
    refine wl_v hfr (by decide) (v_assign rfl) ?_
    clear hfr
    intro a hfr
    refine wl_nil ?_
    rw [show (((l.take k).map (shE d)).map Evt.cells) ++ ([[.int .i64 ev.kind, .int .i64 (ev.at_ + d), .int .i64 ev.reason]]) = (((l.take (k + 1)).map (shE d)).map Evt.cells) from by rw [take_snoc hkl hev]; simp [shE, Evt.cells]] at hst
    refine ⟨_, ?_, k + 1, s5, rfl, (by omega), hfr.pick [4, 5, 6, 7, 8, 1, 9, 11, 10], hst.select [0, 1, 2, 3, 4] (by decide)⟩
    omega
  rw [hc3] at hfr
  try simp only [Bool.not_eq_true', Bool.not_eq_false', decide_eq_true_eq, decide_eq_false_iff_not] at hc3
  have hke : k = l.length := by omega
  subst hke
  rw [List.take_length] at hst
  refine wc_exit ?_
  refine hK10 _ _ ?_
  refine wc_seq_region fun K15 hK15 => ?_
  refine wl_v hfr (by decide) (v_load_all (hst.get (k := 3) rfl) rfl (Try.isAgg29 _) (Try.sizeOf29 _)) ?_
  clear hfr
  intro a hfr
  refine wl_v hfr (by decide) (v_load_all (hst.get (k := 2) rfl) rfl (Try.isAgg31 _) (Try.sizeOf31 _)) ?_
  clear hfr
  intro a hfr
  refine wl_v hfr (by decide) (v_move rfl) ?_
  clear hfr
  intro a hfr
  refine wl_callm hfr hst (by decide) Try.call18 rfl (timeline3 hss (timeline_ok rl cl v1 l _ (hst.ownAt (i := 4) rfl) hv)) ?_
  clear hfr hst
  intro a w16 x7 hp hfr hst
  revert x7 hp hfr hst; rintro v6 hp hfr hst
  clear hp
  replace hst : St No w0 [own v6 39 3 (ss.map Stt.cells), own v 45 3 ((l.map (shE d)).map Evt.cells), blk w8.heap.size [.int .i64 cl.number, .int .i64 cl.frm, .int .i64 cl.to, .int .i64 cl.holder, .int .i64 (cl.asked + d), .bool cl.backed] 31, blk w4.heap.size [.int .i64 cl.number, .int .i64 cl.frm, .int .i64 cl.to, .int .i64 cl.holder, .int .i64 cl.asked, .bool cl.backed] 31, blk w3.heap.size [.int .i64 rl.answer, .int .i64 rl.cooling, .int .i64 rl.settle, .int .i64 rl.reverse] 29, own v1 45 3 (l.map Evt.cells)] w16 := hst
  refine wl_v hfr (by decide) (v_move rfl) ?_
  clear hfr
  intro a hfr
  refine wl_v hfr (by decide) (v_extract rfl rfl) ?_
  clear hfr
  intro a hfr
  refine wl_v hfr (by decide) (v_extract rfl rfl) ?_
  clear hfr
  intro a hfr
  refine wl_v hfr (by decide) (v_assign rfl) ?_
  clear hfr
  intro a hfr
  refine wl_v hfr (by decide) (v_assign rfl) ?_
  clear hfr
  intro a hfr
  refine wl_nil (hK15 _ _ ?_)
  replace hfr : Fr 223 [(4, _), (5, _), (6, _), (7, _), (8, _), (1, _), (9, _), (10, _), (12, _), (13, _)] [] a := hfr.pick [4, 5, 6, 7, 8, 1, 9, 10, 12, 13]
  refine wc_seq_region fun K16 hK16 => ?_
  refine wl_v hfr (by decide) (v_load_all (hst.get (k := 4) rfl) rfl (Try.isAgg29 _) (Try.sizeOf29 _)) ?_
  clear hfr
  intro a hfr
  refine wl_v hfr (by decide) (v_load_all (hst.get (k := 2) rfl) rfl (Try.isAgg31 _) (Try.sizeOf31 _)) ?_
  clear hfr
  intro a hfr
  refine wl_v hfr (by decide) (v_move rfl) ?_
  clear hfr
  intro a hfr
  refine wl_callm hfr hst (by decide) Try.call18 rfl (timeline3 hss2 (timeline_ok rl (shC d cl) v (l.map (shE d)) _ (hst.ownAt (i := 1) rfl) hv2)) ?_
  clear hfr hst
  intro a w17 x9 hp hfr hst
  revert x9 hp hfr hst; rintro v8 hp hfr hst
  clear hp
  replace hst : St No w0 [own v8 39 3 ((ss.map (shS d)).map Stt.cells), own v6 39 3 (ss.map Stt.cells), own v 45 3 ((l.map (shE d)).map Evt.cells), blk w8.heap.size [.int .i64 cl.number, .int .i64 cl.frm, .int .i64 cl.to, .int .i64 cl.holder, .int .i64 (cl.asked + d), .bool cl.backed] 31, blk w4.heap.size [.int .i64 cl.number, .int .i64 cl.frm, .int .i64 cl.to, .int .i64 cl.holder, .int .i64 cl.asked, .bool cl.backed] 31, blk w3.heap.size [.int .i64 rl.answer, .int .i64 rl.cooling, .int .i64 rl.settle, .int .i64 rl.reverse] 29, own v1 45 3 (l.map Evt.cells)] w17 := hst
  refine wl_v hfr (by decide) (v_move rfl) ?_
  clear hfr
  intro a hfr
  refine wl_v hfr (by decide) (v_extract rfl rfl) ?_
  clear hfr
  intro a hfr
  refine wl_v hfr (by decide) (v_extract rfl rfl) ?_
  clear hfr
  intro a hfr
  refine wl_v hfr (by decide) (v_assign rfl) ?_
  clear hfr
  intro a hfr
  refine wl_v hfr (by decide) (v_assign rfl) ?_
  clear hfr
  intro a hfr
  refine wl_nil (hK16 _ _ ?_)
  replace hfr : Fr 223 [(4, _), (5, _), (6, _), (7, _), (8, _), (1, _), (9, _), (10, _), (12, _), (13, _), (14, _), (15, _)] [] a := hfr.pick [4, 5, 6, 7, 8, 1, 9, 10, 12, 13, 14, 15]
  refine wc_seq_region fun K17 hK17 => ?_
  refine wl_v hfr (by decide) (v_load_all (hst.get (k := 5) rfl) rfl (Try.isAgg29 _) (Try.sizeOf29 _)) ?_
  clear hfr
  intro a hfr
  refine wl_v hfr (by decide) (v_load_all (hst.get (k := 4) rfl) rfl (Try.isAgg31 _) (Try.sizeOf31 _)) ?_
  clear hfr
  intro a hfr
  refine wl_v hfr (by decide) (v_move rfl) ?_
  clear hfr
  intro a hfr
  refine wl_callm hfr hst (by decide) Try.call17 rfl (void3 hvo (void_ok rl cl v1 l _ (hst.ownAt (i := 6) rfl) hv)) ?_
  clear hfr hst
  intro a w18 x11 hp hfr hst
  revert x11 hp hfr hst; rintro v10 hp hfr hst
  clear hp
  replace hst : St No w0 [own v10 3 1 (vo.map fun i => [.int .i64 i]), own v8 39 3 ((ss.map (shS d)).map Stt.cells), own v6 39 3 (ss.map Stt.cells), own v 45 3 ((l.map (shE d)).map Evt.cells), blk w8.heap.size [.int .i64 cl.number, .int .i64 cl.frm, .int .i64 cl.to, .int .i64 cl.holder, .int .i64 (cl.asked + d), .bool cl.backed] 31, blk w4.heap.size [.int .i64 cl.number, .int .i64 cl.frm, .int .i64 cl.to, .int .i64 cl.holder, .int .i64 cl.asked, .bool cl.backed] 31, blk w3.heap.size [.int .i64 rl.answer, .int .i64 rl.cooling, .int .i64 rl.settle, .int .i64 rl.reverse] 29, own v1 45 3 (l.map Evt.cells)] w18 := hst
  refine wl_v hfr (by decide) (v_move rfl) ?_
  clear hfr
  intro a hfr
  refine wl_v hfr (by decide) (v_extract rfl rfl) ?_
  clear hfr
  intro a hfr
  refine wl_v hfr (by decide) (v_extract rfl rfl) ?_
  clear hfr
  intro a hfr
  refine wl_v hfr (by decide) (v_assign rfl) ?_
  clear hfr
  intro a hfr
  refine wl_v hfr (by decide) (v_assign rfl) ?_
  clear hfr
  intro a hfr
  refine wl_nil (hK17 _ _ ?_)
  replace hfr : Fr 223 [(4, _), (5, _), (6, _), (7, _), (1, _), (9, _), (10, _), (12, _), (13, _), (14, _), (15, _), (16, _), (17, _)] [] a := hfr.pick [4, 5, 6, 7, 1, 9, 10, 12, 13, 14, 15, 16, 17]
  refine wc_seq_region fun K18 hK18 => ?_
  refine wl_v hfr (by decide) (v_load_all (hst.get (k := 6) rfl) rfl (Try.isAgg29 _) (Try.sizeOf29 _)) ?_
  clear hfr
  intro a hfr
  refine wl_v hfr (by decide) (v_load_all (hst.get (k := 4) rfl) rfl (Try.isAgg31 _) (Try.sizeOf31 _)) ?_
  clear hfr
  intro a hfr
  refine wl_v hfr (by decide) (v_move rfl) ?_
  clear hfr
  intro a hfr
  refine wl_callm hfr hst (by decide) Try.call17 rfl (void3 hvo2 (void_ok rl (shC d cl) v (l.map (shE d)) _ (hst.ownAt (i := 3) rfl) hv2)) ?_
  clear hfr hst
  intro a w19 x13 hp hfr hst
  revert x13 hp hfr hst; rintro v12 hp hfr hst
  clear hp
  replace hst : St No w0 [own v12 3 1 (vo.map fun i => [.int .i64 i]), own v10 3 1 (vo.map fun i => [.int .i64 i]), own v8 39 3 ((ss.map (shS d)).map Stt.cells), own v6 39 3 (ss.map Stt.cells), own v 45 3 ((l.map (shE d)).map Evt.cells), blk w8.heap.size [.int .i64 cl.number, .int .i64 cl.frm, .int .i64 cl.to, .int .i64 cl.holder, .int .i64 (cl.asked + d), .bool cl.backed] 31, blk w4.heap.size [.int .i64 cl.number, .int .i64 cl.frm, .int .i64 cl.to, .int .i64 cl.holder, .int .i64 cl.asked, .bool cl.backed] 31, blk w3.heap.size [.int .i64 rl.answer, .int .i64 rl.cooling, .int .i64 rl.settle, .int .i64 rl.reverse] 29, own v1 45 3 (l.map Evt.cells)] w19 := hst
  refine wl_v hfr (by decide) (v_move rfl) ?_
  clear hfr
  intro a hfr
  refine wl_v hfr (by decide) (v_extract rfl rfl) ?_
  clear hfr
  intro a hfr
  refine wl_v hfr (by decide) (v_extract rfl rfl) ?_
  clear hfr
  intro a hfr
  refine wl_v hfr (by decide) (v_assign rfl) ?_
  clear hfr
  intro a hfr
  refine wl_v hfr (by decide) (v_assign rfl) ?_
  clear hfr
  intro a hfr
  refine wl_nil (hK18 _ _ ?_)
  replace hfr : Fr 223 [(4, _), (5, _), (6, _), (7, _), (1, _), (9, _), (12, _), (13, _), (14, _), (15, _), (16, _), (17, _), (18, _), (19, _)] [] a := hfr.pick [4, 5, 6, 7, 1, 9, 12, 13, 14, 15, 16, 17, 18, 19]
  refine wc_seq_region fun K19 hK19 => ?_
  refine wl_v hfr (by decide) (v_load_all (hst.get (k := 7) rfl) rfl (Try.isAgg29 _) (Try.sizeOf29 _)) ?_
  clear hfr
  intro a hfr
  refine wl_v hfr (by decide) (v_load_all (hst.get (k := 6) rfl) rfl (Try.isAgg31 _) (Try.sizeOf31 _)) ?_
  clear hfr
  intro a hfr
  refine wl_callp hfr hst (by decide) Try.call13 rfl (ends2 hr hc hen (ends_ok rl cl _)) ?_
  clear hfr hst
  intro a w20 hfr hst
  refine wl_v hfr (by decide) (v_move rfl) ?_
  clear hfr
  intro a hfr
  refine wl_v hfr (by decide) (v_extract rfl rfl) ?_
  clear hfr
  intro a hfr
  refine wl_v hfr (by decide) (v_extract rfl rfl) ?_
  clear hfr
  intro a hfr
  refine wl_v hfr (by decide) (v_assign rfl) ?_
  clear hfr
  intro a hfr
  refine wl_v hfr (by decide) (v_assign rfl) ?_
  clear hfr
  intro a hfr
  refine wl_nil (hK19 _ _ ?_)
  replace hfr : Fr 223 [(4, _), (5, _), (6, _), (1, _), (9, _), (12, _), (13, _), (14, _), (15, _), (16, _), (17, _), (18, _), (19, _), (20, _), (21, _)] [] a := hfr.pick [4, 5, 6, 1, 9, 12, 13, 14, 15, 16, 17, 18, 19, 20, 21]
  replace hst : St No w0 [_, _, _, _, _, _, _, _] w20 := hst.mask [true, true, true, true, true, true, false, true, true]
  refine wc_seq_region fun K20 hK20 => ?_
  refine wl_v hfr (by decide) (v_load_all (hst.get (k := 6) rfl) rfl (Try.isAgg29 _) (Try.sizeOf29 _)) ?_
  clear hfr
  intro a hfr
  refine wl_v hfr (by decide) (v_load_all (hst.get (k := 5) rfl) rfl (Try.isAgg31 _) (Try.sizeOf31 _)) ?_
  clear hfr
  intro a hfr
  refine wl_callp hfr hst (by decide) Try.call13 rfl (ends2 hr hc2 hen2 (ends_ok rl (shC d cl) _)) ?_
  clear hfr hst
  intro a w21 hfr hst
  refine wl_v hfr (by decide) (v_move rfl) ?_
  clear hfr
  intro a hfr
  refine wl_v hfr (by decide) (v_extract rfl rfl) ?_
  clear hfr
  intro a hfr
  refine wl_v hfr (by decide) (v_extract rfl rfl) ?_
  clear hfr
  intro a hfr
  refine wl_v hfr (by decide) (v_assign rfl) ?_
  clear hfr
  intro a hfr
  refine wl_v hfr (by decide) (v_assign rfl) ?_
  clear hfr
  intro a hfr
  refine wl_nil (hK20 _ _ ?_)
  replace hfr : Fr 223 [(4, _), (5, _), (1, _), (12, _), (13, _), (14, _), (15, _), (16, _), (17, _), (18, _), (19, _), (20, _), (21, _), (22, _), (23, _)] [] a := hfr.pick [4, 5, 1, 12, 13, 14, 15, 16, 17, 18, 19, 20, 21, 22, 23]
  replace hst : St No w0 [_, _, _, _, _, _] w21 := hst.mask [true, true, true, true, true, false, false, true]
  refine wc_seq_k fun K21 hK21 => ?_
  refine wc_seq_region fun K22 hK22 => ?_
  refine wl_v hfr (by decide) (v_move rfl) ?_
  clear hfr
  intro a hfr
  refine wl_v hfr (by decide) ((v_ne rfl rfl).asb (b' := false) rfl) ?_
  clear hfr
  intro a hfr
  refine wl_v hfr (by decide) (v_move rfl) ?_
  clear hfr
  intro a hfr
  refine wl_vy hfr (by decide) rfl (by decide) rfl (v_move rfl) ?_
  clear hfr
  intro a hfr
  refine wl_vy hfr (by decide) rfl (by decide) rfl ((v_ne rfl rfl).asb (b' := false) rfl) ?_
  clear hfr
  intro a hfr
  refine wl_v hfr (by decide) (v_pick_f rfl rfl) ?_
  clear hfr
  intro a hfr
  refine wl_v hfr (by decide) (v_move rfl) ?_
  clear hfr
  intro a hfr
  refine wl_vy hfr (by decide) rfl (by decide) rfl (v_move rfl) ?_
  clear hfr
  intro a hfr
  refine wl_vy hfr (by decide) rfl (by decide) rfl ((v_ne rfl rfl).asb (b' := false) rfl) ?_
  clear hfr
  intro a hfr
  refine wl_v hfr (by decide) (v_pick_f rfl rfl) ?_
  clear hfr
  intro a hfr
  refine wl_v hfr (by decide) (v_move rfl) ?_
  clear hfr
  intro a hfr
  refine wl_vy hfr (by decide) rfl (by decide) rfl (v_move rfl) ?_
  clear hfr
  intro a hfr
  refine wl_vy hfr (by decide) rfl (by decide) rfl ((v_ne rfl rfl).asb (b' := false) rfl) ?_
  clear hfr
  intro a hfr
  refine wl_v hfr (by decide) (v_pick_f rfl rfl) ?_
  clear hfr
  intro a hfr
  refine wl_v hfr (by decide) (v_move rfl) ?_
  clear hfr
  intro a hfr
  refine wl_vy hfr (by decide) rfl (by decide) rfl (v_move rfl) ?_
  clear hfr
  intro a hfr
  refine wl_vy hfr (by decide) rfl (by decide) rfl ((v_ne rfl rfl).asb (b' := false) rfl) ?_
  clear hfr
  intro a hfr
  refine wl_v hfr (by decide) (v_pick_f rfl rfl) ?_
  clear hfr
  intro a hfr
  refine wl_v hfr (by decide) (v_move rfl) ?_
  clear hfr
  intro a hfr
  refine wl_vy hfr (by decide) rfl (by decide) rfl (v_move rfl) ?_
  clear hfr
  intro a hfr
  refine wl_vy hfr (by decide) rfl (by decide) rfl ((v_ne rfl rfl).asb (b' := false) rfl) ?_
  clear hfr
  intro a hfr
  refine wl_v hfr (by decide) (v_pick_f rfl rfl) ?_
  clear hfr
  intro a hfr
  refine wl_v hfr (by decide) (v_move rfl) ?_
  clear hfr
  intro a hfr
  refine wl_vy hfr (by decide) rfl (by decide) rfl (v_move rfl) ?_
  clear hfr
  intro a hfr
  refine wl_vy hfr (by decide) rfl (by decide) rfl ((v_len_sl (sT := 47) (hst.ownAt (i := 3) rfl) rfl rfl (Try.runUnderlying47 _)).asi (m' := (ss.length : Int)) (by simp)) ?_
  clear hfr
  intro a hfr
  refine wl_vy hfr (by decide) rfl (by decide) rfl (v_move rfl) ?_
  clear hfr
  intro a hfr
  refine wl_vy hfr (by decide) rfl (by decide) rfl ((v_len_sl (sT := 47) (hst.ownAt (i := 2) rfl) rfl rfl (Try.runUnderlying47 _)).asi (m' := (ss.length : Int)) (by simp)) ?_
  clear hfr
  intro a hfr
  refine wl_vy hfr (by decide) rfl (by decide) rfl ((v_ne rfl rfl).asb (b' := false) (by simp)) ?_
  clear hfr
  intro a hfr
  refine wl_v hfr (by decide) (v_pick_f rfl rfl) ?_
  clear hfr
  intro a hfr
  refine wl_v hfr (by decide) (v_move rfl) ?_
  clear hfr
  intro a hfr
  refine wl_vy hfr (by decide) rfl (by decide) rfl (v_move rfl) ?_
  clear hfr
  intro a hfr
  refine wl_vy hfr (by decide) rfl (by decide) rfl (v_move rfl) ?_
  clear hfr
  intro a hfr
  refine wl_callpy hfr hst (by decide) rfl (by decide) rfl Try.call21 rfl (ret_lit (y := .bool true) (ints_ok vo vo v10 v12 _ (hst.ownAt (i := 1) rfl) (hst.ownAt (i := 0) rfl)) (by simp)) ?_
  clear hfr hst
  intro a w22 hfr hst
  refine wl_vy hfr (by decide) rfl (by decide) rfl ((v_not rfl).asb (b' := false) rfl) ?_
  clear hfr
  intro a hfr
  refine wl_v hfr (by decide) (v_pick_f rfl rfl) ?_
  clear hfr
  intro a hfr
  refine wl_v hfr (by decide) (v_move rfl) ?_
  clear hfr
  intro a hfr
  refine wl_vy hfr (by decide) rfl (by decide) rfl (v_move rfl) ?_
  clear hfr
  intro a hfr
  refine wl_vy hfr (by decide) rfl (by decide) rfl (v_move rfl) ?_
  clear hfr
  intro a hfr
  refine wl_vy hfr (by decide) rfl (by decide) rfl (v_move rfl) ?_
  clear hfr
  intro a hfr
  refine wl_vy hfr (by decide) rfl (by decide) rfl (v_add rfl rfl ⟨by omega, by omega⟩) ?_
  clear hfr
  intro a hfr
  refine wl_vy hfr (by decide) rfl (by decide) rfl ((v_ne rfl rfl).asb (b' := false) (by simp)) ?_
  clear hfr
  intro a hfr
  refine wl_v hfr (by decide) (v_pick_f rfl rfl) ?_
  clear hfr
  intro a hfr
  refine wl_nil (hK22 _ _ ?_)
  replace hfr : Fr 223 [(4, _), (5, _), (1, _), (12, _), (14, _), (150, _)] [] a := hfr.pick [4, 5, 1, 12, 14, 150]
  replace hst : St No w0 [_, _, _, _] w22 := hst.mask [false, false, true, true, true, true]
  refine wc_cond_f hfr rfl ?_
  refine wc_skip ?_
  refine hK21 _ _ ?_
  refine wc_seq_k fun K23 hK23 => ?_
  refine wc_seq_region fun K24 hK24 => ?_
  refine wl_v hfr (by decide) (v_assign rfl) ?_
  clear hfr
  intro a hfr
  refine wl_nil (hK24 _ _ ?_)
  refine wc_block ?_
  refine wc_loop (fun m a w => ∃ (k : Nat), m = ss.length - k ∧ (k ≤ ss.length) ∧ Fr 223 [(5, .bool true), (1, .int .i64 d), (12, v6), (14, v8), (24, .int .i64 (k : Int))] [] a ∧ St No w0 [own v8 39 3 ((ss.map (shS d)).map Stt.cells), own v6 39 3 (ss.map Stt.cells), own v 45 3 ((l.map (shE d)).map Evt.cells)] w) _ ⟨0, rfl, Nat.zero_le _, hfr.pick [5, 1, 12, 14, 24], hst.select [0, 1, 2] (by decide)⟩ ?_
  rintro _ a w23 ⟨k, rfl, hk, hfr, hst⟩
  refine wc_seq_k fun K25 hK25 => ?_
  refine wc_seq_region fun K26 hK26 => ?_
  refine wl_v hfr (by decide) (v_move rfl) ?_
  clear hfr
  intro a hfr
  refine wl_v hfr (by decide) (v_move rfl) ?_
  clear hfr
  intro a hfr
  refine wl_v hfr (by decide) ((v_len_sl (sT := 47) (hst.ownAt (i := 1) rfl) rfl rfl (Try.runUnderlying47 _)).asi (m' := (ss.length : Int)) (by simp)) ?_
  clear hfr
  intro a hfr
  refine wl_v hfr (by decide) (v_lt rfl rfl) ?_
  clear hfr
  intro a hfr
  refine wl_nil (hK26 _ _ ?_)
  refine wc_cond hfr rfl (fun hc14 => ?_) (fun hc14 => ?_)
  · rw [hc14] at hfr
    try simp only [Bool.not_eq_true', Bool.not_eq_false', decide_eq_true_eq, decide_eq_false_iff_not] at hc14
    have hks : k < ss.length := by omega
    obtain ⟨sk, hsk⟩ : ∃ s, ss.getD k ⟨0, 0, 0⟩ = s := ⟨_, rfl⟩
    obtain ⟨nx, hnx⟩ : ∃ n, (if 0 ≤ sk.next then sk.next + d else sk.next) = n := ⟨_, rfl⟩
    have htm := htame sk (getD_mem hks hsk)
    have hsn := htm.1.next hr
    have hs0 := htm.1.2
    have hnx1 : (0 ≤ sk.next ∧ nx = sk.next + d) ∨ (sk.next < 0 ∧ nx = sk.next) := by rw [← hnx]; split <;> omega
    clear hnx1 htm
    have hnx1 : (0 ≤ sk.next ∧ nx = sk.next + d) ∨ (sk.next < 0 ∧ nx = sk.next) := by rw [← hnx]; split <;> omega
    refine wc_skip ?_
    refine hK25 _ _ ?_
    refine wc_seq_k fun K27 hK27 => ?_
    refine wc_block ?_
    refine wc_seq_k fun K28 hK28 => ?_
    refine wc_of_dr (by kernel_rfl) (dr_of_wd (by kernel_rfl) fun w24 hxz => ?_)
    replace hst : St No w0 [own v8 39 3 ((ss.map (shS d)).map Stt.cells), own v6 39 3 (ss.map Stt.cells), own v 45 3 ((l.map (shE d)).map Evt.cells)] w24 := hst.grow hxz
    refine wd_sub (k := 0) 10 [4, 9] hfr (by kernel_rfl) (by kernel_rfl) (by kernel_rfl) (by rfl) ?_
    replace hfr : Fr 223 [(5, _), (1, _), (12, _), (14, _), (24, _), (151, _), (152, _), (153, _), (154, _)] [] a := hfr.pick [5, 1, 12, 14, 24, 151, 152, 153, 154]
    refine wc_phases' 10 [[], [], [0, 1], [2], [3], [], [], [5, 6], [7], [8]] (fun i => match i with | 0 => pv (v6) | 1 => pv (.int .i64 (k : Int)) | 2 => pv (slAddr v6 (k * 3)) | 3 => pv (slAddr v6 (k * 3 + 0)) | 4 => pv (.int .i64 sk.state) | 5 => pv (v8) | 6 => pv (.int .i64 (k : Int)) | 7 => pv (slAddr v8 (k * 3)) | 8 => pv (slAddr v8 (k * 3 + 0)) | 9 => pv (.int .i64 sk.state) | _ => fun _ _ => False) hfr hst (by kernel_rfl) (by kernel_rfl) ?_ ?_
    · intro i hi
      match i, hi with
      | 0, _ =>
        intro w hst
        exact OpV.g (v_move rfl)
      | 1, _ =>
        intro w hst
        exact OpV.g (v_move rfl)
      | 2, _ =>
        rintro _ _ ⟨rfl, rfl⟩ _ _ ⟨rfl, rfl⟩
        intro w hst
        exact OpV.g ((v_indexAddr_sl (i := (k : Int)) (sT := 47) (hst.ownAt (i := 1) rfl) rfl rfl (Try.runUnderlying47 _) (Try.sizeOf39 _) (by omega) (by simpa using hks)).as (v' := slAddr v6 (k * 3)) rfl)
      | 3, _ =>
        rintro _ _ ⟨rfl, rfl⟩
        intro w hst
        exact OpV.g (v_fieldAddr_sl (k := k * 3) (j := 0) (hst.ownAt (i := 1) rfl) (i := k) (by simpa using hks) rfl (fun _ _ => by kernel_rfl))
      | 4, _ =>
        rintro _ _ ⟨rfl, rfl⟩
        intro w hst
        exact OpV.g (v_load_sl1 (u := .int .i64 sk.state) (i := k) (j := 0) (hst.ownAt (i := 1) rfl) (by simpa using hks) rfl (Try.isAgg3 _) (by rw [← hsk]; simp [List.getElem?_eq_getElem hks, Stt.cells]))
      | 5, _ =>
        intro w hst
        exact OpV.g (v_move rfl)
      | 6, _ =>
        intro w hst
        exact OpV.g (v_move rfl)
      | 7, _ =>
        rintro _ _ ⟨rfl, rfl⟩ _ _ ⟨rfl, rfl⟩
        intro w hst
        exact OpV.g ((v_indexAddr_sl (i := (k : Int)) (sT := 47) (hst.ownAt (i := 0) rfl) rfl rfl (Try.runUnderlying47 _) (Try.sizeOf39 _) (by omega) (by simpa using hks)).as (v' := slAddr v8 (k * 3)) rfl)
      | 8, _ =>
        rintro _ _ ⟨rfl, rfl⟩
        intro w hst
        exact OpV.g (v_fieldAddr_sl (k := k * 3) (j := 0) (hst.ownAt (i := 0) rfl) (i := k) (by simpa using hks) rfl (fun _ _ => by kernel_rfl))
      | 9, _ =>
        rintro _ _ ⟨rfl, rfl⟩
        intro w hst
        exact OpV.g (v_load_sl1 (u := .int .i64 sk.state) (i := k) (j := 0) (hst.ownAt (i := 0) rfl) (by simpa using hks) rfl (Try.isAgg3 _) (by first | (rw [← hnx]; rw [← hsk]; simp [List.getElem?_eq_getElem hks, Stt.cells, shS]; done) | (rw [← hsk]; simp [List.getElem?_eq_getElem hks, Stt.cells, shS])))
    clear hfr hst
    rintro _ _ ⟨rfl, rfl⟩ _ _ ⟨rfl, rfl⟩ _ _ ⟨rfl, rfl⟩ _ _ ⟨rfl, rfl⟩ _ _ ⟨rfl, rfl⟩ _ _ ⟨rfl, rfl⟩ _ _ ⟨rfl, rfl⟩ _ _ ⟨rfl, rfl⟩ _ _ ⟨rfl, rfl⟩ _ _ ⟨rfl, rfl⟩ a w25 hfr hst
    replace hfr : Fr 223 [(157, _), (158, _), (159, _), (160, _), (161, _), (162, _), (163, _), (164, _), (165, _), (166, _), (5, _), (1, _), (12, _), (14, _), (24, _), (151, _), (152, _), (153, _), (154, _)] [] a := hfr
    replace hst : St No w0 [_, _, _] w25 := hst
    refine wl_nil ?_
    refine wd_lin (k := 10) 12 [11] (by kernel_rfl) (by kernel_rfl) (by kernel_rfl) ?_
    refine wl_v hfr (by decide) ((v_ne rfl rfl).asb (b' := false) (by simp)) ?_
    clear hfr
    intro a hfr
    refine wl_v hfr (by decide) (v_move rfl) ?_
    clear hfr
    intro a hfr
    refine wl_nil ?_
    refine wd_sub (k := 12) 24 [16, 23] hfr (by kernel_rfl) (by kernel_rfl) (by kernel_rfl) (by rfl) ?_
    replace hfr : Fr 223 [(5, _), (1, _), (12, _), (14, _), (24, _), (151, _), (152, _), (153, _), (154, _), (157, _), (158, _), (159, _), (160, _), (161, _), (162, _), (163, _), (164, _), (165, _), (166, _), (167, _), (168, _)] [] a := hfr.pick [5, 1, 12, 14, 24, 151, 152, 153, 154, 157, 158, 159, 160, 161, 162, 163, 164, 165, 166, 167, 168]
    refine wc_phases' 12 [[], [], [0, 1], [2], [3], [], [], [5, 6], [7], [8], [], [9, 10]] (fun i => match i with | 0 => pv (v8) | 1 => pv (.int .i64 (k : Int)) | 2 => pv (slAddr v8 (k * 3)) | 3 => pv (slAddr v8 (k * 3 + 1)) | 4 => pv (.int .i64 (sk.since + d)) | 5 => pv (v6) | 6 => pv (.int .i64 (k : Int)) | 7 => pv (slAddr v6 (k * 3)) | 8 => pv (slAddr v6 (k * 3 + 1)) | 9 => pv (.int .i64 sk.since) | 10 => pv (.int .i64 d) | 11 => pv (.int .i64 (sk.since + d)) | _ => fun _ _ => False) hfr hst (by kernel_rfl) (by kernel_rfl) ?_ ?_
    · intro i hi
      match i, hi with
      | 0, _ =>
        intro w hst
        exact OpV.g (v_move rfl)
      | 1, _ =>
        intro w hst
        exact OpV.g (v_move rfl)
      | 2, _ =>
        rintro _ _ ⟨rfl, rfl⟩ _ _ ⟨rfl, rfl⟩
        intro w hst
        exact OpV.g ((v_indexAddr_sl (i := (k : Int)) (sT := 47) (hst.ownAt (i := 0) rfl) rfl rfl (Try.runUnderlying47 _) (Try.sizeOf39 _) (by omega) (by simpa using hks)).as (v' := slAddr v8 (k * 3)) rfl)
      | 3, _ =>
        rintro _ _ ⟨rfl, rfl⟩
        intro w hst
        exact OpV.g (v_fieldAddr_sl (k := k * 3) (j := 1) (hst.ownAt (i := 0) rfl) (i := k) (by simpa using hks) rfl (fun _ _ => by kernel_rfl))
      | 4, _ =>
        rintro _ _ ⟨rfl, rfl⟩
        intro w hst
        exact OpV.g (v_load_sl1 (u := .int .i64 (sk.since + d)) (i := k) (j := 1) (hst.ownAt (i := 0) rfl) (by simpa using hks) rfl (Try.isAgg3 _) (by first | (rw [← hnx]; rw [← hsk]; simp [List.getElem?_eq_getElem hks, Stt.cells, shS]; done) | (rw [← hsk]; simp [List.getElem?_eq_getElem hks, Stt.cells, shS])))
      | 5, _ =>
        intro w hst
        exact OpV.g (v_move rfl)
      | 6, _ =>
        intro w hst
        exact OpV.g (v_move rfl)
      | 7, _ =>
        rintro _ _ ⟨rfl, rfl⟩ _ _ ⟨rfl, rfl⟩
        intro w hst
        exact OpV.g ((v_indexAddr_sl (i := (k : Int)) (sT := 47) (hst.ownAt (i := 1) rfl) rfl rfl (Try.runUnderlying47 _) (Try.sizeOf39 _) (by omega) (by simpa using hks)).as (v' := slAddr v6 (k * 3)) rfl)
      | 8, _ =>
        rintro _ _ ⟨rfl, rfl⟩
        intro w hst
        exact OpV.g (v_fieldAddr_sl (k := k * 3) (j := 1) (hst.ownAt (i := 1) rfl) (i := k) (by simpa using hks) rfl (fun _ _ => by kernel_rfl))
      | 9, _ =>
        rintro _ _ ⟨rfl, rfl⟩
        intro w hst
        exact OpV.g (v_load_sl1 (u := .int .i64 sk.since) (i := k) (j := 1) (hst.ownAt (i := 1) rfl) (by simpa using hks) rfl (Try.isAgg3 _) (by rw [← hsk]; simp [List.getElem?_eq_getElem hks, Stt.cells]))
      | 10, _ =>
        intro w hst
        exact OpV.g (v_move rfl)
      | 11, _ =>
        rintro _ _ ⟨rfl, rfl⟩ _ _ ⟨rfl, rfl⟩
        intro w hst
        exact OpV.g (v_add rfl rfl ⟨by omega, by omega⟩)
      | i + 12, h => exact absurd h (by omega)
    clear hfr hst
    rintro _ _ ⟨rfl, rfl⟩ _ _ ⟨rfl, rfl⟩ _ _ ⟨rfl, rfl⟩ _ _ ⟨rfl, rfl⟩ _ _ ⟨rfl, rfl⟩ _ _ ⟨rfl, rfl⟩ _ _ ⟨rfl, rfl⟩ _ _ ⟨rfl, rfl⟩ _ _ ⟨rfl, rfl⟩ _ _ ⟨rfl, rfl⟩ _ _ ⟨rfl, rfl⟩ _ _ ⟨rfl, rfl⟩ a w26 hfr hst
    replace hfr : Fr 223 [(169, _), (170, _), (171, _), (172, _), (173, _), (174, _), (175, _), (176, _), (177, _), (178, _), (179, _), (180, _), (5, _), (1, _), (12, _), (14, _), (24, _), (151, _), (152, _), (153, _), (154, _), (157, _), (158, _), (159, _), (160, _), (161, _), (162, _), (163, _), (164, _), (165, _), (166, _), (167, _), (168, _)] [] a := hfr
    replace hst : St No w0 [_, _, _] w26 := hst
    refine wl_nil ?_
    refine wd_lin (k := 24) 27 [26] (by kernel_rfl) (by kernel_rfl) (by kernel_rfl) ?_
    refine wl_vy hfr (by decide) rfl (by decide) rfl ((v_ne rfl rfl).asb (b' := false) (by simp)) ?_
    clear hfr
    intro a hfr
    refine wl_v hfr (by decide) (v_pick_f rfl rfl) ?_
    clear hfr
    intro a hfr
    refine wl_v hfr (by decide) (v_move rfl) ?_
    clear hfr
    intro a hfr
    refine wl_nil ?_
    refine wd_sub (k := 27) 29 [27, 28] hfr (by kernel_rfl) (by kernel_rfl) (by kernel_rfl) (by rfl) ?_
    replace hfr : Fr 223 [(5, _), (1, _), (12, _), (14, _), (24, _), (151, _), (152, _), (153, _), (154, _), (157, _), (158, _), (159, _), (160, _), (161, _), (162, _), (163, _), (164, _), (165, _), (166, _), (167, _), (168, _), (169, _), (170, _), (171, _), (172, _), (173, _), (174, _), (175, _), (176, _), (177, _), (178, _), (179, _), (180, _), (181, _), (182, _), (183, _)] [] a := hfr.pick [5, 1, 12, 14, 24, 151, 152, 153, 154, 157, 158, 159, 160, 161, 162, 163, 164, 165, 166, 167, 168, 169, 170, 171, 172, 173, 174, 175, 176, 177, 178, 179, 180, 181, 182, 183]
    refine wc_phases' 2 [[], []] (fun i => match i with | 0 => pv (v6) | 1 => pv (.int .i64 (k : Int)) | _ => fun _ _ => False) hfr hst (by kernel_rfl) (by kernel_rfl) ?_ ?_
    · intro i hi
      match i, hi with
      | 0, _ =>
        intro w hst
        exact OpV.g (v_move rfl)
      | 1, _ =>
        intro w hst
        exact OpV.g (v_move rfl)
    clear hfr hst
    rintro _ _ ⟨rfl, rfl⟩ _ _ ⟨rfl, rfl⟩ a w27 hfr hst
    replace hfr : Fr 223 [(184, _), (185, _), (5, _), (1, _), (12, _), (14, _), (24, _), (151, _), (152, _), (153, _), (154, _), (157, _), (158, _), (159, _), (160, _), (161, _), (162, _), (163, _), (164, _), (165, _), (166, _), (167, _), (168, _), (169, _), (170, _), (171, _), (172, _), (173, _), (174, _), (175, _), (176, _), (177, _), (178, _), (179, _), (180, _), (181, _), (182, _), (183, _)] [] a := hfr
    replace hst : St No w0 [_, _, _] w27 := hst
    refine wl_nil ?_
    refine wd_lin (k := 29) 34 [33] (by kernel_rfl) (by kernel_rfl) (by kernel_rfl) ?_
    refine wl_vy hfr (by decide) rfl (by decide) rfl ((v_indexAddr_sl (i := (k : Int)) (sT := 47) (hst.ownAt (i := 1) rfl) rfl rfl (Try.runUnderlying47 _) (Try.sizeOf39 _) (by omega) (by simpa using hks)).as (v' := slAddr v6 (k * 3)) rfl) ?_
    clear hfr
    intro a hfr
    refine wl_vy hfr (by decide) rfl (by decide) rfl (v_fieldAddr_sl (k := k * 3) (j := 2) (hst.ownAt (i := 1) rfl) (i := k) (by simpa using hks) rfl (fun _ _ => by kernel_rfl)) ?_
    clear hfr
    intro a hfr
    refine wl_vy hfr (by decide) rfl (by decide) rfl (v_load_sl1 (u := .int .i64 sk.next) (i := k) (j := 2) (hst.ownAt (i := 1) rfl) (by simpa using hks) rfl (Try.isAgg3 _) (by rw [← hsk]; simp [List.getElem?_eq_getElem hks, Stt.cells])) ?_
    clear hfr
    intro a hfr
    refine wl_vy hfr (by decide) rfl (by decide) rfl (v_ge rfl rfl) ?_
    clear hfr
    intro a hfr
    refine wl_vy hfr (by decide) rfl (by decide) rfl (v_move rfl) ?_
    clear hfr
    intro a hfr
    refine wl_nil ?_
    rcases Bool.eq_false_or_eq_true (decide (0 ≤ sk.next)) with hb15 | hb15
    · rw [hb15] at hfr
      try simp only [Bool.not_eq_true', Bool.not_eq_false', decide_eq_true_eq, decide_eq_false_iff_not] at hb15
      refine wd_sub (k := 34) 46 [38, 45] hfr (by kernel_rfl) (by kernel_rfl) (by kernel_rfl) (by rfl) ?_
      replace hfr : Fr 223 [(5, _), (1, _), (12, _), (14, _), (24, _), (151, _), (152, _), (153, _), (154, _), (157, _), (158, _), (159, _), (160, _), (161, _), (162, _), (163, _), (164, _), (165, _), (166, _), (167, _), (168, _), (169, _), (170, _), (171, _), (172, _), (173, _), (174, _), (175, _), (176, _), (177, _), (178, _), (179, _), (180, _), (181, _), (182, _), (183, _), (184, _), (185, _), (186, _), (187, _), (188, _), (189, _), (190, _)] [] a := hfr.pick [5, 1, 12, 14, 24, 151, 152, 153, 154, 157, 158, 159, 160, 161, 162, 163, 164, 165, 166, 167, 168, 169, 170, 171, 172, 173, 174, 175, 176, 177, 178, 179, 180, 181, 182, 183, 184, 185, 186, 187, 188, 189, 190]
      refine wc_phases' 12 [[], [], [0, 1], [2], [3], [], [], [5, 6], [7], [8], [], [9, 10]] (fun i => match i with | 0 => pv (v8) | 1 => pv (.int .i64 (k : Int)) | 2 => pv (slAddr v8 (k * 3)) | 3 => pv (slAddr v8 (k * 3 + 2)) | 4 => pv (.int .i64 nx) | 5 => pv (v6) | 6 => pv (.int .i64 (k : Int)) | 7 => pv (slAddr v6 (k * 3)) | 8 => pv (slAddr v6 (k * 3 + 2)) | 9 => pv (.int .i64 sk.next) | 10 => pv (.int .i64 d) | 11 => pv (.int .i64 (sk.next + d)) | _ => fun _ _ => False) hfr hst (by kernel_rfl) (by kernel_rfl) ?_ ?_
      · intro i hi
        match i, hi with
        | 0, _ =>
          intro w hst
          exact OpV.g (v_move rfl)
        | 1, _ =>
          intro w hst
          exact OpV.g (v_move rfl)
        | 2, _ =>
          rintro _ _ ⟨rfl, rfl⟩ _ _ ⟨rfl, rfl⟩
          intro w hst
          exact OpV.g ((v_indexAddr_sl (i := (k : Int)) (sT := 47) (hst.ownAt (i := 0) rfl) rfl rfl (Try.runUnderlying47 _) (Try.sizeOf39 _) (by omega) (by simpa using hks)).as (v' := slAddr v8 (k * 3)) rfl)
        | 3, _ =>
          rintro _ _ ⟨rfl, rfl⟩
          intro w hst
          exact OpV.g (v_fieldAddr_sl (k := k * 3) (j := 2) (hst.ownAt (i := 0) rfl) (i := k) (by simpa using hks) rfl (fun _ _ => by kernel_rfl))
        | 4, _ =>
          rintro _ _ ⟨rfl, rfl⟩
          intro w hst
          exact OpV.g (v_load_sl1 (u := .int .i64 nx) (i := k) (j := 2) (hst.ownAt (i := 0) rfl) (by simpa using hks) rfl (Try.isAgg3 _) (by first | (rw [← hnx]; rw [← hsk]; simp [List.getElem?_eq_getElem hks, Stt.cells, shS]; done) | (rw [← hsk]; simp [List.getElem?_eq_getElem hks, Stt.cells, shS])))
        | 5, _ =>
          intro w hst
          exact OpV.g (v_move rfl)
        | 6, _ =>
          intro w hst
          exact OpV.g (v_move rfl)
        | 7, _ =>
          rintro _ _ ⟨rfl, rfl⟩ _ _ ⟨rfl, rfl⟩
          intro w hst
          exact OpV.g ((v_indexAddr_sl (i := (k : Int)) (sT := 47) (hst.ownAt (i := 1) rfl) rfl rfl (Try.runUnderlying47 _) (Try.sizeOf39 _) (by omega) (by simpa using hks)).as (v' := slAddr v6 (k * 3)) rfl)
        | 8, _ =>
          rintro _ _ ⟨rfl, rfl⟩
          intro w hst
          exact OpV.g (v_fieldAddr_sl (k := k * 3) (j := 2) (hst.ownAt (i := 1) rfl) (i := k) (by simpa using hks) rfl (fun _ _ => by kernel_rfl))
        | 9, _ =>
          rintro _ _ ⟨rfl, rfl⟩
          intro w hst
          exact OpV.g (v_load_sl1 (u := .int .i64 sk.next) (i := k) (j := 2) (hst.ownAt (i := 1) rfl) (by simpa using hks) rfl (Try.isAgg3 _) (by rw [← hsk]; simp [List.getElem?_eq_getElem hks, Stt.cells]))
        | 10, _ =>
          intro w hst
          exact OpV.g (v_move rfl)
        | 11, _ =>
          rintro _ _ ⟨rfl, rfl⟩ _ _ ⟨rfl, rfl⟩
          intro w hst
          exact OpV.g (v_add rfl rfl ⟨by omega, by omega⟩)
        | i + 12, h => exact absurd h (by omega)
      clear hfr hst
      rintro _ _ ⟨rfl, rfl⟩ _ _ ⟨rfl, rfl⟩ _ _ ⟨rfl, rfl⟩ _ _ ⟨rfl, rfl⟩ _ _ ⟨rfl, rfl⟩ _ _ ⟨rfl, rfl⟩ _ _ ⟨rfl, rfl⟩ _ _ ⟨rfl, rfl⟩ _ _ ⟨rfl, rfl⟩ _ _ ⟨rfl, rfl⟩ _ _ ⟨rfl, rfl⟩ _ _ ⟨rfl, rfl⟩ a w28 hfr hst
      replace hfr : Fr 223 [(191, _), (192, _), (193, _), (194, _), (195, _), (196, _), (197, _), (198, _), (199, _), (200, _), (201, _), (202, _), (5, _), (1, _), (12, _), (14, _), (24, _), (151, _), (152, _), (153, _), (154, _), (157, _), (158, _), (159, _), (160, _), (161, _), (162, _), (163, _), (164, _), (165, _), (166, _), (167, _), (168, _), (169, _), (170, _), (171, _), (172, _), (173, _), (174, _), (175, _), (176, _), (177, _), (178, _), (179, _), (180, _), (181, _), (182, _), (183, _), (184, _), (185, _), (186, _), (187, _), (188, _), (189, _), (190, _)] [] a := hfr
      replace hst : St No w0 [_, _, _] w28 := hst
      refine wl_nil ?_
      refine wd_lin (k := 46) 50 [49] (by kernel_rfl) (by kernel_rfl) (by kernel_rfl) ?_
      refine wl_vy hfr (by decide) rfl (by decide) rfl ((v_ne rfl rfl).asb (b' := false) (by simp; omega)) ?_
      clear hfr
      intro a hfr
      refine wl_vy hfr (by decide) rfl (by decide) rfl (v_pick_t rfl rfl) ?_
      clear hfr
      intro a hfr
      refine wl_v hfr (by decide) (v_pick_f rfl rfl) ?_
      clear hfr
      intro a hfr
      refine wl_v hfr (by decide) (v_move rfl) ?_
      clear hfr
      intro a hfr
      refine wl_nil ?_
      refine wd_sub (k := 50) 52 [50, 51] hfr (by kernel_rfl) (by kernel_rfl) (by kernel_rfl) (by rfl) ?_
      replace hfr : Fr 223 [(5, _), (1, _), (12, _), (14, _), (24, _), (151, _), (152, _), (153, _), (154, _), (157, _), (158, _), (159, _), (160, _), (161, _), (162, _), (163, _), (164, _), (165, _), (166, _), (167, _), (168, _), (169, _), (170, _), (171, _), (172, _), (173, _), (174, _), (175, _), (176, _), (177, _), (178, _), (179, _), (180, _), (181, _), (182, _), (183, _), (184, _), (185, _), (186, _), (187, _), (188, _), (189, _), (190, _), (191, _), (192, _), (193, _), (194, _), (195, _), (196, _), (197, _), (198, _), (199, _), (200, _), (201, _), (202, _), (203, _), (204, _), (205, _), (206, _)] [] a := hfr.pick [5, 1, 12, 14, 24, 151, 152, 153, 154, 157, 158, 159, 160, 161, 162, 163, 164, 165, 166, 167, 168, 169, 170, 171, 172, 173, 174, 175, 176, 177, 178, 179, 180, 181, 182, 183, 184, 185, 186, 187, 188, 189, 190, 191, 192, 193, 194, 195, 196, 197, 198, 199, 200, 201, 202, 203, 204, 205, 206]
      refine wc_phases' 2 [[], []] (fun i => match i with | 0 => pv (v6) | 1 => pv (.int .i64 (k : Int)) | _ => fun _ _ => False) hfr hst (by kernel_rfl) (by kernel_rfl) ?_ ?_
      · intro i hi
        match i, hi with
        | 0, _ =>
          intro w hst
          exact OpV.g (v_move rfl)
        | 1, _ =>
          intro w hst
          exact OpV.g (v_move rfl)
      clear hfr hst
      rintro _ _ ⟨rfl, rfl⟩ _ _ ⟨rfl, rfl⟩ a w29 hfr hst
      replace hfr : Fr 223 [(207, _), (208, _), (5, _), (1, _), (12, _), (14, _), (24, _), (151, _), (152, _), (153, _), (154, _), (157, _), (158, _), (159, _), (160, _), (161, _), (162, _), (163, _), (164, _), (165, _), (166, _), (167, _), (168, _), (169, _), (170, _), (171, _), (172, _), (173, _), (174, _), (175, _), (176, _), (177, _), (178, _), (179, _), (180, _), (181, _), (182, _), (183, _), (184, _), (185, _), (186, _), (187, _), (188, _), (189, _), (190, _), (191, _), (192, _), (193, _), (194, _), (195, _), (196, _), (197, _), (198, _), (199, _), (200, _), (201, _), (202, _), (203, _), (204, _), (205, _), (206, _)] [] a := hfr
      replace hst : St No w0 [_, _, _] w29 := hst
      refine wl_nil ?_
      refine wd_lin (k := 52) 57 [56] (by kernel_rfl) (by kernel_rfl) (by kernel_rfl) ?_
      refine wl_vy hfr (by decide) rfl (by decide) rfl ((v_indexAddr_sl (i := (k : Int)) (sT := 47) (hst.ownAt (i := 1) rfl) rfl rfl (Try.runUnderlying47 _) (Try.sizeOf39 _) (by omega) (by simpa using hks)).as (v' := slAddr v6 (k * 3)) rfl) ?_
      clear hfr
      intro a hfr
      refine wl_vy hfr (by decide) rfl (by decide) rfl (v_fieldAddr_sl (k := k * 3) (j := 2) (hst.ownAt (i := 1) rfl) (i := k) (by simpa using hks) rfl (fun _ _ => by kernel_rfl)) ?_
      clear hfr
      intro a hfr
      refine wl_vy hfr (by decide) rfl (by decide) rfl (v_load_sl1 (u := .int .i64 sk.next) (i := k) (j := 2) (hst.ownAt (i := 1) rfl) (by simpa using hks) rfl (Try.isAgg3 _) (by rw [← hsk]; simp [List.getElem?_eq_getElem hks, Stt.cells])) ?_
      clear hfr
      intro a hfr
      refine wl_vy hfr (by decide) rfl (by decide) rfl ((v_lt rfl rfl).asb (b' := false) (by simp; omega)) ?_
      clear hfr
      intro a hfr
      refine wl_vy hfr (by decide) rfl (by decide) rfl (v_move rfl) ?_
      clear hfr
      intro a hfr
      refine wl_nil ?_
      replace hfr : Fr 223 [(5, .bool true), (1, .int .i64 d), (12, v6), (14, v8), (24, .int .i64 (k : Int)), (151, .int .i64 (k : Int)), (152, v6), (153, .int .i64 (ss.length : Int)), (154, .bool true), (157, v6), (158, .int .i64 (k : Int)), (159, slAddr v6 (k * 3)), (160, slAddr v6 (k * 3 + 0)), (161, .int .i64 sk.state), (162, v8), (163, .int .i64 (k : Int)), (164, slAddr v8 (k * 3)), (165, slAddr v8 (k * 3 + 0)), (166, .int .i64 sk.state), (167, .bool false), (168, .bool false), (169, v8), (170, .int .i64 (k : Int)), (171, slAddr v8 (k * 3)), (172, slAddr v8 (k * 3 + 1)), (173, .int .i64 (sk.since + d)), (174, v6), (175, .int .i64 (k : Int)), (176, slAddr v6 (k * 3)), (177, slAddr v6 (k * 3 + 1)), (178, .int .i64 sk.since), (179, .int .i64 d), (180, .int .i64 (sk.since + d)), (181, .bool false), (182, .bool false), (183, .bool false), (184, v6), (185, .int .i64 (k : Int)), (186, slAddr v6 (k * 3)), (187, slAddr v6 (k * 3 + 2)), (188, .int .i64 sk.next), (189, .bool true), (190, .bool true), (191, v8), (192, .int .i64 (k : Int)), (193, slAddr v8 (k * 3)), (194, slAddr v8 (k * 3 + 2)), (195, .int .i64 nx), (196, v6), (197, .int .i64 (k : Int)), (198, slAddr v6 (k * 3)), (199, slAddr v6 (k * 3 + 2)), (200, .int .i64 sk.next), (201, .int .i64 d), (202, .int .i64 (sk.next + d)), (203, .bool false), (204, .bool false), (205, .bool false), (206, .bool false), (207, v6), (208, .int .i64 (k : Int)), (209, slAddr v6 (k * 3)), (210, slAddr v6 (k * 3 + 2)), (211, .int .i64 sk.next), (212, .bool false), (213, .bool false)] [] a := hfr.pick [5, 1, 12, 14, 24, 151, 152, 153, 154, 157, 158, 159, 160, 161, 162, 163, 164, 165, 166, 167, 168, 169, 170, 171, 172, 173, 174, 175, 176, 177, 178, 179, 180, 181, 182, 183, 184, 185, 186, 187, 188, 189, 190, 191, 192, 193, 194, 195, 196, 197, 198, 199, 200, 201, 202, 203, 204, 205, 206, 207, 208, 209, 210, 211, 212, 213]
      refine wd_skip (k := 57) 59 [57, 58] hfr (by kernel_rfl) (by kernel_rfl) (by kernel_rfl) (by rfl) ?_
      clear hfr
      intro a hfr
      replace hfr : Fr 223 [(214, undef), (215, undef), (5, .bool true), (1, .int .i64 d), (12, v6), (14, v8), (24, .int .i64 (k : Int)), (151, .int .i64 (k : Int)), (152, v6), (153, .int .i64 (ss.length : Int)), (154, .bool true), (157, v6), (158, .int .i64 (k : Int)), (159, slAddr v6 (k * 3)), (160, slAddr v6 (k * 3 + 0)), (161, .int .i64 sk.state), (162, v8), (163, .int .i64 (k : Int)), (164, slAddr v8 (k * 3)), (165, slAddr v8 (k * 3 + 0)), (166, .int .i64 sk.state), (167, .bool false), (168, .bool false), (169, v8), (170, .int .i64 (k : Int)), (171, slAddr v8 (k * 3)), (172, slAddr v8 (k * 3 + 1)), (173, .int .i64 (sk.since + d)), (174, v6), (175, .int .i64 (k : Int)), (176, slAddr v6 (k * 3)), (177, slAddr v6 (k * 3 + 1)), (178, .int .i64 sk.since), (179, .int .i64 d), (180, .int .i64 (sk.since + d)), (181, .bool false), (182, .bool false), (183, .bool false), (184, v6), (185, .int .i64 (k : Int)), (186, slAddr v6 (k * 3)), (187, slAddr v6 (k * 3 + 2)), (188, .int .i64 sk.next), (189, .bool true), (190, .bool true), (191, v8), (192, .int .i64 (k : Int)), (193, slAddr v8 (k * 3)), (194, slAddr v8 (k * 3 + 2)), (195, .int .i64 nx), (196, v6), (197, .int .i64 (k : Int)), (198, slAddr v6 (k * 3)), (199, slAddr v6 (k * 3 + 2)), (200, .int .i64 sk.next), (201, .int .i64 d), (202, .int .i64 (sk.next + d)), (203, .bool false), (204, .bool false), (205, .bool false), (206, .bool false), (207, v6), (208, .int .i64 (k : Int)), (209, slAddr v6 (k * 3)), (210, slAddr v6 (k * 3 + 2)), (211, .int .i64 sk.next), (212, .bool false), (213, .bool false)] [] a := hfr
      refine wd_lin (k := 59) 65 [64] (by kernel_rfl) (by kernel_rfl) (by kernel_rfl) ?_
      refine wl_vn hfr (by decide) rfl (by decide) rfl rfl ?_
      clear hfr
      intro a hfr
      refine wl_vn hfr (by decide) rfl (by decide) rfl rfl ?_
      clear hfr
      intro a hfr
      refine wl_vn hfr (by decide) rfl (by decide) rfl rfl ?_
      clear hfr
      intro a hfr
      refine wl_vn hfr (by decide) rfl (by decide) rfl rfl ?_
      clear hfr
      intro a hfr
      refine wl_vy hfr (by decide) rfl (by decide) rfl (v_pick_f rfl rfl) ?_
      clear hfr
      intro a hfr
      refine wl_v hfr (by decide) (v_pick_f rfl rfl) ?_
      clear hfr
      intro a hfr
      refine wl_nil ?_
      refine wd_end (by kernel_rfl) ?_
      refine hK28 _ _ ?_
      replace hfr : Fr 223 [(5, _), (1, _), (12, _), (14, _), (24, _), (221, _)] [] a := hfr.pick [5, 1, 12, 14, 24, 221]
      refine wc_cond_f hfr rfl ?_
      refine wc_skip ?_
      refine hK27 _ _ ?_
      refine wc_region ?_
      refine wl_v hfr (by decide) (v_move rfl) ?_
      clear hfr
      intro a hfr
      refine wl_v hfr (by decide) (v_add rfl rfl ⟨by omega, by omega⟩) ?_
      clear hfr
      intro a hfr
      refine wl_v hfr (by decide) (v_assign rfl) ?_
      clear hfr
      intro a hfr
      refine wl_nil ?_
      refine ⟨_, ?_, k + 1, rfl, (by omega), hfr.pick [5, 1, 12, 14, 24], hst.select [0, 1, 2] (by decide)⟩
      omega
    rw [hb15] at hfr
    try simp only [Bool.not_eq_true', Bool.not_eq_false', decide_eq_true_eq, decide_eq_false_iff_not] at hb15
    replace hfr : Fr 223 [(5, .bool true), (1, .int .i64 d), (12, v6), (14, v8), (24, .int .i64 (k : Int)), (151, .int .i64 (k : Int)), (152, v6), (153, .int .i64 (ss.length : Int)), (154, .bool true), (157, v6), (158, .int .i64 (k : Int)), (159, slAddr v6 (k * 3)), (160, slAddr v6 (k * 3 + 0)), (161, .int .i64 sk.state), (162, v8), (163, .int .i64 (k : Int)), (164, slAddr v8 (k * 3)), (165, slAddr v8 (k * 3 + 0)), (166, .int .i64 sk.state), (167, .bool false), (168, .bool false), (169, v8), (170, .int .i64 (k : Int)), (171, slAddr v8 (k * 3)), (172, slAddr v8 (k * 3 + 1)), (173, .int .i64 (sk.since + d)), (174, v6), (175, .int .i64 (k : Int)), (176, slAddr v6 (k * 3)), (177, slAddr v6 (k * 3 + 1)), (178, .int .i64 sk.since), (179, .int .i64 d), (180, .int .i64 (sk.since + d)), (181, .bool false), (182, .bool false), (183, .bool false), (184, v6), (185, .int .i64 (k : Int)), (186, slAddr v6 (k * 3)), (187, slAddr v6 (k * 3 + 2)), (188, .int .i64 sk.next), (189, .bool false), (190, .bool false)] [] a := hfr.pick [5, 1, 12, 14, 24, 151, 152, 153, 154, 157, 158, 159, 160, 161, 162, 163, 164, 165, 166, 167, 168, 169, 170, 171, 172, 173, 174, 175, 176, 177, 178, 179, 180, 181, 182, 183, 184, 185, 186, 187, 188, 189, 190]
    refine wd_skip (k := 34) 46 [38, 45] hfr (by kernel_rfl) (by kernel_rfl) (by kernel_rfl) (by rfl) ?_
    clear hfr
    intro a hfr
    replace hfr : Fr 223 [(191, undef), (192, undef), (193, undef), (194, undef), (195, undef), (196, undef), (197, undef), (198, undef), (199, undef), (200, undef), (201, undef), (202, undef), (5, .bool true), (1, .int .i64 d), (12, v6), (14, v8), (24, .int .i64 (k : Int)), (151, .int .i64 (k : Int)), (152, v6), (153, .int .i64 (ss.length : Int)), (154, .bool true), (157, v6), (158, .int .i64 (k : Int)), (159, slAddr v6 (k * 3)), (160, slAddr v6 (k * 3 + 0)), (161, .int .i64 sk.state), (162, v8), (163, .int .i64 (k : Int)), (164, slAddr v8 (k * 3)), (165, slAddr v8 (k * 3 + 0)), (166, .int .i64 sk.state), (167, .bool false), (168, .bool false), (169, v8), (170, .int .i64 (k : Int)), (171, slAddr v8 (k * 3)), (172, slAddr v8 (k * 3 + 1)), (173, .int .i64 (sk.since + d)), (174, v6), (175, .int .i64 (k : Int)), (176, slAddr v6 (k * 3)), (177, slAddr v6 (k * 3 + 1)), (178, .int .i64 sk.since), (179, .int .i64 d), (180, .int .i64 (sk.since + d)), (181, .bool false), (182, .bool false), (183, .bool false), (184, v6), (185, .int .i64 (k : Int)), (186, slAddr v6 (k * 3)), (187, slAddr v6 (k * 3 + 2)), (188, .int .i64 sk.next), (189, .bool false), (190, .bool false)] [] a := hfr
    refine wd_lin (k := 46) 50 [49] (by kernel_rfl) (by kernel_rfl) (by kernel_rfl) ?_
    refine wl_vn hfr (by decide) rfl (by decide) rfl rfl ?_
    clear hfr
    intro a hfr
    refine wl_vy hfr (by decide) rfl (by decide) rfl (v_pick_f rfl rfl) ?_
    clear hfr
    intro a hfr
    refine wl_v hfr (by decide) (v_pick_f rfl rfl) ?_
    clear hfr
    intro a hfr
    refine wl_v hfr (by decide) (v_move rfl) ?_
    clear hfr
    intro a hfr
    refine wl_nil ?_
    refine wd_sub (k := 50) 52 [50, 51] hfr (by kernel_rfl) (by kernel_rfl) (by kernel_rfl) (by rfl) ?_
    replace hfr : Fr 223 [(191, _), (192, _), (193, _), (194, _), (195, _), (196, _), (197, _), (198, _), (199, _), (200, _), (201, _), (202, _), (5, _), (1, _), (12, _), (14, _), (24, _), (151, _), (152, _), (153, _), (154, _), (157, _), (158, _), (159, _), (160, _), (161, _), (162, _), (163, _), (164, _), (165, _), (166, _), (167, _), (168, _), (169, _), (170, _), (171, _), (172, _), (173, _), (174, _), (175, _), (176, _), (177, _), (178, _), (179, _), (180, _), (181, _), (182, _), (183, _), (184, _), (185, _), (186, _), (187, _), (188, _), (189, _), (190, _), (203, _), (204, _), (205, _), (206, _)] [] a := hfr.pick [191, 192, 193, 194, 195, 196, 197, 198, 199, 200, 201, 202, 5, 1, 12, 14, 24, 151, 152, 153, 154, 157, 158, 159, 160, 161, 162, 163, 164, 165, 166, 167, 168, 169, 170, 171, 172, 173, 174, 175, 176, 177, 178, 179, 180, 181, 182, 183, 184, 185, 186, 187, 188, 189, 190, 203, 204, 205, 206]
    refine wc_phases' 2 [[], []] (fun i => match i with | 0 => pv (v6) | 1 => pv (.int .i64 (k : Int)) | _ => fun _ _ => False) hfr hst (by kernel_rfl) (by kernel_rfl) ?_ ?_
    · intro i hi
      match i, hi with
      | 0, _ =>
        intro w hst
        exact OpV.g (v_move rfl)
      | 1, _ =>
        intro w hst
        exact OpV.g (v_move rfl)
    clear hfr hst
    rintro _ _ ⟨rfl, rfl⟩ _ _ ⟨rfl, rfl⟩ a w30 hfr hst
    replace hfr : Fr 223 [(207, _), (208, _), (191, _), (192, _), (193, _), (194, _), (195, _), (196, _), (197, _), (198, _), (199, _), (200, _), (201, _), (202, _), (5, _), (1, _), (12, _), (14, _), (24, _), (151, _), (152, _), (153, _), (154, _), (157, _), (158, _), (159, _), (160, _), (161, _), (162, _), (163, _), (164, _), (165, _), (166, _), (167, _), (168, _), (169, _), (170, _), (171, _), (172, _), (173, _), (174, _), (175, _), (176, _), (177, _), (178, _), (179, _), (180, _), (181, _), (182, _), (183, _), (184, _), (185, _), (186, _), (187, _), (188, _), (189, _), (190, _), (203, _), (204, _), (205, _), (206, _)] [] a := hfr
    replace hst : St No w0 [_, _, _] w30 := hst
    refine wl_nil ?_
    refine wd_lin (k := 52) 57 [56] (by kernel_rfl) (by kernel_rfl) (by kernel_rfl) ?_
    refine wl_vy hfr (by decide) rfl (by decide) rfl ((v_indexAddr_sl (i := (k : Int)) (sT := 47) (hst.ownAt (i := 1) rfl) rfl rfl (Try.runUnderlying47 _) (Try.sizeOf39 _) (by omega) (by simpa using hks)).as (v' := slAddr v6 (k * 3)) rfl) ?_
    clear hfr
    intro a hfr
    refine wl_vy hfr (by decide) rfl (by decide) rfl (v_fieldAddr_sl (k := k * 3) (j := 2) (hst.ownAt (i := 1) rfl) (i := k) (by simpa using hks) rfl (fun _ _ => by kernel_rfl)) ?_
    clear hfr
    intro a hfr
    refine wl_vy hfr (by decide) rfl (by decide) rfl (v_load_sl1 (u := .int .i64 sk.next) (i := k) (j := 2) (hst.ownAt (i := 1) rfl) (by simpa using hks) rfl (Try.isAgg3 _) (by rw [← hsk]; simp [List.getElem?_eq_getElem hks, Stt.cells])) ?_
    clear hfr
    intro a hfr
    refine wl_vy hfr (by decide) rfl (by decide) rfl ((v_lt rfl rfl).asb (b' := true) (by simp; omega)) ?_
    clear hfr
    intro a hfr
    refine wl_vy hfr (by decide) rfl (by decide) rfl (v_move rfl) ?_
    clear hfr
    intro a hfr
    refine wl_nil ?_
    refine wd_sub (k := 57) 59 [57, 58] hfr (by kernel_rfl) (by kernel_rfl) (by kernel_rfl) (by rfl) ?_
    replace hfr : Fr 223 [(191, _), (192, _), (193, _), (194, _), (195, _), (196, _), (197, _), (198, _), (199, _), (200, _), (201, _), (202, _), (5, _), (1, _), (12, _), (14, _), (24, _), (151, _), (152, _), (153, _), (154, _), (157, _), (158, _), (159, _), (160, _), (161, _), (162, _), (163, _), (164, _), (165, _), (166, _), (167, _), (168, _), (169, _), (170, _), (171, _), (172, _), (173, _), (174, _), (175, _), (176, _), (177, _), (178, _), (179, _), (180, _), (181, _), (182, _), (183, _), (184, _), (185, _), (186, _), (187, _), (188, _), (189, _), (190, _), (203, _), (204, _), (205, _), (206, _), (207, _), (208, _), (209, _), (210, _), (211, _), (212, _), (213, _)] [] a := hfr.pick [191, 192, 193, 194, 195, 196, 197, 198, 199, 200, 201, 202, 5, 1, 12, 14, 24, 151, 152, 153, 154, 157, 158, 159, 160, 161, 162, 163, 164, 165, 166, 167, 168, 169, 170, 171, 172, 173, 174, 175, 176, 177, 178, 179, 180, 181, 182, 183, 184, 185, 186, 187, 188, 189, 190, 203, 204, 205, 206, 207, 208, 209, 210, 211, 212, 213]
    refine wc_phases' 2 [[], []] (fun i => match i with | 0 => pv (v8) | 1 => pv (.int .i64 (k : Int)) | _ => fun _ _ => False) hfr hst (by kernel_rfl) (by kernel_rfl) ?_ ?_
    · intro i hi
      match i, hi with
      | 0, _ =>
        intro w hst
        exact OpV.g (v_move rfl)
      | 1, _ =>
        intro w hst
        exact OpV.g (v_move rfl)
    clear hfr hst
    rintro _ _ ⟨rfl, rfl⟩ _ _ ⟨rfl, rfl⟩ a w31 hfr hst
    replace hfr : Fr 223 [(214, _), (215, _), (191, _), (192, _), (193, _), (194, _), (195, _), (196, _), (197, _), (198, _), (199, _), (200, _), (201, _), (202, _), (5, _), (1, _), (12, _), (14, _), (24, _), (151, _), (152, _), (153, _), (154, _), (157, _), (158, _), (159, _), (160, _), (161, _), (162, _), (163, _), (164, _), (165, _), (166, _), (167, _), (168, _), (169, _), (170, _), (171, _), (172, _), (173, _), (174, _), (175, _), (176, _), (177, _), (178, _), (179, _), (180, _), (181, _), (182, _), (183, _), (184, _), (185, _), (186, _), (187, _), (188, _), (189, _), (190, _), (203, _), (204, _), (205, _), (206, _), (207, _), (208, _), (209, _), (210, _), (211, _), (212, _), (213, _)] [] a := hfr
    replace hst : St No w0 [_, _, _] w31 := hst
    refine wl_nil ?_
    refine wd_lin (k := 59) 65 [64] (by kernel_rfl) (by kernel_rfl) (by kernel_rfl) ?_
    refine wl_vy hfr (by decide) rfl (by decide) rfl ((v_indexAddr_sl (i := (k : Int)) (sT := 47) (hst.ownAt (i := 0) rfl) rfl rfl (Try.runUnderlying47 _) (Try.sizeOf39 _) (by omega) (by simpa using hks)).as (v' := slAddr v8 (k * 3)) rfl) ?_
    clear hfr
    intro a hfr
    refine wl_vy hfr (by decide) rfl (by decide) rfl (v_fieldAddr_sl (k := k * 3) (j := 2) (hst.ownAt (i := 0) rfl) (i := k) (by simpa using hks) rfl (fun _ _ => by kernel_rfl)) ?_
    clear hfr
    intro a hfr
    refine wl_vy hfr (by decide) rfl (by decide) rfl (v_load_sl1 (u := .int .i64 nx) (i := k) (j := 2) (hst.ownAt (i := 0) rfl) (by simpa using hks) rfl (Try.isAgg3 _) (by first | (rw [← hnx]; rw [← hsk]; simp [List.getElem?_eq_getElem hks, Stt.cells, shS]; done) | (rw [← hsk]; simp [List.getElem?_eq_getElem hks, Stt.cells, shS]))) ?_
    clear hfr
    intro a hfr
    refine wl_vy hfr (by decide) rfl (by decide) rfl ((v_ne rfl rfl).asb (b' := false) (by simp; omega)) ?_
    clear hfr
    intro a hfr
    refine wl_vy hfr (by decide) rfl (by decide) rfl (v_pick_t rfl rfl) ?_
    clear hfr
    intro a hfr
    refine wl_v hfr (by decide) (v_pick_f rfl rfl) ?_
    clear hfr
    intro a hfr
    refine wl_nil ?_
    refine wd_end (by kernel_rfl) ?_
    refine hK28 _ _ ?_
    replace hfr : Fr 223 [(5, _), (1, _), (12, _), (14, _), (24, _), (221, _)] [] a := hfr.pick [5, 1, 12, 14, 24, 221]
    refine wc_cond_f hfr rfl ?_
    refine wc_skip ?_
    refine hK27 _ _ ?_
    refine wc_region ?_
    refine wl_v hfr (by decide) (v_move rfl) ?_
    clear hfr
    intro a hfr
    refine wl_v hfr (by decide) (v_add rfl rfl ⟨by omega, by omega⟩) ?_
    clear hfr
    intro a hfr
    refine wl_v hfr (by decide) (v_assign rfl) ?_
    clear hfr
    intro a hfr
    refine wl_nil ?_
    refine ⟨_, ?_, k + 1, rfl, (by omega), hfr.pick [5, 1, 12, 14, 24], hst.select [0, 1, 2] (by decide)⟩
    omega
  rw [hc14] at hfr
  try simp only [Bool.not_eq_true', Bool.not_eq_false', decide_eq_true_eq, decide_eq_false_iff_not] at hc14
  refine wc_exit ?_
  refine hK23 _ _ ?_
  refine wc_seq_region fun K29 hK29 => ?_
  refine wl_v hfr (by decide) (v_move rfl) ?_
  clear hfr
  intro a hfr
  refine wl_v hfr (by decide) (v_assign rfl) ?_
  clear hfr
  intro a hfr
  refine wl_nil (hK29 _ _ ?_)
  replace hfr : Fr 223 [(4, _)] [] a := hfr.pick [4]
  replace hst : St No w0 [_] w23 := hst.mask [false, false, true]
  refine wc_ret ?_
  refine fin_ret hfr Try.results8 (resAre_tmp rfl resAre_nil) ?_
  exact ⟨by simp [retv], hst.ext⟩
end Go.Proofs.Ytdamipejlfipcaa
