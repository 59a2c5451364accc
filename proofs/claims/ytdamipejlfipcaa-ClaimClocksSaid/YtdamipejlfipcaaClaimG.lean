import Derived.Test.YtdamipejlfipcaaClaimF
namespace Go.Proofs.Ytdamipejlfipcaa
open Go.RowKit Go.PW
set_option linter.unusedVariables false
set_option linter.unusedSimpArgs false
set_option maxRecDepth 4000

theorem statuses_iter {M : Nat → Prop} {w0 : World} {er : Ent} (rl : Rul) (cl : Clm) (x : Mach) (sv : Value) (l : List Evt) (bp bl : Nat) (hv : valid rl cl l = true) (hsv : ∀ H w, St M w0 H w → SlAt w sv 3 (l.map Evt.cells)) :
    Iter Try.prog 60 [.pointer (some ⟨bp, 0, none⟩), .pointer (some ⟨bl, 0, none⟩)] encS NxS (fun xs Hi => xs = statuses rl cl l ∧ ∃ vd, Hi = [blk bp [.pointer (some ⟨x.bm, 0, none⟩)] 85, blk bl [sv] 32, blk x.bm [.int .i64 rl.answer, .int .i64 rl.cooling, .int .i64 rl.settle, .int .i64 rl.reverse, .int .i64 cl.number, .int .i64 cl.frm, .int .i64 cl.to, .int .i64 cl.holder, .int .i64 cl.asked, .bool cl.backed, .map (some x.dm), .map (some x.em), vd] 95, mapE x.dm duesKV, mapE x.em effAll, own vd 3 1 ((voids rl cl l).map fun i => [.int .i64 i]), er]) (fun pre Hi => (∃ rest, statuses rl cl l = pre ++ rest) ∧ ∃ (vd : Value) (vo : List Int), Hi = [blk bp [.pointer (some ⟨x.bm, 0, none⟩)] 85, blk bl [sv] 32, blk x.bm [.int .i64 rl.answer, .int .i64 rl.cooling, .int .i64 rl.settle, .int .i64 rl.reverse, .int .i64 cl.number, .int .i64 cl.frm, .int .i64 cl.to, .int .i64 cl.holder, .int .i64 cl.asked, .bool cl.backed, .map (some x.dm), .map (some x.em), vd] 95, mapE x.dm duesKV, mapE x.em effAll, own vd 3 1 (vo.map fun i => [.int .i64 i]), er]) M w0 [blk bp [.pointer (some ⟨x.bm, 0, none⟩)] 85, blk bl [sv] 32, blk x.bm [.int .i64 rl.answer, .int .i64 rl.cooling, .int .i64 rl.settle, .int .i64 rl.reverse, .int .i64 cl.number, .int .i64 cl.frm, .int .i64 cl.to, .int .i64 cl.holder, .int .i64 cl.asked, .bool cl.backed, .map (some x.dm), .map (some x.em), .slice none 0 0] 95, mapE x.dm duesKV, mapE x.em effAll, own (.slice none 0 0) 3 1 (([]).map fun i => [.int .i64 i]), er] :=
  fun lp J Jx w e hY hJ hst => statuses_run rl cl x sv l lp bp bl J Jx hY e w hv hsv hJ hst

/-- (*dialtone/claim.machine).statuses -/
theorem mstatuses_ok (bm : Nat) (sv : Value) (els : List (List Value)) (w0 : World) (hsv : SlAt w0 sv 3 els) :
    Ret Try.prog 41 #[.pointer (some ⟨bm, 0, none⟩), sv] w0 (MemR w0 (fun z : Nat × Nat => .func (.func 60) #[] #[.pointer (some ⟨z.1, 0, none⟩), .pointer (some ⟨z.2, 0, none⟩)]) (fun z => [blk z.2 [sv] 32, blk z.1 [.pointer (some ⟨bm, 0, none⟩)] 85]) (fun _ => True)) := by
  refine ret_of Try.func41 rfl Try.ntmps41 (Nat.le_of_ble_eq_true rfl) fun a hfr => ?_
  have hfr : Fr 6 [(0, _), (1, _)] [] a := hfr
  have hst : St No w0 [] w0 := St.init w0
  refine wc_seq_region fun K1 hK1 => ?_
  refine wl_box hfr hst (by decide) rfl (cs := [.pointer (some ⟨bm, 0, none⟩)]) rfl fun a w1 hfr hst => ?_
  refine wl_box hfr hst (by decide) rfl (cs := [sv]) (by rw [(hst.arg hsv).cells]) fun a w2 hfr hst => ?_
  refine wl_v hfr (by decide) (v_assign rfl) fun a hfr => ?_
  refine wl_nil (hK1 _ _ ?_)
  refine wc_seq_region fun K2 hK2 => ?_
  refine wl_v hfr (by decide) (v_makeFunc rfl rfl) fun a hfr => ?_
  refine wl_v hfr (by decide) (v_assign rfl) fun a hfr => ?_
  refine wl_nil (hK2 _ _ ?_)
  refine wc_ret ?_
  refine fin_ret hfr Try.results41 (resAre_tmp rfl resAre_nil) ?_
  exact ⟨(w0.heap.size, w1.heap.size), rfl, trivial, hst.ext, St.out (H := []) hst⟩

/-- dialtone/claim.Outcome -/
theorem outcome_ok (rl : Rul) (cl : Clm) (sv : Value) (l : List Evt) (t : Int) (w0 : World) (hsv : SlAt w0 sv 3 (l.map Evt.cells)) (hv : valid rl cl l = true) (hin : isIn t 0 20000000 = true) :
    Ret Try.prog 14 #[.agg #[.int .i64 rl.answer, .int .i64 rl.cooling, .int .i64 rl.settle, .int .i64 rl.reverse], .agg #[.int .i64 cl.number, .int .i64 cl.frm, .int .i64 cl.to, .int .i64 cl.holder, .int .i64 cl.asked, .bool cl.backed], sv, .int .i64 t] w0 fun v w => v = .tuple #[(outcome rl cl l t).val, .int .i64 0] ∧ Ext No w0 w := by
  refine ret_of Try.func14 rfl Try.ntmps14 (Nat.le_of_ble_eq_true rfl) fun a hfr => ?_
  have hfr : Fr 42 [(0, _), (1, _), (2, _), (3, _)] [] a := hfr
  have hst : St No w0 [] w0 := St.init w0
  refine wc_seq_region fun K1 hK1 => ?_
  refine wl_box hfr hst (by decide) rfl (cs := [.int .i64 rl.answer, .int .i64 rl.cooling, .int .i64 rl.settle, .int .i64 rl.reverse]) rfl fun a w1 hfr hst => ?_
  refine wl_box hfr hst (by decide) rfl (cs := [.int .i64 cl.number, .int .i64 cl.frm, .int .i64 cl.to, .int .i64 cl.holder, .int .i64 cl.asked, .bool cl.backed]) rfl fun a w2 hfr hst => ?_
  refine wl_box hfr hst (by decide) rfl (cs := [.int .i64 t]) rfl fun a w3 hfr hst => ?_
  refine wl_alloc hfr hst (by decide) (Try.zeroValue39 _) (cs := [.int .i64 0, .int .i64 0, .int .i64 0]) rfl fun a w4 hfr hst => ?_
  refine wl_v hfr (by decide) (v_assign rfl) fun a hfr => ?_
  refine wl_nil (hK1 _ _ ?_)
  refine wc_seq_region fun K2 hK2 => ?_
  refine wl_v hfr (by decide) (v_load_all (hst.get (k := 3) rfl) rfl (Try.isAgg29 _) (Try.sizeOf29 _)) fun a hfr => ?_
  refine wl_v hfr (by decide) (v_load_all (hst.get (k := 2) rfl) rfl (Try.isAgg31 _) (Try.sizeOf31 _)) fun a hfr => ?_
  refine wl_v hfr (by decide) (v_move rfl) fun a hfr => ?_
  refine wl_callm hfr hst (by decide) Try.call39 rfl (open_ok rl cl sv l _ (hst.arg hsv) hv) fun a w5 x2 hp hfr hst => ?_
  revert x2 hp hfr hst; rintro x1 hp hfr hst
  clear hp
  have hst : St No w0 [blk x1.bm [.int .i64 rl.answer, .int .i64 rl.cooling, .int .i64 rl.settle, .int .i64 rl.reverse, .int .i64 cl.number, .int .i64 cl.frm, .int .i64 cl.to, .int .i64 cl.holder, .int .i64 cl.asked, .bool cl.backed, .map (some x1.dm), .map (some x1.em), .slice none 0 0] 95, mapE x1.dm duesKV, mapE x1.em effAll, blk w3.heap.size [.int .i64 0, .int .i64 0, .int .i64 0] 39, blk w2.heap.size [.int .i64 t] 3, blk w1.heap.size [.int .i64 cl.number, .int .i64 cl.frm, .int .i64 cl.to, .int .i64 cl.holder, .int .i64 cl.asked, .bool cl.backed] 31, blk w0.heap.size [.int .i64 rl.answer, .int .i64 rl.cooling, .int .i64 rl.settle, .int .i64 rl.reverse] 29] w5 := hst
  refine wl_v hfr (by decide) (v_move rfl) fun a hfr => ?_
  refine wl_v hfr (by decide) (v_extract rfl rfl) fun a hfr => ?_
  refine wl_v hfr (by decide) (v_extract rfl rfl) fun a hfr => ?_
  refine wl_v hfr (by decide) (v_assign rfl) fun a hfr => ?_
  refine wl_v hfr (by decide) (v_assign rfl) fun a hfr => ?_
  refine wl_nil (hK2 _ _ ?_)
  have hfr : Fr 42 [(0, _), (1, _), (2, _), (3, _), (4, _), (5, _), (7, _), (8, _), (9, _), (10, _), (11, _)] [] a := hfr.pick [0, 1, 2, 3, 4, 5, 7, 8, 9, 10, 11]
  refine wc_seq_k fun K3 hK3 => ?_
  refine wc_seq_region fun K4 hK4 => ?_
  refine wl_v hfr (by decide) (v_move rfl) fun a hfr => ?_
  refine wl_v hfr (by decide) ((v_ne rfl rfl).asb (b' := false) rfl) fun a hfr => ?_
  refine wl_v hfr (by decide) (v_move rfl) fun a hfr => ?_
  refine wl_vy hfr (by decide) rfl (by decide) rfl (v_load_blk1 (hst.get (k := 4) rfl) rfl (Try.isAgg3 _) rfl) fun a hfr => ?_
  refine wl_callpy hfr hst (by decide) rfl (by decide) rfl Try.call40 rfl ((hin ▸ isIn_ok _ _ _ _)) fun a w6 hfr hst => ?_
  refine wl_vy hfr (by decide) rfl (by decide) rfl ((v_not rfl).asb (b' := false) rfl) fun a hfr => ?_
  refine wl_v hfr (by decide) (v_pick_f rfl rfl) fun a hfr => ?_
  refine wl_nil (hK4 _ _ ?_)
  have hfr : Fr 42 [(0, _), (1, _), (2, _), (3, _), (4, _), (5, _), (7, _), (8, _), (9, _), (10, _), (11, _), (27, _)] [] a := hfr.pick [0, 1, 2, 3, 4, 5, 7, 8, 9, 10, 11, 27]
  refine wc_cond_f hfr rfl ?_
  refine wc_skip ?_
  refine hK3 _ _ ?_
  refine wc_seq_region fun K5 hK5 => ?_
  refine wl_v hfr (by decide) (v_fieldAddr (v := .pointer (some ⟨w1.heap.size, 4, none⟩)) rfl (by kernel_rfl)) fun a hfr => ?_
  refine wl_v hfr (by decide) (v_load_blk1 (hst.get (k := 5) rfl) rfl (Try.isAgg3 _) rfl) fun a hfr => ?_
  refine wl_v hfr (by decide) (v_build (v := .agg #[.int .i64 0, .int .i64 0, .int .i64 cl.asked]) rfl (by kernel_rfl)) fun a hfr => ?_
  refine wl_alloc hfr hst (by decide) (Try.zeroValue39 _) (cs := [.int .i64 0, .int .i64 0, .int .i64 0]) rfl fun a w7 hfr hst => ?_
  refine wl_store 0 hfr hst rfl rfl rfl (Try.sizeOf39 _) rfl (Nat.le_of_ble_eq_true rfl) (ds := [.int .i64 0, .int .i64 0, .int .i64 cl.asked]) rfl rfl fun a w8 hfr hst => ?_
  refine wl_nil (hK5 _ _ ?_)
  refine wc_seq_k fun K6 hK6 => ?_
  refine wc_seq_region fun K7 hK7 => ?_
  refine wl_v hfr (by decide) (v_move rfl) fun a hfr => ?_
  refine wl_v hfr (by decide) (v_move rfl) fun a hfr => ?_
  refine wl_callm hfr hst (by decide) Try.call41 rfl (mstatuses_ok _ _ _ _ (hst.arg hsv)) fun a w9 x5 hp hfr hst => ?_
  obtain ⟨bp3, bl4⟩ := x5
  clear hp
  have hst : St No w0 [blk bl4 [sv] 32, blk bp3 [.pointer (some ⟨x1.bm, 0, none⟩)] 85, blk w6.heap.size [.int .i64 0, .int .i64 0, .int .i64 cl.asked] 39, blk x1.bm [.int .i64 rl.answer, .int .i64 rl.cooling, .int .i64 rl.settle, .int .i64 rl.reverse, .int .i64 cl.number, .int .i64 cl.frm, .int .i64 cl.to, .int .i64 cl.holder, .int .i64 cl.asked, .bool cl.backed, .map (some x1.dm), .map (some x1.em), .slice none 0 0] 95, mapE x1.dm duesKV, mapE x1.em effAll, blk w3.heap.size [.int .i64 0, .int .i64 0, .int .i64 0] 39, blk w2.heap.size [.int .i64 t] 3, blk w1.heap.size [.int .i64 cl.number, .int .i64 cl.frm, .int .i64 cl.to, .int .i64 cl.holder, .int .i64 cl.asked, .bool cl.backed] 31, blk w0.heap.size [.int .i64 rl.answer, .int .i64 rl.cooling, .int .i64 rl.settle, .int .i64 rl.reverse] 29] w9 := hst
  refine wl_nil (hK7 _ _ ?_)
  refine wc_block ?_
  have hst : St No w0 (own (.slice none 0 0) 3 1 [] :: [blk bl4 [sv] 32, blk bp3 [.pointer (some ⟨x1.bm, 0, none⟩)] 85, blk w6.heap.size [.int .i64 0, .int .i64 0, .int .i64 cl.asked] 39, blk x1.bm [.int .i64 rl.answer, .int .i64 rl.cooling, .int .i64 rl.settle, .int .i64 rl.reverse, .int .i64 cl.number, .int .i64 cl.frm, .int .i64 cl.to, .int .i64 cl.holder, .int .i64 cl.asked, .bool cl.backed, .map (some x1.dm), .map (some x1.em), .slice none 0 0] 95, mapE x1.dm duesKV, mapE x1.em effAll, blk w3.heap.size [.int .i64 0, .int .i64 0, .int .i64 0] 39, blk w2.heap.size [.int .i64 t] 3, blk w1.heap.size [.int .i64 cl.number, .int .i64 cl.frm, .int .i64 cl.to, .int .i64 cl.holder, .int .i64 cl.asked, .bool cl.backed] 31, blk w0.heap.size [.int .i64 rl.answer, .int .i64 rl.cooling, .int .i64 rl.settle, .int .i64 rl.reverse] 29]) w9 := hst.nil_own
  have hst : St No w0 [blk w6.heap.size [.int .i64 0, .int .i64 0, .int .i64 cl.asked] 39, blk w2.heap.size [.int .i64 t] 3, blk bp3 [.pointer (some ⟨x1.bm, 0, none⟩)] 85, blk bl4 [sv] 32, blk x1.bm [.int .i64 rl.answer, .int .i64 rl.cooling, .int .i64 rl.settle, .int .i64 rl.reverse, .int .i64 cl.number, .int .i64 cl.frm, .int .i64 cl.to, .int .i64 cl.holder, .int .i64 cl.asked, .bool cl.backed, .map (some x1.dm), .map (some x1.em), .slice none 0 0] 95, mapE x1.dm duesKV, mapE x1.em effAll, own (.slice none 0 0) 3 1 (([] : List Int).map fun i => [.int .i64 i]), blk w3.heap.size [.int .i64 0, .int .i64 0, .int .i64 0] 39, blk w1.heap.size [.int .i64 cl.number, .int .i64 cl.frm, .int .i64 cl.to, .int .i64 cl.holder, .int .i64 cl.asked, .bool cl.backed] 31, blk w0.heap.size [.int .i64 rl.answer, .int .i64 rl.cooling, .int .i64 rl.settle, .int .i64 rl.reverse] 29] w9 := hst.select [3, 8, 2, 1, 4, 5, 6, 0, 7, 9, 10] (by decide)
  have hst : St No w0 [blk w6.heap.size [.int .i64 0, .int .i64 0, .int .i64 cl.asked] 39, blk w2.heap.size [.int .i64 t] 3, blk bp3 [.pointer (some ⟨x1.bm, 0, none⟩)] 85, blk bl4 [sv] 32, blk x1.bm [.int .i64 rl.answer, .int .i64 rl.cooling, .int .i64 rl.settle, .int .i64 rl.reverse, .int .i64 cl.number, .int .i64 cl.frm, .int .i64 cl.to, .int .i64 cl.holder, .int .i64 cl.asked, .bool cl.backed, .map (some x1.dm), .map (some x1.em), .slice none 0 0] 95, mapE x1.dm duesKV, mapE x1.em effAll, own (.slice none 0 0) 3 1 (([] : List Int).map fun i => [.int .i64 i]), join [blk w3.heap.size [.int .i64 0, .int .i64 0, .int .i64 0] 39, blk w1.heap.size [.int .i64 cl.number, .int .i64 cl.frm, .int .i64 cl.to, .int .i64 cl.holder, .int .i64 cl.asked, .bool cl.backed] 31, blk w0.heap.size [.int .i64 rl.answer, .int .i64 rl.cooling, .int .i64 rl.settle, .int .i64 rl.reverse] 29]] w9 := St.joinTail [blk w6.heap.size [.int .i64 0, .int .i64 0, .int .i64 cl.asked] 39, blk w2.heap.size [.int .i64 t] 3, blk bp3 [.pointer (some ⟨x1.bm, 0, none⟩)] 85, blk bl4 [sv] 32, blk x1.bm [.int .i64 rl.answer, .int .i64 rl.cooling, .int .i64 rl.settle, .int .i64 rl.reverse, .int .i64 cl.number, .int .i64 cl.frm, .int .i64 cl.to, .int .i64 cl.holder, .int .i64 cl.asked, .bool cl.backed, .map (some x1.dm), .map (some x1.em), .slice none 0 0] 95, mapE x1.dm duesKV, mapE x1.em effAll, own (.slice none 0 0) 3 1 (([] : List Int).map fun i => [.int .i64 i])] [blk w3.heap.size [.int .i64 0, .int .i64 0, .int .i64 0] 39, blk w1.heap.size [.int .i64 cl.number, .int .i64 cl.frm, .int .i64 cl.to, .int .i64 cl.holder, .int .i64 cl.asked, .bool cl.backed] 31, blk w0.heap.size [.int .i64 rl.answer, .int .i64 rl.cooling, .int .i64 rl.settle, .int .i64 rl.reverse] 29] hst
  have hst : St No w0 [blk w6.heap.size [.int .i64 ((lastOf ⟨0, 0, cl.asked⟩ ([])).state), .int .i64 ((lastOf ⟨0, 0, cl.asked⟩ ([])).since), .int .i64 ((lastOf ⟨0, 0, cl.asked⟩ ([])).next)] 39, blk w2.heap.size [.int .i64 t] 3, blk bp3 [.pointer (some ⟨x1.bm, 0, none⟩)] 85, blk bl4 [sv] 32, blk x1.bm [.int .i64 rl.answer, .int .i64 rl.cooling, .int .i64 rl.settle, .int .i64 rl.reverse, .int .i64 cl.number, .int .i64 cl.frm, .int .i64 cl.to, .int .i64 cl.holder, .int .i64 cl.asked, .bool cl.backed, .map (some x1.dm), .map (some x1.em), .slice none 0 0] 95, mapE x1.dm duesKV, mapE x1.em effAll, own (.slice none 0 0) 3 1 (([] : List Int).map fun i => [.int .i64 i]), join [blk w3.heap.size [.int .i64 0, .int .i64 0, .int .i64 0] 39, blk w1.heap.size [.int .i64 cl.number, .int .i64 cl.frm, .int .i64 cl.to, .int .i64 cl.holder, .int .i64 cl.asked, .bool cl.backed] 31, blk w0.heap.size [.int .i64 rl.answer, .int .i64 rl.cooling, .int .i64 rl.settle, .int .i64 rl.reverse] 29]] w9 := hst.select [0, 1, 2, 3, 4, 5, 6, 7, 8] (by decide)
  have hfr : Fr 42 [(0, .agg #[.int .i64 rl.answer, .int .i64 rl.cooling, .int .i64 rl.settle, .int .i64 rl.reverse]), (1, .agg #[.int .i64 cl.number, .int .i64 cl.frm, .int .i64 cl.to, .int .i64 cl.holder, .int .i64 cl.asked, .bool cl.backed]), (2, sv), (3, .int .i64 t), (4, .pointer (some ⟨w0.heap.size, 0, none⟩)), (5, .pointer (some ⟨w1.heap.size, 0, none⟩)), (7, .pointer (some ⟨w2.heap.size, 0, none⟩)), (8, .pointer (some ⟨w3.heap.size, 0, none⟩)), (9, .int .i64 0), (10, .pointer (some ⟨x1.bm, 0, none⟩)), (11, .int .i64 0), (27, .bool false), (29, .pointer (some ⟨w1.heap.size, 4, none⟩)), (30, .int .i64 cl.asked), (31, .agg #[.int .i64 0, .int .i64 0, .int .i64 cl.asked]), (12, .pointer (some ⟨w6.heap.size, 0, none⟩)), (32, .pointer (some ⟨x1.bm, 0, none⟩)), (33, sv), (34, .func (.func 60) #[] #[.pointer (some ⟨bp3, 0, none⟩), .pointer (some ⟨bl4, 0, none⟩)])] [] a := hfr.pick [0, 1, 2, 3, 4, 5, 7, 8, 9, 10, 11, 27, 29, 30, 31, 12, 32, 33, 34]
  refine wc_range (M := No) (w0 := w0) (encs := encS) (Hi := [blk bp3 [.pointer (some ⟨x1.bm, 0, none⟩)] 85, blk bl4 [sv] 32, blk x1.bm [.int .i64 rl.answer, .int .i64 rl.cooling, .int .i64 rl.settle, .int .i64 rl.reverse, .int .i64 cl.number, .int .i64 cl.frm, .int .i64 cl.to, .int .i64 cl.holder, .int .i64 cl.asked, .bool cl.backed, .map (some x1.dm), .map (some x1.em), .slice none 0 0] 95, mapE x1.dm duesKV, mapE x1.em effAll, own (.slice none 0 0) 3 1 (([] : List Int).map fun i => [.int .i64 i]), join [blk w3.heap.size [.int .i64 0, .int .i64 0, .int .i64 0] 39, blk w1.heap.size [.int .i64 cl.number, .int .i64 cl.frm, .int .i64 cl.to, .int .i64 cl.holder, .int .i64 cl.asked, .bool cl.backed] 31, blk w0.heap.size [.int .i64 rl.answer, .int .i64 rl.cooling, .int .i64 rl.settle, .int .i64 rl.reverse] 29]]) (Hc := [blk w6.heap.size [.int .i64 ((lastOf ⟨0, 0, cl.asked⟩ ([])).state), .int .i64 ((lastOf ⟨0, 0, cl.asked⟩ ([])).since), .int .i64 ((lastOf ⟨0, 0, cl.asked⟩ ([])).next)] 39, blk w2.heap.size [.int .i64 t] 3]) (fun pre H => (∀ s ∈ pre, s.since ≤ t) ∧ H = [blk w6.heap.size [.int .i64 ((lastOf ⟨0, 0, cl.asked⟩ pre).state), .int .i64 ((lastOf ⟨0, 0, cl.asked⟩ pre).since), .int .i64 ((lastOf ⟨0, 0, cl.asked⟩ pre).next)] 39, blk w2.heap.size [.int .i64 t] 3]) (fun c pre H => c = .exit 0 ∧ ∃ (pp : List Stt), ∃ (xx : Stt), (pre = pp ++ [xx]) ∧ (∀ s ∈ pp, s.since ≤ t) ∧ (t < xx.since) ∧ H = [blk w6.heap.size [.int .i64 ((lastOf ⟨0, 0, cl.asked⟩ pp).state), .int .i64 ((lastOf ⟨0, 0, cl.asked⟩ pp).since), .int .i64 ((lastOf ⟨0, 0, cl.asked⟩ pp).next)] 39, blk w2.heap.size [.int .i64 t] 3]) (fun pre xs H a => ∃ (bA0 : Nat), Fr 42 [(0, .agg #[.int .i64 rl.answer, .int .i64 rl.cooling, .int .i64 rl.settle, .int .i64 rl.reverse]), (1, .agg #[.int .i64 cl.number, .int .i64 cl.frm, .int .i64 cl.to, .int .i64 cl.holder, .int .i64 cl.asked, .bool cl.backed]), (2, sv), (3, .int .i64 t), (4, .pointer (some ⟨w0.heap.size, 0, none⟩)), (5, .pointer (some ⟨w1.heap.size, 0, none⟩)), (7, .pointer (some ⟨w2.heap.size, 0, none⟩)), (8, .pointer (some ⟨w3.heap.size, 0, none⟩)), (9, .int .i64 0), (10, .pointer (some ⟨x1.bm, 0, none⟩)), (11, .int .i64 0), (27, .bool false), (29, .pointer (some ⟨w1.heap.size, 4, none⟩)), (30, .int .i64 cl.asked), (31, .agg #[.int .i64 0, .int .i64 0, .int .i64 cl.asked]), (12, .pointer (some ⟨w6.heap.size, 0, none⟩)), (32, .pointer (some ⟨x1.bm, 0, none⟩)), (33, sv), (34, .func (.func 60) #[] #[.pointer (some ⟨bp3, 0, none⟩), .pointer (some ⟨bl4, 0, none⟩)]), (13, .pointer (some ⟨bA0, 0, none⟩))] [] a ∧ (∀ s ∈ pre, s.since ≤ t) ∧ H = [blk bA0 [.int .i64 xs.state, .int .i64 xs.since, .int .i64 xs.next] 39, blk w6.heap.size [.int .i64 ((lastOf ⟨0, 0, cl.asked⟩ pre).state), .int .i64 ((lastOf ⟨0, 0, cl.asked⟩ pre).since), .int .i64 ((lastOf ⟨0, 0, cl.asked⟩ pre).next)] 39, blk w2.heap.size [.int .i64 t] 3]) rfl Try.call60 hfr hst (statuses_iter rl cl x1 sv l bp3 bl4 hv (fun H w h => h.arg hsv)) (by decide) (fun _ => rfl) ⟨(by simp), rfl⟩ ?_ ?_ ?_ ?_
  · rintro lp pre xs _ a w10 hnx ⟨hle, rfl⟩ hfr hst
    generalize (join [blk w6.heap.size [.int .i64 ((lastOf ⟨0, 0, cl.asked⟩ pre).state), .int .i64 ((lastOf ⟨0, 0, cl.asked⟩ pre).since), .int .i64 ((lastOf ⟨0, 0, cl.asked⟩ pre).next)] 39, blk w2.heap.size [.int .i64 t] 3]).foot = M1 at hst ⊢
    have hfr : Fr 42 [(35, .agg #[.int .i64 xs.state, .int .i64 xs.since, .int .i64 xs.next]), (0, .agg #[.int .i64 rl.answer, .int .i64 rl.cooling, .int .i64 rl.settle, .int .i64 rl.reverse]), (1, .agg #[.int .i64 cl.number, .int .i64 cl.frm, .int .i64 cl.to, .int .i64 cl.holder, .int .i64 cl.asked, .bool cl.backed]), (2, sv), (3, .int .i64 t), (4, .pointer (some ⟨w0.heap.size, 0, none⟩)), (5, .pointer (some ⟨w1.heap.size, 0, none⟩)), (7, .pointer (some ⟨w2.heap.size, 0, none⟩)), (8, .pointer (some ⟨w3.heap.size, 0, none⟩)), (9, .int .i64 0), (10, .pointer (some ⟨x1.bm, 0, none⟩)), (11, .int .i64 0), (27, .bool false), (29, .pointer (some ⟨w1.heap.size, 4, none⟩)), (30, .int .i64 cl.asked), (31, .agg #[.int .i64 0, .int .i64 0, .int .i64 cl.asked]), (12, .pointer (some ⟨w6.heap.size, 0, none⟩)), (32, .pointer (some ⟨x1.bm, 0, none⟩)), (33, sv), (34, .func (.func 60) #[] #[.pointer (some ⟨bp3, 0, none⟩), .pointer (some ⟨bl4, 0, none⟩)])] [] a := hfr
    refine wc_region ?_
    refine wl_alloc hfr hst (by decide) (Try.zeroValue39 _) (cs := [.int .i64 0, .int .i64 0, .int .i64 0]) rfl fun a w11 hfr hst => ?_
    refine wl_store 0 hfr hst rfl rfl rfl (Try.sizeOf39 _) rfl (Nat.le_of_ble_eq_true rfl) (ds := [.int .i64 xs.state, .int .i64 xs.since, .int .i64 xs.next]) rfl rfl fun a w12 hfr hst => ?_
    refine wl_nil ?_
    exact ⟨_, ⟨w10.heap.size, hfr.pick [0, 1, 2, 3, 4, 5, 7, 8, 9, 10, 11, 27, 29, 30, 31, 12, 32, 33, 34, 13], hle, rfl⟩, hst⟩
  · rintro lp pre xs _ a w13 hnx ⟨bA0, hfr, hle, rfl⟩ hrec hnl hst
    clear hrec hnl
    generalize (join [blk bA0 [.int .i64 xs.state, .int .i64 xs.since, .int .i64 xs.next] 39, blk w6.heap.size [.int .i64 ((lastOf ⟨0, 0, cl.asked⟩ pre).state), .int .i64 ((lastOf ⟨0, 0, cl.asked⟩ pre).since), .int .i64 ((lastOf ⟨0, 0, cl.asked⟩ pre).next)] 39, blk w2.heap.size [.int .i64 t] 3]).foot = M1 at hst ⊢
    refine wc_block ?_
    refine wc_seq_k fun K8 hK8 => ?_
    refine wc_seq_region fun K9 hK9 => ?_
    refine wl_v hfr (by decide) (v_fieldAddr (v := .pointer (some ⟨bA0, 1, none⟩)) rfl (by kernel_rfl)) fun a hfr => ?_
    refine wl_v hfr (by decide) (v_load_blk1 (hst.get (k := 0) rfl) rfl (Try.isAgg3 _) rfl) fun a hfr => ?_
    refine wl_v hfr (by decide) (v_load_blk1 (hst.get (k := 2) rfl) rfl (Try.isAgg3 _) rfl) fun a hfr => ?_
    refine wl_v hfr (by decide) (v_gt rfl rfl) fun a hfr => ?_
    refine wl_nil (hK9 _ _ ?_)
    refine wc_cond hfr rfl (fun hc6 => ?_) (fun hc6 => ?_)
    · rw [hc6] at hfr
      try simp only [Bool.not_eq_true', Bool.not_eq_false', decide_eq_true_eq, decide_eq_false_iff_not] at hc6
      refine wc_exit ?_
      exact ⟨_, ⟨rfl, pre, xs, rfl, hle, (by omega), rfl⟩, hst.select [1, 2] (by decide)⟩
    rw [hc6] at hfr
    try simp only [Bool.not_eq_true', Bool.not_eq_false', decide_eq_true_eq, decide_eq_false_iff_not] at hc6
    refine wc_skip ?_
    refine hK8 _ _ ?_
    refine wc_region ?_
    refine wl_v hfr (by decide) (v_load_all (hst.get (k := 0) rfl) rfl (Try.isAgg39 _) (Try.sizeOf39 _)) fun a hfr => ?_
    refine wl_store 1 hfr hst rfl rfl rfl (Try.sizeOf39 _) rfl (Nat.le_of_ble_eq_true rfl) (ds := [.int .i64 xs.state, .int .i64 xs.since, .int .i64 xs.next]) rfl rfl fun a w14 hfr hst => ?_
    refine wl_nil ?_
    rw [← lastOf_snoc ⟨0, 0, cl.asked⟩ xs pre] at hst
    exact ⟨_, ⟨(by intro s hs; rcases List.mem_append.1 hs with h | h; exact hle s h; simp at h; subst h; omega), rfl⟩, hst.select [1, 2] (by decide)⟩
  · rintro D pre _ _ a w15 ⟨rfl, vd, rfl⟩ ⟨hle, rfl⟩ hst hfr
    have hfr : Fr 42 [(0, .agg #[.int .i64 rl.answer, .int .i64 rl.cooling, .int .i64 rl.settle, .int .i64 rl.reverse]), (1, .agg #[.int .i64 cl.number, .int .i64 cl.frm, .int .i64 cl.to, .int .i64 cl.holder, .int .i64 cl.asked, .bool cl.backed]), (2, sv), (3, .int .i64 t), (4, .pointer (some ⟨w0.heap.size, 0, none⟩)), (5, .pointer (some ⟨w1.heap.size, 0, none⟩)), (7, .pointer (some ⟨w2.heap.size, 0, none⟩)), (8, .pointer (some ⟨w3.heap.size, 0, none⟩)), (9, .int .i64 0), (10, .pointer (some ⟨x1.bm, 0, none⟩)), (11, .int .i64 0), (27, .bool false), (29, .pointer (some ⟨w1.heap.size, 4, none⟩)), (30, .int .i64 cl.asked), (31, .agg #[.int .i64 0, .int .i64 0, .int .i64 cl.asked]), (12, .pointer (some ⟨w6.heap.size, 0, none⟩)), (32, .pointer (some ⟨x1.bm, 0, none⟩)), (33, sv), (34, .func (.func 60) #[] #[.pointer (some ⟨bp3, 0, none⟩), .pointer (some ⟨bl4, 0, none⟩)])] [{ target := .collected D, args := #[] }] a := hfr
    have hst : St No w0 [obj D (.deferred (some [])), blk w6.heap.size [.int .i64 ((lastOf ⟨0, 0, cl.asked⟩ (statuses rl cl l)).state), .int .i64 ((lastOf ⟨0, 0, cl.asked⟩ (statuses rl cl l)).since), .int .i64 ((lastOf ⟨0, 0, cl.asked⟩ (statuses rl cl l)).next)] 39, blk w2.heap.size [.int .i64 t] 3, blk bp3 [.pointer (some ⟨x1.bm, 0, none⟩)] 85, blk bl4 [sv] 32, blk x1.bm [.int .i64 rl.answer, .int .i64 rl.cooling, .int .i64 rl.settle, .int .i64 rl.reverse, .int .i64 cl.number, .int .i64 cl.frm, .int .i64 cl.to, .int .i64 cl.holder, .int .i64 cl.asked, .bool cl.backed, .map (some x1.dm), .map (some x1.em), vd] 95, mapE x1.dm duesKV, mapE x1.em effAll, own vd 3 1 ((voids rl cl l).map fun i => [.int .i64 i]), join [blk w3.heap.size [.int .i64 0, .int .i64 0, .int .i64 0] 39, blk w1.heap.size [.int .i64 cl.number, .int .i64 cl.frm, .int .i64 cl.to, .int .i64 cl.holder, .int .i64 cl.asked, .bool cl.backed] 31, blk w0.heap.size [.int .i64 rl.answer, .int .i64 rl.cooling, .int .i64 rl.settle, .int .i64 rl.reverse] 29]] w15 := hst
    have hst : St No w0 [obj D (.deferred (some [])), blk w6.heap.size [.int .i64 ((lastOf ⟨0, 0, cl.asked⟩ (statuses rl cl l)).state), .int .i64 ((lastOf ⟨0, 0, cl.asked⟩ (statuses rl cl l)).since), .int .i64 ((lastOf ⟨0, 0, cl.asked⟩ (statuses rl cl l)).next)] 39, blk w2.heap.size [.int .i64 t] 3, blk bp3 [.pointer (some ⟨x1.bm, 0, none⟩)] 85, blk bl4 [sv] 32, blk x1.bm [.int .i64 rl.answer, .int .i64 rl.cooling, .int .i64 rl.settle, .int .i64 rl.reverse, .int .i64 cl.number, .int .i64 cl.frm, .int .i64 cl.to, .int .i64 cl.holder, .int .i64 cl.asked, .bool cl.backed, .map (some x1.dm), .map (some x1.em), vd] 95, mapE x1.dm duesKV, mapE x1.em effAll, own vd 3 1 ((voids rl cl l).map fun i => [.int .i64 i]), blk w3.heap.size [.int .i64 0, .int .i64 0, .int .i64 0] 39, blk w1.heap.size [.int .i64 cl.number, .int .i64 cl.frm, .int .i64 cl.to, .int .i64 cl.holder, .int .i64 cl.asked, .bool cl.backed] 31, blk w0.heap.size [.int .i64 rl.answer, .int .i64 rl.cooling, .int .i64 rl.settle, .int .i64 rl.reverse] 29] w15 := St.unjoinTail [obj D (.deferred (some [])), blk w6.heap.size [.int .i64 ((lastOf ⟨0, 0, cl.asked⟩ (statuses rl cl l)).state), .int .i64 ((lastOf ⟨0, 0, cl.asked⟩ (statuses rl cl l)).since), .int .i64 ((lastOf ⟨0, 0, cl.asked⟩ (statuses rl cl l)).next)] 39, blk w2.heap.size [.int .i64 t] 3, blk bp3 [.pointer (some ⟨x1.bm, 0, none⟩)] 85, blk bl4 [sv] 32, blk x1.bm [.int .i64 rl.answer, .int .i64 rl.cooling, .int .i64 rl.settle, .int .i64 rl.reverse, .int .i64 cl.number, .int .i64 cl.frm, .int .i64 cl.to, .int .i64 cl.holder, .int .i64 cl.asked, .bool cl.backed, .map (some x1.dm), .map (some x1.em), vd] 95, mapE x1.dm duesKV, mapE x1.em effAll, own vd 3 1 ((voids rl cl l).map fun i => [.int .i64 i])] [blk w3.heap.size [.int .i64 0, .int .i64 0, .int .i64 0] 39, blk w1.heap.size [.int .i64 cl.number, .int .i64 cl.frm, .int .i64 cl.to, .int .i64 cl.holder, .int .i64 cl.asked, .bool cl.backed] 31, blk w0.heap.size [.int .i64 rl.answer, .int .i64 rl.cooling, .int .i64 rl.settle, .int .i64 rl.reverse] 29] hst
    refine hK6 _ _ ?_
    refine wc_seq_region fun K10 hK10 => ?_
    refine wl_v hfr (by decide) (v_load_all (hst.get (k := 1) rfl) rfl (Try.isAgg39 _) (Try.sizeOf39 _)) fun a hfr => ?_
    refine wl_store 9 hfr hst rfl rfl rfl (Try.sizeOf39 _) rfl (Nat.le_of_ble_eq_true rfl) (ds := [.int .i64 ((lastOf ⟨0, 0, cl.asked⟩ (statuses rl cl l)).state), .int .i64 ((lastOf ⟨0, 0, cl.asked⟩ (statuses rl cl l)).since), .int .i64 ((lastOf ⟨0, 0, cl.asked⟩ (statuses rl cl l)).next)]) rfl rfl fun a w16 hfr hst => ?_
    refine wl_v hfr (by decide) (v_assign rfl) fun a hfr => ?_
    refine wl_nil (hK10 _ _ ?_)
    refine wc_ret ?_
    have hD := hst.get (k := 0) rfl
    have hst := hst.unmark (i := 0) (o' := .deferred none) rfl
    have hst : St No w0 [blk w6.heap.size [.int .i64 ((lastOf ⟨0, 0, cl.asked⟩ (statuses rl cl l)).state), .int .i64 ((lastOf ⟨0, 0, cl.asked⟩ (statuses rl cl l)).since), .int .i64 ((lastOf ⟨0, 0, cl.asked⟩ (statuses rl cl l)).next)] 39, blk w2.heap.size [.int .i64 t] 3, blk bp3 [.pointer (some ⟨x1.bm, 0, none⟩)] 85, blk bl4 [sv] 32, blk x1.bm [.int .i64 rl.answer, .int .i64 rl.cooling, .int .i64 rl.settle, .int .i64 rl.reverse, .int .i64 cl.number, .int .i64 cl.frm, .int .i64 cl.to, .int .i64 cl.holder, .int .i64 cl.asked, .bool cl.backed, .map (some x1.dm), .map (some x1.em), vd] 95, mapE x1.dm duesKV, mapE x1.em effAll, own vd 3 1 ((voids rl cl l).map fun i => [.int .i64 i]), blk w3.heap.size [.int .i64 ((lastOf ⟨0, 0, cl.asked⟩ (statuses rl cl l)).state), .int .i64 ((lastOf ⟨0, 0, cl.asked⟩ (statuses rl cl l)).since), .int .i64 ((lastOf ⟨0, 0, cl.asked⟩ (statuses rl cl l)).next)] 39, blk w1.heap.size [.int .i64 cl.number, .int .i64 cl.frm, .int .i64 cl.to, .int .i64 cl.holder, .int .i64 cl.asked, .bool cl.backed] 31, blk w0.heap.size [.int .i64 rl.answer, .int .i64 rl.cooling, .int .i64 rl.settle, .int .i64 rl.reverse] 29] _ := hst
    refine fin_ret1 hfr hD Try.results14 (resAre_cell rfl (res_all (hst.get (k := 8) rfl) (Try.isAgg39 _) (Try.sizeOf39 _)) (resAre_tmp rfl resAre_nil)) ?_
    exact ⟨by simp only [retv]; rw [outcome_done hle]; rfl, hst.ext⟩
  · rintro D _ pre _ _ a w17 ⟨⟨rest, hrest⟩, vd, vo, rfl⟩ ⟨rfl, pp, xx, hpp, hle, hxx, rfl⟩ hst hfr
    have hfr : Fr 42 [(0, .agg #[.int .i64 rl.answer, .int .i64 rl.cooling, .int .i64 rl.settle, .int .i64 rl.reverse]), (1, .agg #[.int .i64 cl.number, .int .i64 cl.frm, .int .i64 cl.to, .int .i64 cl.holder, .int .i64 cl.asked, .bool cl.backed]), (2, sv), (3, .int .i64 t), (4, .pointer (some ⟨w0.heap.size, 0, none⟩)), (5, .pointer (some ⟨w1.heap.size, 0, none⟩)), (7, .pointer (some ⟨w2.heap.size, 0, none⟩)), (8, .pointer (some ⟨w3.heap.size, 0, none⟩)), (9, .int .i64 0), (10, .pointer (some ⟨x1.bm, 0, none⟩)), (11, .int .i64 0), (27, .bool false), (29, .pointer (some ⟨w1.heap.size, 4, none⟩)), (30, .int .i64 cl.asked), (31, .agg #[.int .i64 0, .int .i64 0, .int .i64 cl.asked]), (12, .pointer (some ⟨w6.heap.size, 0, none⟩)), (32, .pointer (some ⟨x1.bm, 0, none⟩)), (33, sv), (34, .func (.func 60) #[] #[.pointer (some ⟨bp3, 0, none⟩), .pointer (some ⟨bl4, 0, none⟩)])] [{ target := .collected D, args := #[] }] a := hfr
    have hst : St No w0 [obj D (.deferred (some [])), blk w6.heap.size [.int .i64 ((lastOf ⟨0, 0, cl.asked⟩ pp).state), .int .i64 ((lastOf ⟨0, 0, cl.asked⟩ pp).since), .int .i64 ((lastOf ⟨0, 0, cl.asked⟩ pp).next)] 39, blk w2.heap.size [.int .i64 t] 3, blk bp3 [.pointer (some ⟨x1.bm, 0, none⟩)] 85, blk bl4 [sv] 32, blk x1.bm [.int .i64 rl.answer, .int .i64 rl.cooling, .int .i64 rl.settle, .int .i64 rl.reverse, .int .i64 cl.number, .int .i64 cl.frm, .int .i64 cl.to, .int .i64 cl.holder, .int .i64 cl.asked, .bool cl.backed, .map (some x1.dm), .map (some x1.em), vd] 95, mapE x1.dm duesKV, mapE x1.em effAll, own vd 3 1 (vo.map fun i => [.int .i64 i]), join [blk w3.heap.size [.int .i64 0, .int .i64 0, .int .i64 0] 39, blk w1.heap.size [.int .i64 cl.number, .int .i64 cl.frm, .int .i64 cl.to, .int .i64 cl.holder, .int .i64 cl.asked, .bool cl.backed] 31, blk w0.heap.size [.int .i64 rl.answer, .int .i64 rl.cooling, .int .i64 rl.settle, .int .i64 rl.reverse] 29]] w17 := hst
    have hst : St No w0 [obj D (.deferred (some [])), blk w6.heap.size [.int .i64 ((lastOf ⟨0, 0, cl.asked⟩ pp).state), .int .i64 ((lastOf ⟨0, 0, cl.asked⟩ pp).since), .int .i64 ((lastOf ⟨0, 0, cl.asked⟩ pp).next)] 39, blk w2.heap.size [.int .i64 t] 3, blk bp3 [.pointer (some ⟨x1.bm, 0, none⟩)] 85, blk bl4 [sv] 32, blk x1.bm [.int .i64 rl.answer, .int .i64 rl.cooling, .int .i64 rl.settle, .int .i64 rl.reverse, .int .i64 cl.number, .int .i64 cl.frm, .int .i64 cl.to, .int .i64 cl.holder, .int .i64 cl.asked, .bool cl.backed, .map (some x1.dm), .map (some x1.em), vd] 95, mapE x1.dm duesKV, mapE x1.em effAll, own vd 3 1 (vo.map fun i => [.int .i64 i]), blk w3.heap.size [.int .i64 0, .int .i64 0, .int .i64 0] 39, blk w1.heap.size [.int .i64 cl.number, .int .i64 cl.frm, .int .i64 cl.to, .int .i64 cl.holder, .int .i64 cl.asked, .bool cl.backed] 31, blk w0.heap.size [.int .i64 rl.answer, .int .i64 rl.cooling, .int .i64 rl.settle, .int .i64 rl.reverse] 29] w17 := St.unjoinTail [obj D (.deferred (some [])), blk w6.heap.size [.int .i64 ((lastOf ⟨0, 0, cl.asked⟩ pp).state), .int .i64 ((lastOf ⟨0, 0, cl.asked⟩ pp).since), .int .i64 ((lastOf ⟨0, 0, cl.asked⟩ pp).next)] 39, blk w2.heap.size [.int .i64 t] 3, blk bp3 [.pointer (some ⟨x1.bm, 0, none⟩)] 85, blk bl4 [sv] 32, blk x1.bm [.int .i64 rl.answer, .int .i64 rl.cooling, .int .i64 rl.settle, .int .i64 rl.reverse, .int .i64 cl.number, .int .i64 cl.frm, .int .i64 cl.to, .int .i64 cl.holder, .int .i64 cl.asked, .bool cl.backed, .map (some x1.dm), .map (some x1.em), vd] 95, mapE x1.dm duesKV, mapE x1.em effAll, own vd 3 1 (vo.map fun i => [.int .i64 i])] [blk w3.heap.size [.int .i64 0, .int .i64 0, .int .i64 0] 39, blk w1.heap.size [.int .i64 cl.number, .int .i64 cl.frm, .int .i64 cl.to, .int .i64 cl.holder, .int .i64 cl.asked, .bool cl.backed] 31, blk w0.heap.size [.int .i64 rl.answer, .int .i64 rl.cooling, .int .i64 rl.settle, .int .i64 rl.reverse] 29] hst
    refine wc_exit ?_
    refine hK6 _ _ ?_
    refine wc_seq_region fun K11 hK11 => ?_
    refine wl_v hfr (by decide) (v_load_all (hst.get (k := 1) rfl) rfl (Try.isAgg39 _) (Try.sizeOf39 _)) fun a hfr => ?_
    refine wl_store 9 hfr hst rfl rfl rfl (Try.sizeOf39 _) rfl (Nat.le_of_ble_eq_true rfl) (ds := [.int .i64 ((lastOf ⟨0, 0, cl.asked⟩ pp).state), .int .i64 ((lastOf ⟨0, 0, cl.asked⟩ pp).since), .int .i64 ((lastOf ⟨0, 0, cl.asked⟩ pp).next)]) rfl rfl fun a w18 hfr hst => ?_
    refine wl_v hfr (by decide) (v_assign rfl) fun a hfr => ?_
    refine wl_nil (hK11 _ _ ?_)
    refine wc_ret ?_
    have hD := hst.get (k := 0) rfl
    have hst := hst.unmark (i := 0) (o' := .deferred none) rfl
    have hst : St No w0 [blk w6.heap.size [.int .i64 ((lastOf ⟨0, 0, cl.asked⟩ pp).state), .int .i64 ((lastOf ⟨0, 0, cl.asked⟩ pp).since), .int .i64 ((lastOf ⟨0, 0, cl.asked⟩ pp).next)] 39, blk w2.heap.size [.int .i64 t] 3, blk bp3 [.pointer (some ⟨x1.bm, 0, none⟩)] 85, blk bl4 [sv] 32, blk x1.bm [.int .i64 rl.answer, .int .i64 rl.cooling, .int .i64 rl.settle, .int .i64 rl.reverse, .int .i64 cl.number, .int .i64 cl.frm, .int .i64 cl.to, .int .i64 cl.holder, .int .i64 cl.asked, .bool cl.backed, .map (some x1.dm), .map (some x1.em), vd] 95, mapE x1.dm duesKV, mapE x1.em effAll, own vd 3 1 (vo.map fun i => [.int .i64 i]), blk w3.heap.size [.int .i64 ((lastOf ⟨0, 0, cl.asked⟩ pp).state), .int .i64 ((lastOf ⟨0, 0, cl.asked⟩ pp).since), .int .i64 ((lastOf ⟨0, 0, cl.asked⟩ pp).next)] 39, blk w1.heap.size [.int .i64 cl.number, .int .i64 cl.frm, .int .i64 cl.to, .int .i64 cl.holder, .int .i64 cl.asked, .bool cl.backed] 31, blk w0.heap.size [.int .i64 rl.answer, .int .i64 rl.cooling, .int .i64 rl.settle, .int .i64 rl.reverse] 29] _ := hst
    refine fin_ret1 hfr hD Try.results14 (resAre_cell rfl (res_all (hst.get (k := 8) rfl) (Try.isAgg39 _) (Try.sizeOf39 _)) (resAre_tmp rfl resAre_nil)) ?_
    exact ⟨by simp only [retv]; rw [outcome_stop (by rw [hrest, hpp]) hle hxx]; rfl, hst.ext⟩

/-- dialtone/claim.Outcome -/
theorem outcome_no (rl : Rul) (cl : Clm) (sv : Value) (l : List Evt) (t : Int) (w0 : World) (hsv : SlAt w0 sv 3 (l.map Evt.cells)) (hv : valid rl cl l = true) (hin : isIn t 0 20000000 = false) :
    Ret Try.prog 14 #[.agg #[.int .i64 rl.answer, .int .i64 rl.cooling, .int .i64 rl.settle, .int .i64 rl.reverse], .agg #[.int .i64 cl.number, .int .i64 cl.frm, .int .i64 cl.to, .int .i64 cl.holder, .int .i64 cl.asked, .bool cl.backed], sv, .int .i64 t] w0 fun v w => v = .tuple #[.agg #[.int .i64 0, .int .i64 0, .int .i64 0], .int .i64 160] ∧ Ext No w0 w := by
  refine ret_of Try.func14 rfl Try.ntmps14 (Nat.le_of_ble_eq_true rfl) fun a hfr => ?_
  have hfr : Fr 42 [(0, _), (1, _), (2, _), (3, _)] [] a := hfr
  have hst : St No w0 [] w0 := St.init w0
  refine wc_seq_region fun K1 hK1 => ?_
  refine wl_box hfr hst (by decide) rfl (cs := [.int .i64 rl.answer, .int .i64 rl.cooling, .int .i64 rl.settle, .int .i64 rl.reverse]) rfl fun a w1 hfr hst => ?_
  refine wl_box hfr hst (by decide) rfl (cs := [.int .i64 cl.number, .int .i64 cl.frm, .int .i64 cl.to, .int .i64 cl.holder, .int .i64 cl.asked, .bool cl.backed]) rfl fun a w2 hfr hst => ?_
  refine wl_box hfr hst (by decide) rfl (cs := [.int .i64 t]) rfl fun a w3 hfr hst => ?_
  refine wl_alloc hfr hst (by decide) (Try.zeroValue39 _) (cs := [.int .i64 0, .int .i64 0, .int .i64 0]) rfl fun a w4 hfr hst => ?_
  refine wl_v hfr (by decide) (v_assign rfl) fun a hfr => ?_
  refine wl_nil (hK1 _ _ ?_)
  refine wc_seq_region fun K2 hK2 => ?_
  refine wl_v hfr (by decide) (v_load_all (hst.get (k := 3) rfl) rfl (Try.isAgg29 _) (Try.sizeOf29 _)) fun a hfr => ?_
  refine wl_v hfr (by decide) (v_load_all (hst.get (k := 2) rfl) rfl (Try.isAgg31 _) (Try.sizeOf31 _)) fun a hfr => ?_
  refine wl_v hfr (by decide) (v_move rfl) fun a hfr => ?_
  refine wl_callm hfr hst (by decide) Try.call39 rfl (open_ok rl cl sv l _ (hst.arg hsv) hv) fun a w5 x2 hp hfr hst => ?_
  revert x2 hp hfr hst; rintro x1 hp hfr hst
  clear hp
  have hst : St No w0 [blk x1.bm [.int .i64 rl.answer, .int .i64 rl.cooling, .int .i64 rl.settle, .int .i64 rl.reverse, .int .i64 cl.number, .int .i64 cl.frm, .int .i64 cl.to, .int .i64 cl.holder, .int .i64 cl.asked, .bool cl.backed, .map (some x1.dm), .map (some x1.em), .slice none 0 0] 95, mapE x1.dm duesKV, mapE x1.em effAll, blk w3.heap.size [.int .i64 0, .int .i64 0, .int .i64 0] 39, blk w2.heap.size [.int .i64 t] 3, blk w1.heap.size [.int .i64 cl.number, .int .i64 cl.frm, .int .i64 cl.to, .int .i64 cl.holder, .int .i64 cl.asked, .bool cl.backed] 31, blk w0.heap.size [.int .i64 rl.answer, .int .i64 rl.cooling, .int .i64 rl.settle, .int .i64 rl.reverse] 29] w5 := hst
  refine wl_v hfr (by decide) (v_move rfl) fun a hfr => ?_
  refine wl_v hfr (by decide) (v_extract rfl rfl) fun a hfr => ?_
  refine wl_v hfr (by decide) (v_extract rfl rfl) fun a hfr => ?_
  refine wl_v hfr (by decide) (v_assign rfl) fun a hfr => ?_
  refine wl_v hfr (by decide) (v_assign rfl) fun a hfr => ?_
  refine wl_nil (hK2 _ _ ?_)
  have hfr : Fr 42 [(0, _), (1, _), (2, _), (3, _), (4, _), (5, _), (7, _), (8, _), (9, _), (10, _), (11, _)] [] a := hfr.pick [0, 1, 2, 3, 4, 5, 7, 8, 9, 10, 11]
  refine wc_seq_k fun K3 hK3 => ?_
  refine wc_seq_region fun K4 hK4 => ?_
  refine wl_v hfr (by decide) (v_move rfl) fun a hfr => ?_
  refine wl_v hfr (by decide) ((v_ne rfl rfl).asb (b' := false) rfl) fun a hfr => ?_
  refine wl_v hfr (by decide) (v_move rfl) fun a hfr => ?_
  refine wl_vy hfr (by decide) rfl (by decide) rfl (v_load_blk1 (hst.get (k := 4) rfl) rfl (Try.isAgg3 _) rfl) fun a hfr => ?_
  refine wl_callpy hfr hst (by decide) rfl (by decide) rfl Try.call40 rfl ((hin ▸ isIn_ok _ _ _ _)) fun a w6 hfr hst => ?_
  refine wl_vy hfr (by decide) rfl (by decide) rfl ((v_not rfl).asb (b' := true) rfl) fun a hfr => ?_
  refine wl_v hfr (by decide) (v_pick_f rfl rfl) fun a hfr => ?_
  refine wl_nil (hK4 _ _ ?_)
  have hfr : Fr 42 [(0, _), (1, _), (2, _), (3, _), (4, _), (5, _), (7, _), (8, _), (9, _), (10, _), (11, _), (27, _)] [] a := hfr.pick [0, 1, 2, 3, 4, 5, 7, 8, 9, 10, 11, 27]
  refine wc_cond_t hfr rfl ?_
  refine wc_seq_region fun K5 hK5 => ?_
  refine wl_v hfr (by decide) (v_build (v := .agg #[.int .i64 0, .int .i64 0, .int .i64 0]) rfl (by kernel_rfl)) fun a hfr => ?_
  refine wl_store 3 hfr hst rfl rfl rfl (Try.sizeOf39 _) rfl (Nat.le_of_ble_eq_true rfl) (ds := [.int .i64 0, .int .i64 0, .int .i64 0]) rfl rfl fun a w7 hfr hst => ?_
  refine wl_v hfr (by decide) (v_assign rfl) fun a hfr => ?_
  refine wl_nil (hK5 _ _ ?_)
  refine wc_ret ?_
  refine fin_ret hfr Try.results14 (resAre_cell rfl (res_all (hst.get (k := 3) rfl) (Try.isAgg39 _) (Try.sizeOf39 _)) (resAre_tmp rfl resAre_nil)) ?_
  exact ⟨rfl, hst.ext⟩
end Go.Proofs.Ytdamipejlfipcaa
