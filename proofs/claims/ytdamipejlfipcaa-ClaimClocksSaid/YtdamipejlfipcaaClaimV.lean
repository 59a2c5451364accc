import Derived.Test.YtdamipejlfipcaaClaimH
import Derived.Test.YtdamipejlfipcaaClaimU
import Derived.Test.YtdamipejlfipcaaSeg
namespace Go.Proofs.Ytdamipejlfipcaa
open Go.RowKit Go.PW
set_option linter.unusedVariables false
set_option linter.unusedSimpArgs false
set_option maxRecDepth 4000

def exR : Rul := ⟨100, 50, 200, 300⟩
def exC : Clm := ⟨55, 1, 2, 9, 1000, false⟩
theorem ret_lit {f : FuncId} {args : Array Value} {w : World} {x y : Value} (h : Ret Try.prog f args w fun v w' => v = x ∧ Ext No w w') (e : x = y) : Ret Try.prog f args w fun v w' => v = y ∧ Ext No w w' := e ▸ h
theorem memr_lit {X : Type} {f : FuncId} {args : Array Value} {w : World} {g : X → Value} {E E' : X → List Ent} {Pr : X → Prop} (h : Ret Try.prog f args w (MemR w g E Pr)) (e : E = E') : Ret Try.prog f args w (MemR w g E' Pr) := e ▸ h

/-- dialtone/dialtonelaw16.rules -/
theorem exRules_ok (w0 : World) :
    Ret Try.prog 31 #[] w0 fun v w => v = .agg #[.int .i64 100, .int .i64 50, .int .i64 200, .int .i64 300] ∧ Ext No w0 w := by
  refine ret_of Try.func31 rfl Try.ntmps31 (Nat.le_of_ble_eq_true rfl) fun a hfr => ?_
  replace hfr : Fr 2 [] [] a := hfr
  replace hst : St No w0 [] w0 := St.init w0
  refine wc_seq_region fun K1 hK1 => ?_
  refine wl_alloc hfr hst (by decide) (Try.zeroValue29 _) (cs := [.int .i64 0, .int .i64 0, .int .i64 0, .int .i64 0]) rfl ?_
  clear hfr hst
  intro a w1 hfr hst
  refine wl_nil (hK1 _ _ ?_)
  refine wc_seq_region fun K2 hK2 => ?_
  refine wl_v hfr (by decide) (v_build (v := .agg #[.int .i64 100, .int .i64 50, .int .i64 200, .int .i64 300]) rfl (by kernel_rfl)) ?_
  clear hfr
  intro a hfr
  refine wl_store 0 hfr hst rfl rfl rfl (Try.sizeOf29 _) rfl (Nat.le_of_ble_eq_true rfl) (ds := [.int .i64 100, .int .i64 50, .int .i64 200, .int .i64 300]) rfl rfl ?_
  clear hfr hst
  intro a w2 hfr hst
  refine wl_nil (hK2 _ _ ?_)
  refine wc_ret ?_
  refine fin_ret hfr Try.results31 (resAre_cell rfl (res_all (hst.get (k := 0) rfl) (Try.isAgg29 _) (Try.sizeOf29 _)) resAre_nil) ?_
  exact ⟨by rfl, hst.ext⟩

/-- dialtone/dialtonelaw16.example -/
theorem exClaim_ok (w0 : World) :
    Ret Try.prog 30 #[] w0 fun v w => v = .agg #[.int .i64 55, .int .i64 1, .int .i64 2, .int .i64 9, .int .i64 1000, .bool false] ∧ Ext No w0 w := by
  refine ret_of Try.func30 rfl Try.ntmps30 (Nat.le_of_ble_eq_true rfl) fun a hfr => ?_
  replace hfr : Fr 2 [] [] a := hfr
  replace hst : St No w0 [] w0 := St.init w0
  refine wc_seq_region fun K1 hK1 => ?_
  refine wl_alloc hfr hst (by decide) (Try.zeroValue31 _) (cs := [.int .i64 0, .int .i64 0, .int .i64 0, .int .i64 0, .int .i64 0, .bool false]) rfl ?_
  clear hfr hst
  intro a w1 hfr hst
  refine wl_nil (hK1 _ _ ?_)
  refine wc_seq_region fun K2 hK2 => ?_
  refine wl_v hfr (by decide) (v_build (v := .agg #[.int .i64 55, .int .i64 1, .int .i64 2, .int .i64 9, .int .i64 1000, .bool false]) rfl (by kernel_rfl)) ?_
  clear hfr
  intro a hfr
  refine wl_store 0 hfr hst rfl rfl rfl (Try.sizeOf31 _) rfl (Nat.le_of_ble_eq_true rfl) (ds := [.int .i64 55, .int .i64 1, .int .i64 2, .int .i64 9, .int .i64 1000, .bool false]) rfl rfl ?_
  clear hfr hst
  intro a w2 hfr hst
  refine wl_nil (hK2 _ _ ?_)
  refine wc_ret ?_
  refine fin_ret hfr Try.results30 (resAre_cell rfl (res_all (hst.get (k := 0) rfl) (Try.isAgg31 _) (Try.sizeOf31 _)) resAre_nil) ?_
  exact ⟨by rfl, hst.ext⟩

/-- dialtone/dialtonelaw16.closed -/
theorem closed_ok (s : Stt) (w0 : World) :
    Ret Try.prog 16 #[.agg #[.int .i64 s.state, .int .i64 s.since, .int .i64 s.next]] w0 fun v w => v = .bool (decide (5 ≤ s.state) && decide (s.next = -1)) ∧ Ext No w0 w := by
  refine ret_of Try.func16 rfl Try.ntmps16 (Nat.le_of_ble_eq_true rfl) fun a hfr => ?_
  replace hfr : Fr 11 [(0, _)] [] a := hfr
  replace hst : St No w0 [] w0 := St.init w0
  refine wc_seq_region fun K1 hK1 => ?_
  refine wl_box hfr hst (by decide) rfl (cs := [.int .i64 s.state, .int .i64 s.since, .int .i64 s.next]) rfl ?_
  clear hfr hst
  intro a w1 hfr hst
  refine wl_v hfr (by decide) (v_assign rfl) ?_
  clear hfr
  intro a hfr
  refine wl_nil (hK1 _ _ ?_)
  refine wc_seq_region fun K2 hK2 => ?_
  refine wl_v hfr (by decide) (v_fieldAddr (v := .pointer (some ⟨w0.heap.size, 0, none⟩)) rfl (by kernel_rfl)) ?_
  clear hfr
  intro a hfr
  refine wl_v hfr (by decide) (v_load_blk1 (hst.get (k := 0) rfl) rfl (Try.isAgg3 _) rfl) ?_
  clear hfr
  intro a hfr
  refine wl_v hfr (by decide) (v_ge rfl rfl) ?_
  clear hfr
  intro a hfr
  refine wl_v hfr (by decide) (v_move rfl) ?_
  clear hfr
  intro a hfr
  refine wl_join (N := 11) (df := []) 4 [(10, .bool ((decide (5 ≤ s.state)) && (decide (s.next = -1)))), (0, .agg #[.int .i64 s.state, .int .i64 s.since, .int .i64 s.next]), (1, .pointer (some ⟨w0.heap.size, 0, none⟩)), (2, .bool false)] ?_ (fun hj => ?_)
  rotate_left
  · rcases Bool.eq_false_or_eq_true (decide (5 ≤ s.state)) with hb1 | hb1
    · rw [hb1] at hfr
      have hb1b := hb1
      try simp only [Bool.not_eq_true', Bool.not_eq_false', decide_eq_true_eq, decide_eq_false_iff_not, Bool.and_eq_true, Bool.or_eq_true, Bool.and_eq_false_iff, Bool.or_eq_false_iff] at hb1
      refine wl_vy hfr (by decide) rfl (by decide) rfl (v_fieldAddr (v := .pointer (some ⟨w0.heap.size, 2, none⟩)) rfl (by kernel_rfl)) ?_
      clear hfr
      intro a hfr
      refine wl_vy hfr (by decide) rfl (by decide) rfl (v_load_blk1 (hst.get (k := 0) rfl) rfl (Try.isAgg3 _) rfl) ?_
      clear hfr
      intro a hfr
      refine wl_vy hfr (by decide) rfl (by decide) rfl (v_eq rfl rfl) ?_
      clear hfr
      intro a hfr
      refine wl_v hfr (by decide) (v_pick_t rfl rfl) ?_
      clear hfr
      intro a hfr
      refine hj _ ?_
      rw [hb1b]
      exact hfr.pick [10, 0, 1, 2]
    rw [hb1] at hfr
    have hb1b := hb1
    try simp only [Bool.not_eq_true', Bool.not_eq_false', decide_eq_true_eq, decide_eq_false_iff_not, Bool.and_eq_true, Bool.or_eq_true, Bool.and_eq_false_iff, Bool.or_eq_false_iff] at hb1
    refine wl_vn hfr (by decide) rfl (by decide) rfl rfl ?_
    clear hfr
    intro a hfr
    refine wl_vn hfr (by decide) rfl (by decide) rfl rfl ?_
    clear hfr
    intro a hfr
    refine wl_vn hfr (by decide) rfl (by decide) rfl rfl ?_
    clear hfr
    intro a hfr
    refine wl_v hfr (by decide) (v_pick_f rfl rfl) ?_
    clear hfr
    intro a hfr
    refine hj _ ?_
    rw [hb1b]
    exact hfr.pick [10, 0, 1, 2]
  intro a hfr
  refine wl_v hfr (by decide) (v_assign rfl) ?_
  clear hfr
  intro a hfr
  refine wl_nil (hK2 _ _ ?_)
  refine wc_ret ?_
  refine fin_ret hfr Try.results16 (resAre_tmp rfl resAre_nil) ?_
  exact ⟨by rfl, hst.ext⟩

/-- dialtone/dialtonelaw16.is -/
theorem is_ok (sv : Value) (l : List Evt) (t st si nx : Int) (w0 : World) (hsv : SlAt w0 sv 3 (l.map Evt.cells)) (hv : valid exR exC l = true) (hin : isIn t 0 20000000 = true) :
    Ret Try.prog 32 #[sv, .int .i64 t, .int .i64 st, .int .i64 si, .int .i64 nx] w0 fun v w => v = .bool (decide ((outcome exR exC l t).state = st) && decide ((outcome exR exC l t).since = si) && decide ((outcome exR exC l t).next = nx)) ∧ Ext No w0 w := by
  refine ret_of Try.func32 rfl Try.ntmps32 (Nat.le_of_ble_eq_true rfl) fun a hfr => ?_
  replace hfr : Fr 31 [(0, _), (1, _), (2, _), (3, _), (4, _)] [] a := hfr
  replace hst : St No w0 [] w0 := St.init w0
  refine wc_seq_region fun K1 hK1 => ?_
  refine wl_v hfr (by decide) (v_assign rfl) ?_
  clear hfr
  intro a hfr
  refine wl_nil (hK1 _ _ ?_)
  refine wc_seq_region fun K2 hK2 => ?_
  refine wl_callp hfr hst (by decide) Try.call31 rfl (exRules_ok _) ?_
  clear hfr hst
  intro a w1 hfr hst
  refine wl_callp hfr hst (by decide) Try.call30 rfl (exClaim_ok _) ?_
  clear hfr hst
  intro a w2 hfr hst
  refine wl_v hfr (by decide) (v_move rfl) ?_
  clear hfr
  intro a hfr
  refine wl_v hfr (by decide) (v_move rfl) ?_
  clear hfr
  intro a hfr
  refine wl_callp hfr hst (by decide) Try.call14 rfl (outcome_ok exR exC sv l t _ (hst.arg hsv) hv hin) ?_
  clear hfr hst
  intro a w3 hfr hst
  refine wl_v hfr (by decide) (v_move rfl) ?_
  clear hfr
  intro a hfr
  refine wl_v hfr (by decide) (v_extract rfl rfl) ?_
  clear hfr
  intro a hfr
  refine wl_v hfr (by decide) (v_extract rfl rfl) ?_
  clear hfr
  intro a hfr
  refine wl_alloc hfr hst (by decide) (Try.zeroValue39 _) (cs := [.int .i64 0, .int .i64 0, .int .i64 0]) rfl ?_
  clear hfr hst
  intro a w4 hfr hst
  refine wl_store 0 hfr hst rfl rfl rfl (Try.sizeOf39 _) rfl (Nat.le_of_ble_eq_true rfl) (ds := [.int .i64 ((outcome exR exC l t).state), .int .i64 ((outcome exR exC l t).since), .int .i64 ((outcome exR exC l t).next)]) rfl rfl ?_
  clear hfr hst
  intro a w5 hfr hst
  refine wl_v hfr (by decide) (v_assign rfl) ?_
  clear hfr
  intro a hfr
  refine wl_nil (hK2 _ _ ?_)
  replace hfr : Fr 31 [(2, _), (3, _), (4, _), (10, _), (11, _), (12, _)] [] a := hfr.pick [2, 3, 4, 10, 11, 12]
  refine wc_seq_region fun K3 hK3 => ?_
  refine wl_v hfr (by decide) (v_move rfl) ?_
  clear hfr
  intro a hfr
  refine wl_v hfr (by decide) ((v_eq rfl rfl).asb (b' := true) rfl) ?_
  clear hfr
  intro a hfr
  refine wl_v hfr (by decide) (v_move rfl) ?_
  clear hfr
  intro a hfr
  refine wl_vy hfr (by decide) rfl (by decide) rfl (v_load_all (hst.get (k := 0) rfl) rfl (Try.isAgg39 _) (Try.sizeOf39 _)) ?_
  clear hfr
  intro a hfr
  refine wl_vy hfr (by decide) rfl (by decide) rfl (v_move rfl) ?_
  clear hfr
  intro a hfr
  refine wl_vy hfr (by decide) rfl (by decide) rfl (v_move rfl) ?_
  clear hfr
  intro a hfr
  refine wl_vy hfr (by decide) rfl (by decide) rfl (v_move rfl) ?_
  clear hfr
  intro a hfr
  refine wl_vy hfr (by decide) rfl (by decide) rfl (v_build (v := .agg #[.int .i64 st, .int .i64 si, .int .i64 nx]) rfl (by kernel_rfl)) ?_
  clear hfr
  intro a hfr
  refine wl_vy hfr (by decide) rfl (by decide) rfl (v_eq_agg rfl rfl (by kernel_rfl) (eqStt ((outcome exR exC l t).state) ((outcome exR exC l t).since) ((outcome exR exC l t).next) st si nx _)) ?_
  clear hfr
  intro a hfr
  refine wl_v hfr (by decide) (v_pick_t rfl rfl) ?_
  clear hfr
  intro a hfr
  refine wl_v hfr (by decide) (v_assign rfl) ?_
  clear hfr
  intro a hfr
  refine wl_nil (hK3 _ _ ?_)
  replace hfr : Fr 31 [(10, _)] [] a := hfr.pick [10]
  replace hst : St No w0 [] w5 := hst.mask [false]
  refine wc_ret ?_
  refine fin_ret hfr Try.results32 (resAre_tmp rfl resAre_nil) ?_
  exact ⟨by rfl, hst.ext⟩

set_option maxHeartbeats 4000000 in
/-- dialtone/dialtonelaw16.sane -/
theorem sane_ok (w0 : World) :
    Ret Try.prog 11 #[] w0 fun v w => v = .bool true ∧ Ext No w0 w := by
  refine ret_of Try.func11 rfl Try.ntmps11 (Nat.le_of_ble_eq_true rfl) fun a hfr => ?_
  replace hfr : Fr 205 [] [] a := hfr
  replace hst : St No w0 [] w0 := St.init w0
  refine wc_seq_region fun K1 hK1 => ?_
  refine wl_v hfr (by decide) (v_assign rfl) ?_
  clear hfr
  intro a hfr
  refine wl_nil (hK1 _ _ ?_)
  refine wc_seq_region fun K2 hK2 => ?_
  refine wl_callp hfr hst (by decide) Try.call30 rfl (exClaim_ok _) ?_
  clear hfr hst
  intro a w1 hfr hst
  refine wl_alloc hfr hst (by decide) (Try.zeroValue31 _) (cs := [.int .i64 0, .int .i64 0, .int .i64 0, .int .i64 0, .int .i64 0, .bool false]) rfl ?_
  clear hfr hst
  intro a w2 hfr hst
  refine wl_store 0 hfr hst rfl rfl rfl (Try.sizeOf31 _) rfl (Nat.le_of_ble_eq_true rfl) (ds := [.int .i64 55, .int .i64 1, .int .i64 2, .int .i64 9, .int .i64 1000, .bool false]) rfl rfl ?_
  clear hfr hst
  intro a w3 hfr hst
  refine wl_nil (hK2 _ _ ?_)
  refine wc_seq_region fun K3 hK3 => ?_
  refine wl_v hfr (by decide) (v_build (v := .agg #[.int .i64 2, .int .i64 1099, .int .i64 3]) rfl (by kernel_rfl)) ?_
  clear hfr
  intro a hfr
  refine wl_buildSlice (E := 45) (sz := 3) rfl [[.int .i64 2, .int .i64 1099, .int .i64 3]] (by kernel_rfl) (by simp) rfl (by decide) (by decide) hfr hst ?_
  clear hfr hst
  intro a w4 hfr hst
  refine wl_v hfr (by decide) (v_assign rfl) ?_
  clear hfr
  intro a hfr
  refine wl_nil (hK3 _ _ ?_)
  refine wc_seq_region fun K4 hK4 => ?_
  refine wl_v hfr (by decide) (v_build (v := .agg #[.int .i64 2, .int .i64 1050, .int .i64 1]) rfl (by kernel_rfl)) ?_
  clear hfr
  intro a hfr
  refine wl_buildSlice (E := 45) (sz := 3) rfl [[.int .i64 2, .int .i64 1050, .int .i64 1]] (by kernel_rfl) (by simp) rfl (by decide) (by decide) hfr hst ?_
  clear hfr hst
  intro a w5 hfr hst
  refine wl_v hfr (by decide) (v_assign rfl) ?_
  clear hfr
  intro a hfr
  refine wl_nil (hK4 _ _ ?_)
  refine wc_seq_region fun K5 hK5 => ?_
  refine wl_v hfr (by decide) (v_build (v := .agg #[.int .i64 2, .int .i64 1100, .int .i64 1]) rfl (by kernel_rfl)) ?_
  clear hfr
  intro a hfr
  refine wl_buildSlice (E := 45) (sz := 3) rfl [[.int .i64 2, .int .i64 1100, .int .i64 1]] (by kernel_rfl) (by simp) rfl (by decide) (by decide) hfr hst ?_
  clear hfr hst
  intro a w6 hfr hst
  refine wl_v hfr (by decide) (v_assign rfl) ?_
  clear hfr
  intro a hfr
  refine wl_nil (hK5 _ _ ?_)
  replace hfr : Fr 205 [(0, _), (1, _), (2, _), (3, _), (4, _)] [] a := hfr.pick [0, 1, 2, 3, 4]
  refine wc_seq_region fun K6 hK6 => ?_
  refine wl_v hfr (by decide) (v_build (v := .agg #[.int .i64 2, .int .i64 1050, .int .i64 3]) rfl (by kernel_rfl)) ?_
  clear hfr
  intro a hfr
  refine wl_v hfr (by decide) (v_build (v := .agg #[.int .i64 3, .int .i64 1050, .int .i64 0]) rfl (by kernel_rfl)) ?_
  clear hfr
  intro a hfr
  refine wl_v hfr (by decide) (v_build (v := .agg #[.int .i64 5, .int .i64 1099, .int .i64 0]) rfl (by kernel_rfl)) ?_
  clear hfr
  intro a hfr
  refine wl_buildSlice (E := 45) (sz := 3) rfl [[.int .i64 2, .int .i64 1050, .int .i64 3], [.int .i64 3, .int .i64 1050, .int .i64 0], [.int .i64 5, .int .i64 1099, .int .i64 0]] (by kernel_rfl) (by simp) rfl (by decide) (by decide) hfr hst ?_
  clear hfr hst
  intro a w7 hfr hst
  refine wl_v hfr (by decide) (v_assign rfl) ?_
  clear hfr
  intro a hfr
  refine wl_nil (hK6 _ _ ?_)
  refine wc_seq_k fun K7 hK7 => ?_
  refine wc_of_dr (by kernel_rfl) (dr_of_wd (by kernel_rfl) fun w8 hxz => ?_)
  replace hst : St No w0 [own (.slice (some ⟨w6.heap.size, 0, none⟩) 3 3) 45 3 ([[.int .i64 2, .int .i64 1050, .int .i64 3], [.int .i64 3, .int .i64 1050, .int .i64 0], [.int .i64 5, .int .i64 1099, .int .i64 0]]), own (.slice (some ⟨w5.heap.size, 0, none⟩) 1 1) 45 3 ([[.int .i64 2, .int .i64 1100, .int .i64 1]]), own (.slice (some ⟨w4.heap.size, 0, none⟩) 1 1) 45 3 ([[.int .i64 2, .int .i64 1050, .int .i64 1]]), own (.slice (some ⟨w3.heap.size, 0, none⟩) 1 1) 45 3 ([[.int .i64 2, .int .i64 1099, .int .i64 3]]), blk w1.heap.size [.int .i64 55, .int .i64 1, .int .i64 2, .int .i64 9, .int .i64 1000, .bool false] 31] w8 := hst.grow hxz
  refine wd_sub (k := 0) 2 [0, 1] hfr (by kernel_rfl) (by kernel_rfl) (by kernel_rfl) (by rfl) ?_
  replace hfr : Fr 205 [(0, _), (1, _), (2, _), (3, _), (4, _), (32, _), (33, _), (34, _), (35, _), (5, _)] [] a := hfr.pick [0, 1, 2, 3, 4, 32, 33, 34, 35, 5]
  refine wc_phases' 2 [[], []] (fun i => match i with | 0 => pv (.agg #[.int .i64 100, .int .i64 50, .int .i64 200, .int .i64 300]) | 1 => pv (.agg #[.int .i64 55, .int .i64 1, .int .i64 2, .int .i64 9, .int .i64 1000, .bool false]) | _ => fun _ _ => False) hfr hst (by kernel_rfl) (by kernel_rfl) ?_ ?_
  · intro i hi
    match i, hi with
    | 0, _ =>
      intro w hst
      exact g_callp Try.call31 rfl (exRules_ok _)
    | 1, _ =>
      intro w hst
      exact OpV.g (v_load_all (hst.get (k := 4) rfl) rfl (Try.isAgg31 _) (Try.sizeOf31 _))
  clear hfr hst
  rintro _ _ ⟨rfl, rfl⟩ _ _ ⟨rfl, rfl⟩ a w9 hfr hst
  replace hfr : Fr 205 [(37, _), (38, _), (0, _), (1, _), (2, _), (3, _), (4, _), (32, _), (33, _), (34, _), (35, _), (5, _)] [] a := hfr
  replace hst : St No w0 [_, _, _, _, _] w9 := hst
  refine wl_nil ?_
  refine wd_lin (k := 2) 4 [3] (by kernel_rfl) (by kernel_rfl) (by kernel_rfl) ?_
  refine wl_callp hfr hst (by decide) Try.call13 rfl (ret_lit (y := .tuple #[.int .i64 1649, .int .i64 0]) (ends_ok exR exC _) (by kernel_rfl)) ?_
  clear hfr hst
  intro a w10 hfr hst
  refine wl_v hfr (by decide) (v_move rfl) ?_
  clear hfr
  intro a hfr
  refine wl_nil ?_
  refine wd_sub (k := 4) 7 [5, 6] hfr (by kernel_rfl) (by kernel_rfl) (by kernel_rfl) (by rfl) ?_
  replace hfr : Fr 205 [(0, _), (1, _), (2, _), (3, _), (4, _), (32, _), (33, _), (34, _), (35, _), (5, _), (37, _), (38, _), (39, _), (36, _)] [] a := hfr.pick [0, 1, 2, 3, 4, 32, 33, 34, 35, 5, 37, 38, 39, 36]
  refine wc_phases' 3 [[], [], [0]] (fun i => match i with | 0 => pv (.int .i64 1649) | 1 => pv (.int .i64 0) | 2 => pv (.int .i64 1649) | _ => fun _ _ => False) hfr hst (by kernel_rfl) (by kernel_rfl) ?_ ?_
  · intro i hi
    match i, hi with
    | 0, _ =>
      intro w hst
      exact OpV.g (v_extract rfl rfl)
    | 1, _ =>
      intro w hst
      exact OpV.g (v_extract rfl rfl)
    | 2, _ =>
      rintro _ _ ⟨rfl, rfl⟩
      intro w hst
      exact OpV.g (v_assign rfl)
  clear hfr hst
  rintro _ _ ⟨rfl, rfl⟩ _ _ ⟨rfl, rfl⟩ _ _ ⟨rfl, rfl⟩ a w11 hfr hst
  replace hfr : Fr 205 [(40, _), (41, _), (6, _), (0, _), (1, _), (2, _), (3, _), (4, _), (32, _), (33, _), (34, _), (35, _), (5, _), (37, _), (38, _), (39, _), (36, _)] [] a := hfr
  replace hst : St No w0 [_, _, _, _, _] w11 := hst
  refine wl_nil ?_
  refine wd_lin (k := 7) 8 [7] (by kernel_rfl) (by kernel_rfl) (by kernel_rfl) ?_
  refine wl_v hfr (by decide) (v_assign rfl) ?_
  clear hfr
  intro a hfr
  refine wl_nil ?_
  refine wd_end (by kernel_rfl) ?_
  refine hK7 _ _ ?_
  replace hfr : Fr 205 [(0, _), (1, _), (2, _), (3, _), (4, _), (5, _), (6, _), (7, _)] [] a := hfr.pick [0, 1, 2, 3, 4, 5, 6, 7]
  refine wc_seq_k fun K8 hK8 => ?_
  refine wc_of_dr (by kernel_rfl) (dr_of_wd (by kernel_rfl) fun w12 hxz => ?_)
  replace hst : St No w0 [own (.slice (some ⟨w6.heap.size, 0, none⟩) 3 3) 45 3 ([[.int .i64 2, .int .i64 1050, .int .i64 3], [.int .i64 3, .int .i64 1050, .int .i64 0], [.int .i64 5, .int .i64 1099, .int .i64 0]]), own (.slice (some ⟨w5.heap.size, 0, none⟩) 1 1) 45 3 ([[.int .i64 2, .int .i64 1100, .int .i64 1]]), own (.slice (some ⟨w4.heap.size, 0, none⟩) 1 1) 45 3 ([[.int .i64 2, .int .i64 1050, .int .i64 1]]), own (.slice (some ⟨w3.heap.size, 0, none⟩) 1 1) 45 3 ([[.int .i64 2, .int .i64 1099, .int .i64 3]]), blk w1.heap.size [.int .i64 55, .int .i64 1, .int .i64 2, .int .i64 9, .int .i64 1000, .bool false] 31] w12 := hst.grow hxz
  refine wd_sub (k := 0) 3 [0, 1, 2] hfr (by kernel_rfl) (by kernel_rfl) (by kernel_rfl) (by rfl) ?_
  replace hfr : Fr 205 [(0, _), (1, _), (2, _), (3, _), (4, _), (5, _), (6, _), (7, _)] [] a := hfr.pick [0, 1, 2, 3, 4, 5, 6, 7]
  refine wc_phases' 3 [[], [], []] (fun i => match i with | 0 => pv (.agg #[.int .i64 100, .int .i64 50, .int .i64 200, .int .i64 300]) | 1 => pv (.agg #[.int .i64 55, .int .i64 1, .int .i64 2, .int .i64 9, .int .i64 1000, .bool false]) | 2 => pv ((.slice (some ⟨w5.heap.size, 0, none⟩) 1 1)) | _ => fun _ _ => False) hfr hst (by kernel_rfl) (by kernel_rfl) ?_ ?_
  · intro i hi
    match i, hi with
    | 0, _ =>
      intro w hst
      exact g_callp Try.call31 rfl (exRules_ok _)
    | 1, _ =>
      intro w hst
      exact OpV.g (v_load_all (hst.get (k := 4) rfl) rfl (Try.isAgg31 _) (Try.sizeOf31 _))
    | 2, _ =>
      intro w hst
      exact OpV.g (v_move rfl)
  clear hfr hst
  rintro _ _ ⟨rfl, rfl⟩ _ _ ⟨rfl, rfl⟩ _ _ ⟨rfl, rfl⟩ a w13 hfr hst
  replace hfr : Fr 205 [(43, _), (44, _), (45, _), (0, _), (1, _), (2, _), (3, _), (4, _), (5, _), (6, _), (7, _)] [] a := hfr
  replace hst : St No w0 [_, _, _, _, _] w13 := hst
  refine wl_nil ?_
  refine wd_lin (k := 3) 5 [4] (by kernel_rfl) (by kernel_rfl) (by kernel_rfl) ?_
  refine wl_callm hfr hst (by decide) Try.call17 rfl (memr_lit (E' := fun v => [own v 3 1 [[.int .i64 0]]]) (void_ok exR exC (.slice (some ⟨w5.heap.size, 0, none⟩) 1 1) [⟨2, 1100, 1⟩] _ (hst.ownAt (i := 1) rfl) (by kernel_rfl)) (by kernel_rfl)) ?_
  clear hfr hst
  intro a w14 x2 hp hfr hst
  revert x2 hp hfr hst; rintro v1 hp hfr hst
  clear hp
  replace hst : St No w0 [own v1 3 1 ([[.int .i64 0]]), own (.slice (some ⟨w6.heap.size, 0, none⟩) 3 3) 45 3 ([[.int .i64 2, .int .i64 1050, .int .i64 3], [.int .i64 3, .int .i64 1050, .int .i64 0], [.int .i64 5, .int .i64 1099, .int .i64 0]]), own (.slice (some ⟨w5.heap.size, 0, none⟩) 1 1) 45 3 ([[.int .i64 2, .int .i64 1100, .int .i64 1]]), own (.slice (some ⟨w4.heap.size, 0, none⟩) 1 1) 45 3 ([[.int .i64 2, .int .i64 1050, .int .i64 1]]), own (.slice (some ⟨w3.heap.size, 0, none⟩) 1 1) 45 3 ([[.int .i64 2, .int .i64 1099, .int .i64 3]]), blk w1.heap.size [.int .i64 55, .int .i64 1, .int .i64 2, .int .i64 9, .int .i64 1000, .bool false] 31] w14 := hst
  refine wl_v hfr (by decide) (v_move rfl) ?_
  clear hfr
  intro a hfr
  refine wl_nil ?_
  refine wd_sub (k := 5) 8 [6, 7] hfr (by kernel_rfl) (by kernel_rfl) (by kernel_rfl) (by rfl) ?_
  replace hfr : Fr 205 [(0, _), (1, _), (2, _), (3, _), (4, _), (5, _), (6, _), (7, _), (43, _), (44, _), (45, _), (46, _), (42, _)] [] a := hfr.pick [0, 1, 2, 3, 4, 5, 6, 7, 43, 44, 45, 46, 42]
  refine wc_phases' 3 [[], [], [0]] (fun i => match i with | 0 => pv (v1) | 1 => pv (.int .i64 0) | 2 => pv (v1) | _ => fun _ _ => False) hfr hst (by kernel_rfl) (by kernel_rfl) ?_ ?_
  · intro i hi
    match i, hi with
    | 0, _ =>
      intro w hst
      exact OpV.g (v_extract rfl rfl)
    | 1, _ =>
      intro w hst
      exact OpV.g (v_extract rfl rfl)
    | 2, _ =>
      rintro _ _ ⟨rfl, rfl⟩
      intro w hst
      exact OpV.g (v_assign rfl)
  clear hfr hst
  rintro _ _ ⟨rfl, rfl⟩ _ _ ⟨rfl, rfl⟩ _ _ ⟨rfl, rfl⟩ a w15 hfr hst
  replace hfr : Fr 205 [(47, _), (48, _), (8, _), (0, _), (1, _), (2, _), (3, _), (4, _), (5, _), (6, _), (7, _), (43, _), (44, _), (45, _), (46, _), (42, _)] [] a := hfr
  replace hst : St No w0 [_, _, _, _, _, _] w15 := hst
  refine wl_nil ?_
  refine wd_lin (k := 8) 9 [8] (by kernel_rfl) (by kernel_rfl) (by kernel_rfl) ?_
  refine wl_v hfr (by decide) (v_assign rfl) ?_
  clear hfr
  intro a hfr
  refine wl_nil ?_
  refine wd_end (by kernel_rfl) ?_
  refine hK8 _ _ ?_
  replace hfr : Fr 205 [(0, _), (1, _), (2, _), (3, _), (4, _), (5, _), (6, _), (7, _), (8, _), (9, _)] [] a := hfr.pick [0, 1, 2, 3, 4, 5, 6, 7, 8, 9]
  refine wc_seq_k fun K9 hK9 => ?_
  refine wc_of_dr (by kernel_rfl) (dr_of_wd (by kernel_rfl) fun w16 hxz => ?_)
  replace hst : St No w0 [own v1 3 1 ([[.int .i64 0]]), own (.slice (some ⟨w6.heap.size, 0, none⟩) 3 3) 45 3 ([[.int .i64 2, .int .i64 1050, .int .i64 3], [.int .i64 3, .int .i64 1050, .int .i64 0], [.int .i64 5, .int .i64 1099, .int .i64 0]]), own (.slice (some ⟨w5.heap.size, 0, none⟩) 1 1) 45 3 ([[.int .i64 2, .int .i64 1100, .int .i64 1]]), own (.slice (some ⟨w4.heap.size, 0, none⟩) 1 1) 45 3 ([[.int .i64 2, .int .i64 1050, .int .i64 1]]), own (.slice (some ⟨w3.heap.size, 0, none⟩) 1 1) 45 3 ([[.int .i64 2, .int .i64 1099, .int .i64 3]]), blk w1.heap.size [.int .i64 55, .int .i64 1, .int .i64 2, .int .i64 9, .int .i64 1000, .bool false] 31] w16 := hst.grow hxz
  refine wd_sub (k := 0) 3 [0, 1, 2] hfr (by kernel_rfl) (by kernel_rfl) (by kernel_rfl) (by rfl) ?_
  replace hfr : Fr 205 [(0, _), (1, _), (2, _), (3, _), (4, _), (5, _), (6, _), (7, _), (8, _), (9, _)] [] a := hfr.pick [0, 1, 2, 3, 4, 5, 6, 7, 8, 9]
  refine wc_phases' 3 [[], [], []] (fun i => match i with | 0 => pv (.agg #[.int .i64 100, .int .i64 50, .int .i64 200, .int .i64 300]) | 1 => pv (.agg #[.int .i64 55, .int .i64 1, .int .i64 2, .int .i64 9, .int .i64 1000, .bool false]) | 2 => pv ((.slice (some ⟨w6.heap.size, 0, none⟩) 3 3)) | _ => fun _ _ => False) hfr hst (by kernel_rfl) (by kernel_rfl) ?_ ?_
  · intro i hi
    match i, hi with
    | 0, _ =>
      intro w hst
      exact g_callp Try.call31 rfl (exRules_ok _)
    | 1, _ =>
      intro w hst
      exact OpV.g (v_load_all (hst.get (k := 5) rfl) rfl (Try.isAgg31 _) (Try.sizeOf31 _))
    | 2, _ =>
      intro w hst
      exact OpV.g (v_move rfl)
  clear hfr hst
  rintro _ _ ⟨rfl, rfl⟩ _ _ ⟨rfl, rfl⟩ _ _ ⟨rfl, rfl⟩ a w17 hfr hst
  replace hfr : Fr 205 [(50, _), (51, _), (52, _), (0, _), (1, _), (2, _), (3, _), (4, _), (5, _), (6, _), (7, _), (8, _), (9, _)] [] a := hfr
  replace hst : St No w0 [_, _, _, _, _, _] w17 := hst
  refine wl_nil ?_
  refine wd_lin (k := 3) 5 [4] (by kernel_rfl) (by kernel_rfl) (by kernel_rfl) ?_
  refine wl_callm hfr hst (by decide) Try.call17 rfl (memr_lit (E' := fun v => [own v 3 1 []]) (void_ok exR exC (.slice (some ⟨w6.heap.size, 0, none⟩) 3 3) [⟨2, 1050, 3⟩, ⟨3, 1050, 0⟩, ⟨5, 1099, 0⟩] _ (hst.ownAt (i := 1) rfl) (by kernel_rfl)) (by kernel_rfl)) ?_
  clear hfr hst
  intro a w18 x4 hp hfr hst
  revert x4 hp hfr hst; rintro v3 hp hfr hst
  clear hp
  replace hst : St No w0 [own v3 3 1 ([]), own v1 3 1 ([[.int .i64 0]]), own (.slice (some ⟨w6.heap.size, 0, none⟩) 3 3) 45 3 ([[.int .i64 2, .int .i64 1050, .int .i64 3], [.int .i64 3, .int .i64 1050, .int .i64 0], [.int .i64 5, .int .i64 1099, .int .i64 0]]), own (.slice (some ⟨w5.heap.size, 0, none⟩) 1 1) 45 3 ([[.int .i64 2, .int .i64 1100, .int .i64 1]]), own (.slice (some ⟨w4.heap.size, 0, none⟩) 1 1) 45 3 ([[.int .i64 2, .int .i64 1050, .int .i64 1]]), own (.slice (some ⟨w3.heap.size, 0, none⟩) 1 1) 45 3 ([[.int .i64 2, .int .i64 1099, .int .i64 3]]), blk w1.heap.size [.int .i64 55, .int .i64 1, .int .i64 2, .int .i64 9, .int .i64 1000, .bool false] 31] w18 := hst
  refine wl_v hfr (by decide) (v_move rfl) ?_
  clear hfr
  intro a hfr
  refine wl_nil ?_
  refine wd_sub (k := 5) 8 [6, 7] hfr (by kernel_rfl) (by kernel_rfl) (by kernel_rfl) (by rfl) ?_
  replace hfr : Fr 205 [(0, _), (1, _), (2, _), (3, _), (4, _), (5, _), (6, _), (7, _), (8, _), (9, _), (50, _), (51, _), (52, _), (53, _), (49, _)] [] a := hfr.pick [0, 1, 2, 3, 4, 5, 6, 7, 8, 9, 50, 51, 52, 53, 49]
  refine wc_phases' 3 [[], [], [0]] (fun i => match i with | 0 => pv (v3) | 1 => pv (.int .i64 0) | 2 => pv (v3) | _ => fun _ _ => False) hfr hst (by kernel_rfl) (by kernel_rfl) ?_ ?_
  · intro i hi
    match i, hi with
    | 0, _ =>
      intro w hst
      exact OpV.g (v_extract rfl rfl)
    | 1, _ =>
      intro w hst
      exact OpV.g (v_extract rfl rfl)
    | 2, _ =>
      rintro _ _ ⟨rfl, rfl⟩
      intro w hst
      exact OpV.g (v_assign rfl)
  clear hfr hst
  rintro _ _ ⟨rfl, rfl⟩ _ _ ⟨rfl, rfl⟩ _ _ ⟨rfl, rfl⟩ a w19 hfr hst
  replace hfr : Fr 205 [(54, _), (55, _), (10, _), (0, _), (1, _), (2, _), (3, _), (4, _), (5, _), (6, _), (7, _), (8, _), (9, _), (50, _), (51, _), (52, _), (53, _), (49, _)] [] a := hfr
  replace hst : St No w0 [_, _, _, _, _, _, _] w19 := hst
  refine wl_nil ?_
  refine wd_lin (k := 8) 9 [8] (by kernel_rfl) (by kernel_rfl) (by kernel_rfl) ?_
  refine wl_v hfr (by decide) (v_assign rfl) ?_
  clear hfr
  intro a hfr
  refine wl_nil ?_
  refine wd_end (by kernel_rfl) ?_
  refine hK9 _ _ ?_
  replace hfr : Fr 205 [(0, _), (1, _), (2, _), (3, _), (4, _), (5, _), (6, _), (7, _), (8, _), (9, _), (10, _), (11, _)] [] a := hfr.pick [0, 1, 2, 3, 4, 5, 6, 7, 8, 9, 10, 11]
  refine wc_seq_k fun K10 hK10 => ?_
  refine wc_of_dr (by kernel_rfl) (dr_of_wd (by kernel_rfl) fun w20 hxz => ?_)
  replace hst : St No w0 [own v3 3 1 ([]), own v1 3 1 ([[.int .i64 0]]), own (.slice (some ⟨w6.heap.size, 0, none⟩) 3 3) 45 3 ([[.int .i64 2, .int .i64 1050, .int .i64 3], [.int .i64 3, .int .i64 1050, .int .i64 0], [.int .i64 5, .int .i64 1099, .int .i64 0]]), own (.slice (some ⟨w5.heap.size, 0, none⟩) 1 1) 45 3 ([[.int .i64 2, .int .i64 1100, .int .i64 1]]), own (.slice (some ⟨w4.heap.size, 0, none⟩) 1 1) 45 3 ([[.int .i64 2, .int .i64 1050, .int .i64 1]]), own (.slice (some ⟨w3.heap.size, 0, none⟩) 1 1) 45 3 ([[.int .i64 2, .int .i64 1099, .int .i64 3]]), blk w1.heap.size [.int .i64 55, .int .i64 1, .int .i64 2, .int .i64 9, .int .i64 1000, .bool false] 31] w20 := hst.grow hxz
  refine wd_sub (k := 0) 3 [0, 1, 2] hfr (by kernel_rfl) (by kernel_rfl) (by kernel_rfl) (by rfl) ?_
  replace hfr : Fr 205 [(0, _), (1, _), (2, _), (3, _), (4, _), (5, _), (6, _), (7, _), (8, _), (9, _), (10, _), (11, _)] [] a := hfr.pick [0, 1, 2, 3, 4, 5, 6, 7, 8, 9, 10, 11]
  refine wc_phases' 3 [[], [], []] (fun i => match i with | 0 => pv (.agg #[.int .i64 100, .int .i64 50, .int .i64 200, .int .i64 300]) | 1 => pv (.agg #[.int .i64 55, .int .i64 1, .int .i64 2, .int .i64 9, .int .i64 1000, .bool false]) | 2 => pv ((.slice (some ⟨w6.heap.size, 0, none⟩) 3 3)) | _ => fun _ _ => False) hfr hst (by kernel_rfl) (by kernel_rfl) ?_ ?_
  · intro i hi
    match i, hi with
    | 0, _ =>
      intro w hst
      exact g_callp Try.call31 rfl (exRules_ok _)
    | 1, _ =>
      intro w hst
      exact OpV.g (v_load_all (hst.get (k := 6) rfl) rfl (Try.isAgg31 _) (Try.sizeOf31 _))
    | 2, _ =>
      intro w hst
      exact OpV.g (v_move rfl)
  clear hfr hst
  rintro _ _ ⟨rfl, rfl⟩ _ _ ⟨rfl, rfl⟩ _ _ ⟨rfl, rfl⟩ a w21 hfr hst
  replace hfr : Fr 205 [(57, _), (58, _), (59, _), (0, _), (1, _), (2, _), (3, _), (4, _), (5, _), (6, _), (7, _), (8, _), (9, _), (10, _), (11, _)] [] a := hfr
  replace hst : St No w0 [_, _, _, _, _, _, _] w21 := hst
  refine wl_nil ?_
  refine wd_lin (k := 3) 5 [4] (by kernel_rfl) (by kernel_rfl) (by kernel_rfl) ?_
  refine wl_callm hfr hst (by decide) Try.call18 rfl (memr_lit (E' := fun v => [own v 39 3 [[.int .i64 1, .int .i64 1000, .int .i64 1100], [.int .i64 2, .int .i64 1050, .int .i64 1250], [.int .i64 3, .int .i64 1050, .int .i64 1100], [.int .i64 7, .int .i64 1099, .int .i64 (-1)]]]) (timeline_ok exR exC (.slice (some ⟨w6.heap.size, 0, none⟩) 3 3) [⟨2, 1050, 3⟩, ⟨3, 1050, 0⟩, ⟨5, 1099, 0⟩] _ (hst.ownAt (i := 2) rfl) (by kernel_rfl)) (by kernel_rfl)) ?_
  clear hfr hst
  intro a w22 x6 hp hfr hst
  revert x6 hp hfr hst; rintro v5 hp hfr hst
  clear hp
  replace hst : St No w0 [own v5 39 3 ([[.int .i64 1, .int .i64 1000, .int .i64 1100], [.int .i64 2, .int .i64 1050, .int .i64 1250], [.int .i64 3, .int .i64 1050, .int .i64 1100], [.int .i64 7, .int .i64 1099, .int .i64 (-1)]]), own v3 3 1 ([]), own v1 3 1 ([[.int .i64 0]]), own (.slice (some ⟨w6.heap.size, 0, none⟩) 3 3) 45 3 ([[.int .i64 2, .int .i64 1050, .int .i64 3], [.int .i64 3, .int .i64 1050, .int .i64 0], [.int .i64 5, .int .i64 1099, .int .i64 0]]), own (.slice (some ⟨w5.heap.size, 0, none⟩) 1 1) 45 3 ([[.int .i64 2, .int .i64 1100, .int .i64 1]]), own (.slice (some ⟨w4.heap.size, 0, none⟩) 1 1) 45 3 ([[.int .i64 2, .int .i64 1050, .int .i64 1]]), own (.slice (some ⟨w3.heap.size, 0, none⟩) 1 1) 45 3 ([[.int .i64 2, .int .i64 1099, .int .i64 3]]), blk w1.heap.size [.int .i64 55, .int .i64 1, .int .i64 2, .int .i64 9, .int .i64 1000, .bool false] 31] w22 := hst
  refine wl_v hfr (by decide) (v_move rfl) ?_
  clear hfr
  intro a hfr
  refine wl_nil ?_
  refine wd_sub (k := 5) 8 [6, 7] hfr (by kernel_rfl) (by kernel_rfl) (by kernel_rfl) (by rfl) ?_
  replace hfr : Fr 205 [(0, _), (1, _), (2, _), (3, _), (4, _), (5, _), (6, _), (7, _), (8, _), (9, _), (10, _), (11, _), (57, _), (58, _), (59, _), (60, _), (56, _)] [] a := hfr.pick [0, 1, 2, 3, 4, 5, 6, 7, 8, 9, 10, 11, 57, 58, 59, 60, 56]
  refine wc_phases' 3 [[], [], [0]] (fun i => match i with | 0 => pv (v5) | 1 => pv (.int .i64 0) | 2 => pv (v5) | _ => fun _ _ => False) hfr hst (by kernel_rfl) (by kernel_rfl) ?_ ?_
  · intro i hi
    match i, hi with
    | 0, _ =>
      intro w hst
      exact OpV.g (v_extract rfl rfl)
    | 1, _ =>
      intro w hst
      exact OpV.g (v_extract rfl rfl)
    | 2, _ =>
      rintro _ _ ⟨rfl, rfl⟩
      intro w hst
      exact OpV.g (v_assign rfl)
  clear hfr hst
  rintro _ _ ⟨rfl, rfl⟩ _ _ ⟨rfl, rfl⟩ _ _ ⟨rfl, rfl⟩ a w23 hfr hst
  replace hfr : Fr 205 [(61, _), (62, _), (12, _), (0, _), (1, _), (2, _), (3, _), (4, _), (5, _), (6, _), (7, _), (8, _), (9, _), (10, _), (11, _), (57, _), (58, _), (59, _), (60, _), (56, _)] [] a := hfr
  replace hst : St No w0 [_, _, _, _, _, _, _, _] w23 := hst
  refine wl_nil ?_
  refine wd_lin (k := 8) 9 [8] (by kernel_rfl) (by kernel_rfl) (by kernel_rfl) ?_
  refine wl_v hfr (by decide) (v_assign rfl) ?_
  clear hfr
  intro a hfr
  refine wl_nil ?_
  refine wd_end (by kernel_rfl) ?_
  refine hK10 _ _ ?_
  replace hfr : Fr 205 [(0, _), (1, _), (2, _), (3, _), (4, _), (5, _), (6, _), (7, _), (8, _), (9, _), (10, _), (11, _), (12, _), (13, _)] [] a := hfr.pick [0, 1, 2, 3, 4, 5, 6, 7, 8, 9, 10, 11, 12, 13]
  refine wc_seq_k fun K11 hK11 => ?_
  refine wc_of_dr (by kernel_rfl) (dr_of_wd (by kernel_rfl) fun w24 hxz => ?_)
  replace hst : St No w0 [own v5 39 3 ([[.int .i64 1, .int .i64 1000, .int .i64 1100], [.int .i64 2, .int .i64 1050, .int .i64 1250], [.int .i64 3, .int .i64 1050, .int .i64 1100], [.int .i64 7, .int .i64 1099, .int .i64 (-1)]]), own v3 3 1 ([]), own v1 3 1 ([[.int .i64 0]]), own (.slice (some ⟨w6.heap.size, 0, none⟩) 3 3) 45 3 ([[.int .i64 2, .int .i64 1050, .int .i64 3], [.int .i64 3, .int .i64 1050, .int .i64 0], [.int .i64 5, .int .i64 1099, .int .i64 0]]), own (.slice (some ⟨w5.heap.size, 0, none⟩) 1 1) 45 3 ([[.int .i64 2, .int .i64 1100, .int .i64 1]]), own (.slice (some ⟨w4.heap.size, 0, none⟩) 1 1) 45 3 ([[.int .i64 2, .int .i64 1050, .int .i64 1]]), own (.slice (some ⟨w3.heap.size, 0, none⟩) 1 1) 45 3 ([[.int .i64 2, .int .i64 1099, .int .i64 3]]), blk w1.heap.size [.int .i64 55, .int .i64 1, .int .i64 2, .int .i64 9, .int .i64 1000, .bool false] 31] w24 := hst.grow hxz
  refine wd_sub (k := 0) 2 [0, 1] hfr (by kernel_rfl) (by kernel_rfl) (by kernel_rfl) (by rfl) ?_
  replace hfr : Fr 205 [(0, _), (1, _), (2, _), (3, _), (4, _), (5, _), (6, _), (7, _), (8, _), (9, _), (10, _), (11, _), (12, _), (13, _)] [] a := hfr.pick [0, 1, 2, 3, 4, 5, 6, 7, 8, 9, 10, 11, 12, 13]
  refine wc_phases' 2 [[], []] (fun i => match i with | 0 => pv (.agg #[.int .i64 100, .int .i64 50, .int .i64 200, .int .i64 300]) | 1 => pv (.agg #[.int .i64 55, .int .i64 1, .int .i64 2, .int .i64 9, .int .i64 1000, .bool false]) | _ => fun _ _ => False) hfr hst (by kernel_rfl) (by kernel_rfl) ?_ ?_
  · intro i hi
    match i, hi with
    | 0, _ =>
      intro w hst
      exact g_callp Try.call31 rfl (exRules_ok _)
    | 1, _ =>
      intro w hst
      exact OpV.g (v_load_all (hst.get (k := 7) rfl) rfl (Try.isAgg31 _) (Try.sizeOf31 _))
  clear hfr hst
  rintro _ _ ⟨rfl, rfl⟩ _ _ ⟨rfl, rfl⟩ a w25 hfr hst
  replace hfr : Fr 205 [(64, _), (65, _), (0, _), (1, _), (2, _), (3, _), (4, _), (5, _), (6, _), (7, _), (8, _), (9, _), (10, _), (11, _), (12, _), (13, _)] [] a := hfr
  replace hst : St No w0 [_, _, _, _, _, _, _, _] w25 := hst
  refine wl_nil ?_
  refine wd_lin (k := 2) 4 [3] (by kernel_rfl) (by kernel_rfl) (by kernel_rfl) ?_
  refine wl_callp hfr hst (by decide) Try.call20 rfl (ret_lit (y := .tuple #[.int .i64 1, .int .i64 0]) (with_ok exR exC _ [] 1149 _ (slAt_nil _ _) (by kernel_rfl) (by kernel_rfl)) (by kernel_rfl)) ?_
  clear hfr hst
  intro a w26 hfr hst
  refine wl_v hfr (by decide) (v_move rfl) ?_
  clear hfr
  intro a hfr
  refine wl_nil ?_
  refine wd_sub (k := 4) 7 [5, 6] hfr (by kernel_rfl) (by kernel_rfl) (by kernel_rfl) (by rfl) ?_
  replace hfr : Fr 205 [(0, _), (1, _), (2, _), (3, _), (4, _), (5, _), (6, _), (7, _), (8, _), (9, _), (10, _), (11, _), (12, _), (13, _), (64, _), (65, _), (66, _), (63, _)] [] a := hfr.pick [0, 1, 2, 3, 4, 5, 6, 7, 8, 9, 10, 11, 12, 13, 64, 65, 66, 63]
  refine wc_phases' 3 [[], [], [0]] (fun i => match i with | 0 => pv (.int .i64 1) | 1 => pv (.int .i64 0) | 2 => pv (.int .i64 1) | _ => fun _ _ => False) hfr hst (by kernel_rfl) (by kernel_rfl) ?_ ?_
  · intro i hi
    match i, hi with
    | 0, _ =>
      intro w hst
      exact OpV.g (v_extract rfl rfl)
    | 1, _ =>
      intro w hst
      exact OpV.g (v_extract rfl rfl)
    | 2, _ =>
      rintro _ _ ⟨rfl, rfl⟩
      intro w hst
      exact OpV.g (v_assign rfl)
  clear hfr hst
  rintro _ _ ⟨rfl, rfl⟩ _ _ ⟨rfl, rfl⟩ _ _ ⟨rfl, rfl⟩ a w27 hfr hst
  replace hfr : Fr 205 [(67, _), (68, _), (14, _), (0, _), (1, _), (2, _), (3, _), (4, _), (5, _), (6, _), (7, _), (8, _), (9, _), (10, _), (11, _), (12, _), (13, _), (64, _), (65, _), (66, _), (63, _)] [] a := hfr
  replace hst : St No w0 [_, _, _, _, _, _, _, _] w27 := hst
  refine wl_nil ?_
  refine wd_lin (k := 7) 8 [7] (by kernel_rfl) (by kernel_rfl) (by kernel_rfl) ?_
  refine wl_v hfr (by decide) (v_assign rfl) ?_
  clear hfr
  intro a hfr
  refine wl_nil ?_
  refine wd_end (by kernel_rfl) ?_
  refine hK11 _ _ ?_
  replace hfr : Fr 205 [(0, _), (1, _), (2, _), (3, _), (4, _), (5, _), (6, _), (7, _), (8, _), (9, _), (10, _), (11, _), (12, _), (13, _), (14, _), (15, _)] [] a := hfr.pick [0, 1, 2, 3, 4, 5, 6, 7, 8, 9, 10, 11, 12, 13, 14, 15]
  refine wc_seq_k fun K12 hK12 => ?_
  refine wc_of_dr (by kernel_rfl) (dr_of_wd (by kernel_rfl) fun w28 hxz => ?_)
  replace hst : St No w0 [own v5 39 3 ([[.int .i64 1, .int .i64 1000, .int .i64 1100], [.int .i64 2, .int .i64 1050, .int .i64 1250], [.int .i64 3, .int .i64 1050, .int .i64 1100], [.int .i64 7, .int .i64 1099, .int .i64 (-1)]]), own v3 3 1 ([]), own v1 3 1 ([[.int .i64 0]]), own (.slice (some ⟨w6.heap.size, 0, none⟩) 3 3) 45 3 ([[.int .i64 2, .int .i64 1050, .int .i64 3], [.int .i64 3, .int .i64 1050, .int .i64 0], [.int .i64 5, .int .i64 1099, .int .i64 0]]), own (.slice (some ⟨w5.heap.size, 0, none⟩) 1 1) 45 3 ([[.int .i64 2, .int .i64 1100, .int .i64 1]]), own (.slice (some ⟨w4.heap.size, 0, none⟩) 1 1) 45 3 ([[.int .i64 2, .int .i64 1050, .int .i64 1]]), own (.slice (some ⟨w3.heap.size, 0, none⟩) 1 1) 45 3 ([[.int .i64 2, .int .i64 1099, .int .i64 3]]), blk w1.heap.size [.int .i64 55, .int .i64 1, .int .i64 2, .int .i64 9, .int .i64 1000, .bool false] 31] w28 := hst.grow hxz
  refine wd_sub (k := 0) 2 [0, 1] hfr (by kernel_rfl) (by kernel_rfl) (by kernel_rfl) (by rfl) ?_
  replace hfr : Fr 205 [(0, _), (1, _), (2, _), (3, _), (4, _), (5, _), (6, _), (7, _), (8, _), (9, _), (10, _), (11, _), (12, _), (13, _), (14, _), (15, _)] [] a := hfr.pick [0, 1, 2, 3, 4, 5, 6, 7, 8, 9, 10, 11, 12, 13, 14, 15]
  refine wc_phases' 2 [[], []] (fun i => match i with | 0 => pv (.agg #[.int .i64 100, .int .i64 50, .int .i64 200, .int .i64 300]) | 1 => pv (.agg #[.int .i64 55, .int .i64 1, .int .i64 2, .int .i64 9, .int .i64 1000, .bool false]) | _ => fun _ _ => False) hfr hst (by kernel_rfl) (by kernel_rfl) ?_ ?_
  · intro i hi
    match i, hi with
    | 0, _ =>
      intro w hst
      exact g_callp Try.call31 rfl (exRules_ok _)
    | 1, _ =>
      intro w hst
      exact OpV.g (v_load_all (hst.get (k := 7) rfl) rfl (Try.isAgg31 _) (Try.sizeOf31 _))
  clear hfr hst
  rintro _ _ ⟨rfl, rfl⟩ _ _ ⟨rfl, rfl⟩ a w29 hfr hst
  replace hfr : Fr 205 [(70, _), (71, _), (0, _), (1, _), (2, _), (3, _), (4, _), (5, _), (6, _), (7, _), (8, _), (9, _), (10, _), (11, _), (12, _), (13, _), (14, _), (15, _)] [] a := hfr
  replace hst : St No w0 [_, _, _, _, _, _, _, _] w29 := hst
  refine wl_nil ?_
  refine wd_lin (k := 2) 4 [3] (by kernel_rfl) (by kernel_rfl) (by kernel_rfl) ?_
  refine wl_callp hfr hst (by decide) Try.call20 rfl (ret_lit (y := .tuple #[.int .i64 2, .int .i64 0]) (with_ok exR exC _ [] 1150 _ (slAt_nil _ _) (by kernel_rfl) (by kernel_rfl)) (by kernel_rfl)) ?_
  clear hfr hst
  intro a w30 hfr hst
  refine wl_v hfr (by decide) (v_move rfl) ?_
  clear hfr
  intro a hfr
  refine wl_nil ?_
  refine wd_sub (k := 4) 7 [5, 6] hfr (by kernel_rfl) (by kernel_rfl) (by kernel_rfl) (by rfl) ?_
  replace hfr : Fr 205 [(0, _), (1, _), (2, _), (3, _), (4, _), (5, _), (6, _), (7, _), (8, _), (9, _), (10, _), (11, _), (12, _), (13, _), (14, _), (15, _), (70, _), (71, _), (72, _), (69, _)] [] a := hfr.pick [0, 1, 2, 3, 4, 5, 6, 7, 8, 9, 10, 11, 12, 13, 14, 15, 70, 71, 72, 69]
  refine wc_phases' 3 [[], [], [0]] (fun i => match i with | 0 => pv (.int .i64 2) | 1 => pv (.int .i64 0) | 2 => pv (.int .i64 2) | _ => fun _ _ => False) hfr hst (by kernel_rfl) (by kernel_rfl) ?_ ?_
  · intro i hi
    match i, hi with
    | 0, _ =>
      intro w hst
      exact OpV.g (v_extract rfl rfl)
    | 1, _ =>
      intro w hst
      exact OpV.g (v_extract rfl rfl)
    | 2, _ =>
      rintro _ _ ⟨rfl, rfl⟩
      intro w hst
      exact OpV.g (v_assign rfl)
  clear hfr hst
  rintro _ _ ⟨rfl, rfl⟩ _ _ ⟨rfl, rfl⟩ _ _ ⟨rfl, rfl⟩ a w31 hfr hst
  replace hfr : Fr 205 [(73, _), (74, _), (16, _), (0, _), (1, _), (2, _), (3, _), (4, _), (5, _), (6, _), (7, _), (8, _), (9, _), (10, _), (11, _), (12, _), (13, _), (14, _), (15, _), (70, _), (71, _), (72, _), (69, _)] [] a := hfr
  replace hst : St No w0 [_, _, _, _, _, _, _, _] w31 := hst
  refine wl_nil ?_
  refine wd_lin (k := 7) 8 [7] (by kernel_rfl) (by kernel_rfl) (by kernel_rfl) ?_
  refine wl_v hfr (by decide) (v_assign rfl) ?_
  clear hfr
  intro a hfr
  refine wl_nil ?_
  refine wd_end (by kernel_rfl) ?_
  refine hK12 _ _ ?_
  replace hfr : Fr 205 [(0, _), (1, _), (2, _), (3, _), (4, _), (5, _), (6, _), (7, _), (8, _), (9, _), (10, _), (11, _), (12, _), (13, _), (14, _), (15, _), (16, _), (17, _)] [] a := hfr.pick [0, 1, 2, 3, 4, 5, 6, 7, 8, 9, 10, 11, 12, 13, 14, 15, 16, 17]
  refine wc_seq_k fun K13 hK13 => ?_
  refine wc_of_dr (by kernel_rfl) (dr_of_wd (by kernel_rfl) fun w32 hxz => ?_)
  replace hst : St No w0 [own v5 39 3 ([[.int .i64 1, .int .i64 1000, .int .i64 1100], [.int .i64 2, .int .i64 1050, .int .i64 1250], [.int .i64 3, .int .i64 1050, .int .i64 1100], [.int .i64 7, .int .i64 1099, .int .i64 (-1)]]), own v3 3 1 ([]), own v1 3 1 ([[.int .i64 0]]), own (.slice (some ⟨w6.heap.size, 0, none⟩) 3 3) 45 3 ([[.int .i64 2, .int .i64 1050, .int .i64 3], [.int .i64 3, .int .i64 1050, .int .i64 0], [.int .i64 5, .int .i64 1099, .int .i64 0]]), own (.slice (some ⟨w5.heap.size, 0, none⟩) 1 1) 45 3 ([[.int .i64 2, .int .i64 1100, .int .i64 1]]), own (.slice (some ⟨w4.heap.size, 0, none⟩) 1 1) 45 3 ([[.int .i64 2, .int .i64 1050, .int .i64 1]]), own (.slice (some ⟨w3.heap.size, 0, none⟩) 1 1) 45 3 ([[.int .i64 2, .int .i64 1099, .int .i64 3]]), blk w1.heap.size [.int .i64 55, .int .i64 1, .int .i64 2, .int .i64 9, .int .i64 1000, .bool false] 31] w32 := hst.grow hxz
  refine wd_sub (k := 0) 8 [5, 7] hfr (by kernel_rfl) (by kernel_rfl) (by kernel_rfl) (by rfl) ?_
  replace hfr : Fr 205 [(0, _), (1, _), (2, _), (3, _), (4, _), (5, _), (6, _), (7, _), (8, _), (9, _), (10, _), (11, _), (12, _), (13, _), (14, _), (15, _), (16, _), (17, _)] [] a := hfr.pick [0, 1, 2, 3, 4, 5, 6, 7, 8, 9, 10, 11, 12, 13, 14, 15, 16, 17]
  refine wc_phases_new 6 7 39 [.int .i64 0, .int .i64 0, .int .i64 0] [.int .i64 0, .int .i64 0, .int .i64 0] 8 [[], [], [0, 1], [2], [3], [3], [], [4, 6]] (fun i => match i with | 0 => pv (.agg #[.int .i64 100, .int .i64 50, .int .i64 200, .int .i64 300]) | 1 => pv (.agg #[.int .i64 55, .int .i64 1, .int .i64 2, .int .i64 9, .int .i64 1000, .bool false]) | 2 => pv (.tuple #[.agg #[.int .i64 0, .int .i64 0, .int .i64 0], .int .i64 160]) | 3 => pv (.tuple #[.agg #[.int .i64 0, .int .i64 0, .int .i64 0], .int .i64 160]) | 4 => pv (.agg #[.int .i64 0, .int .i64 0, .int .i64 0]) | 5 => pv (.int .i64 160) | 6 => fun v E => ∃ b, v = ptr b ∧ E = [] | 7 => fun v E => v = undef ∧ E = [] | _ => fun _ _ => False) hfr (H := [own v5 39 3 ([[.int .i64 1, .int .i64 1000, .int .i64 1100], [.int .i64 2, .int .i64 1050, .int .i64 1250], [.int .i64 3, .int .i64 1050, .int .i64 1100], [.int .i64 7, .int .i64 1099, .int .i64 (-1)]]), own v3 3 1 ([]), own v1 3 1 ([[.int .i64 0]]), own (.slice (some ⟨w6.heap.size, 0, none⟩) 3 3) 45 3 ([[.int .i64 2, .int .i64 1050, .int .i64 3], [.int .i64 3, .int .i64 1050, .int .i64 0], [.int .i64 5, .int .i64 1099, .int .i64 0]]), own (.slice (some ⟨w5.heap.size, 0, none⟩) 1 1) 45 3 ([[.int .i64 2, .int .i64 1100, .int .i64 1]]), own (.slice (some ⟨w4.heap.size, 0, none⟩) 1 1) 45 3 ([[.int .i64 2, .int .i64 1050, .int .i64 1]]), own (.slice (some ⟨w3.heap.size, 0, none⟩) 1 1) 45 3 ([[.int .i64 2, .int .i64 1099, .int .i64 3]]), blk w1.heap.size [.int .i64 55, .int .i64 1, .int .i64 2, .int .i64 9, .int .i64 1000, .bool false] 31]) hst (by kernel_rfl) (by kernel_rfl) (by kernel_rfl) (by kernel_rfl) (by decide) (by decide) (by decide) (by decide) (by decide) ?_ (fun v E h => h) ⟨rfl, rfl⟩ (fun v E => Iff.rfl) ?_ ?_ ?_ ?_
  · intro i v E h
    match i, h with
    | 0, _ => exact by decide
    | 1, _ => exact by decide
    | 2, _ => exact by decide
    | 3, _ => exact by decide
    | 4, _ => exact by decide
    | 5, _ => exact by decide
    | 6, _ => exact by decide
    | 7, _ => exact by decide
    | i + 8, h => exact h.elim
  · intro i hi hia hij e
    match i, hi, hia, hij with
    | 0, _, _, _ =>
      intro w hst
      exact g_callp Try.call31 rfl (exRules_ok _)
    | 1, _, _, _ =>
      intro w hst
      exact OpV.g (v_load_all (hst.get (k := 8) rfl) rfl (Try.isAgg31 _) (Try.sizeOf31 _))
    | 2, _, _, _ =>
      rintro _ _ ⟨rfl, rfl⟩ _ _ ⟨rfl, rfl⟩
      intro w hst
      exact g_callp Try.call14 rfl (outcome_no exR exC _ [] (-1) _ (slAt_nil _ _) (by kernel_rfl) (by kernel_rfl))
    | 3, _, _, _ =>
      rintro _ _ ⟨rfl, rfl⟩
      intro w hst
      exact OpV.g (v_move rfl)
    | 4, _, _, _ =>
      rintro _ _ ⟨rfl, rfl⟩
      intro w hst
      exact OpV.g (v_extract rfl rfl)
    | 5, _, _, _ =>
      rintro _ _ ⟨rfl, rfl⟩
      intro w hst
      exact OpV.g (v_extract rfl rfl)
    | 6, _, h, _ => exact absurd rfl h
    | 7, _, _, h => exact absurd rfl h
  · exact fun Lv w => r_alloc (Try.zeroValue39 _)
  · rintro _ _ ⟨rfl, rfl⟩ _ _ ⟨b7, rfl, rfl⟩
    intro b hb w h
    have hb : some (ptr b7) = some (ptr b) := hb
    cases hb
    exact r_storeU rfl rfl h (Try.sizeOf39 _) rfl (Nat.le_of_ble_eq_true rfl) rfl
  clear hfr hst
  rintro bq _ _ ⟨⟨rfl, rfl⟩, -⟩ _ _ ⟨⟨rfl, rfl⟩, -⟩ _ _ ⟨⟨rfl, rfl⟩, -⟩ _ _ ⟨⟨rfl, rfl⟩, -⟩ _ _ ⟨⟨rfl, rfl⟩, -⟩ _ _ ⟨⟨rfl, rfl⟩, -⟩ _ _ ⟨⟨b7, rfl, rfl⟩, hva⟩ a w33 hfr hst
  obtain rfl : b7 = bq := ptr_inj (hva rfl)
  replace hfr : Fr 205 [(76, _), (77, _), (78, _), (75, _), (79, _), (80, _), (18, _), (0, _), (1, _), (2, _), (3, _), (4, _), (5, _), (6, _), (7, _), (8, _), (9, _), (10, _), (11, _), (12, _), (13, _), (14, _), (15, _), (16, _), (17, _)] [] a := hfr
  replace hst : St No w0 [blk b7 [.int .i64 0, .int .i64 0, .int .i64 0] 39, own v5 39 3 ([[.int .i64 1, .int .i64 1000, .int .i64 1100], [.int .i64 2, .int .i64 1050, .int .i64 1250], [.int .i64 3, .int .i64 1050, .int .i64 1100], [.int .i64 7, .int .i64 1099, .int .i64 (-1)]]), own v3 3 1 ([]), own v1 3 1 ([[.int .i64 0]]), own (.slice (some ⟨w6.heap.size, 0, none⟩) 3 3) 45 3 ([[.int .i64 2, .int .i64 1050, .int .i64 3], [.int .i64 3, .int .i64 1050, .int .i64 0], [.int .i64 5, .int .i64 1099, .int .i64 0]]), own (.slice (some ⟨w5.heap.size, 0, none⟩) 1 1) 45 3 ([[.int .i64 2, .int .i64 1100, .int .i64 1]]), own (.slice (some ⟨w4.heap.size, 0, none⟩) 1 1) 45 3 ([[.int .i64 2, .int .i64 1050, .int .i64 1]]), own (.slice (some ⟨w3.heap.size, 0, none⟩) 1 1) 45 3 ([[.int .i64 2, .int .i64 1099, .int .i64 3]]), blk w1.heap.size [.int .i64 55, .int .i64 1, .int .i64 2, .int .i64 9, .int .i64 1000, .bool false] 31] w33 := hst
  refine wl_nil ?_
  refine wd_lin (k := 8) 9 [8] (by kernel_rfl) (by kernel_rfl) (by kernel_rfl) ?_
  refine wl_v hfr (by decide) (v_assign rfl) ?_
  clear hfr
  intro a hfr
  refine wl_nil ?_
  refine wd_end (by kernel_rfl) ?_
  refine hK13 _ _ ?_
  replace hfr : Fr 205 [(0, _), (1, _), (2, _), (3, _), (4, _), (5, _), (6, _), (7, _), (8, _), (9, _), (10, _), (11, _), (12, _), (13, _), (14, _), (15, _), (16, _), (17, _), (19, _)] [] a := hfr.pick [0, 1, 2, 3, 4, 5, 6, 7, 8, 9, 10, 11, 12, 13, 14, 15, 16, 17, 19]
  replace hst : St No w0 [_, _, _, _, _, _, _, _] w33 := hst.mask [false, true, true, true, true, true, true, true, true]
  refine wc_seq_region fun K14 hK14 => ?_
  refine wl_v hfr (by decide) (v_move rfl) ?_
  clear hfr
  intro a hfr
  refine wl_v hfr (by decide) ((v_eq rfl rfl).asb (b' := true) rfl) ?_
  clear hfr
  intro a hfr
  refine wl_v hfr (by decide) (v_move rfl) ?_
  clear hfr
  intro a hfr
  refine wl_vy hfr (by decide) rfl (by decide) rfl (v_move rfl) ?_
  clear hfr
  intro a hfr
  refine wl_vy hfr (by decide) rfl (by decide) rfl ((v_eq rfl rfl).asb (b' := true) rfl) ?_
  clear hfr
  intro a hfr
  refine wl_v hfr (by decide) (v_pick_t rfl rfl) ?_
  clear hfr
  intro a hfr
  refine wl_v hfr (by decide) (v_move rfl) ?_
  clear hfr
  intro a hfr
  refine wl_vy hfr (by decide) rfl (by decide) rfl (v_move rfl) ?_
  clear hfr
  intro a hfr
  refine wl_vy hfr (by decide) rfl (by decide) rfl ((v_eq rfl rfl).asb (b' := true) rfl) ?_
  clear hfr
  intro a hfr
  refine wl_v hfr (by decide) (v_pick_t rfl rfl) ?_
  clear hfr
  intro a hfr
  refine wl_v hfr (by decide) (v_move rfl) ?_
  clear hfr
  intro a hfr
  refine wl_vy hfr (by decide) rfl (by decide) rfl (v_move rfl) ?_
  clear hfr
  intro a hfr
  refine wl_vy hfr (by decide) rfl (by decide) rfl ((v_eq rfl rfl).asb (b' := true) rfl) ?_
  clear hfr
  intro a hfr
  refine wl_v hfr (by decide) (v_pick_t rfl rfl) ?_
  clear hfr
  intro a hfr
  refine wl_v hfr (by decide) (v_move rfl) ?_
  clear hfr
  intro a hfr
  refine wl_vy hfr (by decide) rfl (by decide) rfl (v_move rfl) ?_
  clear hfr
  intro a hfr
  refine wl_vy hfr (by decide) rfl (by decide) rfl ((v_eq rfl rfl).asb (b' := true) rfl) ?_
  clear hfr
  intro a hfr
  refine wl_v hfr (by decide) (v_pick_t rfl rfl) ?_
  clear hfr
  intro a hfr
  refine wl_v hfr (by decide) (v_move rfl) ?_
  clear hfr
  intro a hfr
  refine wl_vy hfr (by decide) rfl (by decide) rfl (v_move rfl) ?_
  clear hfr
  intro a hfr
  refine wl_vy hfr (by decide) rfl (by decide) rfl ((v_eq rfl rfl).asb (b' := true) rfl) ?_
  clear hfr
  intro a hfr
  refine wl_v hfr (by decide) (v_pick_t rfl rfl) ?_
  clear hfr
  intro a hfr
  refine wl_v hfr (by decide) (v_move rfl) ?_
  clear hfr
  intro a hfr
  refine wl_vy hfr (by decide) rfl (by decide) rfl (v_move rfl) ?_
  clear hfr
  intro a hfr
  refine wl_vy hfr (by decide) rfl (by decide) rfl ((v_eq rfl rfl).asb (b' := true) rfl) ?_
  clear hfr
  intro a hfr
  refine wl_v hfr (by decide) (v_pick_t rfl rfl) ?_
  clear hfr
  intro a hfr
  refine wl_v hfr (by decide) (v_assign rfl) ?_
  clear hfr
  intro a hfr
  refine wl_nil (hK14 _ _ ?_)
  replace hfr : Fr 205 [(0, _), (1, _), (2, _), (3, _), (4, _), (5, _), (6, _), (8, _), (10, _), (12, _), (14, _), (16, _), (20, _)] [] a := hfr.pick [0, 1, 2, 3, 4, 5, 6, 8, 10, 12, 14, 16, 20]
  refine wc_seq_region fun K15 hK15 => ?_
  refine wl_callp hfr hst (by decide) Try.call32 rfl (ret_lit (y := .bool true) (is_ok (.slice none 0 0) [] 999 0 0 1000 _ (slAt_nil _ _) (by kernel_rfl) (by kernel_rfl)) (by kernel_rfl)) ?_
  clear hfr hst
  intro a w34 hfr hst
  refine wl_v hfr (by decide) (v_move rfl) ?_
  clear hfr
  intro a hfr
  refine wl_callpy hfr hst (by decide) rfl (by decide) rfl Try.call32 rfl (ret_lit (y := .bool true) (is_ok (.slice none 0 0) [] 1099 1 1000 1100 _ (slAt_nil _ _) (by kernel_rfl) (by kernel_rfl)) (by kernel_rfl)) ?_
  clear hfr hst
  intro a w35 hfr hst
  refine wl_v hfr (by decide) (v_pick_t rfl rfl) ?_
  clear hfr
  intro a hfr
  refine wl_v hfr (by decide) (v_move rfl) ?_
  clear hfr
  intro a hfr
  refine wl_callpy hfr hst (by decide) rfl (by decide) rfl Try.call32 rfl (ret_lit (y := .bool true) (is_ok (.slice none 0 0) [] 1100 3 1100 1150 _ (slAt_nil _ _) (by kernel_rfl) (by kernel_rfl)) (by kernel_rfl)) ?_
  clear hfr hst
  intro a w36 hfr hst
  refine wl_v hfr (by decide) (v_pick_t rfl rfl) ?_
  clear hfr
  intro a hfr
  refine wl_v hfr (by decide) (v_move rfl) ?_
  clear hfr
  intro a hfr
  refine wl_callpy hfr hst (by decide) rfl (by decide) rfl Try.call32 rfl (ret_lit (y := .bool true) (is_ok (.slice none 0 0) [] 1150 4 1150 1450 _ (slAt_nil _ _) (by kernel_rfl) (by kernel_rfl)) (by kernel_rfl)) ?_
  clear hfr hst
  intro a w37 hfr hst
  refine wl_v hfr (by decide) (v_pick_t rfl rfl) ?_
  clear hfr
  intro a hfr
  refine wl_v hfr (by decide) (v_move rfl) ?_
  clear hfr
  intro a hfr
  refine wl_callpy hfr hst (by decide) rfl (by decide) rfl Try.call32 rfl (ret_lit (y := .bool true) (is_ok (.slice none 0 0) [] 1450 5 1450 (-1) _ (slAt_nil _ _) (by kernel_rfl) (by kernel_rfl)) (by kernel_rfl)) ?_
  clear hfr hst
  intro a w38 hfr hst
  refine wl_v hfr (by decide) (v_pick_t rfl rfl) ?_
  clear hfr
  intro a hfr
  refine wl_v hfr (by decide) (v_assign rfl) ?_
  clear hfr
  intro a hfr
  refine wl_nil (hK15 _ _ ?_)
  replace hfr : Fr 205 [(0, _), (1, _), (2, _), (3, _), (4, _), (5, _), (6, _), (8, _), (10, _), (12, _), (14, _), (16, _), (20, _), (21, _)] [] a := hfr.pick [0, 1, 2, 3, 4, 5, 6, 8, 10, 12, 14, 16, 20, 21]
  refine wc_seq_region fun K16 hK16 => ?_
  refine wl_v hfr (by decide) (v_build (v := .agg #[.int .i64 1, .int .i64 1010, .int .i64 0]) rfl (by kernel_rfl)) ?_
  clear hfr
  intro a hfr
  refine wl_buildSlice (E := 45) (sz := 3) rfl [[.int .i64 1, .int .i64 1010, .int .i64 0]] (by kernel_rfl) (by simp) rfl (by decide) (by decide) hfr hst ?_
  clear hfr hst
  intro a w39 hfr hst
  refine wl_callp hfr hst (by decide) Try.call32 rfl (ret_lit (y := .bool true) (is_ok (.slice (some ⟨w38.heap.size, 0, none⟩) 1 1) [⟨1, 1010, 0⟩] 1060 4 1060 1360 _ (hst.ownAt (i := 0) rfl) (by kernel_rfl) (by kernel_rfl)) (by kernel_rfl)) ?_
  clear hfr hst
  intro a w40 hfr hst
  refine wl_v hfr (by decide) (v_move rfl) ?_
  clear hfr
  intro a hfr
  refine wl_vy hfr (by decide) rfl (by decide) rfl (v_move rfl) ?_
  clear hfr
  intro a hfr
  refine wl_callpy hfr hst (by decide) rfl (by decide) rfl Try.call32 rfl (ret_lit (y := .bool true) (is_ok (.slice (some ⟨w3.heap.size, 0, none⟩) 1 1) [⟨2, 1099, 3⟩] 1648 4 1349 1649 _ (hst.ownAt (i := 7) rfl) (by kernel_rfl) (by kernel_rfl)) (by kernel_rfl)) ?_
  clear hfr hst
  intro a w41 hfr hst
  refine wl_v hfr (by decide) (v_pick_t rfl rfl) ?_
  clear hfr
  intro a hfr
  refine wl_v hfr (by decide) (v_move rfl) ?_
  clear hfr
  intro a hfr
  refine wl_vy hfr (by decide) rfl (by decide) rfl (v_move rfl) ?_
  clear hfr
  intro a hfr
  refine wl_callpy hfr hst (by decide) rfl (by decide) rfl Try.call32 rfl (ret_lit (y := .bool true) (is_ok (.slice (some ⟨w3.heap.size, 0, none⟩) 1 1) [⟨2, 1099, 3⟩] 1649 5 1649 (-1) _ (hst.ownAt (i := 7) rfl) (by kernel_rfl) (by kernel_rfl)) (by kernel_rfl)) ?_
  clear hfr hst
  intro a w42 hfr hst
  refine wl_v hfr (by decide) (v_pick_t rfl rfl) ?_
  clear hfr
  intro a hfr
  refine wl_v hfr (by decide) (v_move rfl) ?_
  clear hfr
  intro a hfr
  refine wl_vy hfr (by decide) rfl (by decide) rfl (v_move rfl) ?_
  clear hfr
  intro a hfr
  refine wl_callpy hfr hst (by decide) rfl (by decide) rfl Try.call32 rfl (ret_lit (y := .bool true) (is_ok (.slice (some ⟨w4.heap.size, 0, none⟩) 1 1) [⟨2, 1050, 1⟩] 1050 6 1050 (-1) _ (hst.ownAt (i := 6) rfl) (by kernel_rfl) (by kernel_rfl)) (by kernel_rfl)) ?_
  clear hfr hst
  intro a w43 hfr hst
  refine wl_v hfr (by decide) (v_pick_t rfl rfl) ?_
  clear hfr
  intro a hfr
  refine wl_v hfr (by decide) (v_move rfl) ?_
  clear hfr
  intro a hfr
  refine wl_vy hfr (by decide) rfl (by decide) rfl (v_move rfl) ?_
  clear hfr
  intro a hfr
  refine wl_callpy hfr hst (by decide) rfl (by decide) rfl Try.call32 rfl (ret_lit (y := .bool true) (is_ok (.slice (some ⟨w5.heap.size, 0, none⟩) 1 1) [⟨2, 1100, 1⟩] 1100 3 1100 1150 _ (hst.ownAt (i := 5) rfl) (by kernel_rfl) (by kernel_rfl)) (by kernel_rfl)) ?_
  clear hfr hst
  intro a w44 hfr hst
  refine wl_v hfr (by decide) (v_pick_t rfl rfl) ?_
  clear hfr
  intro a hfr
  refine wl_v hfr (by decide) (v_move rfl) ?_
  clear hfr
  intro a hfr
  refine wl_vy hfr (by decide) rfl (by decide) rfl (v_move rfl) ?_
  clear hfr
  intro a hfr
  refine wl_callpy hfr hst (by decide) rfl (by decide) rfl Try.call32 rfl (ret_lit (y := .bool true) (is_ok (.slice (some ⟨w6.heap.size, 0, none⟩) 3 3) [⟨2, 1050, 3⟩, ⟨3, 1050, 0⟩, ⟨5, 1099, 0⟩] 1200 7 1099 (-1) _ (hst.ownAt (i := 4) rfl) (by kernel_rfl) (by kernel_rfl)) (by kernel_rfl)) ?_
  clear hfr hst
  intro a w45 hfr hst
  refine wl_v hfr (by decide) (v_pick_t rfl rfl) ?_
  clear hfr
  intro a hfr
  refine wl_v hfr (by decide) (v_assign rfl) ?_
  clear hfr
  intro a hfr
  refine wl_nil (hK16 _ _ ?_)
  replace hfr : Fr 205 [(0, _), (1, _), (5, _), (6, _), (8, _), (10, _), (12, _), (14, _), (16, _), (20, _), (21, _), (22, _)] [] a := hfr.pick [0, 1, 5, 6, 8, 10, 12, 14, 16, 20, 21, 22]
  replace hst : St No w0 [_, _, _, _, _] w45 := hst.mask [false, true, true, true, true, false, false, false, true]
  refine wc_seq_region fun K17 hK17 => ?_
  refine wl_v hfr (by decide) (v_build (v := .agg #[.int .i64 6, .int .i64 1449, .int .i64 2]) rfl (by kernel_rfl)) ?_
  clear hfr
  intro a hfr
  refine wl_buildSlice (E := 45) (sz := 3) rfl [[.int .i64 6, .int .i64 1449, .int .i64 2]] (by kernel_rfl) (by simp) rfl (by decide) (by decide) hfr hst ?_
  clear hfr hst
  intro a w46 hfr hst
  refine wl_callp hfr hst (by decide) Try.call32 rfl (ret_lit (y := .bool true) (is_ok (.slice (some ⟨w45.heap.size, 0, none⟩) 1 1) [⟨6, 1449, 2⟩] 1449 8 1449 (-1) _ (hst.ownAt (i := 0) rfl) (by kernel_rfl) (by kernel_rfl)) (by kernel_rfl)) ?_
  clear hfr hst
  intro a w47 hfr hst
  refine wl_v hfr (by decide) (v_move rfl) ?_
  clear hfr
  intro a hfr
  refine wl_vy hfr (by decide) rfl (by decide) rfl (v_build (v := .agg #[.int .i64 6, .int .i64 1450, .int .i64 2]) rfl (by kernel_rfl)) ?_
  clear hfr
  intro a hfr
  refine wl_open hfr rfl rfl (by decide) rfl ?_
  refine wl_buildSlice (E := 45) (sz := 3) rfl [[.int .i64 6, .int .i64 1450, .int .i64 2]] (by kernel_rfl) (by simp) rfl (by decide) (by decide) hfr hst ?_
  clear hfr hst
  intro a w48 hfr hst
  refine wl_callpy hfr hst (by decide) rfl (by decide) rfl Try.call32 rfl (ret_lit (y := .bool true) (is_ok (.slice (some ⟨w47.heap.size, 0, none⟩) 1 1) [⟨6, 1450, 2⟩] 1450 5 1450 (-1) _ (hst.ownAt (i := 0) rfl) (by kernel_rfl) (by kernel_rfl)) (by kernel_rfl)) ?_
  clear hfr hst
  intro a w49 hfr hst
  refine wl_v hfr (by decide) (v_pick_t rfl rfl) ?_
  clear hfr
  intro a hfr
  refine wl_v hfr (by decide) (v_assign rfl) ?_
  clear hfr
  intro a hfr
  refine wl_nil (hK17 _ _ ?_)
  replace hfr : Fr 205 [(0, _), (1, _), (5, _), (6, _), (8, _), (10, _), (12, _), (14, _), (16, _), (20, _), (21, _), (22, _), (23, _)] [] a := hfr.pick [0, 1, 5, 6, 8, 10, 12, 14, 16, 20, 21, 22, 23]
  replace hst : St No w0 [_, _, _, _, _] w49 := hst.mask [false, false, true, true, true, true, true]
  refine wc_seq_region fun K18 hK18 => ?_
  refine wl_v hfr (by decide) (v_move rfl) ?_
  clear hfr
  intro a hfr
  refine wl_v hfr (by decide) (v_build (v := .agg #[.int .i64 1, .int .i64 1000, .int .i64 1100]) rfl (by kernel_rfl)) ?_
  clear hfr
  intro a hfr
  refine wl_v hfr (by decide) (v_build (v := .agg #[.int .i64 2, .int .i64 1050, .int .i64 1250]) rfl (by kernel_rfl)) ?_
  clear hfr
  intro a hfr
  refine wl_v hfr (by decide) (v_build (v := .agg #[.int .i64 3, .int .i64 1050, .int .i64 1100]) rfl (by kernel_rfl)) ?_
  clear hfr
  intro a hfr
  refine wl_v hfr (by decide) (v_build (v := .agg #[.int .i64 7, .int .i64 1099, .int .i64 (-1)]) rfl (by kernel_rfl)) ?_
  clear hfr
  intro a hfr
  refine wl_buildSlice (E := 39) (sz := 3) rfl [[.int .i64 1, .int .i64 1000, .int .i64 1100], [.int .i64 2, .int .i64 1050, .int .i64 1250], [.int .i64 3, .int .i64 1050, .int .i64 1100], [.int .i64 7, .int .i64 1099, .int .i64 (-1)]] (by kernel_rfl) (by simp) rfl (by decide) (by decide) hfr hst ?_
  clear hfr hst
  intro a w50 hfr hst
  refine wl_callp hfr hst (by decide) Try.call19 rfl (ret_lit (y := .bool true) (sameTimeline_ok [⟨1, 1000, 1100⟩, ⟨2, 1050, 1250⟩, ⟨3, 1050, 1100⟩, ⟨7, 1099, -1⟩] [⟨1, 1000, 1100⟩, ⟨2, 1050, 1250⟩, ⟨3, 1050, 1100⟩, ⟨7, 1099, -1⟩] v5 (.slice (some ⟨w49.heap.size, 0, none⟩) 4 4) _ (hst.ownAt (i := 1) rfl) (hst.ownAt (i := 0) rfl)) (by kernel_rfl)) ?_
  clear hfr hst
  intro a w51 hfr hst
  refine wl_v hfr (by decide) (v_assign rfl) ?_
  clear hfr
  intro a hfr
  refine wl_nil (hK18 _ _ ?_)
  replace hfr : Fr 205 [(0, _), (1, _), (5, _), (6, _), (8, _), (10, _), (14, _), (16, _), (20, _), (21, _), (22, _), (23, _), (24, _)] [] a := hfr.pick [0, 1, 5, 6, 8, 10, 14, 16, 20, 21, 22, 23, 24]
  replace hst : St No w0 [_, _, _, _] w51 := hst.mask [false, false, true, true, true, true]
  refine wc_seq_k fun K19 hK19 => ?_
  refine wc_of_dr (by kernel_rfl) (dr_of_wd (by kernel_rfl) fun w52 hxz => ?_)
  replace hst : St No w0 [own v3 3 1 ([]), own v1 3 1 ([[.int .i64 0]]), own (.slice (some ⟨w6.heap.size, 0, none⟩) 3 3) 45 3 ([[.int .i64 2, .int .i64 1050, .int .i64 3], [.int .i64 3, .int .i64 1050, .int .i64 0], [.int .i64 5, .int .i64 1099, .int .i64 0]]), blk w1.heap.size [.int .i64 55, .int .i64 1, .int .i64 2, .int .i64 9, .int .i64 1000, .bool false] 31] w52 := hst.grow hxz
  refine wd_lin (k := 0) 18 [17] (by kernel_rfl) (by kernel_rfl) (by kernel_rfl) ?_
  refine wl_v hfr (by decide) (v_move rfl) ?_
  clear hfr
  intro a hfr
  refine wl_v hfr (by decide) (v_move rfl) ?_
  clear hfr
  intro a hfr
  refine wl_vy hfr (by decide) rfl (by decide) rfl (v_move rfl) ?_
  clear hfr
  intro a hfr
  refine wl_v hfr (by decide) (v_pick_t rfl rfl) ?_
  clear hfr
  intro a hfr
  refine wl_v hfr (by decide) (v_move rfl) ?_
  clear hfr
  intro a hfr
  refine wl_vy hfr (by decide) rfl (by decide) rfl (v_move rfl) ?_
  clear hfr
  intro a hfr
  refine wl_v hfr (by decide) (v_pick_t rfl rfl) ?_
  clear hfr
  intro a hfr
  refine wl_v hfr (by decide) (v_move rfl) ?_
  clear hfr
  intro a hfr
  refine wl_vy hfr (by decide) rfl (by decide) rfl (v_move rfl) ?_
  clear hfr
  intro a hfr
  refine wl_v hfr (by decide) (v_pick_t rfl rfl) ?_
  clear hfr
  intro a hfr
  refine wl_v hfr (by decide) (v_move rfl) ?_
  clear hfr
  intro a hfr
  refine wl_vy hfr (by decide) rfl (by decide) rfl (v_move rfl) ?_
  clear hfr
  intro a hfr
  refine wl_v hfr (by decide) (v_pick_t rfl rfl) ?_
  clear hfr
  intro a hfr
  refine wl_v hfr (by decide) (v_move rfl) ?_
  clear hfr
  intro a hfr
  refine wl_vy hfr (by decide) rfl (by decide) rfl (v_move rfl) ?_
  clear hfr
  intro a hfr
  refine wl_vy hfr (by decide) rfl (by decide) rfl ((v_eq rfl rfl).asb (b' := true) rfl) ?_
  clear hfr
  intro a hfr
  refine wl_v hfr (by decide) (v_pick_t rfl rfl) ?_
  clear hfr
  intro a hfr
  refine wl_v hfr (by decide) (v_move rfl) ?_
  clear hfr
  intro a hfr
  refine wl_nil ?_
  refine wd_sub (k := 18) 20 [18, 19] hfr (by kernel_rfl) (by kernel_rfl) (by kernel_rfl) (by rfl) ?_
  replace hfr : Fr 205 [(0, _), (1, _), (5, _), (6, _), (8, _), (10, _), (14, _), (16, _), (20, _), (21, _), (22, _), (23, _), (24, _), (158, _), (159, _), (160, _), (161, _), (162, _), (163, _), (164, _), (165, _), (166, _), (167, _), (168, _), (169, _), (170, _), (171, _), (172, _), (173, _), (174, _), (175, _)] [] a := hfr.pick [0, 1, 5, 6, 8, 10, 14, 16, 20, 21, 22, 23, 24, 158, 159, 160, 161, 162, 163, 164, 165, 166, 167, 168, 169, 170, 171, 172, 173, 174, 175]
  refine wc_phases' 2 [[], []] (fun i => match i with | 0 => pv (v1) | 1 => pm (fun b : Nat => .slice (some ⟨b, 0, none⟩) 1 1) (fun b => [own (.slice (some ⟨b, 0, none⟩) 1 1) 3 1 [[.int .i64 0]]]) (fun _ => True) | _ => fun _ _ => False) hfr hst (by kernel_rfl) (by kernel_rfl) ?_ ?_
  · intro i hi
    match i, hi with
    | 0, _ =>
      intro w hst
      exact OpV.g (v_move rfl)
    | 1, _ =>
      intro w hst
      exact g_buildSlice (E := 3) (sz := 1) rfl [[.int .i64 0]] (fun _ => by kernel_rfl) (by simp) rfl (by decide)
  clear hfr hst
  rintro _ _ ⟨rfl, rfl⟩ _ _ ⟨b8, rfl, -, rfl⟩ a w53 hfr hst
  replace hfr : Fr 205 [(176, _), (177, _), (0, _), (1, _), (5, _), (6, _), (8, _), (10, _), (14, _), (16, _), (20, _), (21, _), (22, _), (23, _), (24, _), (158, _), (159, _), (160, _), (161, _), (162, _), (163, _), (164, _), (165, _), (166, _), (167, _), (168, _), (169, _), (170, _), (171, _), (172, _), (173, _), (174, _), (175, _)] [] a := hfr
  replace hst : St No w0 [_, _, _, _, _] w53 := hst
  refine wl_nil ?_
  refine wd_lin (k := 20) 36 [35] (by kernel_rfl) (by kernel_rfl) (by kernel_rfl) ?_
  refine wl_callpy hfr hst (by decide) rfl (by decide) rfl Try.call21 rfl (ret_lit (y := .bool true) (ints_ok [0] [0] v1 (.slice (some ⟨b8, 0, none⟩) 1 1) _ (hst.ownAt (i := 2) rfl) (hst.ownAt (i := 0) rfl)) (by kernel_rfl)) ?_
  clear hfr hst
  intro a w54 hfr hst
  refine wl_v hfr (by decide) (v_pick_t rfl rfl) ?_
  clear hfr
  intro a hfr
  refine wl_v hfr (by decide) (v_move rfl) ?_
  clear hfr
  intro a hfr
  refine wl_vy hfr (by decide) rfl (by decide) rfl (v_move rfl) ?_
  clear hfr
  intro a hfr
  refine wl_vy hfr (by decide) rfl (by decide) rfl ((v_len_sl (sT := 49) (hst.ownAt (i := 1) rfl) rfl rfl (Try.runUnderlying49 _)).asi (m' := 0) (by rfl)) ?_
  clear hfr
  intro a hfr
  refine wl_vy hfr (by decide) rfl (by decide) rfl ((v_eq rfl rfl).asb (b' := true) rfl) ?_
  clear hfr
  intro a hfr
  refine wl_v hfr (by decide) (v_pick_t rfl rfl) ?_
  clear hfr
  intro a hfr
  refine wl_v hfr (by decide) (v_move rfl) ?_
  clear hfr
  intro a hfr
  refine wl_vy hfr (by decide) rfl (by decide) rfl (v_move rfl) ?_
  clear hfr
  intro a hfr
  refine wl_vy hfr (by decide) rfl (by decide) rfl ((v_eq rfl rfl).asb (b' := true) rfl) ?_
  clear hfr
  intro a hfr
  refine wl_v hfr (by decide) (v_pick_t rfl rfl) ?_
  clear hfr
  intro a hfr
  refine wl_v hfr (by decide) (v_move rfl) ?_
  clear hfr
  intro a hfr
  refine wl_vy hfr (by decide) rfl (by decide) rfl (v_move rfl) ?_
  clear hfr
  intro a hfr
  refine wl_vy hfr (by decide) rfl (by decide) rfl ((v_eq rfl rfl).asb (b' := true) rfl) ?_
  clear hfr
  intro a hfr
  refine wl_v hfr (by decide) (v_pick_t rfl rfl) ?_
  clear hfr
  intro a hfr
  refine wl_v hfr (by decide) (v_move rfl) ?_
  clear hfr
  intro a hfr
  refine wl_nil ?_
  refine wd_sub (k := 36) 39 [36, 37, 38] hfr (by kernel_rfl) (by kernel_rfl) (by kernel_rfl) (by rfl) ?_
  replace hfr : Fr 205 [(0, _), (1, _), (5, _), (6, _), (8, _), (10, _), (14, _), (16, _), (20, _), (21, _), (22, _), (23, _), (24, _), (158, _), (159, _), (160, _), (161, _), (162, _), (163, _), (164, _), (165, _), (166, _), (167, _), (168, _), (169, _), (170, _), (171, _), (172, _), (173, _), (174, _), (175, _), (176, _), (177, _), (178, _), (179, _), (180, _), (181, _), (182, _), (183, _), (184, _), (185, _), (186, _), (187, _), (188, _), (189, _), (190, _), (191, _), (192, _), (193, _)] [] a := hfr.pick [0, 1, 5, 6, 8, 10, 14, 16, 20, 21, 22, 23, 24, 158, 159, 160, 161, 162, 163, 164, 165, 166, 167, 168, 169, 170, 171, 172, 173, 174, 175, 176, 177, 178, 179, 180, 181, 182, 183, 184, 185, 186, 187, 188, 189, 190, 191, 192, 193]
  refine wc_phases' 3 [[], [], []] (fun i => match i with | 0 => pv (.agg #[.int .i64 100, .int .i64 50, .int .i64 200, .int .i64 300]) | 1 => pv (.agg #[.int .i64 55, .int .i64 1, .int .i64 2, .int .i64 9, .int .i64 1000, .bool false]) | 2 => pv ((.slice (some ⟨w6.heap.size, 0, none⟩) 3 3)) | _ => fun _ _ => False) hfr hst (by kernel_rfl) (by kernel_rfl) ?_ ?_
  · intro i hi
    match i, hi with
    | 0, _ =>
      intro w hst
      exact g_callp Try.call31 rfl (exRules_ok _)
    | 1, _ =>
      intro w hst
      exact OpV.g (v_load_all (hst.get (k := 4) rfl) rfl (Try.isAgg31 _) (Try.sizeOf31 _))
    | 2, _ =>
      intro w hst
      exact OpV.g (v_move rfl)
  clear hfr hst
  rintro _ _ ⟨rfl, rfl⟩ _ _ ⟨rfl, rfl⟩ _ _ ⟨rfl, rfl⟩ a w55 hfr hst
  replace hfr : Fr 205 [(194, _), (195, _), (196, _), (0, _), (1, _), (5, _), (6, _), (8, _), (10, _), (14, _), (16, _), (20, _), (21, _), (22, _), (23, _), (24, _), (158, _), (159, _), (160, _), (161, _), (162, _), (163, _), (164, _), (165, _), (166, _), (167, _), (168, _), (169, _), (170, _), (171, _), (172, _), (173, _), (174, _), (175, _), (176, _), (177, _), (178, _), (179, _), (180, _), (181, _), (182, _), (183, _), (184, _), (185, _), (186, _), (187, _), (188, _), (189, _), (190, _), (191, _), (192, _), (193, _)] [] a := hfr
  replace hst : St No w0 [_, _, _, _, _] w55 := hst
  refine wl_nil ?_
  refine wd_lin (k := 39) 42 [41] (by kernel_rfl) (by kernel_rfl) (by kernel_rfl) ?_
  refine wl_callpy hfr hst (by decide) rfl (by decide) rfl Try.call33 rfl (ret_lit (y := .bool true) (valid_ok exR exC (.slice (some ⟨w6.heap.size, 0, none⟩) 3 3) [⟨2, 1050, 3⟩, ⟨3, 1050, 0⟩, ⟨5, 1099, 0⟩] _ (hst.ownAt (i := 3) rfl)) (by kernel_rfl)) ?_
  clear hfr hst
  intro a w56 hfr hst
  refine wl_v hfr (by decide) (v_pick_t rfl rfl) ?_
  clear hfr
  intro a hfr
  refine wl_v hfr (by decide) (v_move rfl) ?_
  clear hfr
  intro a hfr
  refine wl_nil ?_
  refine wd_sub (k := 42) 44 [42, 43] hfr (by kernel_rfl) (by kernel_rfl) (by kernel_rfl) (by rfl) ?_
  replace hfr : Fr 205 [(0, _), (1, _), (5, _), (6, _), (8, _), (10, _), (14, _), (16, _), (20, _), (21, _), (22, _), (23, _), (24, _), (158, _), (159, _), (160, _), (161, _), (162, _), (163, _), (164, _), (165, _), (166, _), (167, _), (168, _), (169, _), (170, _), (171, _), (172, _), (173, _), (174, _), (175, _), (176, _), (177, _), (178, _), (179, _), (180, _), (181, _), (182, _), (183, _), (184, _), (185, _), (186, _), (187, _), (188, _), (189, _), (190, _), (191, _), (192, _), (193, _), (194, _), (195, _), (196, _), (197, _), (198, _), (199, _)] [] a := hfr.pick [0, 1, 5, 6, 8, 10, 14, 16, 20, 21, 22, 23, 24, 158, 159, 160, 161, 162, 163, 164, 165, 166, 167, 168, 169, 170, 171, 172, 173, 174, 175, 176, 177, 178, 179, 180, 181, 182, 183, 184, 185, 186, 187, 188, 189, 190, 191, 192, 193, 194, 195, 196, 197, 198, 199]
  refine wc_phases' 2 [[], []] (fun i => match i with | 0 => pv (.agg #[.int .i64 0, .int .i64 0, .int .i64 0, .int .i64 0]) | 1 => pv (.agg #[.int .i64 55, .int .i64 1, .int .i64 2, .int .i64 9, .int .i64 1000, .bool false]) | _ => fun _ _ => False) hfr hst (by kernel_rfl) (by kernel_rfl) ?_ ?_
  · intro i hi
    match i, hi with
    | 0, _ =>
      intro w hst
      exact OpV.g (v_build (v := .agg #[.int .i64 0, .int .i64 0, .int .i64 0, .int .i64 0]) rfl (by kernel_rfl))
    | 1, _ =>
      intro w hst
      exact OpV.g (v_load_all (hst.get (k := 4) rfl) rfl (Try.isAgg31 _) (Try.sizeOf31 _))
  clear hfr hst
  rintro _ _ ⟨rfl, rfl⟩ _ _ ⟨rfl, rfl⟩ a w57 hfr hst
  replace hfr : Fr 205 [(200, _), (201, _), (0, _), (1, _), (5, _), (6, _), (8, _), (10, _), (14, _), (16, _), (20, _), (21, _), (22, _), (23, _), (24, _), (158, _), (159, _), (160, _), (161, _), (162, _), (163, _), (164, _), (165, _), (166, _), (167, _), (168, _), (169, _), (170, _), (171, _), (172, _), (173, _), (174, _), (175, _), (176, _), (177, _), (178, _), (179, _), (180, _), (181, _), (182, _), (183, _), (184, _), (185, _), (186, _), (187, _), (188, _), (189, _), (190, _), (191, _), (192, _), (193, _), (194, _), (195, _), (196, _), (197, _), (198, _), (199, _)] [] a := hfr
  replace hst : St No w0 [_, _, _, _, _] w57 := hst
  refine wl_nil ?_
  refine wd_lin (k := 44) 48 [47] (by kernel_rfl) (by kernel_rfl) (by kernel_rfl) ?_
  refine wl_callpy hfr hst (by decide) rfl (by decide) rfl Try.call33 rfl (ret_lit (y := .bool false) (valid_ok ⟨0, 0, 0, 0⟩ exC (.slice none 0 0) [] _ (slAt_nil _ _)) (by kernel_rfl)) ?_
  clear hfr hst
  intro a w58 hfr hst
  refine wl_vy hfr (by decide) rfl (by decide) rfl ((v_not rfl).asb (b' := true) rfl) ?_
  clear hfr
  intro a hfr
  refine wl_v hfr (by decide) (v_pick_t rfl rfl) ?_
  clear hfr
  intro a hfr
  refine wl_v hfr (by decide) (v_assign rfl) ?_
  clear hfr
  intro a hfr
  refine wl_nil ?_
  refine wd_end (by kernel_rfl) ?_
  refine hK19 _ _ ?_
  replace hfr : Fr 205 [(0, _)] [] a := hfr.pick [0]
  replace hst : St No w0 [] w58 := hst.mask [false, false, false, false, false]
  refine wc_ret ?_
  refine fin_ret hfr Try.results11 (resAre_tmp rfl resAre_nil) ?_
  exact ⟨by rfl, hst.ext⟩
end Go.Proofs.Ytdamipejlfipcaa
