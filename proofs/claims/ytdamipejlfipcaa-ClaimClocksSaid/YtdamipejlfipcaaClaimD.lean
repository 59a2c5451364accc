import Derived.Test.YtdamipejlfipcaaClaimC
namespace Go.Proofs.Ytdamipejlfipcaa
open Go.RowKit Go.PW
set_option linter.unusedVariables false
set_option linter.unusedSimpArgs false
set_option maxRecDepth 4000

def dueFun (s : Int) : Value := if s = 1 then .func (.func 87) #[] #[] else if s = 2 then .func (.func 88) #[] #[] else if s = 3 then .func (.func 89) #[] #[] else .func (.func 90) #[] #[]

theorem look_dues_1 {b : Nat} {w : World} (hm : (mapE b duesKV).ok w) : (Instr.lookup 92 (.map (some b)) (.int .i64 1) true).run Try.prog w = .ok (.tuple #[.agg #[.func (.func 87) #[] #[], .int .i64 3], .bool true]) w :=
  run_lookup_int hm Try.underlying92 Try.underlying3 (Try.zeroValue123 _) (by simp [duesKV]) (Nat.le_of_ble_eq_true rfl) true

theorem look_dues_2 {b : Nat} {w : World} (hm : (mapE b duesKV).ok w) : (Instr.lookup 92 (.map (some b)) (.int .i64 2) true).run Try.prog w = .ok (.tuple #[.agg #[.func (.func 88) #[] #[], .int .i64 3], .bool true]) w :=
  run_lookup_int hm Try.underlying92 Try.underlying3 (Try.zeroValue123 _) (by simp [duesKV]) (Nat.le_of_ble_eq_true rfl) true

theorem look_dues_3 {b : Nat} {w : World} (hm : (mapE b duesKV).ok w) : (Instr.lookup 92 (.map (some b)) (.int .i64 3) true).run Try.prog w = .ok (.tuple #[.agg #[.func (.func 89) #[] #[], .int .i64 4], .bool true]) w :=
  run_lookup_int hm Try.underlying92 Try.underlying3 (Try.zeroValue123 _) (by simp [duesKV]) (Nat.le_of_ble_eq_true rfl) true

theorem look_dues_4 {b : Nat} {w : World} (hm : (mapE b duesKV).ok w) : (Instr.lookup 92 (.map (some b)) (.int .i64 4) true).run Try.prog w = .ok (.tuple #[.agg #[.func (.func 90) #[] #[], .int .i64 5], .bool true]) w :=
  run_lookup_int hm Try.underlying92 Try.underlying3 (Try.zeroValue123 _) (by simp [duesKV]) (Nat.le_of_ble_eq_true rfl) true

theorem look_dues_no {b : Nat} {s : Int} {w : World} (hm : (mapE b duesKV).ok w) (h : dueSec ⟨0, 0, 0, 0⟩ s = none) : (Instr.lookup 92 (.map (some b)) (.int .i64 s) true).run Try.prog w = .ok (.tuple #[.agg #[.nilFunc, .int .i64 0], .bool false]) w := by
  have hs : s ≠ 1 ∧ s ≠ 2 ∧ s ≠ 3 ∧ s ≠ 4 := by
    refine ⟨?_, ?_, ?_, ?_⟩ <;> rintro rfl <;> simp [dueSec] at h
  have hn : ∀ x ∈ duesKV, isInt .i64 s x.1 = false := by simp [duesKV, isInt, hs]
  refine (run_lookup_int hm Try.underlying92 Try.underlying3 (Try.zeroValue123 _) (by simp [duesKV]) ?_ true).trans ?_
  · rw [List.filter_eq_nil_iff.2 (fun x hx => by simp [hn x hx])]; simp
  · rw [List.find?_eq_none.2 (fun x hx => by simp [hn x hx])]; rfl

theorem look_dues_f {b : Nat} {s : Int} {w : World} (hm : (mapE b duesKV).ok w) (h : s = 1 ∨ s = 2 ∨ s = 3 ∨ s = 4) : (Instr.lookup 92 (.map (some b)) (.int .i64 s) false).run Try.prog w = .ok (.agg #[dueFun s, .int .i64 (dueNext s)]) w := by
  rcases h with rfl | rfl | rfl | rfl <;> exact run_lookup_int hm Try.underlying92 Try.underlying3 (Try.zeroValue123 _) (by simp [duesKV]) (Nat.le_of_ble_eq_true rfl) false

theorem eff_find (k s : Int) : (effAll.find? fun x => isAgg2 k s x.1).map (·.2) = (effect k s).map fun n => .int .i64 n := by
  simp only [effAll, effKV, List.map_cons, List.map_nil, List.find?_cons, isAgg2, effect]
  by_cases h1 : k = 1
  · subst h1; by_cases h : s = 1 <;> simp [h]
  by_cases h2 : k = 2
  · subst h2; by_cases h : s = 1 <;> simp [h]
  by_cases h3 : k = 3
  · subst h3; by_cases h : s = 2 <;> simp [h]
  by_cases h4 : k = 4
  · subst h4; by_cases h : s = 2 <;> simp [h]
  by_cases h5 : k = 5
  · subst h5; by_cases h : s = 1 <;> by_cases h' : s = 2 <;> by_cases h'' : s = 3 <;> simp_all
  by_cases h6 : k = 6
  · subst h6; by_cases h : s = 4 <;> simp [h]
  simp [h1, h2, h3, h4, h5, h6]
theorem eff_one (k s : Int) : (effAll.filter fun x => isAgg2 k s x.1).length ≤ 1 := by
  simp only [effAll, effKV, List.map_cons, List.map_nil, List.filter_cons, isAgg2]
  by_cases h1 : k = 1
  · subst h1; by_cases h : s = 1 <;> simp [h]
  by_cases h2 : k = 2
  · subst h2; by_cases h : s = 1 <;> simp [h]
  by_cases h3 : k = 3
  · subst h3; by_cases h : s = 2 <;> simp [h]
  by_cases h4 : k = 4
  · subst h4; by_cases h : s = 2 <;> simp [h]
  by_cases h5 : k = 5
  · subst h5; by_cases h : s = 1 <;> by_cases h' : s = 2 <;> by_cases h'' : s = 3 <;> simp_all
  by_cases h6 : k = 6
  · subst h6; by_cases h : s = 4 <;> simp [h]
  simp [h1, h2, h3, h4, h5, h6]
theorem eff_keys : ∀ x ∈ effAll, ∃ c d, x.1 = .agg #[.int .i64 c, .int .i64 d] := by
  intro x hx
  simp only [effAll, effKV, List.map_cons, List.map_nil, List.mem_cons, List.not_mem_nil, or_false] at hx
  rcases hx with rfl | rfl | rfl | rfl | rfl | rfl | rfl | rfl <;> exact ⟨_, _, rfl⟩
theorem look_eff {b : Nat} {k s : Int} {w : World} (hm : (mapE b effAll).ok w) : (Instr.lookup 93 (.map (some b)) (.agg #[.int .i64 k, .int .i64 s]) true).run Try.prog w = .ok (.tuple #[.int .i64 ((effect k s).getD 0), .bool (effect k s).isSome]) w := by
  refine (run_lookup_ask (Kt := 148) (Et := 3) (q := isAgg2 k s) hm Try.underlying93 (Try.zeroValue3 _) (by simp [effAll]) (fun es i hes => ⟨_, Try.runUnderlying148 w, by cases es with | nil => exact absurd rfl hes | cons e es => rfl⟩) (fun b => by kernel_rfl) (fun x hx => by obtain ⟨c, d, h⟩ := eff_keys x hx; rw [h, eqCause]; rfl) (eff_one k s) true).trans ?_
  rw [eff_find, if_pos rfl]
  cases effect k s <;> rfl

/-- The blocks of a machine. -/
structure Mach where
  bm : Nat
  dm : Nat
  em : Nat
def machBlk (x : Mach) (rl : Rul) (cl : Clm) (v : Value) : Ent := blk x.bm [.int .i64 rl.answer, .int .i64 rl.cooling, .int .i64 rl.settle, .int .i64 rl.reverse, .int .i64 cl.number, .int .i64 cl.frm, .int .i64 cl.to, .int .i64 cl.holder, .int .i64 cl.asked, .bool cl.backed, .map (some x.dm), .map (some x.em), v] 95
def machEnts (x : Mach) (rl : Rul) (cl : Clm) (v : Value) : List Ent := [machBlk x rl cl v, mapE x.dm duesKV, mapE x.em effAll]

/-- dialtone/claim.open -/
theorem open_ok (rl : Rul) (cl : Clm) (sv : Value) (l : List Evt) (w0 : World) (hsv : SlAt w0 sv 3 (l.map Evt.cells)) (hv : valid rl cl l = true) :
    Ret Try.prog 39 #[.agg #[.int .i64 rl.answer, .int .i64 rl.cooling, .int .i64 rl.settle, .int .i64 rl.reverse], .agg #[.int .i64 cl.number, .int .i64 cl.frm, .int .i64 cl.to, .int .i64 cl.holder, .int .i64 cl.asked, .bool cl.backed], sv] w0 (MemR w0 (fun x : Mach => .tuple #[.pointer (some ⟨x.bm, 0, none⟩), .int .i64 0]) (fun x => machEnts x rl cl (.slice none 0 0)) (fun _ => True)) := by
  refine ret_of Try.func39 rfl Try.ntmps39 (Nat.le_of_ble_eq_true rfl) fun a hfr => ?_
  have hfr : Fr 19 [(0, _), (1, _), (2, _)] [] a := hfr
  have hst : St No w0 [] w0 := St.init w0
  refine wc_seq_region fun K1 hK1 => ?_
  refine wl_box hfr hst (by decide) rfl (cs := [.int .i64 rl.answer, .int .i64 rl.cooling, .int .i64 rl.settle, .int .i64 rl.reverse]) rfl fun a w1 hfr hst => ?_
  refine wl_box hfr hst (by decide) rfl (cs := [.int .i64 cl.number, .int .i64 cl.frm, .int .i64 cl.to, .int .i64 cl.holder, .int .i64 cl.asked, .bool cl.backed]) rfl fun a w2 hfr hst => ?_
  refine wl_v hfr (by decide) (v_assign rfl) fun a hfr => ?_
  refine wl_v hfr (by decide) (v_assign rfl) fun a hfr => ?_
  refine wl_nil (hK1 _ _ ?_)
  refine wc_seq_k fun K2 hK2 => ?_
  refine wc_seq_region fun K3 hK3 => ?_
  refine wl_v hfr (by decide) (v_load_all (hst.get (k := 1) rfl) rfl (Try.isAgg29 _) (Try.sizeOf29 _)) fun a hfr => ?_
  refine wl_v hfr (by decide) (v_load_all (hst.get (k := 0) rfl) rfl (Try.isAgg31 _) (Try.sizeOf31 _)) fun a hfr => ?_
  refine wl_v hfr (by decide) (v_move rfl) fun a hfr => ?_
  refine wl_callp hfr hst (by decide) Try.call33 rfl ((hv ▸ valid_ok rl cl sv l _ (hst.arg hsv) : Ret Try.prog 33 _ _ fun v w => v = .bool true ∧ _)) fun a w3 hfr hst => ?_
  refine wl_v hfr (by decide) ((v_not rfl).asb (b' := false) rfl) fun a hfr => ?_
  refine wl_nil (hK3 _ _ ?_)
  refine wc_cond_f hfr rfl ?_
  refine wc_skip ?_
  refine hK2 _ _ ?_
  refine wc_seq_k fun K4 hK4 => ?_
  refine wc_of_dr (by kernel_rfl) ?_
  have hfr : Fr 19 [(0, _), (1, _), (2, _), (3, _), (4, _), (6, _), (7, _), (8, _), (9, _), (10, _), (11, _), (12, _)] [] a := hfr.pick [0, 1, 2, 3, 4, 6, 7, 8, 9, 10, 11, 12]
  refine wc_phases' 4 [[], [], [], []] (fun i => match i with | 0 => pv (.agg #[.int .i64 rl.answer, .int .i64 rl.cooling, .int .i64 rl.settle, .int .i64 rl.reverse]) | 1 => pv (.agg #[.int .i64 cl.number, .int .i64 cl.frm, .int .i64 cl.to, .int .i64 cl.holder, .int .i64 cl.asked, .bool cl.backed]) | 2 => pm (fun b : Nat => .map (some b)) (fun b => [mapE b duesKV]) (fun _ => True) | 3 => pm (fun b : Nat => .map (some b)) (fun b => [mapE b effAll]) (fun _ => True) | _ => fun _ _ => False) hfr hst (by kernel_rfl) (by kernel_rfl) ?_ ?_
  · intro i hi
    match i, hi with
    | 0, _ =>
      intro w hst
      exact OpV.g (v_load_all (hst.get (k := 1) rfl) rfl (Try.isAgg29 _) (Try.sizeOf29 _))
    | 1, _ =>
      intro w hst
      exact OpV.g (v_load_all (hst.get (k := 0) rfl) rfl (Try.isAgg31 _) (Try.sizeOf31 _))
    | 2, _ =>
      intro w hst
      exact g_callm Try.call58 rfl (dues_ok _)
    | 3, _ =>
      intro w hst
      exact g_callm Try.call59 rfl (effects_ok _)
  rintro _ _ ⟨rfl, rfl⟩ _ _ ⟨rfl, rfl⟩ _ _ ⟨b_d, rfl, -, rfl⟩ _ _ ⟨b_e, rfl, -, rfl⟩ a w4 hfr hst
  have hfr : Fr 19 [(13, _), (14, _), (15, _), (16, _), (0, _), (1, _), (2, _), (3, _), (4, _), (6, _), (7, _), (8, _), (9, _), (10, _), (11, _), (12, _)] [] a := hfr
  have hst : St No w0 [_, _, _, _] w4 := hst
  refine wl_v hfr (by decide) (v_build (v := .agg #[.int .i64 rl.answer, .int .i64 rl.cooling, .int .i64 rl.settle, .int .i64 rl.reverse, .int .i64 cl.number, .int .i64 cl.frm, .int .i64 cl.to, .int .i64 cl.holder, .int .i64 cl.asked, .bool cl.backed, .map (some b_d), .map (some b_e), .slice none 0 0]) rfl (by kernel_rfl)) fun a hfr => ?_
  refine wl_box hfr hst (by decide) rfl (cs := [.int .i64 rl.answer, .int .i64 rl.cooling, .int .i64 rl.settle, .int .i64 rl.reverse, .int .i64 cl.number, .int .i64 cl.frm, .int .i64 cl.to, .int .i64 cl.holder, .int .i64 cl.asked, .bool cl.backed, .map (some b_d), .map (some b_e), .slice none 0 0]) rfl fun a w5 hfr hst => ?_
  refine wl_v hfr (by decide) (v_assign rfl) fun a hfr => ?_
  refine wl_v hfr (by decide) (v_assign rfl) fun a hfr => ?_
  refine wl_nil ?_
  refine hK4 _ _ ?_
  have hfr : Fr 19 [(0, _), (1, _), (2, _), (3, _), (4, _), (8, _), (9, _), (10, _), (11, _), (12, _), (6, _), (7, _)] [] a := hfr.pick [0, 1, 2, 3, 4, 8, 9, 10, 11, 12, 6, 7]
  refine wc_ret ?_
  refine fin_ret hfr Try.results39 (resAre_tmp rfl (resAre_tmp rfl resAre_nil)) ?_
  exact ⟨⟨w4.heap.size, b_d, b_e⟩, rfl, trivial, hst.ext, St.out (E := machEnts ⟨w4.heap.size, b_d, b_e⟩ rl cl (.slice none 0 0)) (H := [blk w1.heap.size [.int .i64 cl.number, .int .i64 cl.frm, .int .i64 cl.to, .int .i64 cl.holder, .int .i64 cl.asked, .bool cl.backed] 31, blk w0.heap.size [.int .i64 rl.answer, .int .i64 rl.cooling, .int .i64 rl.settle, .int .i64 rl.reverse] 29]) hst⟩

theorem St_keepm {w0 w : World} {H : List Ent} {b : Nat} {kvs : List (Value × Value)} (hst : St No w0 H w) (h : (mapE b kvs).ok w0) : (mapE b kvs).ok w :=
  hst.keep h fun k hk => by obtain ⟨es, cl, h1, _⟩ := h; cases hk; exact (Array.getElem?_eq_some_iff.1 h1).1

/-- (*dialtone/claim.machine).begins -/
theorem begins_1 (rl : Rul) (cl : Clm) (x : Mach) (v : Value) (since : Int) (w0 : World) (hm : (machBlk x rl cl v).ok w0) (hd : (mapE x.dm duesKV).ok w0) (hr : areValid rl = true) (h0 : 0 ≤ since) (h1 : since ≤ 30000000) :
    Ret Try.prog 61 #[.pointer (some ⟨x.bm, 0, none⟩), .int .i64 1, .int .i64 since] w0 fun v w => v = (begins rl 1 since).val ∧ Ext No w0 w := by
  have hr := areValid_le hr
  refine ret_of Try.func61 rfl Try.ntmps61 (Nat.le_of_ble_eq_true rfl) fun a hfr => ?_
  have hfr : Fr 34 [(0, _), (1, _), (2, _)] [] a := hfr
  have hst : St No w0 [] w0 := St.init w0
  refine wc_seq_region fun K1 hK1 => ?_
  refine wl_alloc hfr hst (by decide) (Try.zeroValue39 _) (cs := [.int .i64 0, .int .i64 0, .int .i64 0]) rfl fun a w1 hfr hst => ?_
  refine wl_nil (hK1 _ _ ?_)
  refine wc_seq_region fun K2 hK2 => ?_
  refine wl_v hfr (by decide) (v_move rfl) fun a hfr => ?_
  refine wl_v hfr (by decide) (v_move rfl) fun a hfr => ?_
  refine wl_v hfr (by decide) (v_build (v := .agg #[.int .i64 1, .int .i64 since, .int .i64 (-1)]) rfl (by kernel_rfl)) fun a hfr => ?_
  refine wl_alloc hfr hst (by decide) (Try.zeroValue39 _) (cs := [.int .i64 0, .int .i64 0, .int .i64 0]) rfl fun a w2 hfr hst => ?_
  refine wl_store 0 hfr hst rfl rfl rfl (Try.sizeOf39 _) rfl (Nat.le_of_ble_eq_true rfl) (ds := [.int .i64 1, .int .i64 since, .int .i64 (-1)]) rfl rfl fun a w3 hfr hst => ?_
  refine wl_nil (hK2 _ _ ?_)
  refine wc_seq_k fun K3 hK3 => ?_
  refine wc_seq_region fun K4 hK4 => ?_
  refine wl_v hfr (by decide) (v_move rfl) fun a hfr => ?_
  refine wl_v hfr (by decide) (v_nilCheck rfl) fun a hfr => ?_
  refine wl_v hfr (by decide) (v_fieldAddr (v := .pointer (some ⟨x.bm, 10, none⟩)) rfl (by kernel_rfl)) fun a hfr => ?_
  refine wl_v hfr (by decide) (v_load_blk1 (hst.keepb hm) rfl (Try.isAgg92 _) rfl) fun a hfr => ?_
  refine wl_v hfr (by decide) (v_move rfl) fun a hfr => ?_
  refine wl_v hfr (by decide) (v_lookup rfl rfl (look_dues_1 (St_keepm hst hd))) fun a hfr => ?_
  refine wl_v hfr (by decide) (v_move rfl) fun a hfr => ?_
  refine wl_v hfr (by decide) (v_extract rfl rfl) fun a hfr => ?_
  refine wl_v hfr (by decide) (v_extract rfl rfl) fun a hfr => ?_
  refine wl_alloc hfr hst (by decide) (Try.zeroValue123 _) (cs := [.nilFunc, .int .i64 0]) rfl fun a w4 hfr hst => ?_
  refine wl_store 0 hfr hst rfl rfl rfl (Try.sizeOf123 _) rfl (Nat.le_of_ble_eq_true rfl) (ds := [.func (.func 87) #[] #[], .int .i64 3]) rfl rfl fun a w5 hfr hst => ?_
  refine wl_v hfr (by decide) (v_assign rfl) fun a hfr => ?_
  refine wl_nil (hK4 _ _ ?_)
  have hfr : Fr 34 [(0, _), (1, _), (2, _), (6, _), (10, _), (11, _), (12, _), (7, _), (8, _), (9, _)] [] a := hfr.pick [0, 1, 2, 6, 10, 11, 12, 7, 8, 9]
  refine wc_seq_region fun K5 hK5 => ?_
  refine wl_v hfr (by decide) (v_move rfl) fun a hfr => ?_
  refine wl_nil (hK5 _ _ ?_)
  refine wc_cond_t hfr rfl ?_
  refine wc_of_dr (by kernel_rfl) ?_
  have hfr : Fr 34 [(0, _), (1, _), (2, _), (6, _), (10, _), (11, _), (12, _), (7, _), (8, _), (9, _), (22, _)] [] a := hfr.pick [0, 1, 2, 6, 10, 11, 12, 7, 8, 9, 22]
  refine wc_phases' 9 [[], [], [1], [], [3], [4], [5], [2, 6], [0, 7]] (fun i => match i with | 0 => pv (.int .i64 since) | 1 => pv (.pointer (some ⟨w3.heap.size, 0, none⟩)) | 2 => pv (.func (.func 87) #[] #[]) | 3 => pv (.pointer (some ⟨x.bm, 0, none⟩)) | 4 => pv (.pointer (some ⟨x.bm, 0, none⟩)) | 5 => pv (.pointer (some ⟨x.bm, 0, none⟩)) | 6 => pv (.agg #[.int .i64 rl.answer, .int .i64 rl.cooling, .int .i64 rl.settle, .int .i64 rl.reverse]) | 7 => pv (.int .i64 rl.answer) | 8 => pv (.int .i64 (since + rl.answer)) | _ => fun _ _ => False) hfr hst (by kernel_rfl) (by kernel_rfl) ?_ ?_
  · intro i hi
    match i, hi with
    | 0, _ =>
      intro w hst
      exact OpV.g (v_move rfl)
    | 1, _ =>
      intro w hst
      exact OpV.g (v_fieldAddr (v := .pointer (some ⟨w3.heap.size, 0, none⟩)) rfl (by kernel_rfl))
    | 2, _ =>
      rintro _ _ ⟨rfl, rfl⟩
      intro w hst
      exact OpV.g (v_load_blk1 (hst.get (k := 0) rfl) rfl (Try.isAgg121 _) rfl)
    | 3, _ =>
      intro w hst
      exact OpV.g (v_move rfl)
    | 4, _ =>
      rintro _ _ ⟨rfl, rfl⟩
      intro w hst
      exact OpV.g (v_nilCheck rfl)
    | 5, _ =>
      rintro _ _ ⟨rfl, rfl⟩
      intro w hst
      exact OpV.g (v_fieldAddr (v := .pointer (some ⟨x.bm, 0, none⟩)) rfl (by kernel_rfl))
    | 6, _ =>
      rintro _ _ ⟨rfl, rfl⟩
      intro w hst
      exact OpV.g (v_load_blk (ds := [.int .i64 rl.answer, .int .i64 rl.cooling, .int .i64 rl.settle, .int .i64 rl.reverse]) (hst.keepb hm) rfl (Try.isAgg83 _) (Try.sizeOf83 _) rfl)
    | 7, _ =>
      rintro _ _ ⟨rfl, rfl⟩ _ _ ⟨rfl, rfl⟩
      intro w hst
      exact g_callvp rfl Try.call87 rfl (rule_answer_ok _ _ _ _ _)
    | 8, _ =>
      rintro _ _ ⟨rfl, rfl⟩ _ _ ⟨rfl, rfl⟩
      intro w hst
      exact OpV.g (v_add rfl rfl ⟨by omega, by omega⟩)
  rintro _ _ ⟨rfl, rfl⟩ _ _ ⟨rfl, rfl⟩ _ _ ⟨rfl, rfl⟩ _ _ ⟨rfl, rfl⟩ _ _ ⟨rfl, rfl⟩ _ _ ⟨rfl, rfl⟩ _ _ ⟨rfl, rfl⟩ _ _ ⟨rfl, rfl⟩ _ _ ⟨rfl, rfl⟩ a w6 hfr hst
  have hfr : Fr 34 [(23, _), (24, _), (25, _), (26, _), (27, _), (28, _), (29, _), (30, _), (31, _), (0, _), (1, _), (2, _), (6, _), (10, _), (11, _), (12, _), (7, _), (8, _), (9, _), (22, _)] [] a := hfr
  have hst : St No w0 [_, _, _] w6 := hst
  refine wl_v hfr (by decide) (v_fieldAddr (v := .pointer (some ⟨w1.heap.size, 2, none⟩)) rfl (by kernel_rfl)) fun a hfr => ?_
  refine wl_store 1 hfr hst rfl rfl rfl (Try.sizeOf3 _) rfl (Nat.le_of_ble_eq_true rfl) (ds := [.int .i64 1, .int .i64 since, .int .i64 (since + rl.answer)]) rfl rfl fun a w7 hfr hst => ?_
  refine wl_nil ?_
  refine hK3 _ _ ?_
  have hfr : Fr 34 [(0, _), (1, _), (2, _), (6, _), (10, _), (11, _), (12, _), (7, _), (8, _), (9, _), (22, _)] [] a := hfr.pick [0, 1, 2, 6, 10, 11, 12, 7, 8, 9, 22]
  refine wc_seq_region fun K6 hK6 => ?_
  refine wl_v hfr (by decide) (v_load_all (hst.get (k := 1) rfl) rfl (Try.isAgg39 _) (Try.sizeOf39 _)) fun a hfr => ?_
  refine wl_store 2 hfr hst rfl rfl rfl (Try.sizeOf39 _) rfl (Nat.le_of_ble_eq_true rfl) (ds := [.int .i64 1, .int .i64 since, .int .i64 (since + rl.answer)]) rfl rfl fun a w8 hfr hst => ?_
  refine wl_nil (hK6 _ _ ?_)
  refine wc_ret ?_
  refine fin_ret hfr Try.results61 (resAre_cell rfl (res_all (hst.get (k := 2) rfl) (Try.isAgg39 _) (Try.sizeOf39 _)) resAre_nil) ?_
  exact ⟨by rfl, hst.ext⟩

/-- (*dialtone/claim.machine).begins -/
theorem begins_2 (rl : Rul) (cl : Clm) (x : Mach) (v : Value) (since : Int) (w0 : World) (hm : (machBlk x rl cl v).ok w0) (hd : (mapE x.dm duesKV).ok w0) (hr : areValid rl = true) (h0 : 0 ≤ since) (h1 : since ≤ 30000000) :
    Ret Try.prog 61 #[.pointer (some ⟨x.bm, 0, none⟩), .int .i64 2, .int .i64 since] w0 fun v w => v = (begins rl 2 since).val ∧ Ext No w0 w := by
  have hr := areValid_le hr
  refine ret_of Try.func61 rfl Try.ntmps61 (Nat.le_of_ble_eq_true rfl) fun a hfr => ?_
  have hfr : Fr 34 [(0, _), (1, _), (2, _)] [] a := hfr
  have hst : St No w0 [] w0 := St.init w0
  refine wc_seq_region fun K1 hK1 => ?_
  refine wl_alloc hfr hst (by decide) (Try.zeroValue39 _) (cs := [.int .i64 0, .int .i64 0, .int .i64 0]) rfl fun a w1 hfr hst => ?_
  refine wl_nil (hK1 _ _ ?_)
  refine wc_seq_region fun K2 hK2 => ?_
  refine wl_v hfr (by decide) (v_move rfl) fun a hfr => ?_
  refine wl_v hfr (by decide) (v_move rfl) fun a hfr => ?_
  refine wl_v hfr (by decide) (v_build (v := .agg #[.int .i64 2, .int .i64 since, .int .i64 (-1)]) rfl (by kernel_rfl)) fun a hfr => ?_
  refine wl_alloc hfr hst (by decide) (Try.zeroValue39 _) (cs := [.int .i64 0, .int .i64 0, .int .i64 0]) rfl fun a w2 hfr hst => ?_
  refine wl_store 0 hfr hst rfl rfl rfl (Try.sizeOf39 _) rfl (Nat.le_of_ble_eq_true rfl) (ds := [.int .i64 2, .int .i64 since, .int .i64 (-1)]) rfl rfl fun a w3 hfr hst => ?_
  refine wl_nil (hK2 _ _ ?_)
  refine wc_seq_k fun K3 hK3 => ?_
  refine wc_seq_region fun K4 hK4 => ?_
  refine wl_v hfr (by decide) (v_move rfl) fun a hfr => ?_
  refine wl_v hfr (by decide) (v_nilCheck rfl) fun a hfr => ?_
  refine wl_v hfr (by decide) (v_fieldAddr (v := .pointer (some ⟨x.bm, 10, none⟩)) rfl (by kernel_rfl)) fun a hfr => ?_
  refine wl_v hfr (by decide) (v_load_blk1 (hst.keepb hm) rfl (Try.isAgg92 _) rfl) fun a hfr => ?_
  refine wl_v hfr (by decide) (v_move rfl) fun a hfr => ?_
  refine wl_v hfr (by decide) (v_lookup rfl rfl (look_dues_2 (St_keepm hst hd))) fun a hfr => ?_
  refine wl_v hfr (by decide) (v_move rfl) fun a hfr => ?_
  refine wl_v hfr (by decide) (v_extract rfl rfl) fun a hfr => ?_
  refine wl_v hfr (by decide) (v_extract rfl rfl) fun a hfr => ?_
  refine wl_alloc hfr hst (by decide) (Try.zeroValue123 _) (cs := [.nilFunc, .int .i64 0]) rfl fun a w4 hfr hst => ?_
  refine wl_store 0 hfr hst rfl rfl rfl (Try.sizeOf123 _) rfl (Nat.le_of_ble_eq_true rfl) (ds := [.func (.func 88) #[] #[], .int .i64 3]) rfl rfl fun a w5 hfr hst => ?_
  refine wl_v hfr (by decide) (v_assign rfl) fun a hfr => ?_
  refine wl_nil (hK4 _ _ ?_)
  have hfr : Fr 34 [(0, _), (1, _), (2, _), (6, _), (10, _), (11, _), (12, _), (7, _), (8, _), (9, _)] [] a := hfr.pick [0, 1, 2, 6, 10, 11, 12, 7, 8, 9]
  refine wc_seq_region fun K5 hK5 => ?_
  refine wl_v hfr (by decide) (v_move rfl) fun a hfr => ?_
  refine wl_nil (hK5 _ _ ?_)
  refine wc_cond_t hfr rfl ?_
  refine wc_of_dr (by kernel_rfl) ?_
  have hfr : Fr 34 [(0, _), (1, _), (2, _), (6, _), (10, _), (11, _), (12, _), (7, _), (8, _), (9, _), (22, _)] [] a := hfr.pick [0, 1, 2, 6, 10, 11, 12, 7, 8, 9, 22]
  refine wc_phases' 9 [[], [], [1], [], [3], [4], [5], [2, 6], [0, 7]] (fun i => match i with | 0 => pv (.int .i64 since) | 1 => pv (.pointer (some ⟨w3.heap.size, 0, none⟩)) | 2 => pv (.func (.func 88) #[] #[]) | 3 => pv (.pointer (some ⟨x.bm, 0, none⟩)) | 4 => pv (.pointer (some ⟨x.bm, 0, none⟩)) | 5 => pv (.pointer (some ⟨x.bm, 0, none⟩)) | 6 => pv (.agg #[.int .i64 rl.answer, .int .i64 rl.cooling, .int .i64 rl.settle, .int .i64 rl.reverse]) | 7 => pv (.int .i64 rl.settle) | 8 => pv (.int .i64 (since + rl.settle)) | _ => fun _ _ => False) hfr hst (by kernel_rfl) (by kernel_rfl) ?_ ?_
  · intro i hi
    match i, hi with
    | 0, _ =>
      intro w hst
      exact OpV.g (v_move rfl)
    | 1, _ =>
      intro w hst
      exact OpV.g (v_fieldAddr (v := .pointer (some ⟨w3.heap.size, 0, none⟩)) rfl (by kernel_rfl))
    | 2, _ =>
      rintro _ _ ⟨rfl, rfl⟩
      intro w hst
      exact OpV.g (v_load_blk1 (hst.get (k := 0) rfl) rfl (Try.isAgg121 _) rfl)
    | 3, _ =>
      intro w hst
      exact OpV.g (v_move rfl)
    | 4, _ =>
      rintro _ _ ⟨rfl, rfl⟩
      intro w hst
      exact OpV.g (v_nilCheck rfl)
    | 5, _ =>
      rintro _ _ ⟨rfl, rfl⟩
      intro w hst
      exact OpV.g (v_fieldAddr (v := .pointer (some ⟨x.bm, 0, none⟩)) rfl (by kernel_rfl))
    | 6, _ =>
      rintro _ _ ⟨rfl, rfl⟩
      intro w hst
      exact OpV.g (v_load_blk (ds := [.int .i64 rl.answer, .int .i64 rl.cooling, .int .i64 rl.settle, .int .i64 rl.reverse]) (hst.keepb hm) rfl (Try.isAgg83 _) (Try.sizeOf83 _) rfl)
    | 7, _ =>
      rintro _ _ ⟨rfl, rfl⟩ _ _ ⟨rfl, rfl⟩
      intro w hst
      exact g_callvp rfl Try.call88 rfl (rule_settle_ok _ _ _ _ _)
    | 8, _ =>
      rintro _ _ ⟨rfl, rfl⟩ _ _ ⟨rfl, rfl⟩
      intro w hst
      exact OpV.g (v_add rfl rfl ⟨by omega, by omega⟩)
  rintro _ _ ⟨rfl, rfl⟩ _ _ ⟨rfl, rfl⟩ _ _ ⟨rfl, rfl⟩ _ _ ⟨rfl, rfl⟩ _ _ ⟨rfl, rfl⟩ _ _ ⟨rfl, rfl⟩ _ _ ⟨rfl, rfl⟩ _ _ ⟨rfl, rfl⟩ _ _ ⟨rfl, rfl⟩ a w6 hfr hst
  have hfr : Fr 34 [(23, _), (24, _), (25, _), (26, _), (27, _), (28, _), (29, _), (30, _), (31, _), (0, _), (1, _), (2, _), (6, _), (10, _), (11, _), (12, _), (7, _), (8, _), (9, _), (22, _)] [] a := hfr
  have hst : St No w0 [_, _, _] w6 := hst
  refine wl_v hfr (by decide) (v_fieldAddr (v := .pointer (some ⟨w1.heap.size, 2, none⟩)) rfl (by kernel_rfl)) fun a hfr => ?_
  refine wl_store 1 hfr hst rfl rfl rfl (Try.sizeOf3 _) rfl (Nat.le_of_ble_eq_true rfl) (ds := [.int .i64 2, .int .i64 since, .int .i64 (since + rl.settle)]) rfl rfl fun a w7 hfr hst => ?_
  refine wl_nil ?_
  refine hK3 _ _ ?_
  have hfr : Fr 34 [(0, _), (1, _), (2, _), (6, _), (10, _), (11, _), (12, _), (7, _), (8, _), (9, _), (22, _)] [] a := hfr.pick [0, 1, 2, 6, 10, 11, 12, 7, 8, 9, 22]
  refine wc_seq_region fun K6 hK6 => ?_
  refine wl_v hfr (by decide) (v_load_all (hst.get (k := 1) rfl) rfl (Try.isAgg39 _) (Try.sizeOf39 _)) fun a hfr => ?_
  refine wl_store 2 hfr hst rfl rfl rfl (Try.sizeOf39 _) rfl (Nat.le_of_ble_eq_true rfl) (ds := [.int .i64 2, .int .i64 since, .int .i64 (since + rl.settle)]) rfl rfl fun a w8 hfr hst => ?_
  refine wl_nil (hK6 _ _ ?_)
  refine wc_ret ?_
  refine fin_ret hfr Try.results61 (resAre_cell rfl (res_all (hst.get (k := 2) rfl) (Try.isAgg39 _) (Try.sizeOf39 _)) resAre_nil) ?_
  exact ⟨by rfl, hst.ext⟩

/-- (*dialtone/claim.machine).begins -/
theorem begins_3 (rl : Rul) (cl : Clm) (x : Mach) (v : Value) (since : Int) (w0 : World) (hm : (machBlk x rl cl v).ok w0) (hd : (mapE x.dm duesKV).ok w0) (hr : areValid rl = true) (h0 : 0 ≤ since) (h1 : since ≤ 30000000) :
    Ret Try.prog 61 #[.pointer (some ⟨x.bm, 0, none⟩), .int .i64 3, .int .i64 since] w0 fun v w => v = (begins rl 3 since).val ∧ Ext No w0 w := by
  have hr := areValid_le hr
  refine ret_of Try.func61 rfl Try.ntmps61 (Nat.le_of_ble_eq_true rfl) fun a hfr => ?_
  have hfr : Fr 34 [(0, _), (1, _), (2, _)] [] a := hfr
  have hst : St No w0 [] w0 := St.init w0
  refine wc_seq_region fun K1 hK1 => ?_
  refine wl_alloc hfr hst (by decide) (Try.zeroValue39 _) (cs := [.int .i64 0, .int .i64 0, .int .i64 0]) rfl fun a w1 hfr hst => ?_
  refine wl_nil (hK1 _ _ ?_)
  refine wc_seq_region fun K2 hK2 => ?_
  refine wl_v hfr (by decide) (v_move rfl) fun a hfr => ?_
  refine wl_v hfr (by decide) (v_move rfl) fun a hfr => ?_
  refine wl_v hfr (by decide) (v_build (v := .agg #[.int .i64 3, .int .i64 since, .int .i64 (-1)]) rfl (by kernel_rfl)) fun a hfr => ?_
  refine wl_alloc hfr hst (by decide) (Try.zeroValue39 _) (cs := [.int .i64 0, .int .i64 0, .int .i64 0]) rfl fun a w2 hfr hst => ?_
  refine wl_store 0 hfr hst rfl rfl rfl (Try.sizeOf39 _) rfl (Nat.le_of_ble_eq_true rfl) (ds := [.int .i64 3, .int .i64 since, .int .i64 (-1)]) rfl rfl fun a w3 hfr hst => ?_
  refine wl_nil (hK2 _ _ ?_)
  refine wc_seq_k fun K3 hK3 => ?_
  refine wc_seq_region fun K4 hK4 => ?_
  refine wl_v hfr (by decide) (v_move rfl) fun a hfr => ?_
  refine wl_v hfr (by decide) (v_nilCheck rfl) fun a hfr => ?_
  refine wl_v hfr (by decide) (v_fieldAddr (v := .pointer (some ⟨x.bm, 10, none⟩)) rfl (by kernel_rfl)) fun a hfr => ?_
  refine wl_v hfr (by decide) (v_load_blk1 (hst.keepb hm) rfl (Try.isAgg92 _) rfl) fun a hfr => ?_
  refine wl_v hfr (by decide) (v_move rfl) fun a hfr => ?_
  refine wl_v hfr (by decide) (v_lookup rfl rfl (look_dues_3 (St_keepm hst hd))) fun a hfr => ?_
  refine wl_v hfr (by decide) (v_move rfl) fun a hfr => ?_
  refine wl_v hfr (by decide) (v_extract rfl rfl) fun a hfr => ?_
  refine wl_v hfr (by decide) (v_extract rfl rfl) fun a hfr => ?_
  refine wl_alloc hfr hst (by decide) (Try.zeroValue123 _) (cs := [.nilFunc, .int .i64 0]) rfl fun a w4 hfr hst => ?_
  refine wl_store 0 hfr hst rfl rfl rfl (Try.sizeOf123 _) rfl (Nat.le_of_ble_eq_true rfl) (ds := [.func (.func 89) #[] #[], .int .i64 4]) rfl rfl fun a w5 hfr hst => ?_
  refine wl_v hfr (by decide) (v_assign rfl) fun a hfr => ?_
  refine wl_nil (hK4 _ _ ?_)
  have hfr : Fr 34 [(0, _), (1, _), (2, _), (6, _), (10, _), (11, _), (12, _), (7, _), (8, _), (9, _)] [] a := hfr.pick [0, 1, 2, 6, 10, 11, 12, 7, 8, 9]
  refine wc_seq_region fun K5 hK5 => ?_
  refine wl_v hfr (by decide) (v_move rfl) fun a hfr => ?_
  refine wl_nil (hK5 _ _ ?_)
  refine wc_cond_t hfr rfl ?_
  refine wc_of_dr (by kernel_rfl) ?_
  have hfr : Fr 34 [(0, _), (1, _), (2, _), (6, _), (10, _), (11, _), (12, _), (7, _), (8, _), (9, _), (22, _)] [] a := hfr.pick [0, 1, 2, 6, 10, 11, 12, 7, 8, 9, 22]
  refine wc_phases' 9 [[], [], [1], [], [3], [4], [5], [2, 6], [0, 7]] (fun i => match i with | 0 => pv (.int .i64 since) | 1 => pv (.pointer (some ⟨w3.heap.size, 0, none⟩)) | 2 => pv (.func (.func 89) #[] #[]) | 3 => pv (.pointer (some ⟨x.bm, 0, none⟩)) | 4 => pv (.pointer (some ⟨x.bm, 0, none⟩)) | 5 => pv (.pointer (some ⟨x.bm, 0, none⟩)) | 6 => pv (.agg #[.int .i64 rl.answer, .int .i64 rl.cooling, .int .i64 rl.settle, .int .i64 rl.reverse]) | 7 => pv (.int .i64 rl.cooling) | 8 => pv (.int .i64 (since + rl.cooling)) | _ => fun _ _ => False) hfr hst (by kernel_rfl) (by kernel_rfl) ?_ ?_
  · intro i hi
    match i, hi with
    | 0, _ =>
      intro w hst
      exact OpV.g (v_move rfl)
    | 1, _ =>
      intro w hst
      exact OpV.g (v_fieldAddr (v := .pointer (some ⟨w3.heap.size, 0, none⟩)) rfl (by kernel_rfl))
    | 2, _ =>
      rintro _ _ ⟨rfl, rfl⟩
      intro w hst
      exact OpV.g (v_load_blk1 (hst.get (k := 0) rfl) rfl (Try.isAgg121 _) rfl)
    | 3, _ =>
      intro w hst
      exact OpV.g (v_move rfl)
    | 4, _ =>
      rintro _ _ ⟨rfl, rfl⟩
      intro w hst
      exact OpV.g (v_nilCheck rfl)
    | 5, _ =>
      rintro _ _ ⟨rfl, rfl⟩
      intro w hst
      exact OpV.g (v_fieldAddr (v := .pointer (some ⟨x.bm, 0, none⟩)) rfl (by kernel_rfl))
    | 6, _ =>
      rintro _ _ ⟨rfl, rfl⟩
      intro w hst
      exact OpV.g (v_load_blk (ds := [.int .i64 rl.answer, .int .i64 rl.cooling, .int .i64 rl.settle, .int .i64 rl.reverse]) (hst.keepb hm) rfl (Try.isAgg83 _) (Try.sizeOf83 _) rfl)
    | 7, _ =>
      rintro _ _ ⟨rfl, rfl⟩ _ _ ⟨rfl, rfl⟩
      intro w hst
      exact g_callvp rfl Try.call89 rfl (rule_cooling_ok _ _ _ _ _)
    | 8, _ =>
      rintro _ _ ⟨rfl, rfl⟩ _ _ ⟨rfl, rfl⟩
      intro w hst
      exact OpV.g (v_add rfl rfl ⟨by omega, by omega⟩)
  rintro _ _ ⟨rfl, rfl⟩ _ _ ⟨rfl, rfl⟩ _ _ ⟨rfl, rfl⟩ _ _ ⟨rfl, rfl⟩ _ _ ⟨rfl, rfl⟩ _ _ ⟨rfl, rfl⟩ _ _ ⟨rfl, rfl⟩ _ _ ⟨rfl, rfl⟩ _ _ ⟨rfl, rfl⟩ a w6 hfr hst
  have hfr : Fr 34 [(23, _), (24, _), (25, _), (26, _), (27, _), (28, _), (29, _), (30, _), (31, _), (0, _), (1, _), (2, _), (6, _), (10, _), (11, _), (12, _), (7, _), (8, _), (9, _), (22, _)] [] a := hfr
  have hst : St No w0 [_, _, _] w6 := hst
  refine wl_v hfr (by decide) (v_fieldAddr (v := .pointer (some ⟨w1.heap.size, 2, none⟩)) rfl (by kernel_rfl)) fun a hfr => ?_
  refine wl_store 1 hfr hst rfl rfl rfl (Try.sizeOf3 _) rfl (Nat.le_of_ble_eq_true rfl) (ds := [.int .i64 3, .int .i64 since, .int .i64 (since + rl.cooling)]) rfl rfl fun a w7 hfr hst => ?_
  refine wl_nil ?_
  refine hK3 _ _ ?_
  have hfr : Fr 34 [(0, _), (1, _), (2, _), (6, _), (10, _), (11, _), (12, _), (7, _), (8, _), (9, _), (22, _)] [] a := hfr.pick [0, 1, 2, 6, 10, 11, 12, 7, 8, 9, 22]
  refine wc_seq_region fun K6 hK6 => ?_
  refine wl_v hfr (by decide) (v_load_all (hst.get (k := 1) rfl) rfl (Try.isAgg39 _) (Try.sizeOf39 _)) fun a hfr => ?_
  refine wl_store 2 hfr hst rfl rfl rfl (Try.sizeOf39 _) rfl (Nat.le_of_ble_eq_true rfl) (ds := [.int .i64 3, .int .i64 since, .int .i64 (since + rl.cooling)]) rfl rfl fun a w8 hfr hst => ?_
  refine wl_nil (hK6 _ _ ?_)
  refine wc_ret ?_
  refine fin_ret hfr Try.results61 (resAre_cell rfl (res_all (hst.get (k := 2) rfl) (Try.isAgg39 _) (Try.sizeOf39 _)) resAre_nil) ?_
  exact ⟨by rfl, hst.ext⟩

/-- (*dialtone/claim.machine).begins -/
theorem begins_4 (rl : Rul) (cl : Clm) (x : Mach) (v : Value) (since : Int) (w0 : World) (hm : (machBlk x rl cl v).ok w0) (hd : (mapE x.dm duesKV).ok w0) (hr : areValid rl = true) (h0 : 0 ≤ since) (h1 : since ≤ 30000000) :
    Ret Try.prog 61 #[.pointer (some ⟨x.bm, 0, none⟩), .int .i64 4, .int .i64 since] w0 fun v w => v = (begins rl 4 since).val ∧ Ext No w0 w := by
  have hr := areValid_le hr
  refine ret_of Try.func61 rfl Try.ntmps61 (Nat.le_of_ble_eq_true rfl) fun a hfr => ?_
  have hfr : Fr 34 [(0, _), (1, _), (2, _)] [] a := hfr
  have hst : St No w0 [] w0 := St.init w0
  refine wc_seq_region fun K1 hK1 => ?_
  refine wl_alloc hfr hst (by decide) (Try.zeroValue39 _) (cs := [.int .i64 0, .int .i64 0, .int .i64 0]) rfl fun a w1 hfr hst => ?_
  refine wl_nil (hK1 _ _ ?_)
  refine wc_seq_region fun K2 hK2 => ?_
  refine wl_v hfr (by decide) (v_move rfl) fun a hfr => ?_
  refine wl_v hfr (by decide) (v_move rfl) fun a hfr => ?_
  refine wl_v hfr (by decide) (v_build (v := .agg #[.int .i64 4, .int .i64 since, .int .i64 (-1)]) rfl (by kernel_rfl)) fun a hfr => ?_
  refine wl_alloc hfr hst (by decide) (Try.zeroValue39 _) (cs := [.int .i64 0, .int .i64 0, .int .i64 0]) rfl fun a w2 hfr hst => ?_
  refine wl_store 0 hfr hst rfl rfl rfl (Try.sizeOf39 _) rfl (Nat.le_of_ble_eq_true rfl) (ds := [.int .i64 4, .int .i64 since, .int .i64 (-1)]) rfl rfl fun a w3 hfr hst => ?_
  refine wl_nil (hK2 _ _ ?_)
  refine wc_seq_k fun K3 hK3 => ?_
  refine wc_seq_region fun K4 hK4 => ?_
  refine wl_v hfr (by decide) (v_move rfl) fun a hfr => ?_
  refine wl_v hfr (by decide) (v_nilCheck rfl) fun a hfr => ?_
  refine wl_v hfr (by decide) (v_fieldAddr (v := .pointer (some ⟨x.bm, 10, none⟩)) rfl (by kernel_rfl)) fun a hfr => ?_
  refine wl_v hfr (by decide) (v_load_blk1 (hst.keepb hm) rfl (Try.isAgg92 _) rfl) fun a hfr => ?_
  refine wl_v hfr (by decide) (v_move rfl) fun a hfr => ?_
  refine wl_v hfr (by decide) (v_lookup rfl rfl (look_dues_4 (St_keepm hst hd))) fun a hfr => ?_
  refine wl_v hfr (by decide) (v_move rfl) fun a hfr => ?_
  refine wl_v hfr (by decide) (v_extract rfl rfl) fun a hfr => ?_
  refine wl_v hfr (by decide) (v_extract rfl rfl) fun a hfr => ?_
  refine wl_alloc hfr hst (by decide) (Try.zeroValue123 _) (cs := [.nilFunc, .int .i64 0]) rfl fun a w4 hfr hst => ?_
  refine wl_store 0 hfr hst rfl rfl rfl (Try.sizeOf123 _) rfl (Nat.le_of_ble_eq_true rfl) (ds := [.func (.func 90) #[] #[], .int .i64 5]) rfl rfl fun a w5 hfr hst => ?_
  refine wl_v hfr (by decide) (v_assign rfl) fun a hfr => ?_
  refine wl_nil (hK4 _ _ ?_)
  have hfr : Fr 34 [(0, _), (1, _), (2, _), (6, _), (10, _), (11, _), (12, _), (7, _), (8, _), (9, _)] [] a := hfr.pick [0, 1, 2, 6, 10, 11, 12, 7, 8, 9]
  refine wc_seq_region fun K5 hK5 => ?_
  refine wl_v hfr (by decide) (v_move rfl) fun a hfr => ?_
  refine wl_nil (hK5 _ _ ?_)
  refine wc_cond_t hfr rfl ?_
  refine wc_of_dr (by kernel_rfl) ?_
  have hfr : Fr 34 [(0, _), (1, _), (2, _), (6, _), (10, _), (11, _), (12, _), (7, _), (8, _), (9, _), (22, _)] [] a := hfr.pick [0, 1, 2, 6, 10, 11, 12, 7, 8, 9, 22]
  refine wc_phases' 9 [[], [], [1], [], [3], [4], [5], [2, 6], [0, 7]] (fun i => match i with | 0 => pv (.int .i64 since) | 1 => pv (.pointer (some ⟨w3.heap.size, 0, none⟩)) | 2 => pv (.func (.func 90) #[] #[]) | 3 => pv (.pointer (some ⟨x.bm, 0, none⟩)) | 4 => pv (.pointer (some ⟨x.bm, 0, none⟩)) | 5 => pv (.pointer (some ⟨x.bm, 0, none⟩)) | 6 => pv (.agg #[.int .i64 rl.answer, .int .i64 rl.cooling, .int .i64 rl.settle, .int .i64 rl.reverse]) | 7 => pv (.int .i64 rl.reverse) | 8 => pv (.int .i64 (since + rl.reverse)) | _ => fun _ _ => False) hfr hst (by kernel_rfl) (by kernel_rfl) ?_ ?_
  · intro i hi
    match i, hi with
    | 0, _ =>
      intro w hst
      exact OpV.g (v_move rfl)
    | 1, _ =>
      intro w hst
      exact OpV.g (v_fieldAddr (v := .pointer (some ⟨w3.heap.size, 0, none⟩)) rfl (by kernel_rfl))
    | 2, _ =>
      rintro _ _ ⟨rfl, rfl⟩
      intro w hst
      exact OpV.g (v_load_blk1 (hst.get (k := 0) rfl) rfl (Try.isAgg121 _) rfl)
    | 3, _ =>
      intro w hst
      exact OpV.g (v_move rfl)
    | 4, _ =>
      rintro _ _ ⟨rfl, rfl⟩
      intro w hst
      exact OpV.g (v_nilCheck rfl)
    | 5, _ =>
      rintro _ _ ⟨rfl, rfl⟩
      intro w hst
      exact OpV.g (v_fieldAddr (v := .pointer (some ⟨x.bm, 0, none⟩)) rfl (by kernel_rfl))
    | 6, _ =>
      rintro _ _ ⟨rfl, rfl⟩
      intro w hst
      exact OpV.g (v_load_blk (ds := [.int .i64 rl.answer, .int .i64 rl.cooling, .int .i64 rl.settle, .int .i64 rl.reverse]) (hst.keepb hm) rfl (Try.isAgg83 _) (Try.sizeOf83 _) rfl)
    | 7, _ =>
      rintro _ _ ⟨rfl, rfl⟩ _ _ ⟨rfl, rfl⟩
      intro w hst
      exact g_callvp rfl Try.call90 rfl (rule_reverse_ok _ _ _ _ _)
    | 8, _ =>
      rintro _ _ ⟨rfl, rfl⟩ _ _ ⟨rfl, rfl⟩
      intro w hst
      exact OpV.g (v_add rfl rfl ⟨by omega, by omega⟩)
  rintro _ _ ⟨rfl, rfl⟩ _ _ ⟨rfl, rfl⟩ _ _ ⟨rfl, rfl⟩ _ _ ⟨rfl, rfl⟩ _ _ ⟨rfl, rfl⟩ _ _ ⟨rfl, rfl⟩ _ _ ⟨rfl, rfl⟩ _ _ ⟨rfl, rfl⟩ _ _ ⟨rfl, rfl⟩ a w6 hfr hst
  have hfr : Fr 34 [(23, _), (24, _), (25, _), (26, _), (27, _), (28, _), (29, _), (30, _), (31, _), (0, _), (1, _), (2, _), (6, _), (10, _), (11, _), (12, _), (7, _), (8, _), (9, _), (22, _)] [] a := hfr
  have hst : St No w0 [_, _, _] w6 := hst
  refine wl_v hfr (by decide) (v_fieldAddr (v := .pointer (some ⟨w1.heap.size, 2, none⟩)) rfl (by kernel_rfl)) fun a hfr => ?_
  refine wl_store 1 hfr hst rfl rfl rfl (Try.sizeOf3 _) rfl (Nat.le_of_ble_eq_true rfl) (ds := [.int .i64 4, .int .i64 since, .int .i64 (since + rl.reverse)]) rfl rfl fun a w7 hfr hst => ?_
  refine wl_nil ?_
  refine hK3 _ _ ?_
  have hfr : Fr 34 [(0, _), (1, _), (2, _), (6, _), (10, _), (11, _), (12, _), (7, _), (8, _), (9, _), (22, _)] [] a := hfr.pick [0, 1, 2, 6, 10, 11, 12, 7, 8, 9, 22]
  refine wc_seq_region fun K6 hK6 => ?_
  refine wl_v hfr (by decide) (v_load_all (hst.get (k := 1) rfl) rfl (Try.isAgg39 _) (Try.sizeOf39 _)) fun a hfr => ?_
  refine wl_store 2 hfr hst rfl rfl rfl (Try.sizeOf39 _) rfl (Nat.le_of_ble_eq_true rfl) (ds := [.int .i64 4, .int .i64 since, .int .i64 (since + rl.reverse)]) rfl rfl fun a w8 hfr hst => ?_
  refine wl_nil (hK6 _ _ ?_)
  refine wc_ret ?_
  refine fin_ret hfr Try.results61 (resAre_cell rfl (res_all (hst.get (k := 2) rfl) (Try.isAgg39 _) (Try.sizeOf39 _)) resAre_nil) ?_
  exact ⟨by rfl, hst.ext⟩

/-- (*dialtone/claim.machine).begins -/
theorem begins_no (s : Int) (hn : dueSec ⟨0, 0, 0, 0⟩ s = none) (rl : Rul) (cl : Clm) (x : Mach) (v : Value) (since : Int) (w0 : World) (hm : (machBlk x rl cl v).ok w0) (hd : (mapE x.dm duesKV).ok w0) (hr : areValid rl = true) (h0 : 0 ≤ since) (h1 : since ≤ 30000000) :
    Ret Try.prog 61 #[.pointer (some ⟨x.bm, 0, none⟩), .int .i64 s, .int .i64 since] w0 fun v w => v = .agg #[.int .i64 s, .int .i64 since, .int .i64 (-1)] ∧ Ext No w0 w := by
  refine ret_of Try.func61 rfl Try.ntmps61 (Nat.le_of_ble_eq_true rfl) fun a hfr => ?_
  have hfr : Fr 34 [(0, _), (1, _), (2, _)] [] a := hfr
  have hst : St No w0 [] w0 := St.init w0
  refine wc_seq_region fun K1 hK1 => ?_
  refine wl_alloc hfr hst (by decide) (Try.zeroValue39 _) (cs := [.int .i64 0, .int .i64 0, .int .i64 0]) rfl fun a w1 hfr hst => ?_
  refine wl_nil (hK1 _ _ ?_)
  refine wc_seq_region fun K2 hK2 => ?_
  refine wl_v hfr (by decide) (v_move rfl) fun a hfr => ?_
  refine wl_v hfr (by decide) (v_move rfl) fun a hfr => ?_
  refine wl_v hfr (by decide) (v_build (v := .agg #[.int .i64 s, .int .i64 since, .int .i64 (-1)]) rfl (by kernel_rfl)) fun a hfr => ?_
  refine wl_alloc hfr hst (by decide) (Try.zeroValue39 _) (cs := [.int .i64 0, .int .i64 0, .int .i64 0]) rfl fun a w2 hfr hst => ?_
  refine wl_store 0 hfr hst rfl rfl rfl (Try.sizeOf39 _) rfl (Nat.le_of_ble_eq_true rfl) (ds := [.int .i64 s, .int .i64 since, .int .i64 (-1)]) rfl rfl fun a w3 hfr hst => ?_
  refine wl_nil (hK2 _ _ ?_)
  refine wc_seq_k fun K3 hK3 => ?_
  refine wc_seq_region fun K4 hK4 => ?_
  refine wl_v hfr (by decide) (v_move rfl) fun a hfr => ?_
  refine wl_v hfr (by decide) (v_nilCheck rfl) fun a hfr => ?_
  refine wl_v hfr (by decide) (v_fieldAddr (v := .pointer (some ⟨x.bm, 10, none⟩)) rfl (by kernel_rfl)) fun a hfr => ?_
  refine wl_v hfr (by decide) (v_load_blk1 (hst.keepb hm) rfl (Try.isAgg92 _) rfl) fun a hfr => ?_
  refine wl_v hfr (by decide) (v_move rfl) fun a hfr => ?_
  refine wl_v hfr (by decide) (v_lookup rfl rfl (look_dues_no (St_keepm hst hd) hn)) fun a hfr => ?_
  refine wl_v hfr (by decide) (v_move rfl) fun a hfr => ?_
  refine wl_v hfr (by decide) (v_extract rfl rfl) fun a hfr => ?_
  refine wl_v hfr (by decide) (v_extract rfl rfl) fun a hfr => ?_
  refine wl_alloc hfr hst (by decide) (Try.zeroValue123 _) (cs := [.nilFunc, .int .i64 0]) rfl fun a w4 hfr hst => ?_
  refine wl_store 0 hfr hst rfl rfl rfl (Try.sizeOf123 _) rfl (Nat.le_of_ble_eq_true rfl) (ds := [.nilFunc, .int .i64 0]) rfl rfl fun a w5 hfr hst => ?_
  refine wl_v hfr (by decide) (v_assign rfl) fun a hfr => ?_
  refine wl_nil (hK4 _ _ ?_)
  have hfr : Fr 34 [(0, _), (1, _), (2, _), (6, _), (10, _), (11, _), (12, _), (7, _), (8, _), (9, _)] [] a := hfr.pick [0, 1, 2, 6, 10, 11, 12, 7, 8, 9]
  refine wc_seq_region fun K5 hK5 => ?_
  refine wl_v hfr (by decide) (v_move rfl) fun a hfr => ?_
  refine wl_nil (hK5 _ _ ?_)
  refine wc_cond_f hfr rfl ?_
  refine wc_skip ?_
  refine hK3 _ _ ?_
  refine wc_seq_region fun K6 hK6 => ?_
  refine wl_v hfr (by decide) (v_load_all (hst.get (k := 1) rfl) rfl (Try.isAgg39 _) (Try.sizeOf39 _)) fun a hfr => ?_
  refine wl_store 2 hfr hst rfl rfl rfl (Try.sizeOf39 _) rfl (Nat.le_of_ble_eq_true rfl) (ds := [.int .i64 s, .int .i64 since, .int .i64 (-1)]) rfl rfl fun a w6 hfr hst => ?_
  refine wl_nil (hK6 _ _ ?_)
  refine wc_ret ?_
  refine fin_ret hfr Try.results61 (resAre_cell rfl (res_all (hst.get (k := 2) rfl) (Try.isAgg39 _) (Try.sizeOf39 _)) resAre_nil) ?_
  exact ⟨by rfl, hst.ext⟩

theorem begins_ok (s : Int) (rl : Rul) (cl : Clm) (x : Mach) (v : Value) (since : Int) (w0 : World) (hm : (machBlk x rl cl v).ok w0) (hd : (mapE x.dm duesKV).ok w0) (hr : areValid rl = true) (h0 : 0 ≤ since) (h1 : since ≤ 30000000) : Ret Try.prog 61 #[.pointer (some ⟨x.bm, 0, none⟩), .int .i64 s, .int .i64 since] w0 fun v w => v = (begins rl s since).val ∧ Ext No w0 w := by
  by_cases h : s = 1
  · subst h; exact begins_1 rl cl x v since w0 hm hd hr h0 h1
  by_cases h : s = 2
  · subst h; exact begins_2 rl cl x v since w0 hm hd hr h0 h1
  by_cases h : s = 3
  · subst h; exact begins_3 rl cl x v since w0 hm hd hr h0 h1
  by_cases h : s = 4
  · subst h; exact begins_4 rl cl x v since w0 hm hd hr h0 h1
  have hv : (begins rl s since).val = .agg #[.int .i64 s, .int .i64 since, .int .i64 (-1)] := by simp [begins, dueSec, Stt.val, *]
  rw [hv]
  exact begins_no s (by simp [dueSec, *]) rl cl x v since w0 hm hd hr h0 h1

/-- (*dialtone/claim.machine).after -/
theorem after_ok (s : Int) (ev : Evt) (rl : Rul) (cl : Clm) (x : Mach) (v : Value) (w0 : World) (hm : (machBlk x rl cl v).ok w0) (he : (mapE x.em effAll).ok w0) :
    Ret Try.prog 63 #[.pointer (some ⟨x.bm, 0, none⟩), .int .i64 s, .agg #[.int .i64 ev.kind, .int .i64 ev.at_, .int .i64 ev.reason]] w0 fun v w => v = .tuple #[.int .i64 (after cl.backed s ev).1, .bool (after cl.backed s ev).2] ∧ Ext No w0 w := by
  refine ret_of Try.func63 rfl Try.ntmps63 (Nat.le_of_ble_eq_true rfl) fun a hfr => ?_
  have hfr : Fr 39 [(0, _), (1, _), (2, _)] [] a := hfr
  have hst : St No w0 [] w0 := St.init w0
  refine wc_seq_region fun K1 hK1 => ?_
  refine wl_box hfr hst (by decide) rfl (cs := [.int .i64 ev.kind, .int .i64 ev.at_, .int .i64 ev.reason]) rfl fun a w1 hfr hst => ?_
  refine wl_v hfr (by decide) (v_assign rfl) fun a hfr => ?_
  refine wl_v hfr (by decide) (v_assign rfl) fun a hfr => ?_
  refine wl_nil (hK1 _ _ ?_)
  refine wc_seq_k fun K2 hK2 => ?_
  refine wc_of_dr (by kernel_rfl) ?_
  have hfr : Fr 39 [(0, _), (1, _), (2, _), (5, _), (6, _), (7, _)] [] a := hfr.pick [0, 1, 2, 5, 6, 7]
  refine wc_phases' 13 [[], [0], [1], [2], [], [4], [], [5, 6], [3, 7], [8], [9], [9], [10]] (fun i => match i with | 0 => pv (.pointer (some ⟨x.bm, 0, none⟩)) | 1 => pv (.pointer (some ⟨x.bm, 0, none⟩)) | 2 => pv (.pointer (some ⟨x.bm, 11, none⟩)) | 3 => pv (.map (some x.em)) | 4 => pv (.pointer (some ⟨w0.heap.size, 0, none⟩)) | 5 => pv (.int .i64 ev.kind) | 6 => pv (.int .i64 s) | 7 => pv (.agg #[.int .i64 ev.kind, .int .i64 s]) | 8 => pv (.tuple #[.int .i64 ((effect ev.kind s).getD 0), .bool ((effect ev.kind s).isSome)]) | 9 => pv (.tuple #[.int .i64 ((effect ev.kind s).getD 0), .bool ((effect ev.kind s).isSome)]) | 10 => pv (.int .i64 ((effect ev.kind s).getD 0)) | 11 => pv (.bool ((effect ev.kind s).isSome)) | 12 => pv (.int .i64 ((effect ev.kind s).getD 0)) | _ => fun _ _ => False) hfr hst (by kernel_rfl) (by kernel_rfl) ?_ ?_
  · intro i hi
    match i, hi with
    | 0, _ =>
      intro w hst
      exact OpV.g (v_move rfl)
    | 1, _ =>
      rintro _ _ ⟨rfl, rfl⟩
      intro w hst
      exact OpV.g (v_nilCheck rfl)
    | 2, _ =>
      rintro _ _ ⟨rfl, rfl⟩
      intro w hst
      exact OpV.g (v_fieldAddr (v := .pointer (some ⟨x.bm, 11, none⟩)) rfl (by kernel_rfl))
    | 3, _ =>
      rintro _ _ ⟨rfl, rfl⟩
      intro w hst
      exact OpV.g (v_load_blk1 (hst.keepb hm) rfl (Try.isAgg93 _) rfl)
    | 4, _ =>
      intro w hst
      exact OpV.g (v_fieldAddr (v := .pointer (some ⟨w0.heap.size, 0, none⟩)) rfl (by kernel_rfl))
    | 5, _ =>
      rintro _ _ ⟨rfl, rfl⟩
      intro w hst
      exact OpV.g (v_load_blk1 (hst.get (k := 0) rfl) rfl (Try.isAgg3 _) rfl)
    | 6, _ =>
      intro w hst
      exact OpV.g (v_move rfl)
    | 7, _ =>
      rintro _ _ ⟨rfl, rfl⟩ _ _ ⟨rfl, rfl⟩
      intro w hst
      exact OpV.g (v_build (v := .agg #[.int .i64 ev.kind, .int .i64 s]) rfl (by kernel_rfl))
    | 8, _ =>
      rintro _ _ ⟨rfl, rfl⟩ _ _ ⟨rfl, rfl⟩
      intro w hst
      exact OpV.g (v_lookup rfl rfl (look_eff (St_keepm hst he)))
    | 9, _ =>
      rintro _ _ ⟨rfl, rfl⟩
      intro w hst
      exact OpV.g (v_move rfl)
    | 10, _ =>
      rintro _ _ ⟨rfl, rfl⟩
      intro w hst
      exact OpV.g (v_extract rfl rfl)
    | 11, _ =>
      rintro _ _ ⟨rfl, rfl⟩
      intro w hst
      exact OpV.g (v_extract rfl rfl)
    | 12, _ =>
      rintro _ _ ⟨rfl, rfl⟩
      intro w hst
      exact OpV.g (v_assign rfl)
    | i + 13, h => exact absurd h (by omega)
  rintro _ _ ⟨rfl, rfl⟩ _ _ ⟨rfl, rfl⟩ _ _ ⟨rfl, rfl⟩ _ _ ⟨rfl, rfl⟩ _ _ ⟨rfl, rfl⟩ _ _ ⟨rfl, rfl⟩ _ _ ⟨rfl, rfl⟩ _ _ ⟨rfl, rfl⟩ _ _ ⟨rfl, rfl⟩ _ _ ⟨rfl, rfl⟩ _ _ ⟨rfl, rfl⟩ _ _ ⟨rfl, rfl⟩ _ _ ⟨rfl, rfl⟩ a w2 hfr hst
  have hfr : Fr 39 [(11, _), (12, _), (13, _), (14, _), (15, _), (16, _), (17, _), (18, _), (19, _), (10, _), (20, _), (21, _), (8, _), (0, _), (1, _), (2, _), (5, _), (6, _), (7, _)] [] a := hfr
  have hst : St No w0 [_] w2 := hst
  refine wl_v hfr (by decide) (v_assign rfl) fun a hfr => ?_
  refine wl_nil ?_
  refine hK2 _ _ ?_
  have hfr : Fr 39 [(0, _), (1, _), (2, _), (5, _), (6, _), (7, _), (8, _), (9, _)] [] a := hfr.pick [0, 1, 2, 5, 6, 7, 8, 9]
  refine wc_seq_k fun K3 hK3 => ?_
  refine wc_seq_region fun K4 hK4 => ?_
  refine wl_v hfr (by decide) (v_fieldAddr (v := .pointer (some ⟨w0.heap.size, 2, none⟩)) rfl (by kernel_rfl)) fun a hfr => ?_
  refine wl_v hfr (by decide) (v_load_blk1 (hst.get (k := 0) rfl) rfl (Try.isAgg3 _) rfl) fun a hfr => ?_
  refine wl_v hfr (by decide) (v_eq rfl rfl) fun a hfr => ?_
  refine wl_nil (hK4 _ _ ?_)
  refine wc_cond hfr rfl (fun hc1 => ?_) (fun hc1 => ?_)
  · rw [hc1] at hfr
    try simp only [Bool.not_eq_true', Bool.not_eq_false', decide_eq_true_eq, decide_eq_false_iff_not] at hc1
    refine wc_seq_k fun K5 hK5 => ?_
    refine wc_seq_region fun K6 hK6 => ?_
    refine wl_v hfr (by decide) (v_fieldAddr (v := .pointer (some ⟨w0.heap.size, 0, none⟩)) rfl (by kernel_rfl)) fun a hfr => ?_
    refine wl_v hfr (by decide) (v_load_blk1 (hst.get (k := 0) rfl) rfl (Try.isAgg3 _) rfl) fun a hfr => ?_
    refine wl_v hfr (by decide) (v_eq rfl rfl) fun a hfr => ?_
    refine wl_nil (hK6 _ _ ?_)
    refine wc_cond hfr rfl (fun hc2 => ?_) (fun hc2 => ?_)
    · rw [hc2] at hfr
      try simp only [Bool.not_eq_true', Bool.not_eq_false', decide_eq_true_eq, decide_eq_false_iff_not] at hc2
      refine wc_region ?_
      refine wl_v hfr (by decide) (v_assign rfl) fun a hfr => ?_
      refine wl_nil ?_
      refine hK5 _ _ ?_
      refine wc_region ?_
      refine wl_v hfr (by decide) (v_move rfl) fun a hfr => ?_
      refine wl_v hfr (by decide) (v_move rfl) fun a hfr => ?_
      rcases Bool.eq_false_or_eq_true ((effect ev.kind s).isSome) with hb3 | hb3
      · rw [hb3] at hfr
        try simp only [Bool.not_eq_true', Bool.not_eq_false', decide_eq_true_eq, decide_eq_false_iff_not] at hb3
        refine wl_vy hfr (by decide) rfl (by decide) rfl (v_move rfl) fun a hfr => ?_
        refine wl_vy hfr (by decide) rfl (by decide) rfl (v_nilCheck rfl) fun a hfr => ?_
        refine wl_vy hfr (by decide) rfl (by decide) rfl (v_fieldAddr (v := .pointer (some ⟨x.bm, 4, none⟩)) rfl (by kernel_rfl)) fun a hfr => ?_
        refine wl_vy hfr (by decide) rfl (by decide) rfl (v_fieldAddr (v := .pointer (some ⟨x.bm, 9, none⟩)) rfl (by kernel_rfl)) fun a hfr => ?_
        refine wl_vy hfr (by decide) rfl (by decide) rfl (v_load_blk1 (hst.keepb hm) rfl (Try.isAgg4 _) rfl) fun a hfr => ?_
        refine wl_vy hfr (by decide) rfl (by decide) rfl (v_not rfl) fun a hfr => ?_
        refine wl_v hfr (by decide) (v_pick_t rfl rfl) fun a hfr => ?_
        refine wl_v hfr (by decide) (v_assign rfl) fun a hfr => ?_
        refine wl_nil ?_
        refine hK3 _ _ ?_
        have hfr : Fr 39 [(0, _), (1, _), (2, _), (5, _), (6, _), (7, _), (22, _), (23, _), (24, _), (25, _), (26, _), (27, _), (8, _), (9, _)] [] a := hfr.pick [0, 1, 2, 5, 6, 7, 22, 23, 24, 25, 26, 27, 8, 9]
        refine wc_seq_region fun K7 hK7 => ?_
        refine wl_v hfr (by decide) (v_move rfl) fun a hfr => ?_
        refine wl_v hfr (by decide) (v_move rfl) fun a hfr => ?_
        refine wl_v hfr (by decide) (v_assign rfl) fun a hfr => ?_
        refine wl_v hfr (by decide) (v_assign rfl) fun a hfr => ?_
        refine wl_nil (hK7 _ _ ?_)
        refine wc_ret ?_
        refine fin_ret hfr Try.results63 (resAre_tmp rfl (resAre_tmp rfl resAre_nil)) ?_
        exact ⟨by simp_all [retv, after], hst.ext⟩
      rw [hb3] at hfr
      try simp only [Bool.not_eq_true', Bool.not_eq_false', decide_eq_true_eq, decide_eq_false_iff_not] at hb3
      refine wl_vn hfr (by decide) rfl (by decide) rfl rfl fun a hfr => ?_
      refine wl_vn hfr (by decide) rfl (by decide) rfl rfl fun a hfr => ?_
      refine wl_vn hfr (by decide) rfl (by decide) rfl rfl fun a hfr => ?_
      refine wl_vn hfr (by decide) rfl (by decide) rfl rfl fun a hfr => ?_
      refine wl_vn hfr (by decide) rfl (by decide) rfl rfl fun a hfr => ?_
      refine wl_vn hfr (by decide) rfl (by decide) rfl rfl fun a hfr => ?_
      refine wl_v hfr (by decide) (v_pick_f rfl rfl) fun a hfr => ?_
      refine wl_v hfr (by decide) (v_assign rfl) fun a hfr => ?_
      refine wl_nil ?_
      refine hK3 _ _ ?_
      have hfr : Fr 39 [(0, _), (1, _), (2, _), (5, _), (6, _), (7, _), (22, _), (23, _), (24, _), (25, _), (26, _), (27, _), (8, _), (9, _)] [] a := hfr.pick [0, 1, 2, 5, 6, 7, 22, 23, 24, 25, 26, 27, 8, 9]
      refine wc_seq_region fun K8 hK8 => ?_
      refine wl_v hfr (by decide) (v_move rfl) fun a hfr => ?_
      refine wl_v hfr (by decide) (v_move rfl) fun a hfr => ?_
      refine wl_v hfr (by decide) (v_assign rfl) fun a hfr => ?_
      refine wl_v hfr (by decide) (v_assign rfl) fun a hfr => ?_
      refine wl_nil (hK8 _ _ ?_)
      refine wc_ret ?_
      refine fin_ret hfr Try.results63 (resAre_tmp rfl (resAre_tmp rfl resAre_nil)) ?_
      exact ⟨by simp_all [retv, after], hst.ext⟩
    rw [hc2] at hfr
    try simp only [Bool.not_eq_true', Bool.not_eq_false', decide_eq_true_eq, decide_eq_false_iff_not] at hc2
    refine wc_skip ?_
    refine hK5 _ _ ?_
    refine wc_region ?_
    refine wl_v hfr (by decide) (v_move rfl) fun a hfr => ?_
    refine wl_v hfr (by decide) (v_move rfl) fun a hfr => ?_
    rcases Bool.eq_false_or_eq_true ((effect ev.kind s).isSome) with hb4 | hb4
    · rw [hb4] at hfr
      try simp only [Bool.not_eq_true', Bool.not_eq_false', decide_eq_true_eq, decide_eq_false_iff_not] at hb4
      refine wl_vy hfr (by decide) rfl (by decide) rfl (v_move rfl) fun a hfr => ?_
      refine wl_vy hfr (by decide) rfl (by decide) rfl (v_nilCheck rfl) fun a hfr => ?_
      refine wl_vy hfr (by decide) rfl (by decide) rfl (v_fieldAddr (v := .pointer (some ⟨x.bm, 4, none⟩)) rfl (by kernel_rfl)) fun a hfr => ?_
      refine wl_vy hfr (by decide) rfl (by decide) rfl (v_fieldAddr (v := .pointer (some ⟨x.bm, 9, none⟩)) rfl (by kernel_rfl)) fun a hfr => ?_
      refine wl_vy hfr (by decide) rfl (by decide) rfl (v_load_blk1 (hst.keepb hm) rfl (Try.isAgg4 _) rfl) fun a hfr => ?_
      refine wl_vy hfr (by decide) rfl (by decide) rfl (v_not rfl) fun a hfr => ?_
      refine wl_v hfr (by decide) (v_pick_t rfl rfl) fun a hfr => ?_
      refine wl_v hfr (by decide) (v_assign rfl) fun a hfr => ?_
      refine wl_nil ?_
      refine hK3 _ _ ?_
      have hfr : Fr 39 [(0, _), (1, _), (2, _), (5, _), (6, _), (7, _), (8, _), (22, _), (23, _), (24, _), (25, _), (26, _), (27, _), (9, _)] [] a := hfr.pick [0, 1, 2, 5, 6, 7, 8, 22, 23, 24, 25, 26, 27, 9]
      refine wc_seq_region fun K9 hK9 => ?_
      refine wl_v hfr (by decide) (v_move rfl) fun a hfr => ?_
      refine wl_v hfr (by decide) (v_move rfl) fun a hfr => ?_
      refine wl_v hfr (by decide) (v_assign rfl) fun a hfr => ?_
      refine wl_v hfr (by decide) (v_assign rfl) fun a hfr => ?_
      refine wl_nil (hK9 _ _ ?_)
      refine wc_ret ?_
      refine fin_ret hfr Try.results63 (resAre_tmp rfl (resAre_tmp rfl resAre_nil)) ?_
      exact ⟨by simp_all [retv, after], hst.ext⟩
    rw [hb4] at hfr
    try simp only [Bool.not_eq_true', Bool.not_eq_false', decide_eq_true_eq, decide_eq_false_iff_not] at hb4
    refine wl_vn hfr (by decide) rfl (by decide) rfl rfl fun a hfr => ?_
    refine wl_vn hfr (by decide) rfl (by decide) rfl rfl fun a hfr => ?_
    refine wl_vn hfr (by decide) rfl (by decide) rfl rfl fun a hfr => ?_
    refine wl_vn hfr (by decide) rfl (by decide) rfl rfl fun a hfr => ?_
    refine wl_vn hfr (by decide) rfl (by decide) rfl rfl fun a hfr => ?_
    refine wl_vn hfr (by decide) rfl (by decide) rfl rfl fun a hfr => ?_
    refine wl_v hfr (by decide) (v_pick_f rfl rfl) fun a hfr => ?_
    refine wl_v hfr (by decide) (v_assign rfl) fun a hfr => ?_
    refine wl_nil ?_
    refine hK3 _ _ ?_
    have hfr : Fr 39 [(0, _), (1, _), (2, _), (5, _), (6, _), (7, _), (8, _), (22, _), (23, _), (24, _), (25, _), (26, _), (27, _), (9, _)] [] a := hfr.pick [0, 1, 2, 5, 6, 7, 8, 22, 23, 24, 25, 26, 27, 9]
    refine wc_seq_region fun K10 hK10 => ?_
    refine wl_v hfr (by decide) (v_move rfl) fun a hfr => ?_
    refine wl_v hfr (by decide) (v_move rfl) fun a hfr => ?_
    refine wl_v hfr (by decide) (v_assign rfl) fun a hfr => ?_
    refine wl_v hfr (by decide) (v_assign rfl) fun a hfr => ?_
    refine wl_nil (hK10 _ _ ?_)
    refine wc_ret ?_
    refine fin_ret hfr Try.results63 (resAre_tmp rfl (resAre_tmp rfl resAre_nil)) ?_
    exact ⟨by simp_all [retv, after], hst.ext⟩
  rw [hc1] at hfr
  try simp only [Bool.not_eq_true', Bool.not_eq_false', decide_eq_true_eq, decide_eq_false_iff_not] at hc1
  refine wc_skip ?_
  refine hK3 _ _ ?_
  refine wc_seq_region fun K11 hK11 => ?_
  refine wl_v hfr (by decide) (v_move rfl) fun a hfr => ?_
  refine wl_v hfr (by decide) (v_move rfl) fun a hfr => ?_
  refine wl_v hfr (by decide) (v_assign rfl) fun a hfr => ?_
  refine wl_v hfr (by decide) (v_assign rfl) fun a hfr => ?_
  refine wl_nil (hK11 _ _ ?_)
  refine wc_ret ?_
  refine fin_ret hfr Try.results63 (resAre_tmp rfl (resAre_tmp rfl resAre_nil)) ?_
  exact ⟨by simp_all [retv, after], hst.ext⟩
end Go.Proofs.Ytdamipejlfipcaa
