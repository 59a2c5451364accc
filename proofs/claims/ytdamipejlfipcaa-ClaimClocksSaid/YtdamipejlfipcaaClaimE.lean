import Derived.Test.YtdamipejlfipcaaClaimD
import Derived.Test.YtdamipejlfipcaaClaimM
import Derived.Test.YtdamipejlfipcaaYield
namespace Go.Proofs.Ytdamipejlfipcaa
open Go.RowKit Go.PW
set_option linter.unusedVariables false
set_option linter.unusedSimpArgs false
set_option maxRecDepth 4000

def encS (s : Stt) : List Value := [s.val]
def NxS (pre : List Stt) (x : Stt) : Prop := pre.length < 200

/-- (*dialtone/claim.machine).statuses$1$1 -/
theorem alone_ok {M : Nat → Prop} {w0 : World} {er : Ent} (rl : Rul) (cl : Clm) (x : Mach) (vd : Value) (lp bn by_ bp : Nat) (J Jx : List Stt → Ent → Prop) (hY : Rounds Try.prog lp encS NxS J Jx) (u : Int) (now0 : Stt) (pre : List Stt) (e0 : Ent) (ws : World)
    (hr : areValid rl = true) (hso : Sound rl now0) (hJ : J pre e0) (hpl : pre.length + 4 < 200) (hst : St M w0 [e0, blk bn [.int .i64 now0.state, .int .i64 now0.since, .int .i64 now0.next] 39, blk by_ [.func (.yield lp) #[] #[]] 43, blk bp [.pointer (some ⟨x.bm, 0, none⟩)] 85, blk x.bm [.int .i64 rl.answer, .int .i64 rl.cooling, .int .i64 rl.settle, .int .i64 rl.reverse, .int .i64 cl.number, .int .i64 cl.frm, .int .i64 cl.to, .int .i64 cl.holder, .int .i64 cl.asked, .bool cl.backed, .map (some x.dm), .map (some x.em), vd] 95, mapE x.dm duesKV, er] ws) :
    Ret Try.prog 62 #[.int .i64 u, .pointer (some ⟨bn, 0, none⟩), .pointer (some ⟨bp, 0, none⟩), .pointer (some ⟨by_, 0, none⟩)] ws fun v w => ∃ y e1, v = .bool y ∧ (y = true → J (pre ++ alone rl u now0) e1 ∧ St M w0 [e1, blk bn [.int .i64 ((lastOf now0 (alone rl u now0)).state), .int .i64 ((lastOf now0 (alone rl u now0)).since), .int .i64 ((lastOf now0 (alone rl u now0)).next)] 39, blk by_ [.func (.yield lp) #[] #[]] 43, blk bp [.pointer (some ⟨x.bm, 0, none⟩)] 85, blk x.bm [.int .i64 rl.answer, .int .i64 rl.cooling, .int .i64 rl.settle, .int .i64 rl.reverse, .int .i64 cl.number, .int .i64 cl.frm, .int .i64 cl.to, .int .i64 cl.holder, .int .i64 cl.asked, .bool cl.backed, .map (some x.dm), .map (some x.em), vd] 95, mapE x.dm duesKV, er] w) ∧ (y = false → ∃ (p1 p2 : List Stt) (now1 : Stt), alone rl u now0 = p1 ++ p2 ∧ Jx (pre ++ p1) e1 ∧ St M w0 [e1, blk bn [.int .i64 now1.state, .int .i64 now1.since, .int .i64 now1.next] 39, blk by_ [.func (.yield lp) #[] #[]] 43, blk bp [.pointer (some ⟨x.bm, 0, none⟩)] 85, blk x.bm [.int .i64 rl.answer, .int .i64 rl.cooling, .int .i64 rl.settle, .int .i64 rl.reverse, .int .i64 cl.number, .int .i64 cl.frm, .int .i64 cl.to, .int .i64 cl.holder, .int .i64 cl.asked, .bool cl.backed, .map (some x.dm), .map (some x.em), vd] 95, mapE x.dm duesKV, er] w) := by
  refine ret_of Try.func62 rfl Try.ntmps62 (Nat.le_of_ble_eq_true rfl) fun a hfr => ?_
  have hfr : Fr 31 [(0, _), (1, _), (2, _), (3, _)] [] a := hfr
  skip
  refine wc_seq_region fun K1 hK1 => ?_
  refine wl_v hfr (by decide) (v_assign rfl) fun a hfr => ?_
  refine wl_nil (hK1 _ _ ?_)
  refine wc_seq_k fun K2 hK2 => ?_
  refine wc_block ?_
  refine wc_loop (fun m a w => ∃ (n : Nat) (nw : Stt) (e : Ent) (dn : List Stt), m = 0 + n ∧ (alone rl u now0 = dn ++ aloneF n rl u nw) ∧ (lastOf now0 dn = nw) ∧ (Sound rl nw) ∧ (rank nw.state ≤ n) ∧ (dn.length + n ≤ 4) ∧ (J (pre ++ dn) e) ∧ Fr 31 [(0, .int .i64 u), (1, .pointer (some ⟨bn, 0, none⟩)), (2, .pointer (some ⟨bp, 0, none⟩)), (3, .pointer (some ⟨by_, 0, none⟩))] [] a ∧ St M w0 [e, blk bn [.int .i64 nw.state, .int .i64 nw.since, .int .i64 nw.next] 39, blk by_ [.func (.yield lp) #[] #[]] 43, blk bp [.pointer (some ⟨x.bm, 0, none⟩)] 85, blk x.bm [.int .i64 rl.answer, .int .i64 rl.cooling, .int .i64 rl.settle, .int .i64 rl.reverse, .int .i64 cl.number, .int .i64 cl.frm, .int .i64 cl.to, .int .i64 cl.holder, .int .i64 cl.asked, .bool cl.backed, .map (some x.dm), .map (some x.em), vd] 95, mapE x.dm duesKV, er] w) _ ⟨4, now0, e0, [], rfl, rfl, rfl, hso, (Nat.le_trans (rank_le _) (by decide)), (by simp), (by simpa using hJ), hfr.pick [0, 1, 2, 3], hst⟩ ?_
  rintro _ a w1 ⟨n, nw, e, dn, rfl, hal, hla, hso, hrk, hln, hJ, hfr, hst⟩
  refine wc_seq_k fun K3 hK3 => ?_
  refine wc_seq_region fun K4 hK4 => ?_
  refine wl_v hfr (by decide) (v_fieldAddr (v := .pointer (some ⟨bn, 2, none⟩)) rfl (by kernel_rfl)) fun a hfr => ?_
  refine wl_v hfr (by decide) (v_load_blk1 (hst.get (k := 1) rfl) rfl (Try.isAgg3 _) rfl) fun a hfr => ?_
  refine wl_v hfr (by decide) (v_ge rfl rfl) fun a hfr => ?_
  refine wl_v hfr (by decide) (v_move rfl) fun a hfr => ?_
  rcases Bool.eq_false_or_eq_true (decide (0 ≤ nw.next)) with hb1 | hb1
  · rw [hb1] at hfr
    try simp only [Bool.not_eq_true', Bool.not_eq_false', decide_eq_true_eq, decide_eq_false_iff_not] at hb1
    have hstep := hso.step hr hb1
    obtain ⟨hs1, hs2, hs3, hs4, hs5, hs6⟩ := (hso.next hr).resolve_left (by omega)
    obtain ⟨n, rfl⟩ : ∃ n1, n = n1 + 1 := ⟨n - 1, by omega⟩
    refine wl_vy hfr (by decide) rfl (by decide) rfl (v_fieldAddr (v := .pointer (some ⟨bn, 2, none⟩)) rfl (by kernel_rfl)) fun a hfr => ?_
    refine wl_vy hfr (by decide) rfl (by decide) rfl (v_load_blk1 (hst.get (k := 1) rfl) rfl (Try.isAgg3 _) rfl) fun a hfr => ?_
    refine wl_vy hfr (by decide) rfl (by decide) rfl (v_move rfl) fun a hfr => ?_
    refine wl_vy hfr (by decide) rfl (by decide) rfl (v_le rfl rfl) fun a hfr => ?_
    refine wl_v hfr (by decide) (v_pick_t rfl rfl) fun a hfr => ?_
    refine wl_nil (hK4 _ _ ?_)
    have hfr : Fr 31 [(0, _), (1, _), (2, _), (3, _), (14, _)] [] a := hfr.pick [0, 1, 2, 3, 14]
    refine wc_cond hfr rfl (fun hc2 => ?_) (fun hc2 => ?_)
    · rw [hc2] at hfr
      try simp only [Bool.not_eq_true', Bool.not_eq_false', decide_eq_true_eq, decide_eq_false_iff_not] at hc2
      refine wc_skip ?_
      refine hK3 _ _ ?_
      refine wc_block ?_
      refine wc_seq_k fun K5 hK5 => ?_
      refine wc_of_dr (by kernel_rfl) ?_
      have hfr : Fr 31 [(0, _), (1, _), (2, _), (3, _), (14, _)] [] a := hfr.pick [0, 1, 2, 3, 14]
      refine wc_phases' 12 [[], [], [1], [2], [3], [], [5], [4, 6], [7], [], [9], [0, 8, 10]] (fun i => match i with | 0 => pv (.pointer (some ⟨x.bm, 0, none⟩)) | 1 => pv (.pointer (some ⟨x.bm, 0, none⟩)) | 2 => pv (.pointer (some ⟨x.bm, 0, none⟩)) | 3 => pv (.pointer (some ⟨x.bm, 10, none⟩)) | 4 => pv (.map (some x.dm)) | 5 => pv (.pointer (some ⟨bn, 0, none⟩)) | 6 => pv (.int .i64 nw.state) | 7 => pv (.agg #[dueFun nw.state, .int .i64 (dueNext nw.state)]) | 8 => pv (.int .i64 (dueNext nw.state)) | 9 => pv (.pointer (some ⟨bn, 2, none⟩)) | 10 => pv (.int .i64 nw.next) | 11 => pv (.agg #[.int .i64 ((begins rl (dueNext nw.state) nw.next).state), .int .i64 ((begins rl (dueNext nw.state) nw.next).since), .int .i64 ((begins rl (dueNext nw.state) nw.next).next)]) | _ => fun _ _ => False) hfr hst (by kernel_rfl) (by kernel_rfl) ?_ ?_
      · intro i hi
        match i, hi with
        | 0, _ =>
          intro w hst
          exact OpV.g (v_load_blk1 (hst.get (k := 3) rfl) rfl (Try.isAgg85 _) rfl)
        | 1, _ =>
          intro w hst
          exact OpV.g (v_load_blk1 (hst.get (k := 3) rfl) rfl (Try.isAgg85 _) rfl)
        | 2, _ =>
          rintro _ _ ⟨rfl, rfl⟩
          intro w hst
          exact OpV.g (v_nilCheck rfl)
        | 3, _ =>
          rintro _ _ ⟨rfl, rfl⟩
          intro w hst
          exact OpV.g (v_fieldAddr (v := .pointer (some ⟨x.bm, 10, none⟩)) rfl (by kernel_rfl))
        | 4, _ =>
          rintro _ _ ⟨rfl, rfl⟩
          intro w hst
          exact OpV.g (v_load_blk1 (hst.get (k := 4) rfl) rfl (Try.isAgg92 _) rfl)
        | 5, _ =>
          intro w hst
          exact OpV.g (v_fieldAddr (v := .pointer (some ⟨bn, 0, none⟩)) rfl (by kernel_rfl))
        | 6, _ =>
          rintro _ _ ⟨rfl, rfl⟩
          intro w hst
          exact OpV.g (v_load_blk1 (hst.get (k := 1) rfl) rfl (Try.isAgg3 _) rfl)
        | 7, _ =>
          rintro _ _ ⟨rfl, rfl⟩ _ _ ⟨rfl, rfl⟩
          intro w hst
          exact OpV.g (v_lookup rfl rfl (look_dues_f (hst.get (k := 5) rfl) hs1))
        | 8, _ =>
          rintro _ _ ⟨rfl, rfl⟩
          intro w hst
          exact OpV.g (v_field (v := .int .i64 (dueNext nw.state)) rfl (by kernel_rfl))
        | 9, _ =>
          intro w hst
          exact OpV.g (v_fieldAddr (v := .pointer (some ⟨bn, 2, none⟩)) rfl (by kernel_rfl))
        | 10, _ =>
          rintro _ _ ⟨rfl, rfl⟩
          intro w hst
          exact OpV.g (v_load_blk1 (hst.get (k := 1) rfl) rfl (Try.isAgg3 _) rfl)
        | 11, _ =>
          rintro _ _ ⟨rfl, rfl⟩ _ _ ⟨rfl, rfl⟩ _ _ ⟨rfl, rfl⟩
          intro w hst
          exact g_callp Try.call61 rfl (begins_ok (dueNext nw.state) rl cl x vd nw.next _ (hst.get (k := 4) rfl) (hst.get (k := 5) rfl) hr (by omega) (by omega))
        | i + 12, h => exact absurd h (by omega)
      rintro _ _ ⟨rfl, rfl⟩ _ _ ⟨rfl, rfl⟩ _ _ ⟨rfl, rfl⟩ _ _ ⟨rfl, rfl⟩ _ _ ⟨rfl, rfl⟩ _ _ ⟨rfl, rfl⟩ _ _ ⟨rfl, rfl⟩ _ _ ⟨rfl, rfl⟩ _ _ ⟨rfl, rfl⟩ _ _ ⟨rfl, rfl⟩ _ _ ⟨rfl, rfl⟩ _ _ ⟨rfl, rfl⟩ a w2 hfr hst
      have hfr : Fr 31 [(15, _), (16, _), (17, _), (18, _), (19, _), (20, _), (21, _), (22, _), (23, _), (24, _), (25, _), (26, _), (0, _), (1, _), (2, _), (3, _), (14, _)] [] a := hfr
      have hst : St M w0 [_, _, _, _, _, _, _] w2 := hst
      refine wl_store 1 hfr hst rfl rfl rfl (Try.sizeOf39 _) rfl (Nat.le_of_ble_eq_true rfl) (ds := [.int .i64 ((begins rl (dueNext nw.state) nw.next).state), .int .i64 ((begins rl (dueNext nw.state) nw.next).since), .int .i64 ((begins rl (dueNext nw.state) nw.next).next)]) rfl rfl fun a w3 hfr hst => ?_
      refine wl_nil ?_
      refine hK5 _ _ ?_
      have hfr : Fr 31 [(0, _), (1, _), (2, _), (3, _), (14, _)] [] a := hfr.pick [0, 1, 2, 3, 14]
      refine wc_seq_region fun K6 hK6 => ?_
      refine wl_v hfr (by decide) (v_load_blk1 (hst.get (k := 2) rfl) rfl (Try.isAgg43 _) rfl) fun a hfr => ?_
      refine wl_v hfr (by decide) (v_load_all (hst.get (k := 1) rfl) rfl (Try.isAgg39 _) (Try.sizeOf39 _)) fun a hfr => ?_
      refine wl_r (r_yield rfl rfl (hY.yield (pre := pre ++ dn) (x := begins rl (dueNext nw.state) nw.next) (by simp only [NxS, List.length_append]; omega) hJ (hst.get (k := 0) rfl) (fun b hb => hst.lt (k := 0) rfl hb))) rfl rfl hfr fun a v w4 hR hfr => ?_
      obtain ⟨y3, e4, rfl, hx, hok, hft, hJt, hJf⟩ := hR
      have hst := hst.exchange (k := 0) rfl hx hok hft
      have hst : St M w0 [e4, blk bn [.int .i64 ((begins rl (dueNext nw.state) nw.next).state), .int .i64 ((begins rl (dueNext nw.state) nw.next).since), .int .i64 ((begins rl (dueNext nw.state) nw.next).next)] 39, blk by_ [.func (.yield lp) #[] #[]] 43, blk bp [.pointer (some ⟨x.bm, 0, none⟩)] 85, blk x.bm [.int .i64 rl.answer, .int .i64 rl.cooling, .int .i64 rl.settle, .int .i64 rl.reverse, .int .i64 cl.number, .int .i64 cl.frm, .int .i64 cl.to, .int .i64 cl.holder, .int .i64 cl.asked, .bool cl.backed, .map (some x.dm), .map (some x.em), vd] 95, mapE x.dm duesKV, er] w4 := hst
      clear hx hok hft
      refine wl_v hfr (by decide) (v_not rfl) fun a hfr => ?_
      refine wl_nil (hK6 _ _ ?_)
      refine wc_cond hfr rfl (fun hc5 => ?_) (fun hc5 => ?_)
      · rw [hc5] at hfr
        try simp only [Bool.not_eq_true', Bool.not_eq_false', decide_eq_true_eq, decide_eq_false_iff_not] at hc5
        refine wc_seq_region fun K7 hK7 => ?_
        refine wl_v hfr (by decide) (v_assign rfl) fun a hfr => ?_
        refine wl_nil (hK7 _ _ ?_)
        refine wc_ret ?_
        refine fin_ret hfr Try.results62 (resAre_tmp rfl resAre_nil) ?_
        refine ⟨false, _, rfl, fun h => (by cases h), fun _ => ⟨dn ++ [begins rl (dueNext nw.state) nw.next], aloneF n rl u (begins rl (dueNext nw.state) nw.next), _, ?_, ?_, hst⟩⟩
        · rw [hal, aloneF_pos (by assumption) (by assumption)]; simp
        · rw [← List.append_assoc]; exact hJf (by assumption)
      rw [hc5] at hfr
      try simp only [Bool.not_eq_true', Bool.not_eq_false', decide_eq_true_eq, decide_eq_false_iff_not] at hc5
      have hJ := hJt hc5
      refine wc_skip ?_
      refine ⟨_, ?_, n, begins rl (dueNext nw.state) nw.next, e4, dn ++ [begins rl (dueNext nw.state) nw.next], rfl, (by rw [hal, aloneF_pos (by assumption) (by assumption)]; simp), (by rw [lastOf_append, lastOf_cons]; rfl), hstep.1, (by simp only [begins]; omega), (by simp; omega), (by rw [← List.append_assoc]; exact hJ), hfr.pick [0, 1, 2, 3], hst⟩
      omega
    rw [hc2] at hfr
    try simp only [Bool.not_eq_true', Bool.not_eq_false', decide_eq_true_eq, decide_eq_false_iff_not] at hc2
    refine wc_exit ?_
    refine hK2 _ _ ?_
    refine wc_seq_region fun K8 hK8 => ?_
    refine wl_v hfr (by decide) (v_assign rfl) fun a hfr => ?_
    refine wl_nil (hK8 _ _ ?_)
    refine wc_ret ?_
    refine fin_ret hfr Try.results62 (resAre_tmp rfl resAre_nil) ?_
    rw [aloneF_neg (now := nw) (u := u) (r := rl) (by omega), List.append_nil] at hal
    exact ⟨true, _, rfl, fun _ => ⟨by rw [hal]; exact hJ, by rw [hal, hla]; exact hst⟩, fun h => by cases h⟩
  rw [hb1] at hfr
  try simp only [Bool.not_eq_true', Bool.not_eq_false', decide_eq_true_eq, decide_eq_false_iff_not] at hb1
  refine wl_vn hfr (by decide) rfl (by decide) rfl rfl fun a hfr => ?_
  refine wl_vn hfr (by decide) rfl (by decide) rfl rfl fun a hfr => ?_
  refine wl_vn hfr (by decide) rfl (by decide) rfl rfl fun a hfr => ?_
  refine wl_vn hfr (by decide) rfl (by decide) rfl rfl fun a hfr => ?_
  refine wl_v hfr (by decide) (v_pick_f rfl rfl) fun a hfr => ?_
  refine wl_nil (hK4 _ _ ?_)
  have hfr : Fr 31 [(0, _), (1, _), (2, _), (3, _), (14, _)] [] a := hfr.pick [0, 1, 2, 3, 14]
  refine wc_cond_f hfr rfl ?_
  refine wc_exit ?_
  refine hK2 _ _ ?_
  refine wc_seq_region fun K9 hK9 => ?_
  refine wl_v hfr (by decide) (v_assign rfl) fun a hfr => ?_
  refine wl_nil (hK9 _ _ ?_)
  refine wc_ret ?_
  refine fin_ret hfr Try.results62 (resAre_tmp rfl resAre_nil) ?_
  rw [aloneF_neg (now := nw) (u := u) (r := rl) (by omega), List.append_nil] at hal
  exact ⟨true, _, rfl, fun _ => ⟨by rw [hal]; exact hJ, by rw [hal, hla]; exact hst⟩, fun h => by cases h⟩
end Go.Proofs.Ytdamipejlfipcaa
