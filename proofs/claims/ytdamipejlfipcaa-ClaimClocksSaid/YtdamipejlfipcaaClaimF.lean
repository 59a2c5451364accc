import Derived.Test.YtdamipejlfipcaaClaimE
namespace Go.Proofs.Ytdamipejlfipcaa
open Go.RowKit Go.PW
set_option linter.unusedVariables false
set_option linter.unusedSimpArgs false
set_option maxRecDepth 4000

theorem runE_alone {r : Rul} {b : Bool} {k : Nat} {now : Stt} {l : List Evt} {ev : Evt} {p1 p2 : List Stt} (hk : k < l.length) (he : l.getD k ⟨0, 0, 0⟩ = ev) (hp : alone r ev.at_ now = p1 ++ p2) :
    ∃ q, (runE r b k now (l.drop k)).1 = p1 ++ (p2 ++ q) := by
  cases ha : (after b (lastOf now (alone r ev.at_ now)).state ev).2 with
  | true => rw [runE_go hk he rfl ha, hp]; exact ⟨_, List.append_assoc _ _ _⟩
  | false => rw [runE_void hk he rfl ha, hp]; exact ⟨_, List.append_assoc _ _ _⟩

set_option maxHeartbeats 4000000 in
/-- (*dialtone/claim.machine).statuses$1 -/
theorem statuses_run {M : Nat → Prop} {w0 : World} {er : Ent} (rl : Rul) (cl : Clm) (x : Mach) (sv : Value) (l : List Evt) (lp bp bl : Nat) (J Jx : List Stt → Ent → Prop) (hY : Rounds Try.prog lp encS NxS J Jx) (e0 : Ent) (ws : World)
    (hv : valid rl cl l = true) (hsv : ∀ H w, St M w0 H w → SlAt w sv 3 (l.map Evt.cells)) (hJ : J [] e0) (hst : St M w0 [e0, blk bp [.pointer (some ⟨x.bm, 0, none⟩)] 85, blk bl [sv] 32, blk x.bm [.int .i64 rl.answer, .int .i64 rl.cooling, .int .i64 rl.settle, .int .i64 rl.reverse, .int .i64 cl.number, .int .i64 cl.frm, .int .i64 cl.to, .int .i64 cl.holder, .int .i64 cl.asked, .bool cl.backed, .map (some x.dm), .map (some x.em), .slice none 0 0] 95, mapE x.dm duesKV, mapE x.em effAll, own (.slice none 0 0) 3 1 (([]).map fun i => [.int .i64 i]), er] ws) :
    Ret Try.prog 60 #[.func (.yield lp) #[] #[], .pointer (some ⟨bp, 0, none⟩), .pointer (some ⟨bl, 0, none⟩)] ws fun _ w => ∃ e1 Hi, St M w0 (e1 :: Hi) w ∧ ((∃ xs, (xs = statuses rl cl l ∧ ∃ (vd : Value), Hi = [blk bp [.pointer (some ⟨x.bm, 0, none⟩)] 85, blk bl [sv] 32, blk x.bm [.int .i64 rl.answer, .int .i64 rl.cooling, .int .i64 rl.settle, .int .i64 rl.reverse, .int .i64 cl.number, .int .i64 cl.frm, .int .i64 cl.to, .int .i64 cl.holder, .int .i64 cl.asked, .bool cl.backed, .map (some x.dm), .map (some x.em), vd] 95, mapE x.dm duesKV, mapE x.em effAll, own vd 3 1 ((voids rl cl l).map fun i => [.int .i64 i]), er]) ∧ J xs e1) ∨ (∃ pre, ((∃ rest, statuses rl cl l = pre ++ rest) ∧ ∃ (vd : Value) (vo : List Int), Hi = [blk bp [.pointer (some ⟨x.bm, 0, none⟩)] 85, blk bl [sv] 32, blk x.bm [.int .i64 rl.answer, .int .i64 rl.cooling, .int .i64 rl.settle, .int .i64 rl.reverse, .int .i64 cl.number, .int .i64 cl.frm, .int .i64 cl.to, .int .i64 cl.holder, .int .i64 cl.asked, .bool cl.backed, .map (some x.dm), .map (some x.em), vd] 95, mapE x.dm duesKV, mapE x.em effAll, own vd 3 1 (vo.map fun i => [.int .i64 i]), er]) ∧ Jx pre e1)) := by
  refine ret_of Try.func60 rfl Try.ntmps60 (Nat.le_of_ble_eq_true rfl) fun a hfr => ?_
  have hfr : Fr 66 [(0, _), (1, _), (2, _)] [] a := hfr
  skip
  obtain ⟨hr, hc, hlen, hbad⟩ := valid_parts hv
  have hcl := isClaim_le hc
  have hfs : Sound rl (first rl cl) := Sound.begins 1 cl.asked (by omega) (by omega)
  refine wc_seq_region fun K1 hK1 => ?_
  refine wl_box hfr hst (by decide) rfl (cs := [.func (.yield lp) #[] #[]]) rfl fun a w1 hfr hst => ?_
  refine wl_nil (hK1 _ _ ?_)
  refine wc_seq_k fun K2 hK2 => ?_
  refine wc_of_dr (by kernel_rfl) ?_
  have hfr : Fr 66 [(0, _), (1, _), (2, _), (3, _)] [] a := hfr.pick [0, 1, 2, 3]
  refine wc_phases' 8 [[], [], [1], [2], [3], [4], [0, 5], []] (fun i => match i with | 0 => pv (.pointer (some ⟨x.bm, 0, none⟩)) | 1 => pv (.pointer (some ⟨x.bm, 0, none⟩)) | 2 => pv (.pointer (some ⟨x.bm, 0, none⟩)) | 3 => pv (.pointer (some ⟨x.bm, 4, none⟩)) | 4 => pv (.pointer (some ⟨x.bm, 8, none⟩)) | 5 => pv (.int .i64 cl.asked) | 6 => pv (.agg #[.int .i64 ((begins rl 1 cl.asked).state), .int .i64 ((begins rl 1 cl.asked).since), .int .i64 ((begins rl 1 cl.asked).next)]) | 7 => pm (fun b : Nat => .pointer (some ⟨b, 0, none⟩)) (fun b => [blk b [.int .i64 0, .int .i64 0, .int .i64 0] 39]) (fun _ => True) | _ => fun _ _ => False) hfr hst (by kernel_rfl) (by kernel_rfl) ?_ ?_
  · intro i hi
    match i, hi with
    | 0, _ =>
      intro w hst
      exact OpV.g (v_load_blk1 (hst.get (k := 2) rfl) rfl (Try.isAgg85 _) rfl)
    | 1, _ =>
      intro w hst
      exact OpV.g (v_load_blk1 (hst.get (k := 2) rfl) rfl (Try.isAgg85 _) rfl)
    | 2, _ =>
      rintro _ _ ⟨rfl, rfl⟩
      intro w hst
      exact OpV.g (v_nilCheck rfl)
    | 3, _ =>
      rintro _ _ ⟨rfl, rfl⟩
      intro w hst
      exact OpV.g (v_fieldAddr (v := .pointer (some ⟨x.bm, 4, none⟩)) rfl (by kernel_rfl))
    | 4, _ =>
      rintro _ _ ⟨rfl, rfl⟩
      intro w hst
      exact OpV.g (v_fieldAddr (v := .pointer (some ⟨x.bm, 8, none⟩)) rfl (by kernel_rfl))
    | 5, _ =>
      rintro _ _ ⟨rfl, rfl⟩
      intro w hst
      exact OpV.g (v_load_blk1 (hst.get (k := 4) rfl) rfl (Try.isAgg3 _) rfl)
    | 6, _ =>
      rintro _ _ ⟨rfl, rfl⟩ _ _ ⟨rfl, rfl⟩
      intro w hst
      exact g_callp Try.call61 rfl (begins_ok 1 rl cl x (.slice none 0 0) cl.asked _ (hst.get (k := 4) rfl) (hst.get (k := 5) rfl) hr (by omega) (by omega))
    | 7, _ =>
      intro w hst
      exact g_alloc (Try.zeroValue39 _) (cs := [.int .i64 0, .int .i64 0, .int .i64 0]) rfl
  rintro _ _ ⟨rfl, rfl⟩ _ _ ⟨rfl, rfl⟩ _ _ ⟨rfl, rfl⟩ _ _ ⟨rfl, rfl⟩ _ _ ⟨rfl, rfl⟩ _ _ ⟨rfl, rfl⟩ _ _ ⟨rfl, rfl⟩ _ _ ⟨b1, rfl, -, rfl⟩ a w2 hfr hst
  have hfr : Fr 66 [(10, _), (11, _), (12, _), (13, _), (14, _), (15, _), (16, _), (4, _), (0, _), (1, _), (2, _), (3, _)] [] a := hfr
  have hst : St M w0 [_, _, _, _, _, _, _, _, _, _] w2 := hst
  refine wl_store 0 hfr hst rfl rfl rfl (Try.sizeOf39 _) rfl (Nat.le_of_ble_eq_true rfl) (ds := [.int .i64 ((begins rl 1 cl.asked).state), .int .i64 ((begins rl 1 cl.asked).since), .int .i64 ((begins rl 1 cl.asked).next)]) rfl rfl fun a w3 hfr hst => ?_
  refine wl_nil ?_
  refine hK2 _ _ ?_
  have hfr : Fr 66 [(0, _), (1, _), (2, _), (3, _), (4, _)] [] a := hfr.pick [0, 1, 2, 3, 4]
  refine wc_seq_k fun K3 hK3 => ?_
  refine wc_seq_region fun K4 hK4 => ?_
  refine wl_v hfr (by decide) (v_load_blk1 (hst.get (k := 1) rfl) rfl (Try.isAgg43 _) rfl) fun a hfr => ?_
  refine wl_v hfr (by decide) (v_load_all (hst.get (k := 0) rfl) rfl (Try.isAgg39 _) (Try.sizeOf39 _)) fun a hfr => ?_
  refine wl_r (r_yield rfl rfl (hY.yield (pre := []) (x := first rl cl) (by simp [NxS]) hJ (hst.get (k := 2) rfl) (fun b hb => hst.lt (k := 2) rfl hb))) rfl rfl hfr fun a v w4 hR hfr => ?_
  obtain ⟨y2, e3, rfl, hx, hok, hft, hJt, hJf⟩ := hR
  have hst := hst.exchange (k := 2) rfl hx hok hft
  have hst : St M w0 [blk b1 [.int .i64 ((begins rl 1 cl.asked).state), .int .i64 ((begins rl 1 cl.asked).since), .int .i64 ((begins rl 1 cl.asked).next)] 39, blk ws.heap.size [.func (.yield lp) #[] #[]] 43, e3, blk bp [.pointer (some ⟨x.bm, 0, none⟩)] 85, blk bl [sv] 32, blk x.bm [.int .i64 rl.answer, .int .i64 rl.cooling, .int .i64 rl.settle, .int .i64 rl.reverse, .int .i64 cl.number, .int .i64 cl.frm, .int .i64 cl.to, .int .i64 cl.holder, .int .i64 cl.asked, .bool cl.backed, .map (some x.dm), .map (some x.em), .slice none 0 0] 95, mapE x.dm duesKV, mapE x.em effAll, own (.slice none 0 0) 3 1 (([]).map fun i => [.int .i64 i]), er] w4 := hst
  clear hx hok hft
  refine wl_v hfr (by decide) (v_not rfl) fun a hfr => ?_
  refine wl_nil (hK4 _ _ ?_)
  refine wc_cond hfr rfl (fun hc4 => ?_) (fun hc4 => ?_)
  · rw [hc4] at hfr
    try simp only [Bool.not_eq_true', Bool.not_eq_false', decide_eq_true_eq, decide_eq_false_iff_not] at hc4
    have hJx := hJf hc4
    refine wc_ret ?_
    refine fin_ret hfr Try.results60 resAre_nil ?_
    exact ⟨_, _, hst.select [2, 3, 4, 5, 6, 7, 8, 9] (by decide), .inr ⟨[first rl cl], ⟨⟨_, rfl⟩, _, _, rfl⟩, hJx⟩⟩
  rw [hc4] at hfr
  try simp only [Bool.not_eq_true', Bool.not_eq_false', decide_eq_true_eq, decide_eq_false_iff_not] at hc4
  have hJ := hJt hc4
  refine wc_skip ?_
  refine hK3 _ _ ?_
  refine wc_seq_region fun K5 hK5 => ?_
  refine wl_v hfr (by decide) (v_makeFunc rfl rfl) fun a hfr => ?_
  refine wl_v hfr (by decide) (v_assign rfl) fun a hfr => ?_
  refine wl_nil (hK5 _ _ ?_)
  refine wc_seq_k fun K6 hK6 => ?_
  refine wc_seq_region fun K7 hK7 => ?_
  refine wl_v hfr (by decide) (v_load_blk1 (hst.get (k := 4) rfl) rfl (Try.isAgg32 _) rfl) fun a hfr => ?_
  refine wl_v hfr (by decide) ((v_len_sl (sT := 32) (hsv _ _ hst) rfl rfl (Try.runUnderlying32 _)).asi (m' := (l.length : Int)) (by simp)) fun a hfr => ?_
  refine wl_v hfr (by decide) (v_move rfl) fun a hfr => ?_
  refine wl_nil (hK7 _ _ ?_)
  refine wc_block ?_
  refine wc_loop (fun m a w => ∃ (k : Nat) (e : Ent) (nw : Stt) (dn : List Stt) (vo : List Int) (vd : Value), m = l.length - k ∧ (k ≤ l.length) ∧ (statuses rl cl l = dn ++ (runE rl cl.backed k nw (l.drop k)).1) ∧ (voids rl cl l = vo ++ (runE rl cl.backed k nw (l.drop k)).2) ∧ (Sound rl nw) ∧ (dn.length ≤ 1 + 5 * k) ∧ (vo.length ≤ k) ∧ (J dn e) ∧ Fr 66 [(0, .func (.yield lp) #[] #[]), (1, .pointer (some ⟨bp, 0, none⟩)), (2, .pointer (some ⟨bl, 0, none⟩)), (3, .pointer (some ⟨ws.heap.size, 0, none⟩)), (4, .pointer (some ⟨b1, 0, none⟩)), (17, .func (.yield lp) #[] #[]), (18, .agg #[.int .i64 ((begins rl 1 cl.asked).state), .int .i64 ((begins rl 1 cl.asked).since), .int .i64 ((begins rl 1 cl.asked).next)]), (19, .bool y2), (20, .bool false), (21, .func (.func 62) #[] #[.pointer (some ⟨b1, 0, none⟩), .pointer (some ⟨bp, 0, none⟩), .pointer (some ⟨ws.heap.size, 0, none⟩)]), (5, .func (.func 62) #[] #[.pointer (some ⟨b1, 0, none⟩), .pointer (some ⟨bp, 0, none⟩), .pointer (some ⟨ws.heap.size, 0, none⟩)]), (22, sv), (23, .int .i64 (l.length : Int)), (24, .int .i64 (k : Int))] [] a ∧ St M w0 [e, blk b1 [.int .i64 nw.state, .int .i64 nw.since, .int .i64 nw.next] 39, blk ws.heap.size [.func (.yield lp) #[] #[]] 43, blk bp [.pointer (some ⟨x.bm, 0, none⟩)] 85, blk bl [sv] 32, blk x.bm [.int .i64 rl.answer, .int .i64 rl.cooling, .int .i64 rl.settle, .int .i64 rl.reverse, .int .i64 cl.number, .int .i64 cl.frm, .int .i64 cl.to, .int .i64 cl.holder, .int .i64 cl.asked, .bool cl.backed, .map (some x.dm), .map (some x.em), vd] 95, mapE x.dm duesKV, mapE x.em effAll, own vd 3 1 (vo.map fun i => [.int .i64 i]), er] w) _ ⟨0, e3, first rl cl, [first rl cl], [], .slice none 0 0, rfl, Nat.zero_le _, rfl, rfl, hfs, (by simp), (by simp), hJ, hfr.pick [0, 1, 2, 3, 4, 17, 18, 19, 20, 21, 5, 22, 23, 24], hst.select [2, 0, 1, 3, 4, 5, 6, 7, 8, 9] (by decide)⟩ ?_
  rintro _ a w5 ⟨k, e, nw, dn, vo, vd, rfl, hk, hsp, hvo, hso, hdl, hvl, hJ, hfr, hst⟩
  refine wc_seq_region fun K8 hK8 => ?_
  refine wl_v hfr (by decide) (v_lt rfl rfl) fun a hfr => ?_
  refine wl_nil (hK8 _ _ ?_)
  refine wc_seq_k fun K9 hK9 => ?_
  refine wc_cond hfr rfl (fun hc5 => ?_) (fun hc5 => ?_)
  · rw [hc5] at hfr
    try simp only [Bool.not_eq_true', Bool.not_eq_false', decide_eq_true_eq, decide_eq_false_iff_not] at hc5
    have hkl : k < l.length := by omega
    obtain ⟨ev, hev⟩ : ∃ ev, l.getD k ⟨0, 0, 0⟩ = ev := ⟨_, rfl⟩
    have hea := anyBad_at l cl.asked hbad k hkl
    rw [hev] at hea
    refine wc_skip ?_
    refine hK9 _ _ ?_
    refine wc_seq_k fun K10 hK10 => ?_
    refine wc_block ?_
    refine wc_seq_region fun K11 hK11 => ?_
    refine wl_v hfr (by decide) (v_move rfl) fun a hfr => ?_
    refine wl_v hfr (by decide) ((v_indexAddr_sl (i := (k : Int)) (sT := 32) (hsv _ _ hst) rfl rfl (Try.runUnderlying32 _) (Try.sizeOf45 _) (by omega) (by simpa using hkl)).as (v' := slAddr sv (k * 3)) rfl) fun a hfr => ?_
    refine wl_v hfr (by decide) ((v_load_sl (hsv _ _ hst) (i := k) (by simpa using hkl) rfl (Try.isAgg45 _) (Try.sizeOf45 _)).as (v' := .agg #[.int .i64 ev.kind, .int .i64 ev.at_, .int .i64 ev.reason]) (by rw [← hev]; show _ = Value.agg (l.getD k ⟨0, 0, 0⟩).cells.toArray; simp [hkl])) fun a hfr => ?_
    refine wl_alloc hfr hst (by decide) (Try.zeroValue45 _) (cs := [.int .i64 0, .int .i64 0, .int .i64 0]) rfl fun a w6 hfr hst => ?_
    refine wl_v hfr (by decide) (v_assign rfl) fun a hfr => ?_
    refine wl_store 0 hfr hst rfl rfl rfl (Try.sizeOf45 _) rfl (Nat.le_of_ble_eq_true rfl) (ds := [.int .i64 ev.kind, .int .i64 ev.at_, .int .i64 ev.reason]) rfl rfl fun a w7 hfr hst => ?_
    refine wl_nil (hK11 _ _ ?_)
    refine wc_seq_k fun K12 hK12 => ?_
    refine wc_seq_region fun K13 hK13 => ?_
    refine wl_v hfr (by decide) (v_move rfl) fun a hfr => ?_
    refine wl_v hfr (by decide) (v_fieldAddr (v := .pointer (some ⟨w5.heap.size, 1, none⟩)) rfl (by kernel_rfl)) fun a hfr => ?_
    refine wl_v hfr (by decide) (v_load_blk1 (hst.get (k := 0) rfl) rfl (Try.isAgg3 _) rfl) fun a hfr => ?_
    have hst : St M w0 [e, blk b1 [.int .i64 nw.state, .int .i64 nw.since, .int .i64 nw.next] 39, blk ws.heap.size [.func (.yield lp) #[] #[]] 43, blk bp [.pointer (some ⟨x.bm, 0, none⟩)] 85, blk x.bm [.int .i64 rl.answer, .int .i64 rl.cooling, .int .i64 rl.settle, .int .i64 rl.reverse, .int .i64 cl.number, .int .i64 cl.frm, .int .i64 cl.to, .int .i64 cl.holder, .int .i64 cl.asked, .bool cl.backed, .map (some x.dm), .map (some x.em), vd] 95, mapE x.dm duesKV, blk w5.heap.size [.int .i64 ev.kind, .int .i64 ev.at_, .int .i64 ev.reason] 45, blk bl [sv] 32, mapE x.em effAll, own vd 3 1 (vo.map fun i => [.int .i64 i]), er] w7 := hst.select [1, 2, 3, 4, 6, 7, 0, 5, 8, 9, 10] (by decide)
    have hst : St M w0 [e, blk b1 [.int .i64 nw.state, .int .i64 nw.since, .int .i64 nw.next] 39, blk ws.heap.size [.func (.yield lp) #[] #[]] 43, blk bp [.pointer (some ⟨x.bm, 0, none⟩)] 85, blk x.bm [.int .i64 rl.answer, .int .i64 rl.cooling, .int .i64 rl.settle, .int .i64 rl.reverse, .int .i64 cl.number, .int .i64 cl.frm, .int .i64 cl.to, .int .i64 cl.holder, .int .i64 cl.asked, .bool cl.backed, .map (some x.dm), .map (some x.em), vd] 95, mapE x.dm duesKV, join [blk w5.heap.size [.int .i64 ev.kind, .int .i64 ev.at_, .int .i64 ev.reason] 45, blk bl [sv] 32, mapE x.em effAll, own vd 3 1 (vo.map fun i => [.int .i64 i]), er]] w7 := St.joinTail [e, blk b1 [.int .i64 nw.state, .int .i64 nw.since, .int .i64 nw.next] 39, blk ws.heap.size [.func (.yield lp) #[] #[]] 43, blk bp [.pointer (some ⟨x.bm, 0, none⟩)] 85, blk x.bm [.int .i64 rl.answer, .int .i64 rl.cooling, .int .i64 rl.settle, .int .i64 rl.reverse, .int .i64 cl.number, .int .i64 cl.frm, .int .i64 cl.to, .int .i64 cl.holder, .int .i64 cl.asked, .bool cl.backed, .map (some x.dm), .map (some x.em), vd] 95, mapE x.dm duesKV] [blk w5.heap.size [.int .i64 ev.kind, .int .i64 ev.at_, .int .i64 ev.reason] 45, blk bl [sv] 32, mapE x.em effAll, own vd 3 1 (vo.map fun i => [.int .i64 i]), er] hst
    have hdl4 : dn.length + 4 < 200 := by omega
    have hcall := alone_ok rl cl x vd lp b1 ws.heap.size bp J Jx hY ev.at_ nw dn e _ hr hso hJ hdl4 hst
    refine wl_r (r_callv (cap := [.pointer (some ⟨b1, 0, none⟩), .pointer (some ⟨bp, 0, none⟩), .pointer (some ⟨ws.heap.size, 0, none⟩)]) (vs := [.int .i64 ev.at_]) rfl Try.call62 rfl hcall) rfl rfl hfr fun a v w8 hR hfr => ?_
    clear hcall
    obtain ⟨ya6, e1, rfl, hyt, hyf⟩ := hR
    refine wl_v hfr (by decide) (v_not rfl) fun a hfr => ?_
    refine wl_nil (hK13 _ _ ?_)
    refine wc_cond hfr rfl (fun hc7 => ?_) (fun hc7 => ?_)
    · rw [hc7] at hfr
      try simp only [Bool.not_eq_true', Bool.not_eq_false', decide_eq_true_eq, decide_eq_false_iff_not] at hc7
      obtain ⟨p1, p2, now1, hp12, hJx, hst⟩ := hyf hc7
      obtain ⟨qq, hqq⟩ := runE_alone (b := cl.backed) hkl hev hp12
      have hst := St.unjoinTail [e1, blk b1 [.int .i64 now1.state, .int .i64 now1.since, .int .i64 now1.next] 39, blk ws.heap.size [.func (.yield lp) #[] #[]] 43, blk bp [.pointer (some ⟨x.bm, 0, none⟩)] 85, blk x.bm [.int .i64 rl.answer, .int .i64 rl.cooling, .int .i64 rl.settle, .int .i64 rl.reverse, .int .i64 cl.number, .int .i64 cl.frm, .int .i64 cl.to, .int .i64 cl.holder, .int .i64 cl.asked, .bool cl.backed, .map (some x.dm), .map (some x.em), vd] 95, mapE x.dm duesKV] [blk w5.heap.size [.int .i64 ev.kind, .int .i64 ev.at_, .int .i64 ev.reason] 45, blk bl [sv] 32, mapE x.em effAll, own vd 3 1 (vo.map fun i => [.int .i64 i]), er] hst
      have hst : St M w0 [e1, blk b1 [.int .i64 now1.state, .int .i64 now1.since, .int .i64 now1.next] 39, blk ws.heap.size [.func (.yield lp) #[] #[]] 43, blk bp [.pointer (some ⟨x.bm, 0, none⟩)] 85, blk x.bm [.int .i64 rl.answer, .int .i64 rl.cooling, .int .i64 rl.settle, .int .i64 rl.reverse, .int .i64 cl.number, .int .i64 cl.frm, .int .i64 cl.to, .int .i64 cl.holder, .int .i64 cl.asked, .bool cl.backed, .map (some x.dm), .map (some x.em), vd] 95, mapE x.dm duesKV, blk w5.heap.size [.int .i64 ev.kind, .int .i64 ev.at_, .int .i64 ev.reason] 45, blk bl [sv] 32, mapE x.em effAll, own vd 3 1 (vo.map fun i => [.int .i64 i]), er] w8 := hst
      refine wc_ret ?_
      refine fin_ret hfr Try.results60 resAre_nil ?_
      exact ⟨_, _, hst.select [0, 3, 7, 4, 5, 8, 9, 10] (by decide), .inr ⟨dn ++ p1, ⟨⟨p2 ++ qq, (by rw [hsp, hqq]; simp)⟩, _, _, rfl⟩, hJx⟩⟩
    rw [hc7] at hfr
    try simp only [Bool.not_eq_true', Bool.not_eq_false', decide_eq_true_eq, decide_eq_false_iff_not] at hc7
    obtain ⟨hJ, hst⟩ := hyt hc7
    have hst := St.unjoinTail [e1, blk b1 [.int .i64 ((lastOf nw (alone rl ev.at_ nw)).state), .int .i64 ((lastOf nw (alone rl ev.at_ nw)).since), .int .i64 ((lastOf nw (alone rl ev.at_ nw)).next)] 39, blk ws.heap.size [.func (.yield lp) #[] #[]] 43, blk bp [.pointer (some ⟨x.bm, 0, none⟩)] 85, blk x.bm [.int .i64 rl.answer, .int .i64 rl.cooling, .int .i64 rl.settle, .int .i64 rl.reverse, .int .i64 cl.number, .int .i64 cl.frm, .int .i64 cl.to, .int .i64 cl.holder, .int .i64 cl.asked, .bool cl.backed, .map (some x.dm), .map (some x.em), vd] 95, mapE x.dm duesKV] [blk w5.heap.size [.int .i64 ev.kind, .int .i64 ev.at_, .int .i64 ev.reason] 45, blk bl [sv] 32, mapE x.em effAll, own vd 3 1 (vo.map fun i => [.int .i64 i]), er] hst
    obtain ⟨now1, hn1⟩ : ∃ n, lastOf nw (alone rl ev.at_ nw) = n := ⟨_, rfl⟩
    rw [hn1] at hst
    have hst : St M w0 [e1, blk b1 [.int .i64 now1.state, .int .i64 now1.since, .int .i64 now1.next] 39, blk ws.heap.size [.func (.yield lp) #[] #[]] 43, blk bp [.pointer (some ⟨x.bm, 0, none⟩)] 85, blk x.bm [.int .i64 rl.answer, .int .i64 rl.cooling, .int .i64 rl.settle, .int .i64 rl.reverse, .int .i64 cl.number, .int .i64 cl.frm, .int .i64 cl.to, .int .i64 cl.holder, .int .i64 cl.asked, .bool cl.backed, .map (some x.dm), .map (some x.em), vd] 95, mapE x.dm duesKV, blk w5.heap.size [.int .i64 ev.kind, .int .i64 ev.at_, .int .i64 ev.reason] 45, blk bl [sv] 32, mapE x.em effAll, own vd 3 1 (vo.map fun i => [.int .i64 i]), er] w8 := hst
    have hso1 : Sound rl now1 := hn1 ▸ aloneF_sound hr 4 nw hso
    refine wc_skip ?_
    refine hK12 _ _ ?_
    refine wc_seq_region fun K14 hK14 => ?_
    refine wl_v hfr (by decide) (v_load_blk1 (hst.get (k := 3) rfl) rfl (Try.isAgg85 _) rfl) fun a hfr => ?_
    refine wl_v hfr (by decide) (v_fieldAddr (v := .pointer (some ⟨b1, 0, none⟩)) rfl (by kernel_rfl)) fun a hfr => ?_
    refine wl_v hfr (by decide) (v_load_blk1 (hst.get (k := 1) rfl) rfl (Try.isAgg3 _) rfl) fun a hfr => ?_
    refine wl_v hfr (by decide) (v_load_all (hst.get (k := 6) rfl) rfl (Try.isAgg45 _) (Try.sizeOf45 _)) fun a hfr => ?_
    refine wl_callp hfr hst (by decide) Try.call63 rfl (after_ok now1.state ev rl cl x vd _ (hst.get (k := 4) rfl) (hst.get (k := 8) rfl)) fun a w9 hfr hst => ?_
    refine wl_v hfr (by decide) (v_move rfl) fun a hfr => ?_
    refine wl_v hfr (by decide) (v_extract rfl rfl) fun a hfr => ?_
    refine wl_v hfr (by decide) (v_extract rfl rfl) fun a hfr => ?_
    refine wl_v hfr (by decide) (v_assign rfl) fun a hfr => ?_
    refine wl_v hfr (by decide) (v_assign rfl) fun a hfr => ?_
    refine wl_nil (hK14 _ _ ?_)
    have hfr : Fr 66 [(0, _), (1, _), (2, _), (3, _), (4, _), (17, _), (18, _), (19, _), (20, _), (21, _), (5, _), (22, _), (23, _), (24, _), (25, _), (26, _), (27, _), (28, _), (7, _), (6, _), (29, _), (30, _), (31, _), (32, _), (33, _), (8, _), (9, _)] [] a := hfr.pick [0, 1, 2, 3, 4, 17, 18, 19, 20, 21, 5, 22, 23, 24, 25, 26, 27, 28, 7, 6, 29, 30, 31, 32, 33, 8, 9]
    refine wc_seq_k fun K15 hK15 => ?_
    refine wc_seq_region fun K16 hK16 => ?_
    refine wl_v hfr (by decide) (v_move rfl) fun a hfr => ?_
    refine wl_v hfr (by decide) (v_not rfl) fun a hfr => ?_
    refine wl_nil (hK16 _ _ ?_)
    refine wc_cond hfr rfl (fun hc8 => ?_) (fun hc8 => ?_)
    · rw [hc8] at hfr
      try simp only [Bool.not_eq_true', Bool.not_eq_false', decide_eq_true_eq, decide_eq_false_iff_not] at hc8
      refine wc_seq_k fun K17 hK17 => ?_
      refine wc_of_dr (by kernel_rfl) ?_
      have hfr : Fr 66 [(0, _), (1, _), (2, _), (3, _), (4, _), (17, _), (18, _), (19, _), (20, _), (21, _), (5, _), (22, _), (23, _), (24, _), (25, _), (26, _), (27, _), (28, _), (7, _), (6, _), (29, _), (30, _), (31, _), (32, _), (33, _), (8, _), (9, _), (42, _), (43, _)] [] a := hfr.pick [0, 1, 2, 3, 4, 17, 18, 19, 20, 21, 5, 22, 23, 24, 25, 26, 27, 28, 7, 6, 29, 30, 31, 32, 33, 8, 9, 42, 43]
      have hst : St M w0 (own vd 3 1 (vo.map fun i => [.int .i64 i]) :: [e1, blk b1 [.int .i64 now1.state, .int .i64 now1.since, .int .i64 now1.next] 39, blk ws.heap.size [.func (.yield lp) #[] #[]] 43, blk bp [.pointer (some ⟨x.bm, 0, none⟩)] 85, blk x.bm [.int .i64 rl.answer, .int .i64 rl.cooling, .int .i64 rl.settle, .int .i64 rl.reverse, .int .i64 cl.number, .int .i64 cl.frm, .int .i64 cl.to, .int .i64 cl.holder, .int .i64 cl.asked, .bool cl.backed, .map (some x.dm), .map (some x.em), vd] 95, mapE x.dm duesKV, blk w5.heap.size [.int .i64 ev.kind, .int .i64 ev.at_, .int .i64 ev.reason] 45, blk bl [sv] 32, mapE x.em effAll, er]) w9 := hst.front (i := 9) rfl
      refine wc_phases_one 7 (own vd 3 1 (vo.map fun i => [.int .i64 i])) (fun v => own v 3 1 ((vo.map fun i => [.int .i64 i]) ++ ([[.int .i64 (k : Int)]]))) 8 [[], [], [1], [2], [3], [], [5], [4, 6]] (fun i => match i with | 0 => pv (.pointer (some ⟨x.bm, 0, none⟩)) | 1 => pv (.pointer (some ⟨x.bm, 0, none⟩)) | 2 => pv (.pointer (some ⟨x.bm, 0, none⟩)) | 3 => pv (.pointer (some ⟨x.bm, 12, none⟩)) | 4 => pv (vd) | 5 => pv (.int .i64 (k : Int)) | 6 => pm (fun b : Nat => .slice (some ⟨b, 0, none⟩) 1 1) (fun b => [own (.slice (some ⟨b, 0, none⟩) 1 1) 3 1 [[.int .i64 (k : Int)]]]) (fun _ => True) | 7 => fun v E => E = [] | _ => fun _ _ => False) hfr hst (by kernel_rfl) (by kernel_rfl) (by kernel_rfl) (by decide) ?_ ?_ ?_ ?_
      · intro i v E h
        match i, h with
        | 0, _ => exact by decide
        | 1, _ => exact by decide
        | 2, _ => exact by decide
        | 3, _ => exact by decide
        | 4, _ => exact by decide
        | 5, _ => exact by decide
        | 6, _ => exact by decide
        | 7, _ => exact by decide
        | i + 8, h => exact h.elim
      · intro i hi hiq e
        match i, hi, hiq with
        | 0, _, _ =>
          intro w hst
          exact OpV.g (v_load_blk1 (hst.get (k := 4) rfl) rfl (Try.isAgg85 _) rfl)
        | 1, _, _ =>
          intro w hst
          exact OpV.g (v_load_blk1 (hst.get (k := 4) rfl) rfl (Try.isAgg85 _) rfl)
        | 2, _, _ =>
          rintro _ _ ⟨rfl, rfl⟩
          intro w hst
          exact OpV.g (v_nilCheck rfl)
        | 3, _, _ =>
          rintro _ _ ⟨rfl, rfl⟩
          intro w hst
          exact OpV.g (v_fieldAddr (v := .pointer (some ⟨x.bm, 12, none⟩)) rfl (by kernel_rfl))
        | 4, _, _ =>
          rintro _ _ ⟨rfl, rfl⟩
          intro w hst
          exact OpV.g (v_load_blk1 (hst.get (k := 5) rfl) rfl (Try.isAgg49 _) rfl)
        | 5, _, _ =>
          intro w hst
          exact OpV.g (v_move rfl)
        | 6, _, _ =>
          rintro _ _ ⟨rfl, rfl⟩
          intro w hst
          exact g_buildSlice (E := 3) (sz := 1) rfl [[.int .i64 (k : Int)]] (fun _ => by kernel_rfl) (by simp) rfl (by decide)
        | 7, _, h => exact absurd rfl h
      · rintro _ _ ⟨rfl, rfl⟩ _ _ ⟨b11, rfl, -, rfl⟩
        intro w hst
        exact (r_append (hst.get (k := 0) rfl) rfl rfl (hst.ownAt (i := 1) rfl) (by simp) Try.underlying49 (inf := Try.t3) (z := .int .i64 0) rfl rfl rfl rfl (by decide) (by simp [Value.oneCell']) (by have hby : Try.t3.bytes = 8 := rfl; simp [big, hby]; omega) (by have hby : Try.t3.bytes = 8 := rfl; simp [big, hby]; omega)).mono fun v w' ⟨h1, h2, h3, _⟩ => ⟨h1, h2, h3, rfl⟩
      rintro vq _ _ ⟨⟨rfl, rfl⟩, -⟩ _ _ ⟨⟨rfl, rfl⟩, -⟩ _ _ ⟨⟨rfl, rfl⟩, -⟩ _ _ ⟨⟨rfl, rfl⟩, -⟩ _ _ ⟨⟨rfl, rfl⟩, -⟩ _ _ ⟨⟨rfl, rfl⟩, -⟩ _ _ ⟨⟨b11, rfl, -, rfl⟩, -⟩ s10 _ ⟨rfl, hvq⟩ a w10 hfr hst
      obtain rfl := hvq rfl
      have hfr : Fr 66 [(44, _), (45, _), (46, _), (47, _), (48, _), (49, _), (50, _), (51, _), (0, _), (1, _), (2, _), (3, _), (4, _), (17, _), (18, _), (19, _), (20, _), (21, _), (5, _), (22, _), (23, _), (24, _), (25, _), (26, _), (27, _), (28, _), (7, _), (6, _), (29, _), (30, _), (31, _), (32, _), (33, _), (8, _), (9, _), (42, _), (43, _)] [] a := hfr
      have hst : St M w0 [own (.slice (some ⟨b11, 0, none⟩) 1 1) 3 1 ([[.int .i64 (k : Int)]]), own s10 3 1 ((vo.map fun i => [.int .i64 i]) ++ ([[.int .i64 (k : Int)]])), e1, blk b1 [.int .i64 now1.state, .int .i64 now1.since, .int .i64 now1.next] 39, blk ws.heap.size [.func (.yield lp) #[] #[]] 43, blk bp [.pointer (some ⟨x.bm, 0, none⟩)] 85, blk x.bm [.int .i64 rl.answer, .int .i64 rl.cooling, .int .i64 rl.settle, .int .i64 rl.reverse, .int .i64 cl.number, .int .i64 cl.frm, .int .i64 cl.to, .int .i64 cl.holder, .int .i64 cl.asked, .bool cl.backed, .map (some x.dm), .map (some x.em), vd] 95, mapE x.dm duesKV, blk w5.heap.size [.int .i64 ev.kind, .int .i64 ev.at_, .int .i64 ev.reason] 45, blk bl [sv] 32, mapE x.em effAll, er] w10 := hst
      refine wl_v hfr (by decide) (v_nilCheck rfl) fun a hfr => ?_
      refine wl_v hfr (by decide) (v_fieldAddr (v := .pointer (some ⟨x.bm, 12, none⟩)) rfl (by kernel_rfl)) fun a hfr => ?_
      refine wl_store_sl 6 hfr hst (hst.ownAt (i := 1) rfl) rfl rfl rfl (Try.sizeOf49 _) (Nat.le_of_ble_eq_true rfl) (ds := [.int .i64 rl.answer, .int .i64 rl.cooling, .int .i64 rl.settle, .int .i64 rl.reverse, .int .i64 cl.number, .int .i64 cl.frm, .int .i64 cl.to, .int .i64 cl.holder, .int .i64 cl.asked, .bool cl.backed, .map (some x.dm), .map (some x.em), s10]) rfl rfl fun a w11 hfr hst => ?_
      refine wl_nil ?_
      refine hK17 _ _ ?_
      have hfr : Fr 66 [(0, _), (1, _), (2, _), (3, _), (4, _), (17, _), (18, _), (19, _), (20, _), (21, _), (5, _), (22, _), (23, _), (24, _), (25, _), (26, _), (27, _), (28, _), (7, _), (6, _), (29, _), (30, _), (31, _), (32, _), (33, _), (8, _), (9, _), (42, _), (43, _)] [] a := hfr.pick [0, 1, 2, 3, 4, 17, 18, 19, 20, 21, 5, 22, 23, 24, 25, 26, 27, 28, 7, 6, 29, 30, 31, 32, 33, 8, 9, 42, 43]
      have hst : St M w0 [_, _, _, _, _, _, _, _, _, _, _] w11 := hst.mask [false, true, true, true, true, true, true, true, true, true, true, true]
      refine wc_exit ?_
      refine hK10 _ _ ?_
      refine wc_region ?_
      refine wl_v hfr (by decide) (v_add rfl rfl ⟨by omega, by omega⟩) fun a hfr => ?_
      refine wl_v hfr (by decide) (v_move rfl) fun a hfr => ?_
      refine wl_nil ?_
      rw [show (vo.map fun i => [Value.int .i64 i]) ++ [[Value.int .i64 (k : Int)]] = ((vo ++ [(k : Int)]).map fun i => [Value.int .i64 i]) from by simp] at hst
      refine ⟨_, ?_, k + 1, e1, now1, dn ++ alone rl ev.at_ nw, vo ++ [(k : Int)], s10, rfl, (by omega), (by rw [hsp, runE_void hkl hev hn1 (by assumption)]; simp), (by rw [hvo, runE_void hkl hev hn1 (by assumption)]; simp), hso1, (by have := alone_length rl ev.at_ nw; simp; omega), (by first | omega | (simp; omega)), hJ, hfr.pick [0, 1, 2, 3, 4, 17, 18, 19, 20, 21, 5, 22, 23, 24], hst.select [1, 2, 3, 4, 8, 5, 6, 9, 0, 10] (by decide)⟩
      omega
    rw [hc8] at hfr
    try simp only [Bool.not_eq_true', Bool.not_eq_false', decide_eq_true_eq, decide_eq_false_iff_not] at hc8
    refine wc_skip ?_
    refine hK15 _ _ ?_
    refine wc_seq_region fun K18 hK18 => ?_
    refine wl_v hfr (by decide) (v_load_blk1 (hst.get (k := 3) rfl) rfl (Try.isAgg85 _) rfl) fun a hfr => ?_
    refine wl_v hfr (by decide) (v_move rfl) fun a hfr => ?_
    refine wl_v hfr (by decide) (v_fieldAddr (v := .pointer (some ⟨w5.heap.size, 1, none⟩)) rfl (by kernel_rfl)) fun a hfr => ?_
    refine wl_v hfr (by decide) (v_load_blk1 (hst.get (k := 6) rfl) rfl (Try.isAgg3 _) rfl) fun a hfr => ?_
    refine wl_callp hfr hst (by decide) Try.call61 rfl (begins_ok ((after cl.backed now1.state ev).1) rl cl x vd ev.at_ _ (hst.get (k := 4) rfl) (hst.get (k := 5) rfl) hr (by omega) (by omega)) fun a w12 hfr hst => ?_
    refine wl_store 1 hfr hst rfl rfl rfl (Try.sizeOf39 _) rfl (Nat.le_of_ble_eq_true rfl) (ds := [.int .i64 ((begins rl ((after cl.backed now1.state ev).1) ev.at_).state), .int .i64 ((begins rl ((after cl.backed now1.state ev).1) ev.at_).since), .int .i64 ((begins rl ((after cl.backed now1.state ev).1) ev.at_).next)]) rfl rfl fun a w13 hfr hst => ?_
    refine wl_nil (hK18 _ _ ?_)
    refine wc_seq_region fun K19 hK19 => ?_
    refine wl_v hfr (by decide) (v_load_blk1 (hst.get (k := 2) rfl) rfl (Try.isAgg43 _) rfl) fun a hfr => ?_
    refine wl_v hfr (by decide) (v_load_all (hst.get (k := 1) rfl) rfl (Try.isAgg39 _) (Try.sizeOf39 _)) fun a hfr => ?_
    refine wl_r (r_yield rfl rfl (hY.yield (pre := dn ++ alone rl ev.at_ nw) (x := begins rl (after cl.backed now1.state ev).1 ev.at_) (by have := alone_length rl ev.at_ nw; simp only [NxS, List.length_append]; omega) hJ (hst.get (k := 0) rfl) (fun b hb => hst.lt (k := 0) rfl hb))) rfl rfl hfr fun a v w14 hR hfr => ?_
    obtain ⟨y12, e13, rfl, hx, hok, hft, hJt, hJf⟩ := hR
    have hst := hst.exchange (k := 0) rfl hx hok hft
    have hst : St M w0 [e13, blk b1 [.int .i64 ((begins rl ((after cl.backed now1.state ev).1) ev.at_).state), .int .i64 ((begins rl ((after cl.backed now1.state ev).1) ev.at_).since), .int .i64 ((begins rl ((after cl.backed now1.state ev).1) ev.at_).next)] 39, blk ws.heap.size [.func (.yield lp) #[] #[]] 43, blk bp [.pointer (some ⟨x.bm, 0, none⟩)] 85, blk x.bm [.int .i64 rl.answer, .int .i64 rl.cooling, .int .i64 rl.settle, .int .i64 rl.reverse, .int .i64 cl.number, .int .i64 cl.frm, .int .i64 cl.to, .int .i64 cl.holder, .int .i64 cl.asked, .bool cl.backed, .map (some x.dm), .map (some x.em), vd] 95, mapE x.dm duesKV, blk w5.heap.size [.int .i64 ev.kind, .int .i64 ev.at_, .int .i64 ev.reason] 45, blk bl [sv] 32, mapE x.em effAll, own vd 3 1 (vo.map fun i => [.int .i64 i]), er] w14 := hst
    clear hx hok hft
    refine wl_v hfr (by decide) (v_not rfl) fun a hfr => ?_
    refine wl_nil (hK19 _ _ ?_)
    refine wc_cond hfr rfl (fun hc14 => ?_) (fun hc14 => ?_)
    · rw [hc14] at hfr
      try simp only [Bool.not_eq_true', Bool.not_eq_false', decide_eq_true_eq, decide_eq_false_iff_not] at hc14
      have hJx := hJf hc14
      refine wc_ret ?_
      refine fin_ret hfr Try.results60 resAre_nil ?_
      exact ⟨_, _, hst.select [0, 3, 7, 4, 5, 8, 9, 10] (by decide), .inr ⟨dn ++ alone rl ev.at_ nw ++ [begins rl (after cl.backed now1.state ev).1 ev.at_], ⟨⟨(runE rl cl.backed (k + 1) (begins rl (after cl.backed now1.state ev).1 ev.at_) (l.drop (k + 1))).1, (by rw [hsp, runE_go hkl hev hn1 (by assumption)]; simp)⟩, _, _, rfl⟩, hJx⟩⟩
    rw [hc14] at hfr
    try simp only [Bool.not_eq_true', Bool.not_eq_false', decide_eq_true_eq, decide_eq_false_iff_not] at hc14
    have hJ := hJt hc14
    refine wc_skip ?_
    refine hK10 _ _ ?_
    refine wc_region ?_
    refine wl_v hfr (by decide) (v_add rfl rfl ⟨by omega, by omega⟩) fun a hfr => ?_
    refine wl_v hfr (by decide) (v_move rfl) fun a hfr => ?_
    refine wl_nil ?_
    refine ⟨_, ?_, k + 1, e13, begins rl (after cl.backed now1.state ev).1 ev.at_, dn ++ alone rl ev.at_ nw ++ [begins rl (after cl.backed now1.state ev).1 ev.at_], vo, vd, rfl, (by omega), (by rw [hsp, runE_go hkl hev hn1 (by assumption)]; simp), (by rw [hvo, runE_go hkl hev hn1 (by assumption)]), (Sound.begins _ _ (by omega) (by omega)), (by have := alone_length rl ev.at_ nw; simp; omega), (by first | omega | (simp; omega)), hJ, hfr.pick [0, 1, 2, 3, 4, 17, 18, 19, 20, 21, 5, 22, 23, 24], hst.select [0, 1, 2, 3, 7, 4, 5, 8, 9, 10] (by decide)⟩
    omega
  rw [hc5] at hfr
  try simp only [Bool.not_eq_true', Bool.not_eq_false', decide_eq_true_eq, decide_eq_false_iff_not] at hc5
  refine wc_exit ?_
  refine hK6 _ _ ?_
  refine wc_region ?_
  refine wl_v hfr (by decide) (v_move rfl) fun a hfr => ?_
  have hst : St M w0 [e, blk b1 [.int .i64 nw.state, .int .i64 nw.since, .int .i64 nw.next] 39, blk ws.heap.size [.func (.yield lp) #[] #[]] 43, blk bp [.pointer (some ⟨x.bm, 0, none⟩)] 85, blk x.bm [.int .i64 rl.answer, .int .i64 rl.cooling, .int .i64 rl.settle, .int .i64 rl.reverse, .int .i64 cl.number, .int .i64 cl.frm, .int .i64 cl.to, .int .i64 cl.holder, .int .i64 cl.asked, .bool cl.backed, .map (some x.dm), .map (some x.em), vd] 95, mapE x.dm duesKV, blk bl [sv] 32, mapE x.em effAll, own vd 3 1 (vo.map fun i => [.int .i64 i]), er] w5 := hst.select [0, 1, 2, 3, 5, 6, 4, 7, 8, 9] (by decide)
  have hst : St M w0 [e, blk b1 [.int .i64 nw.state, .int .i64 nw.since, .int .i64 nw.next] 39, blk ws.heap.size [.func (.yield lp) #[] #[]] 43, blk bp [.pointer (some ⟨x.bm, 0, none⟩)] 85, blk x.bm [.int .i64 rl.answer, .int .i64 rl.cooling, .int .i64 rl.settle, .int .i64 rl.reverse, .int .i64 cl.number, .int .i64 cl.frm, .int .i64 cl.to, .int .i64 cl.holder, .int .i64 cl.asked, .bool cl.backed, .map (some x.dm), .map (some x.em), vd] 95, mapE x.dm duesKV, join [blk bl [sv] 32, mapE x.em effAll, own vd 3 1 (vo.map fun i => [.int .i64 i]), er]] w5 := St.joinTail [e, blk b1 [.int .i64 nw.state, .int .i64 nw.since, .int .i64 nw.next] 39, blk ws.heap.size [.func (.yield lp) #[] #[]] 43, blk bp [.pointer (some ⟨x.bm, 0, none⟩)] 85, blk x.bm [.int .i64 rl.answer, .int .i64 rl.cooling, .int .i64 rl.settle, .int .i64 rl.reverse, .int .i64 cl.number, .int .i64 cl.frm, .int .i64 cl.to, .int .i64 cl.holder, .int .i64 cl.asked, .bool cl.backed, .map (some x.dm), .map (some x.em), vd] 95, mapE x.dm duesKV] [blk bl [sv] 32, mapE x.em effAll, own vd 3 1 (vo.map fun i => [.int .i64 i]), er] hst
  have hdl4 : dn.length + 4 < 200 := by omega
  have hcall := alone_ok rl cl x vd lp b1 ws.heap.size bp J Jx hY 4611686018427387904 nw dn e _ hr hso hJ hdl4 hst
  refine wl_r (r_callv (cap := [.pointer (some ⟨b1, 0, none⟩), .pointer (some ⟨bp, 0, none⟩), .pointer (some ⟨ws.heap.size, 0, none⟩)]) (vs := [.int .i64 4611686018427387904]) rfl Try.call62 rfl hcall) rfl rfl hfr fun a v w15 hR hfr => ?_
  clear hcall
  obtain ⟨ya15, e1, rfl, hyt, hyf⟩ := hR
  refine wl_nil ?_
  refine fin_end hfr Try.results60 resAre_nil ?_
  have hk : k = l.length := by omega
  subst hk
  rw [List.drop_length, runE] at hsp hvo
  rw [List.append_nil] at hvo
  cases ya15 with
  | true =>
    obtain ⟨hJ, hst⟩ := hyt rfl
    have hst := St.unjoinTail [e1, blk b1 [.int .i64 ((lastOf nw (alone rl 4611686018427387904 nw)).state), .int .i64 ((lastOf nw (alone rl 4611686018427387904 nw)).since), .int .i64 ((lastOf nw (alone rl 4611686018427387904 nw)).next)] 39, blk ws.heap.size [.func (.yield lp) #[] #[]] 43, blk bp [.pointer (some ⟨x.bm, 0, none⟩)] 85, blk x.bm [.int .i64 rl.answer, .int .i64 rl.cooling, .int .i64 rl.settle, .int .i64 rl.reverse, .int .i64 cl.number, .int .i64 cl.frm, .int .i64 cl.to, .int .i64 cl.holder, .int .i64 cl.asked, .bool cl.backed, .map (some x.dm), .map (some x.em), vd] 95, mapE x.dm duesKV] [blk bl [sv] 32, mapE x.em effAll, own vd 3 1 (vo.map fun i => [.int .i64 i]), er] hst
    exact ⟨_, _, hst.select [0, 3, 6, 4, 5, 7, 8, 9] (by decide), .inl ⟨_, ⟨rfl, vd, by rw [hvo]; rfl⟩, by rw [hsp]; exact hJ⟩⟩
  | false =>
    obtain ⟨p1, p2, now1, hp12, hJx, hst⟩ := hyf rfl
    have hst := St.unjoinTail [e1, blk b1 [.int .i64 now1.state, .int .i64 now1.since, .int .i64 now1.next] 39, blk ws.heap.size [.func (.yield lp) #[] #[]] 43, blk bp [.pointer (some ⟨x.bm, 0, none⟩)] 85, blk x.bm [.int .i64 rl.answer, .int .i64 rl.cooling, .int .i64 rl.settle, .int .i64 rl.reverse, .int .i64 cl.number, .int .i64 cl.frm, .int .i64 cl.to, .int .i64 cl.holder, .int .i64 cl.asked, .bool cl.backed, .map (some x.dm), .map (some x.em), vd] 95, mapE x.dm duesKV] [blk bl [sv] 32, mapE x.em effAll, own vd 3 1 (vo.map fun i => [.int .i64 i]), er] hst
    exact ⟨_, _, hst.select [0, 3, 6, 4, 5, 7, 8, 9] (by decide), .inr ⟨dn ++ p1, ⟨⟨p2, by rw [hsp, hp12]; simp⟩, vd, vo, rfl⟩, hJx⟩⟩
end Go.Proofs.Ytdamipejlfipcaa
