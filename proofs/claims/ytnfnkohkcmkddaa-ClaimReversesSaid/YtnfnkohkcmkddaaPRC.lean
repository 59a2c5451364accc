/- Texts joined: ClaimF, ClaimG, ClaimH, ClaimR. -/
import Derived.Test.YtnfnkohkcmkddaaPRB
import Derived.Test.YtnfnkohkcmkddaaPRA
namespace Go.Proofs.Ytnfnkohkcmkddaa
open Go.RowKit Go.PW
set_option linter.unusedVariables false
set_option linter.unusedSimpArgs false
set_option maxRecDepth 4000
theorem runE_alone {r : Rul} {b : Bool} {k : Nat} {now : Stt} {l : List Evt} {ev : Evt} {p1 p2 : List Stt} (hk : k < l.length) (he : l.getD k ⟨0, 0, 0⟩ = ev) (hp : alone r ev.at_ now = p1 ++ p2) :
  ∃ q, (runE r b k now (l.drop k)).1 = p1 ++ (p2 ++ q) := by
 cases ha : (after b (lastOf now (alone r ev.at_ now)).state ev).2 with
 | true => rw [runE_go hk he rfl ha, hp]; exact ⟨_, List.append_assoc _ _ _⟩
 | false => rw [runE_void hk he rfl ha, hp]; exact ⟨_, List.append_assoc _ _ _⟩
set_option maxHeartbeats 4000000 in
theorem statuses_run {M : Nat → Prop} {w0 : World} {er : Ent} (rl : Rul) (cl : Clm) (x : Mach) (sv : Value) (l : List Evt) (lp bp bl : Nat) (J Jx : List Stt → Ent → Prop) (hY : Rounds Try.prog M w0 lp encS NxS J Jx) (e0 : Ent) (ws : World)
  (hv : valid rl cl l = true) (hsv : ∀ H w, St M w0 H w → SlAt w sv 3 (l.map Evt.cells)) (hJ : J [] e0) (hst : St M w0 [e0, blk bp [.pointer (some ⟨x.bm, 0, none⟩)] 83, blk bl [sv] 34, blk x.bm [iv rl.answer, iv rl.cooling, iv rl.settle, iv rl.reverse, iv cl.number, iv cl.frm, iv cl.to, iv cl.holder, iv cl.asked, .bool cl.backed, .map (some x.dm), .map (some x.em), .slice none 0 0] 93, mapE x.dm duesKV, mapE x.em effAll, own (.slice none 0 0) 3 1 (([]).map fun i => [iv i]), er] ws) :
  Ret Try.prog 60 #[.func (.yield lp) #[] #[], .pointer (some ⟨bp, 0, none⟩), .pointer (some ⟨bl, 0, none⟩)] ws fun _ w => ∃ e1 Hi, St M w0 (e1 :: Hi) w ∧ ((∃ xs, (xs = statuses rl cl l ∧ ∃ (vd : Value), Hi = [blk bp [.pointer (some ⟨x.bm, 0, none⟩)] 83, blk bl [sv] 34, blk x.bm [iv rl.answer, iv rl.cooling, iv rl.settle, iv rl.reverse, iv cl.number, iv cl.frm, iv cl.to, iv cl.holder, iv cl.asked, .bool cl.backed, .map (some x.dm), .map (some x.em), vd] 93, mapE x.dm duesKV, mapE x.em effAll, own vd 3 1 ((voids rl cl l).map fun i => [iv i]), er]) ∧ J xs e1) ∨ (∃ pre, ((∃ rest, statuses rl cl l = pre ++ rest) ∧ ∃ (vd : Value) (vo : List Int), Hi = [blk bp [.pointer (some ⟨x.bm, 0, none⟩)] 83, blk bl [sv] 34, blk x.bm [iv rl.answer, iv rl.cooling, iv rl.settle, iv rl.reverse, iv cl.number, iv cl.frm, iv cl.to, iv cl.holder, iv cl.asked, .bool cl.backed, .map (some x.dm), .map (some x.em), vd] 93, mapE x.dm duesKV, mapE x.em effAll, own vd 3 1 (vo.map fun i => [iv i]), er]) ∧ Jx pre e1)) := by
 refine ret_of Try.func60 rfl Try.ntmps60 (lb rfl) fun a hfr => ?_
 have hfr : Fr 66 [(0, _), (1, _), (2, _)] [] a := hfr
 skip
 obtain ⟨hr, hc, hlen, hbad⟩ := valid_parts hv
 have hcl := isClaim_le hc
 have hfs : Sound rl (first rl cl) := Sound.begins 1 cl.asked (by omega) (by omega)
 refine wc_seq_region fun K1 hK1 => ?_
 refine wl_box hfr hst rfl [.func (.yield lp) #[] #[]] rfl fun a w1 hfr hst => ?_
 refine wl_nil (hK1 _ _ ?_)
 refine wc_seq_k fun K2 hK2 => ?_
 refine wc_of_dr ?_
 have hfr : Fr 66 [(0, _), (1, _), (2, _), (3, _)] [] a := hfr.pick [0, 1, 2, 3]
 refine wc_phases' 8 [[], [], [1], [2], [3], [4], [0, 5], []] (fun i => match i with | 0 => pv (.pointer (some ⟨x.bm, 0, none⟩)) | 1 => pv (.pointer (some ⟨x.bm, 0, none⟩)) | 2 => pv (.pointer (some ⟨x.bm, 0, none⟩)) | 3 => pv (.pointer (some ⟨x.bm, 4, none⟩)) | 4 => pv (.pointer (some ⟨x.bm, 8, none⟩)) | 5 => pv (iv cl.asked) | 6 => pv (.agg #[iv ((begins rl 1 cl.asked).state), iv ((begins rl 1 cl.asked).since), iv ((begins rl 1 cl.asked).next)]) | 7 => pm (fun b : Nat => .pointer (some ⟨b, 0, none⟩)) (fun b => [blk b [iv 0, iv 0, iv 0] 54]) (fun _ => True) | _ => fun _ _ => False) hfr hst (by kernel_rfl) (by kernel_rfl) ?_ ?_
 ·intro i hi
  match i, hi with
  | 0, _ =>
   intro w hst
   exact OpV.g (v_load_blk1 (hst.get (k := 2) rfl) rfl (Try.isAgg83 _) rfl)
  | 1, _ =>
   intro w hst
   exact OpV.g (v_load_blk1 (hst.get (k := 2) rfl) rfl (Try.isAgg83 _) rfl)
  | 2, _ =>
   rintro _ _ ⟨rfl, rfl⟩
   intro w hst
   exact OpV.g (v_nilCheck rfl)
  | 3, _ =>
   rintro _ _ ⟨rfl, rfl⟩
   intro w hst
   exact OpV.g (v_fieldAddr (v := .pointer (some ⟨x.bm, 4, none⟩)) rfl (by kernel_rfl))
  | 4, _ =>
   rintro _ _ ⟨rfl, rfl⟩
   intro w hst
   exact OpV.g (v_fieldAddr (v := .pointer (some ⟨x.bm, 8, none⟩)) rfl (by kernel_rfl))
  | 5, _ =>
   rintro _ _ ⟨rfl, rfl⟩
   intro w hst
   exact OpV.g (v_load_blk1 (hst.get (k := 4) rfl) rfl (Try.isAgg3 _) rfl)
  | 6, _ =>
   rintro _ _ ⟨rfl, rfl⟩ _ _ ⟨rfl, rfl⟩
   intro w hst
   exact g_callp Try.call61 rfl (begins_ok 1 rl cl x (.slice none 0 0) cl.asked _ (hst.get (k := 4) rfl) (hst.get (k := 5) rfl) hr (by omega) (by omega))
  | 7, _ =>
   intro w hst
   exact g_alloc (Try.zeroValue54 _) (cs := [iv 0, iv 0, iv 0]) rfl
 rintro _ _ ⟨rfl, rfl⟩ _ _ ⟨rfl, rfl⟩ _ _ ⟨rfl, rfl⟩ _ _ ⟨rfl, rfl⟩ _ _ ⟨rfl, rfl⟩ _ _ ⟨rfl, rfl⟩ _ _ ⟨rfl, rfl⟩ _ _ ⟨b1, rfl, -, rfl⟩ a w2 hfr hst
 have hfr : Fr 66 [(10, _), (11, _), (12, _), (13, _), (14, _), (15, _), (16, _), (4, _), (0, _), (1, _), (2, _), (3, _)] [] a := hfr
 have hst : St M w0 [_, _, _, _, _, _, _, _, _, _] w2 := hst
 refine wl_sto 0 hfr hst [iv ((begins rl 1 cl.asked).state), iv ((begins rl 1 cl.asked).since), iv ((begins rl 1 cl.asked).next)] rfl (Try.sizeOf54 _) fun a w3 hfr hst => ?_
 refine wl_nil ?_
 refine hK2 _ _ ?_
 have hfr : Fr 66 [(0, _), (1, _), (2, _), (3, _), (4, _)] [] a := hfr.pick [0, 1, 2, 3, 4]
 refine wc_seq_k fun K3 hK3 => ?_
 refine wc_seq_region fun K4 hK4 => ?_
 refine wlv hfr (v_load_blk1 (hst.get (k := 1) rfl) rfl (Try.isAgg113 _) rfl) fun a hfr => ?_
 refine wlv hfr (v_load_all (hst.get (k := 0) rfl) rfl (Try.isAgg54 _) (Try.sizeOf54 _)) fun a hfr => ?_
 refine wl_r (r_yield rfl rfl (hY.yield (pre := []) (x := first rl cl) (by simp [NxS]) hJ (hst.only (i := 2) rfl))) rfl rfl hfr fun a v w4 hR hfr => ?_
 obtain ⟨y2, e3, rfl, hx, hok, hft, hJt, hJf⟩ := hR
 have hst := hst.exchange (k := 2) rfl hx hok hft
 have hst : St M w0 [blk b1 [iv ((begins rl 1 cl.asked).state), iv ((begins rl 1 cl.asked).since), iv ((begins rl 1 cl.asked).next)] 54, blk ws.heap.size [.func (.yield lp) #[] #[]] 113, e3, blk bp [.pointer (some ⟨x.bm, 0, none⟩)] 83, blk bl [sv] 34, blk x.bm [iv rl.answer, iv rl.cooling, iv rl.settle, iv rl.reverse, iv cl.number, iv cl.frm, iv cl.to, iv cl.holder, iv cl.asked, .bool cl.backed, .map (some x.dm), .map (some x.em), .slice none 0 0] 93, mapE x.dm duesKV, mapE x.em effAll, own (.slice none 0 0) 3 1 (([]).map fun i => [iv i]), er] w4 := hst
 clear hx hok hft
 refine wlv hfr (v_not rfl) fun a hfr => ?_
 refine wl_nil (hK4 _ _ ?_)
 refine wc_cond hfr rfl (fun hc4 => ?_) (fun hc4 => ?_)
 ·rw [hc4] at hfr
  try simp only [qz] at hc4
  have hJx := hJf hc4
  refine wc_ret ?_
  refine fin_ret hfr Try.results60 resAre_nil ?_
  exact ⟨_, _, hst.select [2, 3, 4, 5, 6, 7, 8, 9] (by decide), .inr ⟨[first rl cl], ⟨⟨_, rfl⟩, _, _, rfl⟩, hJx⟩⟩
 rw [hc4] at hfr
 try simp only [qz] at hc4
 have hJ := hJt hc4
 refine wc_skip ?_
 refine hK3 _ _ ?_
 refine wc_seq_region fun K5 hK5 => ?_
 refine wlv hfr (v_makeFunc rfl rfl) fun a hfr => wla hfr rfl fun a hfr => ?_
 refine wl_nil (hK5 _ _ ?_)
 refine wc_seq_k fun K6 hK6 => ?_
 refine wc_seq_region fun K7 hK7 => ?_
 refine wlv hfr (v_load_blk1 (hst.get (k := 4) rfl) rfl (Try.isAgg34 _) rfl) fun a hfr => ?_
 refine wlv hfr ((v_len_sl (sT := 34) (hsv _ _ hst) rfl rfl (Try.runUnderlying34 _)).asi (m' := (l.length : Int)) (by simp)) fun a hfr => wlm hfr rfl fun a hfr => ?_
 refine wl_nil (hK7 _ _ ?_)
 refine wc_block ?_
 refine wc_loop (fun m a w => ∃ (k : Nat) (e : Ent) (nw : Stt) (dn : List Stt) (vo : List Int) (vd : Value), m = l.length - k ∧ (k ≤ l.length) ∧ (statuses rl cl l = dn ++ (runE rl cl.backed k nw (l.drop k)).1) ∧ (voids rl cl l = vo ++ (runE rl cl.backed k nw (l.drop k)).2) ∧ (Sound rl nw) ∧ (dn.length ≤ 1 + 5 * k) ∧ (vo.length ≤ k) ∧ (J dn e) ∧ Fr 66 [(0, .func (.yield lp) #[] #[]), (1, .pointer (some ⟨bp, 0, none⟩)), (2, .pointer (some ⟨bl, 0, none⟩)), (3, .pointer (some ⟨ws.heap.size, 0, none⟩)), (4, .pointer (some ⟨b1, 0, none⟩)), (17, .func (.yield lp) #[] #[]), (18, .agg #[iv ((begins rl 1 cl.asked).state), iv ((begins rl 1 cl.asked).since), iv ((begins rl 1 cl.asked).next)]), (19, .bool y2), (20, .bool false), (21, .func (.func 62) #[] #[.pointer (some ⟨b1, 0, none⟩), .pointer (some ⟨bp, 0, none⟩), .pointer (some ⟨ws.heap.size, 0, none⟩)]), (5, .func (.func 62) #[] #[.pointer (some ⟨b1, 0, none⟩), .pointer (some ⟨bp, 0, none⟩), .pointer (some ⟨ws.heap.size, 0, none⟩)]), (22, sv), (23, iv (l.length : Int)), (24, iv (k : Int))] [] a ∧ St M w0 [e, blk b1 [iv nw.state, iv nw.since, iv nw.next] 54, blk ws.heap.size [.func (.yield lp) #[] #[]] 113, blk bp [.pointer (some ⟨x.bm, 0, none⟩)] 83, blk bl [sv] 34, blk x.bm [iv rl.answer, iv rl.cooling, iv rl.settle, iv rl.reverse, iv cl.number, iv cl.frm, iv cl.to, iv cl.holder, iv cl.asked, .bool cl.backed, .map (some x.dm), .map (some x.em), vd] 93, mapE x.dm duesKV, mapE x.em effAll, own vd 3 1 (vo.map fun i => [iv i]), er] w) _ ⟨0, e3, first rl cl, [first rl cl], [], .slice none 0 0, rfl, Nat.zero_le _, rfl, rfl, hfs, (by simp), (by simp), hJ, hfr.pick [0, 1, 2, 3, 4, 17, 18, 19, 20, 21, 5, 22, 23, 24], hst.select [2, 0, 1, 3, 4, 5, 6, 7, 8, 9] (by decide)⟩ ?_
 rintro _ a w5 ⟨k, e, nw, dn, vo, vd, rfl, hk, hsp, hvo, hso, hdl, hvl, hJ, hfr, hst⟩
 refine wc_seq_region fun K8 hK8 => ?_
 refine wlv hfr (v_lt rfl rfl) fun a hfr => ?_
 refine wl_nil (hK8 _ _ ?_)
 refine wc_seq_k fun K9 hK9 => ?_
 refine wc_cond_d hfr rfl (fun hc5 => ?_) (fun hc5 => ?_)
 ·rw [decide_eq_true hc5] at hfr
  have hkl : k < l.length := by omega
  obtain ⟨ev, hev⟩ : ∃ ev, l.getD k ⟨0, 0, 0⟩ = ev := ⟨_, rfl⟩
  have hea := anyBad_at l cl.asked hbad k hkl
  rw [hev] at hea
  refine wc_skip ?_
  refine hK9 _ _ ?_
  refine wc_seq_k fun K10 hK10 => ?_
  refine wc_block ?_
  refine wc_seq_region fun K11 hK11 => ?_
  refine wlm hfr rfl fun a hfr => ?_
  refine wlv hfr ((v_indexAddr_sl (i := (k : Int)) (sT := 34) (hsv _ _ hst) rfl rfl (Try.runUnderlying34 _) (Try.sizeOf39 _) (by omega) (by simpa using hkl)).as (v' := slAddr sv (k * 3)) rfl) fun a hfr => ?_
  refine wlv hfr ((v_load_sl (hsv _ _ hst) (i := k) (by simpa using hkl) rfl (Try.isAgg39 _) (Try.sizeOf39 _)).as (v' := .agg #[iv ev.kind, iv ev.at_, iv ev.reason]) (by rw [← hev]; show _ = Value.agg (l.getD k ⟨0, 0, 0⟩).cells.toArray; simp [hkl])) fun a hfr => ?_
  refine wl_alloc hfr hst (Try.zeroValue39 _) [iv 0, iv 0, iv 0] rfl fun a w6 hfr hst => ?_
  refine wla hfr rfl fun a hfr => ?_
  refine wl_sto 0 hfr hst [iv ev.kind, iv ev.at_, iv ev.reason] rfl (Try.sizeOf39 _) fun a w7 hfr hst => ?_
  refine wl_nil (hK11 _ _ ?_)
  refine wc_seq_k fun K12 hK12 => ?_
  refine wc_seq_region fun K13 hK13 => ?_
  refine wlm hfr rfl fun a hfr => ?_
  refine wlv hfr (v_fieldAddr (v := .pointer (some ⟨w5.heap.size, 1, none⟩)) rfl (by kernel_rfl)) fun a hfr => ?_
  refine wlv hfr (v_load_blk1 (hst.get (k := 0) rfl) rfl (Try.isAgg3 _) rfl) fun a hfr => ?_
  have hst : St M w0 [e, blk b1 [iv nw.state, iv nw.since, iv nw.next] 54, blk ws.heap.size [.func (.yield lp) #[] #[]] 113, blk bp [.pointer (some ⟨x.bm, 0, none⟩)] 83, blk x.bm [iv rl.answer, iv rl.cooling, iv rl.settle, iv rl.reverse, iv cl.number, iv cl.frm, iv cl.to, iv cl.holder, iv cl.asked, .bool cl.backed, .map (some x.dm), .map (some x.em), vd] 93, mapE x.dm duesKV, blk w5.heap.size [iv ev.kind, iv ev.at_, iv ev.reason] 39, blk bl [sv] 34, mapE x.em effAll, own vd 3 1 (vo.map fun i => [iv i]), er] w7 := hst.select [1, 2, 3, 4, 6, 7, 0, 5, 8, 9, 10] (by decide)
  have hst : St M w0 [e, blk b1 [iv nw.state, iv nw.since, iv nw.next] 54, blk ws.heap.size [.func (.yield lp) #[] #[]] 113, blk bp [.pointer (some ⟨x.bm, 0, none⟩)] 83, blk x.bm [iv rl.answer, iv rl.cooling, iv rl.settle, iv rl.reverse, iv cl.number, iv cl.frm, iv cl.to, iv cl.holder, iv cl.asked, .bool cl.backed, .map (some x.dm), .map (some x.em), vd] 93, mapE x.dm duesKV, join [blk w5.heap.size [iv ev.kind, iv ev.at_, iv ev.reason] 39, blk bl [sv] 34, mapE x.em effAll, own vd 3 1 (vo.map fun i => [iv i]), er]] w7 := St.joinTail [e, blk b1 [iv nw.state, iv nw.since, iv nw.next] 54, blk ws.heap.size [.func (.yield lp) #[] #[]] 113, blk bp [.pointer (some ⟨x.bm, 0, none⟩)] 83, blk x.bm [iv rl.answer, iv rl.cooling, iv rl.settle, iv rl.reverse, iv cl.number, iv cl.frm, iv cl.to, iv cl.holder, iv cl.asked, .bool cl.backed, .map (some x.dm), .map (some x.em), vd] 93, mapE x.dm duesKV] [blk w5.heap.size [iv ev.kind, iv ev.at_, iv ev.reason] 39, blk bl [sv] 34, mapE x.em effAll, own vd 3 1 (vo.map fun i => [iv i]), er] hst
  have hdl4 : dn.length + 4 < 200 := by omega
  have hcall := alone_ok rl cl x vd lp b1 ws.heap.size bp J Jx hY ev.at_ nw dn e _ hr hso hJ hdl4 hst
  refine wl_r (r_callv (cap := [.pointer (some ⟨b1, 0, none⟩), .pointer (some ⟨bp, 0, none⟩), .pointer (some ⟨ws.heap.size, 0, none⟩)]) (vs := [iv ev.at_]) rfl Try.call62 rfl hcall) rfl rfl hfr fun a v w8 hR hfr => ?_
  clear hcall
  obtain ⟨ya6, e1, rfl, hyt, hyf⟩ := hR
  refine wlv hfr (v_not rfl) fun a hfr => ?_
  refine wl_nil (hK13 _ _ ?_)
  refine wc_cond hfr rfl (fun hc7 => ?_) (fun hc7 => ?_)
  ·rw [hc7] at hfr
   try simp only [qz] at hc7
   obtain ⟨p1, p2, now1, hp12, hJx, hst⟩ := hyf hc7
   obtain ⟨qq, hqq⟩ := runE_alone (b := cl.backed) hkl hev hp12
   have hst := St.unjoinTail [e1, blk b1 [iv now1.state, iv now1.since, iv now1.next] 54, blk ws.heap.size [.func (.yield lp) #[] #[]] 113, blk bp [.pointer (some ⟨x.bm, 0, none⟩)] 83, blk x.bm [iv rl.answer, iv rl.cooling, iv rl.settle, iv rl.reverse, iv cl.number, iv cl.frm, iv cl.to, iv cl.holder, iv cl.asked, .bool cl.backed, .map (some x.dm), .map (some x.em), vd] 93, mapE x.dm duesKV] [blk w5.heap.size [iv ev.kind, iv ev.at_, iv ev.reason] 39, blk bl [sv] 34, mapE x.em effAll, own vd 3 1 (vo.map fun i => [iv i]), er] hst
   have hst : St M w0 [e1, blk b1 [iv now1.state, iv now1.since, iv now1.next] 54, blk ws.heap.size [.func (.yield lp) #[] #[]] 113, blk bp [.pointer (some ⟨x.bm, 0, none⟩)] 83, blk x.bm [iv rl.answer, iv rl.cooling, iv rl.settle, iv rl.reverse, iv cl.number, iv cl.frm, iv cl.to, iv cl.holder, iv cl.asked, .bool cl.backed, .map (some x.dm), .map (some x.em), vd] 93, mapE x.dm duesKV, blk w5.heap.size [iv ev.kind, iv ev.at_, iv ev.reason] 39, blk bl [sv] 34, mapE x.em effAll, own vd 3 1 (vo.map fun i => [iv i]), er] w8 := hst
   refine wc_ret ?_
   refine fin_ret hfr Try.results60 resAre_nil ?_
   exact ⟨_, _, hst.select [0, 3, 7, 4, 5, 8, 9, 10] (by decide), .inr ⟨dn ++ p1, ⟨⟨p2 ++ qq, (by rw [hsp, hqq]; simp)⟩, _, _, rfl⟩, hJx⟩⟩
  rw [hc7] at hfr
  try simp only [qz] at hc7
  obtain ⟨hJ, hst⟩ := hyt hc7
  have hst := St.unjoinTail [e1, blk b1 [iv ((lastOf nw (alone rl ev.at_ nw)).state), iv ((lastOf nw (alone rl ev.at_ nw)).since), iv ((lastOf nw (alone rl ev.at_ nw)).next)] 54, blk ws.heap.size [.func (.yield lp) #[] #[]] 113, blk bp [.pointer (some ⟨x.bm, 0, none⟩)] 83, blk x.bm [iv rl.answer, iv rl.cooling, iv rl.settle, iv rl.reverse, iv cl.number, iv cl.frm, iv cl.to, iv cl.holder, iv cl.asked, .bool cl.backed, .map (some x.dm), .map (some x.em), vd] 93, mapE x.dm duesKV] [blk w5.heap.size [iv ev.kind, iv ev.at_, iv ev.reason] 39, blk bl [sv] 34, mapE x.em effAll, own vd 3 1 (vo.map fun i => [iv i]), er] hst
  obtain ⟨now1, hn1⟩ : ∃ n, lastOf nw (alone rl ev.at_ nw) = n := ⟨_, rfl⟩
  rw [hn1] at hst
  have hst : St M w0 [e1, blk b1 [iv now1.state, iv now1.since, iv now1.next] 54, blk ws.heap.size [.func (.yield lp) #[] #[]] 113, blk bp [.pointer (some ⟨x.bm, 0, none⟩)] 83, blk x.bm [iv rl.answer, iv rl.cooling, iv rl.settle, iv rl.reverse, iv cl.number, iv cl.frm, iv cl.to, iv cl.holder, iv cl.asked, .bool cl.backed, .map (some x.dm), .map (some x.em), vd] 93, mapE x.dm duesKV, blk w5.heap.size [iv ev.kind, iv ev.at_, iv ev.reason] 39, blk bl [sv] 34, mapE x.em effAll, own vd 3 1 (vo.map fun i => [iv i]), er] w8 := hst
  have hso1 : Sound rl now1 := hn1 ▸ aloneF_sound hr 4 nw hso
  refine wc_skip ?_
  refine hK12 _ _ ?_
  refine wc_seq_region fun K14 hK14 => ?_
  refine wlv hfr (v_load_blk1 (hst.get (k := 3) rfl) rfl (Try.isAgg83 _) rfl) fun a hfr => ?_
  refine wlv hfr (v_fieldAddr (v := .pointer (some ⟨b1, 0, none⟩)) rfl (by kernel_rfl)) fun a hfr => ?_
  refine wlv hfr (v_load_blk1 (hst.get (k := 1) rfl) rfl (Try.isAgg3 _) rfl) fun a hfr => ?_
  refine wlv hfr (v_load_all (hst.get (k := 6) rfl) rfl (Try.isAgg39 _) (Try.sizeOf39 _)) fun a hfr => ?_
  refine wl_callp hfr hst Try.call63 rfl (after_ok now1.state ev rl cl x vd _ (hst.get (k := 4) rfl) (hst.get (k := 8) rfl)) fun a w9 hfr hst => ?_
  refine wlm hfr rfl fun a hfr => ?_
  refine wlv hfr (v_extract rfl rfl) fun a hfr => ?_
  refine wlv hfr (v_extract rfl rfl) fun a hfr => wla hfr rfl fun a hfr => wla hfr rfl fun a hfr => ?_
  refine wl_nil (hK14 _ _ ?_)
  have hfr : Fr 66 [(0, _), (1, _), (2, _), (3, _), (4, _), (17, _), (18, _), (19, _), (20, _), (21, _), (5, _), (22, _), (23, _), (24, _), (25, _), (26, _), (27, _), (28, _), (7, _), (6, _), (29, _), (30, _), (31, _), (32, _), (33, _), (8, _), (9, _)] [] a := hfr.pick [0, 1, 2, 3, 4, 17, 18, 19, 20, 21, 5, 22, 23, 24, 25, 26, 27, 28, 7, 6, 29, 30, 31, 32, 33, 8, 9]
  refine wc_seq_k fun K15 hK15 => ?_
  refine wc_seq_region fun K16 hK16 => ?_
  refine wlm hfr rfl fun a hfr => ?_
  refine wlv hfr (v_not rfl) fun a hfr => ?_
  refine wl_nil (hK16 _ _ ?_)
  refine wc_cond hfr rfl (fun hc8 => ?_) (fun hc8 => ?_)
  ·rw [hc8] at hfr
   try simp only [qz] at hc8
   refine wc_seq_k fun K17 hK17 => ?_
   refine wc_of_dr ?_
   have hfr : Fr 66 [(0, _), (1, _), (2, _), (3, _), (4, _), (17, _), (18, _), (19, _), (20, _), (21, _), (5, _), (22, _), (23, _), (24, _), (25, _), (26, _), (27, _), (28, _), (7, _), (6, _), (29, _), (30, _), (31, _), (32, _), (33, _), (8, _), (9, _), (42, _), (43, _)] [] a := hfr.pick [0, 1, 2, 3, 4, 17, 18, 19, 20, 21, 5, 22, 23, 24, 25, 26, 27, 28, 7, 6, 29, 30, 31, 32, 33, 8, 9, 42, 43]
   have hst : St M w0 (own vd 3 1 (vo.map fun i => [iv i]) :: [e1, blk b1 [iv now1.state, iv now1.since, iv now1.next] 54, blk ws.heap.size [.func (.yield lp) #[] #[]] 113, blk bp [.pointer (some ⟨x.bm, 0, none⟩)] 83, blk x.bm [iv rl.answer, iv rl.cooling, iv rl.settle, iv rl.reverse, iv cl.number, iv cl.frm, iv cl.to, iv cl.holder, iv cl.asked, .bool cl.backed, .map (some x.dm), .map (some x.em), vd] 93, mapE x.dm duesKV, blk w5.heap.size [iv ev.kind, iv ev.at_, iv ev.reason] 39, blk bl [sv] 34, mapE x.em effAll, er]) w9 := hst.front (i := 9) rfl
   refine wc_phases_one 7 (own vd 3 1 (vo.map fun i => [iv i])) (fun v => own v 3 1 ((vo.map fun i => [iv i]) ++ ([[iv (k : Int)]]))) 8 [[], [], [1], [2], [3], [], [5], [4, 6]] (fun i => match i with | 0 => pv (.pointer (some ⟨x.bm, 0, none⟩)) | 1 => pv (.pointer (some ⟨x.bm, 0, none⟩)) | 2 => pv (.pointer (some ⟨x.bm, 0, none⟩)) | 3 => pv (.pointer (some ⟨x.bm, 12, none⟩)) | 4 => pv (vd) | 5 => pv (iv (k : Int)) | 6 => pm (fun b : Nat => .slice (some ⟨b, 0, none⟩) 1 1) (fun b => [own (.slice (some ⟨b, 0, none⟩) 1 1) 3 1 [[iv (k : Int)]]]) (fun _ => True) | 7 => fun v E => E = [] | _ => fun _ _ => False) hfr hst (by kernel_rfl) (by kernel_rfl) (by kernel_rfl) (by decide) ?_ ?_ ?_ ?_
   ·intro i v E h
    match i, h with
    | 0, _ => exact by decide
    | 1, _ => exact by decide
    | 2, _ => exact by decide
    | 3, _ => exact by decide
    | 4, _ => exact by decide
    | 5, _ => exact by decide
    | 6, _ => exact by decide
    | 7, _ => exact by decide
    | i + 8, h => exact h.elim
   ·intro i hi hiq e
    match i, hi, hiq with
    | 0, _, _ =>
     intro w hst
     exact OpV.g (v_load_blk1 (hst.get (k := 4) rfl) rfl (Try.isAgg83 _) rfl)
    | 1, _, _ =>
     intro w hst
     exact OpV.g (v_load_blk1 (hst.get (k := 4) rfl) rfl (Try.isAgg83 _) rfl)
    | 2, _, _ =>
     rintro _ _ ⟨rfl, rfl⟩
     intro w hst
     exact OpV.g (v_nilCheck rfl)
    | 3, _, _ =>
     rintro _ _ ⟨rfl, rfl⟩
     intro w hst
     exact OpV.g (v_fieldAddr (v := .pointer (some ⟨x.bm, 12, none⟩)) rfl (by kernel_rfl))
    | 4, _, _ =>
     rintro _ _ ⟨rfl, rfl⟩
     intro w hst
     exact OpV.g (v_load_blk1 (hst.get (k := 5) rfl) rfl (Try.isAgg50 _) rfl)
    | 5, _, _ =>
     intro w hst
     exact OpV.g (v_move rfl)
    | 6, _, _ =>
     rintro _ _ ⟨rfl, rfl⟩
     intro w hst
     exact g_buildSlice (E := 3) (sz := 1) rfl [[iv (k : Int)]] (fun _ => by kernel_rfl) (by simp) rfl (by decide)
    | 7, _, h => exact absurd rfl h
   ·rintro _ _ ⟨rfl, rfl⟩ _ _ ⟨b11, rfl, -, rfl⟩
    intro w hst
    exact (r_append (hst.get (k := 0) rfl) rfl rfl (hst.ownAt (i := 1) rfl) (by simp) Try.underlying50 (inf := Try.t3) (z := iv 0) rfl rfl rfl rfl (by decide) (by simp [Value.oneCell']) (by have hby : Try.t3.bytes = 8 := rfl; simp [big, hby]; omega) (by have hby : Try.t3.bytes = 8 := rfl; simp [big, hby]; omega)).mono fun v w' ⟨h1, h2, h3, _⟩ => ⟨h1, h2, h3, rfl⟩
   rintro vq _ _ ⟨⟨rfl, rfl⟩, -⟩ _ _ ⟨⟨rfl, rfl⟩, -⟩ _ _ ⟨⟨rfl, rfl⟩, -⟩ _ _ ⟨⟨rfl, rfl⟩, -⟩ _ _ ⟨⟨rfl, rfl⟩, -⟩ _ _ ⟨⟨rfl, rfl⟩, -⟩ _ _ ⟨⟨b11, rfl, -, rfl⟩, -⟩ s10 _ ⟨rfl, hvq⟩ a w10 hfr hst
   obtain rfl := hvq rfl
   have hfr : Fr 66 [(44, _), (45, _), (46, _), (47, _), (48, _), (49, _), (50, _), (51, _), (0, _), (1, _), (2, _), (3, _), (4, _), (17, _), (18, _), (19, _), (20, _), (21, _), (5, _), (22, _), (23, _), (24, _), (25, _), (26, _), (27, _), (28, _), (7, _), (6, _), (29, _), (30, _), (31, _), (32, _), (33, _), (8, _), (9, _), (42, _), (43, _)] [] a := hfr
   have hst : St M w0 [own (.slice (some ⟨b11, 0, none⟩) 1 1) 3 1 ([[iv (k : Int)]]), own s10 3 1 ((vo.map fun i => [iv i]) ++ ([[iv (k : Int)]])), e1, blk b1 [iv now1.state, iv now1.since, iv now1.next] 54, blk ws.heap.size [.func (.yield lp) #[] #[]] 113, blk bp [.pointer (some ⟨x.bm, 0, none⟩)] 83, blk x.bm [iv rl.answer, iv rl.cooling, iv rl.settle, iv rl.reverse, iv cl.number, iv cl.frm, iv cl.to, iv cl.holder, iv cl.asked, .bool cl.backed, .map (some x.dm), .map (some x.em), vd] 93, mapE x.dm duesKV, blk w5.heap.size [iv ev.kind, iv ev.at_, iv ev.reason] 39, blk bl [sv] 34, mapE x.em effAll, er] w10 := hst
   refine wlv hfr (v_nilCheck rfl) fun a hfr => ?_
   refine wlv hfr (v_fieldAddr (v := .pointer (some ⟨x.bm, 12, none⟩)) rfl (by kernel_rfl)) fun a hfr => ?_
   refine wl_store_sl 6 hfr hst (hst.ownAt (i := 1) rfl) rfl rfl rfl (Try.sizeOf50 _) (lb rfl) (ds := [iv rl.answer, iv rl.cooling, iv rl.settle, iv rl.reverse, iv cl.number, iv cl.frm, iv cl.to, iv cl.holder, iv cl.asked, .bool cl.backed, .map (some x.dm), .map (some x.em), s10]) rfl rfl fun a w11 hfr hst => ?_
   refine wl_nil ?_
   refine hK17 _ _ ?_
   have hfr : Fr 66 [(0, _), (1, _), (2, _), (3, _), (4, _), (17, _), (18, _), (19, _), (20, _), (21, _), (5, _), (22, _), (23, _), (24, _), (25, _), (26, _), (27, _), (28, _), (7, _), (6, _), (29, _), (30, _), (31, _), (32, _), (33, _), (8, _), (9, _), (42, _), (43, _)] [] a := hfr.pick [0, 1, 2, 3, 4, 17, 18, 19, 20, 21, 5, 22, 23, 24, 25, 26, 27, 28, 7, 6, 29, 30, 31, 32, 33, 8, 9, 42, 43]
   have hst : St M w0 [_, _, _, _, _, _, _, _, _, _, _] w11 := hst.mask [false, true, true, true, true, true, true, true, true, true, true, true]
   refine wc_exit ?_
   refine hK10 _ _ ?_
   refine wc_region ?_
   refine wlv hfr (v_add rfl rfl ⟨by omega, by omega⟩) fun a hfr => wlm hfr rfl fun a hfr => ?_
   refine wl_nil ?_
   rw [show (vo.map fun i => [iv i]) ++ [[iv (k : Int)]] = ((vo ++ [(k : Int)]).map fun i => [iv i]) from by simp] at hst
   refine ⟨_, ?_, k + 1, e1, now1, dn ++ alone rl ev.at_ nw, vo ++ [(k : Int)], s10, rfl, (by omega), (by rw [hsp, runE_void hkl hev hn1 (by assumption)]; simp), (by rw [hvo, runE_void hkl hev hn1 (by assumption)]; simp), hso1, (by have := alone_length rl ev.at_ nw; simp; omega), (by first | omega | (simp; omega)), hJ, hfr.pick [0, 1, 2, 3, 4, 17, 18, 19, 20, 21, 5, 22, 23, 24], hst.select [1, 2, 3, 4, 8, 5, 6, 9, 0, 10] (by decide)⟩
   omega
  rw [hc8] at hfr
  try simp only [qz] at hc8
  refine wc_skip ?_
  refine hK15 _ _ ?_
  refine wc_seq_region fun K18 hK18 => ?_
  refine wlv hfr (v_load_blk1 (hst.get (k := 3) rfl) rfl (Try.isAgg83 _) rfl) fun a hfr => wlm hfr rfl fun a hfr => ?_
  refine wlv hfr (v_fieldAddr (v := .pointer (some ⟨w5.heap.size, 1, none⟩)) rfl (by kernel_rfl)) fun a hfr => ?_
  refine wlv hfr (v_load_blk1 (hst.get (k := 6) rfl) rfl (Try.isAgg3 _) rfl) fun a hfr => ?_
  refine wl_callp hfr hst Try.call61 rfl (begins_ok ((after cl.backed now1.state ev).1) rl cl x vd ev.at_ _ (hst.get (k := 4) rfl) (hst.get (k := 5) rfl) hr (by omega) (by omega)) fun a w12 hfr hst => ?_
  refine wl_sto 1 hfr hst [iv ((begins rl ((after cl.backed now1.state ev).1) ev.at_).state), iv ((begins rl ((after cl.backed now1.state ev).1) ev.at_).since), iv ((begins rl ((after cl.backed now1.state ev).1) ev.at_).next)] rfl (Try.sizeOf54 _) fun a w13 hfr hst => ?_
  refine wl_nil (hK18 _ _ ?_)
  refine wc_seq_region fun K19 hK19 => ?_
  refine wlv hfr (v_load_blk1 (hst.get (k := 2) rfl) rfl (Try.isAgg113 _) rfl) fun a hfr => ?_
  refine wlv hfr (v_load_all (hst.get (k := 1) rfl) rfl (Try.isAgg54 _) (Try.sizeOf54 _)) fun a hfr => ?_
  refine wl_r (r_yield rfl rfl (hY.yield (pre := dn ++ alone rl ev.at_ nw) (x := begins rl (after cl.backed now1.state ev).1 ev.at_) (by have := alone_length rl ev.at_ nw; simp only [NxS, List.length_append]; omega) hJ (hst.only (i := 0) rfl))) rfl rfl hfr fun a v w14 hR hfr => ?_
  obtain ⟨y12, e13, rfl, hx, hok, hft, hJt, hJf⟩ := hR
  have hst := hst.exchange (k := 0) rfl hx hok hft
  have hst : St M w0 [e13, blk b1 [iv ((begins rl ((after cl.backed now1.state ev).1) ev.at_).state), iv ((begins rl ((after cl.backed now1.state ev).1) ev.at_).since), iv ((begins rl ((after cl.backed now1.state ev).1) ev.at_).next)] 54, blk ws.heap.size [.func (.yield lp) #[] #[]] 113, blk bp [.pointer (some ⟨x.bm, 0, none⟩)] 83, blk x.bm [iv rl.answer, iv rl.cooling, iv rl.settle, iv rl.reverse, iv cl.number, iv cl.frm, iv cl.to, iv cl.holder, iv cl.asked, .bool cl.backed, .map (some x.dm), .map (some x.em), vd] 93, mapE x.dm duesKV, blk w5.heap.size [iv ev.kind, iv ev.at_, iv ev.reason] 39, blk bl [sv] 34, mapE x.em effAll, own vd 3 1 (vo.map fun i => [iv i]), er] w14 := hst
  clear hx hok hft
  refine wlv hfr (v_not rfl) fun a hfr => ?_
  refine wl_nil (hK19 _ _ ?_)
  refine wc_cond hfr rfl (fun hc14 => ?_) (fun hc14 => ?_)
  ·rw [hc14] at hfr
   try simp only [qz] at hc14
   have hJx := hJf hc14
   refine wc_ret ?_
   refine fin_ret hfr Try.results60 resAre_nil ?_
   exact ⟨_, _, hst.select [0, 3, 7, 4, 5, 8, 9, 10] (by decide), .inr ⟨dn ++ alone rl ev.at_ nw ++ [begins rl (after cl.backed now1.state ev).1 ev.at_], ⟨⟨(runE rl cl.backed (k + 1) (begins rl (after cl.backed now1.state ev).1 ev.at_) (l.drop (k + 1))).1, (by rw [hsp, runE_go hkl hev hn1 (by assumption)]; simp)⟩, _, _, rfl⟩, hJx⟩⟩
  rw [hc14] at hfr
  try simp only [qz] at hc14
  have hJ := hJt hc14
  refine wc_skip ?_
  refine hK10 _ _ ?_
  refine wc_region ?_
  refine wlv hfr (v_add rfl rfl ⟨by omega, by omega⟩) fun a hfr => wlm hfr rfl fun a hfr => ?_
  refine wl_nil ?_
  refine ⟨_, ?_, k + 1, e13, begins rl (after cl.backed now1.state ev).1 ev.at_, dn ++ alone rl ev.at_ nw ++ [begins rl (after cl.backed now1.state ev).1 ev.at_], vo, vd, rfl, (by omega), (by rw [hsp, runE_go hkl hev hn1 (by assumption)]; simp), (by rw [hvo, runE_go hkl hev hn1 (by assumption)]), (Sound.begins _ _ (by omega) (by omega)), (by have := alone_length rl ev.at_ nw; simp; omega), (by first | omega | (simp; omega)), hJ, hfr.pick [0, 1, 2, 3, 4, 17, 18, 19, 20, 21, 5, 22, 23, 24], hst.select [0, 1, 2, 3, 7, 4, 5, 8, 9, 10] (by decide)⟩
  omega
 rw [decide_eq_false hc5] at hfr
 refine wc_exit ?_
 refine hK6 _ _ ?_
 refine wc_region ?_
 refine wlm hfr rfl fun a hfr => ?_
 have hst : St M w0 [e, blk b1 [iv nw.state, iv nw.since, iv nw.next] 54, blk ws.heap.size [.func (.yield lp) #[] #[]] 113, blk bp [.pointer (some ⟨x.bm, 0, none⟩)] 83, blk x.bm [iv rl.answer, iv rl.cooling, iv rl.settle, iv rl.reverse, iv cl.number, iv cl.frm, iv cl.to, iv cl.holder, iv cl.asked, .bool cl.backed, .map (some x.dm), .map (some x.em), vd] 93, mapE x.dm duesKV, blk bl [sv] 34, mapE x.em effAll, own vd 3 1 (vo.map fun i => [iv i]), er] w5 := hst.select [0, 1, 2, 3, 5, 6, 4, 7, 8, 9] (by decide)
 have hst : St M w0 [e, blk b1 [iv nw.state, iv nw.since, iv nw.next] 54, blk ws.heap.size [.func (.yield lp) #[] #[]] 113, blk bp [.pointer (some ⟨x.bm, 0, none⟩)] 83, blk x.bm [iv rl.answer, iv rl.cooling, iv rl.settle, iv rl.reverse, iv cl.number, iv cl.frm, iv cl.to, iv cl.holder, iv cl.asked, .bool cl.backed, .map (some x.dm), .map (some x.em), vd] 93, mapE x.dm duesKV, join [blk bl [sv] 34, mapE x.em effAll, own vd 3 1 (vo.map fun i => [iv i]), er]] w5 := St.joinTail [e, blk b1 [iv nw.state, iv nw.since, iv nw.next] 54, blk ws.heap.size [.func (.yield lp) #[] #[]] 113, blk bp [.pointer (some ⟨x.bm, 0, none⟩)] 83, blk x.bm [iv rl.answer, iv rl.cooling, iv rl.settle, iv rl.reverse, iv cl.number, iv cl.frm, iv cl.to, iv cl.holder, iv cl.asked, .bool cl.backed, .map (some x.dm), .map (some x.em), vd] 93, mapE x.dm duesKV] [blk bl [sv] 34, mapE x.em effAll, own vd 3 1 (vo.map fun i => [iv i]), er] hst
 have hdl4 : dn.length + 4 < 200 := by omega
 have hcall := alone_ok rl cl x vd lp b1 ws.heap.size bp J Jx hY 4611686018427387904 nw dn e _ hr hso hJ hdl4 hst
 refine wl_r (r_callv (cap := [.pointer (some ⟨b1, 0, none⟩), .pointer (some ⟨bp, 0, none⟩), .pointer (some ⟨ws.heap.size, 0, none⟩)]) (vs := [iv 4611686018427387904]) rfl Try.call62 rfl hcall) rfl rfl hfr fun a v w15 hR hfr => ?_
 clear hcall
 obtain ⟨ya15, e1, rfl, hyt, hyf⟩ := hR
 refine wl_nil ?_
 refine fin_end hfr Try.results60 resAre_nil ?_
 have hk : k = l.length := by omega
 subst hk
 rw [List.drop_length, runE] at hsp hvo
 rw [List.append_nil] at hvo
 cases ya15 with
 | true =>
  obtain ⟨hJ, hst⟩ := hyt rfl
  have hst := St.unjoinTail [e1, blk b1 [iv ((lastOf nw (alone rl 4611686018427387904 nw)).state), iv ((lastOf nw (alone rl 4611686018427387904 nw)).since), iv ((lastOf nw (alone rl 4611686018427387904 nw)).next)] 54, blk ws.heap.size [.func (.yield lp) #[] #[]] 113, blk bp [.pointer (some ⟨x.bm, 0, none⟩)] 83, blk x.bm [iv rl.answer, iv rl.cooling, iv rl.settle, iv rl.reverse, iv cl.number, iv cl.frm, iv cl.to, iv cl.holder, iv cl.asked, .bool cl.backed, .map (some x.dm), .map (some x.em), vd] 93, mapE x.dm duesKV] [blk bl [sv] 34, mapE x.em effAll, own vd 3 1 (vo.map fun i => [iv i]), er] hst
  exact ⟨_, _, hst.select [0, 3, 6, 4, 5, 7, 8, 9] (by decide), .inl ⟨_, ⟨rfl, vd, by rw [hvo]; rfl⟩, by rw [hsp]; exact hJ⟩⟩
 | false =>
  obtain ⟨p1, p2, now1, hp12, hJx, hst⟩ := hyf rfl
  have hst := St.unjoinTail [e1, blk b1 [iv now1.state, iv now1.since, iv now1.next] 54, blk ws.heap.size [.func (.yield lp) #[] #[]] 113, blk bp [.pointer (some ⟨x.bm, 0, none⟩)] 83, blk x.bm [iv rl.answer, iv rl.cooling, iv rl.settle, iv rl.reverse, iv cl.number, iv cl.frm, iv cl.to, iv cl.holder, iv cl.asked, .bool cl.backed, .map (some x.dm), .map (some x.em), vd] 93, mapE x.dm duesKV] [blk bl [sv] 34, mapE x.em effAll, own vd 3 1 (vo.map fun i => [iv i]), er] hst
  exact ⟨_, _, hst.select [0, 3, 6, 4, 5, 7, 8, 9] (by decide), .inr ⟨dn ++ p1, ⟨⟨p2, by rw [hsp, hp12]; simp⟩, vd, vo, rfl⟩, hJx⟩⟩
end Go.Proofs.Ytnfnkohkcmkddaa
namespace Go.Proofs.Ytnfnkohkcmkddaa
open Go.RowKit Go.PW
set_option linter.unusedVariables false
set_option linter.unusedSimpArgs false
set_option maxRecDepth 4000
theorem statuses_iter {M : Nat → Prop} {w0 : World} {er : Ent} (rl : Rul) (cl : Clm) (x : Mach) (sv : Value) (l : List Evt) (bp bl : Nat) (hv : valid rl cl l = true) (hsv : ∀ H w, St M w0 H w → SlAt w sv 3 (l.map Evt.cells)) :
  Iter Try.prog 60 [.pointer (some ⟨bp, 0, none⟩), .pointer (some ⟨bl, 0, none⟩)] encS NxS (fun xs Hi => xs = statuses rl cl l ∧ ∃ vd, Hi = [blk bp [.pointer (some ⟨x.bm, 0, none⟩)] 83, blk bl [sv] 34, blk x.bm [iv rl.answer, iv rl.cooling, iv rl.settle, iv rl.reverse, iv cl.number, iv cl.frm, iv cl.to, iv cl.holder, iv cl.asked, .bool cl.backed, .map (some x.dm), .map (some x.em), vd] 93, mapE x.dm duesKV, mapE x.em effAll, own vd 3 1 ((voids rl cl l).map fun i => [iv i]), er]) (fun pre Hi => (∃ rest, statuses rl cl l = pre ++ rest) ∧ ∃ (vd : Value) (vo : List Int), Hi = [blk bp [.pointer (some ⟨x.bm, 0, none⟩)] 83, blk bl [sv] 34, blk x.bm [iv rl.answer, iv rl.cooling, iv rl.settle, iv rl.reverse, iv cl.number, iv cl.frm, iv cl.to, iv cl.holder, iv cl.asked, .bool cl.backed, .map (some x.dm), .map (some x.em), vd] 93, mapE x.dm duesKV, mapE x.em effAll, own vd 3 1 (vo.map fun i => [iv i]), er]) M w0 [blk bp [.pointer (some ⟨x.bm, 0, none⟩)] 83, blk bl [sv] 34, blk x.bm [iv rl.answer, iv rl.cooling, iv rl.settle, iv rl.reverse, iv cl.number, iv cl.frm, iv cl.to, iv cl.holder, iv cl.asked, .bool cl.backed, .map (some x.dm), .map (some x.em), .slice none 0 0] 93, mapE x.dm duesKV, mapE x.em effAll, own (.slice none 0 0) 3 1 (([]).map fun i => [iv i]), er] :=
 fun lp J Jx w e hY hJ hst => statuses_run rl cl x sv l lp bp bl J Jx hY e w hv hsv hJ hst
theorem mstatuses_ok (bm : Nat) (sv : Value) (els : List (List Value)) (w0 : World) (hsv : SlAt w0 sv 3 els) :
  Ret Try.prog 34 #[.pointer (some ⟨bm, 0, none⟩), sv] w0 (MemR w0 (fun z : Nat × Nat => .func (.func 60) #[] #[.pointer (some ⟨z.1, 0, none⟩), .pointer (some ⟨z.2, 0, none⟩)]) (fun z => [blk z.2 [sv] 34, blk z.1 [.pointer (some ⟨bm, 0, none⟩)] 83]) (fun _ => True)) := by
 refine ret_of Try.func34 rfl Try.ntmps34 (lb rfl) fun a hfr => ?_
 have hfr : Fr 6 [(0, _), (1, _)] [] a := hfr
 have hst : St No w0 [] w0 := St.init w0
 refine wc_seq_region fun K1 hK1 => ?_
 refine wl_box hfr hst rfl [.pointer (some ⟨bm, 0, none⟩)] rfl fun a w1 hfr hst => ?_
 refine wl_box hfr hst rfl [sv] (by rw [(hst.arg hsv).cells]) fun a w2 hfr hst => ?_
 refine wla hfr rfl fun a hfr => ?_
 refine wl_nil (hK1 _ _ ?_)
 refine wc_seq_region fun K2 hK2 => ?_
 refine wlv hfr (v_makeFunc rfl rfl) fun a hfr => wla hfr rfl fun a hfr => ?_
 refine wl_nil (hK2 _ _ ?_)
 refine wc_ret ?_
 refine fin_ret hfr Try.results34 (resAre_tmp rfl resAre_nil) ?_
 exact ⟨(w0.heap.size, w1.heap.size), rfl, trivial, hst.ext, St.out (H := []) hst⟩
theorem outcome_ok (rl : Rul) (cl : Clm) (sv : Value) (l : List Evt) (t : Int) (w0 : World) (hsv : SlAt w0 sv 3 (l.map Evt.cells)) (hv : valid rl cl l = true) (hin : isIn t 0 20000000 = true) :
  Ret Try.prog 13 #[.agg #[iv rl.answer, iv rl.cooling, iv rl.settle, iv rl.reverse], .agg #[iv cl.number, iv cl.frm, iv cl.to, iv cl.holder, iv cl.asked, .bool cl.backed], sv, iv t] w0 fun v w => v = .tuple #[(outcome rl cl l t).val, iv 0] ∧ Ext No w0 w := by
 refine ret_of Try.func13 rfl Try.ntmps13 (lb rfl) fun a hfr => ?_
 have hfr : Fr 42 [(0, _), (1, _), (2, _), (3, _)] [] a := hfr
 have hst : St No w0 [] w0 := St.init w0
 refine wc_seq_region fun K1 hK1 => ?_
 refine wl_box hfr hst rfl [iv rl.answer, iv rl.cooling, iv rl.settle, iv rl.reverse] rfl fun a w1 hfr hst => ?_
 refine wl_box hfr hst rfl [iv cl.number, iv cl.frm, iv cl.to, iv cl.holder, iv cl.asked, .bool cl.backed] rfl fun a w2 hfr hst => ?_
 refine wl_box hfr hst rfl [iv t] rfl fun a w3 hfr hst => ?_
 refine wl_alloc hfr hst (Try.zeroValue54 _) [iv 0, iv 0, iv 0] rfl fun a w4 hfr hst => ?_
 refine wla hfr rfl fun a hfr => ?_
 refine wl_nil (hK1 _ _ ?_)
 refine wc_seq_region fun K2 hK2 => ?_
 refine wlv hfr (v_load_all (hst.get (k := 3) rfl) rfl (Try.isAgg31 _) (Try.sizeOf31 _)) fun a hfr => ?_
 refine wlv hfr (v_load_all (hst.get (k := 2) rfl) rfl (Try.isAgg33 _) (Try.sizeOf33 _)) fun a hfr => wlm hfr rfl fun a hfr => ?_
 refine wl_callm hfr hst Try.call33 rfl (open_ok rl cl sv l _ (hst.arg hsv) hv) fun a w5 x2 hp hfr hst => ?_
 revert x2 hp hfr hst; rintro x1 hp hfr hst
 clear hp
 have hst : St No w0 [blk x1.bm [iv rl.answer, iv rl.cooling, iv rl.settle, iv rl.reverse, iv cl.number, iv cl.frm, iv cl.to, iv cl.holder, iv cl.asked, .bool cl.backed, .map (some x1.dm), .map (some x1.em), .slice none 0 0] 93, mapE x1.dm duesKV, mapE x1.em effAll, blk w3.heap.size [iv 0, iv 0, iv 0] 54, blk w2.heap.size [iv t] 3, blk w1.heap.size [iv cl.number, iv cl.frm, iv cl.to, iv cl.holder, iv cl.asked, .bool cl.backed] 33, blk w0.heap.size [iv rl.answer, iv rl.cooling, iv rl.settle, iv rl.reverse] 31] w5 := hst
 refine wlm hfr rfl fun a hfr => ?_
 refine wlv hfr (v_extract rfl rfl) fun a hfr => ?_
 refine wlv hfr (v_extract rfl rfl) fun a hfr => wla hfr rfl fun a hfr => wla hfr rfl fun a hfr => ?_
 refine wl_nil (hK2 _ _ ?_)
 have hfr : Fr 42 [(0, _), (1, _), (2, _), (3, _), (4, _), (5, _), (7, _), (8, _), (9, _), (10, _), (11, _)] [] a := hfr.pick [0, 1, 2, 3, 4, 5, 7, 8, 9, 10, 11]
 refine wc_seq_k fun K3 hK3 => ?_
 refine wc_seq_region fun K4 hK4 => ?_
 refine wlm hfr rfl fun a hfr => ?_
 refine wlv hfr ((v_ne rfl rfl).asb (b' := false) rfl) fun a hfr => wlm hfr rfl fun a hfr => wly hfr (v_load_blk1 (hst.get (k := 4) rfl) rfl (Try.isAgg3 _) rfl) fun a hfr => ?_
 refine wl_callpy hfr hst Try.call35 rfl ((hin ▸ isIn_ok _ _ _ _)) fun a w6 hfr hst => ?_
 refine wly hfr ((v_not rfl).asb (b' := false) rfl) fun a hfr => ?_
 refine wlv hfr (v_pick_f rfl rfl) fun a hfr => ?_
 refine wl_nil (hK4 _ _ ?_)
 have hfr : Fr 42 [(0, _), (1, _), (2, _), (3, _), (4, _), (5, _), (7, _), (8, _), (9, _), (10, _), (11, _), (27, _)] [] a := hfr.pick [0, 1, 2, 3, 4, 5, 7, 8, 9, 10, 11, 27]
 refine wc_cond_f hfr rfl ?_
 refine wc_skip ?_
 refine hK3 _ _ ?_
 refine wc_seq_region fun K5 hK5 => ?_
 refine wlv hfr (v_fieldAddr (v := .pointer (some ⟨w1.heap.size, 4, none⟩)) rfl (by kernel_rfl)) fun a hfr => ?_
 refine wlv hfr (v_load_blk1 (hst.get (k := 5) rfl) rfl (Try.isAgg3 _) rfl) fun a hfr => ?_
 refine wlv hfr (v_build (v := .agg #[iv 0, iv 0, iv cl.asked]) rfl (by kernel_rfl)) fun a hfr => ?_
 refine wl_alloc hfr hst (Try.zeroValue54 _) [iv 0, iv 0, iv 0] rfl fun a w7 hfr hst => ?_
 refine wl_sto 0 hfr hst [iv 0, iv 0, iv cl.asked] rfl (Try.sizeOf54 _) fun a w8 hfr hst => ?_
 refine wl_nil (hK5 _ _ ?_)
 refine wc_seq_k fun K6 hK6 => ?_
 refine wc_seq_region fun K7 hK7 => ?_
 refine wlm hfr rfl fun a hfr => wlm hfr rfl fun a hfr => ?_
 refine wl_callm hfr hst Try.call34 rfl (mstatuses_ok _ _ _ _ (hst.arg hsv)) fun a w9 x5 hp hfr hst => ?_
 obtain ⟨bp3, bl4⟩ := x5
 clear hp
 have hst : St No w0 [blk bl4 [sv] 34, blk bp3 [.pointer (some ⟨x1.bm, 0, none⟩)] 83, blk w6.heap.size [iv 0, iv 0, iv cl.asked] 54, blk x1.bm [iv rl.answer, iv rl.cooling, iv rl.settle, iv rl.reverse, iv cl.number, iv cl.frm, iv cl.to, iv cl.holder, iv cl.asked, .bool cl.backed, .map (some x1.dm), .map (some x1.em), .slice none 0 0] 93, mapE x1.dm duesKV, mapE x1.em effAll, blk w3.heap.size [iv 0, iv 0, iv 0] 54, blk w2.heap.size [iv t] 3, blk w1.heap.size [iv cl.number, iv cl.frm, iv cl.to, iv cl.holder, iv cl.asked, .bool cl.backed] 33, blk w0.heap.size [iv rl.answer, iv rl.cooling, iv rl.settle, iv rl.reverse] 31] w9 := hst
 refine wl_nil (hK7 _ _ ?_)
 refine wc_block ?_
 have hst : St No w0 (own (.slice none 0 0) 3 1 [] :: [blk bl4 [sv] 34, blk bp3 [.pointer (some ⟨x1.bm, 0, none⟩)] 83, blk w6.heap.size [iv 0, iv 0, iv cl.asked] 54, blk x1.bm [iv rl.answer, iv rl.cooling, iv rl.settle, iv rl.reverse, iv cl.number, iv cl.frm, iv cl.to, iv cl.holder, iv cl.asked, .bool cl.backed, .map (some x1.dm), .map (some x1.em), .slice none 0 0] 93, mapE x1.dm duesKV, mapE x1.em effAll, blk w3.heap.size [iv 0, iv 0, iv 0] 54, blk w2.heap.size [iv t] 3, blk w1.heap.size [iv cl.number, iv cl.frm, iv cl.to, iv cl.holder, iv cl.asked, .bool cl.backed] 33, blk w0.heap.size [iv rl.answer, iv rl.cooling, iv rl.settle, iv rl.reverse] 31]) w9 := hst.nil_own
 have hst : St No w0 [blk w6.heap.size [iv 0, iv 0, iv cl.asked] 54, blk w2.heap.size [iv t] 3, blk bp3 [.pointer (some ⟨x1.bm, 0, none⟩)] 83, blk bl4 [sv] 34, blk x1.bm [iv rl.answer, iv rl.cooling, iv rl.settle, iv rl.reverse, iv cl.number, iv cl.frm, iv cl.to, iv cl.holder, iv cl.asked, .bool cl.backed, .map (some x1.dm), .map (some x1.em), .slice none 0 0] 93, mapE x1.dm duesKV, mapE x1.em effAll, own (.slice none 0 0) 3 1 (([] : List Int).map fun i => [iv i]), blk w3.heap.size [iv 0, iv 0, iv 0] 54, blk w1.heap.size [iv cl.number, iv cl.frm, iv cl.to, iv cl.holder, iv cl.asked, .bool cl.backed] 33, blk w0.heap.size [iv rl.answer, iv rl.cooling, iv rl.settle, iv rl.reverse] 31] w9 := hst.select [3, 8, 2, 1, 4, 5, 6, 0, 7, 9, 10] (by decide)
 have hst : St No w0 [blk w6.heap.size [iv 0, iv 0, iv cl.asked] 54, blk w2.heap.size [iv t] 3, blk bp3 [.pointer (some ⟨x1.bm, 0, none⟩)] 83, blk bl4 [sv] 34, blk x1.bm [iv rl.answer, iv rl.cooling, iv rl.settle, iv rl.reverse, iv cl.number, iv cl.frm, iv cl.to, iv cl.holder, iv cl.asked, .bool cl.backed, .map (some x1.dm), .map (some x1.em), .slice none 0 0] 93, mapE x1.dm duesKV, mapE x1.em effAll, own (.slice none 0 0) 3 1 (([] : List Int).map fun i => [iv i]), join [blk w3.heap.size [iv 0, iv 0, iv 0] 54, blk w1.heap.size [iv cl.number, iv cl.frm, iv cl.to, iv cl.holder, iv cl.asked, .bool cl.backed] 33, blk w0.heap.size [iv rl.answer, iv rl.cooling, iv rl.settle, iv rl.reverse] 31]] w9 := St.joinTail [blk w6.heap.size [iv 0, iv 0, iv cl.asked] 54, blk w2.heap.size [iv t] 3, blk bp3 [.pointer (some ⟨x1.bm, 0, none⟩)] 83, blk bl4 [sv] 34, blk x1.bm [iv rl.answer, iv rl.cooling, iv rl.settle, iv rl.reverse, iv cl.number, iv cl.frm, iv cl.to, iv cl.holder, iv cl.asked, .bool cl.backed, .map (some x1.dm), .map (some x1.em), .slice none 0 0] 93, mapE x1.dm duesKV, mapE x1.em effAll, own (.slice none 0 0) 3 1 (([] : List Int).map fun i => [iv i])] [blk w3.heap.size [iv 0, iv 0, iv 0] 54, blk w1.heap.size [iv cl.number, iv cl.frm, iv cl.to, iv cl.holder, iv cl.asked, .bool cl.backed] 33, blk w0.heap.size [iv rl.answer, iv rl.cooling, iv rl.settle, iv rl.reverse] 31] hst
 have hst : St No w0 [blk w6.heap.size [iv ((lastOf ⟨0, 0, cl.asked⟩ ([])).state), iv ((lastOf ⟨0, 0, cl.asked⟩ ([])).since), iv ((lastOf ⟨0, 0, cl.asked⟩ ([])).next)] 54, blk w2.heap.size [iv t] 3, blk bp3 [.pointer (some ⟨x1.bm, 0, none⟩)] 83, blk bl4 [sv] 34, blk x1.bm [iv rl.answer, iv rl.cooling, iv rl.settle, iv rl.reverse, iv cl.number, iv cl.frm, iv cl.to, iv cl.holder, iv cl.asked, .bool cl.backed, .map (some x1.dm), .map (some x1.em), .slice none 0 0] 93, mapE x1.dm duesKV, mapE x1.em effAll, own (.slice none 0 0) 3 1 (([] : List Int).map fun i => [iv i]), join [blk w3.heap.size [iv 0, iv 0, iv 0] 54, blk w1.heap.size [iv cl.number, iv cl.frm, iv cl.to, iv cl.holder, iv cl.asked, .bool cl.backed] 33, blk w0.heap.size [iv rl.answer, iv rl.cooling, iv rl.settle, iv rl.reverse] 31]] w9 := hst.select [0, 1, 2, 3, 4, 5, 6, 7, 8] (by decide)
 have hfr : Fr 42 [(0, .agg #[iv rl.answer, iv rl.cooling, iv rl.settle, iv rl.reverse]), (1, .agg #[iv cl.number, iv cl.frm, iv cl.to, iv cl.holder, iv cl.asked, .bool cl.backed]), (2, sv), (3, iv t), (4, .pointer (some ⟨w0.heap.size, 0, none⟩)), (5, .pointer (some ⟨w1.heap.size, 0, none⟩)), (7, .pointer (some ⟨w2.heap.size, 0, none⟩)), (8, .pointer (some ⟨w3.heap.size, 0, none⟩)), (9, iv 0), (10, .pointer (some ⟨x1.bm, 0, none⟩)), (11, iv 0), (27, .bool false), (29, .pointer (some ⟨w1.heap.size, 4, none⟩)), (30, iv cl.asked), (31, .agg #[iv 0, iv 0, iv cl.asked]), (12, .pointer (some ⟨w6.heap.size, 0, none⟩)), (32, .pointer (some ⟨x1.bm, 0, none⟩)), (33, sv), (34, .func (.func 60) #[] #[.pointer (some ⟨bp3, 0, none⟩), .pointer (some ⟨bl4, 0, none⟩)])] [] a := hfr.pick [0, 1, 2, 3, 4, 5, 7, 8, 9, 10, 11, 27, 29, 30, 31, 12, 32, 33, 34]
 refine wc_range (M := No) (w0 := w0) (encs := encS) (Hi := [blk bp3 [.pointer (some ⟨x1.bm, 0, none⟩)] 83, blk bl4 [sv] 34, blk x1.bm [iv rl.answer, iv rl.cooling, iv rl.settle, iv rl.reverse, iv cl.number, iv cl.frm, iv cl.to, iv cl.holder, iv cl.asked, .bool cl.backed, .map (some x1.dm), .map (some x1.em), .slice none 0 0] 93, mapE x1.dm duesKV, mapE x1.em effAll, own (.slice none 0 0) 3 1 (([] : List Int).map fun i => [iv i]), join [blk w3.heap.size [iv 0, iv 0, iv 0] 54, blk w1.heap.size [iv cl.number, iv cl.frm, iv cl.to, iv cl.holder, iv cl.asked, .bool cl.backed] 33, blk w0.heap.size [iv rl.answer, iv rl.cooling, iv rl.settle, iv rl.reverse] 31]]) (Hc := [blk w6.heap.size [iv ((lastOf ⟨0, 0, cl.asked⟩ ([])).state), iv ((lastOf ⟨0, 0, cl.asked⟩ ([])).since), iv ((lastOf ⟨0, 0, cl.asked⟩ ([])).next)] 54, blk w2.heap.size [iv t] 3]) (fun pre H => (∀ s ∈ pre, s.since ≤ t) ∧ H = [blk w6.heap.size [iv ((lastOf ⟨0, 0, cl.asked⟩ pre).state), iv ((lastOf ⟨0, 0, cl.asked⟩ pre).since), iv ((lastOf ⟨0, 0, cl.asked⟩ pre).next)] 54, blk w2.heap.size [iv t] 3]) (fun c pre H => c = .exit 0 ∧ ∃ (pp : List Stt), ∃ (xx : Stt), (pre = pp ++ [xx]) ∧ (∀ s ∈ pp, s.since ≤ t) ∧ (t < xx.since) ∧ H = [blk w6.heap.size [iv ((lastOf ⟨0, 0, cl.asked⟩ pp).state), iv ((lastOf ⟨0, 0, cl.asked⟩ pp).since), iv ((lastOf ⟨0, 0, cl.asked⟩ pp).next)] 54, blk w2.heap.size [iv t] 3]) (fun pre xs H a => ∃ (bA0 : Nat), Fr 42 [(0, .agg #[iv rl.answer, iv rl.cooling, iv rl.settle, iv rl.reverse]), (1, .agg #[iv cl.number, iv cl.frm, iv cl.to, iv cl.holder, iv cl.asked, .bool cl.backed]), (2, sv), (3, iv t), (4, .pointer (some ⟨w0.heap.size, 0, none⟩)), (5, .pointer (some ⟨w1.heap.size, 0, none⟩)), (7, .pointer (some ⟨w2.heap.size, 0, none⟩)), (8, .pointer (some ⟨w3.heap.size, 0, none⟩)), (9, iv 0), (10, .pointer (some ⟨x1.bm, 0, none⟩)), (11, iv 0), (27, .bool false), (29, .pointer (some ⟨w1.heap.size, 4, none⟩)), (30, iv cl.asked), (31, .agg #[iv 0, iv 0, iv cl.asked]), (12, .pointer (some ⟨w6.heap.size, 0, none⟩)), (32, .pointer (some ⟨x1.bm, 0, none⟩)), (33, sv), (34, .func (.func 60) #[] #[.pointer (some ⟨bp3, 0, none⟩), .pointer (some ⟨bl4, 0, none⟩)]), (13, .pointer (some ⟨bA0, 0, none⟩))] [] a ∧ (∀ s ∈ pre, s.since ≤ t) ∧ H = [blk bA0 [iv xs.state, iv xs.since, iv xs.next] 54, blk w6.heap.size [iv ((lastOf ⟨0, 0, cl.asked⟩ pre).state), iv ((lastOf ⟨0, 0, cl.asked⟩ pre).since), iv ((lastOf ⟨0, 0, cl.asked⟩ pre).next)] 54, blk w2.heap.size [iv t] 3]) rfl Try.call60 hfr hst (statuses_iter rl cl x1 sv l bp3 bl4 hv (fun H w h => h.arg hsv)) (by decide) (fun _ => rfl) ⟨(by simp), rfl⟩ ?_ ?_ ?_ ?_
 ·rintro lp pre xs _ a w10 hnx ⟨hle, rfl⟩ hfr hst
  generalize (join [blk w6.heap.size [iv ((lastOf ⟨0, 0, cl.asked⟩ pre).state), iv ((lastOf ⟨0, 0, cl.asked⟩ pre).since), iv ((lastOf ⟨0, 0, cl.asked⟩ pre).next)] 54, blk w2.heap.size [iv t] 3]).foot = M1 at hst ⊢
  have hfr : Fr 42 [(35, .agg #[iv xs.state, iv xs.since, iv xs.next]), (0, .agg #[iv rl.answer, iv rl.cooling, iv rl.settle, iv rl.reverse]), (1, .agg #[iv cl.number, iv cl.frm, iv cl.to, iv cl.holder, iv cl.asked, .bool cl.backed]), (2, sv), (3, iv t), (4, .pointer (some ⟨w0.heap.size, 0, none⟩)), (5, .pointer (some ⟨w1.heap.size, 0, none⟩)), (7, .pointer (some ⟨w2.heap.size, 0, none⟩)), (8, .pointer (some ⟨w3.heap.size, 0, none⟩)), (9, iv 0), (10, .pointer (some ⟨x1.bm, 0, none⟩)), (11, iv 0), (27, .bool false), (29, .pointer (some ⟨w1.heap.size, 4, none⟩)), (30, iv cl.asked), (31, .agg #[iv 0, iv 0, iv cl.asked]), (12, .pointer (some ⟨w6.heap.size, 0, none⟩)), (32, .pointer (some ⟨x1.bm, 0, none⟩)), (33, sv), (34, .func (.func 60) #[] #[.pointer (some ⟨bp3, 0, none⟩), .pointer (some ⟨bl4, 0, none⟩)])] [] a := hfr
  refine wc_region ?_
  refine wl_alloc hfr hst (Try.zeroValue54 _) [iv 0, iv 0, iv 0] rfl fun a w11 hfr hst => ?_
  refine wl_sto 0 hfr hst [iv xs.state, iv xs.since, iv xs.next] rfl (Try.sizeOf54 _) fun a w12 hfr hst => ?_
  refine wl_nil ?_
  exact ⟨_, ⟨w10.heap.size, hfr.pick [0, 1, 2, 3, 4, 5, 7, 8, 9, 10, 11, 27, 29, 30, 31, 12, 32, 33, 34, 13], hle, rfl⟩, hst⟩
 ·rintro lp pre xs _ a w13 hnx ⟨bA0, hfr, hle, rfl⟩ hout hrec hnl hst
  clear hrec hnl
  generalize (join [blk bA0 [iv xs.state, iv xs.since, iv xs.next] 54, blk w6.heap.size [iv ((lastOf ⟨0, 0, cl.asked⟩ pre).state), iv ((lastOf ⟨0, 0, cl.asked⟩ pre).since), iv ((lastOf ⟨0, 0, cl.asked⟩ pre).next)] 54, blk w2.heap.size [iv t] 3]).foot = M1 at hst hout ⊢
  refine wc_block ?_
  refine wc_seq_k fun K8 hK8 => ?_
  refine wc_seq_region fun K9 hK9 => ?_
  refine wlv hfr (v_fieldAddr (v := .pointer (some ⟨bA0, 1, none⟩)) rfl (by kernel_rfl)) fun a hfr => ?_
  refine wlv hfr (v_load_blk1 (hst.get (k := 0) rfl) rfl (Try.isAgg3 _) rfl) fun a hfr => ?_
  refine wlv hfr (v_load_blk1 (hst.get (k := 2) rfl) rfl (Try.isAgg3 _) rfl) fun a hfr => ?_
  refine wlv hfr (v_gt rfl rfl) fun a hfr => ?_
  refine wl_nil (hK9 _ _ ?_)
  refine wc_cond_d hfr rfl (fun hc6 => ?_) (fun hc6 => ?_)
  ·rw [decide_eq_true hc6] at hfr
   refine wc_exit ?_
   exact ⟨_, ⟨rfl, pre, xs, rfl, hle, (by omega), rfl⟩, hst.select [1, 2] (by decide)⟩
  rw [decide_eq_false hc6] at hfr
  refine wc_skip ?_
  refine hK8 _ _ ?_
  refine wc_region ?_
  refine wlv hfr (v_load_all (hst.get (k := 0) rfl) rfl (Try.isAgg54 _) (Try.sizeOf54 _)) fun a hfr => ?_
  refine wl_sto 1 hfr hst [iv xs.state, iv xs.since, iv xs.next] rfl (Try.sizeOf54 _) fun a w14 hfr hst => ?_
  refine wl_nil ?_
  rw [← lastOf_snoc ⟨0, 0, cl.asked⟩ xs pre] at hst
  exact ⟨_, ⟨(by intro s hs; rcases List.mem_append.1 hs with h | h; exact hle s h; simp at h; subst h; omega), rfl⟩, hst.select [1, 2] (by decide)⟩
 ·rintro D pre _ _ a w15 ⟨rfl, vd, rfl⟩ ⟨hle, rfl⟩ hst hfr
  have hfr : Fr 42 [(0, .agg #[iv rl.answer, iv rl.cooling, iv rl.settle, iv rl.reverse]), (1, .agg #[iv cl.number, iv cl.frm, iv cl.to, iv cl.holder, iv cl.asked, .bool cl.backed]), (2, sv), (3, iv t), (4, .pointer (some ⟨w0.heap.size, 0, none⟩)), (5, .pointer (some ⟨w1.heap.size, 0, none⟩)), (7, .pointer (some ⟨w2.heap.size, 0, none⟩)), (8, .pointer (some ⟨w3.heap.size, 0, none⟩)), (9, iv 0), (10, .pointer (some ⟨x1.bm, 0, none⟩)), (11, iv 0), (27, .bool false), (29, .pointer (some ⟨w1.heap.size, 4, none⟩)), (30, iv cl.asked), (31, .agg #[iv 0, iv 0, iv cl.asked]), (12, .pointer (some ⟨w6.heap.size, 0, none⟩)), (32, .pointer (some ⟨x1.bm, 0, none⟩)), (33, sv), (34, .func (.func 60) #[] #[.pointer (some ⟨bp3, 0, none⟩), .pointer (some ⟨bl4, 0, none⟩)])] [{ target := .collected D, args := #[] }] a := hfr
  have hst : St No w0 [obj D (.deferred (some [])), blk w6.heap.size [iv ((lastOf ⟨0, 0, cl.asked⟩ (statuses rl cl l)).state), iv ((lastOf ⟨0, 0, cl.asked⟩ (statuses rl cl l)).since), iv ((lastOf ⟨0, 0, cl.asked⟩ (statuses rl cl l)).next)] 54, blk w2.heap.size [iv t] 3, blk bp3 [.pointer (some ⟨x1.bm, 0, none⟩)] 83, blk bl4 [sv] 34, blk x1.bm [iv rl.answer, iv rl.cooling, iv rl.settle, iv rl.reverse, iv cl.number, iv cl.frm, iv cl.to, iv cl.holder, iv cl.asked, .bool cl.backed, .map (some x1.dm), .map (some x1.em), vd] 93, mapE x1.dm duesKV, mapE x1.em effAll, own vd 3 1 ((voids rl cl l).map fun i => [iv i]), join [blk w3.heap.size [iv 0, iv 0, iv 0] 54, blk w1.heap.size [iv cl.number, iv cl.frm, iv cl.to, iv cl.holder, iv cl.asked, .bool cl.backed] 33, blk w0.heap.size [iv rl.answer, iv rl.cooling, iv rl.settle, iv rl.reverse] 31]] w15 := hst
  have hst : St No w0 [obj D (.deferred (some [])), blk w6.heap.size [iv ((lastOf ⟨0, 0, cl.asked⟩ (statuses rl cl l)).state), iv ((lastOf ⟨0, 0, cl.asked⟩ (statuses rl cl l)).since), iv ((lastOf ⟨0, 0, cl.asked⟩ (statuses rl cl l)).next)] 54, blk w2.heap.size [iv t] 3, blk bp3 [.pointer (some ⟨x1.bm, 0, none⟩)] 83, blk bl4 [sv] 34, blk x1.bm [iv rl.answer, iv rl.cooling, iv rl.settle, iv rl.reverse, iv cl.number, iv cl.frm, iv cl.to, iv cl.holder, iv cl.asked, .bool cl.backed, .map (some x1.dm), .map (some x1.em), vd] 93, mapE x1.dm duesKV, mapE x1.em effAll, own vd 3 1 ((voids rl cl l).map fun i => [iv i]), blk w3.heap.size [iv 0, iv 0, iv 0] 54, blk w1.heap.size [iv cl.number, iv cl.frm, iv cl.to, iv cl.holder, iv cl.asked, .bool cl.backed] 33, blk w0.heap.size [iv rl.answer, iv rl.cooling, iv rl.settle, iv rl.reverse] 31] w15 := St.unjoinTail [obj D (.deferred (some [])), blk w6.heap.size [iv ((lastOf ⟨0, 0, cl.asked⟩ (statuses rl cl l)).state), iv ((lastOf ⟨0, 0, cl.asked⟩ (statuses rl cl l)).since), iv ((lastOf ⟨0, 0, cl.asked⟩ (statuses rl cl l)).next)] 54, blk w2.heap.size [iv t] 3, blk bp3 [.pointer (some ⟨x1.bm, 0, none⟩)] 83, blk bl4 [sv] 34, blk x1.bm [iv rl.answer, iv rl.cooling, iv rl.settle, iv rl.reverse, iv cl.number, iv cl.frm, iv cl.to, iv cl.holder, iv cl.asked, .bool cl.backed, .map (some x1.dm), .map (some x1.em), vd] 93, mapE x1.dm duesKV, mapE x1.em effAll, own vd 3 1 ((voids rl cl l).map fun i => [iv i])] [blk w3.heap.size [iv 0, iv 0, iv 0] 54, blk w1.heap.size [iv cl.number, iv cl.frm, iv cl.to, iv cl.holder, iv cl.asked, .bool cl.backed] 33, blk w0.heap.size [iv rl.answer, iv rl.cooling, iv rl.settle, iv rl.reverse] 31] hst
  refine hK6 _ _ ?_
  refine wc_seq_region fun K10 hK10 => ?_
  refine wlv hfr (v_load_all (hst.get (k := 1) rfl) rfl (Try.isAgg54 _) (Try.sizeOf54 _)) fun a hfr => ?_
  refine wl_sto 9 hfr hst [iv ((lastOf ⟨0, 0, cl.asked⟩ (statuses rl cl l)).state), iv ((lastOf ⟨0, 0, cl.asked⟩ (statuses rl cl l)).since), iv ((lastOf ⟨0, 0, cl.asked⟩ (statuses rl cl l)).next)] rfl (Try.sizeOf54 _) fun a w16 hfr hst => ?_
  refine wla hfr rfl fun a hfr => ?_
  refine wl_nil (hK10 _ _ ?_)
  refine wc_ret ?_
  have hD := hst.get (k := 0) rfl
  have hst := hst.unmark (i := 0) (o' := .deferred none) rfl
  have hst : St No w0 [blk w6.heap.size [iv ((lastOf ⟨0, 0, cl.asked⟩ (statuses rl cl l)).state), iv ((lastOf ⟨0, 0, cl.asked⟩ (statuses rl cl l)).since), iv ((lastOf ⟨0, 0, cl.asked⟩ (statuses rl cl l)).next)] 54, blk w2.heap.size [iv t] 3, blk bp3 [.pointer (some ⟨x1.bm, 0, none⟩)] 83, blk bl4 [sv] 34, blk x1.bm [iv rl.answer, iv rl.cooling, iv rl.settle, iv rl.reverse, iv cl.number, iv cl.frm, iv cl.to, iv cl.holder, iv cl.asked, .bool cl.backed, .map (some x1.dm), .map (some x1.em), vd] 93, mapE x1.dm duesKV, mapE x1.em effAll, own vd 3 1 ((voids rl cl l).map fun i => [iv i]), blk w3.heap.size [iv ((lastOf ⟨0, 0, cl.asked⟩ (statuses rl cl l)).state), iv ((lastOf ⟨0, 0, cl.asked⟩ (statuses rl cl l)).since), iv ((lastOf ⟨0, 0, cl.asked⟩ (statuses rl cl l)).next)] 54, blk w1.heap.size [iv cl.number, iv cl.frm, iv cl.to, iv cl.holder, iv cl.asked, .bool cl.backed] 33, blk w0.heap.size [iv rl.answer, iv rl.cooling, iv rl.settle, iv rl.reverse] 31] _ := hst
  refine fin_ret1 hfr hD Try.results13 (resAre_cell rfl (res_all (hst.get (k := 8) rfl) (Try.isAgg54 _) (Try.sizeOf54 _)) (resAre_tmp rfl resAre_nil)) ?_
  exact ⟨by simp only [retv]; rw [outcome_done hle]; rfl, hst.ext⟩
 ·rintro D _ pre _ _ a w17 ⟨⟨rest, hrest⟩, vd, vo, rfl⟩ ⟨rfl, pp, xx, hpp, hle, hxx, rfl⟩ hst hfr
  have hfr : Fr 42 [(0, .agg #[iv rl.answer, iv rl.cooling, iv rl.settle, iv rl.reverse]), (1, .agg #[iv cl.number, iv cl.frm, iv cl.to, iv cl.holder, iv cl.asked, .bool cl.backed]), (2, sv), (3, iv t), (4, .pointer (some ⟨w0.heap.size, 0, none⟩)), (5, .pointer (some ⟨w1.heap.size, 0, none⟩)), (7, .pointer (some ⟨w2.heap.size, 0, none⟩)), (8, .pointer (some ⟨w3.heap.size, 0, none⟩)), (9, iv 0), (10, .pointer (some ⟨x1.bm, 0, none⟩)), (11, iv 0), (27, .bool false), (29, .pointer (some ⟨w1.heap.size, 4, none⟩)), (30, iv cl.asked), (31, .agg #[iv 0, iv 0, iv cl.asked]), (12, .pointer (some ⟨w6.heap.size, 0, none⟩)), (32, .pointer (some ⟨x1.bm, 0, none⟩)), (33, sv), (34, .func (.func 60) #[] #[.pointer (some ⟨bp3, 0, none⟩), .pointer (some ⟨bl4, 0, none⟩)])] [{ target := .collected D, args := #[] }] a := hfr
  have hst : St No w0 [obj D (.deferred (some [])), blk w6.heap.size [iv ((lastOf ⟨0, 0, cl.asked⟩ pp).state), iv ((lastOf ⟨0, 0, cl.asked⟩ pp).since), iv ((lastOf ⟨0, 0, cl.asked⟩ pp).next)] 54, blk w2.heap.size [iv t] 3, blk bp3 [.pointer (some ⟨x1.bm, 0, none⟩)] 83, blk bl4 [sv] 34, blk x1.bm [iv rl.answer, iv rl.cooling, iv rl.settle, iv rl.reverse, iv cl.number, iv cl.frm, iv cl.to, iv cl.holder, iv cl.asked, .bool cl.backed, .map (some x1.dm), .map (some x1.em), vd] 93, mapE x1.dm duesKV, mapE x1.em effAll, own vd 3 1 (vo.map fun i => [iv i]), join [blk w3.heap.size [iv 0, iv 0, iv 0] 54, blk w1.heap.size [iv cl.number, iv cl.frm, iv cl.to, iv cl.holder, iv cl.asked, .bool cl.backed] 33, blk w0.heap.size [iv rl.answer, iv rl.cooling, iv rl.settle, iv rl.reverse] 31]] w17 := hst
  have hst : St No w0 [obj D (.deferred (some [])), blk w6.heap.size [iv ((lastOf ⟨0, 0, cl.asked⟩ pp).state), iv ((lastOf ⟨0, 0, cl.asked⟩ pp).since), iv ((lastOf ⟨0, 0, cl.asked⟩ pp).next)] 54, blk w2.heap.size [iv t] 3, blk bp3 [.pointer (some ⟨x1.bm, 0, none⟩)] 83, blk bl4 [sv] 34, blk x1.bm [iv rl.answer, iv rl.cooling, iv rl.settle, iv rl.reverse, iv cl.number, iv cl.frm, iv cl.to, iv cl.holder, iv cl.asked, .bool cl.backed, .map (some x1.dm), .map (some x1.em), vd] 93, mapE x1.dm duesKV, mapE x1.em effAll, own vd 3 1 (vo.map fun i => [iv i]), blk w3.heap.size [iv 0, iv 0, iv 0] 54, blk w1.heap.size [iv cl.number, iv cl.frm, iv cl.to, iv cl.holder, iv cl.asked, .bool cl.backed] 33, blk w0.heap.size [iv rl.answer, iv rl.cooling, iv rl.settle, iv rl.reverse] 31] w17 := St.unjoinTail [obj D (.deferred (some [])), blk w6.heap.size [iv ((lastOf ⟨0, 0, cl.asked⟩ pp).state), iv ((lastOf ⟨0, 0, cl.asked⟩ pp).since), iv ((lastOf ⟨0, 0, cl.asked⟩ pp).next)] 54, blk w2.heap.size [iv t] 3, blk bp3 [.pointer (some ⟨x1.bm, 0, none⟩)] 83, blk bl4 [sv] 34, blk x1.bm [iv rl.answer, iv rl.cooling, iv rl.settle, iv rl.reverse, iv cl.number, iv cl.frm, iv cl.to, iv cl.holder, iv cl.asked, .bool cl.backed, .map (some x1.dm), .map (some x1.em), vd] 93, mapE x1.dm duesKV, mapE x1.em effAll, own vd 3 1 (vo.map fun i => [iv i])] [blk w3.heap.size [iv 0, iv 0, iv 0] 54, blk w1.heap.size [iv cl.number, iv cl.frm, iv cl.to, iv cl.holder, iv cl.asked, .bool cl.backed] 33, blk w0.heap.size [iv rl.answer, iv rl.cooling, iv rl.settle, iv rl.reverse] 31] hst
  refine wc_exit ?_
  refine hK6 _ _ ?_
  refine wc_seq_region fun K11 hK11 => ?_
  refine wlv hfr (v_load_all (hst.get (k := 1) rfl) rfl (Try.isAgg54 _) (Try.sizeOf54 _)) fun a hfr => ?_
  refine wl_sto 9 hfr hst [iv ((lastOf ⟨0, 0, cl.asked⟩ pp).state), iv ((lastOf ⟨0, 0, cl.asked⟩ pp).since), iv ((lastOf ⟨0, 0, cl.asked⟩ pp).next)] rfl (Try.sizeOf54 _) fun a w18 hfr hst => ?_
  refine wla hfr rfl fun a hfr => ?_
  refine wl_nil (hK11 _ _ ?_)
  refine wc_ret ?_
  have hD := hst.get (k := 0) rfl
  have hst := hst.unmark (i := 0) (o' := .deferred none) rfl
  have hst : St No w0 [blk w6.heap.size [iv ((lastOf ⟨0, 0, cl.asked⟩ pp).state), iv ((lastOf ⟨0, 0, cl.asked⟩ pp).since), iv ((lastOf ⟨0, 0, cl.asked⟩ pp).next)] 54, blk w2.heap.size [iv t] 3, blk bp3 [.pointer (some ⟨x1.bm, 0, none⟩)] 83, blk bl4 [sv] 34, blk x1.bm [iv rl.answer, iv rl.cooling, iv rl.settle, iv rl.reverse, iv cl.number, iv cl.frm, iv cl.to, iv cl.holder, iv cl.asked, .bool cl.backed, .map (some x1.dm), .map (some x1.em), vd] 93, mapE x1.dm duesKV, mapE x1.em effAll, own vd 3 1 (vo.map fun i => [iv i]), blk w3.heap.size [iv ((lastOf ⟨0, 0, cl.asked⟩ pp).state), iv ((lastOf ⟨0, 0, cl.asked⟩ pp).since), iv ((lastOf ⟨0, 0, cl.asked⟩ pp).next)] 54, blk w1.heap.size [iv cl.number, iv cl.frm, iv cl.to, iv cl.holder, iv cl.asked, .bool cl.backed] 33, blk w0.heap.size [iv rl.answer, iv rl.cooling, iv rl.settle, iv rl.reverse] 31] _ := hst
  refine fin_ret1 hfr hD Try.results13 (resAre_cell rfl (res_all (hst.get (k := 8) rfl) (Try.isAgg54 _) (Try.sizeOf54 _)) (resAre_tmp rfl resAre_nil)) ?_
  exact ⟨by simp only [retv]; rw [outcome_stop (by rw [hrest, hpp]) hle hxx]; rfl, hst.ext⟩
theorem outcome_no (rl : Rul) (cl : Clm) (sv : Value) (l : List Evt) (t : Int) (w0 : World) (hsv : SlAt w0 sv 3 (l.map Evt.cells)) (hv : valid rl cl l = true) (hin : isIn t 0 20000000 = false) :
  Ret Try.prog 13 #[.agg #[iv rl.answer, iv rl.cooling, iv rl.settle, iv rl.reverse], .agg #[iv cl.number, iv cl.frm, iv cl.to, iv cl.holder, iv cl.asked, .bool cl.backed], sv, iv t] w0 fun v w => v = .tuple #[.agg #[iv 0, iv 0, iv 0], iv 160] ∧ Ext No w0 w := by
 refine ret_of Try.func13 rfl Try.ntmps13 (lb rfl) fun a hfr => ?_
 have hfr : Fr 42 [(0, _), (1, _), (2, _), (3, _)] [] a := hfr
 have hst : St No w0 [] w0 := St.init w0
 refine wc_seq_region fun K1 hK1 => ?_
 refine wl_box hfr hst rfl [iv rl.answer, iv rl.cooling, iv rl.settle, iv rl.reverse] rfl fun a w1 hfr hst => ?_
 refine wl_box hfr hst rfl [iv cl.number, iv cl.frm, iv cl.to, iv cl.holder, iv cl.asked, .bool cl.backed] rfl fun a w2 hfr hst => ?_
 refine wl_box hfr hst rfl [iv t] rfl fun a w3 hfr hst => ?_
 refine wl_alloc hfr hst (Try.zeroValue54 _) [iv 0, iv 0, iv 0] rfl fun a w4 hfr hst => ?_
 refine wla hfr rfl fun a hfr => ?_
 refine wl_nil (hK1 _ _ ?_)
 refine wc_seq_region fun K2 hK2 => ?_
 refine wlv hfr (v_load_all (hst.get (k := 3) rfl) rfl (Try.isAgg31 _) (Try.sizeOf31 _)) fun a hfr => ?_
 refine wlv hfr (v_load_all (hst.get (k := 2) rfl) rfl (Try.isAgg33 _) (Try.sizeOf33 _)) fun a hfr => wlm hfr rfl fun a hfr => ?_
 refine wl_callm hfr hst Try.call33 rfl (open_ok rl cl sv l _ (hst.arg hsv) hv) fun a w5 x2 hp hfr hst => ?_
 revert x2 hp hfr hst; rintro x1 hp hfr hst
 clear hp
 have hst : St No w0 [blk x1.bm [iv rl.answer, iv rl.cooling, iv rl.settle, iv rl.reverse, iv cl.number, iv cl.frm, iv cl.to, iv cl.holder, iv cl.asked, .bool cl.backed, .map (some x1.dm), .map (some x1.em), .slice none 0 0] 93, mapE x1.dm duesKV, mapE x1.em effAll, blk w3.heap.size [iv 0, iv 0, iv 0] 54, blk w2.heap.size [iv t] 3, blk w1.heap.size [iv cl.number, iv cl.frm, iv cl.to, iv cl.holder, iv cl.asked, .bool cl.backed] 33, blk w0.heap.size [iv rl.answer, iv rl.cooling, iv rl.settle, iv rl.reverse] 31] w5 := hst
 refine wlm hfr rfl fun a hfr => ?_
 refine wlv hfr (v_extract rfl rfl) fun a hfr => ?_
 refine wlv hfr (v_extract rfl rfl) fun a hfr => wla hfr rfl fun a hfr => wla hfr rfl fun a hfr => ?_
 refine wl_nil (hK2 _ _ ?_)
 have hfr : Fr 42 [(0, _), (1, _), (2, _), (3, _), (4, _), (5, _), (7, _), (8, _), (9, _), (10, _), (11, _)] [] a := hfr.pick [0, 1, 2, 3, 4, 5, 7, 8, 9, 10, 11]
 refine wc_seq_k fun K3 hK3 => ?_
 refine wc_seq_region fun K4 hK4 => ?_
 refine wlm hfr rfl fun a hfr => ?_
 refine wlv hfr ((v_ne rfl rfl).asb (b' := false) rfl) fun a hfr => wlm hfr rfl fun a hfr => wly hfr (v_load_blk1 (hst.get (k := 4) rfl) rfl (Try.isAgg3 _) rfl) fun a hfr => ?_
 refine wl_callpy hfr hst Try.call35 rfl ((hin ▸ isIn_ok _ _ _ _)) fun a w6 hfr hst => ?_
 refine wly hfr ((v_not rfl).asb (b' := true) rfl) fun a hfr => ?_
 refine wlv hfr (v_pick_f rfl rfl) fun a hfr => ?_
 refine wl_nil (hK4 _ _ ?_)
 have hfr : Fr 42 [(0, _), (1, _), (2, _), (3, _), (4, _), (5, _), (7, _), (8, _), (9, _), (10, _), (11, _), (27, _)] [] a := hfr.pick [0, 1, 2, 3, 4, 5, 7, 8, 9, 10, 11, 27]
 refine wc_cond_t hfr rfl ?_
 refine wc_seq_region fun K5 hK5 => ?_
 refine wlv hfr (v_build (v := .agg #[iv 0, iv 0, iv 0]) rfl (by kernel_rfl)) fun a hfr => ?_
 refine wl_sto 3 hfr hst [iv 0, iv 0, iv 0] rfl (Try.sizeOf54 _) fun a w7 hfr hst => ?_
 refine wla hfr rfl fun a hfr => ?_
 refine wl_nil (hK5 _ _ ?_)
 refine wc_ret ?_
 refine fin_ret hfr Try.results13 (resAre_cell rfl (res_all (hst.get (k := 3) rfl) (Try.isAgg54 _) (Try.sizeOf54 _)) (resAre_tmp rfl resAre_nil)) ?_
 exact ⟨rfl, hst.ext⟩
end Go.Proofs.Ytnfnkohkcmkddaa
namespace Go.Proofs.Ytnfnkohkcmkddaa
open Go.RowKit Go.PW
set_option linter.unusedVariables false
set_option linter.unusedSimpArgs false
set_option maxRecDepth 4000
theorem with_ok (rl : Rul) (cl : Clm) (sv : Value) (l : List Evt) (t : Int) (w0 : World) (hsv : SlAt w0 sv 3 (l.map Evt.cells)) (hv : valid rl cl l = true) (hin : isIn t 0 20000000 = true) :
  Ret Try.prog 19 #[.agg #[iv rl.answer, iv rl.cooling, iv rl.settle, iv rl.reverse], .agg #[iv cl.number, iv cl.frm, iv cl.to, iv cl.holder, iv cl.asked, .bool cl.backed], sv, iv t] w0 fun v w => v = .tuple #[iv (withAt rl cl l t), iv 0] ∧ Ext No w0 w := by
 refine ret_of Try.func19 rfl Try.ntmps19 (lb rfl) fun a hfr => ?_
 have hfr : Fr 37 [(0, _), (1, _), (2, _), (3, _)] [] a := hfr
 have hst : St No w0 [] w0 := St.init w0
 refine wc_seq_region fun K1 hK1 => ?_
 refine wl_box hfr hst rfl [iv rl.answer, iv rl.cooling, iv rl.settle, iv rl.reverse] rfl fun a w1 hfr hst => ?_
 refine wl_box hfr hst rfl [iv cl.number, iv cl.frm, iv cl.to, iv cl.holder, iv cl.asked, .bool cl.backed] rfl fun a w2 hfr hst => ?_
 refine wla hfr rfl fun a hfr => wla hfr rfl fun a hfr => ?_
 refine wl_nil (hK1 _ _ ?_)
 refine wc_seq_region fun K2 hK2 => ?_
 refine wlv hfr (v_load_all (hst.get (k := 1) rfl) rfl (Try.isAgg31 _) (Try.sizeOf31 _)) fun a hfr => ?_
 refine wlv hfr (v_load_all (hst.get (k := 0) rfl) rfl (Try.isAgg33 _) (Try.sizeOf33 _)) fun a hfr => wlm hfr rfl fun a hfr => wlm hfr rfl fun a hfr => ?_
 refine wl_callp hfr hst Try.call13 rfl (outcome_ok rl cl sv l t _ (hst.arg hsv) hv hin) fun a w3 hfr hst => ?_
 refine wlm hfr rfl fun a hfr => ?_
 refine wlv hfr (v_extract rfl rfl) fun a hfr => ?_
 refine wlv hfr (v_extract rfl rfl) fun a hfr => ?_
 refine wl_alloc hfr hst (Try.zeroValue54 _) [iv 0, iv 0, iv 0] rfl fun a w4 hfr hst => ?_
 refine wl_sto 0 hfr hst [iv ((outcome rl cl l t).state), iv ((outcome rl cl l t).since), iv ((outcome rl cl l t).next)] rfl (Try.sizeOf54 _) fun a w5 hfr hst => ?_
 refine wla hfr rfl fun a hfr => ?_
 refine wl_nil (hK2 _ _ ?_)
 have hfr : Fr 37 [(0, _), (1, _), (2, _), (3, _), (4, _), (5, _), (8, _), (9, _), (10, _), (11, _)] [] a := hfr.pick [0, 1, 2, 3, 4, 5, 8, 9, 10, 11]
 refine wc_seq_k fun K3 hK3 => ?_
 refine wc_block ?_
 refine wc_seq_region fun K4 hK4 => ?_
 refine wlm hfr rfl fun a hfr => ?_
 refine wlv hfr ((v_ne rfl rfl).asb (b' := false) rfl) fun a hfr => wla hfr rfl fun a hfr => ?_
 refine wl_nil (hK4 _ _ ?_)
 refine wc_cond_f hfr rfl ?_
 refine wc_seq_region fun K5 hK5 => ?_
 refine wlv hfr (v_fieldAddr (v := .pointer (some ⟨w3.heap.size, 0, none⟩)) rfl (by kernel_rfl)) fun a hfr => ?_
 refine wlv hfr (v_load_blk1 (hst.get (k := 0) rfl) rfl (Try.isAgg3 _) rfl) fun a hfr => ?_
 refine wlv hfr (v_eq rfl rfl) fun a hfr => wlm hfr rfl fun a hfr => ?_
 rcases Decidable.em ((outcome rl cl l t).state = 4) with hb1 | hb1
 ·rw [decide_eq_true hb1] at hfr
  refine wln hfr fun a hfr => ?_
  refine wln hfr fun a hfr => ?_
  refine wln hfr fun a hfr => ?_
  refine wlv hfr (v_pick_t rfl rfl) fun a hfr => wla hfr rfl fun a hfr => ?_
  refine wl_nil (hK5 _ _ ?_)
  have hfr : Fr 37 [(0, _), (1, _), (2, _), (3, _), (4, _), (5, _), (8, _), (9, _), (10, _), (11, _), (21, _), (22, _), (20, _), (24, _)] [] a := hfr.pick [0, 1, 2, 3, 4, 5, 8, 9, 10, 11, 21, 22, 20, 24]
  refine wc_cond_t hfr rfl ?_
  refine wc_seq_region fun K6 hK6 => ?_
  refine wlv hfr (v_fieldAddr (v := .pointer (some ⟨w1.heap.size, 2, none⟩)) rfl (by kernel_rfl)) fun a hfr => ?_
  refine wlv hfr (v_load_blk1 (hst.get (k := 1) rfl) rfl (Try.isAgg3 _) rfl) fun a hfr => wla hfr rfl fun a hfr => wla hfr rfl fun a hfr => ?_
  refine wl_nil (hK6 _ _ ?_)
  refine wc_ret ?_
  refine fin_ret hfr Try.results19 (resAre_tmp rfl (resAre_tmp rfl resAre_nil)) ?_
  exact ⟨by simp only [retv, withAt]; simp [*], hst.ext⟩
 rw [decide_eq_false hb1] at hfr
 refine wly hfr (v_fieldAddr (v := .pointer (some ⟨w3.heap.size, 0, none⟩)) rfl (by kernel_rfl)) fun a hfr => wly hfr (v_load_blk1 (hst.get (k := 0) rfl) rfl (Try.isAgg3 _) rfl) fun a hfr => wly hfr (v_eq rfl rfl) fun a hfr => ?_
 refine wlv hfr (v_pick_f rfl rfl) fun a hfr => wla hfr rfl fun a hfr => ?_
 refine wl_nil (hK5 _ _ ?_)
 have hfr : Fr 37 [(0, _), (1, _), (2, _), (3, _), (4, _), (5, _), (8, _), (9, _), (10, _), (11, _), (21, _), (22, _), (20, _), (24, _)] [] a := hfr.pick [0, 1, 2, 3, 4, 5, 8, 9, 10, 11, 21, 22, 20, 24]
 refine wc_cond_d hfr rfl (fun hc2 => ?_) (fun hc2 => ?_)
 ·rw [decide_eq_true hc2] at hfr
  refine wc_seq_region fun K7 hK7 => ?_
  refine wlv hfr (v_fieldAddr (v := .pointer (some ⟨w1.heap.size, 2, none⟩)) rfl (by kernel_rfl)) fun a hfr => ?_
  refine wlv hfr (v_load_blk1 (hst.get (k := 1) rfl) rfl (Try.isAgg3 _) rfl) fun a hfr => wla hfr rfl fun a hfr => wla hfr rfl fun a hfr => ?_
  refine wl_nil (hK7 _ _ ?_)
  refine wc_ret ?_
  refine fin_ret hfr Try.results19 (resAre_tmp rfl (resAre_tmp rfl resAre_nil)) ?_
  exact ⟨by simp only [retv, withAt]; simp [*], hst.ext⟩
 rw [decide_eq_false hc2] at hfr
 refine wc_skip ?_
 refine hK3 _ _ ?_
 refine wc_seq_region fun K8 hK8 => ?_
 refine wlv hfr (v_fieldAddr (v := .pointer (some ⟨w1.heap.size, 1, none⟩)) rfl (by kernel_rfl)) fun a hfr => ?_
 refine wlv hfr (v_load_blk1 (hst.get (k := 1) rfl) rfl (Try.isAgg3 _) rfl) fun a hfr => wla hfr rfl fun a hfr => wla hfr rfl fun a hfr => ?_
 refine wl_nil (hK8 _ _ ?_)
 refine wc_ret ?_
 refine fin_ret hfr Try.results19 (resAre_tmp rfl (resAre_tmp rfl resAre_nil)) ?_
 exact ⟨by simp only [retv, withAt]; simp [*], hst.ext⟩
theorem void_ok (rl : Rul) (cl : Clm) (sv : Value) (l : List Evt) (w0 : World) (hsv : SlAt w0 sv 3 (l.map Evt.cells)) (hv : valid rl cl l = true) :
  Ret Try.prog 12 #[.agg #[iv rl.answer, iv rl.cooling, iv rl.settle, iv rl.reverse], .agg #[iv cl.number, iv cl.frm, iv cl.to, iv cl.holder, iv cl.asked, .bool cl.backed], sv] w0 (MemR w0 (fun v : Value => .tuple #[v, iv 0]) (fun v => [own v 3 1 ((voids rl cl l).map fun i => [iv i])]) (fun _ => True)) := by
 refine ret_of Try.func12 rfl Try.ntmps12 (lb rfl) fun a hfr => ?_
 have hfr : Fr 28 [(0, _), (1, _), (2, _)] [] a := hfr
 have hst : St No w0 [] w0 := St.init w0
 refine wc_seq_region fun K1 hK1 => ?_
 refine wl_box hfr hst rfl [iv rl.answer, iv rl.cooling, iv rl.settle, iv rl.reverse] rfl fun a w1 hfr hst => ?_
 refine wl_box hfr hst rfl [iv cl.number, iv cl.frm, iv cl.to, iv cl.holder, iv cl.asked, .bool cl.backed] rfl fun a w2 hfr hst => ?_
 refine wla hfr rfl fun a hfr => wla hfr rfl fun a hfr => ?_
 refine wl_nil (hK1 _ _ ?_)
 refine wc_seq_region fun K2 hK2 => ?_
 refine wlv hfr (v_load_all (hst.get (k := 1) rfl) rfl (Try.isAgg31 _) (Try.sizeOf31 _)) fun a hfr => ?_
 refine wlv hfr (v_load_all (hst.get (k := 0) rfl) rfl (Try.isAgg33 _) (Try.sizeOf33 _)) fun a hfr => wlm hfr rfl fun a hfr => ?_
 refine wl_callm hfr hst Try.call33 rfl (open_ok rl cl sv l _ (hst.arg hsv) hv) fun a w3 x2 hp hfr hst => ?_
 revert x2 hp hfr hst; rintro x1 hp hfr hst
 clear hp
 have hst : St No w0 [blk x1.bm [iv rl.answer, iv rl.cooling, iv rl.settle, iv rl.reverse, iv cl.number, iv cl.frm, iv cl.to, iv cl.holder, iv cl.asked, .bool cl.backed, .map (some x1.dm), .map (some x1.em), .slice none 0 0] 93, mapE x1.dm duesKV, mapE x1.em effAll, blk w1.heap.size [iv cl.number, iv cl.frm, iv cl.to, iv cl.holder, iv cl.asked, .bool cl.backed] 33, blk w0.heap.size [iv rl.answer, iv rl.cooling, iv rl.settle, iv rl.reverse] 31] w3 := hst
 refine wlm hfr rfl fun a hfr => ?_
 refine wlv hfr (v_extract rfl rfl) fun a hfr => ?_
 refine wlv hfr (v_extract rfl rfl) fun a hfr => wla hfr rfl fun a hfr => wla hfr rfl fun a hfr => ?_
 refine wl_nil (hK2 _ _ ?_)
 have hfr : Fr 28 [(0, _), (1, _), (2, _), (3, _), (4, _), (6, _), (7, _), (8, _), (9, _)] [] a := hfr.pick [0, 1, 2, 3, 4, 6, 7, 8, 9]
 refine wc_seq_k fun K3 hK3 => ?_
 refine wc_seq_region fun K4 hK4 => ?_
 refine wlm hfr rfl fun a hfr => ?_
 refine wlv hfr ((v_ne rfl rfl).asb (b' := false) rfl) fun a hfr => ?_
 refine wl_nil (hK4 _ _ ?_)
 refine wc_cond_f hfr rfl ?_
 refine wc_skip ?_
 refine hK3 _ _ ?_
 refine wc_seq_k fun K5 hK5 => ?_
 refine wc_seq_region fun K6 hK6 => ?_
 refine wlm hfr rfl fun a hfr => wlm hfr rfl fun a hfr => ?_
 refine wl_callm hfr hst Try.call34 rfl (mstatuses_ok _ _ _ _ (hst.arg hsv)) fun a w4 x5 hp hfr hst => ?_
 obtain ⟨bp3, bl4⟩ := x5
 clear hp
 have hst : St No w0 [blk bl4 [sv] 34, blk bp3 [.pointer (some ⟨x1.bm, 0, none⟩)] 83, blk x1.bm [iv rl.answer, iv rl.cooling, iv rl.settle, iv rl.reverse, iv cl.number, iv cl.frm, iv cl.to, iv cl.holder, iv cl.asked, .bool cl.backed, .map (some x1.dm), .map (some x1.em), .slice none 0 0] 93, mapE x1.dm duesKV, mapE x1.em effAll, blk w1.heap.size [iv cl.number, iv cl.frm, iv cl.to, iv cl.holder, iv cl.asked, .bool cl.backed] 33, blk w0.heap.size [iv rl.answer, iv rl.cooling, iv rl.settle, iv rl.reverse] 31] w4 := hst
 refine wl_nil (hK6 _ _ ?_)
 refine wc_block ?_
 have hst : St No w0 (own (.slice none 0 0) 3 1 [] :: [blk bl4 [sv] 34, blk bp3 [.pointer (some ⟨x1.bm, 0, none⟩)] 83, blk x1.bm [iv rl.answer, iv rl.cooling, iv rl.settle, iv rl.reverse, iv cl.number, iv cl.frm, iv cl.to, iv cl.holder, iv cl.asked, .bool cl.backed, .map (some x1.dm), .map (some x1.em), .slice none 0 0] 93, mapE x1.dm duesKV, mapE x1.em effAll, blk w1.heap.size [iv cl.number, iv cl.frm, iv cl.to, iv cl.holder, iv cl.asked, .bool cl.backed] 33, blk w0.heap.size [iv rl.answer, iv rl.cooling, iv rl.settle, iv rl.reverse] 31]) w4 := hst.nil_own
 have hst : St No w0 [blk bp3 [.pointer (some ⟨x1.bm, 0, none⟩)] 83, blk bl4 [sv] 34, blk x1.bm [iv rl.answer, iv rl.cooling, iv rl.settle, iv rl.reverse, iv cl.number, iv cl.frm, iv cl.to, iv cl.holder, iv cl.asked, .bool cl.backed, .map (some x1.dm), .map (some x1.em), .slice none 0 0] 93, mapE x1.dm duesKV, mapE x1.em effAll, own (.slice none 0 0) 3 1 (([] : List Int).map fun i => [iv i]), blk w1.heap.size [iv cl.number, iv cl.frm, iv cl.to, iv cl.holder, iv cl.asked, .bool cl.backed] 33, blk w0.heap.size [iv rl.answer, iv rl.cooling, iv rl.settle, iv rl.reverse] 31] w4 := hst.select [2, 1, 3, 4, 5, 0, 6, 7] (by decide)
 have hst : St No w0 [blk bp3 [.pointer (some ⟨x1.bm, 0, none⟩)] 83, blk bl4 [sv] 34, blk x1.bm [iv rl.answer, iv rl.cooling, iv rl.settle, iv rl.reverse, iv cl.number, iv cl.frm, iv cl.to, iv cl.holder, iv cl.asked, .bool cl.backed, .map (some x1.dm), .map (some x1.em), .slice none 0 0] 93, mapE x1.dm duesKV, mapE x1.em effAll, own (.slice none 0 0) 3 1 (([] : List Int).map fun i => [iv i]), join [blk w1.heap.size [iv cl.number, iv cl.frm, iv cl.to, iv cl.holder, iv cl.asked, .bool cl.backed] 33, blk w0.heap.size [iv rl.answer, iv rl.cooling, iv rl.settle, iv rl.reverse] 31]] w4 := St.joinTail [blk bp3 [.pointer (some ⟨x1.bm, 0, none⟩)] 83, blk bl4 [sv] 34, blk x1.bm [iv rl.answer, iv rl.cooling, iv rl.settle, iv rl.reverse, iv cl.number, iv cl.frm, iv cl.to, iv cl.holder, iv cl.asked, .bool cl.backed, .map (some x1.dm), .map (some x1.em), .slice none 0 0] 93, mapE x1.dm duesKV, mapE x1.em effAll, own (.slice none 0 0) 3 1 (([] : List Int).map fun i => [iv i])] [blk w1.heap.size [iv cl.number, iv cl.frm, iv cl.to, iv cl.holder, iv cl.asked, .bool cl.backed] 33, blk w0.heap.size [iv rl.answer, iv rl.cooling, iv rl.settle, iv rl.reverse] 31] hst
 have hst : St No w0 [blk bp3 [.pointer (some ⟨x1.bm, 0, none⟩)] 83, blk bl4 [sv] 34, blk x1.bm [iv rl.answer, iv rl.cooling, iv rl.settle, iv rl.reverse, iv cl.number, iv cl.frm, iv cl.to, iv cl.holder, iv cl.asked, .bool cl.backed, .map (some x1.dm), .map (some x1.em), .slice none 0 0] 93, mapE x1.dm duesKV, mapE x1.em effAll, own (.slice none 0 0) 3 1 (([] : List Int).map fun i => [iv i]), join [blk w1.heap.size [iv cl.number, iv cl.frm, iv cl.to, iv cl.holder, iv cl.asked, .bool cl.backed] 33, blk w0.heap.size [iv rl.answer, iv rl.cooling, iv rl.settle, iv rl.reverse] 31]] w4 := hst.select [0, 1, 2, 3, 4, 5, 6] (by decide)
 have hfr : Fr 28 [(0, .agg #[iv rl.answer, iv rl.cooling, iv rl.settle, iv rl.reverse]), (1, .agg #[iv cl.number, iv cl.frm, iv cl.to, iv cl.holder, iv cl.asked, .bool cl.backed]), (2, sv), (3, .pointer (some ⟨w0.heap.size, 0, none⟩)), (4, .pointer (some ⟨w1.heap.size, 0, none⟩)), (6, .slice none 0 0), (7, iv 0), (8, .pointer (some ⟨x1.bm, 0, none⟩)), (9, iv 0), (17, iv 0), (18, .bool false), (20, .pointer (some ⟨x1.bm, 0, none⟩)), (21, sv), (22, .func (.func 60) #[] #[.pointer (some ⟨bp3, 0, none⟩), .pointer (some ⟨bl4, 0, none⟩)])] [] a := hfr.pick [0, 1, 2, 3, 4, 6, 7, 8, 9, 17, 18, 20, 21, 22]
 refine wc_range (M := No) (w0 := w0) (encs := encS) (Hi := [blk bp3 [.pointer (some ⟨x1.bm, 0, none⟩)] 83, blk bl4 [sv] 34, blk x1.bm [iv rl.answer, iv rl.cooling, iv rl.settle, iv rl.reverse, iv cl.number, iv cl.frm, iv cl.to, iv cl.holder, iv cl.asked, .bool cl.backed, .map (some x1.dm), .map (some x1.em), .slice none 0 0] 93, mapE x1.dm duesKV, mapE x1.em effAll, own (.slice none 0 0) 3 1 (([] : List Int).map fun i => [iv i]), join [blk w1.heap.size [iv cl.number, iv cl.frm, iv cl.to, iv cl.holder, iv cl.asked, .bool cl.backed] 33, blk w0.heap.size [iv rl.answer, iv rl.cooling, iv rl.settle, iv rl.reverse] 31]]) (Hc := []) (fun pre H => (True) ∧ H = []) (fun _ _ _ => False) (fun pre xs H a => Fr 28 [(0, .agg #[iv rl.answer, iv rl.cooling, iv rl.settle, iv rl.reverse]), (1, .agg #[iv cl.number, iv cl.frm, iv cl.to, iv cl.holder, iv cl.asked, .bool cl.backed]), (2, sv), (3, .pointer (some ⟨w0.heap.size, 0, none⟩)), (4, .pointer (some ⟨w1.heap.size, 0, none⟩)), (6, .slice none 0 0), (7, iv 0), (8, .pointer (some ⟨x1.bm, 0, none⟩)), (9, iv 0), (17, iv 0), (18, .bool false), (20, .pointer (some ⟨x1.bm, 0, none⟩)), (21, sv), (22, .func (.func 60) #[] #[.pointer (some ⟨bp3, 0, none⟩), .pointer (some ⟨bl4, 0, none⟩)])] [] a ∧ (True) ∧ H = []) rfl Try.call60 hfr hst (statuses_iter rl cl x1 sv l bp3 bl4 hv (fun H w h => h.arg hsv)) (by decide) (fun _ => rfl) ⟨trivial, rfl⟩ ?_ ?_ ?_ ?_
 ·rintro lp pre xs _ a w5 hnx ⟨htr, rfl⟩ hfr hst
  generalize (join []).foot = M1 at hst ⊢
  have hfr : Fr 28 [(23, .agg #[iv xs.state, iv xs.since, iv xs.next]), (0, .agg #[iv rl.answer, iv rl.cooling, iv rl.settle, iv rl.reverse]), (1, .agg #[iv cl.number, iv cl.frm, iv cl.to, iv cl.holder, iv cl.asked, .bool cl.backed]), (2, sv), (3, .pointer (some ⟨w0.heap.size, 0, none⟩)), (4, .pointer (some ⟨w1.heap.size, 0, none⟩)), (6, .slice none 0 0), (7, iv 0), (8, .pointer (some ⟨x1.bm, 0, none⟩)), (9, iv 0), (17, iv 0), (18, .bool false), (20, .pointer (some ⟨x1.bm, 0, none⟩)), (21, sv), (22, .func (.func 60) #[] #[.pointer (some ⟨bp3, 0, none⟩), .pointer (some ⟨bl4, 0, none⟩)])] [] a := hfr
  refine wc_skip ?_
  exact ⟨_, ⟨hfr.pick [0, 1, 2, 3, 4, 6, 7, 8, 9, 17, 18, 20, 21, 22], htr, rfl⟩, hst⟩
 ·rintro lp pre xs _ a w6 hnx ⟨hfr, htr, rfl⟩ hout hrec hnl hst
  clear hrec hnl
  generalize (join []).foot = M1 at hst hout ⊢
  refine wc_block ?_
  refine wc_skip ?_
  exact ⟨_, ⟨trivial, rfl⟩, hst.select [] (by decide)⟩
 ·rintro D pre _ _ a w7 ⟨rfl, vd, rfl⟩ ⟨htr, rfl⟩ hst hfr
  have hfr : Fr 28 [(0, .agg #[iv rl.answer, iv rl.cooling, iv rl.settle, iv rl.reverse]), (1, .agg #[iv cl.number, iv cl.frm, iv cl.to, iv cl.holder, iv cl.asked, .bool cl.backed]), (2, sv), (3, .pointer (some ⟨w0.heap.size, 0, none⟩)), (4, .pointer (some ⟨w1.heap.size, 0, none⟩)), (6, .slice none 0 0), (7, iv 0), (8, .pointer (some ⟨x1.bm, 0, none⟩)), (9, iv 0), (17, iv 0), (18, .bool false), (20, .pointer (some ⟨x1.bm, 0, none⟩)), (21, sv), (22, .func (.func 60) #[] #[.pointer (some ⟨bp3, 0, none⟩), .pointer (some ⟨bl4, 0, none⟩)])] [{ target := .collected D, args := #[] }] a := hfr
  have hst : St No w0 [obj D (.deferred (some [])), blk bp3 [.pointer (some ⟨x1.bm, 0, none⟩)] 83, blk bl4 [sv] 34, blk x1.bm [iv rl.answer, iv rl.cooling, iv rl.settle, iv rl.reverse, iv cl.number, iv cl.frm, iv cl.to, iv cl.holder, iv cl.asked, .bool cl.backed, .map (some x1.dm), .map (some x1.em), vd] 93, mapE x1.dm duesKV, mapE x1.em effAll, own vd 3 1 ((voids rl cl l).map fun i => [iv i]), join [blk w1.heap.size [iv cl.number, iv cl.frm, iv cl.to, iv cl.holder, iv cl.asked, .bool cl.backed] 33, blk w0.heap.size [iv rl.answer, iv rl.cooling, iv rl.settle, iv rl.reverse] 31]] w7 := hst
  have hst : St No w0 [obj D (.deferred (some [])), blk bp3 [.pointer (some ⟨x1.bm, 0, none⟩)] 83, blk bl4 [sv] 34, blk x1.bm [iv rl.answer, iv rl.cooling, iv rl.settle, iv rl.reverse, iv cl.number, iv cl.frm, iv cl.to, iv cl.holder, iv cl.asked, .bool cl.backed, .map (some x1.dm), .map (some x1.em), vd] 93, mapE x1.dm duesKV, mapE x1.em effAll, own vd 3 1 ((voids rl cl l).map fun i => [iv i]), blk w1.heap.size [iv cl.number, iv cl.frm, iv cl.to, iv cl.holder, iv cl.asked, .bool cl.backed] 33, blk w0.heap.size [iv rl.answer, iv rl.cooling, iv rl.settle, iv rl.reverse] 31] w7 := St.unjoinTail [obj D (.deferred (some [])), blk bp3 [.pointer (some ⟨x1.bm, 0, none⟩)] 83, blk bl4 [sv] 34, blk x1.bm [iv rl.answer, iv rl.cooling, iv rl.settle, iv rl.reverse, iv cl.number, iv cl.frm, iv cl.to, iv cl.holder, iv cl.asked, .bool cl.backed, .map (some x1.dm), .map (some x1.em), vd] 93, mapE x1.dm duesKV, mapE x1.em effAll, own vd 3 1 ((voids rl cl l).map fun i => [iv i])] [blk w1.heap.size [iv cl.number, iv cl.frm, iv cl.to, iv cl.holder, iv cl.asked, .bool cl.backed] 33, blk w0.heap.size [iv rl.answer, iv rl.cooling, iv rl.settle, iv rl.reverse] 31] hst
  refine hK5 _ _ ?_
  refine wc_seq_region fun K7 hK7 => ?_
  refine wlm hfr rfl fun a hfr => ?_
  refine wlv hfr (v_nilCheck rfl) fun a hfr => ?_
  refine wlv hfr (v_fieldAddr (v := .pointer (some ⟨x1.bm, 12, none⟩)) rfl (by kernel_rfl)) fun a hfr => ?_
  refine wlv hfr (v_load_blk1 (hst.get (k := 3) rfl) rfl (Try.isAgg50 _) rfl) fun a hfr => wla hfr rfl fun a hfr => wla hfr rfl fun a hfr => ?_
  refine wl_nil (hK7 _ _ ?_)
  refine wc_ret ?_
  have hD := hst.get (k := 0) rfl
  have hst := hst.unmark (i := 0) (o' := .deferred none) rfl
  have hst : St No w0 [blk bp3 [.pointer (some ⟨x1.bm, 0, none⟩)] 83, blk bl4 [sv] 34, blk x1.bm [iv rl.answer, iv rl.cooling, iv rl.settle, iv rl.reverse, iv cl.number, iv cl.frm, iv cl.to, iv cl.holder, iv cl.asked, .bool cl.backed, .map (some x1.dm), .map (some x1.em), vd] 93, mapE x1.dm duesKV, mapE x1.em effAll, own vd 3 1 ((voids rl cl l).map fun i => [iv i]), blk w1.heap.size [iv cl.number, iv cl.frm, iv cl.to, iv cl.holder, iv cl.asked, .bool cl.backed] 33, blk w0.heap.size [iv rl.answer, iv rl.cooling, iv rl.settle, iv rl.reverse] 31] _ := hst
  refine fin_ret1 hfr hD Try.results12 (resAre_tmp rfl (resAre_tmp rfl resAre_nil)) ?_
  exact ⟨vd, rfl, trivial, hst.ext, St.out (E := [own vd 3 1 ((voids rl cl l).map fun i => [iv i])]) (H := []) (hst.select [5] (by decide))⟩
 ·rintro D c pre _ _ a w8 _ h
  exact h.elim
theorem appendSeq_ok {M : Nat → Prop} {w0 : World} {er : Ent} (rl : Rul) (cl : Clm) (x : Mach) (sv : Value) (l : List Evt) (bp bl : Nat) (ws : World)
  (hv : valid rl cl l = true) (hsv : ∀ H w, St M w0 H w → SlAt w sv 3 (l.map Evt.cells)) (hst : St M w0 [blk bp [.pointer (some ⟨x.bm, 0, none⟩)] 83, blk bl [sv] 34, blk x.bm [iv rl.answer, iv rl.cooling, iv rl.settle, iv rl.reverse, iv cl.number, iv cl.frm, iv cl.to, iv cl.holder, iv cl.asked, .bool cl.backed, .map (some x.dm), .map (some x.em), .slice none 0 0] 93, mapE x.dm duesKV, mapE x.em effAll, own (.slice none 0 0) 3 1 (([] : List Int).map fun i => [iv i]), er] ws) :
  Ret Try.prog 64 #[.slice none 0 0, .func (.func 60) #[] #[.pointer (some ⟨bp, 0, none⟩), .pointer (some ⟨bl, 0, none⟩)]] ws fun v w => ∃ vd, St M w0 (own v 54 3 ((statuses rl cl l).map Stt.cells) :: [blk bp [.pointer (some ⟨x.bm, 0, none⟩)] 83, blk bl [sv] 34, blk x.bm [iv rl.answer, iv rl.cooling, iv rl.settle, iv rl.reverse, iv cl.number, iv cl.frm, iv cl.to, iv cl.holder, iv cl.asked, .bool cl.backed, .map (some x.dm), .map (some x.em), vd] 93, mapE x.dm duesKV, mapE x.em effAll, own vd 3 1 ((voids rl cl l).map fun i => [iv i]), er]) w := by
 refine ret_of Try.func64 rfl Try.ntmps64 (lb rfl) fun a hfr => ?_
 have hfr : Fr 13 [(0, _), (1, _)] [] a := hfr
 skip
 refine wc_seq_region fun K1 hK1 => ?_
 refine wl_box hfr hst rfl [.slice none 0 0] rfl fun a w1 hfr hst => ?_
 refine wla hfr rfl fun a hfr => ?_
 refine wl_nil (hK1 _ _ ?_)
 refine wc_seq_k fun K2 hK2 => ?_
 refine wc_seq_region fun K3 hK3 => ?_
 refine wlm hfr rfl fun a hfr => ?_
 refine wl_nil (hK3 _ _ ?_)
 refine wc_block ?_
 have hst : St M w0 (own (.slice none 0 0) 54 3 [] :: [blk ws.heap.size [.slice none 0 0] 63, blk bp [.pointer (some ⟨x.bm, 0, none⟩)] 83, blk bl [sv] 34, blk x.bm [iv rl.answer, iv rl.cooling, iv rl.settle, iv rl.reverse, iv cl.number, iv cl.frm, iv cl.to, iv cl.holder, iv cl.asked, .bool cl.backed, .map (some x.dm), .map (some x.em), .slice none 0 0] 93, mapE x.dm duesKV, mapE x.em effAll, own (.slice none 0 0) 3 1 (([] : List Int).map fun i => [iv i]), er]) w1 := hst.nil_own
 have hst : St M w0 [blk ws.heap.size [.slice none 0 0] 63, own (.slice none 0 0) 54 3 (([] : List Stt).map Stt.cells), blk bp [.pointer (some ⟨x.bm, 0, none⟩)] 83, blk bl [sv] 34, blk x.bm [iv rl.answer, iv rl.cooling, iv rl.settle, iv rl.reverse, iv cl.number, iv cl.frm, iv cl.to, iv cl.holder, iv cl.asked, .bool cl.backed, .map (some x.dm), .map (some x.em), .slice none 0 0] 93, mapE x.dm duesKV, mapE x.em effAll, own (.slice none 0 0) 3 1 (([] : List Int).map fun i => [iv i]), er] w1 := hst.select [1, 0, 2, 3, 4, 5, 6, 7, 8] (by decide)
 have hfr : Fr 13 [(0, .slice none 0 0), (1, .func (.func 60) #[] #[.pointer (some ⟨bp, 0, none⟩), .pointer (some ⟨bl, 0, none⟩)]), (2, .pointer (some ⟨ws.heap.size, 0, none⟩)), (4, .slice none 0 0), (6, .func (.func 60) #[] #[.pointer (some ⟨bp, 0, none⟩), .pointer (some ⟨bl, 0, none⟩)])] [] a := hfr.pick [0, 1, 2, 4, 6]
 refine wc_range (M := M) (w0 := w0) (encs := encS) (Hi := [blk bp [.pointer (some ⟨x.bm, 0, none⟩)] 83, blk bl [sv] 34, blk x.bm [iv rl.answer, iv rl.cooling, iv rl.settle, iv rl.reverse, iv cl.number, iv cl.frm, iv cl.to, iv cl.holder, iv cl.asked, .bool cl.backed, .map (some x.dm), .map (some x.em), .slice none 0 0] 93, mapE x.dm duesKV, mapE x.em effAll, own (.slice none 0 0) 3 1 (([] : List Int).map fun i => [iv i]), er]) (Hc := [blk ws.heap.size [.slice none 0 0] 63, own (.slice none 0 0) 54 3 (([] : List Stt).map Stt.cells)]) (fun pre H => ∃ (v : Value), H = [blk ws.heap.size [v] 63, own v 54 3 (pre.map Stt.cells)]) (fun _ _ _ => False) (fun pre xs H a => ∃ (bA0 : Nat), Fr 13 [(0, .slice none 0 0), (1, .func (.func 60) #[] #[.pointer (some ⟨bp, 0, none⟩), .pointer (some ⟨bl, 0, none⟩)]), (2, .pointer (some ⟨ws.heap.size, 0, none⟩)), (4, .slice none 0 0), (6, .func (.func 60) #[] #[.pointer (some ⟨bp, 0, none⟩), .pointer (some ⟨bl, 0, none⟩)]), (5, .pointer (some ⟨bA0, 0, none⟩))] [] a ∧ ∃ (v : Value), H = [blk bA0 [iv xs.state, iv xs.since, iv xs.next] 54, blk ws.heap.size [v] 63, own v 54 3 (pre.map Stt.cells)]) rfl Try.call60 hfr hst (statuses_iter rl cl x sv l bp bl hv hsv) (by decide) (fun _ => rfl) ⟨.slice none 0 0, rfl⟩ ?_ ?_ ?_ ?_
 ·rintro lp pre xs _ a w2 hnx ⟨v, rfl⟩ hfr hst
  generalize (join [blk ws.heap.size [v] 63, own v 54 3 (pre.map Stt.cells)]).foot = M1 at hst ⊢
  have hfr : Fr 13 [(7, .agg #[iv xs.state, iv xs.since, iv xs.next]), (0, .slice none 0 0), (1, .func (.func 60) #[] #[.pointer (some ⟨bp, 0, none⟩), .pointer (some ⟨bl, 0, none⟩)]), (2, .pointer (some ⟨ws.heap.size, 0, none⟩)), (4, .slice none 0 0), (6, .func (.func 60) #[] #[.pointer (some ⟨bp, 0, none⟩), .pointer (some ⟨bl, 0, none⟩)])] [] a := hfr
  refine wc_region ?_
  refine wl_alloc hfr hst (Try.zeroValue54 _) [iv 0, iv 0, iv 0] rfl fun a w3 hfr hst => ?_
  refine wl_sto 0 hfr hst [iv xs.state, iv xs.since, iv xs.next] rfl (Try.sizeOf54 _) fun a w4 hfr hst => ?_
  refine wl_nil ?_
  exact ⟨_, ⟨w2.heap.size, hfr.pick [0, 1, 2, 4, 6, 5], v, rfl⟩, hst⟩
 ·rintro lp pre xs _ a w5 hnx ⟨bA0, hfr, v, rfl⟩ hout hrec hnl hst
  clear hrec hnl
  generalize (join [blk bA0 [iv xs.state, iv xs.since, iv xs.next] 54, blk ws.heap.size [v] 63, own v 54 3 (pre.map Stt.cells)]).foot = M1 at hst hout ⊢
  refine wc_block ?_
  refine wc_region ?_
  refine wlv hfr (v_load_blk1 (hst.get (k := 1) rfl) rfl (Try.isAgg63 _) rfl) fun a hfr => ?_
  refine wlv hfr (v_load_all (hst.get (k := 0) rfl) rfl (Try.isAgg54 _) (Try.sizeOf54 _)) fun a hfr => ?_
  refine wl_buildSlice (E := 54) (sz := 3) rfl [[iv xs.state, iv xs.since, iv xs.next]] (by kernel_rfl) (by simp) rfl (by decide) (by decide) hfr hst fun a w6 hfr hst => ?_
  refine wl_append (i := 3) (sT := 63) (inf := Try.t54) (z := .agg #[iv 0, iv 0, iv 0]) (b := 0) (off := 0) (m := 0) (c := 0) rfl rfl rfl (hst.ownAt (i := 0) rfl) (by simp) Try.underlying63 rfl rfl rfl rfl (by decide) (by simp [Value.oneCell']) (by have hby : Try.t54.bytes = 24 := rfl; have : pre.length < 200 := hnx; simp [big, hby]; omega) (by have hby : Try.t54.bytes = 24 := rfl; have : pre.length < 200 := hnx; simp [big, hby]; omega) (by decide) hfr hst fun a w7 s1 hfr hst _ => ?_
  refine wl_store_sl 2 hfr hst (hst.ownAt (i := 3) rfl) rfl rfl rfl (Try.sizeOf63 _) (lb rfl) (ds := [s1]) rfl rfl fun a w8 hfr hst => ?_
  refine wl_nil ?_
  rw [show pre.map Stt.cells ++ [[iv xs.state, iv xs.since, iv xs.next]] = (pre ++ [xs]).map Stt.cells from by simp [Stt.cells]] at hst
  exact ⟨_, ⟨s1, rfl⟩, hst.select [2, 3] (by decide)⟩
 ·rintro D pre _ _ a w9 ⟨rfl, vd, rfl⟩ ⟨v, rfl⟩ hst hfr
  have hfr : Fr 13 [(0, .slice none 0 0), (1, .func (.func 60) #[] #[.pointer (some ⟨bp, 0, none⟩), .pointer (some ⟨bl, 0, none⟩)]), (2, .pointer (some ⟨ws.heap.size, 0, none⟩)), (4, .slice none 0 0), (6, .func (.func 60) #[] #[.pointer (some ⟨bp, 0, none⟩), .pointer (some ⟨bl, 0, none⟩)])] [{ target := .collected D, args := #[] }] a := hfr
  have hst : St M w0 [obj D (.deferred (some [])), blk ws.heap.size [v] 63, own v 54 3 ((statuses rl cl l).map Stt.cells), blk bp [.pointer (some ⟨x.bm, 0, none⟩)] 83, blk bl [sv] 34, blk x.bm [iv rl.answer, iv rl.cooling, iv rl.settle, iv rl.reverse, iv cl.number, iv cl.frm, iv cl.to, iv cl.holder, iv cl.asked, .bool cl.backed, .map (some x.dm), .map (some x.em), vd] 93, mapE x.dm duesKV, mapE x.em effAll, own vd 3 1 ((voids rl cl l).map fun i => [iv i]), er] w9 := hst
  refine hK2 _ _ ?_
  refine wc_seq_region fun K4 hK4 => ?_
  refine wlv hfr (v_load_blk1 (hst.get (k := 1) rfl) rfl (Try.isAgg63 _) rfl) fun a hfr => wla hfr rfl fun a hfr => ?_
  refine wl_nil (hK4 _ _ ?_)
  refine wc_ret ?_
  have hD := hst.get (k := 0) rfl
  have hst := hst.unmark (i := 0) (o' := .deferred none) rfl
  have hst : St M w0 [blk ws.heap.size [v] 63, own v 54 3 ((statuses rl cl l).map Stt.cells), blk bp [.pointer (some ⟨x.bm, 0, none⟩)] 83, blk bl [sv] 34, blk x.bm [iv rl.answer, iv rl.cooling, iv rl.settle, iv rl.reverse, iv cl.number, iv cl.frm, iv cl.to, iv cl.holder, iv cl.asked, .bool cl.backed, .map (some x.dm), .map (some x.em), vd] 93, mapE x.dm duesKV, mapE x.em effAll, own vd 3 1 ((voids rl cl l).map fun i => [iv i]), er] _ := hst
  refine fin_ret1 hfr hD Try.results64 (resAre_tmp rfl resAre_nil) ?_
  exact ⟨vd, hst.select [1, 2, 3, 4, 5, 6, 7, 8] (by decide)⟩
 ·rintro D c pre _ _ a w10 _ h
  exact h.elim
theorem collect_ok {M : Nat → Prop} {w0 : World} {er : Ent} (rl : Rul) (cl : Clm) (x : Mach) (sv : Value) (l : List Evt) (bp bl : Nat) (ws : World)
  (hv : valid rl cl l = true) (hsv : ∀ H w, St M w0 H w → SlAt w sv 3 (l.map Evt.cells)) (hst : St M w0 [blk bp [.pointer (some ⟨x.bm, 0, none⟩)] 83, blk bl [sv] 34, blk x.bm [iv rl.answer, iv rl.cooling, iv rl.settle, iv rl.reverse, iv cl.number, iv cl.frm, iv cl.to, iv cl.holder, iv cl.asked, .bool cl.backed, .map (some x.dm), .map (some x.em), .slice none 0 0] 93, mapE x.dm duesKV, mapE x.em effAll, own (.slice none 0 0) 3 1 (([] : List Int).map fun i => [iv i]), er] ws) :
  Ret Try.prog 38 #[.func (.func 60) #[] #[.pointer (some ⟨bp, 0, none⟩), .pointer (some ⟨bl, 0, none⟩)]] ws fun v w => ∃ vd, St M w0 (own v 54 3 ((statuses rl cl l).map Stt.cells) :: [blk bp [.pointer (some ⟨x.bm, 0, none⟩)] 83, blk bl [sv] 34, blk x.bm [iv rl.answer, iv rl.cooling, iv rl.settle, iv rl.reverse, iv cl.number, iv cl.frm, iv cl.to, iv cl.holder, iv cl.asked, .bool cl.backed, .map (some x.dm), .map (some x.em), vd] 93, mapE x.dm duesKV, mapE x.em effAll, own vd 3 1 ((voids rl cl l).map fun i => [iv i]), er]) w := by
 refine ret_of Try.func38 rfl Try.ntmps38 (lb rfl) fun a hfr => ?_
 have hfr : Fr 5 [(0, _)] [] a := hfr
 skip
 refine wc_seq_region fun K1 hK1 => ?_
 refine wla hfr rfl fun a hfr => ?_
 refine wl_nil (hK1 _ _ ?_)
 refine wc_seq_region fun K2 hK2 => ?_
 refine wlm hfr rfl fun a hfr => ?_
 refine wl_r (r_call Try.call64 rfl (appendSeq_ok rl cl x sv l bp bl _ hv hsv hst)) rfl rfl hfr fun a v1 w1 hR hfr => ?_
 obtain ⟨vd, hst⟩ := hR
 refine wla hfr rfl fun a hfr => ?_
 refine wl_nil (hK2 _ _ ?_)
 refine wc_ret ?_
 refine fin_ret hfr Try.results38 (resAre_tmp rfl resAre_nil) ?_
 exact ⟨vd, hst⟩
theorem timeline_ok (rl : Rul) (cl : Clm) (sv : Value) (l : List Evt) (w0 : World) (hsv : SlAt w0 sv 3 (l.map Evt.cells)) (hv : valid rl cl l = true) :
  Ret Try.prog 18 #[.agg #[iv rl.answer, iv rl.cooling, iv rl.settle, iv rl.reverse], .agg #[iv cl.number, iv cl.frm, iv cl.to, iv cl.holder, iv cl.asked, .bool cl.backed], sv] w0 (MemR w0 (fun v : Value => .tuple #[v, iv 0]) (fun v => [own v 54 3 ((statuses rl cl l).map Stt.cells)]) (fun _ => True)) := by
 refine ret_of Try.func18 rfl Try.ntmps18 (lb rfl) fun a hfr => ?_
 have hfr : Fr 24 [(0, _), (1, _), (2, _)] [] a := hfr
 have hst : St No w0 [] w0 := St.init w0
 refine wc_seq_region fun K1 hK1 => ?_
 refine wl_box hfr hst rfl [iv rl.answer, iv rl.cooling, iv rl.settle, iv rl.reverse] rfl fun a w1 hfr hst => ?_
 refine wl_box hfr hst rfl [iv cl.number, iv cl.frm, iv cl.to, iv cl.holder, iv cl.asked, .bool cl.backed] rfl fun a w2 hfr hst => ?_
 refine wla hfr rfl fun a hfr => wla hfr rfl fun a hfr => ?_
 refine wl_nil (hK1 _ _ ?_)
 refine wc_seq_region fun K2 hK2 => ?_
 refine wlv hfr (v_load_all (hst.get (k := 1) rfl) rfl (Try.isAgg31 _) (Try.sizeOf31 _)) fun a hfr => ?_
 refine wlv hfr (v_load_all (hst.get (k := 0) rfl) rfl (Try.isAgg33 _) (Try.sizeOf33 _)) fun a hfr => wlm hfr rfl fun a hfr => ?_
 refine wl_callm hfr hst Try.call33 rfl (open_ok rl cl sv l _ (hst.arg hsv) hv) fun a w3 x2 hp hfr hst => ?_
 revert x2 hp hfr hst; rintro x1 hp hfr hst
 clear hp
 have hst : St No w0 [blk x1.bm [iv rl.answer, iv rl.cooling, iv rl.settle, iv rl.reverse, iv cl.number, iv cl.frm, iv cl.to, iv cl.holder, iv cl.asked, .bool cl.backed, .map (some x1.dm), .map (some x1.em), .slice none 0 0] 93, mapE x1.dm duesKV, mapE x1.em effAll, blk w1.heap.size [iv cl.number, iv cl.frm, iv cl.to, iv cl.holder, iv cl.asked, .bool cl.backed] 33, blk w0.heap.size [iv rl.answer, iv rl.cooling, iv rl.settle, iv rl.reverse] 31] w3 := hst
 refine wlm hfr rfl fun a hfr => ?_
 refine wlv hfr (v_extract rfl rfl) fun a hfr => ?_
 refine wlv hfr (v_extract rfl rfl) fun a hfr => wla hfr rfl fun a hfr => wla hfr rfl fun a hfr => ?_
 refine wl_nil (hK2 _ _ ?_)
 have hfr : Fr 24 [(0, _), (1, _), (2, _), (3, _), (4, _), (6, _), (7, _), (8, _), (9, _)] [] a := hfr.pick [0, 1, 2, 3, 4, 6, 7, 8, 9]
 refine wc_seq_k fun K3 hK3 => ?_
 refine wc_seq_region fun K4 hK4 => ?_
 refine wlm hfr rfl fun a hfr => ?_
 refine wlv hfr ((v_ne rfl rfl).asb (b' := false) rfl) fun a hfr => ?_
 refine wl_nil (hK4 _ _ ?_)
 refine wc_cond_f hfr rfl ?_
 refine wc_skip ?_
 refine hK3 _ _ ?_
 refine wc_seq_region fun K5 hK5 => ?_
 refine wlm hfr rfl fun a hfr => wlm hfr rfl fun a hfr => ?_
 refine wl_callm hfr hst Try.call34 rfl (mstatuses_ok _ _ _ _ (hst.arg hsv)) fun a w4 x5 hp hfr hst => ?_
 obtain ⟨bp3, bl4⟩ := x5
 clear hp
 have hst : St No w0 [blk bl4 [sv] 34, blk bp3 [.pointer (some ⟨x1.bm, 0, none⟩)] 83, blk x1.bm [iv rl.answer, iv rl.cooling, iv rl.settle, iv rl.reverse, iv cl.number, iv cl.frm, iv cl.to, iv cl.holder, iv cl.asked, .bool cl.backed, .map (some x1.dm), .map (some x1.em), .slice none 0 0] 93, mapE x1.dm duesKV, mapE x1.em effAll, blk w1.heap.size [iv cl.number, iv cl.frm, iv cl.to, iv cl.holder, iv cl.asked, .bool cl.backed] 33, blk w0.heap.size [iv rl.answer, iv rl.cooling, iv rl.settle, iv rl.reverse] 31] w4 := hst
 have hst : St No w0 (own (.slice none 0 0) 3 1 [] :: [blk bl4 [sv] 34, blk bp3 [.pointer (some ⟨x1.bm, 0, none⟩)] 83, blk x1.bm [iv rl.answer, iv rl.cooling, iv rl.settle, iv rl.reverse, iv cl.number, iv cl.frm, iv cl.to, iv cl.holder, iv cl.asked, .bool cl.backed, .map (some x1.dm), .map (some x1.em), .slice none 0 0] 93, mapE x1.dm duesKV, mapE x1.em effAll, blk w1.heap.size [iv cl.number, iv cl.frm, iv cl.to, iv cl.holder, iv cl.asked, .bool cl.backed] 33, blk w0.heap.size [iv rl.answer, iv rl.cooling, iv rl.settle, iv rl.reverse] 31]) w4 := hst.nil_own
 have hst : St No w0 [blk bp3 [.pointer (some ⟨x1.bm, 0, none⟩)] 83, blk bl4 [sv] 34, blk x1.bm [iv rl.answer, iv rl.cooling, iv rl.settle, iv rl.reverse, iv cl.number, iv cl.frm, iv cl.to, iv cl.holder, iv cl.asked, .bool cl.backed, .map (some x1.dm), .map (some x1.em), .slice none 0 0] 93, mapE x1.dm duesKV, mapE x1.em effAll, own (.slice none 0 0) 3 1 (([] : List Int).map fun i => [iv i]), blk w1.heap.size [iv cl.number, iv cl.frm, iv cl.to, iv cl.holder, iv cl.asked, .bool cl.backed] 33, blk w0.heap.size [iv rl.answer, iv rl.cooling, iv rl.settle, iv rl.reverse] 31] w4 := hst.select [2, 1, 3, 4, 5, 0, 6, 7] (by decide)
 have hst : St No w0 [blk bp3 [.pointer (some ⟨x1.bm, 0, none⟩)] 83, blk bl4 [sv] 34, blk x1.bm [iv rl.answer, iv rl.cooling, iv rl.settle, iv rl.reverse, iv cl.number, iv cl.frm, iv cl.to, iv cl.holder, iv cl.asked, .bool cl.backed, .map (some x1.dm), .map (some x1.em), .slice none 0 0] 93, mapE x1.dm duesKV, mapE x1.em effAll, own (.slice none 0 0) 3 1 (([] : List Int).map fun i => [iv i]), join [blk w1.heap.size [iv cl.number, iv cl.frm, iv cl.to, iv cl.holder, iv cl.asked, .bool cl.backed] 33, blk w0.heap.size [iv rl.answer, iv rl.cooling, iv rl.settle, iv rl.reverse] 31]] w4 := St.joinTail [blk bp3 [.pointer (some ⟨x1.bm, 0, none⟩)] 83, blk bl4 [sv] 34, blk x1.bm [iv rl.answer, iv rl.cooling, iv rl.settle, iv rl.reverse, iv cl.number, iv cl.frm, iv cl.to, iv cl.holder, iv cl.asked, .bool cl.backed, .map (some x1.dm), .map (some x1.em), .slice none 0 0] 93, mapE x1.dm duesKV, mapE x1.em effAll, own (.slice none 0 0) 3 1 (([] : List Int).map fun i => [iv i])] [blk w1.heap.size [iv cl.number, iv cl.frm, iv cl.to, iv cl.holder, iv cl.asked, .bool cl.backed] 33, blk w0.heap.size [iv rl.answer, iv rl.cooling, iv rl.settle, iv rl.reverse] 31] hst
 refine wl_r (r_call Try.call38 rfl (collect_ok rl cl x1 sv l bp3 bl4 _ hv (fun H w h => h.arg hsv) hst)) rfl rfl hfr fun a v6 w5 hR hfr => ?_
 obtain ⟨vd, hst⟩ := hR
 refine wla hfr rfl fun a hfr => wla hfr rfl fun a hfr => ?_
 refine wl_nil (hK5 _ _ ?_)
 refine wc_ret ?_
 refine fin_ret hfr Try.results18 (resAre_tmp rfl (resAre_tmp rfl resAre_nil)) ?_
 exact ⟨v6, rfl, trivial, hst.ext, St.out (E := [own v6 54 3 ((statuses rl cl l).map Stt.cells)]) (H := []) (hst.select [0] (by decide))⟩
end Go.Proofs.Ytnfnkohkcmkddaa
namespace Go.Proofs.Ytnfnkohkcmkddaa
open Go.RowKit Go.PW
set_option linter.unusedVariables false
set_option linter.unusedSimpArgs false
set_option maxRecDepth 4000
theorem rin_ok (n lo hi : Int) (w0 : World) :
  Ret Try.prog 47 #[iv n, iv lo, iv hi] w0 fun v w => v = .bool (isIn n lo hi) ∧ Ext No w0 w := by
 refine ret_of Try.func47 rfl Try.ntmps47 (lb rfl) fun a hfr => ?_
 have hfr : Fr 15 [(0, _), (1, _), (2, _)] [] a := hfr
 have hst : St No w0 [] w0 := St.init w0
 refine wc_seq_region fun K1 hK1 => ?_
 refine wla hfr rfl fun a hfr => ?_
 refine wl_nil (hK1 _ _ ?_)
 refine wc_seq_region fun K2 hK2 => ?_
 refine wlm hfr rfl fun a hfr => wlm hfr rfl fun a hfr => ?_
 refine wlv hfr (v_ge rfl rfl) fun a hfr => wlm hfr rfl fun a hfr => ?_
 rcases Decidable.em (lo ≤ n) with hb1 | hb1
 ·rw [decide_eq_true hb1] at hfr
  refine wly hfr (v_move rfl) fun a hfr => wly hfr (v_move rfl) fun a hfr => wly hfr (v_le rfl rfl) fun a hfr => ?_
  refine wlv hfr (v_pick_t rfl rfl) fun a hfr => wla hfr rfl fun a hfr => ?_
  refine wl_nil (hK2 _ _ ?_)
  have hfr : Fr 15 [(0, _), (1, _), (2, _), (6, _)] [] a := hfr.pick [0, 1, 2, 6]
  refine wc_ret ?_
  refine fin_ret hfr Try.results47 (resAre_tmp rfl resAre_nil) ?_
  exact ⟨by simp [retv, isIn, *], hst.ext⟩
 rw [decide_eq_false hb1] at hfr
 refine wln hfr fun a hfr => ?_
 refine wln hfr fun a hfr => ?_
 refine wln hfr fun a hfr => ?_
 refine wlv hfr (v_pick_f rfl rfl) fun a hfr => wla hfr rfl fun a hfr => ?_
 refine wl_nil (hK2 _ _ ?_)
 have hfr : Fr 15 [(0, _), (1, _), (2, _), (6, _)] [] a := hfr.pick [0, 1, 2, 6]
 refine wc_ret ?_
 refine fin_ret hfr Try.results47 (resAre_tmp rfl resAre_nil) ?_
 exact ⟨by simp [retv, isIn, *], hst.ext⟩
theorem rrules_ok (ra rc rs rr : Int) (w0 : World) :
  Ret Try.prog 68 #[.agg #[iv ra, iv rc, iv rs, iv rr]] w0 fun v w => v = .bool (areValid ⟨ra, rc, rs, rr⟩) ∧ Ext No w0 w := by
 refine ret_of Try.func68 rfl Try.ntmps68 (lb rfl) fun a hfr => ?_
 have hfr : Fr 21 [(0, _)] [] a := hfr
 have hst : St No w0 [] w0 := St.init w0
 refine wc_seq_region fun K1 hK1 => ?_
 refine wl_box hfr hst rfl [iv ra, iv rc, iv rs, iv rr] rfl fun a w1 hfr hst => ?_
 refine wla hfr rfl fun a hfr => ?_
 refine wl_nil (hK1 _ _ ?_)
 refine wc_seq_region fun K2 hK2 => ?_
 refine wlv hfr (v_fieldAddr (v := .pointer (some ⟨w0.heap.size, 0, none⟩)) rfl (by kernel_rfl)) fun a hfr => ?_
 refine wlv hfr (v_load_blk1 (hst.get (k := 0) rfl) rfl (Try.isAgg3 _) rfl) fun a hfr => ?_
 refine wl_callp hfr hst Try.call47 rfl (rin_ok _ _ _ _) fun a w2 hfr hst => ?_
 refine wlm hfr rfl fun a hfr => ?_
 rcases Bool.eq_false_or_eq_true (isIn ra 1 1000000) with hb1 | hb1
 ·rw [hb1] at hfr
  refine wly hfr (v_fieldAddr (v := .pointer (some ⟨w0.heap.size, 1, none⟩)) rfl (by kernel_rfl)) fun a hfr => wly hfr (v_load_blk1 (hst.get (k := 0) rfl) rfl (Try.isAgg3 _) rfl) fun a hfr => ?_
  refine wl_callpy hfr hst Try.call47 rfl (rin_ok _ _ _ _) fun a w3 hfr hst => ?_
  refine wlv hfr (v_pick_t rfl rfl) fun a hfr => wlm hfr rfl fun a hfr => ?_
  rcases Bool.eq_false_or_eq_true (isIn rc 1 1000000) with hb2 | hb2
  ·rw [hb2] at hfr
   refine wly hfr (v_fieldAddr (v := .pointer (some ⟨w0.heap.size, 2, none⟩)) rfl (by kernel_rfl)) fun a hfr => wly hfr (v_load_blk1 (hst.get (k := 0) rfl) rfl (Try.isAgg3 _) rfl) fun a hfr => ?_
   refine wl_callpy hfr hst Try.call47 rfl (rin_ok _ _ _ _) fun a w4 hfr hst => ?_
   refine wlv hfr (v_pick_t rfl rfl) fun a hfr => wlm hfr rfl fun a hfr => ?_
   rcases Bool.eq_false_or_eq_true (isIn rs 1 1000000) with hb3 | hb3
   ·rw [hb3] at hfr
    refine wly hfr (v_fieldAddr (v := .pointer (some ⟨w0.heap.size, 3, none⟩)) rfl (by kernel_rfl)) fun a hfr => wly hfr (v_load_blk1 (hst.get (k := 0) rfl) rfl (Try.isAgg3 _) rfl) fun a hfr => ?_
    refine wl_callpy hfr hst Try.call47 rfl (rin_ok _ _ _ _) fun a w5 hfr hst => ?_
    refine wlv hfr (v_pick_t rfl rfl) fun a hfr => wla hfr rfl fun a hfr => ?_
    refine wl_nil (hK2 _ _ ?_)
    have hfr : Fr 21 [(0, _), (1, _), (2, _)] [] a := hfr.pick [0, 1, 2]
    refine wc_ret ?_
    refine fin_ret hfr Try.results68 (resAre_tmp rfl resAre_nil) ?_
    exact ⟨by simp_all [retv, areValid], hst.ext⟩
   rw [hb3] at hfr
   refine wln hfr fun a hfr => ?_
   refine wln hfr fun a hfr => ?_
   refine wln hfr fun a hfr => ?_
   refine wlv hfr (v_pick_f rfl rfl) fun a hfr => wla hfr rfl fun a hfr => ?_
   refine wl_nil (hK2 _ _ ?_)
   have hfr : Fr 21 [(0, _), (1, _), (2, _)] [] a := hfr.pick [0, 1, 2]
   refine wc_ret ?_
   refine fin_ret hfr Try.results68 (resAre_tmp rfl resAre_nil) ?_
   exact ⟨by simp_all [retv, areValid], hst.ext⟩
  rw [hb2] at hfr
  refine wln hfr fun a hfr => ?_
  refine wln hfr fun a hfr => ?_
  refine wln hfr fun a hfr => ?_
  refine wlv hfr (v_pick_f rfl rfl) fun a hfr => wlm hfr rfl fun a hfr => ?_
  refine wln hfr fun a hfr => ?_
  refine wln hfr fun a hfr => ?_
  refine wln hfr fun a hfr => ?_
  refine wlv hfr (v_pick_f rfl rfl) fun a hfr => wla hfr rfl fun a hfr => ?_
  refine wl_nil (hK2 _ _ ?_)
  have hfr : Fr 21 [(0, _), (1, _), (2, _)] [] a := hfr.pick [0, 1, 2]
  refine wc_ret ?_
  refine fin_ret hfr Try.results68 (resAre_tmp rfl resAre_nil) ?_
  exact ⟨by simp_all [retv, areValid], hst.ext⟩
 rw [hb1] at hfr
 refine wln hfr fun a hfr => ?_
 refine wln hfr fun a hfr => ?_
 refine wln hfr fun a hfr => ?_
 refine wlv hfr (v_pick_f rfl rfl) fun a hfr => wlm hfr rfl fun a hfr => ?_
 refine wln hfr fun a hfr => ?_
 refine wln hfr fun a hfr => ?_
 refine wln hfr fun a hfr => ?_
 refine wlv hfr (v_pick_f rfl rfl) fun a hfr => wlm hfr rfl fun a hfr => ?_
 refine wln hfr fun a hfr => ?_
 refine wln hfr fun a hfr => ?_
 refine wln hfr fun a hfr => ?_
 refine wlv hfr (v_pick_f rfl rfl) fun a hfr => wla hfr rfl fun a hfr => ?_
 refine wl_nil (hK2 _ _ ?_)
 have hfr : Fr 21 [(0, _), (1, _), (2, _)] [] a := hfr.pick [0, 1, 2]
 refine wc_ret ?_
 refine fin_ret hfr Try.results68 (resAre_tmp rfl resAre_nil) ?_
 exact ⟨by simp_all [retv, areValid], hst.ext⟩
theorem rclaim_ok (cl : Clm) (w0 : World) :
  Ret Try.prog 69 #[.agg #[iv cl.number, iv cl.frm, iv cl.to, iv cl.holder, iv cl.asked, .bool cl.backed]] w0 fun v w => v = .bool (isClaim cl) ∧ Ext No w0 w := by
 refine ret_of Try.func69 rfl Try.ntmps69 (lb rfl) fun a hfr => ?_
 have hfr : Fr 33 [(0, _)] [] a := hfr
 have hst : St No w0 [] w0 := St.init w0
 refine wc_seq_region fun K1 hK1 => ?_
 refine wl_box hfr hst rfl [iv cl.number, iv cl.frm, iv cl.to, iv cl.holder, iv cl.asked, .bool cl.backed] rfl fun a w1 hfr hst => ?_
 refine wla hfr rfl fun a hfr => ?_
 refine wl_nil (hK1 _ _ ?_)
 refine wc_seq_region fun K2 hK2 => ?_
 refine wlv hfr (v_fieldAddr (v := .pointer (some ⟨w0.heap.size, 0, none⟩)) rfl (by kernel_rfl)) fun a hfr => ?_
 refine wlv hfr (v_load_blk1 (hst.get (k := 0) rfl) rfl (Try.isAgg3 _) rfl) fun a hfr => ?_
 refine wl_callp hfr hst Try.call47 rfl (rin_ok _ _ _ _) fun a w2 hfr hst => ?_
 refine wlm hfr rfl fun a hfr => ?_
 rcases Bool.eq_false_or_eq_true (isIn cl.number 0 99999999) with hb1 | hb1
 ·rw [hb1] at hfr
  refine wly hfr (v_fieldAddr (v := .pointer (some ⟨w0.heap.size, 1, none⟩)) rfl (by kernel_rfl)) fun a hfr => wly hfr (v_load_blk1 (hst.get (k := 0) rfl) rfl (Try.isAgg3 _) rfl) fun a hfr => ?_
  refine wl_callpy hfr hst Try.call47 rfl (rin_ok _ _ _ _) fun a w3 hfr hst => ?_
  refine wlv hfr (v_pick_t rfl rfl) fun a hfr => wlm hfr rfl fun a hfr => ?_
  rcases Bool.eq_false_or_eq_true (isIn cl.frm 0 7) with hb2 | hb2
  ·rw [hb2] at hfr
   refine wly hfr (v_fieldAddr (v := .pointer (some ⟨w0.heap.size, 2, none⟩)) rfl (by kernel_rfl)) fun a hfr => wly hfr (v_load_blk1 (hst.get (k := 0) rfl) rfl (Try.isAgg3 _) rfl) fun a hfr => ?_
   refine wl_callpy hfr hst Try.call47 rfl (rin_ok _ _ _ _) fun a w4 hfr hst => ?_
   refine wlv hfr (v_pick_t rfl rfl) fun a hfr => wlm hfr rfl fun a hfr => ?_
   rcases Bool.eq_false_or_eq_true (isIn cl.to 0 7) with hb3 | hb3
   ·rw [hb3] at hfr
    refine wly hfr (v_fieldAddr (v := .pointer (some ⟨w0.heap.size, 1, none⟩)) rfl (by kernel_rfl)) fun a hfr => wly hfr (v_load_blk1 (hst.get (k := 0) rfl) rfl (Try.isAgg3 _) rfl) fun a hfr => wly hfr (v_fieldAddr (v := .pointer (some ⟨w0.heap.size, 2, none⟩)) rfl (by kernel_rfl)) fun a hfr => wly hfr (v_load_blk1 (hst.get (k := 0) rfl) rfl (Try.isAgg3 _) rfl) fun a hfr => wly hfr (v_ne rfl rfl) fun a hfr => ?_
    refine wlv hfr (v_pick_t rfl rfl) fun a hfr => wlm hfr rfl fun a hfr => ?_
    rcases (Decidable.em (cl.frm = cl.to)).symm with hb4 | hb4
    ·rw [decide_eq_false hb4] at hfr
     refine wly hfr (v_fieldAddr (v := .pointer (some ⟨w0.heap.size, 3, none⟩)) rfl (by kernel_rfl)) fun a hfr => wly hfr (v_load_blk1 (hst.get (k := 0) rfl) rfl (Try.isAgg3 _) rfl) fun a hfr => ?_
     refine wl_callpy hfr hst Try.call47 rfl (rin_ok _ _ _ _) fun a w5 hfr hst => ?_
     refine wlv hfr (v_pick_t rfl rfl) fun a hfr => wlm hfr rfl fun a hfr => ?_
     rcases Bool.eq_false_or_eq_true (isIn cl.holder 0 63) with hb5 | hb5
     ·rw [hb5] at hfr
      refine wly hfr (v_fieldAddr (v := .pointer (some ⟨w0.heap.size, 4, none⟩)) rfl (by kernel_rfl)) fun a hfr => wly hfr (v_load_blk1 (hst.get (k := 0) rfl) rfl (Try.isAgg3 _) rfl) fun a hfr => ?_
      refine wl_callpy hfr hst Try.call47 rfl (rin_ok _ _ _ _) fun a w6 hfr hst => ?_
      refine wlv hfr (v_pick_t rfl rfl) fun a hfr => wla hfr rfl fun a hfr => ?_
      refine wl_nil (hK2 _ _ ?_)
      have hfr : Fr 33 [(0, _), (1, _), (2, _)] [] a := hfr.pick [0, 1, 2]
      refine wc_ret ?_
      refine fin_ret hfr Try.results69 (resAre_tmp rfl resAre_nil) ?_
      exact ⟨by simp_all [retv, isClaim], hst.ext⟩
     rw [hb5] at hfr
     refine wln hfr fun a hfr => ?_
     refine wln hfr fun a hfr => ?_
     refine wln hfr fun a hfr => ?_
     refine wlv hfr (v_pick_f rfl rfl) fun a hfr => wla hfr rfl fun a hfr => ?_
     refine wl_nil (hK2 _ _ ?_)
     have hfr : Fr 33 [(0, _), (1, _), (2, _)] [] a := hfr.pick [0, 1, 2]
     refine wc_ret ?_
     refine fin_ret hfr Try.results69 (resAre_tmp rfl resAre_nil) ?_
     exact ⟨by simp_all [retv, isClaim], hst.ext⟩
    rw [decide_eq_true hb4] at hfr
    refine wln hfr fun a hfr => ?_
    refine wln hfr fun a hfr => ?_
    refine wln hfr fun a hfr => ?_
    refine wlv hfr (v_pick_f rfl rfl) fun a hfr => wlm hfr rfl fun a hfr => ?_
    refine wln hfr fun a hfr => ?_
    refine wln hfr fun a hfr => ?_
    refine wln hfr fun a hfr => ?_
    refine wlv hfr (v_pick_f rfl rfl) fun a hfr => wla hfr rfl fun a hfr => ?_
    refine wl_nil (hK2 _ _ ?_)
    have hfr : Fr 33 [(0, _), (1, _), (2, _)] [] a := hfr.pick [0, 1, 2]
    refine wc_ret ?_
    refine fin_ret hfr Try.results69 (resAre_tmp rfl resAre_nil) ?_
    exact ⟨by simp_all [retv, isClaim], hst.ext⟩
   rw [hb3] at hfr
   refine wln hfr fun a hfr => ?_
   refine wln hfr fun a hfr => ?_
   refine wln hfr fun a hfr => ?_
   refine wln hfr fun a hfr => ?_
   refine wln hfr fun a hfr => ?_
   refine wlv hfr (v_pick_f rfl rfl) fun a hfr => wlm hfr rfl fun a hfr => ?_
   refine wln hfr fun a hfr => ?_
   refine wln hfr fun a hfr => ?_
   refine wln hfr fun a hfr => ?_
   refine wlv hfr (v_pick_f rfl rfl) fun a hfr => wlm hfr rfl fun a hfr => ?_
   refine wln hfr fun a hfr => ?_
   refine wln hfr fun a hfr => ?_
   refine wln hfr fun a hfr => ?_
   refine wlv hfr (v_pick_f rfl rfl) fun a hfr => wla hfr rfl fun a hfr => ?_
   refine wl_nil (hK2 _ _ ?_)
   have hfr : Fr 33 [(0, _), (1, _), (2, _)] [] a := hfr.pick [0, 1, 2]
   refine wc_ret ?_
   refine fin_ret hfr Try.results69 (resAre_tmp rfl resAre_nil) ?_
   exact ⟨by simp_all [retv, isClaim], hst.ext⟩
  rw [hb2] at hfr
  refine wln hfr fun a hfr => ?_
  refine wln hfr fun a hfr => ?_
  refine wln hfr fun a hfr => ?_
  refine wlv hfr (v_pick_f rfl rfl) fun a hfr => wlm hfr rfl fun a hfr => ?_
  refine wln hfr fun a hfr => ?_
  refine wln hfr fun a hfr => ?_
  refine wln hfr fun a hfr => ?_
  refine wln hfr fun a hfr => ?_
  refine wln hfr fun a hfr => ?_
  refine wlv hfr (v_pick_f rfl rfl) fun a hfr => wlm hfr rfl fun a hfr => ?_
  refine wln hfr fun a hfr => ?_
  refine wln hfr fun a hfr => ?_
  refine wln hfr fun a hfr => ?_
  refine wlv hfr (v_pick_f rfl rfl) fun a hfr => wlm hfr rfl fun a hfr => ?_
  refine wln hfr fun a hfr => ?_
  refine wln hfr fun a hfr => ?_
  refine wln hfr fun a hfr => ?_
  refine wlv hfr (v_pick_f rfl rfl) fun a hfr => wla hfr rfl fun a hfr => ?_
  refine wl_nil (hK2 _ _ ?_)
  have hfr : Fr 33 [(0, _), (1, _), (2, _)] [] a := hfr.pick [0, 1, 2]
  refine wc_ret ?_
  refine fin_ret hfr Try.results69 (resAre_tmp rfl resAre_nil) ?_
  exact ⟨by simp_all [retv, isClaim], hst.ext⟩
 rw [hb1] at hfr
 refine wln hfr fun a hfr => ?_
 refine wln hfr fun a hfr => ?_
 refine wln hfr fun a hfr => ?_
 refine wlv hfr (v_pick_f rfl rfl) fun a hfr => wlm hfr rfl fun a hfr => ?_
 refine wln hfr fun a hfr => ?_
 refine wln hfr fun a hfr => ?_
 refine wln hfr fun a hfr => ?_
 refine wlv hfr (v_pick_f rfl rfl) fun a hfr => wlm hfr rfl fun a hfr => ?_
 refine wln hfr fun a hfr => ?_
 refine wln hfr fun a hfr => ?_
 refine wln hfr fun a hfr => ?_
 refine wln hfr fun a hfr => ?_
 refine wln hfr fun a hfr => ?_
 refine wlv hfr (v_pick_f rfl rfl) fun a hfr => wlm hfr rfl fun a hfr => ?_
 refine wln hfr fun a hfr => ?_
 refine wln hfr fun a hfr => ?_
 refine wln hfr fun a hfr => ?_
 refine wlv hfr (v_pick_f rfl rfl) fun a hfr => wlm hfr rfl fun a hfr => ?_
 refine wln hfr fun a hfr => ?_
 refine wln hfr fun a hfr => ?_
 refine wln hfr fun a hfr => ?_
 refine wlv hfr (v_pick_f rfl rfl) fun a hfr => wla hfr rfl fun a hfr => ?_
 refine wl_nil (hK2 _ _ ?_)
 have hfr : Fr 33 [(0, _), (1, _), (2, _)] [] a := hfr.pick [0, 1, 2]
 refine wc_ret ?_
 refine fin_ret hfr Try.results69 (resAre_tmp rfl resAre_nil) ?_
 exact ⟨by simp_all [retv, isClaim], hst.ext⟩
set_option maxHeartbeats 4000000 in
theorem becomes_ok (cl : Clm) (s : Int) (ev : Evt) (w0 : World) :
  Ret Try.prog 72 #[.agg #[iv cl.number, iv cl.frm, iv cl.to, iv cl.holder, iv cl.asked, .bool cl.backed], iv s, .agg #[iv ev.kind, iv ev.at_, iv ev.reason]] w0 fun v w => v = iv (becomes cl.backed s ev) ∧ Ext No w0 w := by
 refine ret_of Try.func72 rfl Try.ntmps72 (lb rfl) fun a hfr => ?_
 have hfr : Fr 96 [(0, _), (1, _), (2, _)] [] a := hfr
 have hst : St No w0 [] w0 := St.init w0
 refine wc_seq_region fun K1 hK1 => ?_
 refine wl_box hfr hst rfl [iv cl.number, iv cl.frm, iv cl.to, iv cl.holder, iv cl.asked, .bool cl.backed] rfl fun a w1 hfr hst => ?_
 refine wl_box hfr hst rfl [iv ev.kind, iv ev.at_, iv ev.reason] rfl fun a w2 hfr hst => ?_
 refine wla hfr rfl fun a hfr => ?_
 refine wl_nil (hK1 _ _ ?_)
 refine wc_seq_region fun K2 hK2 => ?_
 refine wlv hfr (v_fieldAddr (v := .pointer (some ⟨w1.heap.size, 2, none⟩)) rfl (by kernel_rfl)) fun a hfr => ?_
 refine wlv hfr (v_load_blk1 (hst.get (k := 0) rfl) rfl (Try.isAgg3 _) rfl) fun a hfr => ?_
 refine wlv hfr (v_eq rfl rfl) fun a hfr => wla hfr rfl fun a hfr => ?_
 refine wl_nil (hK2 _ _ ?_)
 refine wc_seq_k fun K3 hK3 => ?_
 refine wc_block ?_
 refine wc_seq_region fun K4 hK4 => ?_
 refine wlv hfr (v_fieldAddr (v := .pointer (some ⟨w1.heap.size, 0, none⟩)) rfl (by kernel_rfl)) fun a hfr => ?_
 refine wlv hfr (v_load_blk1 (hst.get (k := 0) rfl) rfl (Try.isAgg3 _) rfl) fun a hfr => ?_
 refine wlv hfr (v_eq rfl rfl) fun a hfr => wlm hfr rfl fun a hfr => ?_
 refine wl_join (N := 96) (df := []) 3 [(18, .bool ((decide (ev.kind = 1)) && (decide (s = 1)))), (0, .agg #[iv cl.number, iv cl.frm, iv cl.to, iv cl.holder, iv cl.asked, .bool cl.backed]), (1, iv s), (2, .agg #[iv ev.kind, iv ev.at_, iv ev.reason]), (3, .pointer (some ⟨w0.heap.size, 0, none⟩)), (5, .pointer (some ⟨w1.heap.size, 0, none⟩)), (6, iv 0), (8, .pointer (some ⟨w1.heap.size, 2, none⟩)), (9, iv ev.reason), (10, .bool (decide (ev.reason = 1))), (7, .bool (decide (ev.reason = 1)))] ?_ (fun hj => ?_)
 rotate_left
 ·rcases Bool.eq_false_or_eq_true (decide (ev.kind = 1)) with hb1 | hb1
  ·rw [hb1] at hfr
   have hb1b := hb1
   try simp only [qz, Bool.and_eq_true, Bool.or_eq_true, Bool.and_eq_false_iff, Bool.or_eq_false_iff] at hb1
   refine wly hfr (v_move rfl) fun a hfr => wly hfr (v_eq rfl rfl) fun a hfr => ?_
   refine wlv hfr (v_pick_t rfl rfl) fun a hfr => ?_
   refine hj _ ?_
   try rw [hb1b]
   exact hfr.pick [18, 0, 1, 2, 3, 5, 6, 8, 9, 10, 7]
  rw [hb1] at hfr
  have hb1b := hb1
  try simp only [qz, Bool.and_eq_true, Bool.or_eq_true, Bool.and_eq_false_iff, Bool.or_eq_false_iff] at hb1
  refine wln hfr fun a hfr => ?_
  refine wln hfr fun a hfr => ?_
  refine wlv hfr (v_pick_f rfl rfl) fun a hfr => ?_
  refine hj _ ?_
  try rw [hb1b]
  exact hfr.pick [18, 0, 1, 2, 3, 5, 6, 8, 9, 10, 7]
 intro a hfr
 refine wla hfr rfl fun a hfr => ?_
 refine wl_nil (hK4 _ _ ?_)
 refine wc_cond hfr rfl (fun hc2 => ?_) (fun hc2 => ?_)
 ·rw [hc2] at hfr
  refine wc_seq_region fun K5 hK5 => ?_
  refine wla hfr rfl fun a hfr => ?_
  refine wl_nil (hK5 _ _ ?_)
  refine wc_ret ?_
  refine fin_ret hfr Try.results72 (resAre_tmp rfl resAre_nil) ?_
  exact ⟨by simp only [retv, becomes, cond_true, cond_false, hc2], hst.ext⟩
 rw [hc2] at hfr
 refine wc_seq_region fun K6 hK6 => ?_
 refine wlv hfr (v_fieldAddr (v := .pointer (some ⟨w1.heap.size, 0, none⟩)) rfl (by kernel_rfl)) fun a hfr => ?_
 refine wlv hfr (v_load_blk1 (hst.get (k := 0) rfl) rfl (Try.isAgg3 _) rfl) fun a hfr => ?_
 refine wlv hfr (v_eq rfl rfl) fun a hfr => wlm hfr rfl fun a hfr => ?_
 refine wl_join (N := 96) (df := []) 3 [(26, .bool ((decide (ev.kind = 2)) && (decide (s = 1)))), (18, .bool false), (0, .agg #[iv cl.number, iv cl.frm, iv cl.to, iv cl.holder, iv cl.asked, .bool cl.backed]), (1, iv s), (2, .agg #[iv ev.kind, iv ev.at_, iv ev.reason]), (3, .pointer (some ⟨w0.heap.size, 0, none⟩)), (5, .pointer (some ⟨w1.heap.size, 0, none⟩)), (6, iv 0), (8, .pointer (some ⟨w1.heap.size, 2, none⟩)), (9, iv ev.reason), (10, .bool (decide (ev.reason = 1))), (7, .bool (decide (ev.reason = 1))), (11, .bool false)] ?_ (fun hj => ?_)
 rotate_left
 ·rcases Bool.eq_false_or_eq_true (decide (ev.kind = 2)) with hb3 | hb3
  ·rw [hb3] at hfr
   have hb3b := hb3
   try simp only [qz, Bool.and_eq_true, Bool.or_eq_true, Bool.and_eq_false_iff, Bool.or_eq_false_iff] at hb3
   refine wly hfr (v_move rfl) fun a hfr => wly hfr (v_eq rfl rfl) fun a hfr => ?_
   refine wlv hfr (v_pick_t rfl rfl) fun a hfr => ?_
   refine hj _ ?_
   try rw [hb3b]
   exact hfr.pick [26, 18, 0, 1, 2, 3, 5, 6, 8, 9, 10, 7, 11]
  rw [hb3] at hfr
  have hb3b := hb3
  try simp only [qz, Bool.and_eq_true, Bool.or_eq_true, Bool.and_eq_false_iff, Bool.or_eq_false_iff] at hb3
  refine wln hfr fun a hfr => ?_
  refine wln hfr fun a hfr => ?_
  refine wlv hfr (v_pick_f rfl rfl) fun a hfr => ?_
  refine hj _ ?_
  try rw [hb3b]
  exact hfr.pick [26, 18, 0, 1, 2, 3, 5, 6, 8, 9, 10, 7, 11]
 intro a hfr
 refine wlm hfr rfl fun a hfr => ?_
 refine wl_join (N := 96) (df := []) 2 [(29, .bool (((decide (ev.kind = 2)) && (decide (s = 1))) && (decide (ev.reason = 1)))), (18, .bool false), (0, .agg #[iv cl.number, iv cl.frm, iv cl.to, iv cl.holder, iv cl.asked, .bool cl.backed]), (1, iv s), (2, .agg #[iv ev.kind, iv ev.at_, iv ev.reason]), (3, .pointer (some ⟨w0.heap.size, 0, none⟩)), (5, .pointer (some ⟨w1.heap.size, 0, none⟩)), (6, iv 0), (8, .pointer (some ⟨w1.heap.size, 2, none⟩)), (9, iv ev.reason), (10, .bool (decide (ev.reason = 1))), (7, .bool (decide (ev.reason = 1))), (11, .bool false)] ?_ (fun hj => ?_)
 rotate_left
 ·rcases Bool.eq_false_or_eq_true ((decide (ev.kind = 2)) && (decide (s = 1))) with hb4 | hb4
  ·rw [hb4] at hfr
   have hb4b := hb4
   try simp only [qz, Bool.and_eq_true, Bool.or_eq_true, Bool.and_eq_false_iff, Bool.or_eq_false_iff] at hb4
   refine wly hfr (v_move rfl) fun a hfr => ?_
   refine wlv hfr (v_pick_t rfl rfl) fun a hfr => ?_
   refine hj _ ?_
   try rw [hb4b]
   exact hfr.pick [29, 18, 0, 1, 2, 3, 5, 6, 8, 9, 10, 7, 11]
  rw [hb4] at hfr
  have hb4b := hb4
  try simp only [qz, Bool.and_eq_true, Bool.or_eq_true, Bool.and_eq_false_iff, Bool.or_eq_false_iff] at hb4
  refine wln hfr fun a hfr => ?_
  refine wlv hfr (v_pick_f rfl rfl) fun a hfr => ?_
  refine hj _ ?_
  try rw [hb4b]
  exact hfr.pick [29, 18, 0, 1, 2, 3, 5, 6, 8, 9, 10, 7, 11]
 intro a hfr
 refine wlm hfr rfl fun a hfr => ?_
 refine wl_join (N := 96) (df := []) 4 [(34, .bool ((((decide (ev.kind = 2)) && (decide (s = 1))) && (decide (ev.reason = 1))) && (!cl.backed))), (18, .bool false), (0, .agg #[iv cl.number, iv cl.frm, iv cl.to, iv cl.holder, iv cl.asked, .bool cl.backed]), (1, iv s), (2, .agg #[iv ev.kind, iv ev.at_, iv ev.reason]), (3, .pointer (some ⟨w0.heap.size, 0, none⟩)), (5, .pointer (some ⟨w1.heap.size, 0, none⟩)), (6, iv 0), (8, .pointer (some ⟨w1.heap.size, 2, none⟩)), (9, iv ev.reason), (10, .bool (decide (ev.reason = 1))), (7, .bool (decide (ev.reason = 1))), (11, .bool false)] ?_ (fun hj => ?_)
 rotate_left
 ·rcases Bool.eq_false_or_eq_true (((decide (ev.kind = 2)) && (decide (s = 1))) && (decide (ev.reason = 1))) with hb5 | hb5
  ·rw [hb5] at hfr
   have hb5b := hb5
   try simp only [qz, Bool.and_eq_true, Bool.or_eq_true, Bool.and_eq_false_iff, Bool.or_eq_false_iff] at hb5
   refine wly hfr (v_fieldAddr (v := .pointer (some ⟨w0.heap.size, 5, none⟩)) rfl (by kernel_rfl)) fun a hfr => wly hfr (v_load_blk1 (hst.get (k := 1) rfl) rfl (Try.isAgg4 _) rfl) fun a hfr => wly hfr (v_not rfl) fun a hfr => ?_
   refine wlv hfr (v_pick_t rfl rfl) fun a hfr => ?_
   refine hj _ ?_
   try rw [hb5b]
   exact hfr.pick [34, 18, 0, 1, 2, 3, 5, 6, 8, 9, 10, 7, 11]
  rw [hb5] at hfr
  have hb5b := hb5
  try simp only [qz, Bool.and_eq_true, Bool.or_eq_true, Bool.and_eq_false_iff, Bool.or_eq_false_iff] at hb5
  refine wln hfr fun a hfr => ?_
  refine wln hfr fun a hfr => ?_
  refine wln hfr fun a hfr => ?_
  refine wlv hfr (v_pick_f rfl rfl) fun a hfr => ?_
  refine hj _ ?_
  try rw [hb5b]
  exact hfr.pick [34, 18, 0, 1, 2, 3, 5, 6, 8, 9, 10, 7, 11]
 intro a hfr
 refine wla hfr rfl fun a hfr => ?_
 refine wl_nil (hK6 _ _ ?_)
 refine wc_cond hfr rfl (fun hc6 => ?_) (fun hc6 => ?_)
 ·rw [hc6] at hfr
  refine wc_seq_region fun K7 hK7 => ?_
  refine wla hfr rfl fun a hfr => ?_
  refine wl_nil (hK7 _ _ ?_)
  refine wc_ret ?_
  refine fin_ret hfr Try.results72 (resAre_tmp rfl resAre_nil) ?_
  exact ⟨by simp only [retv, becomes, cond_true, cond_false, hc2, hc6], hst.ext⟩
 rw [hc6] at hfr
 refine wc_seq_region fun K8 hK8 => ?_
 refine wlv hfr (v_fieldAddr (v := .pointer (some ⟨w1.heap.size, 0, none⟩)) rfl (by kernel_rfl)) fun a hfr => ?_
 refine wlv hfr (v_load_blk1 (hst.get (k := 0) rfl) rfl (Try.isAgg3 _) rfl) fun a hfr => ?_
 refine wlv hfr (v_eq rfl rfl) fun a hfr => wlm hfr rfl fun a hfr => ?_
 refine wl_join (N := 96) (df := []) 3 [(42, .bool ((decide (ev.kind = 2)) && (decide (s = 1)))), (34, .bool false), (18, .bool false), (0, .agg #[iv cl.number, iv cl.frm, iv cl.to, iv cl.holder, iv cl.asked, .bool cl.backed]), (1, iv s), (2, .agg #[iv ev.kind, iv ev.at_, iv ev.reason]), (3, .pointer (some ⟨w0.heap.size, 0, none⟩)), (5, .pointer (some ⟨w1.heap.size, 0, none⟩)), (6, iv 0), (8, .pointer (some ⟨w1.heap.size, 2, none⟩)), (9, iv ev.reason), (10, .bool (decide (ev.reason = 1))), (7, .bool (decide (ev.reason = 1))), (11, .bool false), (19, .bool false)] ?_ (fun hj => ?_)
 rotate_left
 ·rcases Bool.eq_false_or_eq_true (decide (ev.kind = 2)) with hb7 | hb7
  ·rw [hb7] at hfr
   have hb7b := hb7
   try simp only [qz, Bool.and_eq_true, Bool.or_eq_true, Bool.and_eq_false_iff, Bool.or_eq_false_iff] at hb7
   refine wly hfr (v_move rfl) fun a hfr => wly hfr (v_eq rfl rfl) fun a hfr => ?_
   refine wlv hfr (v_pick_t rfl rfl) fun a hfr => ?_
   refine hj _ ?_
   try rw [hb7b]
   exact hfr.pick [42, 34, 18, 0, 1, 2, 3, 5, 6, 8, 9, 10, 7, 11, 19]
  rw [hb7] at hfr
  have hb7b := hb7
  try simp only [qz, Bool.and_eq_true, Bool.or_eq_true, Bool.and_eq_false_iff, Bool.or_eq_false_iff] at hb7
  refine wln hfr fun a hfr => ?_
  refine wln hfr fun a hfr => ?_
  refine wlv hfr (v_pick_f rfl rfl) fun a hfr => ?_
  refine hj _ ?_
  try rw [hb7b]
  exact hfr.pick [42, 34, 18, 0, 1, 2, 3, 5, 6, 8, 9, 10, 7, 11, 19]
 intro a hfr
 refine wlm hfr rfl fun a hfr => ?_
 refine wl_join (N := 96) (df := []) 3 [(46, .bool (((decide (ev.kind = 2)) && (decide (s = 1))) && (!(decide (ev.reason = 1))))), (34, .bool false), (18, .bool false), (0, .agg #[iv cl.number, iv cl.frm, iv cl.to, iv cl.holder, iv cl.asked, .bool cl.backed]), (1, iv s), (2, .agg #[iv ev.kind, iv ev.at_, iv ev.reason]), (3, .pointer (some ⟨w0.heap.size, 0, none⟩)), (5, .pointer (some ⟨w1.heap.size, 0, none⟩)), (6, iv 0), (8, .pointer (some ⟨w1.heap.size, 2, none⟩)), (9, iv ev.reason), (10, .bool (decide (ev.reason = 1))), (7, .bool (decide (ev.reason = 1))), (11, .bool false), (19, .bool false)] ?_ (fun hj => ?_)
 rotate_left
 ·rcases Bool.eq_false_or_eq_true ((decide (ev.kind = 2)) && (decide (s = 1))) with hb8 | hb8
  ·rw [hb8] at hfr
   have hb8b := hb8
   try simp only [qz, Bool.and_eq_true, Bool.or_eq_true, Bool.and_eq_false_iff, Bool.or_eq_false_iff] at hb8
   refine wly hfr (v_move rfl) fun a hfr => wly hfr (v_not rfl) fun a hfr => ?_
   refine wlv hfr (v_pick_t rfl rfl) fun a hfr => ?_
   refine hj _ ?_
   try rw [hb8b]
   exact hfr.pick [46, 34, 18, 0, 1, 2, 3, 5, 6, 8, 9, 10, 7, 11, 19]
  rw [hb8] at hfr
  have hb8b := hb8
  try simp only [qz, Bool.and_eq_true, Bool.or_eq_true, Bool.and_eq_false_iff, Bool.or_eq_false_iff] at hb8
  refine wln hfr fun a hfr => ?_
  refine wln hfr fun a hfr => ?_
  refine wlv hfr (v_pick_f rfl rfl) fun a hfr => ?_
  refine hj _ ?_
  try rw [hb8b]
  exact hfr.pick [46, 34, 18, 0, 1, 2, 3, 5, 6, 8, 9, 10, 7, 11, 19]
 intro a hfr
 refine wla hfr rfl fun a hfr => ?_
 refine wl_nil (hK8 _ _ ?_)
 refine wc_cond hfr rfl (fun hc9 => ?_) (fun hc9 => ?_)
 ·rw [hc9] at hfr
  refine wc_seq_region fun K9 hK9 => ?_
  refine wla hfr rfl fun a hfr => ?_
  refine wl_nil (hK9 _ _ ?_)
  refine wc_ret ?_
  refine fin_ret hfr Try.results72 (resAre_tmp rfl resAre_nil) ?_
  exact ⟨by simp only [retv, becomes, cond_true, cond_false, hc2, hc6, hc9], hst.ext⟩
 rw [hc9] at hfr
 refine wc_seq_region fun K10 hK10 => ?_
 refine wlv hfr (v_fieldAddr (v := .pointer (some ⟨w1.heap.size, 0, none⟩)) rfl (by kernel_rfl)) fun a hfr => ?_
 refine wlv hfr (v_load_blk1 (hst.get (k := 0) rfl) rfl (Try.isAgg3 _) rfl) fun a hfr => ?_
 refine wlv hfr (v_eq rfl rfl) fun a hfr => wlm hfr rfl fun a hfr => ?_
 refine wl_join (N := 96) (df := []) 3 [(54, .bool ((decide (ev.kind = 3)) && (decide (s = 2)))), (46, .bool false), (34, .bool false), (18, .bool false), (0, .agg #[iv cl.number, iv cl.frm, iv cl.to, iv cl.holder, iv cl.asked, .bool cl.backed]), (1, iv s), (2, .agg #[iv ev.kind, iv ev.at_, iv ev.reason]), (3, .pointer (some ⟨w0.heap.size, 0, none⟩)), (5, .pointer (some ⟨w1.heap.size, 0, none⟩)), (6, iv 0), (8, .pointer (some ⟨w1.heap.size, 2, none⟩)), (9, iv ev.reason), (10, .bool (decide (ev.reason = 1))), (7, .bool (decide (ev.reason = 1))), (11, .bool false), (19, .bool false), (35, .bool false)] ?_ (fun hj => ?_)
 rotate_left
 ·rcases Bool.eq_false_or_eq_true (decide (ev.kind = 3)) with hb10 | hb10
  ·rw [hb10] at hfr
   have hb10b := hb10
   try simp only [qz, Bool.and_eq_true, Bool.or_eq_true, Bool.and_eq_false_iff, Bool.or_eq_false_iff] at hb10
   refine wly hfr (v_move rfl) fun a hfr => wly hfr (v_eq rfl rfl) fun a hfr => ?_
   refine wlv hfr (v_pick_t rfl rfl) fun a hfr => ?_
   refine hj _ ?_
   try rw [hb10b]
   exact hfr.pick [54, 46, 34, 18, 0, 1, 2, 3, 5, 6, 8, 9, 10, 7, 11, 19, 35]
  rw [hb10] at hfr
  have hb10b := hb10
  try simp only [qz, Bool.and_eq_true, Bool.or_eq_true, Bool.and_eq_false_iff, Bool.or_eq_false_iff] at hb10
  refine wln hfr fun a hfr => ?_
  refine wln hfr fun a hfr => ?_
  refine wlv hfr (v_pick_f rfl rfl) fun a hfr => ?_
  refine hj _ ?_
  try rw [hb10b]
  exact hfr.pick [54, 46, 34, 18, 0, 1, 2, 3, 5, 6, 8, 9, 10, 7, 11, 19, 35]
 intro a hfr
 refine wla hfr rfl fun a hfr => ?_
 refine wl_nil (hK10 _ _ ?_)
 refine wc_cond hfr rfl (fun hc11 => ?_) (fun hc11 => ?_)
 ·rw [hc11] at hfr
  refine wc_seq_region fun K11 hK11 => ?_
  refine wla hfr rfl fun a hfr => ?_
  refine wl_nil (hK11 _ _ ?_)
  refine wc_ret ?_
  refine fin_ret hfr Try.results72 (resAre_tmp rfl resAre_nil) ?_
  exact ⟨by simp only [retv, becomes, cond_true, cond_false, hc2, hc6, hc9, hc11], hst.ext⟩
 rw [hc11] at hfr
 refine wc_seq_region fun K12 hK12 => ?_
 refine wlv hfr (v_fieldAddr (v := .pointer (some ⟨w1.heap.size, 0, none⟩)) rfl (by kernel_rfl)) fun a hfr => ?_
 refine wlv hfr (v_load_blk1 (hst.get (k := 0) rfl) rfl (Try.isAgg3 _) rfl) fun a hfr => ?_
 refine wlv hfr (v_eq rfl rfl) fun a hfr => wlm hfr rfl fun a hfr => ?_
 refine wl_join (N := 96) (df := []) 3 [(62, .bool ((decide (ev.kind = 4)) && (decide (s = 2)))), (54, .bool false), (46, .bool false), (34, .bool false), (18, .bool false), (0, .agg #[iv cl.number, iv cl.frm, iv cl.to, iv cl.holder, iv cl.asked, .bool cl.backed]), (1, iv s), (2, .agg #[iv ev.kind, iv ev.at_, iv ev.reason]), (3, .pointer (some ⟨w0.heap.size, 0, none⟩)), (5, .pointer (some ⟨w1.heap.size, 0, none⟩)), (6, iv 0), (8, .pointer (some ⟨w1.heap.size, 2, none⟩)), (9, iv ev.reason), (10, .bool (decide (ev.reason = 1))), (7, .bool (decide (ev.reason = 1))), (11, .bool false), (19, .bool false), (35, .bool false), (47, .bool false)] ?_ (fun hj => ?_)
 rotate_left
 ·rcases Bool.eq_false_or_eq_true (decide (ev.kind = 4)) with hb12 | hb12
  ·rw [hb12] at hfr
   have hb12b := hb12
   try simp only [qz, Bool.and_eq_true, Bool.or_eq_true, Bool.and_eq_false_iff, Bool.or_eq_false_iff] at hb12
   refine wly hfr (v_move rfl) fun a hfr => wly hfr (v_eq rfl rfl) fun a hfr => ?_
   refine wlv hfr (v_pick_t rfl rfl) fun a hfr => ?_
   refine hj _ ?_
   try rw [hb12b]
   exact hfr.pick [62, 54, 46, 34, 18, 0, 1, 2, 3, 5, 6, 8, 9, 10, 7, 11, 19, 35, 47]
  rw [hb12] at hfr
  have hb12b := hb12
  try simp only [qz, Bool.and_eq_true, Bool.or_eq_true, Bool.and_eq_false_iff, Bool.or_eq_false_iff] at hb12
  refine wln hfr fun a hfr => ?_
  refine wln hfr fun a hfr => ?_
  refine wlv hfr (v_pick_f rfl rfl) fun a hfr => ?_
  refine hj _ ?_
  try rw [hb12b]
  exact hfr.pick [62, 54, 46, 34, 18, 0, 1, 2, 3, 5, 6, 8, 9, 10, 7, 11, 19, 35, 47]
 intro a hfr
 refine wla hfr rfl fun a hfr => ?_
 refine wl_nil (hK12 _ _ ?_)
 refine wc_cond hfr rfl (fun hc13 => ?_) (fun hc13 => ?_)
 ·rw [hc13] at hfr
  refine wc_seq_region fun K13 hK13 => ?_
  refine wla hfr rfl fun a hfr => ?_
  refine wl_nil (hK13 _ _ ?_)
  refine wc_ret ?_
  refine fin_ret hfr Try.results72 (resAre_tmp rfl resAre_nil) ?_
  exact ⟨by simp only [retv, becomes, cond_true, cond_false, hc2, hc6, hc9, hc11, hc13], hst.ext⟩
 rw [hc13] at hfr
 refine wc_seq_region fun K14 hK14 => ?_
 refine wlv hfr (v_fieldAddr (v := .pointer (some ⟨w1.heap.size, 0, none⟩)) rfl (by kernel_rfl)) fun a hfr => ?_
 refine wlv hfr (v_load_blk1 (hst.get (k := 0) rfl) rfl (Try.isAgg3 _) rfl) fun a hfr => ?_
 refine wlv hfr (v_eq rfl rfl) fun a hfr => wlm hfr rfl fun a hfr => ?_
 refine wl_join (N := 96) (df := []) 11 [(78, .bool ((decide (ev.kind = 5)) && (((decide (s = 1)) || (decide (s = 2))) || (decide (s = 3))))), (62, .bool false), (54, .bool false), (46, .bool false), (34, .bool false), (18, .bool false), (0, .agg #[iv cl.number, iv cl.frm, iv cl.to, iv cl.holder, iv cl.asked, .bool cl.backed]), (1, iv s), (2, .agg #[iv ev.kind, iv ev.at_, iv ev.reason]), (3, .pointer (some ⟨w0.heap.size, 0, none⟩)), (5, .pointer (some ⟨w1.heap.size, 0, none⟩)), (6, iv 0), (8, .pointer (some ⟨w1.heap.size, 2, none⟩)), (9, iv ev.reason), (10, .bool (decide (ev.reason = 1))), (7, .bool (decide (ev.reason = 1))), (11, .bool false), (19, .bool false), (35, .bool false), (47, .bool false), (55, .bool false)] ?_ (fun hj => ?_)
 rotate_left
 ·rcases Bool.eq_false_or_eq_true (decide (ev.kind = 5)) with hb14 | hb14
  ·rw [hb14] at hfr
   have hb14b := hb14
   try simp only [qz, Bool.and_eq_true, Bool.or_eq_true, Bool.and_eq_false_iff, Bool.or_eq_false_iff] at hb14
   refine wly hfr (v_move rfl) fun a hfr => wly hfr (v_eq rfl rfl) fun a hfr => wly hfr (v_move rfl) fun a hfr => ?_
   refine wl_join (N := 96) (df := []) 3 [(73, .bool ((decide (s = 1)) || (decide (s = 2)))), (62, .bool false), (54, .bool false), (46, .bool false), (34, .bool false), (18, .bool false), (0, .agg #[iv cl.number, iv cl.frm, iv cl.to, iv cl.holder, iv cl.asked, .bool cl.backed]), (1, iv s), (2, .agg #[iv ev.kind, iv ev.at_, iv ev.reason]), (3, .pointer (some ⟨w0.heap.size, 0, none⟩)), (5, .pointer (some ⟨w1.heap.size, 0, none⟩)), (6, iv 0), (8, .pointer (some ⟨w1.heap.size, 2, none⟩)), (9, iv ev.reason), (10, .bool (decide (ev.reason = 1))), (7, .bool (decide (ev.reason = 1))), (11, .bool false), (19, .bool false), (35, .bool false), (47, .bool false), (55, .bool false), (67, .bool true)] ?_ (fun hj => ?_)
   rotate_left
   ·rcases Bool.eq_false_or_eq_true (decide (s = 1)) with hb15 | hb15
    ·rw [hb15] at hfr
     have hb15b := hb15
     try simp only [qz, Bool.and_eq_true, Bool.or_eq_true, Bool.and_eq_false_iff, Bool.or_eq_false_iff] at hb15
     refine wln hfr fun a hfr => ?_
     refine wln hfr fun a hfr => wly hfr (v_pick_t rfl rfl) fun a hfr => ?_
     refine hj _ ?_
     try rw [hb15b]
     exact hfr.pick [73, 62, 54, 46, 34, 18, 0, 1, 2, 3, 5, 6, 8, 9, 10, 7, 11, 19, 35, 47, 55, 67]
    rw [hb15] at hfr
    have hb15b := hb15
    try simp only [qz, Bool.and_eq_true, Bool.or_eq_true, Bool.and_eq_false_iff, Bool.or_eq_false_iff] at hb15
    refine wly hfr (v_move rfl) fun a hfr => wly hfr (v_eq rfl rfl) fun a hfr => wly hfr (v_pick_f rfl rfl) fun a hfr => ?_
    refine hj _ ?_
    try rw [hb15b]
    exact hfr.pick [73, 62, 54, 46, 34, 18, 0, 1, 2, 3, 5, 6, 8, 9, 10, 7, 11, 19, 35, 47, 55, 67]
   intro a hfr
   refine wly hfr (v_move rfl) fun a hfr => ?_
   refine wl_join (N := 96) (df := []) 3 [(77, .bool (((decide (s = 1)) || (decide (s = 2))) || (decide (s = 3)))), (62, .bool false), (54, .bool false), (46, .bool false), (34, .bool false), (18, .bool false), (0, .agg #[iv cl.number, iv cl.frm, iv cl.to, iv cl.holder, iv cl.asked, .bool cl.backed]), (1, iv s), (2, .agg #[iv ev.kind, iv ev.at_, iv ev.reason]), (3, .pointer (some ⟨w0.heap.size, 0, none⟩)), (5, .pointer (some ⟨w1.heap.size, 0, none⟩)), (6, iv 0), (8, .pointer (some ⟨w1.heap.size, 2, none⟩)), (9, iv ev.reason), (10, .bool (decide (ev.reason = 1))), (7, .bool (decide (ev.reason = 1))), (11, .bool false), (19, .bool false), (35, .bool false), (47, .bool false), (55, .bool false), (67, .bool true)] ?_ (fun hj => ?_)
   rotate_left
   ·rcases Bool.eq_false_or_eq_true ((decide (s = 1)) || (decide (s = 2))) with hb16 | hb16
    ·rw [hb16] at hfr
     have hb16b := hb16
     try simp only [qz, Bool.and_eq_true, Bool.or_eq_true, Bool.and_eq_false_iff, Bool.or_eq_false_iff] at hb16
     refine wln hfr fun a hfr => ?_
     refine wln hfr fun a hfr => wly hfr (v_pick_t rfl rfl) fun a hfr => ?_
     refine hj _ ?_
     try rw [hb16b]
     exact hfr.pick [77, 62, 54, 46, 34, 18, 0, 1, 2, 3, 5, 6, 8, 9, 10, 7, 11, 19, 35, 47, 55, 67]
    rw [hb16] at hfr
    have hb16b := hb16
    try simp only [qz, Bool.and_eq_true, Bool.or_eq_true, Bool.and_eq_false_iff, Bool.or_eq_false_iff] at hb16
    refine wly hfr (v_move rfl) fun a hfr => wly hfr (v_eq rfl rfl) fun a hfr => wly hfr (v_pick_f rfl rfl) fun a hfr => ?_
    refine hj _ ?_
    try rw [hb16b]
    exact hfr.pick [77, 62, 54, 46, 34, 18, 0, 1, 2, 3, 5, 6, 8, 9, 10, 7, 11, 19, 35, 47, 55, 67]
   intro a hfr
   refine wlv hfr (v_pick_t rfl rfl) fun a hfr => ?_
   refine hj _ ?_
   try rw [hb14b]
   exact hfr.pick [78, 62, 54, 46, 34, 18, 0, 1, 2, 3, 5, 6, 8, 9, 10, 7, 11, 19, 35, 47, 55]
  rw [hb14] at hfr
  have hb14b := hb14
  try simp only [qz, Bool.and_eq_true, Bool.or_eq_true, Bool.and_eq_false_iff, Bool.or_eq_false_iff] at hb14
  refine wln hfr fun a hfr => ?_
  refine wln hfr fun a hfr => ?_
  refine wln hfr fun a hfr => ?_
  refine wl_vu hfr fun a hfr => ?_
  refine wl_vu hfr fun a hfr => ?_
  refine wln hfr fun a hfr => ?_
  refine wln hfr fun a hfr => ?_
  refine wl_vu hfr fun a hfr => ?_
  refine wl_vu hfr fun a hfr => ?_
  refine wln hfr fun a hfr => ?_
  refine wlv hfr (v_pick_f rfl rfl) fun a hfr => ?_
  refine hj _ ?_
  try rw [hb14b]
  exact hfr.pick [78, 62, 54, 46, 34, 18, 0, 1, 2, 3, 5, 6, 8, 9, 10, 7, 11, 19, 35, 47, 55]
 intro a hfr
 refine wla hfr rfl fun a hfr => ?_
 refine wl_nil (hK14 _ _ ?_)
 refine wc_cond hfr rfl (fun hc17 => ?_) (fun hc17 => ?_)
 ·rw [hc17] at hfr
  refine wc_seq_region fun K15 hK15 => ?_
  refine wla hfr rfl fun a hfr => ?_
  refine wl_nil (hK15 _ _ ?_)
  refine wc_ret ?_
  refine fin_ret hfr Try.results72 (resAre_tmp rfl resAre_nil) ?_
  exact ⟨by simp only [retv, becomes, cond_true, cond_false, hc2, hc6, hc9, hc11, hc13, hc17], hst.ext⟩
 rw [hc17] at hfr
 refine wc_seq_region fun K16 hK16 => ?_
 refine wlv hfr (v_fieldAddr (v := .pointer (some ⟨w1.heap.size, 0, none⟩)) rfl (by kernel_rfl)) fun a hfr => ?_
 refine wlv hfr (v_load_blk1 (hst.get (k := 0) rfl) rfl (Try.isAgg3 _) rfl) fun a hfr => ?_
 refine wlv hfr (v_eq rfl rfl) fun a hfr => wlm hfr rfl fun a hfr => ?_
 refine wl_join (N := 96) (df := []) 3 [(86, .bool ((decide (ev.kind = 6)) && (decide (s = 4)))), (78, .bool false), (62, .bool false), (54, .bool false), (46, .bool false), (34, .bool false), (18, .bool false), (0, .agg #[iv cl.number, iv cl.frm, iv cl.to, iv cl.holder, iv cl.asked, .bool cl.backed]), (1, iv s), (2, .agg #[iv ev.kind, iv ev.at_, iv ev.reason]), (3, .pointer (some ⟨w0.heap.size, 0, none⟩)), (5, .pointer (some ⟨w1.heap.size, 0, none⟩)), (6, iv 0), (8, .pointer (some ⟨w1.heap.size, 2, none⟩)), (9, iv ev.reason), (10, .bool (decide (ev.reason = 1))), (7, .bool (decide (ev.reason = 1))), (11, .bool false), (19, .bool false), (35, .bool false), (47, .bool false), (55, .bool false), (63, .bool false)] ?_ (fun hj => ?_)
 rotate_left
 ·rcases Bool.eq_false_or_eq_true (decide (ev.kind = 6)) with hb18 | hb18
  ·rw [hb18] at hfr
   have hb18b := hb18
   try simp only [qz, Bool.and_eq_true, Bool.or_eq_true, Bool.and_eq_false_iff, Bool.or_eq_false_iff] at hb18
   refine wly hfr (v_move rfl) fun a hfr => wly hfr (v_eq rfl rfl) fun a hfr => ?_
   refine wlv hfr (v_pick_t rfl rfl) fun a hfr => ?_
   refine hj _ ?_
   try rw [hb18b]
   exact hfr.pick [86, 78, 62, 54, 46, 34, 18, 0, 1, 2, 3, 5, 6, 8, 9, 10, 7, 11, 19, 35, 47, 55, 63]
  rw [hb18] at hfr
  have hb18b := hb18
  try simp only [qz, Bool.and_eq_true, Bool.or_eq_true, Bool.and_eq_false_iff, Bool.or_eq_false_iff] at hb18
  refine wln hfr fun a hfr => ?_
  refine wln hfr fun a hfr => ?_
  refine wlv hfr (v_pick_f rfl rfl) fun a hfr => ?_
  refine hj _ ?_
  try rw [hb18b]
  exact hfr.pick [86, 78, 62, 54, 46, 34, 18, 0, 1, 2, 3, 5, 6, 8, 9, 10, 7, 11, 19, 35, 47, 55, 63]
 intro a hfr
 refine wlm hfr rfl fun a hfr => ?_
 refine wl_join (N := 96) (df := []) 8 [(95, .bool (((decide (ev.kind = 6)) && (decide (s = 4))) && ((!(decide (ev.reason = 1))) || (!cl.backed)))), (78, .bool false), (62, .bool false), (54, .bool false), (46, .bool false), (34, .bool false), (18, .bool false), (0, .agg #[iv cl.number, iv cl.frm, iv cl.to, iv cl.holder, iv cl.asked, .bool cl.backed]), (1, iv s), (2, .agg #[iv ev.kind, iv ev.at_, iv ev.reason]), (3, .pointer (some ⟨w0.heap.size, 0, none⟩)), (5, .pointer (some ⟨w1.heap.size, 0, none⟩)), (6, iv 0), (8, .pointer (some ⟨w1.heap.size, 2, none⟩)), (9, iv ev.reason), (10, .bool (decide (ev.reason = 1))), (7, .bool (decide (ev.reason = 1))), (11, .bool false), (19, .bool false), (35, .bool false), (47, .bool false), (55, .bool false), (63, .bool false)] ?_ (fun hj => ?_)
 rotate_left
 ·rcases Bool.eq_false_or_eq_true ((decide (ev.kind = 6)) && (decide (s = 4))) with hb19 | hb19
  ·rw [hb19] at hfr
   have hb19b := hb19
   try simp only [qz, Bool.and_eq_true, Bool.or_eq_true, Bool.and_eq_false_iff, Bool.or_eq_false_iff] at hb19
   refine wly hfr (v_move rfl) fun a hfr => wly hfr (v_not rfl) fun a hfr => wly hfr (v_move rfl) fun a hfr => ?_
   refine wl_join (N := 96) (df := []) 4 [(94, .bool ((!(decide (ev.reason = 1))) || (!cl.backed))), (78, .bool false), (62, .bool false), (54, .bool false), (46, .bool false), (34, .bool false), (18, .bool false), (0, .agg #[iv cl.number, iv cl.frm, iv cl.to, iv cl.holder, iv cl.asked, .bool cl.backed]), (1, iv s), (2, .agg #[iv ev.kind, iv ev.at_, iv ev.reason]), (3, .pointer (some ⟨w0.heap.size, 0, none⟩)), (5, .pointer (some ⟨w1.heap.size, 0, none⟩)), (6, iv 0), (8, .pointer (some ⟨w1.heap.size, 2, none⟩)), (9, iv ev.reason), (10, .bool (decide (ev.reason = 1))), (7, .bool (decide (ev.reason = 1))), (11, .bool false), (19, .bool false), (35, .bool false), (47, .bool false), (55, .bool false), (63, .bool false), (87, .bool true)] ?_ (fun hj => ?_)
   rotate_left
   ·rcases Bool.eq_false_or_eq_true (!(decide (ev.reason = 1))) with hb20 | hb20
    ·rw [hb20] at hfr
     have hb20b := hb20
     try simp only [qz, Bool.and_eq_true, Bool.or_eq_true, Bool.and_eq_false_iff, Bool.or_eq_false_iff] at hb20
     refine wln hfr fun a hfr => ?_
     refine wln hfr fun a hfr => ?_
     refine wln hfr fun a hfr => wly hfr (v_pick_t rfl rfl) fun a hfr => ?_
     refine hj _ ?_
     try rw [hb20b]
     exact hfr.pick [94, 78, 62, 54, 46, 34, 18, 0, 1, 2, 3, 5, 6, 8, 9, 10, 7, 11, 19, 35, 47, 55, 63, 87]
    rw [hb20] at hfr
    have hb20b := hb20
    try simp only [qz, Bool.and_eq_true, Bool.or_eq_true, Bool.and_eq_false_iff, Bool.or_eq_false_iff] at hb20
    refine wly hfr (v_fieldAddr (v := .pointer (some ⟨w0.heap.size, 5, none⟩)) rfl (by kernel_rfl)) fun a hfr => wly hfr (v_load_blk1 (hst.get (k := 1) rfl) rfl (Try.isAgg4 _) rfl) fun a hfr => wly hfr (v_not rfl) fun a hfr => wly hfr (v_pick_f rfl rfl) fun a hfr => ?_
    refine hj _ ?_
    try rw [hb20b]
    exact hfr.pick [94, 78, 62, 54, 46, 34, 18, 0, 1, 2, 3, 5, 6, 8, 9, 10, 7, 11, 19, 35, 47, 55, 63, 87]
   intro a hfr
   refine wlv hfr (v_pick_t rfl rfl) fun a hfr => ?_
   refine hj _ ?_
   try rw [hb19b]
   exact hfr.pick [95, 78, 62, 54, 46, 34, 18, 0, 1, 2, 3, 5, 6, 8, 9, 10, 7, 11, 19, 35, 47, 55, 63]
  rw [hb19] at hfr
  have hb19b := hb19
  try simp only [qz, Bool.and_eq_true, Bool.or_eq_true, Bool.and_eq_false_iff, Bool.or_eq_false_iff] at hb19
  refine wln hfr fun a hfr => ?_
  refine wln hfr fun a hfr => ?_
  refine wln hfr fun a hfr => ?_
  refine wl_vu hfr fun a hfr => ?_
  refine wl_vu hfr fun a hfr => ?_
  refine wl_vu hfr fun a hfr => ?_
  refine wln hfr fun a hfr => ?_
  refine wlv hfr (v_pick_f rfl rfl) fun a hfr => ?_
  refine hj _ ?_
  try rw [hb19b]
  exact hfr.pick [95, 78, 62, 54, 46, 34, 18, 0, 1, 2, 3, 5, 6, 8, 9, 10, 7, 11, 19, 35, 47, 55, 63]
 intro a hfr
 refine wla hfr rfl fun a hfr => ?_
 refine wl_nil (hK16 _ _ ?_)
 refine wc_cond hfr rfl (fun hc21 => ?_) (fun hc21 => ?_)
 ·rw [hc21] at hfr
  refine wc_seq_region fun K17 hK17 => ?_
  refine wla hfr rfl fun a hfr => ?_
  refine wl_nil (hK17 _ _ ?_)
  refine wc_ret ?_
  refine fin_ret hfr Try.results72 (resAre_tmp rfl resAre_nil) ?_
  exact ⟨by simp only [retv, becomes, cond_true, cond_false, hc2, hc6, hc9, hc11, hc13, hc17, hc21], hst.ext⟩
 rw [hc21] at hfr
 refine wc_skip ?_
 refine hK3 _ _ ?_
 refine wc_seq_region fun K18 hK18 => ?_
 refine wla hfr rfl fun a hfr => ?_
 refine wl_nil (hK18 _ _ ?_)
 refine wc_ret ?_
 refine fin_ret hfr Try.results72 (resAre_tmp rfl resAre_nil) ?_
 exact ⟨by simp only [retv, becomes, cond_true, cond_false, hc2, hc6, hc9, hc11, hc13, hc17, hc21], hst.ext⟩
theorem status_ok (rl : Rul) (s since : Int) (w0 : World) (hr : areValid rl = true) (h0 : 0 ≤ since) (h1 : since ≤ 40000000) :
  Ret Try.prog 70 #[.agg #[iv rl.answer, iv rl.cooling, iv rl.settle, iv rl.reverse], iv s, iv since] w0 fun v w => v = (begins rl s since).val ∧ Ext No w0 w := by
 have hr := areValid_le hr
 refine ret_of Try.func70 rfl Try.ntmps70 (lb rfl) fun a hfr => ?_
 have hfr : Fr 41 [(0, _), (1, _), (2, _)] [] a := hfr
 have hst : St No w0 [] w0 := St.init w0
 refine wc_seq_region fun K1 hK1 => ?_
 refine wl_box hfr hst rfl [iv rl.answer, iv rl.cooling, iv rl.settle, iv rl.reverse] rfl fun a w1 hfr hst => ?_
 refine wl_alloc hfr hst (Try.zeroValue54 _) [iv 0, iv 0, iv 0] rfl fun a w2 hfr hst => ?_
 refine wl_nil (hK1 _ _ ?_)
 refine wc_seq_region fun K2 hK2 => ?_
 refine wlm hfr rfl fun a hfr => wlm hfr rfl fun a hfr => ?_
 refine wlv hfr (v_build (v := .agg #[iv s, iv since, iv (-1)]) rfl (by kernel_rfl)) fun a hfr => ?_
 refine wl_alloc hfr hst (Try.zeroValue54 _) [iv 0, iv 0, iv 0] rfl fun a w3 hfr hst => ?_
 refine wl_sto 0 hfr hst [iv s, iv since, iv (-1)] rfl (Try.sizeOf54 _) fun a w4 hfr hst => ?_
 refine wl_nil (hK2 _ _ ?_)
 refine wc_seq_k fun K3 hK3 => ?_
 refine wc_seq_region fun K4 hK4 => ?_
 refine wlm hfr rfl fun a hfr => ?_
 refine wl_nil (hK4 _ _ ?_)
 refine wc_block ?_
 refine wc_seq_region fun K5 hK5 => ?_
 refine wlv hfr (v_eq rfl rfl) fun a hfr => wla hfr rfl fun a hfr => ?_
 refine wl_nil (hK5 _ _ ?_)
 refine wc_cond_d hfr rfl (fun hc1 => ?_) (fun hc1 => ?_)
 ·rw [decide_eq_true hc1] at hfr
  refine wc_region ?_
  refine wlm hfr rfl fun a hfr => ?_
  refine wlv hfr (v_fieldAddr (v := .pointer (some ⟨w0.heap.size, 0, none⟩)) rfl (by kernel_rfl)) fun a hfr => ?_
  refine wlv hfr (v_load_blk1 (hst.get (k := 2) rfl) rfl (Try.isAgg3 _) rfl) fun a hfr => ?_
  refine wlv hfr (v_add rfl rfl ⟨by omega, by omega⟩) fun a hfr => ?_
  refine wlv hfr (v_fieldAddr (v := .pointer (some ⟨w2.heap.size, 2, none⟩)) rfl (by kernel_rfl)) fun a hfr => ?_
  refine wl_sto 0 hfr hst [iv s, iv since, iv (since + rl.answer)] rfl (Try.sizeOf3 _) fun a w5 hfr hst => ?_
  refine wl_nil ?_
  refine hK3 _ _ ?_
  refine wc_seq_region fun K6 hK6 => ?_
  refine wlv hfr (v_load_all (hst.get (k := 0) rfl) rfl (Try.isAgg54 _) (Try.sizeOf54 _)) fun a hfr => ?_
  refine wl_sto 1 hfr hst [iv s, iv since, iv (since + rl.answer)] rfl (Try.sizeOf54 _) fun a w6 hfr hst => ?_
  refine wl_nil (hK6 _ _ ?_)
  refine wc_ret ?_
  refine fin_ret hfr Try.results70 (resAre_cell rfl (res_all (hst.get (k := 1) rfl) (Try.isAgg54 _) (Try.sizeOf54 _)) resAre_nil) ?_
  exact ⟨by simp only [retv]; simp [begins, dueSec, Stt.val, *], hst.ext⟩
 rw [decide_eq_false hc1] at hfr
 refine wc_seq_region fun K7 hK7 => ?_
 refine wlv hfr (v_eq rfl rfl) fun a hfr => wla hfr rfl fun a hfr => ?_
 refine wl_nil (hK7 _ _ ?_)
 refine wc_cond_d hfr rfl (fun hc2 => ?_) (fun hc2 => ?_)
 ·rw [decide_eq_true hc2] at hfr
  refine wc_region ?_
  refine wlm hfr rfl fun a hfr => ?_
  refine wlv hfr (v_fieldAddr (v := .pointer (some ⟨w0.heap.size, 2, none⟩)) rfl (by kernel_rfl)) fun a hfr => ?_
  refine wlv hfr (v_load_blk1 (hst.get (k := 2) rfl) rfl (Try.isAgg3 _) rfl) fun a hfr => ?_
  refine wlv hfr (v_add rfl rfl ⟨by omega, by omega⟩) fun a hfr => ?_
  refine wlv hfr (v_fieldAddr (v := .pointer (some ⟨w2.heap.size, 2, none⟩)) rfl (by kernel_rfl)) fun a hfr => ?_
  refine wl_sto 0 hfr hst [iv s, iv since, iv (since + rl.settle)] rfl (Try.sizeOf3 _) fun a w7 hfr hst => ?_
  refine wl_nil ?_
  refine hK3 _ _ ?_
  refine wc_seq_region fun K8 hK8 => ?_
  refine wlv hfr (v_load_all (hst.get (k := 0) rfl) rfl (Try.isAgg54 _) (Try.sizeOf54 _)) fun a hfr => ?_
  refine wl_sto 1 hfr hst [iv s, iv since, iv (since + rl.settle)] rfl (Try.sizeOf54 _) fun a w8 hfr hst => ?_
  refine wl_nil (hK8 _ _ ?_)
  refine wc_ret ?_
  refine fin_ret hfr Try.results70 (resAre_cell rfl (res_all (hst.get (k := 1) rfl) (Try.isAgg54 _) (Try.sizeOf54 _)) resAre_nil) ?_
  exact ⟨by simp only [retv]; simp [begins, dueSec, Stt.val, *], hst.ext⟩
 rw [decide_eq_false hc2] at hfr
 refine wc_seq_region fun K9 hK9 => ?_
 refine wlv hfr (v_eq rfl rfl) fun a hfr => wla hfr rfl fun a hfr => ?_
 refine wl_nil (hK9 _ _ ?_)
 refine wc_cond_d hfr rfl (fun hc3 => ?_) (fun hc3 => ?_)
 ·rw [decide_eq_true hc3] at hfr
  refine wc_region ?_
  refine wlm hfr rfl fun a hfr => ?_
  refine wlv hfr (v_fieldAddr (v := .pointer (some ⟨w0.heap.size, 1, none⟩)) rfl (by kernel_rfl)) fun a hfr => ?_
  refine wlv hfr (v_load_blk1 (hst.get (k := 2) rfl) rfl (Try.isAgg3 _) rfl) fun a hfr => ?_
  refine wlv hfr (v_add rfl rfl ⟨by omega, by omega⟩) fun a hfr => ?_
  refine wlv hfr (v_fieldAddr (v := .pointer (some ⟨w2.heap.size, 2, none⟩)) rfl (by kernel_rfl)) fun a hfr => ?_
  refine wl_sto 0 hfr hst [iv s, iv since, iv (since + rl.cooling)] rfl (Try.sizeOf3 _) fun a w9 hfr hst => ?_
  refine wl_nil ?_
  refine hK3 _ _ ?_
  refine wc_seq_region fun K10 hK10 => ?_
  refine wlv hfr (v_load_all (hst.get (k := 0) rfl) rfl (Try.isAgg54 _) (Try.sizeOf54 _)) fun a hfr => ?_
  refine wl_sto 1 hfr hst [iv s, iv since, iv (since + rl.cooling)] rfl (Try.sizeOf54 _) fun a w10 hfr hst => ?_
  refine wl_nil (hK10 _ _ ?_)
  refine wc_ret ?_
  refine fin_ret hfr Try.results70 (resAre_cell rfl (res_all (hst.get (k := 1) rfl) (Try.isAgg54 _) (Try.sizeOf54 _)) resAre_nil) ?_
  exact ⟨by simp only [retv]; simp [begins, dueSec, Stt.val, *], hst.ext⟩
 rw [decide_eq_false hc3] at hfr
 refine wc_seq_region fun K11 hK11 => ?_
 refine wlv hfr (v_eq rfl rfl) fun a hfr => wla hfr rfl fun a hfr => ?_
 refine wl_nil (hK11 _ _ ?_)
 refine wc_cond_d hfr rfl (fun hc4 => ?_) (fun hc4 => ?_)
 ·rw [decide_eq_true hc4] at hfr
  refine wc_region ?_
  refine wlm hfr rfl fun a hfr => ?_
  refine wlv hfr (v_fieldAddr (v := .pointer (some ⟨w0.heap.size, 3, none⟩)) rfl (by kernel_rfl)) fun a hfr => ?_
  refine wlv hfr (v_load_blk1 (hst.get (k := 2) rfl) rfl (Try.isAgg3 _) rfl) fun a hfr => ?_
  refine wlv hfr (v_add rfl rfl ⟨by omega, by omega⟩) fun a hfr => ?_
  refine wlv hfr (v_fieldAddr (v := .pointer (some ⟨w2.heap.size, 2, none⟩)) rfl (by kernel_rfl)) fun a hfr => ?_
  refine wl_sto 0 hfr hst [iv s, iv since, iv (since + rl.reverse)] rfl (Try.sizeOf3 _) fun a w11 hfr hst => ?_
  refine wl_nil ?_
  refine hK3 _ _ ?_
  refine wc_seq_region fun K12 hK12 => ?_
  refine wlv hfr (v_load_all (hst.get (k := 0) rfl) rfl (Try.isAgg54 _) (Try.sizeOf54 _)) fun a hfr => ?_
  refine wl_sto 1 hfr hst [iv s, iv since, iv (since + rl.reverse)] rfl (Try.sizeOf54 _) fun a w12 hfr hst => ?_
  refine wl_nil (hK12 _ _ ?_)
  refine wc_ret ?_
  refine fin_ret hfr Try.results70 (resAre_cell rfl (res_all (hst.get (k := 1) rfl) (Try.isAgg54 _) (Try.sizeOf54 _)) resAre_nil) ?_
  exact ⟨by simp only [retv]; simp [begins, dueSec, Stt.val, *], hst.ext⟩
 rw [decide_eq_false hc4] at hfr
 refine wc_skip ?_
 refine hK3 _ _ ?_
 refine wc_seq_region fun K13 hK13 => ?_
 refine wlv hfr (v_load_all (hst.get (k := 0) rfl) rfl (Try.isAgg54 _) (Try.sizeOf54 _)) fun a hfr => ?_
 refine wl_sto 1 hfr hst [iv s, iv since, iv (-1)] rfl (Try.sizeOf54 _) fun a w13 hfr hst => ?_
 refine wl_nil (hK13 _ _ ?_)
 refine wc_ret ?_
 refine fin_ret hfr Try.results70 (resAre_cell rfl (res_all (hst.get (k := 1) rfl) (Try.isAgg54 _) (Try.sizeOf54 _)) resAre_nil) ?_
 exact ⟨by simp only [retv]; simp [begins, dueSec, Stt.val, *], hst.ext⟩
theorem rafter_ok (s : Int) (w0 : World) :
  Ret Try.prog 71 #[iv s] w0 fun v w => v = iv (if s = 3 then 4 else if s = 4 then 5 else 3) ∧ Ext No w0 w := by
 refine ret_of Try.func71 rfl Try.ntmps71 (lb rfl) fun a hfr => ?_
 have hfr : Fr 7 [(0, _)] [] a := hfr
 have hst : St No w0 [] w0 := St.init w0
 refine wc_seq_region fun K1 hK1 => ?_
 refine wla hfr rfl fun a hfr => ?_
 refine wl_nil (hK1 _ _ ?_)
 refine wc_seq_k fun K2 hK2 => ?_
 refine wc_seq_region fun K3 hK3 => ?_
 refine wlm hfr rfl fun a hfr => ?_
 refine wlv hfr (v_eq rfl rfl) fun a hfr => ?_
 refine wl_nil (hK3 _ _ ?_)
 refine wc_cond_d hfr rfl (fun hc1 => ?_) (fun hc1 => ?_)
 ·rw [decide_eq_true hc1] at hfr
  refine wc_seq_region fun K4 hK4 => ?_
  refine wla hfr rfl fun a hfr => ?_
  refine wl_nil (hK4 _ _ ?_)
  refine wc_ret ?_
  refine fin_ret hfr Try.results71 (resAre_tmp rfl resAre_nil) ?_
  exact ⟨by simp [retv, *], hst.ext⟩
 rw [decide_eq_false hc1] at hfr
 refine wc_skip ?_
 refine hK2 _ _ ?_
 refine wc_seq_k fun K5 hK5 => ?_
 refine wc_seq_region fun K6 hK6 => ?_
 refine wlm hfr rfl fun a hfr => ?_
 refine wlv hfr (v_eq rfl rfl) fun a hfr => ?_
 refine wl_nil (hK6 _ _ ?_)
 refine wc_cond_d hfr rfl (fun hc2 => ?_) (fun hc2 => ?_)
 ·rw [decide_eq_true hc2] at hfr
  refine wc_seq_region fun K7 hK7 => ?_
  refine wla hfr rfl fun a hfr => ?_
  refine wl_nil (hK7 _ _ ?_)
  refine wc_ret ?_
  refine fin_ret hfr Try.results71 (resAre_tmp rfl resAre_nil) ?_
  exact ⟨by simp [retv, *], hst.ext⟩
 rw [decide_eq_false hc2] at hfr
 refine wc_skip ?_
 refine hK5 _ _ ?_
 refine wc_seq_region fun K8 hK8 => ?_
 refine wla hfr rfl fun a hfr => ?_
 refine wl_nil (hK8 _ _ ?_)
 refine wc_ret ?_
 refine fin_ret hfr Try.results71 (resAre_tmp rfl resAre_nil) ?_
 exact ⟨by simp [retv, *], hst.ext⟩
set_option maxHeartbeats 4000000 in
theorem rvalid_ok (rl : Rul) (cl : Clm) (sv : Value) (l : List Evt) (w0 : World) (hsv : SlAt w0 sv 3 (l.map Evt.cells)) :
  Ret Try.prog 46 #[.agg #[iv rl.answer, iv rl.cooling, iv rl.settle, iv rl.reverse], .agg #[iv cl.number, iv cl.frm, iv cl.to, iv cl.holder, iv cl.asked, .bool cl.backed], sv] w0 fun v w => v = .bool (valid rl cl l) ∧ Ext No w0 w := by
 refine ret_of Try.func46 rfl Try.ntmps46 (lb rfl) fun a hfr => ?_
 have hfr : Fr 63 [(0, _), (1, _), (2, _)] [] a := hfr
 have hst : St No w0 [] w0 := St.init w0
 refine wc_seq_region fun K1 hK1 => ?_
 refine wl_box hfr hst rfl [iv rl.answer, iv rl.cooling, iv rl.settle, iv rl.reverse] rfl fun a w1 hfr hst => ?_
 refine wl_box hfr hst rfl [iv cl.number, iv cl.frm, iv cl.to, iv cl.holder, iv cl.asked, .bool cl.backed] rfl fun a w2 hfr hst => ?_
 refine wla hfr rfl fun a hfr => ?_
 refine wl_nil (hK1 _ _ ?_)
 refine wc_seq_k fun K2 hK2 => ?_
 refine wc_seq_region fun K3 hK3 => ?_
 refine wlv hfr (v_load_all (hst.get (k := 1) rfl) rfl (Try.isAgg31 _) (Try.sizeOf31 _)) fun a hfr => ?_
 refine wl_callp hfr hst Try.call68 rfl (rrules_ok _ _ _ _ _) fun a w3 hfr hst => ?_
 refine wlv hfr (v_not rfl) fun a hfr => wlm hfr rfl fun a hfr => ?_
 rcases Bool.eq_false_or_eq_true (!(areValid rl)) with hb1 | hb1
 ·rw [hb1] at hfr
  try simp only [qz] at hb1
  refine wln hfr fun a hfr => ?_
  refine wln hfr fun a hfr => ?_
  refine wln hfr fun a hfr => ?_
  refine wlv hfr (v_pick_t rfl rfl) fun a hfr => wlm hfr rfl fun a hfr => ?_
  refine wln hfr fun a hfr => ?_
  refine wln hfr fun a hfr => ?_
  refine wln hfr fun a hfr => ?_
  refine wlv hfr (v_pick_t rfl rfl) fun a hfr => ?_
  refine wl_nil (hK3 _ _ ?_)
  have hfr : Fr 63 [(0, _), (1, _), (2, _), (3, _), (4, _), (6, _), (22, _)] [] a := hfr.pick [0, 1, 2, 3, 4, 6, 22]
  refine wc_cond_t hfr rfl ?_
  refine wc_seq_region fun K4 hK4 => ?_
  refine wla hfr rfl fun a hfr => ?_
  refine wl_nil (hK4 _ _ ?_)
  refine wc_ret ?_
  refine fin_ret hfr Try.results46 (resAre_tmp rfl resAre_nil) ?_
  exact ⟨by simp [retv, valid, hb1] <;> omega, hst.ext⟩
 rw [hb1] at hfr
 try simp only [qz] at hb1
 refine wly hfr (v_load_all (hst.get (k := 0) rfl) rfl (Try.isAgg33 _) (Try.sizeOf33 _)) fun a hfr => ?_
 refine wl_callpy hfr hst Try.call69 rfl (rclaim_ok cl _) fun a w4 hfr hst => ?_
 refine wly hfr (v_not rfl) fun a hfr => ?_
 refine wlv hfr (v_pick_f rfl rfl) fun a hfr => wlm hfr rfl fun a hfr => ?_
 rcases Bool.eq_false_or_eq_true (!(isClaim cl)) with hb2 | hb2
 ·rw [hb2] at hfr
  try simp only [qz] at hb2
  refine wln hfr fun a hfr => ?_
  refine wln hfr fun a hfr => ?_
  refine wln hfr fun a hfr => ?_
  refine wlv hfr (v_pick_t rfl rfl) fun a hfr => ?_
  refine wl_nil (hK3 _ _ ?_)
  have hfr : Fr 63 [(0, _), (1, _), (2, _), (3, _), (4, _), (6, _), (22, _)] [] a := hfr.pick [0, 1, 2, 3, 4, 6, 22]
  refine wc_cond_t hfr rfl ?_
  refine wc_seq_region fun K5 hK5 => ?_
  refine wla hfr rfl fun a hfr => ?_
  refine wl_nil (hK5 _ _ ?_)
  refine wc_ret ?_
  refine fin_ret hfr Try.results46 (resAre_tmp rfl resAre_nil) ?_
  exact ⟨by simp [retv, valid, hb1, hb2] <;> omega, hst.ext⟩
 rw [hb2] at hfr
 try simp only [qz] at hb2
 refine wly hfr (v_move rfl) fun a hfr => wly hfr ((v_len_sl (sT := 34) (hst.arg hsv) rfl rfl (Try.runUnderlying34 _)).asi (m' := (l.length : Int)) (by simp)) fun a hfr => wly hfr (v_gt rfl rfl) fun a hfr => ?_
 refine wlv hfr (v_pick_f rfl rfl) fun a hfr => ?_
 refine wl_nil (hK3 _ _ ?_)
 have hfr : Fr 63 [(0, _), (1, _), (2, _), (3, _), (4, _), (6, _), (22, _)] [] a := hfr.pick [0, 1, 2, 3, 4, 6, 22]
 refine wc_cond_d hfr rfl (fun hc3 => ?_) (fun hc3 => ?_)
 ·rw [decide_eq_true hc3] at hfr
  refine wc_seq_region fun K6 hK6 => ?_
  refine wla hfr rfl fun a hfr => ?_
  refine wl_nil (hK6 _ _ ?_)
  refine wc_ret ?_
  refine fin_ret hfr Try.results46 (resAre_tmp rfl resAre_nil) ?_
  exact ⟨by simp [retv, valid, hb1, hb2, hc3] <;> omega, hst.ext⟩
 rw [decide_eq_false hc3] at hfr
 refine wc_skip ?_
 refine hK2 _ _ ?_
 refine wc_seq_region fun K7 hK7 => ?_
 refine wlv hfr (v_fieldAddr (v := .pointer (some ⟨w1.heap.size, 4, none⟩)) rfl (by kernel_rfl)) fun a hfr => ?_
 refine wlv hfr (v_load_blk1 (hst.get (k := 0) rfl) rfl (Try.isAgg3 _) rfl) fun a hfr => wla hfr rfl fun a hfr => ?_
 refine wl_nil (hK7 _ _ ?_)
 refine wc_seq_k fun K8 hK8 => ?_
 refine wc_seq_region fun K9 hK9 => ?_
 refine wla hfr rfl fun a hfr => ?_
 refine wl_nil (hK9 _ _ ?_)
 refine wc_block ?_
 refine wc_loop (fun m a w => ∃ (k : Nat) (last : Int), m = l.length - k ∧ (k ≤ l.length) ∧ (anyBad cl.asked l = anyBad last (l.drop k)) ∧ Fr 63 [(0, .agg #[iv rl.answer, iv rl.cooling, iv rl.settle, iv rl.reverse]), (1, .agg #[iv cl.number, iv cl.frm, iv cl.to, iv cl.holder, iv cl.asked, .bool cl.backed]), (2, sv), (3, .pointer (some ⟨w0.heap.size, 0, none⟩)), (4, .pointer (some ⟨w1.heap.size, 0, none⟩)), (22, .bool false), (23, .pointer (some ⟨w1.heap.size, 4, none⟩)), (24, iv cl.asked), (8, iv (k : Int)), (7, iv last)] [] a ∧ St No w0 [blk w1.heap.size [iv cl.number, iv cl.frm, iv cl.to, iv cl.holder, iv cl.asked, .bool cl.backed] 33, blk w0.heap.size [iv rl.answer, iv rl.cooling, iv rl.settle, iv rl.reverse] 31] w) _ ⟨0, cl.asked, rfl, Nat.zero_le _, rfl, hfr.pick [0, 1, 2, 3, 4, 22, 23, 24, 8, 7], hst⟩ ?_
 rintro _ a w5 ⟨k, last, rfl, hk, hab, hfr, hst⟩
 refine wc_seq_k fun K10 hK10 => ?_
 refine wc_seq_region fun K11 hK11 => ?_
 refine wlm hfr rfl fun a hfr => wlm hfr rfl fun a hfr => ?_
 refine wlv hfr ((v_len_sl (sT := 34) (hst.arg hsv) rfl rfl (Try.runUnderlying34 _)).asi (m' := (l.length : Int)) (by simp)) fun a hfr => ?_
 refine wlv hfr (v_lt rfl rfl) fun a hfr => ?_
 refine wl_nil (hK11 _ _ ?_)
 refine wc_cond_d hfr rfl (fun hc4 => ?_) (fun hc4 => ?_)
 ·rw [decide_eq_true hc4] at hfr
  have hkl : k < l.length := by omega
  obtain ⟨ev, hev⟩ : ∃ ev, l.getD k ⟨0, 0, 0⟩ = ev := ⟨_, rfl⟩
  refine wc_skip ?_
  refine hK10 _ _ ?_
  refine wc_seq_k fun K12 hK12 => ?_
  refine wc_block ?_
  refine wc_seq_region fun K13 hK13 => ?_
  refine wlm hfr rfl fun a hfr => wlm hfr rfl fun a hfr => ?_
  refine wlv hfr ((v_indexAddr_sl (i := (k : Int)) (sT := 34) (hst.arg hsv) rfl rfl (Try.runUnderlying34 _) (Try.sizeOf39 _) (by omega) (by simpa using hkl)).as (v' := slAddr sv (k * 3)) rfl) fun a hfr => ?_
  refine wlv hfr ((v_load_sl (hst.arg hsv) (i := k) (by simpa using hkl) rfl (Try.isAgg39 _) (Try.sizeOf39 _)).as (v' := .agg #[iv ev.kind, iv ev.at_, iv ev.reason]) (by rw [← hev]; show _ = Value.agg (l.getD k ⟨0, 0, 0⟩).cells.toArray; simp [hkl])) fun a hfr => ?_
  refine wl_alloc hfr hst (Try.zeroValue39 _) [iv 0, iv 0, iv 0] rfl fun a w6 hfr hst => ?_
  refine wl_sto 0 hfr hst [iv ev.kind, iv ev.at_, iv ev.reason] rfl (Try.sizeOf39 _) fun a w7 hfr hst => ?_
  refine wl_nil (hK13 _ _ ?_)
  refine wc_seq_k fun K14 hK14 => ?_
  refine wc_seq_region fun K15 hK15 => ?_
  refine wlv hfr (v_fieldAddr (v := .pointer (some ⟨w5.heap.size, 0, none⟩)) rfl (by kernel_rfl)) fun a hfr => ?_
  refine wlv hfr (v_load_blk1 (hst.get (k := 0) rfl) rfl (Try.isAgg3 _) rfl) fun a hfr => ?_
  refine wl_callp hfr hst Try.call47 rfl (rin_ok _ _ _ _) fun a w8 hfr hst => ?_
  refine wlv hfr (v_not rfl) fun a hfr => wlm hfr rfl fun a hfr => ?_
  rcases Bool.eq_false_or_eq_true (!(isIn ev.kind 1 6)) with hb5 | hb5
  ·rw [hb5] at hfr
   try simp only [qz] at hb5
   refine wln hfr fun a hfr => ?_
   refine wln hfr fun a hfr => ?_
   refine wln hfr fun a hfr => ?_
   refine wln hfr fun a hfr => ?_
   refine wln hfr fun a hfr => ?_
   refine wlv hfr (v_pick_t rfl rfl) fun a hfr => ?_
   refine wl_nil (hK15 _ _ ?_)
   have hfr : Fr 63 [(0, _), (1, _), (2, _), (3, _), (4, _), (22, _), (23, _), (24, _), (8, _), (7, _), (25, _), (26, _), (27, _), (28, _), (31, _), (32, _), (33, _), (34, _), (9, _), (45, _)] [] a := hfr.pick [0, 1, 2, 3, 4, 22, 23, 24, 8, 7, 25, 26, 27, 28, 31, 32, 33, 34, 9, 45]
   refine wc_cond_t hfr rfl ?_
   refine wc_seq_region fun K16 hK16 => ?_
   refine wla hfr rfl fun a hfr => ?_
   refine wl_nil (hK16 _ _ ?_)
   refine wc_ret ?_
   refine fin_ret hfr Try.results46 (resAre_tmp rfl resAre_nil) ?_
   have hb : anyBad cl.asked l = true := by
    rw [hab, drop_getD l k hkl, hev, anyBad, badEvt]; simp [hb1, hb2, hc3, hc4, hb5] <;> (try simp [isIn, hb1, hb2, hc3, hc4, hb5]) <;> (try omega)
   exact ⟨by simp [retv, valid, hb], hst.ext⟩
  rw [hb5] at hfr
  try simp only [qz] at hb5
  refine wly hfr (v_fieldAddr (v := .pointer (some ⟨w5.heap.size, 1, none⟩)) rfl (by kernel_rfl)) fun a hfr => wly hfr (v_load_blk1 (hst.get (k := 0) rfl) rfl (Try.isAgg3 _) rfl) fun a hfr => wly hfr (v_move rfl) fun a hfr => ?_
  refine wl_callpy hfr hst Try.call47 rfl (rin_ok _ _ _ _) fun a w9 hfr hst => ?_
  refine wly hfr (v_not rfl) fun a hfr => ?_
  refine wlv hfr (v_pick_f rfl rfl) fun a hfr => ?_
  refine wl_nil (hK15 _ _ ?_)
  have hfr : Fr 63 [(0, _), (1, _), (2, _), (3, _), (4, _), (22, _), (23, _), (24, _), (8, _), (7, _), (25, _), (26, _), (27, _), (28, _), (31, _), (32, _), (33, _), (34, _), (9, _), (45, _)] [] a := hfr.pick [0, 1, 2, 3, 4, 22, 23, 24, 8, 7, 25, 26, 27, 28, 31, 32, 33, 34, 9, 45]
  refine wc_cond hfr rfl (fun hc6 => ?_) (fun hc6 => ?_)
  ·rw [hc6] at hfr
   try simp only [qz] at hc6
   refine wc_seq_region fun K17 hK17 => ?_
   refine wla hfr rfl fun a hfr => ?_
   refine wl_nil (hK17 _ _ ?_)
   refine wc_ret ?_
   refine fin_ret hfr Try.results46 (resAre_tmp rfl resAre_nil) ?_
   have hb : anyBad cl.asked l = true := by
    rw [hab, drop_getD l k hkl, hev, anyBad, badEvt]; simp [hb1, hb2, hc3, hc4, hb5, hc6] <;> (try simp [isIn, hb1, hb2, hc3, hc4, hb5, hc6]) <;> (try omega)
   exact ⟨by simp [retv, valid, hb], hst.ext⟩
  rw [hc6] at hfr
  try simp only [qz] at hc6
  refine wc_skip ?_
  refine hK14 _ _ ?_
  refine wc_seq_k fun K18 hK18 => ?_
  refine wc_seq_region fun K19 hK19 => ?_
  refine wlv hfr (v_fieldAddr (v := .pointer (some ⟨w5.heap.size, 0, none⟩)) rfl (by kernel_rfl)) fun a hfr => ?_
  refine wlv hfr (v_load_blk1 (hst.get (k := 0) rfl) rfl (Try.isAgg3 _) rfl) fun a hfr => ?_
  refine wlv hfr (v_eq rfl rfl) fun a hfr => wlm hfr rfl fun a hfr => ?_
  rcases Decidable.em (ev.kind = 2) with hb7 | hb7
  ·rw [decide_eq_true hb7] at hfr
   refine wln hfr fun a hfr => ?_
   refine wln hfr fun a hfr => ?_
   refine wln hfr fun a hfr => ?_
   refine wlv hfr (v_pick_t rfl rfl) fun a hfr => ?_
   refine wl_nil (hK19 _ _ ?_)
   have hfr : Fr 63 [(0, _), (1, _), (2, _), (3, _), (4, _), (22, _), (23, _), (24, _), (8, _), (7, _), (25, _), (26, _), (27, _), (28, _), (31, _), (32, _), (33, _), (34, _), (9, _), (45, _), (53, _)] [] a := hfr.pick [0, 1, 2, 3, 4, 22, 23, 24, 8, 7, 25, 26, 27, 28, 31, 32, 33, 34, 9, 45, 53]
   refine wc_cond_t hfr rfl ?_
   refine wc_seq_region fun K20 hK20 => ?_
   refine wlv hfr (v_fieldAddr (v := .pointer (some ⟨w5.heap.size, 2, none⟩)) rfl (by kernel_rfl)) fun a hfr => ?_
   refine wlv hfr (v_load_blk1 (hst.get (k := 0) rfl) rfl (Try.isAgg3 _) rfl) fun a hfr => ?_
   refine wl_callp hfr hst Try.call47 rfl (rin_ok _ _ _ _) fun a w10 hfr hst => ?_
   refine wlv hfr (v_not rfl) fun a hfr => ?_
   refine wl_nil (hK20 _ _ ?_)
   refine wc_cond hfr rfl (fun hc8 => ?_) (fun hc8 => ?_)
   ·rw [hc8] at hfr
    try simp only [qz] at hc8
    refine wc_seq_region fun K21 hK21 => ?_
    refine wla hfr rfl fun a hfr => ?_
    refine wl_nil (hK21 _ _ ?_)
    refine wc_ret ?_
    refine fin_ret hfr Try.results46 (resAre_tmp rfl resAre_nil) ?_
    have hb : anyBad cl.asked l = true := by
     rw [hab, drop_getD l k hkl, hev, anyBad, badEvt]; simp [hb1, hb2, hc3, hc4, hb5, hc6, hb7, hc8] <;> (try simp [isIn, hb1, hb2, hc3, hc4, hb5, hc6, hb7, hc8]) <;> (try omega)
    exact ⟨by simp [retv, valid, hb], hst.ext⟩
   rw [hc8] at hfr
   try simp only [qz] at hc8
   refine wc_skip ?_
   refine hK18 _ _ ?_
   refine wc_region ?_
   refine wlv hfr (v_fieldAddr (v := .pointer (some ⟨w5.heap.size, 1, none⟩)) rfl (by kernel_rfl)) fun a hfr => ?_
   refine wlv hfr (v_load_blk1 (hst.get (k := 0) rfl) rfl (Try.isAgg3 _) rfl) fun a hfr => wla hfr rfl fun a hfr => ?_
   refine wl_nil ?_
   refine hK12 _ _ ?_
   refine wc_region ?_
   refine wlm hfr rfl fun a hfr => ?_
   refine wlv hfr (v_add rfl rfl ⟨by omega, by omega⟩) fun a hfr => wla hfr rfl fun a hfr => ?_
   refine wl_nil ?_
   have hbe : badEvt last ev = false := by
    rw [badEvt]; simp [hb1, hb2, hc3, hc4, hb5, hc6, hb7, hc8] <;> (try simp [isIn, hb1, hb2, hc3, hc4, hb5, hc6, hb7, hc8]) <;> (try omega)
   refine ⟨_, ?_, k + 1, ev.at_, rfl, (by omega), (by rw [hab, drop_getD l k hkl, hev, anyBad, hbe]; rfl), hfr.pick [0, 1, 2, 3, 4, 22, 23, 24, 8, 7], hst.mask [false, true, true]⟩
   omega
  rw [decide_eq_false hb7] at hfr
  refine wly hfr (v_fieldAddr (v := .pointer (some ⟨w5.heap.size, 0, none⟩)) rfl (by kernel_rfl)) fun a hfr => wly hfr (v_load_blk1 (hst.get (k := 0) rfl) rfl (Try.isAgg3 _) rfl) fun a hfr => wly hfr (v_eq rfl rfl) fun a hfr => ?_
  refine wlv hfr (v_pick_f rfl rfl) fun a hfr => ?_
  refine wl_nil (hK19 _ _ ?_)
  have hfr : Fr 63 [(0, _), (1, _), (2, _), (3, _), (4, _), (22, _), (23, _), (24, _), (8, _), (7, _), (25, _), (26, _), (27, _), (28, _), (31, _), (32, _), (33, _), (34, _), (9, _), (45, _), (53, _)] [] a := hfr.pick [0, 1, 2, 3, 4, 22, 23, 24, 8, 7, 25, 26, 27, 28, 31, 32, 33, 34, 9, 45, 53]
  refine wc_cond_d hfr rfl (fun hc9 => ?_) (fun hc9 => ?_)
  ·rw [decide_eq_true hc9] at hfr
   refine wc_seq_region fun K22 hK22 => ?_
   refine wlv hfr (v_fieldAddr (v := .pointer (some ⟨w5.heap.size, 2, none⟩)) rfl (by kernel_rfl)) fun a hfr => ?_
   refine wlv hfr (v_load_blk1 (hst.get (k := 0) rfl) rfl (Try.isAgg3 _) rfl) fun a hfr => ?_
   refine wl_callp hfr hst Try.call47 rfl (rin_ok _ _ _ _) fun a w11 hfr hst => ?_
   refine wlv hfr (v_not rfl) fun a hfr => ?_
   refine wl_nil (hK22 _ _ ?_)
   refine wc_cond hfr rfl (fun hc10 => ?_) (fun hc10 => ?_)
   ·rw [hc10] at hfr
    try simp only [qz] at hc10
    refine wc_seq_region fun K23 hK23 => ?_
    refine wla hfr rfl fun a hfr => ?_
    refine wl_nil (hK23 _ _ ?_)
    refine wc_ret ?_
    refine fin_ret hfr Try.results46 (resAre_tmp rfl resAre_nil) ?_
    have hb : anyBad cl.asked l = true := by
     rw [hab, drop_getD l k hkl, hev, anyBad, badEvt]; simp [hb1, hb2, hc3, hc4, hb5, hc6, hb7, hc9, hc10] <;> (try simp [isIn, hb1, hb2, hc3, hc4, hb5, hc6, hb7, hc9, hc10]) <;> (try omega)
    exact ⟨by simp [retv, valid, hb], hst.ext⟩
   rw [hc10] at hfr
   try simp only [qz] at hc10
   refine wc_skip ?_
   refine hK18 _ _ ?_
   refine wc_region ?_
   refine wlv hfr (v_fieldAddr (v := .pointer (some ⟨w5.heap.size, 1, none⟩)) rfl (by kernel_rfl)) fun a hfr => ?_
   refine wlv hfr (v_load_blk1 (hst.get (k := 0) rfl) rfl (Try.isAgg3 _) rfl) fun a hfr => wla hfr rfl fun a hfr => ?_
   refine wl_nil ?_
   refine hK12 _ _ ?_
   refine wc_region ?_
   refine wlm hfr rfl fun a hfr => ?_
   refine wlv hfr (v_add rfl rfl ⟨by omega, by omega⟩) fun a hfr => wla hfr rfl fun a hfr => ?_
   refine wl_nil ?_
   have hbe : badEvt last ev = false := by
    rw [badEvt]; simp [hb1, hb2, hc3, hc4, hb5, hc6, hb7, hc9, hc10] <;> (try simp [isIn, hb1, hb2, hc3, hc4, hb5, hc6, hb7, hc9, hc10]) <;> (try omega)
   refine ⟨_, ?_, k + 1, ev.at_, rfl, (by omega), (by rw [hab, drop_getD l k hkl, hev, anyBad, hbe]; rfl), hfr.pick [0, 1, 2, 3, 4, 22, 23, 24, 8, 7], hst.mask [false, true, true]⟩
   omega
  rw [decide_eq_false hc9] at hfr
  refine wc_seq_region fun K24 hK24 => ?_
  refine wlv hfr (v_fieldAddr (v := .pointer (some ⟨w5.heap.size, 2, none⟩)) rfl (by kernel_rfl)) fun a hfr => ?_
  refine wlv hfr (v_load_blk1 (hst.get (k := 0) rfl) rfl (Try.isAgg3 _) rfl) fun a hfr => ?_
  refine wlv hfr (v_ne rfl rfl) fun a hfr => ?_
  refine wl_nil (hK24 _ _ ?_)
  refine wc_cond_n hfr rfl (fun hc11 => ?_) (fun hc11 => ?_)
  ·rw [decide_eq_false hc11] at hfr
   refine wc_seq_region fun K25 hK25 => ?_
   refine wla hfr rfl fun a hfr => ?_
   refine wl_nil (hK25 _ _ ?_)
   refine wc_ret ?_
   refine fin_ret hfr Try.results46 (resAre_tmp rfl resAre_nil) ?_
   have hb : anyBad cl.asked l = true := by
    rw [hab, drop_getD l k hkl, hev, anyBad, badEvt]; simp [hb1, hb2, hc3, hc4, hb5, hc6, hb7, hc9, hc11] <;> (try simp [isIn, hb1, hb2, hc3, hc4, hb5, hc6, hb7, hc9, hc11]) <;> (try omega)
   exact ⟨by simp [retv, valid, hb], hst.ext⟩
  rw [decide_eq_true hc11] at hfr
  refine wc_skip ?_
  refine hK18 _ _ ?_
  refine wc_region ?_
  refine wlv hfr (v_fieldAddr (v := .pointer (some ⟨w5.heap.size, 1, none⟩)) rfl (by kernel_rfl)) fun a hfr => ?_
  refine wlv hfr (v_load_blk1 (hst.get (k := 0) rfl) rfl (Try.isAgg3 _) rfl) fun a hfr => wla hfr rfl fun a hfr => ?_
  refine wl_nil ?_
  refine hK12 _ _ ?_
  refine wc_region ?_
  refine wlm hfr rfl fun a hfr => ?_
  refine wlv hfr (v_add rfl rfl ⟨by omega, by omega⟩) fun a hfr => wla hfr rfl fun a hfr => ?_
  refine wl_nil ?_
  have hbe : badEvt last ev = false := by
   rw [badEvt]; simp [hb1, hb2, hc3, hc4, hb5, hc6, hb7, hc9, hc11] <;> (try simp [isIn, hb1, hb2, hc3, hc4, hb5, hc6, hb7, hc9, hc11]) <;> (try omega)
  refine ⟨_, ?_, k + 1, ev.at_, rfl, (by omega), (by rw [hab, drop_getD l k hkl, hev, anyBad, hbe]; rfl), hfr.pick [0, 1, 2, 3, 4, 22, 23, 24, 8, 7], hst.mask [false, true, true]⟩
  omega
 rw [decide_eq_false hc4] at hfr
 refine wc_exit ?_
 refine hK8 _ _ ?_
 refine wc_seq_region fun K26 hK26 => ?_
 refine wla hfr rfl fun a hfr => ?_
 refine wl_nil (hK26 _ _ ?_)
 refine wc_ret ?_
 refine fin_ret hfr Try.results46 (resAre_tmp rfl resAre_nil) ?_
 have hb : anyBad cl.asked l = false := by
  rw [hab, List.drop_eq_nil_of_le (by omega), anyBad]
 exact ⟨by simp only [retv, valid]; rw [hb]; simp [hb1, hb2, hc3, hc4]; try omega, hst.ext⟩
theorem eqStt (a0 a1 a2 c0 c1 c2 : Int) (w : World) : (Op.equal 54 (.agg #[iv a0, iv a1, iv a2]) (.agg #[iv c0, iv c1, iv c2])).run Try.prog w = .ok (decide (a0 = c0) && decide (a1 = c1) && decide (a2 = c2)) w := by
 unfold Op.equal Op.maxDepth
 obtain ⟨dd, hd⟩ : ∃ dd, 10000 = dd + 1 + 1 := ⟨9998, rfl⟩
 rw [hd, run_equalIn_struct w (dd + 1) 54 _ _ (by kernel_rfl) (by kernel_rfl)]
 simp only [Program.fieldsOf, Try.underlying54, Op.eqFields]
 simp [part, Try.isAgg3, Op.equalIn, run_underlying Try.underlying3]
 by_cases h0 : a0 = c0 <;> by_cases h1 : a1 = c1 <;> by_cases h2 : a2 = c2 <;> simp [h0, h1, h2]
theorem same_end {α : Type} {d : α} {xs ys : List α} {k : Nat} (hl : xs.length = ys.length) (hk : xs.length ≤ k) (h : ∀ j, j < k → xs.getD j d = ys.getD j d) : xs = ys := by
 refine List.ext_getElem hl fun j h1 h2 => ?_
 have := h j (by omega)
 simpa [List.getD_eq_getElem?_getD, h1, h2] using this
theorem same_ne {α : Type} {d : α} {xs ys : List α} {k : Nat} (h : xs.getD k d ≠ ys.getD k d) : xs ≠ ys := fun e => h (by rw [e])
theorem ints_ok (xs ys : List Int) (av bv : Value) (w0 : World) (hav : SlAt w0 av 1 (xs.map (fun i => [iv i]))) (hbv : SlAt w0 bv 1 (ys.map (fun i => [iv i]))) :
  Ret Try.prog 14 #[av, bv] w0 fun v w => v = .bool (decide (xs = ys)) ∧ Ext No w0 w := by
 have hxb := hav.2.1
 simp only [List.length_map, big] at hxb
 refine ret_of Try.func14 rfl Try.ntmps14 (lb rfl) fun a hfr => ?_
 have hfr : Fr 26 [(0, _), (1, _)] [] a := hfr
 have hst : St No w0 [] w0 := St.init w0
 refine wc_seq_region fun K1 hK1 => ?_
 refine wla hfr rfl fun a hfr => ?_
 refine wl_nil (hK1 _ _ ?_)
 refine wc_seq_k fun K2 hK2 => ?_
 refine wc_seq_region fun K3 hK3 => ?_
 refine wlm hfr rfl fun a hfr => ?_
 refine wlv hfr ((v_len_sl (sT := 50) (hst.arg hav) rfl rfl (Try.runUnderlying50 _)).asi (m' := (xs.length : Int)) (by simp)) fun a hfr => wlm hfr rfl fun a hfr => ?_
 refine wlv hfr ((v_len_sl (sT := 50) (hst.arg hbv) rfl rfl (Try.runUnderlying50 _)).asi (m' := (ys.length : Int)) (by simp)) fun a hfr => ?_
 refine wlv hfr (v_ne rfl rfl) fun a hfr => ?_
 refine wl_nil (hK3 _ _ ?_)
 refine wc_cond_n hfr rfl (fun hc1 => ?_) (fun hc1 => ?_)
 ·rw [decide_eq_false hc1] at hfr
  refine wc_seq_region fun K4 hK4 => ?_
  refine wla hfr rfl fun a hfr => ?_
  refine wl_nil (hK4 _ _ ?_)
  refine wc_ret ?_
  refine fin_ret hfr Try.results14 (resAre_tmp rfl resAre_nil) ?_
  exact ⟨by simp only [retv]; congr 1; exact (decide_eq_false (fun h => by subst h; simp_all)).symm, hst.ext⟩
 rw [decide_eq_true hc1] at hfr
 refine wc_skip ?_
 refine hK2 _ _ ?_
 refine wc_seq_k fun K5 hK5 => ?_
 refine wc_seq_region fun K6 hK6 => ?_
 refine wla hfr rfl fun a hfr => ?_
 refine wl_nil (hK6 _ _ ?_)
 refine wc_block ?_
 refine wc_loop (fun m a w => ∃ (k : Nat), m = xs.length - k ∧ (k ≤ xs.length) ∧ (xs.length = ys.length) ∧ (∀ j, j < k → xs.getD j 0 = ys.getD j 0) ∧ Fr 26 [(0, av), (1, bv), (6, av), (7, iv (xs.length : Int)), (8, bv), (9, iv (ys.length : Int)), (10, .bool false), (5, iv (k : Int))] [] a ∧ St No w0 [] w) _ ⟨0, rfl, Nat.zero_le _, (by omega), (by intro j hj; omega), hfr.pick [0, 1, 6, 7, 8, 9, 10, 5], hst⟩ ?_
 rintro _ a w1 ⟨k, rfl, hk, hlen, hsame, hfr, hst⟩
 refine wc_seq_k fun K7 hK7 => ?_
 refine wc_seq_region fun K8 hK8 => ?_
 refine wlm hfr rfl fun a hfr => wlm hfr rfl fun a hfr => ?_
 refine wlv hfr ((v_len_sl (sT := 50) (hst.arg hav) rfl rfl (Try.runUnderlying50 _)).asi (m' := (xs.length : Int)) (by simp)) fun a hfr => ?_
 refine wlv hfr (v_lt rfl rfl) fun a hfr => ?_
 refine wl_nil (hK8 _ _ ?_)
 refine wc_cond_d hfr rfl (fun hc2 => ?_) (fun hc2 => ?_)
 ·rw [decide_eq_true hc2] at hfr
  have hkx : k < xs.length := by omega
  have hky : k < ys.length := by omega
  obtain ⟨p, hp⟩ : ∃ p, xs.getD k 0 = p := ⟨_, rfl⟩
  obtain ⟨q, hq⟩ : ∃ q, ys.getD k 0 = q := ⟨_, rfl⟩
  refine wc_skip ?_
  refine hK7 _ _ ?_
  refine wc_seq_k fun K9 hK9 => ?_
  refine wc_block ?_
  refine wc_seq_k fun K10 hK10 => ?_
  refine wc_of_dr ?_
  have hfr : Fr 26 [(0, _), (1, _), (6, _), (7, _), (8, _), (9, _), (10, _), (5, _), (11, _), (12, _), (13, _), (14, _)] [] a := hfr.pick [0, 1, 6, 7, 8, 9, 10, 5, 11, 12, 13, 14]
  refine wc_phases' 9 [[], [], [0, 1], [2], [], [], [4, 5], [6], [3, 7]] (fun i => match i with | 0 => pv (av) | 1 => pv (iv (k : Int)) | 2 => pv (slAddr av (k * 1)) | 3 => pv (iv p) | 4 => pv (bv) | 5 => pv (iv (k : Int)) | 6 => pv (slAddr bv (k * 1)) | 7 => pv (iv q) | 8 => pv (.bool (!decide (p = q))) | _ => fun _ _ => False) hfr hst (by kernel_rfl) (by kernel_rfl) ?_ ?_
  ·intro i hi
   match i, hi with
   | 0, _ =>
    intro w hst
    exact OpV.g (v_move rfl)
   | 1, _ =>
    intro w hst
    exact OpV.g (v_move rfl)
   | 2, _ =>
    rintro _ _ ⟨rfl, rfl⟩ _ _ ⟨rfl, rfl⟩
    intro w hst
    exact OpV.g ((v_indexAddr_sl (i := (k : Int)) (sT := 50) (hst.arg hav) rfl rfl (Try.runUnderlying50 _) (Try.sizeOf3 _) (by omega) (by simpa using hkx)).as (v' := slAddr av (k * 1)) rfl)
   | 3, _ =>
    rintro _ _ ⟨rfl, rfl⟩
    intro w hst
    exact OpV.g (v_load_sl1 (u := iv p) (i := k) (j := 0) (hst.arg hav) (by simpa using hkx) rfl (Try.isAgg3 _) (by rw [← hp]; simp [hkx]))
   | 4, _ =>
    intro w hst
    exact OpV.g (v_move rfl)
   | 5, _ =>
    intro w hst
    exact OpV.g (v_move rfl)
   | 6, _ =>
    rintro _ _ ⟨rfl, rfl⟩ _ _ ⟨rfl, rfl⟩
    intro w hst
    exact OpV.g ((v_indexAddr_sl (i := (k : Int)) (sT := 50) (hst.arg hbv) rfl rfl (Try.runUnderlying50 _) (Try.sizeOf3 _) (by omega) (by simpa using hky)).as (v' := slAddr bv (k * 1)) rfl)
   | 7, _ =>
    rintro _ _ ⟨rfl, rfl⟩
    intro w hst
    exact OpV.g (v_load_sl1 (u := iv q) (i := k) (j := 0) (hst.arg hbv) (by simpa using hky) rfl (Try.isAgg3 _) (by rw [← hq]; simp [hky]))
   | 8, _ =>
    rintro _ _ ⟨rfl, rfl⟩ _ _ ⟨rfl, rfl⟩
    intro w hst
    exact OpV.g (v_ne rfl rfl)
  rintro _ _ ⟨rfl, rfl⟩ _ _ ⟨rfl, rfl⟩ _ _ ⟨rfl, rfl⟩ _ _ ⟨rfl, rfl⟩ _ _ ⟨rfl, rfl⟩ _ _ ⟨rfl, rfl⟩ _ _ ⟨rfl, rfl⟩ _ _ ⟨rfl, rfl⟩ _ _ ⟨rfl, rfl⟩ a w2 hfr hst
  have hfr : Fr 26 [(17, _), (18, _), (19, _), (20, _), (21, _), (22, _), (23, _), (24, _), (25, _), (0, _), (1, _), (6, _), (7, _), (8, _), (9, _), (10, _), (5, _), (11, _), (12, _), (13, _), (14, _)] [] a := hfr
  have hst : St No w0 [] w2 := hst
  refine wl_nil ?_
  refine hK10 _ _ ?_
  have hfr : Fr 26 [(0, _), (1, _), (6, _), (7, _), (8, _), (9, _), (10, _), (5, _), (11, _), (12, _), (13, _), (14, _), (25, _)] [] a := hfr.pick [0, 1, 6, 7, 8, 9, 10, 5, 11, 12, 13, 14, 25]
  refine wc_cond_n hfr rfl (fun hc3 => ?_) (fun hc3 => ?_)
  ·rw [decide_eq_false hc3] at hfr
   refine wc_seq_region fun K11 hK11 => ?_
   refine wla hfr rfl fun a hfr => ?_
   refine wl_nil (hK11 _ _ ?_)
   refine wc_ret ?_
   refine fin_ret hfr Try.results14 (resAre_tmp rfl resAre_nil) ?_
   exact ⟨by simp only [retv]; congr 1; exact (decide_eq_false (same_ne (d := 0) (k := k) (by rw [hp, hq]; intro h; subst h; simp_all))).symm, hst.ext⟩
  rw [decide_eq_true hc3] at hfr
  refine wc_skip ?_
  refine hK9 _ _ ?_
  refine wc_region ?_
  refine wlm hfr rfl fun a hfr => ?_
  refine wlv hfr (v_add rfl rfl ⟨by omega, by omega⟩) fun a hfr => wla hfr rfl fun a hfr => ?_
  refine wl_nil ?_
  refine ⟨_, ?_, k + 1, rfl, (by omega), hlen, (by intro j hj; by_cases h : j = k; (subst h; rw [hp, hq]; simp_all); exact hsame j (by omega)), hfr.pick [0, 1, 6, 7, 8, 9, 10, 5], hst⟩
  omega
 rw [decide_eq_false hc2] at hfr
 refine wc_exit ?_
 refine hK5 _ _ ?_
 refine wc_seq_region fun K12 hK12 => ?_
 refine wla hfr rfl fun a hfr => ?_
 refine wl_nil (hK12 _ _ ?_)
 refine wc_ret ?_
 refine fin_ret hfr Try.results14 (resAre_tmp rfl resAre_nil) ?_
 exact ⟨by simp only [retv]; congr 1; exact (decide_eq_true (same_end hlen (by omega) hsame)).symm, hst.ext⟩
theorem sameTimeline_ok (xs ys : List Stt) (av bv : Value) (w0 : World) (hav : SlAt w0 av 3 (xs.map Stt.cells)) (hbv : SlAt w0 bv 3 (ys.map Stt.cells)) :
  Ret Try.prog 21 #[av, bv] w0 fun v w => v = .bool (decide (xs = ys)) ∧ Ext No w0 w := by
 have hxb := hav.2.1
 simp only [List.length_map, big] at hxb
 refine ret_of Try.func21 rfl Try.ntmps21 (lb rfl) fun a hfr => ?_
 have hfr : Fr 26 [(0, _), (1, _)] [] a := hfr
 have hst : St No w0 [] w0 := St.init w0
 refine wc_seq_region fun K1 hK1 => ?_
 refine wla hfr rfl fun a hfr => ?_
 refine wl_nil (hK1 _ _ ?_)
 refine wc_seq_k fun K2 hK2 => ?_
 refine wc_seq_region fun K3 hK3 => ?_
 refine wlm hfr rfl fun a hfr => ?_
 refine wlv hfr ((v_len_sl (sT := 63) (hst.arg hav) rfl rfl (Try.runUnderlying63 _)).asi (m' := (xs.length : Int)) (by simp)) fun a hfr => wlm hfr rfl fun a hfr => ?_
 refine wlv hfr ((v_len_sl (sT := 63) (hst.arg hbv) rfl rfl (Try.runUnderlying63 _)).asi (m' := (ys.length : Int)) (by simp)) fun a hfr => ?_
 refine wlv hfr (v_ne rfl rfl) fun a hfr => ?_
 refine wl_nil (hK3 _ _ ?_)
 refine wc_cond_n hfr rfl (fun hc1 => ?_) (fun hc1 => ?_)
 ·rw [decide_eq_false hc1] at hfr
  refine wc_seq_region fun K4 hK4 => ?_
  refine wla hfr rfl fun a hfr => ?_
  refine wl_nil (hK4 _ _ ?_)
  refine wc_ret ?_
  refine fin_ret hfr Try.results21 (resAre_tmp rfl resAre_nil) ?_
  exact ⟨by simp only [retv]; congr 1; exact (decide_eq_false (fun h => by subst h; simp_all)).symm, hst.ext⟩
 rw [decide_eq_true hc1] at hfr
 refine wc_skip ?_
 refine hK2 _ _ ?_
 refine wc_seq_k fun K5 hK5 => ?_
 refine wc_seq_region fun K6 hK6 => ?_
 refine wla hfr rfl fun a hfr => ?_
 refine wl_nil (hK6 _ _ ?_)
 refine wc_block ?_
 refine wc_loop (fun m a w => ∃ (k : Nat), m = xs.length - k ∧ (k ≤ xs.length) ∧ (xs.length = ys.length) ∧ (∀ j, j < k → xs.getD j ⟨0, 0, 0⟩ = ys.getD j ⟨0, 0, 0⟩) ∧ Fr 26 [(0, av), (1, bv), (6, av), (7, iv (xs.length : Int)), (8, bv), (9, iv (ys.length : Int)), (10, .bool false), (5, iv (k : Int))] [] a ∧ St No w0 [] w) _ ⟨0, rfl, Nat.zero_le _, (by omega), (by intro j hj; omega), hfr.pick [0, 1, 6, 7, 8, 9, 10, 5], hst⟩ ?_
 rintro _ a w1 ⟨k, rfl, hk, hlen, hsame, hfr, hst⟩
 refine wc_seq_k fun K7 hK7 => ?_
 refine wc_seq_region fun K8 hK8 => ?_
 refine wlm hfr rfl fun a hfr => wlm hfr rfl fun a hfr => ?_
 refine wlv hfr ((v_len_sl (sT := 63) (hst.arg hav) rfl rfl (Try.runUnderlying63 _)).asi (m' := (xs.length : Int)) (by simp)) fun a hfr => ?_
 refine wlv hfr (v_lt rfl rfl) fun a hfr => ?_
 refine wl_nil (hK8 _ _ ?_)
 refine wc_cond_d hfr rfl (fun hc2 => ?_) (fun hc2 => ?_)
 ·rw [decide_eq_true hc2] at hfr
  have hkx : k < xs.length := by omega
  have hky : k < ys.length := by omega
  obtain ⟨p, hp⟩ : ∃ p, xs.getD k ⟨0, 0, 0⟩ = p := ⟨_, rfl⟩
  obtain ⟨q, hq⟩ : ∃ q, ys.getD k ⟨0, 0, 0⟩ = q := ⟨_, rfl⟩
  refine wc_skip ?_
  refine hK7 _ _ ?_
  refine wc_seq_k fun K9 hK9 => ?_
  refine wc_block ?_
  refine wc_seq_k fun K10 hK10 => ?_
  refine wc_of_dr ?_
  have hfr : Fr 26 [(0, _), (1, _), (6, _), (7, _), (8, _), (9, _), (10, _), (5, _), (11, _), (12, _), (13, _), (14, _)] [] a := hfr.pick [0, 1, 6, 7, 8, 9, 10, 5, 11, 12, 13, 14]
  refine wc_phases' 9 [[], [], [0, 1], [2], [], [], [4, 5], [6], [3, 7]] (fun i => match i with | 0 => pv (av) | 1 => pv (iv (k : Int)) | 2 => pv (slAddr av (k * 3)) | 3 => pv (.agg #[iv p.state, iv p.since, iv p.next]) | 4 => pv (bv) | 5 => pv (iv (k : Int)) | 6 => pv (slAddr bv (k * 3)) | 7 => pv (.agg #[iv q.state, iv q.since, iv q.next]) | 8 => pv (.bool (!(decide (p.state = q.state) && decide (p.since = q.since) && decide (p.next = q.next)))) | _ => fun _ _ => False) hfr hst (by kernel_rfl) (by kernel_rfl) ?_ ?_
  ·intro i hi
   match i, hi with
   | 0, _ =>
    intro w hst
    exact OpV.g (v_move rfl)
   | 1, _ =>
    intro w hst
    exact OpV.g (v_move rfl)
   | 2, _ =>
    rintro _ _ ⟨rfl, rfl⟩ _ _ ⟨rfl, rfl⟩
    intro w hst
    exact OpV.g ((v_indexAddr_sl (i := (k : Int)) (sT := 63) (hst.arg hav) rfl rfl (Try.runUnderlying63 _) (Try.sizeOf54 _) (by omega) (by simpa using hkx)).as (v' := slAddr av (k * 3)) rfl)
   | 3, _ =>
    rintro _ _ ⟨rfl, rfl⟩
    intro w hst
    exact OpV.g ((v_load_sl (hst.arg hav) (i := k) (by simpa using hkx) rfl (Try.isAgg54 _) (Try.sizeOf54 _)).as (v' := .agg #[iv p.state, iv p.since, iv p.next]) (by rw [← hp]; simp [hkx, Stt.cells]))
   | 4, _ =>
    intro w hst
    exact OpV.g (v_move rfl)
   | 5, _ =>
    intro w hst
    exact OpV.g (v_move rfl)
   | 6, _ =>
    rintro _ _ ⟨rfl, rfl⟩ _ _ ⟨rfl, rfl⟩
    intro w hst
    exact OpV.g ((v_indexAddr_sl (i := (k : Int)) (sT := 63) (hst.arg hbv) rfl rfl (Try.runUnderlying63 _) (Try.sizeOf54 _) (by omega) (by simpa using hky)).as (v' := slAddr bv (k * 3)) rfl)
   | 7, _ =>
    rintro _ _ ⟨rfl, rfl⟩
    intro w hst
    exact OpV.g ((v_load_sl (hst.arg hbv) (i := k) (by simpa using hky) rfl (Try.isAgg54 _) (Try.sizeOf54 _)).as (v' := .agg #[iv q.state, iv q.since, iv q.next]) (by rw [← hq]; simp [hky, Stt.cells]))
   | 8, _ =>
    rintro _ _ ⟨rfl, rfl⟩ _ _ ⟨rfl, rfl⟩
    intro w hst
    exact OpV.g (v_ne_agg rfl rfl (by kernel_rfl) (eqStt p.state p.since p.next q.state q.since q.next _))
  rintro _ _ ⟨rfl, rfl⟩ _ _ ⟨rfl, rfl⟩ _ _ ⟨rfl, rfl⟩ _ _ ⟨rfl, rfl⟩ _ _ ⟨rfl, rfl⟩ _ _ ⟨rfl, rfl⟩ _ _ ⟨rfl, rfl⟩ _ _ ⟨rfl, rfl⟩ _ _ ⟨rfl, rfl⟩ a w2 hfr hst
  have hfr : Fr 26 [(17, _), (18, _), (19, _), (20, _), (21, _), (22, _), (23, _), (24, _), (25, _), (0, _), (1, _), (6, _), (7, _), (8, _), (9, _), (10, _), (5, _), (11, _), (12, _), (13, _), (14, _)] [] a := hfr
  have hst : St No w0 [] w2 := hst
  refine wl_nil ?_
  refine hK10 _ _ ?_
  have hfr : Fr 26 [(0, _), (1, _), (6, _), (7, _), (8, _), (9, _), (10, _), (5, _), (11, _), (12, _), (13, _), (14, _), (25, _)] [] a := hfr.pick [0, 1, 6, 7, 8, 9, 10, 5, 11, 12, 13, 14, 25]
  refine wc_cond hfr rfl (fun hc3 => ?_) (fun hc3 => ?_)
  ·rw [hc3] at hfr
   try simp only [qz] at hc3
   refine wc_seq_region fun K11 hK11 => ?_
   refine wla hfr rfl fun a hfr => ?_
   refine wl_nil (hK11 _ _ ?_)
   refine wc_ret ?_
   refine fin_ret hfr Try.results21 (resAre_tmp rfl resAre_nil) ?_
   exact ⟨by simp only [retv]; congr 1; exact (decide_eq_false (same_ne (d := ⟨0, 0, 0⟩) (k := k) (by rw [hp, hq]; intro h; subst h; simp_all))).symm, hst.ext⟩
  rw [hc3] at hfr
  try simp only [qz] at hc3
  refine wc_skip ?_
  refine hK9 _ _ ?_
  refine wc_region ?_
  refine wlm hfr rfl fun a hfr => ?_
  refine wlv hfr (v_add rfl rfl ⟨by omega, by omega⟩) fun a hfr => wla hfr rfl fun a hfr => ?_
  refine wl_nil ?_
  refine ⟨_, ?_, k + 1, rfl, (by omega), hlen, (by intro j hj; by_cases h : j = k; (subst h; rw [hp, hq]; cases p; cases q; simp_all); exact hsame j (by omega)), hfr.pick [0, 1, 6, 7, 8, 9, 10, 5], hst⟩
  omega
 rw [decide_eq_false hc2] at hfr
 refine wc_exit ?_
 refine hK5 _ _ ?_
 refine wc_seq_region fun K12 hK12 => ?_
 refine wla hfr rfl fun a hfr => ?_
 refine wl_nil (hK12 _ _ ?_)
 refine wc_ret ?_
 refine fin_ret hfr Try.results21 (resAre_tmp rfl resAre_nil) ?_
 exact ⟨by simp only [retv]; congr 1; exact (decide_eq_true (same_end hlen (by omega) hsame)).symm, hst.ext⟩
end Go.Proofs.Ytnfnkohkcmkddaa
