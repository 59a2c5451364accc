import Derived.Test.YtdamipejlfipcaaClaimR
import Derived.Test.YtdamipejlfipcaaClaimN
namespace Go.Proofs.Ytdamipejlfipcaa
open Go.RowKit Go.PW
set_option linter.unusedVariables false
set_option linter.unusedSimpArgs false
set_option maxRecDepth 4000

theorem snoc_last {now1 nw : Stt} {d0 dn : List Stt} (h : lastOf nw dn = now1) : ∃ d1, d0 ++ nw :: dn = d1 ++ [now1] := by
  rcases List.eq_nil_or_concat dn with rfl | ⟨q, s, rfl⟩
  · exact ⟨d0, by rw [← h]; rfl⟩
  · refine ⟨d0 ++ nw :: q, ?_⟩
    have hs : s = now1 := by rw [← h]; simp [lastOf]
    subst hs; simp

set_option maxHeartbeats 4000000 in
/-- dialtone/dialtoneref16.run -/
theorem run_ok (rl : Rul) (cl : Clm) (sv : Value) (l : List Evt) (t : Int) (w0 : World) (hsv : SlAt w0 sv 3 (l.map Evt.cells)) (hv : valid rl cl l = true) (h0 : 0 ≤ t) (h1 : t ≤ 40000000) :
    Ret Try.prog 57 #[.agg #[.int .i64 rl.answer, .int .i64 rl.cooling, .int .i64 rl.settle, .int .i64 rl.reverse], .agg #[.int .i64 cl.number, .int .i64 cl.frm, .int .i64 cl.to, .int .i64 cl.holder, .int .i64 cl.asked, .bool cl.backed], sv, .int .i64 t] w0 (MemR w0 (fun x : Value × Value => .tuple #[x.1, x.2]) (fun x => [own x.1 39 3 ((runS rl cl l t).map Stt.cells), own x.2 3 1 ((runV rl cl l t).map fun i => [.int .i64 i])]) (fun _ => True)) := by
  obtain ⟨hr, hc, hlen, hbad⟩ := valid_parts hv
  have hcl := isClaim_le hc
  have hfs : Sound rl (first rl cl) := Sound.begins 1 cl.asked (by omega) (by omega)
  refine ret_of Try.func57 rfl Try.ntmps57 (Nat.le_of_ble_eq_true rfl) fun a hfr => ?_
  have hfr : Fr 107 [(0, _), (1, _), (2, _), (3, _)] [] a := hfr
  have hst : St No w0 [] w0 := St.init w0
  refine wc_seq_region fun K1 hK1 => ?_
  refine wl_box hfr hst (by decide) rfl (cs := [.int .i64 rl.answer, .int .i64 rl.cooling, .int .i64 rl.settle, .int .i64 rl.reverse]) rfl fun a w1 hfr hst => ?_
  refine wl_box hfr hst (by decide) rfl (cs := [.int .i64 cl.number, .int .i64 cl.frm, .int .i64 cl.to, .int .i64 cl.holder, .int .i64 cl.asked, .bool cl.backed]) rfl fun a w2 hfr hst => ?_
  refine wl_v hfr (by decide) (v_assign rfl) fun a hfr => ?_
  refine wl_v hfr (by decide) (v_assign rfl) fun a hfr => ?_
  refine wl_nil (hK1 _ _ ?_)
  refine wc_seq_region fun K2 hK2 => ?_
  refine wl_v hfr (by decide) (v_load_all (hst.get (k := 1) rfl) rfl (Try.isAgg29 _) (Try.sizeOf29 _)) fun a hfr => ?_
  refine wl_v hfr (by decide) (v_fieldAddr (v := .pointer (some ⟨w1.heap.size, 4, none⟩)) rfl (by kernel_rfl)) fun a hfr => ?_
  refine wl_v hfr (by decide) (v_load_blk1 (hst.get (k := 0) rfl) rfl (Try.isAgg3 _) rfl) fun a hfr => ?_
  refine wl_callp hfr hst (by decide) Try.call84 rfl (status_ok rl 1 cl.asked _ hr (by omega) (by omega)) fun a w3 hfr hst => ?_
  refine wl_buildSlice (E := 39) (sz := 3) rfl [[.int .i64 ((begins rl 1 cl.asked).state), .int .i64 ((begins rl 1 cl.asked).since), .int .i64 ((begins rl 1 cl.asked).next)]] (by kernel_rfl) (by simp) rfl (by decide) (by decide) hfr hst fun a w4 hfr hst => ?_
  refine wl_v hfr (by decide) (v_assign rfl) fun a hfr => ?_
  refine wl_nil (hK2 _ _ ?_)
  refine wc_seq_region fun K3 hK3 => ?_
  refine wl_v hfr (by decide) (v_assign rfl) fun a hfr => ?_
  refine wl_nil (hK3 _ _ ?_)
  refine wc_seq_k fun K4 hK4 => ?_
  refine wc_seq_region fun K5 hK5 => ?_
  refine wl_v hfr (by decide) (v_assign rfl) fun a hfr => ?_
  refine wl_nil (hK5 _ _ ?_)
  refine wc_block ?_
  have hst : St No w0 (own (.slice none 0 0) 3 1 [] :: [own (.slice (some ⟨w3.heap.size, 0, none⟩) 1 1) 39 3 ([[.int .i64 ((begins rl 1 cl.asked).state), .int .i64 ((begins rl 1 cl.asked).since), .int .i64 ((begins rl 1 cl.asked).next)]]), blk w1.heap.size [.int .i64 cl.number, .int .i64 cl.frm, .int .i64 cl.to, .int .i64 cl.holder, .int .i64 cl.asked, .bool cl.backed] 31, blk w0.heap.size [.int .i64 rl.answer, .int .i64 rl.cooling, .int .i64 rl.settle, .int .i64 rl.reverse] 29]) w4 := hst.nil_own
  refine wc_loop (fun m a w => ∃ (k : Nat) (d0 : List Stt) (nw : Stt) (vo : List Int) (v : Value) (u : Value), m = l.length + 1 - k ∧ (k ≤ l.length) ∧ (runS rl cl l t = d0 ++ nw :: (runU rl cl.backed t k nw (l.drop k)).1) ∧ (runV rl cl l t = vo ++ (runU rl cl.backed t k nw (l.drop k)).2) ∧ (Sound rl nw) ∧ (d0.length ≤ 5 * k) ∧ (vo.length ≤ k) ∧ Fr 107 [(0, .agg #[.int .i64 rl.answer, .int .i64 rl.cooling, .int .i64 rl.settle, .int .i64 rl.reverse]), (1, .agg #[.int .i64 cl.number, .int .i64 cl.frm, .int .i64 cl.to, .int .i64 cl.holder, .int .i64 cl.asked, .bool cl.backed]), (2, sv), (3, .int .i64 t), (4, .pointer (some ⟨w0.heap.size, 0, none⟩)), (5, .pointer (some ⟨w1.heap.size, 0, none⟩)), (16, .agg #[.int .i64 rl.answer, .int .i64 rl.cooling, .int .i64 rl.settle, .int .i64 rl.reverse]), (17, .pointer (some ⟨w1.heap.size, 4, none⟩)), (18, .int .i64 cl.asked), (19, .agg #[.int .i64 ((begins rl 1 cl.asked).state), .int .i64 ((begins rl 1 cl.asked).since), .int .i64 ((begins rl 1 cl.asked).next)]), (20, (.slice (some ⟨w3.heap.size, 0, none⟩) 1 1)), (12, .int .i64 (k : Int)), (10, v), (11, u)] [] a ∧ St No w0 [own v 39 3 ((d0 ++ [nw]).map Stt.cells), own u 3 1 (vo.map fun i => [.int .i64 i]), blk w1.heap.size [.int .i64 cl.number, .int .i64 cl.frm, .int .i64 cl.to, .int .i64 cl.holder, .int .i64 cl.asked, .bool cl.backed] 31, blk w0.heap.size [.int .i64 rl.answer, .int .i64 rl.cooling, .int .i64 rl.settle, .int .i64 rl.reverse] 29] w) _ ⟨0, [], first rl cl, [], (.slice (some ⟨w3.heap.size, 0, none⟩) 1 1), .slice none 0 0, rfl, Nat.zero_le _, rfl, rfl, hfs, (by simp), (by simp), hfr.pick [0, 1, 2, 3, 4, 5, 16, 17, 18, 19, 20, 12, 10, 11], hst.select [1, 0, 2, 3] (by decide)⟩ ?_
  rintro _ a w5 ⟨k, d0, nw, vo, v, u, rfl, hk, hsp, hvo, hso, hdl, hvl, hfr, hst⟩
  refine wc_seq_k fun K6 hK6 => ?_
  refine wc_seq_region fun K7 hK7 => ?_
  refine wl_v hfr (by decide) (v_move rfl) fun a hfr => ?_
  refine wl_v hfr (by decide) (v_move rfl) fun a hfr => ?_
  refine wl_v hfr (by decide) ((v_len_sl (sT := 32) (hst.arg hsv) rfl rfl (Try.runUnderlying32 _)).asi (m' := (l.length : Int)) (by simp)) fun a hfr => ?_
  refine wl_v hfr (by decide) (v_le rfl rfl) fun a hfr => ?_
  refine wl_nil (hK7 _ _ ?_)
  refine wc_cond hfr rfl (fun hc1 => ?_) (fun hc1 => ?_)
  · rw [hc1] at hfr
    try simp only [Bool.not_eq_true', Bool.not_eq_false', decide_eq_true_eq, decide_eq_false_iff_not] at hc1
    refine wc_skip ?_
    refine hK6 _ _ ?_
    refine wc_seq_k fun K8 hK8 => ?_
    refine wc_block ?_
    refine wc_seq_region fun K9 hK9 => ?_
    refine wl_v hfr (by decide) (v_move rfl) fun a hfr => ?_
    refine wl_v hfr (by decide) (v_assign rfl) fun a hfr => ?_
    refine wl_nil (hK9 _ _ ?_)
    refine wc_seq_k fun K10 hK10 => ?_
    refine wc_seq_region fun K11 hK11 => ?_
    refine wl_v hfr (by decide) (v_move rfl) fun a hfr => ?_
    refine wl_v hfr (by decide) (v_move rfl) fun a hfr => ?_
    refine wl_v hfr (by decide) ((v_len_sl (sT := 32) (hst.arg hsv) rfl rfl (Try.runUnderlying32 _)).asi (m' := (l.length : Int)) (by simp)) fun a hfr => ?_
    refine wl_v hfr (by decide) (v_lt rfl rfl) fun a hfr => ?_
    refine wl_nil (hK11 _ _ ?_)
    refine wc_cond hfr rfl (fun hc2 => ?_) (fun hc2 => ?_)
    · rw [hc2] at hfr
      try simp only [Bool.not_eq_true', Bool.not_eq_false', decide_eq_true_eq, decide_eq_false_iff_not] at hc2
      have hkl : k < l.length := by omega
      obtain ⟨ev, hev⟩ : ∃ ev, l.getD k ⟨0, 0, 0⟩ = ev := ⟨_, rfl⟩
      have hea := anyBad_at l cl.asked hbad k hkl
      rw [hev] at hea
      refine wc_region ?_
      refine wl_v hfr (by decide) (v_move rfl) fun a hfr => ?_
      refine wl_v hfr (by decide) (v_move rfl) fun a hfr => ?_
      refine wl_v hfr (by decide) ((v_indexAddr_sl (i := (k : Int)) (sT := 32) (hst.arg hsv) rfl rfl (Try.runUnderlying32 _) (Try.sizeOf45 _) (by omega) (by simpa using hkl)).as (v' := slAddr sv (k * 3)) rfl) fun a hfr => ?_
      refine wl_v hfr (by decide) (v_fieldAddr_sl (k := k * 3) (j := 1) (hst.arg hsv) (i := k) (by simpa using hkl) rfl (fun _ _ => by kernel_rfl)) fun a hfr => ?_
      refine wl_v hfr (by decide) (v_load_sl1 (u := .int .i64 ev.at_) (i := k) (j := 1) (hst.arg hsv) (by simpa using hkl) rfl (Try.isAgg3 _) (by rw [← hev]; first | (show _ = Value.agg (l.getD k ⟨0, 0, 0⟩).cells.toArray; simp [hkl]) | simp [hkl, Evt.cells])) fun a hfr => ?_
      refine wl_v hfr (by decide) (v_move rfl) fun a hfr => ?_
      refine wl_v hfr (by decide) (v_min2 rfl rfl) fun a hfr => ?_
      refine wl_v hfr (by decide) (v_assign rfl) fun a hfr => ?_
      refine wl_nil ?_
      refine hK10 _ _ ?_
      have hfr : Fr 107 [(0, _), (1, _), (2, _), (3, _), (4, _), (5, _), (16, _), (17, _), (18, _), (19, _), (20, _), (12, _), (10, _), (11, _), (21, _), (22, _), (23, _), (24, _), (27, _), (28, _), (29, _), (30, _), (31, _), (13, _)] [] a := hfr.pick [0, 1, 2, 3, 4, 5, 16, 17, 18, 19, 20, 12, 10, 11, 21, 22, 23, 24, 27, 28, 29, 30, 31, 13]
      refine wc_seq_region fun K12 hK12 => ?_
      refine wl_v hfr (by decide) (v_move rfl) fun a hfr => ?_
      refine wl_v hfr (by decide) (v_move rfl) fun a hfr => ?_
      refine wl_v hfr (by decide) ((v_len_sl (sT := 47) (hst.ownAt (i := 0) rfl) rfl rfl (Try.runUnderlying47 _)).asi (m' := (d0.length : Int) + 1) (by simp)) fun a hfr => ?_
      refine wl_v hfr (by decide) (v_sub rfl rfl ⟨by omega, by omega⟩) fun a hfr => ?_
      refine wl_v hfr (by decide) ((v_indexAddr_sl (i := ((d0.length : Int) + 1) - 1) (sT := 47) (hst.ownAt (i := 0) rfl) rfl rfl (Try.runUnderlying47 _) (Try.sizeOf39 _) (by omega) (by simp)).as (v' := slAddr v (d0.length * 3)) (by rw [show (((d0.length : Int) + 1) - 1).toNat = d0.length from by omega])) fun a hfr => ?_
      refine wl_v hfr (by decide) ((v_load_sl (hst.ownAt (i := 0) rfl) (i := d0.length) (by simp) rfl (Try.isAgg39 _) (Try.sizeOf39 _)).as (v' := .agg #[.int .i64 nw.state, .int .i64 nw.since, .int .i64 nw.next]) (by simp [Stt.cells])) fun a hfr => ?_
      refine wl_alloc hfr hst (by decide) (Try.zeroValue39 _) (cs := [.int .i64 0, .int .i64 0, .int .i64 0]) rfl fun a w6 hfr hst => ?_
      refine wl_store 0 hfr hst rfl rfl rfl (Try.sizeOf39 _) rfl (Nat.le_of_ble_eq_true rfl) (ds := [.int .i64 nw.state, .int .i64 nw.since, .int .i64 nw.next]) rfl rfl fun a w7 hfr hst => ?_
      refine wl_nil (hK12 _ _ ?_)
      have hfr : Fr 107 [(0, _), (1, _), (2, _), (3, _), (4, _), (5, _), (16, _), (17, _), (18, _), (19, _), (20, _), (12, _), (10, _), (11, _), (21, _), (22, _), (23, _), (24, _), (27, _), (28, _), (29, _), (30, _), (31, _), (13, _), (14, _)] [] a := hfr.pick [0, 1, 2, 3, 4, 5, 16, 17, 18, 19, 20, 12, 10, 11, 21, 22, 23, 24, 27, 28, 29, 30, 31, 13, 14]
      refine wc_seq_k fun K13 hK13 => ?_
      refine wc_block ?_
      obtain ⟨to, hto⟩ : ∃ x, min ev.at_ t = x := ⟨_, rfl⟩
      rw [hto] at hfr
      refine wc_loop (fun m a w => ∃ (n : Nat) (now1 : Stt) (dn : List Stt) (v1 : Value), m = 0 + n ∧ (alone rl to nw = dn ++ aloneF n rl to now1) ∧ (lastOf nw dn = now1) ∧ (Sound rl now1) ∧ (rank now1.state ≤ n) ∧ (dn.length + n ≤ 4) ∧ Fr 107 [(0, .agg #[.int .i64 rl.answer, .int .i64 rl.cooling, .int .i64 rl.settle, .int .i64 rl.reverse]), (1, .agg #[.int .i64 cl.number, .int .i64 cl.frm, .int .i64 cl.to, .int .i64 cl.holder, .int .i64 cl.asked, .bool cl.backed]), (2, sv), (3, .int .i64 t), (4, .pointer (some ⟨w0.heap.size, 0, none⟩)), (5, .pointer (some ⟨w1.heap.size, 0, none⟩)), (16, .agg #[.int .i64 rl.answer, .int .i64 rl.cooling, .int .i64 rl.settle, .int .i64 rl.reverse]), (17, .pointer (some ⟨w1.heap.size, 4, none⟩)), (18, .int .i64 cl.asked), (19, .agg #[.int .i64 ((begins rl 1 cl.asked).state), .int .i64 ((begins rl 1 cl.asked).since), .int .i64 ((begins rl 1 cl.asked).next)]), (20, (.slice (some ⟨w3.heap.size, 0, none⟩) 1 1)), (12, .int .i64 (k : Int)), (11, u), (21, .int .i64 (k : Int)), (22, sv), (23, .int .i64 (l.length : Int)), (24, .bool true), (27, .int .i64 t), (28, .int .i64 (k : Int)), (29, sv), (30, .int .i64 (l.length : Int)), (31, .bool true), (13, .int .i64 to), (14, .pointer (some ⟨w5.heap.size, 0, none⟩)), (10, v1)] [] a ∧ St No w0 [blk w5.heap.size [.int .i64 now1.state, .int .i64 now1.since, .int .i64 now1.next] 39, own v1 39 3 ((d0 ++ nw :: dn).map Stt.cells), own u 3 1 (vo.map fun i => [.int .i64 i]), blk w1.heap.size [.int .i64 cl.number, .int .i64 cl.frm, .int .i64 cl.to, .int .i64 cl.holder, .int .i64 cl.asked, .bool cl.backed] 31, blk w0.heap.size [.int .i64 rl.answer, .int .i64 rl.cooling, .int .i64 rl.settle, .int .i64 rl.reverse] 29] w) _ ⟨4, nw, [], v, rfl, rfl, rfl, hso, (Nat.le_trans (rank_le _) (by decide)), (by simp), hfr.pick [0, 1, 2, 3, 4, 5, 16, 17, 18, 19, 20, 12, 11, 21, 22, 23, 24, 27, 28, 29, 30, 31, 13, 14, 10], hst.select [0, 1, 2, 3, 4] (by decide)⟩ ?_
      rintro _ a w8 ⟨n, now1, dn, v1, rfl, hal, hla, hso1, hrk, hln, hfr, hst⟩
      refine wc_seq_k fun K14 hK14 => ?_
      refine wc_seq_region fun K15 hK15 => ?_
      refine wl_v hfr (by decide) (v_fieldAddr (v := .pointer (some ⟨w5.heap.size, 2, none⟩)) rfl (by kernel_rfl)) fun a hfr => ?_
      refine wl_v hfr (by decide) (v_load_blk1 (hst.get (k := 0) rfl) rfl (Try.isAgg3 _) rfl) fun a hfr => ?_
      refine wl_v hfr (by decide) (v_ge rfl rfl) fun a hfr => ?_
      refine wl_v hfr (by decide) (v_move rfl) fun a hfr => ?_
      rcases Bool.eq_false_or_eq_true (decide (0 ≤ now1.next)) with hb3 | hb3
      · rw [hb3] at hfr
        try simp only [Bool.not_eq_true', Bool.not_eq_false', decide_eq_true_eq, decide_eq_false_iff_not] at hb3
        have hstep := hso1.step hr hb3
        obtain ⟨hs1, hs2, hs3, hs4, hs5, hs6⟩ := (hso1.next hr).resolve_left (by omega)
        obtain ⟨n, rfl⟩ : ∃ n2, n = n2 + 1 := ⟨n - 1, by omega⟩
        have hnx : (if now1.state = 3 then (4 : Int) else if now1.state = 4 then 5 else 3) = dueNext now1.state := by rcases hs1 with e | e | e | e <;> simp [e, dueNext]
        refine wl_vy hfr (by decide) rfl (by decide) rfl (v_fieldAddr (v := .pointer (some ⟨w5.heap.size, 2, none⟩)) rfl (by kernel_rfl)) fun a hfr => ?_
        refine wl_vy hfr (by decide) rfl (by decide) rfl (v_load_blk1 (hst.get (k := 0) rfl) rfl (Try.isAgg3 _) rfl) fun a hfr => ?_
        refine wl_vy hfr (by decide) rfl (by decide) rfl (v_move rfl) fun a hfr => ?_
        refine wl_vy hfr (by decide) rfl (by decide) rfl (v_le rfl rfl) fun a hfr => ?_
        refine wl_v hfr (by decide) (v_pick_t rfl rfl) fun a hfr => ?_
        refine wl_nil (hK15 _ _ ?_)
        have hfr : Fr 107 [(0, _), (1, _), (2, _), (3, _), (4, _), (5, _), (16, _), (17, _), (18, _), (19, _), (20, _), (12, _), (11, _), (21, _), (22, _), (23, _), (24, _), (27, _), (28, _), (29, _), (30, _), (31, _), (13, _), (14, _), (10, _), (53, _)] [] a := hfr.pick [0, 1, 2, 3, 4, 5, 16, 17, 18, 19, 20, 12, 11, 21, 22, 23, 24, 27, 28, 29, 30, 31, 13, 14, 10, 53]
        refine wc_cond hfr rfl (fun hc4 => ?_) (fun hc4 => ?_)
        · rw [hc4] at hfr
          try simp only [Bool.not_eq_true', Bool.not_eq_false', decide_eq_true_eq, decide_eq_false_iff_not] at hc4
          refine wc_skip ?_
          refine hK14 _ _ ?_
          refine wc_block ?_
          refine wc_seq_k fun K16 hK16 => ?_
          refine wc_of_dr (by kernel_rfl) ?_
          have hfr : Fr 107 [(0, _), (1, _), (2, _), (3, _), (4, _), (5, _), (16, _), (17, _), (18, _), (19, _), (20, _), (12, _), (11, _), (21, _), (22, _), (23, _), (24, _), (27, _), (28, _), (29, _), (30, _), (31, _), (13, _), (14, _), (10, _), (53, _)] [] a := hfr.pick [0, 1, 2, 3, 4, 5, 16, 17, 18, 19, 20, 12, 11, 21, 22, 23, 24, 27, 28, 29, 30, 31, 13, 14, 10, 53]
          refine wc_phases' 7 [[], [], [1], [2], [], [4], [0, 3, 5]] (fun i => match i with | 0 => pv (.agg #[.int .i64 rl.answer, .int .i64 rl.cooling, .int .i64 rl.settle, .int .i64 rl.reverse]) | 1 => pv (.pointer (some ⟨w5.heap.size, 0, none⟩)) | 2 => pv (.int .i64 now1.state) | 3 => pv (.int .i64 (dueNext now1.state)) | 4 => pv (.pointer (some ⟨w5.heap.size, 2, none⟩)) | 5 => pv (.int .i64 now1.next) | 6 => pv (.agg #[.int .i64 ((begins rl (dueNext now1.state) now1.next).state), .int .i64 ((begins rl (dueNext now1.state) now1.next).since), .int .i64 ((begins rl (dueNext now1.state) now1.next).next)]) | _ => fun _ _ => False) hfr hst (by kernel_rfl) (by kernel_rfl) ?_ ?_
          · intro i hi
            match i, hi with
            | 0, _ =>
              intro w hst
              exact OpV.g (v_load_all (hst.get (k := 4) rfl) rfl (Try.isAgg29 _) (Try.sizeOf29 _))
            | 1, _ =>
              intro w hst
              exact OpV.g (v_fieldAddr (v := .pointer (some ⟨w5.heap.size, 0, none⟩)) rfl (by kernel_rfl))
            | 2, _ =>
              rintro _ _ ⟨rfl, rfl⟩
              intro w hst
              exact OpV.g (v_load_blk1 (hst.get (k := 0) rfl) rfl (Try.isAgg3 _) rfl)
            | 3, _ =>
              rintro _ _ ⟨rfl, rfl⟩
              intro w hst
              exact g_callp Try.call85 rfl ((hnx ▸ rafter_ok now1.state _))
            | 4, _ =>
              intro w hst
              exact OpV.g (v_fieldAddr (v := .pointer (some ⟨w5.heap.size, 2, none⟩)) rfl (by kernel_rfl))
            | 5, _ =>
              rintro _ _ ⟨rfl, rfl⟩
              intro w hst
              exact OpV.g (v_load_blk1 (hst.get (k := 0) rfl) rfl (Try.isAgg3 _) rfl)
            | 6, _ =>
              rintro _ _ ⟨rfl, rfl⟩ _ _ ⟨rfl, rfl⟩ _ _ ⟨rfl, rfl⟩
              intro w hst
              exact g_callp Try.call84 rfl (status_ok rl (dueNext now1.state) now1.next _ hr (by omega) (by omega))
          rintro _ _ ⟨rfl, rfl⟩ _ _ ⟨rfl, rfl⟩ _ _ ⟨rfl, rfl⟩ _ _ ⟨rfl, rfl⟩ _ _ ⟨rfl, rfl⟩ _ _ ⟨rfl, rfl⟩ _ _ ⟨rfl, rfl⟩ a w9 hfr hst
          have hfr : Fr 107 [(54, _), (55, _), (56, _), (57, _), (58, _), (59, _), (60, _), (0, _), (1, _), (2, _), (3, _), (4, _), (5, _), (16, _), (17, _), (18, _), (19, _), (20, _), (12, _), (11, _), (21, _), (22, _), (23, _), (24, _), (27, _), (28, _), (29, _), (30, _), (31, _), (13, _), (14, _), (10, _), (53, _)] [] a := hfr
          have hst : St No w0 [_, _, _, _, _] w9 := hst
          refine wl_store 0 hfr hst rfl rfl rfl (Try.sizeOf39 _) rfl (Nat.le_of_ble_eq_true rfl) (ds := [.int .i64 ((begins rl (dueNext now1.state) now1.next).state), .int .i64 ((begins rl (dueNext now1.state) now1.next).since), .int .i64 ((begins rl (dueNext now1.state) now1.next).next)]) rfl rfl fun a w10 hfr hst => ?_
          refine wl_nil ?_
          refine hK16 _ _ ?_
          have hfr : Fr 107 [(0, _), (1, _), (2, _), (3, _), (4, _), (5, _), (16, _), (17, _), (18, _), (19, _), (20, _), (12, _), (11, _), (21, _), (22, _), (23, _), (24, _), (27, _), (28, _), (29, _), (30, _), (31, _), (13, _), (14, _), (10, _), (53, _)] [] a := hfr.pick [0, 1, 2, 3, 4, 5, 16, 17, 18, 19, 20, 12, 11, 21, 22, 23, 24, 27, 28, 29, 30, 31, 13, 14, 10, 53]
          refine wc_region ?_
          refine wl_v hfr (by decide) (v_move rfl) fun a hfr => ?_
          refine wl_v hfr (by decide) (v_load_all (hst.get (k := 0) rfl) rfl (Try.isAgg39 _) (Try.sizeOf39 _)) fun a hfr => ?_
          refine wl_buildSlice (E := 39) (sz := 3) rfl [[.int .i64 ((begins rl (dueNext now1.state) now1.next).state), .int .i64 ((begins rl (dueNext now1.state) now1.next).since), .int .i64 ((begins rl (dueNext now1.state) now1.next).next)]] (by kernel_rfl) (by simp) rfl (by decide) (by decide) hfr hst fun a w11 hfr hst => ?_
          refine wl_append (i := 2) (sT := 47) (inf := Try.t39) (z := .agg #[.int .i64 0, .int .i64 0, .int .i64 0]) (b := 0) (off := 0) (m := 0) (c := 0) rfl rfl rfl (hst.ownAt (i := 0) rfl) (by simp) Try.underlying47 rfl rfl rfl rfl (by decide) (by simp [Value.oneCell']) (by have hby : Try.t3.bytes = 8 := rfl; have hby2 : Try.t39.bytes = 24 := rfl; simp [big, hby, hby2]; omega) (by have hby : Try.t3.bytes = 8 := rfl; have hby2 : Try.t39.bytes = 24 := rfl; simp [big, hby, hby2]; omega) (by decide) hfr hst fun a w12 s5 hfr hst _ => ?_
          refine wl_v hfr (by decide) (v_assign rfl) fun a hfr => ?_
          refine wl_nil ?_
          rw [show ((d0 ++ nw :: dn).map Stt.cells) ++ [[.int .i64 (begins rl (dueNext now1.state) now1.next).state, .int .i64 (begins rl (dueNext now1.state) now1.next).since, .int .i64 (begins rl (dueNext now1.state) now1.next).next]] = (d0 ++ nw :: (dn ++ [begins rl (dueNext now1.state) now1.next])).map Stt.cells from by simp [Stt.cells]] at hst
          refine ⟨_, ?_, n, begins rl (dueNext now1.state) now1.next, dn ++ [begins rl (dueNext now1.state) now1.next], s5, rfl, (by rw [hal, aloneF_pos (by assumption) (by assumption)]; simp), (by rw [lastOf_append, lastOf_cons]; rfl), hstep.1, (by simp only [begins]; omega), (by simp; omega), hfr.pick [0, 1, 2, 3, 4, 5, 16, 17, 18, 19, 20, 12, 11, 21, 22, 23, 24, 27, 28, 29, 30, 31, 13, 14, 10], hst.select [1, 2, 3, 4, 5] (by decide)⟩
          omega
        rw [hc4] at hfr
        try simp only [Bool.not_eq_true', Bool.not_eq_false', decide_eq_true_eq, decide_eq_false_iff_not] at hc4
        refine wc_exit ?_
        refine hK13 _ _ ?_
        refine wc_seq_k fun K17 hK17 => ?_
        have hdn0 : alone rl to nw = dn := by rw [hal, aloneF_neg (now := now1) (u := to) (r := rl) (by omega), List.append_nil]
        have hdn : alone rl (min ev.at_ t) nw = dn := by rw [hto]; exact hdn0
        have hn1 : lastOf nw (alone rl (min ev.at_ t) nw) = now1 := by rw [hdn]; exact hla
        refine wc_seq_region fun K18 hK18 => ?_
        refine wl_v hfr (by decide) (v_move rfl) fun a hfr => ?_
        refine wl_v hfr (by decide) (v_move rfl) fun a hfr => ?_
        refine wl_v hfr (by decide) ((v_len_sl (sT := 32) (hst.arg hsv) rfl rfl (Try.runUnderlying32 _)).asi (m' := (l.length : Int)) (by simp)) fun a hfr => ?_
        refine wl_v hfr (by decide) ((v_eq rfl rfl).asb (b' := false) (by simp; omega)) fun a hfr => ?_
        refine wl_v hfr (by decide) (v_move rfl) fun a hfr => ?_
        refine wl_vy hfr (by decide) rfl (by decide) rfl (v_move rfl) fun a hfr => ?_
        refine wl_vy hfr (by decide) rfl (by decide) rfl (v_move rfl) fun a hfr => ?_
        refine wl_vy hfr (by decide) rfl (by decide) rfl ((v_indexAddr_sl (i := (k : Int)) (sT := 32) (hst.arg hsv) rfl rfl (Try.runUnderlying32 _) (Try.sizeOf45 _) (by omega) (by simpa using hkl)).as (v' := slAddr sv (k * 3)) rfl) fun a hfr => ?_
        refine wl_vy hfr (by decide) rfl (by decide) rfl (v_fieldAddr_sl (k := k * 3) (j := 1) (hst.arg hsv) (i := k) (by simpa using hkl) rfl (fun _ _ => by kernel_rfl)) fun a hfr => ?_
        refine wl_vy hfr (by decide) rfl (by decide) rfl (v_load_sl1 (u := .int .i64 ev.at_) (i := k) (j := 1) (hst.arg hsv) (by simpa using hkl) rfl (Try.isAgg3 _) (by rw [← hev]; first | (show _ = Value.agg (l.getD k ⟨0, 0, 0⟩).cells.toArray; simp [hkl]) | simp [hkl, Evt.cells])) fun a hfr => ?_
        refine wl_vy hfr (by decide) rfl (by decide) rfl (v_move rfl) fun a hfr => ?_
        refine wl_vy hfr (by decide) rfl (by decide) rfl (v_gt rfl rfl) fun a hfr => ?_
        refine wl_v hfr (by decide) (v_pick_f rfl rfl) fun a hfr => ?_
        refine wl_nil (hK18 _ _ ?_)
        have hfr : Fr 107 [(0, _), (1, _), (2, _), (3, _), (4, _), (5, _), (16, _), (17, _), (18, _), (19, _), (20, _), (12, _), (11, _), (21, _), (22, _), (23, _), (24, _), (27, _), (28, _), (29, _), (30, _), (31, _), (13, _), (14, _), (10, _), (53, _), (77, _)] [] a := hfr.pick [0, 1, 2, 3, 4, 5, 16, 17, 18, 19, 20, 12, 11, 21, 22, 23, 24, 27, 28, 29, 30, 31, 13, 14, 10, 53, 77]
        refine wc_cond hfr rfl (fun hc6 => ?_) (fun hc6 => ?_)
        · rw [hc6] at hfr
          try simp only [Bool.not_eq_true', Bool.not_eq_false', decide_eq_true_eq, decide_eq_false_iff_not] at hc6
          have hres : runS rl cl l t = d0 ++ nw :: dn := by rw [hsp, runU_far hkl hev (by omega)]; simp [hdn]
          have hresv : runV rl cl l t = vo := by rw [hvo, runU_far hkl hev (by omega)]; simp
          refine wc_seq_region fun K19 hK19 => ?_
          refine wl_v hfr (by decide) (v_move rfl) fun a hfr => ?_
          refine wl_v hfr (by decide) (v_move rfl) fun a hfr => ?_
          refine wl_v hfr (by decide) (v_assign rfl) fun a hfr => ?_
          refine wl_v hfr (by decide) (v_assign rfl) fun a hfr => ?_
          refine wl_nil (hK19 _ _ ?_)
          refine wc_ret ?_
          refine fin_ret hfr Try.results57 (resAre_tmp rfl (resAre_tmp rfl resAre_nil)) ?_
          exact ⟨(v1, u), rfl, trivial, hst.ext, St.out (E := [own v1 39 3 ((runS rl cl l t).map Stt.cells), own u 3 1 ((runV rl cl l t).map fun i => [.int .i64 i])]) (H := []) (by rw [hres, hresv]; exact hst.select [1, 2] (by decide))⟩
        rw [hc6] at hfr
        try simp only [Bool.not_eq_true', Bool.not_eq_false', decide_eq_true_eq, decide_eq_false_iff_not] at hc6
        refine wc_skip ?_
        refine hK17 _ _ ?_
        refine wc_seq_k fun K20 hK20 => ?_
        refine wc_of_dr (by kernel_rfl) ?_
        have hfr : Fr 107 [(0, _), (1, _), (2, _), (3, _), (4, _), (5, _), (16, _), (17, _), (18, _), (19, _), (20, _), (12, _), (11, _), (21, _), (22, _), (23, _), (24, _), (27, _), (28, _), (29, _), (30, _), (31, _), (13, _), (14, _), (10, _), (53, _), (77, _)] [] a := hfr.pick [0, 1, 2, 3, 4, 5, 16, 17, 18, 19, 20, 12, 11, 21, 22, 23, 24, 27, 28, 29, 30, 31, 13, 14, 10, 53, 77]
        refine wc_phases' 8 [[], [], [1], [], [], [3, 4], [5], [0, 2, 6]] (fun i => match i with | 0 => pv (.agg #[.int .i64 cl.number, .int .i64 cl.frm, .int .i64 cl.to, .int .i64 cl.holder, .int .i64 cl.asked, .bool cl.backed]) | 1 => pv (.pointer (some ⟨w5.heap.size, 0, none⟩)) | 2 => pv (.int .i64 now1.state) | 3 => pv (sv) | 4 => pv (.int .i64 (k : Int)) | 5 => pv (slAddr sv (k * 3)) | 6 => pv (.agg #[.int .i64 ev.kind, .int .i64 ev.at_, .int .i64 ev.reason]) | 7 => pv (.int .i64 (becomes cl.backed now1.state ev)) | _ => fun _ _ => False) hfr hst (by kernel_rfl) (by kernel_rfl) ?_ ?_
        · intro i hi
          match i, hi with
          | 0, _ =>
            intro w hst
            exact OpV.g (v_load_all (hst.get (k := 3) rfl) rfl (Try.isAgg31 _) (Try.sizeOf31 _))
          | 1, _ =>
            intro w hst
            exact OpV.g (v_fieldAddr (v := .pointer (some ⟨w5.heap.size, 0, none⟩)) rfl (by kernel_rfl))
          | 2, _ =>
            rintro _ _ ⟨rfl, rfl⟩
            intro w hst
            exact OpV.g (v_load_blk1 (hst.get (k := 0) rfl) rfl (Try.isAgg3 _) rfl)
          | 3, _ =>
            intro w hst
            exact OpV.g (v_move rfl)
          | 4, _ =>
            intro w hst
            exact OpV.g (v_move rfl)
          | 5, _ =>
            rintro _ _ ⟨rfl, rfl⟩ _ _ ⟨rfl, rfl⟩
            intro w hst
            exact OpV.g ((v_indexAddr_sl (i := (k : Int)) (sT := 32) (hst.arg hsv) rfl rfl (Try.runUnderlying32 _) (Try.sizeOf45 _) (by omega) (by simpa using hkl)).as (v' := slAddr sv (k * 3)) rfl)
          | 6, _ =>
            rintro _ _ ⟨rfl, rfl⟩
            intro w hst
            exact OpV.g ((v_load_sl (hst.arg hsv) (i := k) (by simpa using hkl) rfl (Try.isAgg45 _) (Try.sizeOf45 _)).as (v' := .agg #[.int .i64 ev.kind, .int .i64 ev.at_, .int .i64 ev.reason]) (by rw [← hev]; first | (show _ = Value.agg (l.getD k ⟨0, 0, 0⟩).cells.toArray; simp [hkl]) | simp [hkl, Evt.cells]))
          | 7, _ =>
            rintro _ _ ⟨rfl, rfl⟩ _ _ ⟨rfl, rfl⟩ _ _ ⟨rfl, rfl⟩
            intro w hst
            exact g_callp Try.call86 rfl (becomes_ok cl now1.state ev _)
        rintro _ _ ⟨rfl, rfl⟩ _ _ ⟨rfl, rfl⟩ _ _ ⟨rfl, rfl⟩ _ _ ⟨rfl, rfl⟩ _ _ ⟨rfl, rfl⟩ _ _ ⟨rfl, rfl⟩ _ _ ⟨rfl, rfl⟩ _ _ ⟨rfl, rfl⟩ a w13 hfr hst
        have hfr : Fr 107 [(80, _), (81, _), (82, _), (83, _), (84, _), (85, _), (86, _), (87, _), (0, _), (1, _), (2, _), (3, _), (4, _), (5, _), (16, _), (17, _), (18, _), (19, _), (20, _), (12, _), (11, _), (21, _), (22, _), (23, _), (24, _), (27, _), (28, _), (29, _), (30, _), (31, _), (13, _), (14, _), (10, _), (53, _), (77, _)] [] a := hfr
        have hst : St No w0 [_, _, _, _, _] w13 := hst
        refine wl_v hfr (by decide) (v_assign rfl) fun a hfr => ?_
        refine wl_nil ?_
        refine hK20 _ _ ?_
        have hfr : Fr 107 [(0, _), (1, _), (2, _), (3, _), (4, _), (5, _), (16, _), (17, _), (18, _), (19, _), (20, _), (12, _), (11, _), (21, _), (22, _), (23, _), (24, _), (27, _), (28, _), (29, _), (30, _), (31, _), (13, _), (14, _), (10, _), (53, _), (77, _), (15, _)] [] a := hfr.pick [0, 1, 2, 3, 4, 5, 16, 17, 18, 19, 20, 12, 11, 21, 22, 23, 24, 27, 28, 29, 30, 31, 13, 14, 10, 53, 77, 15]
        refine wc_seq_region fun K21 hK21 => ?_
        refine wl_v hfr (by decide) (v_move rfl) fun a hfr => ?_
        refine wl_v hfr (by decide) (v_lt rfl rfl) fun a hfr => ?_
        refine wl_nil (hK21 _ _ ?_)
        refine wc_cond hfr rfl (fun hc7 => ?_) (fun hc7 => ?_)
        · rw [hc7] at hfr
          try simp only [Bool.not_eq_true', Bool.not_eq_false', decide_eq_true_eq, decide_eq_false_iff_not] at hc7
          refine wc_region ?_
          refine wl_v hfr (by decide) (v_move rfl) fun a hfr => ?_
          refine wl_v hfr (by decide) (v_move rfl) fun a hfr => ?_
          refine wl_buildSlice (E := 3) (sz := 1) rfl [[.int .i64 (k : Int)]] (by kernel_rfl) (by simp) rfl (by decide) (by decide) hfr hst fun a w14 hfr hst => ?_
          refine wl_append (i := 3) (sT := 49) (inf := Try.t3) (z := .int .i64 0) (b := 0) (off := 0) (m := 0) (c := 0) rfl rfl rfl (hst.ownAt (i := 0) rfl) (by simp) Try.underlying49 rfl rfl rfl rfl (by decide) (by simp [Value.oneCell']) (by have hby : Try.t3.bytes = 8 := rfl; have hby2 : Try.t39.bytes = 24 := rfl; simp [big, hby, hby2]; omega) (by have hby : Try.t3.bytes = 8 := rfl; have hby2 : Try.t39.bytes = 24 := rfl; simp [big, hby, hby2]; omega) (by decide) hfr hst fun a w15 s8 hfr hst _ => ?_
          refine wl_v hfr (by decide) (v_assign rfl) fun a hfr => ?_
          refine wl_nil ?_
          refine hK8 _ _ ?_
          refine wc_region ?_
          refine wl_v hfr (by decide) (v_move rfl) fun a hfr => ?_
          refine wl_v hfr (by decide) (v_add rfl rfl ⟨by omega, by omega⟩) fun a hfr => ?_
          refine wl_v hfr (by decide) (v_assign rfl) fun a hfr => ?_
          refine wl_nil ?_
          obtain ⟨d1, hd1⟩ : ∃ d1, d0 ++ nw :: dn = d1 ++ [now1] := snoc_last hla
          have hd1l : d1.length = d0.length + dn.length := by have := congrArg List.length hd1; simp at this; omega
          rw [hd1] at hst
          rw [show (vo.map fun i => [Value.int .i64 i]) ++ [[.int .i64 (k : Int)]] = ((vo ++ [(k : Int)]).map fun i => [Value.int .i64 i]) from by simp] at hst
          refine ⟨_, ?_, k + 1, d1, now1, vo ++ [(k : Int)], v1, s8, rfl, (by omega), (by rw [hsp, runU_void hkl hev (by omega) hn1 (by omega), hdn]; have := congrArg (· ++ (runU rl cl.backed t (k + 1) now1 (l.drop (k + 1))).1) hd1; simpa using this), (by rw [hvo, runU_void hkl hev (by omega) hn1 (by omega)]; simp), hso1, (by omega), (by simp; omega), hfr.pick [0, 1, 2, 3, 4, 5, 16, 17, 18, 19, 20, 12, 10, 11], hst.select [2, 3, 4, 5] (by decide)⟩
          omega
        rw [hc7] at hfr
        try simp only [Bool.not_eq_true', Bool.not_eq_false', decide_eq_true_eq, decide_eq_false_iff_not] at hc7
        refine wc_of_dr (by kernel_rfl) ?_
        have hfr : Fr 107 [(0, _), (1, _), (2, _), (3, _), (4, _), (5, _), (16, _), (17, _), (18, _), (19, _), (20, _), (12, _), (11, _), (21, _), (22, _), (23, _), (24, _), (27, _), (28, _), (29, _), (30, _), (31, _), (13, _), (14, _), (10, _), (53, _), (77, _), (15, _), (88, _), (89, _)] [] a := hfr.pick [0, 1, 2, 3, 4, 5, 16, 17, 18, 19, 20, 12, 11, 21, 22, 23, 24, 27, 28, 29, 30, 31, 13, 14, 10, 53, 77, 15, 88, 89]
        have hst : St No w0 (own v1 39 3 ((d0 ++ nw :: dn).map Stt.cells) :: [blk w5.heap.size [.int .i64 now1.state, .int .i64 now1.since, .int .i64 now1.next] 39, own u 3 1 (vo.map fun i => [.int .i64 i]), blk w1.heap.size [.int .i64 cl.number, .int .i64 cl.frm, .int .i64 cl.to, .int .i64 cl.holder, .int .i64 cl.asked, .bool cl.backed] 31, blk w0.heap.size [.int .i64 rl.answer, .int .i64 rl.cooling, .int .i64 rl.settle, .int .i64 rl.reverse] 29]) w13 := hst.front (i := 1) rfl
        refine wc_phases_one 10 (own v1 39 3 ((d0 ++ nw :: dn).map Stt.cells)) (fun v => own v 39 3 (((d0 ++ nw :: dn).map Stt.cells) ++ ([[.int .i64 ((begins rl (becomes cl.backed now1.state ev) ev.at_).state), .int .i64 ((begins rl (becomes cl.backed now1.state ev) ev.at_).since), .int .i64 ((begins rl (becomes cl.backed now1.state ev) ev.at_).next)]]))) 11 [[], [], [], [], [], [3, 4], [5], [6], [1, 2, 7], [8], [0, 9]] (fun i => match i with | 0 => pv (v1) | 1 => pv (.agg #[.int .i64 rl.answer, .int .i64 rl.cooling, .int .i64 rl.settle, .int .i64 rl.reverse]) | 2 => pv (.int .i64 (becomes cl.backed now1.state ev)) | 3 => pv (sv) | 4 => pv (.int .i64 (k : Int)) | 5 => pv (slAddr sv (k * 3)) | 6 => pv (slAddr sv (k * 3 + 1)) | 7 => pv (.int .i64 ev.at_) | 8 => pv (.agg #[.int .i64 ((begins rl (becomes cl.backed now1.state ev) ev.at_).state), .int .i64 ((begins rl (becomes cl.backed now1.state ev) ev.at_).since), .int .i64 ((begins rl (becomes cl.backed now1.state ev) ev.at_).next)]) | 9 => pm (fun b : Nat => .slice (some ⟨b, 0, none⟩) 1 1) (fun b => [own (.slice (some ⟨b, 0, none⟩) 1 1) 39 3 [[.int .i64 ((begins rl (becomes cl.backed now1.state ev) ev.at_).state), .int .i64 ((begins rl (becomes cl.backed now1.state ev) ev.at_).since), .int .i64 ((begins rl (becomes cl.backed now1.state ev) ev.at_).next)]]]) (fun _ => True) | 10 => fun v E => E = [] | _ => fun _ _ => False) hfr hst (by kernel_rfl) (by kernel_rfl) (by kernel_rfl) (by decide) ?_ ?_ ?_ ?_
        · intro i v E h
          match i, h with
          | 0, _ => exact by decide
          | 1, _ => exact by decide
          | 2, _ => exact by decide
          | 3, _ => exact by decide
          | 4, _ => exact by decide
          | 5, _ => exact by decide
          | 6, _ => exact by decide
          | 7, _ => exact by decide
          | 8, _ => exact by decide
          | 9, _ => exact by decide
          | 10, _ => exact by decide
          | i + 11, h => exact h.elim
        · intro i hi hiq e
          match i, hi, hiq with
          | 0, _, _ =>
            intro w hst
            exact OpV.g (v_move rfl)
          | 1, _, _ =>
            intro w hst
            exact OpV.g (v_load_all (hst.get (k := 4) rfl) rfl (Try.isAgg29 _) (Try.sizeOf29 _))
          | 2, _, _ =>
            intro w hst
            exact OpV.g (v_move rfl)
          | 3, _, _ =>
            intro w hst
            exact OpV.g (v_move rfl)
          | 4, _, _ =>
            intro w hst
            exact OpV.g (v_move rfl)
          | 5, _, _ =>
            rintro _ _ ⟨rfl, rfl⟩ _ _ ⟨rfl, rfl⟩
            intro w hst
            exact OpV.g ((v_indexAddr_sl (i := (k : Int)) (sT := 32) (hst.arg hsv) rfl rfl (Try.runUnderlying32 _) (Try.sizeOf45 _) (by omega) (by simpa using hkl)).as (v' := slAddr sv (k * 3)) rfl)
          | 6, _, _ =>
            rintro _ _ ⟨rfl, rfl⟩
            intro w hst
            exact OpV.g (v_fieldAddr_sl (k := k * 3) (j := 1) (hst.arg hsv) (i := k) (by simpa using hkl) rfl (fun _ _ => by kernel_rfl))
          | 7, _, _ =>
            rintro _ _ ⟨rfl, rfl⟩
            intro w hst
            exact OpV.g (v_load_sl1 (u := .int .i64 ev.at_) (i := k) (j := 1) (hst.arg hsv) (by simpa using hkl) rfl (Try.isAgg3 _) (by rw [← hev]; first | (show _ = Value.agg (l.getD k ⟨0, 0, 0⟩).cells.toArray; simp [hkl]) | simp [hkl, Evt.cells]))
          | 8, _, _ =>
            rintro _ _ ⟨rfl, rfl⟩ _ _ ⟨rfl, rfl⟩ _ _ ⟨rfl, rfl⟩
            intro w hst
            exact g_callp Try.call84 rfl (status_ok rl (becomes cl.backed now1.state ev) ev.at_ _ hr (by omega) (by omega))
          | 9, _, _ =>
            rintro _ _ ⟨rfl, rfl⟩
            intro w hst
            exact g_buildSlice (E := 39) (sz := 3) rfl [[.int .i64 ((begins rl (becomes cl.backed now1.state ev) ev.at_).state), .int .i64 ((begins rl (becomes cl.backed now1.state ev) ev.at_).since), .int .i64 ((begins rl (becomes cl.backed now1.state ev) ev.at_).next)]] (fun _ => by kernel_rfl) (by simp) rfl (by decide)
          | 10, _, h => exact absurd rfl h
        · rintro _ _ ⟨rfl, rfl⟩ _ _ ⟨b11, rfl, -, rfl⟩
          intro w hst
          exact (r_append (hst.get (k := 0) rfl) rfl rfl (hst.ownAt (i := 1) rfl) (by simp) Try.underlying47 (inf := Try.t39) (z := .agg #[.int .i64 0, .int .i64 0, .int .i64 0]) rfl rfl rfl rfl (by decide) (by simp [Value.oneCell']) (by have hby : Try.t3.bytes = 8 := rfl; have hby2 : Try.t39.bytes = 24 := rfl; simp [big, hby, hby2]; omega) (by have hby : Try.t3.bytes = 8 := rfl; have hby2 : Try.t39.bytes = 24 := rfl; simp [big, hby, hby2]; omega)).mono fun v w' ⟨h1, h2, h3, _⟩ => ⟨h1, h2, h3, rfl⟩
        rintro vq _ _ ⟨⟨rfl, rfl⟩, -⟩ _ _ ⟨⟨rfl, rfl⟩, -⟩ _ _ ⟨⟨rfl, rfl⟩, -⟩ _ _ ⟨⟨rfl, rfl⟩, -⟩ _ _ ⟨⟨rfl, rfl⟩, -⟩ _ _ ⟨⟨rfl, rfl⟩, -⟩ _ _ ⟨⟨rfl, rfl⟩, -⟩ _ _ ⟨⟨rfl, rfl⟩, -⟩ _ _ ⟨⟨rfl, rfl⟩, -⟩ _ _ ⟨⟨b11, rfl, -, rfl⟩, -⟩ s10 _ ⟨rfl, hvq⟩ a w16 hfr hst
        obtain rfl := hvq rfl
        have hfr : Fr 107 [(94, _), (95, _), (96, _), (97, _), (98, _), (99, _), (100, _), (101, _), (102, _), (103, _), (104, _), (0, _), (1, _), (2, _), (3, _), (4, _), (5, _), (16, _), (17, _), (18, _), (19, _), (20, _), (12, _), (11, _), (21, _), (22, _), (23, _), (24, _), (27, _), (28, _), (29, _), (30, _), (31, _), (13, _), (14, _), (10, _), (53, _), (77, _), (15, _), (88, _), (89, _)] [] a := hfr
        have hst : St No w0 [own (.slice (some ⟨b11, 0, none⟩) 1 1) 39 3 ([[.int .i64 ((begins rl (becomes cl.backed now1.state ev) ev.at_).state), .int .i64 ((begins rl (becomes cl.backed now1.state ev) ev.at_).since), .int .i64 ((begins rl (becomes cl.backed now1.state ev) ev.at_).next)]]), own s10 39 3 (((d0 ++ nw :: dn).map Stt.cells) ++ ([[.int .i64 ((begins rl (becomes cl.backed now1.state ev) ev.at_).state), .int .i64 ((begins rl (becomes cl.backed now1.state ev) ev.at_).since), .int .i64 ((begins rl (becomes cl.backed now1.state ev) ev.at_).next)]])), blk w5.heap.size [.int .i64 now1.state, .int .i64 now1.since, .int .i64 now1.next] 39, own u 3 1 (vo.map fun i => [.int .i64 i]), blk w1.heap.size [.int .i64 cl.number, .int .i64 cl.frm, .int .i64 cl.to, .int .i64 cl.holder, .int .i64 cl.asked, .bool cl.backed] 31, blk w0.heap.size [.int .i64 rl.answer, .int .i64 rl.cooling, .int .i64 rl.settle, .int .i64 rl.reverse] 29] w16 := hst
        refine wl_v hfr (by decide) (v_assign rfl) fun a hfr => ?_
        refine wl_nil ?_
        refine hK8 _ _ ?_
        have hfr : Fr 107 [(0, _), (1, _), (2, _), (3, _), (4, _), (5, _), (16, _), (17, _), (18, _), (19, _), (20, _), (12, _), (11, _), (21, _), (22, _), (23, _), (24, _), (27, _), (28, _), (29, _), (30, _), (31, _), (13, _), (14, _), (53, _), (77, _), (15, _), (88, _), (89, _), (10, _)] [] a := hfr.pick [0, 1, 2, 3, 4, 5, 16, 17, 18, 19, 20, 12, 11, 21, 22, 23, 24, 27, 28, 29, 30, 31, 13, 14, 53, 77, 15, 88, 89, 10]
        have hst : St No w0 [_, _, _, _, _] w16 := hst.mask [false, true, true, true, true, true]
        refine wc_region ?_
        refine wl_v hfr (by decide) (v_move rfl) fun a hfr => ?_
        refine wl_v hfr (by decide) (v_add rfl rfl ⟨by omega, by omega⟩) fun a hfr => ?_
        refine wl_v hfr (by decide) (v_assign rfl) fun a hfr => ?_
        refine wl_nil ?_
        rw [show ((d0 ++ nw :: dn).map Stt.cells) ++ [[.int .i64 (begins rl (becomes cl.backed now1.state ev) ev.at_).state, .int .i64 (begins rl (becomes cl.backed now1.state ev) ev.at_).since, .int .i64 (begins rl (becomes cl.backed now1.state ev) ev.at_).next]] = ((d0 ++ nw :: dn) ++ [begins rl (becomes cl.backed now1.state ev) ev.at_]).map Stt.cells from by simp [Stt.cells]] at hst
        refine ⟨_, ?_, k + 1, d0 ++ nw :: dn, begins rl (becomes cl.backed now1.state ev) ev.at_, vo, s10, u, rfl, (by omega), (by rw [hsp, runU_go hkl hev (by omega) hn1 (by omega), hdn]; simp), (by rw [hvo, runU_go hkl hev (by omega) hn1 (by omega)]), (Sound.begins _ _ (by omega) (by omega)), (by simp; omega), (by omega), hfr.pick [0, 1, 2, 3, 4, 5, 16, 17, 18, 19, 20, 12, 10, 11], hst.select [0, 2, 3, 4] (by decide)⟩
        omega
      rw [hb3] at hfr
      try simp only [Bool.not_eq_true', Bool.not_eq_false', decide_eq_true_eq, decide_eq_false_iff_not] at hb3
      refine wl_vn hfr (by decide) rfl (by decide) rfl rfl fun a hfr => ?_
      refine wl_vn hfr (by decide) rfl (by decide) rfl rfl fun a hfr => ?_
      refine wl_vn hfr (by decide) rfl (by decide) rfl rfl fun a hfr => ?_
      refine wl_vn hfr (by decide) rfl (by decide) rfl rfl fun a hfr => ?_
      refine wl_v hfr (by decide) (v_pick_f rfl rfl) fun a hfr => ?_
      refine wl_nil (hK15 _ _ ?_)
      have hfr : Fr 107 [(0, _), (1, _), (2, _), (3, _), (4, _), (5, _), (16, _), (17, _), (18, _), (19, _), (20, _), (12, _), (11, _), (21, _), (22, _), (23, _), (24, _), (27, _), (28, _), (29, _), (30, _), (31, _), (13, _), (14, _), (10, _), (53, _)] [] a := hfr.pick [0, 1, 2, 3, 4, 5, 16, 17, 18, 19, 20, 12, 11, 21, 22, 23, 24, 27, 28, 29, 30, 31, 13, 14, 10, 53]
      refine wc_cond_f hfr rfl ?_
      refine wc_exit ?_
      refine hK13 _ _ ?_
      refine wc_seq_k fun K22 hK22 => ?_
      have hdn0 : alone rl to nw = dn := by rw [hal, aloneF_neg (now := now1) (u := to) (r := rl) (by omega), List.append_nil]
      have hdn : alone rl (min ev.at_ t) nw = dn := by rw [hto]; exact hdn0
      have hn1 : lastOf nw (alone rl (min ev.at_ t) nw) = now1 := by rw [hdn]; exact hla
      refine wc_seq_region fun K23 hK23 => ?_
      refine wl_v hfr (by decide) (v_move rfl) fun a hfr => ?_
      refine wl_v hfr (by decide) (v_move rfl) fun a hfr => ?_
      refine wl_v hfr (by decide) ((v_len_sl (sT := 32) (hst.arg hsv) rfl rfl (Try.runUnderlying32 _)).asi (m' := (l.length : Int)) (by simp)) fun a hfr => ?_
      refine wl_v hfr (by decide) ((v_eq rfl rfl).asb (b' := false) (by simp; omega)) fun a hfr => ?_
      refine wl_v hfr (by decide) (v_move rfl) fun a hfr => ?_
      refine wl_vy hfr (by decide) rfl (by decide) rfl (v_move rfl) fun a hfr => ?_
      refine wl_vy hfr (by decide) rfl (by decide) rfl (v_move rfl) fun a hfr => ?_
      refine wl_vy hfr (by decide) rfl (by decide) rfl ((v_indexAddr_sl (i := (k : Int)) (sT := 32) (hst.arg hsv) rfl rfl (Try.runUnderlying32 _) (Try.sizeOf45 _) (by omega) (by simpa using hkl)).as (v' := slAddr sv (k * 3)) rfl) fun a hfr => ?_
      refine wl_vy hfr (by decide) rfl (by decide) rfl (v_fieldAddr_sl (k := k * 3) (j := 1) (hst.arg hsv) (i := k) (by simpa using hkl) rfl (fun _ _ => by kernel_rfl)) fun a hfr => ?_
      refine wl_vy hfr (by decide) rfl (by decide) rfl (v_load_sl1 (u := .int .i64 ev.at_) (i := k) (j := 1) (hst.arg hsv) (by simpa using hkl) rfl (Try.isAgg3 _) (by rw [← hev]; first | (show _ = Value.agg (l.getD k ⟨0, 0, 0⟩).cells.toArray; simp [hkl]) | simp [hkl, Evt.cells])) fun a hfr => ?_
      refine wl_vy hfr (by decide) rfl (by decide) rfl (v_move rfl) fun a hfr => ?_
      refine wl_vy hfr (by decide) rfl (by decide) rfl (v_gt rfl rfl) fun a hfr => ?_
      refine wl_v hfr (by decide) (v_pick_f rfl rfl) fun a hfr => ?_
      refine wl_nil (hK23 _ _ ?_)
      have hfr : Fr 107 [(0, _), (1, _), (2, _), (3, _), (4, _), (5, _), (16, _), (17, _), (18, _), (19, _), (20, _), (12, _), (11, _), (21, _), (22, _), (23, _), (24, _), (27, _), (28, _), (29, _), (30, _), (31, _), (13, _), (14, _), (10, _), (53, _), (77, _)] [] a := hfr.pick [0, 1, 2, 3, 4, 5, 16, 17, 18, 19, 20, 12, 11, 21, 22, 23, 24, 27, 28, 29, 30, 31, 13, 14, 10, 53, 77]
      refine wc_cond hfr rfl (fun hc12 => ?_) (fun hc12 => ?_)
      · rw [hc12] at hfr
        try simp only [Bool.not_eq_true', Bool.not_eq_false', decide_eq_true_eq, decide_eq_false_iff_not] at hc12
        have hres : runS rl cl l t = d0 ++ nw :: dn := by rw [hsp, runU_far hkl hev (by omega)]; simp [hdn]
        have hresv : runV rl cl l t = vo := by rw [hvo, runU_far hkl hev (by omega)]; simp
        refine wc_seq_region fun K24 hK24 => ?_
        refine wl_v hfr (by decide) (v_move rfl) fun a hfr => ?_
        refine wl_v hfr (by decide) (v_move rfl) fun a hfr => ?_
        refine wl_v hfr (by decide) (v_assign rfl) fun a hfr => ?_
        refine wl_v hfr (by decide) (v_assign rfl) fun a hfr => ?_
        refine wl_nil (hK24 _ _ ?_)
        refine wc_ret ?_
        refine fin_ret hfr Try.results57 (resAre_tmp rfl (resAre_tmp rfl resAre_nil)) ?_
        exact ⟨(v1, u), rfl, trivial, hst.ext, St.out (E := [own v1 39 3 ((runS rl cl l t).map Stt.cells), own u 3 1 ((runV rl cl l t).map fun i => [.int .i64 i])]) (H := []) (by rw [hres, hresv]; exact hst.select [1, 2] (by decide))⟩
      rw [hc12] at hfr
      try simp only [Bool.not_eq_true', Bool.not_eq_false', decide_eq_true_eq, decide_eq_false_iff_not] at hc12
      refine wc_skip ?_
      refine hK22 _ _ ?_
      refine wc_seq_k fun K25 hK25 => ?_
      refine wc_of_dr (by kernel_rfl) ?_
      have hfr : Fr 107 [(0, _), (1, _), (2, _), (3, _), (4, _), (5, _), (16, _), (17, _), (18, _), (19, _), (20, _), (12, _), (11, _), (21, _), (22, _), (23, _), (24, _), (27, _), (28, _), (29, _), (30, _), (31, _), (13, _), (14, _), (10, _), (53, _), (77, _)] [] a := hfr.pick [0, 1, 2, 3, 4, 5, 16, 17, 18, 19, 20, 12, 11, 21, 22, 23, 24, 27, 28, 29, 30, 31, 13, 14, 10, 53, 77]
      refine wc_phases' 8 [[], [], [1], [], [], [3, 4], [5], [0, 2, 6]] (fun i => match i with | 0 => pv (.agg #[.int .i64 cl.number, .int .i64 cl.frm, .int .i64 cl.to, .int .i64 cl.holder, .int .i64 cl.asked, .bool cl.backed]) | 1 => pv (.pointer (some ⟨w5.heap.size, 0, none⟩)) | 2 => pv (.int .i64 now1.state) | 3 => pv (sv) | 4 => pv (.int .i64 (k : Int)) | 5 => pv (slAddr sv (k * 3)) | 6 => pv (.agg #[.int .i64 ev.kind, .int .i64 ev.at_, .int .i64 ev.reason]) | 7 => pv (.int .i64 (becomes cl.backed now1.state ev)) | _ => fun _ _ => False) hfr hst (by kernel_rfl) (by kernel_rfl) ?_ ?_
      · intro i hi
        match i, hi with
        | 0, _ =>
          intro w hst
          exact OpV.g (v_load_all (hst.get (k := 3) rfl) rfl (Try.isAgg31 _) (Try.sizeOf31 _))
        | 1, _ =>
          intro w hst
          exact OpV.g (v_fieldAddr (v := .pointer (some ⟨w5.heap.size, 0, none⟩)) rfl (by kernel_rfl))
        | 2, _ =>
          rintro _ _ ⟨rfl, rfl⟩
          intro w hst
          exact OpV.g (v_load_blk1 (hst.get (k := 0) rfl) rfl (Try.isAgg3 _) rfl)
        | 3, _ =>
          intro w hst
          exact OpV.g (v_move rfl)
        | 4, _ =>
          intro w hst
          exact OpV.g (v_move rfl)
        | 5, _ =>
          rintro _ _ ⟨rfl, rfl⟩ _ _ ⟨rfl, rfl⟩
          intro w hst
          exact OpV.g ((v_indexAddr_sl (i := (k : Int)) (sT := 32) (hst.arg hsv) rfl rfl (Try.runUnderlying32 _) (Try.sizeOf45 _) (by omega) (by simpa using hkl)).as (v' := slAddr sv (k * 3)) rfl)
        | 6, _ =>
          rintro _ _ ⟨rfl, rfl⟩
          intro w hst
          exact OpV.g ((v_load_sl (hst.arg hsv) (i := k) (by simpa using hkl) rfl (Try.isAgg45 _) (Try.sizeOf45 _)).as (v' := .agg #[.int .i64 ev.kind, .int .i64 ev.at_, .int .i64 ev.reason]) (by rw [← hev]; first | (show _ = Value.agg (l.getD k ⟨0, 0, 0⟩).cells.toArray; simp [hkl]) | simp [hkl, Evt.cells]))
        | 7, _ =>
          rintro _ _ ⟨rfl, rfl⟩ _ _ ⟨rfl, rfl⟩ _ _ ⟨rfl, rfl⟩
          intro w hst
          exact g_callp Try.call86 rfl (becomes_ok cl now1.state ev _)
      rintro _ _ ⟨rfl, rfl⟩ _ _ ⟨rfl, rfl⟩ _ _ ⟨rfl, rfl⟩ _ _ ⟨rfl, rfl⟩ _ _ ⟨rfl, rfl⟩ _ _ ⟨rfl, rfl⟩ _ _ ⟨rfl, rfl⟩ _ _ ⟨rfl, rfl⟩ a w17 hfr hst
      have hfr : Fr 107 [(80, _), (81, _), (82, _), (83, _), (84, _), (85, _), (86, _), (87, _), (0, _), (1, _), (2, _), (3, _), (4, _), (5, _), (16, _), (17, _), (18, _), (19, _), (20, _), (12, _), (11, _), (21, _), (22, _), (23, _), (24, _), (27, _), (28, _), (29, _), (30, _), (31, _), (13, _), (14, _), (10, _), (53, _), (77, _)] [] a := hfr
      have hst : St No w0 [_, _, _, _, _] w17 := hst
      refine wl_v hfr (by decide) (v_assign rfl) fun a hfr => ?_
      refine wl_nil ?_
      refine hK25 _ _ ?_
      have hfr : Fr 107 [(0, _), (1, _), (2, _), (3, _), (4, _), (5, _), (16, _), (17, _), (18, _), (19, _), (20, _), (12, _), (11, _), (21, _), (22, _), (23, _), (24, _), (27, _), (28, _), (29, _), (30, _), (31, _), (13, _), (14, _), (10, _), (53, _), (77, _), (15, _)] [] a := hfr.pick [0, 1, 2, 3, 4, 5, 16, 17, 18, 19, 20, 12, 11, 21, 22, 23, 24, 27, 28, 29, 30, 31, 13, 14, 10, 53, 77, 15]
      refine wc_seq_region fun K26 hK26 => ?_
      refine wl_v hfr (by decide) (v_move rfl) fun a hfr => ?_
      refine wl_v hfr (by decide) (v_lt rfl rfl) fun a hfr => ?_
      refine wl_nil (hK26 _ _ ?_)
      refine wc_cond hfr rfl (fun hc13 => ?_) (fun hc13 => ?_)
      · rw [hc13] at hfr
        try simp only [Bool.not_eq_true', Bool.not_eq_false', decide_eq_true_eq, decide_eq_false_iff_not] at hc13
        refine wc_region ?_
        refine wl_v hfr (by decide) (v_move rfl) fun a hfr => ?_
        refine wl_v hfr (by decide) (v_move rfl) fun a hfr => ?_
        refine wl_buildSlice (E := 3) (sz := 1) rfl [[.int .i64 (k : Int)]] (by kernel_rfl) (by simp) rfl (by decide) (by decide) hfr hst fun a w18 hfr hst => ?_
        refine wl_append (i := 3) (sT := 49) (inf := Try.t3) (z := .int .i64 0) (b := 0) (off := 0) (m := 0) (c := 0) rfl rfl rfl (hst.ownAt (i := 0) rfl) (by simp) Try.underlying49 rfl rfl rfl rfl (by decide) (by simp [Value.oneCell']) (by have hby : Try.t3.bytes = 8 := rfl; have hby2 : Try.t39.bytes = 24 := rfl; simp [big, hby, hby2]; omega) (by have hby : Try.t3.bytes = 8 := rfl; have hby2 : Try.t39.bytes = 24 := rfl; simp [big, hby, hby2]; omega) (by decide) hfr hst fun a w19 s14 hfr hst _ => ?_
        refine wl_v hfr (by decide) (v_assign rfl) fun a hfr => ?_
        refine wl_nil ?_
        refine hK8 _ _ ?_
        refine wc_region ?_
        refine wl_v hfr (by decide) (v_move rfl) fun a hfr => ?_
        refine wl_v hfr (by decide) (v_add rfl rfl ⟨by omega, by omega⟩) fun a hfr => ?_
        refine wl_v hfr (by decide) (v_assign rfl) fun a hfr => ?_
        refine wl_nil ?_
        obtain ⟨d1, hd1⟩ : ∃ d1, d0 ++ nw :: dn = d1 ++ [now1] := snoc_last hla
        have hd1l : d1.length = d0.length + dn.length := by have := congrArg List.length hd1; simp at this; omega
        rw [hd1] at hst
        rw [show (vo.map fun i => [Value.int .i64 i]) ++ [[.int .i64 (k : Int)]] = ((vo ++ [(k : Int)]).map fun i => [Value.int .i64 i]) from by simp] at hst
        refine ⟨_, ?_, k + 1, d1, now1, vo ++ [(k : Int)], v1, s14, rfl, (by omega), (by rw [hsp, runU_void hkl hev (by omega) hn1 (by omega), hdn]; have := congrArg (· ++ (runU rl cl.backed t (k + 1) now1 (l.drop (k + 1))).1) hd1; simpa using this), (by rw [hvo, runU_void hkl hev (by omega) hn1 (by omega)]; simp), hso1, (by omega), (by simp; omega), hfr.pick [0, 1, 2, 3, 4, 5, 16, 17, 18, 19, 20, 12, 10, 11], hst.select [2, 3, 4, 5] (by decide)⟩
        omega
      rw [hc13] at hfr
      try simp only [Bool.not_eq_true', Bool.not_eq_false', decide_eq_true_eq, decide_eq_false_iff_not] at hc13
      refine wc_of_dr (by kernel_rfl) ?_
      have hfr : Fr 107 [(0, _), (1, _), (2, _), (3, _), (4, _), (5, _), (16, _), (17, _), (18, _), (19, _), (20, _), (12, _), (11, _), (21, _), (22, _), (23, _), (24, _), (27, _), (28, _), (29, _), (30, _), (31, _), (13, _), (14, _), (10, _), (53, _), (77, _), (15, _), (88, _), (89, _)] [] a := hfr.pick [0, 1, 2, 3, 4, 5, 16, 17, 18, 19, 20, 12, 11, 21, 22, 23, 24, 27, 28, 29, 30, 31, 13, 14, 10, 53, 77, 15, 88, 89]
      have hst : St No w0 (own v1 39 3 ((d0 ++ nw :: dn).map Stt.cells) :: [blk w5.heap.size [.int .i64 now1.state, .int .i64 now1.since, .int .i64 now1.next] 39, own u 3 1 (vo.map fun i => [.int .i64 i]), blk w1.heap.size [.int .i64 cl.number, .int .i64 cl.frm, .int .i64 cl.to, .int .i64 cl.holder, .int .i64 cl.asked, .bool cl.backed] 31, blk w0.heap.size [.int .i64 rl.answer, .int .i64 rl.cooling, .int .i64 rl.settle, .int .i64 rl.reverse] 29]) w17 := hst.front (i := 1) rfl
      refine wc_phases_one 10 (own v1 39 3 ((d0 ++ nw :: dn).map Stt.cells)) (fun v => own v 39 3 (((d0 ++ nw :: dn).map Stt.cells) ++ ([[.int .i64 ((begins rl (becomes cl.backed now1.state ev) ev.at_).state), .int .i64 ((begins rl (becomes cl.backed now1.state ev) ev.at_).since), .int .i64 ((begins rl (becomes cl.backed now1.state ev) ev.at_).next)]]))) 11 [[], [], [], [], [], [3, 4], [5], [6], [1, 2, 7], [8], [0, 9]] (fun i => match i with | 0 => pv (v1) | 1 => pv (.agg #[.int .i64 rl.answer, .int .i64 rl.cooling, .int .i64 rl.settle, .int .i64 rl.reverse]) | 2 => pv (.int .i64 (becomes cl.backed now1.state ev)) | 3 => pv (sv) | 4 => pv (.int .i64 (k : Int)) | 5 => pv (slAddr sv (k * 3)) | 6 => pv (slAddr sv (k * 3 + 1)) | 7 => pv (.int .i64 ev.at_) | 8 => pv (.agg #[.int .i64 ((begins rl (becomes cl.backed now1.state ev) ev.at_).state), .int .i64 ((begins rl (becomes cl.backed now1.state ev) ev.at_).since), .int .i64 ((begins rl (becomes cl.backed now1.state ev) ev.at_).next)]) | 9 => pm (fun b : Nat => .slice (some ⟨b, 0, none⟩) 1 1) (fun b => [own (.slice (some ⟨b, 0, none⟩) 1 1) 39 3 [[.int .i64 ((begins rl (becomes cl.backed now1.state ev) ev.at_).state), .int .i64 ((begins rl (becomes cl.backed now1.state ev) ev.at_).since), .int .i64 ((begins rl (becomes cl.backed now1.state ev) ev.at_).next)]]]) (fun _ => True) | 10 => fun v E => E = [] | _ => fun _ _ => False) hfr hst (by kernel_rfl) (by kernel_rfl) (by kernel_rfl) (by decide) ?_ ?_ ?_ ?_
      · intro i v E h
        match i, h with
        | 0, _ => exact by decide
        | 1, _ => exact by decide
        | 2, _ => exact by decide
        | 3, _ => exact by decide
        | 4, _ => exact by decide
        | 5, _ => exact by decide
        | 6, _ => exact by decide
        | 7, _ => exact by decide
        | 8, _ => exact by decide
        | 9, _ => exact by decide
        | 10, _ => exact by decide
        | i + 11, h => exact h.elim
      · intro i hi hiq e
        match i, hi, hiq with
        | 0, _, _ =>
          intro w hst
          exact OpV.g (v_move rfl)
        | 1, _, _ =>
          intro w hst
          exact OpV.g (v_load_all (hst.get (k := 4) rfl) rfl (Try.isAgg29 _) (Try.sizeOf29 _))
        | 2, _, _ =>
          intro w hst
          exact OpV.g (v_move rfl)
        | 3, _, _ =>
          intro w hst
          exact OpV.g (v_move rfl)
        | 4, _, _ =>
          intro w hst
          exact OpV.g (v_move rfl)
        | 5, _, _ =>
          rintro _ _ ⟨rfl, rfl⟩ _ _ ⟨rfl, rfl⟩
          intro w hst
          exact OpV.g ((v_indexAddr_sl (i := (k : Int)) (sT := 32) (hst.arg hsv) rfl rfl (Try.runUnderlying32 _) (Try.sizeOf45 _) (by omega) (by simpa using hkl)).as (v' := slAddr sv (k * 3)) rfl)
        | 6, _, _ =>
          rintro _ _ ⟨rfl, rfl⟩
          intro w hst
          exact OpV.g (v_fieldAddr_sl (k := k * 3) (j := 1) (hst.arg hsv) (i := k) (by simpa using hkl) rfl (fun _ _ => by kernel_rfl))
        | 7, _, _ =>
          rintro _ _ ⟨rfl, rfl⟩
          intro w hst
          exact OpV.g (v_load_sl1 (u := .int .i64 ev.at_) (i := k) (j := 1) (hst.arg hsv) (by simpa using hkl) rfl (Try.isAgg3 _) (by rw [← hev]; first | (show _ = Value.agg (l.getD k ⟨0, 0, 0⟩).cells.toArray; simp [hkl]) | simp [hkl, Evt.cells]))
        | 8, _, _ =>
          rintro _ _ ⟨rfl, rfl⟩ _ _ ⟨rfl, rfl⟩ _ _ ⟨rfl, rfl⟩
          intro w hst
          exact g_callp Try.call84 rfl (status_ok rl (becomes cl.backed now1.state ev) ev.at_ _ hr (by omega) (by omega))
        | 9, _, _ =>
          rintro _ _ ⟨rfl, rfl⟩
          intro w hst
          exact g_buildSlice (E := 39) (sz := 3) rfl [[.int .i64 ((begins rl (becomes cl.backed now1.state ev) ev.at_).state), .int .i64 ((begins rl (becomes cl.backed now1.state ev) ev.at_).since), .int .i64 ((begins rl (becomes cl.backed now1.state ev) ev.at_).next)]] (fun _ => by kernel_rfl) (by simp) rfl (by decide)
        | 10, _, h => exact absurd rfl h
      · rintro _ _ ⟨rfl, rfl⟩ _ _ ⟨b17, rfl, -, rfl⟩
        intro w hst
        exact (r_append (hst.get (k := 0) rfl) rfl rfl (hst.ownAt (i := 1) rfl) (by simp) Try.underlying47 (inf := Try.t39) (z := .agg #[.int .i64 0, .int .i64 0, .int .i64 0]) rfl rfl rfl rfl (by decide) (by simp [Value.oneCell']) (by have hby : Try.t3.bytes = 8 := rfl; have hby2 : Try.t39.bytes = 24 := rfl; simp [big, hby, hby2]; omega) (by have hby : Try.t3.bytes = 8 := rfl; have hby2 : Try.t39.bytes = 24 := rfl; simp [big, hby, hby2]; omega)).mono fun v w' ⟨h1, h2, h3, _⟩ => ⟨h1, h2, h3, rfl⟩
      rintro vq _ _ ⟨⟨rfl, rfl⟩, -⟩ _ _ ⟨⟨rfl, rfl⟩, -⟩ _ _ ⟨⟨rfl, rfl⟩, -⟩ _ _ ⟨⟨rfl, rfl⟩, -⟩ _ _ ⟨⟨rfl, rfl⟩, -⟩ _ _ ⟨⟨rfl, rfl⟩, -⟩ _ _ ⟨⟨rfl, rfl⟩, -⟩ _ _ ⟨⟨rfl, rfl⟩, -⟩ _ _ ⟨⟨rfl, rfl⟩, -⟩ _ _ ⟨⟨b17, rfl, -, rfl⟩, -⟩ s16 _ ⟨rfl, hvq⟩ a w20 hfr hst
      obtain rfl := hvq rfl
      have hfr : Fr 107 [(94, _), (95, _), (96, _), (97, _), (98, _), (99, _), (100, _), (101, _), (102, _), (103, _), (104, _), (0, _), (1, _), (2, _), (3, _), (4, _), (5, _), (16, _), (17, _), (18, _), (19, _), (20, _), (12, _), (11, _), (21, _), (22, _), (23, _), (24, _), (27, _), (28, _), (29, _), (30, _), (31, _), (13, _), (14, _), (10, _), (53, _), (77, _), (15, _), (88, _), (89, _)] [] a := hfr
      have hst : St No w0 [own (.slice (some ⟨b17, 0, none⟩) 1 1) 39 3 ([[.int .i64 ((begins rl (becomes cl.backed now1.state ev) ev.at_).state), .int .i64 ((begins rl (becomes cl.backed now1.state ev) ev.at_).since), .int .i64 ((begins rl (becomes cl.backed now1.state ev) ev.at_).next)]]), own s16 39 3 (((d0 ++ nw :: dn).map Stt.cells) ++ ([[.int .i64 ((begins rl (becomes cl.backed now1.state ev) ev.at_).state), .int .i64 ((begins rl (becomes cl.backed now1.state ev) ev.at_).since), .int .i64 ((begins rl (becomes cl.backed now1.state ev) ev.at_).next)]])), blk w5.heap.size [.int .i64 now1.state, .int .i64 now1.since, .int .i64 now1.next] 39, own u 3 1 (vo.map fun i => [.int .i64 i]), blk w1.heap.size [.int .i64 cl.number, .int .i64 cl.frm, .int .i64 cl.to, .int .i64 cl.holder, .int .i64 cl.asked, .bool cl.backed] 31, blk w0.heap.size [.int .i64 rl.answer, .int .i64 rl.cooling, .int .i64 rl.settle, .int .i64 rl.reverse] 29] w20 := hst
      refine wl_v hfr (by decide) (v_assign rfl) fun a hfr => ?_
      refine wl_nil ?_
      refine hK8 _ _ ?_
      have hfr : Fr 107 [(0, _), (1, _), (2, _), (3, _), (4, _), (5, _), (16, _), (17, _), (18, _), (19, _), (20, _), (12, _), (11, _), (21, _), (22, _), (23, _), (24, _), (27, _), (28, _), (29, _), (30, _), (31, _), (13, _), (14, _), (53, _), (77, _), (15, _), (88, _), (89, _), (10, _)] [] a := hfr.pick [0, 1, 2, 3, 4, 5, 16, 17, 18, 19, 20, 12, 11, 21, 22, 23, 24, 27, 28, 29, 30, 31, 13, 14, 53, 77, 15, 88, 89, 10]
      have hst : St No w0 [_, _, _, _, _] w20 := hst.mask [false, true, true, true, true, true]
      refine wc_region ?_
      refine wl_v hfr (by decide) (v_move rfl) fun a hfr => ?_
      refine wl_v hfr (by decide) (v_add rfl rfl ⟨by omega, by omega⟩) fun a hfr => ?_
      refine wl_v hfr (by decide) (v_assign rfl) fun a hfr => ?_
      refine wl_nil ?_
      rw [show ((d0 ++ nw :: dn).map Stt.cells) ++ [[.int .i64 (begins rl (becomes cl.backed now1.state ev) ev.at_).state, .int .i64 (begins rl (becomes cl.backed now1.state ev) ev.at_).since, .int .i64 (begins rl (becomes cl.backed now1.state ev) ev.at_).next]] = ((d0 ++ nw :: dn) ++ [begins rl (becomes cl.backed now1.state ev) ev.at_]).map Stt.cells from by simp [Stt.cells]] at hst
      refine ⟨_, ?_, k + 1, d0 ++ nw :: dn, begins rl (becomes cl.backed now1.state ev) ev.at_, vo, s16, u, rfl, (by omega), (by rw [hsp, runU_go hkl hev (by omega) hn1 (by omega), hdn]; simp), (by rw [hvo, runU_go hkl hev (by omega) hn1 (by omega)]), (Sound.begins _ _ (by omega) (by omega)), (by simp; omega), (by omega), hfr.pick [0, 1, 2, 3, 4, 5, 16, 17, 18, 19, 20, 12, 10, 11], hst.select [0, 2, 3, 4] (by decide)⟩
      omega
    rw [hc2] at hfr
    try simp only [Bool.not_eq_true', Bool.not_eq_false', decide_eq_true_eq, decide_eq_false_iff_not] at hc2
    refine wc_skip ?_
    refine hK10 _ _ ?_
    refine wc_seq_region fun K27 hK27 => ?_
    refine wl_v hfr (by decide) (v_move rfl) fun a hfr => ?_
    refine wl_v hfr (by decide) (v_move rfl) fun a hfr => ?_
    refine wl_v hfr (by decide) ((v_len_sl (sT := 47) (hst.ownAt (i := 0) rfl) rfl rfl (Try.runUnderlying47 _)).asi (m' := (d0.length : Int) + 1) (by simp)) fun a hfr => ?_
    refine wl_v hfr (by decide) (v_sub rfl rfl ⟨by omega, by omega⟩) fun a hfr => ?_
    refine wl_v hfr (by decide) ((v_indexAddr_sl (i := ((d0.length : Int) + 1) - 1) (sT := 47) (hst.ownAt (i := 0) rfl) rfl rfl (Try.runUnderlying47 _) (Try.sizeOf39 _) (by omega) (by simp)).as (v' := slAddr v (d0.length * 3)) (by rw [show (((d0.length : Int) + 1) - 1).toNat = d0.length from by omega])) fun a hfr => ?_
    refine wl_v hfr (by decide) ((v_load_sl (hst.ownAt (i := 0) rfl) (i := d0.length) (by simp) rfl (Try.isAgg39 _) (Try.sizeOf39 _)).as (v' := .agg #[.int .i64 nw.state, .int .i64 nw.since, .int .i64 nw.next]) (by simp [Stt.cells])) fun a hfr => ?_
    refine wl_alloc hfr hst (by decide) (Try.zeroValue39 _) (cs := [.int .i64 0, .int .i64 0, .int .i64 0]) rfl fun a w21 hfr hst => ?_
    refine wl_store 0 hfr hst rfl rfl rfl (Try.sizeOf39 _) rfl (Nat.le_of_ble_eq_true rfl) (ds := [.int .i64 nw.state, .int .i64 nw.since, .int .i64 nw.next]) rfl rfl fun a w22 hfr hst => ?_
    refine wl_nil (hK27 _ _ ?_)
    have hfr : Fr 107 [(0, _), (1, _), (2, _), (3, _), (4, _), (5, _), (16, _), (17, _), (18, _), (19, _), (20, _), (12, _), (10, _), (11, _), (21, _), (22, _), (23, _), (24, _), (27, _), (13, _), (28, _), (29, _), (30, _), (31, _), (14, _)] [] a := hfr.pick [0, 1, 2, 3, 4, 5, 16, 17, 18, 19, 20, 12, 10, 11, 21, 22, 23, 24, 27, 13, 28, 29, 30, 31, 14]
    refine wc_seq_k fun K28 hK28 => ?_
    refine wc_block ?_
    obtain ⟨to, hto⟩ : ∃ x, t = x := ⟨_, rfl⟩
    rw [hto] at hfr
    refine wc_loop (fun m a w => ∃ (n : Nat) (now1 : Stt) (dn : List Stt) (v1 : Value), m = 0 + n ∧ (alone rl to nw = dn ++ aloneF n rl to now1) ∧ (lastOf nw dn = now1) ∧ (Sound rl now1) ∧ (rank now1.state ≤ n) ∧ (dn.length + n ≤ 4) ∧ Fr 107 [(0, .agg #[.int .i64 rl.answer, .int .i64 rl.cooling, .int .i64 rl.settle, .int .i64 rl.reverse]), (1, .agg #[.int .i64 cl.number, .int .i64 cl.frm, .int .i64 cl.to, .int .i64 cl.holder, .int .i64 cl.asked, .bool cl.backed]), (2, sv), (3, .int .i64 to), (4, .pointer (some ⟨w0.heap.size, 0, none⟩)), (5, .pointer (some ⟨w1.heap.size, 0, none⟩)), (16, .agg #[.int .i64 rl.answer, .int .i64 rl.cooling, .int .i64 rl.settle, .int .i64 rl.reverse]), (17, .pointer (some ⟨w1.heap.size, 4, none⟩)), (18, .int .i64 cl.asked), (19, .agg #[.int .i64 ((begins rl 1 cl.asked).state), .int .i64 ((begins rl 1 cl.asked).since), .int .i64 ((begins rl 1 cl.asked).next)]), (20, (.slice (some ⟨w3.heap.size, 0, none⟩) 1 1)), (12, .int .i64 (k : Int)), (11, u), (21, .int .i64 (k : Int)), (22, sv), (23, .int .i64 (l.length : Int)), (24, .bool true), (27, .int .i64 to), (13, .int .i64 to), (28, .int .i64 (k : Int)), (29, sv), (30, .int .i64 (l.length : Int)), (31, .bool false), (14, .pointer (some ⟨w5.heap.size, 0, none⟩)), (10, v1)] [] a ∧ St No w0 [blk w5.heap.size [.int .i64 now1.state, .int .i64 now1.since, .int .i64 now1.next] 39, own v1 39 3 ((d0 ++ nw :: dn).map Stt.cells), own u 3 1 (vo.map fun i => [.int .i64 i]), blk w1.heap.size [.int .i64 cl.number, .int .i64 cl.frm, .int .i64 cl.to, .int .i64 cl.holder, .int .i64 cl.asked, .bool cl.backed] 31, blk w0.heap.size [.int .i64 rl.answer, .int .i64 rl.cooling, .int .i64 rl.settle, .int .i64 rl.reverse] 29] w) _ ⟨4, nw, [], v, rfl, rfl, rfl, hso, (Nat.le_trans (rank_le _) (by decide)), (by simp), hfr.pick [0, 1, 2, 3, 4, 5, 16, 17, 18, 19, 20, 12, 11, 21, 22, 23, 24, 27, 13, 28, 29, 30, 31, 14, 10], hst.select [0, 1, 2, 3, 4] (by decide)⟩ ?_
    rintro _ a w23 ⟨n, now1, dn, v1, rfl, hal, hla, hso1, hrk, hln, hfr, hst⟩
    refine wc_seq_k fun K29 hK29 => ?_
    refine wc_seq_region fun K30 hK30 => ?_
    refine wl_v hfr (by decide) (v_fieldAddr (v := .pointer (some ⟨w5.heap.size, 2, none⟩)) rfl (by kernel_rfl)) fun a hfr => ?_
    refine wl_v hfr (by decide) (v_load_blk1 (hst.get (k := 0) rfl) rfl (Try.isAgg3 _) rfl) fun a hfr => ?_
    refine wl_v hfr (by decide) (v_ge rfl rfl) fun a hfr => ?_
    refine wl_v hfr (by decide) (v_move rfl) fun a hfr => ?_
    rcases Bool.eq_false_or_eq_true (decide (0 ≤ now1.next)) with hb18 | hb18
    · rw [hb18] at hfr
      try simp only [Bool.not_eq_true', Bool.not_eq_false', decide_eq_true_eq, decide_eq_false_iff_not] at hb18
      have hstep := hso1.step hr hb18
      obtain ⟨hs1, hs2, hs3, hs4, hs5, hs6⟩ := (hso1.next hr).resolve_left (by omega)
      obtain ⟨n, rfl⟩ : ∃ n2, n = n2 + 1 := ⟨n - 1, by omega⟩
      have hnx : (if now1.state = 3 then (4 : Int) else if now1.state = 4 then 5 else 3) = dueNext now1.state := by rcases hs1 with e | e | e | e <;> simp [e, dueNext]
      refine wl_vy hfr (by decide) rfl (by decide) rfl (v_fieldAddr (v := .pointer (some ⟨w5.heap.size, 2, none⟩)) rfl (by kernel_rfl)) fun a hfr => ?_
      refine wl_vy hfr (by decide) rfl (by decide) rfl (v_load_blk1 (hst.get (k := 0) rfl) rfl (Try.isAgg3 _) rfl) fun a hfr => ?_
      refine wl_vy hfr (by decide) rfl (by decide) rfl (v_move rfl) fun a hfr => ?_
      refine wl_vy hfr (by decide) rfl (by decide) rfl (v_le rfl rfl) fun a hfr => ?_
      refine wl_v hfr (by decide) (v_pick_t rfl rfl) fun a hfr => ?_
      refine wl_nil (hK30 _ _ ?_)
      have hfr : Fr 107 [(0, _), (1, _), (2, _), (3, _), (4, _), (5, _), (16, _), (17, _), (18, _), (19, _), (20, _), (12, _), (11, _), (21, _), (22, _), (23, _), (24, _), (27, _), (13, _), (28, _), (29, _), (30, _), (31, _), (14, _), (10, _), (53, _)] [] a := hfr.pick [0, 1, 2, 3, 4, 5, 16, 17, 18, 19, 20, 12, 11, 21, 22, 23, 24, 27, 13, 28, 29, 30, 31, 14, 10, 53]
      refine wc_cond hfr rfl (fun hc19 => ?_) (fun hc19 => ?_)
      · rw [hc19] at hfr
        try simp only [Bool.not_eq_true', Bool.not_eq_false', decide_eq_true_eq, decide_eq_false_iff_not] at hc19
        refine wc_skip ?_
        refine hK29 _ _ ?_
        refine wc_block ?_
        refine wc_seq_k fun K31 hK31 => ?_
        refine wc_of_dr (by kernel_rfl) ?_
        have hfr : Fr 107 [(0, _), (1, _), (2, _), (3, _), (4, _), (5, _), (16, _), (17, _), (18, _), (19, _), (20, _), (12, _), (11, _), (21, _), (22, _), (23, _), (24, _), (27, _), (13, _), (28, _), (29, _), (30, _), (31, _), (14, _), (10, _), (53, _)] [] a := hfr.pick [0, 1, 2, 3, 4, 5, 16, 17, 18, 19, 20, 12, 11, 21, 22, 23, 24, 27, 13, 28, 29, 30, 31, 14, 10, 53]
        refine wc_phases' 7 [[], [], [1], [2], [], [4], [0, 3, 5]] (fun i => match i with | 0 => pv (.agg #[.int .i64 rl.answer, .int .i64 rl.cooling, .int .i64 rl.settle, .int .i64 rl.reverse]) | 1 => pv (.pointer (some ⟨w5.heap.size, 0, none⟩)) | 2 => pv (.int .i64 now1.state) | 3 => pv (.int .i64 (dueNext now1.state)) | 4 => pv (.pointer (some ⟨w5.heap.size, 2, none⟩)) | 5 => pv (.int .i64 now1.next) | 6 => pv (.agg #[.int .i64 ((begins rl (dueNext now1.state) now1.next).state), .int .i64 ((begins rl (dueNext now1.state) now1.next).since), .int .i64 ((begins rl (dueNext now1.state) now1.next).next)]) | _ => fun _ _ => False) hfr hst (by kernel_rfl) (by kernel_rfl) ?_ ?_
        · intro i hi
          match i, hi with
          | 0, _ =>
            intro w hst
            exact OpV.g (v_load_all (hst.get (k := 4) rfl) rfl (Try.isAgg29 _) (Try.sizeOf29 _))
          | 1, _ =>
            intro w hst
            exact OpV.g (v_fieldAddr (v := .pointer (some ⟨w5.heap.size, 0, none⟩)) rfl (by kernel_rfl))
          | 2, _ =>
            rintro _ _ ⟨rfl, rfl⟩
            intro w hst
            exact OpV.g (v_load_blk1 (hst.get (k := 0) rfl) rfl (Try.isAgg3 _) rfl)
          | 3, _ =>
            rintro _ _ ⟨rfl, rfl⟩
            intro w hst
            exact g_callp Try.call85 rfl ((hnx ▸ rafter_ok now1.state _))
          | 4, _ =>
            intro w hst
            exact OpV.g (v_fieldAddr (v := .pointer (some ⟨w5.heap.size, 2, none⟩)) rfl (by kernel_rfl))
          | 5, _ =>
            rintro _ _ ⟨rfl, rfl⟩
            intro w hst
            exact OpV.g (v_load_blk1 (hst.get (k := 0) rfl) rfl (Try.isAgg3 _) rfl)
          | 6, _ =>
            rintro _ _ ⟨rfl, rfl⟩ _ _ ⟨rfl, rfl⟩ _ _ ⟨rfl, rfl⟩
            intro w hst
            exact g_callp Try.call84 rfl (status_ok rl (dueNext now1.state) now1.next _ hr (by omega) (by omega))
        rintro _ _ ⟨rfl, rfl⟩ _ _ ⟨rfl, rfl⟩ _ _ ⟨rfl, rfl⟩ _ _ ⟨rfl, rfl⟩ _ _ ⟨rfl, rfl⟩ _ _ ⟨rfl, rfl⟩ _ _ ⟨rfl, rfl⟩ a w24 hfr hst
        have hfr : Fr 107 [(54, _), (55, _), (56, _), (57, _), (58, _), (59, _), (60, _), (0, _), (1, _), (2, _), (3, _), (4, _), (5, _), (16, _), (17, _), (18, _), (19, _), (20, _), (12, _), (11, _), (21, _), (22, _), (23, _), (24, _), (27, _), (13, _), (28, _), (29, _), (30, _), (31, _), (14, _), (10, _), (53, _)] [] a := hfr
        have hst : St No w0 [_, _, _, _, _] w24 := hst
        refine wl_store 0 hfr hst rfl rfl rfl (Try.sizeOf39 _) rfl (Nat.le_of_ble_eq_true rfl) (ds := [.int .i64 ((begins rl (dueNext now1.state) now1.next).state), .int .i64 ((begins rl (dueNext now1.state) now1.next).since), .int .i64 ((begins rl (dueNext now1.state) now1.next).next)]) rfl rfl fun a w25 hfr hst => ?_
        refine wl_nil ?_
        refine hK31 _ _ ?_
        have hfr : Fr 107 [(0, _), (1, _), (2, _), (3, _), (4, _), (5, _), (16, _), (17, _), (18, _), (19, _), (20, _), (12, _), (11, _), (21, _), (22, _), (23, _), (24, _), (27, _), (13, _), (28, _), (29, _), (30, _), (31, _), (14, _), (10, _), (53, _)] [] a := hfr.pick [0, 1, 2, 3, 4, 5, 16, 17, 18, 19, 20, 12, 11, 21, 22, 23, 24, 27, 13, 28, 29, 30, 31, 14, 10, 53]
        refine wc_region ?_
        refine wl_v hfr (by decide) (v_move rfl) fun a hfr => ?_
        refine wl_v hfr (by decide) (v_load_all (hst.get (k := 0) rfl) rfl (Try.isAgg39 _) (Try.sizeOf39 _)) fun a hfr => ?_
        refine wl_buildSlice (E := 39) (sz := 3) rfl [[.int .i64 ((begins rl (dueNext now1.state) now1.next).state), .int .i64 ((begins rl (dueNext now1.state) now1.next).since), .int .i64 ((begins rl (dueNext now1.state) now1.next).next)]] (by kernel_rfl) (by simp) rfl (by decide) (by decide) hfr hst fun a w26 hfr hst => ?_
        refine wl_append (i := 2) (sT := 47) (inf := Try.t39) (z := .agg #[.int .i64 0, .int .i64 0, .int .i64 0]) (b := 0) (off := 0) (m := 0) (c := 0) rfl rfl rfl (hst.ownAt (i := 0) rfl) (by simp) Try.underlying47 rfl rfl rfl rfl (by decide) (by simp [Value.oneCell']) (by have hby : Try.t3.bytes = 8 := rfl; have hby2 : Try.t39.bytes = 24 := rfl; simp [big, hby, hby2]; omega) (by have hby : Try.t3.bytes = 8 := rfl; have hby2 : Try.t39.bytes = 24 := rfl; simp [big, hby, hby2]; omega) (by decide) hfr hst fun a w27 s20 hfr hst _ => ?_
        refine wl_v hfr (by decide) (v_assign rfl) fun a hfr => ?_
        refine wl_nil ?_
        rw [show ((d0 ++ nw :: dn).map Stt.cells) ++ [[.int .i64 (begins rl (dueNext now1.state) now1.next).state, .int .i64 (begins rl (dueNext now1.state) now1.next).since, .int .i64 (begins rl (dueNext now1.state) now1.next).next]] = (d0 ++ nw :: (dn ++ [begins rl (dueNext now1.state) now1.next])).map Stt.cells from by simp [Stt.cells]] at hst
        refine ⟨_, ?_, n, begins rl (dueNext now1.state) now1.next, dn ++ [begins rl (dueNext now1.state) now1.next], s20, rfl, (by rw [hal, aloneF_pos (by assumption) (by assumption)]; simp), (by rw [lastOf_append, lastOf_cons]; rfl), hstep.1, (by simp only [begins]; omega), (by simp; omega), hfr.pick [0, 1, 2, 3, 4, 5, 16, 17, 18, 19, 20, 12, 11, 21, 22, 23, 24, 27, 13, 28, 29, 30, 31, 14, 10], hst.select [1, 2, 3, 4, 5] (by decide)⟩
        omega
      rw [hc19] at hfr
      try simp only [Bool.not_eq_true', Bool.not_eq_false', decide_eq_true_eq, decide_eq_false_iff_not] at hc19
      refine wc_exit ?_
      refine hK28 _ _ ?_
      refine wc_seq_k fun K32 hK32 => ?_
      have hdn0 : alone rl to nw = dn := by rw [hal, aloneF_neg (now := now1) (u := to) (r := rl) (by omega), List.append_nil]
      have hdn : alone rl t nw = dn := by rw [hto]; exact hdn0
      refine wc_seq_region fun K33 hK33 => ?_
      refine wl_v hfr (by decide) (v_move rfl) fun a hfr => ?_
      refine wl_v hfr (by decide) (v_move rfl) fun a hfr => ?_
      refine wl_v hfr (by decide) ((v_len_sl (sT := 32) (hst.arg hsv) rfl rfl (Try.runUnderlying32 _)).asi (m' := (l.length : Int)) (by simp)) fun a hfr => ?_
      refine wl_v hfr (by decide) ((v_eq rfl rfl).asb (b' := true) (by simp; omega)) fun a hfr => ?_
      refine wl_v hfr (by decide) (v_move rfl) fun a hfr => ?_
      refine wl_vn hfr (by decide) rfl (by decide) rfl rfl fun a hfr => ?_
      refine wl_vn hfr (by decide) rfl (by decide) rfl rfl fun a hfr => ?_
      refine wl_vn hfr (by decide) rfl (by decide) rfl rfl fun a hfr => ?_
      refine wl_vn hfr (by decide) rfl (by decide) rfl rfl fun a hfr => ?_
      refine wl_vn hfr (by decide) rfl (by decide) rfl rfl fun a hfr => ?_
      refine wl_vn hfr (by decide) rfl (by decide) rfl rfl fun a hfr => ?_
      refine wl_vn hfr (by decide) rfl (by decide) rfl rfl fun a hfr => ?_
      refine wl_v hfr (by decide) (v_pick_t rfl rfl) fun a hfr => ?_
      refine wl_nil (hK33 _ _ ?_)
      have hfr : Fr 107 [(0, _), (1, _), (2, _), (3, _), (4, _), (5, _), (16, _), (17, _), (18, _), (19, _), (20, _), (12, _), (11, _), (21, _), (22, _), (23, _), (24, _), (27, _), (13, _), (28, _), (29, _), (30, _), (31, _), (14, _), (10, _), (53, _), (77, _)] [] a := hfr.pick [0, 1, 2, 3, 4, 5, 16, 17, 18, 19, 20, 12, 11, 21, 22, 23, 24, 27, 13, 28, 29, 30, 31, 14, 10, 53, 77]
      refine wc_cond_t hfr rfl ?_
      have hres : runS rl cl l t = d0 ++ nw :: dn := by rw [hsp, runU_end (by omega)]; simp [hdn]
      have hresv : runV rl cl l t = vo := by rw [hvo, runU_end (by omega)]; simp
      refine wc_seq_region fun K34 hK34 => ?_
      refine wl_v hfr (by decide) (v_move rfl) fun a hfr => ?_
      refine wl_v hfr (by decide) (v_move rfl) fun a hfr => ?_
      refine wl_v hfr (by decide) (v_assign rfl) fun a hfr => ?_
      refine wl_v hfr (by decide) (v_assign rfl) fun a hfr => ?_
      refine wl_nil (hK34 _ _ ?_)
      refine wc_ret ?_
      refine fin_ret hfr Try.results57 (resAre_tmp rfl (resAre_tmp rfl resAre_nil)) ?_
      exact ⟨(v1, u), rfl, trivial, hst.ext, St.out (E := [own v1 39 3 ((runS rl cl l t).map Stt.cells), own u 3 1 ((runV rl cl l t).map fun i => [.int .i64 i])]) (H := []) (by rw [hres, hresv]; exact hst.select [1, 2] (by decide))⟩
    rw [hb18] at hfr
    try simp only [Bool.not_eq_true', Bool.not_eq_false', decide_eq_true_eq, decide_eq_false_iff_not] at hb18
    refine wl_vn hfr (by decide) rfl (by decide) rfl rfl fun a hfr => ?_
    refine wl_vn hfr (by decide) rfl (by decide) rfl rfl fun a hfr => ?_
    refine wl_vn hfr (by decide) rfl (by decide) rfl rfl fun a hfr => ?_
    refine wl_vn hfr (by decide) rfl (by decide) rfl rfl fun a hfr => ?_
    refine wl_v hfr (by decide) (v_pick_f rfl rfl) fun a hfr => ?_
    refine wl_nil (hK30 _ _ ?_)
    have hfr : Fr 107 [(0, _), (1, _), (2, _), (3, _), (4, _), (5, _), (16, _), (17, _), (18, _), (19, _), (20, _), (12, _), (11, _), (21, _), (22, _), (23, _), (24, _), (27, _), (13, _), (28, _), (29, _), (30, _), (31, _), (14, _), (10, _), (53, _)] [] a := hfr.pick [0, 1, 2, 3, 4, 5, 16, 17, 18, 19, 20, 12, 11, 21, 22, 23, 24, 27, 13, 28, 29, 30, 31, 14, 10, 53]
    refine wc_cond_f hfr rfl ?_
    refine wc_exit ?_
    refine hK28 _ _ ?_
    refine wc_seq_k fun K35 hK35 => ?_
    have hdn0 : alone rl to nw = dn := by rw [hal, aloneF_neg (now := now1) (u := to) (r := rl) (by omega), List.append_nil]
    have hdn : alone rl t nw = dn := by rw [hto]; exact hdn0
    refine wc_seq_region fun K36 hK36 => ?_
    refine wl_v hfr (by decide) (v_move rfl) fun a hfr => ?_
    refine wl_v hfr (by decide) (v_move rfl) fun a hfr => ?_
    refine wl_v hfr (by decide) ((v_len_sl (sT := 32) (hst.arg hsv) rfl rfl (Try.runUnderlying32 _)).asi (m' := (l.length : Int)) (by simp)) fun a hfr => ?_
    refine wl_v hfr (by decide) ((v_eq rfl rfl).asb (b' := true) (by simp; omega)) fun a hfr => ?_
    refine wl_v hfr (by decide) (v_move rfl) fun a hfr => ?_
    refine wl_vn hfr (by decide) rfl (by decide) rfl rfl fun a hfr => ?_
    refine wl_vn hfr (by decide) rfl (by decide) rfl rfl fun a hfr => ?_
    refine wl_vn hfr (by decide) rfl (by decide) rfl rfl fun a hfr => ?_
    refine wl_vn hfr (by decide) rfl (by decide) rfl rfl fun a hfr => ?_
    refine wl_vn hfr (by decide) rfl (by decide) rfl rfl fun a hfr => ?_
    refine wl_vn hfr (by decide) rfl (by decide) rfl rfl fun a hfr => ?_
    refine wl_vn hfr (by decide) rfl (by decide) rfl rfl fun a hfr => ?_
    refine wl_v hfr (by decide) (v_pick_t rfl rfl) fun a hfr => ?_
    refine wl_nil (hK36 _ _ ?_)
    have hfr : Fr 107 [(0, _), (1, _), (2, _), (3, _), (4, _), (5, _), (16, _), (17, _), (18, _), (19, _), (20, _), (12, _), (11, _), (21, _), (22, _), (23, _), (24, _), (27, _), (13, _), (28, _), (29, _), (30, _), (31, _), (14, _), (10, _), (53, _), (77, _)] [] a := hfr.pick [0, 1, 2, 3, 4, 5, 16, 17, 18, 19, 20, 12, 11, 21, 22, 23, 24, 27, 13, 28, 29, 30, 31, 14, 10, 53, 77]
    refine wc_cond_t hfr rfl ?_
    have hres : runS rl cl l t = d0 ++ nw :: dn := by rw [hsp, runU_end (by omega)]; simp [hdn]
    have hresv : runV rl cl l t = vo := by rw [hvo, runU_end (by omega)]; simp
    refine wc_seq_region fun K37 hK37 => ?_
    refine wl_v hfr (by decide) (v_move rfl) fun a hfr => ?_
    refine wl_v hfr (by decide) (v_move rfl) fun a hfr => ?_
    refine wl_v hfr (by decide) (v_assign rfl) fun a hfr => ?_
    refine wl_v hfr (by decide) (v_assign rfl) fun a hfr => ?_
    refine wl_nil (hK37 _ _ ?_)
    refine wc_ret ?_
    refine fin_ret hfr Try.results57 (resAre_tmp rfl (resAre_tmp rfl resAre_nil)) ?_
    exact ⟨(v1, u), rfl, trivial, hst.ext, St.out (E := [own v1 39 3 ((runS rl cl l t).map Stt.cells), own u 3 1 ((runV rl cl l t).map fun i => [.int .i64 i])]) (H := []) (by rw [hres, hresv]; exact hst.select [1, 2] (by decide))⟩
  rw [hc1] at hfr
  try simp only [Bool.not_eq_true', Bool.not_eq_false', decide_eq_true_eq, decide_eq_false_iff_not] at hc1
  exact absurd hk (by omega)
end Go.Proofs.Ytdamipejlfipcaa
