/- Texts joined: ClaimS, ClaimT, ClaimU, ClaimV, ClaimQ, ClaimX, BlkQ, BlkA. -/
import Derived.Test.YtnfnkohkcmkddaaPRC
import Derived.Test.YtnfnkohkcmkddaaPRB
import Derived.Test.YtnfnkohkcmkddaaPRA
import Derived.Test.YtnfnkohkcmkddaaRows
namespace Go.Proofs.Ytnfnkohkcmkddaa
open Go.RowKit Go.PW
set_option linter.unusedVariables false
set_option linter.unusedSimpArgs false
set_option maxRecDepth 4000
theorem snoc_last {now1 nw : Stt} {d0 dn : List Stt} (h : lastOf nw dn = now1) : ∃ d1, d0 ++ nw :: dn = d1 ++ [now1] := by
 rcases List.eq_nil_or_concat dn with rfl | ⟨q, s, rfl⟩
 ·exact ⟨d0, by rw [← h]; rfl⟩
 ·refine ⟨d0 ++ nw :: q, ?_⟩
  have hs : s = now1 := by rw [← h]; simp [lastOf]
  subst hs; simp
set_option maxHeartbeats 4000000 in
theorem run_ok (rl : Rul) (cl : Clm) (sv : Value) (l : List Evt) (t : Int) (w0 : World) (hsv : SlAt w0 sv 3 (l.map Evt.cells)) (hv : valid rl cl l = true) (h0 : 0 ≤ t) (h1 : t ≤ 40000000) :
  Ret Try.prog 48 #[.agg #[iv rl.answer, iv rl.cooling, iv rl.settle, iv rl.reverse], .agg #[iv cl.number, iv cl.frm, iv cl.to, iv cl.holder, iv cl.asked, .bool cl.backed], sv, iv t] w0 (MemR w0 (fun x : Value × Value => .tuple #[x.1, x.2]) (fun x => [own x.1 54 3 ((runS rl cl l t).map Stt.cells), own x.2 3 1 ((runV rl cl l t).map fun i => [iv i])]) (fun _ => True)) := by
 obtain ⟨hr, hc, hlen, hbad⟩ := valid_parts hv
 have hcl := isClaim_le hc
 have hfs : Sound rl (first rl cl) := Sound.begins 1 cl.asked (by omega) (by omega)
 refine ret_of Try.func48 rfl Try.ntmps48 (lb rfl) fun a hfr => ?_
 have hfr : Fr 107 [(0, _), (1, _), (2, _), (3, _)] [] a := hfr
 have hst : St No w0 [] w0 := St.init w0
 refine wc_seq_region fun K1 hK1 => ?_
 refine wl_box hfr hst rfl [iv rl.answer, iv rl.cooling, iv rl.settle, iv rl.reverse] rfl fun a w1 hfr hst => ?_
 refine wl_box hfr hst rfl [iv cl.number, iv cl.frm, iv cl.to, iv cl.holder, iv cl.asked, .bool cl.backed] rfl fun a w2 hfr hst => ?_
 refine wla hfr rfl fun a hfr => wla hfr rfl fun a hfr => ?_
 refine wl_nil (hK1 _ _ ?_)
 refine wc_seq_region fun K2 hK2 => ?_
 refine wlv hfr (v_load_all (hst.get (k := 1) rfl) rfl (Try.isAgg31 _) (Try.sizeOf31 _)) fun a hfr => ?_
 refine wlv hfr (v_fieldAddr (v := .pointer (some ⟨w1.heap.size, 4, none⟩)) rfl (by kernel_rfl)) fun a hfr => ?_
 refine wlv hfr (v_load_blk1 (hst.get (k := 0) rfl) rfl (Try.isAgg3 _) rfl) fun a hfr => ?_
 refine wl_callp hfr hst Try.call70 rfl (status_ok rl 1 cl.asked _ hr (by omega) (by omega)) fun a w3 hfr hst => ?_
 refine wl_buildSlice (E := 54) (sz := 3) rfl [[iv ((begins rl 1 cl.asked).state), iv ((begins rl 1 cl.asked).since), iv ((begins rl 1 cl.asked).next)]] (by kernel_rfl) (by simp) rfl (by decide) (by decide) hfr hst fun a w4 hfr hst => ?_
 refine wla hfr rfl fun a hfr => ?_
 refine wl_nil (hK2 _ _ ?_)
 refine wc_seq_region fun K3 hK3 => ?_
 refine wla hfr rfl fun a hfr => ?_
 refine wl_nil (hK3 _ _ ?_)
 refine wc_seq_k fun K4 hK4 => ?_
 refine wc_seq_region fun K5 hK5 => ?_
 refine wla hfr rfl fun a hfr => ?_
 refine wl_nil (hK5 _ _ ?_)
 refine wc_block ?_
 have hst : St No w0 (own (.slice none 0 0) 3 1 [] :: [own (.slice (some ⟨w3.heap.size, 0, none⟩) 1 1) 54 3 ([[iv ((begins rl 1 cl.asked).state), iv ((begins rl 1 cl.asked).since), iv ((begins rl 1 cl.asked).next)]]), blk w1.heap.size [iv cl.number, iv cl.frm, iv cl.to, iv cl.holder, iv cl.asked, .bool cl.backed] 33, blk w0.heap.size [iv rl.answer, iv rl.cooling, iv rl.settle, iv rl.reverse] 31]) w4 := hst.nil_own
 refine wc_loop (fun m a w => ∃ (k : Nat) (d0 : List Stt) (nw : Stt) (vo : List Int) (v : Value) (u : Value), m = l.length + 1 - k ∧ (k ≤ l.length) ∧ (runS rl cl l t = d0 ++ nw :: (runU rl cl.backed t k nw (l.drop k)).1) ∧ (runV rl cl l t = vo ++ (runU rl cl.backed t k nw (l.drop k)).2) ∧ (Sound rl nw) ∧ (d0.length ≤ 5 * k) ∧ (vo.length ≤ k) ∧ Fr 107 [(0, .agg #[iv rl.answer, iv rl.cooling, iv rl.settle, iv rl.reverse]), (1, .agg #[iv cl.number, iv cl.frm, iv cl.to, iv cl.holder, iv cl.asked, .bool cl.backed]), (2, sv), (3, iv t), (4, .pointer (some ⟨w0.heap.size, 0, none⟩)), (5, .pointer (some ⟨w1.heap.size, 0, none⟩)), (16, .agg #[iv rl.answer, iv rl.cooling, iv rl.settle, iv rl.reverse]), (17, .pointer (some ⟨w1.heap.size, 4, none⟩)), (18, iv cl.asked), (19, .agg #[iv ((begins rl 1 cl.asked).state), iv ((begins rl 1 cl.asked).since), iv ((begins rl 1 cl.asked).next)]), (20, (.slice (some ⟨w3.heap.size, 0, none⟩) 1 1)), (12, iv (k : Int)), (10, v), (11, u)] [] a ∧ St No w0 [own v 54 3 ((d0 ++ [nw]).map Stt.cells), own u 3 1 (vo.map fun i => [iv i]), blk w1.heap.size [iv cl.number, iv cl.frm, iv cl.to, iv cl.holder, iv cl.asked, .bool cl.backed] 33, blk w0.heap.size [iv rl.answer, iv rl.cooling, iv rl.settle, iv rl.reverse] 31] w) _ ⟨0, [], first rl cl, [], (.slice (some ⟨w3.heap.size, 0, none⟩) 1 1), .slice none 0 0, rfl, Nat.zero_le _, rfl, rfl, hfs, (by simp), (by simp), hfr.pick [0, 1, 2, 3, 4, 5, 16, 17, 18, 19, 20, 12, 10, 11], hst.select [1, 0, 2, 3] (by decide)⟩ ?_
 rintro _ a w5 ⟨k, d0, nw, vo, v, u, rfl, hk, hsp, hvo, hso, hdl, hvl, hfr, hst⟩
 refine wc_seq_k fun K6 hK6 => ?_
 refine wc_seq_region fun K7 hK7 => ?_
 refine wlm hfr rfl fun a hfr => wlm hfr rfl fun a hfr => ?_
 refine wlv hfr ((v_len_sl (sT := 34) (hst.arg hsv) rfl rfl (Try.runUnderlying34 _)).asi (m' := (l.length : Int)) (by simp)) fun a hfr => ?_
 refine wlv hfr (v_le rfl rfl) fun a hfr => ?_
 refine wl_nil (hK7 _ _ ?_)
 refine wc_cond_d hfr rfl (fun hc1 => ?_) (fun hc1 => ?_)
 ·rw [decide_eq_true hc1] at hfr
  refine wc_skip ?_
  refine hK6 _ _ ?_
  refine wc_seq_k fun K8 hK8 => ?_
  refine wc_block ?_
  refine wc_seq_region fun K9 hK9 => ?_
  refine wlm hfr rfl fun a hfr => wla hfr rfl fun a hfr => ?_
  refine wl_nil (hK9 _ _ ?_)
  refine wc_seq_k fun K10 hK10 => ?_
  refine wc_seq_region fun K11 hK11 => ?_
  refine wlm hfr rfl fun a hfr => wlm hfr rfl fun a hfr => ?_
  refine wlv hfr ((v_len_sl (sT := 34) (hst.arg hsv) rfl rfl (Try.runUnderlying34 _)).asi (m' := (l.length : Int)) (by simp)) fun a hfr => ?_
  refine wlv hfr (v_lt rfl rfl) fun a hfr => ?_
  refine wl_nil (hK11 _ _ ?_)
  refine wc_cond_d hfr rfl (fun hc2 => ?_) (fun hc2 => ?_)
  ·rw [decide_eq_true hc2] at hfr
   have hkl : k < l.length := by omega
   obtain ⟨ev, hev⟩ : ∃ ev, l.getD k ⟨0, 0, 0⟩ = ev := ⟨_, rfl⟩
   have hea := anyBad_at l cl.asked hbad k hkl
   rw [hev] at hea
   refine wc_region ?_
   refine wlm hfr rfl fun a hfr => wlm hfr rfl fun a hfr => ?_
   refine wlv hfr ((v_indexAddr_sl (i := (k : Int)) (sT := 34) (hst.arg hsv) rfl rfl (Try.runUnderlying34 _) (Try.sizeOf39 _) (by omega) (by simpa using hkl)).as (v' := slAddr sv (k * 3)) rfl) fun a hfr => ?_
   refine wlv hfr (v_fieldAddr_sl (k := k * 3) (j := 1) (hst.arg hsv) (i := k) (by simpa using hkl) rfl (fun _ _ => by kernel_rfl)) fun a hfr => ?_
   refine wlv hfr (v_load_sl1 (u := iv ev.at_) (i := k) (j := 1) (hst.arg hsv) (by simpa using hkl) rfl (Try.isAgg3 _) (by rw [← hev]; first | (show _ = Value.agg (l.getD k ⟨0, 0, 0⟩).cells.toArray; simp [hkl]) | simp [hkl, Evt.cells])) fun a hfr => wlm hfr rfl fun a hfr => ?_
   refine wlv hfr (v_min2 rfl rfl) fun a hfr => wla hfr rfl fun a hfr => ?_
   refine wl_nil ?_
   refine hK10 _ _ ?_
   have hfr : Fr 107 [(0, _), (1, _), (2, _), (3, _), (4, _), (5, _), (16, _), (17, _), (18, _), (19, _), (20, _), (12, _), (10, _), (11, _), (21, _), (22, _), (23, _), (24, _), (27, _), (28, _), (29, _), (30, _), (31, _), (13, _)] [] a := hfr.pick [0, 1, 2, 3, 4, 5, 16, 17, 18, 19, 20, 12, 10, 11, 21, 22, 23, 24, 27, 28, 29, 30, 31, 13]
   refine wc_seq_region fun K12 hK12 => ?_
   refine wlm hfr rfl fun a hfr => wlm hfr rfl fun a hfr => ?_
   refine wlv hfr ((v_len_sl (sT := 63) (hst.ownAt (i := 0) rfl) rfl rfl (Try.runUnderlying63 _)).asi (m' := (d0.length : Int) + 1) (by simp)) fun a hfr => ?_
   refine wlv hfr (v_sub rfl rfl ⟨by omega, by omega⟩) fun a hfr => ?_
   refine wlv hfr ((v_indexAddr_sl (i := ((d0.length : Int) + 1) - 1) (sT := 63) (hst.ownAt (i := 0) rfl) rfl rfl (Try.runUnderlying63 _) (Try.sizeOf54 _) (by omega) (by simp)).as (v' := slAddr v (d0.length * 3)) (by rw [show (((d0.length : Int) + 1) - 1).toNat = d0.length from by omega])) fun a hfr => ?_
   refine wlv hfr ((v_load_sl (hst.ownAt (i := 0) rfl) (i := d0.length) (by simp) rfl (Try.isAgg54 _) (Try.sizeOf54 _)).as (v' := .agg #[iv nw.state, iv nw.since, iv nw.next]) (by simp [Stt.cells])) fun a hfr => ?_
   refine wl_alloc hfr hst (Try.zeroValue54 _) [iv 0, iv 0, iv 0] rfl fun a w6 hfr hst => ?_
   refine wl_sto 0 hfr hst [iv nw.state, iv nw.since, iv nw.next] rfl (Try.sizeOf54 _) fun a w7 hfr hst => ?_
   refine wl_nil (hK12 _ _ ?_)
   have hfr : Fr 107 [(0, _), (1, _), (2, _), (3, _), (4, _), (5, _), (16, _), (17, _), (18, _), (19, _), (20, _), (12, _), (10, _), (11, _), (21, _), (22, _), (23, _), (24, _), (27, _), (28, _), (29, _), (30, _), (31, _), (13, _), (14, _)] [] a := hfr.pick [0, 1, 2, 3, 4, 5, 16, 17, 18, 19, 20, 12, 10, 11, 21, 22, 23, 24, 27, 28, 29, 30, 31, 13, 14]
   refine wc_seq_k fun K13 hK13 => ?_
   refine wc_block ?_
   obtain ⟨to, hto⟩ : ∃ x, min ev.at_ t = x := ⟨_, rfl⟩
   rw [hto] at hfr
   refine wc_loop (fun m a w => ∃ (n : Nat) (now1 : Stt) (dn : List Stt) (v1 : Value), m = 0 + n ∧ (alone rl to nw = dn ++ aloneF n rl to now1) ∧ (lastOf nw dn = now1) ∧ (Sound rl now1) ∧ (rank now1.state ≤ n) ∧ (dn.length + n ≤ 4) ∧ Fr 107 [(0, .agg #[iv rl.answer, iv rl.cooling, iv rl.settle, iv rl.reverse]), (1, .agg #[iv cl.number, iv cl.frm, iv cl.to, iv cl.holder, iv cl.asked, .bool cl.backed]), (2, sv), (3, iv t), (4, .pointer (some ⟨w0.heap.size, 0, none⟩)), (5, .pointer (some ⟨w1.heap.size, 0, none⟩)), (16, .agg #[iv rl.answer, iv rl.cooling, iv rl.settle, iv rl.reverse]), (17, .pointer (some ⟨w1.heap.size, 4, none⟩)), (18, iv cl.asked), (19, .agg #[iv ((begins rl 1 cl.asked).state), iv ((begins rl 1 cl.asked).since), iv ((begins rl 1 cl.asked).next)]), (20, (.slice (some ⟨w3.heap.size, 0, none⟩) 1 1)), (12, iv (k : Int)), (11, u), (21, iv (k : Int)), (22, sv), (23, iv (l.length : Int)), (24, .bool true), (27, iv t), (28, iv (k : Int)), (29, sv), (30, iv (l.length : Int)), (31, .bool true), (13, iv to), (14, .pointer (some ⟨w5.heap.size, 0, none⟩)), (10, v1)] [] a ∧ St No w0 [blk w5.heap.size [iv now1.state, iv now1.since, iv now1.next] 54, own v1 54 3 ((d0 ++ nw :: dn).map Stt.cells), own u 3 1 (vo.map fun i => [iv i]), blk w1.heap.size [iv cl.number, iv cl.frm, iv cl.to, iv cl.holder, iv cl.asked, .bool cl.backed] 33, blk w0.heap.size [iv rl.answer, iv rl.cooling, iv rl.settle, iv rl.reverse] 31] w) _ ⟨4, nw, [], v, rfl, rfl, rfl, hso, (Nat.le_trans (rank_le _) (by decide)), (by simp), hfr.pick [0, 1, 2, 3, 4, 5, 16, 17, 18, 19, 20, 12, 11, 21, 22, 23, 24, 27, 28, 29, 30, 31, 13, 14, 10], hst.select [0, 1, 2, 3, 4] (by decide)⟩ ?_
   rintro _ a w8 ⟨n, now1, dn, v1, rfl, hal, hla, hso1, hrk, hln, hfr, hst⟩
   refine wc_seq_k fun K14 hK14 => ?_
   refine wc_seq_region fun K15 hK15 => ?_
   refine wlv hfr (v_fieldAddr (v := .pointer (some ⟨w5.heap.size, 2, none⟩)) rfl (by kernel_rfl)) fun a hfr => ?_
   refine wlv hfr (v_load_blk1 (hst.get (k := 0) rfl) rfl (Try.isAgg3 _) rfl) fun a hfr => ?_
   refine wlv hfr (v_ge rfl rfl) fun a hfr => wlm hfr rfl fun a hfr => ?_
   rcases Decidable.em (0 ≤ now1.next) with hb3 | hb3
   ·rw [decide_eq_true hb3] at hfr
    have hstep := hso1.step hr hb3
    obtain ⟨hs1, hs2, hs3, hs4, hs5, hs6⟩ := (hso1.next hr).resolve_left (by omega)
    obtain ⟨n, rfl⟩ : ∃ n2, n = n2 + 1 := ⟨n - 1, by omega⟩
    have hnx : (if now1.state = 3 then (4 : Int) else if now1.state = 4 then 5 else 3) = dueNext now1.state := by rcases hs1 with e | e | e | e <;> simp [e, dueNext]
    refine wly hfr (v_fieldAddr (v := .pointer (some ⟨w5.heap.size, 2, none⟩)) rfl (by kernel_rfl)) fun a hfr => wly hfr (v_load_blk1 (hst.get (k := 0) rfl) rfl (Try.isAgg3 _) rfl) fun a hfr => wly hfr (v_move rfl) fun a hfr => wly hfr (v_le rfl rfl) fun a hfr => ?_
    refine wlv hfr (v_pick_t rfl rfl) fun a hfr => ?_
    refine wl_nil (hK15 _ _ ?_)
    have hfr : Fr 107 [(0, _), (1, _), (2, _), (3, _), (4, _), (5, _), (16, _), (17, _), (18, _), (19, _), (20, _), (12, _), (11, _), (21, _), (22, _), (23, _), (24, _), (27, _), (28, _), (29, _), (30, _), (31, _), (13, _), (14, _), (10, _), (53, _)] [] a := hfr.pick [0, 1, 2, 3, 4, 5, 16, 17, 18, 19, 20, 12, 11, 21, 22, 23, 24, 27, 28, 29, 30, 31, 13, 14, 10, 53]
    refine wc_cond_d hfr rfl (fun hc4 => ?_) (fun hc4 => ?_)
    ·rw [decide_eq_true hc4] at hfr
     refine wc_skip ?_
     refine hK14 _ _ ?_
     refine wc_block ?_
     refine wc_seq_k fun K16 hK16 => ?_
     refine wc_of_dr ?_
     have hfr : Fr 107 [(0, _), (1, _), (2, _), (3, _), (4, _), (5, _), (16, _), (17, _), (18, _), (19, _), (20, _), (12, _), (11, _), (21, _), (22, _), (23, _), (24, _), (27, _), (28, _), (29, _), (30, _), (31, _), (13, _), (14, _), (10, _), (53, _)] [] a := hfr.pick [0, 1, 2, 3, 4, 5, 16, 17, 18, 19, 20, 12, 11, 21, 22, 23, 24, 27, 28, 29, 30, 31, 13, 14, 10, 53]
     refine wc_phases' 7 [[], [], [1], [2], [], [4], [0, 3, 5]] (fun i => match i with | 0 => pv (.agg #[iv rl.answer, iv rl.cooling, iv rl.settle, iv rl.reverse]) | 1 => pv (.pointer (some ⟨w5.heap.size, 0, none⟩)) | 2 => pv (iv now1.state) | 3 => pv (iv (dueNext now1.state)) | 4 => pv (.pointer (some ⟨w5.heap.size, 2, none⟩)) | 5 => pv (iv now1.next) | 6 => pv (.agg #[iv ((begins rl (dueNext now1.state) now1.next).state), iv ((begins rl (dueNext now1.state) now1.next).since), iv ((begins rl (dueNext now1.state) now1.next).next)]) | _ => fun _ _ => False) hfr hst (by kernel_rfl) (by kernel_rfl) ?_ ?_
     ·intro i hi
      match i, hi with
      | 0, _ =>
       intro w hst
       exact OpV.g (v_load_all (hst.get (k := 4) rfl) rfl (Try.isAgg31 _) (Try.sizeOf31 _))
      | 1, _ =>
       intro w hst
       exact OpV.g (v_fieldAddr (v := .pointer (some ⟨w5.heap.size, 0, none⟩)) rfl (by kernel_rfl))
      | 2, _ =>
       rintro _ _ ⟨rfl, rfl⟩
       intro w hst
       exact OpV.g (v_load_blk1 (hst.get (k := 0) rfl) rfl (Try.isAgg3 _) rfl)
      | 3, _ =>
       rintro _ _ ⟨rfl, rfl⟩
       intro w hst
       exact g_callp Try.call71 rfl ((hnx ▸ rafter_ok now1.state _))
      | 4, _ =>
       intro w hst
       exact OpV.g (v_fieldAddr (v := .pointer (some ⟨w5.heap.size, 2, none⟩)) rfl (by kernel_rfl))
      | 5, _ =>
       rintro _ _ ⟨rfl, rfl⟩
       intro w hst
       exact OpV.g (v_load_blk1 (hst.get (k := 0) rfl) rfl (Try.isAgg3 _) rfl)
      | 6, _ =>
       rintro _ _ ⟨rfl, rfl⟩ _ _ ⟨rfl, rfl⟩ _ _ ⟨rfl, rfl⟩
       intro w hst
       exact g_callp Try.call70 rfl (status_ok rl (dueNext now1.state) now1.next _ hr (by omega) (by omega))
     rintro _ _ ⟨rfl, rfl⟩ _ _ ⟨rfl, rfl⟩ _ _ ⟨rfl, rfl⟩ _ _ ⟨rfl, rfl⟩ _ _ ⟨rfl, rfl⟩ _ _ ⟨rfl, rfl⟩ _ _ ⟨rfl, rfl⟩ a w9 hfr hst
     have hfr : Fr 107 [(54, _), (55, _), (56, _), (57, _), (58, _), (59, _), (60, _), (0, _), (1, _), (2, _), (3, _), (4, _), (5, _), (16, _), (17, _), (18, _), (19, _), (20, _), (12, _), (11, _), (21, _), (22, _), (23, _), (24, _), (27, _), (28, _), (29, _), (30, _), (31, _), (13, _), (14, _), (10, _), (53, _)] [] a := hfr
     have hst : St No w0 [_, _, _, _, _] w9 := hst
     refine wl_sto 0 hfr hst [iv ((begins rl (dueNext now1.state) now1.next).state), iv ((begins rl (dueNext now1.state) now1.next).since), iv ((begins rl (dueNext now1.state) now1.next).next)] rfl (Try.sizeOf54 _) fun a w10 hfr hst => ?_
     refine wl_nil ?_
     refine hK16 _ _ ?_
     have hfr : Fr 107 [(0, _), (1, _), (2, _), (3, _), (4, _), (5, _), (16, _), (17, _), (18, _), (19, _), (20, _), (12, _), (11, _), (21, _), (22, _), (23, _), (24, _), (27, _), (28, _), (29, _), (30, _), (31, _), (13, _), (14, _), (10, _), (53, _)] [] a := hfr.pick [0, 1, 2, 3, 4, 5, 16, 17, 18, 19, 20, 12, 11, 21, 22, 23, 24, 27, 28, 29, 30, 31, 13, 14, 10, 53]
     refine wc_region ?_
     refine wlm hfr rfl fun a hfr => ?_
     refine wlv hfr (v_load_all (hst.get (k := 0) rfl) rfl (Try.isAgg54 _) (Try.sizeOf54 _)) fun a hfr => ?_
     refine wl_buildSlice (E := 54) (sz := 3) rfl [[iv ((begins rl (dueNext now1.state) now1.next).state), iv ((begins rl (dueNext now1.state) now1.next).since), iv ((begins rl (dueNext now1.state) now1.next).next)]] (by kernel_rfl) (by simp) rfl (by decide) (by decide) hfr hst fun a w11 hfr hst => ?_
     refine wl_append (i := 2) (sT := 63) (inf := Try.t54) (z := .agg #[iv 0, iv 0, iv 0]) (b := 0) (off := 0) (m := 0) (c := 0) rfl rfl rfl (hst.ownAt (i := 0) rfl) (by simp) Try.underlying63 rfl rfl rfl rfl (by decide) (by simp [Value.oneCell']) (by have hby : Try.t3.bytes = 8 := rfl; have hby2 : Try.t54.bytes = 24 := rfl; simp [big, hby, hby2]; omega) (by have hby : Try.t3.bytes = 8 := rfl; have hby2 : Try.t54.bytes = 24 := rfl; simp [big, hby, hby2]; omega) (by decide) hfr hst fun a w12 s5 hfr hst _ => ?_
     refine wla hfr rfl fun a hfr => ?_
     refine wl_nil ?_
     rw [show ((d0 ++ nw :: dn).map Stt.cells) ++ [[iv (begins rl (dueNext now1.state) now1.next).state, iv (begins rl (dueNext now1.state) now1.next).since, iv (begins rl (dueNext now1.state) now1.next).next]] = (d0 ++ nw :: (dn ++ [begins rl (dueNext now1.state) now1.next])).map Stt.cells from by simp [Stt.cells]] at hst
     refine ⟨_, ?_, n, begins rl (dueNext now1.state) now1.next, dn ++ [begins rl (dueNext now1.state) now1.next], s5, rfl, (by rw [hal, aloneF_pos (by assumption) (by assumption)]; simp), (by rw [lastOf_append, lastOf_cons]; rfl), hstep.1, (by simp only [begins]; omega), (by simp; omega), hfr.pick [0, 1, 2, 3, 4, 5, 16, 17, 18, 19, 20, 12, 11, 21, 22, 23, 24, 27, 28, 29, 30, 31, 13, 14, 10], hst.select [1, 2, 3, 4, 5] (by decide)⟩
     omega
    rw [decide_eq_false hc4] at hfr
    refine wc_exit ?_
    refine hK13 _ _ ?_
    refine wc_seq_k fun K17 hK17 => ?_
    have hdn0 : alone rl to nw = dn := by rw [hal, aloneF_neg (now := now1) (u := to) (r := rl) (by omega), List.append_nil]
    have hdn : alone rl (min ev.at_ t) nw = dn := by rw [hto]; exact hdn0
    have hn1 : lastOf nw (alone rl (min ev.at_ t) nw) = now1 := by rw [hdn]; exact hla
    refine wc_seq_region fun K18 hK18 => ?_
    refine wlm hfr rfl fun a hfr => wlm hfr rfl fun a hfr => ?_
    refine wlv hfr ((v_len_sl (sT := 34) (hst.arg hsv) rfl rfl (Try.runUnderlying34 _)).asi (m' := (l.length : Int)) (by simp)) fun a hfr => ?_
    refine wlv hfr ((v_eq rfl rfl).asb (b' := false) (by simp; omega)) fun a hfr => wlm hfr rfl fun a hfr => wly hfr (v_move rfl) fun a hfr => wly hfr (v_move rfl) fun a hfr => wly hfr ((v_indexAddr_sl (i := (k : Int)) (sT := 34) (hst.arg hsv) rfl rfl (Try.runUnderlying34 _) (Try.sizeOf39 _) (by omega) (by simpa using hkl)).as (v' := slAddr sv (k * 3)) rfl) fun a hfr => wly hfr (v_fieldAddr_sl (k := k * 3) (j := 1) (hst.arg hsv) (i := k) (by simpa using hkl) rfl (fun _ _ => by kernel_rfl)) fun a hfr => wly hfr (v_load_sl1 (u := iv ev.at_) (i := k) (j := 1) (hst.arg hsv) (by simpa using hkl) rfl (Try.isAgg3 _) (by rw [← hev]; first | (show _ = Value.agg (l.getD k ⟨0, 0, 0⟩).cells.toArray; simp [hkl]) | simp [hkl, Evt.cells])) fun a hfr => wly hfr (v_move rfl) fun a hfr => wly hfr (v_gt rfl rfl) fun a hfr => ?_
    refine wlv hfr (v_pick_f rfl rfl) fun a hfr => ?_
    refine wl_nil (hK18 _ _ ?_)
    have hfr : Fr 107 [(0, _), (1, _), (2, _), (3, _), (4, _), (5, _), (16, _), (17, _), (18, _), (19, _), (20, _), (12, _), (11, _), (21, _), (22, _), (23, _), (24, _), (27, _), (28, _), (29, _), (30, _), (31, _), (13, _), (14, _), (10, _), (53, _), (77, _)] [] a := hfr.pick [0, 1, 2, 3, 4, 5, 16, 17, 18, 19, 20, 12, 11, 21, 22, 23, 24, 27, 28, 29, 30, 31, 13, 14, 10, 53, 77]
    refine wc_cond_d hfr rfl (fun hc6 => ?_) (fun hc6 => ?_)
    ·rw [decide_eq_true hc6] at hfr
     have hres : runS rl cl l t = d0 ++ nw :: dn := by rw [hsp, runU_far hkl hev (by omega)]; simp [hdn]
     have hresv : runV rl cl l t = vo := by rw [hvo, runU_far hkl hev (by omega)]; simp
     refine wc_seq_region fun K19 hK19 => ?_
     refine wlm hfr rfl fun a hfr => wlm hfr rfl fun a hfr => wla hfr rfl fun a hfr => wla hfr rfl fun a hfr => ?_
     refine wl_nil (hK19 _ _ ?_)
     refine wc_ret ?_
     refine fin_ret hfr Try.results48 (resAre_tmp rfl (resAre_tmp rfl resAre_nil)) ?_
     exact ⟨(v1, u), rfl, trivial, hst.ext, St.out (E := [own v1 54 3 ((runS rl cl l t).map Stt.cells), own u 3 1 ((runV rl cl l t).map fun i => [iv i])]) (H := []) (by rw [hres, hresv]; exact hst.select [1, 2] (by decide))⟩
    rw [decide_eq_false hc6] at hfr
    refine wc_skip ?_
    refine hK17 _ _ ?_
    refine wc_seq_k fun K20 hK20 => ?_
    refine wc_of_dr ?_
    have hfr : Fr 107 [(0, _), (1, _), (2, _), (3, _), (4, _), (5, _), (16, _), (17, _), (18, _), (19, _), (20, _), (12, _), (11, _), (21, _), (22, _), (23, _), (24, _), (27, _), (28, _), (29, _), (30, _), (31, _), (13, _), (14, _), (10, _), (53, _), (77, _)] [] a := hfr.pick [0, 1, 2, 3, 4, 5, 16, 17, 18, 19, 20, 12, 11, 21, 22, 23, 24, 27, 28, 29, 30, 31, 13, 14, 10, 53, 77]
    refine wc_phases' 8 [[], [], [1], [], [], [3, 4], [5], [0, 2, 6]] (fun i => match i with | 0 => pv (.agg #[iv cl.number, iv cl.frm, iv cl.to, iv cl.holder, iv cl.asked, .bool cl.backed]) | 1 => pv (.pointer (some ⟨w5.heap.size, 0, none⟩)) | 2 => pv (iv now1.state) | 3 => pv (sv) | 4 => pv (iv (k : Int)) | 5 => pv (slAddr sv (k * 3)) | 6 => pv (.agg #[iv ev.kind, iv ev.at_, iv ev.reason]) | 7 => pv (iv (becomes cl.backed now1.state ev)) | _ => fun _ _ => False) hfr hst (by kernel_rfl) (by kernel_rfl) ?_ ?_
    ·intro i hi
     match i, hi with
     | 0, _ =>
      intro w hst
      exact OpV.g (v_load_all (hst.get (k := 3) rfl) rfl (Try.isAgg33 _) (Try.sizeOf33 _))
     | 1, _ =>
      intro w hst
      exact OpV.g (v_fieldAddr (v := .pointer (some ⟨w5.heap.size, 0, none⟩)) rfl (by kernel_rfl))
     | 2, _ =>
      rintro _ _ ⟨rfl, rfl⟩
      intro w hst
      exact OpV.g (v_load_blk1 (hst.get (k := 0) rfl) rfl (Try.isAgg3 _) rfl)
     | 3, _ =>
      intro w hst
      exact OpV.g (v_move rfl)
     | 4, _ =>
      intro w hst
      exact OpV.g (v_move rfl)
     | 5, _ =>
      rintro _ _ ⟨rfl, rfl⟩ _ _ ⟨rfl, rfl⟩
      intro w hst
      exact OpV.g ((v_indexAddr_sl (i := (k : Int)) (sT := 34) (hst.arg hsv) rfl rfl (Try.runUnderlying34 _) (Try.sizeOf39 _) (by omega) (by simpa using hkl)).as (v' := slAddr sv (k * 3)) rfl)
     | 6, _ =>
      rintro _ _ ⟨rfl, rfl⟩
      intro w hst
      exact OpV.g ((v_load_sl (hst.arg hsv) (i := k) (by simpa using hkl) rfl (Try.isAgg39 _) (Try.sizeOf39 _)).as (v' := .agg #[iv ev.kind, iv ev.at_, iv ev.reason]) (by rw [← hev]; first | (show _ = Value.agg (l.getD k ⟨0, 0, 0⟩).cells.toArray; simp [hkl]) | simp [hkl, Evt.cells]))
     | 7, _ =>
      rintro _ _ ⟨rfl, rfl⟩ _ _ ⟨rfl, rfl⟩ _ _ ⟨rfl, rfl⟩
      intro w hst
      exact g_callp Try.call72 rfl (becomes_ok cl now1.state ev _)
    rintro _ _ ⟨rfl, rfl⟩ _ _ ⟨rfl, rfl⟩ _ _ ⟨rfl, rfl⟩ _ _ ⟨rfl, rfl⟩ _ _ ⟨rfl, rfl⟩ _ _ ⟨rfl, rfl⟩ _ _ ⟨rfl, rfl⟩ _ _ ⟨rfl, rfl⟩ a w13 hfr hst
    have hfr : Fr 107 [(80, _), (81, _), (82, _), (83, _), (84, _), (85, _), (86, _), (87, _), (0, _), (1, _), (2, _), (3, _), (4, _), (5, _), (16, _), (17, _), (18, _), (19, _), (20, _), (12, _), (11, _), (21, _), (22, _), (23, _), (24, _), (27, _), (28, _), (29, _), (30, _), (31, _), (13, _), (14, _), (10, _), (53, _), (77, _)] [] a := hfr
    have hst : St No w0 [_, _, _, _, _] w13 := hst
    refine wla hfr rfl fun a hfr => ?_
    refine wl_nil ?_
    refine hK20 _ _ ?_
    have hfr : Fr 107 [(0, _), (1, _), (2, _), (3, _), (4, _), (5, _), (16, _), (17, _), (18, _), (19, _), (20, _), (12, _), (11, _), (21, _), (22, _), (23, _), (24, _), (27, _), (28, _), (29, _), (30, _), (31, _), (13, _), (14, _), (10, _), (53, _), (77, _), (15, _)] [] a := hfr.pick [0, 1, 2, 3, 4, 5, 16, 17, 18, 19, 20, 12, 11, 21, 22, 23, 24, 27, 28, 29, 30, 31, 13, 14, 10, 53, 77, 15]
    refine wc_seq_region fun K21 hK21 => ?_
    refine wlm hfr rfl fun a hfr => ?_
    refine wlv hfr (v_lt rfl rfl) fun a hfr => ?_
    refine wl_nil (hK21 _ _ ?_)
    refine wc_cond_d hfr rfl (fun hc7 => ?_) (fun hc7 => ?_)
    ·rw [decide_eq_true hc7] at hfr
     refine wc_region ?_
     refine wlm hfr rfl fun a hfr => wlm hfr rfl fun a hfr => ?_
     refine wl_buildSlice (E := 3) (sz := 1) rfl [[iv (k : Int)]] (by kernel_rfl) (by simp) rfl (by decide) (by decide) hfr hst fun a w14 hfr hst => ?_
     refine wl_append (i := 3) (sT := 50) (inf := Try.t3) (z := iv 0) (b := 0) (off := 0) (m := 0) (c := 0) rfl rfl rfl (hst.ownAt (i := 0) rfl) (by simp) Try.underlying50 rfl rfl rfl rfl (by decide) (by simp [Value.oneCell']) (by have hby : Try.t3.bytes = 8 := rfl; have hby2 : Try.t54.bytes = 24 := rfl; simp [big, hby, hby2]; omega) (by have hby : Try.t3.bytes = 8 := rfl; have hby2 : Try.t54.bytes = 24 := rfl; simp [big, hby, hby2]; omega) (by decide) hfr hst fun a w15 s8 hfr hst _ => ?_
     refine wla hfr rfl fun a hfr => ?_
     refine wl_nil ?_
     refine hK8 _ _ ?_
     refine wc_region ?_
     refine wlm hfr rfl fun a hfr => ?_
     refine wlv hfr (v_add rfl rfl ⟨by omega, by omega⟩) fun a hfr => wla hfr rfl fun a hfr => ?_
     refine wl_nil ?_
     obtain ⟨d1, hd1⟩ : ∃ d1, d0 ++ nw :: dn = d1 ++ [now1] := snoc_last hla
     have hd1l : d1.length = d0.length + dn.length := by have := congrArg List.length hd1; simp at this; omega
     rw [hd1] at hst
     rw [show (vo.map fun i => [iv i]) ++ [[iv (k : Int)]] = ((vo ++ [(k : Int)]).map fun i => [iv i]) from by simp] at hst
     refine ⟨_, ?_, k + 1, d1, now1, vo ++ [(k : Int)], v1, s8, rfl, (by omega), (by rw [hsp, runU_void hkl hev (by omega) hn1 (by omega), hdn]; have := congrArg (· ++ (runU rl cl.backed t (k + 1) now1 (l.drop (k + 1))).1) hd1; simpa using this), (by rw [hvo, runU_void hkl hev (by omega) hn1 (by omega)]; simp), hso1, (by omega), (by simp; omega), hfr.pick [0, 1, 2, 3, 4, 5, 16, 17, 18, 19, 20, 12, 10, 11], hst.select [2, 3, 4, 5] (by decide)⟩
     omega
    rw [decide_eq_false hc7] at hfr
    refine wc_of_dr ?_
    have hfr : Fr 107 [(0, _), (1, _), (2, _), (3, _), (4, _), (5, _), (16, _), (17, _), (18, _), (19, _), (20, _), (12, _), (11, _), (21, _), (22, _), (23, _), (24, _), (27, _), (28, _), (29, _), (30, _), (31, _), (13, _), (14, _), (10, _), (53, _), (77, _), (15, _), (88, _), (89, _)] [] a := hfr.pick [0, 1, 2, 3, 4, 5, 16, 17, 18, 19, 20, 12, 11, 21, 22, 23, 24, 27, 28, 29, 30, 31, 13, 14, 10, 53, 77, 15, 88, 89]
    have hst : St No w0 (own v1 54 3 ((d0 ++ nw :: dn).map Stt.cells) :: [blk w5.heap.size [iv now1.state, iv now1.since, iv now1.next] 54, own u 3 1 (vo.map fun i => [iv i]), blk w1.heap.size [iv cl.number, iv cl.frm, iv cl.to, iv cl.holder, iv cl.asked, .bool cl.backed] 33, blk w0.heap.size [iv rl.answer, iv rl.cooling, iv rl.settle, iv rl.reverse] 31]) w13 := hst.front (i := 1) rfl
    refine wc_phases_one 10 (own v1 54 3 ((d0 ++ nw :: dn).map Stt.cells)) (fun v => own v 54 3 (((d0 ++ nw :: dn).map Stt.cells) ++ ([[iv ((begins rl (becomes cl.backed now1.state ev) ev.at_).state), iv ((begins rl (becomes cl.backed now1.state ev) ev.at_).since), iv ((begins rl (becomes cl.backed now1.state ev) ev.at_).next)]]))) 11 [[], [], [], [], [], [3, 4], [5], [6], [1, 2, 7], [8], [0, 9]] (fun i => match i with | 0 => pv (v1) | 1 => pv (.agg #[iv rl.answer, iv rl.cooling, iv rl.settle, iv rl.reverse]) | 2 => pv (iv (becomes cl.backed now1.state ev)) | 3 => pv (sv) | 4 => pv (iv (k : Int)) | 5 => pv (slAddr sv (k * 3)) | 6 => pv (slAddr sv (k * 3 + 1)) | 7 => pv (iv ev.at_) | 8 => pv (.agg #[iv ((begins rl (becomes cl.backed now1.state ev) ev.at_).state), iv ((begins rl (becomes cl.backed now1.state ev) ev.at_).since), iv ((begins rl (becomes cl.backed now1.state ev) ev.at_).next)]) | 9 => pm (fun b : Nat => .slice (some ⟨b, 0, none⟩) 1 1) (fun b => [own (.slice (some ⟨b, 0, none⟩) 1 1) 54 3 [[iv ((begins rl (becomes cl.backed now1.state ev) ev.at_).state), iv ((begins rl (becomes cl.backed now1.state ev) ev.at_).since), iv ((begins rl (becomes cl.backed now1.state ev) ev.at_).next)]]]) (fun _ => True) | 10 => fun v E => E = [] | _ => fun _ _ => False) hfr hst (by kernel_rfl) (by kernel_rfl) (by kernel_rfl) (by decide) ?_ ?_ ?_ ?_
    ·intro i v E h
     match i, h with
     | 0, _ => exact by decide
     | 1, _ => exact by decide
     | 2, _ => exact by decide
     | 3, _ => exact by decide
     | 4, _ => exact by decide
     | 5, _ => exact by decide
     | 6, _ => exact by decide
     | 7, _ => exact by decide
     | 8, _ => exact by decide
     | 9, _ => exact by decide
     | 10, _ => exact by decide
     | i + 11, h => exact h.elim
    ·intro i hi hiq e
     match i, hi, hiq with
     | 0, _, _ =>
      intro w hst
      exact OpV.g (v_move rfl)
     | 1, _, _ =>
      intro w hst
      exact OpV.g (v_load_all (hst.get (k := 4) rfl) rfl (Try.isAgg31 _) (Try.sizeOf31 _))
     | 2, _, _ =>
      intro w hst
      exact OpV.g (v_move rfl)
     | 3, _, _ =>
      intro w hst
      exact OpV.g (v_move rfl)
     | 4, _, _ =>
      intro w hst
      exact OpV.g (v_move rfl)
     | 5, _, _ =>
      rintro _ _ ⟨rfl, rfl⟩ _ _ ⟨rfl, rfl⟩
      intro w hst
      exact OpV.g ((v_indexAddr_sl (i := (k : Int)) (sT := 34) (hst.arg hsv) rfl rfl (Try.runUnderlying34 _) (Try.sizeOf39 _) (by omega) (by simpa using hkl)).as (v' := slAddr sv (k * 3)) rfl)
     | 6, _, _ =>
      rintro _ _ ⟨rfl, rfl⟩
      intro w hst
      exact OpV.g (v_fieldAddr_sl (k := k * 3) (j := 1) (hst.arg hsv) (i := k) (by simpa using hkl) rfl (fun _ _ => by kernel_rfl))
     | 7, _, _ =>
      rintro _ _ ⟨rfl, rfl⟩
      intro w hst
      exact OpV.g (v_load_sl1 (u := iv ev.at_) (i := k) (j := 1) (hst.arg hsv) (by simpa using hkl) rfl (Try.isAgg3 _) (by rw [← hev]; first | (show _ = Value.agg (l.getD k ⟨0, 0, 0⟩).cells.toArray; simp [hkl]) | simp [hkl, Evt.cells]))
     | 8, _, _ =>
      rintro _ _ ⟨rfl, rfl⟩ _ _ ⟨rfl, rfl⟩ _ _ ⟨rfl, rfl⟩
      intro w hst
      exact g_callp Try.call70 rfl (status_ok rl (becomes cl.backed now1.state ev) ev.at_ _ hr (by omega) (by omega))
     | 9, _, _ =>
      rintro _ _ ⟨rfl, rfl⟩
      intro w hst
      exact g_buildSlice (E := 54) (sz := 3) rfl [[iv ((begins rl (becomes cl.backed now1.state ev) ev.at_).state), iv ((begins rl (becomes cl.backed now1.state ev) ev.at_).since), iv ((begins rl (becomes cl.backed now1.state ev) ev.at_).next)]] (fun _ => by kernel_rfl) (by simp) rfl (by decide)
     | 10, _, h => exact absurd rfl h
    ·rintro _ _ ⟨rfl, rfl⟩ _ _ ⟨b11, rfl, -, rfl⟩
     intro w hst
     exact (r_append (hst.get (k := 0) rfl) rfl rfl (hst.ownAt (i := 1) rfl) (by simp) Try.underlying63 (inf := Try.t54) (z := .agg #[iv 0, iv 0, iv 0]) rfl rfl rfl rfl (by decide) (by simp [Value.oneCell']) (by have hby : Try.t3.bytes = 8 := rfl; have hby2 : Try.t54.bytes = 24 := rfl; simp [big, hby, hby2]; omega) (by have hby : Try.t3.bytes = 8 := rfl; have hby2 : Try.t54.bytes = 24 := rfl; simp [big, hby, hby2]; omega)).mono fun v w' ⟨h1, h2, h3, _⟩ => ⟨h1, h2, h3, rfl⟩
    rintro vq _ _ ⟨⟨rfl, rfl⟩, -⟩ _ _ ⟨⟨rfl, rfl⟩, -⟩ _ _ ⟨⟨rfl, rfl⟩, -⟩ _ _ ⟨⟨rfl, rfl⟩, -⟩ _ _ ⟨⟨rfl, rfl⟩, -⟩ _ _ ⟨⟨rfl, rfl⟩, -⟩ _ _ ⟨⟨rfl, rfl⟩, -⟩ _ _ ⟨⟨rfl, rfl⟩, -⟩ _ _ ⟨⟨rfl, rfl⟩, -⟩ _ _ ⟨⟨b11, rfl, -, rfl⟩, -⟩ s10 _ ⟨rfl, hvq⟩ a w16 hfr hst
    obtain rfl := hvq rfl
    have hfr : Fr 107 [(94, _), (95, _), (96, _), (97, _), (98, _), (99, _), (100, _), (101, _), (102, _), (103, _), (104, _), (0, _), (1, _), (2, _), (3, _), (4, _), (5, _), (16, _), (17, _), (18, _), (19, _), (20, _), (12, _), (11, _), (21, _), (22, _), (23, _), (24, _), (27, _), (28, _), (29, _), (30, _), (31, _), (13, _), (14, _), (10, _), (53, _), (77, _), (15, _), (88, _), (89, _)] [] a := hfr
    have hst : St No w0 [own (.slice (some ⟨b11, 0, none⟩) 1 1) 54 3 ([[iv ((begins rl (becomes cl.backed now1.state ev) ev.at_).state), iv ((begins rl (becomes cl.backed now1.state ev) ev.at_).since), iv ((begins rl (becomes cl.backed now1.state ev) ev.at_).next)]]), own s10 54 3 (((d0 ++ nw :: dn).map Stt.cells) ++ ([[iv ((begins rl (becomes cl.backed now1.state ev) ev.at_).state), iv ((begins rl (becomes cl.backed now1.state ev) ev.at_).since), iv ((begins rl (becomes cl.backed now1.state ev) ev.at_).next)]])), blk w5.heap.size [iv now1.state, iv now1.since, iv now1.next] 54, own u 3 1 (vo.map fun i => [iv i]), blk w1.heap.size [iv cl.number, iv cl.frm, iv cl.to, iv cl.holder, iv cl.asked, .bool cl.backed] 33, blk w0.heap.size [iv rl.answer, iv rl.cooling, iv rl.settle, iv rl.reverse] 31] w16 := hst
    refine wla hfr rfl fun a hfr => ?_
    refine wl_nil ?_
    refine hK8 _ _ ?_
    have hfr : Fr 107 [(0, _), (1, _), (2, _), (3, _), (4, _), (5, _), (16, _), (17, _), (18, _), (19, _), (20, _), (12, _), (11, _), (21, _), (22, _), (23, _), (24, _), (27, _), (28, _), (29, _), (30, _), (31, _), (13, _), (14, _), (53, _), (77, _), (15, _), (88, _), (89, _), (10, _)] [] a := hfr.pick [0, 1, 2, 3, 4, 5, 16, 17, 18, 19, 20, 12, 11, 21, 22, 23, 24, 27, 28, 29, 30, 31, 13, 14, 53, 77, 15, 88, 89, 10]
    have hst : St No w0 [_, _, _, _, _] w16 := hst.mask [false, true, true, true, true, true]
    refine wc_region ?_
    refine wlm hfr rfl fun a hfr => ?_
    refine wlv hfr (v_add rfl rfl ⟨by omega, by omega⟩) fun a hfr => wla hfr rfl fun a hfr => ?_
    refine wl_nil ?_
    rw [show ((d0 ++ nw :: dn).map Stt.cells) ++ [[iv (begins rl (becomes cl.backed now1.state ev) ev.at_).state, iv (begins rl (becomes cl.backed now1.state ev) ev.at_).since, iv (begins rl (becomes cl.backed now1.state ev) ev.at_).next]] = ((d0 ++ nw :: dn) ++ [begins rl (becomes cl.backed now1.state ev) ev.at_]).map Stt.cells from by simp [Stt.cells]] at hst
    refine ⟨_, ?_, k + 1, d0 ++ nw :: dn, begins rl (becomes cl.backed now1.state ev) ev.at_, vo, s10, u, rfl, (by omega), (by rw [hsp, runU_go hkl hev (by omega) hn1 (by omega), hdn]; simp), (by rw [hvo, runU_go hkl hev (by omega) hn1 (by omega)]), (Sound.begins _ _ (by omega) (by omega)), (by simp; omega), (by omega), hfr.pick [0, 1, 2, 3, 4, 5, 16, 17, 18, 19, 20, 12, 10, 11], hst.select [0, 2, 3, 4] (by decide)⟩
    omega
   rw [decide_eq_false hb3] at hfr
   refine wln hfr fun a hfr => ?_
   refine wln hfr fun a hfr => ?_
   refine wln hfr fun a hfr => ?_
   refine wln hfr fun a hfr => ?_
   refine wlv hfr (v_pick_f rfl rfl) fun a hfr => ?_
   refine wl_nil (hK15 _ _ ?_)
   have hfr : Fr 107 [(0, _), (1, _), (2, _), (3, _), (4, _), (5, _), (16, _), (17, _), (18, _), (19, _), (20, _), (12, _), (11, _), (21, _), (22, _), (23, _), (24, _), (27, _), (28, _), (29, _), (30, _), (31, _), (13, _), (14, _), (10, _), (53, _)] [] a := hfr.pick [0, 1, 2, 3, 4, 5, 16, 17, 18, 19, 20, 12, 11, 21, 22, 23, 24, 27, 28, 29, 30, 31, 13, 14, 10, 53]
   refine wc_cond_f hfr rfl ?_
   refine wc_exit ?_
   refine hK13 _ _ ?_
   refine wc_seq_k fun K22 hK22 => ?_
   have hdn0 : alone rl to nw = dn := by rw [hal, aloneF_neg (now := now1) (u := to) (r := rl) (by omega), List.append_nil]
   have hdn : alone rl (min ev.at_ t) nw = dn := by rw [hto]; exact hdn0
   have hn1 : lastOf nw (alone rl (min ev.at_ t) nw) = now1 := by rw [hdn]; exact hla
   refine wc_seq_region fun K23 hK23 => ?_
   refine wlm hfr rfl fun a hfr => wlm hfr rfl fun a hfr => ?_
   refine wlv hfr ((v_len_sl (sT := 34) (hst.arg hsv) rfl rfl (Try.runUnderlying34 _)).asi (m' := (l.length : Int)) (by simp)) fun a hfr => ?_
   refine wlv hfr ((v_eq rfl rfl).asb (b' := false) (by simp; omega)) fun a hfr => wlm hfr rfl fun a hfr => wly hfr (v_move rfl) fun a hfr => wly hfr (v_move rfl) fun a hfr => wly hfr ((v_indexAddr_sl (i := (k : Int)) (sT := 34) (hst.arg hsv) rfl rfl (Try.runUnderlying34 _) (Try.sizeOf39 _) (by omega) (by simpa using hkl)).as (v' := slAddr sv (k * 3)) rfl) fun a hfr => wly hfr (v_fieldAddr_sl (k := k * 3) (j := 1) (hst.arg hsv) (i := k) (by simpa using hkl) rfl (fun _ _ => by kernel_rfl)) fun a hfr => wly hfr (v_load_sl1 (u := iv ev.at_) (i := k) (j := 1) (hst.arg hsv) (by simpa using hkl) rfl (Try.isAgg3 _) (by rw [← hev]; first | (show _ = Value.agg (l.getD k ⟨0, 0, 0⟩).cells.toArray; simp [hkl]) | simp [hkl, Evt.cells])) fun a hfr => wly hfr (v_move rfl) fun a hfr => wly hfr (v_gt rfl rfl) fun a hfr => ?_
   refine wlv hfr (v_pick_f rfl rfl) fun a hfr => ?_
   refine wl_nil (hK23 _ _ ?_)
   have hfr : Fr 107 [(0, _), (1, _), (2, _), (3, _), (4, _), (5, _), (16, _), (17, _), (18, _), (19, _), (20, _), (12, _), (11, _), (21, _), (22, _), (23, _), (24, _), (27, _), (28, _), (29, _), (30, _), (31, _), (13, _), (14, _), (10, _), (53, _), (77, _)] [] a := hfr.pick [0, 1, 2, 3, 4, 5, 16, 17, 18, 19, 20, 12, 11, 21, 22, 23, 24, 27, 28, 29, 30, 31, 13, 14, 10, 53, 77]
   refine wc_cond_d hfr rfl (fun hc12 => ?_) (fun hc12 => ?_)
   ·rw [decide_eq_true hc12] at hfr
    have hres : runS rl cl l t = d0 ++ nw :: dn := by rw [hsp, runU_far hkl hev (by omega)]; simp [hdn]
    have hresv : runV rl cl l t = vo := by rw [hvo, runU_far hkl hev (by omega)]; simp
    refine wc_seq_region fun K24 hK24 => ?_
    refine wlm hfr rfl fun a hfr => wlm hfr rfl fun a hfr => wla hfr rfl fun a hfr => wla hfr rfl fun a hfr => ?_
    refine wl_nil (hK24 _ _ ?_)
    refine wc_ret ?_
    refine fin_ret hfr Try.results48 (resAre_tmp rfl (resAre_tmp rfl resAre_nil)) ?_
    exact ⟨(v1, u), rfl, trivial, hst.ext, St.out (E := [own v1 54 3 ((runS rl cl l t).map Stt.cells), own u 3 1 ((runV rl cl l t).map fun i => [iv i])]) (H := []) (by rw [hres, hresv]; exact hst.select [1, 2] (by decide))⟩
   rw [decide_eq_false hc12] at hfr
   refine wc_skip ?_
   refine hK22 _ _ ?_
   refine wc_seq_k fun K25 hK25 => ?_
   refine wc_of_dr ?_
   have hfr : Fr 107 [(0, _), (1, _), (2, _), (3, _), (4, _), (5, _), (16, _), (17, _), (18, _), (19, _), (20, _), (12, _), (11, _), (21, _), (22, _), (23, _), (24, _), (27, _), (28, _), (29, _), (30, _), (31, _), (13, _), (14, _), (10, _), (53, _), (77, _)] [] a := hfr.pick [0, 1, 2, 3, 4, 5, 16, 17, 18, 19, 20, 12, 11, 21, 22, 23, 24, 27, 28, 29, 30, 31, 13, 14, 10, 53, 77]
   refine wc_phases' 8 [[], [], [1], [], [], [3, 4], [5], [0, 2, 6]] (fun i => match i with | 0 => pv (.agg #[iv cl.number, iv cl.frm, iv cl.to, iv cl.holder, iv cl.asked, .bool cl.backed]) | 1 => pv (.pointer (some ⟨w5.heap.size, 0, none⟩)) | 2 => pv (iv now1.state) | 3 => pv (sv) | 4 => pv (iv (k : Int)) | 5 => pv (slAddr sv (k * 3)) | 6 => pv (.agg #[iv ev.kind, iv ev.at_, iv ev.reason]) | 7 => pv (iv (becomes cl.backed now1.state ev)) | _ => fun _ _ => False) hfr hst (by kernel_rfl) (by kernel_rfl) ?_ ?_
   ·intro i hi
    match i, hi with
    | 0, _ =>
     intro w hst
     exact OpV.g (v_load_all (hst.get (k := 3) rfl) rfl (Try.isAgg33 _) (Try.sizeOf33 _))
    | 1, _ =>
     intro w hst
     exact OpV.g (v_fieldAddr (v := .pointer (some ⟨w5.heap.size, 0, none⟩)) rfl (by kernel_rfl))
    | 2, _ =>
     rintro _ _ ⟨rfl, rfl⟩
     intro w hst
     exact OpV.g (v_load_blk1 (hst.get (k := 0) rfl) rfl (Try.isAgg3 _) rfl)
    | 3, _ =>
     intro w hst
     exact OpV.g (v_move rfl)
    | 4, _ =>
     intro w hst
     exact OpV.g (v_move rfl)
    | 5, _ =>
     rintro _ _ ⟨rfl, rfl⟩ _ _ ⟨rfl, rfl⟩
     intro w hst
     exact OpV.g ((v_indexAddr_sl (i := (k : Int)) (sT := 34) (hst.arg hsv) rfl rfl (Try.runUnderlying34 _) (Try.sizeOf39 _) (by omega) (by simpa using hkl)).as (v' := slAddr sv (k * 3)) rfl)
    | 6, _ =>
     rintro _ _ ⟨rfl, rfl⟩
     intro w hst
     exact OpV.g ((v_load_sl (hst.arg hsv) (i := k) (by simpa using hkl) rfl (Try.isAgg39 _) (Try.sizeOf39 _)).as (v' := .agg #[iv ev.kind, iv ev.at_, iv ev.reason]) (by rw [← hev]; first | (show _ = Value.agg (l.getD k ⟨0, 0, 0⟩).cells.toArray; simp [hkl]) | simp [hkl, Evt.cells]))
    | 7, _ =>
     rintro _ _ ⟨rfl, rfl⟩ _ _ ⟨rfl, rfl⟩ _ _ ⟨rfl, rfl⟩
     intro w hst
     exact g_callp Try.call72 rfl (becomes_ok cl now1.state ev _)
   rintro _ _ ⟨rfl, rfl⟩ _ _ ⟨rfl, rfl⟩ _ _ ⟨rfl, rfl⟩ _ _ ⟨rfl, rfl⟩ _ _ ⟨rfl, rfl⟩ _ _ ⟨rfl, rfl⟩ _ _ ⟨rfl, rfl⟩ _ _ ⟨rfl, rfl⟩ a w17 hfr hst
   have hfr : Fr 107 [(80, _), (81, _), (82, _), (83, _), (84, _), (85, _), (86, _), (87, _), (0, _), (1, _), (2, _), (3, _), (4, _), (5, _), (16, _), (17, _), (18, _), (19, _), (20, _), (12, _), (11, _), (21, _), (22, _), (23, _), (24, _), (27, _), (28, _), (29, _), (30, _), (31, _), (13, _), (14, _), (10, _), (53, _), (77, _)] [] a := hfr
   have hst : St No w0 [_, _, _, _, _] w17 := hst
   refine wla hfr rfl fun a hfr => ?_
   refine wl_nil ?_
   refine hK25 _ _ ?_
   have hfr : Fr 107 [(0, _), (1, _), (2, _), (3, _), (4, _), (5, _), (16, _), (17, _), (18, _), (19, _), (20, _), (12, _), (11, _), (21, _), (22, _), (23, _), (24, _), (27, _), (28, _), (29, _), (30, _), (31, _), (13, _), (14, _), (10, _), (53, _), (77, _), (15, _)] [] a := hfr.pick [0, 1, 2, 3, 4, 5, 16, 17, 18, 19, 20, 12, 11, 21, 22, 23, 24, 27, 28, 29, 30, 31, 13, 14, 10, 53, 77, 15]
   refine wc_seq_region fun K26 hK26 => ?_
   refine wlm hfr rfl fun a hfr => ?_
   refine wlv hfr (v_lt rfl rfl) fun a hfr => ?_
   refine wl_nil (hK26 _ _ ?_)
   refine wc_cond_d hfr rfl (fun hc13 => ?_) (fun hc13 => ?_)
   ·rw [decide_eq_true hc13] at hfr
    refine wc_region ?_
    refine wlm hfr rfl fun a hfr => wlm hfr rfl fun a hfr => ?_
    refine wl_buildSlice (E := 3) (sz := 1) rfl [[iv (k : Int)]] (by kernel_rfl) (by simp) rfl (by decide) (by decide) hfr hst fun a w18 hfr hst => ?_
    refine wl_append (i := 3) (sT := 50) (inf := Try.t3) (z := iv 0) (b := 0) (off := 0) (m := 0) (c := 0) rfl rfl rfl (hst.ownAt (i := 0) rfl) (by simp) Try.underlying50 rfl rfl rfl rfl (by decide) (by simp [Value.oneCell']) (by have hby : Try.t3.bytes = 8 := rfl; have hby2 : Try.t54.bytes = 24 := rfl; simp [big, hby, hby2]; omega) (by have hby : Try.t3.bytes = 8 := rfl; have hby2 : Try.t54.bytes = 24 := rfl; simp [big, hby, hby2]; omega) (by decide) hfr hst fun a w19 s14 hfr hst _ => ?_
    refine wla hfr rfl fun a hfr => ?_
    refine wl_nil ?_
    refine hK8 _ _ ?_
    refine wc_region ?_
    refine wlm hfr rfl fun a hfr => ?_
    refine wlv hfr (v_add rfl rfl ⟨by omega, by omega⟩) fun a hfr => wla hfr rfl fun a hfr => ?_
    refine wl_nil ?_
    obtain ⟨d1, hd1⟩ : ∃ d1, d0 ++ nw :: dn = d1 ++ [now1] := snoc_last hla
    have hd1l : d1.length = d0.length + dn.length := by have := congrArg List.length hd1; simp at this; omega
    rw [hd1] at hst
    rw [show (vo.map fun i => [iv i]) ++ [[iv (k : Int)]] = ((vo ++ [(k : Int)]).map fun i => [iv i]) from by simp] at hst
    refine ⟨_, ?_, k + 1, d1, now1, vo ++ [(k : Int)], v1, s14, rfl, (by omega), (by rw [hsp, runU_void hkl hev (by omega) hn1 (by omega), hdn]; have := congrArg (· ++ (runU rl cl.backed t (k + 1) now1 (l.drop (k + 1))).1) hd1; simpa using this), (by rw [hvo, runU_void hkl hev (by omega) hn1 (by omega)]; simp), hso1, (by omega), (by simp; omega), hfr.pick [0, 1, 2, 3, 4, 5, 16, 17, 18, 19, 20, 12, 10, 11], hst.select [2, 3, 4, 5] (by decide)⟩
    omega
   rw [decide_eq_false hc13] at hfr
   refine wc_of_dr ?_
   have hfr : Fr 107 [(0, _), (1, _), (2, _), (3, _), (4, _), (5, _), (16, _), (17, _), (18, _), (19, _), (20, _), (12, _), (11, _), (21, _), (22, _), (23, _), (24, _), (27, _), (28, _), (29, _), (30, _), (31, _), (13, _), (14, _), (10, _), (53, _), (77, _), (15, _), (88, _), (89, _)] [] a := hfr.pick [0, 1, 2, 3, 4, 5, 16, 17, 18, 19, 20, 12, 11, 21, 22, 23, 24, 27, 28, 29, 30, 31, 13, 14, 10, 53, 77, 15, 88, 89]
   have hst : St No w0 (own v1 54 3 ((d0 ++ nw :: dn).map Stt.cells) :: [blk w5.heap.size [iv now1.state, iv now1.since, iv now1.next] 54, own u 3 1 (vo.map fun i => [iv i]), blk w1.heap.size [iv cl.number, iv cl.frm, iv cl.to, iv cl.holder, iv cl.asked, .bool cl.backed] 33, blk w0.heap.size [iv rl.answer, iv rl.cooling, iv rl.settle, iv rl.reverse] 31]) w17 := hst.front (i := 1) rfl
   refine wc_phases_one 10 (own v1 54 3 ((d0 ++ nw :: dn).map Stt.cells)) (fun v => own v 54 3 (((d0 ++ nw :: dn).map Stt.cells) ++ ([[iv ((begins rl (becomes cl.backed now1.state ev) ev.at_).state), iv ((begins rl (becomes cl.backed now1.state ev) ev.at_).since), iv ((begins rl (becomes cl.backed now1.state ev) ev.at_).next)]]))) 11 [[], [], [], [], [], [3, 4], [5], [6], [1, 2, 7], [8], [0, 9]] (fun i => match i with | 0 => pv (v1) | 1 => pv (.agg #[iv rl.answer, iv rl.cooling, iv rl.settle, iv rl.reverse]) | 2 => pv (iv (becomes cl.backed now1.state ev)) | 3 => pv (sv) | 4 => pv (iv (k : Int)) | 5 => pv (slAddr sv (k * 3)) | 6 => pv (slAddr sv (k * 3 + 1)) | 7 => pv (iv ev.at_) | 8 => pv (.agg #[iv ((begins rl (becomes cl.backed now1.state ev) ev.at_).state), iv ((begins rl (becomes cl.backed now1.state ev) ev.at_).since), iv ((begins rl (becomes cl.backed now1.state ev) ev.at_).next)]) | 9 => pm (fun b : Nat => .slice (some ⟨b, 0, none⟩) 1 1) (fun b => [own (.slice (some ⟨b, 0, none⟩) 1 1) 54 3 [[iv ((begins rl (becomes cl.backed now1.state ev) ev.at_).state), iv ((begins rl (becomes cl.backed now1.state ev) ev.at_).since), iv ((begins rl (becomes cl.backed now1.state ev) ev.at_).next)]]]) (fun _ => True) | 10 => fun v E => E = [] | _ => fun _ _ => False) hfr hst (by kernel_rfl) (by kernel_rfl) (by kernel_rfl) (by decide) ?_ ?_ ?_ ?_
   ·intro i v E h
    match i, h with
    | 0, _ => exact by decide
    | 1, _ => exact by decide
    | 2, _ => exact by decide
    | 3, _ => exact by decide
    | 4, _ => exact by decide
    | 5, _ => exact by decide
    | 6, _ => exact by decide
    | 7, _ => exact by decide
    | 8, _ => exact by decide
    | 9, _ => exact by decide
    | 10, _ => exact by decide
    | i + 11, h => exact h.elim
   ·intro i hi hiq e
    match i, hi, hiq with
    | 0, _, _ =>
     intro w hst
     exact OpV.g (v_move rfl)
    | 1, _, _ =>
     intro w hst
     exact OpV.g (v_load_all (hst.get (k := 4) rfl) rfl (Try.isAgg31 _) (Try.sizeOf31 _))
    | 2, _, _ =>
     intro w hst
     exact OpV.g (v_move rfl)
    | 3, _, _ =>
     intro w hst
     exact OpV.g (v_move rfl)
    | 4, _, _ =>
     intro w hst
     exact OpV.g (v_move rfl)
    | 5, _, _ =>
     rintro _ _ ⟨rfl, rfl⟩ _ _ ⟨rfl, rfl⟩
     intro w hst
     exact OpV.g ((v_indexAddr_sl (i := (k : Int)) (sT := 34) (hst.arg hsv) rfl rfl (Try.runUnderlying34 _) (Try.sizeOf39 _) (by omega) (by simpa using hkl)).as (v' := slAddr sv (k * 3)) rfl)
    | 6, _, _ =>
     rintro _ _ ⟨rfl, rfl⟩
     intro w hst
     exact OpV.g (v_fieldAddr_sl (k := k * 3) (j := 1) (hst.arg hsv) (i := k) (by simpa using hkl) rfl (fun _ _ => by kernel_rfl))
    | 7, _, _ =>
     rintro _ _ ⟨rfl, rfl⟩
     intro w hst
     exact OpV.g (v_load_sl1 (u := iv ev.at_) (i := k) (j := 1) (hst.arg hsv) (by simpa using hkl) rfl (Try.isAgg3 _) (by rw [← hev]; first | (show _ = Value.agg (l.getD k ⟨0, 0, 0⟩).cells.toArray; simp [hkl]) | simp [hkl, Evt.cells]))
    | 8, _, _ =>
     rintro _ _ ⟨rfl, rfl⟩ _ _ ⟨rfl, rfl⟩ _ _ ⟨rfl, rfl⟩
     intro w hst
     exact g_callp Try.call70 rfl (status_ok rl (becomes cl.backed now1.state ev) ev.at_ _ hr (by omega) (by omega))
    | 9, _, _ =>
     rintro _ _ ⟨rfl, rfl⟩
     intro w hst
     exact g_buildSlice (E := 54) (sz := 3) rfl [[iv ((begins rl (becomes cl.backed now1.state ev) ev.at_).state), iv ((begins rl (becomes cl.backed now1.state ev) ev.at_).since), iv ((begins rl (becomes cl.backed now1.state ev) ev.at_).next)]] (fun _ => by kernel_rfl) (by simp) rfl (by decide)
    | 10, _, h => exact absurd rfl h
   ·rintro _ _ ⟨rfl, rfl⟩ _ _ ⟨b17, rfl, -, rfl⟩
    intro w hst
    exact (r_append (hst.get (k := 0) rfl) rfl rfl (hst.ownAt (i := 1) rfl) (by simp) Try.underlying63 (inf := Try.t54) (z := .agg #[iv 0, iv 0, iv 0]) rfl rfl rfl rfl (by decide) (by simp [Value.oneCell']) (by have hby : Try.t3.bytes = 8 := rfl; have hby2 : Try.t54.bytes = 24 := rfl; simp [big, hby, hby2]; omega) (by have hby : Try.t3.bytes = 8 := rfl; have hby2 : Try.t54.bytes = 24 := rfl; simp [big, hby, hby2]; omega)).mono fun v w' ⟨h1, h2, h3, _⟩ => ⟨h1, h2, h3, rfl⟩
   rintro vq _ _ ⟨⟨rfl, rfl⟩, -⟩ _ _ ⟨⟨rfl, rfl⟩, -⟩ _ _ ⟨⟨rfl, rfl⟩, -⟩ _ _ ⟨⟨rfl, rfl⟩, -⟩ _ _ ⟨⟨rfl, rfl⟩, -⟩ _ _ ⟨⟨rfl, rfl⟩, -⟩ _ _ ⟨⟨rfl, rfl⟩, -⟩ _ _ ⟨⟨rfl, rfl⟩, -⟩ _ _ ⟨⟨rfl, rfl⟩, -⟩ _ _ ⟨⟨b17, rfl, -, rfl⟩, -⟩ s16 _ ⟨rfl, hvq⟩ a w20 hfr hst
   obtain rfl := hvq rfl
   have hfr : Fr 107 [(94, _), (95, _), (96, _), (97, _), (98, _), (99, _), (100, _), (101, _), (102, _), (103, _), (104, _), (0, _), (1, _), (2, _), (3, _), (4, _), (5, _), (16, _), (17, _), (18, _), (19, _), (20, _), (12, _), (11, _), (21, _), (22, _), (23, _), (24, _), (27, _), (28, _), (29, _), (30, _), (31, _), (13, _), (14, _), (10, _), (53, _), (77, _), (15, _), (88, _), (89, _)] [] a := hfr
   have hst : St No w0 [own (.slice (some ⟨b17, 0, none⟩) 1 1) 54 3 ([[iv ((begins rl (becomes cl.backed now1.state ev) ev.at_).state), iv ((begins rl (becomes cl.backed now1.state ev) ev.at_).since), iv ((begins rl (becomes cl.backed now1.state ev) ev.at_).next)]]), own s16 54 3 (((d0 ++ nw :: dn).map Stt.cells) ++ ([[iv ((begins rl (becomes cl.backed now1.state ev) ev.at_).state), iv ((begins rl (becomes cl.backed now1.state ev) ev.at_).since), iv ((begins rl (becomes cl.backed now1.state ev) ev.at_).next)]])), blk w5.heap.size [iv now1.state, iv now1.since, iv now1.next] 54, own u 3 1 (vo.map fun i => [iv i]), blk w1.heap.size [iv cl.number, iv cl.frm, iv cl.to, iv cl.holder, iv cl.asked, .bool cl.backed] 33, blk w0.heap.size [iv rl.answer, iv rl.cooling, iv rl.settle, iv rl.reverse] 31] w20 := hst
   refine wla hfr rfl fun a hfr => ?_
   refine wl_nil ?_
   refine hK8 _ _ ?_
   have hfr : Fr 107 [(0, _), (1, _), (2, _), (3, _), (4, _), (5, _), (16, _), (17, _), (18, _), (19, _), (20, _), (12, _), (11, _), (21, _), (22, _), (23, _), (24, _), (27, _), (28, _), (29, _), (30, _), (31, _), (13, _), (14, _), (53, _), (77, _), (15, _), (88, _), (89, _), (10, _)] [] a := hfr.pick [0, 1, 2, 3, 4, 5, 16, 17, 18, 19, 20, 12, 11, 21, 22, 23, 24, 27, 28, 29, 30, 31, 13, 14, 53, 77, 15, 88, 89, 10]
   have hst : St No w0 [_, _, _, _, _] w20 := hst.mask [false, true, true, true, true, true]
   refine wc_region ?_
   refine wlm hfr rfl fun a hfr => ?_
   refine wlv hfr (v_add rfl rfl ⟨by omega, by omega⟩) fun a hfr => wla hfr rfl fun a hfr => ?_
   refine wl_nil ?_
   rw [show ((d0 ++ nw :: dn).map Stt.cells) ++ [[iv (begins rl (becomes cl.backed now1.state ev) ev.at_).state, iv (begins rl (becomes cl.backed now1.state ev) ev.at_).since, iv (begins rl (becomes cl.backed now1.state ev) ev.at_).next]] = ((d0 ++ nw :: dn) ++ [begins rl (becomes cl.backed now1.state ev) ev.at_]).map Stt.cells from by simp [Stt.cells]] at hst
   refine ⟨_, ?_, k + 1, d0 ++ nw :: dn, begins rl (becomes cl.backed now1.state ev) ev.at_, vo, s16, u, rfl, (by omega), (by rw [hsp, runU_go hkl hev (by omega) hn1 (by omega), hdn]; simp), (by rw [hvo, runU_go hkl hev (by omega) hn1 (by omega)]), (Sound.begins _ _ (by omega) (by omega)), (by simp; omega), (by omega), hfr.pick [0, 1, 2, 3, 4, 5, 16, 17, 18, 19, 20, 12, 10, 11], hst.select [0, 2, 3, 4] (by decide)⟩
   omega
  rw [decide_eq_false hc2] at hfr
  refine wc_skip ?_
  refine hK10 _ _ ?_
  refine wc_seq_region fun K27 hK27 => ?_
  refine wlm hfr rfl fun a hfr => wlm hfr rfl fun a hfr => ?_
  refine wlv hfr ((v_len_sl (sT := 63) (hst.ownAt (i := 0) rfl) rfl rfl (Try.runUnderlying63 _)).asi (m' := (d0.length : Int) + 1) (by simp)) fun a hfr => ?_
  refine wlv hfr (v_sub rfl rfl ⟨by omega, by omega⟩) fun a hfr => ?_
  refine wlv hfr ((v_indexAddr_sl (i := ((d0.length : Int) + 1) - 1) (sT := 63) (hst.ownAt (i := 0) rfl) rfl rfl (Try.runUnderlying63 _) (Try.sizeOf54 _) (by omega) (by simp)).as (v' := slAddr v (d0.length * 3)) (by rw [show (((d0.length : Int) + 1) - 1).toNat = d0.length from by omega])) fun a hfr => ?_
  refine wlv hfr ((v_load_sl (hst.ownAt (i := 0) rfl) (i := d0.length) (by simp) rfl (Try.isAgg54 _) (Try.sizeOf54 _)).as (v' := .agg #[iv nw.state, iv nw.since, iv nw.next]) (by simp [Stt.cells])) fun a hfr => ?_
  refine wl_alloc hfr hst (Try.zeroValue54 _) [iv 0, iv 0, iv 0] rfl fun a w21 hfr hst => ?_
  refine wl_sto 0 hfr hst [iv nw.state, iv nw.since, iv nw.next] rfl (Try.sizeOf54 _) fun a w22 hfr hst => ?_
  refine wl_nil (hK27 _ _ ?_)
  have hfr : Fr 107 [(0, _), (1, _), (2, _), (3, _), (4, _), (5, _), (16, _), (17, _), (18, _), (19, _), (20, _), (12, _), (10, _), (11, _), (21, _), (22, _), (23, _), (24, _), (27, _), (13, _), (28, _), (29, _), (30, _), (31, _), (14, _)] [] a := hfr.pick [0, 1, 2, 3, 4, 5, 16, 17, 18, 19, 20, 12, 10, 11, 21, 22, 23, 24, 27, 13, 28, 29, 30, 31, 14]
  refine wc_seq_k fun K28 hK28 => ?_
  refine wc_block ?_
  obtain ⟨to, hto⟩ : ∃ x, t = x := ⟨_, rfl⟩
  rw [hto] at hfr
  refine wc_loop (fun m a w => ∃ (n : Nat) (now1 : Stt) (dn : List Stt) (v1 : Value), m = 0 + n ∧ (alone rl to nw = dn ++ aloneF n rl to now1) ∧ (lastOf nw dn = now1) ∧ (Sound rl now1) ∧ (rank now1.state ≤ n) ∧ (dn.length + n ≤ 4) ∧ Fr 107 [(0, .agg #[iv rl.answer, iv rl.cooling, iv rl.settle, iv rl.reverse]), (1, .agg #[iv cl.number, iv cl.frm, iv cl.to, iv cl.holder, iv cl.asked, .bool cl.backed]), (2, sv), (3, iv to), (4, .pointer (some ⟨w0.heap.size, 0, none⟩)), (5, .pointer (some ⟨w1.heap.size, 0, none⟩)), (16, .agg #[iv rl.answer, iv rl.cooling, iv rl.settle, iv rl.reverse]), (17, .pointer (some ⟨w1.heap.size, 4, none⟩)), (18, iv cl.asked), (19, .agg #[iv ((begins rl 1 cl.asked).state), iv ((begins rl 1 cl.asked).since), iv ((begins rl 1 cl.asked).next)]), (20, (.slice (some ⟨w3.heap.size, 0, none⟩) 1 1)), (12, iv (k : Int)), (11, u), (21, iv (k : Int)), (22, sv), (23, iv (l.length : Int)), (24, .bool true), (27, iv to), (13, iv to), (28, iv (k : Int)), (29, sv), (30, iv (l.length : Int)), (31, .bool false), (14, .pointer (some ⟨w5.heap.size, 0, none⟩)), (10, v1)] [] a ∧ St No w0 [blk w5.heap.size [iv now1.state, iv now1.since, iv now1.next] 54, own v1 54 3 ((d0 ++ nw :: dn).map Stt.cells), own u 3 1 (vo.map fun i => [iv i]), blk w1.heap.size [iv cl.number, iv cl.frm, iv cl.to, iv cl.holder, iv cl.asked, .bool cl.backed] 33, blk w0.heap.size [iv rl.answer, iv rl.cooling, iv rl.settle, iv rl.reverse] 31] w) _ ⟨4, nw, [], v, rfl, rfl, rfl, hso, (Nat.le_trans (rank_le _) (by decide)), (by simp), hfr.pick [0, 1, 2, 3, 4, 5, 16, 17, 18, 19, 20, 12, 11, 21, 22, 23, 24, 27, 13, 28, 29, 30, 31, 14, 10], hst.select [0, 1, 2, 3, 4] (by decide)⟩ ?_
  rintro _ a w23 ⟨n, now1, dn, v1, rfl, hal, hla, hso1, hrk, hln, hfr, hst⟩
  refine wc_seq_k fun K29 hK29 => ?_
  refine wc_seq_region fun K30 hK30 => ?_
  refine wlv hfr (v_fieldAddr (v := .pointer (some ⟨w5.heap.size, 2, none⟩)) rfl (by kernel_rfl)) fun a hfr => ?_
  refine wlv hfr (v_load_blk1 (hst.get (k := 0) rfl) rfl (Try.isAgg3 _) rfl) fun a hfr => ?_
  refine wlv hfr (v_ge rfl rfl) fun a hfr => wlm hfr rfl fun a hfr => ?_
  rcases Decidable.em (0 ≤ now1.next) with hb18 | hb18
  ·rw [decide_eq_true hb18] at hfr
   have hstep := hso1.step hr hb18
   obtain ⟨hs1, hs2, hs3, hs4, hs5, hs6⟩ := (hso1.next hr).resolve_left (by omega)
   obtain ⟨n, rfl⟩ : ∃ n2, n = n2 + 1 := ⟨n - 1, by omega⟩
   have hnx : (if now1.state = 3 then (4 : Int) else if now1.state = 4 then 5 else 3) = dueNext now1.state := by rcases hs1 with e | e | e | e <;> simp [e, dueNext]
   refine wly hfr (v_fieldAddr (v := .pointer (some ⟨w5.heap.size, 2, none⟩)) rfl (by kernel_rfl)) fun a hfr => wly hfr (v_load_blk1 (hst.get (k := 0) rfl) rfl (Try.isAgg3 _) rfl) fun a hfr => wly hfr (v_move rfl) fun a hfr => wly hfr (v_le rfl rfl) fun a hfr => ?_
   refine wlv hfr (v_pick_t rfl rfl) fun a hfr => ?_
   refine wl_nil (hK30 _ _ ?_)
   have hfr : Fr 107 [(0, _), (1, _), (2, _), (3, _), (4, _), (5, _), (16, _), (17, _), (18, _), (19, _), (20, _), (12, _), (11, _), (21, _), (22, _), (23, _), (24, _), (27, _), (13, _), (28, _), (29, _), (30, _), (31, _), (14, _), (10, _), (53, _)] [] a := hfr.pick [0, 1, 2, 3, 4, 5, 16, 17, 18, 19, 20, 12, 11, 21, 22, 23, 24, 27, 13, 28, 29, 30, 31, 14, 10, 53]
   refine wc_cond_d hfr rfl (fun hc19 => ?_) (fun hc19 => ?_)
   ·rw [decide_eq_true hc19] at hfr
    refine wc_skip ?_
    refine hK29 _ _ ?_
    refine wc_block ?_
    refine wc_seq_k fun K31 hK31 => ?_
    refine wc_of_dr ?_
    have hfr : Fr 107 [(0, _), (1, _), (2, _), (3, _), (4, _), (5, _), (16, _), (17, _), (18, _), (19, _), (20, _), (12, _), (11, _), (21, _), (22, _), (23, _), (24, _), (27, _), (13, _), (28, _), (29, _), (30, _), (31, _), (14, _), (10, _), (53, _)] [] a := hfr.pick [0, 1, 2, 3, 4, 5, 16, 17, 18, 19, 20, 12, 11, 21, 22, 23, 24, 27, 13, 28, 29, 30, 31, 14, 10, 53]
    refine wc_phases' 7 [[], [], [1], [2], [], [4], [0, 3, 5]] (fun i => match i with | 0 => pv (.agg #[iv rl.answer, iv rl.cooling, iv rl.settle, iv rl.reverse]) | 1 => pv (.pointer (some ⟨w5.heap.size, 0, none⟩)) | 2 => pv (iv now1.state) | 3 => pv (iv (dueNext now1.state)) | 4 => pv (.pointer (some ⟨w5.heap.size, 2, none⟩)) | 5 => pv (iv now1.next) | 6 => pv (.agg #[iv ((begins rl (dueNext now1.state) now1.next).state), iv ((begins rl (dueNext now1.state) now1.next).since), iv ((begins rl (dueNext now1.state) now1.next).next)]) | _ => fun _ _ => False) hfr hst (by kernel_rfl) (by kernel_rfl) ?_ ?_
    ·intro i hi
     match i, hi with
     | 0, _ =>
      intro w hst
      exact OpV.g (v_load_all (hst.get (k := 4) rfl) rfl (Try.isAgg31 _) (Try.sizeOf31 _))
     | 1, _ =>
      intro w hst
      exact OpV.g (v_fieldAddr (v := .pointer (some ⟨w5.heap.size, 0, none⟩)) rfl (by kernel_rfl))
     | 2, _ =>
      rintro _ _ ⟨rfl, rfl⟩
      intro w hst
      exact OpV.g (v_load_blk1 (hst.get (k := 0) rfl) rfl (Try.isAgg3 _) rfl)
     | 3, _ =>
      rintro _ _ ⟨rfl, rfl⟩
      intro w hst
      exact g_callp Try.call71 rfl ((hnx ▸ rafter_ok now1.state _))
     | 4, _ =>
      intro w hst
      exact OpV.g (v_fieldAddr (v := .pointer (some ⟨w5.heap.size, 2, none⟩)) rfl (by kernel_rfl))
     | 5, _ =>
      rintro _ _ ⟨rfl, rfl⟩
      intro w hst
      exact OpV.g (v_load_blk1 (hst.get (k := 0) rfl) rfl (Try.isAgg3 _) rfl)
     | 6, _ =>
      rintro _ _ ⟨rfl, rfl⟩ _ _ ⟨rfl, rfl⟩ _ _ ⟨rfl, rfl⟩
      intro w hst
      exact g_callp Try.call70 rfl (status_ok rl (dueNext now1.state) now1.next _ hr (by omega) (by omega))
    rintro _ _ ⟨rfl, rfl⟩ _ _ ⟨rfl, rfl⟩ _ _ ⟨rfl, rfl⟩ _ _ ⟨rfl, rfl⟩ _ _ ⟨rfl, rfl⟩ _ _ ⟨rfl, rfl⟩ _ _ ⟨rfl, rfl⟩ a w24 hfr hst
    have hfr : Fr 107 [(54, _), (55, _), (56, _), (57, _), (58, _), (59, _), (60, _), (0, _), (1, _), (2, _), (3, _), (4, _), (5, _), (16, _), (17, _), (18, _), (19, _), (20, _), (12, _), (11, _), (21, _), (22, _), (23, _), (24, _), (27, _), (13, _), (28, _), (29, _), (30, _), (31, _), (14, _), (10, _), (53, _)] [] a := hfr
    have hst : St No w0 [_, _, _, _, _] w24 := hst
    refine wl_sto 0 hfr hst [iv ((begins rl (dueNext now1.state) now1.next).state), iv ((begins rl (dueNext now1.state) now1.next).since), iv ((begins rl (dueNext now1.state) now1.next).next)] rfl (Try.sizeOf54 _) fun a w25 hfr hst => ?_
    refine wl_nil ?_
    refine hK31 _ _ ?_
    have hfr : Fr 107 [(0, _), (1, _), (2, _), (3, _), (4, _), (5, _), (16, _), (17, _), (18, _), (19, _), (20, _), (12, _), (11, _), (21, _), (22, _), (23, _), (24, _), (27, _), (13, _), (28, _), (29, _), (30, _), (31, _), (14, _), (10, _), (53, _)] [] a := hfr.pick [0, 1, 2, 3, 4, 5, 16, 17, 18, 19, 20, 12, 11, 21, 22, 23, 24, 27, 13, 28, 29, 30, 31, 14, 10, 53]
    refine wc_region ?_
    refine wlm hfr rfl fun a hfr => ?_
    refine wlv hfr (v_load_all (hst.get (k := 0) rfl) rfl (Try.isAgg54 _) (Try.sizeOf54 _)) fun a hfr => ?_
    refine wl_buildSlice (E := 54) (sz := 3) rfl [[iv ((begins rl (dueNext now1.state) now1.next).state), iv ((begins rl (dueNext now1.state) now1.next).since), iv ((begins rl (dueNext now1.state) now1.next).next)]] (by kernel_rfl) (by simp) rfl (by decide) (by decide) hfr hst fun a w26 hfr hst => ?_
    refine wl_append (i := 2) (sT := 63) (inf := Try.t54) (z := .agg #[iv 0, iv 0, iv 0]) (b := 0) (off := 0) (m := 0) (c := 0) rfl rfl rfl (hst.ownAt (i := 0) rfl) (by simp) Try.underlying63 rfl rfl rfl rfl (by decide) (by simp [Value.oneCell']) (by have hby : Try.t3.bytes = 8 := rfl; have hby2 : Try.t54.bytes = 24 := rfl; simp [big, hby, hby2]; omega) (by have hby : Try.t3.bytes = 8 := rfl; have hby2 : Try.t54.bytes = 24 := rfl; simp [big, hby, hby2]; omega) (by decide) hfr hst fun a w27 s20 hfr hst _ => ?_
    refine wla hfr rfl fun a hfr => ?_
    refine wl_nil ?_
    rw [show ((d0 ++ nw :: dn).map Stt.cells) ++ [[iv (begins rl (dueNext now1.state) now1.next).state, iv (begins rl (dueNext now1.state) now1.next).since, iv (begins rl (dueNext now1.state) now1.next).next]] = (d0 ++ nw :: (dn ++ [begins rl (dueNext now1.state) now1.next])).map Stt.cells from by simp [Stt.cells]] at hst
    refine ⟨_, ?_, n, begins rl (dueNext now1.state) now1.next, dn ++ [begins rl (dueNext now1.state) now1.next], s20, rfl, (by rw [hal, aloneF_pos (by assumption) (by assumption)]; simp), (by rw [lastOf_append, lastOf_cons]; rfl), hstep.1, (by simp only [begins]; omega), (by simp; omega), hfr.pick [0, 1, 2, 3, 4, 5, 16, 17, 18, 19, 20, 12, 11, 21, 22, 23, 24, 27, 13, 28, 29, 30, 31, 14, 10], hst.select [1, 2, 3, 4, 5] (by decide)⟩
    omega
   rw [decide_eq_false hc19] at hfr
   refine wc_exit ?_
   refine hK28 _ _ ?_
   refine wc_seq_k fun K32 hK32 => ?_
   have hdn0 : alone rl to nw = dn := by rw [hal, aloneF_neg (now := now1) (u := to) (r := rl) (by omega), List.append_nil]
   have hdn : alone rl t nw = dn := by rw [hto]; exact hdn0
   refine wc_seq_region fun K33 hK33 => ?_
   refine wlm hfr rfl fun a hfr => wlm hfr rfl fun a hfr => ?_
   refine wlv hfr ((v_len_sl (sT := 34) (hst.arg hsv) rfl rfl (Try.runUnderlying34 _)).asi (m' := (l.length : Int)) (by simp)) fun a hfr => ?_
   refine wlv hfr ((v_eq rfl rfl).asb (b' := true) (by simp; omega)) fun a hfr => wlm hfr rfl fun a hfr => ?_
   refine wln hfr fun a hfr => ?_
   refine wln hfr fun a hfr => ?_
   refine wln hfr fun a hfr => ?_
   refine wln hfr fun a hfr => ?_
   refine wln hfr fun a hfr => ?_
   refine wln hfr fun a hfr => ?_
   refine wln hfr fun a hfr => ?_
   refine wlv hfr (v_pick_t rfl rfl) fun a hfr => ?_
   refine wl_nil (hK33 _ _ ?_)
   have hfr : Fr 107 [(0, _), (1, _), (2, _), (3, _), (4, _), (5, _), (16, _), (17, _), (18, _), (19, _), (20, _), (12, _), (11, _), (21, _), (22, _), (23, _), (24, _), (27, _), (13, _), (28, _), (29, _), (30, _), (31, _), (14, _), (10, _), (53, _), (77, _)] [] a := hfr.pick [0, 1, 2, 3, 4, 5, 16, 17, 18, 19, 20, 12, 11, 21, 22, 23, 24, 27, 13, 28, 29, 30, 31, 14, 10, 53, 77]
   refine wc_cond_t hfr rfl ?_
   have hres : runS rl cl l t = d0 ++ nw :: dn := by rw [hsp, runU_end (by omega)]; simp [hdn]
   have hresv : runV rl cl l t = vo := by rw [hvo, runU_end (by omega)]; simp
   refine wc_seq_region fun K34 hK34 => ?_
   refine wlm hfr rfl fun a hfr => wlm hfr rfl fun a hfr => wla hfr rfl fun a hfr => wla hfr rfl fun a hfr => ?_
   refine wl_nil (hK34 _ _ ?_)
   refine wc_ret ?_
   refine fin_ret hfr Try.results48 (resAre_tmp rfl (resAre_tmp rfl resAre_nil)) ?_
   exact ⟨(v1, u), rfl, trivial, hst.ext, St.out (E := [own v1 54 3 ((runS rl cl l t).map Stt.cells), own u 3 1 ((runV rl cl l t).map fun i => [iv i])]) (H := []) (by rw [hres, hresv]; exact hst.select [1, 2] (by decide))⟩
  rw [decide_eq_false hb18] at hfr
  refine wln hfr fun a hfr => ?_
  refine wln hfr fun a hfr => ?_
  refine wln hfr fun a hfr => ?_
  refine wln hfr fun a hfr => ?_
  refine wlv hfr (v_pick_f rfl rfl) fun a hfr => ?_
  refine wl_nil (hK30 _ _ ?_)
  have hfr : Fr 107 [(0, _), (1, _), (2, _), (3, _), (4, _), (5, _), (16, _), (17, _), (18, _), (19, _), (20, _), (12, _), (11, _), (21, _), (22, _), (23, _), (24, _), (27, _), (13, _), (28, _), (29, _), (30, _), (31, _), (14, _), (10, _), (53, _)] [] a := hfr.pick [0, 1, 2, 3, 4, 5, 16, 17, 18, 19, 20, 12, 11, 21, 22, 23, 24, 27, 13, 28, 29, 30, 31, 14, 10, 53]
  refine wc_cond_f hfr rfl ?_
  refine wc_exit ?_
  refine hK28 _ _ ?_
  refine wc_seq_k fun K35 hK35 => ?_
  have hdn0 : alone rl to nw = dn := by rw [hal, aloneF_neg (now := now1) (u := to) (r := rl) (by omega), List.append_nil]
  have hdn : alone rl t nw = dn := by rw [hto]; exact hdn0
  refine wc_seq_region fun K36 hK36 => ?_
  refine wlm hfr rfl fun a hfr => wlm hfr rfl fun a hfr => ?_
  refine wlv hfr ((v_len_sl (sT := 34) (hst.arg hsv) rfl rfl (Try.runUnderlying34 _)).asi (m' := (l.length : Int)) (by simp)) fun a hfr => ?_
  refine wlv hfr ((v_eq rfl rfl).asb (b' := true) (by simp; omega)) fun a hfr => wlm hfr rfl fun a hfr => ?_
  refine wln hfr fun a hfr => ?_
  refine wln hfr fun a hfr => ?_
  refine wln hfr fun a hfr => ?_
  refine wln hfr fun a hfr => ?_
  refine wln hfr fun a hfr => ?_
  refine wln hfr fun a hfr => ?_
  refine wln hfr fun a hfr => ?_
  refine wlv hfr (v_pick_t rfl rfl) fun a hfr => ?_
  refine wl_nil (hK36 _ _ ?_)
  have hfr : Fr 107 [(0, _), (1, _), (2, _), (3, _), (4, _), (5, _), (16, _), (17, _), (18, _), (19, _), (20, _), (12, _), (11, _), (21, _), (22, _), (23, _), (24, _), (27, _), (13, _), (28, _), (29, _), (30, _), (31, _), (14, _), (10, _), (53, _), (77, _)] [] a := hfr.pick [0, 1, 2, 3, 4, 5, 16, 17, 18, 19, 20, 12, 11, 21, 22, 23, 24, 27, 13, 28, 29, 30, 31, 14, 10, 53, 77]
  refine wc_cond_t hfr rfl ?_
  have hres : runS rl cl l t = d0 ++ nw :: dn := by rw [hsp, runU_end (by omega)]; simp [hdn]
  have hresv : runV rl cl l t = vo := by rw [hvo, runU_end (by omega)]; simp
  refine wc_seq_region fun K37 hK37 => ?_
  refine wlm hfr rfl fun a hfr => wlm hfr rfl fun a hfr => wla hfr rfl fun a hfr => wla hfr rfl fun a hfr => ?_
  refine wl_nil (hK37 _ _ ?_)
  refine wc_ret ?_
  refine fin_ret hfr Try.results48 (resAre_tmp rfl (resAre_tmp rfl resAre_nil)) ?_
  exact ⟨(v1, u), rfl, trivial, hst.ext, St.out (E := [own v1 54 3 ((runS rl cl l t).map Stt.cells), own u 3 1 ((runV rl cl l t).map fun i => [iv i])]) (H := []) (by rw [hres, hresv]; exact hst.select [1, 2] (by decide))⟩
 rw [decide_eq_false hc1] at hfr
 exact absurd hk (by omega)
end Go.Proofs.Ytnfnkohkcmkddaa
namespace Go.Proofs.Ytnfnkohkcmkddaa
open Go.RowKit Go.PW
set_option linter.unusedVariables false
set_option linter.unusedSimpArgs false
set_option maxRecDepth 4000
theorem run_ok2 (rl : Rul) (cl : Clm) (sv : Value) (l : List Evt) (t : Int) (w0 : World) (hsv : SlAt w0 sv 3 (l.map Evt.cells)) (hv : valid rl cl l = true) (h0 : 0 ≤ t) (h1 : t ≤ 40000000) {d0 : List Stt} {ls : Stt} (hls : runS rl cl l t = d0 ++ [ls]) :
  Ret Try.prog 48 #[.agg #[iv rl.answer, iv rl.cooling, iv rl.settle, iv rl.reverse], .agg #[iv cl.number, iv cl.frm, iv cl.to, iv cl.holder, iv cl.asked, .bool cl.backed], sv, iv t] w0 (MemR w0 (fun x : Value × Value => .tuple #[x.1, x.2]) (fun x => [own x.1 54 3 ((d0 ++ [ls]).map Stt.cells), own x.2 3 1 ((runV rl cl l t).map fun i => [iv i])]) (fun _ => True)) := by
 rw [← hls]; exact run_ok rl cl sv l t w0 hsv hv h0 h1
theorem routcome_ok (rl : Rul) (cl : Clm) (sv : Value) (l : List Evt) (t : Int) (w0 : World) (hsv : SlAt w0 sv 3 (l.map Evt.cells)) (hv : valid rl cl l = true) (hin : isIn t 0 20000000 = true) :
  Ret Try.prog 29 #[.agg #[iv rl.answer, iv rl.cooling, iv rl.settle, iv rl.reverse], .agg #[iv cl.number, iv cl.frm, iv cl.to, iv cl.holder, iv cl.asked, .bool cl.backed], sv, iv t] w0 fun v w => v = .tuple #[(outR rl cl l t).val, iv 0] ∧ Ext No w0 w := by
 have h0 : 0 ≤ t ∧ t ≤ 20000000 := by simpa [isIn] using hin
 obtain ⟨h0, h1⟩ := h0
 obtain ⟨d0, ls, hls⟩ : ∃ d0 ls, runS rl cl l t = d0 ++ [ls] := by
  rcases List.eq_nil_or_concat (runS rl cl l t) with h | ⟨q, s, h⟩
  ·simp [runS] at h
  ·exact ⟨q, s, by simpa using h⟩
 refine ret_of Try.func29 rfl Try.ntmps29 (lb rfl) fun a hfr => ?_
 have hfr : Fr 44 [(0, _), (1, _), (2, _), (3, _)] [] a := hfr
 have hst : St No w0 [] w0 := St.init w0
 refine wc_seq_region fun K1 hK1 => ?_
 refine wl_box hfr hst rfl [iv rl.answer, iv rl.cooling, iv rl.settle, iv rl.reverse] rfl fun a w1 hfr hst => ?_
 refine wl_box hfr hst rfl [iv cl.number, iv cl.frm, iv cl.to, iv cl.holder, iv cl.asked, .bool cl.backed] rfl fun a w2 hfr hst => ?_
 refine wl_alloc hfr hst (Try.zeroValue54 _) [iv 0, iv 0, iv 0] rfl fun a w3 hfr hst => ?_
 refine wla hfr rfl fun a hfr => ?_
 refine wl_nil (hK1 _ _ ?_)
 refine wc_seq_k fun K2 hK2 => ?_
 refine wc_seq_region fun K3 hK3 => ?_
 refine wlv hfr (v_load_all (hst.get (k := 2) rfl) rfl (Try.isAgg31 _) (Try.sizeOf31 _)) fun a hfr => ?_
 refine wlv hfr (v_load_all (hst.get (k := 1) rfl) rfl (Try.isAgg33 _) (Try.sizeOf33 _)) fun a hfr => wlm hfr rfl fun a hfr => ?_
 refine wl_callp hfr hst Try.call46 rfl ((hv ▸ rvalid_ok rl cl sv l _ (hst.arg hsv) : Ret Try.prog 46 _ _ fun v w => v = .bool true ∧ _)) fun a w4 hfr hst => ?_
 refine wlv hfr ((v_not rfl).asb (b' := false) rfl) fun a hfr => wlm hfr rfl fun a hfr => wly hfr (v_move rfl) fun a hfr => ?_
 refine wl_callpy hfr hst Try.call47 rfl ((hin ▸ rin_ok _ _ _ _)) fun a w5 hfr hst => ?_
 refine wly hfr ((v_not rfl).asb (b' := false) rfl) fun a hfr => ?_
 refine wlv hfr (v_pick_f rfl rfl) fun a hfr => ?_
 refine wl_nil (hK3 _ _ ?_)
 have hfr : Fr 44 [(0, _), (1, _), (2, _), (3, _), (4, _), (5, _), (8, _), (9, _), (21, _)] [] a := hfr.pick [0, 1, 2, 3, 4, 5, 8, 9, 21]
 refine wc_cond_f hfr rfl ?_
 refine wc_skip ?_
 refine hK2 _ _ ?_
 refine wc_seq_k fun K4 hK4 => ?_
 refine wc_seq_region fun K5 hK5 => ?_
 refine wlm hfr rfl fun a hfr => ?_
 refine wlv hfr (v_fieldAddr (v := .pointer (some ⟨w1.heap.size, 4, none⟩)) rfl (by kernel_rfl)) fun a hfr => ?_
 refine wlv hfr (v_load_blk1 (hst.get (k := 1) rfl) rfl (Try.isAgg3 _) rfl) fun a hfr => ?_
 refine wlv hfr (v_lt rfl rfl) fun a hfr => ?_
 refine wl_nil (hK5 _ _ ?_)
 refine wc_cond_d hfr rfl (fun hc1 => ?_) (fun hc1 => ?_)
 ·rw [decide_eq_true hc1] at hfr
  refine wc_seq_region fun K6 hK6 => ?_
  refine wlv hfr (v_fieldAddr (v := .pointer (some ⟨w1.heap.size, 4, none⟩)) rfl (by kernel_rfl)) fun a hfr => ?_
  refine wlv hfr (v_load_blk1 (hst.get (k := 1) rfl) rfl (Try.isAgg3 _) rfl) fun a hfr => ?_
  refine wlv hfr (v_build (v := .agg #[iv 0, iv 0, iv cl.asked]) rfl (by kernel_rfl)) fun a hfr => ?_
  refine wl_sto 0 hfr hst [iv 0, iv 0, iv cl.asked] rfl (Try.sizeOf54 _) fun a w6 hfr hst => ?_
  refine wla hfr rfl fun a hfr => ?_
  refine wl_nil (hK6 _ _ ?_)
  refine wc_ret ?_
  refine fin_ret hfr Try.results29 (resAre_cell rfl (res_all (hst.get (k := 0) rfl) (Try.isAgg54 _) (Try.sizeOf54 _)) (resAre_tmp rfl resAre_nil)) ?_
  exact ⟨by simp only [retv, outR]; rw [if_pos (by assumption)]; rfl, hst.ext⟩
 rw [decide_eq_false hc1] at hfr
 refine wc_skip ?_
 refine hK4 _ _ ?_
 refine wc_seq_region fun K7 hK7 => ?_
 refine wlv hfr (v_load_all (hst.get (k := 2) rfl) rfl (Try.isAgg31 _) (Try.sizeOf31 _)) fun a hfr => ?_
 refine wlv hfr (v_load_all (hst.get (k := 1) rfl) rfl (Try.isAgg33 _) (Try.sizeOf33 _)) fun a hfr => wlm hfr rfl fun a hfr => wlm hfr rfl fun a hfr => ?_
 refine wl_callm hfr hst Try.call48 rfl (run_ok2 rl cl sv l t _ (hst.arg hsv) hv h0 (by omega) hls) fun a w7 x3 hp hfr hst => ?_
 revert x3 hp hfr hst; rintro x2 hp hfr hst
 clear hp
 have hst : St No w0 [own x2.1 54 3 ((d0 ++ [ls]).map Stt.cells), own x2.2 3 1 ((runV rl cl l t).map fun i => [iv i]), blk w2.heap.size [iv 0, iv 0, iv 0] 54, blk w1.heap.size [iv cl.number, iv cl.frm, iv cl.to, iv cl.holder, iv cl.asked, .bool cl.backed] 33, blk w0.heap.size [iv rl.answer, iv rl.cooling, iv rl.settle, iv rl.reverse] 31] w7 := hst
 have hbig := (hst.ownAt (i := 0) rfl).2.1
 simp only [List.length_map, List.length_append, List.length_singleton, big] at hbig
 refine wlm hfr rfl fun a hfr => ?_
 refine wlv hfr (v_extract rfl rfl) fun a hfr => ?_
 refine wlv hfr (v_extract rfl rfl) fun a hfr => wla hfr rfl fun a hfr => wla hfr rfl fun a hfr => ?_
 refine wl_nil (hK7 _ _ ?_)
 have hfr : Fr 44 [(0, _), (1, _), (2, _), (3, _), (4, _), (5, _), (8, _), (9, _), (21, _), (23, _), (24, _), (25, _), (26, _), (10, _)] [] a := hfr.pick [0, 1, 2, 3, 4, 5, 8, 9, 21, 23, 24, 25, 26, 10]
 have hst : St No w0 [_, _, _, _] w7 := hst.mask [true, false, true, true, true]
 refine wc_seq_region fun K8 hK8 => ?_
 refine wlm hfr rfl fun a hfr => wlm hfr rfl fun a hfr => ?_
 refine wlv hfr ((v_len_sl (sT := 63) (hst.ownAt (i := 0) rfl) rfl rfl (Try.runUnderlying63 _)).asi (m' := (d0.length : Int) + 1) (by simp)) fun a hfr => ?_
 refine wlv hfr (v_sub rfl rfl ⟨by omega, by omega⟩) fun a hfr => ?_
 refine wlv hfr ((v_indexAddr_sl (i := ((d0.length : Int) + 1) - 1) (sT := 63) (hst.ownAt (i := 0) rfl) rfl rfl (Try.runUnderlying63 _) (Try.sizeOf54 _) (by omega) (by simp)).as (v' := slAddr x2.1 (d0.length * 3)) (by rw [show (((d0.length : Int) + 1) - 1).toNat = d0.length from by omega])) fun a hfr => ?_
 refine wlv hfr ((v_load_sl (hst.ownAt (i := 0) rfl) (i := d0.length) (by simp) rfl (Try.isAgg54 _) (Try.sizeOf54 _)).as (v' := .agg #[iv ls.state, iv ls.since, iv ls.next]) (by simp [Stt.cells])) fun a hfr => ?_
 refine wl_sto 1 hfr hst [iv ls.state, iv ls.since, iv ls.next] rfl (Try.sizeOf54 _) fun a w8 hfr hst => ?_
 refine wla hfr rfl fun a hfr => ?_
 refine wl_nil (hK8 _ _ ?_)
 have hfr : Fr 44 [(0, _), (1, _), (2, _), (3, _), (4, _), (5, _), (8, _), (21, _), (23, _), (24, _), (25, _), (26, _), (10, _), (9, _)] [] a := hfr.pick [0, 1, 2, 3, 4, 5, 8, 21, 23, 24, 25, 26, 10, 9]
 refine wc_ret ?_
 refine fin_ret hfr Try.results29 (resAre_cell rfl (res_all (hst.get (k := 1) rfl) (Try.isAgg54 _) (Try.sizeOf54 _)) (resAre_tmp rfl resAre_nil)) ?_
 exact ⟨by simp only [retv, outR]; rw [if_neg (by omega), hls, lastOf_snoc]; rfl, hst.ext⟩
set_option maxHeartbeats 4000000 in
theorem madeRules_ok (x0 x1 x2 x3 : Int) (w0 : World) (h0 : isI64 x0) (h1 : isI64 x1) (h2 : isI64 x2) (h3 : isI64 x3) :
  Ret Try.prog 27 #[.agg #[iv x0, iv x1, iv x2, iv x3]] w0 fun v w => v = (mkRul x0 x1 x2 x3).val ∧ Ext No w0 w := by
 have q0 := tdiv_fits x0 16 (by omega) h0
 have p0 := pick_lt x0 12 (by omega)
 have r0 := pick_lt x0 86400 (by omega)
 have q1 := tdiv_fits x1 16 (by omega) h1
 have p1 := pick_lt x1 12 (by omega)
 have r1 := pick_lt x1 86400 (by omega)
 have q2 := tdiv_fits x2 16 (by omega) h2
 have p2 := pick_lt x2 12 (by omega)
 have r2 := pick_lt x2 86400 (by omega)
 have q3 := tdiv_fits x3 16 (by omega) h3
 have p3 := pick_lt x3 12 (by omega)
 have r3 := pick_lt x3 86400 (by omega)
 unfold isI64 at h0 h1 h2 h3 q0 q1 q2 q3
 refine ret_of Try.func27 rfl Try.ntmps27 (lb rfl) fun a hfr => ?_
 have hfr : Fr 38 [(0, _)] [] a := hfr
 have hst : St No w0 [] w0 := St.init w0
 refine wc_seq_region fun K1 hK1 => ?_
 refine wl_box hfr hst rfl [iv x0, iv x1, iv x2, iv x3] rfl fun a w1 hfr hst => ?_
 refine wl_alloc hfr hst (Try.zeroValue31 _) [iv 0, iv 0, iv 0, iv 0] rfl fun a w2 hfr hst => ?_
 refine wl_nil (hK1 _ _ ?_)
 refine wc_seq_region fun K2 hK2 => ?_
 refine wl_alloc hfr hst (Try.zeroValue23 _) [iv 0, iv 0, iv 0, iv 0] rfl fun a w3 hfr hst => ?_
 refine wl_nil (hK2 _ _ ?_)
 refine wc_seq_k fun K3 hK3 => ?_
 refine wc_seq_region fun K4 hK4 => ?_
 refine wla hfr rfl fun a hfr => ?_
 refine wl_nil (hK4 _ _ ?_)
 refine wc_block ?_
 refine wc_rounds 5 ?_
 refine wr_succ ?_
 refine wc_seq_k fun K5 hK5 => ?_
 refine wc_seq_region fun K6 hK6 => ?_
 refine wlm hfr rfl fun a hfr => ?_
 refine wlv hfr ((v_lt rfl rfl).asb (b' := true) rfl) fun a hfr => ?_
 refine wl_nil (hK6 _ _ ?_)
 refine wc_cond_t hfr rfl ?_
 refine wc_skip ?_
 refine hK5 _ _ ?_
 refine wc_seq_k fun K7 hK7 => ?_
 refine wc_meet (fun a w => ∃ (yy0 : Int), (yy0 = mkRule x0) ∧ Fr 38 [(1, .pointer (some ⟨w0.heap.size, 0, none⟩)), (2, .pointer (some ⟨w1.heap.size, 0, none⟩)), (3, .pointer (some ⟨w2.heap.size, 0, none⟩)), (4, iv 0)] [] a ∧ St No w0 [blk w2.heap.size [iv yy0, iv 0, iv 0, iv 0] 23, blk w1.heap.size [iv 0, iv 0, iv 0, iv 0] 31, blk w0.heap.size [iv x0, iv x1, iv x2, iv x3] 23] w) ?_ ?_
 ·refine wc_block ?_
  refine wc_seq_region fun K8 hK8 => ?_
  refine wlm hfr rfl fun a hfr => wlm hfr rfl fun a hfr => ?_
  refine wlv hfr (v_indexAddr (v := .pointer (some ⟨w0.heap.size, 0, none⟩)) rfl rfl (by kernel_rfl)) fun a hfr => ?_
  refine wlv hfr (v_load_blk1 (hst.get (k := 2) rfl) rfl (Try.isAgg3 _) rfl) fun a hfr => ?_
  refine wl_callp hfr hst Try.call28 rfl (pickr16_ok _ _ _ (by omega) (by omega) (by omega) (by omega)) fun a w4 hfr hst => ?_
  refine wlv hfr (v_add rfl rfl ⟨by omega, by omega⟩) fun a hfr => ?_
  refine wlv hfr (v_indexAddr (v := .pointer (some ⟨w2.heap.size, 0, none⟩)) rfl rfl (by kernel_rfl)) fun a hfr => ?_
  refine wl_sto 0 hfr hst [iv (1 + (pick x0 12)), iv 0, iv 0, iv 0] rfl (Try.sizeOf3 _) fun a w5 hfr hst => ?_
  refine wl_nil (hK8 _ _ ?_)
  have hfr : Fr 38 [(0, _), (1, _), (2, _), (3, _), (4, _), (5, _), (6, _)] [] a := hfr.pick [0, 1, 2, 3, 4, 5, 6]
  refine wc_seq_region fun K9 hK9 => ?_
  refine wlm hfr rfl fun a hfr => ?_
  refine wlv hfr (v_indexAddr (v := .pointer (some ⟨w0.heap.size, 0, none⟩)) rfl rfl (by kernel_rfl)) fun a hfr => ?_
  refine wlv hfr (v_load_blk1 (hst.get (k := 2) rfl) rfl (Try.isAgg3 _) rfl) fun a hfr => ?_
  refine wlv hfr (v_quo' rfl rfl (by omega) ⟨by omega, by omega⟩) fun a hfr => ?_
  refine wl_callp hfr hst Try.call28 rfl (pickr16_ok _ _ _ (by omega) (by omega) (by omega) (by omega)) fun a w6 hfr hst => ?_
  refine wlv hfr (v_eq rfl rfl) fun a hfr => ?_
  refine wl_nil (hK9 _ _ ?_)
  refine wc_cond_d hfr rfl (fun hc1 => ?_) (fun hc1 => ?_)
  ·rw [decide_eq_true hc1] at hfr
   refine wc_region ?_
   refine wlm hfr rfl fun a hfr => wlm hfr rfl fun a hfr => ?_
   refine wlv hfr (v_indexAddr (v := .pointer (some ⟨w0.heap.size, 0, none⟩)) rfl rfl (by kernel_rfl)) fun a hfr => ?_
   refine wlv hfr (v_load_blk1 (hst.get (k := 2) rfl) rfl (Try.isAgg3 _) rfl) fun a hfr => ?_
   refine wl_callp hfr hst Try.call28 rfl (pickr16_ok _ _ _ (by omega) (by omega) (by omega) (by omega)) fun a w7 hfr hst => ?_
   refine wlv hfr (v_add rfl rfl ⟨by omega, by omega⟩) fun a hfr => ?_
   refine wlv hfr (v_indexAddr (v := .pointer (some ⟨w2.heap.size, 0, none⟩)) rfl rfl (by kernel_rfl)) fun a hfr => ?_
   refine wl_sto 0 hfr hst [iv (1 + (pick x0 86400)), iv 0, iv 0, iv 0] rfl (Try.sizeOf3 _) fun a w8 hfr hst => ?_
   refine wl_nil ?_
   exact ⟨1 + (pick x0 86400), (by unfold mkRule; rw [if_pos hc1]), hfr.pick [1, 2, 3, 4], hst.select [0, 1, 2] (by decide)⟩
  rw [decide_eq_false hc1] at hfr
  refine wc_skip ?_
  exact ⟨1 + (pick x0 12), (by unfold mkRule; rw [if_neg hc1]), hfr.pick [1, 2, 3, 4], hst.select [0, 1, 2] (by decide)⟩
 rintro a w9 ⟨yy0, hyy0, hfr, hst⟩
 refine hK7 _ _ ?_
 refine wc_region ?_
 refine wlm hfr rfl fun a hfr => ?_
 refine wlv hfr ((v_add rfl rfl (by decide)).asi (m' := 1) rfl) fun a hfr => wla hfr rfl fun a hfr => ?_
 refine wl_nil ?_
 refine wr_succ ?_
 refine wc_seq_k fun K10 hK10 => ?_
 refine wc_seq_region fun K11 hK11 => ?_
 refine wlm hfr rfl fun a hfr => ?_
 refine wlv hfr ((v_lt rfl rfl).asb (b' := true) rfl) fun a hfr => ?_
 refine wl_nil (hK11 _ _ ?_)
 refine wc_cond_t hfr rfl ?_
 refine wc_skip ?_
 refine hK10 _ _ ?_
 refine wc_seq_k fun K12 hK12 => ?_
 refine wc_meet (fun a w => ∃ (yy1 : Int), (yy1 = mkRule x1) ∧ Fr 38 [(1, .pointer (some ⟨w0.heap.size, 0, none⟩)), (2, .pointer (some ⟨w1.heap.size, 0, none⟩)), (3, .pointer (some ⟨w2.heap.size, 0, none⟩)), (4, iv 1)] [] a ∧ St No w0 [blk w2.heap.size [iv yy0, iv yy1, iv 0, iv 0] 23, blk w1.heap.size [iv 0, iv 0, iv 0, iv 0] 31, blk w0.heap.size [iv x0, iv x1, iv x2, iv x3] 23] w) ?_ ?_
 ·refine wc_block ?_
  refine wc_seq_region fun K13 hK13 => ?_
  refine wlm hfr rfl fun a hfr => wlm hfr rfl fun a hfr => ?_
  refine wlv hfr (v_indexAddr (v := .pointer (some ⟨w0.heap.size, 1, none⟩)) rfl rfl (by kernel_rfl)) fun a hfr => ?_
  refine wlv hfr (v_load_blk1 (hst.get (k := 2) rfl) rfl (Try.isAgg3 _) rfl) fun a hfr => ?_
  refine wl_callp hfr hst Try.call28 rfl (pickr16_ok _ _ _ (by omega) (by omega) (by omega) (by omega)) fun a w10 hfr hst => ?_
  refine wlv hfr (v_add rfl rfl ⟨by omega, by omega⟩) fun a hfr => ?_
  refine wlv hfr (v_indexAddr (v := .pointer (some ⟨w2.heap.size, 1, none⟩)) rfl rfl (by kernel_rfl)) fun a hfr => ?_
  refine wl_sto 0 hfr hst [iv yy0, iv (1 + (pick x1 12)), iv 0, iv 0] rfl (Try.sizeOf3 _) fun a w11 hfr hst => ?_
  refine wl_nil (hK13 _ _ ?_)
  have hfr : Fr 38 [(1, _), (2, _), (3, _), (7, _), (8, _), (4, _), (5, _), (6, _)] [] a := hfr.pick [1, 2, 3, 7, 8, 4, 5, 6]
  refine wc_seq_region fun K14 hK14 => ?_
  refine wlm hfr rfl fun a hfr => ?_
  refine wlv hfr (v_indexAddr (v := .pointer (some ⟨w0.heap.size, 1, none⟩)) rfl rfl (by kernel_rfl)) fun a hfr => ?_
  refine wlv hfr (v_load_blk1 (hst.get (k := 2) rfl) rfl (Try.isAgg3 _) rfl) fun a hfr => ?_
  refine wlv hfr (v_quo' rfl rfl (by omega) ⟨by omega, by omega⟩) fun a hfr => ?_
  refine wl_callp hfr hst Try.call28 rfl (pickr16_ok _ _ _ (by omega) (by omega) (by omega) (by omega)) fun a w12 hfr hst => ?_
  refine wlv hfr (v_eq rfl rfl) fun a hfr => ?_
  refine wl_nil (hK14 _ _ ?_)
  refine wc_cond_d hfr rfl (fun hc2 => ?_) (fun hc2 => ?_)
  ·rw [decide_eq_true hc2] at hfr
   refine wc_region ?_
   refine wlm hfr rfl fun a hfr => wlm hfr rfl fun a hfr => ?_
   refine wlv hfr (v_indexAddr (v := .pointer (some ⟨w0.heap.size, 1, none⟩)) rfl rfl (by kernel_rfl)) fun a hfr => ?_
   refine wlv hfr (v_load_blk1 (hst.get (k := 2) rfl) rfl (Try.isAgg3 _) rfl) fun a hfr => ?_
   refine wl_callp hfr hst Try.call28 rfl (pickr16_ok _ _ _ (by omega) (by omega) (by omega) (by omega)) fun a w13 hfr hst => ?_
   refine wlv hfr (v_add rfl rfl ⟨by omega, by omega⟩) fun a hfr => ?_
   refine wlv hfr (v_indexAddr (v := .pointer (some ⟨w2.heap.size, 1, none⟩)) rfl rfl (by kernel_rfl)) fun a hfr => ?_
   refine wl_sto 0 hfr hst [iv yy0, iv (1 + (pick x1 86400)), iv 0, iv 0] rfl (Try.sizeOf3 _) fun a w14 hfr hst => ?_
   refine wl_nil ?_
   exact ⟨1 + (pick x1 86400), (by unfold mkRule; rw [if_pos hc2]), hfr.pick [1, 2, 3, 4], hst.select [0, 1, 2] (by decide)⟩
  rw [decide_eq_false hc2] at hfr
  refine wc_skip ?_
  exact ⟨1 + (pick x1 12), (by unfold mkRule; rw [if_neg hc2]), hfr.pick [1, 2, 3, 4], hst.select [0, 1, 2] (by decide)⟩
 rintro a w15 ⟨yy1, hyy1, hfr, hst⟩
 refine hK12 _ _ ?_
 refine wc_region ?_
 refine wlm hfr rfl fun a hfr => ?_
 refine wlv hfr ((v_add rfl rfl (by decide)).asi (m' := 2) rfl) fun a hfr => wla hfr rfl fun a hfr => ?_
 refine wl_nil ?_
 refine wr_succ ?_
 refine wc_seq_k fun K15 hK15 => ?_
 refine wc_seq_region fun K16 hK16 => ?_
 refine wlm hfr rfl fun a hfr => ?_
 refine wlv hfr ((v_lt rfl rfl).asb (b' := true) rfl) fun a hfr => ?_
 refine wl_nil (hK16 _ _ ?_)
 refine wc_cond_t hfr rfl ?_
 refine wc_skip ?_
 refine hK15 _ _ ?_
 refine wc_seq_k fun K17 hK17 => ?_
 refine wc_meet (fun a w => ∃ (yy2 : Int), (yy2 = mkRule x2) ∧ Fr 38 [(1, .pointer (some ⟨w0.heap.size, 0, none⟩)), (2, .pointer (some ⟨w1.heap.size, 0, none⟩)), (3, .pointer (some ⟨w2.heap.size, 0, none⟩)), (4, iv 2)] [] a ∧ St No w0 [blk w2.heap.size [iv yy0, iv yy1, iv yy2, iv 0] 23, blk w1.heap.size [iv 0, iv 0, iv 0, iv 0] 31, blk w0.heap.size [iv x0, iv x1, iv x2, iv x3] 23] w) ?_ ?_
 ·refine wc_block ?_
  refine wc_seq_region fun K18 hK18 => ?_
  refine wlm hfr rfl fun a hfr => wlm hfr rfl fun a hfr => ?_
  refine wlv hfr (v_indexAddr (v := .pointer (some ⟨w0.heap.size, 2, none⟩)) rfl rfl (by kernel_rfl)) fun a hfr => ?_
  refine wlv hfr (v_load_blk1 (hst.get (k := 2) rfl) rfl (Try.isAgg3 _) rfl) fun a hfr => ?_
  refine wl_callp hfr hst Try.call28 rfl (pickr16_ok _ _ _ (by omega) (by omega) (by omega) (by omega)) fun a w16 hfr hst => ?_
  refine wlv hfr (v_add rfl rfl ⟨by omega, by omega⟩) fun a hfr => ?_
  refine wlv hfr (v_indexAddr (v := .pointer (some ⟨w2.heap.size, 2, none⟩)) rfl rfl (by kernel_rfl)) fun a hfr => ?_
  refine wl_sto 0 hfr hst [iv yy0, iv yy1, iv (1 + (pick x2 12)), iv 0] rfl (Try.sizeOf3 _) fun a w17 hfr hst => ?_
  refine wl_nil (hK18 _ _ ?_)
  have hfr : Fr 38 [(1, _), (2, _), (3, _), (7, _), (8, _), (4, _), (5, _), (6, _)] [] a := hfr.pick [1, 2, 3, 7, 8, 4, 5, 6]
  refine wc_seq_region fun K19 hK19 => ?_
  refine wlm hfr rfl fun a hfr => ?_
  refine wlv hfr (v_indexAddr (v := .pointer (some ⟨w0.heap.size, 2, none⟩)) rfl rfl (by kernel_rfl)) fun a hfr => ?_
  refine wlv hfr (v_load_blk1 (hst.get (k := 2) rfl) rfl (Try.isAgg3 _) rfl) fun a hfr => ?_
  refine wlv hfr (v_quo' rfl rfl (by omega) ⟨by omega, by omega⟩) fun a hfr => ?_
  refine wl_callp hfr hst Try.call28 rfl (pickr16_ok _ _ _ (by omega) (by omega) (by omega) (by omega)) fun a w18 hfr hst => ?_
  refine wlv hfr (v_eq rfl rfl) fun a hfr => ?_
  refine wl_nil (hK19 _ _ ?_)
  refine wc_cond_d hfr rfl (fun hc3 => ?_) (fun hc3 => ?_)
  ·rw [decide_eq_true hc3] at hfr
   refine wc_region ?_
   refine wlm hfr rfl fun a hfr => wlm hfr rfl fun a hfr => ?_
   refine wlv hfr (v_indexAddr (v := .pointer (some ⟨w0.heap.size, 2, none⟩)) rfl rfl (by kernel_rfl)) fun a hfr => ?_
   refine wlv hfr (v_load_blk1 (hst.get (k := 2) rfl) rfl (Try.isAgg3 _) rfl) fun a hfr => ?_
   refine wl_callp hfr hst Try.call28 rfl (pickr16_ok _ _ _ (by omega) (by omega) (by omega) (by omega)) fun a w19 hfr hst => ?_
   refine wlv hfr (v_add rfl rfl ⟨by omega, by omega⟩) fun a hfr => ?_
   refine wlv hfr (v_indexAddr (v := .pointer (some ⟨w2.heap.size, 2, none⟩)) rfl rfl (by kernel_rfl)) fun a hfr => ?_
   refine wl_sto 0 hfr hst [iv yy0, iv yy1, iv (1 + (pick x2 86400)), iv 0] rfl (Try.sizeOf3 _) fun a w20 hfr hst => ?_
   refine wl_nil ?_
   exact ⟨1 + (pick x2 86400), (by unfold mkRule; rw [if_pos hc3]), hfr.pick [1, 2, 3, 4], hst.select [0, 1, 2] (by decide)⟩
  rw [decide_eq_false hc3] at hfr
  refine wc_skip ?_
  exact ⟨1 + (pick x2 12), (by unfold mkRule; rw [if_neg hc3]), hfr.pick [1, 2, 3, 4], hst.select [0, 1, 2] (by decide)⟩
 rintro a w21 ⟨yy2, hyy2, hfr, hst⟩
 refine hK17 _ _ ?_
 refine wc_region ?_
 refine wlm hfr rfl fun a hfr => ?_
 refine wlv hfr ((v_add rfl rfl (by decide)).asi (m' := 3) rfl) fun a hfr => wla hfr rfl fun a hfr => ?_
 refine wl_nil ?_
 refine wr_succ ?_
 refine wc_seq_k fun K20 hK20 => ?_
 refine wc_seq_region fun K21 hK21 => ?_
 refine wlm hfr rfl fun a hfr => ?_
 refine wlv hfr ((v_lt rfl rfl).asb (b' := true) rfl) fun a hfr => ?_
 refine wl_nil (hK21 _ _ ?_)
 refine wc_cond_t hfr rfl ?_
 refine wc_skip ?_
 refine hK20 _ _ ?_
 refine wc_seq_k fun K22 hK22 => ?_
 refine wc_meet (fun a w => ∃ (yy3 : Int), (yy3 = mkRule x3) ∧ Fr 38 [(1, .pointer (some ⟨w0.heap.size, 0, none⟩)), (2, .pointer (some ⟨w1.heap.size, 0, none⟩)), (3, .pointer (some ⟨w2.heap.size, 0, none⟩)), (4, iv 3)] [] a ∧ St No w0 [blk w2.heap.size [iv yy0, iv yy1, iv yy2, iv yy3] 23, blk w1.heap.size [iv 0, iv 0, iv 0, iv 0] 31, blk w0.heap.size [iv x0, iv x1, iv x2, iv x3] 23] w) ?_ ?_
 ·refine wc_block ?_
  refine wc_seq_region fun K23 hK23 => ?_
  refine wlm hfr rfl fun a hfr => wlm hfr rfl fun a hfr => ?_
  refine wlv hfr (v_indexAddr (v := .pointer (some ⟨w0.heap.size, 3, none⟩)) rfl rfl (by kernel_rfl)) fun a hfr => ?_
  refine wlv hfr (v_load_blk1 (hst.get (k := 2) rfl) rfl (Try.isAgg3 _) rfl) fun a hfr => ?_
  refine wl_callp hfr hst Try.call28 rfl (pickr16_ok _ _ _ (by omega) (by omega) (by omega) (by omega)) fun a w22 hfr hst => ?_
  refine wlv hfr (v_add rfl rfl ⟨by omega, by omega⟩) fun a hfr => ?_
  refine wlv hfr (v_indexAddr (v := .pointer (some ⟨w2.heap.size, 3, none⟩)) rfl rfl (by kernel_rfl)) fun a hfr => ?_
  refine wl_sto 0 hfr hst [iv yy0, iv yy1, iv yy2, iv (1 + (pick x3 12))] rfl (Try.sizeOf3 _) fun a w23 hfr hst => ?_
  refine wl_nil (hK23 _ _ ?_)
  have hfr : Fr 38 [(1, _), (2, _), (3, _), (7, _), (8, _), (4, _), (5, _), (6, _)] [] a := hfr.pick [1, 2, 3, 7, 8, 4, 5, 6]
  refine wc_seq_region fun K24 hK24 => ?_
  refine wlm hfr rfl fun a hfr => ?_
  refine wlv hfr (v_indexAddr (v := .pointer (some ⟨w0.heap.size, 3, none⟩)) rfl rfl (by kernel_rfl)) fun a hfr => ?_
  refine wlv hfr (v_load_blk1 (hst.get (k := 2) rfl) rfl (Try.isAgg3 _) rfl) fun a hfr => ?_
  refine wlv hfr (v_quo' rfl rfl (by omega) ⟨by omega, by omega⟩) fun a hfr => ?_
  refine wl_callp hfr hst Try.call28 rfl (pickr16_ok _ _ _ (by omega) (by omega) (by omega) (by omega)) fun a w24 hfr hst => ?_
  refine wlv hfr (v_eq rfl rfl) fun a hfr => ?_
  refine wl_nil (hK24 _ _ ?_)
  refine wc_cond_d hfr rfl (fun hc4 => ?_) (fun hc4 => ?_)
  ·rw [decide_eq_true hc4] at hfr
   refine wc_region ?_
   refine wlm hfr rfl fun a hfr => wlm hfr rfl fun a hfr => ?_
   refine wlv hfr (v_indexAddr (v := .pointer (some ⟨w0.heap.size, 3, none⟩)) rfl rfl (by kernel_rfl)) fun a hfr => ?_
   refine wlv hfr (v_load_blk1 (hst.get (k := 2) rfl) rfl (Try.isAgg3 _) rfl) fun a hfr => ?_
   refine wl_callp hfr hst Try.call28 rfl (pickr16_ok _ _ _ (by omega) (by omega) (by omega) (by omega)) fun a w25 hfr hst => ?_
   refine wlv hfr (v_add rfl rfl ⟨by omega, by omega⟩) fun a hfr => ?_
   refine wlv hfr (v_indexAddr (v := .pointer (some ⟨w2.heap.size, 3, none⟩)) rfl rfl (by kernel_rfl)) fun a hfr => ?_
   refine wl_sto 0 hfr hst [iv yy0, iv yy1, iv yy2, iv (1 + (pick x3 86400))] rfl (Try.sizeOf3 _) fun a w26 hfr hst => ?_
   refine wl_nil ?_
   exact ⟨1 + (pick x3 86400), (by unfold mkRule; rw [if_pos hc4]), hfr.pick [1, 2, 3, 4], hst.select [0, 1, 2] (by decide)⟩
  rw [decide_eq_false hc4] at hfr
  refine wc_skip ?_
  exact ⟨1 + (pick x3 12), (by unfold mkRule; rw [if_neg hc4]), hfr.pick [1, 2, 3, 4], hst.select [0, 1, 2] (by decide)⟩
 rintro a w27 ⟨yy3, hyy3, hfr, hst⟩
 refine hK22 _ _ ?_
 refine wc_region ?_
 refine wlm hfr rfl fun a hfr => ?_
 refine wlv hfr ((v_add rfl rfl (by decide)).asi (m' := 4) rfl) fun a hfr => wla hfr rfl fun a hfr => ?_
 refine wl_nil ?_
 refine wr_succ ?_
 refine wc_seq_k fun K25 hK25 => ?_
 refine wc_seq_region fun K26 hK26 => ?_
 refine wlm hfr rfl fun a hfr => ?_
 refine wlv hfr ((v_lt rfl rfl).asb (b' := false) rfl) fun a hfr => ?_
 refine wl_nil (hK26 _ _ ?_)
 refine wc_cond_f hfr rfl ?_
 refine wc_exit ?_
 refine hK3 _ _ ?_
 refine wc_seq_region fun K27 hK27 => ?_
 refine wlv hfr (v_indexAddr (v := .pointer (some ⟨w2.heap.size, 0, none⟩)) rfl rfl (by kernel_rfl)) fun a hfr => ?_
 refine wlv hfr (v_load_blk1 (hst.get (k := 0) rfl) rfl (Try.isAgg3 _) rfl) fun a hfr => ?_
 refine wlv hfr (v_indexAddr (v := .pointer (some ⟨w2.heap.size, 1, none⟩)) rfl rfl (by kernel_rfl)) fun a hfr => ?_
 refine wlv hfr (v_load_blk1 (hst.get (k := 0) rfl) rfl (Try.isAgg3 _) rfl) fun a hfr => ?_
 refine wlv hfr (v_indexAddr (v := .pointer (some ⟨w2.heap.size, 2, none⟩)) rfl rfl (by kernel_rfl)) fun a hfr => ?_
 refine wlv hfr (v_load_blk1 (hst.get (k := 0) rfl) rfl (Try.isAgg3 _) rfl) fun a hfr => ?_
 refine wlv hfr (v_indexAddr (v := .pointer (some ⟨w2.heap.size, 3, none⟩)) rfl rfl (by kernel_rfl)) fun a hfr => ?_
 refine wlv hfr (v_load_blk1 (hst.get (k := 0) rfl) rfl (Try.isAgg3 _) rfl) fun a hfr => ?_
 refine wlv hfr (v_build (v := .agg #[iv yy0, iv yy1, iv yy2, iv yy3]) rfl (by kernel_rfl)) fun a hfr => ?_
 refine wl_sto 1 hfr hst [iv yy0, iv yy1, iv yy2, iv yy3] rfl (Try.sizeOf31 _) fun a w28 hfr hst => ?_
 refine wl_nil (hK27 _ _ ?_)
 have hfr : Fr 38 [(1, _), (2, _), (3, _), (7, _), (8, _), (4, _), (5, _), (6, _)] [] a := hfr.pick [1, 2, 3, 7, 8, 4, 5, 6]
 refine wc_ret ?_
 refine fin_ret hfr Try.results27 (resAre_cell rfl (res_all (hst.get (k := 1) rfl) (Try.isAgg31 _) (Try.sizeOf31 _)) resAre_nil) ?_
 subst hyy0; subst hyy1; subst hyy2; subst hyy3
 exact ⟨rfl, hst.ext⟩
end Go.Proofs.Ytnfnkohkcmkddaa
namespace Go.Proofs.Ytnfnkohkcmkddaa
open Go.RowKit Go.PW
set_option linter.unusedVariables false
set_option linter.unusedSimpArgs false
set_option maxRecDepth 4000
set_option maxHeartbeats 4000000 in
theorem made_ok (x0 x1 x2 x3 y0 y1 y2 y3 y4 y5 : Int) (xv : Value) (xs : List Tri) (w0 : World) (g0 : isI64 x0) (g1 : isI64 x1) (g2 : isI64 x2) (g3 : isI64 x3) (q0 : isI64 y0) (q1 : isI64 y1) (q2 : isI64 y2) (q3 : isI64 y3) (q4 : isI64 y4) (q5 : isI64 y5) (hxv : SlAt w0 xv 3 (xs.map Tri.cells)) (hfit : ∀ k, k < xs.length → (xs.getD k ⟨0, 0, 0⟩).fits) :
  Ret Try.prog 6 #[.agg #[iv x0, iv x1, iv x2, iv x3, iv y0, iv y1, iv y2, iv y3, iv y4, iv y5, xv]] w0 (MemR w0 (fun v : Value => .tuple #[(mkRul x0 x1 x2 x3).val, (mkClm y0 y1 y2 y3 y4 y5).val, v]) (fun v => [own v 39 3 ((mkL (mkRul x0 x1 x2 x3) (mkClm y0 y1 y2 y3 y4 y5) xs).map Evt.cells)]) (fun _ => True)) := by
 obtain ⟨rl, hrl⟩ : ∃ r, mkRul x0 x1 x2 x3 = r := ⟨_, rfl⟩
 obtain ⟨cl, hcl0⟩ : ∃ c, mkClm y0 y1 y2 y3 y4 y5 = c := ⟨_, rfl⟩
 rw [hrl, hcl0]
 have hr : areValid rl = true := hrl ▸ mkRul_valid x0 x1 x2 x3
 have hc : isClaim cl = true := hcl0 ▸ (mkClm_valid y0 y1 y2 y3 y4 y5).1
 have ha : cl.asked < 1000 := hcl0 ▸ (mkClm_valid y0 y1 y2 y3 y4 y5).2
 have hcl := isClaim_le hc
 have k0 := pick_lt y0 100000000 (by omega)
 have k1 := pick_lt y1 8 (by omega)
 have k2 := pick_lt y2 7 (by omega)
 have k3 := pick_lt y3 64 (by omega)
 have k4 := pick_lt y4 1000 (by omega)
 have k5 := pick_lt y5 2 (by omega)
 have gg0 := q0; have gg1 := q1; have gg2 := q2; have gg3 := q3; have gg4 := q4; have gg5 := q5
 unfold isI64 at gg0 gg1 gg2 gg3 gg4 gg5
 refine ret_of Try.func6 rfl Try.ntmps6 (lb rfl) fun a hfr => ?_
 replace hfr : Fr 124 [(0, _)] [] a := hfr
 replace hst : St No w0 [] w0 := St.init w0
 refine wc_seq_region fun K1 hK1 => ?_
 refine wl_box hfr hst rfl [iv x0, iv x1, iv x2, iv x3, iv y0, iv y1, iv y2, iv y3, iv y4, iv y5, xv] rfl ?_
 clear hfr hst
 intro a w1 hfr hst
 refine wl_alloc hfr hst (Try.zeroValue31 _) [iv 0, iv 0, iv 0, iv 0] rfl ?_
 clear hfr hst
 intro a w2 hfr hst
 refine wl_alloc hfr hst (Try.zeroValue33 _) [iv 0, iv 0, iv 0, iv 0, iv 0, .bool false] rfl ?_
 clear hfr hst
 intro a w3 hfr hst
 refine wla hfr rfl fun a hfr => ?_
 refine wl_nil (hK1 _ _ ?_)
 refine wc_seq_region fun K2 hK2 => ?_
 refine wlv hfr (v_fieldAddr (v := .pointer (some ⟨w0.heap.size, 0, none⟩)) rfl (by kernel_rfl)) fun a hfr => ?_
 refine wlv hfr (v_load_blk (ds := [iv x0, iv x1, iv x2, iv x3]) (hst.get (k := 2) rfl) rfl (Try.isAgg23 _) (Try.sizeOf23 _) rfl) fun a hfr => ?_
 refine wl_callp hfr hst Try.call27 rfl ((hrl ▸ madeRules_ok x0 x1 x2 x3 _ g0 g1 g2 g3)) ?_
 clear hfr hst
 intro a w4 hfr hst
 refine wl_alloc hfr hst (Try.zeroValue31 _) [iv 0, iv 0, iv 0, iv 0] rfl ?_
 clear hfr hst
 intro a w5 hfr hst
 refine wl_sto 0 hfr hst [iv rl.answer, iv rl.cooling, iv rl.settle, iv rl.reverse] rfl (Try.sizeOf31 _) ?_
 clear hfr hst
 intro a w6 hfr hst
 refine wl_nil (hK2 _ _ ?_)
 refine wc_seq_region fun K3 hK3 => ?_
 refine wlv hfr (v_fieldAddr (v := .pointer (some ⟨w0.heap.size, 4, none⟩)) rfl (by kernel_rfl)) fun a hfr => ?_
 refine wlv hfr (v_load_blk (ds := [iv y0, iv y1, iv y2, iv y3, iv y4, iv y5]) (hst.get (k := 3) rfl) rfl (Try.isAgg24 _) (Try.sizeOf24 _) rfl) fun a hfr => ?_
 refine wl_alloc hfr hst (Try.zeroValue24 _) [iv 0, iv 0, iv 0, iv 0, iv 0, iv 0] rfl ?_
 clear hfr hst
 intro a w7 hfr hst
 refine wl_sto 0 hfr hst [iv y0, iv y1, iv y2, iv y3, iv y4, iv y5] rfl (Try.sizeOf24 _) ?_
 clear hfr hst
 intro a w8 hfr hst
 refine wl_nil (hK3 _ _ ?_)
 replace hfr : Fr 124 [(1, _), (2, _), (3, _), (4, _), (5, _), (6, _)] [] a := hfr.pick [1, 2, 3, 4, 5, 6]
 refine wc_seq_k fun K4 hK4 => ?_
 refine wc_of_dr (dr_of_wd fun w9 hxz => ?_)
 replace hst := hst.grow hxz
 refine wd_sub (k := 0) 18 [16, 17] hfr ?_
 replace hfr : Fr 124 [(1, _), (2, _), (3, _), (4, _), (5, _), (6, _)] [] a := hfr.pick [1, 2, 3, 4, 5, 6]
 refine wc_phases' 18 [[], [0], [1], [], [3], [4], [], [6], [7], [], [9], [10], [], [12], [13], [14], [2, 5, 8, 11, 15], []] (fun i => match i with | 0 => pv (.pointer (some ⟨w6.heap.size, 0, none⟩)) | 1 => pv (iv y0) | 2 => pv (iv (pick y0 100000000)) | 3 => pv (.pointer (some ⟨w6.heap.size, 1, none⟩)) | 4 => pv (iv y1) | 5 => pv (iv (pick y1 8)) | 6 => pv (.pointer (some ⟨w6.heap.size, 3, none⟩)) | 7 => pv (iv y3) | 8 => pv (iv (pick y3 64)) | 9 => pv (.pointer (some ⟨w6.heap.size, 4, none⟩)) | 10 => pv (iv y4) | 11 => pv (iv (pick y4 1000)) | 12 => pv (.pointer (some ⟨w6.heap.size, 5, none⟩)) | 13 => pv (iv y5) | 14 => pv (iv (pick y5 2)) | 15 => pv (.bool (decide (pick y5 2 = 0))) | 16 => pv (.agg #[iv (pick y0 100000000), iv (pick y1 8), iv 0, iv (pick y3 64), iv (pick y4 1000), .bool (decide (pick y5 2 = 0))]) | 17 => pm (fun b : Nat => .pointer (some ⟨b, 0, none⟩)) (fun b => [blk b [iv 0, iv 0, iv 0, iv 0, iv 0, .bool false] 33]) (fun _ => True) | _ => fun _ _ => False) hfr hst (by kernel_rfl) (by kernel_rfl) ?_ ?_
 ·intro i hi
  match i, hi with
  | 0, _ =>
   intro w hst
   exact OpV.g (v_indexAddr (v := .pointer (some ⟨w6.heap.size, 0, none⟩)) rfl rfl (by kernel_rfl))
  | 1, _ =>
   rintro _ _ ⟨rfl, rfl⟩
   intro w hst
   exact OpV.g (v_load_blk1 (hst.get (k := 0) rfl) rfl (Try.isAgg3 _) rfl)
  | 2, _ =>
   rintro _ _ ⟨rfl, rfl⟩
   intro w hst
   exact g_callp Try.call28 rfl (pickr16_ok _ _ _ (by omega) (by omega) (by omega) (by omega))
  | 3, _ =>
   intro w hst
   exact OpV.g (v_indexAddr (v := .pointer (some ⟨w6.heap.size, 1, none⟩)) rfl rfl (by kernel_rfl))
  | 4, _ =>
   rintro _ _ ⟨rfl, rfl⟩
   intro w hst
   exact OpV.g (v_load_blk1 (hst.get (k := 0) rfl) rfl (Try.isAgg3 _) rfl)
  | 5, _ =>
   rintro _ _ ⟨rfl, rfl⟩
   intro w hst
   exact g_callp Try.call28 rfl (pickr16_ok _ _ _ (by omega) (by omega) (by omega) (by omega))
  | 6, _ =>
   intro w hst
   exact OpV.g (v_indexAddr (v := .pointer (some ⟨w6.heap.size, 3, none⟩)) rfl rfl (by kernel_rfl))
  | 7, _ =>
   rintro _ _ ⟨rfl, rfl⟩
   intro w hst
   exact OpV.g (v_load_blk1 (hst.get (k := 0) rfl) rfl (Try.isAgg3 _) rfl)
  | 8, _ =>
   rintro _ _ ⟨rfl, rfl⟩
   intro w hst
   exact g_callp Try.call28 rfl (pickr16_ok _ _ _ (by omega) (by omega) (by omega) (by omega))
  | 9, _ =>
   intro w hst
   exact OpV.g (v_indexAddr (v := .pointer (some ⟨w6.heap.size, 4, none⟩)) rfl rfl (by kernel_rfl))
  | 10, _ =>
   rintro _ _ ⟨rfl, rfl⟩
   intro w hst
   exact OpV.g (v_load_blk1 (hst.get (k := 0) rfl) rfl (Try.isAgg3 _) rfl)
  | 11, _ =>
   rintro _ _ ⟨rfl, rfl⟩
   intro w hst
   exact g_callp Try.call28 rfl (pickr16_ok _ _ _ (by omega) (by omega) (by omega) (by omega))
  | 12, _ =>
   intro w hst
   exact OpV.g (v_indexAddr (v := .pointer (some ⟨w6.heap.size, 5, none⟩)) rfl rfl (by kernel_rfl))
  | 13, _ =>
   rintro _ _ ⟨rfl, rfl⟩
   intro w hst
   exact OpV.g (v_load_blk1 (hst.get (k := 0) rfl) rfl (Try.isAgg3 _) rfl)
  | 14, _ =>
   rintro _ _ ⟨rfl, rfl⟩
   intro w hst
   exact g_callp Try.call28 rfl (pickr16_ok _ _ _ (by omega) (by omega) (by omega) (by omega))
  | 15, _ =>
   rintro _ _ ⟨rfl, rfl⟩
   intro w hst
   exact OpV.g (v_eq rfl rfl)
  | 16, _ =>
   rintro _ _ ⟨rfl, rfl⟩ _ _ ⟨rfl, rfl⟩ _ _ ⟨rfl, rfl⟩ _ _ ⟨rfl, rfl⟩ _ _ ⟨rfl, rfl⟩
   intro w hst
   exact OpV.g (v_build (v := .agg #[iv (pick y0 100000000), iv (pick y1 8), iv 0, iv (pick y3 64), iv (pick y4 1000), .bool (decide (pick y5 2 = 0))]) rfl (by kernel_rfl))
  | 17, _ =>
   intro w hst
   exact g_alloc (Try.zeroValue33 _) (cs := [iv 0, iv 0, iv 0, iv 0, iv 0, .bool false]) rfl
  | i + 18, h => exact absurd h (by omega)
 clear hfr hst
 rintro _ _ ⟨rfl, rfl⟩ _ _ ⟨rfl, rfl⟩ _ _ ⟨rfl, rfl⟩ _ _ ⟨rfl, rfl⟩ _ _ ⟨rfl, rfl⟩ _ _ ⟨rfl, rfl⟩ _ _ ⟨rfl, rfl⟩ _ _ ⟨rfl, rfl⟩ _ _ ⟨rfl, rfl⟩ _ _ ⟨rfl, rfl⟩ _ _ ⟨rfl, rfl⟩ _ _ ⟨rfl, rfl⟩ _ _ ⟨rfl, rfl⟩ _ _ ⟨rfl, rfl⟩ _ _ ⟨rfl, rfl⟩ _ _ ⟨rfl, rfl⟩ _ _ ⟨rfl, rfl⟩ _ _ ⟨b1, rfl, -, rfl⟩ a w10 hfr hst
 replace hfr : Fr 124 [(20, _), (21, _), (22, _), (23, _), (24, _), (25, _), (26, _), (27, _), (28, _), (29, _), (30, _), (31, _), (32, _), (33, _), (34, _), (35, _), (36, _), (7, _), (1, _), (2, _), (3, _), (4, _), (5, _), (6, _)] [] a := hfr
 replace hst : St No w0 [_, _, _, _, _, _] w10 := hst
 refine wl_nil ?_
 refine wd_lin (k := 18) 19 [18] ?_
 refine wl_sto 0 hfr hst [iv (pick y0 100000000), iv (pick y1 8), iv 0, iv (pick y3 64), iv (pick y4 1000), .bool (decide (pick y5 2 = 0))] rfl (Try.sizeOf33 _) ?_
 clear hfr hst
 intro a w11 hfr hst
 refine wl_nil ?_
 refine wd_end ?_
 refine hK4 _ _ ?_
 replace hfr : Fr 124 [(1, _), (2, _), (3, _), (4, _), (5, _), (6, _), (7, _)] [] a := hfr.pick [1, 2, 3, 4, 5, 6, 7]
 refine wc_seq_k fun K5 hK5 => ?_
 refine wc_of_dr (dr_of_wd fun w12 hxz => ?_)
 replace hst := hst.grow hxz
 refine wd_sub (k := 0) 6 [2, 5] hfr ?_
 replace hfr : Fr 124 [(1, _), (2, _), (3, _), (4, _), (5, _), (6, _), (7, _)] [] a := hfr.pick [1, 2, 3, 4, 5, 6, 7]
 refine wc_phases' 6 [[], [0], [1], [], [3], [4]] (fun i => match i with | 0 => pv (.pointer (some ⟨b1, 1, none⟩)) | 1 => pv (iv (pick y1 8)) | 2 => pv (iv ((pick y1 8) + 1)) | 3 => pv (.pointer (some ⟨w6.heap.size, 2, none⟩)) | 4 => pv (iv y2) | 5 => pv (iv (pick y2 7)) | _ => fun _ _ => False) hfr hst (by kernel_rfl) (by kernel_rfl) ?_ ?_
 ·intro i hi
  match i, hi with
  | 0, _ =>
   intro w hst
   exact OpV.g (v_fieldAddr (v := .pointer (some ⟨b1, 1, none⟩)) rfl (by kernel_rfl))
  | 1, _ =>
   rintro _ _ ⟨rfl, rfl⟩
   intro w hst
   exact OpV.g (v_load_blk1 (hst.get (k := 0) rfl) rfl (Try.isAgg3 _) rfl)
  | 2, _ =>
   rintro _ _ ⟨rfl, rfl⟩
   intro w hst
   exact OpV.g (v_add rfl rfl ⟨by omega, by omega⟩)
  | 3, _ =>
   intro w hst
   exact OpV.g (v_indexAddr (v := .pointer (some ⟨w6.heap.size, 2, none⟩)) rfl rfl (by kernel_rfl))
  | 4, _ =>
   rintro _ _ ⟨rfl, rfl⟩
   intro w hst
   exact OpV.g (v_load_blk1 (hst.get (k := 1) rfl) rfl (Try.isAgg3 _) rfl)
  | 5, _ =>
   rintro _ _ ⟨rfl, rfl⟩
   intro w hst
   exact g_callp Try.call28 rfl (pickr16_ok _ _ _ (by omega) (by omega) (by omega) (by omega))
 clear hfr hst
 rintro _ _ ⟨rfl, rfl⟩ _ _ ⟨rfl, rfl⟩ _ _ ⟨rfl, rfl⟩ _ _ ⟨rfl, rfl⟩ _ _ ⟨rfl, rfl⟩ _ _ ⟨rfl, rfl⟩ a w13 hfr hst
 replace hfr : Fr 124 [(37, _), (38, _), (39, _), (40, _), (41, _), (42, _), (1, _), (2, _), (3, _), (4, _), (5, _), (6, _), (7, _)] [] a := hfr
 replace hst : St No w0 [_, _, _, _, _, _] w13 := hst
 refine wl_nil ?_
 refine wd_lin (k := 6) 10 [9] ?_
 refine wlv hfr (v_add rfl rfl ⟨by omega, by omega⟩) fun a hfr => ?_
 refine wlv hfr (v_rem rfl rfl (by omega) (by omega)) fun a hfr => ?_
 refine wlv hfr (v_fieldAddr (v := .pointer (some ⟨b1, 2, none⟩)) rfl (by kernel_rfl)) fun a hfr => ?_
 refine wl_sto 0 hfr hst [iv (pick y0 100000000), iv (pick y1 8), iv ((((pick y1 8) + 1) + (pick y2 7)) % 8), iv (pick y3 64), iv (pick y4 1000), .bool (decide (pick y5 2 = 0))] rfl (Try.sizeOf3 _) ?_
 clear hfr hst
 intro a w14 hfr hst
 refine wl_nil ?_
 refine wd_end ?_
 refine hK5 _ _ ?_
 replace hfr : Fr 124 [(1, _), (2, _), (3, _), (4, _), (5, _), (7, _)] [] a := hfr.pick [1, 2, 3, 4, 5, 7]
 replace hst : St No w0 [_, _, _, _, _] w14 := hst.mask [true, false, true, true, true, true]
 replace hst : St No w0 [blk b1 [iv cl.number, iv cl.frm, iv cl.to, iv cl.holder, iv cl.asked, .bool cl.backed] 33, blk w4.heap.size [iv rl.answer, iv rl.cooling, iv rl.settle, iv rl.reverse] 31, blk w2.heap.size [iv 0, iv 0, iv 0, iv 0, iv 0, .bool false] 33, blk w1.heap.size [iv 0, iv 0, iv 0, iv 0] 31, blk w0.heap.size [iv x0, iv x1, iv x2, iv x3, iv y0, iv y1, iv y2, iv y3, iv y4, iv y5, xv] 26] w14 := by rw [← hcl0]; exact hst
 refine wc_seq_region fun K6 hK6 => ?_
 refine wla hfr rfl fun a hfr => ?_
 refine wl_nil (hK6 _ _ ?_)
 refine wc_seq_region fun K7 hK7 => ?_
 refine wlv hfr (v_fieldAddr (v := .pointer (some ⟨b1, 4, none⟩)) rfl (by kernel_rfl)) fun a hfr => ?_
 refine wlv hfr (v_load_blk1 (hst.get (k := 0) rfl) rfl (Try.isAgg3 _) rfl) fun a hfr => wla hfr rfl fun a hfr => ?_
 refine wl_nil (hK7 _ _ ?_)
 refine wc_seq_k fun K8 hK8 => ?_
 refine wc_seq_region fun K9 hK9 => ?_
 refine wla hfr rfl fun a hfr => ?_
 refine wl_nil (hK9 _ _ ?_)
 refine wc_block ?_
 replace hst : St No w0 (own (.slice none 0 0) 39 3 [] :: [blk b1 [iv cl.number, iv cl.frm, iv cl.to, iv cl.holder, iv cl.asked, .bool cl.backed] 33, blk w4.heap.size [iv rl.answer, iv rl.cooling, iv rl.settle, iv rl.reverse] 31, blk w2.heap.size [iv 0, iv 0, iv 0, iv 0, iv 0, .bool false] 33, blk w1.heap.size [iv 0, iv 0, iv 0, iv 0] 31, blk w0.heap.size [iv x0, iv x1, iv x2, iv x3, iv y0, iv y1, iv y2, iv y3, iv y4, iv y5, xv] 26]) w14 := hst.nil_own
 refine wc_loop (fun m a w => ∃ (k : Nat) (v : Value), m = 10 - k ∧ (k ≤ 10) ∧ (k ≤ xs.length) ∧ Fr 124 [(1, .pointer (some ⟨w0.heap.size, 0, none⟩)), (2, .pointer (some ⟨w1.heap.size, 0, none⟩)), (3, .pointer (some ⟨w2.heap.size, 0, none⟩)), (4, .slice none 0 0), (5, .pointer (some ⟨w4.heap.size, 0, none⟩)), (7, .pointer (some ⟨b1, 0, none⟩)), (10, iv (k : Int)), (8, v), (9, iv (lastAt cl.asked (mkN rl cl xs k) k))] [] a ∧ St No w0 [own v 39 3 ((mkN rl cl xs k).map Evt.cells), blk w0.heap.size [iv x0, iv x1, iv x2, iv x3, iv y0, iv y1, iv y2, iv y3, iv y4, iv y5, xv] 26, blk w1.heap.size [iv 0, iv 0, iv 0, iv 0] 31, blk w2.heap.size [iv 0, iv 0, iv 0, iv 0, iv 0, .bool false] 33, blk w4.heap.size [iv rl.answer, iv rl.cooling, iv rl.settle, iv rl.reverse] 31, blk b1 [iv cl.number, iv cl.frm, iv cl.to, iv cl.holder, iv cl.asked, .bool cl.backed] 33] w) _ ⟨0, .slice none 0 0, rfl, (by omega), (by omega), hfr.pick [1, 2, 3, 4, 5, 7, 10, 8, 9], hst.select [0, 5, 4, 3, 2, 1] (by decide)⟩ ?_
 rintro _ a w15 ⟨k, v, rfl, hk10, hkx, hfr, hst⟩
 refine wc_seq_k fun K10 hK10 => ?_
 refine wc_seq_k fun K11 hK11 => ?_
 refine wc_meet (fun a w => ∃ (bx : Bool), (bx = decide (k < xs.length ∧ k < 10)) ∧ Fr 124 [(1, .pointer (some ⟨w0.heap.size, 0, none⟩)), (2, .pointer (some ⟨w1.heap.size, 0, none⟩)), (3, .pointer (some ⟨w2.heap.size, 0, none⟩)), (4, .slice none 0 0), (5, .pointer (some ⟨w4.heap.size, 0, none⟩)), (7, .pointer (some ⟨b1, 0, none⟩)), (10, iv (k : Int)), (8, v), (9, iv (lastAt cl.asked (mkN rl cl xs k) k)), (56, .bool bx)] [] a ∧ St No w0 [own v 39 3 ((mkN rl cl xs k).map Evt.cells), blk w0.heap.size [iv x0, iv x1, iv x2, iv x3, iv y0, iv y1, iv y2, iv y3, iv y4, iv y5, xv] 26, blk w1.heap.size [iv 0, iv 0, iv 0, iv 0] 31, blk w2.heap.size [iv 0, iv 0, iv 0, iv 0, iv 0, .bool false] 33, blk w4.heap.size [iv rl.answer, iv rl.cooling, iv rl.settle, iv rl.reverse] 31, blk b1 [iv cl.number, iv cl.frm, iv cl.to, iv cl.holder, iv cl.asked, .bool cl.backed] 33] w) ?_ ?_
 ·refine wc_region ?_
  refine wlm hfr rfl fun a hfr => ?_
  refine wlv hfr (v_fieldAddr (v := .pointer (some ⟨w0.heap.size, 10, none⟩)) rfl (by kernel_rfl)) fun a hfr => ?_
  refine wlv hfr (v_load_blk1 (hst.get (k := 1) rfl) rfl (Try.isAgg22 _) rfl) fun a hfr => ?_
  refine wlv hfr ((v_len_sl (sT := 22) (hst.arg hxv) rfl rfl (Try.runUnderlying22 _)).asi (m' := (xs.length : Int)) (by simp)) fun a hfr => ?_
  refine wlv hfr (v_lt rfl rfl) fun a hfr => wlm hfr rfl fun a hfr => ?_
  rcases Decidable.em ((k : Int) < (xs.length : Int)) with hb2 | hb2
  ·rw [decide_eq_true hb2] at hfr
   have hkl : k < xs.length := by omega
   refine wly hfr (v_move rfl) fun a hfr => wly hfr (v_lt rfl rfl) fun a hfr => ?_
   refine wlv hfr (v_pick_t rfl rfl) fun a hfr => ?_
   refine wl_nil ?_
   exact ⟨(decide ((k : Int) < 10)), (by rw [Bool.eq_iff_iff, decide_eq_true_eq, decide_eq_true_eq]; omega), hfr.pick [1, 2, 3, 4, 5, 7, 10, 8, 9, 56], hst.select [0, 1, 2, 3, 4, 5] (by decide)⟩
  rw [decide_eq_false hb2] at hfr
  refine wln hfr fun a hfr => ?_
  refine wln hfr fun a hfr => ?_
  refine wlv hfr (v_pick_f rfl rfl) fun a hfr => ?_
  refine wl_nil ?_
  exact ⟨(false), (by rw [eq_comm, decide_eq_false_iff_not]; omega), hfr.pick [1, 2, 3, 4, 5, 7, 10, 8, 9, 56], hst.select [0, 1, 2, 3, 4, 5] (by decide)⟩
 rintro a w16 ⟨bx, hbx, hfr, hst⟩
 refine hK11 _ _ ?_
 refine wc_cond hfr rfl (fun hc3 => ?_) (fun hc3 => ?_)
 ·rw [hbx] at hc3
  simp only [decide_eq_true_eq] at hc3
  have hkl : k < xs.length := by omega
  obtain ⟨hvk, hl1, hl2⟩ := mkN_valid hr hc ha xs k (by omega)
  obtain ⟨la, hla⟩ : ∃ la, lastAt cl.asked (mkN rl cl xs k) k = la := ⟨_, rfl⟩
  obtain ⟨nw, hnw⟩ : ∃ nw, outR rl cl (mkN rl cl xs k) la = nw := ⟨_, rfl⟩
  rw [hla] at hfr hl1 hl2
  obtain ⟨hn1, hn2, _⟩ := outR_next hvk hl1
  rw [hnw] at hn1 hn2
  obtain ⟨z, hz⟩ : ∃ z, xs.getD k ⟨0, 0, 0⟩ = z := ⟨_, rfl⟩
  have hzf : z.fits := hz ▸ hfit k hkl
  obtain ⟨hza, hzb, hzc⟩ := hzf
  have hzq := tdiv_fits z.b 4 (by omega) hzb
  unfold isI64 at hza hzb hzc hzq
  have hin : isIn la 0 20000000 = true := by simp [isIn]; omega
  have pk1 := pick_lt z.a 6 (by omega)
  have pk2 := pick_lt z.b 4 (by omega)
  have pk3 := pick_lt z.b 3 (by omega)
  have pk4 := pick_lt z.c 4 (by omega)
  refine wc_skip ?_
  refine hK10 _ _ ?_
  refine wc_seq_k fun K12 hK12 => ?_
  refine wc_block ?_
  refine wc_seq_region fun K13 hK13 => ?_
  refine wlv hfr (v_fieldAddr (v := .pointer (some ⟨w0.heap.size, 10, none⟩)) rfl (by kernel_rfl)) fun a hfr => ?_
  refine wlv hfr (v_load_blk1 (hst.get (k := 1) rfl) rfl (Try.isAgg22 _) rfl) fun a hfr => wlm hfr rfl fun a hfr => ?_
  refine wlv hfr ((v_indexAddr_sl (i := (k : Int)) (sT := 22) (hst.arg hxv) rfl rfl (Try.runUnderlying22 _) (Try.sizeOf71 _) (by omega) (by simpa using hkl)).as (v' := slAddr xv (k * 3)) rfl) fun a hfr => ?_
  refine wlv hfr ((v_load_sl (hst.arg hxv) (i := k) (by simpa using hkl) rfl (Try.isAgg71 _) (Try.sizeOf71 _)).as (v' := .agg #[iv z.a, iv z.b, iv z.c]) (by rw [← hz]; show _ = Value.agg (xs.getD k ⟨0, 0, 0⟩).cells.toArray; simp [hkl])) fun a hfr => ?_
  refine wl_alloc hfr hst (Try.zeroValue71 _) [iv 0, iv 0, iv 0] rfl ?_
  clear hfr hst
  intro a w17 hfr hst
  refine wl_sto 0 hfr hst [iv z.a, iv z.b, iv z.c] rfl (Try.sizeOf71 _) ?_
  clear hfr hst
  intro a w18 hfr hst
  refine wl_nil (hK13 _ _ ?_)
  replace hfr : Fr 124 [(1, _), (2, _), (3, _), (4, _), (5, _), (7, _), (10, _), (8, _), (9, _), (11, _)] [] a := hfr.pick [1, 2, 3, 4, 5, 7, 10, 8, 9, 11]
  refine wc_seq_k fun K14 hK14 => ?_
  refine wc_of_dr (dr_of_wd fun w19 hxz => ?_)
  replace hst := hst.grow hxz
  refine wd_sub (k := 0) 11 [9, 10] hfr ?_
  replace hfr : Fr 124 [(1, _), (2, _), (3, _), (4, _), (5, _), (7, _), (10, _), (8, _), (9, _), (11, _)] [] a := hfr.pick [1, 2, 3, 4, 5, 7, 10, 8, 9, 11]
  refine wc_phases' 11 [[], [0], [1], [2], [], [], [5], [6], [4, 7], [3, 8], []] (fun i => match i with | 0 => pv (.pointer (some ⟨w16.heap.size, 0, none⟩)) | 1 => pv (iv z.a) | 2 => pv (iv (pick z.a 6)) | 3 => pv (iv (1 + (pick z.a 6))) | 4 => pv (iv la) | 5 => pv (.pointer (some ⟨w16.heap.size, 1, none⟩)) | 6 => pv (iv z.b) | 7 => pv (iv (pick z.b 4)) | 8 => pv (iv (la + (pick z.b 4))) | 9 => pv (.agg #[iv (1 + (pick z.a 6)), iv (la + (pick z.b 4)), iv 0]) | 10 => pm (fun b : Nat => .pointer (some ⟨b, 0, none⟩)) (fun b => [blk b [iv 0, iv 0, iv 0] 39]) (fun _ => True) | _ => fun _ _ => False) hfr hst (by kernel_rfl) (by kernel_rfl) ?_ ?_
  ·intro i hi
   match i, hi with
   | 0, _ =>
    intro w hst
    exact OpV.g (v_indexAddr (v := .pointer (some ⟨w16.heap.size, 0, none⟩)) rfl rfl (by kernel_rfl))
   | 1, _ =>
    rintro _ _ ⟨rfl, rfl⟩
    intro w hst
    exact OpV.g (v_load_blk1 (hst.get (k := 0) rfl) rfl (Try.isAgg3 _) rfl)
   | 2, _ =>
    rintro _ _ ⟨rfl, rfl⟩
    intro w hst
    exact g_callp Try.call28 rfl (pickr16_ok _ _ _ (by omega) (by omega) (by omega) (by omega))
   | 3, _ =>
    rintro _ _ ⟨rfl, rfl⟩
    intro w hst
    exact OpV.g (v_add rfl rfl ⟨by omega, by omega⟩)
   | 4, _ =>
    intro w hst
    exact OpV.g (v_move rfl)
   | 5, _ =>
    intro w hst
    exact OpV.g (v_indexAddr (v := .pointer (some ⟨w16.heap.size, 1, none⟩)) rfl rfl (by kernel_rfl))
   | 6, _ =>
    rintro _ _ ⟨rfl, rfl⟩
    intro w hst
    exact OpV.g (v_load_blk1 (hst.get (k := 0) rfl) rfl (Try.isAgg3 _) rfl)
   | 7, _ =>
    rintro _ _ ⟨rfl, rfl⟩
    intro w hst
    exact g_callp Try.call28 rfl (pickr16_ok _ _ _ (by omega) (by omega) (by omega) (by omega))
   | 8, _ =>
    rintro _ _ ⟨rfl, rfl⟩ _ _ ⟨rfl, rfl⟩
    intro w hst
    exact OpV.g (v_add rfl rfl ⟨by omega, by omega⟩)
   | 9, _ =>
    rintro _ _ ⟨rfl, rfl⟩ _ _ ⟨rfl, rfl⟩
    intro w hst
    exact OpV.g (v_build (v := .agg #[iv (1 + (pick z.a 6)), iv (la + (pick z.b 4)), iv 0]) rfl (by kernel_rfl))
   | 10, _ =>
    intro w hst
    exact g_alloc (Try.zeroValue39 _) (cs := [iv 0, iv 0, iv 0]) rfl
  clear hfr hst
  rintro _ _ ⟨rfl, rfl⟩ _ _ ⟨rfl, rfl⟩ _ _ ⟨rfl, rfl⟩ _ _ ⟨rfl, rfl⟩ _ _ ⟨rfl, rfl⟩ _ _ ⟨rfl, rfl⟩ _ _ ⟨rfl, rfl⟩ _ _ ⟨rfl, rfl⟩ _ _ ⟨rfl, rfl⟩ _ _ ⟨rfl, rfl⟩ _ _ ⟨b4, rfl, -, rfl⟩ a w20 hfr hst
  replace hfr : Fr 124 [(64, _), (65, _), (66, _), (67, _), (68, _), (69, _), (70, _), (71, _), (72, _), (73, _), (12, _), (1, _), (2, _), (3, _), (4, _), (5, _), (7, _), (10, _), (8, _), (9, _), (11, _)] [] a := hfr
  replace hst : St No w0 [_, _, _, _, _, _, _, _] w20 := hst
  refine wl_nil ?_
  refine wd_lin (k := 11) 12 [11] ?_
  refine wl_sto 0 hfr hst [iv (1 + (pick z.a 6)), iv (la + (pick z.b 4)), iv 0] rfl (Try.sizeOf39 _) ?_
  clear hfr hst
  intro a w21 hfr hst
  refine wl_nil ?_
  refine wd_end ?_
  refine hK14 _ _ ?_
  replace hfr : Fr 124 [(1, _), (2, _), (3, _), (4, _), (5, _), (7, _), (10, _), (8, _), (9, _), (11, _), (12, _)] [] a := hfr.pick [1, 2, 3, 4, 5, 7, 10, 8, 9, 11, 12]
  refine wc_seq_k fun K15 hK15 => ?_
  refine wc_seq_region fun K16 hK16 => ?_
  refine wlv hfr (v_load_all (hst.get (k := 6) rfl) rfl (Try.isAgg31 _) (Try.sizeOf31 _)) fun a hfr => ?_
  refine wlv hfr (v_load_all (hst.get (k := 7) rfl) rfl (Try.isAgg33 _) (Try.sizeOf33 _)) fun a hfr => wlm hfr rfl fun a hfr => wlm hfr rfl fun a hfr => ?_
  refine wl_callp hfr hst Try.call29 rfl ((hnw ▸ routcome_ok rl cl v (mkN rl cl xs k) la _ (hst.ownAt (i := 2) rfl) hvk hin)) ?_
  clear hfr hst
  intro a w22 hfr hst
  refine wlm hfr rfl fun a hfr => ?_
  refine wlv hfr (v_extract rfl rfl) fun a hfr => ?_
  refine wlv hfr (v_extract rfl rfl) fun a hfr => ?_
  refine wl_alloc hfr hst (Try.zeroValue54 _) [iv 0, iv 0, iv 0] rfl ?_
  clear hfr hst
  intro a w23 hfr hst
  refine wl_sto 0 hfr hst [iv nw.state, iv nw.since, iv nw.next] rfl (Try.sizeOf54 _) ?_
  clear hfr hst
  intro a w24 hfr hst
  refine wla hfr rfl fun a hfr => ?_
  refine wl_nil (hK16 _ _ ?_)
  replace hfr : Fr 124 [(1, _), (2, _), (3, _), (4, _), (5, _), (7, _), (10, _), (8, _), (9, _), (11, _), (12, _), (13, _)] [] a := hfr.pick [1, 2, 3, 4, 5, 7, 10, 8, 9, 11, 12, 13]
  refine wc_seq_k fun K17 hK17 => ?_
  refine wc_meet (fun a w => ∃ (bb : Bool), (bb = decide (0 < nw.next ∧ 0 < pick (z.b.tdiv 4) 3)) ∧ Fr 124 [(1, .pointer (some ⟨w0.heap.size, 0, none⟩)), (2, .pointer (some ⟨w1.heap.size, 0, none⟩)), (3, .pointer (some ⟨w2.heap.size, 0, none⟩)), (4, .slice none 0 0), (5, .pointer (some ⟨w4.heap.size, 0, none⟩)), (7, .pointer (some ⟨b1, 0, none⟩)), (10, iv (k : Int)), (8, v), (9, iv la), (11, .pointer (some ⟨w16.heap.size, 0, none⟩)), (12, .pointer (some ⟨b4, 0, none⟩)), (13, .pointer (some ⟨w22.heap.size, 0, none⟩)), (91, .bool bb)] [] a ∧ St No w0 [blk w22.heap.size [iv nw.state, iv nw.since, iv nw.next] 54, blk b4 [iv (1 + (pick z.a 6)), iv (la + (pick z.b 4)), iv 0] 39, blk w16.heap.size [iv z.a, iv z.b, iv z.c] 71, own v 39 3 ((mkN rl cl xs k).map Evt.cells), blk w0.heap.size [iv x0, iv x1, iv x2, iv x3, iv y0, iv y1, iv y2, iv y3, iv y4, iv y5, xv] 26, blk w1.heap.size [iv 0, iv 0, iv 0, iv 0] 31, blk w2.heap.size [iv 0, iv 0, iv 0, iv 0, iv 0, .bool false] 33, blk w4.heap.size [iv rl.answer, iv rl.cooling, iv rl.settle, iv rl.reverse] 31, blk b1 [iv cl.number, iv cl.frm, iv cl.to, iv cl.holder, iv cl.asked, .bool cl.backed] 33] w) ?_ ?_
  ·refine wc_region ?_
   refine wlv hfr (v_fieldAddr (v := .pointer (some ⟨w22.heap.size, 2, none⟩)) rfl (by kernel_rfl)) fun a hfr => ?_
   refine wlv hfr (v_load_blk1 (hst.get (k := 0) rfl) rfl (Try.isAgg3 _) rfl) fun a hfr => ?_
   refine wlv hfr (v_gt rfl rfl) fun a hfr => wlm hfr rfl fun a hfr => ?_
   rcases Decidable.em (0 < nw.next) with hb5 | hb5
   ·rw [decide_eq_true hb5] at hfr
    refine wly hfr (v_indexAddr (v := .pointer (some ⟨w16.heap.size, 1, none⟩)) rfl rfl (by kernel_rfl)) fun a hfr => wly hfr (v_load_blk1 (hst.get (k := 2) rfl) rfl (Try.isAgg3 _) rfl) fun a hfr => wly hfr (v_quo' rfl rfl (by omega) ⟨by omega, by omega⟩) fun a hfr => ?_
    refine wl_callpy hfr hst Try.call28 rfl (pickr16_ok _ _ _ (by omega) (by omega) (by omega) (by omega)) ?_
    clear hfr hst
    intro a w25 hfr hst
    refine wly hfr (v_gt rfl rfl) fun a hfr => ?_
    refine wlv hfr (v_pick_t rfl rfl) fun a hfr => ?_
    refine wl_nil ?_
    exact ⟨(decide (0 < pick (z.b.tdiv 4) 3)), (by rw [Bool.eq_iff_iff, decide_eq_true_eq, decide_eq_true_eq]; omega), hfr.pick [1, 2, 3, 4, 5, 7, 10, 8, 9, 11, 12, 13, 91], hst.select [0, 1, 2, 3, 4, 5, 6, 7, 8] (by decide)⟩
   rw [decide_eq_false hb5] at hfr
   refine wln hfr fun a hfr => ?_
   refine wln hfr fun a hfr => ?_
   refine wln hfr fun a hfr => ?_
   refine wln hfr fun a hfr => ?_
   refine wln hfr fun a hfr => ?_
   refine wlv hfr (v_pick_f rfl rfl) fun a hfr => ?_
   refine wl_nil ?_
   exact ⟨(false), (by rw [eq_comm, decide_eq_false_iff_not]; omega), hfr.pick [1, 2, 3, 4, 5, 7, 10, 8, 9, 11, 12, 13, 91], hst.select [0, 1, 2, 3, 4, 5, 6, 7, 8] (by decide)⟩
  rintro a w26 ⟨bb, hbb, hfr, hst⟩
  refine hK17 _ _ ?_
  refine wc_meet (fun a w => ∃ (ta : Int), (ta = if 0 < nw.next ∧ 0 < pick (z.b.tdiv 4) 3 then max la ((nw.next - 1) + (pick z.b 3)) else la + (pick z.b 4)) ∧ Fr 124 [(1, .pointer (some ⟨w0.heap.size, 0, none⟩)), (2, .pointer (some ⟨w1.heap.size, 0, none⟩)), (3, .pointer (some ⟨w2.heap.size, 0, none⟩)), (4, .slice none 0 0), (5, .pointer (some ⟨w4.heap.size, 0, none⟩)), (7, .pointer (some ⟨b1, 0, none⟩)), (10, iv (k : Int)), (8, v), (11, .pointer (some ⟨w16.heap.size, 0, none⟩)), (12, .pointer (some ⟨b4, 0, none⟩))] [] a ∧ St No w0 [blk w22.heap.size [iv nw.state, iv nw.since, iv nw.next] 54, blk b4 [iv (1 + (pick z.a 6)), iv ta, iv 0] 39, blk w16.heap.size [iv z.a, iv z.b, iv z.c] 71, own v 39 3 ((mkN rl cl xs k).map Evt.cells), blk w0.heap.size [iv x0, iv x1, iv x2, iv x3, iv y0, iv y1, iv y2, iv y3, iv y4, iv y5, xv] 26, blk w1.heap.size [iv 0, iv 0, iv 0, iv 0] 31, blk w2.heap.size [iv 0, iv 0, iv 0, iv 0, iv 0, .bool false] 33, blk w4.heap.size [iv rl.answer, iv rl.cooling, iv rl.settle, iv rl.reverse] 31, blk b1 [iv cl.number, iv cl.frm, iv cl.to, iv cl.holder, iv cl.asked, .bool cl.backed] 33] w) ?_ ?_
  ·refine wc_cond hfr rfl (fun hc6 => ?_) (fun hc6 => ?_)
   ·rw [hbb] at hc6
    simp only [decide_eq_true_eq, decide_eq_false_iff_not] at hc6
    refine wc_of_dr (dr_of_wd fun w27 hxz => ?_)
    replace hst := hst.grow hxz
    refine wd_sub (k := 0) 8 [0, 7] hfr ?_
    replace hfr : Fr 124 [(1, _), (2, _), (3, _), (4, _), (5, _), (7, _), (10, _), (8, _), (9, _), (11, _), (12, _), (13, _)] [] a := hfr.pick [1, 2, 3, 4, 5, 7, 10, 8, 9, 11, 12, 13]
    refine wc_phases' 8 [[], [], [1], [2], [], [4], [5], [3, 6]] (fun i => match i with | 0 => pv (iv la) | 1 => pv (.pointer (some ⟨w22.heap.size, 2, none⟩)) | 2 => pv (iv nw.next) | 3 => pv (iv (nw.next - 1)) | 4 => pv (.pointer (some ⟨w16.heap.size, 1, none⟩)) | 5 => pv (iv z.b) | 6 => pv (iv (pick z.b 3)) | 7 => pv (iv ((nw.next - 1) + (pick z.b 3))) | _ => fun _ _ => False) hfr hst (by kernel_rfl) (by kernel_rfl) ?_ ?_
    ·intro i hi
     match i, hi with
     | 0, _ =>
      intro w hst
      exact OpV.g (v_move rfl)
     | 1, _ =>
      intro w hst
      exact OpV.g (v_fieldAddr (v := .pointer (some ⟨w22.heap.size, 2, none⟩)) rfl (by kernel_rfl))
     | 2, _ =>
      rintro _ _ ⟨rfl, rfl⟩
      intro w hst
      exact OpV.g (v_load_blk1 (hst.get (k := 0) rfl) rfl (Try.isAgg3 _) rfl)
     | 3, _ =>
      rintro _ _ ⟨rfl, rfl⟩
      intro w hst
      exact OpV.g (v_sub rfl rfl ⟨by omega, by omega⟩)
     | 4, _ =>
      intro w hst
      exact OpV.g (v_indexAddr (v := .pointer (some ⟨w16.heap.size, 1, none⟩)) rfl rfl (by kernel_rfl))
     | 5, _ =>
      rintro _ _ ⟨rfl, rfl⟩
      intro w hst
      exact OpV.g (v_load_blk1 (hst.get (k := 2) rfl) rfl (Try.isAgg3 _) rfl)
     | 6, _ =>
      rintro _ _ ⟨rfl, rfl⟩
      intro w hst
      exact g_callp Try.call28 rfl (pickr16_ok _ _ _ (by omega) (by omega) (by omega) (by omega))
     | 7, _ =>
      rintro _ _ ⟨rfl, rfl⟩ _ _ ⟨rfl, rfl⟩
      intro w hst
      exact OpV.g (v_add rfl rfl ⟨by omega, by omega⟩)
    clear hfr hst
    rintro _ _ ⟨rfl, rfl⟩ _ _ ⟨rfl, rfl⟩ _ _ ⟨rfl, rfl⟩ _ _ ⟨rfl, rfl⟩ _ _ ⟨rfl, rfl⟩ _ _ ⟨rfl, rfl⟩ _ _ ⟨rfl, rfl⟩ _ _ ⟨rfl, rfl⟩ a w28 hfr hst
    replace hfr : Fr 124 [(92, _), (93, _), (94, _), (95, _), (96, _), (97, _), (98, _), (99, _), (1, _), (2, _), (3, _), (4, _), (5, _), (7, _), (10, _), (8, _), (9, _), (11, _), (12, _), (13, _)] [] a := hfr
    replace hst : St No w0 [_, _, _, _, _, _, _, _, _] w28 := hst
    refine wl_nil ?_
    refine wd_lin (k := 8) 11 [10] ?_
    refine wlv hfr (v_max2 rfl rfl) fun a hfr => ?_
    refine wlv hfr (v_fieldAddr (v := .pointer (some ⟨b4, 1, none⟩)) rfl (by kernel_rfl)) fun a hfr => ?_
    refine wl_sto 1 hfr hst [iv (1 + (pick z.a 6)), iv (max la ((nw.next - 1) + (pick z.b 3))), iv 0] rfl (Try.sizeOf3 _) ?_
    clear hfr hst
    intro a w29 hfr hst
    refine wl_nil ?_
    refine wd_end ?_
    exact ⟨max la ((nw.next - 1) + (pick z.b 3)), (by rw [if_pos (by omega)]), hfr.pick [1, 2, 3, 4, 5, 7, 10, 8, 11, 12], hst.select [0, 1, 2, 3, 4, 5, 6, 7, 8] (by decide)⟩
   rw [hbb] at hc6
   simp only [decide_eq_true_eq, decide_eq_false_iff_not] at hc6
   refine wc_skip ?_
   exact ⟨la + (pick z.b 4), (by rw [if_neg (by omega)]), hfr.pick [1, 2, 3, 4, 5, 7, 10, 8, 11, 12], hst.select [0, 1, 2, 3, 4, 5, 6, 7, 8] (by decide)⟩
  rintro a w30 ⟨ta, hta, hfr, hst⟩
  refine hK15 _ _ ?_
  refine wc_seq_k fun K18 hK18 => ?_
  refine wc_seq_k fun K19 hK19 => ?_
  refine wc_meet (fun a w => ∃ (bk : Bool), (bk = decide (1 + pick z.a 6 = 2 ∨ 1 + pick z.a 6 = 6)) ∧ Fr 124 [(1, .pointer (some ⟨w0.heap.size, 0, none⟩)), (2, .pointer (some ⟨w1.heap.size, 0, none⟩)), (3, .pointer (some ⟨w2.heap.size, 0, none⟩)), (4, .slice none 0 0), (5, .pointer (some ⟨w4.heap.size, 0, none⟩)), (7, .pointer (some ⟨b1, 0, none⟩)), (10, iv (k : Int)), (8, v), (11, .pointer (some ⟨w16.heap.size, 0, none⟩)), (12, .pointer (some ⟨b4, 0, none⟩)), (109, .bool bk)] [] a ∧ St No w0 [blk w22.heap.size [iv nw.state, iv nw.since, iv nw.next] 54, blk b4 [iv (1 + (pick z.a 6)), iv ta, iv 0] 39, blk w16.heap.size [iv z.a, iv z.b, iv z.c] 71, own v 39 3 ((mkN rl cl xs k).map Evt.cells), blk w0.heap.size [iv x0, iv x1, iv x2, iv x3, iv y0, iv y1, iv y2, iv y3, iv y4, iv y5, xv] 26, blk w1.heap.size [iv 0, iv 0, iv 0, iv 0] 31, blk w2.heap.size [iv 0, iv 0, iv 0, iv 0, iv 0, .bool false] 33, blk w4.heap.size [iv rl.answer, iv rl.cooling, iv rl.settle, iv rl.reverse] 31, blk b1 [iv cl.number, iv cl.frm, iv cl.to, iv cl.holder, iv cl.asked, .bool cl.backed] 33] w) ?_ ?_
  ·refine wc_region ?_
   refine wlv hfr (v_fieldAddr (v := .pointer (some ⟨b4, 0, none⟩)) rfl (by kernel_rfl)) fun a hfr => ?_
   refine wlv hfr (v_load_blk1 (hst.get (k := 1) rfl) rfl (Try.isAgg3 _) rfl) fun a hfr => ?_
   refine wlv hfr (v_eq rfl rfl) fun a hfr => wlm hfr rfl fun a hfr => ?_
   rcases Decidable.em (1 + (pick z.a 6) = 2) with hb7 | hb7
   ·rw [decide_eq_true hb7] at hfr
    refine wln hfr fun a hfr => ?_
    refine wln hfr fun a hfr => ?_
    refine wln hfr fun a hfr => ?_
    refine wlv hfr (v_pick_t rfl rfl) fun a hfr => ?_
    refine wl_nil ?_
    exact ⟨(true), (by rw [eq_comm, decide_eq_true_eq]; omega), hfr.pick [1, 2, 3, 4, 5, 7, 10, 8, 11, 12, 109], hst.select [0, 1, 2, 3, 4, 5, 6, 7, 8] (by decide)⟩
   rw [decide_eq_false hb7] at hfr
   refine wly hfr (v_fieldAddr (v := .pointer (some ⟨b4, 0, none⟩)) rfl (by kernel_rfl)) fun a hfr => wly hfr (v_load_blk1 (hst.get (k := 1) rfl) rfl (Try.isAgg3 _) rfl) fun a hfr => wly hfr (v_eq rfl rfl) fun a hfr => ?_
   refine wlv hfr (v_pick_f rfl rfl) fun a hfr => ?_
   refine wl_nil ?_
   exact ⟨(decide (1 + (pick z.a 6) = 6)), (by rw [Bool.eq_iff_iff, decide_eq_true_eq, decide_eq_true_eq]; omega), hfr.pick [1, 2, 3, 4, 5, 7, 10, 8, 11, 12, 109], hst.select [0, 1, 2, 3, 4, 5, 6, 7, 8] (by decide)⟩
  rintro a w31 ⟨bk, hbk, hfr, hst⟩
  refine hK19 _ _ ?_
  refine wc_meet (fun a w => ∃ (tr : Int), (tr = if 1 + pick z.a 6 = 2 ∨ 1 + pick z.a 6 = 6 then 1 + (pick z.c 4) else 0) ∧ Fr 124 [(1, .pointer (some ⟨w0.heap.size, 0, none⟩)), (2, .pointer (some ⟨w1.heap.size, 0, none⟩)), (3, .pointer (some ⟨w2.heap.size, 0, none⟩)), (4, .slice none 0 0), (5, .pointer (some ⟨w4.heap.size, 0, none⟩)), (7, .pointer (some ⟨b1, 0, none⟩)), (10, iv (k : Int)), (8, v), (12, .pointer (some ⟨b4, 0, none⟩))] [] a ∧ St No w0 [blk w22.heap.size [iv nw.state, iv nw.since, iv nw.next] 54, blk b4 [iv (1 + (pick z.a 6)), iv ta, iv tr] 39, blk w16.heap.size [iv z.a, iv z.b, iv z.c] 71, own v 39 3 ((mkN rl cl xs k).map Evt.cells), blk w0.heap.size [iv x0, iv x1, iv x2, iv x3, iv y0, iv y1, iv y2, iv y3, iv y4, iv y5, xv] 26, blk w1.heap.size [iv 0, iv 0, iv 0, iv 0] 31, blk w2.heap.size [iv 0, iv 0, iv 0, iv 0, iv 0, .bool false] 33, blk w4.heap.size [iv rl.answer, iv rl.cooling, iv rl.settle, iv rl.reverse] 31, blk b1 [iv cl.number, iv cl.frm, iv cl.to, iv cl.holder, iv cl.asked, .bool cl.backed] 33] w) ?_ ?_
  ·refine wc_cond hfr rfl (fun hc8 => ?_) (fun hc8 => ?_)
   ·rw [hbk] at hc8
    simp only [decide_eq_true_eq, decide_eq_false_iff_not] at hc8
    refine wc_region ?_
    refine wlv hfr (v_indexAddr (v := .pointer (some ⟨w16.heap.size, 2, none⟩)) rfl rfl (by kernel_rfl)) fun a hfr => ?_
    refine wlv hfr (v_load_blk1 (hst.get (k := 2) rfl) rfl (Try.isAgg3 _) rfl) fun a hfr => ?_
    refine wl_callp hfr hst Try.call28 rfl (pickr16_ok _ _ _ (by omega) (by omega) (by omega) (by omega)) ?_
    clear hfr hst
    intro a w32 hfr hst
    refine wlv hfr (v_add rfl rfl ⟨by omega, by omega⟩) fun a hfr => ?_
    refine wlv hfr (v_fieldAddr (v := .pointer (some ⟨b4, 2, none⟩)) rfl (by kernel_rfl)) fun a hfr => ?_
    refine wl_sto 1 hfr hst [iv (1 + (pick z.a 6)), iv ta, iv (1 + (pick z.c 4))] rfl (Try.sizeOf3 _) ?_
    clear hfr hst
    intro a w33 hfr hst
    refine wl_nil ?_
    exact ⟨1 + (pick z.c 4), (by rw [if_pos (by omega)]), hfr.pick [1, 2, 3, 4, 5, 7, 10, 8, 12], hst.select [0, 1, 2, 3, 4, 5, 6, 7, 8] (by decide)⟩
   rw [hbk] at hc8
   simp only [decide_eq_true_eq, decide_eq_false_iff_not] at hc8
   refine wc_skip ?_
   exact ⟨0, (by rw [if_neg (by omega)]), hfr.pick [1, 2, 3, 4, 5, 7, 10, 8, 12], hst.select [0, 1, 2, 3, 4, 5, 6, 7, 8] (by decide)⟩
  rintro a w34 ⟨tr, htr, hfr, hst⟩
  refine hK18 _ _ ?_
  refine wc_seq_region fun K20 hK20 => ?_
  refine wlm hfr rfl fun a hfr => ?_
  refine wlv hfr (v_load_all (hst.get (k := 1) rfl) rfl (Try.isAgg39 _) (Try.sizeOf39 _)) fun a hfr => ?_
  refine wl_buildSlice (E := 39) (sz := 3) rfl [[iv (1 + (pick z.a 6)), iv ta, iv tr]] (by kernel_rfl) (by simp) rfl (by decide) (by decide) hfr hst ?_
  clear hfr hst
  intro a w35 hfr hst
  refine wl_append (i := 4) (sT := 34) (inf := Try.t39) (z := .agg #[iv 0, iv 0, iv 0]) (b := 0) (off := 0) (m := 0) (c := 0) rfl rfl rfl (hst.ownAt (i := 0) rfl) (by simp) Try.underlying34 rfl rfl rfl rfl (by decide) (by simp [Value.oneCell']) (by have hby : Try.t39.bytes = 24 := rfl; simp [big, hby, mkN_length]; omega) (by have hby : Try.t39.bytes = 24 := rfl; simp [big, hby, mkN_length]; omega) (by decide) hfr hst fun a w36 s9 hfr hst _ => ?_
  refine wla hfr rfl fun a hfr => ?_
  refine wl_nil (hK20 _ _ ?_)
  refine wc_region ?_
  refine wlv hfr (v_fieldAddr (v := .pointer (some ⟨b4, 1, none⟩)) rfl (by kernel_rfl)) fun a hfr => ?_
  refine wlv hfr (v_load_blk1 (hst.get (k := 2) rfl) rfl (Try.isAgg3 _) rfl) fun a hfr => wla hfr rfl fun a hfr => ?_
  refine wl_nil ?_
  refine hK12 _ _ ?_
  replace hfr : Fr 124 [(1, _), (2, _), (3, _), (4, _), (5, _), (7, _), (10, _), (8, _), (9, _)] [] a := hfr.pick [1, 2, 3, 4, 5, 7, 10, 8, 9]
  replace hst : St No w0 [_, _, _, _, _, _] w36 := hst.mask [false, false, false, false, true, true, true, true, true, true]
  refine wc_region ?_
  refine wlm hfr rfl fun a hfr => ?_
  refine wlv hfr (v_add rfl rfl ⟨by omega, by omega⟩) fun a hfr => wla hfr rfl fun a hfr => ?_
  refine wl_nil ?_
  have hev : mkEvt rl cl (mkN rl cl xs k) la z = ⟨1 + pick z.a 6, ta, tr⟩ := by unfold mkEvt; rw [hnw, hta, htr]
  have hN : mkN rl cl xs (k + 1) = mkN rl cl xs k ++ [⟨1 + pick z.a 6, ta, tr⟩] := by rw [mkN, hla, hz, hev]
  have hl9 : ta = lastAt cl.asked (mkN rl cl xs (k + 1)) (k + 1) := by rw [hN]; simp [lastAt, List.getD_eq_getElem?_getD, mkN_length]
  rw [hl9] at hfr
  rw [show ((mkN rl cl xs k).map Evt.cells) ++ ([[iv (1 + (pick z.a 6)), iv ta, iv tr]]) = ((mkN rl cl xs (k + 1)).map Evt.cells) from by rw [hN]; simp [Evt.cells]] at hst
  refine ⟨_, ?_, k + 1, s9, rfl, (by omega), (by omega), hfr.pick [1, 2, 3, 4, 5, 7, 10, 8, 9], hst.select [0, 1, 2, 3, 4, 5] (by decide)⟩
  omega
 rw [hbx] at hc3
 simp only [decide_eq_false_iff_not] at hc3
 refine wc_exit ?_
 refine hK8 _ _ ?_
 refine wc_seq_k fun K21 hK21 => ?_
 refine wc_of_dr (dr_of_wd fun w37 hxz => ?_)
 replace hst := hst.grow hxz
 refine wd_sub (k := 0) 5 [2, 4] hfr ?_
 replace hfr : Fr 124 [(1, _), (2, _), (3, _), (4, _), (5, _), (7, _), (10, _), (8, _), (9, _)] [] a := hfr.pick [1, 2, 3, 4, 5, 7, 10, 8, 9]
 replace hst : St No w0 [blk w1.heap.size [iv 0, iv 0, iv 0, iv 0] 31, blk w2.heap.size [iv 0, iv 0, iv 0, iv 0, iv 0, .bool false] 33, own v 39 3 ((mkN rl cl xs k).map Evt.cells), blk w0.heap.size [iv x0, iv x1, iv x2, iv x3, iv y0, iv y1, iv y2, iv y3, iv y4, iv y5, xv] 26, blk w4.heap.size [iv rl.answer, iv rl.cooling, iv rl.settle, iv rl.reverse] 31, blk b1 [iv cl.number, iv cl.frm, iv cl.to, iv cl.holder, iv cl.asked, .bool cl.backed] 33] w37 := hst.select [2, 3, 0, 1, 4, 5] (by decide)
 refine wc_phases_set [3, 4] (fun q => if q = 3 then blk w1.heap.size [iv 0, iv 0, iv 0, iv 0] 31 else if q = 4 then blk w2.heap.size [iv 0, iv 0, iv 0, iv 0, iv 0, .bool false] 33 else join []) (fun q => if q = 3 then blk w1.heap.size [iv rl.answer, iv rl.cooling, iv rl.settle, iv rl.reverse] 31 else if q = 4 then blk w2.heap.size [iv cl.number, iv cl.frm, iv cl.to, iv cl.holder, iv cl.asked, .bool cl.backed] 33 else join []) 5 [[], [], [], [0], [1]] (fun i => match i with | 0 => pv (.agg #[iv rl.answer, iv rl.cooling, iv rl.settle, iv rl.reverse]) | 1 => pv (.agg #[iv cl.number, iv cl.frm, iv cl.to, iv cl.holder, iv cl.asked, .bool cl.backed]) | 2 => pv (v) | 3 => fun v E => v = undef ∧ E = [] | 4 => fun v E => v = undef ∧ E = [] | _ => fun _ _ => False) (by intro q; by_cases h3 : q = 3; (subst h3; rfl); by_cases h4 : q = 4; (subst h4; rfl); simp only [h3, h4, if_false]) hfr (H := [own v 39 3 ((mkN rl cl xs k).map Evt.cells), blk w0.heap.size [iv x0, iv x1, iv x2, iv x3, iv y0, iv y1, iv y2, iv y3, iv y4, iv y5, xv] 26, blk w4.heap.size [iv rl.answer, iv rl.cooling, iv rl.settle, iv rl.reverse] 31, blk b1 [iv cl.number, iv cl.frm, iv cl.to, iv cl.holder, iv cl.asked, .bool cl.backed] 33]) hst (by kernel_rfl) (by kernel_rfl) (by kernel_rfl) (by kernel_rfl) (by decide) (by decide) ?_ ?_ ?_ ?_ ?_ ?_
 ·intro i v E h
  match i, h with
  | 0, _ => exact by decide
  | 1, _ => exact by decide
  | 2, _ => exact by decide
  | 3, _ => exact by decide
  | 4, _ => exact by decide
  | i + 5, h => exact h.elim
 ·intro q v E hq h
  simp only [List.mem_cons, List.not_mem_nil, or_false] at hq
  rcases hq with rfl | rfl <;> exact h
 ·intro q hq
  simp only [List.mem_cons, List.not_mem_nil, or_false] at hq
  rcases hq with rfl | rfl <;> exact ⟨rfl, rfl⟩
 ·intro i hi hiq e
  match i, hi, hiq with
  | 0, _, _ =>
   intro w hst
   exact OpV.g (v_load_all (hst.get (k := 3) rfl) rfl (Try.isAgg31 _) (Try.sizeOf31 _))
  | 1, _, _ =>
   intro w hst
   exact OpV.g (v_load_all (hst.get (k := 4) rfl) rfl (Try.isAgg33 _) (Try.sizeOf33 _))
  | 2, _, _ =>
   intro w hst
   exact OpV.g (v_move rfl)
  | 3, _, h => exact absurd (by decide) h
  | 4, _, h => exact absurd (by decide) h
 ·intro q hq
  simp only [List.mem_cons, List.not_mem_nil, or_false] at hq
  rcases hq with rfl | rfl
  ·rintro _ _ ⟨rfl, rfl⟩
   intro w h
   exact r_storeU (cs := [iv 0, iv 0, iv 0, iv 0]) (ds := [iv rl.answer, iv rl.cooling, iv rl.settle, iv rl.reverse]) rfl rfl h (Try.sizeOf31 _) rfl (lb rfl) rfl
  ·rintro _ _ ⟨rfl, rfl⟩
   intro w h
   exact r_storeU (cs := [iv 0, iv 0, iv 0, iv 0, iv 0, .bool false]) (ds := [iv cl.number, iv cl.frm, iv cl.to, iv cl.holder, iv cl.asked, .bool cl.backed]) rfl rfl h (Try.sizeOf33 _) rfl (lb rfl) rfl
 clear hfr hst
 rintro _ _ ⟨rfl, rfl⟩ _ _ ⟨rfl, rfl⟩ _ _ ⟨rfl, rfl⟩ a w38 hfr hst
 replace hfr : Fr 124 [(121, _), (122, _), (123, _), (1, _), (2, _), (3, _), (4, _), (5, _), (7, _), (10, _), (8, _), (9, _)] [] a := hfr
 replace hst : St No w0 [blk w1.heap.size [iv rl.answer, iv rl.cooling, iv rl.settle, iv rl.reverse] 31, blk w2.heap.size [iv cl.number, iv cl.frm, iv cl.to, iv cl.holder, iv cl.asked, .bool cl.backed] 33, own v 39 3 ((mkN rl cl xs k).map Evt.cells), blk w0.heap.size [iv x0, iv x1, iv x2, iv x3, iv y0, iv y1, iv y2, iv y3, iv y4, iv y5, xv] 26, blk w4.heap.size [iv rl.answer, iv rl.cooling, iv rl.settle, iv rl.reverse] 31, blk b1 [iv cl.number, iv cl.frm, iv cl.to, iv cl.holder, iv cl.asked, .bool cl.backed] 33] w38 := hst
 refine wl_nil ?_
 refine wd_lin (k := 5) 6 [5] ?_
 refine wla hfr rfl fun a hfr => ?_
 refine wl_nil ?_
 refine wd_end ?_
 refine hK21 _ _ ?_
 replace hfr : Fr 124 [(2, _), (3, _), (4, _)] [] a := hfr.pick [2, 3, 4]
 replace hst : St No w0 [_, _, _] w38 := hst.mask [true, true, true, false, false, false]
 refine wc_ret ?_
 refine fin_ret hfr Try.results6 (resAre_cell rfl (res_all (hst.get (k := 0) rfl) (Try.isAgg31 _) (Try.sizeOf31 _)) (resAre_cell rfl (res_all (hst.get (k := 1) rfl) (Try.isAgg33 _) (Try.sizeOf33 _)) (resAre_tmp rfl resAre_nil))) ?_
 have hkm : k = min xs.length 10 := by omega
 exact ⟨v, rfl, trivial, hst.ext, St.out (E := [own v 39 3 ((mkL rl cl xs).map Evt.cells)]) (H := []) (by rw [mkL, ← hkm]; exact hst.select [2] (by decide))⟩
end Go.Proofs.Ytnfnkohkcmkddaa
namespace Go.Proofs.Ytnfnkohkcmkddaa
open Go.RowKit Go.PW
set_option linter.unusedVariables false
set_option linter.unusedSimpArgs false
set_option maxRecDepth 4000
def exR : Rul := ⟨100, 50, 200, 300⟩
def exC : Clm := ⟨55, 1, 2, 9, 1000, false⟩
theorem ret_lit {f : FuncId} {args : Array Value} {w : World} {x y : Value} (h : Ret Try.prog f args w fun v w' => v = x ∧ Ext No w w') (e : x = y) : Ret Try.prog f args w fun v w' => v = y ∧ Ext No w w' := e ▸ h
theorem memr_lit {X : Type} {f : FuncId} {args : Array Value} {w : World} {g : X → Value} {E E' : X → List Ent} {Pr : X → Prop} (h : Ret Try.prog f args w (MemR w g E Pr)) (e : E = E') : Ret Try.prog f args w (MemR w g E' Pr) := e ▸ h
theorem exRules_ok (w0 : World) :
  Ret Try.prog 17 #[] w0 fun v w => v = .agg #[iv 100, iv 50, iv 200, iv 300] ∧ Ext No w0 w := by
 refine ret_of Try.func17 rfl Try.ntmps17 (lb rfl) fun a hfr => ?_
 replace hfr : Fr 2 [] [] a := hfr
 replace hst : St No w0 [] w0 := St.init w0
 refine wc_seq_region fun K1 hK1 => ?_
 refine wl_alloc hfr hst (Try.zeroValue31 _) [iv 0, iv 0, iv 0, iv 0] rfl ?_
 clear hfr hst
 intro a w1 hfr hst
 refine wl_nil (hK1 _ _ ?_)
 refine wc_seq_region fun K2 hK2 => ?_
 refine wlv hfr (v_build (v := .agg #[iv 100, iv 50, iv 200, iv 300]) rfl (by kernel_rfl)) fun a hfr => ?_
 refine wl_sto 0 hfr hst [iv 100, iv 50, iv 200, iv 300] rfl (Try.sizeOf31 _) ?_
 clear hfr hst
 intro a w2 hfr hst
 refine wl_nil (hK2 _ _ ?_)
 refine wc_ret ?_
 refine fin_ret hfr Try.results17 (resAre_cell rfl (res_all (hst.get (k := 0) rfl) (Try.isAgg31 _) (Try.sizeOf31 _)) resAre_nil) ?_
 exact ⟨by rfl, hst.ext⟩
theorem exClaim_ok (w0 : World) :
  Ret Try.prog 15 #[] w0 fun v w => v = .agg #[iv 55, iv 1, iv 2, iv 9, iv 1000, .bool false] ∧ Ext No w0 w := by
 refine ret_of Try.func15 rfl Try.ntmps15 (lb rfl) fun a hfr => ?_
 replace hfr : Fr 2 [] [] a := hfr
 replace hst : St No w0 [] w0 := St.init w0
 refine wc_seq_region fun K1 hK1 => ?_
 refine wl_alloc hfr hst (Try.zeroValue33 _) [iv 0, iv 0, iv 0, iv 0, iv 0, .bool false] rfl ?_
 clear hfr hst
 intro a w1 hfr hst
 refine wl_nil (hK1 _ _ ?_)
 refine wc_seq_region fun K2 hK2 => ?_
 refine wlv hfr (v_build (v := .agg #[iv 55, iv 1, iv 2, iv 9, iv 1000, .bool false]) rfl (by kernel_rfl)) fun a hfr => ?_
 refine wl_sto 0 hfr hst [iv 55, iv 1, iv 2, iv 9, iv 1000, .bool false] rfl (Try.sizeOf33 _) ?_
 clear hfr hst
 intro a w2 hfr hst
 refine wl_nil (hK2 _ _ ?_)
 refine wc_ret ?_
 refine fin_ret hfr Try.results15 (resAre_cell rfl (res_all (hst.get (k := 0) rfl) (Try.isAgg33 _) (Try.sizeOf33 _)) resAre_nil) ?_
 exact ⟨by rfl, hst.ext⟩
theorem is_ok (sv : Value) (l : List Evt) (t st si nx : Int) (w0 : World) (hsv : SlAt w0 sv 3 (l.map Evt.cells)) (hv : valid exR exC l = true) (hin : isIn t 0 20000000 = true) :
  Ret Try.prog 20 #[sv, iv t, iv st, iv si, iv nx] w0 fun v w => v = .bool (decide ((outcome exR exC l t).state = st) && decide ((outcome exR exC l t).since = si) && decide ((outcome exR exC l t).next = nx)) ∧ Ext No w0 w := by
 refine ret_of Try.func20 rfl Try.ntmps20 (lb rfl) fun a hfr => ?_
 replace hfr : Fr 31 [(0, _), (1, _), (2, _), (3, _), (4, _)] [] a := hfr
 replace hst : St No w0 [] w0 := St.init w0
 refine wc_seq_region fun K1 hK1 => ?_
 refine wla hfr rfl fun a hfr => ?_
 refine wl_nil (hK1 _ _ ?_)
 refine wc_seq_region fun K2 hK2 => ?_
 refine wl_callp hfr hst Try.call17 rfl (exRules_ok _) ?_
 clear hfr hst
 intro a w1 hfr hst
 refine wl_callp hfr hst Try.call15 rfl (exClaim_ok _) ?_
 clear hfr hst
 intro a w2 hfr hst
 refine wlm hfr rfl fun a hfr => wlm hfr rfl fun a hfr => ?_
 refine wl_callp hfr hst Try.call13 rfl (outcome_ok exR exC sv l t _ (hst.arg hsv) hv hin) ?_
 clear hfr hst
 intro a w3 hfr hst
 refine wlm hfr rfl fun a hfr => ?_
 refine wlv hfr (v_extract rfl rfl) fun a hfr => ?_
 refine wlv hfr (v_extract rfl rfl) fun a hfr => ?_
 refine wl_alloc hfr hst (Try.zeroValue54 _) [iv 0, iv 0, iv 0] rfl ?_
 clear hfr hst
 intro a w4 hfr hst
 refine wl_sto 0 hfr hst [iv ((outcome exR exC l t).state), iv ((outcome exR exC l t).since), iv ((outcome exR exC l t).next)] rfl (Try.sizeOf54 _) ?_
 clear hfr hst
 intro a w5 hfr hst
 refine wla hfr rfl fun a hfr => ?_
 refine wl_nil (hK2 _ _ ?_)
 replace hfr : Fr 31 [(2, _), (3, _), (4, _), (10, _), (11, _), (12, _)] [] a := hfr.pick [2, 3, 4, 10, 11, 12]
 refine wc_seq_region fun K3 hK3 => ?_
 refine wlm hfr rfl fun a hfr => ?_
 refine wlv hfr ((v_eq rfl rfl).asb (b' := true) rfl) fun a hfr => wlm hfr rfl fun a hfr => wly hfr (v_load_all (hst.get (k := 0) rfl) rfl (Try.isAgg54 _) (Try.sizeOf54 _)) fun a hfr => wly hfr (v_move rfl) fun a hfr => wly hfr (v_move rfl) fun a hfr => wly hfr (v_move rfl) fun a hfr => wly hfr (v_build (v := .agg #[iv st, iv si, iv nx]) rfl (by kernel_rfl)) fun a hfr => wly hfr (v_eq_agg rfl rfl (by kernel_rfl) (eqStt ((outcome exR exC l t).state) ((outcome exR exC l t).since) ((outcome exR exC l t).next) st si nx _)) fun a hfr => ?_
 refine wlv hfr (v_pick_t rfl rfl) fun a hfr => wla hfr rfl fun a hfr => ?_
 refine wl_nil (hK3 _ _ ?_)
 replace hfr : Fr 31 [(10, _)] [] a := hfr.pick [10]
 replace hst : St No w0 [] w5 := hst.mask [false]
 refine wc_ret ?_
 refine fin_ret hfr Try.results20 (resAre_tmp rfl resAre_nil) ?_
 exact ⟨by rfl, hst.ext⟩
set_option maxHeartbeats 4000000 in
theorem sane_ok (w0 : World) :
  Ret Try.prog 4 #[] w0 fun v w => v = .bool true ∧ Ext No w0 w := by
 refine ret_of Try.func4 rfl Try.ntmps4 (lb rfl) fun a hfr => ?_
 replace hfr : Fr 205 [] [] a := hfr
 replace hst : St No w0 [] w0 := St.init w0
 refine wc_seq_region fun K1 hK1 => ?_
 refine wla hfr rfl fun a hfr => ?_
 refine wl_nil (hK1 _ _ ?_)
 refine wc_seq_region fun K2 hK2 => ?_
 refine wl_callp hfr hst Try.call15 rfl (exClaim_ok _) ?_
 clear hfr hst
 intro a w1 hfr hst
 refine wl_alloc hfr hst (Try.zeroValue33 _) [iv 0, iv 0, iv 0, iv 0, iv 0, .bool false] rfl ?_
 clear hfr hst
 intro a w2 hfr hst
 refine wl_sto 0 hfr hst [iv 55, iv 1, iv 2, iv 9, iv 1000, .bool false] rfl (Try.sizeOf33 _) ?_
 clear hfr hst
 intro a w3 hfr hst
 refine wl_nil (hK2 _ _ ?_)
 refine wc_seq_region fun K3 hK3 => ?_
 refine wlv hfr (v_build (v := .agg #[iv 2, iv 1099, iv 3]) rfl (by kernel_rfl)) fun a hfr => ?_
 refine wl_buildSlice (E := 39) (sz := 3) rfl [[iv 2, iv 1099, iv 3]] (by kernel_rfl) (by simp) rfl (by decide) (by decide) hfr hst ?_
 clear hfr hst
 intro a w4 hfr hst
 refine wla hfr rfl fun a hfr => ?_
 refine wl_nil (hK3 _ _ ?_)
 refine wc_seq_region fun K4 hK4 => ?_
 refine wlv hfr (v_build (v := .agg #[iv 2, iv 1050, iv 1]) rfl (by kernel_rfl)) fun a hfr => ?_
 refine wl_buildSlice (E := 39) (sz := 3) rfl [[iv 2, iv 1050, iv 1]] (by kernel_rfl) (by simp) rfl (by decide) (by decide) hfr hst ?_
 clear hfr hst
 intro a w5 hfr hst
 refine wla hfr rfl fun a hfr => ?_
 refine wl_nil (hK4 _ _ ?_)
 refine wc_seq_region fun K5 hK5 => ?_
 refine wlv hfr (v_build (v := .agg #[iv 2, iv 1100, iv 1]) rfl (by kernel_rfl)) fun a hfr => ?_
 refine wl_buildSlice (E := 39) (sz := 3) rfl [[iv 2, iv 1100, iv 1]] (by kernel_rfl) (by simp) rfl (by decide) (by decide) hfr hst ?_
 clear hfr hst
 intro a w6 hfr hst
 refine wla hfr rfl fun a hfr => ?_
 refine wl_nil (hK5 _ _ ?_)
 replace hfr : Fr 205 [(0, _), (1, _), (2, _), (3, _), (4, _)] [] a := hfr.pick [0, 1, 2, 3, 4]
 refine wc_seq_region fun K6 hK6 => ?_
 refine wlv hfr (v_build (v := .agg #[iv 2, iv 1050, iv 3]) rfl (by kernel_rfl)) fun a hfr => ?_
 refine wlv hfr (v_build (v := .agg #[iv 3, iv 1050, iv 0]) rfl (by kernel_rfl)) fun a hfr => ?_
 refine wlv hfr (v_build (v := .agg #[iv 5, iv 1099, iv 0]) rfl (by kernel_rfl)) fun a hfr => ?_
 refine wl_buildSlice (E := 39) (sz := 3) rfl [[iv 2, iv 1050, iv 3], [iv 3, iv 1050, iv 0], [iv 5, iv 1099, iv 0]] (by kernel_rfl) (by simp) rfl (by decide) (by decide) hfr hst ?_
 clear hfr hst
 intro a w7 hfr hst
 refine wla hfr rfl fun a hfr => ?_
 refine wl_nil (hK6 _ _ ?_)
 refine wc_seq_k fun K7 hK7 => ?_
 refine wc_of_dr (dr_of_wd fun w8 hxz => ?_)
 replace hst := hst.grow hxz
 refine wd_sub (k := 0) 2 [0, 1] hfr ?_
 replace hfr : Fr 205 [(0, _), (1, _), (2, _), (3, _), (4, _), (32, _), (33, _), (34, _), (35, _), (5, _)] [] a := hfr.pick [0, 1, 2, 3, 4, 32, 33, 34, 35, 5]
 refine wc_phases' 2 [[], []] (fun i => match i with | 0 => pv (.agg #[iv 100, iv 50, iv 200, iv 300]) | 1 => pv (.agg #[iv 55, iv 1, iv 2, iv 9, iv 1000, .bool false]) | _ => fun _ _ => False) hfr hst (by kernel_rfl) (by kernel_rfl) ?_ ?_
 ·intro i hi
  match i, hi with
  | 0, _ =>
   intro w hst
   exact g_callp Try.call17 rfl (exRules_ok _)
  | 1, _ =>
   intro w hst
   exact OpV.g (v_load_all (hst.get (k := 4) rfl) rfl (Try.isAgg33 _) (Try.sizeOf33 _))
 clear hfr hst
 rintro _ _ ⟨rfl, rfl⟩ _ _ ⟨rfl, rfl⟩ a w9 hfr hst
 replace hfr : Fr 205 [(37, _), (38, _), (0, _), (1, _), (2, _), (3, _), (4, _), (32, _), (33, _), (34, _), (35, _), (5, _)] [] a := hfr
 replace hst : St No w0 [_, _, _, _, _] w9 := hst
 refine wl_nil ?_
 refine wd_lin (k := 2) 4 [3] ?_
 refine wl_callp hfr hst Try.call16 rfl (ret_lit (y := .tuple #[iv 1649, iv 0]) (ends_ok exR exC _) (by kernel_rfl)) ?_
 clear hfr hst
 intro a w10 hfr hst
 refine wlm hfr rfl fun a hfr => ?_
 refine wl_nil ?_
 refine wd_sub (k := 4) 7 [5, 6] hfr ?_
 replace hfr : Fr 205 [(0, _), (1, _), (2, _), (3, _), (4, _), (32, _), (33, _), (34, _), (35, _), (5, _), (37, _), (38, _), (39, _), (36, _)] [] a := hfr.pick [0, 1, 2, 3, 4, 32, 33, 34, 35, 5, 37, 38, 39, 36]
 refine wc_phases' 3 [[], [], [0]] (fun i => match i with | 0 => pv (iv 1649) | 1 => pv (iv 0) | 2 => pv (iv 1649) | _ => fun _ _ => False) hfr hst (by kernel_rfl) (by kernel_rfl) ?_ ?_
 ·intro i hi
  match i, hi with
  | 0, _ =>
   intro w hst
   exact OpV.g (v_extract rfl rfl)
  | 1, _ =>
   intro w hst
   exact OpV.g (v_extract rfl rfl)
  | 2, _ =>
   rintro _ _ ⟨rfl, rfl⟩
   intro w hst
   exact OpV.g (v_assign rfl)
 clear hfr hst
 rintro _ _ ⟨rfl, rfl⟩ _ _ ⟨rfl, rfl⟩ _ _ ⟨rfl, rfl⟩ a w11 hfr hst
 replace hfr : Fr 205 [(40, _), (41, _), (6, _), (0, _), (1, _), (2, _), (3, _), (4, _), (32, _), (33, _), (34, _), (35, _), (5, _), (37, _), (38, _), (39, _), (36, _)] [] a := hfr
 replace hst : St No w0 [_, _, _, _, _] w11 := hst
 refine wl_nil ?_
 refine wd_lin (k := 7) 8 [7] ?_
 refine wla hfr rfl fun a hfr => ?_
 refine wl_nil ?_
 refine wd_end ?_
 refine hK7 _ _ ?_
 replace hfr : Fr 205 [(0, _), (1, _), (2, _), (3, _), (4, _), (5, _), (6, _), (7, _)] [] a := hfr.pick [0, 1, 2, 3, 4, 5, 6, 7]
 refine wc_seq_k fun K8 hK8 => ?_
 refine wc_of_dr (dr_of_wd fun w12 hxz => ?_)
 replace hst := hst.grow hxz
 refine wd_sub (k := 0) 3 [0, 1, 2] hfr ?_
 replace hfr : Fr 205 [(0, _), (1, _), (2, _), (3, _), (4, _), (5, _), (6, _), (7, _)] [] a := hfr.pick [0, 1, 2, 3, 4, 5, 6, 7]
 refine wc_phases' 3 [[], [], []] (fun i => match i with | 0 => pv (.agg #[iv 100, iv 50, iv 200, iv 300]) | 1 => pv (.agg #[iv 55, iv 1, iv 2, iv 9, iv 1000, .bool false]) | 2 => pv ((.slice (some ⟨w5.heap.size, 0, none⟩) 1 1)) | _ => fun _ _ => False) hfr hst (by kernel_rfl) (by kernel_rfl) ?_ ?_
 ·intro i hi
  match i, hi with
  | 0, _ =>
   intro w hst
   exact g_callp Try.call17 rfl (exRules_ok _)
  | 1, _ =>
   intro w hst
   exact OpV.g (v_load_all (hst.get (k := 4) rfl) rfl (Try.isAgg33 _) (Try.sizeOf33 _))
  | 2, _ =>
   intro w hst
   exact OpV.g (v_move rfl)
 clear hfr hst
 rintro _ _ ⟨rfl, rfl⟩ _ _ ⟨rfl, rfl⟩ _ _ ⟨rfl, rfl⟩ a w13 hfr hst
 replace hfr : Fr 205 [(43, _), (44, _), (45, _), (0, _), (1, _), (2, _), (3, _), (4, _), (5, _), (6, _), (7, _)] [] a := hfr
 replace hst : St No w0 [_, _, _, _, _] w13 := hst
 refine wl_nil ?_
 refine wd_lin (k := 3) 5 [4] ?_
 refine wl_callm hfr hst Try.call12 rfl (memr_lit (E' := fun v => [own v 3 1 [[iv 0]]]) (void_ok exR exC (.slice (some ⟨w5.heap.size, 0, none⟩) 1 1) [⟨2, 1100, 1⟩] _ (hst.ownAt (i := 1) rfl) (by kernel_rfl)) (by kernel_rfl)) ?_
 clear hfr hst
 intro a w14 x2 hp hfr hst
 revert x2 hp hfr hst; rintro v1 hp hfr hst
 clear hp
 replace hst : St No w0 [own v1 3 1 ([[iv 0]]), own (.slice (some ⟨w6.heap.size, 0, none⟩) 3 3) 39 3 ([[iv 2, iv 1050, iv 3], [iv 3, iv 1050, iv 0], [iv 5, iv 1099, iv 0]]), own (.slice (some ⟨w5.heap.size, 0, none⟩) 1 1) 39 3 ([[iv 2, iv 1100, iv 1]]), own (.slice (some ⟨w4.heap.size, 0, none⟩) 1 1) 39 3 ([[iv 2, iv 1050, iv 1]]), own (.slice (some ⟨w3.heap.size, 0, none⟩) 1 1) 39 3 ([[iv 2, iv 1099, iv 3]]), blk w1.heap.size [iv 55, iv 1, iv 2, iv 9, iv 1000, .bool false] 33] w14 := hst
 refine wlm hfr rfl fun a hfr => ?_
 refine wl_nil ?_
 refine wd_sub (k := 5) 8 [6, 7] hfr ?_
 replace hfr : Fr 205 [(0, _), (1, _), (2, _), (3, _), (4, _), (5, _), (6, _), (7, _), (43, _), (44, _), (45, _), (46, _), (42, _)] [] a := hfr.pick [0, 1, 2, 3, 4, 5, 6, 7, 43, 44, 45, 46, 42]
 refine wc_phases' 3 [[], [], [0]] (fun i => match i with | 0 => pv (v1) | 1 => pv (iv 0) | 2 => pv (v1) | _ => fun _ _ => False) hfr hst (by kernel_rfl) (by kernel_rfl) ?_ ?_
 ·intro i hi
  match i, hi with
  | 0, _ =>
   intro w hst
   exact OpV.g (v_extract rfl rfl)
  | 1, _ =>
   intro w hst
   exact OpV.g (v_extract rfl rfl)
  | 2, _ =>
   rintro _ _ ⟨rfl, rfl⟩
   intro w hst
   exact OpV.g (v_assign rfl)
 clear hfr hst
 rintro _ _ ⟨rfl, rfl⟩ _ _ ⟨rfl, rfl⟩ _ _ ⟨rfl, rfl⟩ a w15 hfr hst
 replace hfr : Fr 205 [(47, _), (48, _), (8, _), (0, _), (1, _), (2, _), (3, _), (4, _), (5, _), (6, _), (7, _), (43, _), (44, _), (45, _), (46, _), (42, _)] [] a := hfr
 replace hst : St No w0 [_, _, _, _, _, _] w15 := hst
 refine wl_nil ?_
 refine wd_lin (k := 8) 9 [8] ?_
 refine wla hfr rfl fun a hfr => ?_
 refine wl_nil ?_
 refine wd_end ?_
 refine hK8 _ _ ?_
 replace hfr : Fr 205 [(0, _), (1, _), (2, _), (3, _), (4, _), (5, _), (6, _), (7, _), (8, _), (9, _)] [] a := hfr.pick [0, 1, 2, 3, 4, 5, 6, 7, 8, 9]
 refine wc_seq_k fun K9 hK9 => ?_
 refine wc_of_dr (dr_of_wd fun w16 hxz => ?_)
 replace hst := hst.grow hxz
 refine wd_sub (k := 0) 3 [0, 1, 2] hfr ?_
 replace hfr : Fr 205 [(0, _), (1, _), (2, _), (3, _), (4, _), (5, _), (6, _), (7, _), (8, _), (9, _)] [] a := hfr.pick [0, 1, 2, 3, 4, 5, 6, 7, 8, 9]
 refine wc_phases' 3 [[], [], []] (fun i => match i with | 0 => pv (.agg #[iv 100, iv 50, iv 200, iv 300]) | 1 => pv (.agg #[iv 55, iv 1, iv 2, iv 9, iv 1000, .bool false]) | 2 => pv ((.slice (some ⟨w6.heap.size, 0, none⟩) 3 3)) | _ => fun _ _ => False) hfr hst (by kernel_rfl) (by kernel_rfl) ?_ ?_
 ·intro i hi
  match i, hi with
  | 0, _ =>
   intro w hst
   exact g_callp Try.call17 rfl (exRules_ok _)
  | 1, _ =>
   intro w hst
   exact OpV.g (v_load_all (hst.get (k := 5) rfl) rfl (Try.isAgg33 _) (Try.sizeOf33 _))
  | 2, _ =>
   intro w hst
   exact OpV.g (v_move rfl)
 clear hfr hst
 rintro _ _ ⟨rfl, rfl⟩ _ _ ⟨rfl, rfl⟩ _ _ ⟨rfl, rfl⟩ a w17 hfr hst
 replace hfr : Fr 205 [(50, _), (51, _), (52, _), (0, _), (1, _), (2, _), (3, _), (4, _), (5, _), (6, _), (7, _), (8, _), (9, _)] [] a := hfr
 replace hst : St No w0 [_, _, _, _, _, _] w17 := hst
 refine wl_nil ?_
 refine wd_lin (k := 3) 5 [4] ?_
 refine wl_callm hfr hst Try.call12 rfl (memr_lit (E' := fun v => [own v 3 1 []]) (void_ok exR exC (.slice (some ⟨w6.heap.size, 0, none⟩) 3 3) [⟨2, 1050, 3⟩, ⟨3, 1050, 0⟩, ⟨5, 1099, 0⟩] _ (hst.ownAt (i := 1) rfl) (by kernel_rfl)) (by kernel_rfl)) ?_
 clear hfr hst
 intro a w18 x4 hp hfr hst
 revert x4 hp hfr hst; rintro v3 hp hfr hst
 clear hp
 replace hst : St No w0 [own v3 3 1 ([]), own v1 3 1 ([[iv 0]]), own (.slice (some ⟨w6.heap.size, 0, none⟩) 3 3) 39 3 ([[iv 2, iv 1050, iv 3], [iv 3, iv 1050, iv 0], [iv 5, iv 1099, iv 0]]), own (.slice (some ⟨w5.heap.size, 0, none⟩) 1 1) 39 3 ([[iv 2, iv 1100, iv 1]]), own (.slice (some ⟨w4.heap.size, 0, none⟩) 1 1) 39 3 ([[iv 2, iv 1050, iv 1]]), own (.slice (some ⟨w3.heap.size, 0, none⟩) 1 1) 39 3 ([[iv 2, iv 1099, iv 3]]), blk w1.heap.size [iv 55, iv 1, iv 2, iv 9, iv 1000, .bool false] 33] w18 := hst
 refine wlm hfr rfl fun a hfr => ?_
 refine wl_nil ?_
 refine wd_sub (k := 5) 8 [6, 7] hfr ?_
 replace hfr : Fr 205 [(0, _), (1, _), (2, _), (3, _), (4, _), (5, _), (6, _), (7, _), (8, _), (9, _), (50, _), (51, _), (52, _), (53, _), (49, _)] [] a := hfr.pick [0, 1, 2, 3, 4, 5, 6, 7, 8, 9, 50, 51, 52, 53, 49]
 refine wc_phases' 3 [[], [], [0]] (fun i => match i with | 0 => pv (v3) | 1 => pv (iv 0) | 2 => pv (v3) | _ => fun _ _ => False) hfr hst (by kernel_rfl) (by kernel_rfl) ?_ ?_
 ·intro i hi
  match i, hi with
  | 0, _ =>
   intro w hst
   exact OpV.g (v_extract rfl rfl)
  | 1, _ =>
   intro w hst
   exact OpV.g (v_extract rfl rfl)
  | 2, _ =>
   rintro _ _ ⟨rfl, rfl⟩
   intro w hst
   exact OpV.g (v_assign rfl)
 clear hfr hst
 rintro _ _ ⟨rfl, rfl⟩ _ _ ⟨rfl, rfl⟩ _ _ ⟨rfl, rfl⟩ a w19 hfr hst
 replace hfr : Fr 205 [(54, _), (55, _), (10, _), (0, _), (1, _), (2, _), (3, _), (4, _), (5, _), (6, _), (7, _), (8, _), (9, _), (50, _), (51, _), (52, _), (53, _), (49, _)] [] a := hfr
 replace hst : St No w0 [_, _, _, _, _, _, _] w19 := hst
 refine wl_nil ?_
 refine wd_lin (k := 8) 9 [8] ?_
 refine wla hfr rfl fun a hfr => ?_
 refine wl_nil ?_
 refine wd_end ?_
 refine hK9 _ _ ?_
 replace hfr : Fr 205 [(0, _), (1, _), (2, _), (3, _), (4, _), (5, _), (6, _), (7, _), (8, _), (9, _), (10, _), (11, _)] [] a := hfr.pick [0, 1, 2, 3, 4, 5, 6, 7, 8, 9, 10, 11]
 refine wc_seq_k fun K10 hK10 => ?_
 refine wc_of_dr (dr_of_wd fun w20 hxz => ?_)
 replace hst := hst.grow hxz
 refine wd_sub (k := 0) 3 [0, 1, 2] hfr ?_
 replace hfr : Fr 205 [(0, _), (1, _), (2, _), (3, _), (4, _), (5, _), (6, _), (7, _), (8, _), (9, _), (10, _), (11, _)] [] a := hfr.pick [0, 1, 2, 3, 4, 5, 6, 7, 8, 9, 10, 11]
 refine wc_phases' 3 [[], [], []] (fun i => match i with | 0 => pv (.agg #[iv 100, iv 50, iv 200, iv 300]) | 1 => pv (.agg #[iv 55, iv 1, iv 2, iv 9, iv 1000, .bool false]) | 2 => pv ((.slice (some ⟨w6.heap.size, 0, none⟩) 3 3)) | _ => fun _ _ => False) hfr hst (by kernel_rfl) (by kernel_rfl) ?_ ?_
 ·intro i hi
  match i, hi with
  | 0, _ =>
   intro w hst
   exact g_callp Try.call17 rfl (exRules_ok _)
  | 1, _ =>
   intro w hst
   exact OpV.g (v_load_all (hst.get (k := 6) rfl) rfl (Try.isAgg33 _) (Try.sizeOf33 _))
  | 2, _ =>
   intro w hst
   exact OpV.g (v_move rfl)
 clear hfr hst
 rintro _ _ ⟨rfl, rfl⟩ _ _ ⟨rfl, rfl⟩ _ _ ⟨rfl, rfl⟩ a w21 hfr hst
 replace hfr : Fr 205 [(57, _), (58, _), (59, _), (0, _), (1, _), (2, _), (3, _), (4, _), (5, _), (6, _), (7, _), (8, _), (9, _), (10, _), (11, _)] [] a := hfr
 replace hst : St No w0 [_, _, _, _, _, _, _] w21 := hst
 refine wl_nil ?_
 refine wd_lin (k := 3) 5 [4] ?_
 refine wl_callm hfr hst Try.call18 rfl (memr_lit (E' := fun v => [own v 54 3 [[iv 1, iv 1000, iv 1100], [iv 2, iv 1050, iv 1250], [iv 3, iv 1050, iv 1100], [iv 7, iv 1099, iv (-1)]]]) (timeline_ok exR exC (.slice (some ⟨w6.heap.size, 0, none⟩) 3 3) [⟨2, 1050, 3⟩, ⟨3, 1050, 0⟩, ⟨5, 1099, 0⟩] _ (hst.ownAt (i := 2) rfl) (by kernel_rfl)) (by kernel_rfl)) ?_
 clear hfr hst
 intro a w22 x6 hp hfr hst
 revert x6 hp hfr hst; rintro v5 hp hfr hst
 clear hp
 replace hst : St No w0 [own v5 54 3 ([[iv 1, iv 1000, iv 1100], [iv 2, iv 1050, iv 1250], [iv 3, iv 1050, iv 1100], [iv 7, iv 1099, iv (-1)]]), own v3 3 1 ([]), own v1 3 1 ([[iv 0]]), own (.slice (some ⟨w6.heap.size, 0, none⟩) 3 3) 39 3 ([[iv 2, iv 1050, iv 3], [iv 3, iv 1050, iv 0], [iv 5, iv 1099, iv 0]]), own (.slice (some ⟨w5.heap.size, 0, none⟩) 1 1) 39 3 ([[iv 2, iv 1100, iv 1]]), own (.slice (some ⟨w4.heap.size, 0, none⟩) 1 1) 39 3 ([[iv 2, iv 1050, iv 1]]), own (.slice (some ⟨w3.heap.size, 0, none⟩) 1 1) 39 3 ([[iv 2, iv 1099, iv 3]]), blk w1.heap.size [iv 55, iv 1, iv 2, iv 9, iv 1000, .bool false] 33] w22 := hst
 refine wlm hfr rfl fun a hfr => ?_
 refine wl_nil ?_
 refine wd_sub (k := 5) 8 [6, 7] hfr ?_
 replace hfr : Fr 205 [(0, _), (1, _), (2, _), (3, _), (4, _), (5, _), (6, _), (7, _), (8, _), (9, _), (10, _), (11, _), (57, _), (58, _), (59, _), (60, _), (56, _)] [] a := hfr.pick [0, 1, 2, 3, 4, 5, 6, 7, 8, 9, 10, 11, 57, 58, 59, 60, 56]
 refine wc_phases' 3 [[], [], [0]] (fun i => match i with | 0 => pv (v5) | 1 => pv (iv 0) | 2 => pv (v5) | _ => fun _ _ => False) hfr hst (by kernel_rfl) (by kernel_rfl) ?_ ?_
 ·intro i hi
  match i, hi with
  | 0, _ =>
   intro w hst
   exact OpV.g (v_extract rfl rfl)
  | 1, _ =>
   intro w hst
   exact OpV.g (v_extract rfl rfl)
  | 2, _ =>
   rintro _ _ ⟨rfl, rfl⟩
   intro w hst
   exact OpV.g (v_assign rfl)
 clear hfr hst
 rintro _ _ ⟨rfl, rfl⟩ _ _ ⟨rfl, rfl⟩ _ _ ⟨rfl, rfl⟩ a w23 hfr hst
 replace hfr : Fr 205 [(61, _), (62, _), (12, _), (0, _), (1, _), (2, _), (3, _), (4, _), (5, _), (6, _), (7, _), (8, _), (9, _), (10, _), (11, _), (57, _), (58, _), (59, _), (60, _), (56, _)] [] a := hfr
 replace hst : St No w0 [_, _, _, _, _, _, _, _] w23 := hst
 refine wl_nil ?_
 refine wd_lin (k := 8) 9 [8] ?_
 refine wla hfr rfl fun a hfr => ?_
 refine wl_nil ?_
 refine wd_end ?_
 refine hK10 _ _ ?_
 replace hfr : Fr 205 [(0, _), (1, _), (2, _), (3, _), (4, _), (5, _), (6, _), (7, _), (8, _), (9, _), (10, _), (11, _), (12, _), (13, _)] [] a := hfr.pick [0, 1, 2, 3, 4, 5, 6, 7, 8, 9, 10, 11, 12, 13]
 refine wc_seq_k fun K11 hK11 => ?_
 refine wc_of_dr (dr_of_wd fun w24 hxz => ?_)
 replace hst := hst.grow hxz
 refine wd_sub (k := 0) 2 [0, 1] hfr ?_
 replace hfr : Fr 205 [(0, _), (1, _), (2, _), (3, _), (4, _), (5, _), (6, _), (7, _), (8, _), (9, _), (10, _), (11, _), (12, _), (13, _)] [] a := hfr.pick [0, 1, 2, 3, 4, 5, 6, 7, 8, 9, 10, 11, 12, 13]
 refine wc_phases' 2 [[], []] (fun i => match i with | 0 => pv (.agg #[iv 100, iv 50, iv 200, iv 300]) | 1 => pv (.agg #[iv 55, iv 1, iv 2, iv 9, iv 1000, .bool false]) | _ => fun _ _ => False) hfr hst (by kernel_rfl) (by kernel_rfl) ?_ ?_
 ·intro i hi
  match i, hi with
  | 0, _ =>
   intro w hst
   exact g_callp Try.call17 rfl (exRules_ok _)
  | 1, _ =>
   intro w hst
   exact OpV.g (v_load_all (hst.get (k := 7) rfl) rfl (Try.isAgg33 _) (Try.sizeOf33 _))
 clear hfr hst
 rintro _ _ ⟨rfl, rfl⟩ _ _ ⟨rfl, rfl⟩ a w25 hfr hst
 replace hfr : Fr 205 [(64, _), (65, _), (0, _), (1, _), (2, _), (3, _), (4, _), (5, _), (6, _), (7, _), (8, _), (9, _), (10, _), (11, _), (12, _), (13, _)] [] a := hfr
 replace hst : St No w0 [_, _, _, _, _, _, _, _] w25 := hst
 refine wl_nil ?_
 refine wd_lin (k := 2) 4 [3] ?_
 refine wl_callp hfr hst Try.call19 rfl (ret_lit (y := .tuple #[iv 1, iv 0]) (with_ok exR exC _ [] 1149 _ (slAt_nil _ _) (by kernel_rfl) (by kernel_rfl)) (by kernel_rfl)) ?_
 clear hfr hst
 intro a w26 hfr hst
 refine wlm hfr rfl fun a hfr => ?_
 refine wl_nil ?_
 refine wd_sub (k := 4) 7 [5, 6] hfr ?_
 replace hfr : Fr 205 [(0, _), (1, _), (2, _), (3, _), (4, _), (5, _), (6, _), (7, _), (8, _), (9, _), (10, _), (11, _), (12, _), (13, _), (64, _), (65, _), (66, _), (63, _)] [] a := hfr.pick [0, 1, 2, 3, 4, 5, 6, 7, 8, 9, 10, 11, 12, 13, 64, 65, 66, 63]
 refine wc_phases' 3 [[], [], [0]] (fun i => match i with | 0 => pv (iv 1) | 1 => pv (iv 0) | 2 => pv (iv 1) | _ => fun _ _ => False) hfr hst (by kernel_rfl) (by kernel_rfl) ?_ ?_
 ·intro i hi
  match i, hi with
  | 0, _ =>
   intro w hst
   exact OpV.g (v_extract rfl rfl)
  | 1, _ =>
   intro w hst
   exact OpV.g (v_extract rfl rfl)
  | 2, _ =>
   rintro _ _ ⟨rfl, rfl⟩
   intro w hst
   exact OpV.g (v_assign rfl)
 clear hfr hst
 rintro _ _ ⟨rfl, rfl⟩ _ _ ⟨rfl, rfl⟩ _ _ ⟨rfl, rfl⟩ a w27 hfr hst
 replace hfr : Fr 205 [(67, _), (68, _), (14, _), (0, _), (1, _), (2, _), (3, _), (4, _), (5, _), (6, _), (7, _), (8, _), (9, _), (10, _), (11, _), (12, _), (13, _), (64, _), (65, _), (66, _), (63, _)] [] a := hfr
 replace hst : St No w0 [_, _, _, _, _, _, _, _] w27 := hst
 refine wl_nil ?_
 refine wd_lin (k := 7) 8 [7] ?_
 refine wla hfr rfl fun a hfr => ?_
 refine wl_nil ?_
 refine wd_end ?_
 refine hK11 _ _ ?_
 replace hfr : Fr 205 [(0, _), (1, _), (2, _), (3, _), (4, _), (5, _), (6, _), (7, _), (8, _), (9, _), (10, _), (11, _), (12, _), (13, _), (14, _), (15, _)] [] a := hfr.pick [0, 1, 2, 3, 4, 5, 6, 7, 8, 9, 10, 11, 12, 13, 14, 15]
 refine wc_seq_k fun K12 hK12 => ?_
 refine wc_of_dr (dr_of_wd fun w28 hxz => ?_)
 replace hst := hst.grow hxz
 refine wd_sub (k := 0) 2 [0, 1] hfr ?_
 replace hfr : Fr 205 [(0, _), (1, _), (2, _), (3, _), (4, _), (5, _), (6, _), (7, _), (8, _), (9, _), (10, _), (11, _), (12, _), (13, _), (14, _), (15, _)] [] a := hfr.pick [0, 1, 2, 3, 4, 5, 6, 7, 8, 9, 10, 11, 12, 13, 14, 15]
 refine wc_phases' 2 [[], []] (fun i => match i with | 0 => pv (.agg #[iv 100, iv 50, iv 200, iv 300]) | 1 => pv (.agg #[iv 55, iv 1, iv 2, iv 9, iv 1000, .bool false]) | _ => fun _ _ => False) hfr hst (by kernel_rfl) (by kernel_rfl) ?_ ?_
 ·intro i hi
  match i, hi with
  | 0, _ =>
   intro w hst
   exact g_callp Try.call17 rfl (exRules_ok _)
  | 1, _ =>
   intro w hst
   exact OpV.g (v_load_all (hst.get (k := 7) rfl) rfl (Try.isAgg33 _) (Try.sizeOf33 _))
 clear hfr hst
 rintro _ _ ⟨rfl, rfl⟩ _ _ ⟨rfl, rfl⟩ a w29 hfr hst
 replace hfr : Fr 205 [(70, _), (71, _), (0, _), (1, _), (2, _), (3, _), (4, _), (5, _), (6, _), (7, _), (8, _), (9, _), (10, _), (11, _), (12, _), (13, _), (14, _), (15, _)] [] a := hfr
 replace hst : St No w0 [_, _, _, _, _, _, _, _] w29 := hst
 refine wl_nil ?_
 refine wd_lin (k := 2) 4 [3] ?_
 refine wl_callp hfr hst Try.call19 rfl (ret_lit (y := .tuple #[iv 2, iv 0]) (with_ok exR exC _ [] 1150 _ (slAt_nil _ _) (by kernel_rfl) (by kernel_rfl)) (by kernel_rfl)) ?_
 clear hfr hst
 intro a w30 hfr hst
 refine wlm hfr rfl fun a hfr => ?_
 refine wl_nil ?_
 refine wd_sub (k := 4) 7 [5, 6] hfr ?_
 replace hfr : Fr 205 [(0, _), (1, _), (2, _), (3, _), (4, _), (5, _), (6, _), (7, _), (8, _), (9, _), (10, _), (11, _), (12, _), (13, _), (14, _), (15, _), (70, _), (71, _), (72, _), (69, _)] [] a := hfr.pick [0, 1, 2, 3, 4, 5, 6, 7, 8, 9, 10, 11, 12, 13, 14, 15, 70, 71, 72, 69]
 refine wc_phases' 3 [[], [], [0]] (fun i => match i with | 0 => pv (iv 2) | 1 => pv (iv 0) | 2 => pv (iv 2) | _ => fun _ _ => False) hfr hst (by kernel_rfl) (by kernel_rfl) ?_ ?_
 ·intro i hi
  match i, hi with
  | 0, _ =>
   intro w hst
   exact OpV.g (v_extract rfl rfl)
  | 1, _ =>
   intro w hst
   exact OpV.g (v_extract rfl rfl)
  | 2, _ =>
   rintro _ _ ⟨rfl, rfl⟩
   intro w hst
   exact OpV.g (v_assign rfl)
 clear hfr hst
 rintro _ _ ⟨rfl, rfl⟩ _ _ ⟨rfl, rfl⟩ _ _ ⟨rfl, rfl⟩ a w31 hfr hst
 replace hfr : Fr 205 [(73, _), (74, _), (16, _), (0, _), (1, _), (2, _), (3, _), (4, _), (5, _), (6, _), (7, _), (8, _), (9, _), (10, _), (11, _), (12, _), (13, _), (14, _), (15, _), (70, _), (71, _), (72, _), (69, _)] [] a := hfr
 replace hst : St No w0 [_, _, _, _, _, _, _, _] w31 := hst
 refine wl_nil ?_
 refine wd_lin (k := 7) 8 [7] ?_
 refine wla hfr rfl fun a hfr => ?_
 refine wl_nil ?_
 refine wd_end ?_
 refine hK12 _ _ ?_
 replace hfr : Fr 205 [(0, _), (1, _), (2, _), (3, _), (4, _), (5, _), (6, _), (7, _), (8, _), (9, _), (10, _), (11, _), (12, _), (13, _), (14, _), (15, _), (16, _), (17, _)] [] a := hfr.pick [0, 1, 2, 3, 4, 5, 6, 7, 8, 9, 10, 11, 12, 13, 14, 15, 16, 17]
 refine wc_seq_k fun K13 hK13 => ?_
 refine wc_of_dr (dr_of_wd fun w32 hxz => ?_)
 replace hst := hst.grow hxz
 refine wd_sub (k := 0) 8 [5, 7] hfr ?_
 replace hfr : Fr 205 [(0, _), (1, _), (2, _), (3, _), (4, _), (5, _), (6, _), (7, _), (8, _), (9, _), (10, _), (11, _), (12, _), (13, _), (14, _), (15, _), (16, _), (17, _)] [] a := hfr.pick [0, 1, 2, 3, 4, 5, 6, 7, 8, 9, 10, 11, 12, 13, 14, 15, 16, 17]
 refine wc_phases_new 6 7 54 [iv 0, iv 0, iv 0] [iv 0, iv 0, iv 0] 8 [[], [], [0, 1], [2], [3], [3], [], [4, 6]] (fun i => match i with | 0 => pv (.agg #[iv 100, iv 50, iv 200, iv 300]) | 1 => pv (.agg #[iv 55, iv 1, iv 2, iv 9, iv 1000, .bool false]) | 2 => pv (.tuple #[.agg #[iv 0, iv 0, iv 0], iv 160]) | 3 => pv (.tuple #[.agg #[iv 0, iv 0, iv 0], iv 160]) | 4 => pv (.agg #[iv 0, iv 0, iv 0]) | 5 => pv (iv 160) | 6 => fun v E => ∃ b, v = ptr b ∧ E = [] | 7 => fun v E => v = undef ∧ E = [] | _ => fun _ _ => False) hfr (H := [own v5 54 3 ([[iv 1, iv 1000, iv 1100], [iv 2, iv 1050, iv 1250], [iv 3, iv 1050, iv 1100], [iv 7, iv 1099, iv (-1)]]), own v3 3 1 ([]), own v1 3 1 ([[iv 0]]), own (.slice (some ⟨w6.heap.size, 0, none⟩) 3 3) 39 3 ([[iv 2, iv 1050, iv 3], [iv 3, iv 1050, iv 0], [iv 5, iv 1099, iv 0]]), own (.slice (some ⟨w5.heap.size, 0, none⟩) 1 1) 39 3 ([[iv 2, iv 1100, iv 1]]), own (.slice (some ⟨w4.heap.size, 0, none⟩) 1 1) 39 3 ([[iv 2, iv 1050, iv 1]]), own (.slice (some ⟨w3.heap.size, 0, none⟩) 1 1) 39 3 ([[iv 2, iv 1099, iv 3]]), blk w1.heap.size [iv 55, iv 1, iv 2, iv 9, iv 1000, .bool false] 33]) hst (by kernel_rfl) (by kernel_rfl) (by kernel_rfl) (by kernel_rfl) (by decide) (by decide) (by decide) (by decide) (by decide) ?_ (fun v E h => h) ⟨rfl, rfl⟩ (fun v E => Iff.rfl) ?_ ?_ ?_ ?_
 ·intro i v E h
  match i, h with
  | 0, _ => exact by decide
  | 1, _ => exact by decide
  | 2, _ => exact by decide
  | 3, _ => exact by decide
  | 4, _ => exact by decide
  | 5, _ => exact by decide
  | 6, _ => exact by decide
  | 7, _ => exact by decide
  | i + 8, h => exact h.elim
 ·intro i hi hia hij e
  match i, hi, hia, hij with
  | 0, _, _, _ =>
   intro w hst
   exact g_callp Try.call17 rfl (exRules_ok _)
  | 1, _, _, _ =>
   intro w hst
   exact OpV.g (v_load_all (hst.get (k := 8) rfl) rfl (Try.isAgg33 _) (Try.sizeOf33 _))
  | 2, _, _, _ =>
   rintro _ _ ⟨rfl, rfl⟩ _ _ ⟨rfl, rfl⟩
   intro w hst
   exact g_callp Try.call13 rfl (outcome_no exR exC _ [] (-1) _ (slAt_nil _ _) (by kernel_rfl) (by kernel_rfl))
  | 3, _, _, _ =>
   rintro _ _ ⟨rfl, rfl⟩
   intro w hst
   exact OpV.g (v_move rfl)
  | 4, _, _, _ =>
   rintro _ _ ⟨rfl, rfl⟩
   intro w hst
   exact OpV.g (v_extract rfl rfl)
  | 5, _, _, _ =>
   rintro _ _ ⟨rfl, rfl⟩
   intro w hst
   exact OpV.g (v_extract rfl rfl)
  | 6, _, h, _ => exact absurd rfl h
  | 7, _, _, h => exact absurd rfl h
 ·exact fun Lv w => r_alloc (Try.zeroValue54 _)
 ·rintro _ _ ⟨rfl, rfl⟩ _ _ ⟨b7, rfl, rfl⟩
  intro b hb w h
  have hb : some (ptr b7) = some (ptr b) := hb
  cases hb
  exact r_storeU rfl rfl h (Try.sizeOf54 _) rfl (lb rfl) rfl
 clear hfr hst
 rintro bq _ _ ⟨⟨rfl, rfl⟩, -⟩ _ _ ⟨⟨rfl, rfl⟩, -⟩ _ _ ⟨⟨rfl, rfl⟩, -⟩ _ _ ⟨⟨rfl, rfl⟩, -⟩ _ _ ⟨⟨rfl, rfl⟩, -⟩ _ _ ⟨⟨rfl, rfl⟩, -⟩ _ _ ⟨⟨b7, rfl, rfl⟩, hva⟩ a w33 hfr hst
 obtain rfl : b7 = bq := ptr_inj (hva rfl)
 replace hfr : Fr 205 [(76, _), (77, _), (78, _), (75, _), (79, _), (80, _), (18, _), (0, _), (1, _), (2, _), (3, _), (4, _), (5, _), (6, _), (7, _), (8, _), (9, _), (10, _), (11, _), (12, _), (13, _), (14, _), (15, _), (16, _), (17, _)] [] a := hfr
 replace hst : St No w0 [blk b7 [iv 0, iv 0, iv 0] 54, own v5 54 3 ([[iv 1, iv 1000, iv 1100], [iv 2, iv 1050, iv 1250], [iv 3, iv 1050, iv 1100], [iv 7, iv 1099, iv (-1)]]), own v3 3 1 ([]), own v1 3 1 ([[iv 0]]), own (.slice (some ⟨w6.heap.size, 0, none⟩) 3 3) 39 3 ([[iv 2, iv 1050, iv 3], [iv 3, iv 1050, iv 0], [iv 5, iv 1099, iv 0]]), own (.slice (some ⟨w5.heap.size, 0, none⟩) 1 1) 39 3 ([[iv 2, iv 1100, iv 1]]), own (.slice (some ⟨w4.heap.size, 0, none⟩) 1 1) 39 3 ([[iv 2, iv 1050, iv 1]]), own (.slice (some ⟨w3.heap.size, 0, none⟩) 1 1) 39 3 ([[iv 2, iv 1099, iv 3]]), blk w1.heap.size [iv 55, iv 1, iv 2, iv 9, iv 1000, .bool false] 33] w33 := hst
 refine wl_nil ?_
 refine wd_lin (k := 8) 9 [8] ?_
 refine wla hfr rfl fun a hfr => ?_
 refine wl_nil ?_
 refine wd_end ?_
 refine hK13 _ _ ?_
 replace hfr : Fr 205 [(0, _), (1, _), (2, _), (3, _), (4, _), (5, _), (6, _), (7, _), (8, _), (9, _), (10, _), (11, _), (12, _), (13, _), (14, _), (15, _), (16, _), (17, _), (19, _)] [] a := hfr.pick [0, 1, 2, 3, 4, 5, 6, 7, 8, 9, 10, 11, 12, 13, 14, 15, 16, 17, 19]
 replace hst : St No w0 [_, _, _, _, _, _, _, _] w33 := hst.mask [false, true, true, true, true, true, true, true, true]
 refine wc_seq_region fun K14 hK14 => ?_
 refine wlm hfr rfl fun a hfr => ?_
 refine wlv hfr ((v_eq rfl rfl).asb (b' := true) rfl) fun a hfr => wlm hfr rfl fun a hfr => wly hfr (v_move rfl) fun a hfr => wly hfr ((v_eq rfl rfl).asb (b' := true) rfl) fun a hfr => ?_
 refine wlv hfr (v_pick_t rfl rfl) fun a hfr => wlm hfr rfl fun a hfr => wly hfr (v_move rfl) fun a hfr => wly hfr ((v_eq rfl rfl).asb (b' := true) rfl) fun a hfr => ?_
 refine wlv hfr (v_pick_t rfl rfl) fun a hfr => wlm hfr rfl fun a hfr => wly hfr (v_move rfl) fun a hfr => wly hfr ((v_eq rfl rfl).asb (b' := true) rfl) fun a hfr => ?_
 refine wlv hfr (v_pick_t rfl rfl) fun a hfr => wlm hfr rfl fun a hfr => wly hfr (v_move rfl) fun a hfr => wly hfr ((v_eq rfl rfl).asb (b' := true) rfl) fun a hfr => ?_
 refine wlv hfr (v_pick_t rfl rfl) fun a hfr => wlm hfr rfl fun a hfr => wly hfr (v_move rfl) fun a hfr => wly hfr ((v_eq rfl rfl).asb (b' := true) rfl) fun a hfr => ?_
 refine wlv hfr (v_pick_t rfl rfl) fun a hfr => wlm hfr rfl fun a hfr => wly hfr (v_move rfl) fun a hfr => wly hfr ((v_eq rfl rfl).asb (b' := true) rfl) fun a hfr => ?_
 refine wlv hfr (v_pick_t rfl rfl) fun a hfr => wla hfr rfl fun a hfr => ?_
 refine wl_nil (hK14 _ _ ?_)
 replace hfr : Fr 205 [(0, _), (1, _), (2, _), (3, _), (4, _), (5, _), (6, _), (8, _), (10, _), (12, _), (14, _), (16, _), (20, _)] [] a := hfr.pick [0, 1, 2, 3, 4, 5, 6, 8, 10, 12, 14, 16, 20]
 refine wc_seq_region fun K15 hK15 => ?_
 refine wl_callp hfr hst Try.call20 rfl (ret_lit (y := .bool true) (is_ok (.slice none 0 0) [] 999 0 0 1000 _ (slAt_nil _ _) (by kernel_rfl) (by kernel_rfl)) (by kernel_rfl)) ?_
 clear hfr hst
 intro a w34 hfr hst
 refine wlm hfr rfl fun a hfr => ?_
 refine wl_callpy hfr hst Try.call20 rfl (ret_lit (y := .bool true) (is_ok (.slice none 0 0) [] 1099 1 1000 1100 _ (slAt_nil _ _) (by kernel_rfl) (by kernel_rfl)) (by kernel_rfl)) ?_
 clear hfr hst
 intro a w35 hfr hst
 refine wlv hfr (v_pick_t rfl rfl) fun a hfr => wlm hfr rfl fun a hfr => ?_
 refine wl_callpy hfr hst Try.call20 rfl (ret_lit (y := .bool true) (is_ok (.slice none 0 0) [] 1100 3 1100 1150 _ (slAt_nil _ _) (by kernel_rfl) (by kernel_rfl)) (by kernel_rfl)) ?_
 clear hfr hst
 intro a w36 hfr hst
 refine wlv hfr (v_pick_t rfl rfl) fun a hfr => wlm hfr rfl fun a hfr => ?_
 refine wl_callpy hfr hst Try.call20 rfl (ret_lit (y := .bool true) (is_ok (.slice none 0 0) [] 1150 4 1150 1450 _ (slAt_nil _ _) (by kernel_rfl) (by kernel_rfl)) (by kernel_rfl)) ?_
 clear hfr hst
 intro a w37 hfr hst
 refine wlv hfr (v_pick_t rfl rfl) fun a hfr => wlm hfr rfl fun a hfr => ?_
 refine wl_callpy hfr hst Try.call20 rfl (ret_lit (y := .bool true) (is_ok (.slice none 0 0) [] 1450 5 1450 (-1) _ (slAt_nil _ _) (by kernel_rfl) (by kernel_rfl)) (by kernel_rfl)) ?_
 clear hfr hst
 intro a w38 hfr hst
 refine wlv hfr (v_pick_t rfl rfl) fun a hfr => wla hfr rfl fun a hfr => ?_
 refine wl_nil (hK15 _ _ ?_)
 replace hfr : Fr 205 [(0, _), (1, _), (2, _), (3, _), (4, _), (5, _), (6, _), (8, _), (10, _), (12, _), (14, _), (16, _), (20, _), (21, _)] [] a := hfr.pick [0, 1, 2, 3, 4, 5, 6, 8, 10, 12, 14, 16, 20, 21]
 refine wc_seq_region fun K16 hK16 => ?_
 refine wlv hfr (v_build (v := .agg #[iv 1, iv 1010, iv 0]) rfl (by kernel_rfl)) fun a hfr => ?_
 refine wl_buildSlice (E := 39) (sz := 3) rfl [[iv 1, iv 1010, iv 0]] (by kernel_rfl) (by simp) rfl (by decide) (by decide) hfr hst ?_
 clear hfr hst
 intro a w39 hfr hst
 refine wl_callp hfr hst Try.call20 rfl (ret_lit (y := .bool true) (is_ok (.slice (some ⟨w38.heap.size, 0, none⟩) 1 1) [⟨1, 1010, 0⟩] 1060 4 1060 1360 _ (hst.ownAt (i := 0) rfl) (by kernel_rfl) (by kernel_rfl)) (by kernel_rfl)) ?_
 clear hfr hst
 intro a w40 hfr hst
 refine wlm hfr rfl fun a hfr => wly hfr (v_move rfl) fun a hfr => ?_
 refine wl_callpy hfr hst Try.call20 rfl (ret_lit (y := .bool true) (is_ok (.slice (some ⟨w3.heap.size, 0, none⟩) 1 1) [⟨2, 1099, 3⟩] 1648 4 1349 1649 _ (hst.ownAt (i := 7) rfl) (by kernel_rfl) (by kernel_rfl)) (by kernel_rfl)) ?_
 clear hfr hst
 intro a w41 hfr hst
 refine wlv hfr (v_pick_t rfl rfl) fun a hfr => wlm hfr rfl fun a hfr => wly hfr (v_move rfl) fun a hfr => ?_
 refine wl_callpy hfr hst Try.call20 rfl (ret_lit (y := .bool true) (is_ok (.slice (some ⟨w3.heap.size, 0, none⟩) 1 1) [⟨2, 1099, 3⟩] 1649 5 1649 (-1) _ (hst.ownAt (i := 7) rfl) (by kernel_rfl) (by kernel_rfl)) (by kernel_rfl)) ?_
 clear hfr hst
 intro a w42 hfr hst
 refine wlv hfr (v_pick_t rfl rfl) fun a hfr => wlm hfr rfl fun a hfr => wly hfr (v_move rfl) fun a hfr => ?_
 refine wl_callpy hfr hst Try.call20 rfl (ret_lit (y := .bool true) (is_ok (.slice (some ⟨w4.heap.size, 0, none⟩) 1 1) [⟨2, 1050, 1⟩] 1050 6 1050 (-1) _ (hst.ownAt (i := 6) rfl) (by kernel_rfl) (by kernel_rfl)) (by kernel_rfl)) ?_
 clear hfr hst
 intro a w43 hfr hst
 refine wlv hfr (v_pick_t rfl rfl) fun a hfr => wlm hfr rfl fun a hfr => wly hfr (v_move rfl) fun a hfr => ?_
 refine wl_callpy hfr hst Try.call20 rfl (ret_lit (y := .bool true) (is_ok (.slice (some ⟨w5.heap.size, 0, none⟩) 1 1) [⟨2, 1100, 1⟩] 1100 3 1100 1150 _ (hst.ownAt (i := 5) rfl) (by kernel_rfl) (by kernel_rfl)) (by kernel_rfl)) ?_
 clear hfr hst
 intro a w44 hfr hst
 refine wlv hfr (v_pick_t rfl rfl) fun a hfr => wlm hfr rfl fun a hfr => wly hfr (v_move rfl) fun a hfr => ?_
 refine wl_callpy hfr hst Try.call20 rfl (ret_lit (y := .bool true) (is_ok (.slice (some ⟨w6.heap.size, 0, none⟩) 3 3) [⟨2, 1050, 3⟩, ⟨3, 1050, 0⟩, ⟨5, 1099, 0⟩] 1200 7 1099 (-1) _ (hst.ownAt (i := 4) rfl) (by kernel_rfl) (by kernel_rfl)) (by kernel_rfl)) ?_
 clear hfr hst
 intro a w45 hfr hst
 refine wlv hfr (v_pick_t rfl rfl) fun a hfr => wla hfr rfl fun a hfr => ?_
 refine wl_nil (hK16 _ _ ?_)
 replace hfr : Fr 205 [(0, _), (1, _), (5, _), (6, _), (8, _), (10, _), (12, _), (14, _), (16, _), (20, _), (21, _), (22, _)] [] a := hfr.pick [0, 1, 5, 6, 8, 10, 12, 14, 16, 20, 21, 22]
 replace hst : St No w0 [_, _, _, _, _] w45 := hst.mask [false, true, true, true, true, false, false, false, true]
 refine wc_seq_region fun K17 hK17 => ?_
 refine wlv hfr (v_build (v := .agg #[iv 6, iv 1449, iv 2]) rfl (by kernel_rfl)) fun a hfr => ?_
 refine wl_buildSlice (E := 39) (sz := 3) rfl [[iv 6, iv 1449, iv 2]] (by kernel_rfl) (by simp) rfl (by decide) (by decide) hfr hst ?_
 clear hfr hst
 intro a w46 hfr hst
 refine wl_callp hfr hst Try.call20 rfl (ret_lit (y := .bool true) (is_ok (.slice (some ⟨w45.heap.size, 0, none⟩) 1 1) [⟨6, 1449, 2⟩] 1449 8 1449 (-1) _ (hst.ownAt (i := 0) rfl) (by kernel_rfl) (by kernel_rfl)) (by kernel_rfl)) ?_
 clear hfr hst
 intro a w47 hfr hst
 refine wlm hfr rfl fun a hfr => wly hfr (v_build (v := .agg #[iv 6, iv 1450, iv 2]) rfl (by kernel_rfl)) fun a hfr => ?_
 refine wl_open hfr ?_
 refine wl_buildSlice (E := 39) (sz := 3) rfl [[iv 6, iv 1450, iv 2]] (by kernel_rfl) (by simp) rfl (by decide) (by decide) hfr hst ?_
 clear hfr hst
 intro a w48 hfr hst
 refine wl_callpy hfr hst Try.call20 rfl (ret_lit (y := .bool true) (is_ok (.slice (some ⟨w47.heap.size, 0, none⟩) 1 1) [⟨6, 1450, 2⟩] 1450 5 1450 (-1) _ (hst.ownAt (i := 0) rfl) (by kernel_rfl) (by kernel_rfl)) (by kernel_rfl)) ?_
 clear hfr hst
 intro a w49 hfr hst
 refine wlv hfr (v_pick_t rfl rfl) fun a hfr => wla hfr rfl fun a hfr => ?_
 refine wl_nil (hK17 _ _ ?_)
 replace hfr : Fr 205 [(0, _), (1, _), (5, _), (6, _), (8, _), (10, _), (12, _), (14, _), (16, _), (20, _), (21, _), (22, _), (23, _)] [] a := hfr.pick [0, 1, 5, 6, 8, 10, 12, 14, 16, 20, 21, 22, 23]
 replace hst : St No w0 [_, _, _, _, _] w49 := hst.mask [false, false, true, true, true, true, true]
 refine wc_seq_region fun K18 hK18 => ?_
 refine wlm hfr rfl fun a hfr => ?_
 refine wlv hfr (v_build (v := .agg #[iv 1, iv 1000, iv 1100]) rfl (by kernel_rfl)) fun a hfr => ?_
 refine wlv hfr (v_build (v := .agg #[iv 2, iv 1050, iv 1250]) rfl (by kernel_rfl)) fun a hfr => ?_
 refine wlv hfr (v_build (v := .agg #[iv 3, iv 1050, iv 1100]) rfl (by kernel_rfl)) fun a hfr => ?_
 refine wlv hfr (v_build (v := .agg #[iv 7, iv 1099, iv (-1)]) rfl (by kernel_rfl)) fun a hfr => ?_
 refine wl_buildSlice (E := 54) (sz := 3) rfl [[iv 1, iv 1000, iv 1100], [iv 2, iv 1050, iv 1250], [iv 3, iv 1050, iv 1100], [iv 7, iv 1099, iv (-1)]] (by kernel_rfl) (by simp) rfl (by decide) (by decide) hfr hst ?_
 clear hfr hst
 intro a w50 hfr hst
 refine wl_callp hfr hst Try.call21 rfl (ret_lit (y := .bool true) (sameTimeline_ok [⟨1, 1000, 1100⟩, ⟨2, 1050, 1250⟩, ⟨3, 1050, 1100⟩, ⟨7, 1099, -1⟩] [⟨1, 1000, 1100⟩, ⟨2, 1050, 1250⟩, ⟨3, 1050, 1100⟩, ⟨7, 1099, -1⟩] v5 (.slice (some ⟨w49.heap.size, 0, none⟩) 4 4) _ (hst.ownAt (i := 1) rfl) (hst.ownAt (i := 0) rfl)) (by kernel_rfl)) ?_
 clear hfr hst
 intro a w51 hfr hst
 refine wla hfr rfl fun a hfr => ?_
 refine wl_nil (hK18 _ _ ?_)
 replace hfr : Fr 205 [(0, _), (1, _), (5, _), (6, _), (8, _), (10, _), (14, _), (16, _), (20, _), (21, _), (22, _), (23, _), (24, _)] [] a := hfr.pick [0, 1, 5, 6, 8, 10, 14, 16, 20, 21, 22, 23, 24]
 replace hst : St No w0 [_, _, _, _] w51 := hst.mask [false, false, true, true, true, true]
 refine wc_seq_k fun K19 hK19 => ?_
 refine wc_of_dr (dr_of_wd fun w52 hxz => ?_)
 replace hst := hst.grow hxz
 refine wd_lin (k := 0) 18 [17] ?_
 refine wlm hfr rfl fun a hfr => wlm hfr rfl fun a hfr => wly hfr (v_move rfl) fun a hfr => ?_
 refine wlv hfr (v_pick_t rfl rfl) fun a hfr => wlm hfr rfl fun a hfr => wly hfr (v_move rfl) fun a hfr => ?_
 refine wlv hfr (v_pick_t rfl rfl) fun a hfr => wlm hfr rfl fun a hfr => wly hfr (v_move rfl) fun a hfr => ?_
 refine wlv hfr (v_pick_t rfl rfl) fun a hfr => wlm hfr rfl fun a hfr => wly hfr (v_move rfl) fun a hfr => ?_
 refine wlv hfr (v_pick_t rfl rfl) fun a hfr => wlm hfr rfl fun a hfr => wly hfr (v_move rfl) fun a hfr => wly hfr ((v_eq rfl rfl).asb (b' := true) rfl) fun a hfr => ?_
 refine wlv hfr (v_pick_t rfl rfl) fun a hfr => wlm hfr rfl fun a hfr => ?_
 refine wl_nil ?_
 refine wd_sub (k := 18) 20 [18, 19] hfr ?_
 replace hfr : Fr 205 [(0, _), (1, _), (5, _), (6, _), (8, _), (10, _), (14, _), (16, _), (20, _), (21, _), (22, _), (23, _), (24, _), (158, _), (159, _), (160, _), (161, _), (162, _), (163, _), (164, _), (165, _), (166, _), (167, _), (168, _), (169, _), (170, _), (171, _), (172, _), (173, _), (174, _), (175, _)] [] a := hfr.pick [0, 1, 5, 6, 8, 10, 14, 16, 20, 21, 22, 23, 24, 158, 159, 160, 161, 162, 163, 164, 165, 166, 167, 168, 169, 170, 171, 172, 173, 174, 175]
 refine wc_phases' 2 [[], []] (fun i => match i with | 0 => pv (v1) | 1 => pm (fun b : Nat => .slice (some ⟨b, 0, none⟩) 1 1) (fun b => [own (.slice (some ⟨b, 0, none⟩) 1 1) 3 1 [[iv 0]]]) (fun _ => True) | _ => fun _ _ => False) hfr hst (by kernel_rfl) (by kernel_rfl) ?_ ?_
 ·intro i hi
  match i, hi with
  | 0, _ =>
   intro w hst
   exact OpV.g (v_move rfl)
  | 1, _ =>
   intro w hst
   exact g_buildSlice (E := 3) (sz := 1) rfl [[iv 0]] (fun _ => by kernel_rfl) (by simp) rfl (by decide)
 clear hfr hst
 rintro _ _ ⟨rfl, rfl⟩ _ _ ⟨b8, rfl, -, rfl⟩ a w53 hfr hst
 replace hfr : Fr 205 [(176, _), (177, _), (0, _), (1, _), (5, _), (6, _), (8, _), (10, _), (14, _), (16, _), (20, _), (21, _), (22, _), (23, _), (24, _), (158, _), (159, _), (160, _), (161, _), (162, _), (163, _), (164, _), (165, _), (166, _), (167, _), (168, _), (169, _), (170, _), (171, _), (172, _), (173, _), (174, _), (175, _)] [] a := hfr
 replace hst : St No w0 [_, _, _, _, _] w53 := hst
 refine wl_nil ?_
 refine wd_lin (k := 20) 36 [35] ?_
 refine wl_callpy hfr hst Try.call14 rfl (ret_lit (y := .bool true) (ints_ok [0] [0] v1 (.slice (some ⟨b8, 0, none⟩) 1 1) _ (hst.ownAt (i := 2) rfl) (hst.ownAt (i := 0) rfl)) (by kernel_rfl)) ?_
 clear hfr hst
 intro a w54 hfr hst
 refine wlv hfr (v_pick_t rfl rfl) fun a hfr => wlm hfr rfl fun a hfr => wly hfr (v_move rfl) fun a hfr => wly hfr ((v_len_sl (sT := 50) (hst.ownAt (i := 1) rfl) rfl rfl (Try.runUnderlying50 _)).asi (m' := 0) (by rfl)) fun a hfr => wly hfr ((v_eq rfl rfl).asb (b' := true) rfl) fun a hfr => ?_
 refine wlv hfr (v_pick_t rfl rfl) fun a hfr => wlm hfr rfl fun a hfr => wly hfr (v_move rfl) fun a hfr => wly hfr ((v_eq rfl rfl).asb (b' := true) rfl) fun a hfr => ?_
 refine wlv hfr (v_pick_t rfl rfl) fun a hfr => wlm hfr rfl fun a hfr => wly hfr (v_move rfl) fun a hfr => wly hfr ((v_eq rfl rfl).asb (b' := true) rfl) fun a hfr => ?_
 refine wlv hfr (v_pick_t rfl rfl) fun a hfr => wlm hfr rfl fun a hfr => ?_
 refine wl_nil ?_
 refine wd_sub (k := 36) 39 [36, 37, 38] hfr ?_
 replace hfr : Fr 205 [(0, _), (1, _), (5, _), (6, _), (8, _), (10, _), (14, _), (16, _), (20, _), (21, _), (22, _), (23, _), (24, _), (158, _), (159, _), (160, _), (161, _), (162, _), (163, _), (164, _), (165, _), (166, _), (167, _), (168, _), (169, _), (170, _), (171, _), (172, _), (173, _), (174, _), (175, _), (176, _), (177, _), (178, _), (179, _), (180, _), (181, _), (182, _), (183, _), (184, _), (185, _), (186, _), (187, _), (188, _), (189, _), (190, _), (191, _), (192, _), (193, _)] [] a := hfr.pick [0, 1, 5, 6, 8, 10, 14, 16, 20, 21, 22, 23, 24, 158, 159, 160, 161, 162, 163, 164, 165, 166, 167, 168, 169, 170, 171, 172, 173, 174, 175, 176, 177, 178, 179, 180, 181, 182, 183, 184, 185, 186, 187, 188, 189, 190, 191, 192, 193]
 refine wc_phases' 3 [[], [], []] (fun i => match i with | 0 => pv (.agg #[iv 100, iv 50, iv 200, iv 300]) | 1 => pv (.agg #[iv 55, iv 1, iv 2, iv 9, iv 1000, .bool false]) | 2 => pv ((.slice (some ⟨w6.heap.size, 0, none⟩) 3 3)) | _ => fun _ _ => False) hfr hst (by kernel_rfl) (by kernel_rfl) ?_ ?_
 ·intro i hi
  match i, hi with
  | 0, _ =>
   intro w hst
   exact g_callp Try.call17 rfl (exRules_ok _)
  | 1, _ =>
   intro w hst
   exact OpV.g (v_load_all (hst.get (k := 4) rfl) rfl (Try.isAgg33 _) (Try.sizeOf33 _))
  | 2, _ =>
   intro w hst
   exact OpV.g (v_move rfl)
 clear hfr hst
 rintro _ _ ⟨rfl, rfl⟩ _ _ ⟨rfl, rfl⟩ _ _ ⟨rfl, rfl⟩ a w55 hfr hst
 replace hfr : Fr 205 [(194, _), (195, _), (196, _), (0, _), (1, _), (5, _), (6, _), (8, _), (10, _), (14, _), (16, _), (20, _), (21, _), (22, _), (23, _), (24, _), (158, _), (159, _), (160, _), (161, _), (162, _), (163, _), (164, _), (165, _), (166, _), (167, _), (168, _), (169, _), (170, _), (171, _), (172, _), (173, _), (174, _), (175, _), (176, _), (177, _), (178, _), (179, _), (180, _), (181, _), (182, _), (183, _), (184, _), (185, _), (186, _), (187, _), (188, _), (189, _), (190, _), (191, _), (192, _), (193, _)] [] a := hfr
 replace hst : St No w0 [_, _, _, _, _] w55 := hst
 refine wl_nil ?_
 refine wd_lin (k := 39) 42 [41] ?_
 refine wl_callpy hfr hst Try.call22 rfl (ret_lit (y := .bool true) (valid_ok exR exC (.slice (some ⟨w6.heap.size, 0, none⟩) 3 3) [⟨2, 1050, 3⟩, ⟨3, 1050, 0⟩, ⟨5, 1099, 0⟩] _ (hst.ownAt (i := 3) rfl)) (by kernel_rfl)) ?_
 clear hfr hst
 intro a w56 hfr hst
 refine wlv hfr (v_pick_t rfl rfl) fun a hfr => wlm hfr rfl fun a hfr => ?_
 refine wl_nil ?_
 refine wd_sub (k := 42) 44 [42, 43] hfr ?_
 replace hfr : Fr 205 [(0, _), (1, _), (5, _), (6, _), (8, _), (10, _), (14, _), (16, _), (20, _), (21, _), (22, _), (23, _), (24, _), (158, _), (159, _), (160, _), (161, _), (162, _), (163, _), (164, _), (165, _), (166, _), (167, _), (168, _), (169, _), (170, _), (171, _), (172, _), (173, _), (174, _), (175, _), (176, _), (177, _), (178, _), (179, _), (180, _), (181, _), (182, _), (183, _), (184, _), (185, _), (186, _), (187, _), (188, _), (189, _), (190, _), (191, _), (192, _), (193, _), (194, _), (195, _), (196, _), (197, _), (198, _), (199, _)] [] a := hfr.pick [0, 1, 5, 6, 8, 10, 14, 16, 20, 21, 22, 23, 24, 158, 159, 160, 161, 162, 163, 164, 165, 166, 167, 168, 169, 170, 171, 172, 173, 174, 175, 176, 177, 178, 179, 180, 181, 182, 183, 184, 185, 186, 187, 188, 189, 190, 191, 192, 193, 194, 195, 196, 197, 198, 199]
 refine wc_phases' 2 [[], []] (fun i => match i with | 0 => pv (.agg #[iv 0, iv 0, iv 0, iv 0]) | 1 => pv (.agg #[iv 55, iv 1, iv 2, iv 9, iv 1000, .bool false]) | _ => fun _ _ => False) hfr hst (by kernel_rfl) (by kernel_rfl) ?_ ?_
 ·intro i hi
  match i, hi with
  | 0, _ =>
   intro w hst
   exact OpV.g (v_build (v := .agg #[iv 0, iv 0, iv 0, iv 0]) rfl (by kernel_rfl))
  | 1, _ =>
   intro w hst
   exact OpV.g (v_load_all (hst.get (k := 4) rfl) rfl (Try.isAgg33 _) (Try.sizeOf33 _))
 clear hfr hst
 rintro _ _ ⟨rfl, rfl⟩ _ _ ⟨rfl, rfl⟩ a w57 hfr hst
 replace hfr : Fr 205 [(200, _), (201, _), (0, _), (1, _), (5, _), (6, _), (8, _), (10, _), (14, _), (16, _), (20, _), (21, _), (22, _), (23, _), (24, _), (158, _), (159, _), (160, _), (161, _), (162, _), (163, _), (164, _), (165, _), (166, _), (167, _), (168, _), (169, _), (170, _), (171, _), (172, _), (173, _), (174, _), (175, _), (176, _), (177, _), (178, _), (179, _), (180, _), (181, _), (182, _), (183, _), (184, _), (185, _), (186, _), (187, _), (188, _), (189, _), (190, _), (191, _), (192, _), (193, _), (194, _), (195, _), (196, _), (197, _), (198, _), (199, _)] [] a := hfr
 replace hst : St No w0 [_, _, _, _, _] w57 := hst
 refine wl_nil ?_
 refine wd_lin (k := 44) 48 [47] ?_
 refine wl_callpy hfr hst Try.call22 rfl (ret_lit (y := .bool false) (valid_ok ⟨0, 0, 0, 0⟩ exC (.slice none 0 0) [] _ (slAt_nil _ _)) (by kernel_rfl)) ?_
 clear hfr hst
 intro a w58 hfr hst
 refine wly hfr ((v_not rfl).asb (b' := true) rfl) fun a hfr => ?_
 refine wlv hfr (v_pick_t rfl rfl) fun a hfr => wla hfr rfl fun a hfr => ?_
 refine wl_nil ?_
 refine wd_end ?_
 refine hK19 _ _ ?_
 replace hfr : Fr 205 [(0, _)] [] a := hfr.pick [0]
 replace hst : St No w0 [] w58 := hst.mask [false, false, false, false, false]
 refine wc_ret ?_
 refine fin_ret hfr Try.results4 (resAre_tmp rfl resAre_nil) ?_
 exact ⟨by rfl, hst.ext⟩
end Go.Proofs.Ytnfnkohkcmkddaa
namespace Go.Proofs.Ytnfnkohkcmkddaa
set_option linter.unusedVariables false
set_option linter.unusedSimpArgs false
theorem begins1 (r : Rul) (s : Int) : begins r 1 s = ⟨1, s, s + r.answer⟩ := rfl
theorem begins3 (r : Rul) (s : Int) : begins r 3 s = ⟨3, s, s + r.cooling⟩ := rfl
theorem begins4 (r : Rul) (s : Int) : begins r 4 s = ⟨4, s, s + r.reverse⟩ := rfl
theorem begins5 (r : Rul) (s : Int) : begins r 5 s = ⟨5, s, -1⟩ := rfl
theorem begins8 (r : Rul) (s : Int) : begins r 8 s = ⟨8, s, -1⟩ := rfl
theorem due3 : dueNext 3 = 4 := rfl
theorem due4 : dueNext 4 = 5 := rfl
theorem aloneF_shut {n : Nat} {r : Rul} {u : Int} {s t : Int} : aloneF n r u ⟨s, t, -1⟩ = [] := aloneF_neg (by simp)
theorem aloneF_4 {n : Nat} {r : Rul} {u s : Int} (h0 : 0 ≤ s + r.reverse) (h : s + r.reverse ≤ u) : aloneF (n + 1) r u ⟨4, s, s + r.reverse⟩ = [⟨5, s + r.reverse, -1⟩] := by
 rw [aloneF_pos h0 h]; rw [due4, begins5, aloneF_shut]
theorem aloneF_3 {n : Nat} {r : Rul} {u s : Int} (hs : 0 ≤ s) (h1 : 0 ≤ r.cooling) (h2 : 0 ≤ r.reverse) (h : s + r.cooling + r.reverse ≤ u) : aloneF (n + 2) r u ⟨3, s, s + r.cooling⟩ = [⟨4, s + r.cooling, s + r.cooling + r.reverse⟩, ⟨5, s + r.cooling + r.reverse, -1⟩] := by
 rw [aloneF_pos (by simp only; omega) (by simp only; omega)]; rw [due3, begins4, aloneF_4 (by omega) h]
theorem alone_wait {r : Rul} {u s t n : Int} (h : u < n) : alone r u ⟨s, t, n⟩ = [] := aloneF_neg (by simp only; omega)
theorem runE_yes {r : Rul} {b : Bool} {i : Nat} {now now1 : Stt} {l : List Evt} {x : Evt} (hn : lastOf now (alone r x.at_ now) = now1) (ha : (after b now1.state x).2 = true) :
  runE r b i now (x :: l) = (alone r x.at_ now ++ begins r (after b now1.state x).1 x.at_ :: (runE r b (i + 1) (begins r (after b now1.state x).1 x.at_) l).1, (runE r b (i + 1) (begins r (after b now1.state x).1 x.at_) l).2) := by
 rw [runE]; simp only [hn, ha, if_true]
theorem runE_no {r : Rul} {b : Bool} {i : Nat} {now now1 : Stt} {l : List Evt} {x : Evt} (hn : lastOf now (alone r x.at_ now) = now1) (ha : (after b now1.state x).2 = false) :
  runE r b i now (x :: l) = (alone r x.at_ now ++ (runE r b (i + 1) now1 l).1, (i : Int) :: (runE r b (i + 1) now1 l).2) := by
 rw [runE]; simp only [hn, ha]; rfl
theorem after_consent (b : Bool) (t : Int) : after b 1 ⟨1, t, 0⟩ = (3, true) := by simp [after, effect]
theorem after_reverse {b : Bool} {t q : Int} (hq : q ≠ 1) : after b 4 ⟨6, t, q⟩ = (8, true) := by simp [after, effect, hq]
theorem takeW_pos {t : Int} {a : Stt} {l : List Stt} (h : a.since ≤ t) : (a :: l).takeWhile (fun s => decide (s.since ≤ t)) = a :: l.takeWhile (fun s => decide (s.since ≤ t)) := List.takeWhile_cons_of_pos (by simpa using h)
theorem takeW_neg {t : Int} {a : Stt} {l : List Stt} (h : t < a.since) : (a :: l).takeWhile (fun s => decide (s.since ≤ t)) = [] := List.takeWhile_cons_of_neg (by simpa using h)
section
variable {r : Rul} {c : Clm} {l : List Evt} {t : Int}
theorem out2 {s1 s2 s3 : Stt} {q : List Stt} (h : statuses r c l = s1 :: s2 :: s3 :: q) (h1 : s1.since ≤ t) (h2 : s2.since ≤ t) (h3 : t < s3.since) : outcome r c l t = s2 := by
 rw [outcome, h, takeW_pos h1, takeW_pos h2, takeW_neg h3]; rfl
theorem out3 {s1 s2 s3 s4 : Stt} {q : List Stt} (h : statuses r c l = s1 :: s2 :: s3 :: s4 :: q) (h1 : s1.since ≤ t) (h2 : s2.since ≤ t) (h3 : s3.since ≤ t) (h4 : t < s4.since) : outcome r c l t = s3 := by
 rw [outcome, h, takeW_pos h1, takeW_pos h2, takeW_pos h3, takeW_neg h4]; rfl
theorem out4e {s1 s2 s3 s4 : Stt} (h : statuses r c l = [s1, s2, s3, s4]) (h1 : s1.since ≤ t) (h2 : s2.since ≤ t) (h3 : s3.since ≤ t) (h4 : s4.since ≤ t) : outcome r c l t = s4 := by
 rw [outcome, h, takeW_pos h1, takeW_pos h2, takeW_pos h3, takeW_pos h4]; rfl
end
theorem valid_two {r : Rul} {c : Clm} {e f : Evt} (hr : areValid r = true) (hc : isClaim c = true) (he : badEvt c.asked e = false) (hf : badEvt e.at_ f = false) : valid r c [e, f] = true := by simp [valid, hr, hc, anyBad, he, hf]
def bnd (r : Rul) (c : Clm) (s : Int) : Int :=
 if s = 1 then c.asked else if s = 2 then c.asked + r.answer - 1 else if s = 3 then c.asked + r.answer - 1 + r.settle else if s = 4 then c.asked + r.answer - 1 + r.settle + r.cooling else ends r c
def Tame (r : Rul) (c : Clm) (now : Stt) : Prop := Sound r now ∧ now.since ≤ bnd r c now.state ∧ (1 ≤ now.state ∧ now.state ≤ 8)
theorem Tame.step {r : Rul} {c : Clm} {now : Stt} (hr : areValid r = true) (h : Tame r c now) (h0 : 0 ≤ now.next) : Tame r c (begins r (dueNext now.state) now.next) := by
 have hb := areValid_le hr
 obtain ⟨hs, ht, hlo, hhi⟩ := h
 have hk := hs.step hr h0
 refine ⟨hk.1, ?_⟩
 have hn : now.next = (begins r now.state now.since).next := by rw [← hs.1]
 simp only [begins, dueSec, dueNext, bnd, ends] at *
 by_cases e1 : now.state = 1
 ·simp [e1] at *; omega
 by_cases e2 : now.state = 2
 ·simp [e2] at *; omega
 by_cases e3 : now.state = 3
 ·simp [e3] at *; omega
 by_cases e4 : now.state = 4
 ·simp [e4] at *; omega
 ·simp [e1, e2, e3, e4] at hn; omega
theorem effect_some {k s n : Int} (h : effect k s = some n) : (k = 1 ∧ s = 1 ∧ n = 3) ∨ (k = 2 ∧ s = 1 ∧ n = 2) ∨ (k = 3 ∧ s = 2 ∧ n = 3) ∨ (k = 4 ∧ s = 2 ∧ n = 6) ∨ (k = 5 ∧ s = 1 ∧ n = 7) ∨ (k = 5 ∧ s = 2 ∧ n = 7) ∨ (k = 5 ∧ s = 3 ∧ n = 7) ∨ (k = 6 ∧ s = 4 ∧ n = 8) := by
 unfold effect at h
 repeat' split at h
 all_goals (first | (cases h; omega) | cases h)
end Go.Proofs.Ytnfnkohkcmkddaa
namespace Go.Proofs.Ytnfnkohkcmkddaa
open Go.RowKit Go.PW
set_option linter.unusedVariables false
set_option linter.unusedSimpArgs false
set_option maxRecDepth 4000
theorem len3 {α : Type} {l : List α} (h : l.length = 3) : ∃ a0 a1 a2, l = [a0, a1, a2] := by
 match l, h with
 | [a0, a1, a2], _ => exact ⟨_, _, _, rfl⟩
theorem len4 {α : Type} {l : List α} (h : l.length = 4) : ∃ a0 a1 a2 a3, l = [a0, a1, a2, a3] := by
 match l, h with
 | [a0, a1, a2, a3], _ => exact ⟨_, _, _, _, rfl⟩
theorem len6 {α : Type} {l : List α} (h : l.length = 6) : ∃ a0 a1 a2 a3 a4 a5, l = [a0, a1, a2, a3, a4, a5] := by
 match l, h with
 | [a0, a1, a2, a3, a4, a5], _ => exact ⟨_, _, _, _, _, _, rfl⟩
theorem len11 {α : Type} {l : List α} (h : l.length = 11) : ∃ a0 a1 a2 a3 a4 a5 a6 a7 a8 a9 a10, l = [a0, a1, a2, a3, a4, a5, a6, a7, a8, a9, a10] := by
 match l, h with
 | [a0, a1, a2, a3, a4, a5, a6, a7, a8, a9, a10], _ => exact ⟨_, _, _, _, _, _, _, _, _, _, _, rfl⟩
open Go.ChangeShapes Go.WideShapes Go.ChangeAt
section
variable {H : Type} {enc : TypeId × Value → H} {W : World} {base b0 : Nat} {sp : Nat → Bool} {hd : Bool} {v : Value} {d : DataW H} {ps : List MemPlace} {r : Reach}
theorem i64_is {n : Int} (h : i64 n) : isI64 n := h
theorem open_tris {t : TypeId} (ht : Try.prog.underlying t = some (.slice 71)) {fuel : Nat} {x : DataW H × List MemPlace} (hok : Cell.okWide Try.prog W r b0 t v) (hw : Wt Try.prog t x.1) (h : DataW.trod enc Try.prog W base sp hd fuel t [v] = some x) :
  ∃ xs : List Tri, SlAt W v 3 (xs.map Tri.cells) ∧ ∀ k, k < xs.length → (xs.getD k ⟨0, 0, 0⟩).fits := by
 obtain ⟨els, h1, h2⟩ := trod_sl 3 ht (by kernel_rfl) (by decide) (of_decide_eq_true (by kernel_rfl)) hok hw h
 obtain ⟨xs, h3, h4⟩ := sl_map (f := Tri.cells) (q := Tri.fits) h1 fun i hi => by
  obtain ⟨n, y, hy, _⟩ := h2 i hi
  obtain ⟨zs, hz, he, hw⟩ := trod_ints 3 Try.underlying71 Try.underlying3 (by kernel_rfl) hy (h1.1 _ (List.getElem_mem hi))
  obtain ⟨z0, z1, z2, rfl⟩ := len3 hz
  exact ⟨⟨z0, z1, z2⟩, he, i64_is (hw z0 (by simp)), i64_is (hw z1 (by simp)), i64_is (hw z2 (by simp))⟩
 refine ⟨xs, h3, fun k hk => ?_⟩
 rw [List.getD_eq_getElem?_getD, List.getElem?_eq_getElem hk, Option.getD_some]
 exact h4 _ (List.getElem_mem hk)
theorem open_numbers (hval : Value.okWide Try.prog W r b0 26 v) (hw : Wt Try.prog 26 d) (hd0 : DataW.Trod enc Try.prog W base sp hd 26 v d ps) :
  ∃ (x0 x1 x2 x3 y0 y1 y2 y3 y4 y5 : Int) (xv : Value) (xs : List Tri), v = .agg #[iv x0, iv x1, iv x2, iv x3, iv y0, iv y1, iv y2, iv y3, iv y4, iv y5, xv] ∧ (isI64 x0 ∧ isI64 x1 ∧ isI64 x2 ∧ isI64 x3 ∧ isI64 y0 ∧ isI64 y1 ∧ isI64 y2 ∧ isI64 y3 ∧ isI64 y4 ∧ isI64 y5) ∧ SlAt W xv 3 (xs.map Tri.cells) ∧ ∀ k, k < xs.length → (xs.getD k ⟨0, 0, 0⟩).fits := by
 obtain ⟨csA, rfl, hsz, hrow⟩ := okWide_cell (by kernel_rfl) hval
 obtain ⟨fuel, hf⟩ := hd0
 have hc : Try.prog.cellsOf 26 = 11 := by kernel_rfl
 obtain ⟨a0, a1, a2, a3, a4, a5, a6, a7, a8, a9, a10, hcs⟩ := len11 (l := csA.toList) (by rw [Array.length_toList, hsz, hc])
 obtain rfl : csA = #[a0, a1, a2, a3, a4, a5, a6, a7, a8, a9, a10] := by cases csA; simp at hcs; rw [hcs]
 obtain ⟨n0, z0, h0, w0⟩ := trod_field 0 _ Try.underlying26 hw hf rfl
 obtain ⟨n1, z1, h1, w1⟩ := trod_field 1 _ Try.underlying26 hw hf rfl
 obtain ⟨n2, z2, h2, w2⟩ := trod_field 2 _ Try.underlying26 hw hf rfl
 have c0 : Try.prog.cellsOf 23 = 4 := by kernel_rfl
 have c1 : Try.prog.cellsOf 24 = 6 := by kernel_rfl
 have c2 : Try.prog.cellsOf 22 = 1 := by kernel_rfl
 simp only [Value.cells, c0] at h0
 simp only [Value.cells, c1] at h1
 simp only [Value.cells, c2] at h2
 obtain ⟨r4, hr, er, wr⟩ := trod_ints 4 Try.underlying23 Try.underlying3 (by kernel_rfl) h0 rfl
 obtain ⟨r6, hs, es, ws⟩ := trod_ints 6 Try.underlying24 Try.underlying3 (by kernel_rfl) h1 rfl
 obtain ⟨x0, x1, x2, x3, rfl⟩ := len4 hr
 obtain ⟨y0, y1, y2, y3, y4, y5, rfl⟩ := len6 hs
 simp at er es
 obtain ⟨rfl, rfl, rfl, rfl⟩ := er
 obtain ⟨rfl, rfl, rfl, rfl, rfl, rfl⟩ := es
 have hok : Cell.okWide Try.prog W r b0 22 a10 := row_cell (i := 10) (ts := [3, 3, 3, 3, 3, 3, 3, 3, 3, 3, 22]) (by kernel_rfl) rfl hrow rfl
 obtain ⟨xs, g1, g2⟩ := open_tris Try.underlying22 hok w2 h2
 refine ⟨x0, x1, x2, x3, y0, y1, y2, y3, y4, y5, a10, xs, rfl, ⟨i64_is (wr x0 (by simp)), i64_is (wr x1 (by simp)), i64_is (wr x2 (by simp)), i64_is (wr x3 (by simp)), i64_is (ws y0 (by simp)), i64_is (ws y1 (by simp)), i64_is (ws y2 (by simp)), i64_is (ws y3 (by simp)), i64_is (ws y4 (by simp)), i64_is (ws y5 (by simp))⟩, g1, g2⟩
end
end Go.Proofs.Ytnfnkohkcmkddaa
namespace Go.Proofs.Ytnfnkohkcmkddaa
open Go.PW
set_option linter.unusedVariables false
set_option linter.unusedSimpArgs false
def Blo.cells (b : Blo) : List Value := [.int .i64 b.f, .int .i64 b.t, .int .i64 b.c]
def Blo.rcells (b : Blo) : List Value := [.int .i64 b.f, .int .i64 b.t]
theorem Blo.ones (b : Blo) : ∀ u ∈ b.cells, u.oneCell' = true := by
 intro u hu
 simp only [Blo.cells, List.mem_cons, List.not_mem_nil, or_false] at hu
 rcases hu with rfl | rfl | rfl <;> rfl
def badB (q x : Blo) : Bool := !rngB x.f x.t || !isIn x.c 0 7 || decide (x.f < q.t) || decide (x = ⟨q.t, x.t, q.c⟩)
def prevB (q : Blo) (l : List Blo) : Nat → Blo
 | 0 => q
 | k + 1 => l.getD k Blo.z
theorem badB_iff {q x : Blo} : badB q x = false ↔ (rngB x.f x.t = true ∧ isIn x.c 0 7 = true ∧ q.t ≤ x.f ∧ ¬ (x.f = q.t ∧ x.c = q.c)) := by
 have e : x = ⟨q.t, x.t, q.c⟩ ↔ x.f = q.t ∧ x.c = q.c := by
  cases x; simp
 simp only [badB, Bool.or_eq_false_iff, Bool.not_eq_false', decide_eq_false_iff_not, e]
 constructor
 ·rintro ⟨⟨⟨h1, h2⟩, h3⟩, h4⟩; exact ⟨h1, h2, by omega, h4⟩
 ·rintro ⟨h1, h2, h3, h4⟩; exact ⟨⟨⟨h1, h2⟩, by omega⟩, h4⟩
theorem okF_bad {q x : Blo} {l : List Blo} : okF q.t q.c (x :: l) = (!badB q x && okF x.t x.c l) := by
 rw [Bool.eq_iff_iff, Bool.and_eq_true, Bool.not_eq_true', badB_iff]
 simp only [okF, Bool.and_eq_true, decide_eq_true_eq, Bool.not_eq_true', Bool.and_eq_false_iff, decide_eq_false_iff_not]
 constructor
 ·rintro ⟨⟨⟨⟨h1, h2⟩, h3⟩, h4⟩, h5⟩
  exact ⟨⟨h1, h2, h3, fun ⟨a, b⟩ => h4.elim (fun h => h a) fun h => h b⟩, h5⟩
 ·rintro ⟨⟨h1, h2, h3, h4⟩, h5⟩
  refine ⟨⟨⟨⟨h1, h2⟩, h3⟩, ?_⟩, h5⟩
  by_cases e : x.f = q.t
  ·exact .inr fun h => h4 ⟨e, h⟩
  ·exact .inl e
theorem any_bad : ∀ (l : List Blo) (q : Blo), ((List.range l.length).any fun k => badB (prevB q l k) (l.getD k Blo.z)) = !okF q.t q.c l
 | [], q => rfl
 | x :: l, q => by
  rw [List.length_cons, List.range_succ_eq_map, List.any_cons, List.any_map, okF_bad]
  have e : ((List.range l.length).any ((fun k => badB (prevB q (x :: l) k) ((x :: l).getD k Blo.z)) ∘ Nat.succ)) = (List.range l.length).any fun k => badB (prevB x l k) (l.getD k Blo.z) := by
   congr 1
   funext k
   cases k <;> rfl
  rw [e, any_bad l x]
  show (badB q x || !okF x.t x.c l) = _
  cases badB q x <;> simp
theorem any_badB (l : List Blo) : ((List.range l.length).any fun k => badB (prevB ⟨0, 0, -1⟩ l k) (l.getD k Blo.z)) = !okF 0 (-1) l := any_bad l ⟨0, 0, -1⟩
structure Pce where
 f : Int
 t : Int
 x : Int
 y : Int
def Pce.z : Pce := ⟨0, 0, 0, 0⟩
inductive Pcs (a b : List Blo) : List Pce → Int → Prop
 | nil : Pcs a b [] 0
 | snoc {pre : List Pce} {x : Pce} : Pcs a b pre x.f → x.f < x.t → x.t ≤ 100000000 → (∀ n, x.f ≤ n → n < x.t → hold a n = x.x ∧ hold b n = x.y) → Pcs a b (pre ++ [x]) x.t
def NxP (a b : List Blo) (pre : List Pce) (x : Pce) : Prop := Pcs a b pre x.f ∧ 0 ≤ x.f ∧ x.f < x.t ∧ x.t ≤ 100000000 ∧ ∀ n, x.f ≤ n → n < x.t → hold a n = x.x ∧ hold b n = x.y
theorem NxP.snoc {a b : List Blo} {pre : List Pce} {x : Pce} (h : NxP a b pre x) : Pcs a b (pre ++ [x]) x.t := .snoc h.1 h.2.2.1 h.2.2.2.1 h.2.2.2.2
theorem Pcs.nn {a b : List Blo} {xs : List Pce} {p : Int} (h : Pcs a b xs p) : 0 ≤ p := by
 induction h with
 | nil => exact Int.le_refl _
 | snoc _ h1 _ _ ih => omega
theorem NxP.of {a b : List Blo} {pre : List Pce} {x : Pce} (h : Pcs a b pre x.f) (h1 : x.f < x.t) (h2 : x.t ≤ 100000000) (h3 : ∀ n, x.f ≤ n → n < x.t → hold a n = x.x ∧ hold b n = x.y) : NxP a b pre x := ⟨h, h.nn, h1, h2, h3⟩
theorem lastE_get : ∀ {l : List Blo} {p c : Int}, l ≠ [] → lastE p c l = ((l.getD (l.length - 1) Blo.z).t, (l.getD (l.length - 1) Blo.z).c)
 | [], p, c, h => absurd rfl h
 | [b], p, c, h => rfl
 | b :: d :: l, p, c, h => by
  show lastE d.t d.c l = _
  have := lastE_get (l := d :: l) (p := 0) (c := 0) (by simp)
  show lastE 0 0 (d :: l) = _
  rw [this]; rfl
def outP (h : Int → Int → Int) : List Pce → List Blo := fun xs => xs.foldl (fun o x => stepB o x.f x.t (h x.x x.y)) []
theorem outP_snoc {h : Int → Int → Int} {pre : List Pce} {x : Pce} : outP h (pre ++ [x]) = stepB (outP h pre) x.f x.t (h x.x x.y) := by
 unfold outP; rw [List.foldl_append]; rfl
theorem outP_ok {h : Int → Int → Int} {a b : List Blo} (hh : ∀ n, -1 ≤ h (hold a n) (hold b n) ∧ h (hold a n) (hold b n) ≤ 7) {xs : List Pce} {p : Int} (hp : Pcs a b xs p) :
  Upto (outP h xs) p ∧ ∀ n, 0 ≤ n → n < p → hold (outP h xs) n = h (hold a n) (hold b n) := by
 induction hp with
 | nil => exact ⟨upto_nil, fun n h1 h2 => absurd h1 (by omega)⟩
 | @snoc pre x hp h1 h2 h3 ih =>
  rw [outP_snoc]
  obtain ⟨e1, e2⟩ := h3 x.f (Int.le_refl _) h1
  have hx := hh x.f
  rw [e1, e2] at hx
  obtain ⟨g1, g2, g3⟩ := step_upto ih.1 hp.nn h1 h2 hx
  refine ⟨g1, fun n hn0 hn => ?_⟩
  by_cases hn1 : n < x.f
  ·rw [g2 n hn1, ih.2 n hn0 hn1]
  ·obtain ⟨e3, e4⟩ := h3 n (by omega) hn
   rw [g3 n (by omega) hn, e3, e4]
theorem stepB_skip {l : List Blo} {p q x : Int} (h : x = -1) : stepB l p q x = l := by unfold stepB; exact if_pos h
theorem merge_iff {o : List Blo} {p x : Int} : (o ≠ [] ∧ lastE 0 (-1) o = (p, x)) ↔ (0 < o.length ∧ (o.getD (o.length - 1) Blo.z).t = p ∧ (o.getD (o.length - 1) Blo.z).c = x) := by
 constructor
 ·rintro ⟨h1, h2⟩
  rw [lastE_get h1, Prod.mk.injEq] at h2
  exact ⟨List.length_pos_iff.2 h1, h2⟩
 ·rintro ⟨h1, h2, h3⟩
  have h4 := List.length_pos_iff.1 h1
  exact ⟨h4, by rw [lastE_get h4, h2, h3]⟩
theorem stepB_join {l : List Blo} {p q x : Int} (hx : x ≠ -1) (h1 : 0 < l.length) (h2 : (l.getD (l.length - 1) Blo.z).t = p) (h3 : (l.getD (l.length - 1) Blo.z).c = x) :
  stepB l p q x = l.dropLast ++ [⟨(l.getD (l.length - 1) Blo.z).f, q, (l.getD (l.length - 1) Blo.z).c⟩] := by
 unfold stepB
 rw [if_neg hx, if_pos (merge_iff.2 ⟨h1, h2, h3⟩), h3]
theorem stepB_new {l : List Blo} {p q x : Int} (hx : x ≠ -1) (h : ¬ (0 < l.length ∧ (l.getD (l.length - 1) Blo.z).t = p ∧ (l.getD (l.length - 1) Blo.z).c = x)) : stepB l p q x = l ++ [⟨p, q, x⟩] := by
 unfold stepB
 rw [if_neg hx, if_neg fun e => h (merge_iff.1 e)]
theorem stepB_len {l : List Blo} {p q x : Int} : (stepB l p q x).length ≤ l.length + 1 := by
 unfold stepB
 split
 ·omega
 ·split
  ·rw [List.length_append, List.length_dropLast, List.length_singleton]; omega
  ·rw [List.length_append, List.length_singleton]; exact Nat.le_refl _
theorem outP_len {h : Int → Int → Int} {a b : List Blo} {xs : List Pce} {p : Int} (hp : Pcs a b xs p) : ((outP h xs).length : Int) ≤ p ∧ p ≤ 100000000 := by
 induction hp with
 | nil => exact ⟨Int.le_refl _, by decide⟩
 | @snoc pre x hp h1 h2 h3 ih =>
  rw [outP_snoc]
  have := @stepB_len (outP h pre) x.f x.t (h x.x x.y)
  exact ⟨by omega, h2⟩
theorem set_last {α : Type} {l : List α} {x : α} (h : 0 < l.length) : l.set (l.length - 1) x = l.dropLast ++ [x] := by
 obtain ⟨m, b, rfl⟩ : ∃ m b, l = m ++ [b] := ⟨l.dropLast, l.getLast (List.length_pos_iff.1 h), (List.dropLast_concat_getLast (List.length_pos_iff.1 h)).symm⟩
 rw [List.dropLast_concat, List.length_append, List.length_singleton, Nat.add_sub_cancel, List.set_append_right _ _ (Nat.le_refl _), Nat.sub_self]; rfl
theorem blo_join {o : List Blo} {q : Int} (h : 0 < o.length) (hk : o.length - 1 < (o.map Blo.cells).length) : (o.map Blo.cells).set (o.length - 1) (splice (o.map Blo.cells)[o.length - 1] 1 [.int .i64 q]) = (o.dropLast ++ [(⟨(o.getD (o.length - 1) Blo.z).f, q, (o.getD (o.length - 1) Blo.z).c⟩ : Blo)]).map Blo.cells := by
 rw [← set_last h, List.map_set, el_at Blo.z]; rfl
theorem rng_join {o : List Blo} {q : Int} (h : 0 < o.length) (hk : o.length - 1 < (o.map Blo.rcells).length) : (o.map Blo.rcells).set (o.length - 1) (splice (o.map Blo.rcells)[o.length - 1] 1 [.int .i64 q]) = (o.dropLast ++ [(⟨(o.getD (o.length - 1) Blo.z).f, q, (o.getD (o.length - 1) Blo.z).c⟩ : Blo)]).map Blo.rcells := by
 rw [← set_last h, List.map_set, el_at Blo.z]; rfl
theorem hold_tail {b : Blo} {l : List Blo} {n : Int} (h : b.t ≤ n) : hold (b :: l) n = hold l n := by
 rw [hold_cons, if_neg (by omega)]
def skipB : List Blo → Int → List Blo
 | [], _ => []
 | b :: l, p => if b.t ≤ p then skipB l p else b :: l
theorem skip_hold : ∀ {l : List Blo} {p n : Int}, p ≤ n → hold (skipB l p) n = hold l n
 | [], p, n, _ => rfl
 | b :: l, p, n, h => by
  unfold skipB
  split
  ·rw [hold_tail (by omega)]; exact skip_hold h
  ·rfl
theorem okF_skip : ∀ {l : List Blo} {q c p : Int}, okF q c l = true → ∃ q2 c2, okF q2 c2 (skipB l p) = true
 | [], q, c, p, h => ⟨q, c, h⟩
 | b :: l, q, c, p, h => by
  unfold skipB
  split
  ·exact okF_skip (okF_cons.1 h).2.2.2.2
  ·exact ⟨q, c, h⟩
def atX (l : List Blo) (p : Int) : Int := match skipB l p with
 | [] => -1
 | b :: _ => if p < b.f then -1 else b.c
def atT (l : List Blo) (p : Int) : Int := match skipB l p with
 | [] => 100000000
 | b :: _ => if p < b.f then b.f else b.t
theorem skip_head : ∀ {l : List Blo} {p : Int} {b : Blo} {m : List Blo}, skipB l p = b :: m → p < b.t
 | [], p, b, m, h => by cases h
 | x :: l, p, b, m, h => by
  unfold skipB at h
  split at h
  ·exact skip_head h
  ·simp only [List.cons.injEq] at h
   rw [← h.1]; omega
theorem at_ok {l : List Blo} {q c p : Int} (h : okF q c l = true) (hp : p < 100000000) : p < atT l p ∧ atT l p ≤ 100000000 ∧ ∀ n, p ≤ n → n < atT l p → hold l n = atX l p := by
 obtain ⟨q2, c2, hs⟩ := okF_skip (p := p) h
 have hk : ∀ n, p ≤ n → hold l n = hold (skipB l p) n := fun n hn => (skip_hold hn).symm
 unfold atT atX
 generalize he : skipB l p = m at hs hk
 cases m with
 | nil => exact ⟨hp, Int.le_refl _, fun n h1 _ => hk n h1⟩
 | cons b m =>
  have hbt := skip_head he
  obtain ⟨k1, k2, k3, k4, k5⟩ := okF_cons.1 hs
  simp only
  by_cases hf : p < b.f
  ·rw [if_pos hf, if_pos hf]
   refine ⟨hf, by omega, fun n h1 h2 => ?_⟩
   rw [hk n h1, hold_cons, if_neg (by omega)]
   exact hold_below k5 (by omega)
  ·rw [if_neg hf, if_neg hf]
   refine ⟨hbt, by omega, fun n h1 h2 => ?_⟩
   rw [hk n h1, hold_cons, if_pos (by omega)]
theorem at_nil {l : List Blo} {p : Int} (h : skipB l p = []) : atX l p = -1 ∧ atT l p = 100000000 := by
 unfold atX atT; rw [h]; exact ⟨rfl, rfl⟩
theorem at_cons {l m : List Blo} {p : Int} (h : skipB l p = m) (hm : 0 < m.length) : atX l p = (if p < (m.getD 0 Blo.z).f then -1 else (m.getD 0 Blo.z).c) ∧ atT l p = (if p < (m.getD 0 Blo.z).f then (m.getD 0 Blo.z).f else (m.getD 0 Blo.z).t) := by
 unfold atX atT
 rw [h]
 cases m with
 | nil => exact absurd hm (by simp)
 | cons b m => exact ⟨rfl, rfl⟩
theorem skip_stop {m : List Blo} {p : Int} (h : 0 < m.length → ¬ (m.getD 0 Blo.z).t ≤ p) : skipB m p = m := by
 cases m with
 | nil => rfl
 | cons b m => unfold skipB; exact if_neg (h (by simp))
theorem skip_go {m : List Blo} {p : Int} (hm : 0 < m.length) (h : (m.getD 0 Blo.z).t ≤ p) : skipB m p = skipB (m.drop 1) p := by
 cases m with
 | nil => exact absurd hm (by simp)
 | cons b m => exact (if_pos h : (if b.t ≤ p then skipB m p else b :: m) = skipB m p)
def overX (x y : Int) : Int := if y = -1 then x else y
def awayX (x y : Int) : Int := if y = -1 then x else -1
def diffX (x y : Int) : Int := if x = y then -1 else 0
theorem hold_one {f t c n : Int} : hold [⟨f, t, c⟩] n = if f ≤ n ∧ n < t then c else -1 := by
 rw [hold_cons]; rfl
theorem ok_one {f t c : Int} (h : rngB f t = true) (hc : isIn c 0 7 = true) : okF 0 (-1) [⟨f, t, c⟩] = true := by
 simp only [rngB, isIn, Bool.and_eq_true, decide_eq_true_eq] at h hc
 exact okF_cons.2 ⟨⟨h.1.1, h.1.2, h.2⟩, hc, h.1.1, fun e => by have := e.2; simp only at this; omega, rfl⟩
def Gives (l : List Blo) (f t k : Int) (m : List Blo) : Prop := okF 0 (-1) m = true ∧ m.length ≤ l.length + 2 ∧ ∀ n, 0 ≤ n → n < 100000000 → hold m n = if f ≤ n ∧ n < t then k else hold l n
theorem gives_over {l : List Blo} {f t k : Int} {xs : List Pce} (hl : okF 0 (-1) l = true) (hr : rngB f t = true) (hk : isIn k 0 7 = true) (h : Pcs l [⟨f, t, k⟩] xs 100000000) : Gives l f t k (outP overX xs) := by
 have hb := ok_one hr hk
 simp only [rngB, isIn, Bool.and_eq_true, decide_eq_true_eq] at hr hk
 obtain ⟨g1, g2⟩ := outP_ok (h := overX) (fun n => by
  have h1 := hold_rng n hl
  have h2 := hold_rng n hb
  unfold overX
  split <;> assumption) h
 have g3 : ∀ n, 0 ≤ n → n < 100000000 → hold (outP overX xs) n = if f ≤ n ∧ n < t then k else hold l n := fun n h0 h1 => by
  rw [g2 n h0 h1, hold_one]
  unfold overX
  by_cases hin : f ≤ n ∧ n < t
  ·rw [if_pos hin, if_pos hin, if_neg (by omega)]
  ·rw [if_neg hin, if_neg hin, if_pos rfl]
 exact ⟨g1.1, give_len hr.1.1 hl g1.1 g3, g3⟩
theorem gives_away {l : List Blo} {f t : Int} {xs : List Pce} (hl : okF 0 (-1) l = true) (hr : rngB f t = true) (h : Pcs l [⟨f, t, 0⟩] xs 100000000) : Gives l f t (-1) (outP awayX xs) := by
 have hb := ok_one hr (c := 0) (by decide)
 simp only [rngB, Bool.and_eq_true, decide_eq_true_eq] at hr
 obtain ⟨g1, g2⟩ := outP_ok (h := awayX) (fun n => by
  have h1 := hold_rng n hl
  unfold awayX
  split
  ·exact h1
  ·omega) h
 have g3 : ∀ n, 0 ≤ n → n < 100000000 → hold (outP awayX xs) n = if f ≤ n ∧ n < t then -1 else hold l n := fun n h0 h1 => by
  rw [g2 n h0 h1, hold_one]
  unfold awayX
  by_cases hin : f ≤ n ∧ n < t
  ·rw [if_pos hin, if_pos hin, if_neg (by omega)]
  ·rw [if_neg hin, if_neg hin, if_pos rfl]
 exact ⟨g1.1, give_len hr.1.1 hl g1.1 g3, g3⟩
theorem gives_same {l m : List Blo} {f t k : Int} (hl : okF 0 (-1) l = true) (h : Gives l f t k m) (hk : ∀ n, f ≤ n → n < t → hold l n = k) : m = l := by
 refine map_unique h.1 hl fun n h0 h1 => ?_
 rw [h.2.2 n h0 h1]
 split
 ·rename_i hin; exact (hk n hin.1 hin.2).symm
 ·rfl
theorem gives_hold {l m : List Blo} {f t k n : Int} (h : Gives l f t k m) (h0 : 0 ≤ f) (ht : t ≤ 100000000) (h1 : f ≤ n) (h2 : n < t) : hold m n = k := by
 rw [h.2.2 n (by omega) (by omega), if_pos ⟨h1, h2⟩]
theorem diff_ok {a b : List Blo} {xs : List Pce} (h : Pcs a b xs 100000000) : okF 0 (-1) (outP diffX xs) = true ∧ ∀ n, 0 ≤ n → n < 100000000 → hold (outP diffX xs) n = diffX (hold a n) (hold b n) := by
 obtain ⟨g1, g2⟩ := outP_ok (h := diffX) (fun n => by unfold diffX; split <;> omega) h
 exact ⟨g1.1, g2⟩
theorem diff_one {a b : List Blo} {xs : List Pce} {p k : Int} (h : Pcs a b xs 100000000) (h0 : 0 ≤ p) (h1 : p < 100000000) (hg : Gives b p (p + 1) k a) (hk : hold b p ≠ k) : outP diffX xs = [⟨p, p + 1, 0⟩] := by
 obtain ⟨g1, g2⟩ := diff_ok h
 refine map_unique g1 (ok_one (by simp [rngB]; omega) (by decide)) fun n hn0 hn1 => ?_
 rw [g2 n hn0 hn1, hold_one, hg.2.2 n hn0 hn1]
 by_cases e : n = p
 ·subst e
  have hn : n ≤ n ∧ n < n + 1 := by omega
  rw [if_pos hn, if_pos hn]
  unfold diffX
  exact if_neg fun e => hk e.symm
 ·have hn : ¬ (p ≤ n ∧ n < p + 1) := by omega
  rw [if_neg hn, if_neg hn]
  unfold diffX
  exact if_pos rfl
theorem stepB_zero {l : List Blo} {p q x : Int} (hl : ∀ b ∈ l, b.c = 0) (hx : x = -1 ∨ x = 0) : ∀ b ∈ stepB l p q x, b.c = 0 := by
 unfold stepB
 intro b hb
 split at hb
 ·exact hl b hb
 ·rename_i h1
  have h0 : x = 0 := hx.resolve_left h1
  split at hb
  ·rcases List.mem_append.1 hb with hb | hb
   ·exact hl b ((List.dropLast_sublist l).mem hb)
   ·simp only [List.mem_singleton] at hb; rw [hb, h0]
  ·rcases List.mem_append.1 hb with hb | hb
   ·exact hl b hb
   ·simp only [List.mem_singleton] at hb; rw [hb, h0]
end Go.Proofs.Ytnfnkohkcmkddaa
namespace Go.Proofs.Ytnfnkohkcmkddaa
open Go.RowKit Go.PW
set_option linter.unusedVariables false
set_option linter.unusedSimpArgs false
set_option maxRecDepth 4000
theorem eqF_cons {P : Program} {w : World} {d : Nat} {xs ys : Array Value} {f : Field} {fs : List Field} {a b : Value} {r r' : Bool} (hn : f.name ≠ "_") (h1 : (part f.type xs f.offset).run P w = .ok a w) (h2 : (part f.type ys f.offset).run P w = .ok b w)
  (h3 : (Op.equalIn d f.type a b).run P w = .ok r w) (h4 : (Op.eqFields d xs ys fs).run P w = .ok r' w) : (Op.eqFields d xs ys (f :: fs)).run P w = .ok (r && r') w := by
 simp only [Op.eqFields, hn, ne_eq, not_false_eq_true, if_true, Sem.run_bind, h1, h2, h3, Result.andThen_ok]
 cases r
 ·simp
 ·simpa using h4
theorem eqF_nil {P : Program} {w : World} {d : Nat} {xs ys : Array Value} : (Op.eqFields d xs ys []).run P w = .ok true w := by simp [Op.eqFields]
theorem eqI {w : World} (d : Nat) (a b : Int) : (Op.equalIn (d + 1) 3 (iv a) (iv b)).run Try.prog w = .ok (decide (a = b)) w := by
 rw [run_equalIn_int w d 3 .i64 .i64 a b Try.underlying3]; congr 1
theorem eqRngI {w : World} (d : Nat) (a0 a1 c0 c1 : Int) : (Op.equalIn (d + 1 + 1) 49 (.agg #[iv a0, iv a1]) (.agg #[iv c0, iv c1])).run Try.prog w = .ok (decide (a0 = c0) && (decide (a1 = c1) && true)) w := by
 rw [run_equalIn_struct w (d + 1) 49 _ _ (by kernel_rfl) (by kernel_rfl)]
 simp only [Program.fieldsOf, Try.underlying49]
 refine eqF_cons (a := iv a0) (b := iv c0) (r := decide (a0 = c0)) (by decide) (by simp [part, Try.isAgg3]) (by simp [part, Try.isAgg3]) (eqI _ _ _) ?_
 refine eqF_cons (a := iv a1) (b := iv c1) (r := decide (a1 = c1)) (by decide) (by simp [part, Try.isAgg3]) (by simp [part, Try.isAgg3]) (eqI _ _ _) ?_
 exact eqF_nil
theorem eqRng (a0 a1 c0 c1 : Int) (w : World) : (Op.equal 49 (.agg #[iv a0, iv a1]) (.agg #[iv c0, iv c1])).run Try.prog w = .ok (decide (Prod.mk a0 a1 = Prod.mk c0 c1)) w := by
 have e : decide (Prod.mk a0 a1 = Prod.mk c0 c1) = (decide (a0 = c0) && (decide (a1 = c1) && true)) := by rw [Bool.eq_iff_iff]; simp
 rw [e]
 unfold Op.equal Op.maxDepth
 obtain ⟨dd, hd⟩ : ∃ dd, 10000 = dd + 1 + 1 := ⟨9998, rfl⟩
 rw [hd]; exact eqRngI _ _ _ _ _
theorem eqBlo (a0 a1 a2 c0 c1 c2 : Int) (w : World) : (Op.equal 77 (.agg #[iv a0, iv a1, iv a2]) (.agg #[iv c0, iv c1, iv c2])).run Try.prog w = .ok (decide (Blo.mk a0 a1 a2 = Blo.mk c0 c1 c2)) w := by
 have e : decide (Blo.mk a0 a1 a2 = Blo.mk c0 c1 c2) = ((decide (a0 = c0) && (decide (a1 = c1) && true)) && (decide (a2 = c2) && true)) := by rw [Bool.eq_iff_iff]; simp [and_assoc]
 rw [e]
 unfold Op.equal Op.maxDepth
 obtain ⟨dd, hd⟩ : ∃ dd, 10000 = dd + 1 + 1 + 1 := ⟨9997, rfl⟩
 rw [hd, run_equalIn_struct w (dd + 1 + 1) 77 _ _ (by kernel_rfl) (by kernel_rfl)]
 simp only [Program.fieldsOf, Try.underlying77]
 refine eqF_cons (a := .agg #[iv a0, iv a1]) (b := .agg #[iv c0, iv c1]) (r := decide (a0 = c0) && (decide (a1 = c1) && true)) (by decide) (by simp [part, Try.isAgg49, Try.sizeOf49]) (by simp [part, Try.isAgg49, Try.sizeOf49]) (eqRngI _ _ _ _ _) ?_
 refine eqF_cons (a := iv a2) (b := iv c2) (r := decide (a2 = c2)) (by decide) (by simp [part, Try.isAgg3]) (by simp [part, Try.isAgg3]) (eqI _ _ _) ?_
 exact eqF_nil
theorem indexB_ok {M : Nat → Prop} {wb : World} {H : List Ent} {sv : Value} {els : List (List Value)} {caps : List Value} {g : FuncId} (p : Nat → Bool) (ev_ : Nat → Value) (J : Nat → Ent → Prop) (e0 : Ent) (w0 : World)
  (hen : ∀ args w, (callFunc g args).run Try.prog w = .ok (.enter g args) w) (hs : ∀ e w, St M wb (e :: H) w → SlAt w sv 3 els)
  (hev : ∀ k (h : k < els.length), .agg (els[k]).toArray = ev_ k) (hJ0 : J 0 e0) (hst : St M wb (e0 :: H) w0)
  (hcl : ∀ k e w, k < els.length → J k e → e.ok w → (∀ b, e.foot b → b < w.heap.size) → Ret Try.prog g ([ev_ k] ++ caps).toArray w fun v w' => v = .bool (p k) ∧ ∃ e', Ext e.foot w w' ∧ e'.ok w' ∧ (∀ b, e'.foot b → b < w'.heap.size ∧ (e.foot b ∨ w.heap.size ≤ b)) ∧ J (k + 1) e') :
  Ret Try.prog 73 #[sv, .func (.func g) #[] caps.toArray] w0 fun v w => v = iv (fstIdx p els.length) ∧ ∃ k e', J k e' ∧ St M wb (e' :: H) w := by
 have hsl := (hs _ _ hst).le
 refine ret_of Try.func73 rfl Try.ntmps73 (lb rfl) fun a hfr => ?_
 have hfr : Fr 19 [(0, _), (1, _)] [] a := hfr
 refine wc_seq_region fun K1 hK1 => ?_
 refine wla hfr rfl fun a hfr => ?_
 refine wl_nil (hK1 _ _ ?_)
 refine wc_seq_k fun K2 hK2 => ?_
 refine wc_seq_region fun K3 hK3 => ?_
 refine wlm hfr rfl fun a hfr => ?_
 refine wlv hfr (v_len_sl (sT := 28) (hs _ _ hst) rfl rfl (Try.runUnderlying28 _)) fun a hfr => wlm hfr rfl fun a hfr => ?_
 refine wl_nil (hK3 _ _ ?_)
 refine wc_block ?_
 refine wc_loop (fun m a w => ∃ (k : Nat) (e : Ent), m = els.length - k ∧ (k ≤ els.length) ∧ (∀ j, j < k → p j = false) ∧ (J k e) ∧ Fr 19 [(0, sv), (1, .func (.func g) #[] caps.toArray), (6, sv), (7, iv els.length), (8, iv (k : Int))] [] a ∧ St M wb (e :: H) w) _ ⟨0, e0, rfl, Nat.zero_le _, (by intro j hj; omega), hJ0, hfr.pick [0, 1, 6, 7, 8], hst⟩ ?_
 rintro _ a w1 ⟨k, e, rfl, hk, hp, hJ, hfr, hst⟩
 refine wc_seq_region fun K4 hK4 => ?_
 refine wlv hfr (v_lt rfl rfl) fun a hfr => ?_
 refine wl_nil (hK4 _ _ ?_)
 refine wc_seq_k fun K5 hK5 => ?_
 refine wc_cond_d hfr rfl (fun hc1 => ?_) (fun hc1 => ?_)
 ·rw [decide_eq_true hc1] at hfr
  refine wc_skip ?_
  refine hK5 _ _ ?_
  refine wc_seq_k fun K6 hK6 => ?_
  refine wc_block ?_
  refine wc_seq_region fun K7 hK7 => ?_
  refine wlm hfr rfl fun a hfr => wla hfr rfl fun a hfr => ?_
  refine wl_nil (hK7 _ _ ?_)
  refine wc_seq_region fun K8 hK8 => ?_
  refine wlm hfr rfl fun a hfr => wlm hfr rfl fun a hfr => wlm hfr rfl fun a hfr => ?_
  refine wlv hfr ((v_indexAddr_sl (i := (k : Int)) (sT := 28) (hs _ _ hst) rfl rfl (Try.runUnderlying28 _) (Try.sizeOf77 _) (by omega) (by omega)).as (v' := slAddr sv (k * 3)) rfl) fun a hfr => ?_
  refine wlv hfr ((v_load_sl (hs _ _ hst) (i := k) (by omega) rfl (Try.isAgg77 _) (Try.sizeOf77 _)).as (v' := ev_ k) (hev k (by omega))) fun a hfr => ?_
  refine wl_r (r_callv (cap := caps) rfl hen rfl (hcl k _ _ (by omega) hJ (hst.get (k := 0) rfl) (fun b hb => hst.lt (k := 0) rfl hb))) rfl rfl hfr fun a v w2 hR hfr => ?_
  obtain ⟨rfl, e1, hx, hok, hft, hJ1⟩ := hR
  have hst := hst.exchange (k := 0) rfl hx hok hft
  have hst : St M wb (e1 :: H) w2 := hst
  refine wl_nil (hK8 _ _ ?_)
  refine wc_cond hfr rfl (fun hc2 => ?_) (fun hc2 => ?_)
  ·rw [hc2] at hfr
   refine wc_seq_region fun K9 hK9 => ?_
   refine wlm hfr rfl fun a hfr => wla hfr rfl fun a hfr => ?_
   refine wl_nil (hK9 _ _ ?_)
   refine wc_ret ?_
   refine fin_ret hfr Try.results73 (resAre_tmp rfl resAre_nil) ?_
   exact ⟨by rw [fstIdx_some (k := k) (by omega) hp (by assumption)]; rfl, _, _, hJ1, hst⟩
  rw [hc2] at hfr
  refine wc_skip ?_
  refine hK6 _ _ ?_
  refine wc_region ?_
  refine wlv hfr (v_add rfl rfl ⟨by omega, by omega⟩) fun a hfr => wlm hfr rfl fun a hfr => ?_
  refine wl_nil ?_
  refine ⟨_, ?_, k + 1, e1, rfl, (by omega), (by intro j hj; by_cases h : j = k; (subst h; assumption); exact hp j (by omega)), hJ1, hfr.pick [0, 1, 6, 7, 8], hst⟩
  omega
 rw [decide_eq_false hc1] at hfr
 refine wc_exit ?_
 refine hK2 _ _ ?_
 refine wc_seq_region fun K10 hK10 => ?_
 refine wla hfr rfl fun a hfr => ?_
 refine wl_nil (hK10 _ _ ?_)
 refine wc_ret ?_
 refine fin_ret hfr Try.results73 (resAre_tmp rfl resAre_nil) ?_
 have hkl : k = els.length := by omega
 subst hkl
 exact ⟨by rw [fstIdx_none hp]; rfl, _, _, hJ, hst⟩
theorem containsB_ok {M : Nat → Prop} {wb : World} {H : List Ent} {sv : Value} {els : List (List Value)} {caps : List Value} {g : FuncId} (p : Nat → Bool) (ev_ : Nat → Value) (J : Nat → Ent → Prop) (e0 : Ent) (w0 : World)
  (hen : ∀ args w, (callFunc g args).run Try.prog w = .ok (.enter g args) w) (hs : ∀ e w, St M wb (e :: H) w → SlAt w sv 3 els)
  (hev : ∀ k (h : k < els.length), .agg (els[k]).toArray = ev_ k) (hJ0 : J 0 e0) (hst : St M wb (e0 :: H) w0)
  (hcl : ∀ k e w, k < els.length → J k e → e.ok w → (∀ b, e.foot b → b < w.heap.size) → Ret Try.prog g ([ev_ k] ++ caps).toArray w fun v w' => v = .bool (p k) ∧ ∃ e', Ext e.foot w w' ∧ e'.ok w' ∧ (∀ b, e'.foot b → b < w'.heap.size ∧ (e.foot b ∨ w.heap.size ≤ b)) ∧ J (k + 1) e') :
  Ret Try.prog 55 #[sv, .func (.func g) #[] caps.toArray] w0 fun v w => v = .bool ((List.range els.length).any p) ∧ ∃ k e', J k e' ∧ St M wb (e' :: H) w := by
 refine ret_of Try.func55 rfl Try.ntmps55 (lb rfl) fun a hfr => ?_
 have hfr : Fr 9 [(0, _), (1, _)] [] a := hfr
 refine wc_seq_region fun K1 hK1 => ?_
 refine wla hfr rfl fun a hfr => ?_
 refine wl_nil (hK1 _ _ ?_)
 refine wc_seq_region fun K2 hK2 => ?_
 refine wlm hfr rfl fun a hfr => wlm hfr rfl fun a hfr => ?_
 refine wl_r (r_call Try.call73 rfl (indexB_ok p ev_ J e0 _ hen hs hev hJ0 hst hcl)) rfl rfl hfr fun a v w1 hR hfr => ?_
 obtain ⟨rfl, kk, e1, hJ1, hst⟩ := hR
 refine wlv hfr (v_ge rfl rfl) fun a hfr => wla hfr rfl fun a hfr => ?_
 refine wl_nil (hK2 _ _ ?_)
 refine wc_ret ?_
 refine fin_ret hfr Try.results55 (resAre_tmp rfl resAre_nil) ?_
 exact ⟨by rw [fstIdx_any]; rfl, _, _, hJ1, hst⟩
theorem isRange_ok (f t : Int) (w0 : World) :
  Ret Try.prog 49 #[.agg #[iv f, iv t]] w0 fun v w => v = .bool (rngB f t) ∧ Ext No w0 w := by
 refine ret_of Try.func49 rfl Try.ntmps49 (lb rfl) fun a hfr => ?_
 replace hfr : Fr 18 [(0, _)] [] a := hfr
 replace hst : St No w0 [] w0 := St.init w0
 refine wc_seq_region fun K1 hK1 => ?_
 refine wl_box hfr hst rfl [iv f, iv t] rfl ?_
 clear hfr hst
 intro a w1 hfr hst
 refine wla hfr rfl fun a hfr => ?_
 refine wl_nil (hK1 _ _ ?_)
 refine wc_seq_region fun K2 hK2 => ?_
 refine wlv hfr (v_fieldAddr (v := .pointer (some ⟨w0.heap.size, 0, none⟩)) rfl (by kernel_rfl)) fun a hfr => ?_
 refine wlv hfr (v_load_blk1 (hst.get (k := 0) rfl) rfl (Try.isAgg3 _) rfl) fun a hfr => ?_
 refine wlv hfr (v_le rfl rfl) fun a hfr => wlm hfr rfl fun a hfr => ?_
 rcases Decidable.em (0 ≤ f) with hb1 | hb1
 ·rw [decide_eq_true hb1] at hfr
  refine wly hfr (v_fieldAddr (v := .pointer (some ⟨w0.heap.size, 0, none⟩)) rfl (by kernel_rfl)) fun a hfr => wly hfr (v_load_blk1 (hst.get (k := 0) rfl) rfl (Try.isAgg3 _) rfl) fun a hfr => wly hfr (v_fieldAddr (v := .pointer (some ⟨w0.heap.size, 1, none⟩)) rfl (by kernel_rfl)) fun a hfr => wly hfr (v_load_blk1 (hst.get (k := 0) rfl) rfl (Try.isAgg3 _) rfl) fun a hfr => wly hfr (v_lt rfl rfl) fun a hfr => ?_
  refine wlv hfr (v_pick_t rfl rfl) fun a hfr => wlm hfr rfl fun a hfr => ?_
  rcases Decidable.em (f < t) with hb2 | hb2
  ·rw [decide_eq_true hb2] at hfr
   refine wly hfr (v_fieldAddr (v := .pointer (some ⟨w0.heap.size, 1, none⟩)) rfl (by kernel_rfl)) fun a hfr => wly hfr (v_load_blk1 (hst.get (k := 0) rfl) rfl (Try.isAgg3 _) rfl) fun a hfr => wly hfr (v_le rfl rfl) fun a hfr => ?_
   refine wlv hfr (v_pick_t rfl rfl) fun a hfr => wla hfr rfl fun a hfr => ?_
   refine wl_nil (hK2 _ _ ?_)
   replace hfr : Fr 18 [(2, _)] [] a := hfr.pick [2]
   replace hst : St No w0 [] w1 := hst.mask [false]
   refine wc_ret ?_
   refine fin_ret hfr Try.results49 (resAre_tmp rfl resAre_nil) ?_
   exact ⟨by simp [retv, rngB, *], hst.ext⟩
  rw [decide_eq_false hb2] at hfr
  refine wln hfr fun a hfr => ?_
  refine wln hfr fun a hfr => ?_
  refine wln hfr fun a hfr => ?_
  refine wlv hfr (v_pick_f rfl rfl) fun a hfr => wla hfr rfl fun a hfr => ?_
  refine wl_nil (hK2 _ _ ?_)
  replace hfr : Fr 18 [(2, _)] [] a := hfr.pick [2]
  replace hst : St No w0 [] w1 := hst.mask [false]
  refine wc_ret ?_
  refine fin_ret hfr Try.results49 (resAre_tmp rfl resAre_nil) ?_
  exact ⟨by simp [retv, rngB, *], hst.ext⟩
 rw [decide_eq_false hb1] at hfr
 refine wln hfr fun a hfr => ?_
 refine wln hfr fun a hfr => ?_
 refine wln hfr fun a hfr => ?_
 refine wln hfr fun a hfr => ?_
 refine wln hfr fun a hfr => ?_
 refine wlv hfr (v_pick_f rfl rfl) fun a hfr => wlm hfr rfl fun a hfr => ?_
 refine wln hfr fun a hfr => ?_
 refine wln hfr fun a hfr => ?_
 refine wln hfr fun a hfr => ?_
 refine wlv hfr (v_pick_f rfl rfl) fun a hfr => wla hfr rfl fun a hfr => ?_
 refine wl_nil (hK2 _ _ ?_)
 replace hfr : Fr 18 [(2, _)] [] a := hfr.pick [2]
 replace hst : St No w0 [] w1 := hst.mask [false]
 refine wc_ret ?_
 refine fin_ret hfr Try.results49 (resAre_tmp rfl resAre_nil) ?_
 exact ⟨by simp [retv, rngB, *], hst.ext⟩
theorem rRange_ok (f t : Int) (w0 : World) :
  Ret Try.prog 42 #[.agg #[iv f, iv t]] w0 fun v w => v = .bool (rngB f t) ∧ Ext No w0 w := by
 refine ret_of Try.func42 rfl Try.ntmps42 (lb rfl) fun a hfr => ?_
 replace hfr : Fr 18 [(0, _)] [] a := hfr
 replace hst : St No w0 [] w0 := St.init w0
 refine wc_seq_region fun K1 hK1 => ?_
 refine wl_box hfr hst rfl [iv f, iv t] rfl ?_
 clear hfr hst
 intro a w1 hfr hst
 refine wla hfr rfl fun a hfr => ?_
 refine wl_nil (hK1 _ _ ?_)
 refine wc_seq_region fun K2 hK2 => ?_
 refine wlv hfr (v_fieldAddr (v := .pointer (some ⟨w0.heap.size, 0, none⟩)) rfl (by kernel_rfl)) fun a hfr => ?_
 refine wlv hfr (v_load_blk1 (hst.get (k := 0) rfl) rfl (Try.isAgg3 _) rfl) fun a hfr => ?_
 refine wlv hfr (v_le rfl rfl) fun a hfr => wlm hfr rfl fun a hfr => ?_
 rcases Decidable.em (0 ≤ f) with hb1 | hb1
 ·rw [decide_eq_true hb1] at hfr
  refine wly hfr (v_fieldAddr (v := .pointer (some ⟨w0.heap.size, 0, none⟩)) rfl (by kernel_rfl)) fun a hfr => wly hfr (v_load_blk1 (hst.get (k := 0) rfl) rfl (Try.isAgg3 _) rfl) fun a hfr => wly hfr (v_fieldAddr (v := .pointer (some ⟨w0.heap.size, 1, none⟩)) rfl (by kernel_rfl)) fun a hfr => wly hfr (v_load_blk1 (hst.get (k := 0) rfl) rfl (Try.isAgg3 _) rfl) fun a hfr => wly hfr (v_lt rfl rfl) fun a hfr => ?_
  refine wlv hfr (v_pick_t rfl rfl) fun a hfr => wlm hfr rfl fun a hfr => ?_
  rcases Decidable.em (f < t) with hb2 | hb2
  ·rw [decide_eq_true hb2] at hfr
   refine wly hfr (v_fieldAddr (v := .pointer (some ⟨w0.heap.size, 1, none⟩)) rfl (by kernel_rfl)) fun a hfr => wly hfr (v_load_blk1 (hst.get (k := 0) rfl) rfl (Try.isAgg3 _) rfl) fun a hfr => wly hfr (v_le rfl rfl) fun a hfr => ?_
   refine wlv hfr (v_pick_t rfl rfl) fun a hfr => wla hfr rfl fun a hfr => ?_
   refine wl_nil (hK2 _ _ ?_)
   replace hfr : Fr 18 [(2, _)] [] a := hfr.pick [2]
   replace hst : St No w0 [] w1 := hst.mask [false]
   refine wc_ret ?_
   refine fin_ret hfr Try.results42 (resAre_tmp rfl resAre_nil) ?_
   exact ⟨by simp [retv, rngB, *], hst.ext⟩
  rw [decide_eq_false hb2] at hfr
  refine wln hfr fun a hfr => ?_
  refine wln hfr fun a hfr => ?_
  refine wln hfr fun a hfr => ?_
  refine wlv hfr (v_pick_f rfl rfl) fun a hfr => wla hfr rfl fun a hfr => ?_
  refine wl_nil (hK2 _ _ ?_)
  replace hfr : Fr 18 [(2, _)] [] a := hfr.pick [2]
  replace hst : St No w0 [] w1 := hst.mask [false]
  refine wc_ret ?_
  refine fin_ret hfr Try.results42 (resAre_tmp rfl resAre_nil) ?_
  exact ⟨by simp [retv, rngB, *], hst.ext⟩
 rw [decide_eq_false hb1] at hfr
 refine wln hfr fun a hfr => ?_
 refine wln hfr fun a hfr => ?_
 refine wln hfr fun a hfr => ?_
 refine wln hfr fun a hfr => ?_
 refine wln hfr fun a hfr => ?_
 refine wlv hfr (v_pick_f rfl rfl) fun a hfr => wlm hfr rfl fun a hfr => ?_
 refine wln hfr fun a hfr => ?_
 refine wln hfr fun a hfr => ?_
 refine wln hfr fun a hfr => ?_
 refine wlv hfr (v_pick_f rfl rfl) fun a hfr => wla hfr rfl fun a hfr => ?_
 refine wl_nil (hK2 _ _ ?_)
 replace hfr : Fr 18 [(2, _)] [] a := hfr.pick [2]
 replace hst : St No w0 [] w1 := hst.mask [false]
 refine wc_ret ?_
 refine fin_ret hfr Try.results42 (resAre_tmp rfl resAre_nil) ?_
 exact ⟨by simp [retv, rngB, *], hst.ext⟩
theorem isCarrier_ok (n : Int) (w0 : World) :
  Ret Try.prog 50 #[iv n] w0 fun v w => v = .bool (isIn n 0 7) ∧ Ext No w0 w := by
 refine ret_of Try.func50 rfl Try.ntmps50 (lb rfl) fun a hfr => ?_
 replace hfr : Fr 9 [(0, _)] [] a := hfr
 replace hst : St No w0 [] w0 := St.init w0
 refine wc_seq_region fun K1 hK1 => ?_
 refine wla hfr rfl fun a hfr => ?_
 refine wl_nil (hK1 _ _ ?_)
 refine wc_seq_region fun K2 hK2 => ?_
 refine wlm hfr rfl fun a hfr => ?_
 refine wlv hfr (v_le rfl rfl) fun a hfr => wlm hfr rfl fun a hfr => ?_
 rcases Decidable.em (0 ≤ n) with hb1 | hb1
 ·rw [decide_eq_true hb1] at hfr
  refine wly hfr (v_move rfl) fun a hfr => wly hfr (v_le rfl rfl) fun a hfr => ?_
  refine wlv hfr (v_pick_t rfl rfl) fun a hfr => wla hfr rfl fun a hfr => ?_
  refine wl_nil (hK2 _ _ ?_)
  replace hfr : Fr 9 [(2, _)] [] a := hfr.pick [2]
  refine wc_ret ?_
  refine fin_ret hfr Try.results50 (resAre_tmp rfl resAre_nil) ?_
  exact ⟨by simp [retv, isIn, *], hst.ext⟩
 rw [decide_eq_false hb1] at hfr
 refine wln hfr fun a hfr => ?_
 refine wln hfr fun a hfr => ?_
 refine wlv hfr (v_pick_f rfl rfl) fun a hfr => wla hfr rfl fun a hfr => ?_
 refine wl_nil (hK2 _ _ ?_)
 replace hfr : Fr 9 [(2, _)] [] a := hfr.pick [2]
 refine wc_ret ?_
 refine fin_ret hfr Try.results50 (resAre_tmp rfl resAre_nil) ?_
 exact ⟨by simp [retv, isIn, *], hst.ext⟩
theorem rCarrier_ok (n : Int) (w0 : World) :
  Ret Try.prog 43 #[iv n] w0 fun v w => v = .bool (isIn n 0 7) ∧ Ext No w0 w := by
 refine ret_of Try.func43 rfl Try.ntmps43 (lb rfl) fun a hfr => ?_
 replace hfr : Fr 9 [(0, _)] [] a := hfr
 replace hst : St No w0 [] w0 := St.init w0
 refine wc_seq_region fun K1 hK1 => ?_
 refine wla hfr rfl fun a hfr => ?_
 refine wl_nil (hK1 _ _ ?_)
 refine wc_seq_region fun K2 hK2 => ?_
 refine wlm hfr rfl fun a hfr => ?_
 refine wlv hfr (v_ge rfl rfl) fun a hfr => wlm hfr rfl fun a hfr => ?_
 rcases Decidable.em (0 ≤ n) with hb1 | hb1
 ·rw [decide_eq_true hb1] at hfr
  refine wly hfr (v_move rfl) fun a hfr => wly hfr (v_le rfl rfl) fun a hfr => ?_
  refine wlv hfr (v_pick_t rfl rfl) fun a hfr => wla hfr rfl fun a hfr => ?_
  refine wl_nil (hK2 _ _ ?_)
  replace hfr : Fr 9 [(2, _)] [] a := hfr.pick [2]
  refine wc_ret ?_
  refine fin_ret hfr Try.results43 (resAre_tmp rfl resAre_nil) ?_
  exact ⟨by simp [retv, isIn, *], hst.ext⟩
 rw [decide_eq_false hb1] at hfr
 refine wln hfr fun a hfr => ?_
 refine wln hfr fun a hfr => ?_
 refine wlv hfr (v_pick_f rfl rfl) fun a hfr => wla hfr rfl fun a hfr => ?_
 refine wl_nil (hK2 _ _ ?_)
 replace hfr : Fr 9 [(2, _)] [] a := hfr.pick [2]
 refine wc_ret ?_
 refine fin_ret hfr Try.results43 (resAre_tmp rfl resAre_nil) ?_
 exact ⟨by simp [retv, isIn, *], hst.ext⟩
set_option maxHeartbeats 4000000 in
theorem bad_ok (x q : Blo) (b1 : Nat) (w0 : World) (hb : (blk b1 q.cells 77).ok w0) :
  Ret Try.prog 54 #[.agg #[iv x.f, iv x.t, iv x.c], .pointer (some ⟨b1, 0, none⟩)] w0 fun v w => v = .bool (badB q x) ∧ Ext (· = b1) w0 w ∧ (blk b1 x.cells 77).ok w := by
 refine ret_of Try.func54 rfl Try.ntmps54 (lb rfl) fun a hfr => ?_
 replace hfr : Fr 40 [(0, _), (1, _)] [] a := hfr
 replace hst : St (· = b1) w0 [blk b1 [iv q.f, iv q.t, iv q.c] 77] w0 := St.one hb
 refine wc_seq_region fun K1 hK1 => ?_
 refine wl_box hfr hst rfl [iv x.f, iv x.t, iv x.c] rfl ?_
 clear hfr hst
 intro a w1 hfr hst
 refine wla hfr rfl fun a hfr => ?_
 refine wl_nil (hK1 _ _ ?_)
 refine wc_seq_region fun K2 hK2 => ?_
 refine wlv hfr (v_load_all (hst.get (k := 1) rfl) rfl (Try.isAgg77 _) (Try.sizeOf77 _)) fun a hfr => ?_
 refine wl_alloc hfr hst (Try.zeroValue77 _) [iv 0, iv 0, iv 0] rfl ?_
 clear hfr hst
 intro a w2 hfr hst
 refine wl_sto 0 hfr hst [iv q.f, iv q.t, iv q.c] rfl (Try.sizeOf77 _) ?_
 clear hfr hst
 intro a w3 hfr hst
 refine wl_nil (hK2 _ _ ?_)
 refine wc_seq_region fun K3 hK3 => ?_
 refine wlv hfr (v_load_all (hst.get (k := 1) rfl) rfl (Try.isAgg77 _) (Try.sizeOf77 _)) fun a hfr => ?_
 refine wl_sto 2 hfr hst [iv x.f, iv x.t, iv x.c] rfl (Try.sizeOf77 _) ?_
 clear hfr hst
 intro a w4 hfr hst
 refine wl_nil (hK3 _ _ ?_)
 refine wc_seq_region fun K4 hK4 => ?_
 refine wlv hfr (v_fieldAddr (v := .pointer (some ⟨w0.heap.size, 0, none⟩)) rfl (by kernel_rfl)) fun a hfr => ?_
 refine wlv hfr (v_load_blk (ds := [iv x.f, iv x.t]) (hst.get (k := 1) rfl) rfl (Try.isAgg49 _) (Try.sizeOf49 _) rfl) fun a hfr => ?_
 refine wl_callp hfr hst Try.call49 rfl (isRange_ok x.f x.t _) ?_
 clear hfr hst
 intro a w5 hfr hst
 refine wlv hfr (v_not rfl) fun a hfr => wlm hfr rfl fun a hfr => ?_
 rcases Bool.eq_false_or_eq_true (!(rngB x.f x.t)) with hb1 | hb1
 ·rw [hb1] at hfr
  try simp only [qz] at hb1
  refine wln hfr fun a hfr => ?_
  refine wln hfr fun a hfr => ?_
  refine wln hfr fun a hfr => ?_
  refine wln hfr fun a hfr => ?_
  refine wlv hfr (v_pick_t rfl rfl) fun a hfr => wlm hfr rfl fun a hfr => ?_
  refine wln hfr fun a hfr => ?_
  refine wln hfr fun a hfr => ?_
  refine wln hfr fun a hfr => ?_
  refine wln hfr fun a hfr => ?_
  refine wln hfr fun a hfr => ?_
  refine wln hfr fun a hfr => ?_
  refine wln hfr fun a hfr => ?_
  refine wlv hfr (v_pick_t rfl rfl) fun a hfr => wlm hfr rfl fun a hfr => ?_
  refine wln hfr fun a hfr => ?_
  refine wln hfr fun a hfr => ?_
  refine wln hfr fun a hfr => ?_
  refine wln hfr fun a hfr => ?_
  refine wln hfr fun a hfr => ?_
  refine wln hfr fun a hfr => ?_
  refine wln hfr fun a hfr => ?_
  refine wln hfr fun a hfr => ?_
  refine wln hfr fun a hfr => ?_
  refine wln hfr fun a hfr => ?_
  refine wln hfr fun a hfr => ?_
  refine wln hfr fun a hfr => ?_
  refine wlv hfr (v_pick_t rfl rfl) fun a hfr => wla hfr rfl fun a hfr => ?_
  refine wl_nil (hK4 _ _ ?_)
  replace hfr : Fr 40 [(3, _)] [] a := hfr.pick [3]
  replace hst : St (· = b1) w0 [_] w5 := hst.mask [false, false, true]
  refine wc_ret ?_
  refine fin_ret hfr Try.results54 (resAre_tmp rfl resAre_nil) ?_
  exact ⟨by simp only [retv]; refine congrArg Value.bool ?_; simp [badB, hb1], hst.ext, hst.get (k := 0) rfl⟩
 rw [hb1] at hfr
 try simp only [qz] at hb1
 refine wly hfr (v_fieldAddr (v := .pointer (some ⟨w0.heap.size, 2, none⟩)) rfl (by kernel_rfl)) fun a hfr => wly hfr (v_load_blk1 (hst.get (k := 1) rfl) rfl (Try.isAgg3 _) rfl) fun a hfr => ?_
 refine wl_callpy hfr hst Try.call50 rfl (isCarrier_ok x.c _) ?_
 clear hfr hst
 intro a w6 hfr hst
 refine wly hfr (v_not rfl) fun a hfr => ?_
 refine wlv hfr (v_pick_f rfl rfl) fun a hfr => wlm hfr rfl fun a hfr => ?_
 rcases Bool.eq_false_or_eq_true (!(isIn x.c 0 7)) with hb2 | hb2
 ·rw [hb2] at hfr
  try simp only [qz] at hb2
  refine wln hfr fun a hfr => ?_
  refine wln hfr fun a hfr => ?_
  refine wln hfr fun a hfr => ?_
  refine wln hfr fun a hfr => ?_
  refine wln hfr fun a hfr => ?_
  refine wln hfr fun a hfr => ?_
  refine wln hfr fun a hfr => ?_
  refine wlv hfr (v_pick_t rfl rfl) fun a hfr => wlm hfr rfl fun a hfr => ?_
  refine wln hfr fun a hfr => ?_
  refine wln hfr fun a hfr => ?_
  refine wln hfr fun a hfr => ?_
  refine wln hfr fun a hfr => ?_
  refine wln hfr fun a hfr => ?_
  refine wln hfr fun a hfr => ?_
  refine wln hfr fun a hfr => ?_
  refine wln hfr fun a hfr => ?_
  refine wln hfr fun a hfr => ?_
  refine wln hfr fun a hfr => ?_
  refine wln hfr fun a hfr => ?_
  refine wln hfr fun a hfr => ?_
  refine wlv hfr (v_pick_t rfl rfl) fun a hfr => wla hfr rfl fun a hfr => ?_
  refine wl_nil (hK4 _ _ ?_)
  replace hfr : Fr 40 [(3, _)] [] a := hfr.pick [3]
  replace hst : St (· = b1) w0 [_] w6 := hst.mask [false, false, true]
  refine wc_ret ?_
  refine fin_ret hfr Try.results54 (resAre_tmp rfl resAre_nil) ?_
  exact ⟨by simp only [retv]; refine congrArg Value.bool ?_; simp [badB, hb1, hb2], hst.ext, hst.get (k := 0) rfl⟩
 rw [hb2] at hfr
 try simp only [qz] at hb2
 refine wly hfr (v_fieldAddr (v := .pointer (some ⟨w0.heap.size, 0, none⟩)) rfl (by kernel_rfl)) fun a hfr => wly hfr (v_fieldAddr (v := .pointer (some ⟨w0.heap.size, 0, none⟩)) rfl (by kernel_rfl)) fun a hfr => wly hfr (v_load_blk1 (hst.get (k := 1) rfl) rfl (Try.isAgg3 _) rfl) fun a hfr => wly hfr (v_fieldAddr (v := .pointer (some ⟨w1.heap.size, 0, none⟩)) rfl (by kernel_rfl)) fun a hfr => wly hfr (v_fieldAddr (v := .pointer (some ⟨w1.heap.size, 1, none⟩)) rfl (by kernel_rfl)) fun a hfr => wly hfr (v_load_blk1 (hst.get (k := 0) rfl) rfl (Try.isAgg3 _) rfl) fun a hfr => wly hfr (v_lt rfl rfl) fun a hfr => ?_
 refine wlv hfr (v_pick_f rfl rfl) fun a hfr => wlm hfr rfl fun a hfr => ?_
 rcases Decidable.em (x.f < q.t) with hb3 | hb3
 ·rw [decide_eq_true hb3] at hfr
  refine wln hfr fun a hfr => ?_
  refine wln hfr fun a hfr => ?_
  refine wln hfr fun a hfr => ?_
  refine wln hfr fun a hfr => ?_
  refine wln hfr fun a hfr => ?_
  refine wln hfr fun a hfr => ?_
  refine wln hfr fun a hfr => ?_
  refine wln hfr fun a hfr => ?_
  refine wln hfr fun a hfr => ?_
  refine wln hfr fun a hfr => ?_
  refine wln hfr fun a hfr => ?_
  refine wln hfr fun a hfr => ?_
  refine wlv hfr (v_pick_t rfl rfl) fun a hfr => wla hfr rfl fun a hfr => ?_
  refine wl_nil (hK4 _ _ ?_)
  replace hfr : Fr 40 [(3, _)] [] a := hfr.pick [3]
  replace hst : St (· = b1) w0 [_] w6 := hst.mask [false, false, true]
  refine wc_ret ?_
  refine fin_ret hfr Try.results54 (resAre_tmp rfl resAre_nil) ?_
  exact ⟨by simp only [retv]; refine congrArg Value.bool ?_; simp [badB, hb1, hb2, hb3], hst.ext, hst.get (k := 0) rfl⟩
 rw [decide_eq_false hb3] at hfr
 refine wly hfr (v_load_all (hst.get (k := 1) rfl) rfl (Try.isAgg77 _) (Try.sizeOf77 _)) fun a hfr => wly hfr (v_fieldAddr (v := .pointer (some ⟨w1.heap.size, 0, none⟩)) rfl (by kernel_rfl)) fun a hfr => wly hfr (v_fieldAddr (v := .pointer (some ⟨w1.heap.size, 1, none⟩)) rfl (by kernel_rfl)) fun a hfr => wly hfr (v_load_blk1 (hst.get (k := 0) rfl) rfl (Try.isAgg3 _) rfl) fun a hfr => wly hfr (v_fieldAddr (v := .pointer (some ⟨w0.heap.size, 0, none⟩)) rfl (by kernel_rfl)) fun a hfr => wly hfr (v_fieldAddr (v := .pointer (some ⟨w0.heap.size, 1, none⟩)) rfl (by kernel_rfl)) fun a hfr => wly hfr (v_load_blk1 (hst.get (k := 1) rfl) rfl (Try.isAgg3 _) rfl) fun a hfr => wly hfr (v_build (v := .agg #[iv q.t, iv x.t]) rfl (by kernel_rfl)) fun a hfr => wly hfr (v_fieldAddr (v := .pointer (some ⟨w1.heap.size, 2, none⟩)) rfl (by kernel_rfl)) fun a hfr => ?_
 refine wly hfr (v_load_blk1 (hst.get (k := 0) rfl) rfl (Try.isAgg3 _) rfl) fun a hfr => wly hfr (v_build (v := .agg #[iv q.t, iv x.t, iv q.c]) rfl (by kernel_rfl)) fun a hfr => wly hfr ((v_eq_agg rfl rfl (by kernel_rfl) (eqBlo x.f x.t x.c q.t x.t q.c _)).asb (b' := decide (x = (Blo.mk q.t x.t q.c))) (by rfl)) fun a hfr => ?_
 refine wlv hfr (v_pick_f rfl rfl) fun a hfr => wla hfr rfl fun a hfr => ?_
 refine wl_nil (hK4 _ _ ?_)
 replace hfr : Fr 40 [(3, _)] [] a := hfr.pick [3]
 replace hst : St (· = b1) w0 [_] w6 := hst.mask [false, false, true]
 refine wc_ret ?_
 refine fin_ret hfr Try.results54 (resAre_tmp rfl resAre_nil) ?_
 exact ⟨by simp only [retv]; refine congrArg Value.bool ?_; simp [badB, hb1, hb2, hb3], hst.ext, hst.get (k := 0) rfl⟩
theorem bvalid_ok (lv : Value) (l : List Blo) (w0 : World) (hlv : SlAt w0 lv 3 (l.map Blo.cells)) :
  Ret Try.prog 31 #[lv] w0 fun v w => v = .bool (mapOk l) ∧ Ext No w0 w := by
 refine ret_of Try.func31 rfl Try.ntmps31 (lb rfl) fun a hfr => ?_
 replace hfr : Fr 16 [(0, _)] [] a := hfr
 replace hst : St No w0 [] w0 := St.init w0
 refine wc_seq_region fun K1 hK1 => ?_
 refine wla hfr rfl fun a hfr => ?_
 refine wl_nil (hK1 _ _ ?_)
 refine wc_seq_region fun K2 hK2 => ?_
 refine wlv hfr (v_build (v := .agg #[iv 0, iv 0, iv (-1)]) rfl (by kernel_rfl)) fun a hfr => ?_
 refine wl_alloc hfr hst (Try.zeroValue77 _) [iv 0, iv 0, iv 0] rfl ?_
 clear hfr hst
 intro a w1 hfr hst
 refine wl_sto 0 hfr hst [iv 0, iv 0, iv (-1)] rfl (Try.sizeOf77 _) ?_
 clear hfr hst
 intro a w2 hfr hst
 refine wl_nil (hK2 _ _ ?_)
 refine wc_seq_region fun K3 hK3 => ?_
 refine wlv hfr (v_makeFunc rfl rfl) fun a hfr => wla hfr rfl fun a hfr => ?_
 refine wl_nil (hK3 _ _ ?_)
 refine wc_seq_region fun K4 hK4 => ?_
 refine wlm hfr rfl fun a hfr => ?_
 refine wlv hfr ((v_len_sl (sT := 28) (hst.arg hlv) rfl rfl (Try.runUnderlying28 _)).asi (m' := (l.length : Int)) (by rw [List.length_map])) fun a hfr => ?_
 refine wlv hfr (v_le rfl rfl) fun a hfr => wlm hfr rfl fun a hfr => ?_
 rcases Decidable.em ((l.length : Int) ≤ 40) with hb1 | hb1
 ·rw [decide_eq_true hb1] at hfr
  refine wly hfr (v_move rfl) fun a hfr => wly hfr (v_move rfl) fun a hfr => ?_
  refine wl_ry (r_call Try.call55 rfl (containsB_ok (M := No) (wb := w0) (H := []) (els := l.map Blo.cells) (caps := [.pointer (some ⟨w0.heap.size, 0, none⟩)]) (g := 54) (fun k => badB (prevB ⟨0, 0, -1⟩ l k) (l.getD k Blo.z)) (fun k => .agg (l.getD k Blo.z).cells.toArray) (fun k e => e = blk w0.heap.size (prevB ⟨0, 0, -1⟩ l k).cells 77) _ w2 Try.call54 (fun e w h => h.arg hlv) (fun k hk => by rw [el_at Blo.z]) rfl hst ?_)) rfl rfl (by decide) rfl rfl hfr ?_
  ·rintro k _ w hk rfl hok _
   refine (bad_ok (l.getD k Blo.z) (prevB ⟨0, 0, -1⟩ l k) _ w hok).mono fun v w' ⟨h1, h2, h3⟩ => ⟨h1, _, h2, h3, fun b hb => ?_, rfl⟩
   cases hb; exact ⟨(Array.getElem?_eq_some_iff.1 h3).1, .inl rfl⟩
  rintro a v w3 ⟨rfl, kk, _, rfl, hst⟩ hfr
  rw [List.length_map, any_badB] at hfr
  refine wly hfr (v_not rfl) fun a hfr => ?_
  refine wlv hfr (v_pick_t rfl rfl) fun a hfr => wla hfr rfl fun a hfr => ?_
  refine wl_nil (hK4 _ _ ?_)
  replace hfr : Fr 16 [(2, _)] [] a := hfr.pick [2]
  replace hst : St No w0 [] w3 := hst.mask [false]
  refine wc_ret ?_
  refine fin_ret hfr Try.results31 (resAre_tmp rfl resAre_nil) ?_
  exact ⟨by simp_all [retv, mapOk] <;> omega, hst.ext⟩
 rw [decide_eq_false hb1] at hfr
 refine wln hfr fun a hfr => ?_
 refine wln hfr fun a hfr => ?_
 refine wln hfr fun a hfr => ?_
 refine wln hfr fun a hfr => ?_
 refine wlv hfr (v_pick_f rfl rfl) fun a hfr => wla hfr rfl fun a hfr => ?_
 refine wl_nil (hK4 _ _ ?_)
 replace hfr : Fr 16 [(2, _)] [] a := hfr.pick [2]
 replace hst : St No w0 [] w2 := hst.mask [false]
 refine wc_ret ?_
 refine fin_ret hfr Try.results31 (resAre_tmp rfl resAre_nil) ?_
 exact ⟨by simp_all [retv, mapOk] <;> omega, hst.ext⟩
theorem over_ok (x y : Int) (w0 : World) :
  Ret Try.prog 53 #[iv x, iv y] w0 fun v w => v = iv (overX x y) ∧ Ext No w0 w := by
 refine ret_of Try.func53 rfl Try.ntmps53 (lb rfl) fun a hfr => ?_
 replace hfr : Fr 9 [(0, _), (1, _)] [] a := hfr
 replace hst : St No w0 [] w0 := St.init w0
 refine wc_seq_region fun K1 hK1 => ?_
 refine wla hfr rfl fun a hfr => ?_
 refine wl_nil (hK1 _ _ ?_)
 refine wc_seq_k fun K2 hK2 => ?_
 refine wc_seq_region fun K3 hK3 => ?_
 refine wlm hfr rfl fun a hfr => ?_
 refine wlv hfr (v_ne rfl rfl) fun a hfr => ?_
 refine wl_nil (hK3 _ _ ?_)
 refine wc_cond_n hfr rfl (fun hc1 => ?_) (fun hc1 => ?_)
 ·refine wc_seq_region fun K4 hK4 => ?_
  refine wlm hfr rfl fun a hfr => wla hfr rfl fun a hfr => ?_
  refine wl_nil (hK4 _ _ ?_)
  refine wc_ret ?_
  refine fin_ret hfr Try.results53 (resAre_tmp rfl resAre_nil) ?_
  exact ⟨by simp_all [retv, overX], hst.ext⟩
 refine wc_skip ?_
 refine hK2 _ _ ?_
 refine wc_seq_region fun K5 hK5 => ?_
 refine wlm hfr rfl fun a hfr => wla hfr rfl fun a hfr => ?_
 refine wl_nil (hK5 _ _ ?_)
 refine wc_ret ?_
 refine fin_ret hfr Try.results53 (resAre_tmp rfl resAre_nil) ?_
 exact ⟨by simp_all [retv, overX], hst.ext⟩
theorem on_ok (f t k : Int) (w0 : World) :
  Ret Try.prog 52 #[.agg #[iv f, iv t], iv k] w0 (MemR w0 (fun v : Value => v) (fun v => [own v 77 3 ([(⟨f, t, k⟩ : Blo)].map Blo.cells)]) (fun _ => True)) := by
 refine ret_of Try.func52 rfl Try.ntmps52 (lb rfl) fun a hfr => ?_
 replace hfr : Fr 9 [(0, _), (1, _)] [] a := hfr
 replace hst : St No w0 [] w0 := St.init w0
 refine wc_seq_region fun K1 hK1 => ?_
 refine wl_box hfr hst rfl [iv f, iv t] rfl ?_
 clear hfr hst
 intro a w1 hfr hst
 refine wla hfr rfl fun a hfr => ?_
 refine wl_nil (hK1 _ _ ?_)
 refine wc_seq_region fun K2 hK2 => ?_
 refine wlv hfr (v_load_all (hst.get (k := 0) rfl) rfl (Try.isAgg49 _) (Try.sizeOf49 _)) fun a hfr => wlm hfr rfl fun a hfr => ?_
 refine wlv hfr (v_build (v := .agg #[iv f, iv t, iv k]) rfl (by kernel_rfl)) fun a hfr => ?_
 refine wl_buildSlice (E := 77) (sz := 3) rfl [[iv f, iv t, iv k]] (by kernel_rfl) (by simp) rfl (by decide) (by decide) hfr hst ?_
 clear hfr hst
 intro a w2 hfr hst
 refine wla hfr rfl fun a hfr => ?_
 refine wl_nil (hK2 _ _ ?_)
 replace hfr : Fr 9 [(4, _)] [] a := hfr.pick [4]
 replace hst : St No w0 [_] w2 := hst.mask [true, false]
 refine wc_ret ?_
 refine fin_ret hfr Try.results52 (resAre_tmp rfl resAre_nil) ?_
 exact ⟨_, rfl, trivial, hst.ext, St.out (E := [own _ 77 3 ([(⟨f, t, k⟩ : Blo)].map Blo.cells)]) (H := []) (hst.select [0] (by decide))⟩
theorem one_ok (f t k : Int) (w0 : World) :
  Ret Try.prog 45 #[.agg #[iv f, iv t], iv k] w0 (MemR w0 (fun v : Value => v) (fun v => [own v 77 3 ([(⟨f, t, k⟩ : Blo)].map Blo.cells)]) (fun _ => True)) := by
 refine ret_of Try.func45 rfl Try.ntmps45 (lb rfl) fun a hfr => ?_
 replace hfr : Fr 9 [(0, _), (1, _)] [] a := hfr
 replace hst : St No w0 [] w0 := St.init w0
 refine wc_seq_region fun K1 hK1 => ?_
 refine wl_box hfr hst rfl [iv f, iv t] rfl ?_
 clear hfr hst
 intro a w1 hfr hst
 refine wla hfr rfl fun a hfr => ?_
 refine wl_nil (hK1 _ _ ?_)
 refine wc_seq_region fun K2 hK2 => ?_
 refine wlv hfr (v_load_all (hst.get (k := 0) rfl) rfl (Try.isAgg49 _) (Try.sizeOf49 _)) fun a hfr => wlm hfr rfl fun a hfr => ?_
 refine wlv hfr (v_build (v := .agg #[iv f, iv t, iv k]) rfl (by kernel_rfl)) fun a hfr => ?_
 refine wl_buildSlice (E := 77) (sz := 3) rfl [[iv f, iv t, iv k]] (by kernel_rfl) (by simp) rfl (by decide) (by decide) hfr hst ?_
 clear hfr hst
 intro a w2 hfr hst
 refine wla hfr rfl fun a hfr => ?_
 refine wl_nil (hK2 _ _ ?_)
 replace hfr : Fr 9 [(4, _)] [] a := hfr.pick [4]
 replace hst : St No w0 [_] w2 := hst.mask [true, false]
 refine wc_ret ?_
 refine fin_ret hfr Try.results45 (resAre_tmp rfl resAre_nil) ?_
 exact ⟨_, rfl, trivial, hst.ext, St.out (E := [own _ 77 3 ([(⟨f, t, k⟩ : Blo)].map Blo.cells)]) (H := []) (hst.select [0] (by decide))⟩
end Go.Proofs.Ytnfnkohkcmkddaa
