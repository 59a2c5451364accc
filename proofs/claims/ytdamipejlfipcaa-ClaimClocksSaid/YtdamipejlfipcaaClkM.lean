import Derived.Test.YtdamipejlfipcaaClkW
namespace Go.Proofs.Ytdamipejlfipcaa
open Go.RowKit Go.PW
set_option linter.unusedVariables false
set_option linter.unusedSimpArgs false
set_option maxRecDepth 4000

theorem cntEq_le (p : Nat → Int) {i m : Nat} (t : Int) (h : i ≤ m) : cntEq p i t ≤ cntEq p m t := by
  induction m with
  | zero => obtain rfl : i = 0 := by omega
            exact Nat.le_refl _
  | succ m ih =>
    by_cases he : i = m + 1
    · subst he; exact Nat.le_refl _
    · have := ih (by omega)
      rw [cntEq_succ]; omega
theorem last_loc {rs : List Rdg} {rd : Rdg} {z : Int} (hk : rs.length - 1 < rs.length) (h : rs.getD (rs.length - 1) ⟨0, 0, 0⟩ = rd) : lastLoc z rs = rd.loc := by
  unfold lastLoc
  rw [List.getLast?_eq_getElem?, List.getElem?_eq_getElem hk]
  rw [List.getD_eq_getElem?_getD, List.getElem?_eq_getElem hk] at h
  simp only [Option.getD_some] at h
  rw [h]
theorem made_snoc {drift start : Int} {rates : List Int} {rs : List Rdg} {sh pb pc t : Int} (h : okRdg (-1) rs ∧ ∀ r ∈ rs, madeOf drift start rates r) (hl : lastLoc (-1) rs < sh) (hsh : shown drift start rates t = sh) (h0 : 0 ≤ t) (h1 : t < 3000) (hb : 0 ≤ pb ∧ pb < 51) (hc : 0 ≤ pc ∧ pc < 51) :
    okRdg (-1) (rs ++ [⟨sh, max (t - pb) 0, t + pc⟩]) ∧ ∀ r ∈ (rs ++ [⟨sh, max (t - pb) 0, t + pc⟩]), madeOf drift start rates r := by
  have hb2 := shown_le drift start rates h0 (by omega)
  refine ⟨okRdg_snoc h.1 hl (by show sh ≤ 10000000; omega) (by show 0 ≤ max (t - pb) 0; omega) (by show max (t - pb) 0 ≤ t + pc; omega) (by show t + pc ≤ 10000000; omega), fun r hr => ?_⟩
  rcases List.mem_append.1 hr with hr | hr
  · exact h.2 r hr
  · obtain rfl := List.mem_singleton.1 hr
    exact ⟨t, h0, h1, hsh.symm, by show max (t - pb) 0 ≤ t; omega, by show t ≤ t + pc; omega⟩

set_option maxHeartbeats 4000000 in
/-- dialtone/dialtoneref05.Made -/
theorem made5_ok (drift start : Int) (rv av : Value) (rates : List Int) (ats : List Tri) (w0 : World) (hrv : SlAt w0 rv 1 (rates.map fun i => [.int .i64 i])) (hrates : ∀ k, k < rates.length → isI64 (rates.getD k 0)) (hav : SlAt w0 av 3 (ats.map Tri.cells)) (hats : ∀ k, k < ats.length → (ats.getD k ⟨0, 0, 0⟩).fits) (g1 : isI64 drift) (g2 : isI64 start) :
    Ret Try.prog 22 #[.int .i64 drift, .int .i64 start, rv, av] w0 (MemR w0 (fun x : Value × List Rdg => .agg #[.int .i64 (driftOf drift), x.1]) (fun x => [own x.1 98 3 (x.2.map Rdg.cells)]) (fun x => okRdg (-1) x.2 ∧ x.2.length ≤ 12 ∧ ∀ r ∈ x.2, madeOf drift start rates r)) := by
  have hdd : driftOf drift = driftOf drift := rfl
  unfold isI64 at g1 g2
  obtain ⟨d, hd⟩ : ∃ d, pick drift 101 = d := ⟨_, rfl⟩
  obtain ⟨hd0, hd1⟩ : 0 ≤ d ∧ d ≤ 100 := hd ▸ driftOf_le drift
  replace hdd : driftOf drift = d := hd
  refine ret_of Try.func22 rfl Try.ntmps22 (Nat.le_of_ble_eq_true rfl) fun a hfr => ?_
  replace hfr : Fr 86 [(0, _), (1, _), (2, _), (3, _)] [] a := hfr
  replace hst : St No w0 [] w0 := St.init w0
  refine wc_seq_region fun K1 hK1 => ?_
  refine wl_alloc hfr hst (by decide) (Try.zeroValue59 _) (cs := [.int .i64 0, .slice none 0 0]) rfl ?_
  clear hfr hst
  intro a w1 hfr hst
  refine wl_nil (hK1 _ _ ?_)
  refine wc_seq_region fun K2 hK2 => ?_
  refine wl_v hfr (by decide) (v_move rfl) ?_
  clear hfr
  intro a hfr
  refine wl_callp hfr hst (by decide) Try.call43 rfl (pick2c hd (pick5_ok _ _ _ (by omega) (by omega) (by omega) (by omega))) ?_
  clear hfr hst
  intro a w2 hfr hst
  refine wl_v hfr (by decide) (v_build (v := .agg #[.int .i64 d, .slice none 0 0]) rfl (by kernel_rfl)) ?_
  clear hfr
  intro a hfr
  refine wl_alloc hfr hst (by decide) (Try.zeroValue59 _) (cs := [.int .i64 0, .slice none 0 0]) rfl ?_
  clear hfr hst
  intro a w3 hfr hst
  refine wl_store 0 hfr hst rfl rfl rfl (Try.sizeOf59 _) rfl (Nat.le_of_ble_eq_true rfl) (ds := [.int .i64 d, .slice none 0 0]) rfl rfl ?_
  clear hfr hst
  intro a w4 hfr hst
  refine wl_nil (hK2 _ _ ?_)
  refine wc_seq_k fun K3 hK3 => ?_
  refine wc_seq_region fun K4 hK4 => ?_
  refine wl_v hfr (by decide) (v_assign rfl) ?_
  clear hfr
  intro a hfr
  refine wl_nil (hK4 _ _ ?_)
  refine wc_block ?_
  replace hst : St No w0 (own (.slice none 0 0) 98 3 [] :: [blk w2.heap.size [.int .i64 d, .slice none 0 0] 59, blk w0.heap.size [.int .i64 0, .slice none 0 0] 59]) w4 := hst.nil_own
  refine wc_loop (fun m a w => ∃ (t : Nat) (v : Value) (rs : List Rdg), m = 3000 - t ∧ (t ≤ 3000) ∧ (okRdg (-1) rs ∧ ∀ r ∈ rs, madeOf drift start rates r) ∧ (rs.length ≤ cntLt (fun j => pick (ats.getD j ⟨0, 0, 0⟩).a 3000) (min ats.length 12) (t : Int)) ∧ Fr 86 [(0, .int .i64 drift), (1, .int .i64 start), (2, rv), (3, av), (8, .pointer (some ⟨w0.heap.size, 0, none⟩)), (9, .pointer (some ⟨w2.heap.size, 0, none⟩)), (10, .int .i64 (t : Int))] [] a ∧ St No w0 [own v 98 3 (rs.map Rdg.cells), blk w2.heap.size [.int .i64 d, v] 59, blk w0.heap.size [.int .i64 0, .slice none 0 0] 59] w) _ ⟨0, .slice none 0 0, [], rfl, (by omega), ⟨trivial, fun _ h => absurd h (by simp)⟩, Nat.zero_le _, hfr.pick [0, 1, 2, 3, 8, 9, 10], hst.select [0, 1, 2] (by decide)⟩ ?_
  rintro _ a w5 ⟨t, v, rs, rfl, ht, hgd, hln, hfr, hst⟩
  refine wc_seq_k fun K5 hK5 => ?_
  refine wc_seq_region fun K6 hK6 => ?_
  refine wl_v hfr (by decide) (v_move rfl) ?_
  clear hfr
  intro a hfr
  refine wl_v hfr (by decide) (v_lt rfl rfl) ?_
  clear hfr
  intro a hfr
  refine wl_nil (hK6 _ _ ?_)
  refine wc_cond hfr rfl (fun hc1 => ?_) (fun hc1 => ?_)
  · rw [hc1] at hfr
    try simp only [Bool.not_eq_true', Bool.not_eq_false', decide_eq_true_eq, decide_eq_false_iff_not] at hc1
    refine wc_skip ?_
    refine hK5 _ _ ?_
    refine wc_seq_k fun K7 hK7 => ?_
    refine wc_block ?_
    refine wc_seq_region fun K8 hK8 => ?_
    refine wl_v hfr (by decide) (v_assign rfl) ?_
    clear hfr
    intro a hfr
    refine wl_nil (hK8 _ _ ?_)
    refine wc_block ?_
    refine wc_loop (fun m a w => ∃ (k : Nat) (v : Value) (rs : List Rdg), m = 12 - k ∧ (k ≤ ats.length) ∧ (k ≤ 12) ∧ (okRdg (-1) rs ∧ ∀ r ∈ rs, madeOf drift start rates r) ∧ (rs.length ≤ cntLt (fun j => pick (ats.getD j ⟨0, 0, 0⟩).a 3000) (min ats.length 12) (t : Int) + cntEq (fun j => pick (ats.getD j ⟨0, 0, 0⟩).a 3000) k (t : Int)) ∧ Fr 86 [(0, .int .i64 drift), (1, .int .i64 start), (2, rv), (3, av), (8, .pointer (some ⟨w0.heap.size, 0, none⟩)), (9, .pointer (some ⟨w2.heap.size, 0, none⟩)), (10, .int .i64 (t : Int)), (11, .int .i64 (k : Int))] [] a ∧ St No w0 [own v 98 3 (rs.map Rdg.cells), blk w2.heap.size [.int .i64 d, v] 59, blk w0.heap.size [.int .i64 0, .slice none 0 0] 59] w) _ ⟨0, v, rs, rfl, Nat.zero_le _, Nat.zero_le _, hgd, (by have : cntEq (fun j => pick (ats.getD j ⟨0, 0, 0⟩).a 3000) 0 (t : Int) = 0 := rfl; omega), hfr.pick [0, 1, 2, 3, 8, 9, 10, 11], hst.select [0, 1, 2] (by decide)⟩ ?_
    rintro _ a w6 ⟨k, v, rs, rfl, hk, hk2, hgd, hln, hfr, hst⟩
    refine wc_seq_k fun K9 hK9 => ?_
    refine wc_seq_region fun K10 hK10 => ?_
    refine wl_v hfr (by decide) (v_move rfl) ?_
    clear hfr
    intro a hfr
    refine wl_v hfr (by decide) (v_move rfl) ?_
    clear hfr
    intro a hfr
    refine wl_v hfr (by decide) ((v_len_sl (sT := 24) (hst.arg hav) rfl rfl (Try.runUnderlying24 _)).asi (m' := (ats.length : Int)) (by simp)) ?_
    clear hfr
    intro a hfr
    refine wl_v hfr (by decide) (v_lt rfl rfl) ?_
    clear hfr
    intro a hfr
    refine wl_v hfr (by decide) (v_move rfl) ?_
    clear hfr
    intro a hfr
    rcases Bool.eq_false_or_eq_true (decide ((k : Int) < (ats.length : Int))) with hb2 | hb2
    · rw [hb2] at hfr
      try simp only [Bool.not_eq_true', Bool.not_eq_false', decide_eq_true_eq, decide_eq_false_iff_not] at hb2
      have hka : k < ats.length := by omega
      obtain ⟨z, hz⟩ : ∃ z, ats.getD k ⟨0, 0, 0⟩ = z := ⟨_, rfl⟩
      have hzf : z.fits := hz ▸ hats k hka
      obtain ⟨hza, hzb, hzc⟩ := hzf
      unfold isI64 at hza hzb hzc
      obtain ⟨pa, hpa⟩ : ∃ q, pick z.a 3000 = q := ⟨_, rfl⟩
      obtain ⟨pb, hpb⟩ : ∃ q, pick z.b 51 = q := ⟨_, rfl⟩
      obtain ⟨pc, hpc⟩ : ∃ q, pick z.c 51 = q := ⟨_, rfl⟩
      have hpab := pick_lt z.a 3000 (by omega)
      have hpbb := pick_lt z.b 51 (by omega)
      have hpcb := pick_lt z.c 51 (by omega)
      rw [hpa] at hpab
      rw [hpb] at hpbb
      rw [hpc] at hpcb
      refine wl_vy hfr (by decide) rfl (by decide) rfl (v_move rfl) ?_
      clear hfr
      intro a hfr
      refine wl_vy hfr (by decide) rfl (by decide) rfl (v_lt rfl rfl) ?_
      clear hfr
      intro a hfr
      refine wl_v hfr (by decide) (v_pick_t rfl rfl) ?_
      clear hfr
      intro a hfr
      refine wl_nil (hK10 _ _ ?_)
      replace hfr : Fr 86 [(0, _), (1, _), (2, _), (3, _), (8, _), (9, _), (10, _), (11, _), (28, _)] [] a := hfr.pick [0, 1, 2, 3, 8, 9, 10, 11, 28]
      refine wc_cond hfr rfl (fun hc3 => ?_) (fun hc3 => ?_)
      · rw [hc3] at hfr
        try simp only [Bool.not_eq_true', Bool.not_eq_false', decide_eq_true_eq, decide_eq_false_iff_not] at hc3
        refine wc_skip ?_
        refine hK9 _ _ ?_
        refine wc_seq_k fun K11 hK11 => ?_
        refine wc_block ?_
        refine wc_seq_k fun K12 hK12 => ?_
        refine wc_seq_region fun K13 hK13 => ?_
        refine wl_v hfr (by decide) (v_move rfl) ?_
        clear hfr
        intro a hfr
        refine wl_v hfr (by decide) (v_move rfl) ?_
        clear hfr
        intro a hfr
        refine wl_v hfr (by decide) ((v_indexAddr_sl (i := (k : Int)) (sT := 24) (hst.arg hav) rfl rfl (Try.runUnderlying24 _) (Try.sizeOf82 _) (by omega) (by simpa using hka)).as (v' := slAddr av (k * 3)) rfl) ?_
        clear hfr
        intro a hfr
        refine wl_v hfr (by decide) (v_indexAddr_slp (k := k * 3) (j := 0) (hst.arg hav) (i := k) (by simpa using hka) rfl rfl (fun _ _ => by kernel_rfl)) ?_
        clear hfr
        intro a hfr
        refine wl_v hfr (by decide) (v_load_sl1 (u := .int .i64 z.a) (i := k) (j := 0) (hst.arg hav) (by simpa using hka) rfl (Try.isAgg3 _) (by rw [← hz]; first | (show _ = Value.agg (ats.getD k ⟨0, 0, 0⟩).cells.toArray; simp [hka]) | simp [List.getElem?_eq_getElem hka, Tri.cells])) ?_
        clear hfr
        intro a hfr
        refine wl_callp hfr hst (by decide) Try.call43 rfl (pick2c hpa (pick5_ok _ _ _ (by omega) (by omega) (by omega) (by omega))) ?_
        clear hfr hst
        intro a w7 hfr hst
        refine wl_v hfr (by decide) (v_move rfl) ?_
        clear hfr
        intro a hfr
        refine wl_v hfr (by decide) (v_ne rfl rfl) ?_
        clear hfr
        intro a hfr
        refine wl_nil (hK13 _ _ ?_)
        replace hfr : Fr 86 [(0, _), (1, _), (2, _), (3, _), (8, _), (9, _), (10, _), (11, _), (38, _)] [] a := hfr.pick [0, 1, 2, 3, 8, 9, 10, 11, 38]
        refine wc_cond hfr rfl (fun hc4 => ?_) (fun hc4 => ?_)
        · rw [hc4] at hfr
          try simp only [Bool.not_eq_true', Bool.not_eq_false', decide_eq_true_eq, decide_eq_false_iff_not] at hc4
          refine wc_exit ?_
          refine hK11 _ _ ?_
          refine wc_region ?_
          refine wl_v hfr (by decide) (v_move rfl) ?_
          clear hfr
          intro a hfr
          refine wl_v hfr (by decide) (v_add rfl rfl ⟨by omega, by omega⟩) ?_
          clear hfr
          intro a hfr
          refine wl_v hfr (by decide) (v_assign rfl) ?_
          clear hfr
          intro a hfr
          refine wl_nil ?_
          have hcs := cntEq_succ (fun j => pick (ats.getD j ⟨0, 0, 0⟩).a 3000) k (t : Int)
          refine ⟨_, ?_, k + 1, v, rs, rfl, (by omega), (by omega), hgd, (by omega), hfr.pick [0, 1, 2, 3, 8, 9, 10, 11], hst.select [0, 1, 2] (by decide)⟩
          omega
        rw [hc4] at hfr
        try simp only [Bool.not_eq_true', Bool.not_eq_false', decide_eq_true_eq, decide_eq_false_iff_not] at hc4
        obtain ⟨sh, hsh⟩ : ∃ q, shown drift start rates (t : Int) = q := ⟨_, rfl⟩
        have hshb := shown_le drift start rates (t := (t : Int)) (by omega) (by omega)
        rw [hsh] at hshb
        have hll : rs.length ≤ 12 := by have := cntLt_le (fun j => pick (ats.getD j ⟨0, 0, 0⟩).a 3000) (min ats.length 12) ((t : Int) + 1); have h2 := cnt_next (fun j => pick (ats.getD j ⟨0, 0, 0⟩).a 3000) (min ats.length 12) (t : Int); have h3 := cntEq_le (fun j => pick (ats.getD j ⟨0, 0, 0⟩).a 3000) (i := k) (m := (min ats.length 12)) (t : Int) (by omega); omega
        refine wc_skip ?_
        refine hK12 _ _ ?_
        refine wc_seq_k fun K14 hK14 => ?_
        refine wc_of_dr (by kernel_rfl) (dr_of_wd (by kernel_rfl) fun w8 hxz => ?_)
        replace hst : St No w0 [own v 98 3 (rs.map Rdg.cells), blk w2.heap.size [.int .i64 d, v] 59, blk w0.heap.size [.int .i64 0, .slice none 0 0] 59] w8 := hst.grow hxz
        refine wd_sub (k := 0) 24 [22, 23] hfr (by kernel_rfl) (by kernel_rfl) (by kernel_rfl) (by rfl) ?_
        replace hfr : Fr 86 [(0, _), (1, _), (2, _), (3, _), (8, _), (9, _), (10, _), (11, _), (38, _)] [] a := hfr.pick [0, 1, 2, 3, 8, 9, 10, 11, 38]
        refine wc_phases_v1 23 (pm (fun b : Nat => .pointer (some ⟨b, 0, none⟩)) (fun b => [blk b [.int .i64 0, .int .i64 0, .int .i64 0] 98]) (fun _ => True)) 24 [[], [], [], [], [0, 1, 2, 3], [], [], [], [6, 7], [8], [9], [10], [5, 11], [12], [], [], [], [15, 16], [17], [18], [19], [14, 20], [4, 13, 21], []] [.int .i64 drift, .int .i64 start, rv, .int .i64 (t : Int), .int .i64 sh, .int .i64 (t : Int), av, .int .i64 (k : Int), slAddr av (k * 3), slAddr av (k * 3 + 1), .int .i64 z.b, .int .i64 pb, .int .i64 ((t : Int) - pb), .int .i64 (max ((t : Int) - pb) 0), .int .i64 (t : Int), av, .int .i64 (k : Int), slAddr av (k * 3), slAddr av (k * 3 + 2), .int .i64 z.c, .int .i64 pc, .int .i64 ((t : Int) + pc), .agg #[.int .i64 sh, .int .i64 (max ((t : Int) - pb) 0), .int .i64 ((t : Int) + pc)], undef] hfr hst (by kernel_rfl) (by kernel_rfl) (by kernel_rfl) ?_ ?_ ?_
        · intro i hi hq w hst
          match i, hi, hq with
          | 0, _, _ => exact OpV.g (v_move rfl)
          | 1, _, _ => exact OpV.g (v_move rfl)
          | 2, _, _ => exact OpV.g (v_move rfl)
          | 3, _, _ => exact OpV.g (v_move rfl)
          | 4, _, _ => exact g_callp Try.call24 rfl (shown2 hsh (shown_ok drift start rv rates (t : Int) _ (hst.arg hrv) hrates g1 g2 (by omega) (by omega)))
          | 5, _, _ => exact OpV.g (v_move rfl)
          | 6, _, _ => exact OpV.g (v_move rfl)
          | 7, _, _ => exact OpV.g (v_move rfl)
          | 8, _, _ => exact OpV.g ((v_indexAddr_sl (i := (k : Int)) (sT := 24) (hst.arg hav) rfl rfl (Try.runUnderlying24 _) (Try.sizeOf82 _) (by omega) (by simpa using hka)).as (v' := slAddr av (k * 3)) rfl)
          | 9, _, _ => exact OpV.g (v_indexAddr_slp (k := k * 3) (j := 1) (hst.arg hav) (i := k) (by simpa using hka) rfl rfl (fun _ _ => by kernel_rfl))
          | 10, _, _ => exact OpV.g (v_load_sl1 (u := .int .i64 z.b) (i := k) (j := 1) (hst.arg hav) (by simpa using hka) rfl (Try.isAgg3 _) (by rw [← hz]; first | (show _ = Value.agg (ats.getD k ⟨0, 0, 0⟩).cells.toArray; simp [hka]) | simp [List.getElem?_eq_getElem hka, Tri.cells]))
          | 11, _, _ => exact g_callp Try.call43 rfl (pick2c hpb (pick5_ok _ _ _ (by omega) (by omega) (by omega) (by omega)))
          | 12, _, _ => exact OpV.g (v_sub rfl rfl ⟨by omega, by omega⟩)
          | 13, _, _ => exact OpV.g (v_max2 rfl rfl)
          | 14, _, _ => exact OpV.g (v_move rfl)
          | 15, _, _ => exact OpV.g (v_move rfl)
          | 16, _, _ => exact OpV.g (v_move rfl)
          | 17, _, _ => exact OpV.g ((v_indexAddr_sl (i := (k : Int)) (sT := 24) (hst.arg hav) rfl rfl (Try.runUnderlying24 _) (Try.sizeOf82 _) (by omega) (by simpa using hka)).as (v' := slAddr av (k * 3)) rfl)
          | 18, _, _ => exact OpV.g (v_indexAddr_slp (k := k * 3) (j := 2) (hst.arg hav) (i := k) (by simpa using hka) rfl rfl (fun _ _ => by kernel_rfl))
          | 19, _, _ => exact OpV.g (v_load_sl1 (u := .int .i64 z.c) (i := k) (j := 2) (hst.arg hav) (by simpa using hka) rfl (Try.isAgg3 _) (by rw [← hz]; first | (show _ = Value.agg (ats.getD k ⟨0, 0, 0⟩).cells.toArray; simp [hka]) | simp [List.getElem?_eq_getElem hka, Tri.cells]))
          | 20, _, _ => exact g_callp Try.call43 rfl (pick2c hpc (pick5_ok _ _ _ (by omega) (by omega) (by omega) (by omega)))
          | 21, _, _ => exact OpV.g (v_add rfl rfl ⟨by omega, by omega⟩)
          | 22, _, _ => exact OpV.g (v_build (v := .agg #[.int .i64 sh, .int .i64 (max ((t : Int) - pb) 0), .int .i64 ((t : Int) + pc)]) rfl (by kernel_rfl))
          | 23, _, h => exact absurd rfl h
          | i + 24, h, _ => exact absurd h (by omega)
        · intro w hst
          exact g_alloc (Try.zeroValue98 _) (cs := [.int .i64 0, .int .i64 0, .int .i64 0]) rfl
        clear hfr hst
        rintro _ _ ⟨b5, rfl, -, rfl⟩ a w9 hfr hst
        replace hfr : Fr 86 [(39, .int .i64 drift), (40, .int .i64 start), (41, rv), (42, .int .i64 (t : Int)), (43, .int .i64 sh), (44, .int .i64 (t : Int)), (45, av), (46, .int .i64 (k : Int)), (47, slAddr av (k * 3)), (48, slAddr av (k * 3 + 1)), (49, .int .i64 z.b), (50, .int .i64 pb), (51, .int .i64 ((t : Int) - pb)), (52, .int .i64 (max ((t : Int) - pb) 0)), (53, .int .i64 (t : Int)), (54, av), (55, .int .i64 (k : Int)), (56, slAddr av (k * 3)), (57, slAddr av (k * 3 + 2)), (58, .int .i64 z.c), (59, .int .i64 pc), (60, .int .i64 ((t : Int) + pc)), (61, .agg #[.int .i64 sh, .int .i64 (max ((t : Int) - pb) 0), .int .i64 ((t : Int) + pc)]), (12, .pointer (some ⟨b5, 0, none⟩)), (0, .int .i64 drift), (1, .int .i64 start), (2, rv), (3, av), (8, .pointer (some ⟨w0.heap.size, 0, none⟩)), (9, .pointer (some ⟨w2.heap.size, 0, none⟩)), (10, .int .i64 (t : Int)), (11, .int .i64 (k : Int)), (38, .bool false)] [] a := hfr
        replace hst : St No w0 [blk b5 [.int .i64 0, .int .i64 0, .int .i64 0] 98, own v 98 3 (rs.map Rdg.cells), blk w2.heap.size [.int .i64 d, v] 59, blk w0.heap.size [.int .i64 0, .slice none 0 0] 59] w9 := hst
        refine wl_nil ?_
        refine wd_lin (k := 24) 25 [24] (by kernel_rfl) (by kernel_rfl) (by kernel_rfl) ?_
        refine wl_store 0 hfr hst rfl rfl rfl (Try.sizeOf98 _) rfl (Nat.le_of_ble_eq_true rfl) (ds := [.int .i64 sh, .int .i64 (max ((t : Int) - pb) 0), .int .i64 ((t : Int) + pc)]) rfl rfl ?_
        clear hfr hst
        intro a w10 hfr hst
        refine wl_nil ?_
        refine wd_end (by kernel_rfl) ?_
        refine hK14 _ _ ?_
        replace hfr : Fr 86 [(0, _), (1, _), (2, _), (3, _), (8, _), (9, _), (10, _), (11, _), (12, _)] [] a := hfr.pick [0, 1, 2, 3, 8, 9, 10, 11, 12]
        refine wc_seq_region fun K15 hK15 => ?_
        refine wl_v hfr (by decide) (v_fieldAddr (v := .pointer (some ⟨w2.heap.size, 1, none⟩)) rfl (by kernel_rfl)) ?_
        clear hfr
        intro a hfr
        refine wl_v hfr (by decide) (v_load_blk1 (hst.get (k := 2) rfl) rfl (Try.isAgg57 _) rfl) ?_
        clear hfr
        intro a hfr
        refine wl_v hfr (by decide) ((v_len_sl (sT := 57) (hst.ownAt (i := 1) rfl) rfl rfl (Try.runUnderlying57 _)).asi (m' := (rs.length : Int)) (by simp)) ?_
        clear hfr
        intro a hfr
        refine wl_v hfr (by decide) (v_assign rfl) ?_
        clear hfr
        intro a hfr
        refine wl_nil (hK15 _ _ ?_)
        refine wc_seq_k fun K16 hK16 => ?_
        refine wc_of_dr (by kernel_rfl) (dr_of_wd (by kernel_rfl) fun w11 hxz => ?_)
        replace hst : St No w0 [blk b5 [.int .i64 sh, .int .i64 (max ((t : Int) - pb) 0), .int .i64 ((t : Int) + pc)] 98, own v 98 3 (rs.map Rdg.cells), blk w2.heap.size [.int .i64 d, v] 59, blk w0.heap.size [.int .i64 0, .slice none 0 0] 59] w11 := hst.grow hxz
        refine wd_lin (k := 0) 3 [2] (by kernel_rfl) (by kernel_rfl) (by kernel_rfl) ?_
        refine wl_v hfr (by decide) (v_move rfl) ?_
        clear hfr
        intro a hfr
        refine wl_v hfr (by decide) (v_eq rfl rfl) ?_
        clear hfr
        intro a hfr
        refine wl_v hfr (by decide) (v_move rfl) ?_
        clear hfr
        intro a hfr
        refine wl_nil ?_
        rcases Bool.eq_false_or_eq_true (decide ((rs.length : Int) = 0)) with hb6 | hb6
        · rw [hb6] at hfr
          try simp only [Bool.not_eq_true', Bool.not_eq_false', decide_eq_true_eq, decide_eq_false_iff_not] at hb6
          have hrs0 : rs = [] := List.eq_nil_of_length_eq_zero (by omega)
          have hgd2 : okRdg (-1) (rs ++ [⟨sh, max ((t : Int) - pb) 0, (t : Int) + pc⟩]) ∧ ∀ r ∈ (rs ++ [⟨sh, max ((t : Int) - pb) 0, (t : Int) + pc⟩]), madeOf drift start rates r := made_snoc hgd (by subst hrs0; show (-1 : Int) < sh; omega) hsh (by omega) (by omega) (by omega) (by omega)
          replace hfr : Fr 86 [(0, .int .i64 drift), (1, .int .i64 start), (2, rv), (3, av), (8, .pointer (some ⟨w0.heap.size, 0, none⟩)), (9, .pointer (some ⟨w2.heap.size, 0, none⟩)), (10, .int .i64 (t : Int)), (11, .int .i64 (k : Int)), (12, .pointer (some ⟨b5, 0, none⟩)), (62, .pointer (some ⟨w2.heap.size, 1, none⟩)), (63, v), (64, .int .i64 (rs.length : Int)), (13, .int .i64 (rs.length : Int)), (65, .int .i64 (rs.length : Int)), (66, .bool true), (67, .bool true)] [] a := hfr.pick [0, 1, 2, 3, 8, 9, 10, 11, 12, 62, 63, 64, 13, 65, 66, 67]
          refine wd_skip (k := 3) 12 [9, 11] hfr (by kernel_rfl) (by kernel_rfl) (by kernel_rfl) (by rfl) ?_
          clear hfr
          intro a hfr
          replace hfr : Fr 86 [(68, undef), (69, undef), (70, undef), (71, undef), (72, undef), (73, undef), (74, undef), (75, undef), (76, undef), (0, .int .i64 drift), (1, .int .i64 start), (2, rv), (3, av), (8, .pointer (some ⟨w0.heap.size, 0, none⟩)), (9, .pointer (some ⟨w2.heap.size, 0, none⟩)), (10, .int .i64 (t : Int)), (11, .int .i64 (k : Int)), (12, .pointer (some ⟨b5, 0, none⟩)), (62, .pointer (some ⟨w2.heap.size, 1, none⟩)), (63, v), (64, .int .i64 (rs.length : Int)), (13, .int .i64 (rs.length : Int)), (65, .int .i64 (rs.length : Int)), (66, .bool true), (67, .bool true)] [] a := hfr
          refine wd_lin (k := 12) 14 [13] (by kernel_rfl) (by kernel_rfl) (by kernel_rfl) ?_
          refine wl_vn hfr (by decide) rfl (by decide) rfl rfl ?_
          clear hfr
          intro a hfr
          refine wl_v hfr (by decide) (v_pick_t rfl rfl) ?_
          clear hfr
          intro a hfr
          refine wl_nil ?_
          refine wd_end (by kernel_rfl) ?_
          refine hK16 _ _ ?_
          replace hfr : Fr 86 [(0, _), (1, _), (2, _), (3, _), (8, _), (9, _), (10, _), (11, _), (12, _), (78, _)] [] a := hfr.pick [0, 1, 2, 3, 8, 9, 10, 11, 12, 78]
          refine wc_cond_t hfr rfl ?_
          refine wc_region ?_
          refine wl_v hfr (by decide) (v_fieldAddr (v := .pointer (some ⟨w2.heap.size, 1, none⟩)) rfl (by kernel_rfl)) ?_
          clear hfr
          intro a hfr
          refine wl_v hfr (by decide) (v_load_blk1 (hst.get (k := 2) rfl) rfl (Try.isAgg57 _) rfl) ?_
          clear hfr
          intro a hfr
          refine wl_v hfr (by decide) (v_load_all (hst.get (k := 0) rfl) rfl (Try.isAgg98 _) (Try.sizeOf98 _)) ?_
          clear hfr
          intro a hfr
          refine wl_buildSlice (E := 98) (sz := 3) rfl [[.int .i64 sh, .int .i64 (max ((t : Int) - pb) 0), .int .i64 ((t : Int) + pc)]] (by kernel_rfl) (by simp) rfl (by decide) (by decide) hfr hst ?_
          clear hfr hst
          intro a w12 hfr hst
          refine wl_append (i := 2) (sT := 57) (inf := Try.t98) (z := .agg #[.int .i64 0, .int .i64 0, .int .i64 0]) (b := 0) (off := 0) (m := 0) (c := 0) rfl rfl rfl (hst.ownAt (i := 0) rfl) (by simp) Try.underlying57 rfl rfl rfl rfl (by decide) (by simp [Value.oneCell']) (by have hby : Try.t98.bytes = 24 := rfl; simp [big, hby]; omega) (by have hby : Try.t98.bytes = 24 := rfl; simp [big, hby]; omega) (by decide) hfr hst fun a w13 s7 hfr hst _ => ?_
          refine wl_v hfr (by decide) (v_fieldAddr (v := .pointer (some ⟨w2.heap.size, 1, none⟩)) rfl (by kernel_rfl)) ?_
          clear hfr
          intro a hfr
          refine wl_store_sl 3 hfr hst (hst.ownAt (i := 2) rfl) rfl rfl rfl (Try.sizeOf57 _) (Nat.le_of_ble_eq_true rfl) (ds := [.int .i64 d, s7]) rfl rfl ?_
          clear hfr hst
          intro a w14 hfr hst
          refine wl_nil ?_
          refine hK11 _ _ ?_
          replace hfr : Fr 86 [(0, _), (1, _), (2, _), (3, _), (8, _), (9, _), (10, _), (11, _)] [] a := hfr.pick [0, 1, 2, 3, 8, 9, 10, 11]
          replace hst : St No w0 [_, _, _] w14 := hst.mask [false, false, true, true, true]
          refine wc_region ?_
          refine wl_v hfr (by decide) (v_move rfl) ?_
          clear hfr
          intro a hfr
          refine wl_v hfr (by decide) (v_add rfl rfl ⟨by omega, by omega⟩) ?_
          clear hfr
          intro a hfr
          refine wl_v hfr (by decide) (v_assign rfl) ?_
          clear hfr
          intro a hfr
          refine wl_nil ?_
          have hcs := cntEq_succ (fun j => pick (ats.getD j ⟨0, 0, 0⟩).a 3000) k (t : Int)
          rw [show (rs.map Rdg.cells) ++ ([[.int .i64 sh, .int .i64 (max ((t : Int) - pb) 0), .int .i64 ((t : Int) + pc)]]) = ((rs ++ [(⟨sh, max ((t : Int) - pb) 0, (t : Int) + pc⟩ : Rdg)]).map Rdg.cells) from by simp [Rdg.cells]] at hst
          have hpe : (fun j => pick (ats.getD j ⟨0, 0, 0⟩).a 3000) k = (t : Int) := by simp only [hz, hpa]; omega
          rw [if_pos hpe] at hcs
          refine ⟨_, ?_, k + 1, s7, rs ++ [(⟨sh, max ((t : Int) - pb) 0, (t : Int) + pc⟩ : Rdg)], rfl, (by omega), (by omega), hgd2, (by simp only [List.length_append, List.length_cons, List.length_nil]; omega), hfr.pick [0, 1, 2, 3, 8, 9, 10, 11], hst.select [0, 1, 2] (by decide)⟩
          omega
        rw [hb6] at hfr
        try simp only [Bool.not_eq_true', Bool.not_eq_false', decide_eq_true_eq, decide_eq_false_iff_not] at hb6
        have hkl : rs.length - 1 < rs.length := by omega
        obtain ⟨rd, hrd⟩ : ∃ r, rs.getD (rs.length - 1) ⟨0, 0, 0⟩ = r := ⟨_, rfl⟩
        refine wd_sub (k := 3) 12 [9, 11] hfr (by kernel_rfl) (by kernel_rfl) (by kernel_rfl) (by rfl) ?_
        replace hfr : Fr 86 [(0, _), (1, _), (2, _), (3, _), (8, _), (9, _), (10, _), (11, _), (12, _), (62, _), (63, _), (64, _), (13, _), (65, _), (66, _), (67, _)] [] a := hfr.pick [0, 1, 2, 3, 8, 9, 10, 11, 12, 62, 63, 64, 13, 65, 66, 67]
        refine wc_phases_v 9 [[], [0], [], [2], [1, 3], [4], [5], [], [7]] [.pointer (some ⟨w2.heap.size, 1, none⟩), v, .int .i64 (rs.length : Int), .int .i64 ((rs.length : Int) - 1), slAddr v ((rs.length - 1) * 3), slAddr v ((rs.length - 1) * 3 + 0), .int .i64 rd.loc, .pointer (some ⟨b5, 0, none⟩), .int .i64 sh] hfr hst (by kernel_rfl) (by kernel_rfl) ?_ ?_
        · intro i hi w hst
          match i, hi with
          | 0, _ => exact OpV.g (v_fieldAddr (v := .pointer (some ⟨w2.heap.size, 1, none⟩)) rfl (by kernel_rfl))
          | 1, _ => exact OpV.g (v_load_blk1 (hst.get (k := 2) rfl) rfl (Try.isAgg57 _) rfl)
          | 2, _ => exact OpV.g (v_move rfl)
          | 3, _ => exact OpV.g (v_sub rfl rfl ⟨by omega, by omega⟩)
          | 4, _ => exact OpV.g ((v_indexAddr_sl (i := (rs.length : Int) - 1) (sT := 57) (hst.ownAt (i := 1) rfl) rfl rfl (Try.runUnderlying57 _) (Try.sizeOf98 _) (by omega) (by simpa using hkl)).as (v' := slAddr v ((rs.length - 1) * 3)) (by rw [show ((rs.length : Int) - 1).toNat = rs.length - 1 from by omega]))
          | 5, _ => exact OpV.g (v_fieldAddr_sl (k := (rs.length - 1) * 3) (j := 0) (hst.ownAt (i := 1) rfl) (i := (rs.length - 1)) (by simpa using hkl) rfl (fun _ _ => by kernel_rfl))
          | 6, _ => exact OpV.g (v_load_sl1 (u := .int .i64 rd.loc) (i := (rs.length - 1)) (j := 0) (hst.ownAt (i := 1) rfl) (by simpa using hkl) rfl (Try.isAgg3 _) (by rw [← hrd]; first | (show _ = Value.agg (rs.getD rs.length - 1 ⟨0, 0, 0⟩).cells.toArray; simp [hkl]) | simp [List.getElem?_eq_getElem hkl, Rdg.cells]))
          | 7, _ => exact OpV.g (v_fieldAddr (v := .pointer (some ⟨b5, 0, none⟩)) rfl (by kernel_rfl))
          | 8, _ => exact OpV.g (v_load_blk1 (hst.get (k := 0) rfl) rfl (Try.isAgg3 _) rfl)
        clear hfr hst
        intro a w15 hfr hst
        replace hfr : Fr 86 [(68, .pointer (some ⟨w2.heap.size, 1, none⟩)), (69, v), (70, .int .i64 (rs.length : Int)), (71, .int .i64 ((rs.length : Int) - 1)), (72, slAddr v ((rs.length - 1) * 3)), (73, slAddr v ((rs.length - 1) * 3 + 0)), (74, .int .i64 rd.loc), (75, .pointer (some ⟨b5, 0, none⟩)), (76, .int .i64 sh), (0, .int .i64 drift), (1, .int .i64 start), (2, rv), (3, av), (8, .pointer (some ⟨w0.heap.size, 0, none⟩)), (9, .pointer (some ⟨w2.heap.size, 0, none⟩)), (10, .int .i64 (t : Int)), (11, .int .i64 (k : Int)), (12, .pointer (some ⟨b5, 0, none⟩)), (62, .pointer (some ⟨w2.heap.size, 1, none⟩)), (63, v), (64, .int .i64 (rs.length : Int)), (13, .int .i64 (rs.length : Int)), (65, .int .i64 (rs.length : Int)), (66, .bool false), (67, .bool false)] [] a := hfr
        refine wl_nil ?_
        refine wd_lin (k := 12) 14 [13] (by kernel_rfl) (by kernel_rfl) (by kernel_rfl) ?_
        refine wl_vy hfr (by decide) rfl (by decide) rfl (v_lt rfl rfl) ?_
        clear hfr
        intro a hfr
        refine wl_v hfr (by decide) (v_pick_f rfl rfl) ?_
        clear hfr
        intro a hfr
        refine wl_nil ?_
        refine wd_end (by kernel_rfl) ?_
        refine hK16 _ _ ?_
        replace hfr : Fr 86 [(0, _), (1, _), (2, _), (3, _), (8, _), (9, _), (10, _), (11, _), (12, _), (78, _)] [] a := hfr.pick [0, 1, 2, 3, 8, 9, 10, 11, 12, 78]
        refine wc_cond hfr rfl (fun hc8 => ?_) (fun hc8 => ?_)
        · rw [hc8] at hfr
          try simp only [Bool.not_eq_true', Bool.not_eq_false', decide_eq_true_eq, decide_eq_false_iff_not] at hc8
          have hgd2 : okRdg (-1) (rs ++ [⟨sh, max ((t : Int) - pb) 0, (t : Int) + pc⟩]) ∧ ∀ r ∈ (rs ++ [⟨sh, max ((t : Int) - pb) 0, (t : Int) + pc⟩]), madeOf drift start rates r := made_snoc hgd (by rw [last_loc hkl hrd]; omega) hsh (by omega) (by omega) (by omega) (by omega)
          refine wc_region ?_
          refine wl_v hfr (by decide) (v_fieldAddr (v := .pointer (some ⟨w2.heap.size, 1, none⟩)) rfl (by kernel_rfl)) ?_
          clear hfr
          intro a hfr
          refine wl_v hfr (by decide) (v_load_blk1 (hst.get (k := 2) rfl) rfl (Try.isAgg57 _) rfl) ?_
          clear hfr
          intro a hfr
          refine wl_v hfr (by decide) (v_load_all (hst.get (k := 0) rfl) rfl (Try.isAgg98 _) (Try.sizeOf98 _)) ?_
          clear hfr
          intro a hfr
          refine wl_buildSlice (E := 98) (sz := 3) rfl [[.int .i64 sh, .int .i64 (max ((t : Int) - pb) 0), .int .i64 ((t : Int) + pc)]] (by kernel_rfl) (by simp) rfl (by decide) (by decide) hfr hst ?_
          clear hfr hst
          intro a w16 hfr hst
          refine wl_append (i := 2) (sT := 57) (inf := Try.t98) (z := .agg #[.int .i64 0, .int .i64 0, .int .i64 0]) (b := 0) (off := 0) (m := 0) (c := 0) rfl rfl rfl (hst.ownAt (i := 0) rfl) (by simp) Try.underlying57 rfl rfl rfl rfl (by decide) (by simp [Value.oneCell']) (by have hby : Try.t98.bytes = 24 := rfl; simp [big, hby]; omega) (by have hby : Try.t98.bytes = 24 := rfl; simp [big, hby]; omega) (by decide) hfr hst fun a w17 s9 hfr hst _ => ?_
          refine wl_v hfr (by decide) (v_fieldAddr (v := .pointer (some ⟨w2.heap.size, 1, none⟩)) rfl (by kernel_rfl)) ?_
          clear hfr
          intro a hfr
          refine wl_store_sl 3 hfr hst (hst.ownAt (i := 2) rfl) rfl rfl rfl (Try.sizeOf57 _) (Nat.le_of_ble_eq_true rfl) (ds := [.int .i64 d, s9]) rfl rfl ?_
          clear hfr hst
          intro a w18 hfr hst
          refine wl_nil ?_
          refine hK11 _ _ ?_
          replace hfr : Fr 86 [(0, _), (1, _), (2, _), (3, _), (8, _), (9, _), (10, _), (11, _)] [] a := hfr.pick [0, 1, 2, 3, 8, 9, 10, 11]
          replace hst : St No w0 [_, _, _] w18 := hst.mask [false, false, true, true, true]
          refine wc_region ?_
          refine wl_v hfr (by decide) (v_move rfl) ?_
          clear hfr
          intro a hfr
          refine wl_v hfr (by decide) (v_add rfl rfl ⟨by omega, by omega⟩) ?_
          clear hfr
          intro a hfr
          refine wl_v hfr (by decide) (v_assign rfl) ?_
          clear hfr
          intro a hfr
          refine wl_nil ?_
          have hcs := cntEq_succ (fun j => pick (ats.getD j ⟨0, 0, 0⟩).a 3000) k (t : Int)
          rw [show (rs.map Rdg.cells) ++ ([[.int .i64 sh, .int .i64 (max ((t : Int) - pb) 0), .int .i64 ((t : Int) + pc)]]) = ((rs ++ [(⟨sh, max ((t : Int) - pb) 0, (t : Int) + pc⟩ : Rdg)]).map Rdg.cells) from by simp [Rdg.cells]] at hst
          have hpe : (fun j => pick (ats.getD j ⟨0, 0, 0⟩).a 3000) k = (t : Int) := by simp only [hz, hpa]; omega
          rw [if_pos hpe] at hcs
          refine ⟨_, ?_, k + 1, s9, rs ++ [(⟨sh, max ((t : Int) - pb) 0, (t : Int) + pc⟩ : Rdg)], rfl, (by omega), (by omega), hgd2, (by simp only [List.length_append, List.length_cons, List.length_nil]; omega), hfr.pick [0, 1, 2, 3, 8, 9, 10, 11], hst.select [0, 1, 2] (by decide)⟩
          omega
        rw [hc8] at hfr
        try simp only [Bool.not_eq_true', Bool.not_eq_false', decide_eq_true_eq, decide_eq_false_iff_not] at hc8
        refine wc_skip ?_
        refine hK11 _ _ ?_
        refine wc_region ?_
        refine wl_v hfr (by decide) (v_move rfl) ?_
        clear hfr
        intro a hfr
        refine wl_v hfr (by decide) (v_add rfl rfl ⟨by omega, by omega⟩) ?_
        clear hfr
        intro a hfr
        refine wl_v hfr (by decide) (v_assign rfl) ?_
        clear hfr
        intro a hfr
        refine wl_nil ?_
        have hcs := cntEq_succ (fun j => pick (ats.getD j ⟨0, 0, 0⟩).a 3000) k (t : Int)
        refine ⟨_, ?_, k + 1, v, rs, rfl, (by omega), (by omega), hgd, (by omega), hfr.pick [0, 1, 2, 3, 8, 9, 10, 11], hst.select [1, 2, 3] (by decide)⟩
        omega
      rw [hc3] at hfr
      try simp only [Bool.not_eq_true', Bool.not_eq_false', decide_eq_true_eq, decide_eq_false_iff_not] at hc3
      refine wc_exit ?_
      refine hK7 _ _ ?_
      refine wc_region ?_
      refine wl_v hfr (by decide) (v_move rfl) ?_
      clear hfr
      intro a hfr
      refine wl_v hfr (by decide) (v_add rfl rfl ⟨by omega, by omega⟩) ?_
      clear hfr
      intro a hfr
      refine wl_v hfr (by decide) (v_assign rfl) ?_
      clear hfr
      intro a hfr
      refine wl_nil ?_
      have hnx : cntLt (fun j => pick (ats.getD j ⟨0, 0, 0⟩).a 3000) (min ats.length 12) (t : Int) + cntEq (fun j => pick (ats.getD j ⟨0, 0, 0⟩).a 3000) (min ats.length 12) (t : Int) = cntLt (fun j => pick (ats.getD j ⟨0, 0, 0⟩).a 3000) (min ats.length 12) (t + 1 : Int) := cnt_next _ _ _
      obtain rfl : k = (min ats.length 12) := by omega
      refine ⟨_, ?_, t + 1, v, rs, rfl, (by omega), hgd, (by push_cast; omega), hfr.pick [0, 1, 2, 3, 8, 9, 10], hst.select [0, 1, 2] (by decide)⟩
      omega
    rw [hb2] at hfr
    try simp only [Bool.not_eq_true', Bool.not_eq_false', decide_eq_true_eq, decide_eq_false_iff_not] at hb2
    refine wl_vn hfr (by decide) rfl (by decide) rfl rfl ?_
    clear hfr
    intro a hfr
    refine wl_vn hfr (by decide) rfl (by decide) rfl rfl ?_
    clear hfr
    intro a hfr
    refine wl_v hfr (by decide) (v_pick_f rfl rfl) ?_
    clear hfr
    intro a hfr
    refine wl_nil (hK10 _ _ ?_)
    replace hfr : Fr 86 [(0, _), (1, _), (2, _), (3, _), (8, _), (9, _), (10, _), (11, _), (28, _)] [] a := hfr.pick [0, 1, 2, 3, 8, 9, 10, 11, 28]
    refine wc_cond_f hfr rfl ?_
    refine wc_exit ?_
    refine hK7 _ _ ?_
    refine wc_region ?_
    refine wl_v hfr (by decide) (v_move rfl) ?_
    clear hfr
    intro a hfr
    refine wl_v hfr (by decide) (v_add rfl rfl ⟨by omega, by omega⟩) ?_
    clear hfr
    intro a hfr
    refine wl_v hfr (by decide) (v_assign rfl) ?_
    clear hfr
    intro a hfr
    refine wl_nil ?_
    have hnx : cntLt (fun j => pick (ats.getD j ⟨0, 0, 0⟩).a 3000) (min ats.length 12) (t : Int) + cntEq (fun j => pick (ats.getD j ⟨0, 0, 0⟩).a 3000) (min ats.length 12) (t : Int) = cntLt (fun j => pick (ats.getD j ⟨0, 0, 0⟩).a 3000) (min ats.length 12) (t + 1 : Int) := cnt_next _ _ _
    obtain rfl : k = (min ats.length 12) := by omega
    refine ⟨_, ?_, t + 1, v, rs, rfl, (by omega), hgd, (by push_cast; omega), hfr.pick [0, 1, 2, 3, 8, 9, 10], hst.select [0, 1, 2] (by decide)⟩
    omega
  rw [hc1] at hfr
  try simp only [Bool.not_eq_true', Bool.not_eq_false', decide_eq_true_eq, decide_eq_false_iff_not] at hc1
  refine wc_exit ?_
  refine hK3 _ _ ?_
  refine wc_seq_region fun K17 hK17 => ?_
  refine wl_v hfr (by decide) (v_load_all (hst.get (k := 1) rfl) rfl (Try.isAgg59 _) (Try.sizeOf59 _)) ?_
  clear hfr
  intro a hfr
  refine wl_store_one (us := [.int .i64 d, v]) 2 hfr hst rfl rfl rfl (Try.sizeOf59 _) (by intro z hz; simp only [List.mem_cons, List.not_mem_nil, or_false] at hz; rcases hz with rfl | rfl <;> first | rfl | exact SlAt.one (hst.ownAt (i := 0) rfl)) (Nat.le_of_ble_eq_true rfl) (ds := [.int .i64 d, v]) rfl rfl ?_
  clear hfr hst
  intro a w19 hfr hst
  refine wl_nil (hK17 _ _ ?_)
  replace hfr : Fr 86 [(8, _)] [] a := hfr.pick [8]
  replace hst : St No w0 [_, _] w19 := hst.mask [true, false, true]
  refine wc_ret ?_
  refine fin_ret hfr Try.results22 (resAre_cell rfl (res_all (hst.get (k := 1) rfl) (Try.isAgg59 _) (Try.sizeOf59 _)) resAre_nil) ?_
  obtain rfl : t = 3000 := by omega
  exact ⟨(v, rs), by simp only [retv, hdd], ⟨hgd.1, by show rs.length ≤ 12; have := cntLt_le (fun j => pick (ats.getD j ⟨0, 0, 0⟩).a 3000) (min ats.length 12) ((3000 : Nat) : Int); omega, hgd.2⟩, hst.ext, St.out (E := [own v 98 3 (rs.map Rdg.cells)]) (H := []) (hst.select [0] (by decide))⟩
end Go.Proofs.Ytdamipejlfipcaa
