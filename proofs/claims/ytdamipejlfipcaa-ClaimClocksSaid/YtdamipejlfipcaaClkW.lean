import Derived.Test.YtdamipejlfipcaaSeg
import Derived.Test.YtdamipejlfipcaaMore
import Derived.Test.YtdamipejlfipcaaClkP
import Derived.Test.YtdamipejlfipcaaClaimO
import Derived.Test.YtdamipejlfipcaaRows
import Derived.Test.YtdamipejlfipcaaDrawM
namespace Go.Proofs.Ytdamipejlfipcaa
open Go.RowKit Go.PW
set_option linter.unusedVariables false
set_option linter.unusedSimpArgs false
set_option maxRecDepth 4000

theorem okRdg_mem : ∀ {l : List Rdg} {last : Int}, okRdg last l → -1 ≤ last → ∀ r ∈ l, 0 ≤ r.loc ∧ r.loc ≤ 10000000 ∧ 0 ≤ r.lo ∧ r.lo ≤ r.hi ∧ r.hi ≤ 10000000
  | [], _, _, _, r, hr => by simp at hr
  | q :: l, last, ⟨a, b, c, d, e, f⟩, h, r, hr => by
    rcases List.mem_cons.1 hr with rfl | hr
    · exact ⟨by omega, b, c, d, e⟩
    · exact okRdg_mem f (by omega) r hr
theorem getD_inc {α : Type} {l : List α} {k : Nat} {d ev : α} (hk : k < l.length) (he : l.getD k d = ev) : ev ∈ l := by
  rw [← he]; simp [List.getD_eq_getElem?_getD, List.getElem?_eq_getElem hk]
theorem pick2c {c n k : Int} {f : FuncId} {args : Array Value} {w : World} (hk : pick c n = k) (h : Ret Try.prog f args w fun v w' => v = .int .i64 (pick c n) ∧ Ext No w w') : Ret Try.prog f args w fun v w' => v = .int .i64 k ∧ Ext No w w' := by subst hk; exact h
theorem spread2 {d n m x y : Int} {f : FuncId} {w : World} (hn : m = n) (hx : least d n = x) (hy : most d n = y) (h : Ret Try.prog f #[.int .i64 d, .int .i64 n] w fun v w' => v = .tuple #[.int .i64 (least d n), .int .i64 (most d n)] ∧ Ext No w w') : Ret Try.prog f #[.int .i64 d, .int .i64 m] w fun v w' => v = .tuple #[.int .i64 x, .int .i64 y] ∧ Ext No w w' := by subst hn; subst hx; subst hy; exact h
theorem shown2 {drift start : Int} {rates : List Int} {t k : Int} {f : FuncId} {args : Array Value} {w : World} (hk : shown drift start rates t = k) (h : Ret Try.prog f args w fun v w' => v = .int .i64 (shown drift start rates t) ∧ Ext No w w') : Ret Try.prog f args w fun v w' => v = .int .i64 k ∧ Ext No w w' := by subst hk; exact h
theorem narrowed_lt {d loc n x y a b : Int} {r : Rdg} (h : loc < r.loc) (hn : max (loc - r.loc) (r.loc - loc) = n) (hx : least d n = x) (hy : most d n = y) : narrowed d loc r (a, b) = (max a (r.lo + -y), min b (r.hi + -x)) := by
  obtain rfl : r.loc - loc = n := by omega
  subst hx; subst hy; simp [narrowed, h]
theorem narrowed_eq {d loc n x y a b : Int} {r : Rdg} (h : loc = r.loc) (hn : max (loc - r.loc) (r.loc - loc) = n) (hx : least d n = x) (hy : most d n = y) : narrowed d loc r (a, b) = (max a (r.lo + -y), min b (r.hi + y)) := by
  obtain rfl : 0 = n := by omega
  subst hx; subst hy; simp [narrowed, h]
theorem narrowed_gt {d loc n x y a b : Int} {r : Rdg} (h : ¬ loc < r.loc) (h2 : ¬ loc = r.loc) (hn : max (loc - r.loc) (r.loc - loc) = n) (hx : least d n = x) (hy : most d n = y) : narrowed d loc r (a, b) = (max a (r.lo + x), min b (r.hi + y)) := by
  obtain rfl : loc - r.loc = n := by omega
  subst hx; subst hy; simp [narrowed, h, h2]

/-- dialtone/dialtoneref05.pick -/
theorem pick5_ok (c n : Int) (w0 : World) (hc1 : -9223372036854775808 ≤ c) (hc2 : c ≤ 9223372036854775807) (hn : 0 < n) (hn2 : n ≤ 9223372036854775807) :
    Ret Try.prog 43 #[.int .i64 c, .int .i64 n] w0 fun v w => v = .int .i64 (pick c n) ∧ Ext No w0 w := by
  refine ret_of Try.func43 rfl Try.ntmps43 (Nat.le_of_ble_eq_true rfl) fun a hfr => ?_
  replace hfr : Fr 13 [(0, _), (1, _)] [] a := hfr
  replace hst : St No w0 [] w0 := St.init w0
  refine wc_seq_region fun K1 hK1 => ?_
  refine wl_v hfr (by decide) (v_assign rfl) ?_
  clear hfr
  intro a hfr
  refine wl_nil (hK1 _ _ ?_)
  refine wc_seq_k fun K2 hK2 => ?_
  refine wc_seq_region fun K3 hK3 => ?_
  refine wl_v hfr (by decide) (v_move rfl) ?_
  clear hfr
  intro a hfr
  refine wl_v hfr (by decide) (v_lt rfl rfl) ?_
  clear hfr
  intro a hfr
  refine wl_nil (hK3 _ _ ?_)
  refine wc_cond hfr rfl (fun hc1 => ?_) (fun hc1 => ?_)
  · rw [hc1] at hfr
    try simp only [Bool.not_eq_true', Bool.not_eq_false', decide_eq_true_eq, decide_eq_false_iff_not] at hc1
    refine wc_region ?_
    refine wl_v hfr (by decide) (v_move rfl) ?_
    clear hfr
    intro a hfr
    refine wl_v hfr (by decide) (v_add rfl rfl ⟨by omega, by omega⟩) ?_
    clear hfr
    intro a hfr
    refine wl_v hfr (by decide) (v_neg rfl (by omega) (by omega)) ?_
    clear hfr
    intro a hfr
    refine wl_v hfr (by decide) (v_assign rfl) ?_
    clear hfr
    intro a hfr
    refine wl_nil ?_
    refine hK2 _ _ ?_
    refine wc_seq_region fun K4 hK4 => ?_
    refine wl_v hfr (by decide) (v_move rfl) ?_
    clear hfr
    intro a hfr
    refine wl_v hfr (by decide) (v_move rfl) ?_
    clear hfr
    intro a hfr
    refine wl_v hfr (by decide) (v_rem rfl rfl (by omega) (by omega)) ?_
    clear hfr
    intro a hfr
    refine wl_v hfr (by decide) (v_assign rfl) ?_
    clear hfr
    intro a hfr
    refine wl_nil (hK4 _ _ ?_)
    replace hfr : Fr 13 [(4, _)] [] a := hfr.pick [4]
    refine wc_ret ?_
    refine fin_ret hfr Try.results43 (resAre_tmp rfl resAre_nil) ?_
    exact ⟨by simp only [retv, pick]; congr 2; split <;> simp_all <;> omega, hst.ext⟩
  rw [hc1] at hfr
  try simp only [Bool.not_eq_true', Bool.not_eq_false', decide_eq_true_eq, decide_eq_false_iff_not] at hc1
  refine wc_skip ?_
  refine hK2 _ _ ?_
  refine wc_seq_region fun K5 hK5 => ?_
  refine wl_v hfr (by decide) (v_move rfl) ?_
  clear hfr
  intro a hfr
  refine wl_v hfr (by decide) (v_move rfl) ?_
  clear hfr
  intro a hfr
  refine wl_v hfr (by decide) (v_rem rfl rfl (by omega) (by omega)) ?_
  clear hfr
  intro a hfr
  refine wl_v hfr (by decide) (v_assign rfl) ?_
  clear hfr
  intro a hfr
  refine wl_nil (hK5 _ _ ?_)
  replace hfr : Fr 13 [(4, _)] [] a := hfr.pick [4]
  refine wc_ret ?_
  refine fin_ret hfr Try.results43 (resAre_tmp rfl resAre_nil) ?_
  exact ⟨by simp only [retv, pick]; congr 2; split <;> simp_all <;> omega, hst.ext⟩

set_option maxHeartbeats 4000000 in
/-- dialtone/dialtoneref05.Shown -/
theorem shown_ok (drift start : Int) (rv : Value) (rates : List Int) (t : Int) (w0 : World) (hrv : SlAt w0 rv 1 (rates.map fun i => [.int .i64 i])) (hrates : ∀ k, k < rates.length → isI64 (rates.getD k 0)) (g1 : isI64 drift) (g2 : isI64 start) (h0 : 0 ≤ t) (h1 : t ≤ 3000) :
    Ret Try.prog 24 #[.int .i64 drift, .int .i64 start, rv, .int .i64 t] w0 fun v w => v = .int .i64 (shown drift start rates t) ∧ Ext No w0 w := by
  unfold isI64 at g1 g2
  obtain ⟨d, hd⟩ : ∃ d, pick drift 101 = d := ⟨_, rfl⟩
  obtain ⟨ps, hps⟩ : ∃ d, pick start 1000 = d := ⟨_, rfl⟩
  obtain ⟨hd0, hd1⟩ : 0 ≤ d ∧ d ≤ 100 := hd ▸ driftOf_le drift
  have hpsb := pick_lt start 1000 (by omega)
  rw [hps] at hpsb
  refine ret_of Try.func24 rfl Try.ntmps24 (Nat.le_of_ble_eq_true rfl) fun a hfr => ?_
  replace hfr : Fr 57 [(0, _), (1, _), (2, _), (3, _)] [] a := hfr
  replace hst : St No w0 [] w0 := St.init w0
  refine wc_seq_region fun K1 hK1 => ?_
  refine wl_v hfr (by decide) (v_assign rfl) ?_
  clear hfr
  intro a hfr
  refine wl_nil (hK1 _ _ ?_)
  refine wc_seq_region fun K2 hK2 => ?_
  refine wl_v hfr (by decide) (v_move rfl) ?_
  clear hfr
  intro a hfr
  refine wl_callp hfr hst (by decide) Try.call43 rfl (pick2c hd (pick5_ok _ _ _ (by omega) (by omega) (by omega) (by omega))) ?_
  clear hfr hst
  intro a w1 hfr hst
  refine wl_v hfr (by decide) (v_assign rfl) ?_
  clear hfr
  intro a hfr
  refine wl_nil (hK2 _ _ ?_)
  refine wc_seq_region fun K3 hK3 => ?_
  refine wl_v hfr (by decide) (v_assign rfl) ?_
  clear hfr
  intro a hfr
  refine wl_nil (hK3 _ _ ?_)
  refine wc_seq_k fun K4 hK4 => ?_
  refine wc_seq_region fun K5 hK5 => ?_
  refine wl_v hfr (by decide) (v_assign rfl) ?_
  clear hfr
  intro a hfr
  refine wl_nil (hK5 _ _ ?_)
  refine wc_block ?_
  refine wc_loop (fun m a w => ∃ (k : Nat), m = 20 - k ∧ (k ≤ rates.length) ∧ (k ≤ 20) ∧ Fr 57 [(1, .int .i64 start), (2, rv), (3, .int .i64 t), (8, .int .i64 0), (9, .int .i64 d), (10, .int .i64 (csum d rates t k)), (11, .int .i64 (k : Int))] [] a ∧ St No w0 [] w) _ ⟨0, rfl, Nat.zero_le _, Nat.zero_le _, hfr.pick [1, 2, 3, 8, 9, 10, 11], hst.select [] (by decide)⟩ ?_
  rintro _ a w2 ⟨k, rfl, hk, hk2, hfr, hst⟩
  refine wc_seq_k fun K6 hK6 => ?_
  refine wc_seq_region fun K7 hK7 => ?_
  refine wl_v hfr (by decide) (v_move rfl) ?_
  clear hfr
  intro a hfr
  refine wl_v hfr (by decide) (v_move rfl) ?_
  clear hfr
  intro a hfr
  refine wl_v hfr (by decide) ((v_len_sl (sT := 49) (hst.arg hrv) rfl rfl (Try.runUnderlying49 _)).asi (m' := (rates.length : Int)) (by simp)) ?_
  clear hfr
  intro a hfr
  refine wl_v hfr (by decide) (v_lt rfl rfl) ?_
  clear hfr
  intro a hfr
  refine wl_v hfr (by decide) (v_move rfl) ?_
  clear hfr
  intro a hfr
  rcases Bool.eq_false_or_eq_true (decide ((k : Int) < (rates.length : Int))) with hb1 | hb1
  · rw [hb1] at hfr
    try simp only [Bool.not_eq_true', Bool.not_eq_false', decide_eq_true_eq, decide_eq_false_iff_not] at hb1
    have hkl : k < rates.length := by omega
    obtain ⟨rk, hrk⟩ : ∃ r, rates.getD k 0 = r := ⟨_, rfl⟩
    have hrf := hrates k hkl
    rw [hrk] at hrf
    unfold isI64 at hrf
    refine wl_vy hfr (by decide) rfl (by decide) rfl (v_move rfl) ?_
    clear hfr
    intro a hfr
    refine wl_vy hfr (by decide) rfl (by decide) rfl (v_lt rfl rfl) ?_
    clear hfr
    intro a hfr
    refine wl_v hfr (by decide) (v_pick_t rfl rfl) ?_
    clear hfr
    intro a hfr
    refine wl_v hfr (by decide) (v_move rfl) ?_
    clear hfr
    intro a hfr
    rcases Bool.eq_false_or_eq_true (decide ((k : Int) < 20)) with hb2 | hb2
    · rw [hb2] at hfr
      try simp only [Bool.not_eq_true', Bool.not_eq_false', decide_eq_true_eq, decide_eq_false_iff_not] at hb2
      refine wl_vy hfr (by decide) rfl (by decide) rfl (v_move rfl) ?_
      clear hfr
      intro a hfr
      refine wl_vy hfr (by decide) rfl (by decide) rfl (v_move rfl) ?_
      clear hfr
      intro a hfr
      refine wl_vy hfr (by decide) rfl (by decide) rfl (v_mul rfl rfl ⟨by omega, by omega⟩) ?_
      clear hfr
      intro a hfr
      refine wl_vy hfr (by decide) rfl (by decide) rfl (v_gt rfl rfl) ?_
      clear hfr
      intro a hfr
      refine wl_v hfr (by decide) (v_pick_t rfl rfl) ?_
      clear hfr
      intro a hfr
      refine wl_nil (hK7 _ _ ?_)
      replace hfr : Fr 57 [(1, _), (2, _), (3, _), (8, _), (9, _), (10, _), (11, _), (27, _)] [] a := hfr.pick [1, 2, 3, 8, 9, 10, 11, 27]
      refine wc_cond hfr rfl (fun hc3 => ?_) (fun hc3 => ?_)
      · rw [hc3] at hfr
        try simp only [Bool.not_eq_true', Bool.not_eq_false', decide_eq_true_eq, decide_eq_false_iff_not] at hc3
        obtain ⟨q, hq⟩ : ∃ q, pick rk (2 * d + 1) = q := ⟨_, rfl⟩
        have hqb : -d ≤ q - d ∧ q - d ≤ d := by have := rate_le hd0 rates k; unfold rate at this; rw [hrk, hq] at this; exact this
        have hmul : -10000 ≤ (q - d) * (min (t - (100 * (k : Int))) 100) ∧ (q - d) * (min (t - (100 * (k : Int))) 100) ≤ 10000 := by
          have h1 := mul_le_of hqb.1 hqb.2 (show (0 : Int) ≤ min (t - (100 * (k : Int))) 100 by omega)
          have h2 := Int.mul_le_mul hd1 (show min (t - (100 * (k : Int))) 100 ≤ 100 by omega) (by omega) (by omega)
          omega
        have hcs := csum_le hd0 hd1 rates h0 k
        have hnext : csum d rates t k + ((q - d) * (min (t - (100 * (k : Int))) 100)) = csum d rates t (k + 1) := by
          rw [csum, rate, hrk, hq]; congr 2; unfold clamp; omega
        refine wc_skip ?_
        refine hK6 _ _ ?_
        refine wc_seq_k fun K8 hK8 => ?_
        refine wc_block ?_
        refine wc_region ?_
        refine wl_v hfr (by decide) (v_move rfl) ?_
        clear hfr
        intro a hfr
        refine wl_v hfr (by decide) (v_move rfl) ?_
        clear hfr
        intro a hfr
        refine wl_v hfr (by decide) (v_move rfl) ?_
        clear hfr
        intro a hfr
        refine wl_v hfr (by decide) ((v_indexAddr_sl (i := (k : Int)) (sT := 49) (hst.arg hrv) rfl rfl (Try.runUnderlying49 _) (Try.sizeOf3 _) (by omega) (by simpa using hkl)).as (v' := slAddr rv (k * 1)) rfl) ?_
        clear hfr
        intro a hfr
        refine wl_v hfr (by decide) (v_load_sl1 (u := .int .i64 rk) (i := k) (j := 0) (hst.arg hrv) (by simpa using hkl) rfl (Try.isAgg3 _) (by rw [← hrk]; simp [List.getElem?_eq_getElem hkl])) ?_
        clear hfr
        intro a hfr
        refine wl_v hfr (by decide) (v_move rfl) ?_
        clear hfr
        intro a hfr
        refine wl_v hfr (by decide) (v_mul rfl rfl ⟨by omega, by omega⟩) ?_
        clear hfr
        intro a hfr
        refine wl_v hfr (by decide) (v_add rfl rfl ⟨by omega, by omega⟩) ?_
        clear hfr
        intro a hfr
        refine wl_callp hfr hst (by decide) Try.call43 rfl (pick2c hq (pick5_ok _ _ _ (by omega) (by omega) (by omega) (by omega))) ?_
        clear hfr hst
        intro a w3 hfr hst
        refine wl_v hfr (by decide) (v_move rfl) ?_
        clear hfr
        intro a hfr
        refine wl_v hfr (by decide) (v_sub rfl rfl ⟨by omega, by omega⟩) ?_
        clear hfr
        intro a hfr
        refine wl_v hfr (by decide) (v_move rfl) ?_
        clear hfr
        intro a hfr
        refine wl_v hfr (by decide) (v_move rfl) ?_
        clear hfr
        intro a hfr
        refine wl_v hfr (by decide) (v_mul rfl rfl ⟨by omega, by omega⟩) ?_
        clear hfr
        intro a hfr
        refine wl_v hfr (by decide) (v_sub rfl rfl ⟨by omega, by omega⟩) ?_
        clear hfr
        intro a hfr
        refine wl_v hfr (by decide) (v_min2 rfl rfl) ?_
        clear hfr
        intro a hfr
        refine wl_v hfr (by decide) (v_mul rfl rfl ⟨by omega, by omega⟩) ?_
        clear hfr
        intro a hfr
        refine wl_v hfr (by decide) (v_add rfl rfl ⟨by omega, by omega⟩) ?_
        clear hfr
        intro a hfr
        refine wl_v hfr (by decide) (v_assign rfl) ?_
        clear hfr
        intro a hfr
        refine wl_nil ?_
        refine hK8 _ _ ?_
        replace hfr : Fr 57 [(1, _), (2, _), (3, _), (8, _), (9, _), (11, _), (10, _)] [] a := hfr.pick [1, 2, 3, 8, 9, 11, 10]
        refine wc_region ?_
        refine wl_v hfr (by decide) (v_move rfl) ?_
        clear hfr
        intro a hfr
        refine wl_v hfr (by decide) (v_add rfl rfl ⟨by omega, by omega⟩) ?_
        clear hfr
        intro a hfr
        refine wl_v hfr (by decide) (v_assign rfl) ?_
        clear hfr
        intro a hfr
        refine wl_nil ?_
        rw [hnext] at hfr
        refine ⟨_, ?_, k + 1, rfl, (by omega), (by omega), hfr.pick [1, 2, 3, 8, 9, 10, 11], hst.select [] (by decide)⟩
        omega
      rw [hc3] at hfr
      try simp only [Bool.not_eq_true', Bool.not_eq_false', decide_eq_true_eq, decide_eq_false_iff_not] at hc3
      refine wc_exit ?_
      refine hK4 _ _ ?_
      have hce : csum d rates t (min rates.length 20) = csum d rates t k := by
        by_cases h : t ≤ 100 * (k : Int)
        · exact csum_stop d rates t h _ (by omega)
        · exact congrArg _ (by omega)
      have hcs := csum_le hd0 hd1 rates h0 k
      refine wc_seq_region fun K9 hK9 => ?_
      refine wl_v hfr (by decide) (v_move rfl) ?_
      clear hfr
      intro a hfr
      refine wl_v hfr (by decide) (v_move rfl) ?_
      clear hfr
      intro a hfr
      refine wl_v hfr (by decide) (v_mul rfl rfl ⟨by omega, by omega⟩) ?_
      clear hfr
      intro a hfr
      refine wl_v hfr (by decide) (v_add rfl rfl ⟨by omega, by omega⟩) ?_
      clear hfr
      intro a hfr
      refine wl_v hfr (by decide) (v_assign rfl) ?_
      clear hfr
      intro a hfr
      refine wl_nil (hK9 _ _ ?_)
      replace hfr : Fr 57 [(1, _), (8, _), (10, _)] [] a := hfr.pick [1, 8, 10]
      refine wc_seq_region fun K10 hK10 => ?_
      refine wl_v hfr (by decide) (v_move rfl) ?_
      clear hfr
      intro a hfr
      refine wl_callp hfr hst (by decide) Try.call43 rfl (pick2c hps (pick5_ok _ _ _ (by omega) (by omega) (by omega) (by omega))) ?_
      clear hfr hst
      intro a w4 hfr hst
      refine wl_v hfr (by decide) (v_move rfl) ?_
      clear hfr
      intro a hfr
      refine wl_v hfr (by decide) (v_quo rfl rfl (by omega) (by omega) (by omega)) ?_
      clear hfr
      intro a hfr
      refine wl_v hfr (by decide) (v_add rfl rfl ⟨by omega, by omega⟩) ?_
      clear hfr
      intro a hfr
      refine wl_v hfr (by decide) (v_assign rfl) ?_
      clear hfr
      intro a hfr
      refine wl_nil (hK10 _ _ ?_)
      replace hfr : Fr 57 [(8, _)] [] a := hfr.pick [8]
      refine wc_ret ?_
      refine fin_ret hfr Try.results24 (resAre_tmp rfl resAre_nil) ?_
      exact ⟨by simp only [retv]; rw [shown, hps, show driftOf drift = d from hd, hce], hst.ext⟩
    rw [hb2] at hfr
    try simp only [Bool.not_eq_true', Bool.not_eq_false', decide_eq_true_eq, decide_eq_false_iff_not] at hb2
    refine wl_vn hfr (by decide) rfl (by decide) rfl rfl ?_
    clear hfr
    intro a hfr
    refine wl_vn hfr (by decide) rfl (by decide) rfl rfl ?_
    clear hfr
    intro a hfr
    refine wl_vn hfr (by decide) rfl (by decide) rfl rfl ?_
    clear hfr
    intro a hfr
    refine wl_vn hfr (by decide) rfl (by decide) rfl rfl ?_
    clear hfr
    intro a hfr
    refine wl_v hfr (by decide) (v_pick_f rfl rfl) ?_
    clear hfr
    intro a hfr
    refine wl_nil (hK7 _ _ ?_)
    replace hfr : Fr 57 [(1, _), (2, _), (3, _), (8, _), (9, _), (10, _), (11, _), (27, _)] [] a := hfr.pick [1, 2, 3, 8, 9, 10, 11, 27]
    refine wc_cond_f hfr rfl ?_
    refine wc_exit ?_
    refine hK4 _ _ ?_
    have hce : csum d rates t (min rates.length 20) = csum d rates t k := by
      by_cases h : t ≤ 100 * (k : Int)
      · exact csum_stop d rates t h _ (by omega)
      · exact congrArg _ (by omega)
    have hcs := csum_le hd0 hd1 rates h0 k
    refine wc_seq_region fun K11 hK11 => ?_
    refine wl_v hfr (by decide) (v_move rfl) ?_
    clear hfr
    intro a hfr
    refine wl_v hfr (by decide) (v_move rfl) ?_
    clear hfr
    intro a hfr
    refine wl_v hfr (by decide) (v_mul rfl rfl ⟨by omega, by omega⟩) ?_
    clear hfr
    intro a hfr
    refine wl_v hfr (by decide) (v_add rfl rfl ⟨by omega, by omega⟩) ?_
    clear hfr
    intro a hfr
    refine wl_v hfr (by decide) (v_assign rfl) ?_
    clear hfr
    intro a hfr
    refine wl_nil (hK11 _ _ ?_)
    replace hfr : Fr 57 [(1, _), (8, _), (10, _)] [] a := hfr.pick [1, 8, 10]
    refine wc_seq_region fun K12 hK12 => ?_
    refine wl_v hfr (by decide) (v_move rfl) ?_
    clear hfr
    intro a hfr
    refine wl_callp hfr hst (by decide) Try.call43 rfl (pick2c hps (pick5_ok _ _ _ (by omega) (by omega) (by omega) (by omega))) ?_
    clear hfr hst
    intro a w5 hfr hst
    refine wl_v hfr (by decide) (v_move rfl) ?_
    clear hfr
    intro a hfr
    refine wl_v hfr (by decide) (v_quo rfl rfl (by omega) (by omega) (by omega)) ?_
    clear hfr
    intro a hfr
    refine wl_v hfr (by decide) (v_add rfl rfl ⟨by omega, by omega⟩) ?_
    clear hfr
    intro a hfr
    refine wl_v hfr (by decide) (v_assign rfl) ?_
    clear hfr
    intro a hfr
    refine wl_nil (hK12 _ _ ?_)
    replace hfr : Fr 57 [(8, _)] [] a := hfr.pick [8]
    refine wc_ret ?_
    refine fin_ret hfr Try.results24 (resAre_tmp rfl resAre_nil) ?_
    exact ⟨by simp only [retv]; rw [shown, hps, show driftOf drift = d from hd, hce], hst.ext⟩
  rw [hb1] at hfr
  try simp only [Bool.not_eq_true', Bool.not_eq_false', decide_eq_true_eq, decide_eq_false_iff_not] at hb1
  refine wl_vn hfr (by decide) rfl (by decide) rfl rfl ?_
  clear hfr
  intro a hfr
  refine wl_vn hfr (by decide) rfl (by decide) rfl rfl ?_
  clear hfr
  intro a hfr
  refine wl_v hfr (by decide) (v_pick_f rfl rfl) ?_
  clear hfr
  intro a hfr
  refine wl_v hfr (by decide) (v_move rfl) ?_
  clear hfr
  intro a hfr
  refine wl_vn hfr (by decide) rfl (by decide) rfl rfl ?_
  clear hfr
  intro a hfr
  refine wl_vn hfr (by decide) rfl (by decide) rfl rfl ?_
  clear hfr
  intro a hfr
  refine wl_vn hfr (by decide) rfl (by decide) rfl rfl ?_
  clear hfr
  intro a hfr
  refine wl_vn hfr (by decide) rfl (by decide) rfl rfl ?_
  clear hfr
  intro a hfr
  refine wl_v hfr (by decide) (v_pick_f rfl rfl) ?_
  clear hfr
  intro a hfr
  refine wl_nil (hK7 _ _ ?_)
  replace hfr : Fr 57 [(1, _), (2, _), (3, _), (8, _), (9, _), (10, _), (11, _), (27, _)] [] a := hfr.pick [1, 2, 3, 8, 9, 10, 11, 27]
  refine wc_cond_f hfr rfl ?_
  refine wc_exit ?_
  refine hK4 _ _ ?_
  have hce : csum d rates t (min rates.length 20) = csum d rates t k := by
    by_cases h : t ≤ 100 * (k : Int)
    · exact csum_stop d rates t h _ (by omega)
    · exact congrArg _ (by omega)
  have hcs := csum_le hd0 hd1 rates h0 k
  refine wc_seq_region fun K13 hK13 => ?_
  refine wl_v hfr (by decide) (v_move rfl) ?_
  clear hfr
  intro a hfr
  refine wl_v hfr (by decide) (v_move rfl) ?_
  clear hfr
  intro a hfr
  refine wl_v hfr (by decide) (v_mul rfl rfl ⟨by omega, by omega⟩) ?_
  clear hfr
  intro a hfr
  refine wl_v hfr (by decide) (v_add rfl rfl ⟨by omega, by omega⟩) ?_
  clear hfr
  intro a hfr
  refine wl_v hfr (by decide) (v_assign rfl) ?_
  clear hfr
  intro a hfr
  refine wl_nil (hK13 _ _ ?_)
  replace hfr : Fr 57 [(1, _), (8, _), (10, _)] [] a := hfr.pick [1, 8, 10]
  refine wc_seq_region fun K14 hK14 => ?_
  refine wl_v hfr (by decide) (v_move rfl) ?_
  clear hfr
  intro a hfr
  refine wl_callp hfr hst (by decide) Try.call43 rfl (pick2c hps (pick5_ok _ _ _ (by omega) (by omega) (by omega) (by omega))) ?_
  clear hfr hst
  intro a w6 hfr hst
  refine wl_v hfr (by decide) (v_move rfl) ?_
  clear hfr
  intro a hfr
  refine wl_v hfr (by decide) (v_quo rfl rfl (by omega) (by omega) (by omega)) ?_
  clear hfr
  intro a hfr
  refine wl_v hfr (by decide) (v_add rfl rfl ⟨by omega, by omega⟩) ?_
  clear hfr
  intro a hfr
  refine wl_v hfr (by decide) (v_assign rfl) ?_
  clear hfr
  intro a hfr
  refine wl_nil (hK14 _ _ ?_)
  replace hfr : Fr 57 [(8, _)] [] a := hfr.pick [8]
  refine wc_ret ?_
  refine fin_ret hfr Try.results24 (resAre_tmp rfl resAre_nil) ?_
  exact ⟨by simp only [retv]; rw [shown, hps, show driftOf drift = d from hd, hce], hst.ext⟩

set_option maxHeartbeats 4000000 in
/-- dialtone/clock.Spread -/
theorem spread_ok (d n : Int) (w0 : World) (hd : 0 ≤ d) (hd1 : d ≤ 100) (hn : 0 ≤ n) (hn1 : n ≤ 10000000) :
    Ret Try.prog 66 #[.int .i64 d, .int .i64 n] w0 fun v w => v = .tuple #[.int .i64 (least d n), .int .i64 (most d n)] ∧ Ext No w0 w := by
  refine ret_of Try.func66 rfl Try.ntmps66 (Nat.le_of_ble_eq_true rfl) fun a hfr => ?_
  replace hfr : Fr 38 [(0, _), (1, _)] [] a := hfr
  replace hst : St No w0 [] w0 := St.init w0
  refine wc_seq_region fun K1 hK1 => ?_
  refine wl_v hfr (by decide) (v_assign rfl) ?_
  clear hfr
  intro a hfr
  refine wl_v hfr (by decide) (v_assign rfl) ?_
  clear hfr
  intro a hfr
  refine wl_nil (hK1 _ _ ?_)
  refine wc_seq_k fun K2 hK2 => ?_
  refine wc_seq_region fun K3 hK3 => ?_
  refine wl_v hfr (by decide) (v_move rfl) ?_
  clear hfr
  intro a hfr
  refine wl_v hfr (by decide) ((v_lt rfl rfl).asb (b' := false) (by simp; omega)) ?_
  clear hfr
  intro a hfr
  refine wl_v hfr (by decide) (v_move rfl) ?_
  clear hfr
  intro a hfr
  refine wl_vy hfr (by decide) rfl (by decide) rfl (v_move rfl) ?_
  clear hfr
  intro a hfr
  refine wl_vy hfr (by decide) rfl (by decide) rfl ((v_gt rfl rfl).asb (b' := false) (by simp; omega)) ?_
  clear hfr
  intro a hfr
  refine wl_v hfr (by decide) (v_pick_f rfl rfl) ?_
  clear hfr
  intro a hfr
  refine wl_v hfr (by decide) (v_move rfl) ?_
  clear hfr
  intro a hfr
  refine wl_vy hfr (by decide) rfl (by decide) rfl (v_move rfl) ?_
  clear hfr
  intro a hfr
  refine wl_vy hfr (by decide) rfl (by decide) rfl ((v_lt rfl rfl).asb (b' := false) (by simp; omega)) ?_
  clear hfr
  intro a hfr
  refine wl_v hfr (by decide) (v_pick_f rfl rfl) ?_
  clear hfr
  intro a hfr
  refine wl_v hfr (by decide) (v_move rfl) ?_
  clear hfr
  intro a hfr
  refine wl_vy hfr (by decide) rfl (by decide) rfl (v_move rfl) ?_
  clear hfr
  intro a hfr
  refine wl_vy hfr (by decide) rfl (by decide) rfl ((v_gt rfl rfl).asb (b' := false) (by simp; omega)) ?_
  clear hfr
  intro a hfr
  refine wl_v hfr (by decide) (v_pick_f rfl rfl) ?_
  clear hfr
  intro a hfr
  refine wl_nil (hK3 _ _ ?_)
  replace hfr : Fr 38 [(0, _), (1, _), (4, _), (5, _), (20, _)] [] a := hfr.pick [0, 1, 4, 5, 20]
  refine wc_cond_f hfr rfl ?_
  refine wc_skip ?_
  refine hK2 _ _ ?_
  refine wc_seq_region fun K4 hK4 => ?_
  refine wl_v hfr (by decide) (v_assign rfl) ?_
  clear hfr
  intro a hfr
  refine wl_nil (hK4 _ _ ?_)
  refine wc_seq_k fun K5 hK5 => ?_
  refine wc_seq_region fun K6 hK6 => ?_
  refine wl_v hfr (by decide) (v_move rfl) ?_
  clear hfr
  intro a hfr
  refine wl_v hfr (by decide) (v_gt rfl rfl) ?_
  clear hfr
  intro a hfr
  refine wl_nil (hK6 _ _ ?_)
  refine wc_cond hfr rfl (fun hc1 => ?_) (fun hc1 => ?_)
  · rw [hc1] at hfr
    try simp only [Bool.not_eq_true', Bool.not_eq_false', decide_eq_true_eq, decide_eq_false_iff_not] at hc1
    have hq1 := least_bound hd hn1 hn
    have hq0 := least_nonneg (n := n) hd
    unfold least at hq0 hq1
    rw [if_pos (by omega)] at hq0 hq1
    refine wc_region ?_
    refine wl_v hfr (by decide) (v_move rfl) ?_
    clear hfr
    intro a hfr
    refine wl_v hfr (by decide) (v_sub rfl rfl ⟨by omega, by omega⟩) ?_
    clear hfr
    intro a hfr
    refine wl_v hfr (by decide) (v_mul rfl rfl ⟨by omega, by omega⟩) ?_
    clear hfr
    intro a hfr
    refine wl_v hfr (by decide) (v_move rfl) ?_
    clear hfr
    intro a hfr
    refine wl_v hfr (by decide) (v_add rfl rfl ⟨by omega, by omega⟩) ?_
    clear hfr
    intro a hfr
    refine wl_v hfr (by decide) (v_quo rfl rfl (by omega) (by omega) (by omega)) ?_
    clear hfr
    intro a hfr
    refine wl_v hfr (by decide) (v_add rfl rfl ⟨by omega, by omega⟩) ?_
    clear hfr
    intro a hfr
    refine wl_v hfr (by decide) (v_assign rfl) ?_
    clear hfr
    intro a hfr
    refine wl_nil ?_
    refine hK5 _ _ ?_
    replace hfr : Fr 38 [(0, _), (1, _), (4, _), (5, _), (6, _)] [] a := hfr.pick [0, 1, 4, 5, 6]
    refine wc_seq_k fun K7 hK7 => ?_
    refine wc_of_dr (by kernel_rfl) (dr_of_wd (by kernel_rfl) fun w1 hxz => ?_)
    replace hst : St No w0 [] w1 := hst.grow hxz
    refine wd_sub (k := 0) 9 [7, 8] hfr (by kernel_rfl) (by kernel_rfl) (by kernel_rfl) (by rfl) ?_
    replace hfr : Fr 38 [(0, _), (1, _), (5, _), (6, _)] [] a := hfr.pick [0, 1, 5, 6]
    refine wc_phases' 9 [[], [], [1], [2], [3], [], [5], [4, 6], [0]] (fun i => match i with | 0 => pv (.int .i64 (((1000 * (n - 1)) / (1000 + d)) + 1)) | 1 => pv (.int .i64 n) | 2 => pv (.int .i64 (n + 1)) | 3 => pv (.int .i64 (1000 * (n + 1))) | 4 => pv (.int .i64 ((1000 * (n + 1)) - 1)) | 5 => pv (.int .i64 d) | 6 => pv (.int .i64 (1000 - d)) | 7 => pv (.int .i64 (((1000 * (n + 1)) - 1) / (1000 - d))) | 8 => pv (.int .i64 (((1000 * (n - 1)) / (1000 + d)) + 1)) | _ => fun _ _ => False) hfr hst (by kernel_rfl) (by kernel_rfl) ?_ ?_
    · intro i hi
      match i, hi with
      | 0, _ =>
        intro w hst
        exact OpV.g (v_move rfl)
      | 1, _ =>
        intro w hst
        exact OpV.g (v_move rfl)
      | 2, _ =>
        rintro _ _ ⟨rfl, rfl⟩
        intro w hst
        exact OpV.g (v_add rfl rfl ⟨by omega, by omega⟩)
      | 3, _ =>
        rintro _ _ ⟨rfl, rfl⟩
        intro w hst
        exact OpV.g (v_mul rfl rfl ⟨by omega, by omega⟩)
      | 4, _ =>
        rintro _ _ ⟨rfl, rfl⟩
        intro w hst
        exact OpV.g (v_sub rfl rfl ⟨by omega, by omega⟩)
      | 5, _ =>
        intro w hst
        exact OpV.g (v_move rfl)
      | 6, _ =>
        rintro _ _ ⟨rfl, rfl⟩
        intro w hst
        exact OpV.g (v_sub rfl rfl ⟨by omega, by omega⟩)
      | 7, _ =>
        rintro _ _ ⟨rfl, rfl⟩ _ _ ⟨rfl, rfl⟩
        intro w hst
        exact OpV.g (v_quo rfl rfl (by omega) (by omega) (by omega))
      | 8, _ =>
        rintro _ _ ⟨rfl, rfl⟩
        intro w hst
        exact OpV.g (v_assign rfl)
    clear hfr hst
    rintro _ _ ⟨rfl, rfl⟩ _ _ ⟨rfl, rfl⟩ _ _ ⟨rfl, rfl⟩ _ _ ⟨rfl, rfl⟩ _ _ ⟨rfl, rfl⟩ _ _ ⟨rfl, rfl⟩ _ _ ⟨rfl, rfl⟩ _ _ ⟨rfl, rfl⟩ _ _ ⟨rfl, rfl⟩ a w2 hfr hst
    replace hfr : Fr 38 [(30, _), (31, _), (32, _), (33, _), (34, _), (35, _), (36, _), (37, _), (4, _), (0, _), (1, _), (5, _), (6, _)] [] a := hfr
    replace hst : St No w0 [] w2 := hst
    refine wl_nil ?_
    refine wd_lin (k := 9) 10 [9] (by kernel_rfl) (by kernel_rfl) (by kernel_rfl) ?_
    refine wl_v hfr (by decide) (v_assign rfl) ?_
    clear hfr
    intro a hfr
    refine wl_nil ?_
    refine wd_end (by kernel_rfl) ?_
    refine hK7 _ _ ?_
    replace hfr : Fr 38 [(4, _), (5, _)] [] a := hfr.pick [4, 5]
    refine wc_ret ?_
    refine fin_ret hfr Try.results66 (resAre_tmp rfl (resAre_tmp rfl resAre_nil)) ?_
    exact ⟨by simp only [retv, least, most]; first | rw [if_pos (by omega)] | rw [if_neg (by omega)], hst.ext⟩
  rw [hc1] at hfr
  try simp only [Bool.not_eq_true', Bool.not_eq_false', decide_eq_true_eq, decide_eq_false_iff_not] at hc1
  refine wc_skip ?_
  refine hK5 _ _ ?_
  refine wc_seq_k fun K8 hK8 => ?_
  refine wc_of_dr (by kernel_rfl) (dr_of_wd (by kernel_rfl) fun w3 hxz => ?_)
  replace hst : St No w0 [] w3 := hst.grow hxz
  refine wd_sub (k := 0) 9 [7, 8] hfr (by kernel_rfl) (by kernel_rfl) (by kernel_rfl) (by rfl) ?_
  replace hfr : Fr 38 [(0, _), (1, _), (5, _), (20, _), (6, _), (21, _), (22, _)] [] a := hfr.pick [0, 1, 5, 20, 6, 21, 22]
  refine wc_phases' 9 [[], [], [1], [2], [3], [], [5], [4, 6], [0]] (fun i => match i with | 0 => pv (.int .i64 0) | 1 => pv (.int .i64 n) | 2 => pv (.int .i64 (n + 1)) | 3 => pv (.int .i64 (1000 * (n + 1))) | 4 => pv (.int .i64 ((1000 * (n + 1)) - 1)) | 5 => pv (.int .i64 d) | 6 => pv (.int .i64 (1000 - d)) | 7 => pv (.int .i64 (((1000 * (n + 1)) - 1) / (1000 - d))) | 8 => pv (.int .i64 0) | _ => fun _ _ => False) hfr hst (by kernel_rfl) (by kernel_rfl) ?_ ?_
  · intro i hi
    match i, hi with
    | 0, _ =>
      intro w hst
      exact OpV.g (v_move rfl)
    | 1, _ =>
      intro w hst
      exact OpV.g (v_move rfl)
    | 2, _ =>
      rintro _ _ ⟨rfl, rfl⟩
      intro w hst
      exact OpV.g (v_add rfl rfl ⟨by omega, by omega⟩)
    | 3, _ =>
      rintro _ _ ⟨rfl, rfl⟩
      intro w hst
      exact OpV.g (v_mul rfl rfl ⟨by omega, by omega⟩)
    | 4, _ =>
      rintro _ _ ⟨rfl, rfl⟩
      intro w hst
      exact OpV.g (v_sub rfl rfl ⟨by omega, by omega⟩)
    | 5, _ =>
      intro w hst
      exact OpV.g (v_move rfl)
    | 6, _ =>
      rintro _ _ ⟨rfl, rfl⟩
      intro w hst
      exact OpV.g (v_sub rfl rfl ⟨by omega, by omega⟩)
    | 7, _ =>
      rintro _ _ ⟨rfl, rfl⟩ _ _ ⟨rfl, rfl⟩
      intro w hst
      exact OpV.g (v_quo rfl rfl (by omega) (by omega) (by omega))
    | 8, _ =>
      rintro _ _ ⟨rfl, rfl⟩
      intro w hst
      exact OpV.g (v_assign rfl)
  clear hfr hst
  rintro _ _ ⟨rfl, rfl⟩ _ _ ⟨rfl, rfl⟩ _ _ ⟨rfl, rfl⟩ _ _ ⟨rfl, rfl⟩ _ _ ⟨rfl, rfl⟩ _ _ ⟨rfl, rfl⟩ _ _ ⟨rfl, rfl⟩ _ _ ⟨rfl, rfl⟩ _ _ ⟨rfl, rfl⟩ a w4 hfr hst
  replace hfr : Fr 38 [(30, _), (31, _), (32, _), (33, _), (34, _), (35, _), (36, _), (37, _), (4, _), (0, _), (1, _), (5, _), (20, _), (6, _), (21, _), (22, _)] [] a := hfr
  replace hst : St No w0 [] w4 := hst
  refine wl_nil ?_
  refine wd_lin (k := 9) 10 [9] (by kernel_rfl) (by kernel_rfl) (by kernel_rfl) ?_
  refine wl_v hfr (by decide) (v_assign rfl) ?_
  clear hfr
  intro a hfr
  refine wl_nil ?_
  refine wd_end (by kernel_rfl) ?_
  refine hK8 _ _ ?_
  replace hfr : Fr 38 [(4, _), (5, _)] [] a := hfr.pick [4, 5]
  refine wc_ret ?_
  refine fin_ret hfr Try.results66 (resAre_tmp rfl (resAre_tmp rfl resAre_nil)) ?_
  exact ⟨by simp only [retv, least, most]; first | rw [if_pos (by omega)] | rw [if_neg (by omega)], hst.ext⟩

set_option maxHeartbeats 4000000 in
/-- dialtone/clock.Valid -/
theorem cvalid_ok (d : Int) (v : Value) (rs : List Rdg) (w0 : World) (hv : SlAt w0 v 3 (rs.map Rdg.cells)) (hd : 0 ≤ d) (hd1 : d ≤ 100) (hl : rs.length ≤ 12) (hok0 : okRdg (-1) rs) :
    Ret Try.prog 44 #[.agg #[.int .i64 d, v]] w0 fun v w => v = .bool true ∧ Ext No w0 w := by
  refine ret_of Try.func44 rfl Try.ntmps44 (Nat.le_of_ble_eq_true rfl) fun a hfr => ?_
  replace hfr : Fr 56 [(0, _)] [] a := hfr
  replace hst : St No w0 [] w0 := St.init w0
  refine wc_seq_region fun K1 hK1 => ?_
  refine wl_box hfr hst (by decide) rfl (cs := [.int .i64 d, v]) rfl ?_
  clear hfr hst
  intro a w1 hfr hst
  refine wl_v hfr (by decide) (v_assign rfl) ?_
  clear hfr
  intro a hfr
  refine wl_nil (hK1 _ _ ?_)
  refine wc_seq_k fun K2 hK2 => ?_
  refine wc_seq_region fun K3 hK3 => ?_
  refine wl_v hfr (by decide) (v_fieldAddr (v := .pointer (some ⟨w0.heap.size, 0, none⟩)) rfl (by kernel_rfl)) ?_
  clear hfr
  intro a hfr
  refine wl_v hfr (by decide) (v_load_blk1 (hst.get (k := 0) rfl) rfl (Try.isAgg3 _) rfl) ?_
  clear hfr
  intro a hfr
  refine wl_v hfr (by decide) ((v_lt rfl rfl).asb (b' := false) (by simp; omega)) ?_
  clear hfr
  intro a hfr
  refine wl_v hfr (by decide) (v_move rfl) ?_
  clear hfr
  intro a hfr
  refine wl_vy hfr (by decide) rfl (by decide) rfl (v_fieldAddr (v := .pointer (some ⟨w0.heap.size, 0, none⟩)) rfl (by kernel_rfl)) ?_
  clear hfr
  intro a hfr
  refine wl_vy hfr (by decide) rfl (by decide) rfl (v_load_blk1 (hst.get (k := 0) rfl) rfl (Try.isAgg3 _) rfl) ?_
  clear hfr
  intro a hfr
  refine wl_vy hfr (by decide) rfl (by decide) rfl ((v_gt rfl rfl).asb (b' := false) (by simp; omega)) ?_
  clear hfr
  intro a hfr
  refine wl_v hfr (by decide) (v_pick_f rfl rfl) ?_
  clear hfr
  intro a hfr
  refine wl_v hfr (by decide) (v_move rfl) ?_
  clear hfr
  intro a hfr
  refine wl_vy hfr (by decide) rfl (by decide) rfl (v_fieldAddr (v := .pointer (some ⟨w0.heap.size, 1, none⟩)) rfl (by kernel_rfl)) ?_
  clear hfr
  intro a hfr
  refine wl_vy hfr (by decide) rfl (by decide) rfl (v_load_blk1 (hst.get (k := 0) rfl) rfl (Try.isAgg57 _) rfl) ?_
  clear hfr
  intro a hfr
  refine wl_vy hfr (by decide) rfl (by decide) rfl ((v_len_sl (sT := 57) (hst.arg hv) rfl rfl (Try.runUnderlying57 _)).asi (m' := (rs.length : Int)) (by simp)) ?_
  clear hfr
  intro a hfr
  refine wl_vy hfr (by decide) rfl (by decide) rfl ((v_gt rfl rfl).asb (b' := false) (by simp; omega)) ?_
  clear hfr
  intro a hfr
  refine wl_v hfr (by decide) (v_pick_f rfl rfl) ?_
  clear hfr
  intro a hfr
  refine wl_nil (hK3 _ _ ?_)
  replace hfr : Fr 56 [(1, _), (2, _), (19, _)] [] a := hfr.pick [1, 2, 19]
  refine wc_cond_f hfr rfl ?_
  refine wc_skip ?_
  refine hK2 _ _ ?_
  refine wc_seq_region fun K4 hK4 => ?_
  refine wl_v hfr (by decide) (v_assign rfl) ?_
  clear hfr
  intro a hfr
  refine wl_nil (hK4 _ _ ?_)
  refine wc_seq_k fun K5 hK5 => ?_
  refine wc_seq_region fun K6 hK6 => ?_
  refine wl_v hfr (by decide) (v_fieldAddr (v := .pointer (some ⟨w0.heap.size, 1, none⟩)) rfl (by kernel_rfl)) ?_
  clear hfr
  intro a hfr
  refine wl_v hfr (by decide) (v_load_blk1 (hst.get (k := 0) rfl) rfl (Try.isAgg57 _) rfl) ?_
  clear hfr
  intro a hfr
  refine wl_v hfr (by decide) ((v_len_sl (sT := 57) (hst.arg hv) rfl rfl (Try.runUnderlying57 _)).asi (m' := (rs.length : Int)) (by simp)) ?_
  clear hfr
  intro a hfr
  refine wl_v hfr (by decide) (v_move rfl) ?_
  clear hfr
  intro a hfr
  refine wl_nil (hK6 _ _ ?_)
  refine wc_block ?_
  refine wc_loop (fun m a w => ∃ (k : Nat) (last : Int), m = rs.length - k ∧ (k ≤ rs.length) ∧ (okRdg last (rs.drop k)) ∧ Fr 56 [(21, v), (22, .int .i64 (rs.length : Int)), (23, .int .i64 (k : Int)), (3, .int .i64 last)] [] a ∧ St No w0 [] w) _ ⟨0, -1, rfl, Nat.zero_le _, hok0, hfr.pick [21, 22, 23, 3], hst.select [] (by decide)⟩ ?_
  rintro _ a w2 ⟨k, last, rfl, hk, hok, hfr, hst⟩
  refine wc_seq_region fun K7 hK7 => ?_
  refine wl_v hfr (by decide) (v_lt rfl rfl) ?_
  clear hfr
  intro a hfr
  refine wl_nil (hK7 _ _ ?_)
  refine wc_seq_k fun K8 hK8 => ?_
  refine wc_cond hfr rfl (fun hc1 => ?_) (fun hc1 => ?_)
  · rw [hc1] at hfr
    try simp only [Bool.not_eq_true', Bool.not_eq_false', decide_eq_true_eq, decide_eq_false_iff_not] at hc1
    have hkl : k < rs.length := by omega
    obtain ⟨rd, hrd⟩ : ∃ r, rs.getD k ⟨0, 0, 0⟩ = r := ⟨_, rfl⟩
    have hdr : rs.drop k = rd :: rs.drop (k + 1) := by rw [List.drop_eq_getElem_cons hkl, ← hrd]; simp [List.getD_eq_getElem?_getD, List.getElem?_eq_getElem hkl]
    rw [hdr] at hok
    obtain ⟨o1, o2, o3, o4, o5, o6⟩ := hok
    refine wc_skip ?_
    refine hK8 _ _ ?_
    refine wc_seq_k fun K9 hK9 => ?_
    refine wc_block ?_
    refine wc_seq_region fun K10 hK10 => ?_
    refine wl_v hfr (by decide) ((v_indexAddr_sl (i := (k : Int)) (sT := 57) (hst.arg hv) rfl rfl (Try.runUnderlying57 _) (Try.sizeOf98 _) (by omega) (by simpa using hkl)).as (v' := slAddr v (k * 3)) rfl) ?_
    clear hfr
    intro a hfr
    refine wl_v hfr (by decide) ((v_load_sl (hst.arg hv) (i := k) (by simpa using hkl) rfl (Try.isAgg98 _) (Try.sizeOf98 _)).as (v' := .agg #[.int .i64 rd.loc, .int .i64 rd.lo, .int .i64 rd.hi]) (by rw [← hrd]; first | (show _ = Value.agg (rs.getD k ⟨0, 0, 0⟩).cells.toArray; simp [hkl]) | simp [List.getElem?_eq_getElem hkl, Rdg.cells])) ?_
    clear hfr
    intro a hfr
    refine wl_alloc hfr hst (by decide) (Try.zeroValue98 _) (cs := [.int .i64 0, .int .i64 0, .int .i64 0]) rfl ?_
    clear hfr hst
    intro a w3 hfr hst
    refine wl_store 0 hfr hst rfl rfl rfl (Try.sizeOf98 _) rfl (Nat.le_of_ble_eq_true rfl) (ds := [.int .i64 rd.loc, .int .i64 rd.lo, .int .i64 rd.hi]) rfl rfl ?_
    clear hfr hst
    intro a w4 hfr hst
    refine wl_nil (hK10 _ _ ?_)
    refine wc_seq_k fun K11 hK11 => ?_
    refine wc_seq_region fun K12 hK12 => ?_
    refine wl_v hfr (by decide) (v_fieldAddr (v := .pointer (some ⟨w2.heap.size, 0, none⟩)) rfl (by kernel_rfl)) ?_
    clear hfr
    intro a hfr
    refine wl_v hfr (by decide) (v_load_blk1 (hst.get (k := 0) rfl) rfl (Try.isAgg3 _) rfl) ?_
    clear hfr
    intro a hfr
    refine wl_v hfr (by decide) (v_move rfl) ?_
    clear hfr
    intro a hfr
    refine wl_v hfr (by decide) ((v_le rfl rfl).asb (b' := false) (by simp; omega)) ?_
    clear hfr
    intro a hfr
    refine wl_v hfr (by decide) (v_move rfl) ?_
    clear hfr
    intro a hfr
    refine wl_vy hfr (by decide) rfl (by decide) rfl (v_fieldAddr (v := .pointer (some ⟨w2.heap.size, 0, none⟩)) rfl (by kernel_rfl)) ?_
    clear hfr
    intro a hfr
    refine wl_vy hfr (by decide) rfl (by decide) rfl (v_load_blk1 (hst.get (k := 0) rfl) rfl (Try.isAgg3 _) rfl) ?_
    clear hfr
    intro a hfr
    refine wl_vy hfr (by decide) rfl (by decide) rfl ((v_gt rfl rfl).asb (b' := false) (by simp; omega)) ?_
    clear hfr
    intro a hfr
    refine wl_v hfr (by decide) (v_pick_f rfl rfl) ?_
    clear hfr
    intro a hfr
    refine wl_v hfr (by decide) (v_move rfl) ?_
    clear hfr
    intro a hfr
    refine wl_vy hfr (by decide) rfl (by decide) rfl (v_fieldAddr (v := .pointer (some ⟨w2.heap.size, 1, none⟩)) rfl (by kernel_rfl)) ?_
    clear hfr
    intro a hfr
    refine wl_vy hfr (by decide) rfl (by decide) rfl (v_load_blk1 (hst.get (k := 0) rfl) rfl (Try.isAgg3 _) rfl) ?_
    clear hfr
    intro a hfr
    refine wl_vy hfr (by decide) rfl (by decide) rfl ((v_lt rfl rfl).asb (b' := false) (by simp; omega)) ?_
    clear hfr
    intro a hfr
    refine wl_v hfr (by decide) (v_pick_f rfl rfl) ?_
    clear hfr
    intro a hfr
    refine wl_v hfr (by decide) (v_move rfl) ?_
    clear hfr
    intro a hfr
    refine wl_vy hfr (by decide) rfl (by decide) rfl (v_fieldAddr (v := .pointer (some ⟨w2.heap.size, 1, none⟩)) rfl (by kernel_rfl)) ?_
    clear hfr
    intro a hfr
    refine wl_vy hfr (by decide) rfl (by decide) rfl (v_load_blk1 (hst.get (k := 0) rfl) rfl (Try.isAgg3 _) rfl) ?_
    clear hfr
    intro a hfr
    refine wl_vy hfr (by decide) rfl (by decide) rfl (v_fieldAddr (v := .pointer (some ⟨w2.heap.size, 2, none⟩)) rfl (by kernel_rfl)) ?_
    clear hfr
    intro a hfr
    refine wl_vy hfr (by decide) rfl (by decide) rfl (v_load_blk1 (hst.get (k := 0) rfl) rfl (Try.isAgg3 _) rfl) ?_
    clear hfr
    intro a hfr
    refine wl_vy hfr (by decide) rfl (by decide) rfl ((v_gt rfl rfl).asb (b' := false) (by simp; omega)) ?_
    clear hfr
    intro a hfr
    refine wl_v hfr (by decide) (v_pick_f rfl rfl) ?_
    clear hfr
    intro a hfr
    refine wl_v hfr (by decide) (v_move rfl) ?_
    clear hfr
    intro a hfr
    refine wl_vy hfr (by decide) rfl (by decide) rfl (v_fieldAddr (v := .pointer (some ⟨w2.heap.size, 2, none⟩)) rfl (by kernel_rfl)) ?_
    clear hfr
    intro a hfr
    refine wl_vy hfr (by decide) rfl (by decide) rfl (v_load_blk1 (hst.get (k := 0) rfl) rfl (Try.isAgg3 _) rfl) ?_
    clear hfr
    intro a hfr
    refine wl_vy hfr (by decide) rfl (by decide) rfl ((v_gt rfl rfl).asb (b' := false) (by simp; omega)) ?_
    clear hfr
    intro a hfr
    refine wl_v hfr (by decide) (v_pick_f rfl rfl) ?_
    clear hfr
    intro a hfr
    refine wl_nil (hK12 _ _ ?_)
    replace hfr : Fr 56 [(21, _), (22, _), (23, _), (5, _), (52, _)] [] a := hfr.pick [21, 22, 23, 5, 52]
    refine wc_cond_f hfr rfl ?_
    refine wc_skip ?_
    refine hK11 _ _ ?_
    refine wc_region ?_
    refine wl_v hfr (by decide) (v_fieldAddr (v := .pointer (some ⟨w2.heap.size, 0, none⟩)) rfl (by kernel_rfl)) ?_
    clear hfr
    intro a hfr
    refine wl_v hfr (by decide) (v_load_blk1 (hst.get (k := 0) rfl) rfl (Try.isAgg3 _) rfl) ?_
    clear hfr
    intro a hfr
    refine wl_v hfr (by decide) (v_assign rfl) ?_
    clear hfr
    intro a hfr
    refine wl_nil ?_
    refine hK9 _ _ ?_
    refine wc_region ?_
    refine wl_v hfr (by decide) (v_add rfl rfl ⟨by omega, by omega⟩) ?_
    clear hfr
    intro a hfr
    refine wl_v hfr (by decide) (v_move rfl) ?_
    clear hfr
    intro a hfr
    refine wl_nil ?_
    refine ⟨_, ?_, k + 1, rd.loc, rfl, (by omega), o6, hfr.pick [21, 22, 23, 3], hst.select [] (by decide)⟩
    omega
  rw [hc1] at hfr
  try simp only [Bool.not_eq_true', Bool.not_eq_false', decide_eq_true_eq, decide_eq_false_iff_not] at hc1
  refine wc_exit ?_
  refine hK5 _ _ ?_
  refine wc_seq_region fun K13 hK13 => ?_
  refine wl_v hfr (by decide) (v_assign rfl) ?_
  clear hfr
  intro a hfr
  refine wl_nil (hK13 _ _ ?_)
  refine wc_ret ?_
  refine fin_ret hfr Try.results44 (resAre_tmp rfl resAre_nil) ?_
  exact ⟨by simp [retv], hst.ext⟩

/-- (*dialtone/clock.window).narrow -/
theorem narrow_ok (b : Nat) (lo up x y : Int) (w0 : World) (hb : (blk b [.int .i64 lo, .int .i64 up] 101).ok w0) :
    Ret Try.prog 65 #[.pointer (some ⟨b, 0, none⟩), .int .i64 x, .int .i64 y] w0 fun v w => v = .tuple #[] ∧ Ext (· = b) w0 w ∧ (blk b [.int .i64 (max lo x), .int .i64 (min up y)] 101).ok w := by
  refine ret_of Try.func65 rfl Try.ntmps65 (Nat.le_of_ble_eq_true rfl) fun a hfr => ?_
  replace hfr : Fr 24 [(0, _), (1, _), (2, _)] [] a := hfr
  replace hst : St (· = b) w0 [blk b [.int .i64 lo, .int .i64 up] 101] w0 := St.one hb
  refine wc_of_dr (by kernel_rfl) ?_
  refine wc_phases_mod (M := (· = b)) (w0 := w0) (e0 := blk b [.int .i64 lo, .int .i64 up] 101) 17 [[], [], [], [2], [3], [4], [], [5, 6], [], [8], [9], [10], [], [11, 12], [0], [14], [5, 11, 7, 15]] [16] (by kernel_rfl) (by kernel_rfl) (fun i => match i with | 0 => pv (.pointer (some ⟨b, 0, none⟩)) | 1 => pv (.pointer (some ⟨b, 0, none⟩)) | 2 => pv (.pointer (some ⟨b, 0, none⟩)) | 3 => pv (.pointer (some ⟨b, 0, none⟩)) | 4 => pv (.pointer (some ⟨b, 0, none⟩)) | 5 => pv (.int .i64 lo) | 6 => pv (.int .i64 x) | 7 => pv (.int .i64 (max lo x)) | 8 => pv (.pointer (some ⟨b, 0, none⟩)) | 9 => pv (.pointer (some ⟨b, 0, none⟩)) | 10 => pv (.pointer (some ⟨b, 1, none⟩)) | 11 => pv (.int .i64 up) | 12 => pv (.int .i64 y) | 13 => pv (.int .i64 (min up y)) | 14 => pv (.pointer (some ⟨b, 0, none⟩)) | 15 => pv (.pointer (some ⟨b, 0, none⟩)) | 16 => pv undef | _ => fun _ _ => False) ?_ (fun D V e => (16 ∉ D ∧ e = blk b [.int .i64 lo, .int .i64 up] 101) ∨ (16 ∈ D ∧ 5 ∈ D ∧ 11 ∈ D ∧ e = blk b [.int .i64 (max lo x), .int .i64 up] 101)) ?_ ?_ hfr (H := []) hst ?_ ?_ ?_
  · intro i v E hd hR
    match i with
    | 0 => exact absurd hd (by simp [opAt])
    | 1 => exact absurd hd (by simp [opAt])
    | 2 => exact absurd hd (by simp [opAt])
    | 3 => exact absurd hd (by simp [opAt])
    | 4 => exact absurd hd (by simp [opAt])
    | 5 => exact absurd hd (by simp [opAt])
    | 6 => exact absurd hd (by simp [opAt])
    | 7 => exact absurd hd (by simp [opAt])
    | 8 => exact absurd hd (by simp [opAt])
    | 9 => exact absurd hd (by simp [opAt])
    | 10 => exact absurd hd (by simp [opAt])
    | 11 => exact absurd hd (by simp [opAt])
    | 12 => exact absurd hd (by simp [opAt])
    | 13 => exact absurd hd (by simp [opAt])
    | 14 => exact absurd hd (by simp [opAt])
    | 15 => exact absurd hd (by simp [opAt])
    | 16 => exact hR.1.symm
    | i + 17 => exact hR.elim
  · exact fun _ => .inl ⟨by simp, rfl⟩
  · rintro i D V V' e hi hm hV (⟨h1, rfl⟩ | ⟨h1, h2, h3, rfl⟩)
    · exact .inl ⟨fun h => (List.mem_cons.1 h).elim (fun h => hm (by simp [← h])) h1, rfl⟩
    · exact .inr ⟨by simp [h1], by simp [h2], by simp [h3], rfl⟩
  · intro i hi hm V E w hR D e hp hG hni hst
    match i, hi with
    | 0, _ =>
      exact OpV.g (v_move rfl)
    | 1, _ =>
      exact OpV.g (v_move rfl)
    | 2, _ =>
      exact OpV.g (v_move rfl)
    | 3, _ =>
      have e2 : V 2 = .pointer (some ⟨b, 0, none⟩) := (hR 2 (by simp)).1.symm
      change OpR _ _ _ ((dsv _ _ 2, V 2) :: _) _ _
      rw [e2]
      exact OpV.g (v_nilCheck rfl)
    | 4, _ =>
      have e3 : V 3 = .pointer (some ⟨b, 0, none⟩) := (hR 3 (by simp)).1.symm
      change OpR _ _ _ ((dsv _ _ 3, V 3) :: _) _ _
      rw [e3]
      exact OpV.g (v_fieldAddr (v := .pointer (some ⟨b, 0, none⟩)) rfl (by kernel_rfl))
    | 5, _ =>
      have e4 : V 4 = .pointer (some ⟨b, 0, none⟩) := (hR 4 (by simp)).1.symm
      change OpR _ _ _ ((dsv _ _ 4, V 4) :: _) _ _
      rw [e4]
      rcases hG with ⟨_, rfl⟩ | ⟨_, h5, h11, _⟩
      · exact OpV.g (v_load_blk1 (hst.get (k := 0) rfl) rfl (Try.isAgg3 _) rfl)
      · exact absurd h5 hni
    | 6, _ =>
      exact OpV.g (v_move rfl)
    | 7, _ =>
      have e5 : V 5 = .int .i64 lo := (hR 5 (by simp)).1.symm
      have e6 : V 6 = .int .i64 x := (hR 6 (by simp)).1.symm
      change OpR _ _ _ ((dsv _ _ 5, V 5) :: (dsv _ _ 6, V 6) :: _) _ _
      rw [e5, e6]
      exact OpV.g (v_max2 rfl rfl)
    | 8, _ =>
      exact OpV.g (v_move rfl)
    | 9, _ =>
      have e8 : V 8 = .pointer (some ⟨b, 0, none⟩) := (hR 8 (by simp)).1.symm
      change OpR _ _ _ ((dsv _ _ 8, V 8) :: _) _ _
      rw [e8]
      exact OpV.g (v_nilCheck rfl)
    | 10, _ =>
      have e9 : V 9 = .pointer (some ⟨b, 0, none⟩) := (hR 9 (by simp)).1.symm
      change OpR _ _ _ ((dsv _ _ 9, V 9) :: _) _ _
      rw [e9]
      exact OpV.g (v_fieldAddr (v := .pointer (some ⟨b, 1, none⟩)) rfl (by kernel_rfl))
    | 11, _ =>
      have e10 : V 10 = .pointer (some ⟨b, 1, none⟩) := (hR 10 (by simp)).1.symm
      change OpR _ _ _ ((dsv _ _ 10, V 10) :: _) _ _
      rw [e10]
      rcases hG with ⟨_, rfl⟩ | ⟨_, h5, h11, _⟩
      · exact OpV.g (v_load_blk1 (hst.get (k := 0) rfl) rfl (Try.isAgg3 _) rfl)
      · exact absurd h11 hni
    | 12, _ =>
      exact OpV.g (v_move rfl)
    | 13, _ =>
      have e11 : V 11 = .int .i64 up := (hR 11 (by simp)).1.symm
      have e12 : V 12 = .int .i64 y := (hR 12 (by simp)).1.symm
      change OpR _ _ _ ((dsv _ _ 11, V 11) :: (dsv _ _ 12, V 12) :: _) _ _
      rw [e11, e12]
      exact OpV.g (v_min2 rfl rfl)
    | 14, _ =>
      have e0 : V 0 = .pointer (some ⟨b, 0, none⟩) := (hR 0 (by simp)).1.symm
      change OpR _ _ _ ((dsv _ _ 0, V 0) :: _) _ _
      rw [e0]
      exact OpV.g (v_nilCheck rfl)
    | 15, _ =>
      have e14 : V 14 = .pointer (some ⟨b, 0, none⟩) := (hR 14 (by simp)).1.symm
      change OpR _ _ _ ((dsv _ _ 14, V 14) :: _) _ _
      rw [e14]
      exact OpV.g (v_fieldAddr (v := .pointer (some ⟨b, 0, none⟩)) rfl (by kernel_rfl))
    | 16, _ => exact absurd (by simp) hm
    | i + 17, h => exact absurd h (by omega)
  · intro i hi hm V E w hR D e hp hG hni hst
    obtain rfl : i = 16 := by simpa using hm
    have e5 : V 5 = .int .i64 lo := (hR 5 (by simp)).1.symm
    have e11 : V 11 = .int .i64 up := (hR 11 (by simp)).1.symm
    have e7 : V 7 = .int .i64 (max lo x) := (hR 7 (by simp)).1.symm
    have e15 : V 15 = .pointer (some ⟨b, 0, none⟩) := (hR 15 (by simp)).1.symm
    change OpR _ _ _ ((dsv _ _ 5, V 5) :: (dsv _ _ 11, V 11) :: (dsv _ _ 7, V 7) :: (dsv _ _ 15, V 15) :: _) _ _
    rw [e5, e11, e7, e15]
    have h5 : 5 ∈ D := hp 5 (by simp)
    have h11 : 11 ∈ D := hp 11 (by simp)
    rcases hG with ⟨_, rfl⟩ | ⟨h16, _⟩
    · refine (r_storeU (b := b) (off := 0) (u := .int .i64 (max lo x)) (ds := [.int .i64 (max lo x), .int .i64 up]) rfl rfl (hst.get (k := 0) rfl) (Try.sizeOf3 _) rfl (Nat.le_of_ble_eq_true rfl) rfl).mono ?_
      rintro v w' ⟨rfl, hx, hok⟩
      exact ⟨_, hx, hok, fun b' hb' => ⟨by cases hb'; exact Nat.lt_of_lt_of_le (hst.lt (k := 0) rfl rfl) hx.size, .inl hb'⟩, ⟨rfl, rfl⟩, fun V' _ _ => .inr ⟨by simp, by simp [h5], by simp [h11], rfl⟩⟩
    · exact absurd h16 hni
  clear hfr hst
  rintro D V E e a w1 hD hG hR hfr hst
  rcases hG with ⟨h16, _⟩ | ⟨_, _, _, rfl⟩
  · exact absurd (hD.mem_iff.2 (by simp)) h16
  replace hfr : Fr 24 [(7, V 1), (19, V 13)] [] a := hfr.pick [7, 19]
  rw [(show V 1 = .pointer (some ⟨b, 0, none⟩) from (hR 1 (by omega)).1.symm), (show V 13 = .int .i64 (min up y) from (hR 13 (by omega)).1.symm)] at hfr
  replace hst : St (· = b) w0 [blk b [.int .i64 (max lo x), .int .i64 up] 101] w1 := hst.mask [true]
  refine wl_v hfr (by decide) (v_nilCheck rfl) ?_
  clear hfr
  intro a hfr
  refine wl_v hfr (by decide) (v_fieldAddr (v := .pointer (some ⟨b, 1, none⟩)) rfl (by kernel_rfl)) ?_
  clear hfr
  intro a hfr
  refine wl_store 0 hfr hst rfl rfl rfl (Try.sizeOf3 _) rfl (Nat.le_of_ble_eq_true rfl) (ds := [.int .i64 (max lo x), .int .i64 (min up y)]) rfl rfl ?_
  clear hfr hst
  intro a w2 hfr hst
  refine wl_nil ?_
  refine fin_end hfr Try.results65 resAre_nil ?_
  exact ⟨rfl, hst.ext, hst.get (k := 0) rfl⟩

set_option maxHeartbeats 4000000 in
/-- dialtone/clock.around -/
theorem around_ok (loc : Int) (d : Int) (v : Value) (rs : List Rdg) (w0 : World) (hv : SlAt w0 v 3 (rs.map Rdg.cells)) (hd : 0 ≤ d) (hd1 : d ≤ 100) (hl : rs.length ≤ 12) (hok0 : okRdg (-1) rs) (h0 : 0 ≤ loc) (h1 : loc ≤ 10000000) :
    Ret Try.prog 45 #[.agg #[.int .i64 d, v], .int .i64 loc] w0 fun v w => v = .agg #[.int .i64 (windowF d loc (0, 10000000) rs).1, .int .i64 (windowF d loc (0, 10000000) rs).2] ∧ Ext No w0 w := by
  refine ret_of Try.func45 rfl Try.ntmps45 (Nat.le_of_ble_eq_true rfl) fun a hfr => ?_
  replace hfr : Fr 67 [(0, _), (1, _)] [] a := hfr
  replace hst : St No w0 [] w0 := St.init w0
  refine wc_seq_region fun K1 hK1 => ?_
  refine wl_box hfr hst (by decide) rfl (cs := [.int .i64 d, v]) rfl ?_
  clear hfr hst
  intro a w1 hfr hst
  refine wl_alloc hfr hst (by decide) (Try.zeroValue101 _) (cs := [.int .i64 0, .int .i64 0]) rfl ?_
  clear hfr hst
  intro a w2 hfr hst
  refine wl_nil (hK1 _ _ ?_)
  refine wc_seq_region fun K2 hK2 => ?_
  refine wl_v hfr (by decide) (v_build (v := .agg #[.int .i64 0, .int .i64 10000000]) rfl (by kernel_rfl)) ?_
  clear hfr
  intro a hfr
  refine wl_box hfr hst (by decide) rfl (cs := [.int .i64 0, .int .i64 10000000]) rfl ?_
  clear hfr hst
  intro a w3 hfr hst
  refine wl_v hfr (by decide) (v_assign rfl) ?_
  clear hfr
  intro a hfr
  refine wl_nil (hK2 _ _ ?_)
  refine wc_seq_region fun K3 hK3 => ?_
  refine wl_v hfr (by decide) (v_move rfl) ?_
  clear hfr
  intro a hfr
  refine wl_v hfr (by decide) (v_makeFunc rfl rfl) ?_
  clear hfr
  intro a hfr
  refine wl_v hfr (by decide) (v_assign rfl) ?_
  clear hfr
  intro a hfr
  refine wl_nil (hK3 _ _ ?_)
  refine wc_seq_k fun K4 hK4 => ?_
  refine wc_seq_region fun K5 hK5 => ?_
  refine wl_v hfr (by decide) (v_fieldAddr (v := .pointer (some ⟨w0.heap.size, 1, none⟩)) rfl (by kernel_rfl)) ?_
  clear hfr
  intro a hfr
  refine wl_v hfr (by decide) (v_load_blk1 (hst.get (k := 2) rfl) rfl (Try.isAgg57 _) rfl) ?_
  clear hfr
  intro a hfr
  refine wl_v hfr (by decide) ((v_len_sl (sT := 57) (hst.arg hv) rfl rfl (Try.runUnderlying57 _)).asi (m' := (rs.length : Int)) (by simp)) ?_
  clear hfr
  intro a hfr
  refine wl_v hfr (by decide) (v_move rfl) ?_
  clear hfr
  intro a hfr
  refine wl_nil (hK5 _ _ ?_)
  replace hfr : Fr 67 [(1, _), (2, _), (4, _), (5, _), (6, _), (16, _), (17, _), (18, _)] [] a := hfr.pick [1, 2, 4, 5, 6, 16, 17, 18]
  refine wc_block ?_
  refine wc_loop (fun m a w => ∃ (k : Nat) (lo : Int) (hi : Int), m = rs.length - k ∧ (k ≤ rs.length) ∧ (windowF d loc (0, 10000000) rs = windowF d loc (lo, hi) (rs.drop k)) ∧ Fr 67 [(1, .int .i64 loc), (2, .pointer (some ⟨w0.heap.size, 0, none⟩)), (4, .pointer (some ⟨w1.heap.size, 0, none⟩)), (5, .pointer (some ⟨w2.heap.size, 0, none⟩)), (6, .func (.func 65) #[.pointer (some ⟨w2.heap.size, 0, none⟩)] #[]), (16, v), (17, .int .i64 (rs.length : Int)), (18, .int .i64 (k : Int))] [] a ∧ St No w0 [blk w2.heap.size [.int .i64 lo, .int .i64 hi] 101, blk w1.heap.size [.int .i64 0, .int .i64 0] 101, blk w0.heap.size [.int .i64 d, v] 59] w) _ ⟨0, 0, 10000000, rfl, Nat.zero_le _, rfl, hfr.pick [1, 2, 4, 5, 6, 16, 17, 18], hst.select [0, 1, 2] (by decide)⟩ ?_
  rintro _ a w4 ⟨k, lo, hi, rfl, hk, hwin, hfr, hst⟩
  refine wc_seq_region fun K6 hK6 => ?_
  refine wl_v hfr (by decide) (v_lt rfl rfl) ?_
  clear hfr
  intro a hfr
  refine wl_nil (hK6 _ _ ?_)
  refine wc_seq_k fun K7 hK7 => ?_
  refine wc_cond hfr rfl (fun hc1 => ?_) (fun hc1 => ?_)
  · rw [hc1] at hfr
    try simp only [Bool.not_eq_true', Bool.not_eq_false', decide_eq_true_eq, decide_eq_false_iff_not] at hc1
    have hkl : k < rs.length := by omega
    obtain ⟨rd, hrd⟩ : ∃ r, rs.getD k ⟨0, 0, 0⟩ = r := ⟨_, rfl⟩
    have hdr : rs.drop k = rd :: rs.drop (k + 1) := by rw [List.drop_eq_getElem_cons hkl, ← hrd]; simp [List.getD_eq_getElem?_getD, List.getElem?_eq_getElem hkl]
    obtain ⟨o1, o2, o3, o4, o5⟩ := okRdg_mem hok0 (by omega) rd (getD_inc hkl hrd)
    obtain ⟨n, hn⟩ : ∃ n, max (loc - rd.loc) (rd.loc - loc) = n := ⟨_, rfl⟩
    obtain ⟨x0, hx0⟩ : ∃ x, least d n = x := ⟨_, rfl⟩
    obtain ⟨y0, hy0⟩ : ∃ x, most d n = x := ⟨_, rfl⟩
    have hxb := least_bound (n := n) hd (by omega) (by omega)
    have hxc := least_nonneg (n := n) hd
    have hyb := most_bound (n := n) hd hd1 (by omega) (by omega)
    rw [hx0] at hxb hxc
    rw [hy0] at hyb
    refine wc_skip ?_
    refine hK7 _ _ ?_
    refine wc_seq_k fun K8 hK8 => ?_
    refine wc_block ?_
    refine wc_seq_region fun K9 hK9 => ?_
    refine wl_v hfr (by decide) ((v_indexAddr_sl (i := (k : Int)) (sT := 57) (hst.arg hv) rfl rfl (Try.runUnderlying57 _) (Try.sizeOf98 _) (by omega) (by simpa using hkl)).as (v' := slAddr v (k * 3)) rfl) ?_
    clear hfr
    intro a hfr
    refine wl_v hfr (by decide) ((v_load_sl (hst.arg hv) (i := k) (by simpa using hkl) rfl (Try.isAgg98 _) (Try.sizeOf98 _)).as (v' := .agg #[.int .i64 rd.loc, .int .i64 rd.lo, .int .i64 rd.hi]) (by rw [← hrd]; first | (show _ = Value.agg (rs.getD k ⟨0, 0, 0⟩).cells.toArray; simp [hkl]) | simp [List.getElem?_eq_getElem hkl, Rdg.cells])) ?_
    clear hfr
    intro a hfr
    refine wl_alloc hfr hst (by decide) (Try.zeroValue98 _) (cs := [.int .i64 0, .int .i64 0, .int .i64 0]) rfl ?_
    clear hfr hst
    intro a w5 hfr hst
    refine wl_store 0 hfr hst rfl rfl rfl (Try.sizeOf98 _) rfl (Nat.le_of_ble_eq_true rfl) (ds := [.int .i64 rd.loc, .int .i64 rd.lo, .int .i64 rd.hi]) rfl rfl ?_
    clear hfr hst
    intro a w6 hfr hst
    refine wl_nil (hK9 _ _ ?_)
    refine wc_seq_region fun K10 hK10 => ?_
    refine wl_v hfr (by decide) (v_fieldAddr (v := .pointer (some ⟨w0.heap.size, 0, none⟩)) rfl (by kernel_rfl)) ?_
    clear hfr
    intro a hfr
    refine wl_v hfr (by decide) (v_load_blk1 (hst.get (k := 3) rfl) rfl (Try.isAgg3 _) rfl) ?_
    clear hfr
    intro a hfr
    refine wl_v hfr (by decide) (v_move rfl) ?_
    clear hfr
    intro a hfr
    refine wl_v hfr (by decide) (v_fieldAddr (v := .pointer (some ⟨w4.heap.size, 0, none⟩)) rfl (by kernel_rfl)) ?_
    clear hfr
    intro a hfr
    refine wl_v hfr (by decide) (v_load_blk1 (hst.get (k := 0) rfl) rfl (Try.isAgg3 _) rfl) ?_
    clear hfr
    intro a hfr
    refine wl_v hfr (by decide) (v_sub rfl rfl ⟨by omega, by omega⟩) ?_
    clear hfr
    intro a hfr
    refine wl_v hfr (by decide) (v_fieldAddr (v := .pointer (some ⟨w4.heap.size, 0, none⟩)) rfl (by kernel_rfl)) ?_
    clear hfr
    intro a hfr
    refine wl_v hfr (by decide) (v_load_blk1 (hst.get (k := 0) rfl) rfl (Try.isAgg3 _) rfl) ?_
    clear hfr
    intro a hfr
    refine wl_v hfr (by decide) (v_move rfl) ?_
    clear hfr
    intro a hfr
    refine wl_v hfr (by decide) (v_sub rfl rfl ⟨by omega, by omega⟩) ?_
    clear hfr
    intro a hfr
    refine wl_v hfr (by decide) (v_max2 rfl rfl) ?_
    clear hfr
    intro a hfr
    refine wl_callp hfr hst (by decide) Try.call66 rfl (spread2 hn hx0 hy0 (spread_ok d n _ hd hd1 (by omega) (by omega))) ?_
    clear hfr hst
    intro a w7 hfr hst
    refine wl_v hfr (by decide) (v_move rfl) ?_
    clear hfr
    intro a hfr
    refine wl_v hfr (by decide) (v_extract rfl rfl) ?_
    clear hfr
    intro a hfr
    refine wl_v hfr (by decide) (v_extract rfl rfl) ?_
    clear hfr
    intro a hfr
    refine wl_v hfr (by decide) (v_assign rfl) ?_
    clear hfr
    intro a hfr
    refine wl_v hfr (by decide) (v_assign rfl) ?_
    clear hfr
    intro a hfr
    refine wl_nil (hK10 _ _ ?_)
    replace hfr : Fr 67 [(1, _), (2, _), (4, _), (5, _), (6, _), (16, _), (17, _), (18, _), (8, _), (9, _), (10, _)] [] a := hfr.pick [1, 2, 4, 5, 6, 16, 17, 18, 8, 9, 10]
    refine wc_seq_k fun K11 hK11 => ?_
    refine wc_block ?_
    refine wc_seq_region fun K12 hK12 => ?_
    refine wl_v hfr (by decide) (v_move rfl) ?_
    clear hfr
    intro a hfr
    refine wl_v hfr (by decide) (v_fieldAddr (v := .pointer (some ⟨w4.heap.size, 0, none⟩)) rfl (by kernel_rfl)) ?_
    clear hfr
    intro a hfr
    refine wl_v hfr (by decide) (v_load_blk1 (hst.get (k := 0) rfl) rfl (Try.isAgg3 _) rfl) ?_
    clear hfr
    intro a hfr
    refine wl_v hfr (by decide) (v_lt rfl rfl) ?_
    clear hfr
    intro a hfr
    refine wl_v hfr (by decide) (v_assign rfl) ?_
    clear hfr
    intro a hfr
    refine wl_nil (hK12 _ _ ?_)
    refine wc_cond hfr rfl (fun hc2 => ?_) (fun hc2 => ?_)
    · rw [hc2] at hfr
      try simp only [Bool.not_eq_true', Bool.not_eq_false', decide_eq_true_eq, decide_eq_false_iff_not] at hc2
      refine wc_region ?_
      refine wl_v hfr (by decide) (v_move rfl) ?_
      clear hfr
      intro a hfr
      refine wl_v hfr (by decide) (v_neg rfl (by omega) (by omega)) ?_
      clear hfr
      intro a hfr
      refine wl_v hfr (by decide) (v_move rfl) ?_
      clear hfr
      intro a hfr
      refine wl_v hfr (by decide) (v_neg rfl (by omega) (by omega)) ?_
      clear hfr
      intro a hfr
      refine wl_v hfr (by decide) (v_assign rfl) ?_
      clear hfr
      intro a hfr
      refine wl_v hfr (by decide) (v_assign rfl) ?_
      clear hfr
      intro a hfr
      refine wl_nil ?_
      refine hK11 _ _ ?_
      replace hfr : Fr 67 [(1, _), (2, _), (4, _), (5, _), (6, _), (16, _), (17, _), (18, _), (8, _), (9, _), (10, _)] [] a := hfr.pick [1, 2, 4, 5, 6, 16, 17, 18, 8, 9, 10]
      refine wc_region ?_
      refine wl_v hfr (by decide) (v_move rfl) ?_
      clear hfr
      intro a hfr
      refine wl_v hfr (by decide) (v_fieldAddr (v := .pointer (some ⟨w4.heap.size, 1, none⟩)) rfl (by kernel_rfl)) ?_
      clear hfr
      intro a hfr
      refine wl_v hfr (by decide) (v_load_blk1 (hst.get (k := 0) rfl) rfl (Try.isAgg3 _) rfl) ?_
      clear hfr
      intro a hfr
      refine wl_v hfr (by decide) (v_move rfl) ?_
      clear hfr
      intro a hfr
      refine wl_v hfr (by decide) (v_add rfl rfl ⟨by omega, by omega⟩) ?_
      clear hfr
      intro a hfr
      refine wl_v hfr (by decide) (v_fieldAddr (v := .pointer (some ⟨w4.heap.size, 2, none⟩)) rfl (by kernel_rfl)) ?_
      clear hfr
      intro a hfr
      refine wl_v hfr (by decide) (v_load_blk1 (hst.get (k := 0) rfl) rfl (Try.isAgg3 _) rfl) ?_
      clear hfr
      intro a hfr
      refine wl_v hfr (by decide) (v_move rfl) ?_
      clear hfr
      intro a hfr
      refine wl_v hfr (by decide) (v_add rfl rfl ⟨by omega, by omega⟩) ?_
      clear hfr
      intro a hfr
      refine wl_callb 1 hfr hst (by decide) rfl Try.call65 rfl rfl (narrow_ok _ _ _ _ _ _ (hst.get (k := 1) rfl)) rfl ?_
      clear hfr hst
      intro a w8 hfr hst
      refine wl_nil ?_
      refine hK8 _ _ ?_
      replace hfr : Fr 67 [(1, _), (2, _), (4, _), (5, _), (6, _), (16, _), (17, _), (18, _)] [] a := hfr.pick [1, 2, 4, 5, 6, 16, 17, 18]
      replace hst : St No w0 [_, _, _] w8 := hst.mask [false, true, true, true]
      refine wc_region ?_
      refine wl_v hfr (by decide) (v_add rfl rfl ⟨by omega, by omega⟩) ?_
      clear hfr
      intro a hfr
      refine wl_v hfr (by decide) (v_move rfl) ?_
      clear hfr
      intro a hfr
      refine wl_nil ?_
      refine ⟨_, ?_, k + 1, max lo (rd.lo + (-y0)), min hi (rd.hi + (-x0)), rfl, (by omega), (by rw [hwin, hdr, windowF, narrowed_lt (by omega) hn hx0 hy0]), hfr.pick [1, 2, 4, 5, 6, 16, 17, 18], hst.select [0, 1, 2] (by decide)⟩
      omega
    rw [hc2] at hfr
    try simp only [Bool.not_eq_true', Bool.not_eq_false', decide_eq_true_eq, decide_eq_false_iff_not] at hc2
    refine wc_seq_region fun K13 hK13 => ?_
    refine wl_v hfr (by decide) (v_move rfl) ?_
    clear hfr
    intro a hfr
    refine wl_v hfr (by decide) (v_fieldAddr (v := .pointer (some ⟨w4.heap.size, 0, none⟩)) rfl (by kernel_rfl)) ?_
    clear hfr
    intro a hfr
    refine wl_v hfr (by decide) (v_load_blk1 (hst.get (k := 0) rfl) rfl (Try.isAgg3 _) rfl) ?_
    clear hfr
    intro a hfr
    refine wl_v hfr (by decide) (v_eq rfl rfl) ?_
    clear hfr
    intro a hfr
    refine wl_v hfr (by decide) (v_assign rfl) ?_
    clear hfr
    intro a hfr
    refine wl_nil (hK13 _ _ ?_)
    replace hfr : Fr 67 [(1, _), (2, _), (4, _), (5, _), (6, _), (16, _), (17, _), (18, _), (8, _), (9, _), (10, _), (46, _)] [] a := hfr.pick [1, 2, 4, 5, 6, 16, 17, 18, 8, 9, 10, 46]
    refine wc_cond hfr rfl (fun hc3 => ?_) (fun hc3 => ?_)
    · rw [hc3] at hfr
      try simp only [Bool.not_eq_true', Bool.not_eq_false', decide_eq_true_eq, decide_eq_false_iff_not] at hc3
      refine wc_region ?_
      refine wl_v hfr (by decide) (v_move rfl) ?_
      clear hfr
      intro a hfr
      refine wl_v hfr (by decide) (v_neg rfl (by omega) (by omega)) ?_
      clear hfr
      intro a hfr
      refine wl_v hfr (by decide) (v_assign rfl) ?_
      clear hfr
      intro a hfr
      refine wl_nil ?_
      refine hK11 _ _ ?_
      refine wc_region ?_
      refine wl_v hfr (by decide) (v_move rfl) ?_
      clear hfr
      intro a hfr
      refine wl_v hfr (by decide) (v_fieldAddr (v := .pointer (some ⟨w4.heap.size, 1, none⟩)) rfl (by kernel_rfl)) ?_
      clear hfr
      intro a hfr
      refine wl_v hfr (by decide) (v_load_blk1 (hst.get (k := 0) rfl) rfl (Try.isAgg3 _) rfl) ?_
      clear hfr
      intro a hfr
      refine wl_v hfr (by decide) (v_move rfl) ?_
      clear hfr
      intro a hfr
      refine wl_v hfr (by decide) (v_add rfl rfl ⟨by omega, by omega⟩) ?_
      clear hfr
      intro a hfr
      refine wl_v hfr (by decide) (v_fieldAddr (v := .pointer (some ⟨w4.heap.size, 2, none⟩)) rfl (by kernel_rfl)) ?_
      clear hfr
      intro a hfr
      refine wl_v hfr (by decide) (v_load_blk1 (hst.get (k := 0) rfl) rfl (Try.isAgg3 _) rfl) ?_
      clear hfr
      intro a hfr
      refine wl_v hfr (by decide) (v_move rfl) ?_
      clear hfr
      intro a hfr
      refine wl_v hfr (by decide) (v_add rfl rfl ⟨by omega, by omega⟩) ?_
      clear hfr
      intro a hfr
      refine wl_callb 1 hfr hst (by decide) rfl Try.call65 rfl rfl (narrow_ok _ _ _ _ _ _ (hst.get (k := 1) rfl)) rfl ?_
      clear hfr hst
      intro a w9 hfr hst
      refine wl_nil ?_
      refine hK8 _ _ ?_
      replace hfr : Fr 67 [(1, _), (2, _), (4, _), (5, _), (6, _), (16, _), (17, _), (18, _)] [] a := hfr.pick [1, 2, 4, 5, 6, 16, 17, 18]
      replace hst : St No w0 [_, _, _] w9 := hst.mask [false, true, true, true]
      refine wc_region ?_
      refine wl_v hfr (by decide) (v_add rfl rfl ⟨by omega, by omega⟩) ?_
      clear hfr
      intro a hfr
      refine wl_v hfr (by decide) (v_move rfl) ?_
      clear hfr
      intro a hfr
      refine wl_nil ?_
      refine ⟨_, ?_, k + 1, max lo (rd.lo + (-y0)), min hi (rd.hi + y0), rfl, (by omega), (by rw [hwin, hdr, windowF, narrowed_eq (by omega) hn hx0 hy0]), hfr.pick [1, 2, 4, 5, 6, 16, 17, 18], hst.select [0, 1, 2] (by decide)⟩
      omega
    rw [hc3] at hfr
    try simp only [Bool.not_eq_true', Bool.not_eq_false', decide_eq_true_eq, decide_eq_false_iff_not] at hc3
    refine wc_skip ?_
    refine hK11 _ _ ?_
    refine wc_region ?_
    refine wl_v hfr (by decide) (v_move rfl) ?_
    clear hfr
    intro a hfr
    refine wl_v hfr (by decide) (v_fieldAddr (v := .pointer (some ⟨w4.heap.size, 1, none⟩)) rfl (by kernel_rfl)) ?_
    clear hfr
    intro a hfr
    refine wl_v hfr (by decide) (v_load_blk1 (hst.get (k := 0) rfl) rfl (Try.isAgg3 _) rfl) ?_
    clear hfr
    intro a hfr
    refine wl_v hfr (by decide) (v_move rfl) ?_
    clear hfr
    intro a hfr
    refine wl_v hfr (by decide) (v_add rfl rfl ⟨by omega, by omega⟩) ?_
    clear hfr
    intro a hfr
    refine wl_v hfr (by decide) (v_fieldAddr (v := .pointer (some ⟨w4.heap.size, 2, none⟩)) rfl (by kernel_rfl)) ?_
    clear hfr
    intro a hfr
    refine wl_v hfr (by decide) (v_load_blk1 (hst.get (k := 0) rfl) rfl (Try.isAgg3 _) rfl) ?_
    clear hfr
    intro a hfr
    refine wl_v hfr (by decide) (v_move rfl) ?_
    clear hfr
    intro a hfr
    refine wl_v hfr (by decide) (v_add rfl rfl ⟨by omega, by omega⟩) ?_
    clear hfr
    intro a hfr
    refine wl_callb 1 hfr hst (by decide) rfl Try.call65 rfl rfl (narrow_ok _ _ _ _ _ _ (hst.get (k := 1) rfl)) rfl ?_
    clear hfr hst
    intro a w10 hfr hst
    refine wl_nil ?_
    refine hK8 _ _ ?_
    replace hfr : Fr 67 [(1, _), (2, _), (4, _), (5, _), (6, _), (16, _), (17, _), (18, _)] [] a := hfr.pick [1, 2, 4, 5, 6, 16, 17, 18]
    replace hst : St No w0 [_, _, _] w10 := hst.mask [false, true, true, true]
    refine wc_region ?_
    refine wl_v hfr (by decide) (v_add rfl rfl ⟨by omega, by omega⟩) ?_
    clear hfr
    intro a hfr
    refine wl_v hfr (by decide) (v_move rfl) ?_
    clear hfr
    intro a hfr
    refine wl_nil ?_
    refine ⟨_, ?_, k + 1, max lo (rd.lo + x0), min hi (rd.hi + y0), rfl, (by omega), (by rw [hwin, hdr, windowF, narrowed_gt (by omega) (by omega) hn hx0 hy0]), hfr.pick [1, 2, 4, 5, 6, 16, 17, 18], hst.select [0, 1, 2] (by decide)⟩
    omega
  rw [hc1] at hfr
  try simp only [Bool.not_eq_true', Bool.not_eq_false', decide_eq_true_eq, decide_eq_false_iff_not] at hc1
  refine wc_exit ?_
  refine hK4 _ _ ?_
  refine wc_seq_region fun K14 hK14 => ?_
  refine wl_v hfr (by decide) (v_move rfl) ?_
  clear hfr
  intro a hfr
  refine wl_v hfr (by decide) (v_nilCheck rfl) ?_
  clear hfr
  intro a hfr
  refine wl_v hfr (by decide) (v_load_all (hst.get (k := 0) rfl) rfl (Try.isAgg101 _) (Try.sizeOf101 _)) ?_
  clear hfr
  intro a hfr
  refine wl_store 1 hfr hst rfl rfl rfl (Try.sizeOf101 _) rfl (Nat.le_of_ble_eq_true rfl) (ds := [.int .i64 lo, .int .i64 hi]) rfl rfl ?_
  clear hfr hst
  intro a w11 hfr hst
  refine wl_nil (hK14 _ _ ?_)
  replace hfr : Fr 67 [(4, _)] [] a := hfr.pick [4]
  replace hst : St No w0 [_] w11 := hst.mask [false, true, false]
  refine wc_ret ?_
  refine fin_ret hfr Try.results45 (resAre_cell rfl (res_all (hst.get (k := 0) rfl) (Try.isAgg101 _) (Try.sizeOf101 _)) resAre_nil) ?_
  exact ⟨by simp only [retv]; rw [hwin, List.drop_eq_nil_of_le (by omega), windowF], hst.ext⟩

/-- dialtone/clock.At -/
theorem at_ok (loc lo hi : Int) (d : Int) (v : Value) (rs : List Rdg) (w0 : World) (hv : SlAt w0 v 3 (rs.map Rdg.cells)) (hd : 0 ≤ d) (hd1 : d ≤ 100) (hl : rs.length ≤ 12) (hok0 : okRdg (-1) rs) (h0 : 0 ≤ loc) (h1 : loc ≤ 10000000) (hw : windowF d loc (0, 10000000) rs = (lo, hi)) (hlh : lo ≤ hi) :
    Ret Try.prog 23 #[.agg #[.int .i64 d, v], .int .i64 loc] w0 fun v w => v = .tuple #[.int .i64 lo, .int .i64 hi, .int .i64 0] ∧ Ext No w0 w := by
  refine ret_of Try.func23 rfl Try.ntmps23 (Nat.le_of_ble_eq_true rfl) fun a hfr => ?_
  replace hfr : Fr 31 [(0, _), (1, _)] [] a := hfr
  replace hst : St No w0 [] w0 := St.init w0
  refine wc_seq_region fun K1 hK1 => ?_
  refine wl_box hfr hst (by decide) rfl (cs := [.int .i64 d, v]) rfl ?_
  clear hfr hst
  intro a w1 hfr hst
  refine wl_v hfr (by decide) (v_assign rfl) ?_
  clear hfr
  intro a hfr
  refine wl_v hfr (by decide) (v_assign rfl) ?_
  clear hfr
  intro a hfr
  refine wl_v hfr (by decide) (v_assign rfl) ?_
  clear hfr
  intro a hfr
  refine wl_nil (hK1 _ _ ?_)
  refine wc_seq_k fun K2 hK2 => ?_
  refine wc_seq_region fun K3 hK3 => ?_
  refine wl_v hfr (by decide) (v_load_all (hst.get (k := 0) rfl) rfl (Try.isAgg59 _) (Try.sizeOf59 _)) ?_
  clear hfr
  intro a hfr
  refine wl_callp hfr hst (by decide) Try.call44 rfl (cvalid_ok d v rs _ (hst.arg hv) hd hd1 hl hok0) ?_
  clear hfr hst
  intro a w2 hfr hst
  refine wl_v hfr (by decide) ((v_not rfl).asb (b' := false) rfl) ?_
  clear hfr
  intro a hfr
  refine wl_v hfr (by decide) (v_move rfl) ?_
  clear hfr
  intro a hfr
  refine wl_vy hfr (by decide) rfl (by decide) rfl (v_move rfl) ?_
  clear hfr
  intro a hfr
  refine wl_vy hfr (by decide) rfl (by decide) rfl ((v_lt rfl rfl).asb (b' := false) (by simp; omega)) ?_
  clear hfr
  intro a hfr
  refine wl_v hfr (by decide) (v_pick_f rfl rfl) ?_
  clear hfr
  intro a hfr
  refine wl_v hfr (by decide) (v_move rfl) ?_
  clear hfr
  intro a hfr
  refine wl_vy hfr (by decide) rfl (by decide) rfl (v_move rfl) ?_
  clear hfr
  intro a hfr
  refine wl_vy hfr (by decide) rfl (by decide) rfl ((v_gt rfl rfl).asb (b' := false) (by simp; omega)) ?_
  clear hfr
  intro a hfr
  refine wl_v hfr (by decide) (v_pick_f rfl rfl) ?_
  clear hfr
  intro a hfr
  refine wl_nil (hK3 _ _ ?_)
  replace hfr : Fr 31 [(1, _), (2, _), (4, _), (5, _), (6, _), (18, _)] [] a := hfr.pick [1, 2, 4, 5, 6, 18]
  refine wc_cond_f hfr rfl ?_
  refine wc_skip ?_
  refine hK2 _ _ ?_
  refine wc_seq_region fun K4 hK4 => ?_
  refine wl_v hfr (by decide) (v_load_all (hst.get (k := 0) rfl) rfl (Try.isAgg59 _) (Try.sizeOf59 _)) ?_
  clear hfr
  intro a hfr
  refine wl_v hfr (by decide) (v_move rfl) ?_
  clear hfr
  intro a hfr
  refine wl_callp hfr hst (by decide) Try.call45 rfl ((hw ▸ around_ok loc d v rs _ (hst.arg hv) hd hd1 hl hok0 h0 h1)) ?_
  clear hfr hst
  intro a w3 hfr hst
  refine wl_alloc hfr hst (by decide) (Try.zeroValue101 _) (cs := [.int .i64 0, .int .i64 0]) rfl ?_
  clear hfr hst
  intro a w4 hfr hst
  refine wl_store 0 hfr hst rfl rfl rfl (Try.sizeOf101 _) rfl (Nat.le_of_ble_eq_true rfl) (ds := [.int .i64 lo, .int .i64 hi]) rfl rfl ?_
  clear hfr hst
  intro a w5 hfr hst
  refine wl_nil (hK4 _ _ ?_)
  replace hfr : Fr 31 [(4, _), (5, _), (6, _), (7, _)] [] a := hfr.pick [4, 5, 6, 7]
  replace hst : St No w0 [_] w5 := hst.mask [true, false]
  refine wc_seq_k fun K5 hK5 => ?_
  refine wc_seq_region fun K6 hK6 => ?_
  refine wl_v hfr (by decide) (v_fieldAddr (v := .pointer (some ⟨w3.heap.size, 0, none⟩)) rfl (by kernel_rfl)) ?_
  clear hfr
  intro a hfr
  refine wl_v hfr (by decide) (v_load_blk1 (hst.get (k := 0) rfl) rfl (Try.isAgg3 _) rfl) ?_
  clear hfr
  intro a hfr
  refine wl_v hfr (by decide) (v_fieldAddr (v := .pointer (some ⟨w3.heap.size, 1, none⟩)) rfl (by kernel_rfl)) ?_
  clear hfr
  intro a hfr
  refine wl_v hfr (by decide) (v_load_blk1 (hst.get (k := 0) rfl) rfl (Try.isAgg3 _) rfl) ?_
  clear hfr
  intro a hfr
  refine wl_v hfr (by decide) ((v_gt rfl rfl).asb (b' := false) (by simp; omega)) ?_
  clear hfr
  intro a hfr
  refine wl_nil (hK6 _ _ ?_)
  refine wc_cond_f hfr rfl ?_
  refine wc_skip ?_
  refine hK5 _ _ ?_
  refine wc_seq_k fun K7 hK7 => ?_
  refine wc_of_dr (by kernel_rfl) (dr_of_wd (by kernel_rfl) fun w6 hxz => ?_)
  replace hst : St No w0 [blk w3.heap.size [.int .i64 lo, .int .i64 hi] 101] w6 := hst.grow hxz
  refine wd_sub (k := 0) 5 [3, 4] hfr (by kernel_rfl) (by kernel_rfl) (by kernel_rfl) (by rfl) ?_
  replace hfr : Fr 31 [(5, _), (6, _), (7, _), (22, _), (23, _), (24, _), (25, _), (26, _)] [] a := hfr.pick [5, 6, 7, 22, 23, 24, 25, 26]
  refine wc_phases' 5 [[], [0], [], [2], [1]] (fun i => match i with | 0 => pv (.pointer (some ⟨w3.heap.size, 0, none⟩)) | 1 => pv (.int .i64 lo) | 2 => pv (.pointer (some ⟨w3.heap.size, 1, none⟩)) | 3 => pv (.int .i64 hi) | 4 => pv (.int .i64 lo) | _ => fun _ _ => False) hfr hst (by kernel_rfl) (by kernel_rfl) ?_ ?_
  · intro i hi
    match i, hi with
    | 0, _ =>
      intro w hst
      exact OpV.g (v_fieldAddr (v := .pointer (some ⟨w3.heap.size, 0, none⟩)) rfl (by kernel_rfl))
    | 1, _ =>
      rintro _ _ ⟨rfl, rfl⟩
      intro w hst
      exact OpV.g (v_load_blk1 (hst.get (k := 0) rfl) rfl (Try.isAgg3 _) rfl)
    | 2, _ =>
      intro w hst
      exact OpV.g (v_fieldAddr (v := .pointer (some ⟨w3.heap.size, 1, none⟩)) rfl (by kernel_rfl))
    | 3, _ =>
      rintro _ _ ⟨rfl, rfl⟩
      intro w hst
      exact OpV.g (v_load_blk1 (hst.get (k := 0) rfl) rfl (Try.isAgg3 _) rfl)
    | 4, _ =>
      rintro _ _ ⟨rfl, rfl⟩
      intro w hst
      exact OpV.g (v_assign rfl)
  clear hfr hst
  rintro _ _ ⟨rfl, rfl⟩ _ _ ⟨rfl, rfl⟩ _ _ ⟨rfl, rfl⟩ _ _ ⟨rfl, rfl⟩ _ _ ⟨rfl, rfl⟩ a w7 hfr hst
  replace hfr : Fr 31 [(27, _), (28, _), (29, _), (30, _), (4, _), (5, _), (6, _), (7, _), (22, _), (23, _), (24, _), (25, _), (26, _)] [] a := hfr
  replace hst : St No w0 [_] w7 := hst
  refine wl_nil ?_
  refine wd_lin (k := 5) 7 [6] (by kernel_rfl) (by kernel_rfl) (by kernel_rfl) ?_
  refine wl_v hfr (by decide) (v_assign rfl) ?_
  clear hfr
  intro a hfr
  refine wl_v hfr (by decide) (v_assign rfl) ?_
  clear hfr
  intro a hfr
  refine wl_nil ?_
  refine wd_end (by kernel_rfl) ?_
  refine hK7 _ _ ?_
  replace hfr : Fr 31 [(4, _), (5, _), (6, _)] [] a := hfr.pick [4, 5, 6]
  replace hst : St No w0 [] w7 := hst.mask [false]
  refine wc_ret ?_
  refine fin_ret hfr Try.results23 (resAre_tmp rfl (resAre_tmp rfl (resAre_tmp rfl resAre_nil))) ?_
  exact ⟨by simp [retv], hst.ext⟩
end Go.Proofs.Ytdamipejlfipcaa
