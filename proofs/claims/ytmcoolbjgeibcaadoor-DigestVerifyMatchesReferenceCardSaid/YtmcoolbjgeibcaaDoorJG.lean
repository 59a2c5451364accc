/- Texts joined: DigP2, DigV, DigW, DigX, DigY, LawA. -/
import Derived.Test.YtmcoolbjgeibcaaDoorJF
import Derived.Test.YtmcoolbjgeibcaaDoorJA
import Derived.Test.YtmcoolbjgeibcaaDoorJB
namespace Go.Proofs.YtmcoolbjgeibcaaDoor
open Go.RowKit Go.PW
set_option linter.unusedVariables false
set_option linter.unusedSimpArgs false
set_option maxRecDepth 4000

def encD (xs : List (By × Bool)) (k : Nat) : List Value := [.int .i64 (k : Int), .agg #[sv (xs.getD k ([], false)).1, .bool (xs.getD k ([], false)).2]]

/-- slices.Backward[[]dialtone/digest.side,dialtone/digest.side]$1 -/
theorem backd_run {M : Nat → Prop} {w0 : World} (v : Value) (xs : List (By × Bool)) (lp b1 : Nat) (J Jx : List Nat → Ent → Prop) (hY : Rounds Tryd.prog lp (encD xs) (NxB xs.length) J Jx) (e0 : Ent) (ws : World) (hn : xs.length ≤ 1000000) (hJ : J [] e0) (hst : St M w0 [e0, blk b1 [v] 54, own v 58 2 (xs.map fun x : By × Bool => [sv x.1, .bool x.2])] ws) :
    Ret Tryd.prog 63 #[.func (.yield lp) #[] #[], .pointer (some ⟨b1, 0, none⟩)] ws fun _ w => ∃ e1 Hi1, St M w0 (e1 :: Hi1) w ∧ ((∃ ys, (ys = backs xs.length xs.length ∧ Hi1 = [blk b1 [v] 54, own v 58 2 (xs.map fun x : By × Bool => [sv x.1, .bool x.2])]) ∧ J ys e1) ∨ (∃ pre, Hi1 = [blk b1 [v] 54, own v 58 2 (xs.map fun x : By × Bool => [sv x.1, .bool x.2])] ∧ Jx pre e1)) := by
  refine ret_of Tryd.func63 rfl Tryd.ntmps63 (Nat.le_of_ble_eq_true rfl) fun a hfr => ?_
  replace hfr : Fr 19 [(0, _), (1, _)] [] a := hfr
  skip
  refine wc_seq_region fun K1 hK1 => ?_
  refine wl_v hfr (by decide) (v_load_blk1 (hst.get (k := 1) rfl) rfl (Tryd.isAgg54 _) rfl) ?_
  clear hfr
  intro a hfr
  refine wl_v hfr (by decide) ((v_len_sl (sT := 54) (hst.ownAt (i := 2) rfl) rfl rfl (Tryd.runUnderlying54 _)).asi (m' := (xs.length : Int)) (by simp)) ?_
  clear hfr
  intro a hfr
  refine wl_v hfr (by decide) (v_sub rfl rfl ⟨by omega, by omega⟩) ?_
  clear hfr
  intro a hfr
  refine wl_v hfr (by decide) (v_assign rfl) ?_
  clear hfr
  intro a hfr
  refine wl_nil (hK1 _ _ ?_)
  refine wc_block ?_
  rw [show (xs.length : Int) - 1 = (xs.length : Int) - 1 - ((0 : Nat) : Int) from by omega] at hfr
  refine wc_loop (fun m a w => ∃ (j : Nat) (e : Ent), m = xs.length - j ∧ (j ≤ xs.length) ∧ (J (backs xs.length j) e) ∧ Fr 19 [(0, .func (.yield lp) #[] #[]), (1, .pointer (some ⟨b1, 0, none⟩)), (3, .int .i64 ((xs.length : Int) - 1 - (j : Int)))] [] a ∧ St M w0 [e, blk b1 [v] 54, own v 58 2 (xs.map fun x : By × Bool => [sv x.1, .bool x.2])] w) _ ⟨0, e0, rfl, Nat.zero_le _, hJ, hfr.pick [0, 1, 3], hst⟩ ?_
  rintro _ a w1 ⟨j, e, rfl, hj, hJ, hfr, hst⟩
  refine wc_seq_k fun K2 hK2 => ?_
  refine wc_seq_region fun K3 hK3 => ?_
  refine wl_v hfr (by decide) (v_move rfl) ?_
  clear hfr
  intro a hfr
  refine wl_v hfr (by decide) (v_ge rfl rfl) ?_
  clear hfr
  intro a hfr
  refine wl_nil (hK3 _ _ ?_)
  refine wc_cond hfr rfl (fun hc1 => ?_) (fun hc1 => ?_)
  · rw [hc1] at hfr
    try simp only [Bool.not_eq_true', Bool.not_eq_false', decide_eq_true_eq, decide_eq_false_iff_not] at hc1
    have hjl : j < xs.length := by omega
    refine wc_skip ?_
    refine hK2 _ _ ?_
    refine wc_seq_k fun K4 hK4 => ?_
    refine wc_block ?_
    have hidx : (xs.length : Int) - 1 - (j : Int) = ((xs.length - 1 - j : Nat) : Int) := by omega
    refine wc_seq_region fun K5 hK5 => ?_
    refine wl_v hfr (by decide) (v_move rfl) ?_
    clear hfr
    intro a hfr
    refine wl_v hfr (by decide) (v_move rfl) ?_
    clear hfr
    intro a hfr
    refine wl_v hfr (by decide) (v_load_blk1 (hst.get (k := 1) rfl) rfl (Tryd.isAgg54 _) rfl) ?_
    clear hfr
    intro a hfr
    refine wl_v hfr (by decide) (v_move rfl) ?_
    clear hfr
    intro a hfr
    refine wl_v hfr (by decide) ((v_indexAddr_sl (i := (xs.length : Int) - 1 - (j : Int)) (sT := 54) (hst.ownAt (i := 2) rfl) rfl rfl (Tryd.runUnderlying54 _) (Tryd.sizeOf58 _) (by omega) (by simp; omega)).as (v' := slAddr v ((xs.length - 1 - j) * 2)) (by rw [show ((xs.length : Int) - 1 - (j : Int)).toNat = (xs.length - 1 - j) from by omega])) ?_
    clear hfr
    intro a hfr
    refine wl_v hfr (by decide) ((v_load_sl (hst.ownAt (i := 2) rfl) (i := (xs.length - 1 - j)) (by simp; omega) rfl (Tryd.isAgg58 _) (Tryd.sizeOf58 _)).as (v' := .agg #[sv ((xs.getD (xs.length - 1 - j) ([], false)).1), .bool ((xs.getD (xs.length - 1 - j) ([], false)).2)]) (by rw [el_at ([], false)])) ?_
    clear hfr
    intro a hfr
    rw [hidx] at hfr
    refine wl_r (r_yield rfl rfl (hY.yield (pre := backs xs.length j) (x := xs.length - 1 - j) (by show xs.length - 1 - j + 1 + (backs xs.length j).length = xs.length; rw [backs_len]; omega) hJ (hst.get (k := 0) rfl) (fun b hb => hst.lt (k := 0) rfl hb))) rfl rfl hfr ?_
    clear hfr
    intro a v w2 hR hfr
    obtain ⟨y2, e3, rfl, hx, hok, hft, hJt, hJf⟩ := hR
    replace hst := hst.exchange (k := 0) rfl hx hok hft
    replace hst : St M w0 [e3, blk b1 [v] 54, own v 58 2 (xs.map fun x : By × Bool => [sv x.1, .bool x.2])] w2 := hst
    clear hx hok hft
    refine wl_v hfr (by decide) (v_not rfl) ?_
    clear hfr
    intro a hfr
    refine wl_nil (hK5 _ _ ?_)
    replace hfr : Fr 19 [(0, _), (1, _), (3, _), (18, _)] [] a := hfr.pick [0, 1, 3, 18]
    refine wc_cond hfr rfl (fun hc4 => ?_) (fun hc4 => ?_)
    · rw [hc4] at hfr
      try simp only [Bool.not_eq_true', Bool.not_eq_false', decide_eq_true_eq, decide_eq_false_iff_not] at hc4
      have hJ := hJf hc4
      refine wc_ret ?_
      refine fin_ret hfr Tryd.results63 resAre_nil ?_
      exact ⟨_, _, hst, .inr ⟨_, rfl, hJ⟩⟩
    rw [hc4] at hfr
    try simp only [Bool.not_eq_true', Bool.not_eq_false', decide_eq_true_eq, decide_eq_false_iff_not] at hc4
    have hJ := hJt hc4
    refine wc_skip ?_
    refine hK4 _ _ ?_
    refine wc_region ?_
    refine wl_v hfr (by decide) (v_move rfl) ?_
    clear hfr
    intro a hfr
    refine wl_v hfr (by decide) (v_sub rfl rfl ⟨by omega, by omega⟩) ?_
    clear hfr
    intro a hfr
    refine wl_v hfr (by decide) (v_assign rfl) ?_
    clear hfr
    intro a hfr
    refine wl_nil ?_
    rw [show ((xs.length - 1 - j : Nat) : Int) - 1 = (xs.length : Int) - 1 - ((j + 1 : Nat) : Int) from by omega] at hfr
    refine ⟨_, ?_, j + 1, e3, rfl, (by omega), hJ, hfr.pick [0, 1, 3], hst⟩
    omega
  rw [hc1] at hfr
  try simp only [Bool.not_eq_true', Bool.not_eq_false', decide_eq_true_eq, decide_eq_false_iff_not] at hc1
  obtain rfl : j = xs.length := by omega
  refine wc_exit ?_
  refine fin_end hfr Tryd.results63 resAre_nil ?_
  exact ⟨_, _, hst, .inl ⟨_, ⟨rfl, rfl⟩, hJ⟩⟩

theorem backd_iter {M : Nat → Prop} {w0 : World} (v : Value) (xs : List (By × Bool)) (b1 : Nat) (hn : xs.length ≤ 1000000) :
    Iter Tryd.prog 63 [.pointer (some ⟨b1, 0, none⟩)] (encD xs) (NxB xs.length) (fun ys Hi => ys = backs xs.length xs.length ∧ Hi = [blk b1 [v] 54, own v 58 2 (xs.map fun x : By × Bool => [sv x.1, .bool x.2])]) (fun pre Hi => Hi = [blk b1 [v] 54, own v 58 2 (xs.map fun x : By × Bool => [sv x.1, .bool x.2])]) M w0 [blk b1 [v] 54, own v 58 2 (xs.map fun x : By × Bool => [sv x.1, .bool x.2])] :=
  fun lp J Jx w e hY hJ hst => backd_run v xs lp b1 J Jx hY e w hn hJ hst

/-- slices.Backward[[]dialtone/digest.side,dialtone/digest.side] -/
theorem backd_ok (v : Value) (els : List (List Value)) (w0 : World) (hv : SlAt w0 v 2 els) :
    Ret Tryd.prog 47 #[v] w0 (MemR w0 (fun z : Nat => .func (.func 63) #[] #[.pointer (some ⟨z, 0, none⟩)]) (fun z => [blk z [v] 54]) (fun _ => True)) := by
  refine ret_of Tryd.func47 rfl Tryd.ntmps47 (Nat.le_of_ble_eq_true rfl) fun a hfr => ?_
  replace hfr : Fr 4 [(0, _)] [] a := hfr
  replace hst : St No w0 [] w0 := St.init w0
  refine wc_seq_region fun K1 hK1 => ?_
  refine wl_box hfr hst (by decide) rfl (cs := [v]) (by rw [(hst.arg hv).cells]) ?_
  clear hfr hst
  intro a w1 hfr hst
  refine wl_v hfr (by decide) (v_assign rfl) ?_
  clear hfr
  intro a hfr
  refine wl_nil (hK1 _ _ ?_)
  refine wc_seq_region fun K2 hK2 => ?_
  refine wl_v hfr (by decide) (v_makeFunc rfl rfl) ?_
  clear hfr
  intro a hfr
  refine wl_v hfr (by decide) (v_assign rfl) ?_
  clear hfr
  intro a hfr
  refine wl_nil (hK2 _ _ ?_)
  refine wc_ret ?_
  refine fin_ret hfr Tryd.results47 (resAre_tmp rfl resAre_nil) ?_
  exact ⟨w0.heap.size, rfl, trivial, hst.ext, St.out (H := []) hst⟩
end Go.Proofs.YtmcoolbjgeibcaaDoor
namespace Go.Proofs.YtmcoolbjgeibcaaDoor
open Go.RowKit Go.PW
set_option linter.unusedVariables false
set_option linter.unusedSimpArgs false
set_option maxRecDepth 4000

def joinH (x : By × Bool) (o : By) : By := sha (1 :: (if x.2 then x.1 ++ o else o ++ x.1))
theorem fold_way {α : Type} (f : By × Bool → α → α) (l : List (By × Bool)) (r : α) : (backs l.length l.length).foldl (fun o k => f (l.getD k ([], false)) o) r = l.foldr f r := by
  rw [backs_fold (fun o x => f x o) ([], false) _ _ _ (Nat.le_refl _), Nat.sub_self, List.drop_zero, List.foldl_reverse]
theorem take_last {p : List By} (h : 0 < p.length) : p = p.take (p.length - 1) ++ [p.getD (p.length - 1) []] := by
  conv => lhs; rw [← List.take_length (l := p), show p.length = p.length - 1 + 1 from by omega, take_snoc [] (by omega)]
theorem value_left {n i : Nat} {s : By} {p : List By} (h : 2 ≤ n) (hp : 0 < p.length) (hi : i < lft n) : valueH sha n i s p = (joinH (p.getD (p.length - 1) [], false) (valueH sha (lft n) i s (p.take (p.length - 1))).1, (valueH sha (lft n) i s (p.take (p.length - 1))).2) := by
  conv => lhs; rw [take_last hp, valueH_snoc sha h, if_pos hi]
  rfl
theorem value_right {n i : Nat} {s : By} {p : List By} (h : 2 ≤ n) (hp : 0 < p.length) (hi : lft n ≤ i) : valueH sha n i s p = (joinH (p.getD (p.length - 1) [], true) (valueH sha (n - lft n) (i - lft n) s (p.take (p.length - 1))).1, (valueH sha (n - lft n) (i - lft n) s (p.take (p.length - 1))).2) := by
  conv => lhs; rw [take_last hp, valueH_snoc sha h, if_neg (by omega)]
  rfl
theorem verify_bad {root : By} {n i : Int} {s : By} {p : List By} (h : ¬ (0 ≤ i ∧ i < n ∧ (p.all fun x => decide (x.length = 32)) = true)) : verifyH sha root n i s p = false := by
  cases hv : verifyH sha root n i s p with
  | false => rfl
  | true =>
    unfold verifyH at hv
    simp only [Bool.and_eq_true, decide_eq_true_eq] at hv
    exact absurd ⟨hv.1.1.1.1, hv.1.1.1.2, hv.1.1.2⟩ h
theorem ver_fail {root : By} {n i cn ci : Nat} {s : By} {p cp : List By} {way : List (By × Bool)} (hval : valueH sha n i s p = (way.foldr joinH (valueH sha cn ci s cp).1, (valueH sha cn ci s cp).2)) (hc : cp.length = 0) (h2 : 2 ≤ cn) : verifyH sha root n i s p = false := by
  obtain rfl : cp = [] := List.eq_nil_of_length_eq_zero hc
  rw [valueH_nil sha h2] at hval
  unfold verifyH
  rw [Int.toNat_natCast, Int.toNat_natCast, hval]
  simp
theorem ver_end {root : By} {n i cn ci : Nat} {s : By} {p cp : List By} {way : List (By × Bool)} (hval : valueH sha n i s p = (way.foldr joinH (valueH sha cn ci s cp).1, (valueH sha cn ci s cp).2)) (h1 : i < n) (hall : (p.all fun x => decide (x.length = 32)) = true) (h2 : cn ≤ 1) : verifyH sha root n i s p = (decide (cp.length = 0) && decide (way.foldr joinH (leafH sha s) = root)) := by
  rw [valueH_one sha h2] at hval
  unfold verifyH
  rw [Int.toNat_natCast, Int.toNat_natCast, hval, hall]
  have : cp.isEmpty = decide (cp.length = 0) := by cases cp <;> simp
  simp [this, h1]
theorem all32 {p : List By} (h : (p.all fun x => decide (x.length = 32)) = true) : ∀ x ∈ p, x.length = 32 := by
  intro x hx; simpa using List.all_eq_true.1 h x hx

/-- dialtone/digest.take -/
theorem take_emp (lv : Value) (xs : List By) (w0 : World) (hlv : SlAt w0 lv 1 (xs.map fun s => [sv s])) (h0 : xs.length = 0) :
    Ret Tryd.prog 46 #[lv] w0 fun v w => v = .tuple #[sv [], .slice none 0 0, .bool false] ∧ Ext No w0 w := by
  refine ret_of Tryd.func46 rfl Tryd.ntmps46 (Nat.le_of_ble_eq_true rfl) fun a hfr => ?_
  replace hfr : Fr 19 [(0, _)] [] a := hfr
  replace hst : St No w0 [] w0 := St.init w0
  refine wc_seq_region fun K1 hK1 => ?_
  refine wl_v hfr (by decide) (v_assign rfl) ?_
  clear hfr
  intro a hfr
  refine wl_v hfr (by decide) (v_assign rfl) ?_
  clear hfr
  intro a hfr
  refine wl_v hfr (by decide) (v_assign rfl) ?_
  clear hfr
  intro a hfr
  refine wl_nil (hK1 _ _ ?_)
  refine wc_seq_k fun K2 hK2 => ?_
  refine wc_seq_region fun K3 hK3 => ?_
  refine wl_v hfr (by decide) (v_move rfl) ?_
  clear hfr
  intro a hfr
  refine wl_v hfr (by decide) ((v_len_sl (sT := 22) (hst.arg hlv) rfl rfl (Tryd.runUnderlying22 _)).asi (m' := (xs.length : Int)) (by simp)) ?_
  clear hfr
  intro a hfr
  refine wl_v hfr (by decide) (v_eq rfl rfl) ?_
  clear hfr
  intro a hfr
  refine wl_nil (hK3 _ _ ?_)
  refine wc_cond hfr rfl (fun hc1 => ?_) (fun hc1 => ?_)
  · rw [hc1] at hfr
    try simp only [Bool.not_eq_true', Bool.not_eq_false', decide_eq_true_eq, decide_eq_false_iff_not] at hc1
    refine wc_seq_region fun K4 hK4 => ?_
    refine wl_v hfr (by decide) (v_assign rfl) ?_
    clear hfr
    intro a hfr
    refine wl_v hfr (by decide) (v_assign rfl) ?_
    clear hfr
    intro a hfr
    refine wl_v hfr (by decide) (v_assign rfl) ?_
    clear hfr
    intro a hfr
    refine wl_nil (hK4 _ _ ?_)
    refine wc_ret ?_
    refine fin_ret hfr Tryd.results46 (resAre_tmp rfl (resAre_tmp rfl (resAre_tmp rfl resAre_nil))) ?_
    exact ⟨by rfl, hst.ext⟩
  rw [hc1] at hfr
  try simp only [Bool.not_eq_true', Bool.not_eq_false', decide_eq_true_eq, decide_eq_false_iff_not] at hc1
  omega

set_option maxHeartbeats 4000000 in
/-- dialtone/digest.Verify -/
theorem verify_ok (root s : By) (n i : Int) (lv : Value) (ls : List By) (w0 : World) (hlv : SlAt w0 lv 1 (ls.map fun s => [sv s])) (hln : ls.length ≤ 1000) (hs : s.length ≤ 40000000) (hn : n ≤ 9223372036854775807) (hk0 : (blk 0 (kOf.map wv) 88).ok w0) :
    Ret Tryd.prog 21 #[sv root, .int .i64 n, .int .i64 i, sv s, lv] w0 fun v w => v = .bool (verifyH sha root n i s ls) ∧ Ext No w0 w := by
  refine ret_of Tryd.func21 rfl Tryd.ntmps21 (Nat.le_of_ble_eq_true rfl) fun a hfr => ?_
  replace hfr : Fr 79 [(0, _), (1, _), (2, _), (3, _), (4, _)] [] a := hfr
  replace hst : St (· = 0) w0 [blk 0 (kOf.map wv) 88] w0 := St.one hk0
  refine wc_seq_region fun K1 hK1 => ?_
  refine wl_v hfr (by decide) (v_assign rfl) ?_
  clear hfr
  intro a hfr
  refine wl_nil (hK1 _ _ ?_)
  refine wc_seq_k fun K2 hK2 => ?_
  refine wc_seq_region fun K3 hK3 => ?_
  refine wl_v hfr (by decide) (v_move rfl) ?_
  clear hfr
  intro a hfr
  refine wl_v hfr (by decide) (v_lt rfl rfl) ?_
  clear hfr
  intro a hfr
  refine wl_v hfr (by decide) (v_move rfl) ?_
  clear hfr
  intro a hfr
  rcases Bool.eq_false_or_eq_true (decide (i < 0)) with hb1 | hb1
  · rw [hb1] at hfr
    try simp only [Bool.not_eq_true', Bool.not_eq_false', decide_eq_true_eq, decide_eq_false_iff_not] at hb1
    refine wl_vn hfr (by decide) rfl (by decide) rfl rfl ?_
    clear hfr
    intro a hfr
    refine wl_vn hfr (by decide) rfl (by decide) rfl rfl ?_
    clear hfr
    intro a hfr
    refine wl_vn hfr (by decide) rfl (by decide) rfl rfl ?_
    clear hfr
    intro a hfr
    refine wl_v hfr (by decide) (v_pick_t rfl rfl) ?_
    clear hfr
    intro a hfr
    refine wl_v hfr (by decide) (v_move rfl) ?_
    clear hfr
    intro a hfr
    refine wl_vn hfr (by decide) rfl (by decide) rfl rfl ?_
    clear hfr
    intro a hfr
    refine wl_vn hfr (by decide) rfl (by decide) rfl rfl ?_
    clear hfr
    intro a hfr
    refine wl_vn hfr (by decide) rfl (by decide) rfl rfl ?_
    clear hfr
    intro a hfr
    refine wl_v hfr (by decide) (v_pick_t rfl rfl) ?_
    clear hfr
    intro a hfr
    refine wl_nil (hK3 _ _ ?_)
    replace hfr : Fr 79 [(0, _), (1, _), (2, _), (3, _), (4, _), (10, _), (30, _)] [] a := hfr.pick [0, 1, 2, 3, 4, 10, 30]
    refine wc_cond_t hfr rfl ?_
    refine wc_seq_region fun K4 hK4 => ?_
    refine wl_v hfr (by decide) (v_assign rfl) ?_
    clear hfr
    intro a hfr
    refine wl_nil (hK4 _ _ ?_)
    refine wc_ret ?_
    refine fin_ret hfr Tryd.results21 (resAre_tmp rfl resAre_nil) ?_
    exact ⟨by simp only [retv]; rw [verify_bad (by rintro ⟨h1, h2, h3⟩; first | omega | simp_all)], hst.ext.const hk0 (hst.get (k := 0) rfl)⟩
  rw [hb1] at hfr
  try simp only [Bool.not_eq_true', Bool.not_eq_false', decide_eq_true_eq, decide_eq_false_iff_not] at hb1
  refine wl_vy hfr (by decide) rfl (by decide) rfl (v_move rfl) ?_
  clear hfr
  intro a hfr
  refine wl_vy hfr (by decide) rfl (by decide) rfl (v_move rfl) ?_
  clear hfr
  intro a hfr
  refine wl_vy hfr (by decide) rfl (by decide) rfl (v_ge rfl rfl) ?_
  clear hfr
  intro a hfr
  refine wl_v hfr (by decide) (v_pick_f rfl rfl) ?_
  clear hfr
  intro a hfr
  refine wl_v hfr (by decide) (v_move rfl) ?_
  clear hfr
  intro a hfr
  rcases Bool.eq_false_or_eq_true (decide (n ≤ i)) with hb2 | hb2
  · rw [hb2] at hfr
    try simp only [Bool.not_eq_true', Bool.not_eq_false', decide_eq_true_eq, decide_eq_false_iff_not] at hb2
    refine wl_vn hfr (by decide) rfl (by decide) rfl rfl ?_
    clear hfr
    intro a hfr
    refine wl_vn hfr (by decide) rfl (by decide) rfl rfl ?_
    clear hfr
    intro a hfr
    refine wl_vn hfr (by decide) rfl (by decide) rfl rfl ?_
    clear hfr
    intro a hfr
    refine wl_v hfr (by decide) (v_pick_t rfl rfl) ?_
    clear hfr
    intro a hfr
    refine wl_nil (hK3 _ _ ?_)
    replace hfr : Fr 79 [(0, _), (1, _), (2, _), (3, _), (4, _), (10, _), (30, _)] [] a := hfr.pick [0, 1, 2, 3, 4, 10, 30]
    refine wc_cond_t hfr rfl ?_
    refine wc_seq_region fun K5 hK5 => ?_
    refine wl_v hfr (by decide) (v_assign rfl) ?_
    clear hfr
    intro a hfr
    refine wl_nil (hK5 _ _ ?_)
    refine wc_ret ?_
    refine fin_ret hfr Tryd.results21 (resAre_tmp rfl resAre_nil) ?_
    exact ⟨by simp only [retv]; rw [verify_bad (by rintro ⟨h1, h2, h3⟩; first | omega | simp_all)], hst.ext.const hk0 (hst.get (k := 0) rfl)⟩
  rw [hb2] at hfr
  try simp only [Bool.not_eq_true', Bool.not_eq_false', decide_eq_true_eq, decide_eq_false_iff_not] at hb2
  refine wl_vy hfr (by decide) rfl (by decide) rfl (v_move rfl) ?_
  clear hfr
  intro a hfr
  refine wl_callpy hfr hst (by decide) rfl (by decide) rfl Tryd.call45 rfl (all_ok lv ls _ (hlv.grow (hst.ext.const hk0 (hst.get (k := 0) rfl)))) ?_
  clear hfr hst
  intro a w1 hfr hst
  refine wl_vy hfr (by decide) rfl (by decide) rfl (v_not rfl) ?_
  clear hfr
  intro a hfr
  refine wl_v hfr (by decide) (v_pick_f rfl rfl) ?_
  clear hfr
  intro a hfr
  refine wl_nil (hK3 _ _ ?_)
  replace hfr : Fr 79 [(0, _), (1, _), (2, _), (3, _), (4, _), (10, _), (30, _)] [] a := hfr.pick [0, 1, 2, 3, 4, 10, 30]
  refine wc_cond hfr rfl (fun hc3 => ?_) (fun hc3 => ?_)
  · rw [hc3] at hfr
    try simp only [Bool.not_eq_true', Bool.not_eq_false', decide_eq_true_eq, decide_eq_false_iff_not] at hc3
    have hall := hc3
    refine wc_seq_region fun K6 hK6 => ?_
    refine wl_v hfr (by decide) (v_assign rfl) ?_
    clear hfr
    intro a hfr
    refine wl_nil (hK6 _ _ ?_)
    refine wc_ret ?_
    refine fin_ret hfr Tryd.results21 (resAre_tmp rfl resAre_nil) ?_
    exact ⟨by simp only [retv]; rw [verify_bad (by rintro ⟨h1, h2, h3⟩; first | omega | simp_all)], hst.ext.const hk0 (hst.get (k := 0) rfl)⟩
  rw [hc3] at hfr
  try simp only [Bool.not_eq_true', Bool.not_eq_false', decide_eq_true_eq, decide_eq_false_iff_not] at hc3
  have hall := hc3
  refine wc_skip ?_
  refine hK2 _ _ ?_
  refine wc_seq_region fun K7 hK7 => ?_
  refine wl_v hfr (by decide) (v_assign rfl) ?_
  clear hfr
  intro a hfr
  refine wl_nil (hK7 _ _ ?_)
  refine wc_seq_k fun K8 hK8 => ?_
  refine wc_block ?_
  obtain ⟨nn, rfl⟩ := Int.eq_ofNat_of_zero_le (show 0 ≤ n by omega)
  obtain ⟨ii, rfl⟩ := Int.eq_ofNat_of_zero_le (show 0 ≤ i by omega)
  have hl32 := all32 hall
  replace hst : St (· = 0) w0 [own (.slice none 0 0) 58 2 (([] : List (By × Bool)).map fun x : By × Bool => [sv x.1, .bool x.2]), blk 0 (kOf.map wv) 88] w1 := hst.nil_own
  refine wc_loop (fun m a w => ∃ (cn : Nat) (ci : Nat) (pz : Value) (cp : List By) (way : List (By × Bool)) (u : Value), m = cp.length ∧ (SlAt w0 pz 1 (cp.map fun s => [sv s])) ∧ (ci < cn) ∧ (cn ≤ 9223372036854775807) ∧ (way.length + cp.length ≤ 1000) ∧ (∀ x ∈ cp, x.length = 32) ∧ (∀ x ∈ way, x.1.length = 32) ∧ (valueH sha nn ii s ls = (way.foldr joinH (valueH sha cn ci s cp).1, (valueH sha cn ci s cp).2)) ∧ Fr 79 [(0, sv root), (3, sv s), (1, .int .i64 (cn : Int)), (2, .int .i64 (ci : Int)), (4, pz), (11, u)] [] a ∧ St (· = 0) w0 [own u 58 2 (way.map fun x : By × Bool => [sv x.1, .bool x.2]), blk 0 (kOf.map wv) 88] w) _ ⟨nn, ii, lv, ls, [], .slice none 0 0, rfl, hlv, (by omega), (by omega), (by simp; omega), hl32, (by simp), rfl, hfr.pick [0, 3, 1, 2, 4, 11], hst.select [0, 1] (by decide)⟩ ?_
  rintro _ a w2 ⟨cn, ci, pz, cp, way, u, rfl, hpv, hc1, hc2, hc3, hcp, hway, hval, hfr, hst⟩
  refine wc_seq_k fun K9 hK9 => ?_
  refine wc_seq_region fun K10 hK10 => ?_
  refine wl_v hfr (by decide) (v_move rfl) ?_
  clear hfr
  intro a hfr
  refine wl_v hfr (by decide) (v_gt rfl rfl) ?_
  clear hfr
  intro a hfr
  refine wl_nil (hK10 _ _ ?_)
  refine wc_cond hfr rfl (fun hc4 => ?_) (fun hc4 => ?_)
  · rw [hc4] at hfr
    try simp only [Bool.not_eq_true', Bool.not_eq_false', decide_eq_true_eq, decide_eq_false_iff_not] at hc4
    refine wc_skip ?_
    refine hK9 _ _ ?_
    refine wc_block ?_
    refine wc_seq_region fun K11 hK11 => ?_
    refine wl_v hfr (by decide) (v_move rfl) ?_
    clear hfr
    intro a hfr
    rcases Bool.eq_false_or_eq_true (decide (cp.length = 0)) with hb5 | hb5
    · try simp only [Bool.not_eq_true', Bool.not_eq_false', decide_eq_true_eq, decide_eq_false_iff_not] at hb5
      refine wl_callp hfr hst (by decide) Tryd.call46 rfl (take_emp pz cp _ (hpv.grow (hst.ext.const hk0 (hst.get (k := 1) rfl))) (by omega)) ?_
      clear hfr hst
      intro a w3 hfr hst
      refine wl_v hfr (by decide) (v_move rfl) ?_
      clear hfr
      intro a hfr
      refine wl_v hfr (by decide) (v_extract rfl rfl) ?_
      clear hfr
      intro a hfr
      refine wl_v hfr (by decide) (v_extract rfl rfl) ?_
      clear hfr
      intro a hfr
      refine wl_v hfr (by decide) (v_extract rfl rfl) ?_
      clear hfr
      intro a hfr
      refine wl_v hfr (by decide) (v_assign rfl) ?_
      clear hfr
      intro a hfr
      refine wl_v hfr (by decide) (v_assign rfl) ?_
      clear hfr
      intro a hfr
      refine wl_v hfr (by decide) (v_assign rfl) ?_
      clear hfr
      intro a hfr
      refine wl_nil (hK11 _ _ ?_)
      replace hfr : Fr 79 [(0, _), (3, _), (1, _), (2, _), (4, _), (11, _), (12, _), (13, _), (14, _)] [] a := hfr.pick [0, 3, 1, 2, 4, 11, 12, 13, 14]
      refine wc_seq_k fun K12 hK12 => ?_
      refine wc_seq_region fun K13 hK13 => ?_
      refine wl_v hfr (by decide) (v_move rfl) ?_
      clear hfr
      intro a hfr
      refine wl_v hfr (by decide) ((v_not rfl).asb (b' := true) rfl) ?_
      clear hfr
      intro a hfr
      refine wl_nil (hK13 _ _ ?_)
      refine wc_cond_t hfr rfl ?_
      refine wc_seq_region fun K14 hK14 => ?_
      refine wl_v hfr (by decide) (v_assign rfl) ?_
      clear hfr
      intro a hfr
      refine wl_nil (hK14 _ _ ?_)
      refine wc_ret ?_
      refine fin_ret hfr Tryd.results21 (resAre_tmp rfl resAre_nil) ?_
      exact ⟨by simp only [retv]; rw [ver_fail hval (by omega) (by omega)], hst.ext.const hk0 (hst.get (k := 1) rfl)⟩
    try simp only [Bool.not_eq_true', Bool.not_eq_false', decide_eq_true_eq, decide_eq_false_iff_not] at hb5
    have hlt := lft_lt (n := cn) (by omega)
    have hlp := lft_pos cn
    have hx32 : (cp.getD (cp.length - 1) []).length = 32 := hcp _ (getD_mem (by omega))
    refine wl_callp hfr hst (by decide) Tryd.call46 rfl (take_ok pz cp _ (hpv.grow (hst.ext.const hk0 (hst.get (k := 1) rfl))) (by omega)) ?_
    clear hfr hst
    intro a w4 hfr hst
    refine wl_v hfr (by decide) (v_move rfl) ?_
    clear hfr
    intro a hfr
    refine wl_v hfr (by decide) (v_extract rfl rfl) ?_
    clear hfr
    intro a hfr
    refine wl_v hfr (by decide) (v_extract rfl rfl) ?_
    clear hfr
    intro a hfr
    refine wl_v hfr (by decide) (v_extract rfl rfl) ?_
    clear hfr
    intro a hfr
    refine wl_v hfr (by decide) (v_assign rfl) ?_
    clear hfr
    intro a hfr
    refine wl_v hfr (by decide) (v_assign rfl) ?_
    clear hfr
    intro a hfr
    refine wl_v hfr (by decide) (v_assign rfl) ?_
    clear hfr
    intro a hfr
    refine wl_nil (hK11 _ _ ?_)
    replace hfr : Fr 79 [(0, _), (3, _), (1, _), (2, _), (4, _), (11, _), (12, _), (13, _), (14, _)] [] a := hfr.pick [0, 3, 1, 2, 4, 11, 12, 13, 14]
    refine wc_seq_k fun K15 hK15 => ?_
    refine wc_seq_region fun K16 hK16 => ?_
    refine wl_v hfr (by decide) (v_move rfl) ?_
    clear hfr
    intro a hfr
    refine wl_v hfr (by decide) ((v_not rfl).asb (b' := false) rfl) ?_
    clear hfr
    intro a hfr
    refine wl_nil (hK16 _ _ ?_)
    refine wc_cond_f hfr rfl ?_
    refine wc_skip ?_
    refine hK15 _ _ ?_
    refine wc_seq_region fun K17 hK17 => ?_
    refine wl_v hfr (by decide) (v_move rfl) ?_
    clear hfr
    intro a hfr
    refine wl_v hfr (by decide) (v_assign rfl) ?_
    clear hfr
    intro a hfr
    refine wl_nil (hK17 _ _ ?_)
    refine wc_seq_region fun K18 hK18 => ?_
    refine wl_v hfr (by decide) (v_move rfl) ?_
    clear hfr
    intro a hfr
    refine wl_callp hfr hst (by decide) Tryd.call40 rfl (left_ok cn _ (by omega) (by omega)) ?_
    clear hfr hst
    intro a w5 hfr hst
    refine wl_v hfr (by decide) (v_assign rfl) ?_
    clear hfr
    intro a hfr
    refine wl_nil (hK18 _ _ ?_)
    replace hfr : Fr 79 [(0, _), (3, _), (1, _), (2, _), (11, _), (12, _), (4, _), (15, _)] [] a := hfr.pick [0, 3, 1, 2, 11, 12, 4, 15]
    refine wc_seq_region fun K19 hK19 => ?_
    refine wl_v hfr (by decide) (v_move rfl) ?_
    clear hfr
    intro a hfr
    refine wl_v hfr (by decide) (v_move rfl) ?_
    clear hfr
    intro a hfr
    refine wl_v hfr (by decide) (v_move rfl) ?_
    clear hfr
    intro a hfr
    refine wl_v hfr (by decide) (v_move rfl) ?_
    clear hfr
    intro a hfr
    refine wl_v hfr (by decide) (v_ge rfl rfl) ?_
    clear hfr
    intro a hfr
    refine wl_v hfr (by decide) (v_build (v := .agg #[sv (cp.getD (cp.length - 1) []), .bool (decide ((lft cn : Int) ≤ (ci : Int)))]) rfl (by kernel_rfl)) ?_
    clear hfr
    intro a hfr
    refine wl_buildSlice (E := 58) (sz := 2) rfl [[sv (cp.getD (cp.length - 1) []), .bool (decide ((lft cn : Int) ≤ (ci : Int)))]] (by kernel_rfl) (by simp) rfl (by decide) (by decide) hfr hst ?_
    clear hfr hst
    intro a w6 hfr hst
    refine wl_append (i := 1) (sT := 54) (inf := Tryd.t58) (z := .agg #[.string (⟨#[]⟩), .bool false]) (b := 0) (off := 0) (m := 0) (c := 0) rfl rfl rfl (hst.ownAt (i := 0) rfl) (by simp) Tryd.underlying54 rfl rfl rfl rfl (by decide) (by simp [Value.oneCell', yv, wv, sv]) (by have hby : Tryd.t58.bytes = 24 := rfl; simp only [big, hby, List.length_append, List.length_map, List.length_cons, List.length_nil]; omega) (by have hby : Tryd.t58.bytes = 24 := rfl; simp only [big, hby, List.length_append, List.length_map, List.length_cons, List.length_nil]; omega) (by decide) hfr hst fun a w7 s6 hfr hst _ => ?_
    refine wl_v hfr (by decide) (v_assign rfl) ?_
    clear hfr
    intro a hfr
    refine wl_nil (hK19 _ _ ?_)
    replace hfr : Fr 79 [(0, _), (3, _), (1, _), (2, _), (4, _), (15, _), (11, _)] [] a := hfr.pick [0, 3, 1, 2, 4, 15, 11]
    replace hst : St (· = 0) w0 [_, _] w7 := hst.mask [false, true, true]
    refine wc_seq_region fun K20 hK20 => ?_
    refine wl_v hfr (by decide) (v_move rfl) ?_
    clear hfr
    intro a hfr
    refine wl_v hfr (by decide) (v_move rfl) ?_
    clear hfr
    intro a hfr
    refine wl_v hfr (by decide) (v_ge rfl rfl) ?_
    clear hfr
    intro a hfr
    refine wl_nil (hK20 _ _ ?_)
    refine wc_cond hfr rfl (fun hc7 => ?_) (fun hc7 => ?_)
    · rw [hc7] at hfr
      try simp only [Bool.not_eq_true', Bool.not_eq_false', decide_eq_true_eq, decide_eq_false_iff_not] at hc7
      refine wc_region ?_
      refine wl_v hfr (by decide) (v_move rfl) ?_
      clear hfr
      intro a hfr
      refine wl_v hfr (by decide) (v_move rfl) ?_
      clear hfr
      intro a hfr
      refine wl_v hfr (by decide) ((v_sub rfl rfl ⟨by omega, by omega⟩).asi (m' := ((cn - lft cn : Nat) : Int)) (by omega)) ?_
      clear hfr
      intro a hfr
      refine wl_v hfr (by decide) (v_move rfl) ?_
      clear hfr
      intro a hfr
      refine wl_v hfr (by decide) (v_move rfl) ?_
      clear hfr
      intro a hfr
      refine wl_v hfr (by decide) ((v_sub rfl rfl ⟨by omega, by omega⟩).asi (m' := ((ci - lft cn : Nat) : Int)) (by omega)) ?_
      clear hfr
      intro a hfr
      refine wl_v hfr (by decide) (v_assign rfl) ?_
      clear hfr
      intro a hfr
      refine wl_v hfr (by decide) (v_assign rfl) ?_
      clear hfr
      intro a hfr
      refine wl_nil ?_
      rw [show (way.map fun x : By × Bool => [sv x.1, .bool x.2]) ++ ([[sv (cp.getD (cp.length - 1) []), .bool (decide ((lft cn : Int) ≤ (ci : Int)))]]) = ((way ++ [(cp.getD (cp.length - 1) [], true)]).map fun x : By × Bool => [sv x.1, .bool x.2]) from by rw [decide_eq_true (by omega)]; simp] at hst
      have hm1 : (cp.take (cp.length - 1)).length < cp.length := by rw [List.length_take]; omega
      refine ⟨_, ?_, (cn - lft cn), (ci - lft cn), (cut pz 1 0 (cp.length - 1) (slCap pz)), (cp.take (cp.length - 1)), (way ++ [(cp.getD (cp.length - 1) [], true)]), s6, rfl, hpv.cut0 (h := cp.length - 1) (by omega), (by omega), (by omega), (by rw [List.length_append, List.length_take, List.length_singleton]; omega), (fun x h => hcp x (List.mem_of_mem_take h)), (by intro x h; rcases List.mem_append.1 h with h | h; exact hway x h; rw [List.mem_singleton.1 h]; exact hx32), (by rw [hval, value_right (by omega) (by omega) (by omega)]; simp), hfr.pick [0, 3, 1, 2, 4, 11], hst.select [0, 1] (by decide)⟩
      omega
    rw [hc7] at hfr
    try simp only [Bool.not_eq_true', Bool.not_eq_false', decide_eq_true_eq, decide_eq_false_iff_not] at hc7
    refine wc_region ?_
    refine wl_v hfr (by decide) (v_move rfl) ?_
    clear hfr
    intro a hfr
    refine wl_v hfr (by decide) (v_assign rfl) ?_
    clear hfr
    intro a hfr
    refine wl_nil ?_
    rw [show (way.map fun x : By × Bool => [sv x.1, .bool x.2]) ++ ([[sv (cp.getD (cp.length - 1) []), .bool (decide ((lft cn : Int) ≤ (ci : Int)))]]) = ((way ++ [(cp.getD (cp.length - 1) [], false)]).map fun x : By × Bool => [sv x.1, .bool x.2]) from by rw [decide_eq_false (by omega)]; simp] at hst
    have hm1 : (cp.take (cp.length - 1)).length < cp.length := by rw [List.length_take]; omega
    refine ⟨_, ?_, (lft cn), ci, (cut pz 1 0 (cp.length - 1) (slCap pz)), (cp.take (cp.length - 1)), (way ++ [(cp.getD (cp.length - 1) [], false)]), s6, rfl, hpv.cut0 (h := cp.length - 1) (by omega), (by omega), (by omega), (by rw [List.length_append, List.length_take, List.length_singleton]; omega), (fun x h => hcp x (List.mem_of_mem_take h)), (by intro x h; rcases List.mem_append.1 h with h | h; exact hway x h; rw [List.mem_singleton.1 h]; exact hx32), (by rw [hval, value_left (by omega) (by omega) (by omega)]; simp), hfr.pick [0, 3, 1, 2, 4, 11], hst.select [0, 1] (by decide)⟩
    omega
  rw [hc4] at hfr
  try simp only [Bool.not_eq_true', Bool.not_eq_false', decide_eq_true_eq, decide_eq_false_iff_not] at hc4
  refine wc_exit ?_
  refine hK8 _ _ ?_
  refine wc_seq_region fun K21 hK21 => ?_
  refine wl_v hfr (by decide) (v_move rfl) ?_
  clear hfr
  intro a hfr
  refine wl_callp hfr hst (by decide) Tryd.call29 rfl (leaf_ok s _ (by omega) (hst.get (k := 1) rfl)) ?_
  clear hfr hst
  intro a w8 hfr hst
  refine wl_alloc hfr hst (by decide) (Tryd.zeroValue9 _) (cs := [.string (⟨#[]⟩)]) rfl ?_
  clear hfr hst
  intro a w9 hfr hst
  refine wl_store 0 hfr hst rfl rfl rfl (Tryd.sizeOf9 _) rfl (Nat.le_of_ble_eq_true rfl) (ds := [sv (leafH sha s)]) rfl rfl ?_
  clear hfr hst
  intro a w10 hfr hst
  refine wl_nil (hK21 _ _ ?_)
  replace hfr : Fr 79 [(0, _), (4, _), (11, _), (16, _)] [] a := hfr.pick [0, 4, 11, 16]
  refine wc_seq_k fun K22 hK22 => ?_
  refine wc_seq_region fun K23 hK23 => ?_
  refine wl_v hfr (by decide) (v_move rfl) ?_
  clear hfr
  intro a hfr
  refine wl_callm hfr hst (by decide) Tryd.call47 rfl (backd_ok u _ _ (hst.ownAt (i := 1) rfl)) ?_
  clear hfr hst
  intro a w11 x8 hp hfr hst
  revert x8 hp hfr hst; rintro z1 hp hfr hst
  clear hp
  replace hst : St (· = 0) w0 [blk z1 [u] 54, blk w8.heap.size [sv (leafH sha s)] 9, own u 58 2 (way.map fun x : By × Bool => [sv x.1, .bool x.2]), blk 0 (kOf.map wv) 88] w11 := hst
  refine wl_nil (hK23 _ _ ?_)
  refine wc_block ?_
  have hy32 : ∀ k, k < way.length → (way.getD k ([], false)).1.length = 32 := fun k hk => hway _ (getD_mem hk)
  replace hst : St (· = 0) w0 [blk z1 [u] 54, blk w8.heap.size [sv (([] : List Nat).foldl (fun o k => joinH (way.getD k ([], false)) o) (leafH sha s))] 9, own u 58 2 (way.map fun x : By × Bool => [sv x.1, .bool x.2]), blk 0 (kOf.map wv) 88] w11 := hst
  replace hst : St (· = 0) w0 [blk 0 (kOf.map wv) 88, blk w8.heap.size [sv (([] : List Nat).foldl (fun o k => joinH (way.getD k ([], false)) o) (leafH sha s))] 9, blk z1 [u] 54, own u 58 2 (way.map fun x : By × Bool => [sv x.1, .bool x.2])] w11 := hst.select [3, 1, 0, 2] (by decide)
  replace hfr : Fr 79 [(0, sv root), (4, pz), (11, u), (16, .pointer (some ⟨w8.heap.size, 0, none⟩)), (64, u), (65, .func (.func 63) #[] #[.pointer (some ⟨z1, 0, none⟩)])] [] a := hfr.pick [0, 4, 11, 16, 64, 65]
  refine wc_range (M := (· = 0)) (w0 := w0) (encs := (encD way)) (Hi := [blk z1 [u] 54, own u 58 2 (way.map fun x : By × Bool => [sv x.1, .bool x.2])]) (Hc := [blk 0 (kOf.map wv) 88, blk w8.heap.size [sv (([] : List Nat).foldl (fun o k => joinH (way.getD k ([], false)) o) (leafH sha s))] 9]) (fun pre H => ((pre.foldl (fun o k => joinH (way.getD k ([], false)) o) (leafH sha s)).length = 32) ∧ H = [blk 0 (kOf.map wv) 88, blk w8.heap.size [sv (pre.foldl (fun o k => joinH (way.getD k ([], false)) o) (leafH sha s))] 9]) (fun _ _ _ => False) (fun pre xs H a => ∃ (bA0 : Nat), Fr 79 [(0, sv root), (4, pz), (11, u), (16, .pointer (some ⟨w8.heap.size, 0, none⟩)), (64, u), (65, .func (.func 63) #[] #[.pointer (some ⟨z1, 0, none⟩)]), (18, .pointer (some ⟨bA0, 0, none⟩))] [] a ∧ ((pre.foldl (fun o k => joinH (way.getD k ([], false)) o) (leafH sha s)).length = 32) ∧ H = [blk bA0 [sv ((way.getD xs ([], false)).1), .bool ((way.getD xs ([], false)).2)] 58, blk 0 (kOf.map wv) 88, blk w8.heap.size [sv (pre.foldl (fun o k => joinH (way.getD k ([], false)) o) (leafH sha s))] 9]) rfl Tryd.call63 hfr hst (backd_iter u way z1 (by omega)) (by decide) (fun _ => rfl) ⟨leaf_len sha_len s, rfl⟩ ?_ ?_ ?_ ?_
  · clear hfr hst
    rintro lp pre xs _ a w12 hnx ⟨hf32, rfl⟩ hfr hst
    generalize (join [blk 0 (kOf.map wv) 88, blk w8.heap.size [sv (pre.foldl (fun o k => joinH (way.getD k ([], false)) o) (leafH sha s))] 9]).foot = M1 at hst ⊢
    replace hfr : Fr 79 [(67, .agg #[sv ((way.getD xs ([], false)).1), .bool ((way.getD xs ([], false)).2)]), (66, .int .i64 (xs : Int)), (0, sv root), (4, pz), (11, u), (16, .pointer (some ⟨w8.heap.size, 0, none⟩)), (64, u), (65, .func (.func 63) #[] #[.pointer (some ⟨z1, 0, none⟩)])] [] a := hfr
    refine wc_region ?_
    refine wl_alloc hfr hst (by decide) (Tryd.zeroValue58 _) (cs := [.string (⟨#[]⟩), .bool false]) rfl ?_
    clear hfr hst
    intro a w13 hfr hst
    refine wl_store 0 hfr hst rfl rfl rfl (Tryd.sizeOf58 _) rfl (Nat.le_of_ble_eq_true rfl) (ds := [sv ((way.getD xs ([], false)).1), .bool ((way.getD xs ([], false)).2)]) rfl rfl ?_
    clear hfr hst
    intro a w14 hfr hst
    refine wl_nil ?_
    exact ⟨_, ⟨w12.heap.size, hfr.pick [0, 4, 11, 16, 64, 65, 18], hf32, rfl⟩, hst⟩
  · rintro lp pre xs _ a w15 hnx ⟨bA0, hfr, hf32, rfl⟩ hrec hnl hst
    clear hrec hnl
    generalize (join [blk bA0 [sv ((way.getD xs ([], false)).1), .bool ((way.getD xs ([], false)).2)] 58, blk 0 (kOf.map wv) 88, blk w8.heap.size [sv (pre.foldl (fun o k => joinH (way.getD k ([], false)) o) (leafH sha s))] 9]).foot = M1 at hst ⊢
    refine wc_block ?_
    refine wc_region ?_
    refine wl_v hfr (by decide) (v_load_all (hst.get (k := 0) rfl) rfl (Tryd.isAgg58 _) (Tryd.sizeOf58 _)) ?_
    clear hfr
    intro a hfr
    refine wl_v hfr (by decide) (v_load_blk1 (hst.get (k := 2) rfl) rfl (Tryd.isAgg9 _) rfl) ?_
    clear hfr
    intro a hfr
    refine wl_callp hfr hst (by decide) Tryd.call48 rfl (sjoin_ok ((way.getD xs ([], false)).1) ((way.getD xs ([], false)).2) (pre.foldl (fun o k => joinH (way.getD k ([], false)) o) (leafH sha s)) _ (by have := hy32 xs (by have h := hnx; unfold NxB at h; omega); omega) (by first | omega | exact Nat.le_trans (Nat.le_of_eq hf32) (by decide)) (hst.get (k := 1) rfl)) ?_
    clear hfr hst
    intro a w16 hfr hst
    refine wl_store 2 hfr hst rfl rfl rfl (Tryd.sizeOf9 _) rfl (Nat.le_of_ble_eq_true rfl) (ds := [sv (joinH ((way.getD xs ([], false)).1, (way.getD xs ([], false)).2) (pre.foldl (fun o k => joinH (way.getD k ([], false)) o) (leafH sha s)))]) rfl rfl ?_
    clear hfr hst
    intro a w17 hfr hst
    refine wl_nil ?_
    rw [show joinH ((way.getD xs ([], false)).1, (way.getD xs ([], false)).2) (pre.foldl (fun o k => joinH (way.getD k ([], false)) o) (leafH sha s)) = (pre ++ [xs]).foldl (fun o k => joinH (way.getD k ([], false)) o) (leafH sha s) from by rw [List.foldl_append]; rfl] at hst
    exact ⟨_, ⟨(by rw [List.foldl_append]; exact sha_len _), rfl⟩, hst.select [1, 2] (by decide)⟩
  · rintro D pre _ _ a w18 ⟨rfl, rfl⟩ ⟨hf32, rfl⟩ hst hfr
    replace hfr : Fr 79 [(0, sv root), (4, pz), (11, u), (16, .pointer (some ⟨w8.heap.size, 0, none⟩)), (64, u), (65, .func (.func 63) #[] #[.pointer (some ⟨z1, 0, none⟩)])] [{ target := .collected D, args := #[] }] a := hfr
    replace hst : St (· = 0) w0 [obj D (.deferred (some [])), blk 0 (kOf.map wv) 88, blk w8.heap.size [sv ((backs way.length way.length).foldl (fun o k => joinH (way.getD k ([], false)) o) (leafH sha s))] 9, blk z1 [u] 54, own u 58 2 (way.map fun x : By × Bool => [sv x.1, .bool x.2])] w18 := hst
    refine hK22 _ _ ?_
    refine wc_seq_region fun K24 hK24 => ?_
    refine wl_v hfr (by decide) (v_move rfl) ?_
    clear hfr
    intro a hfr
    refine wl_v hfr (by decide) ((v_len_sl (sT := 22) (hpv.grow (hst.ext.const hk0 (hst.get (k := 1) rfl))) rfl rfl (Tryd.runUnderlying22 _)).asi (m' := (cp.length : Int)) (by simp)) ?_
    clear hfr
    intro a hfr
    refine wl_v hfr (by decide) (v_eq rfl rfl) ?_
    clear hfr
    intro a hfr
    refine wl_v hfr (by decide) (v_move rfl) ?_
    clear hfr
    intro a hfr
    rcases Bool.eq_false_or_eq_true (decide ((cp.length : Int) = 0)) with hb9 | hb9
    · rw [hb9] at hfr
      try simp only [Bool.not_eq_true', Bool.not_eq_false', decide_eq_true_eq, decide_eq_false_iff_not] at hb9
      refine wl_vy hfr (by decide) rfl (by decide) rfl (v_load_blk1 (hst.get (k := 2) rfl) rfl (Tryd.isAgg9 _) rfl) ?_
      clear hfr
      intro a hfr
      refine wl_vy hfr (by decide) rfl (by decide) rfl (v_move rfl) ?_
      clear hfr
      intro a hfr
      refine wl_vy hfr (by decide) rfl (by decide) rfl (v_seq rfl rfl) ?_
      clear hfr
      intro a hfr
      refine wl_v hfr (by decide) (v_pick_t rfl rfl) ?_
      clear hfr
      intro a hfr
      refine wl_v hfr (by decide) (v_assign rfl) ?_
      clear hfr
      intro a hfr
      refine wl_nil (hK24 _ _ ?_)
      replace hfr : Fr 79 [(10, _)] [{ target := .collected D, args := #[] }] a := hfr.pick [10]
      replace hst : St (· = 0) w0 [_, _, _] w18 := hst.mask [true, true, false, false, true]
      refine wc_ret ?_
      have hD := hst.get (k := 0) rfl
      replace hst := hst.unmark (i := 0) (o' := .deferred none) rfl
      replace hst : St (· = 0) w0 [blk 0 (kOf.map wv) 88, own u 58 2 (way.map fun x : By × Bool => [sv x.1, .bool x.2])] _ := hst
      refine fin_ret1 hfr hD Tryd.results21 (resAre_tmp rfl resAre_nil) ?_
      exact ⟨by simp only [retv]; rw [fold_way, ver_end hval (by omega) hall (by omega), decide_eq_true (show cp.length = 0 by omega), Bool.true_and], hst.ext.const hk0 (hst.get (k := 0) rfl)⟩
    rw [hb9] at hfr
    try simp only [Bool.not_eq_true', Bool.not_eq_false', decide_eq_true_eq, decide_eq_false_iff_not] at hb9
    refine wl_vn hfr (by decide) rfl (by decide) rfl rfl ?_
    clear hfr
    intro a hfr
    refine wl_vn hfr (by decide) rfl (by decide) rfl rfl ?_
    clear hfr
    intro a hfr
    refine wl_vn hfr (by decide) rfl (by decide) rfl rfl ?_
    clear hfr
    intro a hfr
    refine wl_v hfr (by decide) (v_pick_f rfl rfl) ?_
    clear hfr
    intro a hfr
    refine wl_v hfr (by decide) (v_assign rfl) ?_
    clear hfr
    intro a hfr
    refine wl_nil (hK24 _ _ ?_)
    replace hfr : Fr 79 [(10, _)] [{ target := .collected D, args := #[] }] a := hfr.pick [10]
    replace hst : St (· = 0) w0 [_, _, _] w18 := hst.mask [true, true, false, false, true]
    refine wc_ret ?_
    have hD := hst.get (k := 0) rfl
    replace hst := hst.unmark (i := 0) (o' := .deferred none) rfl
    replace hst : St (· = 0) w0 [blk 0 (kOf.map wv) 88, own u 58 2 (way.map fun x : By × Bool => [sv x.1, .bool x.2])] _ := hst
    refine fin_ret1 hfr hD Tryd.results21 (resAre_tmp rfl resAre_nil) ?_
    exact ⟨by simp only [retv]; rw [ver_end hval (by omega) hall (by omega), decide_eq_false (show ¬ cp.length = 0 by omega), Bool.false_and], hst.ext.const hk0 (hst.get (k := 0) rfl)⟩
  · rintro D c pre _ _ a w19 _ h
    exact h.elim
end Go.Proofs.YtmcoolbjgeibcaaDoor
namespace Go.Proofs.YtmcoolbjgeibcaaDoor
open Go.RowKit Go.PW
set_option linter.unusedVariables false
set_option linter.unusedSimpArgs false
set_option maxRecDepth 4000

def fstH (x : By × Bool) (o : By) : By := if x.2 then joinH x o else o
theorem fst_len {x : By × Bool} {o : By} (h : o.length = 32) : (fstH x o).length = 32 := by
  unfold fstH; split
  · exact sha_len _
  · exact h
theorem both_left {old : By} {m n : Nat} {p : List By} {w : Bool} (h : m ≠ n) (hp : 0 < p.length) (hi : m ≤ lft n) : bothH sha old m n p w = (fstH (p.getD (p.length - 1) [], false) (bothH sha old m (lft n) (p.take (p.length - 1)) w).1, joinH (p.getD (p.length - 1) [], false) (bothH sha old m (lft n) (p.take (p.length - 1)) w).2.1, (bothH sha old m (lft n) (p.take (p.length - 1)) w).2.2) := by
  conv => lhs; rw [take_last hp, bothH_snoc sha h, if_pos hi]
  rfl
theorem both_right {old : By} {m n : Nat} {p : List By} {w : Bool} (h : m ≠ n) (hp : 0 < p.length) (hi : ¬ m ≤ lft n) : bothH sha old m n p w = (fstH (p.getD (p.length - 1) [], true) (bothH sha old (m - lft n) (n - lft n) (p.take (p.length - 1)) false).1, joinH (p.getD (p.length - 1) [], true) (bothH sha old (m - lft n) (n - lft n) (p.take (p.length - 1)) false).2.1, (bothH sha old (m - lft n) (n - lft n) (p.take (p.length - 1)) false).2.2) := by
  conv => lhs; rw [take_last hp, bothH_snoc sha h, if_neg hi]
  rfl
theorem vx_bad {old root : By} {m n : Int} {p : List By} (h : ¬ (0 ≤ m ∧ m ≤ n ∧ (p.all fun x => decide (x.length = 32)) = true ∧ old.length = 32 ∧ root.length = 32)) : verifyExtH sha old m root n p = false := by
  unfold verifyExtH
  rw [if_pos]
  refine Classical.byContradiction fun hc => h ?_
  simp only [not_or, Int.not_lt, Bool.not_eq_false, Classical.not_not, ne_eq] at hc
  exact hc
theorem isEmpty_len (p : List By) : p.isEmpty = decide (p.length = 0) := by cases p <;> simp
section
variable {old root : By} {p : List By} (hall : (p.all fun x => decide (x.length = 32)) = true) (ho : old.length = 32) (hr : root.length = 32)
include hall ho hr
theorem vx_go {m n : Int} (h0 : 0 ≤ m) (hmn : m ≤ n) : verifyExtH sha old m root n p = (if m = 0 then p.isEmpty && decide (old = sha []) else if m = n then p.isEmpty && decide (old = root) else (bothH sha old m.toNat n.toNat p true).2.2 && decide ((bothH sha old m.toNat n.toNat p true).1 = old) && decide ((bothH sha old m.toNat n.toNat p true).2.1 = root)) := by
  unfold verifyExtH
  rw [if_neg (by simp [hall, ho, hr]; omega)]
theorem vx_zero {n : Int} (hmn : 0 ≤ n) : verifyExtH sha old 0 root n p = (decide (p.length = 0) && decide (old = sha [])) := by
  rw [vx_go hall ho hr (Int.le_refl _) hmn, if_pos rfl, isEmpty_len]
theorem vx_same {m : Int} (h0 : 0 < m) : verifyExtH sha old m root m p = (decide (p.length = 0) && decide (old = root)) := by
  rw [vx_go hall ho hr (by omega) (Int.le_refl _), if_neg (by omega), if_pos rfl, isEmpty_len]
variable {m n cm cn : Nat} {cp : List By} {wh : Bool} {way : List (By × Bool)} (hm : 1 ≤ m) (hmn : m < n) (hval : bothH sha old m n p true = (way.foldr fstH (bothH sha old cm cn cp wh).1, way.foldr joinH (bothH sha old cm cn cp wh).2.1, (bothH sha old cm cn cp wh).2.2))
include hm hmn hval
theorem vx_fail (hc : cp.length = 0) (h2 : cm ≠ cn) : verifyExtH sha old m root n p = false := by
  obtain rfl : cp = [] := List.eq_nil_of_length_eq_zero hc
  rw [bothH_nil sha h2] at hval
  rw [vx_go hall ho hr (by omega) (by omega), if_neg (by omega), if_neg (by omega), Int.toNat_natCast, Int.toNat_natCast, hval]; simp
theorem vx_odd (hw : wh = false) (hc : cm = cn) (h1 : cp.length ≠ 1) : verifyExtH sha old m root n p = false := by
  subst hw; subst hc
  rw [bothH_end] at hval
  have : (endH cp).2.2 = false := by
    match cp, h1 with
    | [], _ => rfl
    | _ :: _ :: _, _ => rfl
    | [_], h => exact absurd rfl h
  simp only [Bool.false_eq_true, if_false] at hval
  rw [vx_go hall ho hr (by omega) (by omega), if_neg (by omega), if_neg (by omega), Int.toNat_natCast, Int.toNat_natCast, hval]
  simp only [this, Bool.false_and]
theorem vx_whole (hw : wh = true) (hc : cm = cn) : verifyExtH sha old m root n p = (decide (cp.length = 0) && decide (way.foldr fstH old = old) && decide (way.foldr joinH old = root)) := by
  subst hw; subst hc
  rw [bothH_end] at hval
  simp only [if_true] at hval
  rw [vx_go hall ho hr (by omega) (by omega), if_neg (by omega), if_neg (by omega), Int.toNat_natCast, Int.toNat_natCast, hval, isEmpty_len]
theorem vx_part (hw : wh = false) (hc : cm = cn) (h1 : cp.length = 1) : verifyExtH sha old m root n p = (decide (way.foldr fstH (cp.getD 0 []) = old) && decide (way.foldr joinH (cp.getD 0 []) = root)) := by
  subst hw; subst hc
  rw [bothH_end] at hval
  simp only [Bool.false_eq_true, if_false] at hval
  obtain ⟨x, rfl⟩ : ∃ x, cp = [x] := by
    match cp, h1 with
    | [x], _ => exact ⟨x, rfl⟩
  rw [vx_go hall ho hr (by omega) (by omega), if_neg (by omega), if_neg (by omega), Int.toNat_natCast, Int.toNat_natCast, hval]
  simp only [endH, Bool.true_and]; rfl
end

set_option maxHeartbeats 4000000 in
/-- dialtone/digest.VerifyExtension -/
theorem verifyx_ok (old root : By) (m n : Int) (lv : Value) (ls : List By) (w0 : World) (hlv : SlAt w0 lv 1 (ls.map fun s => [sv s])) (hln : ls.length ≤ 1000) (hn : n ≤ 9223372036854775807) (hk0 : (blk 0 (kOf.map wv) 88).ok w0) :
    Ret Tryd.prog 23 #[sv old, .int .i64 m, sv root, .int .i64 n, lv] w0 fun v w => v = .bool (verifyExtH sha old m root n ls) ∧ Ext No w0 w := by
  refine ret_of Tryd.func23 rfl Tryd.ntmps23 (Nat.le_of_ble_eq_true rfl) fun a hfr => ?_
  replace hfr : Fr 137 [(0, _), (1, _), (2, _), (3, _), (4, _)] [] a := hfr
  replace hst : St (· = 0) w0 [blk 0 (kOf.map wv) 88] w0 := St.one hk0
  refine wc_seq_region fun K1 hK1 => ?_
  refine wl_v hfr (by decide) (v_assign rfl) ?_
  clear hfr
  intro a hfr
  refine wl_nil (hK1 _ _ ?_)
  refine wc_seq_k fun K2 hK2 => ?_
  refine wc_block ?_
  refine wc_seq_region fun K3 hK3 => ?_
  refine wl_v hfr (by decide) (v_move rfl) ?_
  clear hfr
  intro a hfr
  refine wl_v hfr (by decide) (v_lt rfl rfl) ?_
  clear hfr
  intro a hfr
  refine wl_v hfr (by decide) (v_move rfl) ?_
  clear hfr
  intro a hfr
  rcases Bool.eq_false_or_eq_true (decide (m < 0)) with hb1 | hb1
  · rw [hb1] at hfr
    try simp only [Bool.not_eq_true', Bool.not_eq_false', decide_eq_true_eq, decide_eq_false_iff_not] at hb1
    refine wl_vn hfr (by decide) rfl (by decide) rfl rfl ?_
    clear hfr
    intro a hfr
    refine wl_vn hfr (by decide) rfl (by decide) rfl rfl ?_
    clear hfr
    intro a hfr
    refine wl_vn hfr (by decide) rfl (by decide) rfl rfl ?_
    clear hfr
    intro a hfr
    refine wl_v hfr (by decide) (v_pick_t rfl rfl) ?_
    clear hfr
    intro a hfr
    refine wl_v hfr (by decide) (v_move rfl) ?_
    clear hfr
    intro a hfr
    refine wl_vn hfr (by decide) rfl (by decide) rfl rfl ?_
    clear hfr
    intro a hfr
    refine wl_vn hfr (by decide) rfl (by decide) rfl rfl ?_
    clear hfr
    intro a hfr
    refine wl_vn hfr (by decide) rfl (by decide) rfl rfl ?_
    clear hfr
    intro a hfr
    refine wl_v hfr (by decide) (v_pick_t rfl rfl) ?_
    clear hfr
    intro a hfr
    refine wl_v hfr (by decide) (v_move rfl) ?_
    clear hfr
    intro a hfr
    refine wl_vn hfr (by decide) rfl (by decide) rfl rfl ?_
    clear hfr
    intro a hfr
    refine wl_vn hfr (by decide) rfl (by decide) rfl rfl ?_
    clear hfr
    intro a hfr
    refine wl_vn hfr (by decide) rfl (by decide) rfl rfl ?_
    clear hfr
    intro a hfr
    refine wl_v hfr (by decide) (v_pick_t rfl rfl) ?_
    clear hfr
    intro a hfr
    refine wl_v hfr (by decide) (v_move rfl) ?_
    clear hfr
    intro a hfr
    refine wl_vn hfr (by decide) rfl (by decide) rfl rfl ?_
    clear hfr
    intro a hfr
    refine wl_vn hfr (by decide) rfl (by decide) rfl rfl ?_
    clear hfr
    intro a hfr
    refine wl_vn hfr (by decide) rfl (by decide) rfl rfl ?_
    clear hfr
    intro a hfr
    refine wl_v hfr (by decide) (v_pick_t rfl rfl) ?_
    clear hfr
    intro a hfr
    refine wl_v hfr (by decide) (v_assign rfl) ?_
    clear hfr
    intro a hfr
    refine wl_nil (hK3 _ _ ?_)
    replace hfr : Fr 137 [(0, _), (1, _), (2, _), (3, _), (4, _), (10, _), (21, _)] [] a := hfr.pick [0, 1, 2, 3, 4, 10, 21]
    refine wc_cond_t hfr rfl ?_
    refine wc_seq_region fun K4 hK4 => ?_
    refine wl_v hfr (by decide) (v_assign rfl) ?_
    clear hfr
    intro a hfr
    refine wl_nil (hK4 _ _ ?_)
    refine wc_ret ?_
    refine fin_ret hfr Tryd.results23 (resAre_tmp rfl resAre_nil) ?_
    exact ⟨by simp only [retv]; rw [vx_bad (by rintro ⟨h1, h2, h3, h4, h5⟩; first | omega | simp_all)], hst.ext.const hk0 (hst.get (k := 0) rfl)⟩
  rw [hb1] at hfr
  try simp only [Bool.not_eq_true', Bool.not_eq_false', decide_eq_true_eq, decide_eq_false_iff_not] at hb1
  refine wl_vy hfr (by decide) rfl (by decide) rfl (v_move rfl) ?_
  clear hfr
  intro a hfr
  refine wl_vy hfr (by decide) rfl (by decide) rfl (v_move rfl) ?_
  clear hfr
  intro a hfr
  refine wl_vy hfr (by decide) rfl (by decide) rfl (v_gt rfl rfl) ?_
  clear hfr
  intro a hfr
  refine wl_v hfr (by decide) (v_pick_f rfl rfl) ?_
  clear hfr
  intro a hfr
  refine wl_v hfr (by decide) (v_move rfl) ?_
  clear hfr
  intro a hfr
  rcases Bool.eq_false_or_eq_true (decide (n < m)) with hb2 | hb2
  · rw [hb2] at hfr
    try simp only [Bool.not_eq_true', Bool.not_eq_false', decide_eq_true_eq, decide_eq_false_iff_not] at hb2
    refine wl_vn hfr (by decide) rfl (by decide) rfl rfl ?_
    clear hfr
    intro a hfr
    refine wl_vn hfr (by decide) rfl (by decide) rfl rfl ?_
    clear hfr
    intro a hfr
    refine wl_vn hfr (by decide) rfl (by decide) rfl rfl ?_
    clear hfr
    intro a hfr
    refine wl_v hfr (by decide) (v_pick_t rfl rfl) ?_
    clear hfr
    intro a hfr
    refine wl_v hfr (by decide) (v_move rfl) ?_
    clear hfr
    intro a hfr
    refine wl_vn hfr (by decide) rfl (by decide) rfl rfl ?_
    clear hfr
    intro a hfr
    refine wl_vn hfr (by decide) rfl (by decide) rfl rfl ?_
    clear hfr
    intro a hfr
    refine wl_vn hfr (by decide) rfl (by decide) rfl rfl ?_
    clear hfr
    intro a hfr
    refine wl_v hfr (by decide) (v_pick_t rfl rfl) ?_
    clear hfr
    intro a hfr
    refine wl_v hfr (by decide) (v_move rfl) ?_
    clear hfr
    intro a hfr
    refine wl_vn hfr (by decide) rfl (by decide) rfl rfl ?_
    clear hfr
    intro a hfr
    refine wl_vn hfr (by decide) rfl (by decide) rfl rfl ?_
    clear hfr
    intro a hfr
    refine wl_vn hfr (by decide) rfl (by decide) rfl rfl ?_
    clear hfr
    intro a hfr
    refine wl_v hfr (by decide) (v_pick_t rfl rfl) ?_
    clear hfr
    intro a hfr
    refine wl_v hfr (by decide) (v_assign rfl) ?_
    clear hfr
    intro a hfr
    refine wl_nil (hK3 _ _ ?_)
    replace hfr : Fr 137 [(0, _), (1, _), (2, _), (3, _), (4, _), (10, _), (21, _)] [] a := hfr.pick [0, 1, 2, 3, 4, 10, 21]
    refine wc_cond_t hfr rfl ?_
    refine wc_seq_region fun K5 hK5 => ?_
    refine wl_v hfr (by decide) (v_assign rfl) ?_
    clear hfr
    intro a hfr
    refine wl_nil (hK5 _ _ ?_)
    refine wc_ret ?_
    refine fin_ret hfr Tryd.results23 (resAre_tmp rfl resAre_nil) ?_
    exact ⟨by simp only [retv]; rw [vx_bad (by rintro ⟨h1, h2, h3, h4, h5⟩; first | omega | simp_all)], hst.ext.const hk0 (hst.get (k := 0) rfl)⟩
  rw [hb2] at hfr
  try simp only [Bool.not_eq_true', Bool.not_eq_false', decide_eq_true_eq, decide_eq_false_iff_not] at hb2
  refine wl_vy hfr (by decide) rfl (by decide) rfl (v_move rfl) ?_
  clear hfr
  intro a hfr
  refine wl_callpy hfr hst (by decide) rfl (by decide) rfl Tryd.call45 rfl (all_ok lv ls _ (hlv.grow (hst.ext.const hk0 (hst.get (k := 0) rfl)))) ?_
  clear hfr hst
  intro a w1 hfr hst
  refine wl_vy hfr (by decide) rfl (by decide) rfl (v_not rfl) ?_
  clear hfr
  intro a hfr
  refine wl_v hfr (by decide) (v_pick_f rfl rfl) ?_
  clear hfr
  intro a hfr
  refine wl_v hfr (by decide) (v_move rfl) ?_
  clear hfr
  intro a hfr
  rcases Bool.eq_false_or_eq_true (!(ls.all fun s => decide (s.length = 32))) with hb3 | hb3
  · rw [hb3] at hfr
    try simp only [Bool.not_eq_true', Bool.not_eq_false', decide_eq_true_eq, decide_eq_false_iff_not] at hb3
    have hall := hb3
    refine wl_vn hfr (by decide) rfl (by decide) rfl rfl ?_
    clear hfr
    intro a hfr
    refine wl_vn hfr (by decide) rfl (by decide) rfl rfl ?_
    clear hfr
    intro a hfr
    refine wl_vn hfr (by decide) rfl (by decide) rfl rfl ?_
    clear hfr
    intro a hfr
    refine wl_v hfr (by decide) (v_pick_t rfl rfl) ?_
    clear hfr
    intro a hfr
    refine wl_v hfr (by decide) (v_move rfl) ?_
    clear hfr
    intro a hfr
    refine wl_vn hfr (by decide) rfl (by decide) rfl rfl ?_
    clear hfr
    intro a hfr
    refine wl_vn hfr (by decide) rfl (by decide) rfl rfl ?_
    clear hfr
    intro a hfr
    refine wl_vn hfr (by decide) rfl (by decide) rfl rfl ?_
    clear hfr
    intro a hfr
    refine wl_v hfr (by decide) (v_pick_t rfl rfl) ?_
    clear hfr
    intro a hfr
    refine wl_v hfr (by decide) (v_assign rfl) ?_
    clear hfr
    intro a hfr
    refine wl_nil (hK3 _ _ ?_)
    replace hfr : Fr 137 [(0, _), (1, _), (2, _), (3, _), (4, _), (10, _), (21, _)] [] a := hfr.pick [0, 1, 2, 3, 4, 10, 21]
    refine wc_cond_t hfr rfl ?_
    refine wc_seq_region fun K6 hK6 => ?_
    refine wl_v hfr (by decide) (v_assign rfl) ?_
    clear hfr
    intro a hfr
    refine wl_nil (hK6 _ _ ?_)
    refine wc_ret ?_
    refine fin_ret hfr Tryd.results23 (resAre_tmp rfl resAre_nil) ?_
    exact ⟨by simp only [retv]; rw [vx_bad (by rintro ⟨h1, h2, h3, h4, h5⟩; first | omega | simp_all)], hst.ext.const hk0 (hst.get (k := 0) rfl)⟩
  rw [hb3] at hfr
  try simp only [Bool.not_eq_true', Bool.not_eq_false', decide_eq_true_eq, decide_eq_false_iff_not] at hb3
  have hall := hb3
  refine wl_vy hfr (by decide) rfl (by decide) rfl (v_move rfl) ?_
  clear hfr
  intro a hfr
  refine wl_callpy hfr hst (by decide) rfl (by decide) rfl Tryd.call51 rfl (isDigest_ok old _) ?_
  clear hfr hst
  intro a w2 hfr hst
  refine wl_vy hfr (by decide) rfl (by decide) rfl (v_not rfl) ?_
  clear hfr
  intro a hfr
  refine wl_v hfr (by decide) (v_pick_f rfl rfl) ?_
  clear hfr
  intro a hfr
  refine wl_v hfr (by decide) (v_move rfl) ?_
  clear hfr
  intro a hfr
  rcases Bool.eq_false_or_eq_true (!(decide ((old.length : Int) = 32))) with hb4 | hb4
  · rw [hb4] at hfr
    try simp only [Bool.not_eq_true', Bool.not_eq_false', decide_eq_true_eq, decide_eq_false_iff_not] at hb4
    refine wl_vn hfr (by decide) rfl (by decide) rfl rfl ?_
    clear hfr
    intro a hfr
    refine wl_vn hfr (by decide) rfl (by decide) rfl rfl ?_
    clear hfr
    intro a hfr
    refine wl_vn hfr (by decide) rfl (by decide) rfl rfl ?_
    clear hfr
    intro a hfr
    refine wl_v hfr (by decide) (v_pick_t rfl rfl) ?_
    clear hfr
    intro a hfr
    refine wl_v hfr (by decide) (v_assign rfl) ?_
    clear hfr
    intro a hfr
    refine wl_nil (hK3 _ _ ?_)
    replace hfr : Fr 137 [(0, _), (1, _), (2, _), (3, _), (4, _), (10, _), (21, _)] [] a := hfr.pick [0, 1, 2, 3, 4, 10, 21]
    refine wc_cond_t hfr rfl ?_
    refine wc_seq_region fun K7 hK7 => ?_
    refine wl_v hfr (by decide) (v_assign rfl) ?_
    clear hfr
    intro a hfr
    refine wl_nil (hK7 _ _ ?_)
    refine wc_ret ?_
    refine fin_ret hfr Tryd.results23 (resAre_tmp rfl resAre_nil) ?_
    exact ⟨by simp only [retv]; rw [vx_bad (by rintro ⟨h1, h2, h3, h4, h5⟩; first | omega | simp_all)], hst.ext.const hk0 (hst.get (k := 0) rfl)⟩
  rw [hb4] at hfr
  try simp only [Bool.not_eq_true', Bool.not_eq_false', decide_eq_true_eq, decide_eq_false_iff_not] at hb4
  refine wl_vy hfr (by decide) rfl (by decide) rfl (v_move rfl) ?_
  clear hfr
  intro a hfr
  refine wl_callpy hfr hst (by decide) rfl (by decide) rfl Tryd.call51 rfl (isDigest_ok root _) ?_
  clear hfr hst
  intro a w3 hfr hst
  refine wl_vy hfr (by decide) rfl (by decide) rfl (v_not rfl) ?_
  clear hfr
  intro a hfr
  refine wl_v hfr (by decide) (v_pick_f rfl rfl) ?_
  clear hfr
  intro a hfr
  refine wl_v hfr (by decide) (v_assign rfl) ?_
  clear hfr
  intro a hfr
  refine wl_nil (hK3 _ _ ?_)
  replace hfr : Fr 137 [(0, _), (1, _), (2, _), (3, _), (4, _), (10, _), (21, _)] [] a := hfr.pick [0, 1, 2, 3, 4, 10, 21]
  refine wc_cond hfr rfl (fun hc5 => ?_) (fun hc5 => ?_)
  · rw [hc5] at hfr
    try simp only [Bool.not_eq_true', Bool.not_eq_false', decide_eq_true_eq, decide_eq_false_iff_not] at hc5
    refine wc_seq_region fun K8 hK8 => ?_
    refine wl_v hfr (by decide) (v_assign rfl) ?_
    clear hfr
    intro a hfr
    refine wl_nil (hK8 _ _ ?_)
    refine wc_ret ?_
    refine fin_ret hfr Tryd.results23 (resAre_tmp rfl resAre_nil) ?_
    exact ⟨by simp only [retv]; rw [vx_bad (by rintro ⟨h1, h2, h3, h4, h5⟩; first | omega | simp_all)], hst.ext.const hk0 (hst.get (k := 0) rfl)⟩
  rw [hc5] at hfr
  try simp only [Bool.not_eq_true', Bool.not_eq_false', decide_eq_true_eq, decide_eq_false_iff_not] at hc5
  refine wc_seq_region fun K9 hK9 => ?_
  refine wl_v hfr (by decide) (v_move rfl) ?_
  clear hfr
  intro a hfr
  refine wl_v hfr (by decide) (v_eq rfl rfl) ?_
  clear hfr
  intro a hfr
  refine wl_v hfr (by decide) (v_assign rfl) ?_
  clear hfr
  intro a hfr
  refine wl_nil (hK9 _ _ ?_)
  refine wc_cond hfr rfl (fun hc6 => ?_) (fun hc6 => ?_)
  · rw [hc6] at hfr
    try simp only [Bool.not_eq_true', Bool.not_eq_false', decide_eq_true_eq, decide_eq_false_iff_not] at hc6
    obtain rfl : m = 0 := by omega
    refine wc_seq_region fun K10 hK10 => ?_
    refine wl_v hfr (by decide) (v_move rfl) ?_
    clear hfr
    intro a hfr
    refine wl_v hfr (by decide) ((v_len_sl (sT := 22) (hlv.grow (hst.ext.const hk0 (hst.get (k := 0) rfl))) rfl rfl (Tryd.runUnderlying22 _)).asi (m' := (ls.length : Int)) (by simp)) ?_
    clear hfr
    intro a hfr
    refine wl_v hfr (by decide) (v_eq rfl rfl) ?_
    clear hfr
    intro a hfr
    refine wl_v hfr (by decide) (v_move rfl) ?_
    clear hfr
    intro a hfr
    rcases Bool.eq_false_or_eq_true (decide ((ls.length : Int) = 0)) with hb7 | hb7
    · rw [hb7] at hfr
      try simp only [Bool.not_eq_true', Bool.not_eq_false', decide_eq_true_eq, decide_eq_false_iff_not] at hb7
      refine wl_vy hfr (by decide) rfl (by decide) rfl (v_move rfl) ?_
      clear hfr
      intro a hfr
      refine wl_callpy hfr hst (by decide) rfl (by decide) rfl Tryd.call30 rfl (sum_ok [] _ (hst.get (k := 0) rfl) (by simp)) ?_
      clear hfr hst
      intro a w4 hfr hst
      refine wl_vy hfr (by decide) rfl (by decide) rfl (v_seq rfl rfl) ?_
      clear hfr
      intro a hfr
      refine wl_v hfr (by decide) (v_pick_t rfl rfl) ?_
      clear hfr
      intro a hfr
      refine wl_v hfr (by decide) (v_assign rfl) ?_
      clear hfr
      intro a hfr
      refine wl_nil (hK10 _ _ ?_)
      replace hfr : Fr 137 [(0, _), (1, _), (2, _), (3, _), (4, _), (10, _)] [] a := hfr.pick [0, 1, 2, 3, 4, 10]
      refine wc_ret ?_
      refine fin_ret hfr Tryd.results23 (resAre_tmp rfl resAre_nil) ?_
      exact ⟨by simp only [retv]; rw [vx_zero hall (by omega) (by omega) (by omega)]; rw [decide_eq_true (show ls.length = 0 by omega), Bool.true_and], hst.ext.const hk0 (hst.get (k := 0) rfl)⟩
    rw [hb7] at hfr
    try simp only [Bool.not_eq_true', Bool.not_eq_false', decide_eq_true_eq, decide_eq_false_iff_not] at hb7
    refine wl_vn hfr (by decide) rfl (by decide) rfl rfl ?_
    clear hfr
    intro a hfr
    refine wl_vn hfr (by decide) rfl (by decide) rfl rfl ?_
    clear hfr
    intro a hfr
    refine wl_vn hfr (by decide) rfl (by decide) rfl rfl ?_
    clear hfr
    intro a hfr
    refine wl_v hfr (by decide) (v_pick_f rfl rfl) ?_
    clear hfr
    intro a hfr
    refine wl_v hfr (by decide) (v_assign rfl) ?_
    clear hfr
    intro a hfr
    refine wl_nil (hK10 _ _ ?_)
    replace hfr : Fr 137 [(0, _), (1, _), (2, _), (3, _), (4, _), (10, _)] [] a := hfr.pick [0, 1, 2, 3, 4, 10]
    refine wc_ret ?_
    refine fin_ret hfr Tryd.results23 (resAre_tmp rfl resAre_nil) ?_
    exact ⟨by simp only [retv]; rw [vx_zero hall (by omega) (by omega) (by omega)]; rw [decide_eq_false (show ¬ ls.length = 0 by omega), Bool.false_and], hst.ext.const hk0 (hst.get (k := 0) rfl)⟩
  rw [hc6] at hfr
  try simp only [Bool.not_eq_true', Bool.not_eq_false', decide_eq_true_eq, decide_eq_false_iff_not] at hc6
  refine wc_seq_region fun K11 hK11 => ?_
  refine wl_v hfr (by decide) (v_move rfl) ?_
  clear hfr
  intro a hfr
  refine wl_v hfr (by decide) (v_move rfl) ?_
  clear hfr
  intro a hfr
  refine wl_v hfr (by decide) (v_eq rfl rfl) ?_
  clear hfr
  intro a hfr
  refine wl_v hfr (by decide) (v_assign rfl) ?_
  clear hfr
  intro a hfr
  refine wl_nil (hK11 _ _ ?_)
  replace hfr : Fr 137 [(0, _), (1, _), (2, _), (3, _), (4, _), (10, _), (55, _)] [] a := hfr.pick [0, 1, 2, 3, 4, 10, 55]
  refine wc_cond hfr rfl (fun hc8 => ?_) (fun hc8 => ?_)
  · rw [hc8] at hfr
    try simp only [Bool.not_eq_true', Bool.not_eq_false', decide_eq_true_eq, decide_eq_false_iff_not] at hc8
    obtain rfl : m = n := by omega
    refine wc_seq_region fun K12 hK12 => ?_
    refine wl_v hfr (by decide) (v_move rfl) ?_
    clear hfr
    intro a hfr
    refine wl_v hfr (by decide) ((v_len_sl (sT := 22) (hlv.grow (hst.ext.const hk0 (hst.get (k := 0) rfl))) rfl rfl (Tryd.runUnderlying22 _)).asi (m' := (ls.length : Int)) (by simp)) ?_
    clear hfr
    intro a hfr
    refine wl_v hfr (by decide) (v_eq rfl rfl) ?_
    clear hfr
    intro a hfr
    refine wl_v hfr (by decide) (v_move rfl) ?_
    clear hfr
    intro a hfr
    rcases Bool.eq_false_or_eq_true (decide ((ls.length : Int) = 0)) with hb9 | hb9
    · rw [hb9] at hfr
      try simp only [Bool.not_eq_true', Bool.not_eq_false', decide_eq_true_eq, decide_eq_false_iff_not] at hb9
      refine wl_vy hfr (by decide) rfl (by decide) rfl (v_move rfl) ?_
      clear hfr
      intro a hfr
      refine wl_vy hfr (by decide) rfl (by decide) rfl (v_move rfl) ?_
      clear hfr
      intro a hfr
      refine wl_vy hfr (by decide) rfl (by decide) rfl (v_seq rfl rfl) ?_
      clear hfr
      intro a hfr
      refine wl_v hfr (by decide) (v_pick_t rfl rfl) ?_
      clear hfr
      intro a hfr
      refine wl_v hfr (by decide) (v_assign rfl) ?_
      clear hfr
      intro a hfr
      refine wl_nil (hK12 _ _ ?_)
      replace hfr : Fr 137 [(0, _), (1, _), (2, _), (3, _), (4, _), (10, _)] [] a := hfr.pick [0, 1, 2, 3, 4, 10]
      refine wc_ret ?_
      refine fin_ret hfr Tryd.results23 (resAre_tmp rfl resAre_nil) ?_
      exact ⟨by simp only [retv]; rw [vx_same hall (by omega) (by omega) (by omega)]; rw [decide_eq_true (show ls.length = 0 by omega), Bool.true_and], hst.ext.const hk0 (hst.get (k := 0) rfl)⟩
    rw [hb9] at hfr
    try simp only [Bool.not_eq_true', Bool.not_eq_false', decide_eq_true_eq, decide_eq_false_iff_not] at hb9
    refine wl_vn hfr (by decide) rfl (by decide) rfl rfl ?_
    clear hfr
    intro a hfr
    refine wl_vn hfr (by decide) rfl (by decide) rfl rfl ?_
    clear hfr
    intro a hfr
    refine wl_vn hfr (by decide) rfl (by decide) rfl rfl ?_
    clear hfr
    intro a hfr
    refine wl_v hfr (by decide) (v_pick_f rfl rfl) ?_
    clear hfr
    intro a hfr
    refine wl_v hfr (by decide) (v_assign rfl) ?_
    clear hfr
    intro a hfr
    refine wl_nil (hK12 _ _ ?_)
    replace hfr : Fr 137 [(0, _), (1, _), (2, _), (3, _), (4, _), (10, _)] [] a := hfr.pick [0, 1, 2, 3, 4, 10]
    refine wc_ret ?_
    refine fin_ret hfr Tryd.results23 (resAre_tmp rfl resAre_nil) ?_
    exact ⟨by simp only [retv]; rw [vx_same hall (by omega) (by omega) (by omega)]; rw [decide_eq_false (show ¬ ls.length = 0 by omega), Bool.false_and], hst.ext.const hk0 (hst.get (k := 0) rfl)⟩
  rw [hc8] at hfr
  try simp only [Bool.not_eq_true', Bool.not_eq_false', decide_eq_true_eq, decide_eq_false_iff_not] at hc8
  refine wc_skip ?_
  refine hK2 _ _ ?_
  refine wc_seq_region fun K13 hK13 => ?_
  refine wl_v hfr (by decide) (v_assign rfl) ?_
  clear hfr
  intro a hfr
  refine wl_nil (hK13 _ _ ?_)
  refine wc_seq_region fun K14 hK14 => ?_
  refine wl_v hfr (by decide) (v_assign rfl) ?_
  clear hfr
  intro a hfr
  refine wl_nil (hK14 _ _ ?_)
  refine wc_seq_k fun K15 hK15 => ?_
  refine wc_block ?_
  obtain ⟨mm, rfl⟩ := Int.eq_ofNat_of_zero_le (show 0 ≤ m by omega)
  obtain ⟨nn, rfl⟩ := Int.eq_ofNat_of_zero_le (show 0 ≤ n by omega)
  have hl32 := all32 hall
  have hold : old.length = 32 := by omega
  have hroot : root.length = 32 := by omega
  replace hst : St (· = 0) w0 [own (.slice none 0 0) 58 2 (([] : List (By × Bool)).map fun x : By × Bool => [sv x.1, .bool x.2]), blk 0 (kOf.map wv) 88] w3 := hst.nil_own
  refine wc_loop (fun m a w => ∃ (cm : Nat) (cn : Nat) (pz : Value) (cp : List By) (wh : Bool) (way : List (By × Bool)) (u : Value), m = cp.length ∧ (SlAt w0 pz 1 (cp.map fun s => [sv s])) ∧ (1 ≤ cm) ∧ (cm ≤ cn) ∧ (cn ≤ 9223372036854775807) ∧ (way.length + cp.length ≤ 1000) ∧ (∀ x ∈ cp, x.length = 32) ∧ (∀ x ∈ way, x.1.length = 32) ∧ (bothH sha old mm nn ls true = (way.foldr fstH (bothH sha old cm cn cp wh).1, way.foldr joinH (bothH sha old cm cn cp wh).2.1, (bothH sha old cm cn cp wh).2.2)) ∧ Fr 137 [(0, sv old), (2, sv root), (1, .int .i64 (cm : Int)), (3, .int .i64 (cn : Int)), (4, pz), (11, u), (12, .bool wh)] [] a ∧ St (· = 0) w0 [own u 58 2 (way.map fun x : By × Bool => [sv x.1, .bool x.2]), blk 0 (kOf.map wv) 88] w) _ ⟨mm, nn, lv, ls, true, [], .slice none 0 0, rfl, hlv, (by omega), (by omega), (by omega), (by simp; omega), hl32, (by simp), rfl, hfr.pick [0, 2, 1, 3, 4, 11, 12], hst.select [0, 1] (by decide)⟩ ?_
  rintro _ a w5 ⟨cm, cn, pz, cp, wh, way, u, rfl, hpv, hc0, hc1, hc2, hc3, hcp, hway, hval, hfr, hst⟩
  refine wc_seq_k fun K16 hK16 => ?_
  refine wc_seq_region fun K17 hK17 => ?_
  refine wl_v hfr (by decide) (v_move rfl) ?_
  clear hfr
  intro a hfr
  refine wl_v hfr (by decide) (v_move rfl) ?_
  clear hfr
  intro a hfr
  refine wl_v hfr (by decide) (v_lt rfl rfl) ?_
  clear hfr
  intro a hfr
  refine wl_nil (hK17 _ _ ?_)
  refine wc_cond hfr rfl (fun hc10 => ?_) (fun hc10 => ?_)
  · rw [hc10] at hfr
    try simp only [Bool.not_eq_true', Bool.not_eq_false', decide_eq_true_eq, decide_eq_false_iff_not] at hc10
    refine wc_skip ?_
    refine hK16 _ _ ?_
    refine wc_block ?_
    refine wc_seq_region fun K18 hK18 => ?_
    refine wl_v hfr (by decide) (v_move rfl) ?_
    clear hfr
    intro a hfr
    rcases Bool.eq_false_or_eq_true (decide (cp.length = 0)) with hb11 | hb11
    · try simp only [Bool.not_eq_true', Bool.not_eq_false', decide_eq_true_eq, decide_eq_false_iff_not] at hb11
      refine wl_callp hfr hst (by decide) Tryd.call46 rfl (take_emp pz cp _ (hpv.grow (hst.ext.const hk0 (hst.get (k := 1) rfl))) (by omega)) ?_
      clear hfr hst
      intro a w6 hfr hst
      refine wl_v hfr (by decide) (v_move rfl) ?_
      clear hfr
      intro a hfr
      refine wl_v hfr (by decide) (v_extract rfl rfl) ?_
      clear hfr
      intro a hfr
      refine wl_v hfr (by decide) (v_extract rfl rfl) ?_
      clear hfr
      intro a hfr
      refine wl_v hfr (by decide) (v_extract rfl rfl) ?_
      clear hfr
      intro a hfr
      refine wl_v hfr (by decide) (v_assign rfl) ?_
      clear hfr
      intro a hfr
      refine wl_v hfr (by decide) (v_assign rfl) ?_
      clear hfr
      intro a hfr
      refine wl_v hfr (by decide) (v_assign rfl) ?_
      clear hfr
      intro a hfr
      refine wl_nil (hK18 _ _ ?_)
      replace hfr : Fr 137 [(0, _), (2, _), (1, _), (3, _), (4, _), (11, _), (12, _), (13, _), (14, _), (15, _)] [] a := hfr.pick [0, 2, 1, 3, 4, 11, 12, 13, 14, 15]
      refine wc_seq_k fun K19 hK19 => ?_
      refine wc_seq_region fun K20 hK20 => ?_
      refine wl_v hfr (by decide) (v_move rfl) ?_
      clear hfr
      intro a hfr
      refine wl_v hfr (by decide) ((v_not rfl).asb (b' := true) rfl) ?_
      clear hfr
      intro a hfr
      refine wl_nil (hK20 _ _ ?_)
      refine wc_cond_t hfr rfl ?_
      refine wc_seq_region fun K21 hK21 => ?_
      refine wl_v hfr (by decide) (v_assign rfl) ?_
      clear hfr
      intro a hfr
      refine wl_nil (hK21 _ _ ?_)
      refine wc_ret ?_
      refine fin_ret hfr Tryd.results23 (resAre_tmp rfl resAre_nil) ?_
      exact ⟨by simp only [retv]; rw [vx_fail hall hold hroot (by omega) (by omega) hval (by omega) (by omega)], hst.ext.const hk0 (hst.get (k := 1) rfl)⟩
    try simp only [Bool.not_eq_true', Bool.not_eq_false', decide_eq_true_eq, decide_eq_false_iff_not] at hb11
    have hlt := lft_lt (n := cn) (by omega)
    have hlp := lft_pos cn
    have hx32 : (cp.getD (cp.length - 1) []).length = 32 := hcp _ (getD_mem (by omega))
    refine wl_callp hfr hst (by decide) Tryd.call46 rfl (take_ok pz cp _ (hpv.grow (hst.ext.const hk0 (hst.get (k := 1) rfl))) (by omega)) ?_
    clear hfr hst
    intro a w7 hfr hst
    refine wl_v hfr (by decide) (v_move rfl) ?_
    clear hfr
    intro a hfr
    refine wl_v hfr (by decide) (v_extract rfl rfl) ?_
    clear hfr
    intro a hfr
    refine wl_v hfr (by decide) (v_extract rfl rfl) ?_
    clear hfr
    intro a hfr
    refine wl_v hfr (by decide) (v_extract rfl rfl) ?_
    clear hfr
    intro a hfr
    refine wl_v hfr (by decide) (v_assign rfl) ?_
    clear hfr
    intro a hfr
    refine wl_v hfr (by decide) (v_assign rfl) ?_
    clear hfr
    intro a hfr
    refine wl_v hfr (by decide) (v_assign rfl) ?_
    clear hfr
    intro a hfr
    refine wl_nil (hK18 _ _ ?_)
    replace hfr : Fr 137 [(0, _), (2, _), (1, _), (3, _), (4, _), (11, _), (12, _), (13, _), (14, _), (15, _)] [] a := hfr.pick [0, 2, 1, 3, 4, 11, 12, 13, 14, 15]
    refine wc_seq_k fun K22 hK22 => ?_
    refine wc_seq_region fun K23 hK23 => ?_
    refine wl_v hfr (by decide) (v_move rfl) ?_
    clear hfr
    intro a hfr
    refine wl_v hfr (by decide) ((v_not rfl).asb (b' := false) rfl) ?_
    clear hfr
    intro a hfr
    refine wl_nil (hK23 _ _ ?_)
    refine wc_cond_f hfr rfl ?_
    refine wc_skip ?_
    refine hK22 _ _ ?_
    refine wc_seq_region fun K24 hK24 => ?_
    refine wl_v hfr (by decide) (v_move rfl) ?_
    clear hfr
    intro a hfr
    refine wl_v hfr (by decide) (v_assign rfl) ?_
    clear hfr
    intro a hfr
    refine wl_nil (hK24 _ _ ?_)
    refine wc_seq_region fun K25 hK25 => ?_
    refine wl_v hfr (by decide) (v_move rfl) ?_
    clear hfr
    intro a hfr
    refine wl_callp hfr hst (by decide) Tryd.call40 rfl (left_ok cn _ (by omega) (by omega)) ?_
    clear hfr hst
    intro a w8 hfr hst
    refine wl_v hfr (by decide) (v_assign rfl) ?_
    clear hfr
    intro a hfr
    refine wl_nil (hK25 _ _ ?_)
    replace hfr : Fr 137 [(0, _), (2, _), (1, _), (3, _), (11, _), (12, _), (13, _), (4, _), (16, _)] [] a := hfr.pick [0, 2, 1, 3, 11, 12, 13, 4, 16]
    refine wc_seq_region fun K26 hK26 => ?_
    refine wl_v hfr (by decide) (v_move rfl) ?_
    clear hfr
    intro a hfr
    refine wl_v hfr (by decide) (v_move rfl) ?_
    clear hfr
    intro a hfr
    refine wl_v hfr (by decide) (v_move rfl) ?_
    clear hfr
    intro a hfr
    refine wl_v hfr (by decide) (v_move rfl) ?_
    clear hfr
    intro a hfr
    refine wl_v hfr (by decide) (v_gt rfl rfl) ?_
    clear hfr
    intro a hfr
    refine wl_v hfr (by decide) (v_build (v := .agg #[sv (cp.getD (cp.length - 1) []), .bool (decide ((lft cn : Int) < (cm : Int)))]) rfl (by kernel_rfl)) ?_
    clear hfr
    intro a hfr
    refine wl_buildSlice (E := 58) (sz := 2) rfl [[sv (cp.getD (cp.length - 1) []), .bool (decide ((lft cn : Int) < (cm : Int)))]] (by kernel_rfl) (by simp) rfl (by decide) (by decide) hfr hst ?_
    clear hfr hst
    intro a w9 hfr hst
    refine wl_append (i := 1) (sT := 54) (inf := Tryd.t58) (z := .agg #[.string (⟨#[]⟩), .bool false]) (b := 0) (off := 0) (m := 0) (c := 0) rfl rfl rfl (hst.ownAt (i := 0) rfl) (by simp) Tryd.underlying54 rfl rfl rfl rfl (by decide) (by simp [Value.oneCell', yv, wv, sv]) (by have hby : Tryd.t58.bytes = 24 := rfl; simp only [big, hby, List.length_append, List.length_map, List.length_cons, List.length_nil]; omega) (by have hby : Tryd.t58.bytes = 24 := rfl; simp only [big, hby, List.length_append, List.length_map, List.length_cons, List.length_nil]; omega) (by decide) hfr hst fun a w10 s12 hfr hst _ => ?_
    refine wl_v hfr (by decide) (v_assign rfl) ?_
    clear hfr
    intro a hfr
    refine wl_nil (hK26 _ _ ?_)
    replace hfr : Fr 137 [(0, _), (2, _), (1, _), (3, _), (12, _), (4, _), (16, _), (11, _)] [] a := hfr.pick [0, 2, 1, 3, 12, 4, 16, 11]
    replace hst : St (· = 0) w0 [_, _] w10 := hst.mask [false, true, true]
    refine wc_seq_region fun K27 hK27 => ?_
    refine wl_v hfr (by decide) (v_move rfl) ?_
    clear hfr
    intro a hfr
    refine wl_v hfr (by decide) (v_move rfl) ?_
    clear hfr
    intro a hfr
    refine wl_v hfr (by decide) (v_gt rfl rfl) ?_
    clear hfr
    intro a hfr
    refine wl_nil (hK27 _ _ ?_)
    refine wc_cond hfr rfl (fun hc13 => ?_) (fun hc13 => ?_)
    · rw [hc13] at hfr
      try simp only [Bool.not_eq_true', Bool.not_eq_false', decide_eq_true_eq, decide_eq_false_iff_not] at hc13
      refine wc_region ?_
      refine wl_v hfr (by decide) (v_move rfl) ?_
      clear hfr
      intro a hfr
      refine wl_v hfr (by decide) (v_move rfl) ?_
      clear hfr
      intro a hfr
      refine wl_v hfr (by decide) ((v_sub rfl rfl ⟨by omega, by omega⟩).asi (m' := ((cm - lft cn : Nat) : Int)) (by omega)) ?_
      clear hfr
      intro a hfr
      refine wl_v hfr (by decide) (v_move rfl) ?_
      clear hfr
      intro a hfr
      refine wl_v hfr (by decide) (v_move rfl) ?_
      clear hfr
      intro a hfr
      refine wl_v hfr (by decide) ((v_sub rfl rfl ⟨by omega, by omega⟩).asi (m' := ((cn - lft cn : Nat) : Int)) (by omega)) ?_
      clear hfr
      intro a hfr
      refine wl_v hfr (by decide) (v_assign rfl) ?_
      clear hfr
      intro a hfr
      refine wl_v hfr (by decide) (v_assign rfl) ?_
      clear hfr
      intro a hfr
      refine wl_v hfr (by decide) (v_assign rfl) ?_
      clear hfr
      intro a hfr
      refine wl_nil ?_
      rw [show (way.map fun x : By × Bool => [sv x.1, .bool x.2]) ++ ([[sv (cp.getD (cp.length - 1) []), .bool (decide ((lft cn : Int) < (cm : Int)))]]) = ((way ++ [(cp.getD (cp.length - 1) [], true)]).map fun x : By × Bool => [sv x.1, .bool x.2]) from by rw [decide_eq_true (by omega)]; simp] at hst
      have hm1 : (cp.take (cp.length - 1)).length < cp.length := by rw [List.length_take]; omega
      refine ⟨_, ?_, (cm - lft cn), (cn - lft cn), (cut pz 1 0 (cp.length - 1) (slCap pz)), (cp.take (cp.length - 1)), false, (way ++ [(cp.getD (cp.length - 1) [], true)]), s12, rfl, hpv.cut0 (h := cp.length - 1) (by omega), (by omega), (by omega), (by omega), (by rw [List.length_append, List.length_take, List.length_singleton]; omega), (fun x h => hcp x (List.mem_of_mem_take h)), (by intro x h; rcases List.mem_append.1 h with h | h; exact hway x h; rw [List.mem_singleton.1 h]; exact hx32), (by rw [hval, both_right (by omega) (by omega) (by omega)]; simp), hfr.pick [0, 2, 1, 3, 4, 11, 12], hst.select [0, 1] (by decide)⟩
      omega
    rw [hc13] at hfr
    try simp only [Bool.not_eq_true', Bool.not_eq_false', decide_eq_true_eq, decide_eq_false_iff_not] at hc13
    refine wc_region ?_
    refine wl_v hfr (by decide) (v_move rfl) ?_
    clear hfr
    intro a hfr
    refine wl_v hfr (by decide) (v_assign rfl) ?_
    clear hfr
    intro a hfr
    refine wl_nil ?_
    rw [show (way.map fun x : By × Bool => [sv x.1, .bool x.2]) ++ ([[sv (cp.getD (cp.length - 1) []), .bool (decide ((lft cn : Int) < (cm : Int)))]]) = ((way ++ [(cp.getD (cp.length - 1) [], false)]).map fun x : By × Bool => [sv x.1, .bool x.2]) from by rw [decide_eq_false (by omega)]; simp] at hst
    have hm1 : (cp.take (cp.length - 1)).length < cp.length := by rw [List.length_take]; omega
    refine ⟨_, ?_, cm, (lft cn), (cut pz 1 0 (cp.length - 1) (slCap pz)), (cp.take (cp.length - 1)), wh, (way ++ [(cp.getD (cp.length - 1) [], false)]), s12, rfl, hpv.cut0 (h := cp.length - 1) (by omega), (by omega), (by omega), (by omega), (by rw [List.length_append, List.length_take, List.length_singleton]; omega), (fun x h => hcp x (List.mem_of_mem_take h)), (by intro x h; rcases List.mem_append.1 h with h | h; exact hway x h; rw [List.mem_singleton.1 h]; exact hx32), (by rw [hval, both_left (by omega) (by omega) (by omega)]; simp), hfr.pick [0, 2, 1, 3, 4, 11, 12], hst.select [0, 1] (by decide)⟩
    omega
  rw [hc10] at hfr
  try simp only [Bool.not_eq_true', Bool.not_eq_false', decide_eq_true_eq, decide_eq_false_iff_not] at hc10
  refine wc_exit ?_
  refine hK15 _ _ ?_
  refine wc_seq_region fun K28 hK28 => ?_
  refine wl_v hfr (by decide) (v_move rfl) ?_
  clear hfr
  intro a hfr
  refine wl_v hfr (by decide) (v_move rfl) ?_
  clear hfr
  intro a hfr
  refine wl_alloc hfr hst (by decide) (Tryd.zeroValue9 _) (cs := [.string (⟨#[]⟩)]) rfl ?_
  clear hfr hst
  intro a w11 hfr hst
  refine wl_alloc hfr hst (by decide) (Tryd.zeroValue9 _) (cs := [.string (⟨#[]⟩)]) rfl ?_
  clear hfr hst
  intro a w12 hfr hst
  refine wl_store 1 hfr hst rfl rfl rfl (Tryd.sizeOf9 _) rfl (Nat.le_of_ble_eq_true rfl) (ds := [sv old]) rfl rfl ?_
  clear hfr hst
  intro a w13 hfr hst
  refine wl_store 0 hfr hst rfl rfl rfl (Tryd.sizeOf9 _) rfl (Nat.le_of_ble_eq_true rfl) (ds := [sv old]) rfl rfl ?_
  clear hfr hst
  intro a w14 hfr hst
  refine wl_nil (hK28 _ _ ?_)
  replace hfr : Fr 137 [(0, _), (2, _), (4, _), (11, _), (12, _), (17, _), (18, _)] [] a := hfr.pick [0, 2, 4, 11, 12, 17, 18]
  refine wc_seq_k fun K29 hK29 => ?_
  refine wc_seq_region fun K30 hK30 => ?_
  refine wl_v hfr (by decide) (v_move rfl) ?_
  clear hfr
  intro a hfr
  refine wl_v hfr (by decide) (v_not rfl) ?_
  clear hfr
  intro a hfr
  refine wl_nil (hK30 _ _ ?_)
  refine wc_cond hfr rfl (fun hc14 => ?_) (fun hc14 => ?_)
  · rw [hc14] at hfr
    try simp only [Bool.not_eq_true', Bool.not_eq_false', decide_eq_true_eq, decide_eq_false_iff_not] at hc14
    have hwh := hc14
    refine wc_seq_k fun K31 hK31 => ?_
    refine wc_seq_region fun K32 hK32 => ?_
    refine wl_v hfr (by decide) (v_move rfl) ?_
    clear hfr
    intro a hfr
    refine wl_v hfr (by decide) ((v_len_sl (sT := 22) (hpv.grow (hst.ext.const hk0 (hst.get (k := 3) rfl))) rfl rfl (Tryd.runUnderlying22 _)).asi (m' := (cp.length : Int)) (by simp)) ?_
    clear hfr
    intro a hfr
    refine wl_v hfr (by decide) (v_ne rfl rfl) ?_
    clear hfr
    intro a hfr
    refine wl_nil (hK32 _ _ ?_)
    refine wc_cond hfr rfl (fun hc15 => ?_) (fun hc15 => ?_)
    · rw [hc15] at hfr
      try simp only [Bool.not_eq_true', Bool.not_eq_false', decide_eq_true_eq, decide_eq_false_iff_not] at hc15
      refine wc_seq_region fun K33 hK33 => ?_
      refine wl_v hfr (by decide) (v_assign rfl) ?_
      clear hfr
      intro a hfr
      refine wl_nil (hK33 _ _ ?_)
      replace hfr : Fr 137 [(0, _), (2, _), (4, _), (11, _), (17, _), (18, _), (10, _)] [] a := hfr.pick [0, 2, 4, 11, 17, 18, 10]
      refine wc_ret ?_
      refine fin_ret hfr Tryd.results23 (resAre_tmp rfl resAre_nil) ?_
      exact ⟨by simp only [retv]; rw [vx_odd hall hold hroot (by omega) (by omega) hval hwh (by omega) (by omega)], hst.ext.const hk0 (hst.get (k := 3) rfl)⟩
    rw [hc15] at hfr
    try simp only [Bool.not_eq_true', Bool.not_eq_false', decide_eq_true_eq, decide_eq_false_iff_not] at hc15
    refine wc_skip ?_
    refine hK31 _ _ ?_
    refine wc_of_dr (by kernel_rfl) (dr_of_wd (by kernel_rfl) fun w15 hxz => ?_)
    replace hst : St (· = 0) w0 [blk w11.heap.size [sv old] 9, blk w5.heap.size [sv old] 9, own u 58 2 (way.map fun x : By × Bool => [sv x.1, .bool x.2]), blk 0 (kOf.map wv) 88] w15 := hst.grow hxz
    refine wd_sub (k := 0) 7 [5, 6] hfr (by kernel_rfl) (by kernel_rfl) (by kernel_rfl) (by rfl) ?_
    replace hfr : Fr 137 [(0, _), (2, _), (4, _), (11, _), (12, _), (17, _), (18, _), (101, _), (102, _), (103, _), (104, _), (105, _)] [] a := hfr.pick [0, 2, 4, 11, 12, 17, 18, 101, 102, 103, 104, 105]
    replace hst : St (· = 0) w0 [blk w5.heap.size [sv old] 9, blk w11.heap.size [sv old] 9, own u 58 2 (way.map fun x : By × Bool => [sv x.1, .bool x.2]), blk 0 (kOf.map wv) 88] w15 := hst.select [1, 0, 2, 3] (by decide)
    refine wc_phases_set [6] (fun q => if q = 6 then blk w5.heap.size [sv old] 9 else join []) (fun q => if q = 6 then blk w5.heap.size [sv (cp.getD 0 [])] 9 else join []) 7 [[], [0], [1], [], [3], [4], [2]] (fun i => match i with | 0 => pv (pz) | 1 => pv (slAddr pz (0 * 1)) | 2 => pv (sv (cp.getD 0 [])) | 3 => pv (pz) | 4 => pv (slAddr pz (0 * 1)) | 5 => pv (sv (cp.getD 0 [])) | 6 => fun v E => v = undef ∧ E = [] | _ => fun _ _ => False) (by intro q; by_cases h6 : q = 6; (subst h6; rfl); simp only [h6, if_false]) hfr (H := [blk w11.heap.size [sv old] 9, own u 58 2 (way.map fun x : By × Bool => [sv x.1, .bool x.2]), blk 0 (kOf.map wv) 88]) hst (by kernel_rfl) (by kernel_rfl) (by kernel_rfl) (by kernel_rfl) (by decide) (by decide) ?_ ?_ ?_ ?_ ?_ ?_
    · intro i v E h
      match i, h with
      | 0, _ => exact by decide
      | 1, _ => exact by decide
      | 2, _ => exact by decide
      | 3, _ => exact by decide
      | 4, _ => exact by decide
      | 5, _ => exact by decide
      | 6, _ => exact by decide
      | i + 7, h => exact h.elim
    · intro q v E hq h
      simp only [List.mem_cons, List.not_mem_nil, or_false] at hq
      rcases hq with rfl <;> exact h
    · intro q hq
      simp only [List.mem_cons, List.not_mem_nil, or_false] at hq
      rcases hq with rfl <;> exact ⟨rfl, rfl⟩
    · intro i hi hiq e
      match i, hi, hiq with
      | 0, _, _ =>
        intro w hst
        exact OpV.g (v_move rfl)
      | 1, _, _ =>
        rintro _ _ ⟨rfl, rfl⟩
        intro w hst
        exact OpV.g ((v_indexAddr_sl (i := 0) (sT := 22) (hpv.grow (hst.ext.const hk0 (hst.get (k := 3) rfl))) rfl rfl (Tryd.runUnderlying22 _) (Tryd.sizeOf9 _) (by omega) (by rw [List.length_map]; omega)).as (v' := slAddr pz (0 * 1)) rfl)
      | 2, _, _ =>
        rintro _ _ ⟨rfl, rfl⟩
        intro w hst
        exact OpV.g (v_load_sl1 (u := sv (cp.getD 0 [])) (i := 0) (j := 0) (hpv.grow (hst.ext.const hk0 (hst.get (k := 3) rfl))) (by rw [List.length_map]; omega) rfl (Tryd.isAgg9 _) (by simp [List.getD_eq_getElem?_getD, List.getElem?_eq_getElem (show 0 < cp.length by omega)]))
      | 3, _, _ =>
        intro w hst
        exact OpV.g (v_move rfl)
      | 4, _, _ =>
        rintro _ _ ⟨rfl, rfl⟩
        intro w hst
        exact OpV.g ((v_indexAddr_sl (i := 0) (sT := 22) (hpv.grow (hst.ext.const hk0 (hst.get (k := 3) rfl))) rfl rfl (Tryd.runUnderlying22 _) (Tryd.sizeOf9 _) (by omega) (by rw [List.length_map]; omega)).as (v' := slAddr pz (0 * 1)) rfl)
      | 5, _, _ =>
        rintro _ _ ⟨rfl, rfl⟩
        intro w hst
        exact OpV.g (v_load_sl1 (u := sv (cp.getD 0 [])) (i := 0) (j := 0) (hpv.grow (hst.ext.const hk0 (hst.get (k := 3) rfl))) (by rw [List.length_map]; omega) rfl (Tryd.isAgg9 _) (by simp [List.getD_eq_getElem?_getD, List.getElem?_eq_getElem (show 0 < cp.length by omega)]))
      | 6, _, h => exact absurd (by decide) h
    · intro q hq
      simp only [List.mem_cons, List.not_mem_nil, or_false] at hq
      rcases hq with rfl
      · rintro _ _ ⟨rfl, rfl⟩
        intro w h
        exact r_storeU (cs := [sv old]) (ds := [sv (cp.getD 0 [])]) rfl rfl h (Tryd.sizeOf9 _) rfl (Nat.le_of_ble_eq_true rfl) rfl
    clear hfr hst
    rintro _ _ ⟨rfl, rfl⟩ _ _ ⟨rfl, rfl⟩ _ _ ⟨rfl, rfl⟩ _ _ ⟨rfl, rfl⟩ _ _ ⟨rfl, rfl⟩ _ _ ⟨rfl, rfl⟩ a w16 hfr hst
    replace hfr : Fr 137 [(106, _), (107, _), (108, _), (109, _), (110, _), (111, _), (0, _), (2, _), (4, _), (11, _), (12, _), (17, _), (18, _), (101, _), (102, _), (103, _), (104, _), (105, _)] [] a := hfr
    replace hst : St (· = 0) w0 [blk w5.heap.size [sv (cp.getD 0 [])] 9, blk w11.heap.size [sv old] 9, own u 58 2 (way.map fun x : By × Bool => [sv x.1, .bool x.2]), blk 0 (kOf.map wv) 88] w16 := hst
    refine wl_nil ?_
    refine wd_lin (k := 7) 9 [8] (by kernel_rfl) (by kernel_rfl) (by kernel_rfl) ?_
    refine wl_store 1 hfr hst rfl rfl rfl (Tryd.sizeOf9 _) rfl (Nat.le_of_ble_eq_true rfl) (ds := [sv (cp.getD 0 [])]) rfl rfl ?_
    clear hfr hst
    intro a w17 hfr hst
    refine wl_v hfr (by decide) (v_assign rfl) ?_
    clear hfr
    intro a hfr
    refine wl_nil ?_
    refine wd_end (by kernel_rfl) ?_
    refine hK29 _ _ ?_
    replace hfr : Fr 137 [(0, _), (2, _), (11, _), (17, _), (18, _), (4, _)] [] a := hfr.pick [0, 2, 11, 17, 18, 4]
    refine wc_seq_k fun K34 hK34 => ?_
    refine wc_seq_region fun K35 hK35 => ?_
    refine wl_v hfr (by decide) (v_move rfl) ?_
    clear hfr
    intro a hfr
    refine wl_callm hfr hst (by decide) Tryd.call47 rfl (backd_ok u _ _ (hst.ownAt (i := 2) rfl)) ?_
    clear hfr hst
    intro a w18 x16 hp hfr hst
    revert x16 hp hfr hst; rintro z1 hp hfr hst
    clear hp
    replace hst : St (· = 0) w0 [blk z1 [u] 54, blk w5.heap.size [sv (cp.getD 0 [])] 9, blk w11.heap.size [sv (cp.getD 0 [])] 9, own u 58 2 (way.map fun x : By × Bool => [sv x.1, .bool x.2]), blk 0 (kOf.map wv) 88] w18 := hst
    refine wl_nil (hK35 _ _ ?_)
    refine wc_block ?_
    have hy32 : ∀ k, k < way.length → (way.getD k ([], false)).1.length = 32 := fun k hk => hway _ (getD_mem hk)
    have hr0 : (cp.getD 0 []).length = 32 := hcp _ (getD_mem (by omega))
    replace hst : St (· = 0) w0 [blk z1 [u] 54, blk w5.heap.size [sv (([] : List Nat).foldl (fun o k => fstH (way.getD k ([], false)) o) (cp.getD 0 []))] 9, blk w11.heap.size [sv (([] : List Nat).foldl (fun o k => joinH (way.getD k ([], false)) o) (cp.getD 0 []))] 9, own u 58 2 (way.map fun x : By × Bool => [sv x.1, .bool x.2]), blk 0 (kOf.map wv) 88] w18 := hst
    replace hst : St (· = 0) w0 [blk 0 (kOf.map wv) 88, blk w5.heap.size [sv (([] : List Nat).foldl (fun o k => fstH (way.getD k ([], false)) o) (cp.getD 0 []))] 9, blk w11.heap.size [sv (([] : List Nat).foldl (fun o k => joinH (way.getD k ([], false)) o) (cp.getD 0 []))] 9, blk z1 [u] 54, own u 58 2 (way.map fun x : By × Bool => [sv x.1, .bool x.2])] w18 := hst.select [4, 1, 2, 0, 3] (by decide)
    replace hfr : Fr 137 [(0, sv old), (2, sv root), (11, u), (17, .pointer (some ⟨w5.heap.size, 0, none⟩)), (18, .pointer (some ⟨w11.heap.size, 0, none⟩)), (4, .slice none 0 0), (112, u), (113, .func (.func 63) #[] #[.pointer (some ⟨z1, 0, none⟩)])] [] a := hfr.pick [0, 2, 11, 17, 18, 4, 112, 113]
    refine wc_range (M := (· = 0)) (w0 := w0) (encs := (encD way)) (Hi := [blk z1 [u] 54, own u 58 2 (way.map fun x : By × Bool => [sv x.1, .bool x.2])]) (Hc := [blk 0 (kOf.map wv) 88, blk w5.heap.size [sv (([] : List Nat).foldl (fun o k => fstH (way.getD k ([], false)) o) (cp.getD 0 []))] 9, blk w11.heap.size [sv (([] : List Nat).foldl (fun o k => joinH (way.getD k ([], false)) o) (cp.getD 0 []))] 9]) (fun pre H => ((pre.foldl (fun o k => fstH (way.getD k ([], false)) o) (cp.getD 0 [])).length = 32 ∧ (pre.foldl (fun o k => joinH (way.getD k ([], false)) o) (cp.getD 0 [])).length = 32) ∧ H = [blk 0 (kOf.map wv) 88, blk w5.heap.size [sv (pre.foldl (fun o k => fstH (way.getD k ([], false)) o) (cp.getD 0 []))] 9, blk w11.heap.size [sv (pre.foldl (fun o k => joinH (way.getD k ([], false)) o) (cp.getD 0 []))] 9]) (fun _ _ _ => False) (fun pre xs H a => ∃ (bA0 : Nat), Fr 137 [(0, sv old), (2, sv root), (11, u), (17, .pointer (some ⟨w5.heap.size, 0, none⟩)), (18, .pointer (some ⟨w11.heap.size, 0, none⟩)), (4, .slice none 0 0), (112, u), (113, .func (.func 63) #[] #[.pointer (some ⟨z1, 0, none⟩)]), (20, .pointer (some ⟨bA0, 0, none⟩))] [] a ∧ ((pre.foldl (fun o k => fstH (way.getD k ([], false)) o) (cp.getD 0 [])).length = 32 ∧ (pre.foldl (fun o k => joinH (way.getD k ([], false)) o) (cp.getD 0 [])).length = 32) ∧ H = [blk bA0 [sv ((way.getD xs ([], false)).1), .bool ((way.getD xs ([], false)).2)] 58, blk 0 (kOf.map wv) 88, blk w5.heap.size [sv (pre.foldl (fun o k => fstH (way.getD k ([], false)) o) (cp.getD 0 []))] 9, blk w11.heap.size [sv (pre.foldl (fun o k => joinH (way.getD k ([], false)) o) (cp.getD 0 []))] 9]) rfl Tryd.call63 hfr hst (backd_iter u way z1 (by omega)) (by decide) (fun _ => rfl) ⟨⟨hr0, hr0⟩, rfl⟩ ?_ ?_ ?_ ?_
    · clear hfr hst
      rintro lp pre xs _ a w19 hnx ⟨hf32, rfl⟩ hfr hst
      generalize (join [blk 0 (kOf.map wv) 88, blk w5.heap.size [sv (pre.foldl (fun o k => fstH (way.getD k ([], false)) o) (cp.getD 0 []))] 9, blk w11.heap.size [sv (pre.foldl (fun o k => joinH (way.getD k ([], false)) o) (cp.getD 0 []))] 9]).foot = M1 at hst ⊢
      replace hfr : Fr 137 [(115, .agg #[sv ((way.getD xs ([], false)).1), .bool ((way.getD xs ([], false)).2)]), (114, .int .i64 (xs : Int)), (0, sv old), (2, sv root), (11, u), (17, .pointer (some ⟨w5.heap.size, 0, none⟩)), (18, .pointer (some ⟨w11.heap.size, 0, none⟩)), (4, .slice none 0 0), (112, u), (113, .func (.func 63) #[] #[.pointer (some ⟨z1, 0, none⟩)])] [] a := hfr
      refine wc_region ?_
      refine wl_alloc hfr hst (by decide) (Tryd.zeroValue58 _) (cs := [.string (⟨#[]⟩), .bool false]) rfl ?_
      clear hfr hst
      intro a w20 hfr hst
      refine wl_store 0 hfr hst rfl rfl rfl (Tryd.sizeOf58 _) rfl (Nat.le_of_ble_eq_true rfl) (ds := [sv ((way.getD xs ([], false)).1), .bool ((way.getD xs ([], false)).2)]) rfl rfl ?_
      clear hfr hst
      intro a w21 hfr hst
      refine wl_nil ?_
      exact ⟨_, ⟨w19.heap.size, hfr.pick [0, 2, 11, 17, 18, 4, 112, 113, 20], hf32, rfl⟩, hst⟩
    · rintro lp pre xs _ a w22 hnx ⟨bA0, hfr, hf32, rfl⟩ hrec hnl hst
      clear hrec hnl
      generalize (join [blk bA0 [sv ((way.getD xs ([], false)).1), .bool ((way.getD xs ([], false)).2)] 58, blk 0 (kOf.map wv) 88, blk w5.heap.size [sv (pre.foldl (fun o k => fstH (way.getD k ([], false)) o) (cp.getD 0 []))] 9, blk w11.heap.size [sv (pre.foldl (fun o k => joinH (way.getD k ([], false)) o) (cp.getD 0 []))] 9]).foot = M1 at hst ⊢
      refine wc_block ?_
      refine wc_seq_k fun K36 hK36 => ?_
      refine wc_seq_region fun K37 hK37 => ?_
      refine wl_v hfr (by decide) (v_fieldAddr (v := .pointer (some ⟨bA0, 1, none⟩)) rfl (by kernel_rfl)) ?_
      clear hfr
      intro a hfr
      refine wl_v hfr (by decide) (v_load_blk1 (hst.get (k := 0) rfl) rfl (Tryd.isAgg4 _) rfl) ?_
      clear hfr
      intro a hfr
      refine wl_nil (hK37 _ _ ?_)
      replace hfr : Fr 137 [(17, _), (18, _), (20, _), (117, _)] [] a := hfr.pick [17, 18, 20, 117]
      refine wc_cond hfr rfl (fun hc17 => ?_) (fun hc17 => ?_)
      · rw [hc17] at hfr
        try simp only [Bool.not_eq_true', Bool.not_eq_false', decide_eq_true_eq, decide_eq_false_iff_not] at hc17
        refine wc_region ?_
        refine wl_v hfr (by decide) (v_load_all (hst.get (k := 0) rfl) rfl (Tryd.isAgg58 _) (Tryd.sizeOf58 _)) ?_
        clear hfr
        intro a hfr
        refine wl_v hfr (by decide) (v_load_blk1 (hst.get (k := 2) rfl) rfl (Tryd.isAgg9 _) rfl) ?_
        clear hfr
        intro a hfr
        refine wl_callp hfr hst (by decide) Tryd.call48 rfl (sjoin_ok ((way.getD xs ([], false)).1) ((way.getD xs ([], false)).2) (pre.foldl (fun o k => fstH (way.getD k ([], false)) o) (cp.getD 0 [])) _ (by have := hy32 xs (by have h := hnx; unfold NxB at h; omega); omega) (by first | omega | exact Nat.le_trans (Nat.le_of_eq hf32.1) (by decide) | exact Nat.le_trans (Nat.le_of_eq hf32.2) (by decide)) (hst.get (k := 1) rfl)) ?_
        clear hfr hst
        intro a w23 hfr hst
        refine wl_store 2 hfr hst rfl rfl rfl (Tryd.sizeOf9 _) rfl (Nat.le_of_ble_eq_true rfl) (ds := [sv (joinH ((way.getD xs ([], false)).1, (way.getD xs ([], false)).2) (pre.foldl (fun o k => fstH (way.getD k ([], false)) o) (cp.getD 0 [])))]) rfl rfl ?_
        clear hfr hst
        intro a w24 hfr hst
        refine wl_nil ?_
        refine hK36 _ _ ?_
        refine wc_region ?_
        refine wl_v hfr (by decide) (v_load_all (hst.get (k := 0) rfl) rfl (Tryd.isAgg58 _) (Tryd.sizeOf58 _)) ?_
        clear hfr
        intro a hfr
        refine wl_v hfr (by decide) (v_load_blk1 (hst.get (k := 3) rfl) rfl (Tryd.isAgg9 _) rfl) ?_
        clear hfr
        intro a hfr
        refine wl_callp hfr hst (by decide) Tryd.call48 rfl (sjoin_ok ((way.getD xs ([], false)).1) ((way.getD xs ([], false)).2) (pre.foldl (fun o k => joinH (way.getD k ([], false)) o) (cp.getD 0 [])) _ (by have := hy32 xs (by have h := hnx; unfold NxB at h; omega); omega) (by first | omega | exact Nat.le_trans (Nat.le_of_eq hf32.1) (by decide) | exact Nat.le_trans (Nat.le_of_eq hf32.2) (by decide)) (hst.get (k := 1) rfl)) ?_
        clear hfr hst
        intro a w25 hfr hst
        refine wl_store 3 hfr hst rfl rfl rfl (Tryd.sizeOf9 _) rfl (Nat.le_of_ble_eq_true rfl) (ds := [sv (joinH ((way.getD xs ([], false)).1, (way.getD xs ([], false)).2) (pre.foldl (fun o k => joinH (way.getD k ([], false)) o) (cp.getD 0 [])))]) rfl rfl ?_
        clear hfr hst
        intro a w26 hfr hst
        refine wl_nil ?_
        have hF : joinH ((way.getD xs ([], false)).1, (way.getD xs ([], false)).2) (pre.foldl (fun o k => fstH (way.getD k ([], false)) o) (cp.getD 0 [])) = (pre ++ [xs]).foldl (fun o k => fstH (way.getD k ([], false)) o) (cp.getD 0 []) := by rw [List.foldl_append]; exact ((if_pos (c := (way.getD xs ([], false)).2 = true) hc17)).symm
        have hJ : joinH ((way.getD xs ([], false)).1, (way.getD xs ([], false)).2) (pre.foldl (fun o k => joinH (way.getD k ([], false)) o) (cp.getD 0 [])) = (pre ++ [xs]).foldl (fun o k => joinH (way.getD k ([], false)) o) (cp.getD 0 []) := by rw [List.foldl_append]; rfl
        rw [hF, hJ] at hst
        exact ⟨_, ⟨⟨by rw [List.foldl_append]; exact fst_len hf32.1, by rw [List.foldl_append]; exact sha_len _⟩, rfl⟩, hst.select [1, 2, 3] (by decide)⟩
      rw [hc17] at hfr
      try simp only [Bool.not_eq_true', Bool.not_eq_false', decide_eq_true_eq, decide_eq_false_iff_not] at hc17
      refine wc_skip ?_
      refine hK36 _ _ ?_
      refine wc_region ?_
      refine wl_v hfr (by decide) (v_load_all (hst.get (k := 0) rfl) rfl (Tryd.isAgg58 _) (Tryd.sizeOf58 _)) ?_
      clear hfr
      intro a hfr
      refine wl_v hfr (by decide) (v_load_blk1 (hst.get (k := 3) rfl) rfl (Tryd.isAgg9 _) rfl) ?_
      clear hfr
      intro a hfr
      refine wl_callp hfr hst (by decide) Tryd.call48 rfl (sjoin_ok ((way.getD xs ([], false)).1) ((way.getD xs ([], false)).2) (pre.foldl (fun o k => joinH (way.getD k ([], false)) o) (cp.getD 0 [])) _ (by have := hy32 xs (by have h := hnx; unfold NxB at h; omega); omega) (by first | omega | exact Nat.le_trans (Nat.le_of_eq hf32.1) (by decide) | exact Nat.le_trans (Nat.le_of_eq hf32.2) (by decide)) (hst.get (k := 1) rfl)) ?_
      clear hfr hst
      intro a w27 hfr hst
      refine wl_store 3 hfr hst rfl rfl rfl (Tryd.sizeOf9 _) rfl (Nat.le_of_ble_eq_true rfl) (ds := [sv (joinH ((way.getD xs ([], false)).1, (way.getD xs ([], false)).2) (pre.foldl (fun o k => joinH (way.getD k ([], false)) o) (cp.getD 0 [])))]) rfl rfl ?_
      clear hfr hst
      intro a w28 hfr hst
      refine wl_nil ?_
      have hF : pre.foldl (fun o k => fstH (way.getD k ([], false)) o) (cp.getD 0 []) = (pre ++ [xs]).foldl (fun o k => fstH (way.getD k ([], false)) o) (cp.getD 0 []) := by rw [List.foldl_append]; exact ((if_neg (c := (way.getD xs ([], false)).2 = true) (by rw [hc17]; decide))).symm
      have hJ : joinH ((way.getD xs ([], false)).1, (way.getD xs ([], false)).2) (pre.foldl (fun o k => joinH (way.getD k ([], false)) o) (cp.getD 0 [])) = (pre ++ [xs]).foldl (fun o k => joinH (way.getD k ([], false)) o) (cp.getD 0 []) := by rw [List.foldl_append]; rfl
      rw [hF, hJ] at hst
      exact ⟨_, ⟨⟨by rw [List.foldl_append]; exact fst_len hf32.1, by rw [List.foldl_append]; exact sha_len _⟩, rfl⟩, hst.select [1, 2, 3] (by decide)⟩
    · rintro D pre _ _ a w29 ⟨rfl, rfl⟩ ⟨hf32, rfl⟩ hst hfr
      replace hfr : Fr 137 [(0, sv old), (2, sv root), (11, u), (17, .pointer (some ⟨w5.heap.size, 0, none⟩)), (18, .pointer (some ⟨w11.heap.size, 0, none⟩)), (4, .slice none 0 0), (112, u), (113, .func (.func 63) #[] #[.pointer (some ⟨z1, 0, none⟩)])] [{ target := .collected D, args := #[] }] a := hfr
      replace hst : St (· = 0) w0 [obj D (.deferred (some [])), blk 0 (kOf.map wv) 88, blk w5.heap.size [sv ((backs way.length way.length).foldl (fun o k => fstH (way.getD k ([], false)) o) (cp.getD 0 []))] 9, blk w11.heap.size [sv ((backs way.length way.length).foldl (fun o k => joinH (way.getD k ([], false)) o) (cp.getD 0 []))] 9, blk z1 [u] 54, own u 58 2 (way.map fun x : By × Bool => [sv x.1, .bool x.2])] w29 := hst
      refine hK34 _ _ ?_
      refine wc_seq_region fun K38 hK38 => ?_
      refine wl_v hfr (by decide) (v_move rfl) ?_
      clear hfr
      intro a hfr
      refine wl_v hfr (by decide) (v_builtin (v := .int .i64 0) rfl (by kernel_rfl)) ?_
      clear hfr
      intro a hfr
      refine wl_v hfr (by decide) ((v_eq rfl rfl).asb (b' := true) rfl) ?_
      clear hfr
      intro a hfr
      refine wl_v hfr (by decide) (v_move rfl) ?_
      clear hfr
      intro a hfr
      refine wl_vy hfr (by decide) rfl (by decide) rfl (v_load_blk1 (hst.get (k := 2) rfl) rfl (Tryd.isAgg9 _) rfl) ?_
      clear hfr
      intro a hfr
      refine wl_vy hfr (by decide) rfl (by decide) rfl (v_move rfl) ?_
      clear hfr
      intro a hfr
      refine wl_vy hfr (by decide) rfl (by decide) rfl (v_seq rfl rfl) ?_
      clear hfr
      intro a hfr
      refine wl_v hfr (by decide) (v_pick_t rfl rfl) ?_
      clear hfr
      intro a hfr
      refine wl_v hfr (by decide) (v_move rfl) ?_
      clear hfr
      intro a hfr
      rcases Bool.eq_false_or_eq_true (decide ((backs way.length way.length).foldl (fun o k => fstH (way.getD k ([], false)) o) (cp.getD 0 []) = old)) with hb18 | hb18
      · rw [hb18] at hfr
        try simp only [Bool.not_eq_true', Bool.not_eq_false', decide_eq_true_eq, decide_eq_false_iff_not] at hb18
        refine wl_vy hfr (by decide) rfl (by decide) rfl (v_load_blk1 (hst.get (k := 3) rfl) rfl (Tryd.isAgg9 _) rfl) ?_
        clear hfr
        intro a hfr
        refine wl_vy hfr (by decide) rfl (by decide) rfl (v_move rfl) ?_
        clear hfr
        intro a hfr
        refine wl_vy hfr (by decide) rfl (by decide) rfl (v_seq rfl rfl) ?_
        clear hfr
        intro a hfr
        refine wl_v hfr (by decide) (v_pick_t rfl rfl) ?_
        clear hfr
        intro a hfr
        refine wl_v hfr (by decide) (v_assign rfl) ?_
        clear hfr
        intro a hfr
        refine wl_nil (hK38 _ _ ?_)
        replace hfr : Fr 137 [(10, _)] [{ target := .collected D, args := #[] }] a := hfr.pick [10]
        replace hst : St (· = 0) w0 [_, _, _] w29 := hst.mask [true, true, false, false, false, true]
        refine wc_ret ?_
        have hD := hst.get (k := 0) rfl
        replace hst := hst.unmark (i := 0) (o' := .deferred none) rfl
        replace hst : St (· = 0) w0 [blk 0 (kOf.map wv) 88, own u 58 2 (way.map fun x : By × Bool => [sv x.1, .bool x.2])] _ := hst
        refine fin_ret1 hfr hD Tryd.results23 (resAre_tmp rfl resAre_nil) ?_
        have hkey := vx_part hall hold hroot (by omega) (by omega) hval hwh (by omega) (by omega)
        rw [← fold_way fstH, ← fold_way joinH] at hkey
        exact ⟨by simp only [retv]; rw [hkey, decide_eq_true (show (backs way.length way.length).foldl (fun o k => fstH (way.getD k ([], false)) o) (cp.getD 0 []) = old by assumption)]; rfl, hst.ext.const hk0 (hst.get (k := 0) rfl)⟩
      rw [hb18] at hfr
      try simp only [Bool.not_eq_true', Bool.not_eq_false', decide_eq_true_eq, decide_eq_false_iff_not] at hb18
      refine wl_vn hfr (by decide) rfl (by decide) rfl rfl ?_
      clear hfr
      intro a hfr
      refine wl_vn hfr (by decide) rfl (by decide) rfl rfl ?_
      clear hfr
      intro a hfr
      refine wl_vn hfr (by decide) rfl (by decide) rfl rfl ?_
      clear hfr
      intro a hfr
      refine wl_v hfr (by decide) (v_pick_f rfl rfl) ?_
      clear hfr
      intro a hfr
      refine wl_v hfr (by decide) (v_assign rfl) ?_
      clear hfr
      intro a hfr
      refine wl_nil (hK38 _ _ ?_)
      replace hfr : Fr 137 [(10, _)] [{ target := .collected D, args := #[] }] a := hfr.pick [10]
      replace hst : St (· = 0) w0 [_, _, _] w29 := hst.mask [true, true, false, false, false, true]
      refine wc_ret ?_
      have hD := hst.get (k := 0) rfl
      replace hst := hst.unmark (i := 0) (o' := .deferred none) rfl
      replace hst : St (· = 0) w0 [blk 0 (kOf.map wv) 88, own u 58 2 (way.map fun x : By × Bool => [sv x.1, .bool x.2])] _ := hst
      refine fin_ret1 hfr hD Tryd.results23 (resAre_tmp rfl resAre_nil) ?_
      have hkey := vx_part hall hold hroot (by omega) (by omega) hval hwh (by omega) (by omega)
      rw [← fold_way fstH, ← fold_way joinH] at hkey
      exact ⟨by simp only [retv]; rw [hkey, decide_eq_false (show ¬ (backs way.length way.length).foldl (fun o k => fstH (way.getD k ([], false)) o) (cp.getD 0 []) = old by assumption)]; rfl, hst.ext.const hk0 (hst.get (k := 0) rfl)⟩
    · rintro D c pre _ _ a w30 _ h
      exact h.elim
  rw [hc14] at hfr
  try simp only [Bool.not_eq_true', Bool.not_eq_false', decide_eq_true_eq, decide_eq_false_iff_not] at hc14
  have hwh := hc14
  refine wc_skip ?_
  refine hK29 _ _ ?_
  refine wc_seq_k fun K39 hK39 => ?_
  refine wc_seq_region fun K40 hK40 => ?_
  refine wl_v hfr (by decide) (v_move rfl) ?_
  clear hfr
  intro a hfr
  refine wl_callm hfr hst (by decide) Tryd.call47 rfl (backd_ok u _ _ (hst.ownAt (i := 2) rfl)) ?_
  clear hfr hst
  intro a w31 x19 hp hfr hst
  revert x19 hp hfr hst; rintro z1 hp hfr hst
  clear hp
  replace hst : St (· = 0) w0 [blk z1 [u] 54, blk w11.heap.size [sv old] 9, blk w5.heap.size [sv old] 9, own u 58 2 (way.map fun x : By × Bool => [sv x.1, .bool x.2]), blk 0 (kOf.map wv) 88] w31 := hst
  refine wl_nil (hK40 _ _ ?_)
  refine wc_block ?_
  have hy32 : ∀ k, k < way.length → (way.getD k ([], false)).1.length = 32 := fun k hk => hway _ (getD_mem hk)
  have hr0 : (old).length = 32 := hold
  replace hst : St (· = 0) w0 [blk z1 [u] 54, blk w11.heap.size [sv (([] : List Nat).foldl (fun o k => joinH (way.getD k ([], false)) o) old)] 9, blk w5.heap.size [sv (([] : List Nat).foldl (fun o k => fstH (way.getD k ([], false)) o) old)] 9, own u 58 2 (way.map fun x : By × Bool => [sv x.1, .bool x.2]), blk 0 (kOf.map wv) 88] w31 := hst
  replace hst : St (· = 0) w0 [blk 0 (kOf.map wv) 88, blk w5.heap.size [sv (([] : List Nat).foldl (fun o k => fstH (way.getD k ([], false)) o) old)] 9, blk w11.heap.size [sv (([] : List Nat).foldl (fun o k => joinH (way.getD k ([], false)) o) old)] 9, blk z1 [u] 54, own u 58 2 (way.map fun x : By × Bool => [sv x.1, .bool x.2])] w31 := hst.select [4, 2, 1, 0, 3] (by decide)
  replace hfr : Fr 137 [(0, sv old), (2, sv root), (4, pz), (11, u), (12, .bool wh), (17, .pointer (some ⟨w5.heap.size, 0, none⟩)), (18, .pointer (some ⟨w11.heap.size, 0, none⟩)), (101, .bool wh), (102, .bool false), (112, u), (113, .func (.func 63) #[] #[.pointer (some ⟨z1, 0, none⟩)])] [] a := hfr.pick [0, 2, 4, 11, 12, 17, 18, 101, 102, 112, 113]
  refine wc_range (M := (· = 0)) (w0 := w0) (encs := (encD way)) (Hi := [blk z1 [u] 54, own u 58 2 (way.map fun x : By × Bool => [sv x.1, .bool x.2])]) (Hc := [blk 0 (kOf.map wv) 88, blk w5.heap.size [sv (([] : List Nat).foldl (fun o k => fstH (way.getD k ([], false)) o) old)] 9, blk w11.heap.size [sv (([] : List Nat).foldl (fun o k => joinH (way.getD k ([], false)) o) old)] 9]) (fun pre H => ((pre.foldl (fun o k => fstH (way.getD k ([], false)) o) old).length = 32 ∧ (pre.foldl (fun o k => joinH (way.getD k ([], false)) o) old).length = 32) ∧ H = [blk 0 (kOf.map wv) 88, blk w5.heap.size [sv (pre.foldl (fun o k => fstH (way.getD k ([], false)) o) old)] 9, blk w11.heap.size [sv (pre.foldl (fun o k => joinH (way.getD k ([], false)) o) old)] 9]) (fun _ _ _ => False) (fun pre xs H a => ∃ (bA0 : Nat), Fr 137 [(0, sv old), (2, sv root), (4, pz), (11, u), (12, .bool wh), (17, .pointer (some ⟨w5.heap.size, 0, none⟩)), (18, .pointer (some ⟨w11.heap.size, 0, none⟩)), (101, .bool wh), (102, .bool false), (112, u), (113, .func (.func 63) #[] #[.pointer (some ⟨z1, 0, none⟩)]), (20, .pointer (some ⟨bA0, 0, none⟩))] [] a ∧ ((pre.foldl (fun o k => fstH (way.getD k ([], false)) o) old).length = 32 ∧ (pre.foldl (fun o k => joinH (way.getD k ([], false)) o) old).length = 32) ∧ H = [blk bA0 [sv ((way.getD xs ([], false)).1), .bool ((way.getD xs ([], false)).2)] 58, blk 0 (kOf.map wv) 88, blk w5.heap.size [sv (pre.foldl (fun o k => fstH (way.getD k ([], false)) o) old)] 9, blk w11.heap.size [sv (pre.foldl (fun o k => joinH (way.getD k ([], false)) o) old)] 9]) rfl Tryd.call63 hfr hst (backd_iter u way z1 (by omega)) (by decide) (fun _ => rfl) ⟨⟨hr0, hr0⟩, rfl⟩ ?_ ?_ ?_ ?_
  · clear hfr hst
    rintro lp pre xs _ a w32 hnx ⟨hf32, rfl⟩ hfr hst
    generalize (join [blk 0 (kOf.map wv) 88, blk w5.heap.size [sv (pre.foldl (fun o k => fstH (way.getD k ([], false)) o) old)] 9, blk w11.heap.size [sv (pre.foldl (fun o k => joinH (way.getD k ([], false)) o) old)] 9]).foot = M1 at hst ⊢
    replace hfr : Fr 137 [(115, .agg #[sv ((way.getD xs ([], false)).1), .bool ((way.getD xs ([], false)).2)]), (114, .int .i64 (xs : Int)), (0, sv old), (2, sv root), (4, pz), (11, u), (12, .bool wh), (17, .pointer (some ⟨w5.heap.size, 0, none⟩)), (18, .pointer (some ⟨w11.heap.size, 0, none⟩)), (101, .bool wh), (102, .bool false), (112, u), (113, .func (.func 63) #[] #[.pointer (some ⟨z1, 0, none⟩)])] [] a := hfr
    refine wc_region ?_
    refine wl_alloc hfr hst (by decide) (Tryd.zeroValue58 _) (cs := [.string (⟨#[]⟩), .bool false]) rfl ?_
    clear hfr hst
    intro a w33 hfr hst
    refine wl_store 0 hfr hst rfl rfl rfl (Tryd.sizeOf58 _) rfl (Nat.le_of_ble_eq_true rfl) (ds := [sv ((way.getD xs ([], false)).1), .bool ((way.getD xs ([], false)).2)]) rfl rfl ?_
    clear hfr hst
    intro a w34 hfr hst
    refine wl_nil ?_
    exact ⟨_, ⟨w32.heap.size, hfr.pick [0, 2, 4, 11, 12, 17, 18, 101, 102, 112, 113, 20], hf32, rfl⟩, hst⟩
  · rintro lp pre xs _ a w35 hnx ⟨bA0, hfr, hf32, rfl⟩ hrec hnl hst
    clear hrec hnl
    generalize (join [blk bA0 [sv ((way.getD xs ([], false)).1), .bool ((way.getD xs ([], false)).2)] 58, blk 0 (kOf.map wv) 88, blk w5.heap.size [sv (pre.foldl (fun o k => fstH (way.getD k ([], false)) o) old)] 9, blk w11.heap.size [sv (pre.foldl (fun o k => joinH (way.getD k ([], false)) o) old)] 9]).foot = M1 at hst ⊢
    refine wc_block ?_
    refine wc_seq_k fun K41 hK41 => ?_
    refine wc_seq_region fun K42 hK42 => ?_
    refine wl_v hfr (by decide) (v_fieldAddr (v := .pointer (some ⟨bA0, 1, none⟩)) rfl (by kernel_rfl)) ?_
    clear hfr
    intro a hfr
    refine wl_v hfr (by decide) (v_load_blk1 (hst.get (k := 0) rfl) rfl (Tryd.isAgg4 _) rfl) ?_
    clear hfr
    intro a hfr
    refine wl_nil (hK42 _ _ ?_)
    replace hfr : Fr 137 [(17, _), (18, _), (20, _), (117, _)] [] a := hfr.pick [17, 18, 20, 117]
    refine wc_cond hfr rfl (fun hc20 => ?_) (fun hc20 => ?_)
    · rw [hc20] at hfr
      try simp only [Bool.not_eq_true', Bool.not_eq_false', decide_eq_true_eq, decide_eq_false_iff_not] at hc20
      refine wc_region ?_
      refine wl_v hfr (by decide) (v_load_all (hst.get (k := 0) rfl) rfl (Tryd.isAgg58 _) (Tryd.sizeOf58 _)) ?_
      clear hfr
      intro a hfr
      refine wl_v hfr (by decide) (v_load_blk1 (hst.get (k := 2) rfl) rfl (Tryd.isAgg9 _) rfl) ?_
      clear hfr
      intro a hfr
      refine wl_callp hfr hst (by decide) Tryd.call48 rfl (sjoin_ok ((way.getD xs ([], false)).1) ((way.getD xs ([], false)).2) (pre.foldl (fun o k => fstH (way.getD k ([], false)) o) old) _ (by have := hy32 xs (by have h := hnx; unfold NxB at h; omega); omega) (by first | omega | exact Nat.le_trans (Nat.le_of_eq hf32.1) (by decide) | exact Nat.le_trans (Nat.le_of_eq hf32.2) (by decide)) (hst.get (k := 1) rfl)) ?_
      clear hfr hst
      intro a w36 hfr hst
      refine wl_store 2 hfr hst rfl rfl rfl (Tryd.sizeOf9 _) rfl (Nat.le_of_ble_eq_true rfl) (ds := [sv (joinH ((way.getD xs ([], false)).1, (way.getD xs ([], false)).2) (pre.foldl (fun o k => fstH (way.getD k ([], false)) o) old))]) rfl rfl ?_
      clear hfr hst
      intro a w37 hfr hst
      refine wl_nil ?_
      refine hK41 _ _ ?_
      refine wc_region ?_
      refine wl_v hfr (by decide) (v_load_all (hst.get (k := 0) rfl) rfl (Tryd.isAgg58 _) (Tryd.sizeOf58 _)) ?_
      clear hfr
      intro a hfr
      refine wl_v hfr (by decide) (v_load_blk1 (hst.get (k := 3) rfl) rfl (Tryd.isAgg9 _) rfl) ?_
      clear hfr
      intro a hfr
      refine wl_callp hfr hst (by decide) Tryd.call48 rfl (sjoin_ok ((way.getD xs ([], false)).1) ((way.getD xs ([], false)).2) (pre.foldl (fun o k => joinH (way.getD k ([], false)) o) old) _ (by have := hy32 xs (by have h := hnx; unfold NxB at h; omega); omega) (by first | omega | exact Nat.le_trans (Nat.le_of_eq hf32.1) (by decide) | exact Nat.le_trans (Nat.le_of_eq hf32.2) (by decide)) (hst.get (k := 1) rfl)) ?_
      clear hfr hst
      intro a w38 hfr hst
      refine wl_store 3 hfr hst rfl rfl rfl (Tryd.sizeOf9 _) rfl (Nat.le_of_ble_eq_true rfl) (ds := [sv (joinH ((way.getD xs ([], false)).1, (way.getD xs ([], false)).2) (pre.foldl (fun o k => joinH (way.getD k ([], false)) o) old))]) rfl rfl ?_
      clear hfr hst
      intro a w39 hfr hst
      refine wl_nil ?_
      have hF : joinH ((way.getD xs ([], false)).1, (way.getD xs ([], false)).2) (pre.foldl (fun o k => fstH (way.getD k ([], false)) o) old) = (pre ++ [xs]).foldl (fun o k => fstH (way.getD k ([], false)) o) old := by rw [List.foldl_append]; exact ((if_pos (c := (way.getD xs ([], false)).2 = true) hc20)).symm
      have hJ : joinH ((way.getD xs ([], false)).1, (way.getD xs ([], false)).2) (pre.foldl (fun o k => joinH (way.getD k ([], false)) o) old) = (pre ++ [xs]).foldl (fun o k => joinH (way.getD k ([], false)) o) old := by rw [List.foldl_append]; rfl
      rw [hF, hJ] at hst
      exact ⟨_, ⟨⟨by rw [List.foldl_append]; exact fst_len hf32.1, by rw [List.foldl_append]; exact sha_len _⟩, rfl⟩, hst.select [1, 2, 3] (by decide)⟩
    rw [hc20] at hfr
    try simp only [Bool.not_eq_true', Bool.not_eq_false', decide_eq_true_eq, decide_eq_false_iff_not] at hc20
    refine wc_skip ?_
    refine hK41 _ _ ?_
    refine wc_region ?_
    refine wl_v hfr (by decide) (v_load_all (hst.get (k := 0) rfl) rfl (Tryd.isAgg58 _) (Tryd.sizeOf58 _)) ?_
    clear hfr
    intro a hfr
    refine wl_v hfr (by decide) (v_load_blk1 (hst.get (k := 3) rfl) rfl (Tryd.isAgg9 _) rfl) ?_
    clear hfr
    intro a hfr
    refine wl_callp hfr hst (by decide) Tryd.call48 rfl (sjoin_ok ((way.getD xs ([], false)).1) ((way.getD xs ([], false)).2) (pre.foldl (fun o k => joinH (way.getD k ([], false)) o) old) _ (by have := hy32 xs (by have h := hnx; unfold NxB at h; omega); omega) (by first | omega | exact Nat.le_trans (Nat.le_of_eq hf32.1) (by decide) | exact Nat.le_trans (Nat.le_of_eq hf32.2) (by decide)) (hst.get (k := 1) rfl)) ?_
    clear hfr hst
    intro a w40 hfr hst
    refine wl_store 3 hfr hst rfl rfl rfl (Tryd.sizeOf9 _) rfl (Nat.le_of_ble_eq_true rfl) (ds := [sv (joinH ((way.getD xs ([], false)).1, (way.getD xs ([], false)).2) (pre.foldl (fun o k => joinH (way.getD k ([], false)) o) old))]) rfl rfl ?_
    clear hfr hst
    intro a w41 hfr hst
    refine wl_nil ?_
    have hF : pre.foldl (fun o k => fstH (way.getD k ([], false)) o) old = (pre ++ [xs]).foldl (fun o k => fstH (way.getD k ([], false)) o) old := by rw [List.foldl_append]; exact ((if_neg (c := (way.getD xs ([], false)).2 = true) (by rw [hc20]; decide))).symm
    have hJ : joinH ((way.getD xs ([], false)).1, (way.getD xs ([], false)).2) (pre.foldl (fun o k => joinH (way.getD k ([], false)) o) old) = (pre ++ [xs]).foldl (fun o k => joinH (way.getD k ([], false)) o) old := by rw [List.foldl_append]; rfl
    rw [hF, hJ] at hst
    exact ⟨_, ⟨⟨by rw [List.foldl_append]; exact fst_len hf32.1, by rw [List.foldl_append]; exact sha_len _⟩, rfl⟩, hst.select [1, 2, 3] (by decide)⟩
  · rintro D pre _ _ a w42 ⟨rfl, rfl⟩ ⟨hf32, rfl⟩ hst hfr
    replace hfr : Fr 137 [(0, sv old), (2, sv root), (4, pz), (11, u), (12, .bool wh), (17, .pointer (some ⟨w5.heap.size, 0, none⟩)), (18, .pointer (some ⟨w11.heap.size, 0, none⟩)), (101, .bool wh), (102, .bool false), (112, u), (113, .func (.func 63) #[] #[.pointer (some ⟨z1, 0, none⟩)])] [{ target := .collected D, args := #[] }] a := hfr
    replace hst : St (· = 0) w0 [obj D (.deferred (some [])), blk 0 (kOf.map wv) 88, blk w5.heap.size [sv ((backs way.length way.length).foldl (fun o k => fstH (way.getD k ([], false)) o) old)] 9, blk w11.heap.size [sv ((backs way.length way.length).foldl (fun o k => joinH (way.getD k ([], false)) o) old)] 9, blk z1 [u] 54, own u 58 2 (way.map fun x : By × Bool => [sv x.1, .bool x.2])] w42 := hst
    refine hK39 _ _ ?_
    refine wc_seq_region fun K43 hK43 => ?_
    refine wl_v hfr (by decide) (v_move rfl) ?_
    clear hfr
    intro a hfr
    refine wl_v hfr (by decide) ((v_len_sl (sT := 22) (hpv.grow (hst.ext.const hk0 (hst.get (k := 1) rfl))) rfl rfl (Tryd.runUnderlying22 _)).asi (m' := (cp.length : Int)) (by simp)) ?_
    clear hfr
    intro a hfr
    refine wl_v hfr (by decide) (v_eq rfl rfl) ?_
    clear hfr
    intro a hfr
    refine wl_v hfr (by decide) (v_move rfl) ?_
    clear hfr
    intro a hfr
    rcases Bool.eq_false_or_eq_true (decide ((cp.length : Int) = 0)) with hb21 | hb21
    · rw [hb21] at hfr
      try simp only [Bool.not_eq_true', Bool.not_eq_false', decide_eq_true_eq, decide_eq_false_iff_not] at hb21
      refine wl_vy hfr (by decide) rfl (by decide) rfl (v_load_blk1 (hst.get (k := 2) rfl) rfl (Tryd.isAgg9 _) rfl) ?_
      clear hfr
      intro a hfr
      refine wl_vy hfr (by decide) rfl (by decide) rfl (v_move rfl) ?_
      clear hfr
      intro a hfr
      refine wl_vy hfr (by decide) rfl (by decide) rfl (v_seq rfl rfl) ?_
      clear hfr
      intro a hfr
      refine wl_v hfr (by decide) (v_pick_t rfl rfl) ?_
      clear hfr
      intro a hfr
      refine wl_v hfr (by decide) (v_move rfl) ?_
      clear hfr
      intro a hfr
      rcases Bool.eq_false_or_eq_true (decide ((backs way.length way.length).foldl (fun o k => fstH (way.getD k ([], false)) o) old = old)) with hb22 | hb22
      · rw [hb22] at hfr
        try simp only [Bool.not_eq_true', Bool.not_eq_false', decide_eq_true_eq, decide_eq_false_iff_not] at hb22
        refine wl_vy hfr (by decide) rfl (by decide) rfl (v_load_blk1 (hst.get (k := 3) rfl) rfl (Tryd.isAgg9 _) rfl) ?_
        clear hfr
        intro a hfr
        refine wl_vy hfr (by decide) rfl (by decide) rfl (v_move rfl) ?_
        clear hfr
        intro a hfr
        refine wl_vy hfr (by decide) rfl (by decide) rfl (v_seq rfl rfl) ?_
        clear hfr
        intro a hfr
        refine wl_v hfr (by decide) (v_pick_t rfl rfl) ?_
        clear hfr
        intro a hfr
        refine wl_v hfr (by decide) (v_assign rfl) ?_
        clear hfr
        intro a hfr
        refine wl_nil (hK43 _ _ ?_)
        replace hfr : Fr 137 [(10, _)] [{ target := .collected D, args := #[] }] a := hfr.pick [10]
        replace hst : St (· = 0) w0 [_, _, _] w42 := hst.mask [true, true, false, false, false, true]
        refine wc_ret ?_
        have hD := hst.get (k := 0) rfl
        replace hst := hst.unmark (i := 0) (o' := .deferred none) rfl
        replace hst : St (· = 0) w0 [blk 0 (kOf.map wv) 88, own u 58 2 (way.map fun x : By × Bool => [sv x.1, .bool x.2])] _ := hst
        refine fin_ret1 hfr hD Tryd.results23 (resAre_tmp rfl resAre_nil) ?_
        have hkey := vx_whole hall hold hroot (by omega) (by omega) hval hwh (by omega)
        rw [← fold_way fstH, ← fold_way joinH] at hkey
        exact ⟨by simp only [retv]; rw [hkey, decide_eq_true (show cp.length = 0 by omega), decide_eq_true (show (backs way.length way.length).foldl (fun o k => fstH (way.getD k ([], false)) o) old = old by assumption)]; rfl, hst.ext.const hk0 (hst.get (k := 0) rfl)⟩
      rw [hb22] at hfr
      try simp only [Bool.not_eq_true', Bool.not_eq_false', decide_eq_true_eq, decide_eq_false_iff_not] at hb22
      refine wl_vn hfr (by decide) rfl (by decide) rfl rfl ?_
      clear hfr
      intro a hfr
      refine wl_vn hfr (by decide) rfl (by decide) rfl rfl ?_
      clear hfr
      intro a hfr
      refine wl_vn hfr (by decide) rfl (by decide) rfl rfl ?_
      clear hfr
      intro a hfr
      refine wl_v hfr (by decide) (v_pick_f rfl rfl) ?_
      clear hfr
      intro a hfr
      refine wl_v hfr (by decide) (v_assign rfl) ?_
      clear hfr
      intro a hfr
      refine wl_nil (hK43 _ _ ?_)
      replace hfr : Fr 137 [(10, _)] [{ target := .collected D, args := #[] }] a := hfr.pick [10]
      replace hst : St (· = 0) w0 [_, _, _] w42 := hst.mask [true, true, false, false, false, true]
      refine wc_ret ?_
      have hD := hst.get (k := 0) rfl
      replace hst := hst.unmark (i := 0) (o' := .deferred none) rfl
      replace hst : St (· = 0) w0 [blk 0 (kOf.map wv) 88, own u 58 2 (way.map fun x : By × Bool => [sv x.1, .bool x.2])] _ := hst
      refine fin_ret1 hfr hD Tryd.results23 (resAre_tmp rfl resAre_nil) ?_
      have hkey := vx_whole hall hold hroot (by omega) (by omega) hval hwh (by omega)
      rw [← fold_way fstH, ← fold_way joinH] at hkey
      exact ⟨by simp only [retv]; rw [hkey]; first | rw [decide_eq_false (show ¬ cp.length = 0 by omega)]; rfl | rw [decide_eq_false (show ¬ (backs way.length way.length).foldl (fun o k => fstH (way.getD k ([], false)) o) old = old by assumption), Bool.and_false]; rfl, hst.ext.const hk0 (hst.get (k := 0) rfl)⟩
    rw [hb21] at hfr
    try simp only [Bool.not_eq_true', Bool.not_eq_false', decide_eq_true_eq, decide_eq_false_iff_not] at hb21
    refine wl_vn hfr (by decide) rfl (by decide) rfl rfl ?_
    clear hfr
    intro a hfr
    refine wl_vn hfr (by decide) rfl (by decide) rfl rfl ?_
    clear hfr
    intro a hfr
    refine wl_vn hfr (by decide) rfl (by decide) rfl rfl ?_
    clear hfr
    intro a hfr
    refine wl_v hfr (by decide) (v_pick_f rfl rfl) ?_
    clear hfr
    intro a hfr
    refine wl_v hfr (by decide) (v_move rfl) ?_
    clear hfr
    intro a hfr
    refine wl_vn hfr (by decide) rfl (by decide) rfl rfl ?_
    clear hfr
    intro a hfr
    refine wl_vn hfr (by decide) rfl (by decide) rfl rfl ?_
    clear hfr
    intro a hfr
    refine wl_vn hfr (by decide) rfl (by decide) rfl rfl ?_
    clear hfr
    intro a hfr
    refine wl_v hfr (by decide) (v_pick_f rfl rfl) ?_
    clear hfr
    intro a hfr
    refine wl_v hfr (by decide) (v_assign rfl) ?_
    clear hfr
    intro a hfr
    refine wl_nil (hK43 _ _ ?_)
    replace hfr : Fr 137 [(10, _)] [{ target := .collected D, args := #[] }] a := hfr.pick [10]
    replace hst : St (· = 0) w0 [_, _, _] w42 := hst.mask [true, true, false, false, false, true]
    refine wc_ret ?_
    have hD := hst.get (k := 0) rfl
    replace hst := hst.unmark (i := 0) (o' := .deferred none) rfl
    replace hst : St (· = 0) w0 [blk 0 (kOf.map wv) 88, own u 58 2 (way.map fun x : By × Bool => [sv x.1, .bool x.2])] _ := hst
    refine fin_ret1 hfr hD Tryd.results23 (resAre_tmp rfl resAre_nil) ?_
    have hkey := vx_whole hall hold hroot (by omega) (by omega) hval hwh (by omega)
    rw [← fold_way fstH, ← fold_way joinH] at hkey
    exact ⟨by simp only [retv]; rw [hkey]; first | rw [decide_eq_false (show ¬ cp.length = 0 by omega)]; rfl | rw [decide_eq_false (show ¬ (backs way.length way.length).foldl (fun o k => fstH (way.getD k ([], false)) o) old = old by assumption), Bool.and_false]; rfl, hst.ext.const hk0 (hst.get (k := 0) rfl)⟩
  · rintro D c pre _ _ a w43 _ h
    exact h.elim
end Go.Proofs.YtmcoolbjgeibcaaDoor
namespace Go.Proofs.YtmcoolbjgeibcaaDoor
open Go.RowKit Go.PW
set_option linter.unusedVariables false
set_option linter.unusedSimpArgs false
set_option maxRecDepth 4000

def hx1 (b : UInt8) : By := (([48, 49, 50, 51, 52, 53, 54, 55, 56, 57, 97, 98, 99, 100, 101, 102] : By).drop b.toNat).take ((b + 1).toNat - b.toNat)
def hexH (s : By) : By := s.foldl (fun o b => o ++ hx1 (b / 16) ++ hx1 (b % 16)) []
theorem hx1_len (b : UInt8) : (hx1 b).length ≤ 16 := by unfold hx1; simp only [List.length_take, List.length_drop, List.length_cons, List.length_nil]; omega
theorem hexH_snoc {s : By} {k : Nat} (h : k < s.length) : hexH (s.take (k + 1)) = hexH (s.take k) ++ hx1 (s.getD k 0 / 16) ++ hx1 (s.getD k 0 % 16) := by
  unfold hexH; rw [take_snoc 0 h, List.foldl_append]; rfl
theorem hexH_len (s : By) : (hexH s).length ≤ 32 * s.length := by
  have : ∀ (s o : By), (s.foldl (fun o b => o ++ hx1 (b / 16) ++ hx1 (b % 16)) o).length ≤ o.length + 32 * s.length := by
    intro s
    induction s with
    | nil => intro o; simp
    | cons b s ih =>
      intro o
      have h1 := hx1_len (b / 16)
      have h2 := hx1_len (b % 16)
      have h3 := ih (o ++ hx1 (b / 16) ++ hx1 (b % 16))
      rw [List.foldl_cons, List.length_cons]
      simp only [List.length_append] at h3
      omega
  have h := this s []
  simp only [List.length_nil, Nat.zero_add] at h
  exact h
theorem hb_quo (b : UInt8) : (b / 16).toNat ≤ (b / 16 + 1).toNat ∧ (b / 16 + 1).toNat ≤ 16 := by
  have h := b.toNat_lt
  have h1 : (b / 16).toNat = b.toNat / 16 := by rw [UInt8.toNat_div]; rfl
  have h2 : (b / 16 + 1).toNat = b.toNat / 16 + 1 := by rw [UInt8.toNat_add, h1]; exact Nat.mod_eq_of_lt (by show b.toNat / 16 + 1 < 256; omega)
  omega
theorem hb_rem (b : UInt8) : (b % 16).toNat ≤ (b % 16 + 1).toNat ∧ (b % 16 + 1).toNat ≤ 16 := by
  have h := b.toNat_lt
  have h1 : (b % 16).toNat = b.toNat % 16 := by rw [UInt8.toNat_mod]; rfl
  have h2 : (b % 16 + 1).toNat = b.toNat % 16 + 1 := by rw [UInt8.toNat_add, h1]; exact Nat.mod_eq_of_lt (by show b.toNat % 16 + 1 < 256; omega)
  omega
theorem hex_empty : hexH (sha []) = [101, 51, 98, 48, 99, 52, 52, 50, 57, 56, 102, 99, 49, 99, 49, 52, 57, 97, 102, 98, 102, 52, 99, 56, 57, 57, 54, 102, 98, 57, 50, 52, 50, 55, 97, 101, 52, 49, 101, 52, 54, 52, 57, 98, 57, 51, 52, 99, 97, 52, 57, 53, 57, 57, 49, 98, 55, 56, 53, 50, 98, 56, 53, 53] := by decide +kernel
theorem hex_abc : hexH (sha [97, 98, 99]) = [98, 97, 55, 56, 49, 54, 98, 102, 56, 102, 48, 49, 99, 102, 101, 97, 52, 49, 52, 49, 52, 48, 100, 101, 53, 100, 97, 101, 50, 50, 50, 51, 98, 48, 48, 51, 54, 49, 97, 51, 57, 54, 49, 55, 55, 97, 57, 99, 98, 52, 49, 48, 102, 102, 54, 49, 102, 50, 48, 48, 49, 53, 97, 100] := by decide +kernel
theorem sane1 : verifyH sha (rootH sha ([[97], [98], [99]] : List By)) 3 2 [99] (proofH sha ([[97], [98], [99]] : List By) 2) = true := verify_proof sha_len (l := ([[97], [98], [99]] : List By)) (i := 2) (by decide)
theorem sane2 : verifyH sha (rootH sha ([[97], [98], [99]] : List By)) 3 2 [100] (proofH sha ([[97], [98], [99]] : List By) 2) = false := by decide +kernel
theorem sane3 : verifyExtH sha (rootH sha (([[97], [98], [99]] : List By).take 1)) 1 (rootH sha ([[97], [98], [99]] : List By)) 3 (partH sha ([[97], [98], [99]] : List By) 1 true) = true := verify_ext sha_len (l := ([[97], [98], [99]] : List By)) (m := 1) (by decide)
theorem sane4 : verifyExtH sha (rootH sha (([[97], [98], [99]] : List By).take 2)) 1 (rootH sha ([[97], [98], [99]] : List By)) 3 (partH sha ([[97], [98], [99]] : List By) 1 true) = false := by decide +kernel
theorem sane5 : (proofH sha ([[97], [98], [99]] : List By) 2).length = 1 := by rfl
theorem sane6 : (partH sha ([[97], [98], [99]] : List By) 1 true).length = 2 := by rfl
theorem ret_b {f : FuncId} {args : Array Value} {w : World} {b c : Bool} (h : b = c) (hr : Ret Tryd.prog f args w fun v w' => v = .bool b ∧ Ext No w w') : Ret Tryd.prog f args w fun v w' => v = .bool c ∧ Ext No w w' := by subst h; exact hr

/-- dialtone/dialtonelaw02.hex -/
theorem hex_ok (s : By) (w0 : World) (hs : s.length ≤ 1000) :
    Ret Tryd.prog 39 #[sv s] w0 fun v w => v = sv (hexH s) ∧ Ext No w0 w := by
  refine ret_of Tryd.func39 rfl Tryd.ntmps39 (Nat.le_of_ble_eq_true rfl) fun a hfr => ?_
  replace hfr : Fr 35 [(0, _)] [] a := hfr
  replace hst : St No w0 [] w0 := St.init w0
  refine wc_seq_region fun K1 hK1 => ?_
  refine wl_v hfr (by decide) (v_assign rfl) ?_
  clear hfr
  intro a hfr
  refine wl_nil (hK1 _ _ ?_)
  refine wc_seq_region fun K2 hK2 => ?_
  refine wl_v hfr (by decide) (v_assign rfl) ?_
  clear hfr
  intro a hfr
  refine wl_nil (hK2 _ _ ?_)
  refine wc_seq_k fun K3 hK3 => ?_
  refine wc_seq_region fun K4 hK4 => ?_
  refine wl_v hfr (by decide) (v_assign rfl) ?_
  clear hfr
  intro a hfr
  refine wl_nil (hK4 _ _ ?_)
  refine wc_block ?_
  refine wc_loop (fun m a w => ∃ (k : Nat), m = s.length - k ∧ (k ≤ s.length) ∧ Fr 35 [(0, sv s), (2, sv ([])), (4, .int .i64 (k : Int)), (3, sv (hexH (s.take k)))] [] a ∧ St No w0 [] w) _ ⟨0, rfl, Nat.zero_le _, hfr.pick [0, 2, 4, 3], hst.select [] (by decide)⟩ ?_
  rintro _ a w1 ⟨k, rfl, hk, hfr, hst⟩
  have hl1 := hexH_len (s.take k)
  rw [List.length_take] at hl1
  have hl2 := hx1_len (s.getD k 0 / 16)
  have hl3 := hx1_len (s.getD k 0 % 16)
  refine wc_seq_k fun K5 hK5 => ?_
  refine wc_seq_region fun K6 hK6 => ?_
  refine wl_v hfr (by decide) (v_move rfl) ?_
  clear hfr
  intro a hfr
  refine wl_v hfr (by decide) (v_move rfl) ?_
  clear hfr
  intro a hfr
  refine wl_v hfr (by decide) (v_len_str rfl rfl (Tryd.runUnderlying9 _)) ?_
  clear hfr
  intro a hfr
  refine wl_v hfr (by decide) (v_lt rfl rfl) ?_
  clear hfr
  intro a hfr
  refine wl_nil (hK6 _ _ ?_)
  refine wc_cond hfr rfl (fun hc1 => ?_) (fun hc1 => ?_)
  · rw [hc1] at hfr
    try simp only [Bool.not_eq_true', Bool.not_eq_false', decide_eq_true_eq, decide_eq_false_iff_not] at hc1
    refine wc_skip ?_
    refine hK5 _ _ ?_
    refine wc_seq_k fun K7 hK7 => ?_
    refine wc_block ?_
    refine wc_of_dr (by kernel_rfl) (dr_of_wd (by kernel_rfl) fun w2 hxz => ?_)
    replace hst : St No w0 [] w2 := hst.grow hxz
    refine wd_sub (k := 0) 22 [11, 21] hfr (by kernel_rfl) (by kernel_rfl) (by kernel_rfl) (by rfl) ?_
    replace hfr : Fr 35 [(0, _), (2, _), (4, _), (3, _), (5, _), (6, _), (7, _), (8, _)] [] a := hfr.pick [0, 2, 4, 3, 5, 6, 7, 8]
    refine wc_phases_q [] (fun i => match i with | _ => fun _ _ => False) 22 [[], [], [], [1, 2], [3], [], [], [5, 6], [7], [8], [4, 9], [0, 10], [], [], [12, 13], [14], [], [], [16, 17], [18], [19], [15, 20]] [sv (hexH (s.take k)), sv s, .int .i64 (k : Int), yv (s.getD k 0), yv ((s.getD k 0) / (16 : UInt8)), sv s, .int .i64 (k : Int), yv (s.getD k 0), yv ((s.getD k 0) / (16 : UInt8)), yv (((s.getD k 0) / (16 : UInt8)) + (1 : UInt8)), sv (hx1 ((s.getD k 0) / (16 : UInt8))), sv ((hexH (s.take k)) ++ (hx1 ((s.getD k 0) / (16 : UInt8)))), sv s, .int .i64 (k : Int), yv (s.getD k 0), yv ((s.getD k 0) % (16 : UInt8)), sv s, .int .i64 (k : Int), yv (s.getD k 0), yv ((s.getD k 0) % (16 : UInt8)), yv (((s.getD k 0) % (16 : UInt8)) + (1 : UInt8)), sv (hx1 ((s.getD k 0) % (16 : UInt8)))] hfr hst (by kernel_rfl) (by kernel_rfl) (by kernel_rfl) ?_ ?_ ?_
    · intro i hi hiq
      match i, hi, hiq with
      | 0, _, _ =>
        intro w hst
        exact OpV.g (v_move rfl)
      | 1, _, _ =>
        intro w hst
        exact OpV.g (v_move rfl)
      | 2, _, _ =>
        intro w hst
        exact OpV.g (v_move rfl)
      | 3, _, _ =>
        intro w hst
        exact OpV.g (v_index_str (k := k) rfl rfl (Tryd.runUnderlying9 _) (by omega) (by omega))
      | 4, _, _ =>
        intro w hst
        exact OpV.g (v_yquo (by first | decide | omega) rfl rfl)
      | 5, _, _ =>
        intro w hst
        exact OpV.g (v_move rfl)
      | 6, _, _ =>
        intro w hst
        exact OpV.g (v_move rfl)
      | 7, _, _ =>
        intro w hst
        exact OpV.g (v_index_str (k := k) rfl rfl (Tryd.runUnderlying9 _) (by omega) (by omega))
      | 8, _, _ =>
        intro w hst
        exact OpV.g (v_yquo (by first | decide | omega) rfl rfl)
      | 9, _, _ =>
        intro w hst
        exact OpV.g (v_yadd rfl rfl)
      | 10, _, _ =>
        intro w hst
        exact OpV.g ((v_slice_strk (xs := ([48, 49, 50, 51, 52, 53, 54, 55, 56, 57, 97, 98, 99, 100, 101, 102] : By)) (l := ((s.getD k 0) / (16 : UInt8)).toNat) (h := (((s.getD k 0) / (16 : UInt8)) + (1 : UInt8)).toNat) rfl rfl rfl Tryd.underlying9 (.inr ⟨_, rfl⟩) (.inr ⟨_, rfl⟩) (hb_quo (s.getD k 0)).1 (hb_quo (s.getD k 0)).2).as (v' := sv (hx1 ((s.getD k 0) / (16 : UInt8)))) rfl)
      | 11, _, _ =>
        intro w hst
        exact OpV.g (v_sadd rfl rfl (by (try simp only [List.length_append]); omega))
      | 12, _, _ =>
        intro w hst
        exact OpV.g (v_move rfl)
      | 13, _, _ =>
        intro w hst
        exact OpV.g (v_move rfl)
      | 14, _, _ =>
        intro w hst
        exact OpV.g (v_index_str (k := k) rfl rfl (Tryd.runUnderlying9 _) (by omega) (by omega))
      | 15, _, _ =>
        intro w hst
        exact OpV.g (v_yrem (by first | decide | omega) rfl rfl)
      | 16, _, _ =>
        intro w hst
        exact OpV.g (v_move rfl)
      | 17, _, _ =>
        intro w hst
        exact OpV.g (v_move rfl)
      | 18, _, _ =>
        intro w hst
        exact OpV.g (v_index_str (k := k) rfl rfl (Tryd.runUnderlying9 _) (by omega) (by omega))
      | 19, _, _ =>
        intro w hst
        exact OpV.g (v_yrem (by first | decide | omega) rfl rfl)
      | 20, _, _ =>
        intro w hst
        exact OpV.g (v_yadd rfl rfl)
      | 21, _, _ =>
        intro w hst
        exact OpV.g ((v_slice_strk (xs := ([48, 49, 50, 51, 52, 53, 54, 55, 56, 57, 97, 98, 99, 100, 101, 102] : By)) (l := ((s.getD k 0) % (16 : UInt8)).toNat) (h := (((s.getD k 0) % (16 : UInt8)) + (1 : UInt8)).toNat) rfl rfl rfl Tryd.underlying9 (.inr ⟨_, rfl⟩) (.inr ⟨_, rfl⟩) (hb_rem (s.getD k 0)).1 (hb_rem (s.getD k 0)).2).as (v' := sv (hx1 ((s.getD k 0) % (16 : UInt8)))) rfl)
      | i + 22, h, _ => exact absurd h (by omega)
    · intro i hi
      exact absurd hi (by simp)
    clear hfr hst
    intro  a w3 hfr hst
    replace hfr : Fr 35 [(11, sv (hexH (s.take k))), (12, sv s), (13, .int .i64 (k : Int)), (14, yv (s.getD k 0)), (15, yv ((s.getD k 0) / (16 : UInt8))), (16, sv s), (17, .int .i64 (k : Int)), (18, yv (s.getD k 0)), (19, yv ((s.getD k 0) / (16 : UInt8))), (20, yv (((s.getD k 0) / (16 : UInt8)) + (1 : UInt8))), (21, sv (hx1 ((s.getD k 0) / (16 : UInt8)))), (22, sv ((hexH (s.take k)) ++ (hx1 ((s.getD k 0) / (16 : UInt8))))), (23, sv s), (24, .int .i64 (k : Int)), (25, yv (s.getD k 0)), (26, yv ((s.getD k 0) % (16 : UInt8))), (27, sv s), (28, .int .i64 (k : Int)), (29, yv (s.getD k 0)), (30, yv ((s.getD k 0) % (16 : UInt8))), (31, yv (((s.getD k 0) % (16 : UInt8)) + (1 : UInt8))), (32, sv (hx1 ((s.getD k 0) % (16 : UInt8)))), (0, _), (2, _), (4, _), (3, _), (5, _), (6, _), (7, _), (8, _)] [] a := hfr
    refine wl_nil ?_
    refine wd_lin (k := 22) 24 [23] (by kernel_rfl) (by kernel_rfl) (by kernel_rfl) ?_
    refine wl_v hfr (by decide) (v_sadd rfl rfl (by (try simp only [List.length_append]); omega)) ?_
    clear hfr
    intro a hfr
    refine wl_v hfr (by decide) (v_assign rfl) ?_
    clear hfr
    intro a hfr
    refine wl_nil ?_
    refine wd_end (by kernel_rfl) ?_
    refine hK7 _ _ ?_
    replace hfr : Fr 35 [(0, _), (2, _), (4, _), (3, _)] [] a := hfr.pick [0, 2, 4, 3]
    refine wc_region ?_
    refine wl_v hfr (by decide) (v_move rfl) ?_
    clear hfr
    intro a hfr
    refine wl_v hfr (by decide) (v_add rfl rfl ⟨by omega, by omega⟩) ?_
    clear hfr
    intro a hfr
    refine wl_v hfr (by decide) (v_assign rfl) ?_
    clear hfr
    intro a hfr
    refine wl_nil ?_
    rw [← hexH_snoc (by omega)] at hfr
    refine ⟨_, ?_, k + 1, rfl, (by omega), hfr.pick [0, 2, 4, 3], hst.select [] (by decide)⟩
    omega
  rw [hc1] at hfr
  try simp only [Bool.not_eq_true', Bool.not_eq_false', decide_eq_true_eq, decide_eq_false_iff_not] at hc1
  refine wc_exit ?_
  refine hK3 _ _ ?_
  refine wc_seq_region fun K8 hK8 => ?_
  refine wl_v hfr (by decide) (v_move rfl) ?_
  clear hfr
  intro a hfr
  refine wl_v hfr (by decide) (v_assign rfl) ?_
  clear hfr
  intro a hfr
  refine wl_nil (hK8 _ _ ?_)
  replace hfr : Fr 35 [(2, _)] [] a := hfr.pick [2]
  refine wc_ret ?_
  refine fin_ret hfr Tryd.results39 (resAre_tmp rfl resAre_nil) ?_
  obtain rfl : k = s.length := by omega
  exact ⟨by simp only [retv]; rw [List.take_length], hst.ext⟩

set_option maxHeartbeats 4000000 in
/-- dialtone/dialtonelaw02.sane -/
theorem sane_ok (w0 : World) (hk0 : (blk 0 (kOf.map wv) 88).ok w0) :
    Ret Tryd.prog 12 #[] w0 fun v w => v = .bool true ∧ Ext No w0 w := by
  refine ret_of Tryd.func12 rfl Tryd.ntmps12 (Nat.le_of_ble_eq_true rfl) fun a hfr => ?_
  replace hfr : Fr 89 [] [] a := hfr
  replace hst : St No w0 [] w0 := St.init w0
  refine wc_seq_region fun K1 hK1 => ?_
  refine wl_v hfr (by decide) (v_assign rfl) ?_
  clear hfr
  intro a hfr
  refine wl_nil (hK1 _ _ ?_)
  refine wc_seq_region fun K2 hK2 => ?_
  refine wl_buildSlice (E := 9) (sz := 1) rfl [[sv ([97])], [sv ([98])], [sv ([99])]] (by kernel_rfl) (by simp) rfl (by decide) (by decide) hfr hst ?_
  clear hfr hst
  intro a w1 hfr hst
  refine wl_v hfr (by decide) (v_assign rfl) ?_
  clear hfr
  intro a hfr
  refine wl_nil (hK2 _ _ ?_)
  replace hst : St No w0 [own (.slice (some ⟨w0.heap.size, 0, none⟩) 3 3) 9 1 (([[97], [98], [99]] : List By).map fun s => [sv s])] w1 := hst
  refine wc_seq_region fun K3 hK3 => ?_
  refine wl_v hfr (by decide) (v_move rfl) ?_
  clear hfr
  intro a hfr
  refine wl_callm hfr hst (by decide) Tryd.call14 rfl (proof_ok (.slice (some ⟨w0.heap.size, 0, none⟩) 3 3) ([[97], [98], [99]] : List By) 2 _ (hst.ownAt (i := 0) rfl) (by decide) (by decide) (by decide) (hst.keepb hk0)) ?_
  clear hfr hst
  intro a w2 x2 hp hfr hst
  revert x2 hp hfr hst; rintro v1 hp hfr hst
  clear hp
  replace hst : St No w0 [own v1 9 1 ((proofH sha ([[97], [98], [99]] : List By) 2).map fun s => [sv s]), own (.slice (some ⟨w0.heap.size, 0, none⟩) 3 3) 9 1 (([[97], [98], [99]] : List By).map fun s => [sv s])] w2 := hst
  refine wl_v hfr (by decide) (v_move rfl) ?_
  clear hfr
  intro a hfr
  refine wl_v hfr (by decide) (v_extract rfl rfl) ?_
  clear hfr
  intro a hfr
  refine wl_v hfr (by decide) (v_extract rfl rfl) ?_
  clear hfr
  intro a hfr
  refine wl_v hfr (by decide) (v_assign rfl) ?_
  clear hfr
  intro a hfr
  refine wl_v hfr (by decide) (v_assign rfl) ?_
  clear hfr
  intro a hfr
  refine wl_nil (hK3 _ _ ?_)
  replace hfr : Fr 89 [(0, _), (1, _), (2, _), (3, _)] [] a := hfr.pick [0, 1, 2, 3]
  refine wc_seq_region fun K4 hK4 => ?_
  refine wl_v hfr (by decide) (v_move rfl) ?_
  clear hfr
  intro a hfr
  refine wl_callm hfr hst (by decide) Tryd.call16 rfl (ext_ok (.slice (some ⟨w0.heap.size, 0, none⟩) 3 3) ([[97], [98], [99]] : List By) 1 _ (hst.ownAt (i := 1) rfl) (by decide) (by decide) (by decide) (by decide) (hst.keepb hk0)) ?_
  clear hfr hst
  intro a w3 x4 hp hfr hst
  revert x4 hp hfr hst; rintro v3 hp hfr hst
  clear hp
  replace hst : St No w0 [own v3 9 1 ((partH sha ([[97], [98], [99]] : List By) 1 true).map fun s => [sv s]), own v1 9 1 ((proofH sha ([[97], [98], [99]] : List By) 2).map fun s => [sv s]), own (.slice (some ⟨w0.heap.size, 0, none⟩) 3 3) 9 1 (([[97], [98], [99]] : List By).map fun s => [sv s])] w3 := hst
  refine wl_v hfr (by decide) (v_move rfl) ?_
  clear hfr
  intro a hfr
  refine wl_v hfr (by decide) (v_extract rfl rfl) ?_
  clear hfr
  intro a hfr
  refine wl_v hfr (by decide) (v_extract rfl rfl) ?_
  clear hfr
  intro a hfr
  refine wl_v hfr (by decide) (v_assign rfl) ?_
  clear hfr
  intro a hfr
  refine wl_v hfr (by decide) (v_assign rfl) ?_
  clear hfr
  intro a hfr
  refine wl_nil (hK4 _ _ ?_)
  refine wc_seq_region fun K5 hK5 => ?_
  refine wl_v hfr (by decide) (v_move rfl) ?_
  clear hfr
  intro a hfr
  refine wl_callp hfr hst (by decide) Tryd.call14 rfl (proof_err (.slice (some ⟨w0.heap.size, 0, none⟩) 3 3) ([[97], [98], [99]] : List By) 3 _ (hst.ownAt (i := 2) rfl) (by decide)) ?_
  clear hfr hst
  intro a w4 hfr hst
  refine wl_v hfr (by decide) (v_move rfl) ?_
  clear hfr
  intro a hfr
  refine wl_v hfr (by decide) (v_extract rfl rfl) ?_
  clear hfr
  intro a hfr
  refine wl_v hfr (by decide) (v_extract rfl rfl) ?_
  clear hfr
  intro a hfr
  refine wl_v hfr (by decide) (v_assign rfl) ?_
  clear hfr
  intro a hfr
  refine wl_v hfr (by decide) (v_assign rfl) ?_
  clear hfr
  intro a hfr
  refine wl_nil (hK5 _ _ ?_)
  replace hfr : Fr 89 [(0, _), (1, _), (2, _), (3, _), (4, _), (5, _), (7, _)] [] a := hfr.pick [0, 1, 2, 3, 4, 5, 7]
  refine wc_seq_region fun K6 hK6 => ?_
  refine wl_v hfr (by decide) (v_move rfl) ?_
  clear hfr
  intro a hfr
  refine wl_callp hfr hst (by decide) Tryd.call19 rfl (root_ok (.slice (some ⟨w0.heap.size, 0, none⟩) 3 3) ([[97], [98], [99]] : List By) _ (hst.ownAt (i := 2) rfl) (by decide) (by decide) (hst.keepb hk0)) ?_
  clear hfr hst
  intro a w5 hfr hst
  refine wl_v hfr (by decide) (v_assign rfl) ?_
  clear hfr
  intro a hfr
  refine wl_nil (hK6 _ _ ?_)
  refine wc_seq_region fun K7 hK7 => ?_
  refine wl_callp hfr hst (by decide) Tryd.call30 rfl (sum_ok ([]) _ (hst.keepb hk0) (by simp)) ?_
  clear hfr hst
  intro a w6 hfr hst
  refine wl_callp hfr hst (by decide) Tryd.call39 rfl (hex_ok (sha ([])) _ (by rw [sha_len]; decide)) ?_
  clear hfr hst
  intro a w7 hfr hst
  refine wl_v hfr (by decide) ((v_seq rfl rfl).asb (b' := true) (by exact decide_eq_true hex_empty)) ?_
  clear hfr
  intro a hfr
  refine wl_v hfr (by decide) (v_move rfl) ?_
  clear hfr
  intro a hfr
  refine wl_callpy hfr hst (by decide) rfl (by decide) rfl Tryd.call30 rfl (sum_ok ([97, 98, 99]) _ (hst.keepb hk0) (by simp)) ?_
  clear hfr hst
  intro a w8 hfr hst
  refine wl_callpy hfr hst (by decide) rfl (by decide) rfl Tryd.call39 rfl (hex_ok (sha ([97, 98, 99])) _ (by rw [sha_len]; decide)) ?_
  clear hfr hst
  intro a w9 hfr hst
  refine wl_vy hfr (by decide) rfl (by decide) rfl ((v_seq rfl rfl).asb (b' := true) (by exact decide_eq_true hex_abc)) ?_
  clear hfr
  intro a hfr
  refine wl_v hfr (by decide) (v_pick_t rfl rfl) ?_
  clear hfr
  intro a hfr
  refine wl_v hfr (by decide) (v_assign rfl) ?_
  clear hfr
  intro a hfr
  refine wl_nil (hK7 _ _ ?_)
  replace hfr : Fr 89 [(0, _), (1, _), (2, _), (3, _), (4, _), (5, _), (7, _), (8, _), (9, _)] [] a := hfr.pick [0, 1, 2, 3, 4, 5, 7, 8, 9]
  refine wc_seq_region fun K8 hK8 => ?_
  refine wl_v hfr (by decide) (v_move rfl) ?_
  clear hfr
  intro a hfr
  refine wl_v hfr (by decide) ((v_eq rfl rfl).asb (b' := true) rfl) ?_
  clear hfr
  intro a hfr
  refine wl_v hfr (by decide) (v_move rfl) ?_
  clear hfr
  intro a hfr
  refine wl_vy hfr (by decide) rfl (by decide) rfl (v_move rfl) ?_
  clear hfr
  intro a hfr
  refine wl_vy hfr (by decide) rfl (by decide) rfl ((v_len_sl (sT := 22) (hst.ownAt (i := 1) rfl) rfl rfl (Tryd.runUnderlying22 _)).asi (m' := ((proofH sha ([[97], [98], [99]] : List By) 2).length : Int)) (by simp)) ?_
  clear hfr
  intro a hfr
  refine wl_vy hfr (by decide) rfl (by decide) rfl ((v_eq rfl rfl).asb (b' := true) (by rw [sane5]; rfl)) ?_
  clear hfr
  intro a hfr
  refine wl_v hfr (by decide) (v_pick_t rfl rfl) ?_
  clear hfr
  intro a hfr
  refine wl_v hfr (by decide) (v_move rfl) ?_
  clear hfr
  intro a hfr
  refine wl_vy hfr (by decide) rfl (by decide) rfl (v_move rfl) ?_
  clear hfr
  intro a hfr
  refine wl_vy hfr (by decide) rfl (by decide) rfl ((v_eq rfl rfl).asb (b' := true) rfl) ?_
  clear hfr
  intro a hfr
  refine wl_v hfr (by decide) (v_pick_t rfl rfl) ?_
  clear hfr
  intro a hfr
  refine wl_v hfr (by decide) (v_move rfl) ?_
  clear hfr
  intro a hfr
  refine wl_vy hfr (by decide) rfl (by decide) rfl (v_move rfl) ?_
  clear hfr
  intro a hfr
  refine wl_vy hfr (by decide) rfl (by decide) rfl ((v_len_sl (sT := 22) (hst.ownAt (i := 0) rfl) rfl rfl (Tryd.runUnderlying22 _)).asi (m' := ((partH sha ([[97], [98], [99]] : List By) 1 true).length : Int)) (by simp)) ?_
  clear hfr
  intro a hfr
  refine wl_vy hfr (by decide) rfl (by decide) rfl ((v_eq rfl rfl).asb (b' := true) (by rw [sane6]; rfl)) ?_
  clear hfr
  intro a hfr
  refine wl_v hfr (by decide) (v_pick_t rfl rfl) ?_
  clear hfr
  intro a hfr
  refine wl_v hfr (by decide) (v_move rfl) ?_
  clear hfr
  intro a hfr
  refine wl_vy hfr (by decide) rfl (by decide) rfl (v_move rfl) ?_
  clear hfr
  intro a hfr
  refine wl_vy hfr (by decide) rfl (by decide) rfl ((v_eq rfl rfl).asb (b' := true) rfl) ?_
  clear hfr
  intro a hfr
  refine wl_v hfr (by decide) (v_pick_t rfl rfl) ?_
  clear hfr
  intro a hfr
  refine wl_v hfr (by decide) (v_assign rfl) ?_
  clear hfr
  intro a hfr
  refine wl_nil (hK8 _ _ ?_)
  replace hfr : Fr 89 [(0, _), (1, _), (2, _), (4, _), (8, _), (9, _), (10, _)] [] a := hfr.pick [0, 1, 2, 4, 8, 9, 10]
  refine wc_seq_region fun K9 hK9 => ?_
  refine wl_v hfr (by decide) (v_move rfl) ?_
  clear hfr
  intro a hfr
  refine wl_v hfr (by decide) (v_move rfl) ?_
  clear hfr
  intro a hfr
  refine wl_vy hfr (by decide) rfl (by decide) rfl (v_move rfl) ?_
  clear hfr
  intro a hfr
  refine wl_v hfr (by decide) (v_pick_t rfl rfl) ?_
  clear hfr
  intro a hfr
  refine wl_v hfr (by decide) (v_move rfl) ?_
  clear hfr
  intro a hfr
  refine wl_vy hfr (by decide) rfl (by decide) rfl (v_move rfl) ?_
  clear hfr
  intro a hfr
  refine wl_vy hfr (by decide) rfl (by decide) rfl (v_move rfl) ?_
  clear hfr
  intro a hfr
  refine wl_callpy hfr hst (by decide) rfl (by decide) rfl Tryd.call21 rfl (ret_b sane1 (verify_ok _ [99] 3 2 v1 _ _ (hst.ownAt (i := 1) rfl) (by rw [sane5]; decide) (by decide) (by decide) (hst.keepb hk0))) ?_
  clear hfr hst
  intro a w10 hfr hst
  refine wl_v hfr (by decide) (v_pick_t rfl rfl) ?_
  clear hfr
  intro a hfr
  refine wl_v hfr (by decide) (v_move rfl) ?_
  clear hfr
  intro a hfr
  refine wl_vy hfr (by decide) rfl (by decide) rfl (v_move rfl) ?_
  clear hfr
  intro a hfr
  refine wl_vy hfr (by decide) rfl (by decide) rfl (v_move rfl) ?_
  clear hfr
  intro a hfr
  refine wl_callpy hfr hst (by decide) rfl (by decide) rfl Tryd.call21 rfl (ret_b sane2 (verify_ok _ [100] 3 2 v1 _ _ (hst.ownAt (i := 1) rfl) (by rw [sane5]; decide) (by decide) (by decide) (hst.keepb hk0))) ?_
  clear hfr hst
  intro a w11 hfr hst
  refine wl_vy hfr (by decide) rfl (by decide) rfl ((v_not rfl).asb (b' := true) rfl) ?_
  clear hfr
  intro a hfr
  refine wl_v hfr (by decide) (v_pick_t rfl rfl) ?_
  clear hfr
  intro a hfr
  refine wl_v hfr (by decide) (v_move rfl) ?_
  clear hfr
  intro a hfr
  refine wl_vy hfr (by decide) rfl (by decide) rfl (v_move rfl) ?_
  clear hfr
  intro a hfr
  refine wl_vy hfr (by decide) rfl (by decide) rfl (v_slice_at (l := 0) (h := 1) (hst.ownAt (i := 2) rfl) rfl rfl rfl Tryd.underlying22 (by kernel_rfl) (.inl ⟨rfl, rfl⟩) (.inr rfl) (Nat.zero_le _) (by first | (rw [List.length_map]; omega) | (simp <;> omega))) ?_
  clear hfr
  intro a hfr
  refine wl_callpy hfr hst (by decide) rfl (by decide) rfl Tryd.call19 rfl (root_ok (cut (.slice (some ⟨w0.heap.size, 0, none⟩) 3 3) 1 0 1 (slCap (.slice (some ⟨w0.heap.size, 0, none⟩) 3 3))) (([[97], [98], [99]] : List By).take 1) _ ((hst.ownAt (i := 2) rfl).cut0 (h := 1) (by first | omega | (rw [List.length_reverse]; omega) | simp | (simp; omega))) (by decide) (by decide) (hst.keepb hk0)) ?_
  clear hfr hst
  intro a w12 hfr hst
  refine wl_vy hfr (by decide) rfl (by decide) rfl (v_move rfl) ?_
  clear hfr
  intro a hfr
  refine wl_vy hfr (by decide) rfl (by decide) rfl (v_move rfl) ?_
  clear hfr
  intro a hfr
  refine wl_callpy hfr hst (by decide) rfl (by decide) rfl Tryd.call23 rfl (ret_b sane3 (verifyx_ok _ _ 1 3 v3 _ _ (hst.ownAt (i := 0) rfl) (by rw [sane6]; decide) (by decide) (hst.keepb hk0))) ?_
  clear hfr hst
  intro a w13 hfr hst
  refine wl_v hfr (by decide) (v_pick_t rfl rfl) ?_
  clear hfr
  intro a hfr
  refine wl_v hfr (by decide) (v_move rfl) ?_
  clear hfr
  intro a hfr
  refine wl_vy hfr (by decide) rfl (by decide) rfl (v_move rfl) ?_
  clear hfr
  intro a hfr
  refine wl_vy hfr (by decide) rfl (by decide) rfl (v_slice_at (l := 0) (h := 2) (hst.ownAt (i := 2) rfl) rfl rfl rfl Tryd.underlying22 (by kernel_rfl) (.inl ⟨rfl, rfl⟩) (.inr rfl) (Nat.zero_le _) (by first | (rw [List.length_map]; omega) | (simp <;> omega))) ?_
  clear hfr
  intro a hfr
  refine wl_callpy hfr hst (by decide) rfl (by decide) rfl Tryd.call19 rfl (root_ok (cut (.slice (some ⟨w0.heap.size, 0, none⟩) 3 3) 1 0 2 (slCap (.slice (some ⟨w0.heap.size, 0, none⟩) 3 3))) (([[97], [98], [99]] : List By).take 2) _ ((hst.ownAt (i := 2) rfl).cut0 (h := 2) (by first | omega | (rw [List.length_reverse]; omega) | simp | (simp; omega))) (by decide) (by decide) (hst.keepb hk0)) ?_
  clear hfr hst
  intro a w14 hfr hst
  refine wl_vy hfr (by decide) rfl (by decide) rfl (v_move rfl) ?_
  clear hfr
  intro a hfr
  refine wl_vy hfr (by decide) rfl (by decide) rfl (v_move rfl) ?_
  clear hfr
  intro a hfr
  refine wl_callpy hfr hst (by decide) rfl (by decide) rfl Tryd.call23 rfl (ret_b sane4 (verifyx_ok _ _ 1 3 v3 _ _ (hst.ownAt (i := 0) rfl) (by rw [sane6]; decide) (by decide) (hst.keepb hk0))) ?_
  clear hfr hst
  intro a w15 hfr hst
  refine wl_vy hfr (by decide) rfl (by decide) rfl ((v_not rfl).asb (b' := true) rfl) ?_
  clear hfr
  intro a hfr
  refine wl_v hfr (by decide) (v_pick_t rfl rfl) ?_
  clear hfr
  intro a hfr
  refine wl_v hfr (by decide) (v_assign rfl) ?_
  clear hfr
  intro a hfr
  refine wl_nil (hK9 _ _ ?_)
  replace hfr : Fr 89 [(0, _)] [] a := hfr.pick [0]
  replace hst : St No w0 [] w15 := hst.mask [false, false, false]
  refine wc_ret ?_
  refine fin_ret hfr Tryd.results12 (resAre_tmp rfl resAre_nil) ?_
  exact ⟨by rfl, hst.ext⟩
end Go.Proofs.YtmcoolbjgeibcaaDoor
namespace Go.Proofs.YtmcoolbjgeibcaaDoor
open Go.RowKit Go.PW
set_option linter.unusedVariables false
set_option linter.unusedSimpArgs false
set_option maxRecDepth 4000

/-- dialtone/dialtonelaw02.heads -/
theorem heads_ok (lv : Value) (ls : List By) (w0 : World) (hlv : SlAt w0 lv 1 (ls.map fun s => [sv s])) (hln : ls.length ≤ 1000) (hls : ∀ s ∈ ls, s.length ≤ 40000000) (hk0 : (blk 0 (kOf.map wv) 88).ok w0) :
    Ret Tryd.prog 38 #[lv] w0 (MemR w0 (fun v : Value => .tuple #[v, sv (headsH sha ls).2]) (fun v => [own v 9 1 ((headsH sha ls).1.map fun s => [sv s])]) (fun _ => True)) := by
  have hnb := hlv.le
  rw [List.length_map] at hnb
  refine ret_of Tryd.func38 rfl Tryd.ntmps38 (Nat.le_of_ble_eq_true rfl) fun a hfr => ?_
  replace hfr : Fr 33 [(0, _)] [] a := hfr
  replace hst : St No w0 [] w0 := St.init w0
  refine wc_seq_region fun K1 hK1 => ?_
  refine wl_v hfr (by decide) (v_assign rfl) ?_
  clear hfr
  intro a hfr
  refine wl_v hfr (by decide) (v_assign rfl) ?_
  clear hfr
  intro a hfr
  refine wl_nil (hK1 _ _ ?_)
  refine wc_seq_region fun K2 hK2 => ?_
  refine wl_makeSlice (n := 32) (E := 5) (sz := 1) rfl rfl ((List.replicate 32 (0 : UInt8)).map fun b => [yv b]) (by kernel_rfl) (by intro e he; first | (simp at he; simp [he]; done) | (obtain ⟨_, _, rfl⟩ := List.mem_map.1 he; rfl)) (by simp) (by decide) (by decide) hfr hst ?_
  clear hfr hst
  intro a w1 hfr hst
  refine wl_v hfr (by decide) (v_conv_sls (hst.ownAt (i := 0) rfl) rfl Tryd.underlying46 Tryd.underlying5 Tryd.underlying9) ?_
  clear hfr
  intro a hfr
  refine wl_v hfr (by decide) (v_assign rfl) ?_
  clear hfr
  intro a hfr
  refine wl_nil (hK2 _ _ ?_)
  refine wc_seq_region fun K3 hK3 => ?_
  refine wl_v hfr (by decide) (v_assign rfl) ?_
  clear hfr
  intro a hfr
  refine wl_nil (hK3 _ _ ?_)
  refine wc_seq_k fun K4 hK4 => ?_
  refine wc_seq_region fun K5 hK5 => ?_
  refine wl_v hfr (by decide) (v_assign rfl) ?_
  clear hfr
  intro a hfr
  refine wl_nil (hK5 _ _ ?_)
  refine wc_block ?_
  replace hst : St No w0 [own (.slice none 0 0) 9 1 ((headsH sha (ls.take 0)).1.map fun s => [sv s])] w1 := (hst.mask [false]).nil_own
  have hz : (List.replicate 32 (0 : UInt8)) = (headsH sha (ls.take 0)).2 := rfl
  rw [hz] at hfr
  refine wc_loop (fun m a w => ∃ (k : Nat) (v : Value), m = ls.length - k ∧ (k ≤ ls.length) ∧ Fr 33 [(0, lv), (2, .slice none 0 0), (3, sv ([])), (6, .int .i64 (k : Int)), (4, sv ((headsH sha (ls.take k)).2)), (5, v)] [] a ∧ St No w0 [own v 9 1 ((headsH sha (ls.take k)).1.map fun s => [sv s])] w) _ ⟨0, .slice none 0 0, rfl, Nat.zero_le _, hfr.pick [0, 2, 3, 6, 4, 5], hst.select [0] (by decide)⟩ ?_
  rintro _ a w2 ⟨k, v, rfl, hk, hfr, hst⟩
  have hh32 := headsH_32 sha_len (ls.take k)
  have hhl := headsH_len sha (ls.take k)
  rw [List.length_take] at hhl
  refine wc_seq_k fun K6 hK6 => ?_
  refine wc_seq_region fun K7 hK7 => ?_
  refine wl_v hfr (by decide) (v_move rfl) ?_
  clear hfr
  intro a hfr
  refine wl_v hfr (by decide) (v_move rfl) ?_
  clear hfr
  intro a hfr
  refine wl_v hfr (by decide) ((v_len_sl (sT := 22) (hst.arg hlv) rfl rfl (Tryd.runUnderlying22 _)).asi (m' := (ls.length : Int)) (by simp)) ?_
  clear hfr
  intro a hfr
  refine wl_v hfr (by decide) (v_lt rfl rfl) ?_
  clear hfr
  intro a hfr
  refine wl_nil (hK7 _ _ ?_)
  refine wc_cond hfr rfl (fun hc1 => ?_) (fun hc1 => ?_)
  · rw [hc1] at hfr
    try simp only [Bool.not_eq_true', Bool.not_eq_false', decide_eq_true_eq, decide_eq_false_iff_not] at hc1
    have hxl := hls _ (getD_mem (d := []) (show k < ls.length by omega))
    refine wc_skip ?_
    refine hK6 _ _ ?_
    refine wc_seq_k fun K8 hK8 => ?_
    refine wc_block ?_
    refine wc_seq_region fun K9 hK9 => ?_
    refine wl_v hfr (by decide) (v_move rfl) ?_
    clear hfr
    intro a hfr
    refine wl_v hfr (by decide) (v_sadd rfl rfl (by (simp only [List.length_append, List.length_cons, List.length_nil]); omega)) ?_
    clear hfr
    intro a hfr
    refine wl_v hfr (by decide) (v_move rfl) ?_
    clear hfr
    intro a hfr
    refine wl_v hfr (by decide) (v_move rfl) ?_
    clear hfr
    intro a hfr
    refine wl_v hfr (by decide) ((v_indexAddr_sl (i := (k : Int)) (sT := 22) (hst.arg hlv) rfl rfl (Tryd.runUnderlying22 _) (Tryd.sizeOf9 _) (by omega) (by rw [List.length_map]; omega)).as (v' := slAddr lv (k * 1)) rfl) ?_
    clear hfr
    intro a hfr
    refine wl_v hfr (by decide) (v_load_sl1 (u := sv (ls.getD k [])) (i := k) (j := 0) (hst.arg hlv) (by rw [List.length_map]; omega) rfl (Tryd.isAgg9 _) (by simp [List.getD_eq_getElem?_getD, List.getElem?_eq_getElem (show k < ls.length by omega)])) ?_
    clear hfr
    intro a hfr
    refine wl_v hfr (by decide) (v_sadd rfl rfl (by (simp only [List.length_append, List.length_cons, List.length_nil]); omega)) ?_
    clear hfr
    intro a hfr
    refine wl_buildSlice (E := 9) (sz := 1) rfl [[sv ((([2]) ++ ((headsH sha (ls.take k)).2)) ++ (ls.getD k []))]] (by kernel_rfl) (by simp) rfl (by decide) (by decide) hfr hst ?_
    clear hfr hst
    intro a w3 hfr hst
    refine wl_v hfr (by decide) (v_move rfl) ?_
    clear hfr
    intro a hfr
    refine wl_append_any (i := 0) (sT := 22) (inf := Tryd.t9) (z := .string (⟨#[]⟩)) rfl rfl rfl (hst.ownAt (i := 1) rfl) Tryd.underlying22 rfl rfl rfl rfl (by decide) (by simp [Value.oneCell', yv, wv, sv]) (by have hby : Tryd.t9.bytes = 16 := rfl; simp only [big, hby, List.length_append, List.length_map, List.length_cons, List.length_nil]; omega) (by have hby : Tryd.t9.bytes = 16 := rfl; simp only [big, hby, List.length_append, List.length_map, List.length_cons, List.length_nil]; omega) (by decide) hfr hst ?_
    clear hfr hst
    intro a w4 s2 hfr hst
    refine wl_v hfr (by decide) (v_assign rfl) ?_
    clear hfr
    intro a hfr
    refine wl_nil (hK9 _ _ ?_)
    replace hfr : Fr 33 [(0, _), (2, _), (3, _), (6, _), (4, _), (5, _)] [] a := hfr.pick [0, 2, 3, 6, 4, 5]
    refine wc_region ?_
    refine wl_v hfr (by decide) (v_move rfl) ?_
    clear hfr
    intro a hfr
    refine wl_v hfr (by decide) (v_move rfl) ?_
    clear hfr
    intro a hfr
    refine wl_v hfr (by decide) (v_move rfl) ?_
    clear hfr
    intro a hfr
    refine wl_v hfr (by decide) ((v_indexAddr_sl (i := (k : Int)) (sT := 22) (hst.arg hlv) rfl rfl (Tryd.runUnderlying22 _) (Tryd.sizeOf9 _) (by omega) (by rw [List.length_map]; omega)).as (v' := slAddr lv (k * 1)) rfl) ?_
    clear hfr
    intro a hfr
    refine wl_v hfr (by decide) (v_load_sl1 (u := sv (ls.getD k [])) (i := k) (j := 0) (hst.arg hlv) (by rw [List.length_map]; omega) rfl (Tryd.isAgg9 _) (by simp [List.getD_eq_getElem?_getD, List.getElem?_eq_getElem (show k < ls.length by omega)])) ?_
    clear hfr
    intro a hfr
    refine wl_callp hfr hst (by decide) Tryd.call36 rfl (chain_ok ((headsH sha (ls.take k)).2) (ls.getD k []) _ (by omega) (by omega) (hst.keepb hk0)) ?_
    clear hfr hst
    intro a w5 hfr hst
    refine wl_v hfr (by decide) (v_assign rfl) ?_
    clear hfr
    intro a hfr
    refine wl_nil ?_
    refine hK8 _ _ ?_
    replace hfr : Fr 33 [(0, _), (2, _), (3, _), (6, _), (5, _), (4, _)] [] a := hfr.pick [0, 2, 3, 6, 5, 4]
    refine wc_region ?_
    refine wl_v hfr (by decide) (v_move rfl) ?_
    clear hfr
    intro a hfr
    refine wl_v hfr (by decide) (v_add rfl rfl ⟨by omega, by omega⟩) ?_
    clear hfr
    intro a hfr
    refine wl_v hfr (by decide) (v_assign rfl) ?_
    clear hfr
    intro a hfr
    refine wl_nil ?_
    rw [show ([[sv ((([2]) ++ ((headsH sha (ls.take k)).2)) ++ (ls.getD k []))]]) ++ ((headsH sha (ls.take k)).1.map fun s => [sv s]) = ((headsH sha (ls.take (k + 1))).1.map fun s => [sv s]) from by rw [take_snoc [] (by omega), headsH_snoc]; simp] at hst
    rw [show sha (2 :: ((headsH sha (ls.take k)).2 ++ ls.getD k [])) = (headsH sha (ls.take (k + 1))).2 from by rw [take_snoc [] (by omega), headsH_snoc]; rfl] at hfr
    refine ⟨_, ?_, k + 1, s2, rfl, (by omega), hfr.pick [0, 2, 3, 6, 4, 5], hst.select [0] (by decide)⟩
    omega
  rw [hc1] at hfr
  try simp only [Bool.not_eq_true', Bool.not_eq_false', decide_eq_true_eq, decide_eq_false_iff_not] at hc1
  refine wc_exit ?_
  refine hK4 _ _ ?_
  refine wc_seq_region fun K10 hK10 => ?_
  refine wl_v hfr (by decide) (v_move rfl) ?_
  clear hfr
  intro a hfr
  refine wl_v hfr (by decide) (v_move rfl) ?_
  clear hfr
  intro a hfr
  refine wl_v hfr (by decide) (v_assign rfl) ?_
  clear hfr
  intro a hfr
  refine wl_v hfr (by decide) (v_assign rfl) ?_
  clear hfr
  intro a hfr
  refine wl_nil (hK10 _ _ ?_)
  replace hfr : Fr 33 [(2, _), (3, _)] [] a := hfr.pick [2, 3]
  refine wc_ret ?_
  refine fin_ret hfr Tryd.results38 (resAre_tmp rfl (resAre_tmp rfl resAre_nil)) ?_
  obtain rfl : k = ls.length := by omega
  rw [List.take_length] at hst
  exact ⟨v, by rw [List.take_length]; rfl, trivial, hst.ext, St.out (E := [own v 9 1 ((headsH sha ls).1.map fun s => [sv s])]) (H := []) hst⟩

theorem way_left {n i : Nat} {s : By} {p : List By} (h : 2 ≤ n) (hp : 0 < p.length) (hi : i < lft n) : wayH sha n i s p = ((1 :: ((wayH sha (lft n) i s (p.take (p.length - 1))).2 ++ p.getD (p.length - 1) [])) :: (wayH sha (lft n) i s (p.take (p.length - 1))).1, nodeH sha (wayH sha (lft n) i s (p.take (p.length - 1))).2 (p.getD (p.length - 1) [])) := by
  conv => lhs; rw [take_last hp, wayH_snoc sha h, if_pos hi]
theorem way_right {n i : Nat} {s : By} {p : List By} (h : 2 ≤ n) (hp : 0 < p.length) (hi : ¬ i < lft n) : wayH sha n i s p = ((1 :: (p.getD (p.length - 1) [] ++ (wayH sha (n - lft n) (i - lft n) s (p.take (p.length - 1))).2)) :: (wayH sha (n - lft n) (i - lft n) s (p.take (p.length - 1))).1, nodeH sha (p.getD (p.length - 1) []) (wayH sha (n - lft n) (i - lft n) s (p.take (p.length - 1))).2) := by
  conv => lhs; rw [take_last hp, wayH_snoc sha h, if_neg hi]
theorem way_end {n i : Nat} {s : By} {p : List By} (h : n ≤ 1 ∨ p.length = 0) : wayH sha n i s p = ([0 :: s], leafH sha s) := by
  rcases h with h | h
  · exact wayH_one sha h
  · obtain rfl : p = [] := List.eq_nil_of_length_eq_zero h
    exact wayH_nil sha
theorem way_count : ∀ (p : List By) (n i : Nat) (s : By), (wayH sha n i s p).1.length ≤ p.length + 1 := by
  intro p
  induction hL : p.length generalizing p with
  | zero => intro n i s; rw [way_end (.inr hL)]; simp
  | succ k ih =>
    intro n i s
    by_cases h : n ≤ 1
    · rw [way_end (.inl h)]; simp
    · have hk : (p.take (p.length - 1)).length = k := by rw [List.length_take]; omega
      by_cases hi : i < lft n
      · rw [way_left (by omega) (by omega) hi]; have := ih _ hk (lft n) i s; simp; omega
      · rw [way_right (by omega) (by omega) hi]; have := ih _ hk (n - lft n) (i - lft n) s; simp; omega

set_option maxHeartbeats 4000000 in
/-- dialtone/dialtonelaw02.way -/
theorem way_ok (s : By) (hs : s.length ≤ 40000000) (L : Nat) :
    ∀ (n i : Nat) (lv : Value) (ls : List By) (w0 : World), ls.length = L → SlAt w0 lv 1 (ls.map fun s => [sv s]) → n ≤ 9223372036854775807 ∧ i ≤ 9223372036854775807 → ls.length ≤ 1000 → (∀ x ∈ ls, x.length = 32) → (blk 0 (kOf.map wv) 88).ok w0 → Ret Tryd.prog 26 #[.int .i64 (n : Int), .int .i64 (i : Int), sv s, lv] w0 (MemR w0 (fun v : Value => .tuple #[v, sv (wayH sha n i s ls).2]) (fun v => [own v 9 1 ((wayH sha n i s ls).1.map fun s => [sv s])]) (fun _ => True)) := by
  induction L using Nat.strongRecOn
  rename_i L ih
  intro n i lv ls w0 hL hlv hni hln hls hk0
  have hnb := hlv.le
  rw [List.length_map] at hnb
  refine ret_of Tryd.func26 rfl Tryd.ntmps26 (Nat.le_of_ble_eq_true rfl) fun a hfr => ?_
  replace hfr : Fr 85 [(0, _), (1, _), (2, _), (3, _)] [] a := hfr
  replace hst : St No w0 [] w0 := St.init w0
  refine wc_seq_region fun K1 hK1 => ?_
  refine wl_v hfr (by decide) (v_assign rfl) ?_
  clear hfr
  intro a hfr
  refine wl_v hfr (by decide) (v_assign rfl) ?_
  clear hfr
  intro a hfr
  refine wl_nil (hK1 _ _ ?_)
  refine wc_seq_k fun K2 hK2 => ?_
  refine wc_seq_region fun K3 hK3 => ?_
  refine wl_v hfr (by decide) (v_move rfl) ?_
  clear hfr
  intro a hfr
  refine wl_v hfr (by decide) (v_le rfl rfl) ?_
  clear hfr
  intro a hfr
  refine wl_v hfr (by decide) (v_move rfl) ?_
  clear hfr
  intro a hfr
  rcases Bool.eq_false_or_eq_true (decide ((n : Int) ≤ 1)) with hb1 | hb1
  · rw [hb1] at hfr
    try simp only [Bool.not_eq_true', Bool.not_eq_false', decide_eq_true_eq, decide_eq_false_iff_not] at hb1
    refine wl_vn hfr (by decide) rfl (by decide) rfl rfl ?_
    clear hfr
    intro a hfr
    refine wl_vn hfr (by decide) rfl (by decide) rfl rfl ?_
    clear hfr
    intro a hfr
    refine wl_vn hfr (by decide) rfl (by decide) rfl rfl ?_
    clear hfr
    intro a hfr
    refine wl_v hfr (by decide) (v_pick_t rfl rfl) ?_
    clear hfr
    intro a hfr
    refine wl_nil (hK3 _ _ ?_)
    replace hfr : Fr 85 [(0, _), (1, _), (2, _), (3, _), (8, _), (9, _), (23, _)] [] a := hfr.pick [0, 1, 2, 3, 8, 9, 23]
    refine wc_cond_t hfr rfl ?_
    refine wc_seq_region fun K4 hK4 => ?_
    refine wl_v hfr (by decide) (v_move rfl) ?_
    clear hfr
    intro a hfr
    refine wl_v hfr (by decide) (v_sadd rfl rfl (by (simp only [List.length_append, List.length_cons, List.length_nil]); omega)) ?_
    clear hfr
    intro a hfr
    refine wl_buildSlice (E := 9) (sz := 1) rfl [[sv (([0]) ++ s)]] (by kernel_rfl) (by simp) rfl (by decide) (by decide) hfr hst ?_
    clear hfr hst
    intro a w1 hfr hst
    refine wl_v hfr (by decide) (v_move rfl) ?_
    clear hfr
    intro a hfr
    refine wl_callp hfr hst (by decide) Tryd.call29 rfl (leaf_ok s _ (by omega) (hst.keepb hk0)) ?_
    clear hfr hst
    intro a w2 hfr hst
    refine wl_v hfr (by decide) (v_assign rfl) ?_
    clear hfr
    intro a hfr
    refine wl_v hfr (by decide) (v_assign rfl) ?_
    clear hfr
    intro a hfr
    refine wl_nil (hK4 _ _ ?_)
    replace hfr : Fr 85 [(0, _), (1, _), (2, _), (3, _), (8, _), (9, _)] [] a := hfr.pick [0, 1, 2, 3, 8, 9]
    refine wc_ret ?_
    refine fin_ret hfr Tryd.results26 (resAre_tmp rfl (resAre_tmp rfl resAre_nil)) ?_
    have hW := way_end (n := n) (i := i) (s := s) (p := ls) (by omega)
    refine ⟨(.slice (some ⟨w0.heap.size, 0, none⟩) 1 1), by rw [hW]; rfl, trivial, hst.ext, St.out (E := [own (.slice (some ⟨w0.heap.size, 0, none⟩) 1 1) 9 1 ((wayH sha n i s ls).1.map fun s => [sv s])]) (H := []) ?_⟩
    rw [hW]; exact hst.select [0] (by decide)
  rw [hb1] at hfr
  try simp only [Bool.not_eq_true', Bool.not_eq_false', decide_eq_true_eq, decide_eq_false_iff_not] at hb1
  refine wl_vy hfr (by decide) rfl (by decide) rfl (v_move rfl) ?_
  clear hfr
  intro a hfr
  refine wl_vy hfr (by decide) rfl (by decide) rfl ((v_len_sl (sT := 22) (hst.arg hlv) rfl rfl (Tryd.runUnderlying22 _)).asi (m' := (ls.length : Int)) (by simp)) ?_
  clear hfr
  intro a hfr
  refine wl_vy hfr (by decide) rfl (by decide) rfl (v_eq rfl rfl) ?_
  clear hfr
  intro a hfr
  refine wl_v hfr (by decide) (v_pick_f rfl rfl) ?_
  clear hfr
  intro a hfr
  refine wl_nil (hK3 _ _ ?_)
  replace hfr : Fr 85 [(0, _), (1, _), (2, _), (3, _), (8, _), (9, _), (23, _)] [] a := hfr.pick [0, 1, 2, 3, 8, 9, 23]
  refine wc_cond hfr rfl (fun hc2 => ?_) (fun hc2 => ?_)
  · rw [hc2] at hfr
    try simp only [Bool.not_eq_true', Bool.not_eq_false', decide_eq_true_eq, decide_eq_false_iff_not] at hc2
    refine wc_seq_region fun K5 hK5 => ?_
    refine wl_v hfr (by decide) (v_move rfl) ?_
    clear hfr
    intro a hfr
    refine wl_v hfr (by decide) (v_sadd rfl rfl (by (simp only [List.length_append, List.length_cons, List.length_nil]); omega)) ?_
    clear hfr
    intro a hfr
    refine wl_buildSlice (E := 9) (sz := 1) rfl [[sv (([0]) ++ s)]] (by kernel_rfl) (by simp) rfl (by decide) (by decide) hfr hst ?_
    clear hfr hst
    intro a w3 hfr hst
    refine wl_v hfr (by decide) (v_move rfl) ?_
    clear hfr
    intro a hfr
    refine wl_callp hfr hst (by decide) Tryd.call29 rfl (leaf_ok s _ (by omega) (hst.keepb hk0)) ?_
    clear hfr hst
    intro a w4 hfr hst
    refine wl_v hfr (by decide) (v_assign rfl) ?_
    clear hfr
    intro a hfr
    refine wl_v hfr (by decide) (v_assign rfl) ?_
    clear hfr
    intro a hfr
    refine wl_nil (hK5 _ _ ?_)
    replace hfr : Fr 85 [(0, _), (1, _), (2, _), (3, _), (8, _), (9, _)] [] a := hfr.pick [0, 1, 2, 3, 8, 9]
    refine wc_ret ?_
    refine fin_ret hfr Tryd.results26 (resAre_tmp rfl (resAre_tmp rfl resAre_nil)) ?_
    have hW := way_end (n := n) (i := i) (s := s) (p := ls) (by omega)
    refine ⟨(.slice (some ⟨w0.heap.size, 0, none⟩) 1 1), by rw [hW]; rfl, trivial, hst.ext, St.out (E := [own (.slice (some ⟨w0.heap.size, 0, none⟩) 1 1) 9 1 ((wayH sha n i s ls).1.map fun s => [sv s])]) (H := []) ?_⟩
    rw [hW]; exact hst.select [0] (by decide)
  rw [hc2] at hfr
  try simp only [Bool.not_eq_true', Bool.not_eq_false', decide_eq_true_eq, decide_eq_false_iff_not] at hc2
  have hlt := lft_lt (n := n) (by omega)
  have hlp := lft_pos n
  have hx32 := hls _ (getD_mem (d := []) (show ls.length - 1 < ls.length by omega))
  refine wc_skip ?_
  refine hK2 _ _ ?_
  refine wc_seq_region fun K6 hK6 => ?_
  refine wl_v hfr (by decide) (v_move rfl) ?_
  clear hfr
  intro a hfr
  refine wl_v hfr (by decide) (v_move rfl) ?_
  clear hfr
  intro a hfr
  refine wl_v hfr (by decide) ((v_len_sl (sT := 22) (hst.arg hlv) rfl rfl (Tryd.runUnderlying22 _)).asi (m' := (ls.length : Int)) (by simp)) ?_
  clear hfr
  intro a hfr
  refine wl_v hfr (by decide) (v_sub rfl rfl ⟨by omega, by omega⟩) ?_
  clear hfr
  intro a hfr
  refine wl_v hfr (by decide) ((v_indexAddr_sl (i := (ls.length : Int) - 1) (sT := 22) (hst.arg hlv) rfl rfl (Tryd.runUnderlying22 _) (Tryd.sizeOf9 _) (by omega) (by rw [List.length_map]; omega)).as (v' := slAddr lv ((ls.length - 1) * 1)) (by rw [show ((ls.length : Int) - 1).toNat = (ls.length - 1) from by omega])) ?_
  clear hfr
  intro a hfr
  refine wl_v hfr (by decide) (v_load_sl1 (u := sv (ls.getD (ls.length - 1) [])) (i := (ls.length - 1)) (j := 0) (hst.arg hlv) (by rw [List.length_map]; omega) rfl (Tryd.isAgg9 _) (by simp [List.getD_eq_getElem?_getD, List.getElem?_eq_getElem (show (ls.length - 1) < ls.length by omega)])) ?_
  clear hfr
  intro a hfr
  refine wl_v hfr (by decide) (v_assign rfl) ?_
  clear hfr
  intro a hfr
  refine wl_nil (hK6 _ _ ?_)
  replace hfr : Fr 85 [(0, _), (1, _), (2, _), (3, _), (8, _), (9, _), (10, _)] [] a := hfr.pick [0, 1, 2, 3, 8, 9, 10]
  refine wc_seq_region fun K7 hK7 => ?_
  refine wl_v hfr (by decide) (v_move rfl) ?_
  clear hfr
  intro a hfr
  refine wl_v hfr (by decide) (v_move rfl) ?_
  clear hfr
  intro a hfr
  refine wl_v hfr (by decide) ((v_len_sl (sT := 22) (hst.arg hlv) rfl rfl (Tryd.runUnderlying22 _)).asi (m' := (ls.length : Int)) (by simp)) ?_
  clear hfr
  intro a hfr
  refine wl_v hfr (by decide) (v_sub rfl rfl ⟨by omega, by omega⟩) ?_
  clear hfr
  intro a hfr
  refine wl_v hfr (by decide) (v_slice_at (l := 0) (h := (ls.length - 1)) (hst.arg hlv) rfl rfl rfl Tryd.underlying22 (by kernel_rfl) (.inl ⟨rfl, rfl⟩) (.inr (by rw [show ((ls.length : Int) - 1 : Int) = (((ls.length - 1) : Nat) : Int) from by omega] <;> rfl)) (Nat.zero_le _) (by first | (rw [List.length_map]; omega) | (simp <;> omega))) ?_
  clear hfr
  intro a hfr
  refine wl_v hfr (by decide) (v_assign rfl) ?_
  clear hfr
  intro a hfr
  refine wl_nil (hK7 _ _ ?_)
  replace hfr : Fr 85 [(0, _), (1, _), (2, _), (8, _), (9, _), (10, _), (11, _)] [] a := hfr.pick [0, 1, 2, 8, 9, 10, 11]
  refine wc_seq_region fun K8 hK8 => ?_
  refine wl_v hfr (by decide) (v_move rfl) ?_
  clear hfr
  intro a hfr
  refine wl_callp hfr hst (by decide) Tryd.call31 rfl (left02_ok n _ (by omega) (by omega)) ?_
  clear hfr hst
  intro a w5 hfr hst
  refine wl_v hfr (by decide) (v_assign rfl) ?_
  clear hfr
  intro a hfr
  refine wl_nil (hK8 _ _ ?_)
  refine wc_seq_k fun K9 hK9 => ?_
  refine wc_seq_region fun K10 hK10 => ?_
  refine wl_v hfr (by decide) (v_move rfl) ?_
  clear hfr
  intro a hfr
  refine wl_v hfr (by decide) (v_move rfl) ?_
  clear hfr
  intro a hfr
  refine wl_v hfr (by decide) (v_lt rfl rfl) ?_
  clear hfr
  intro a hfr
  refine wl_nil (hK10 _ _ ?_)
  refine wc_cond hfr rfl (fun hc3 => ?_) (fun hc3 => ?_)
  · rw [hc3] at hfr
    try simp only [Bool.not_eq_true', Bool.not_eq_false', decide_eq_true_eq, decide_eq_false_iff_not] at hc3
    refine wc_seq_region fun K11 hK11 => ?_
    refine wl_v hfr (by decide) (v_move rfl) ?_
    clear hfr
    intro a hfr
    refine wl_v hfr (by decide) (v_move rfl) ?_
    clear hfr
    intro a hfr
    refine wl_v hfr (by decide) (v_move rfl) ?_
    clear hfr
    intro a hfr
    refine wl_v hfr (by decide) (v_move rfl) ?_
    clear hfr
    intro a hfr
    refine wl_callm hfr hst (by decide) Tryd.call26 rfl (ih (ls.take (ls.length - 1)).length (by rw [List.length_take]; omega) (lft n) i (cut lv 1 0 (ls.length - 1) (slCap lv)) (ls.take (ls.length - 1)) _ rfl ((hst.arg hlv).cut0 (h := (ls.length - 1)) (by first | omega | (rw [List.length_reverse]; omega) | simp | (simp; omega))) (by omega) (by rw [List.length_take]; omega) (fun x h => hls x (List.mem_of_mem_take h)) (hst.keepb hk0)) ?_
    clear hfr hst
    intro a w6 x5 hp hfr hst
    revert x5 hp hfr hst; rintro v4 hp hfr hst
    clear hp
    replace hst : St No w0 [own v4 9 1 ((wayH sha (lft n) i s (ls.take (ls.length - 1))).1.map fun s => [sv s])] w6 := hst
    have hr32 := way_len sha_len (ls.take (ls.length - 1)) (lft n) i s
    have hrc := way_count (ls.take (ls.length - 1)) (lft n) i s
    rw [List.length_take] at hrc
    refine wl_v hfr (by decide) (v_move rfl) ?_
    clear hfr
    intro a hfr
    refine wl_v hfr (by decide) (v_extract rfl rfl) ?_
    clear hfr
    intro a hfr
    refine wl_v hfr (by decide) (v_extract rfl rfl) ?_
    clear hfr
    intro a hfr
    refine wl_v hfr (by decide) (v_assign rfl) ?_
    clear hfr
    intro a hfr
    refine wl_v hfr (by decide) (v_assign rfl) ?_
    clear hfr
    intro a hfr
    refine wl_nil (hK11 _ _ ?_)
    replace hfr : Fr 85 [(0, _), (1, _), (2, _), (8, _), (9, _), (10, _), (11, _), (12, _), (13, _), (14, _)] [] a := hfr.pick [0, 1, 2, 8, 9, 10, 11, 12, 13, 14]
    refine wc_seq_region fun K12 hK12 => ?_
    refine wl_v hfr (by decide) (v_move rfl) ?_
    clear hfr
    intro a hfr
    refine wl_v hfr (by decide) (v_sadd rfl rfl (by (simp only [List.length_append, List.length_cons, List.length_nil]); omega)) ?_
    clear hfr
    intro a hfr
    refine wl_v hfr (by decide) (v_move rfl) ?_
    clear hfr
    intro a hfr
    refine wl_v hfr (by decide) (v_sadd rfl rfl (by (simp only [List.length_append, List.length_cons, List.length_nil]); omega)) ?_
    clear hfr
    intro a hfr
    refine wl_buildSlice (E := 9) (sz := 1) rfl [[sv ((([1]) ++ ((wayH sha (lft n) i s (ls.take (ls.length - 1))).2)) ++ (ls.getD (ls.length - 1) []))]] (by kernel_rfl) (by simp) rfl (by decide) (by decide) hfr hst ?_
    clear hfr hst
    intro a w7 hfr hst
    refine wl_v hfr (by decide) (v_move rfl) ?_
    clear hfr
    intro a hfr
    refine wl_append_any (i := 0) (sT := 22) (inf := Tryd.t9) (z := .string (⟨#[]⟩)) rfl rfl rfl (hst.ownAt (i := 1) rfl) Tryd.underlying22 rfl rfl rfl rfl (by decide) (by simp [Value.oneCell', yv, wv, sv]) (by have hby : Tryd.t9.bytes = 16 := rfl; simp only [big, hby, List.length_append, List.length_map, List.length_cons, List.length_nil]; omega) (by have hby : Tryd.t9.bytes = 16 := rfl; simp only [big, hby, List.length_append, List.length_map, List.length_cons, List.length_nil]; omega) (by decide) hfr hst ?_
    clear hfr hst
    intro a w8 s6 hfr hst
    refine wl_v hfr (by decide) (v_move rfl) ?_
    clear hfr
    intro a hfr
    refine wl_v hfr (by decide) (v_move rfl) ?_
    clear hfr
    intro a hfr
    refine wl_callp hfr hst (by decide) Tryd.call32 rfl (node_ok ((wayH sha (lft n) i s (ls.take (ls.length - 1))).2) (ls.getD (ls.length - 1) []) _ (by omega) (by omega) (hst.keepb hk0)) ?_
    clear hfr hst
    intro a w9 hfr hst
    refine wl_v hfr (by decide) (v_assign rfl) ?_
    clear hfr
    intro a hfr
    refine wl_v hfr (by decide) (v_assign rfl) ?_
    clear hfr
    intro a hfr
    refine wl_nil (hK12 _ _ ?_)
    replace hfr : Fr 85 [(0, _), (1, _), (2, _), (10, _), (11, _), (12, _), (8, _), (9, _)] [] a := hfr.pick [0, 1, 2, 10, 11, 12, 8, 9]
    replace hst : St No w0 [_] w9 := hst.mask [true, false]
    refine wc_ret ?_
    refine fin_ret hfr Tryd.results26 (resAre_tmp rfl (resAre_tmp rfl resAre_nil)) ?_
    have hW := way_left (n := n) (i := i) (s := s) (p := ls) (by omega) (by omega) (by omega)
    refine ⟨s6, by rw [hW]; rfl, trivial, hst.ext, St.out (E := [own s6 9 1 ((wayH sha n i s ls).1.map fun s => [sv s])]) (H := []) ?_⟩
    rw [hW]; exact hst.select [0] (by decide)
  rw [hc3] at hfr
  try simp only [Bool.not_eq_true', Bool.not_eq_false', decide_eq_true_eq, decide_eq_false_iff_not] at hc3
  refine wc_skip ?_
  refine hK9 _ _ ?_
  refine wc_seq_region fun K13 hK13 => ?_
  refine wl_v hfr (by decide) (v_move rfl) ?_
  clear hfr
  intro a hfr
  refine wl_v hfr (by decide) (v_move rfl) ?_
  clear hfr
  intro a hfr
  refine wl_v hfr (by decide) ((v_sub rfl rfl ⟨by omega, by omega⟩).asi (m' := ((n - lft n : Nat) : Int)) (by omega)) ?_
  clear hfr
  intro a hfr
  refine wl_v hfr (by decide) (v_move rfl) ?_
  clear hfr
  intro a hfr
  refine wl_v hfr (by decide) (v_move rfl) ?_
  clear hfr
  intro a hfr
  refine wl_v hfr (by decide) ((v_sub rfl rfl ⟨by omega, by omega⟩).asi (m' := ((i - lft n : Nat) : Int)) (by omega)) ?_
  clear hfr
  intro a hfr
  refine wl_v hfr (by decide) (v_move rfl) ?_
  clear hfr
  intro a hfr
  refine wl_v hfr (by decide) (v_move rfl) ?_
  clear hfr
  intro a hfr
  refine wl_callm hfr hst (by decide) Tryd.call26 rfl (ih (ls.take (ls.length - 1)).length (by rw [List.length_take]; omega) (n - lft n) (i - lft n) (cut lv 1 0 (ls.length - 1) (slCap lv)) (ls.take (ls.length - 1)) _ rfl ((hst.arg hlv).cut0 (h := (ls.length - 1)) (by first | omega | (rw [List.length_reverse]; omega) | simp | (simp; omega))) (by omega) (by rw [List.length_take]; omega) (fun x h => hls x (List.mem_of_mem_take h)) (hst.keepb hk0)) ?_
  clear hfr hst
  intro a w10 x8 hp hfr hst
  revert x8 hp hfr hst; rintro v7 hp hfr hst
  clear hp
  replace hst : St No w0 [own v7 9 1 ((wayH sha (n - lft n) (i - lft n) s (ls.take (ls.length - 1))).1.map fun s => [sv s])] w10 := hst
  have hr32 := way_len sha_len (ls.take (ls.length - 1)) (n - lft n) (i - lft n) s
  have hrc := way_count (ls.take (ls.length - 1)) (n - lft n) (i - lft n) s
  rw [List.length_take] at hrc
  refine wl_v hfr (by decide) (v_move rfl) ?_
  clear hfr
  intro a hfr
  refine wl_v hfr (by decide) (v_extract rfl rfl) ?_
  clear hfr
  intro a hfr
  refine wl_v hfr (by decide) (v_extract rfl rfl) ?_
  clear hfr
  intro a hfr
  refine wl_v hfr (by decide) (v_assign rfl) ?_
  clear hfr
  intro a hfr
  refine wl_v hfr (by decide) (v_assign rfl) ?_
  clear hfr
  intro a hfr
  refine wl_nil (hK13 _ _ ?_)
  replace hfr : Fr 85 [(8, _), (9, _), (10, _), (15, _), (16, _)] [] a := hfr.pick [8, 9, 10, 15, 16]
  refine wc_seq_region fun K14 hK14 => ?_
  refine wl_v hfr (by decide) (v_move rfl) ?_
  clear hfr
  intro a hfr
  refine wl_v hfr (by decide) (v_sadd rfl rfl (by (simp only [List.length_append, List.length_cons, List.length_nil]); omega)) ?_
  clear hfr
  intro a hfr
  refine wl_v hfr (by decide) (v_move rfl) ?_
  clear hfr
  intro a hfr
  refine wl_v hfr (by decide) (v_sadd rfl rfl (by (simp only [List.length_append, List.length_cons, List.length_nil]); omega)) ?_
  clear hfr
  intro a hfr
  refine wl_buildSlice (E := 9) (sz := 1) rfl [[sv ((([1]) ++ (ls.getD (ls.length - 1) [])) ++ ((wayH sha (n - lft n) (i - lft n) s (ls.take (ls.length - 1))).2))]] (by kernel_rfl) (by simp) rfl (by decide) (by decide) hfr hst ?_
  clear hfr hst
  intro a w11 hfr hst
  refine wl_v hfr (by decide) (v_move rfl) ?_
  clear hfr
  intro a hfr
  refine wl_append_any (i := 0) (sT := 22) (inf := Tryd.t9) (z := .string (⟨#[]⟩)) rfl rfl rfl (hst.ownAt (i := 1) rfl) Tryd.underlying22 rfl rfl rfl rfl (by decide) (by simp [Value.oneCell', yv, wv, sv]) (by have hby : Tryd.t9.bytes = 16 := rfl; simp only [big, hby, List.length_append, List.length_map, List.length_cons, List.length_nil]; omega) (by have hby : Tryd.t9.bytes = 16 := rfl; simp only [big, hby, List.length_append, List.length_map, List.length_cons, List.length_nil]; omega) (by decide) hfr hst ?_
  clear hfr hst
  intro a w12 s9 hfr hst
  refine wl_v hfr (by decide) (v_move rfl) ?_
  clear hfr
  intro a hfr
  refine wl_v hfr (by decide) (v_move rfl) ?_
  clear hfr
  intro a hfr
  refine wl_callp hfr hst (by decide) Tryd.call32 rfl (node_ok (ls.getD (ls.length - 1) []) ((wayH sha (n - lft n) (i - lft n) s (ls.take (ls.length - 1))).2) _ (by omega) (by omega) (hst.keepb hk0)) ?_
  clear hfr hst
  intro a w13 hfr hst
  refine wl_v hfr (by decide) (v_assign rfl) ?_
  clear hfr
  intro a hfr
  refine wl_v hfr (by decide) (v_assign rfl) ?_
  clear hfr
  intro a hfr
  refine wl_nil (hK14 _ _ ?_)
  replace hfr : Fr 85 [(8, _), (9, _)] [] a := hfr.pick [8, 9]
  replace hst : St No w0 [_] w13 := hst.mask [true, false]
  refine wc_ret ?_
  refine fin_ret hfr Tryd.results26 (resAre_tmp rfl (resAre_tmp rfl resAre_nil)) ?_
  have hW := way_right (n := n) (i := i) (s := s) (p := ls) (by omega) (by omega) (by omega)
  refine ⟨s9, by rw [hW]; rfl, trivial, hst.ext, St.out (E := [own s9 9 1 ((wayH sha n i s ls).1.map fun s => [sv s])]) (H := []) ?_⟩
  rw [hW]; exact hst.select [0] (by decide)

theorem sides_left {old : By} {m n : Nat} {p : List By} {w : Bool} (h : m < n) (hp : 0 < p.length) (hi : m ≤ lft n) : sidesH sha old m n p w = ((1 :: ((sidesH sha old m (lft n) (p.take (p.length - 1)) w).2 ++ p.getD (p.length - 1) [])) :: (sidesH sha old m (lft n) (p.take (p.length - 1)) w).1, nodeH sha (sidesH sha old m (lft n) (p.take (p.length - 1)) w).2 (p.getD (p.length - 1) [])) := by
  conv => lhs; rw [take_last hp, sidesH_snoc h, if_pos hi]
theorem sides_right {old : By} {m n : Nat} {p : List By} {w : Bool} (h : m < n) (hp : 0 < p.length) (hi : ¬ m ≤ lft n) : sidesH sha old m n p w = ((1 :: (p.getD (p.length - 1) [] ++ (sidesH sha old (m - lft n) (n - lft n) (p.take (p.length - 1)) false).2)) :: (sidesH sha old (m - lft n) (n - lft n) (p.take (p.length - 1)) false).1, nodeH sha (p.getD (p.length - 1) []) (sidesH sha old (m - lft n) (n - lft n) (p.take (p.length - 1)) false).2) := by
  conv => lhs; rw [take_last hp, sidesH_snoc h, if_neg hi]
theorem sides_end1 {old : By} {m n : Nat} {p : List By} {w : Bool} (h : n ≤ m ∨ p.length = 0) (hw : w = true ∨ p.length = 0) : sidesH sha old m n p w = ([], old) := by
  rw [sidesH_end (h.imp id List.eq_nil_of_length_eq_zero), if_pos (hw.imp id List.eq_nil_of_length_eq_zero)]
theorem sides_end2 {old : By} {m n : Nat} {p : List By} {w : Bool} (h : n ≤ m ∨ p.length = 0) (hw : w = false) (h0 : ¬ p.length = 0) : sidesH sha old m n p w = ([], p.getD 0 []) := by
  have hp : p ≠ [] := fun e => h0 (by rw [e]; rfl)
  rw [sidesH_end (h.imp id List.eq_nil_of_length_eq_zero), if_neg (by rw [hw]; simp [hp])]
  cases p <;> rfl
theorem sides_count {old : By} : ∀ (p : List By) (m n : Nat) (w : Bool), (sidesH sha old m n p w).1.length ≤ p.length := by
  intro p
  induction hL : p.length generalizing p with
  | zero => intro m n w; rw [sides_end1 (.inr hL) (.inr hL)]; simp
  | succ k ih =>
    intro m n w
    by_cases h : n ≤ m
    · rw [sidesH_end (.inl h)]; simp
    · have hk : (p.take (p.length - 1)).length = k := by rw [List.length_take]; omega
      by_cases hi : m ≤ lft n
      · rw [sides_left (by omega) (by omega) hi]; have := ih _ hk m (lft n) w; simp; omega
      · rw [sides_right (by omega) (by omega) hi]; have := ih _ hk (m - lft n) (n - lft n) false; simp; omega

set_option maxHeartbeats 4000000 in
/-- dialtone/dialtonelaw02.sides -/
theorem sides_ok (old : By) (hold : old.length = 32) (L : Nat) :
    ∀ (m n : Nat) (lv : Value) (ls : List By) (wh : Bool) (w0 : World), ls.length = L → SlAt w0 lv 1 (ls.map fun s => [sv s]) → 1 ≤ m ∧ m ≤ n ∧ n ≤ 9223372036854775807 → ls.length ≤ 1000 → (∀ x ∈ ls, x.length = 32) → (blk 0 (kOf.map wv) 88).ok w0 → Ret Tryd.prog 28 #[sv old, .int .i64 (m : Int), .int .i64 (n : Int), lv, .bool wh] w0 (MemR w0 (fun v : Value => .tuple #[v, sv (sidesH sha old m n ls wh).2]) (fun v => [own v 9 1 ((sidesH sha old m n ls wh).1.map fun s => [sv s])]) (fun _ => True)) := by
  induction L using Nat.strongRecOn
  rename_i L ih
  intro m n lv ls wh w0 hL hlv hni hln hls hk0
  have hnb := hlv.le
  rw [List.length_map] at hnb
  have hlt2 : 2 ≤ n → lft n < n := fun h => lft_lt h
  refine ret_of Tryd.func28 rfl Tryd.ntmps28 (Nat.le_of_ble_eq_true rfl) fun a hfr => ?_
  replace hfr : Fr 94 [(0, _), (1, _), (2, _), (3, _), (4, _)] [] a := hfr
  replace hst : St No w0 [] w0 := St.init w0
  refine wc_seq_region fun K1 hK1 => ?_
  refine wl_v hfr (by decide) (v_assign rfl) ?_
  clear hfr
  intro a hfr
  refine wl_v hfr (by decide) (v_assign rfl) ?_
  clear hfr
  intro a hfr
  refine wl_nil (hK1 _ _ ?_)
  refine wc_seq_k fun K2 hK2 => ?_
  refine wc_seq_region fun K3 hK3 => ?_
  refine wl_v hfr (by decide) (v_move rfl) ?_
  clear hfr
  intro a hfr
  refine wl_v hfr (by decide) (v_move rfl) ?_
  clear hfr
  intro a hfr
  refine wl_v hfr (by decide) (v_ge rfl rfl) ?_
  clear hfr
  intro a hfr
  refine wl_v hfr (by decide) (v_move rfl) ?_
  clear hfr
  intro a hfr
  rcases Bool.eq_false_or_eq_true (decide ((n : Int) ≤ (m : Int))) with hb1 | hb1
  · rw [hb1] at hfr
    try simp only [Bool.not_eq_true', Bool.not_eq_false', decide_eq_true_eq, decide_eq_false_iff_not] at hb1
    refine wl_vn hfr (by decide) rfl (by decide) rfl rfl ?_
    clear hfr
    intro a hfr
    refine wl_vn hfr (by decide) rfl (by decide) rfl rfl ?_
    clear hfr
    intro a hfr
    refine wl_vn hfr (by decide) rfl (by decide) rfl rfl ?_
    clear hfr
    intro a hfr
    refine wl_v hfr (by decide) (v_pick_t rfl rfl) ?_
    clear hfr
    intro a hfr
    refine wl_nil (hK3 _ _ ?_)
    replace hfr : Fr 94 [(0, _), (1, _), (2, _), (3, _), (4, _), (10, _), (11, _), (26, _)] [] a := hfr.pick [0, 1, 2, 3, 4, 10, 11, 26]
    refine wc_cond_t hfr rfl ?_
    refine wc_seq_k fun K4 hK4 => ?_
    refine wc_seq_region fun K5 hK5 => ?_
    refine wl_v hfr (by decide) (v_move rfl) ?_
    clear hfr
    intro a hfr
    refine wl_v hfr (by decide) (v_move rfl) ?_
    clear hfr
    intro a hfr
    rcases Bool.eq_false_or_eq_true (wh) with hb2 | hb2
    · rw [hb2] at hfr
      try simp only [Bool.not_eq_true', Bool.not_eq_false', decide_eq_true_eq, decide_eq_false_iff_not] at hb2
      refine wl_vn hfr (by decide) rfl (by decide) rfl rfl ?_
      clear hfr
      intro a hfr
      refine wl_vn hfr (by decide) rfl (by decide) rfl rfl ?_
      clear hfr
      intro a hfr
      refine wl_vn hfr (by decide) rfl (by decide) rfl rfl ?_
      clear hfr
      intro a hfr
      refine wl_v hfr (by decide) (v_pick_t rfl rfl) ?_
      clear hfr
      intro a hfr
      refine wl_nil (hK5 _ _ ?_)
      replace hfr : Fr 94 [(0, _), (1, _), (2, _), (3, _), (4, _), (10, _), (11, _), (32, _)] [] a := hfr.pick [0, 1, 2, 3, 4, 10, 11, 32]
      refine wc_cond_t hfr rfl ?_
      refine wc_seq_region fun K6 hK6 => ?_
      refine wl_v hfr (by decide) (v_move rfl) ?_
      clear hfr
      intro a hfr
      refine wl_v hfr (by decide) (v_assign rfl) ?_
      clear hfr
      intro a hfr
      refine wl_v hfr (by decide) (v_assign rfl) ?_
      clear hfr
      intro a hfr
      refine wl_nil (hK6 _ _ ?_)
      refine wc_ret ?_
      refine fin_ret hfr Tryd.results28 (resAre_tmp rfl (resAre_tmp rfl resAre_nil)) ?_
      have hW := sides_end1 (old := old) (m := m) (n := n) (p := ls) (w := wh) (by omega) (by first | exact .inl (by assumption) | exact .inr (by omega))
      replace hst : St No w0 [own (.slice none 0 0) 9 1 (([] : List By).map fun s => [sv s])] w0 := hst.nil_own
      refine ⟨.slice none 0 0, by rw [hW]; rfl, trivial, hst.ext, St.out (E := [own (.slice none 0 0) 9 1 ((sidesH sha old m n ls wh).1.map fun s => [sv s])]) (H := []) ?_⟩
      rw [hW]; exact hst.select [0] (by decide)
    rw [hb2] at hfr
    try simp only [Bool.not_eq_true', Bool.not_eq_false', decide_eq_true_eq, decide_eq_false_iff_not] at hb2
    refine wl_vy hfr (by decide) rfl (by decide) rfl (v_move rfl) ?_
    clear hfr
    intro a hfr
    refine wl_vy hfr (by decide) rfl (by decide) rfl ((v_len_sl (sT := 22) (hst.arg hlv) rfl rfl (Tryd.runUnderlying22 _)).asi (m' := (ls.length : Int)) (by simp)) ?_
    clear hfr
    intro a hfr
    refine wl_vy hfr (by decide) rfl (by decide) rfl (v_eq rfl rfl) ?_
    clear hfr
    intro a hfr
    refine wl_v hfr (by decide) (v_pick_f rfl rfl) ?_
    clear hfr
    intro a hfr
    refine wl_nil (hK5 _ _ ?_)
    replace hfr : Fr 94 [(0, _), (1, _), (2, _), (3, _), (4, _), (10, _), (11, _), (32, _)] [] a := hfr.pick [0, 1, 2, 3, 4, 10, 11, 32]
    refine wc_cond hfr rfl (fun hc3 => ?_) (fun hc3 => ?_)
    · rw [hc3] at hfr
      try simp only [Bool.not_eq_true', Bool.not_eq_false', decide_eq_true_eq, decide_eq_false_iff_not] at hc3
      refine wc_seq_region fun K7 hK7 => ?_
      refine wl_v hfr (by decide) (v_move rfl) ?_
      clear hfr
      intro a hfr
      refine wl_v hfr (by decide) (v_assign rfl) ?_
      clear hfr
      intro a hfr
      refine wl_v hfr (by decide) (v_assign rfl) ?_
      clear hfr
      intro a hfr
      refine wl_nil (hK7 _ _ ?_)
      refine wc_ret ?_
      refine fin_ret hfr Tryd.results28 (resAre_tmp rfl (resAre_tmp rfl resAre_nil)) ?_
      have hW := sides_end1 (old := old) (m := m) (n := n) (p := ls) (w := wh) (by omega) (by first | exact .inl (by assumption) | exact .inr (by omega))
      replace hst : St No w0 [own (.slice none 0 0) 9 1 (([] : List By).map fun s => [sv s])] w0 := hst.nil_own
      refine ⟨.slice none 0 0, by rw [hW]; rfl, trivial, hst.ext, St.out (E := [own (.slice none 0 0) 9 1 ((sidesH sha old m n ls wh).1.map fun s => [sv s])]) (H := []) ?_⟩
      rw [hW]; exact hst.select [0] (by decide)
    rw [hc3] at hfr
    try simp only [Bool.not_eq_true', Bool.not_eq_false', decide_eq_true_eq, decide_eq_false_iff_not] at hc3
    refine wc_skip ?_
    refine hK4 _ _ ?_
    refine wc_seq_k fun K8 hK8 => ?_
    refine wc_of_dr (by kernel_rfl) (dr_of_wd (by kernel_rfl) fun w1 hxz => ?_)
    replace hst : St No w0 [] w1 := hst.grow hxz
    refine wd_sub (k := 0) 4 [2, 3] hfr (by kernel_rfl) (by kernel_rfl) (by kernel_rfl) (by rfl) ?_
    replace hfr : Fr 94 [(0, _), (1, _), (2, _), (3, _), (4, _), (11, _), (32, _)] [] a := hfr.pick [0, 1, 2, 3, 4, 11, 32]
    refine wc_phases_q [] (fun i => match i with | _ => fun _ _ => False) 4 [[], [0], [1], []] [lv, slAddr lv (0 * 1), sv (ls.getD 0 []), .slice none 0 0] hfr hst (by kernel_rfl) (by kernel_rfl) (by kernel_rfl) ?_ ?_ ?_
    · intro i hi hiq
      match i, hi, hiq with
      | 0, _, _ =>
        intro w hst
        exact OpV.g (v_move rfl)
      | 1, _, _ =>
        intro w hst
        exact OpV.g ((v_indexAddr_sl (i := 0) (sT := 22) (hst.arg hlv) rfl rfl (Tryd.runUnderlying22 _) (Tryd.sizeOf9 _) (by omega) (by rw [List.length_map]; omega)).as (v' := slAddr lv (0 * 1)) rfl)
      | 2, _, _ =>
        intro w hst
        exact OpV.g (v_load_sl1 (u := sv (ls.getD 0 [])) (i := 0) (j := 0) (hst.arg hlv) (by rw [List.length_map]; omega) rfl (Tryd.isAgg9 _) (by simp [List.getD_eq_getElem?_getD, List.getElem?_eq_getElem (show 0 < ls.length by omega)]))
      | 3, _, _ =>
        intro w hst
        exact OpV.g (v_assign rfl)
    · intro i hi
      exact absurd hi (by simp)
    clear hfr hst
    intro  a w2 hfr hst
    replace hfr : Fr 94 [(34, lv), (35, slAddr lv (0 * 1)), (36, sv (ls.getD 0 [])), (10, .slice none 0 0), (0, _), (1, _), (2, _), (3, _), (4, _), (11, _), (32, _)] [] a := hfr
    refine wl_nil ?_
    refine wd_lin (k := 4) 5 [4] (by kernel_rfl) (by kernel_rfl) (by kernel_rfl) ?_
    refine wl_v hfr (by decide) (v_assign rfl) ?_
    clear hfr
    intro a hfr
    refine wl_nil ?_
    refine wd_end (by kernel_rfl) ?_
    refine hK8 _ _ ?_
    refine wc_ret ?_
    refine fin_ret hfr Tryd.results28 (resAre_tmp rfl (resAre_tmp rfl resAre_nil)) ?_
    have hW := sides_end2 (old := old) (m := m) (n := n) (p := ls) (w := wh) (by omega) (by assumption) (by omega)
    replace hst : St No w0 [own (.slice none 0 0) 9 1 (([] : List By).map fun s => [sv s])] w2 := hst.nil_own
    refine ⟨.slice none 0 0, by rw [hW]; rfl, trivial, hst.ext, St.out (E := [own (.slice none 0 0) 9 1 ((sidesH sha old m n ls wh).1.map fun s => [sv s])]) (H := []) ?_⟩
    rw [hW]; exact hst.select [0] (by decide)
  rw [hb1] at hfr
  try simp only [Bool.not_eq_true', Bool.not_eq_false', decide_eq_true_eq, decide_eq_false_iff_not] at hb1
  refine wl_vy hfr (by decide) rfl (by decide) rfl (v_move rfl) ?_
  clear hfr
  intro a hfr
  refine wl_vy hfr (by decide) rfl (by decide) rfl ((v_len_sl (sT := 22) (hst.arg hlv) rfl rfl (Tryd.runUnderlying22 _)).asi (m' := (ls.length : Int)) (by simp)) ?_
  clear hfr
  intro a hfr
  refine wl_vy hfr (by decide) rfl (by decide) rfl (v_eq rfl rfl) ?_
  clear hfr
  intro a hfr
  refine wl_v hfr (by decide) (v_pick_f rfl rfl) ?_
  clear hfr
  intro a hfr
  refine wl_nil (hK3 _ _ ?_)
  replace hfr : Fr 94 [(0, _), (1, _), (2, _), (3, _), (4, _), (10, _), (11, _), (26, _)] [] a := hfr.pick [0, 1, 2, 3, 4, 10, 11, 26]
  refine wc_cond hfr rfl (fun hc4 => ?_) (fun hc4 => ?_)
  · rw [hc4] at hfr
    try simp only [Bool.not_eq_true', Bool.not_eq_false', decide_eq_true_eq, decide_eq_false_iff_not] at hc4
    refine wc_seq_k fun K9 hK9 => ?_
    refine wc_seq_region fun K10 hK10 => ?_
    refine wl_v hfr (by decide) (v_move rfl) ?_
    clear hfr
    intro a hfr
    refine wl_v hfr (by decide) (v_move rfl) ?_
    clear hfr
    intro a hfr
    rcases Bool.eq_false_or_eq_true (wh) with hb5 | hb5
    · rw [hb5] at hfr
      try simp only [Bool.not_eq_true', Bool.not_eq_false', decide_eq_true_eq, decide_eq_false_iff_not] at hb5
      refine wl_vn hfr (by decide) rfl (by decide) rfl rfl ?_
      clear hfr
      intro a hfr
      refine wl_vn hfr (by decide) rfl (by decide) rfl rfl ?_
      clear hfr
      intro a hfr
      refine wl_vn hfr (by decide) rfl (by decide) rfl rfl ?_
      clear hfr
      intro a hfr
      refine wl_v hfr (by decide) (v_pick_t rfl rfl) ?_
      clear hfr
      intro a hfr
      refine wl_nil (hK10 _ _ ?_)
      replace hfr : Fr 94 [(0, _), (1, _), (2, _), (3, _), (4, _), (10, _), (11, _), (32, _)] [] a := hfr.pick [0, 1, 2, 3, 4, 10, 11, 32]
      refine wc_cond_t hfr rfl ?_
      refine wc_seq_region fun K11 hK11 => ?_
      refine wl_v hfr (by decide) (v_move rfl) ?_
      clear hfr
      intro a hfr
      refine wl_v hfr (by decide) (v_assign rfl) ?_
      clear hfr
      intro a hfr
      refine wl_v hfr (by decide) (v_assign rfl) ?_
      clear hfr
      intro a hfr
      refine wl_nil (hK11 _ _ ?_)
      refine wc_ret ?_
      refine fin_ret hfr Tryd.results28 (resAre_tmp rfl (resAre_tmp rfl resAre_nil)) ?_
      have hW := sides_end1 (old := old) (m := m) (n := n) (p := ls) (w := wh) (by omega) (by first | exact .inl (by assumption) | exact .inr (by omega))
      replace hst : St No w0 [own (.slice none 0 0) 9 1 (([] : List By).map fun s => [sv s])] w0 := hst.nil_own
      refine ⟨.slice none 0 0, by rw [hW]; rfl, trivial, hst.ext, St.out (E := [own (.slice none 0 0) 9 1 ((sidesH sha old m n ls wh).1.map fun s => [sv s])]) (H := []) ?_⟩
      rw [hW]; exact hst.select [0] (by decide)
    rw [hb5] at hfr
    try simp only [Bool.not_eq_true', Bool.not_eq_false', decide_eq_true_eq, decide_eq_false_iff_not] at hb5
    refine wl_vy hfr (by decide) rfl (by decide) rfl (v_move rfl) ?_
    clear hfr
    intro a hfr
    refine wl_vy hfr (by decide) rfl (by decide) rfl ((v_len_sl (sT := 22) (hst.arg hlv) rfl rfl (Tryd.runUnderlying22 _)).asi (m' := (ls.length : Int)) (by simp)) ?_
    clear hfr
    intro a hfr
    refine wl_vy hfr (by decide) rfl (by decide) rfl (v_eq rfl rfl) ?_
    clear hfr
    intro a hfr
    refine wl_v hfr (by decide) (v_pick_f rfl rfl) ?_
    clear hfr
    intro a hfr
    refine wl_nil (hK10 _ _ ?_)
    replace hfr : Fr 94 [(0, _), (1, _), (2, _), (3, _), (4, _), (10, _), (11, _), (32, _)] [] a := hfr.pick [0, 1, 2, 3, 4, 10, 11, 32]
    refine wc_cond hfr rfl (fun hc6 => ?_) (fun hc6 => ?_)
    · rw [hc6] at hfr
      try simp only [Bool.not_eq_true', Bool.not_eq_false', decide_eq_true_eq, decide_eq_false_iff_not] at hc6
      refine wc_seq_region fun K12 hK12 => ?_
      refine wl_v hfr (by decide) (v_move rfl) ?_
      clear hfr
      intro a hfr
      refine wl_v hfr (by decide) (v_assign rfl) ?_
      clear hfr
      intro a hfr
      refine wl_v hfr (by decide) (v_assign rfl) ?_
      clear hfr
      intro a hfr
      refine wl_nil (hK12 _ _ ?_)
      refine wc_ret ?_
      refine fin_ret hfr Tryd.results28 (resAre_tmp rfl (resAre_tmp rfl resAre_nil)) ?_
      have hW := sides_end1 (old := old) (m := m) (n := n) (p := ls) (w := wh) (by omega) (by first | exact .inl (by assumption) | exact .inr (by omega))
      replace hst : St No w0 [own (.slice none 0 0) 9 1 (([] : List By).map fun s => [sv s])] w0 := hst.nil_own
      refine ⟨.slice none 0 0, by rw [hW]; rfl, trivial, hst.ext, St.out (E := [own (.slice none 0 0) 9 1 ((sidesH sha old m n ls wh).1.map fun s => [sv s])]) (H := []) ?_⟩
      rw [hW]; exact hst.select [0] (by decide)
    rw [hc6] at hfr
    try simp only [Bool.not_eq_true', Bool.not_eq_false', decide_eq_true_eq, decide_eq_false_iff_not] at hc6
    have hlt : 1 ≤ m → lft n < n := fun _ => lft_lt (n := n) (by omega)
    have hlp := lft_pos n
    have hx32 := hls _ (getD_mem (d := []) (show ls.length - 1 < ls.length by omega))
    refine wc_skip ?_
    refine hK9 _ _ ?_
    refine wc_seq_k fun K13 hK13 => ?_
    refine wc_of_dr (by kernel_rfl) (dr_of_wd (by kernel_rfl) fun w3 hxz => ?_)
    replace hst : St No w0 [] w3 := hst.grow hxz
    refine wd_sub (k := 0) 4 [2, 3] hfr (by kernel_rfl) (by kernel_rfl) (by kernel_rfl) (by rfl) ?_
    replace hfr : Fr 94 [(0, _), (1, _), (2, _), (3, _), (4, _), (11, _), (32, _)] [] a := hfr.pick [0, 1, 2, 3, 4, 11, 32]
    refine wc_phases_q [] (fun i => match i with | _ => fun _ _ => False) 4 [[], [0], [1], []] [lv, slAddr lv (0 * 1), sv (ls.getD 0 []), .slice none 0 0] hfr hst (by kernel_rfl) (by kernel_rfl) (by kernel_rfl) ?_ ?_ ?_
    · intro i hi hiq
      match i, hi, hiq with
      | 0, _, _ =>
        intro w hst
        exact OpV.g (v_move rfl)
      | 1, _, _ =>
        intro w hst
        exact OpV.g ((v_indexAddr_sl (i := 0) (sT := 22) (hst.arg hlv) rfl rfl (Tryd.runUnderlying22 _) (Tryd.sizeOf9 _) (by omega) (by rw [List.length_map]; omega)).as (v' := slAddr lv (0 * 1)) rfl)
      | 2, _, _ =>
        intro w hst
        exact OpV.g (v_load_sl1 (u := sv (ls.getD 0 [])) (i := 0) (j := 0) (hst.arg hlv) (by rw [List.length_map]; omega) rfl (Tryd.isAgg9 _) (by simp [List.getD_eq_getElem?_getD, List.getElem?_eq_getElem (show 0 < ls.length by omega)]))
      | 3, _, _ =>
        intro w hst
        exact OpV.g (v_assign rfl)
    · intro i hi
      exact absurd hi (by simp)
    clear hfr hst
    intro  a w4 hfr hst
    replace hfr : Fr 94 [(34, lv), (35, slAddr lv (0 * 1)), (36, sv (ls.getD 0 [])), (10, .slice none 0 0), (0, _), (1, _), (2, _), (3, _), (4, _), (11, _), (32, _)] [] a := hfr
    refine wl_nil ?_
    refine wd_lin (k := 4) 5 [4] (by kernel_rfl) (by kernel_rfl) (by kernel_rfl) ?_
    refine wl_v hfr (by decide) (v_assign rfl) ?_
    clear hfr
    intro a hfr
    refine wl_nil ?_
    refine wd_end (by kernel_rfl) ?_
    refine hK13 _ _ ?_
    refine wc_ret ?_
    refine fin_ret hfr Tryd.results28 (resAre_tmp rfl (resAre_tmp rfl resAre_nil)) ?_
    have hW := sides_end2 (old := old) (m := m) (n := n) (p := ls) (w := wh) (by omega) (by assumption) (by omega)
    replace hst : St No w0 [own (.slice none 0 0) 9 1 (([] : List By).map fun s => [sv s])] w4 := hst.nil_own
    refine ⟨.slice none 0 0, by rw [hW]; rfl, trivial, hst.ext, St.out (E := [own (.slice none 0 0) 9 1 ((sidesH sha old m n ls wh).1.map fun s => [sv s])]) (H := []) ?_⟩
    rw [hW]; exact hst.select [0] (by decide)
  rw [hc4] at hfr
  try simp only [Bool.not_eq_true', Bool.not_eq_false', decide_eq_true_eq, decide_eq_false_iff_not] at hc4
  have hlt : 1 ≤ m → lft n < n := fun _ => lft_lt (n := n) (by omega)
  have hlp := lft_pos n
  have hx32 := hls _ (getD_mem (d := []) (show ls.length - 1 < ls.length by omega))
  refine wc_skip ?_
  refine hK2 _ _ ?_
  refine wc_seq_region fun K14 hK14 => ?_
  refine wl_v hfr (by decide) (v_move rfl) ?_
  clear hfr
  intro a hfr
  refine wl_v hfr (by decide) (v_move rfl) ?_
  clear hfr
  intro a hfr
  refine wl_v hfr (by decide) ((v_len_sl (sT := 22) (hst.arg hlv) rfl rfl (Tryd.runUnderlying22 _)).asi (m' := (ls.length : Int)) (by simp)) ?_
  clear hfr
  intro a hfr
  refine wl_v hfr (by decide) (v_sub rfl rfl ⟨by omega, by omega⟩) ?_
  clear hfr
  intro a hfr
  refine wl_v hfr (by decide) ((v_indexAddr_sl (i := (ls.length : Int) - 1) (sT := 22) (hst.arg hlv) rfl rfl (Tryd.runUnderlying22 _) (Tryd.sizeOf9 _) (by omega) (by rw [List.length_map]; omega)).as (v' := slAddr lv ((ls.length - 1) * 1)) (by rw [show ((ls.length : Int) - 1).toNat = (ls.length - 1) from by omega])) ?_
  clear hfr
  intro a hfr
  refine wl_v hfr (by decide) (v_load_sl1 (u := sv (ls.getD (ls.length - 1) [])) (i := (ls.length - 1)) (j := 0) (hst.arg hlv) (by rw [List.length_map]; omega) rfl (Tryd.isAgg9 _) (by simp [List.getD_eq_getElem?_getD, List.getElem?_eq_getElem (show (ls.length - 1) < ls.length by omega)])) ?_
  clear hfr
  intro a hfr
  refine wl_v hfr (by decide) (v_assign rfl) ?_
  clear hfr
  intro a hfr
  refine wl_nil (hK14 _ _ ?_)
  replace hfr : Fr 94 [(0, _), (1, _), (2, _), (3, _), (4, _), (10, _), (11, _), (12, _)] [] a := hfr.pick [0, 1, 2, 3, 4, 10, 11, 12]
  refine wc_seq_region fun K15 hK15 => ?_
  refine wl_v hfr (by decide) (v_move rfl) ?_
  clear hfr
  intro a hfr
  refine wl_v hfr (by decide) (v_move rfl) ?_
  clear hfr
  intro a hfr
  refine wl_v hfr (by decide) ((v_len_sl (sT := 22) (hst.arg hlv) rfl rfl (Tryd.runUnderlying22 _)).asi (m' := (ls.length : Int)) (by simp)) ?_
  clear hfr
  intro a hfr
  refine wl_v hfr (by decide) (v_sub rfl rfl ⟨by omega, by omega⟩) ?_
  clear hfr
  intro a hfr
  refine wl_v hfr (by decide) (v_slice_at (l := 0) (h := (ls.length - 1)) (hst.arg hlv) rfl rfl rfl Tryd.underlying22 (by kernel_rfl) (.inl ⟨rfl, rfl⟩) (.inr (by rw [show ((ls.length : Int) - 1 : Int) = (((ls.length - 1) : Nat) : Int) from by omega] <;> rfl)) (Nat.zero_le _) (by first | (rw [List.length_map]; omega) | (simp <;> omega))) ?_
  clear hfr
  intro a hfr
  refine wl_v hfr (by decide) (v_assign rfl) ?_
  clear hfr
  intro a hfr
  refine wl_nil (hK15 _ _ ?_)
  replace hfr : Fr 94 [(0, _), (1, _), (2, _), (4, _), (10, _), (11, _), (12, _), (13, _)] [] a := hfr.pick [0, 1, 2, 4, 10, 11, 12, 13]
  refine wc_seq_region fun K16 hK16 => ?_
  refine wl_v hfr (by decide) (v_move rfl) ?_
  clear hfr
  intro a hfr
  refine wl_callp hfr hst (by decide) Tryd.call31 rfl (left02_ok n _ (by omega) (by omega)) ?_
  clear hfr hst
  intro a w5 hfr hst
  refine wl_v hfr (by decide) (v_assign rfl) ?_
  clear hfr
  intro a hfr
  refine wl_nil (hK16 _ _ ?_)
  refine wc_seq_k fun K17 hK17 => ?_
  refine wc_seq_region fun K18 hK18 => ?_
  refine wl_v hfr (by decide) (v_move rfl) ?_
  clear hfr
  intro a hfr
  refine wl_v hfr (by decide) (v_move rfl) ?_
  clear hfr
  intro a hfr
  refine wl_v hfr (by decide) (v_le rfl rfl) ?_
  clear hfr
  intro a hfr
  refine wl_nil (hK18 _ _ ?_)
  refine wc_cond hfr rfl (fun hc7 => ?_) (fun hc7 => ?_)
  · rw [hc7] at hfr
    try simp only [Bool.not_eq_true', Bool.not_eq_false', decide_eq_true_eq, decide_eq_false_iff_not] at hc7
    refine wc_seq_region fun K19 hK19 => ?_
    refine wl_v hfr (by decide) (v_move rfl) ?_
    clear hfr
    intro a hfr
    refine wl_v hfr (by decide) (v_move rfl) ?_
    clear hfr
    intro a hfr
    refine wl_v hfr (by decide) (v_move rfl) ?_
    clear hfr
    intro a hfr
    refine wl_v hfr (by decide) (v_move rfl) ?_
    clear hfr
    intro a hfr
    refine wl_v hfr (by decide) (v_move rfl) ?_
    clear hfr
    intro a hfr
    refine wl_callm hfr hst (by decide) Tryd.call28 rfl (ih (ls.take (ls.length - 1)).length (by rw [List.length_take]; omega) m (lft n) (cut lv 1 0 (ls.length - 1) (slCap lv)) (ls.take (ls.length - 1)) wh _ rfl ((hst.arg hlv).cut0 (h := (ls.length - 1)) (by first | omega | (rw [List.length_reverse]; omega) | simp | (simp; omega))) (by omega) (by rw [List.length_take]; omega) (fun x h => hls x (List.mem_of_mem_take h)) (hst.keepb hk0)) ?_
    clear hfr hst
    intro a w6 x9 hp hfr hst
    revert x9 hp hfr hst; rintro v8 hp hfr hst
    clear hp
    replace hst : St No w0 [own v8 9 1 ((sidesH sha old m (lft n) (ls.take (ls.length - 1)) wh).1.map fun s => [sv s])] w6 := hst
    have hr32 := sides_len sha_len hold (ls.take (ls.length - 1)) m (lft n) wh (fun x h => hls x (List.mem_of_mem_take h))
    have hrc := sides_count (old := old) (ls.take (ls.length - 1)) m (lft n) wh
    rw [List.length_take] at hrc
    refine wl_v hfr (by decide) (v_move rfl) ?_
    clear hfr
    intro a hfr
    refine wl_v hfr (by decide) (v_extract rfl rfl) ?_
    clear hfr
    intro a hfr
    refine wl_v hfr (by decide) (v_extract rfl rfl) ?_
    clear hfr
    intro a hfr
    refine wl_v hfr (by decide) (v_assign rfl) ?_
    clear hfr
    intro a hfr
    refine wl_v hfr (by decide) (v_assign rfl) ?_
    clear hfr
    intro a hfr
    refine wl_nil (hK19 _ _ ?_)
    replace hfr : Fr 94 [(0, _), (1, _), (2, _), (10, _), (11, _), (12, _), (13, _), (14, _), (15, _), (16, _)] [] a := hfr.pick [0, 1, 2, 10, 11, 12, 13, 14, 15, 16]
    refine wc_seq_region fun K20 hK20 => ?_
    refine wl_v hfr (by decide) (v_move rfl) ?_
    clear hfr
    intro a hfr
    refine wl_v hfr (by decide) (v_sadd rfl rfl (by (simp only [List.length_append, List.length_cons, List.length_nil]); omega)) ?_
    clear hfr
    intro a hfr
    refine wl_v hfr (by decide) (v_move rfl) ?_
    clear hfr
    intro a hfr
    refine wl_v hfr (by decide) (v_sadd rfl rfl (by (simp only [List.length_append, List.length_cons, List.length_nil]); omega)) ?_
    clear hfr
    intro a hfr
    refine wl_buildSlice (E := 9) (sz := 1) rfl [[sv ((([1]) ++ ((sidesH sha old m (lft n) (ls.take (ls.length - 1)) wh).2)) ++ (ls.getD (ls.length - 1) []))]] (by kernel_rfl) (by simp) rfl (by decide) (by decide) hfr hst ?_
    clear hfr hst
    intro a w7 hfr hst
    refine wl_v hfr (by decide) (v_move rfl) ?_
    clear hfr
    intro a hfr
    refine wl_append_any (i := 0) (sT := 22) (inf := Tryd.t9) (z := .string (⟨#[]⟩)) rfl rfl rfl (hst.ownAt (i := 1) rfl) Tryd.underlying22 rfl rfl rfl rfl (by decide) (by simp [Value.oneCell', yv, wv, sv]) (by have hby : Tryd.t9.bytes = 16 := rfl; simp only [big, hby, List.length_append, List.length_map, List.length_cons, List.length_nil]; omega) (by have hby : Tryd.t9.bytes = 16 := rfl; simp only [big, hby, List.length_append, List.length_map, List.length_cons, List.length_nil]; omega) (by decide) hfr hst ?_
    clear hfr hst
    intro a w8 s10 hfr hst
    refine wl_v hfr (by decide) (v_move rfl) ?_
    clear hfr
    intro a hfr
    refine wl_v hfr (by decide) (v_move rfl) ?_
    clear hfr
    intro a hfr
    refine wl_callp hfr hst (by decide) Tryd.call32 rfl (node_ok ((sidesH sha old m (lft n) (ls.take (ls.length - 1)) wh).2) (ls.getD (ls.length - 1) []) _ (by omega) (by omega) (hst.keepb hk0)) ?_
    clear hfr hst
    intro a w9 hfr hst
    refine wl_v hfr (by decide) (v_assign rfl) ?_
    clear hfr
    intro a hfr
    refine wl_v hfr (by decide) (v_assign rfl) ?_
    clear hfr
    intro a hfr
    refine wl_nil (hK20 _ _ ?_)
    replace hfr : Fr 94 [(0, _), (1, _), (2, _), (12, _), (13, _), (14, _), (10, _), (11, _)] [] a := hfr.pick [0, 1, 2, 12, 13, 14, 10, 11]
    replace hst : St No w0 [_] w9 := hst.mask [true, false]
    refine wc_ret ?_
    refine fin_ret hfr Tryd.results28 (resAre_tmp rfl (resAre_tmp rfl resAre_nil)) ?_
    have hW := sides_left (old := old) (m := m) (n := n) (p := ls) (w := wh) (by omega) (by omega) (by omega)
    refine ⟨s10, by rw [hW]; rfl, trivial, hst.ext, St.out (E := [own s10 9 1 ((sidesH sha old m n ls wh).1.map fun s => [sv s])]) (H := []) ?_⟩
    rw [hW]; exact hst.select [0] (by decide)
  rw [hc7] at hfr
  try simp only [Bool.not_eq_true', Bool.not_eq_false', decide_eq_true_eq, decide_eq_false_iff_not] at hc7
  refine wc_skip ?_
  refine hK17 _ _ ?_
  refine wc_seq_region fun K21 hK21 => ?_
  refine wl_v hfr (by decide) (v_move rfl) ?_
  clear hfr
  intro a hfr
  refine wl_v hfr (by decide) (v_move rfl) ?_
  clear hfr
  intro a hfr
  refine wl_v hfr (by decide) (v_move rfl) ?_
  clear hfr
  intro a hfr
  refine wl_v hfr (by decide) ((v_sub rfl rfl ⟨by omega, by omega⟩).asi (m' := ((m - lft n : Nat) : Int)) (by omega)) ?_
  clear hfr
  intro a hfr
  refine wl_v hfr (by decide) (v_move rfl) ?_
  clear hfr
  intro a hfr
  refine wl_v hfr (by decide) (v_move rfl) ?_
  clear hfr
  intro a hfr
  refine wl_v hfr (by decide) ((v_sub rfl rfl ⟨by omega, by omega⟩).asi (m' := ((n - lft n : Nat) : Int)) (by omega)) ?_
  clear hfr
  intro a hfr
  refine wl_v hfr (by decide) (v_move rfl) ?_
  clear hfr
  intro a hfr
  refine wl_callm hfr hst (by decide) Tryd.call28 rfl (ih (ls.take (ls.length - 1)).length (by rw [List.length_take]; omega) (m - lft n) (n - lft n) (cut lv 1 0 (ls.length - 1) (slCap lv)) (ls.take (ls.length - 1)) false _ rfl ((hst.arg hlv).cut0 (h := (ls.length - 1)) (by first | omega | (rw [List.length_reverse]; omega) | simp | (simp; omega))) (by omega) (by rw [List.length_take]; omega) (fun x h => hls x (List.mem_of_mem_take h)) (hst.keepb hk0)) ?_
  clear hfr hst
  intro a w10 x12 hp hfr hst
  revert x12 hp hfr hst; rintro v11 hp hfr hst
  clear hp
  replace hst : St No w0 [own v11 9 1 ((sidesH sha old (m - lft n) (n - lft n) (ls.take (ls.length - 1)) false).1.map fun s => [sv s])] w10 := hst
  have hr32 := sides_len sha_len hold (ls.take (ls.length - 1)) (m - lft n) (n - lft n) false (fun x h => hls x (List.mem_of_mem_take h))
  have hrc := sides_count (old := old) (ls.take (ls.length - 1)) (m - lft n) (n - lft n) false
  rw [List.length_take] at hrc
  refine wl_v hfr (by decide) (v_move rfl) ?_
  clear hfr
  intro a hfr
  refine wl_v hfr (by decide) (v_extract rfl rfl) ?_
  clear hfr
  intro a hfr
  refine wl_v hfr (by decide) (v_extract rfl rfl) ?_
  clear hfr
  intro a hfr
  refine wl_v hfr (by decide) (v_assign rfl) ?_
  clear hfr
  intro a hfr
  refine wl_v hfr (by decide) (v_assign rfl) ?_
  clear hfr
  intro a hfr
  refine wl_nil (hK21 _ _ ?_)
  replace hfr : Fr 94 [(10, _), (11, _), (12, _), (17, _), (18, _)] [] a := hfr.pick [10, 11, 12, 17, 18]
  refine wc_seq_region fun K22 hK22 => ?_
  refine wl_v hfr (by decide) (v_move rfl) ?_
  clear hfr
  intro a hfr
  refine wl_v hfr (by decide) (v_sadd rfl rfl (by (simp only [List.length_append, List.length_cons, List.length_nil]); omega)) ?_
  clear hfr
  intro a hfr
  refine wl_v hfr (by decide) (v_move rfl) ?_
  clear hfr
  intro a hfr
  refine wl_v hfr (by decide) (v_sadd rfl rfl (by (simp only [List.length_append, List.length_cons, List.length_nil]); omega)) ?_
  clear hfr
  intro a hfr
  refine wl_buildSlice (E := 9) (sz := 1) rfl [[sv ((([1]) ++ (ls.getD (ls.length - 1) [])) ++ ((sidesH sha old (m - lft n) (n - lft n) (ls.take (ls.length - 1)) false).2))]] (by kernel_rfl) (by simp) rfl (by decide) (by decide) hfr hst ?_
  clear hfr hst
  intro a w11 hfr hst
  refine wl_v hfr (by decide) (v_move rfl) ?_
  clear hfr
  intro a hfr
  refine wl_append_any (i := 0) (sT := 22) (inf := Tryd.t9) (z := .string (⟨#[]⟩)) rfl rfl rfl (hst.ownAt (i := 1) rfl) Tryd.underlying22 rfl rfl rfl rfl (by decide) (by simp [Value.oneCell', yv, wv, sv]) (by have hby : Tryd.t9.bytes = 16 := rfl; simp only [big, hby, List.length_append, List.length_map, List.length_cons, List.length_nil]; omega) (by have hby : Tryd.t9.bytes = 16 := rfl; simp only [big, hby, List.length_append, List.length_map, List.length_cons, List.length_nil]; omega) (by decide) hfr hst ?_
  clear hfr hst
  intro a w12 s13 hfr hst
  refine wl_v hfr (by decide) (v_move rfl) ?_
  clear hfr
  intro a hfr
  refine wl_v hfr (by decide) (v_move rfl) ?_
  clear hfr
  intro a hfr
  refine wl_callp hfr hst (by decide) Tryd.call32 rfl (node_ok (ls.getD (ls.length - 1) []) ((sidesH sha old (m - lft n) (n - lft n) (ls.take (ls.length - 1)) false).2) _ (by omega) (by omega) (hst.keepb hk0)) ?_
  clear hfr hst
  intro a w13 hfr hst
  refine wl_v hfr (by decide) (v_assign rfl) ?_
  clear hfr
  intro a hfr
  refine wl_v hfr (by decide) (v_assign rfl) ?_
  clear hfr
  intro a hfr
  refine wl_nil (hK22 _ _ ?_)
  replace hfr : Fr 94 [(10, _), (11, _)] [] a := hfr.pick [10, 11]
  replace hst : St No w0 [_] w13 := hst.mask [true, false]
  refine wc_ret ?_
  refine fin_ret hfr Tryd.results28 (resAre_tmp rfl (resAre_tmp rfl resAre_nil)) ?_
  have hW := sides_right (old := old) (m := m) (n := n) (p := ls) (w := wh) (by omega) (by omega) (by omega)
  refine ⟨s13, by rw [hW]; rfl, trivial, hst.ext, St.out (E := [own s13 9 1 ((sidesH sha old m n ls wh).1.map fun s => [sv s])]) (H := []) ?_⟩
  rw [hW]; exact hst.select [0] (by decide)
end Go.Proofs.YtmcoolbjgeibcaaDoor
namespace Go.Proofs.YtmcoolbjgeibcaaDoor
open Go.RowKit Go.PW
set_option linter.unusedVariables false
set_option linter.unusedSimpArgs false
set_option maxRecDepth 4000

theorem few_all {xs : List By} {m : Nat} : ∀ s ∈ fewH xs m, s.length ≤ 60 := by
  intro s hs
  obtain ⟨z, _, rfl⟩ := List.mem_map.1 hs
  rw [List.length_take]; omega
theorem coll_dec {S : By → By} (xs ys : List By) : collH S xs ys = ((List.range (min xs.length ys.length)).any fun j => decide (xs.getD j [] ≠ ys.getD j []) && decide (S (xs.getD j []) = S (ys.getD j []))) := by
  unfold collH; congr 1; funext j; simp
theorem of_all {xs : List By} {n : Nat} (h : ∀ z ∈ xs, z.length ≤ n) (hn : n ≤ 100000000) : ∀ k, k < xs.length → (xs.getD k []).length ≤ 100000000 := fun k hk => Nat.le_trans (h _ (getD_mem hk)) hn
theorem way_strs {s : By} (hs : s.length ≤ 60) : ∀ (p : List By) (n i : Nat), (∀ x ∈ p, x.length = 32) → ∀ z ∈ (wayH sha n i s p).1, z.length ≤ 65 := by
  intro p
  induction hL : p.length generalizing p with
  | zero => intro n i _ z hz; rw [way_end (.inr hL)] at hz; rw [List.mem_singleton.1 hz]; simp; omega
  | succ k ih =>
    intro n i hp z hz
    by_cases h : n ≤ 1
    · rw [way_end (.inl h)] at hz; rw [List.mem_singleton.1 hz]; simp; omega
    · have hk : (p.take (p.length - 1)).length = k := by rw [List.length_take]; omega
      have hp' : ∀ x ∈ p.take (p.length - 1), x.length = 32 := fun x hx => hp x (List.mem_of_mem_take hx)
      have hx := hp _ (getD_mem (d := []) (show p.length - 1 < p.length by omega))
      by_cases hi : i < lft n
      · rw [way_left (by omega) (by omega) hi] at hz
        rcases List.mem_cons.1 hz with rfl | hz
        · have := way_len sha_len (p.take (p.length - 1)) (lft n) i s
          simp only [List.length_cons, List.length_append]; omega
        · exact ih _ hk _ _ hp' z hz
      · rw [way_right (by omega) (by omega) hi] at hz
        rcases List.mem_cons.1 hz with rfl | hz
        · have := way_len sha_len (p.take (p.length - 1)) (n - lft n) (i - lft n) s
          simp only [List.length_cons, List.length_append]; omega
        · exact ih _ hk _ _ hp' z hz
theorem sides_strs {old : By} (ho : old.length = 32) : ∀ (p : List By) (m n : Nat) (w : Bool), (∀ x ∈ p, x.length = 32) → ∀ z ∈ (sidesH sha old m n p w).1, z.length ≤ 65 := by
  intro p
  induction hL : p.length generalizing p with
  | zero => intro m n w _ z hz; rw [sides_end1 (.inr hL) (.inr hL)] at hz; cases hz
  | succ k ih =>
    intro m n w hp z hz
    by_cases h : n ≤ m
    · rw [sidesH_end (.inl h)] at hz; cases hz
    · have hk : (p.take (p.length - 1)).length = k := by rw [List.length_take]; omega
      have hp' : ∀ x ∈ p.take (p.length - 1), x.length = 32 := fun x hx => hp x (List.mem_of_mem_take hx)
      have hx := hp _ (getD_mem (d := []) (show p.length - 1 < p.length by omega))
      by_cases hi : m ≤ lft n
      · rw [sides_left (by omega) (by omega) hi] at hz
        rcases List.mem_cons.1 hz with rfl | hz
        · have := sides_len sha_len ho (p.take (p.length - 1)) m (lft n) w hp'
          simp only [List.length_cons, List.length_append]; omega
        · exact ih _ hk _ _ _ hp' z hz
      · rw [sides_right (by omega) (by omega) hi] at hz
        rcases List.mem_cons.1 hz with rfl | hz
        · have := sides_len sha_len ho (p.take (p.length - 1)) (m - lft n) (n - lft n) false hp'
          simp only [List.length_cons, List.length_append]; omega
        · exact ih _ hk _ _ _ hp' z hz
theorem vx_parts {old root : By} {m n : Int} {p : List By} (h : verifyExtH sha old m root n p = true) : 0 ≤ m ∧ m ≤ n ∧ (∀ x ∈ p, x.length = 32) ∧ old.length = 32 ∧ (m = 0 → old = sha []) := by
  by_cases hc : 0 ≤ m ∧ m ≤ n ∧ (p.all fun x => decide (x.length = 32)) = true ∧ old.length = 32 ∧ root.length = 32
  · obtain ⟨h1, h2, h3, h4, h5⟩ := hc
    refine ⟨h1, h2, all32 h3, h4, fun e => ?_⟩
    subst e
    rw [vx_zero h3 h4 h5 h2] at h
    simp only [Bool.and_eq_true, decide_eq_true_eq] at h
    exact h.2
  · rw [vx_bad hc] at h; cases h

set_option maxHeartbeats 4000000 in
/-- dialtone/dialtonelaw02.DigestBinding -/
theorem binding_walk (root s t : By) (n i : Int) (av bv : Value) (xs ys : List By) (w0 : World) (hn : n ≤ 9223372036854775807) (hi : i ≤ 9223372036854775807) (hsl : s.length ≤ 140737488355328) (htl : t.length ≤ 140737488355328) (hav : SlAt w0 av 1 (xs.map fun s => [sv s])) (hbv : SlAt w0 bv 1 (ys.map fun s => [sv s])) (hk0 : (blk 0 (kOf.map wv) 88).ok w0) :
    Ret Tryd.prog 7 #[sv root, .int .i64 n, .int .i64 i, sv s, av, sv t, bv] w0 fun v w => v = .bool true ∧ Ext No w0 w := by
  refine ret_of Tryd.func7 rfl Tryd.ntmps7 (Nat.le_of_ble_eq_true rfl) fun a hfr => ?_
  replace hfr : Fr 83 [(0, _), (1, _), (2, _), (3, _), (4, _), (5, _), (6, _)] [] a := hfr
  replace hst : St No w0 [] w0 := St.init w0
  refine wc_seq_region fun K1 hK1 => ?_
  refine wl_v hfr (by decide) (v_assign rfl) ?_
  clear hfr
  intro a hfr
  refine wl_nil (hK1 _ _ ?_)
  refine wc_seq_region fun K2 hK2 => ?_
  refine wl_callp hfr hst (by decide) Tryd.call12 rfl (sane_ok _ (hst.keepb hk0)) ?_
  clear hfr hst
  intro a w1 hfr hst
  refine wl_v hfr (by decide) (v_assign rfl) ?_
  clear hfr
  intro a hfr
  refine wl_nil (hK2 _ _ ?_)
  refine wc_seq_region fun K3 hK3 => ?_
  refine wl_v hfr (by decide) (v_move rfl) ?_
  clear hfr
  intro a hfr
  refine wl_callm hfr hst (by decide) Tryd.call13 rfl (few_ok av xs 70 _ (hst.arg hav) (by decide)) ?_
  clear hfr hst
  intro a w2 x2 hp hfr hst
  revert x2 hp hfr hst; rintro v1 hp hfr hst
  clear hp
  replace hst : St No w0 [own v1 9 1 ((fewH xs 70).map fun s => [sv s])] w2 := hst
  refine wl_v hfr (by decide) (v_assign rfl) ?_
  clear hfr
  intro a hfr
  refine wl_nil (hK3 _ _ ?_)
  refine wc_seq_region fun K4 hK4 => ?_
  refine wl_v hfr (by decide) (v_move rfl) ?_
  clear hfr
  intro a hfr
  refine wl_callm hfr hst (by decide) Tryd.call13 rfl (few_ok bv ys 70 _ (hst.arg hbv) (by decide)) ?_
  clear hfr hst
  intro a w3 x4 hp hfr hst
  revert x4 hp hfr hst; rintro v3 hp hfr hst
  clear hp
  replace hst : St No w0 [own v3 9 1 ((fewH ys 70).map fun s => [sv s]), own v1 9 1 ((fewH xs 70).map fun s => [sv s])] w3 := hst
  refine wl_v hfr (by decide) (v_assign rfl) ?_
  clear hfr
  intro a hfr
  refine wl_nil (hK4 _ _ ?_)
  refine wc_seq_region fun K5 hK5 => ?_
  refine wl_v hfr (by decide) (v_move rfl) ?_
  clear hfr
  intro a hfr
  refine wl_v hfr (by decide) (v_move rfl) ?_
  clear hfr
  intro a hfr
  refine wl_v hfr (by decide) (v_len_str rfl rfl (Tryd.runUnderlying9 _)) ?_
  clear hfr
  intro a hfr
  refine wl_v hfr (by decide) (v_min2 rfl rfl) ?_
  clear hfr
  intro a hfr
  refine wl_v hfr (by decide) ((v_slice_str (l := 0) (h := (min s.length 60)) rfl rfl rfl Tryd.underlying9 (.inl ⟨rfl, rfl⟩) (.inr (by rw [show (min (s.length : Int) 60 : Int) = (((min s.length 60) : Nat) : Int) from by omega] <;> rfl)) (by omega) (by first | omega | exact Nat.min_le_left _ _)).as (v' := sv (s.take (min s.length 60))) rfl) ?_
  clear hfr
  intro a hfr
  refine wl_v hfr (by decide) (v_assign rfl) ?_
  clear hfr
  intro a hfr
  refine wl_nil (hK5 _ _ ?_)
  replace hfr : Fr 83 [(0, _), (1, _), (2, _), (5, _), (14, _), (15, _), (4, _), (6, _), (3, _)] [] a := hfr.pick [0, 1, 2, 5, 14, 15, 4, 6, 3]
  obtain ⟨sc, scd, scl⟩ : ∃ x, s.take (min s.length 60) = x ∧ x.length ≤ 60 := ⟨_, rfl, by rw [List.length_take]; omega⟩
  rw [scd] at hfr
  refine wc_seq_region fun K6 hK6 => ?_
  refine wl_v hfr (by decide) (v_move rfl) ?_
  clear hfr
  intro a hfr
  refine wl_v hfr (by decide) (v_move rfl) ?_
  clear hfr
  intro a hfr
  refine wl_v hfr (by decide) (v_len_str rfl rfl (Tryd.runUnderlying9 _)) ?_
  clear hfr
  intro a hfr
  refine wl_v hfr (by decide) (v_min2 rfl rfl) ?_
  clear hfr
  intro a hfr
  refine wl_v hfr (by decide) ((v_slice_str (l := 0) (h := (min t.length 60)) rfl rfl rfl Tryd.underlying9 (.inl ⟨rfl, rfl⟩) (.inr (by rw [show (min (t.length : Int) 60 : Int) = (((min t.length 60) : Nat) : Int) from by omega] <;> rfl)) (by omega) (by first | omega | exact Nat.min_le_left _ _)).as (v' := sv (t.take (min t.length 60))) rfl) ?_
  clear hfr
  intro a hfr
  refine wl_v hfr (by decide) (v_assign rfl) ?_
  clear hfr
  intro a hfr
  refine wl_nil (hK6 _ _ ?_)
  obtain ⟨tc, tcd, tcl⟩ : ∃ x, t.take (min t.length 60) = x ∧ x.length ≤ 60 := ⟨_, rfl, by rw [List.length_take]; omega⟩
  rw [tcd] at hfr
  refine wc_seq_region fun K7 hK7 => ?_
  refine wl_v hfr (by decide) (v_move rfl) ?_
  clear hfr
  intro a hfr
  refine wl_v hfr (by decide) (v_move rfl) ?_
  clear hfr
  intro a hfr
  refine wl_v hfr (by decide) (v_move rfl) ?_
  clear hfr
  intro a hfr
  refine wl_v hfr (by decide) (v_move rfl) ?_
  clear hfr
  intro a hfr
  refine wl_v hfr (by decide) (v_move rfl) ?_
  clear hfr
  intro a hfr
  refine wl_callp hfr hst (by decide) Tryd.call21 rfl (verify_ok root sc n i v1 (fewH xs 70) _ (hst.ownAt (i := 1) rfl) (by rw [few_len]; omega) (by omega) (by omega) (hst.keepb hk0)) ?_
  clear hfr hst
  intro a w4 hfr hst
  refine wl_v hfr (by decide) (v_assign rfl) ?_
  clear hfr
  intro a hfr
  refine wl_nil (hK7 _ _ ?_)
  replace hfr : Fr 83 [(0, _), (1, _), (2, _), (14, _), (15, _), (4, _), (6, _), (3, _), (5, _), (16, _)] [] a := hfr.pick [0, 1, 2, 14, 15, 4, 6, 3, 5, 16]
  refine wc_seq_region fun K8 hK8 => ?_
  refine wl_v hfr (by decide) (v_move rfl) ?_
  clear hfr
  intro a hfr
  refine wl_v hfr (by decide) (v_move rfl) ?_
  clear hfr
  intro a hfr
  refine wl_v hfr (by decide) (v_move rfl) ?_
  clear hfr
  intro a hfr
  refine wl_v hfr (by decide) (v_move rfl) ?_
  clear hfr
  intro a hfr
  refine wl_v hfr (by decide) (v_move rfl) ?_
  clear hfr
  intro a hfr
  refine wl_callp hfr hst (by decide) Tryd.call21 rfl (verify_ok root tc n i v3 (fewH ys 70) _ (hst.ownAt (i := 0) rfl) (by rw [few_len]; omega) (by omega) (by omega) (hst.keepb hk0)) ?_
  clear hfr hst
  intro a w5 hfr hst
  refine wl_v hfr (by decide) (v_assign rfl) ?_
  clear hfr
  intro a hfr
  refine wl_nil (hK8 _ _ ?_)
  replace hfr : Fr 83 [(1, _), (2, _), (14, _), (15, _), (4, _), (6, _), (3, _), (5, _), (16, _), (17, _)] [] a := hfr.pick [1, 2, 14, 15, 4, 6, 3, 5, 16, 17]
  refine wc_seq_k fun K9 hK9 => ?_
  refine wc_seq_region fun K10 hK10 => ?_
  refine wl_v hfr (by decide) (v_move rfl) ?_
  clear hfr
  intro a hfr
  refine wl_v hfr (by decide) (v_not rfl) ?_
  clear hfr
  intro a hfr
  refine wl_v hfr (by decide) (v_move rfl) ?_
  clear hfr
  intro a hfr
  rcases Bool.eq_false_or_eq_true (!(verifyH sha root n i sc (fewH xs 70))) with hb5 | hb5
  · rw [hb5] at hfr
    try simp only [Bool.not_eq_true', Bool.not_eq_false', decide_eq_true_eq, decide_eq_false_iff_not] at hb5
    refine wl_vn hfr (by decide) rfl (by decide) rfl rfl ?_
    clear hfr
    intro a hfr
    refine wl_vn hfr (by decide) rfl (by decide) rfl rfl ?_
    clear hfr
    intro a hfr
    refine wl_v hfr (by decide) (v_pick_t rfl rfl) ?_
    clear hfr
    intro a hfr
    refine wl_v hfr (by decide) (v_move rfl) ?_
    clear hfr
    intro a hfr
    refine wl_vn hfr (by decide) rfl (by decide) rfl rfl ?_
    clear hfr
    intro a hfr
    refine wl_vn hfr (by decide) rfl (by decide) rfl rfl ?_
    clear hfr
    intro a hfr
    refine wl_vn hfr (by decide) rfl (by decide) rfl rfl ?_
    clear hfr
    intro a hfr
    refine wl_v hfr (by decide) (v_pick_t rfl rfl) ?_
    clear hfr
    intro a hfr
    refine wl_nil (hK10 _ _ ?_)
    replace hfr : Fr 83 [(1, _), (2, _), (14, _), (15, _), (4, _), (6, _), (3, _), (5, _), (59, _)] [] a := hfr.pick [1, 2, 14, 15, 4, 6, 3, 5, 59]
    refine wc_cond_t hfr rfl ?_
    refine wc_seq_region fun K11 hK11 => ?_
    refine wl_v hfr (by decide) (v_move rfl) ?_
    clear hfr
    intro a hfr
    refine wl_v hfr (by decide) (v_assign rfl) ?_
    clear hfr
    intro a hfr
    refine wl_nil (hK11 _ _ ?_)
    refine wc_ret ?_
    refine fin_ret hfr Tryd.results7 (resAre_tmp rfl resAre_nil) ?_
    exact ⟨by rfl, hst.ext⟩
  rw [hb5] at hfr
  try simp only [Bool.not_eq_true', Bool.not_eq_false', decide_eq_true_eq, decide_eq_false_iff_not] at hb5
  have hv1 := hb5
  refine wl_vy hfr (by decide) rfl (by decide) rfl (v_move rfl) ?_
  clear hfr
  intro a hfr
  refine wl_vy hfr (by decide) rfl (by decide) rfl (v_not rfl) ?_
  clear hfr
  intro a hfr
  refine wl_v hfr (by decide) (v_pick_f rfl rfl) ?_
  clear hfr
  intro a hfr
  refine wl_v hfr (by decide) (v_move rfl) ?_
  clear hfr
  intro a hfr
  rcases Bool.eq_false_or_eq_true (!(verifyH sha root n i tc (fewH ys 70))) with hb6 | hb6
  · rw [hb6] at hfr
    try simp only [Bool.not_eq_true', Bool.not_eq_false', decide_eq_true_eq, decide_eq_false_iff_not] at hb6
    refine wl_vn hfr (by decide) rfl (by decide) rfl rfl ?_
    clear hfr
    intro a hfr
    refine wl_vn hfr (by decide) rfl (by decide) rfl rfl ?_
    clear hfr
    intro a hfr
    refine wl_vn hfr (by decide) rfl (by decide) rfl rfl ?_
    clear hfr
    intro a hfr
    refine wl_v hfr (by decide) (v_pick_t rfl rfl) ?_
    clear hfr
    intro a hfr
    refine wl_nil (hK10 _ _ ?_)
    replace hfr : Fr 83 [(1, _), (2, _), (14, _), (15, _), (4, _), (6, _), (3, _), (5, _), (59, _)] [] a := hfr.pick [1, 2, 14, 15, 4, 6, 3, 5, 59]
    refine wc_cond_t hfr rfl ?_
    refine wc_seq_region fun K12 hK12 => ?_
    refine wl_v hfr (by decide) (v_move rfl) ?_
    clear hfr
    intro a hfr
    refine wl_v hfr (by decide) (v_assign rfl) ?_
    clear hfr
    intro a hfr
    refine wl_nil (hK12 _ _ ?_)
    refine wc_ret ?_
    refine fin_ret hfr Tryd.results7 (resAre_tmp rfl resAre_nil) ?_
    exact ⟨by rfl, hst.ext⟩
  rw [hb6] at hfr
  try simp only [Bool.not_eq_true', Bool.not_eq_false', decide_eq_true_eq, decide_eq_false_iff_not] at hb6
  have hv2 := hb6
  refine wl_vy hfr (by decide) rfl (by decide) rfl (v_move rfl) ?_
  clear hfr
  intro a hfr
  refine wl_vy hfr (by decide) rfl (by decide) rfl (v_move rfl) ?_
  clear hfr
  intro a hfr
  refine wl_vy hfr (by decide) rfl (by decide) rfl (v_seq rfl rfl) ?_
  clear hfr
  intro a hfr
  refine wl_v hfr (by decide) (v_pick_f rfl rfl) ?_
  clear hfr
  intro a hfr
  refine wl_nil (hK10 _ _ ?_)
  replace hfr : Fr 83 [(1, _), (2, _), (14, _), (15, _), (4, _), (6, _), (3, _), (5, _), (59, _)] [] a := hfr.pick [1, 2, 14, 15, 4, 6, 3, 5, 59]
  refine wc_cond hfr rfl (fun hc7 => ?_) (fun hc7 => ?_)
  · rw [hc7] at hfr
    try simp only [Bool.not_eq_true', Bool.not_eq_false', decide_eq_true_eq, decide_eq_false_iff_not] at hc7
    refine wc_seq_region fun K13 hK13 => ?_
    refine wl_v hfr (by decide) (v_move rfl) ?_
    clear hfr
    intro a hfr
    refine wl_v hfr (by decide) (v_assign rfl) ?_
    clear hfr
    intro a hfr
    refine wl_nil (hK13 _ _ ?_)
    refine wc_ret ?_
    refine fin_ret hfr Tryd.results7 (resAre_tmp rfl resAre_nil) ?_
    exact ⟨by rfl, hst.ext⟩
  rw [hc7] at hfr
  try simp only [Bool.not_eq_true', Bool.not_eq_false', decide_eq_true_eq, decide_eq_false_iff_not] at hc7
  have hne := hc7
  refine wc_skip ?_
  refine hK9 _ _ ?_
  obtain ⟨h0i, hin, hp1, -, -⟩ := verify_parts hv1
  obtain ⟨-, -, hp2, -, -⟩ := verify_parts hv2
  obtain ⟨nn, rfl⟩ := Int.eq_ofNat_of_zero_le (show 0 ≤ n by omega)
  obtain ⟨ii, rfl⟩ := Int.eq_ofNat_of_zero_le (show 0 ≤ i by omega)
  refine wc_seq_region fun K14 hK14 => ?_
  refine wl_v hfr (by decide) (v_move rfl) ?_
  clear hfr
  intro a hfr
  refine wl_v hfr (by decide) (v_move rfl) ?_
  clear hfr
  intro a hfr
  refine wl_v hfr (by decide) (v_move rfl) ?_
  clear hfr
  intro a hfr
  refine wl_v hfr (by decide) (v_move rfl) ?_
  clear hfr
  intro a hfr
  refine wl_callm hfr hst (by decide) Tryd.call26 rfl (way_ok sc (by omega) _ nn ii v1 (fewH xs 70) _ rfl (hst.ownAt (i := 1) rfl) (by omega) (by rw [few_len]; omega) hp1 (hst.keepb hk0)) ?_
  clear hfr hst
  intro a w6 x9 hp hfr hst
  revert x9 hp hfr hst; rintro v8 hp hfr hst
  clear hp
  replace hst : St No w0 [own v8 9 1 ((wayH sha nn ii sc (fewH xs 70)).1.map fun s => [sv s]), own v3 9 1 ((fewH ys 70).map fun s => [sv s]), own v1 9 1 ((fewH xs 70).map fun s => [sv s])] w6 := hst
  refine wl_v hfr (by decide) (v_move rfl) ?_
  clear hfr
  intro a hfr
  refine wl_v hfr (by decide) (v_extract rfl rfl) ?_
  clear hfr
  intro a hfr
  refine wl_v hfr (by decide) (v_extract rfl rfl) ?_
  clear hfr
  intro a hfr
  refine wl_v hfr (by decide) (v_assign rfl) ?_
  clear hfr
  intro a hfr
  refine wl_v hfr (by decide) (v_assign rfl) ?_
  clear hfr
  intro a hfr
  refine wl_nil (hK14 _ _ ?_)
  replace hfr : Fr 83 [(1, _), (2, _), (14, _), (15, _), (6, _), (5, _), (18, _)] [] a := hfr.pick [1, 2, 14, 15, 6, 5, 18]
  replace hst : St No w0 [_, _] w6 := hst.mask [true, true, false]
  refine wc_seq_region fun K15 hK15 => ?_
  refine wl_v hfr (by decide) (v_move rfl) ?_
  clear hfr
  intro a hfr
  refine wl_v hfr (by decide) (v_move rfl) ?_
  clear hfr
  intro a hfr
  refine wl_v hfr (by decide) (v_move rfl) ?_
  clear hfr
  intro a hfr
  refine wl_v hfr (by decide) (v_move rfl) ?_
  clear hfr
  intro a hfr
  refine wl_callm hfr hst (by decide) Tryd.call26 rfl (way_ok tc (by omega) _ nn ii v3 (fewH ys 70) _ rfl (hst.ownAt (i := 1) rfl) (by omega) (by rw [few_len]; omega) hp2 (hst.keepb hk0)) ?_
  clear hfr hst
  intro a w7 x11 hp hfr hst
  revert x11 hp hfr hst; rintro v10 hp hfr hst
  clear hp
  replace hst : St No w0 [own v10 9 1 ((wayH sha nn ii tc (fewH ys 70)).1.map fun s => [sv s]), own v8 9 1 ((wayH sha nn ii sc (fewH xs 70)).1.map fun s => [sv s]), own v3 9 1 ((fewH ys 70).map fun s => [sv s])] w7 := hst
  refine wl_v hfr (by decide) (v_move rfl) ?_
  clear hfr
  intro a hfr
  refine wl_v hfr (by decide) (v_extract rfl rfl) ?_
  clear hfr
  intro a hfr
  refine wl_v hfr (by decide) (v_extract rfl rfl) ?_
  clear hfr
  intro a hfr
  refine wl_v hfr (by decide) (v_assign rfl) ?_
  clear hfr
  intro a hfr
  refine wl_v hfr (by decide) (v_assign rfl) ?_
  clear hfr
  intro a hfr
  refine wl_nil (hK15 _ _ ?_)
  replace hfr : Fr 83 [(14, _), (15, _), (18, _), (20, _)] [] a := hfr.pick [14, 15, 18, 20]
  replace hst : St No w0 [_, _] w7 := hst.mask [true, true, false]
  have hcoll := binding sha_len hv1 hv2 hne
  rw [coll_dec] at hcoll
  simp only [Int.toNat_natCast] at hcoll
  have hcb1 := of_all (way_strs scl (fewH xs 70) nn ii hp1) (by decide)
  have hcb2 := of_all (way_strs tcl (fewH ys 70) nn ii hp2) (by decide)
  refine wc_seq_region fun K16 hK16 => ?_
  refine wl_v hfr (by decide) (v_move rfl) ?_
  clear hfr
  intro a hfr
  refine wl_v hfr (by decide) (v_move rfl) ?_
  clear hfr
  intro a hfr
  refine wl_vy hfr (by decide) rfl (by decide) rfl (v_move rfl) ?_
  clear hfr
  intro a hfr
  refine wl_vy hfr (by decide) rfl (by decide) rfl (v_move rfl) ?_
  clear hfr
  intro a hfr
  refine wl_callpy hfr hst (by decide) rfl (by decide) rfl Tryd.call27 rfl (ret_b hcoll (collide_ok v8 v10 _ _ _ (hst.ownAt (i := 1) rfl) (hst.ownAt (i := 0) rfl) hcb1 hcb2 (hst.keepb hk0))) ?_
  clear hfr hst
  intro a w8 hfr hst
  refine wl_v hfr (by decide) (v_pick_t rfl rfl) ?_
  clear hfr
  intro a hfr
  refine wl_v hfr (by decide) (v_assign rfl) ?_
  clear hfr
  intro a hfr
  refine wl_nil (hK16 _ _ ?_)
  replace hfr : Fr 83 [(14, _)] [] a := hfr.pick [14]
  replace hst : St No w0 [] w8 := hst.mask [false, false]
  refine wc_ret ?_
  refine fin_ret hfr Tryd.results7 (resAre_tmp rfl resAre_nil) ?_
  exact ⟨by rfl, hst.ext⟩

set_option maxHeartbeats 4000000 in
/-- dialtone/dialtonelaw02.DigestExtensionBinding -/
theorem xbinding_walk (a0 b0 root : By) (m n : Int) (av bv : Value) (xs ys : List By) (w0 : World) (hm : m ≤ 9223372036854775807) (hn : n ≤ 9223372036854775807) (hav : SlAt w0 av 1 (xs.map fun s => [sv s])) (hbv : SlAt w0 bv 1 (ys.map fun s => [sv s])) (hk0 : (blk 0 (kOf.map wv) 88).ok w0) :
    Ret Tryd.prog 8 #[sv a0, av, sv b0, bv, .int .i64 m, sv root, .int .i64 n] w0 fun v w => v = .bool true ∧ Ext No w0 w := by
  refine ret_of Tryd.func8 rfl Tryd.ntmps8 (Nat.le_of_ble_eq_true rfl) fun a hfr => ?_
  replace hfr : Fr 73 [(0, _), (1, _), (2, _), (3, _), (4, _), (5, _), (6, _)] [] a := hfr
  replace hst : St No w0 [] w0 := St.init w0
  refine wc_seq_region fun K1 hK1 => ?_
  refine wl_v hfr (by decide) (v_assign rfl) ?_
  clear hfr
  intro a hfr
  refine wl_nil (hK1 _ _ ?_)
  refine wc_seq_region fun K2 hK2 => ?_
  refine wl_callp hfr hst (by decide) Tryd.call12 rfl (sane_ok _ (hst.keepb hk0)) ?_
  clear hfr hst
  intro a w1 hfr hst
  refine wl_v hfr (by decide) (v_assign rfl) ?_
  clear hfr
  intro a hfr
  refine wl_nil (hK2 _ _ ?_)
  refine wc_seq_region fun K3 hK3 => ?_
  refine wl_v hfr (by decide) (v_move rfl) ?_
  clear hfr
  intro a hfr
  refine wl_callm hfr hst (by decide) Tryd.call13 rfl (few_ok av xs 70 _ (hst.arg hav) (by decide)) ?_
  clear hfr hst
  intro a w2 x2 hp hfr hst
  revert x2 hp hfr hst; rintro v1 hp hfr hst
  clear hp
  replace hst : St No w0 [own v1 9 1 ((fewH xs 70).map fun s => [sv s])] w2 := hst
  refine wl_v hfr (by decide) (v_assign rfl) ?_
  clear hfr
  intro a hfr
  refine wl_nil (hK3 _ _ ?_)
  refine wc_seq_region fun K4 hK4 => ?_
  refine wl_v hfr (by decide) (v_move rfl) ?_
  clear hfr
  intro a hfr
  refine wl_callm hfr hst (by decide) Tryd.call13 rfl (few_ok bv ys 70 _ (hst.arg hbv) (by decide)) ?_
  clear hfr hst
  intro a w3 x4 hp hfr hst
  revert x4 hp hfr hst; rintro v3 hp hfr hst
  clear hp
  replace hst : St No w0 [own v3 9 1 ((fewH ys 70).map fun s => [sv s]), own v1 9 1 ((fewH xs 70).map fun s => [sv s])] w3 := hst
  refine wl_v hfr (by decide) (v_assign rfl) ?_
  clear hfr
  intro a hfr
  refine wl_nil (hK4 _ _ ?_)
  refine wc_seq_region fun K5 hK5 => ?_
  refine wl_v hfr (by decide) (v_move rfl) ?_
  clear hfr
  intro a hfr
  refine wl_v hfr (by decide) (v_move rfl) ?_
  clear hfr
  intro a hfr
  refine wl_v hfr (by decide) (v_move rfl) ?_
  clear hfr
  intro a hfr
  refine wl_v hfr (by decide) (v_move rfl) ?_
  clear hfr
  intro a hfr
  refine wl_v hfr (by decide) (v_move rfl) ?_
  clear hfr
  intro a hfr
  refine wl_callp hfr hst (by decide) Tryd.call23 rfl (verifyx_ok a0 root m n v1 (fewH xs 70) _ (hst.ownAt (i := 1) rfl) (by rw [few_len]; omega) (by omega) (hst.keepb hk0)) ?_
  clear hfr hst
  intro a w4 hfr hst
  refine wl_v hfr (by decide) (v_assign rfl) ?_
  clear hfr
  intro a hfr
  refine wl_nil (hK5 _ _ ?_)
  replace hfr : Fr 73 [(0, _), (2, _), (4, _), (5, _), (6, _), (14, _), (15, _), (1, _), (3, _), (16, _)] [] a := hfr.pick [0, 2, 4, 5, 6, 14, 15, 1, 3, 16]
  refine wc_seq_region fun K6 hK6 => ?_
  refine wl_v hfr (by decide) (v_move rfl) ?_
  clear hfr
  intro a hfr
  refine wl_v hfr (by decide) (v_move rfl) ?_
  clear hfr
  intro a hfr
  refine wl_v hfr (by decide) (v_move rfl) ?_
  clear hfr
  intro a hfr
  refine wl_v hfr (by decide) (v_move rfl) ?_
  clear hfr
  intro a hfr
  refine wl_v hfr (by decide) (v_move rfl) ?_
  clear hfr
  intro a hfr
  refine wl_callp hfr hst (by decide) Tryd.call23 rfl (verifyx_ok b0 root m n v3 (fewH ys 70) _ (hst.ownAt (i := 0) rfl) (by rw [few_len]; omega) (by omega) (hst.keepb hk0)) ?_
  clear hfr hst
  intro a w5 hfr hst
  refine wl_v hfr (by decide) (v_assign rfl) ?_
  clear hfr
  intro a hfr
  refine wl_nil (hK6 _ _ ?_)
  replace hfr : Fr 73 [(0, _), (2, _), (4, _), (6, _), (14, _), (15, _), (1, _), (3, _), (16, _), (17, _)] [] a := hfr.pick [0, 2, 4, 6, 14, 15, 1, 3, 16, 17]
  refine wc_seq_k fun K7 hK7 => ?_
  refine wc_seq_region fun K8 hK8 => ?_
  refine wl_v hfr (by decide) (v_move rfl) ?_
  clear hfr
  intro a hfr
  refine wl_v hfr (by decide) (v_not rfl) ?_
  clear hfr
  intro a hfr
  refine wl_v hfr (by decide) (v_move rfl) ?_
  clear hfr
  intro a hfr
  rcases Bool.eq_false_or_eq_true (!(verifyExtH sha a0 m root n (fewH xs 70))) with hb5 | hb5
  · rw [hb5] at hfr
    try simp only [Bool.not_eq_true', Bool.not_eq_false', decide_eq_true_eq, decide_eq_false_iff_not] at hb5
    refine wl_vn hfr (by decide) rfl (by decide) rfl rfl ?_
    clear hfr
    intro a hfr
    refine wl_vn hfr (by decide) rfl (by decide) rfl rfl ?_
    clear hfr
    intro a hfr
    refine wl_v hfr (by decide) (v_pick_t rfl rfl) ?_
    clear hfr
    intro a hfr
    refine wl_v hfr (by decide) (v_move rfl) ?_
    clear hfr
    intro a hfr
    refine wl_vn hfr (by decide) rfl (by decide) rfl rfl ?_
    clear hfr
    intro a hfr
    refine wl_vn hfr (by decide) rfl (by decide) rfl rfl ?_
    clear hfr
    intro a hfr
    refine wl_vn hfr (by decide) rfl (by decide) rfl rfl ?_
    clear hfr
    intro a hfr
    refine wl_v hfr (by decide) (v_pick_t rfl rfl) ?_
    clear hfr
    intro a hfr
    refine wl_nil (hK8 _ _ ?_)
    replace hfr : Fr 73 [(0, _), (2, _), (4, _), (6, _), (14, _), (15, _), (1, _), (3, _), (49, _)] [] a := hfr.pick [0, 2, 4, 6, 14, 15, 1, 3, 49]
    refine wc_cond_t hfr rfl ?_
    refine wc_seq_region fun K9 hK9 => ?_
    refine wl_v hfr (by decide) (v_move rfl) ?_
    clear hfr
    intro a hfr
    refine wl_v hfr (by decide) (v_assign rfl) ?_
    clear hfr
    intro a hfr
    refine wl_nil (hK9 _ _ ?_)
    refine wc_ret ?_
    refine fin_ret hfr Tryd.results8 (resAre_tmp rfl resAre_nil) ?_
    exact ⟨by rfl, hst.ext⟩
  rw [hb5] at hfr
  try simp only [Bool.not_eq_true', Bool.not_eq_false', decide_eq_true_eq, decide_eq_false_iff_not] at hb5
  have hv1 := hb5
  refine wl_vy hfr (by decide) rfl (by decide) rfl (v_move rfl) ?_
  clear hfr
  intro a hfr
  refine wl_vy hfr (by decide) rfl (by decide) rfl (v_not rfl) ?_
  clear hfr
  intro a hfr
  refine wl_v hfr (by decide) (v_pick_f rfl rfl) ?_
  clear hfr
  intro a hfr
  refine wl_v hfr (by decide) (v_move rfl) ?_
  clear hfr
  intro a hfr
  rcases Bool.eq_false_or_eq_true (!(verifyExtH sha b0 m root n (fewH ys 70))) with hb6 | hb6
  · rw [hb6] at hfr
    try simp only [Bool.not_eq_true', Bool.not_eq_false', decide_eq_true_eq, decide_eq_false_iff_not] at hb6
    refine wl_vn hfr (by decide) rfl (by decide) rfl rfl ?_
    clear hfr
    intro a hfr
    refine wl_vn hfr (by decide) rfl (by decide) rfl rfl ?_
    clear hfr
    intro a hfr
    refine wl_vn hfr (by decide) rfl (by decide) rfl rfl ?_
    clear hfr
    intro a hfr
    refine wl_v hfr (by decide) (v_pick_t rfl rfl) ?_
    clear hfr
    intro a hfr
    refine wl_nil (hK8 _ _ ?_)
    replace hfr : Fr 73 [(0, _), (2, _), (4, _), (6, _), (14, _), (15, _), (1, _), (3, _), (49, _)] [] a := hfr.pick [0, 2, 4, 6, 14, 15, 1, 3, 49]
    refine wc_cond_t hfr rfl ?_
    refine wc_seq_region fun K10 hK10 => ?_
    refine wl_v hfr (by decide) (v_move rfl) ?_
    clear hfr
    intro a hfr
    refine wl_v hfr (by decide) (v_assign rfl) ?_
    clear hfr
    intro a hfr
    refine wl_nil (hK10 _ _ ?_)
    refine wc_ret ?_
    refine fin_ret hfr Tryd.results8 (resAre_tmp rfl resAre_nil) ?_
    exact ⟨by rfl, hst.ext⟩
  rw [hb6] at hfr
  try simp only [Bool.not_eq_true', Bool.not_eq_false', decide_eq_true_eq, decide_eq_false_iff_not] at hb6
  have hv2 := hb6
  refine wl_vy hfr (by decide) rfl (by decide) rfl (v_move rfl) ?_
  clear hfr
  intro a hfr
  refine wl_vy hfr (by decide) rfl (by decide) rfl (v_move rfl) ?_
  clear hfr
  intro a hfr
  refine wl_vy hfr (by decide) rfl (by decide) rfl (v_seq rfl rfl) ?_
  clear hfr
  intro a hfr
  refine wl_v hfr (by decide) (v_pick_f rfl rfl) ?_
  clear hfr
  intro a hfr
  refine wl_nil (hK8 _ _ ?_)
  replace hfr : Fr 73 [(0, _), (2, _), (4, _), (6, _), (14, _), (15, _), (1, _), (3, _), (49, _)] [] a := hfr.pick [0, 2, 4, 6, 14, 15, 1, 3, 49]
  refine wc_cond hfr rfl (fun hc7 => ?_) (fun hc7 => ?_)
  · rw [hc7] at hfr
    try simp only [Bool.not_eq_true', Bool.not_eq_false', decide_eq_true_eq, decide_eq_false_iff_not] at hc7
    refine wc_seq_region fun K11 hK11 => ?_
    refine wl_v hfr (by decide) (v_move rfl) ?_
    clear hfr
    intro a hfr
    refine wl_v hfr (by decide) (v_assign rfl) ?_
    clear hfr
    intro a hfr
    refine wl_nil (hK11 _ _ ?_)
    refine wc_ret ?_
    refine fin_ret hfr Tryd.results8 (resAre_tmp rfl resAre_nil) ?_
    exact ⟨by rfl, hst.ext⟩
  rw [hc7] at hfr
  try simp only [Bool.not_eq_true', Bool.not_eq_false', decide_eq_true_eq, decide_eq_false_iff_not] at hc7
  have hne := hc7
  refine wc_skip ?_
  refine hK7 _ _ ?_
  obtain ⟨h0m, hmn, hp1, ho1, hz1⟩ := vx_parts hv1
  obtain ⟨-, -, hp2, ho2, hz2⟩ := vx_parts hv2
  have hm0 : m ≠ 0 := fun e => hne ((hz1 e).trans (hz2 e).symm)
  obtain ⟨mm, rfl⟩ := Int.eq_ofNat_of_zero_le (show 0 ≤ m by omega)
  obtain ⟨nn, rfl⟩ := Int.eq_ofNat_of_zero_le (show 0 ≤ n by omega)
  refine wc_seq_region fun K12 hK12 => ?_
  refine wl_v hfr (by decide) (v_move rfl) ?_
  clear hfr
  intro a hfr
  refine wl_v hfr (by decide) (v_move rfl) ?_
  clear hfr
  intro a hfr
  refine wl_v hfr (by decide) (v_move rfl) ?_
  clear hfr
  intro a hfr
  refine wl_v hfr (by decide) (v_move rfl) ?_
  clear hfr
  intro a hfr
  refine wl_callm hfr hst (by decide) Tryd.call28 rfl (sides_ok a0 ho1 _ mm nn v1 (fewH xs 70) true _ rfl (hst.ownAt (i := 1) rfl) (by omega) (by rw [few_len]; omega) hp1 (hst.keepb hk0)) ?_
  clear hfr hst
  intro a w6 x9 hp hfr hst
  revert x9 hp hfr hst; rintro v8 hp hfr hst
  clear hp
  replace hst : St No w0 [own v8 9 1 ((sidesH sha a0 mm nn (fewH xs 70) true).1.map fun s => [sv s]), own v3 9 1 ((fewH ys 70).map fun s => [sv s]), own v1 9 1 ((fewH xs 70).map fun s => [sv s])] w6 := hst
  refine wl_v hfr (by decide) (v_move rfl) ?_
  clear hfr
  intro a hfr
  refine wl_v hfr (by decide) (v_extract rfl rfl) ?_
  clear hfr
  intro a hfr
  refine wl_v hfr (by decide) (v_extract rfl rfl) ?_
  clear hfr
  intro a hfr
  refine wl_v hfr (by decide) (v_assign rfl) ?_
  clear hfr
  intro a hfr
  refine wl_v hfr (by decide) (v_assign rfl) ?_
  clear hfr
  intro a hfr
  refine wl_nil (hK12 _ _ ?_)
  replace hfr : Fr 73 [(2, _), (4, _), (6, _), (14, _), (15, _), (3, _), (18, _)] [] a := hfr.pick [2, 4, 6, 14, 15, 3, 18]
  replace hst : St No w0 [_, _] w6 := hst.mask [true, true, false]
  refine wc_seq_region fun K13 hK13 => ?_
  refine wl_v hfr (by decide) (v_move rfl) ?_
  clear hfr
  intro a hfr
  refine wl_v hfr (by decide) (v_move rfl) ?_
  clear hfr
  intro a hfr
  refine wl_v hfr (by decide) (v_move rfl) ?_
  clear hfr
  intro a hfr
  refine wl_v hfr (by decide) (v_move rfl) ?_
  clear hfr
  intro a hfr
  refine wl_callm hfr hst (by decide) Tryd.call28 rfl (sides_ok b0 ho2 _ mm nn v3 (fewH ys 70) true _ rfl (hst.ownAt (i := 1) rfl) (by omega) (by rw [few_len]; omega) hp2 (hst.keepb hk0)) ?_
  clear hfr hst
  intro a w7 x11 hp hfr hst
  revert x11 hp hfr hst; rintro v10 hp hfr hst
  clear hp
  replace hst : St No w0 [own v10 9 1 ((sidesH sha b0 mm nn (fewH ys 70) true).1.map fun s => [sv s]), own v8 9 1 ((sidesH sha a0 mm nn (fewH xs 70) true).1.map fun s => [sv s]), own v3 9 1 ((fewH ys 70).map fun s => [sv s])] w7 := hst
  refine wl_v hfr (by decide) (v_move rfl) ?_
  clear hfr
  intro a hfr
  refine wl_v hfr (by decide) (v_extract rfl rfl) ?_
  clear hfr
  intro a hfr
  refine wl_v hfr (by decide) (v_extract rfl rfl) ?_
  clear hfr
  intro a hfr
  refine wl_v hfr (by decide) (v_assign rfl) ?_
  clear hfr
  intro a hfr
  refine wl_v hfr (by decide) (v_assign rfl) ?_
  clear hfr
  intro a hfr
  refine wl_nil (hK13 _ _ ?_)
  replace hfr : Fr 73 [(14, _), (15, _), (18, _), (20, _)] [] a := hfr.pick [14, 15, 18, 20]
  replace hst : St No w0 [_, _] w7 := hst.mask [true, true, false]
  have hcoll := ext_binding sha_len hv1 hv2 hne
  rw [coll_dec] at hcoll
  simp only [Int.toNat_natCast] at hcoll
  have hcb1 := of_all (sides_strs ho1 (fewH xs 70) mm nn true hp1) (by decide)
  have hcb2 := of_all (sides_strs ho2 (fewH ys 70) mm nn true hp2) (by decide)
  refine wc_seq_region fun K14 hK14 => ?_
  refine wl_v hfr (by decide) (v_move rfl) ?_
  clear hfr
  intro a hfr
  refine wl_v hfr (by decide) (v_move rfl) ?_
  clear hfr
  intro a hfr
  refine wl_vy hfr (by decide) rfl (by decide) rfl (v_move rfl) ?_
  clear hfr
  intro a hfr
  refine wl_vy hfr (by decide) rfl (by decide) rfl (v_move rfl) ?_
  clear hfr
  intro a hfr
  refine wl_callpy hfr hst (by decide) rfl (by decide) rfl Tryd.call27 rfl (ret_b hcoll (collide_ok v8 v10 _ _ _ (hst.ownAt (i := 1) rfl) (hst.ownAt (i := 0) rfl) hcb1 hcb2 (hst.keepb hk0))) ?_
  clear hfr hst
  intro a w8 hfr hst
  refine wl_v hfr (by decide) (v_pick_t rfl rfl) ?_
  clear hfr
  intro a hfr
  refine wl_v hfr (by decide) (v_assign rfl) ?_
  clear hfr
  intro a hfr
  refine wl_nil (hK14 _ _ ?_)
  replace hfr : Fr 73 [(14, _)] [] a := hfr.pick [14]
  replace hst : St No w0 [] w8 := hst.mask [false, false]
  refine wc_ret ?_
  refine fin_ret hfr Tryd.results8 (resAre_tmp rfl resAre_nil) ?_
  exact ⟨by rfl, hst.ext⟩
end Go.Proofs.YtmcoolbjgeibcaaDoor
