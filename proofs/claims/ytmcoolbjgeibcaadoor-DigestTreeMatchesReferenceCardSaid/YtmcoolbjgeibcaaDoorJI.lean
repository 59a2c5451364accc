/- Texts joined: RefA, RefB, RefC, RefD, RefE, LawM. -/
import Derived.Test.YtmcoolbjgeibcaaDoorJH
namespace Go.Proofs.YtmcoolbjgeibcaaDoor
open Go.RowKit Go.PW
set_option linter.unusedVariables false
set_option linter.unusedSimpArgs false
set_option maxRecDepth 4000

/-- dialtone/dialtoneref02.constants -/
theorem constants_ok (w0 : World) :
    Ret Tryd.prog 70 #[] w0 (MemR w0 (fun v : Value => v) (fun v => [own v 69 1 ((kOf).map fun x => [wv x])]) (fun _ => True)) := by
  refine ret_of Tryd.func70 rfl Tryd.ntmps70 (Nat.le_of_ble_eq_true rfl) fun a hfr => ?_
  replace hfr : Fr 2 [] [] a := hfr
  replace hst : St No w0 [] w0 := St.init w0
  refine wc_seq_region fun K1 hK1 => ?_
  refine wl_v hfr (by decide) (v_assign rfl) ?_
  clear hfr
  intro a hfr
  refine wl_nil (hK1 _ _ ?_)
  refine wc_seq_region fun K2 hK2 => ?_
  refine wl_buildSlice (E := 69) (sz := 1) rfl [[wv (1116352408#32)], [wv (1899447441#32)], [wv (3049323471#32)], [wv (3921009573#32)], [wv (961987163#32)], [wv (1508970993#32)], [wv (2453635748#32)], [wv (2870763221#32)], [wv (3624381080#32)], [wv (310598401#32)], [wv (607225278#32)], [wv (1426881987#32)], [wv (1925078388#32)], [wv (2162078206#32)], [wv (2614888103#32)], [wv (3248222580#32)], [wv (3835390401#32)], [wv (4022224774#32)], [wv (264347078#32)], [wv (604807628#32)], [wv (770255983#32)], [wv (1249150122#32)], [wv (1555081692#32)], [wv (1996064986#32)], [wv (2554220882#32)], [wv (2821834349#32)], [wv (2952996808#32)], [wv (3210313671#32)], [wv (3336571891#32)], [wv (3584528711#32)], [wv (113926993#32)], [wv (338241895#32)], [wv (666307205#32)], [wv (773529912#32)], [wv (1294757372#32)], [wv (1396182291#32)], [wv (1695183700#32)], [wv (1986661051#32)], [wv (2177026350#32)], [wv (2456956037#32)], [wv (2730485921#32)], [wv (2820302411#32)], [wv (3259730800#32)], [wv (3345764771#32)], [wv (3516065817#32)], [wv (3600352804#32)], [wv (4094571909#32)], [wv (275423344#32)], [wv (430227734#32)], [wv (506948616#32)], [wv (659060556#32)], [wv (883997877#32)], [wv (958139571#32)], [wv (1322822218#32)], [wv (1537002063#32)], [wv (1747873779#32)], [wv (1955562222#32)], [wv (2024104815#32)], [wv (2227730452#32)], [wv (2361852424#32)], [wv (2428436474#32)], [wv (2756734187#32)], [wv (3204031479#32)], [wv (3329325298#32)]] (by kernel_rfl) (by simp) rfl (by decide) (by decide) hfr hst ?_
  clear hfr hst
  intro a w1 hfr hst
  refine wl_v hfr (by decide) (v_assign rfl) ?_
  clear hfr
  intro a hfr
  refine wl_nil (hK2 _ _ ?_)
  refine wc_ret ?_
  refine fin_ret hfr Tryd.results70 (resAre_tmp rfl resAre_nil) ?_
  exact ⟨(.slice (some ⟨w0.heap.size, 0, none⟩) 64 64), rfl, trivial, hst.ext, St.out (E := [own (.slice (some ⟨w0.heap.size, 0, none⟩) 64 64) 69 1 ((kOf).map fun x => [wv x])]) (H := []) hst⟩

theorem getD_take {α : Type} {l : List α} {i k : Nat} (d : α) (h : i < k) : (l.take k).getD i d = l.getD i d := by
  rw [List.getD_eq_getElem?_getD, List.getElem?_take_of_lt h, ← List.getD_eq_getElem?_getD]

set_option maxHeartbeats 4000000 in
/-- dialtone/dialtoneref02.extended -/
theorem extended_ok (s : By) (w0 : World) (hs : s.length ≤ 100000000) :
    Ret Tryd.prog 57 #[sv s] w0 (MemR w0 (fun v : Value => v) (fun v => [own v 5 1 ((padded s).map fun b => [yv b])]) (fun _ => True)) := by
  refine ret_of Tryd.func57 rfl Tryd.ntmps57 (Nat.le_of_ble_eq_true rfl) fun a hfr => ?_
  replace hfr : Fr 43 [(0, _)] [] a := hfr
  replace hst : St No w0 [] w0 := St.init w0
  refine wc_seq_region fun K1 hK1 => ?_
  refine wl_v hfr (by decide) (v_assign rfl) ?_
  clear hfr
  intro a hfr
  refine wl_nil (hK1 _ _ ?_)
  refine wc_seq_region fun K2 hK2 => ?_
  refine wl_v hfr (by decide) (v_assign rfl) ?_
  clear hfr
  intro a hfr
  refine wl_nil (hK2 _ _ ?_)
  refine wc_seq_k fun K3 hK3 => ?_
  refine wc_seq_region fun K4 hK4 => ?_
  refine wl_v hfr (by decide) (v_assign rfl) ?_
  clear hfr
  intro a hfr
  refine wl_nil (hK4 _ _ ?_)
  refine wc_block ?_
  replace hst : St No w0 [own (.slice none 0 0) 5 1 ((s.take 0).map fun b => [yv b])] w0 := hst.nil_own
  refine wc_loop (fun m a w => ∃ (k : Nat) (v : Value), m = s.length - k ∧ (k ≤ s.length) ∧ Fr 43 [(0, sv s), (2, .slice none 0 0), (3, v), (4, .int .i64 (k : Int))] [] a ∧ St No w0 [own v 5 1 ((s.take k).map fun b => [yv b])] w) _ ⟨0, .slice none 0 0, rfl, Nat.zero_le _, hfr.pick [0, 2, 3, 4], hst.select [0] (by decide)⟩ ?_
  rintro _ a w1 ⟨k, v, rfl, hk, hfr, hst⟩
  refine wc_seq_k fun K5 hK5 => ?_
  refine wc_seq_region fun K6 hK6 => ?_
  refine wl_v hfr (by decide) (v_move rfl) ?_
  clear hfr
  intro a hfr
  refine wl_v hfr (by decide) (v_move rfl) ?_
  clear hfr
  intro a hfr
  refine wl_v hfr (by decide) (v_len_str rfl rfl (Tryd.runUnderlying9 _)) ?_
  clear hfr
  intro a hfr
  refine wl_v hfr (by decide) (v_lt rfl rfl) ?_
  clear hfr
  intro a hfr
  refine wl_nil (hK6 _ _ ?_)
  refine wc_cond hfr rfl (fun hc1 => ?_) (fun hc1 => ?_)
  · rw [hc1] at hfr
    try simp only [Bool.not_eq_true', Bool.not_eq_false', decide_eq_true_eq, decide_eq_false_iff_not] at hc1
    refine wc_skip ?_
    refine hK5 _ _ ?_
    refine wc_seq_k fun K7 hK7 => ?_
    refine wc_block ?_
    refine wc_region ?_
    refine wl_v hfr (by decide) (v_move rfl) ?_
    clear hfr
    intro a hfr
    refine wl_v hfr (by decide) (v_move rfl) ?_
    clear hfr
    intro a hfr
    refine wl_v hfr (by decide) (v_move rfl) ?_
    clear hfr
    intro a hfr
    refine wl_v hfr (by decide) (v_index_str (k := k) rfl rfl (Tryd.runUnderlying9 _) (by omega) (by omega)) ?_
    clear hfr
    intro a hfr
    refine wl_buildSlice (E := 5) (sz := 1) rfl [[yv (s.getD k 0)]] (by kernel_rfl) (by simp) rfl (by decide) (by decide) hfr hst ?_
    clear hfr hst
    intro a w2 hfr hst
    refine wl_append (i := 1) (sT := 46) (inf := Tryd.t5) (z := yv (0 : UInt8)) (b := 0) (off := 0) (m := 0) (c := 0) rfl rfl rfl (hst.ownAt (i := 0) rfl) (by simp) Tryd.underlying46 rfl rfl rfl rfl (by decide) (by simp [Value.oneCell', yv, wv, sv]) (by have hby : Tryd.t5.bytes = 1 := rfl; have hz6 : zeros s.length < 64 := (by unfold zeros; omega); simp [big, hby, sum1, sum2, lenBytes] <;> omega) (by have hby : Tryd.t5.bytes = 1 := rfl; have hz6 : zeros s.length < 64 := (by unfold zeros; omega); simp [big, hby, sum1, sum2, lenBytes] <;> omega) (by decide) hfr hst fun a w3 s2 hfr hst _ => ?_
    refine wl_v hfr (by decide) (v_assign rfl) ?_
    clear hfr
    intro a hfr
    refine wl_nil ?_
    refine hK7 _ _ ?_
    replace hfr : Fr 43 [(0, _), (2, _), (4, _), (3, _)] [] a := hfr.pick [0, 2, 4, 3]
    replace hst : St No w0 [_] w3 := hst.mask [false, true]
    refine wc_region ?_
    refine wl_v hfr (by decide) (v_move rfl) ?_
    clear hfr
    intro a hfr
    refine wl_v hfr (by decide) (v_add rfl rfl ⟨by omega, by omega⟩) ?_
    clear hfr
    intro a hfr
    refine wl_v hfr (by decide) (v_assign rfl) ?_
    clear hfr
    intro a hfr
    refine wl_nil ?_
    rw [show ((s.take k).map fun b => [yv b]) ++ ([[yv (s.getD k 0)]]) = ((s.take (k + 1)).map fun b => [yv b]) from by rw [take_snoc 0 (by omega)]; simp] at hst
    refine ⟨_, ?_, k + 1, s2, rfl, (by omega), hfr.pick [0, 2, 3, 4], hst.select [0] (by decide)⟩
    omega
  rw [hc1] at hfr
  try simp only [Bool.not_eq_true', Bool.not_eq_false', decide_eq_true_eq, decide_eq_false_iff_not] at hc1
  obtain rfl : k = s.length := by omega
  rw [List.take_length] at hst
  refine wc_exit ?_
  refine hK3 _ _ ?_
  refine wc_seq_region fun K8 hK8 => ?_
  refine wl_v hfr (by decide) (v_move rfl) ?_
  clear hfr
  intro a hfr
  refine wl_buildSlice (E := 5) (sz := 1) rfl [[yv (128 : UInt8)]] (by kernel_rfl) (by simp) rfl (by decide) (by decide) hfr hst ?_
  clear hfr hst
  intro a w4 hfr hst
  refine wl_append (i := 1) (sT := 46) (inf := Tryd.t5) (z := yv (0 : UInt8)) (b := 0) (off := 0) (m := 0) (c := 0) rfl rfl rfl (hst.ownAt (i := 0) rfl) (by simp) Tryd.underlying46 rfl rfl rfl rfl (by decide) (by simp [Value.oneCell', yv, wv, sv]) (by have hby : Tryd.t5.bytes = 1 := rfl; have hz6 : zeros s.length < 64 := (by unfold zeros; omega); simp [big, hby, sum1, sum2, lenBytes] <;> omega) (by have hby : Tryd.t5.bytes = 1 := rfl; have hz6 : zeros s.length < 64 := (by unfold zeros; omega); simp [big, hby, sum1, sum2, lenBytes] <;> omega) (by decide) hfr hst fun a w5 s3 hfr hst _ => ?_
  refine wl_v hfr (by decide) (v_assign rfl) ?_
  clear hfr
  intro a hfr
  refine wl_nil (hK8 _ _ ?_)
  replace hfr : Fr 43 [(0, _), (2, _), (3, _)] [] a := hfr.pick [0, 2, 3]
  replace hst : St No w0 [_] w5 := hst.mask [false, true]
  refine wc_seq_k fun K9 hK9 => ?_
  refine wc_block ?_
  rw [show ((s).map fun b => [yv b]) ++ ([[yv (128 : UInt8)]]) = ((sum1 s 0).map fun b => [yv b]) from by simp [sum1]] at hst
  refine wc_loop (fun m a w => ∃ (z : Nat) (v : Value), m = 64 - z ∧ (z ≤ zeros s.length) ∧ Fr 43 [(0, sv s), (2, .slice none 0 0), (3, v)] [] a ∧ St No w0 [own v 5 1 ((sum1 s z).map fun b => [yv b])] w) _ ⟨0, s3, rfl, Nat.zero_le _, hfr.pick [0, 2, 3], hst.select [0] (by decide)⟩ ?_
  rintro _ a w6 ⟨z, v, rfl, hz, hfr, hst⟩
  refine wc_seq_k fun K10 hK10 => ?_
  refine wc_seq_region fun K11 hK11 => ?_
  refine wl_v hfr (by decide) (v_move rfl) ?_
  clear hfr
  intro a hfr
  refine wl_v hfr (by decide) ((v_len_sl (sT := 46) (hst.ownAt (i := 0) rfl) rfl rfl (Tryd.runUnderlying46 _)).asi (m' := ((s.length + 1 + z : Nat) : Int)) (by rw [List.length_map, sum1_len])) ?_
  clear hfr
  intro a hfr
  refine wl_v hfr (by decide) (v_rem rfl rfl (by omega) (by omega)) ?_
  clear hfr
  intro a hfr
  refine wl_v hfr (by decide) (v_ne rfl rfl) ?_
  clear hfr
  intro a hfr
  refine wl_nil (hK11 _ _ ?_)
  refine wc_cond hfr rfl (fun hc4 => ?_) (fun hc4 => ?_)
  · rw [hc4] at hfr
    try simp only [Bool.not_eq_true', Bool.not_eq_false', decide_eq_true_eq, decide_eq_false_iff_not] at hc4
    have hz2 : z + 1 ≤ zeros s.length := by unfold zeros at hz ⊢; omega
    have hz3 : zeros s.length < 64 := by unfold zeros; omega
    refine wc_skip ?_
    refine hK10 _ _ ?_
    refine wc_block ?_
    refine wc_region ?_
    refine wl_v hfr (by decide) (v_move rfl) ?_
    clear hfr
    intro a hfr
    refine wl_buildSlice (E := 5) (sz := 1) rfl [[yv (0 : UInt8)]] (by kernel_rfl) (by simp) rfl (by decide) (by decide) hfr hst ?_
    clear hfr hst
    intro a w7 hfr hst
    refine wl_append (i := 1) (sT := 46) (inf := Tryd.t5) (z := yv (0 : UInt8)) (b := 0) (off := 0) (m := 0) (c := 0) rfl rfl rfl (hst.ownAt (i := 0) rfl) (by simp) Tryd.underlying46 rfl rfl rfl rfl (by decide) (by simp [Value.oneCell', yv, wv, sv]) (by have hby : Tryd.t5.bytes = 1 := rfl; have hz6 : zeros s.length < 64 := (by unfold zeros; omega); simp [big, hby, sum1, sum2, lenBytes] <;> omega) (by have hby : Tryd.t5.bytes = 1 := rfl; have hz6 : zeros s.length < 64 := (by unfold zeros; omega); simp [big, hby, sum1, sum2, lenBytes] <;> omega) (by decide) hfr hst fun a w8 s5 hfr hst _ => ?_
    refine wl_v hfr (by decide) (v_assign rfl) ?_
    clear hfr
    intro a hfr
    refine wl_nil ?_
    rw [show ((sum1 s z).map fun b => [yv b]) ++ ([[yv (0 : UInt8)]]) = ((sum1 s (z + 1)).map fun b => [yv b]) from by simp [sum1, List.replicate_succ']] at hst
    refine ⟨_, ?_, z + 1, s5, rfl, hz2, hfr.pick [0, 2, 3], hst.select [1] (by decide)⟩
    omega
  rw [hc4] at hfr
  try simp only [Bool.not_eq_true', Bool.not_eq_false', decide_eq_true_eq, decide_eq_false_iff_not] at hc4
  obtain rfl : z = zeros s.length := by unfold zeros at hz ⊢; omega
  refine wc_exit ?_
  refine hK9 _ _ ?_
  refine wc_seq_k fun K12 hK12 => ?_
  refine wc_seq_region fun K13 hK13 => ?_
  refine wl_v hfr (by decide) (v_assign rfl) ?_
  clear hfr
  intro a hfr
  refine wl_nil (hK13 _ _ ?_)
  refine wc_block ?_
  rw [show ((sum1 s (zeros s.length)).map fun b => [yv b]) = ((sum2 s 0).map fun b => [yv b]) from by simp [sum1, sum2]] at hst
  rw [show (7 : Int) = 7 - ((0 : Nat) : Int) from by omega] at hfr
  refine wc_loop (fun m a w => ∃ (r : Nat) (v : Value), m = 8 - r ∧ (r ≤ 8) ∧ Fr 43 [(0, sv s), (2, .slice none 0 0), (3, v), (5, .int .i64 (7 - (r : Int)))] [] a ∧ St No w0 [own v 5 1 ((sum2 s r).map fun b => [yv b])] w) _ ⟨0, v, rfl, Nat.zero_le _, hfr.pick [0, 2, 3, 5], hst.select [0] (by decide)⟩ ?_
  rintro _ a w9 ⟨r, v, rfl, hr, hfr, hst⟩
  refine wc_seq_k fun K14 hK14 => ?_
  refine wc_seq_region fun K15 hK15 => ?_
  refine wl_v hfr (by decide) (v_move rfl) ?_
  clear hfr
  intro a hfr
  refine wl_v hfr (by decide) (v_ge rfl rfl) ?_
  clear hfr
  intro a hfr
  refine wl_nil (hK15 _ _ ?_)
  refine wc_cond hfr rfl (fun hc6 => ?_) (fun hc6 => ?_)
  · rw [hc6] at hfr
    try simp only [Bool.not_eq_true', Bool.not_eq_false', decide_eq_true_eq, decide_eq_false_iff_not] at hc6
    refine wc_skip ?_
    refine hK14 _ _ ?_
    refine wc_seq_k fun K16 hK16 => ?_
    refine wc_block ?_
    refine wc_region ?_
    refine wl_v hfr (by decide) (v_move rfl) ?_
    clear hfr
    intro a hfr
    refine wl_v hfr (by decide) (v_move rfl) ?_
    clear hfr
    intro a hfr
    refine wl_v hfr (by decide) (v_len_str rfl rfl (Tryd.runUnderlying9 _)) ?_
    clear hfr
    intro a hfr
    refine wl_v hfr (by decide) ((v_mul rfl rfl ⟨by omega, by omega⟩).asi (m' := ((8 * s.length : Nat) : Int)) (by omega)) ?_
    clear hfr
    intro a hfr
    refine wl_v hfr (by decide) (v_move rfl) ?_
    clear hfr
    intro a hfr
    refine wl_v hfr (by decide) ((v_mul rfl rfl ⟨by omega, by omega⟩).asi (m' := ((8 * (7 - r) : Nat) : Int)) (by omega)) ?_
    clear hfr
    intro a hfr
    refine wl_v hfr (by decide) (v_ishr (m := (8 * s.length)) (n := (8 * (7 - r))) rfl rfl (by omega)) ?_
    clear hfr
    intro a hfr
    refine wl_v hfr (by decide) (v_conv_iy (n := 8 * s.length / 2 ^ (8 * (7 - r))) rfl (by kernel_rfl) Tryd.underlying5) ?_
    clear hfr
    intro a hfr
    refine wl_buildSlice (E := 5) (sz := 1) rfl [[yv (UInt8.ofNat (8 * s.length / 2 ^ (8 * (7 - r))))]] (by kernel_rfl) (by simp) rfl (by decide) (by decide) hfr hst ?_
    clear hfr hst
    intro a w10 hfr hst
    refine wl_append (i := 1) (sT := 46) (inf := Tryd.t5) (z := yv (0 : UInt8)) (b := 0) (off := 0) (m := 0) (c := 0) rfl rfl rfl (hst.ownAt (i := 0) rfl) (by simp) Tryd.underlying46 rfl rfl rfl rfl (by decide) (by simp [Value.oneCell', yv, wv, sv]) (by have hby : Tryd.t5.bytes = 1 := rfl; have hz6 : zeros s.length < 64 := (by unfold zeros; omega); simp [big, hby, sum1, sum2, lenBytes] <;> omega) (by have hby : Tryd.t5.bytes = 1 := rfl; have hz6 : zeros s.length < 64 := (by unfold zeros; omega); simp [big, hby, sum1, sum2, lenBytes] <;> omega) (by decide) hfr hst fun a w11 s7 hfr hst _ => ?_
    refine wl_v hfr (by decide) (v_assign rfl) ?_
    clear hfr
    intro a hfr
    refine wl_nil ?_
    refine hK16 _ _ ?_
    replace hfr : Fr 43 [(0, _), (2, _), (5, _), (3, _)] [] a := hfr.pick [0, 2, 5, 3]
    replace hst : St No w0 [_] w11 := hst.mask [false, true]
    refine wc_region ?_
    refine wl_v hfr (by decide) (v_move rfl) ?_
    clear hfr
    intro a hfr
    refine wl_v hfr (by decide) (v_sub rfl rfl ⟨by omega, by omega⟩) ?_
    clear hfr
    intro a hfr
    refine wl_v hfr (by decide) (v_assign rfl) ?_
    clear hfr
    intro a hfr
    refine wl_nil ?_
    rw [show ((sum2 s r).map fun b => [yv b]) ++ ([[yv (UInt8.ofNat (8 * s.length / 2 ^ (8 * (7 - r))))]]) = ((sum2 s (r + 1)).map fun b => [yv b]) from by unfold sum2; rw [lenBytes_take (by omega)]; simp] at hst
    rw [show 7 - (r : Int) - 1 = 7 - ((r + 1 : Nat) : Int) from by omega] at hfr
    refine ⟨_, ?_, r + 1, s7, rfl, (by omega), hfr.pick [0, 2, 3, 5], hst.select [0] (by decide)⟩
    omega
  rw [hc6] at hfr
  try simp only [Bool.not_eq_true', Bool.not_eq_false', decide_eq_true_eq, decide_eq_false_iff_not] at hc6
  obtain rfl : r = 8 := by omega
  rw [show sum2 s 8 = padded s from rfl] at hst
  refine wc_exit ?_
  refine hK12 _ _ ?_
  refine wc_seq_region fun K17 hK17 => ?_
  refine wl_v hfr (by decide) (v_move rfl) ?_
  clear hfr
  intro a hfr
  refine wl_v hfr (by decide) (v_assign rfl) ?_
  clear hfr
  intro a hfr
  refine wl_nil (hK17 _ _ ?_)
  replace hfr : Fr 43 [(2, _)] [] a := hfr.pick [2]
  refine wc_ret ?_
  refine fin_ret hfr Tryd.results57 (resAre_tmp rfl resAre_nil) ?_
  exact ⟨v, rfl, trivial, hst.ext, St.out (E := [own v 5 1 ((padded s).map fun b => [yv b])]) (H := []) hst⟩
end Go.Proofs.YtmcoolbjgeibcaaDoor
namespace Go.Proofs.YtmcoolbjgeibcaaDoor
open Go.RowKit Go.PW
set_option linter.unusedVariables false
set_option linter.unusedSimpArgs false
set_option maxRecDepth 4000

theorem rot2_ok (x : Wd) (n : Nat) (w0 : World) (hn : 0 < n) (hn2 : n < 32) : Ret Tryd.prog 69 #[wv x, .int .i64 (n : Int)] w0 fun v w => v = wv (ror x n) ∧ Ext No w0 w := by
  have := rotated_ok x n w0 hn hn2
  rw [show (x >>> n) ||| (x <<< (32 - n)) = ror x n from BitVec.or_comm _ _] at this
  exact this
theorem mix2 (x : Wd) (a b : Nat) : mix x [a, b] = ror x a ^^^ ror x b := by simp [mix]
theorem mix3 (x : Wd) (a b c : Nat) : mix x [a, b, c] = ror x a ^^^ ror x b ^^^ ror x c := by simp [mix]
theorem sch_old (bs : List UInt8) {j : Nat} : ∀ {i : Nat}, j < i → (d : Nat) → (sch bs (i + d)).getD j 0#32 = (sch bs i).getD j 0#32
  | i, h, 0 => rfl
  | i, h, d + 1 => by
    have e : sch bs (i + (d + 1)) = (sch bs (i + d)).set (i + d) (if i + d < 16 then be bs (i + d) else nx (sch bs (i + d)) (i + d)) := rfl
    rw [e, List.getD_eq_getElem?_getD, List.getElem?_set_ne (by omega), ← List.getD_eq_getElem?_getD]
    exact sch_old bs h d
theorem sch_at (bs : List UInt8) {j : Nat} (h : j < 64) : (sch bs 64).getD j 0#32 = if j < 16 then be bs j else nx (sch bs j) j := by
  have := sch_old bs (j := j) (i := j + 1) (by omega) (63 - j)
  rw [show j + 1 + (63 - j) = 64 from by omega] at this
  rw [this, sch, List.getD_eq_getElem?_getD, List.getElem?_set_self (by rw [sch_len]; omega)]; rfl
theorem sch_lt (bs : List UInt8) {i j : Nat} (h : i < j) (hj : j ≤ 64) : (sch bs j).getD i 0#32 = (sch bs 64).getD i 0#32 := by
  have := sch_old bs h (64 - j)
  rw [show j + (64 - j) = 64 from by omega] at this
  exact this.symm
theorem sch_take1 (bs : List UInt8) {k : Nat} (h : k < 16) : (sch bs 64).take (k + 1) = (sch bs 64).take k ++ [be bs k] := by
  rw [take_snoc 0#32 (by rw [sch_len]; omega), sch_at bs (by omega), if_pos h]
theorem sch_take2 (bs : List UInt8) {j : Nat} (h : 16 ≤ j) (hj : j < 64) : (sch bs 64).take (j + 1) = (sch bs 64).take j ++ [((((sch bs 64).take j).getD (j - 16) 0#32 + (ror (((sch bs 64).take j).getD (j - 15) 0#32) 7 ^^^ ror (((sch bs 64).take j).getD (j - 15) 0#32) 18 ^^^ ((sch bs 64).take j).getD (j - 15) 0#32 >>> 3)) + ((sch bs 64).take j).getD (j - 7) 0#32) + (ror (((sch bs 64).take j).getD (j - 2) 0#32) 17 ^^^ ror (((sch bs 64).take j).getD (j - 2) 0#32) 19 ^^^ ((sch bs 64).take j).getD (j - 2) 0#32 >>> 10)] := by
  rw [take_snoc 0#32 (by rw [sch_len]; omega), sch_at bs (by omega), if_neg (by omega), nx, mix2, mix2]
  rw [sch_lt bs (i := j - 16) (j := j) (by omega) (by omega), sch_lt bs (i := j - 15) (j := j) (by omega) (by omega), sch_lt bs (i := j - 7) (j := j) (by omega) (by omega), sch_lt bs (i := j - 2) (j := j) (by omega) (by omega)]
  rw [getD_take _ (by omega), getD_take _ (by omega), getD_take _ (by omega), getD_take _ (by omega)]
theorem add_take (x y : W8) {q : Nat} (h : q < 8) : (x.add y).l.take (q + 1) = (x.add y).l.take q ++ [x.l.getD q 0#32 + y.l.getD q 0#32] := by
  rw [take_snoc 0#32 (by exact h)]
  congr 2
  have : q = 0 ∨ q = 1 ∨ q = 2 ∨ q = 3 ∨ q = 4 ∨ q = 5 ∨ q = 6 ∨ q = 7 := by omega
  rcases this with rfl | rfl | rfl | rfl | rfl | rfl | rfl | rfl <;> rfl

set_option maxHeartbeats 4000000 in
/-- dialtone/dialtoneref02.block -/
theorem rblock_ok (hvv bv : Value) (hv : W8) (bs : List UInt8) (w0 : World) (hhv : SlAt w0 hvv 1 ((hv.l).map fun x => [wv x])) (hbv : SlAt w0 bv 1 (bs.map fun b => [yv b])) (hbl : bs.length = 64) :
    Ret Tryd.prog 58 #[hvv, bv] w0 (MemR w0 (fun v : Value => v) (fun v => [own v 69 1 (((block hv bs).l).map fun x => [wv x])]) (fun _ => True)) := by
  refine ret_of Tryd.func58 rfl Tryd.ntmps58 (Nat.le_of_ble_eq_true rfl) fun a hfr => ?_
  replace hfr : Fr 238 [(0, _), (1, _)] [] a := hfr
  replace hst : St No w0 [] w0 := St.init w0
  refine wc_seq_region fun K1 hK1 => ?_
  refine wl_v hfr (by decide) (v_assign rfl) ?_
  clear hfr
  intro a hfr
  refine wl_nil (hK1 _ _ ?_)
  refine wc_seq_region fun K2 hK2 => ?_
  refine wl_v hfr (by decide) (v_assign rfl) ?_
  clear hfr
  intro a hfr
  refine wl_nil (hK2 _ _ ?_)
  refine wc_seq_k fun K3 hK3 => ?_
  refine wc_seq_region fun K4 hK4 => ?_
  refine wl_v hfr (by decide) (v_assign rfl) ?_
  clear hfr
  intro a hfr
  refine wl_nil (hK4 _ _ ?_)
  refine wc_block ?_
  replace hst : St No w0 [own (.slice none 0 0) 69 1 (((sch bs 64).take 0).map fun x => [wv x])] w0 := hst.nil_own
  refine wc_loop (fun m a w => ∃ (k : Nat) (u : Value), m = 16 - k ∧ (k ≤ 16) ∧ Fr 238 [(0, hvv), (1, bv), (4, .slice none 0 0), (5, u), (6, .int .i64 (k : Int))] [] a ∧ St No w0 [own u 69 1 (((sch bs 64).take k).map fun x => [wv x])] w) _ ⟨0, .slice none 0 0, rfl, Nat.zero_le _, hfr.pick [0, 1, 4, 5, 6], hst.select [0] (by decide)⟩ ?_
  rintro _ a w1 ⟨k, u, rfl, hk, hfr, hst⟩
  refine wc_seq_k fun K5 hK5 => ?_
  refine wc_seq_region fun K6 hK6 => ?_
  refine wl_v hfr (by decide) (v_move rfl) ?_
  clear hfr
  intro a hfr
  refine wl_v hfr (by decide) (v_lt rfl rfl) ?_
  clear hfr
  intro a hfr
  refine wl_nil (hK6 _ _ ?_)
  refine wc_cond hfr rfl (fun hc1 => ?_) (fun hc1 => ?_)
  · rw [hc1] at hfr
    try simp only [Bool.not_eq_true', Bool.not_eq_false', decide_eq_true_eq, decide_eq_false_iff_not] at hc1
    refine wc_skip ?_
    refine hK5 _ _ ?_
    refine wc_seq_k fun K7 hK7 => ?_
    refine wc_block ?_
    refine wc_of_dr (by kernel_rfl) (dr_of_wd (by kernel_rfl) fun w2 hxz => ?_)
    replace hst : St No w0 [own u 69 1 (((sch bs 64).take k).map fun x => [wv x])] w2 := hst.grow hxz
    refine wd_sub (k := 0) 35 [0, 34] hfr (by kernel_rfl) (by kernel_rfl) (by kernel_rfl) (by rfl) ?_
    replace hfr : Fr 238 [(0, _), (1, _), (4, _), (5, _), (6, _), (19, _), (20, _)] [] a := hfr.pick [0, 1, 4, 5, 6, 19, 20]
    refine wc_phases_q [34] (fun i => match i with | 34 => pm (fun b : Nat => .slice (some ⟨b, 0, none⟩) 1 1) (fun b => [own (.slice (some ⟨b, 0, none⟩) 1 1) 69 1 [[wv (((((BitVec.ofNat 32 (bs.getD (4 * k) 0).toNat) <<< 24) ||| ((BitVec.ofNat 32 (bs.getD (4 * k + 1) 0).toNat) <<< 16)) ||| ((BitVec.ofNat 32 (bs.getD (4 * k + 2) 0).toNat) <<< 8)) ||| (BitVec.ofNat 32 (bs.getD (4 * k + 3) 0).toNat))]]]) (fun _ => True) | _ => fun _ _ => False) 35 [[], [], [], [2], [1, 3], [4], [5], [6], [], [], [9], [10], [8, 11], [12], [13], [14], [7, 15], [], [], [18], [19], [17, 20], [21], [22], [23], [16, 24], [], [], [27], [28], [26, 29], [30], [31], [25, 32], [33]] [u, bv, .int .i64 (k : Int), .int .i64 (4 * (k : Int)), slAddr bv ((4 * k) * 1), yv (bs.getD (4 * k) 0), wv (BitVec.ofNat 32 (bs.getD (4 * k) 0).toNat), wv ((BitVec.ofNat 32 (bs.getD (4 * k) 0).toNat) <<< 24), bv, .int .i64 (k : Int), .int .i64 (4 * (k : Int)), .int .i64 ((4 * (k : Int)) + 1), slAddr bv ((4 * k + 1) * 1), yv (bs.getD (4 * k + 1) 0), wv (BitVec.ofNat 32 (bs.getD (4 * k + 1) 0).toNat), wv ((BitVec.ofNat 32 (bs.getD (4 * k + 1) 0).toNat) <<< 16), wv (((BitVec.ofNat 32 (bs.getD (4 * k) 0).toNat) <<< 24) ||| ((BitVec.ofNat 32 (bs.getD (4 * k + 1) 0).toNat) <<< 16)), bv, .int .i64 (k : Int), .int .i64 (4 * (k : Int)), .int .i64 ((4 * (k : Int)) + 2), slAddr bv ((4 * k + 2) * 1), yv (bs.getD (4 * k + 2) 0), wv (BitVec.ofNat 32 (bs.getD (4 * k + 2) 0).toNat), wv ((BitVec.ofNat 32 (bs.getD (4 * k + 2) 0).toNat) <<< 8), wv ((((BitVec.ofNat 32 (bs.getD (4 * k) 0).toNat) <<< 24) ||| ((BitVec.ofNat 32 (bs.getD (4 * k + 1) 0).toNat) <<< 16)) ||| ((BitVec.ofNat 32 (bs.getD (4 * k + 2) 0).toNat) <<< 8)), bv, .int .i64 (k : Int), .int .i64 (4 * (k : Int)), .int .i64 ((4 * (k : Int)) + 3), slAddr bv ((4 * k + 3) * 1), yv (bs.getD (4 * k + 3) 0), wv (BitVec.ofNat 32 (bs.getD (4 * k + 3) 0).toNat), wv (((((BitVec.ofNat 32 (bs.getD (4 * k) 0).toNat) <<< 24) ||| ((BitVec.ofNat 32 (bs.getD (4 * k + 1) 0).toNat) <<< 16)) ||| ((BitVec.ofNat 32 (bs.getD (4 * k + 2) 0).toNat) <<< 8)) ||| (BitVec.ofNat 32 (bs.getD (4 * k + 3) 0).toNat)), undef] hfr hst (by kernel_rfl) (by kernel_rfl) (by kernel_rfl) ?_ ?_ ?_
    · intro i hi hiq
      match i, hi, hiq with
      | 0, _, _ =>
        intro w hst
        exact OpV.g (v_move rfl)
      | 1, _, _ =>
        intro w hst
        exact OpV.g (v_move rfl)
      | 2, _, _ =>
        intro w hst
        exact OpV.g (v_move rfl)
      | 3, _, _ =>
        intro w hst
        exact OpV.g (v_mul rfl rfl ⟨by omega, by omega⟩)
      | 4, _, _ =>
        intro w hst
        exact OpV.g ((v_indexAddr_sl (i := 4 * (k : Int)) (sT := 46) (hst.arg hbv) rfl rfl (Tryd.runUnderlying46 _) (Tryd.sizeOf5 _) (by omega) (by rw [List.length_map]; first | omega | (rw [sch_len]; omega) | (rw [List.length_take, sch_len]; omega) | (rw [W8.l_len]; omega) | (rw [kOf_len]; omega))).as (v' := slAddr bv ((4 * k) * 1)) (by rw [show (4 * (k : Int)).toNat = (4 * k) from by omega]))
      | 5, _, _ =>
        intro w hst
        exact OpV.g (v_load_sl1 (u := yv (bs.getD (4 * k) 0)) (i := (4 * k)) (j := 0) (hst.arg hbv) (by rw [List.length_map]; first | omega | (rw [sch_len]; omega) | (rw [List.length_take, sch_len]; omega) | (rw [W8.l_len]; omega) | (rw [kOf_len]; omega)) rfl (Tryd.isAgg5 _) (by simp [List.getD_eq_getElem?_getD, List.getElem?_eq_getElem (show (4 * k) < bs.length by omega)]))
      | 6, _, _ =>
        intro w hst
        exact OpV.g (v_conv_yw rfl (by kernel_rfl) Tryd.underlying69)
      | 7, _, _ =>
        intro w hst
        exact OpV.g (v_wshl (n := 24) rfl rfl)
      | 8, _, _ =>
        intro w hst
        exact OpV.g (v_move rfl)
      | 9, _, _ =>
        intro w hst
        exact OpV.g (v_move rfl)
      | 10, _, _ =>
        intro w hst
        exact OpV.g (v_mul rfl rfl ⟨by omega, by omega⟩)
      | 11, _, _ =>
        intro w hst
        exact OpV.g (v_add rfl rfl ⟨by omega, by omega⟩)
      | 12, _, _ =>
        intro w hst
        exact OpV.g ((v_indexAddr_sl (i := (4 * (k : Int)) + 1) (sT := 46) (hst.arg hbv) rfl rfl (Tryd.runUnderlying46 _) (Tryd.sizeOf5 _) (by omega) (by rw [List.length_map]; first | omega | (rw [sch_len]; omega) | (rw [List.length_take, sch_len]; omega) | (rw [W8.l_len]; omega) | (rw [kOf_len]; omega))).as (v' := slAddr bv ((4 * k + 1) * 1)) (by rw [show ((4 * (k : Int)) + 1).toNat = (4 * k + 1) from by omega]))
      | 13, _, _ =>
        intro w hst
        exact OpV.g (v_load_sl1 (u := yv (bs.getD (4 * k + 1) 0)) (i := (4 * k + 1)) (j := 0) (hst.arg hbv) (by rw [List.length_map]; first | omega | (rw [sch_len]; omega) | (rw [List.length_take, sch_len]; omega) | (rw [W8.l_len]; omega) | (rw [kOf_len]; omega)) rfl (Tryd.isAgg5 _) (by simp [List.getD_eq_getElem?_getD, List.getElem?_eq_getElem (show (4 * k + 1) < bs.length by omega)]))
      | 14, _, _ =>
        intro w hst
        exact OpV.g (v_conv_yw rfl (by kernel_rfl) Tryd.underlying69)
      | 15, _, _ =>
        intro w hst
        exact OpV.g (v_wshl (n := 16) rfl rfl)
      | 16, _, _ =>
        intro w hst
        exact OpV.g (v_wor rfl rfl)
      | 17, _, _ =>
        intro w hst
        exact OpV.g (v_move rfl)
      | 18, _, _ =>
        intro w hst
        exact OpV.g (v_move rfl)
      | 19, _, _ =>
        intro w hst
        exact OpV.g (v_mul rfl rfl ⟨by omega, by omega⟩)
      | 20, _, _ =>
        intro w hst
        exact OpV.g (v_add rfl rfl ⟨by omega, by omega⟩)
      | 21, _, _ =>
        intro w hst
        exact OpV.g ((v_indexAddr_sl (i := (4 * (k : Int)) + 2) (sT := 46) (hst.arg hbv) rfl rfl (Tryd.runUnderlying46 _) (Tryd.sizeOf5 _) (by omega) (by rw [List.length_map]; first | omega | (rw [sch_len]; omega) | (rw [List.length_take, sch_len]; omega) | (rw [W8.l_len]; omega) | (rw [kOf_len]; omega))).as (v' := slAddr bv ((4 * k + 2) * 1)) (by rw [show ((4 * (k : Int)) + 2).toNat = (4 * k + 2) from by omega]))
      | 22, _, _ =>
        intro w hst
        exact OpV.g (v_load_sl1 (u := yv (bs.getD (4 * k + 2) 0)) (i := (4 * k + 2)) (j := 0) (hst.arg hbv) (by rw [List.length_map]; first | omega | (rw [sch_len]; omega) | (rw [List.length_take, sch_len]; omega) | (rw [W8.l_len]; omega) | (rw [kOf_len]; omega)) rfl (Tryd.isAgg5 _) (by simp [List.getD_eq_getElem?_getD, List.getElem?_eq_getElem (show (4 * k + 2) < bs.length by omega)]))
      | 23, _, _ =>
        intro w hst
        exact OpV.g (v_conv_yw rfl (by kernel_rfl) Tryd.underlying69)
      | 24, _, _ =>
        intro w hst
        exact OpV.g (v_wshl (n := 8) rfl rfl)
      | 25, _, _ =>
        intro w hst
        exact OpV.g (v_wor rfl rfl)
      | 26, _, _ =>
        intro w hst
        exact OpV.g (v_move rfl)
      | 27, _, _ =>
        intro w hst
        exact OpV.g (v_move rfl)
      | 28, _, _ =>
        intro w hst
        exact OpV.g (v_mul rfl rfl ⟨by omega, by omega⟩)
      | 29, _, _ =>
        intro w hst
        exact OpV.g (v_add rfl rfl ⟨by omega, by omega⟩)
      | 30, _, _ =>
        intro w hst
        exact OpV.g ((v_indexAddr_sl (i := (4 * (k : Int)) + 3) (sT := 46) (hst.arg hbv) rfl rfl (Tryd.runUnderlying46 _) (Tryd.sizeOf5 _) (by omega) (by rw [List.length_map]; first | omega | (rw [sch_len]; omega) | (rw [List.length_take, sch_len]; omega) | (rw [W8.l_len]; omega) | (rw [kOf_len]; omega))).as (v' := slAddr bv ((4 * k + 3) * 1)) (by rw [show ((4 * (k : Int)) + 3).toNat = (4 * k + 3) from by omega]))
      | 31, _, _ =>
        intro w hst
        exact OpV.g (v_load_sl1 (u := yv (bs.getD (4 * k + 3) 0)) (i := (4 * k + 3)) (j := 0) (hst.arg hbv) (by rw [List.length_map]; first | omega | (rw [sch_len]; omega) | (rw [List.length_take, sch_len]; omega) | (rw [W8.l_len]; omega) | (rw [kOf_len]; omega)) rfl (Tryd.isAgg5 _) (by simp [List.getD_eq_getElem?_getD, List.getElem?_eq_getElem (show (4 * k + 3) < bs.length by omega)]))
      | 32, _, _ =>
        intro w hst
        exact OpV.g (v_conv_yw rfl (by kernel_rfl) Tryd.underlying69)
      | 33, _, _ =>
        intro w hst
        exact OpV.g (v_wor rfl rfl)
      | 34, _, h => exact absurd (by simp) h
      | i + 35, h, _ => exact absurd h (by omega)
    · intro i hi
      simp only [List.mem_cons, List.not_mem_nil, or_false] at hi
      subst hi
      · intro w hst
        exact g_buildSlice (E := 69) (sz := 1) rfl [[wv (((((BitVec.ofNat 32 (bs.getD (4 * k) 0).toNat) <<< 24) ||| ((BitVec.ofNat 32 (bs.getD (4 * k + 1) 0).toNat) <<< 16)) ||| ((BitVec.ofNat 32 (bs.getD (4 * k + 2) 0).toNat) <<< 8)) ||| (BitVec.ofNat 32 (bs.getD (4 * k + 3) 0).toNat))]] (fun _ => by kernel_rfl) (by simp) rfl (by decide)
    clear hfr hst
    rintro _ _ ⟨b2, rfl, -, rfl⟩ a w3 hfr hst
    replace hfr : Fr 238 [(23, u), (24, bv), (25, .int .i64 (k : Int)), (26, .int .i64 (4 * (k : Int))), (27, slAddr bv ((4 * k) * 1)), (28, yv (bs.getD (4 * k) 0)), (29, wv (BitVec.ofNat 32 (bs.getD (4 * k) 0).toNat)), (30, wv ((BitVec.ofNat 32 (bs.getD (4 * k) 0).toNat) <<< 24)), (31, bv), (32, .int .i64 (k : Int)), (33, .int .i64 (4 * (k : Int))), (34, .int .i64 ((4 * (k : Int)) + 1)), (35, slAddr bv ((4 * k + 1) * 1)), (36, yv (bs.getD (4 * k + 1) 0)), (37, wv (BitVec.ofNat 32 (bs.getD (4 * k + 1) 0).toNat)), (38, wv ((BitVec.ofNat 32 (bs.getD (4 * k + 1) 0).toNat) <<< 16)), (39, wv (((BitVec.ofNat 32 (bs.getD (4 * k) 0).toNat) <<< 24) ||| ((BitVec.ofNat 32 (bs.getD (4 * k + 1) 0).toNat) <<< 16))), (40, bv), (41, .int .i64 (k : Int)), (42, .int .i64 (4 * (k : Int))), (43, .int .i64 ((4 * (k : Int)) + 2)), (44, slAddr bv ((4 * k + 2) * 1)), (45, yv (bs.getD (4 * k + 2) 0)), (46, wv (BitVec.ofNat 32 (bs.getD (4 * k + 2) 0).toNat)), (47, wv ((BitVec.ofNat 32 (bs.getD (4 * k + 2) 0).toNat) <<< 8)), (48, wv ((((BitVec.ofNat 32 (bs.getD (4 * k) 0).toNat) <<< 24) ||| ((BitVec.ofNat 32 (bs.getD (4 * k + 1) 0).toNat) <<< 16)) ||| ((BitVec.ofNat 32 (bs.getD (4 * k + 2) 0).toNat) <<< 8))), (49, bv), (50, .int .i64 (k : Int)), (51, .int .i64 (4 * (k : Int))), (52, .int .i64 ((4 * (k : Int)) + 3)), (53, slAddr bv ((4 * k + 3) * 1)), (54, yv (bs.getD (4 * k + 3) 0)), (55, wv (BitVec.ofNat 32 (bs.getD (4 * k + 3) 0).toNat)), (56, wv (((((BitVec.ofNat 32 (bs.getD (4 * k) 0).toNat) <<< 24) ||| ((BitVec.ofNat 32 (bs.getD (4 * k + 1) 0).toNat) <<< 16)) ||| ((BitVec.ofNat 32 (bs.getD (4 * k + 2) 0).toNat) <<< 8)) ||| (BitVec.ofNat 32 (bs.getD (4 * k + 3) 0).toNat))), (57, _), (0, _), (1, _), (4, _), (5, _), (6, _), (19, _), (20, _)] [] a := hfr
    replace hst : St No w0 [_, _] w3 := hst
    refine wl_nil ?_
    refine wd_lin (k := 35) 37 [36] (by kernel_rfl) (by kernel_rfl) (by kernel_rfl) ?_
    refine wl_append (i := 1) (sT := 77) (inf := Tryd.t69) (z := wv (0#32)) (b := 0) (off := 0) (m := 0) (c := 0) rfl rfl rfl (hst.ownAt (i := 0) rfl) (by simp) Tryd.underlying77 rfl rfl rfl rfl (by decide) (by simp [Value.oneCell', yv, wv, sv]) (by have hby : Tryd.t69.bytes = 4 := rfl; simp only [big, hby, List.length_append, List.length_map, List.length_take, sch_len, W8.l_len, List.length_cons, List.length_nil]; omega) (by have hby : Tryd.t69.bytes = 4 := rfl; simp only [big, hby, List.length_append, List.length_map, List.length_take, sch_len, W8.l_len, List.length_cons, List.length_nil]; omega) (by decide) hfr hst fun a w4 s3 hfr hst _ => ?_
    refine wl_v hfr (by decide) (v_assign rfl) ?_
    clear hfr
    intro a hfr
    refine wl_nil ?_
    refine wd_end (by kernel_rfl) ?_
    refine hK7 _ _ ?_
    replace hfr : Fr 238 [(0, _), (1, _), (4, _), (6, _), (5, _)] [] a := hfr.pick [0, 1, 4, 6, 5]
    replace hst : St No w0 [_] w4 := hst.mask [false, true]
    refine wc_region ?_
    refine wl_v hfr (by decide) (v_move rfl) ?_
    clear hfr
    intro a hfr
    refine wl_v hfr (by decide) (v_add rfl rfl ⟨by omega, by omega⟩) ?_
    clear hfr
    intro a hfr
    refine wl_v hfr (by decide) (v_assign rfl) ?_
    clear hfr
    intro a hfr
    refine wl_nil ?_
    rw [show (((sch bs 64).take k).map fun x => [wv x]) ++ ([[wv (((((BitVec.ofNat 32 (bs.getD (4 * k) 0).toNat) <<< 24) ||| ((BitVec.ofNat 32 (bs.getD (4 * k + 1) 0).toNat) <<< 16)) ||| ((BitVec.ofNat 32 (bs.getD (4 * k + 2) 0).toNat) <<< 8)) ||| (BitVec.ofNat 32 (bs.getD (4 * k + 3) 0).toNat))]]) = (((sch bs 64).take (k + 1)).map fun x => [wv x]) from by rw [sch_take1 bs (by omega)]; simp [be]] at hst
    refine ⟨_, ?_, k + 1, s3, rfl, (by omega), hfr.pick [0, 1, 4, 5, 6], hst.select [0] (by decide)⟩
    omega
  rw [hc1] at hfr
  try simp only [Bool.not_eq_true', Bool.not_eq_false', decide_eq_true_eq, decide_eq_false_iff_not] at hc1
  obtain rfl : k = 16 := by omega
  refine wc_exit ?_
  refine hK3 _ _ ?_
  refine wc_seq_k fun K8 hK8 => ?_
  refine wc_seq_region fun K9 hK9 => ?_
  refine wl_v hfr (by decide) (v_assign rfl) ?_
  clear hfr
  intro a hfr
  refine wl_nil (hK9 _ _ ?_)
  refine wc_block ?_
  refine wc_loop (fun m a w => ∃ (j : Nat) (u : Value), m = 64 - j ∧ (16 ≤ j) ∧ (j ≤ 64) ∧ Fr 238 [(0, hvv), (4, .slice none 0 0), (5, u), (7, .int .i64 (j : Int))] [] a ∧ St No w0 [own u 69 1 (((sch bs 64).take j).map fun x => [wv x])] w) _ ⟨16, u, rfl, (by omega), (by omega), hfr.pick [0, 4, 5, 7], hst.select [0] (by decide)⟩ ?_
  rintro _ a w5 ⟨j, u, rfl, hj, hj2, hfr, hst⟩
  refine wc_seq_k fun K10 hK10 => ?_
  refine wc_seq_region fun K11 hK11 => ?_
  refine wl_v hfr (by decide) (v_move rfl) ?_
  clear hfr
  intro a hfr
  refine wl_v hfr (by decide) (v_lt rfl rfl) ?_
  clear hfr
  intro a hfr
  refine wl_nil (hK11 _ _ ?_)
  refine wc_cond hfr rfl (fun hc4 => ?_) (fun hc4 => ?_)
  · rw [hc4] at hfr
    try simp only [Bool.not_eq_true', Bool.not_eq_false', decide_eq_true_eq, decide_eq_false_iff_not] at hc4
    refine wc_skip ?_
    refine hK10 _ _ ?_
    refine wc_seq_k fun K12 hK12 => ?_
    refine wc_block ?_
    refine wc_seq_k fun K13 hK13 => ?_
    refine wc_of_dr (by kernel_rfl) (dr_of_wd (by kernel_rfl) fun w6 hxz => ?_)
    replace hst : St No w0 [own u 69 1 (((sch bs 64).take j).map fun x => [wv x])] w6 := hst.grow hxz
    refine wd_sub (k := 0) 19 [12, 18] hfr (by kernel_rfl) (by kernel_rfl) (by kernel_rfl) (by rfl) ?_
    replace hfr : Fr 238 [(0, _), (4, _), (5, _), (7, _), (59, _), (60, _)] [] a := hfr.pick [0, 4, 5, 7, 59, 60]
    refine wc_phases_q [] (fun i => match i with | _ => fun _ _ => False) 19 [[], [], [1], [0, 2], [3], [4], [], [], [7], [6, 8], [9], [10], [5, 11], [], [], [14], [13, 15], [16], [17]] [u, .int .i64 (j : Int), .int .i64 ((j : Int) - 15), slAddr u ((j - 15) * 1), wv (((sch bs 64).take j).getD (j - 15) 0#32), wv (ror (((sch bs 64).take j).getD (j - 15) 0#32) 7), u, .int .i64 (j : Int), .int .i64 ((j : Int) - 15), slAddr u ((j - 15) * 1), wv (((sch bs 64).take j).getD (j - 15) 0#32), wv (ror (((sch bs 64).take j).getD (j - 15) 0#32) 18), wv ((ror (((sch bs 64).take j).getD (j - 15) 0#32) 7) ^^^ (ror (((sch bs 64).take j).getD (j - 15) 0#32) 18)), u, .int .i64 (j : Int), .int .i64 ((j : Int) - 15), slAddr u ((j - 15) * 1), wv (((sch bs 64).take j).getD (j - 15) 0#32), wv ((((sch bs 64).take j).getD (j - 15) 0#32) >>> 3)] hfr hst (by kernel_rfl) (by kernel_rfl) (by kernel_rfl) ?_ ?_ ?_
    · intro i hi hiq
      match i, hi, hiq with
      | 0, _, _ =>
        intro w hst
        exact OpV.g (v_move rfl)
      | 1, _, _ =>
        intro w hst
        exact OpV.g (v_move rfl)
      | 2, _, _ =>
        intro w hst
        exact OpV.g (v_sub rfl rfl ⟨by omega, by omega⟩)
      | 3, _, _ =>
        intro w hst
        exact OpV.g ((v_indexAddr_sl (i := (j : Int) - 15) (sT := 77) (hst.ownAt (i := 0) rfl) rfl rfl (Tryd.runUnderlying77 _) (Tryd.sizeOf69 _) (by omega) (by rw [List.length_map]; first | omega | (rw [sch_len]; omega) | (rw [List.length_take, sch_len]; omega) | (rw [W8.l_len]; omega) | (rw [kOf_len]; omega))).as (v' := slAddr u ((j - 15) * 1)) (by rw [show ((j : Int) - 15).toNat = (j - 15) from by omega]))
      | 4, _, _ =>
        intro w hst
        exact OpV.g (v_load_sl1 (u := wv (((sch bs 64).take j).getD (j - 15) 0#32)) (i := (j - 15)) (j := 0) (hst.ownAt (i := 0) rfl) (by rw [List.length_map]; first | omega | (rw [sch_len]; omega) | (rw [List.length_take, sch_len]; omega) | (rw [W8.l_len]; omega) | (rw [kOf_len]; omega)) rfl (Tryd.isAgg69 _) (by rw [el_at 0#32]; rfl))
      | 5, _, _ =>
        intro w hst
        exact g_callp Tryd.call69 rfl (rot2_ok (((sch bs 64).take j).getD (j - 15) 0#32) 7 _ (by decide) (by decide))
      | 6, _, _ =>
        intro w hst
        exact OpV.g (v_move rfl)
      | 7, _, _ =>
        intro w hst
        exact OpV.g (v_move rfl)
      | 8, _, _ =>
        intro w hst
        exact OpV.g (v_sub rfl rfl ⟨by omega, by omega⟩)
      | 9, _, _ =>
        intro w hst
        exact OpV.g ((v_indexAddr_sl (i := (j : Int) - 15) (sT := 77) (hst.ownAt (i := 0) rfl) rfl rfl (Tryd.runUnderlying77 _) (Tryd.sizeOf69 _) (by omega) (by rw [List.length_map]; first | omega | (rw [sch_len]; omega) | (rw [List.length_take, sch_len]; omega) | (rw [W8.l_len]; omega) | (rw [kOf_len]; omega))).as (v' := slAddr u ((j - 15) * 1)) (by rw [show ((j : Int) - 15).toNat = (j - 15) from by omega]))
      | 10, _, _ =>
        intro w hst
        exact OpV.g (v_load_sl1 (u := wv (((sch bs 64).take j).getD (j - 15) 0#32)) (i := (j - 15)) (j := 0) (hst.ownAt (i := 0) rfl) (by rw [List.length_map]; first | omega | (rw [sch_len]; omega) | (rw [List.length_take, sch_len]; omega) | (rw [W8.l_len]; omega) | (rw [kOf_len]; omega)) rfl (Tryd.isAgg69 _) (by rw [el_at 0#32]; rfl))
      | 11, _, _ =>
        intro w hst
        exact g_callp Tryd.call69 rfl (rot2_ok (((sch bs 64).take j).getD (j - 15) 0#32) 18 _ (by decide) (by decide))
      | 12, _, _ =>
        intro w hst
        exact OpV.g (v_wxor rfl rfl)
      | 13, _, _ =>
        intro w hst
        exact OpV.g (v_move rfl)
      | 14, _, _ =>
        intro w hst
        exact OpV.g (v_move rfl)
      | 15, _, _ =>
        intro w hst
        exact OpV.g (v_sub rfl rfl ⟨by omega, by omega⟩)
      | 16, _, _ =>
        intro w hst
        exact OpV.g ((v_indexAddr_sl (i := (j : Int) - 15) (sT := 77) (hst.ownAt (i := 0) rfl) rfl rfl (Tryd.runUnderlying77 _) (Tryd.sizeOf69 _) (by omega) (by rw [List.length_map]; first | omega | (rw [sch_len]; omega) | (rw [List.length_take, sch_len]; omega) | (rw [W8.l_len]; omega) | (rw [kOf_len]; omega))).as (v' := slAddr u ((j - 15) * 1)) (by rw [show ((j : Int) - 15).toNat = (j - 15) from by omega]))
      | 17, _, _ =>
        intro w hst
        exact OpV.g (v_load_sl1 (u := wv (((sch bs 64).take j).getD (j - 15) 0#32)) (i := (j - 15)) (j := 0) (hst.ownAt (i := 0) rfl) (by rw [List.length_map]; first | omega | (rw [sch_len]; omega) | (rw [List.length_take, sch_len]; omega) | (rw [W8.l_len]; omega) | (rw [kOf_len]; omega)) rfl (Tryd.isAgg69 _) (by rw [el_at 0#32]; rfl))
      | 18, _, _ =>
        intro w hst
        exact OpV.g (v_wshr (n := 3) rfl rfl)
      | i + 19, h, _ => exact absurd h (by omega)
    · intro i hi
      exact absurd hi (by simp)
    clear hfr hst
    intro  a w7 hfr hst
    replace hfr : Fr 238 [(63, u), (64, .int .i64 (j : Int)), (65, .int .i64 ((j : Int) - 15)), (66, slAddr u ((j - 15) * 1)), (67, wv (((sch bs 64).take j).getD (j - 15) 0#32)), (68, wv (ror (((sch bs 64).take j).getD (j - 15) 0#32) 7)), (69, u), (70, .int .i64 (j : Int)), (71, .int .i64 ((j : Int) - 15)), (72, slAddr u ((j - 15) * 1)), (73, wv (((sch bs 64).take j).getD (j - 15) 0#32)), (74, wv (ror (((sch bs 64).take j).getD (j - 15) 0#32) 18)), (75, wv ((ror (((sch bs 64).take j).getD (j - 15) 0#32) 7) ^^^ (ror (((sch bs 64).take j).getD (j - 15) 0#32) 18))), (76, u), (77, .int .i64 (j : Int)), (78, .int .i64 ((j : Int) - 15)), (79, slAddr u ((j - 15) * 1)), (80, wv (((sch bs 64).take j).getD (j - 15) 0#32)), (81, wv ((((sch bs 64).take j).getD (j - 15) 0#32) >>> 3)), (0, _), (4, _), (5, _), (7, _), (59, _), (60, _)] [] a := hfr
    refine wl_nil ?_
    refine wd_lin (k := 19) 21 [20] (by kernel_rfl) (by kernel_rfl) (by kernel_rfl) ?_
    refine wl_v hfr (by decide) (v_wxor rfl rfl) ?_
    clear hfr
    intro a hfr
    refine wl_v hfr (by decide) (v_assign rfl) ?_
    clear hfr
    intro a hfr
    refine wl_nil ?_
    refine wd_end (by kernel_rfl) ?_
    refine hK13 _ _ ?_
    replace hfr : Fr 238 [(0, _), (4, _), (5, _), (7, _), (8, _)] [] a := hfr.pick [0, 4, 5, 7, 8]
    refine wc_seq_k fun K14 hK14 => ?_
    refine wc_of_dr (by kernel_rfl) (dr_of_wd (by kernel_rfl) fun w8 hxz => ?_)
    replace hst : St No w0 [own u 69 1 (((sch bs 64).take j).map fun x => [wv x])] w8 := hst.grow hxz
    refine wd_sub (k := 0) 19 [12, 18] hfr (by kernel_rfl) (by kernel_rfl) (by kernel_rfl) (by rfl) ?_
    replace hfr : Fr 238 [(0, _), (4, _), (5, _), (7, _), (8, _)] [] a := hfr.pick [0, 4, 5, 7, 8]
    refine wc_phases_q [] (fun i => match i with | _ => fun _ _ => False) 19 [[], [], [1], [0, 2], [3], [4], [], [], [7], [6, 8], [9], [10], [5, 11], [], [], [14], [13, 15], [16], [17]] [u, .int .i64 (j : Int), .int .i64 ((j : Int) - 2), slAddr u ((j - 2) * 1), wv (((sch bs 64).take j).getD (j - 2) 0#32), wv (ror (((sch bs 64).take j).getD (j - 2) 0#32) 17), u, .int .i64 (j : Int), .int .i64 ((j : Int) - 2), slAddr u ((j - 2) * 1), wv (((sch bs 64).take j).getD (j - 2) 0#32), wv (ror (((sch bs 64).take j).getD (j - 2) 0#32) 19), wv ((ror (((sch bs 64).take j).getD (j - 2) 0#32) 17) ^^^ (ror (((sch bs 64).take j).getD (j - 2) 0#32) 19)), u, .int .i64 (j : Int), .int .i64 ((j : Int) - 2), slAddr u ((j - 2) * 1), wv (((sch bs 64).take j).getD (j - 2) 0#32), wv ((((sch bs 64).take j).getD (j - 2) 0#32) >>> 10)] hfr hst (by kernel_rfl) (by kernel_rfl) (by kernel_rfl) ?_ ?_ ?_
    · intro i hi hiq
      match i, hi, hiq with
      | 0, _, _ =>
        intro w hst
        exact OpV.g (v_move rfl)
      | 1, _, _ =>
        intro w hst
        exact OpV.g (v_move rfl)
      | 2, _, _ =>
        intro w hst
        exact OpV.g (v_sub rfl rfl ⟨by omega, by omega⟩)
      | 3, _, _ =>
        intro w hst
        exact OpV.g ((v_indexAddr_sl (i := (j : Int) - 2) (sT := 77) (hst.ownAt (i := 0) rfl) rfl rfl (Tryd.runUnderlying77 _) (Tryd.sizeOf69 _) (by omega) (by rw [List.length_map]; first | omega | (rw [sch_len]; omega) | (rw [List.length_take, sch_len]; omega) | (rw [W8.l_len]; omega) | (rw [kOf_len]; omega))).as (v' := slAddr u ((j - 2) * 1)) (by rw [show ((j : Int) - 2).toNat = (j - 2) from by omega]))
      | 4, _, _ =>
        intro w hst
        exact OpV.g (v_load_sl1 (u := wv (((sch bs 64).take j).getD (j - 2) 0#32)) (i := (j - 2)) (j := 0) (hst.ownAt (i := 0) rfl) (by rw [List.length_map]; first | omega | (rw [sch_len]; omega) | (rw [List.length_take, sch_len]; omega) | (rw [W8.l_len]; omega) | (rw [kOf_len]; omega)) rfl (Tryd.isAgg69 _) (by rw [el_at 0#32]; rfl))
      | 5, _, _ =>
        intro w hst
        exact g_callp Tryd.call69 rfl (rot2_ok (((sch bs 64).take j).getD (j - 2) 0#32) 17 _ (by decide) (by decide))
      | 6, _, _ =>
        intro w hst
        exact OpV.g (v_move rfl)
      | 7, _, _ =>
        intro w hst
        exact OpV.g (v_move rfl)
      | 8, _, _ =>
        intro w hst
        exact OpV.g (v_sub rfl rfl ⟨by omega, by omega⟩)
      | 9, _, _ =>
        intro w hst
        exact OpV.g ((v_indexAddr_sl (i := (j : Int) - 2) (sT := 77) (hst.ownAt (i := 0) rfl) rfl rfl (Tryd.runUnderlying77 _) (Tryd.sizeOf69 _) (by omega) (by rw [List.length_map]; first | omega | (rw [sch_len]; omega) | (rw [List.length_take, sch_len]; omega) | (rw [W8.l_len]; omega) | (rw [kOf_len]; omega))).as (v' := slAddr u ((j - 2) * 1)) (by rw [show ((j : Int) - 2).toNat = (j - 2) from by omega]))
      | 10, _, _ =>
        intro w hst
        exact OpV.g (v_load_sl1 (u := wv (((sch bs 64).take j).getD (j - 2) 0#32)) (i := (j - 2)) (j := 0) (hst.ownAt (i := 0) rfl) (by rw [List.length_map]; first | omega | (rw [sch_len]; omega) | (rw [List.length_take, sch_len]; omega) | (rw [W8.l_len]; omega) | (rw [kOf_len]; omega)) rfl (Tryd.isAgg69 _) (by rw [el_at 0#32]; rfl))
      | 11, _, _ =>
        intro w hst
        exact g_callp Tryd.call69 rfl (rot2_ok (((sch bs 64).take j).getD (j - 2) 0#32) 19 _ (by decide) (by decide))
      | 12, _, _ =>
        intro w hst
        exact OpV.g (v_wxor rfl rfl)
      | 13, _, _ =>
        intro w hst
        exact OpV.g (v_move rfl)
      | 14, _, _ =>
        intro w hst
        exact OpV.g (v_move rfl)
      | 15, _, _ =>
        intro w hst
        exact OpV.g (v_sub rfl rfl ⟨by omega, by omega⟩)
      | 16, _, _ =>
        intro w hst
        exact OpV.g ((v_indexAddr_sl (i := (j : Int) - 2) (sT := 77) (hst.ownAt (i := 0) rfl) rfl rfl (Tryd.runUnderlying77 _) (Tryd.sizeOf69 _) (by omega) (by rw [List.length_map]; first | omega | (rw [sch_len]; omega) | (rw [List.length_take, sch_len]; omega) | (rw [W8.l_len]; omega) | (rw [kOf_len]; omega))).as (v' := slAddr u ((j - 2) * 1)) (by rw [show ((j : Int) - 2).toNat = (j - 2) from by omega]))
      | 17, _, _ =>
        intro w hst
        exact OpV.g (v_load_sl1 (u := wv (((sch bs 64).take j).getD (j - 2) 0#32)) (i := (j - 2)) (j := 0) (hst.ownAt (i := 0) rfl) (by rw [List.length_map]; first | omega | (rw [sch_len]; omega) | (rw [List.length_take, sch_len]; omega) | (rw [W8.l_len]; omega) | (rw [kOf_len]; omega)) rfl (Tryd.isAgg69 _) (by rw [el_at 0#32]; rfl))
      | 18, _, _ =>
        intro w hst
        exact OpV.g (v_wshr (n := 10) rfl rfl)
      | i + 19, h, _ => exact absurd h (by omega)
    · intro i hi
      exact absurd hi (by simp)
    clear hfr hst
    intro  a w9 hfr hst
    replace hfr : Fr 238 [(83, u), (84, .int .i64 (j : Int)), (85, .int .i64 ((j : Int) - 2)), (86, slAddr u ((j - 2) * 1)), (87, wv (((sch bs 64).take j).getD (j - 2) 0#32)), (88, wv (ror (((sch bs 64).take j).getD (j - 2) 0#32) 17)), (89, u), (90, .int .i64 (j : Int)), (91, .int .i64 ((j : Int) - 2)), (92, slAddr u ((j - 2) * 1)), (93, wv (((sch bs 64).take j).getD (j - 2) 0#32)), (94, wv (ror (((sch bs 64).take j).getD (j - 2) 0#32) 19)), (95, wv ((ror (((sch bs 64).take j).getD (j - 2) 0#32) 17) ^^^ (ror (((sch bs 64).take j).getD (j - 2) 0#32) 19))), (96, u), (97, .int .i64 (j : Int)), (98, .int .i64 ((j : Int) - 2)), (99, slAddr u ((j - 2) * 1)), (100, wv (((sch bs 64).take j).getD (j - 2) 0#32)), (101, wv ((((sch bs 64).take j).getD (j - 2) 0#32) >>> 10)), (0, _), (4, _), (5, _), (7, _), (8, _)] [] a := hfr
    refine wl_nil ?_
    refine wd_lin (k := 19) 21 [20] (by kernel_rfl) (by kernel_rfl) (by kernel_rfl) ?_
    refine wl_v hfr (by decide) (v_wxor rfl rfl) ?_
    clear hfr
    intro a hfr
    refine wl_v hfr (by decide) (v_assign rfl) ?_
    clear hfr
    intro a hfr
    refine wl_nil ?_
    refine wd_end (by kernel_rfl) ?_
    refine hK14 _ _ ?_
    replace hfr : Fr 238 [(0, _), (4, _), (5, _), (7, _), (8, _), (9, _)] [] a := hfr.pick [0, 4, 5, 7, 8, 9]
    refine wc_of_dr (by kernel_rfl) (dr_of_wd (by kernel_rfl) fun w10 hxz => ?_)
    replace hst : St No w0 [own u 69 1 (((sch bs 64).take j).map fun x => [wv x])] w10 := hst.grow hxz
    refine wd_sub (k := 0) 17 [0, 16] hfr (by kernel_rfl) (by kernel_rfl) (by kernel_rfl) (by rfl) ?_
    replace hfr : Fr 238 [(0, _), (4, _), (5, _), (7, _), (8, _), (9, _)] [] a := hfr.pick [0, 4, 5, 7, 8, 9]
    refine wc_phases_q [16] (fun i => match i with | 16 => pm (fun b : Nat => .slice (some ⟨b, 0, none⟩) 1 1) (fun b => [own (.slice (some ⟨b, 0, none⟩) 1 1) 69 1 [[wv ((((((sch bs 64).take j).getD (j - 16) 0#32) + (((ror (((sch bs 64).take j).getD (j - 15) 0#32) 7) ^^^ (ror (((sch bs 64).take j).getD (j - 15) 0#32) 18)) ^^^ ((((sch bs 64).take j).getD (j - 15) 0#32) >>> 3))) + (((sch bs 64).take j).getD (j - 7) 0#32)) + (((ror (((sch bs 64).take j).getD (j - 2) 0#32) 17) ^^^ (ror (((sch bs 64).take j).getD (j - 2) 0#32) 19)) ^^^ ((((sch bs 64).take j).getD (j - 2) 0#32) >>> 10)))]]]) (fun _ => True) | _ => fun _ _ => False) 17 [[], [], [], [2], [1, 3], [4], [], [5, 6], [], [], [9], [8, 10], [11], [7, 12], [], [13, 14], [15]] [u, u, .int .i64 (j : Int), .int .i64 ((j : Int) - 16), slAddr u ((j - 16) * 1), wv (((sch bs 64).take j).getD (j - 16) 0#32), wv (((ror (((sch bs 64).take j).getD (j - 15) 0#32) 7) ^^^ (ror (((sch bs 64).take j).getD (j - 15) 0#32) 18)) ^^^ ((((sch bs 64).take j).getD (j - 15) 0#32) >>> 3)), wv ((((sch bs 64).take j).getD (j - 16) 0#32) + (((ror (((sch bs 64).take j).getD (j - 15) 0#32) 7) ^^^ (ror (((sch bs 64).take j).getD (j - 15) 0#32) 18)) ^^^ ((((sch bs 64).take j).getD (j - 15) 0#32) >>> 3))), u, .int .i64 (j : Int), .int .i64 ((j : Int) - 7), slAddr u ((j - 7) * 1), wv (((sch bs 64).take j).getD (j - 7) 0#32), wv (((((sch bs 64).take j).getD (j - 16) 0#32) + (((ror (((sch bs 64).take j).getD (j - 15) 0#32) 7) ^^^ (ror (((sch bs 64).take j).getD (j - 15) 0#32) 18)) ^^^ ((((sch bs 64).take j).getD (j - 15) 0#32) >>> 3))) + (((sch bs 64).take j).getD (j - 7) 0#32)), wv (((ror (((sch bs 64).take j).getD (j - 2) 0#32) 17) ^^^ (ror (((sch bs 64).take j).getD (j - 2) 0#32) 19)) ^^^ ((((sch bs 64).take j).getD (j - 2) 0#32) >>> 10)), wv ((((((sch bs 64).take j).getD (j - 16) 0#32) + (((ror (((sch bs 64).take j).getD (j - 15) 0#32) 7) ^^^ (ror (((sch bs 64).take j).getD (j - 15) 0#32) 18)) ^^^ ((((sch bs 64).take j).getD (j - 15) 0#32) >>> 3))) + (((sch bs 64).take j).getD (j - 7) 0#32)) + (((ror (((sch bs 64).take j).getD (j - 2) 0#32) 17) ^^^ (ror (((sch bs 64).take j).getD (j - 2) 0#32) 19)) ^^^ ((((sch bs 64).take j).getD (j - 2) 0#32) >>> 10))), undef] hfr hst (by kernel_rfl) (by kernel_rfl) (by kernel_rfl) ?_ ?_ ?_
    · intro i hi hiq
      match i, hi, hiq with
      | 0, _, _ =>
        intro w hst
        exact OpV.g (v_move rfl)
      | 1, _, _ =>
        intro w hst
        exact OpV.g (v_move rfl)
      | 2, _, _ =>
        intro w hst
        exact OpV.g (v_move rfl)
      | 3, _, _ =>
        intro w hst
        exact OpV.g (v_sub rfl rfl ⟨by omega, by omega⟩)
      | 4, _, _ =>
        intro w hst
        exact OpV.g ((v_indexAddr_sl (i := (j : Int) - 16) (sT := 77) (hst.ownAt (i := 0) rfl) rfl rfl (Tryd.runUnderlying77 _) (Tryd.sizeOf69 _) (by omega) (by rw [List.length_map]; first | omega | (rw [sch_len]; omega) | (rw [List.length_take, sch_len]; omega) | (rw [W8.l_len]; omega) | (rw [kOf_len]; omega))).as (v' := slAddr u ((j - 16) * 1)) (by rw [show ((j : Int) - 16).toNat = (j - 16) from by omega]))
      | 5, _, _ =>
        intro w hst
        exact OpV.g (v_load_sl1 (u := wv (((sch bs 64).take j).getD (j - 16) 0#32)) (i := (j - 16)) (j := 0) (hst.ownAt (i := 0) rfl) (by rw [List.length_map]; first | omega | (rw [sch_len]; omega) | (rw [List.length_take, sch_len]; omega) | (rw [W8.l_len]; omega) | (rw [kOf_len]; omega)) rfl (Tryd.isAgg69 _) (by rw [el_at 0#32]; rfl))
      | 6, _, _ =>
        intro w hst
        exact OpV.g (v_move rfl)
      | 7, _, _ =>
        intro w hst
        exact OpV.g (v_wadd rfl rfl)
      | 8, _, _ =>
        intro w hst
        exact OpV.g (v_move rfl)
      | 9, _, _ =>
        intro w hst
        exact OpV.g (v_move rfl)
      | 10, _, _ =>
        intro w hst
        exact OpV.g (v_sub rfl rfl ⟨by omega, by omega⟩)
      | 11, _, _ =>
        intro w hst
        exact OpV.g ((v_indexAddr_sl (i := (j : Int) - 7) (sT := 77) (hst.ownAt (i := 0) rfl) rfl rfl (Tryd.runUnderlying77 _) (Tryd.sizeOf69 _) (by omega) (by rw [List.length_map]; first | omega | (rw [sch_len]; omega) | (rw [List.length_take, sch_len]; omega) | (rw [W8.l_len]; omega) | (rw [kOf_len]; omega))).as (v' := slAddr u ((j - 7) * 1)) (by rw [show ((j : Int) - 7).toNat = (j - 7) from by omega]))
      | 12, _, _ =>
        intro w hst
        exact OpV.g (v_load_sl1 (u := wv (((sch bs 64).take j).getD (j - 7) 0#32)) (i := (j - 7)) (j := 0) (hst.ownAt (i := 0) rfl) (by rw [List.length_map]; first | omega | (rw [sch_len]; omega) | (rw [List.length_take, sch_len]; omega) | (rw [W8.l_len]; omega) | (rw [kOf_len]; omega)) rfl (Tryd.isAgg69 _) (by rw [el_at 0#32]; rfl))
      | 13, _, _ =>
        intro w hst
        exact OpV.g (v_wadd rfl rfl)
      | 14, _, _ =>
        intro w hst
        exact OpV.g (v_move rfl)
      | 15, _, _ =>
        intro w hst
        exact OpV.g (v_wadd rfl rfl)
      | 16, _, h => exact absurd (by simp) h
      | i + 17, h, _ => exact absurd h (by omega)
    · intro i hi
      simp only [List.mem_cons, List.not_mem_nil, or_false] at hi
      subst hi
      · intro w hst
        exact g_buildSlice (E := 69) (sz := 1) rfl [[wv ((((((sch bs 64).take j).getD (j - 16) 0#32) + (((ror (((sch bs 64).take j).getD (j - 15) 0#32) 7) ^^^ (ror (((sch bs 64).take j).getD (j - 15) 0#32) 18)) ^^^ ((((sch bs 64).take j).getD (j - 15) 0#32) >>> 3))) + (((sch bs 64).take j).getD (j - 7) 0#32)) + (((ror (((sch bs 64).take j).getD (j - 2) 0#32) 17) ^^^ (ror (((sch bs 64).take j).getD (j - 2) 0#32) 19)) ^^^ ((((sch bs 64).take j).getD (j - 2) 0#32) >>> 10)))]] (fun _ => by kernel_rfl) (by simp) rfl (by decide)
    clear hfr hst
    rintro _ _ ⟨b5, rfl, -, rfl⟩ a w11 hfr hst
    replace hfr : Fr 238 [(103, u), (104, u), (105, .int .i64 (j : Int)), (106, .int .i64 ((j : Int) - 16)), (107, slAddr u ((j - 16) * 1)), (108, wv (((sch bs 64).take j).getD (j - 16) 0#32)), (109, wv (((ror (((sch bs 64).take j).getD (j - 15) 0#32) 7) ^^^ (ror (((sch bs 64).take j).getD (j - 15) 0#32) 18)) ^^^ ((((sch bs 64).take j).getD (j - 15) 0#32) >>> 3))), (110, wv ((((sch bs 64).take j).getD (j - 16) 0#32) + (((ror (((sch bs 64).take j).getD (j - 15) 0#32) 7) ^^^ (ror (((sch bs 64).take j).getD (j - 15) 0#32) 18)) ^^^ ((((sch bs 64).take j).getD (j - 15) 0#32) >>> 3)))), (111, u), (112, .int .i64 (j : Int)), (113, .int .i64 ((j : Int) - 7)), (114, slAddr u ((j - 7) * 1)), (115, wv (((sch bs 64).take j).getD (j - 7) 0#32)), (116, wv (((((sch bs 64).take j).getD (j - 16) 0#32) + (((ror (((sch bs 64).take j).getD (j - 15) 0#32) 7) ^^^ (ror (((sch bs 64).take j).getD (j - 15) 0#32) 18)) ^^^ ((((sch bs 64).take j).getD (j - 15) 0#32) >>> 3))) + (((sch bs 64).take j).getD (j - 7) 0#32))), (117, wv (((ror (((sch bs 64).take j).getD (j - 2) 0#32) 17) ^^^ (ror (((sch bs 64).take j).getD (j - 2) 0#32) 19)) ^^^ ((((sch bs 64).take j).getD (j - 2) 0#32) >>> 10))), (118, wv ((((((sch bs 64).take j).getD (j - 16) 0#32) + (((ror (((sch bs 64).take j).getD (j - 15) 0#32) 7) ^^^ (ror (((sch bs 64).take j).getD (j - 15) 0#32) 18)) ^^^ ((((sch bs 64).take j).getD (j - 15) 0#32) >>> 3))) + (((sch bs 64).take j).getD (j - 7) 0#32)) + (((ror (((sch bs 64).take j).getD (j - 2) 0#32) 17) ^^^ (ror (((sch bs 64).take j).getD (j - 2) 0#32) 19)) ^^^ ((((sch bs 64).take j).getD (j - 2) 0#32) >>> 10)))), (119, _), (0, _), (4, _), (5, _), (7, _), (8, _), (9, _)] [] a := hfr
    replace hst : St No w0 [_, _] w11 := hst
    refine wl_nil ?_
    refine wd_lin (k := 17) 19 [18] (by kernel_rfl) (by kernel_rfl) (by kernel_rfl) ?_
    refine wl_append (i := 1) (sT := 77) (inf := Tryd.t69) (z := wv (0#32)) (b := 0) (off := 0) (m := 0) (c := 0) rfl rfl rfl (hst.ownAt (i := 0) rfl) (by simp) Tryd.underlying77 rfl rfl rfl rfl (by decide) (by simp [Value.oneCell', yv, wv, sv]) (by have hby : Tryd.t69.bytes = 4 := rfl; simp only [big, hby, List.length_append, List.length_map, List.length_take, sch_len, W8.l_len, List.length_cons, List.length_nil]; omega) (by have hby : Tryd.t69.bytes = 4 := rfl; simp only [big, hby, List.length_append, List.length_map, List.length_take, sch_len, W8.l_len, List.length_cons, List.length_nil]; omega) (by decide) hfr hst fun a w12 s6 hfr hst _ => ?_
    refine wl_v hfr (by decide) (v_assign rfl) ?_
    clear hfr
    intro a hfr
    refine wl_nil ?_
    refine wd_end (by kernel_rfl) ?_
    refine hK12 _ _ ?_
    replace hfr : Fr 238 [(0, _), (4, _), (7, _), (5, _)] [] a := hfr.pick [0, 4, 7, 5]
    replace hst : St No w0 [_] w12 := hst.mask [false, true]
    refine wc_region ?_
    refine wl_v hfr (by decide) (v_move rfl) ?_
    clear hfr
    intro a hfr
    refine wl_v hfr (by decide) (v_add rfl rfl ⟨by omega, by omega⟩) ?_
    clear hfr
    intro a hfr
    refine wl_v hfr (by decide) (v_assign rfl) ?_
    clear hfr
    intro a hfr
    refine wl_nil ?_
    rw [show (((sch bs 64).take j).map fun x => [wv x]) ++ ([[wv ((((((sch bs 64).take j).getD (j - 16) 0#32) + (((ror (((sch bs 64).take j).getD (j - 15) 0#32) 7) ^^^ (ror (((sch bs 64).take j).getD (j - 15) 0#32) 18)) ^^^ ((((sch bs 64).take j).getD (j - 15) 0#32) >>> 3))) + (((sch bs 64).take j).getD (j - 7) 0#32)) + (((ror (((sch bs 64).take j).getD (j - 2) 0#32) 17) ^^^ (ror (((sch bs 64).take j).getD (j - 2) 0#32) 19)) ^^^ ((((sch bs 64).take j).getD (j - 2) 0#32) >>> 10)))]]) = (((sch bs 64).take (j + 1)).map fun x => [wv x]) from by rw [sch_take2 bs (by omega) (by omega)]; simp] at hst
    refine ⟨_, ?_, j + 1, s6, rfl, (by omega), (by omega), hfr.pick [0, 4, 5, 7], hst.select [0] (by decide)⟩
    omega
  rw [hc4] at hfr
  try simp only [Bool.not_eq_true', Bool.not_eq_false', decide_eq_true_eq, decide_eq_false_iff_not] at hc4
  obtain rfl : j = 64 := by omega
  rw [List.take_of_length_le (by rw [sch_len]; omega)] at hst
  refine wc_exit ?_
  refine hK8 _ _ ?_
  refine wc_seq_region fun K15 hK15 => ?_
  refine wl_callm hfr hst (by decide) Tryd.call70 rfl (constants_ok _) ?_
  clear hfr hst
  intro a w13 x7 hp hfr hst
  revert x7 hp hfr hst; rintro kz hp hfr hst
  clear hp
  replace hst : St No w0 [own kz 69 1 ((kOf).map fun x => [wv x]), own u 69 1 ((sch bs 64).map fun x => [wv x])] w13 := hst
  refine wl_v hfr (by decide) (v_assign rfl) ?_
  clear hfr
  intro a hfr
  refine wl_nil (hK15 _ _ ?_)
  refine wc_seq_region fun K16 hK16 => ?_
  refine wl_v hfr (by decide) (v_assign rfl) ?_
  clear hfr
  intro a hfr
  refine wl_nil (hK16 _ _ ?_)
  refine wc_seq_region fun K17 hK17 => ?_
  refine wl_v hfr (by decide) (v_move rfl) ?_
  clear hfr
  intro a hfr
  refine wl_v hfr (by decide) (v_move rfl) ?_
  clear hfr
  intro a hfr
  replace hst : St No w0 (own (.slice none 0 0) 69 1 [] :: [_, _]) w13 := hst.nil_own
  refine wl_append_any (i := 0) (sT := 77) (inf := Tryd.t69) (z := wv (0#32)) rfl rfl rfl (hst.arg hhv) Tryd.underlying77 rfl rfl rfl rfl (by decide) (by simp [Value.oneCell', yv, wv, sv]) (by have hby : Tryd.t69.bytes = 4 := rfl; simp only [big, hby, List.length_append, List.length_map, List.length_take, sch_len, W8.l_len, List.length_cons, List.length_nil]; omega) (by have hby : Tryd.t69.bytes = 4 := rfl; simp only [big, hby, List.length_append, List.length_map, List.length_take, sch_len, W8.l_len, List.length_cons, List.length_nil]; omega) (by decide) hfr hst ?_
  clear hfr hst
  intro a w14 s8 hfr hst
  refine wl_v hfr (by decide) (v_assign rfl) ?_
  clear hfr
  intro a hfr
  refine wl_nil (hK17 _ _ ?_)
  replace hfr : Fr 238 [(0, _), (4, _), (5, _), (10, _), (11, _)] [] a := hfr.pick [0, 4, 5, 10, 11]
  refine wc_seq_k fun K18 hK18 => ?_
  refine wc_seq_region fun K19 hK19 => ?_
  refine wl_v hfr (by decide) (v_assign rfl) ?_
  clear hfr
  intro a hfr
  refine wl_nil (hK19 _ _ ?_)
  refine wc_block ?_
  rw [show ([]) ++ ((hv.l).map fun x => [wv x]) = ((hv.l).map fun x => [wv x]) from by simp] at hst
  refine wc_loop (fun m a w => ∃ (ix : Nat) (v : W8) (z : Value), m = 64 - ix ∧ (ix ≤ 64) ∧ (rounds (sch bs 64) hv ix = v) ∧ Fr 238 [(0, hvv), (4, .slice none 0 0), (5, u), (10, kz), (11, z), (12, .int .i64 (ix : Int))] [] a ∧ St No w0 [own z 69 1 ((v.l).map fun x => [wv x]), own u 69 1 ((sch bs 64).map fun x => [wv x]), own kz 69 1 ((kOf).map fun x => [wv x])] w) _ ⟨0, hv, s8, rfl, Nat.zero_le _, rfl, hfr.pick [0, 4, 5, 10, 11, 12], hst.select [0, 2, 1] (by decide)⟩ ?_
  rintro _ a w15 ⟨ix, v, z, rfl, hi, hrv, hfr, hst⟩
  refine wc_seq_k fun K20 hK20 => ?_
  refine wc_seq_region fun K21 hK21 => ?_
  refine wl_v hfr (by decide) (v_move rfl) ?_
  clear hfr
  intro a hfr
  refine wl_v hfr (by decide) (v_lt rfl rfl) ?_
  clear hfr
  intro a hfr
  refine wl_nil (hK21 _ _ ?_)
  refine wc_cond hfr rfl (fun hc9 => ?_) (fun hc9 => ?_)
  · rw [hc9] at hfr
    try simp only [Bool.not_eq_true', Bool.not_eq_false', decide_eq_true_eq, decide_eq_false_iff_not] at hc9
    refine wc_skip ?_
    refine hK20 _ _ ?_
    refine wc_seq_k fun K22 hK22 => ?_
    refine wc_block ?_
    refine wc_seq_region fun K23 hK23 => ?_
    refine wl_v hfr (by decide) (v_move rfl) ?_
    clear hfr
    intro a hfr
    refine wl_v hfr (by decide) ((v_indexAddr_sl (i := 0) (sT := 77) (hst.ownAt (i := 0) rfl) rfl rfl (Tryd.runUnderlying77 _) (Tryd.sizeOf69 _) (by omega) (by rw [List.length_map, W8.l_len]; decide)).as (v' := slAddr z (0 * 1)) rfl) ?_
    clear hfr
    intro a hfr
    refine wl_v hfr (by decide) (v_load_sl1 (u := wv v.a) (i := 0) (j := 0) (hst.ownAt (i := 0) rfl) (by rw [List.length_map, W8.l_len]; decide) rfl (Tryd.isAgg69 _) (by rfl)) ?_
    clear hfr
    intro a hfr
    refine wl_v hfr (by decide) (v_assign rfl) ?_
    clear hfr
    intro a hfr
    refine wl_nil (hK23 _ _ ?_)
    refine wc_seq_region fun K24 hK24 => ?_
    refine wl_v hfr (by decide) (v_move rfl) ?_
    clear hfr
    intro a hfr
    refine wl_v hfr (by decide) ((v_indexAddr_sl (i := 4) (sT := 77) (hst.ownAt (i := 0) rfl) rfl rfl (Tryd.runUnderlying77 _) (Tryd.sizeOf69 _) (by omega) (by rw [List.length_map, W8.l_len]; decide)).as (v' := slAddr z (4 * 1)) rfl) ?_
    clear hfr
    intro a hfr
    refine wl_v hfr (by decide) (v_load_sl1 (u := wv v.e) (i := 4) (j := 0) (hst.ownAt (i := 0) rfl) (by rw [List.length_map, W8.l_len]; decide) rfl (Tryd.isAgg69 _) (by rfl)) ?_
    clear hfr
    intro a hfr
    refine wl_v hfr (by decide) (v_assign rfl) ?_
    clear hfr
    intro a hfr
    refine wl_nil (hK24 _ _ ?_)
    replace hfr : Fr 238 [(0, _), (4, _), (5, _), (10, _), (11, _), (12, _), (13, _), (14, _)] [] a := hfr.pick [0, 4, 5, 10, 11, 12, 13, 14]
    refine wc_seq_k fun K25 hK25 => ?_
    refine wc_of_dr (by kernel_rfl) (dr_of_wd (by kernel_rfl) fun w16 hxz => ?_)
    replace hst : St No w0 [own z 69 1 ((v.l).map fun x => [wv x]), own u 69 1 ((sch bs 64).map fun x => [wv x]), own kz 69 1 ((kOf).map fun x => [wv x])] w16 := hst.grow hxz
    refine wd_sub (k := 0) 34 [29, 33] hfr (by kernel_rfl) (by kernel_rfl) (by kernel_rfl) (by rfl) ?_
    replace hfr : Fr 238 [(0, _), (4, _), (5, _), (10, _), (11, _), (12, _), (13, _), (14, _)] [] a := hfr.pick [0, 4, 5, 10, 11, 12, 13, 14]
    refine wc_phases_q [] (fun i => match i with | _ => fun _ _ => False) 34 [[], [0], [1], [], [3], [], [5], [4, 6], [], [8], [7, 9], [2, 10], [], [], [13], [14], [12, 15], [], [17], [], [19], [20], [18, 21], [16, 22], [11, 23], [], [], [25, 26], [27], [24, 28], [], [], [30, 31], [32]] [z, slAddr z (7 * 1), wv v.h, wv v.e, wv (ror v.e 6), wv v.e, wv (ror v.e 11), wv ((ror v.e 6) ^^^ (ror v.e 11)), wv v.e, wv (ror v.e 25), wv (((ror v.e 6) ^^^ (ror v.e 11)) ^^^ (ror v.e 25)), wv (v.h + (((ror v.e 6) ^^^ (ror v.e 11)) ^^^ (ror v.e 25))), wv v.e, z, slAddr z (5 * 1), wv v.f, wv (v.e &&& v.f), wv v.e, wv (~~~v.e), z, slAddr z (6 * 1), wv v.g, wv ((~~~v.e) &&& v.g), wv ((v.e &&& v.f) ^^^ ((~~~v.e) &&& v.g)), wv ((v.h + (((ror v.e 6) ^^^ (ror v.e 11)) ^^^ (ror v.e 25))) + ((v.e &&& v.f) ^^^ ((~~~v.e) &&& v.g))), kz, .int .i64 (ix : Int), slAddr kz (ix * 1), wv ((kOf).getD ix 0#32), wv (((v.h + (((ror v.e 6) ^^^ (ror v.e 11)) ^^^ (ror v.e 25))) + ((v.e &&& v.f) ^^^ ((~~~v.e) &&& v.g))) + ((kOf).getD ix 0#32)), u, .int .i64 (ix : Int), slAddr u (ix * 1), wv ((sch bs 64).getD ix 0#32)] hfr hst (by kernel_rfl) (by kernel_rfl) (by kernel_rfl) ?_ ?_ ?_
    · intro i hi hiq
      match i, hi, hiq with
      | 0, _, _ =>
        intro w hst
        exact OpV.g (v_move rfl)
      | 1, _, _ =>
        intro w hst
        exact OpV.g ((v_indexAddr_sl (i := 7) (sT := 77) (hst.ownAt (i := 0) rfl) rfl rfl (Tryd.runUnderlying77 _) (Tryd.sizeOf69 _) (by omega) (by rw [List.length_map, W8.l_len]; decide)).as (v' := slAddr z (7 * 1)) rfl)
      | 2, _, _ =>
        intro w hst
        exact OpV.g (v_load_sl1 (u := wv v.h) (i := 7) (j := 0) (hst.ownAt (i := 0) rfl) (by rw [List.length_map, W8.l_len]; decide) rfl (Tryd.isAgg69 _) (by rfl))
      | 3, _, _ =>
        intro w hst
        exact OpV.g (v_move rfl)
      | 4, _, _ =>
        intro w hst
        exact g_callp Tryd.call69 rfl (rot2_ok v.e 6 _ (by decide) (by decide))
      | 5, _, _ =>
        intro w hst
        exact OpV.g (v_move rfl)
      | 6, _, _ =>
        intro w hst
        exact g_callp Tryd.call69 rfl (rot2_ok v.e 11 _ (by decide) (by decide))
      | 7, _, _ =>
        intro w hst
        exact OpV.g (v_wxor rfl rfl)
      | 8, _, _ =>
        intro w hst
        exact OpV.g (v_move rfl)
      | 9, _, _ =>
        intro w hst
        exact g_callp Tryd.call69 rfl (rot2_ok v.e 25 _ (by decide) (by decide))
      | 10, _, _ =>
        intro w hst
        exact OpV.g (v_wxor rfl rfl)
      | 11, _, _ =>
        intro w hst
        exact OpV.g (v_wadd rfl rfl)
      | 12, _, _ =>
        intro w hst
        exact OpV.g (v_move rfl)
      | 13, _, _ =>
        intro w hst
        exact OpV.g (v_move rfl)
      | 14, _, _ =>
        intro w hst
        exact OpV.g ((v_indexAddr_sl (i := 5) (sT := 77) (hst.ownAt (i := 0) rfl) rfl rfl (Tryd.runUnderlying77 _) (Tryd.sizeOf69 _) (by omega) (by rw [List.length_map, W8.l_len]; decide)).as (v' := slAddr z (5 * 1)) rfl)
      | 15, _, _ =>
        intro w hst
        exact OpV.g (v_load_sl1 (u := wv v.f) (i := 5) (j := 0) (hst.ownAt (i := 0) rfl) (by rw [List.length_map, W8.l_len]; decide) rfl (Tryd.isAgg69 _) (by rfl))
      | 16, _, _ =>
        intro w hst
        exact OpV.g (v_wand rfl rfl)
      | 17, _, _ =>
        intro w hst
        exact OpV.g (v_move rfl)
      | 18, _, _ =>
        intro w hst
        exact OpV.g (v_wnot rfl)
      | 19, _, _ =>
        intro w hst
        exact OpV.g (v_move rfl)
      | 20, _, _ =>
        intro w hst
        exact OpV.g ((v_indexAddr_sl (i := 6) (sT := 77) (hst.ownAt (i := 0) rfl) rfl rfl (Tryd.runUnderlying77 _) (Tryd.sizeOf69 _) (by omega) (by rw [List.length_map, W8.l_len]; decide)).as (v' := slAddr z (6 * 1)) rfl)
      | 21, _, _ =>
        intro w hst
        exact OpV.g (v_load_sl1 (u := wv v.g) (i := 6) (j := 0) (hst.ownAt (i := 0) rfl) (by rw [List.length_map, W8.l_len]; decide) rfl (Tryd.isAgg69 _) (by rfl))
      | 22, _, _ =>
        intro w hst
        exact OpV.g (v_wand rfl rfl)
      | 23, _, _ =>
        intro w hst
        exact OpV.g (v_wxor rfl rfl)
      | 24, _, _ =>
        intro w hst
        exact OpV.g (v_wadd rfl rfl)
      | 25, _, _ =>
        intro w hst
        exact OpV.g (v_move rfl)
      | 26, _, _ =>
        intro w hst
        exact OpV.g (v_move rfl)
      | 27, _, _ =>
        intro w hst
        exact OpV.g ((v_indexAddr_sl (i := (ix : Int)) (sT := 77) (hst.ownAt (i := 2) rfl) rfl rfl (Tryd.runUnderlying77 _) (Tryd.sizeOf69 _) (by omega) (by rw [List.length_map]; first | omega | (rw [sch_len]; omega) | (rw [List.length_take, sch_len]; omega) | (rw [W8.l_len]; omega) | (rw [kOf_len]; omega))).as (v' := slAddr kz (ix * 1)) rfl)
      | 28, _, _ =>
        intro w hst
        exact OpV.g (v_load_sl1 (u := wv ((kOf).getD ix 0#32)) (i := ix) (j := 0) (hst.ownAt (i := 2) rfl) (by rw [List.length_map]; first | omega | (rw [sch_len]; omega) | (rw [List.length_take, sch_len]; omega) | (rw [W8.l_len]; omega) | (rw [kOf_len]; omega)) rfl (Tryd.isAgg69 _) (by rw [el_at 0#32]; rfl))
      | 29, _, _ =>
        intro w hst
        exact OpV.g (v_wadd rfl rfl)
      | 30, _, _ =>
        intro w hst
        exact OpV.g (v_move rfl)
      | 31, _, _ =>
        intro w hst
        exact OpV.g (v_move rfl)
      | 32, _, _ =>
        intro w hst
        exact OpV.g ((v_indexAddr_sl (i := (ix : Int)) (sT := 77) (hst.ownAt (i := 1) rfl) rfl rfl (Tryd.runUnderlying77 _) (Tryd.sizeOf69 _) (by omega) (by rw [List.length_map]; first | omega | (rw [sch_len]; omega) | (rw [List.length_take, sch_len]; omega) | (rw [W8.l_len]; omega) | (rw [kOf_len]; omega))).as (v' := slAddr u (ix * 1)) rfl)
      | 33, _, _ =>
        intro w hst
        exact OpV.g (v_load_sl1 (u := wv ((sch bs 64).getD ix 0#32)) (i := ix) (j := 0) (hst.ownAt (i := 1) rfl) (by rw [List.length_map]; first | omega | (rw [sch_len]; omega) | (rw [List.length_take, sch_len]; omega) | (rw [W8.l_len]; omega) | (rw [kOf_len]; omega)) rfl (Tryd.isAgg69 _) (by rw [el_at 0#32]; rfl))
      | i + 34, h, _ => exact absurd h (by omega)
    · intro i hi
      exact absurd hi (by simp)
    clear hfr hst
    intro  a w17 hfr hst
    replace hfr : Fr 238 [(135, z), (136, slAddr z (7 * 1)), (137, wv v.h), (138, wv v.e), (139, wv (ror v.e 6)), (140, wv v.e), (141, wv (ror v.e 11)), (142, wv ((ror v.e 6) ^^^ (ror v.e 11))), (143, wv v.e), (144, wv (ror v.e 25)), (145, wv (((ror v.e 6) ^^^ (ror v.e 11)) ^^^ (ror v.e 25))), (146, wv (v.h + (((ror v.e 6) ^^^ (ror v.e 11)) ^^^ (ror v.e 25)))), (147, wv v.e), (148, z), (149, slAddr z (5 * 1)), (150, wv v.f), (151, wv (v.e &&& v.f)), (152, wv v.e), (153, wv (~~~v.e)), (154, z), (155, slAddr z (6 * 1)), (156, wv v.g), (157, wv ((~~~v.e) &&& v.g)), (158, wv ((v.e &&& v.f) ^^^ ((~~~v.e) &&& v.g))), (159, wv ((v.h + (((ror v.e 6) ^^^ (ror v.e 11)) ^^^ (ror v.e 25))) + ((v.e &&& v.f) ^^^ ((~~~v.e) &&& v.g)))), (160, kz), (161, .int .i64 (ix : Int)), (162, slAddr kz (ix * 1)), (163, wv ((kOf).getD ix 0#32)), (164, wv (((v.h + (((ror v.e 6) ^^^ (ror v.e 11)) ^^^ (ror v.e 25))) + ((v.e &&& v.f) ^^^ ((~~~v.e) &&& v.g))) + ((kOf).getD ix 0#32))), (165, u), (166, .int .i64 (ix : Int)), (167, slAddr u (ix * 1)), (168, wv ((sch bs 64).getD ix 0#32)), (0, _), (4, _), (5, _), (10, _), (11, _), (12, _), (13, _), (14, _)] [] a := hfr
    refine wl_nil ?_
    refine wd_lin (k := 34) 36 [35] (by kernel_rfl) (by kernel_rfl) (by kernel_rfl) ?_
    refine wl_v hfr (by decide) (v_wadd rfl rfl) ?_
    clear hfr
    intro a hfr
    refine wl_v hfr (by decide) (v_assign rfl) ?_
    clear hfr
    intro a hfr
    refine wl_nil ?_
    refine wd_end (by kernel_rfl) ?_
    refine hK25 _ _ ?_
    replace hfr : Fr 238 [(0, _), (4, _), (5, _), (10, _), (11, _), (12, _), (13, _), (14, _), (15, _)] [] a := hfr.pick [0, 4, 5, 10, 11, 12, 13, 14, 15]
    refine wc_seq_k fun K26 hK26 => ?_
    refine wc_of_dr (by kernel_rfl) (dr_of_wd (by kernel_rfl) fun w18 hxz => ?_)
    replace hst : St No w0 [own z 69 1 ((v.l).map fun x => [wv x]), own u 69 1 ((sch bs 64).map fun x => [wv x]), own kz 69 1 ((kOf).map fun x => [wv x])] w18 := hst.grow hxz
    refine wd_sub (k := 0) 27 [7, 26] hfr (by kernel_rfl) (by kernel_rfl) (by kernel_rfl) (by rfl) ?_
    replace hfr : Fr 238 [(0, _), (4, _), (5, _), (10, _), (11, _), (12, _), (13, _), (14, _), (15, _)] [] a := hfr.pick [0, 4, 5, 10, 11, 12, 13, 14, 15]
    refine wc_phases_q [] (fun i => match i with | _ => fun _ _ => False) 27 [[], [0], [], [2], [1, 3], [], [5], [4, 6], [], [], [9], [10], [8, 11], [], [], [14], [15], [13, 16], [12, 17], [], [19], [20], [], [22], [23], [21, 24], [18, 25]] [wv v.a, wv (ror v.a 2), wv v.a, wv (ror v.a 13), wv ((ror v.a 2) ^^^ (ror v.a 13)), wv v.a, wv (ror v.a 22), wv (((ror v.a 2) ^^^ (ror v.a 13)) ^^^ (ror v.a 22)), wv v.a, z, slAddr z (1 * 1), wv v.b, wv (v.a &&& v.b), wv v.a, z, slAddr z (2 * 1), wv v.c, wv (v.a &&& v.c), wv ((v.a &&& v.b) ^^^ (v.a &&& v.c)), z, slAddr z (1 * 1), wv v.b, z, slAddr z (2 * 1), wv v.c, wv (v.b &&& v.c), wv (((v.a &&& v.b) ^^^ (v.a &&& v.c)) ^^^ (v.b &&& v.c))] hfr hst (by kernel_rfl) (by kernel_rfl) (by kernel_rfl) ?_ ?_ ?_
    · intro i hi hiq
      match i, hi, hiq with
      | 0, _, _ =>
        intro w hst
        exact OpV.g (v_move rfl)
      | 1, _, _ =>
        intro w hst
        exact g_callp Tryd.call69 rfl (rot2_ok v.a 2 _ (by decide) (by decide))
      | 2, _, _ =>
        intro w hst
        exact OpV.g (v_move rfl)
      | 3, _, _ =>
        intro w hst
        exact g_callp Tryd.call69 rfl (rot2_ok v.a 13 _ (by decide) (by decide))
      | 4, _, _ =>
        intro w hst
        exact OpV.g (v_wxor rfl rfl)
      | 5, _, _ =>
        intro w hst
        exact OpV.g (v_move rfl)
      | 6, _, _ =>
        intro w hst
        exact g_callp Tryd.call69 rfl (rot2_ok v.a 22 _ (by decide) (by decide))
      | 7, _, _ =>
        intro w hst
        exact OpV.g (v_wxor rfl rfl)
      | 8, _, _ =>
        intro w hst
        exact OpV.g (v_move rfl)
      | 9, _, _ =>
        intro w hst
        exact OpV.g (v_move rfl)
      | 10, _, _ =>
        intro w hst
        exact OpV.g ((v_indexAddr_sl (i := 1) (sT := 77) (hst.ownAt (i := 0) rfl) rfl rfl (Tryd.runUnderlying77 _) (Tryd.sizeOf69 _) (by omega) (by rw [List.length_map, W8.l_len]; decide)).as (v' := slAddr z (1 * 1)) rfl)
      | 11, _, _ =>
        intro w hst
        exact OpV.g (v_load_sl1 (u := wv v.b) (i := 1) (j := 0) (hst.ownAt (i := 0) rfl) (by rw [List.length_map, W8.l_len]; decide) rfl (Tryd.isAgg69 _) (by rfl))
      | 12, _, _ =>
        intro w hst
        exact OpV.g (v_wand rfl rfl)
      | 13, _, _ =>
        intro w hst
        exact OpV.g (v_move rfl)
      | 14, _, _ =>
        intro w hst
        exact OpV.g (v_move rfl)
      | 15, _, _ =>
        intro w hst
        exact OpV.g ((v_indexAddr_sl (i := 2) (sT := 77) (hst.ownAt (i := 0) rfl) rfl rfl (Tryd.runUnderlying77 _) (Tryd.sizeOf69 _) (by omega) (by rw [List.length_map, W8.l_len]; decide)).as (v' := slAddr z (2 * 1)) rfl)
      | 16, _, _ =>
        intro w hst
        exact OpV.g (v_load_sl1 (u := wv v.c) (i := 2) (j := 0) (hst.ownAt (i := 0) rfl) (by rw [List.length_map, W8.l_len]; decide) rfl (Tryd.isAgg69 _) (by rfl))
      | 17, _, _ =>
        intro w hst
        exact OpV.g (v_wand rfl rfl)
      | 18, _, _ =>
        intro w hst
        exact OpV.g (v_wxor rfl rfl)
      | 19, _, _ =>
        intro w hst
        exact OpV.g (v_move rfl)
      | 20, _, _ =>
        intro w hst
        exact OpV.g ((v_indexAddr_sl (i := 1) (sT := 77) (hst.ownAt (i := 0) rfl) rfl rfl (Tryd.runUnderlying77 _) (Tryd.sizeOf69 _) (by omega) (by rw [List.length_map, W8.l_len]; decide)).as (v' := slAddr z (1 * 1)) rfl)
      | 21, _, _ =>
        intro w hst
        exact OpV.g (v_load_sl1 (u := wv v.b) (i := 1) (j := 0) (hst.ownAt (i := 0) rfl) (by rw [List.length_map, W8.l_len]; decide) rfl (Tryd.isAgg69 _) (by rfl))
      | 22, _, _ =>
        intro w hst
        exact OpV.g (v_move rfl)
      | 23, _, _ =>
        intro w hst
        exact OpV.g ((v_indexAddr_sl (i := 2) (sT := 77) (hst.ownAt (i := 0) rfl) rfl rfl (Tryd.runUnderlying77 _) (Tryd.sizeOf69 _) (by omega) (by rw [List.length_map, W8.l_len]; decide)).as (v' := slAddr z (2 * 1)) rfl)
      | 24, _, _ =>
        intro w hst
        exact OpV.g (v_load_sl1 (u := wv v.c) (i := 2) (j := 0) (hst.ownAt (i := 0) rfl) (by rw [List.length_map, W8.l_len]; decide) rfl (Tryd.isAgg69 _) (by rfl))
      | 25, _, _ =>
        intro w hst
        exact OpV.g (v_wand rfl rfl)
      | 26, _, _ =>
        intro w hst
        exact OpV.g (v_wxor rfl rfl)
      | i + 27, h, _ => exact absurd h (by omega)
    · intro i hi
      exact absurd hi (by simp)
    clear hfr hst
    intro  a w19 hfr hst
    replace hfr : Fr 238 [(170, wv v.a), (171, wv (ror v.a 2)), (172, wv v.a), (173, wv (ror v.a 13)), (174, wv ((ror v.a 2) ^^^ (ror v.a 13))), (175, wv v.a), (176, wv (ror v.a 22)), (177, wv (((ror v.a 2) ^^^ (ror v.a 13)) ^^^ (ror v.a 22))), (178, wv v.a), (179, z), (180, slAddr z (1 * 1)), (181, wv v.b), (182, wv (v.a &&& v.b)), (183, wv v.a), (184, z), (185, slAddr z (2 * 1)), (186, wv v.c), (187, wv (v.a &&& v.c)), (188, wv ((v.a &&& v.b) ^^^ (v.a &&& v.c))), (189, z), (190, slAddr z (1 * 1)), (191, wv v.b), (192, z), (193, slAddr z (2 * 1)), (194, wv v.c), (195, wv (v.b &&& v.c)), (196, wv (((v.a &&& v.b) ^^^ (v.a &&& v.c)) ^^^ (v.b &&& v.c))), (0, _), (4, _), (5, _), (10, _), (11, _), (12, _), (13, _), (14, _), (15, _)] [] a := hfr
    refine wl_nil ?_
    refine wd_lin (k := 27) 29 [28] (by kernel_rfl) (by kernel_rfl) (by kernel_rfl) ?_
    refine wl_v hfr (by decide) (v_wadd rfl rfl) ?_
    clear hfr
    intro a hfr
    refine wl_v hfr (by decide) (v_assign rfl) ?_
    clear hfr
    intro a hfr
    refine wl_nil ?_
    refine wd_end (by kernel_rfl) ?_
    refine hK26 _ _ ?_
    replace hfr : Fr 238 [(0, _), (4, _), (5, _), (10, _), (11, _), (12, _), (13, _), (14, _), (15, _), (16, _)] [] a := hfr.pick [0, 4, 5, 10, 11, 12, 13, 14, 15, 16]
    rw [show (((v.h + (((ror v.e 6) ^^^ (ror v.e 11)) ^^^ (ror v.e 25))) + ((v.e &&& v.f) ^^^ ((~~~v.e) &&& v.g))) + ((kOf).getD ix 0#32)) + ((sch bs 64).getD ix 0#32) = tOf v (kOf.getD ix 0#32) ((sch bs 64).getD ix 0#32) from by rw [tOf, mix3]] at hfr
    rw [show (((ror v.a 2) ^^^ (ror v.a 13)) ^^^ (ror v.a 22)) + (((v.a &&& v.b) ^^^ (v.a &&& v.c)) ^^^ (v.b &&& v.c)) = uOf v from by rw [uOf, mix3]] at hfr
    refine wc_of_dr (by kernel_rfl) (dr_of_wd (by kernel_rfl) fun w20 hxz => ?_)
    replace hst : St No w0 [own z 69 1 ((v.l).map fun x => [wv x]), own u 69 1 ((sch bs 64).map fun x => [wv x]), own kz 69 1 ((kOf).map fun x => [wv x])] w20 := hst.grow hxz
    refine wd_sub (k := 0) 22 [2, 3, 6, 9, 14, 15, 18, 21] hfr (by kernel_rfl) (by kernel_rfl) (by kernel_rfl) (by rfl) ?_
    replace hfr : Fr 238 [(0, _), (4, _), (5, _), (10, _), (11, _), (12, _), (13, _), (14, _), (15, _), (16, _)] [] a := hfr.pick [0, 4, 5, 10, 11, 12, 13, 14, 15, 16]
    refine wc_phases_q [] (fun i => match i with | _ => fun _ _ => False) 22 [[], [], [0, 1], [], [], [4], [5], [], [7], [8], [], [10], [11], [], [12, 13], [], [], [16], [17], [], [19], [20]] [wv (tOf v (kOf.getD ix 0#32) ((sch bs 64).getD ix 0#32)), wv (uOf v), wv ((tOf v (kOf.getD ix 0#32) ((sch bs 64).getD ix 0#32)) + (uOf v)), wv v.a, z, slAddr z (1 * 1), wv v.b, z, slAddr z (2 * 1), wv v.c, z, slAddr z (3 * 1), wv v.d, wv (tOf v (kOf.getD ix 0#32) ((sch bs 64).getD ix 0#32)), wv (v.d + (tOf v (kOf.getD ix 0#32) ((sch bs 64).getD ix 0#32))), wv v.e, z, slAddr z (5 * 1), wv v.f, z, slAddr z (6 * 1), wv v.g] hfr hst (by kernel_rfl) (by kernel_rfl) (by kernel_rfl) ?_ ?_ ?_
    · intro i hi hiq
      match i, hi, hiq with
      | 0, _, _ =>
        intro w hst
        exact OpV.g (v_move rfl)
      | 1, _, _ =>
        intro w hst
        exact OpV.g (v_move rfl)
      | 2, _, _ =>
        intro w hst
        exact OpV.g (v_wadd rfl rfl)
      | 3, _, _ =>
        intro w hst
        exact OpV.g (v_move rfl)
      | 4, _, _ =>
        intro w hst
        exact OpV.g (v_move rfl)
      | 5, _, _ =>
        intro w hst
        exact OpV.g ((v_indexAddr_sl (i := 1) (sT := 77) (hst.ownAt (i := 0) rfl) rfl rfl (Tryd.runUnderlying77 _) (Tryd.sizeOf69 _) (by omega) (by rw [List.length_map, W8.l_len]; decide)).as (v' := slAddr z (1 * 1)) rfl)
      | 6, _, _ =>
        intro w hst
        exact OpV.g (v_load_sl1 (u := wv v.b) (i := 1) (j := 0) (hst.ownAt (i := 0) rfl) (by rw [List.length_map, W8.l_len]; decide) rfl (Tryd.isAgg69 _) (by rfl))
      | 7, _, _ =>
        intro w hst
        exact OpV.g (v_move rfl)
      | 8, _, _ =>
        intro w hst
        exact OpV.g ((v_indexAddr_sl (i := 2) (sT := 77) (hst.ownAt (i := 0) rfl) rfl rfl (Tryd.runUnderlying77 _) (Tryd.sizeOf69 _) (by omega) (by rw [List.length_map, W8.l_len]; decide)).as (v' := slAddr z (2 * 1)) rfl)
      | 9, _, _ =>
        intro w hst
        exact OpV.g (v_load_sl1 (u := wv v.c) (i := 2) (j := 0) (hst.ownAt (i := 0) rfl) (by rw [List.length_map, W8.l_len]; decide) rfl (Tryd.isAgg69 _) (by rfl))
      | 10, _, _ =>
        intro w hst
        exact OpV.g (v_move rfl)
      | 11, _, _ =>
        intro w hst
        exact OpV.g ((v_indexAddr_sl (i := 3) (sT := 77) (hst.ownAt (i := 0) rfl) rfl rfl (Tryd.runUnderlying77 _) (Tryd.sizeOf69 _) (by omega) (by rw [List.length_map, W8.l_len]; decide)).as (v' := slAddr z (3 * 1)) rfl)
      | 12, _, _ =>
        intro w hst
        exact OpV.g (v_load_sl1 (u := wv v.d) (i := 3) (j := 0) (hst.ownAt (i := 0) rfl) (by rw [List.length_map, W8.l_len]; decide) rfl (Tryd.isAgg69 _) (by rfl))
      | 13, _, _ =>
        intro w hst
        exact OpV.g (v_move rfl)
      | 14, _, _ =>
        intro w hst
        exact OpV.g (v_wadd rfl rfl)
      | 15, _, _ =>
        intro w hst
        exact OpV.g (v_move rfl)
      | 16, _, _ =>
        intro w hst
        exact OpV.g (v_move rfl)
      | 17, _, _ =>
        intro w hst
        exact OpV.g ((v_indexAddr_sl (i := 5) (sT := 77) (hst.ownAt (i := 0) rfl) rfl rfl (Tryd.runUnderlying77 _) (Tryd.sizeOf69 _) (by omega) (by rw [List.length_map, W8.l_len]; decide)).as (v' := slAddr z (5 * 1)) rfl)
      | 18, _, _ =>
        intro w hst
        exact OpV.g (v_load_sl1 (u := wv v.f) (i := 5) (j := 0) (hst.ownAt (i := 0) rfl) (by rw [List.length_map, W8.l_len]; decide) rfl (Tryd.isAgg69 _) (by rfl))
      | 19, _, _ =>
        intro w hst
        exact OpV.g (v_move rfl)
      | 20, _, _ =>
        intro w hst
        exact OpV.g ((v_indexAddr_sl (i := 6) (sT := 77) (hst.ownAt (i := 0) rfl) rfl rfl (Tryd.runUnderlying77 _) (Tryd.sizeOf69 _) (by omega) (by rw [List.length_map, W8.l_len]; decide)).as (v' := slAddr z (6 * 1)) rfl)
      | 21, _, _ =>
        intro w hst
        exact OpV.g (v_load_sl1 (u := wv v.g) (i := 6) (j := 0) (hst.ownAt (i := 0) rfl) (by rw [List.length_map, W8.l_len]; decide) rfl (Tryd.isAgg69 _) (by rfl))
      | i + 22, h, _ => exact absurd h (by omega)
    · intro i hi
      exact absurd hi (by simp)
    clear hfr hst
    intro  a w21 hfr hst
    replace hfr : Fr 238 [(198, wv (tOf v (kOf.getD ix 0#32) ((sch bs 64).getD ix 0#32))), (199, wv (uOf v)), (200, wv ((tOf v (kOf.getD ix 0#32) ((sch bs 64).getD ix 0#32)) + (uOf v))), (201, wv v.a), (202, z), (203, slAddr z (1 * 1)), (204, wv v.b), (205, z), (206, slAddr z (2 * 1)), (207, wv v.c), (208, z), (209, slAddr z (3 * 1)), (210, wv v.d), (211, wv (tOf v (kOf.getD ix 0#32) ((sch bs 64).getD ix 0#32))), (212, wv (v.d + (tOf v (kOf.getD ix 0#32) ((sch bs 64).getD ix 0#32)))), (213, wv v.e), (214, z), (215, slAddr z (5 * 1)), (216, wv v.f), (217, z), (218, slAddr z (6 * 1)), (219, wv v.g), (0, _), (4, _), (5, _), (10, _), (11, _), (12, _), (13, _), (14, _), (15, _), (16, _)] [] a := hfr
    refine wl_nil ?_
    refine wd_lin (k := 22) 24 [23] (by kernel_rfl) (by kernel_rfl) (by kernel_rfl) ?_
    refine wl_buildSlice (E := 69) (sz := 1) rfl [[wv ((tOf v (kOf.getD ix 0#32) ((sch bs 64).getD ix 0#32)) + (uOf v))], [wv v.a], [wv v.b], [wv v.c], [wv (v.d + (tOf v (kOf.getD ix 0#32) ((sch bs 64).getD ix 0#32)))], [wv v.e], [wv v.f], [wv v.g]] (by kernel_rfl) (by simp) rfl (by decide) (by decide) hfr hst ?_
    clear hfr hst
    intro a w22 hfr hst
    refine wl_v hfr (by decide) (v_assign rfl) ?_
    clear hfr
    intro a hfr
    refine wl_nil ?_
    refine wd_end (by kernel_rfl) ?_
    refine hK22 _ _ ?_
    replace hfr : Fr 238 [(0, _), (4, _), (5, _), (10, _), (12, _), (11, _)] [] a := hfr.pick [0, 4, 5, 10, 12, 11]
    refine wc_region ?_
    refine wl_v hfr (by decide) (v_move rfl) ?_
    clear hfr
    intro a hfr
    refine wl_v hfr (by decide) (v_add rfl rfl ⟨by omega, by omega⟩) ?_
    clear hfr
    intro a hfr
    refine wl_v hfr (by decide) (v_assign rfl) ?_
    clear hfr
    intro a hfr
    refine wl_nil ?_
    replace hst : St No w0 [own (.slice (some ⟨w21.heap.size, 0, none⟩) 8 8) 69 1 (((rnd v (kOf.getD ix 0#32) ((sch bs 64).getD ix 0#32)).l).map fun x => [wv x]), own z 69 1 ((v.l).map fun x => [wv x]), own u 69 1 ((sch bs 64).map fun x => [wv x]), own kz 69 1 ((kOf).map fun x => [wv x])] w22 := hst
    refine ⟨_, ?_, ix + 1, (rnd v (kOf.getD ix 0#32) ((sch bs 64).getD ix 0#32)), (.slice (some ⟨w21.heap.size, 0, none⟩) 8 8), rfl, (by omega), (by rw [rounds, hrv]), hfr.pick [0, 4, 5, 10, 11, 12], hst.select [0, 2, 3] (by decide)⟩
    omega
  rw [hc9] at hfr
  try simp only [Bool.not_eq_true', Bool.not_eq_false', decide_eq_true_eq, decide_eq_false_iff_not] at hc9
  obtain rfl : ix = 64 := by omega
  refine wc_exit ?_
  refine hK18 _ _ ?_
  refine wc_seq_region fun K27 hK27 => ?_
  refine wl_v hfr (by decide) (v_assign rfl) ?_
  clear hfr
  intro a hfr
  refine wl_nil (hK27 _ _ ?_)
  refine wc_seq_k fun K28 hK28 => ?_
  refine wc_seq_region fun K29 hK29 => ?_
  refine wl_v hfr (by decide) (v_assign rfl) ?_
  clear hfr
  intro a hfr
  refine wl_nil (hK29 _ _ ?_)
  refine wc_block ?_
  replace hst : St No w0 [own (.slice none 0 0) 69 1 (((hv.add v).l.take 0).map fun x => [wv x]), own z 69 1 ((v.l).map fun x => [wv x]), own u 69 1 ((sch bs 64).map fun x => [wv x]), own kz 69 1 ((kOf).map fun x => [wv x])] w15 := hst.nil_own
  refine wc_loop (fun m a w => ∃ (q : Nat) (y : Value), m = 8 - q ∧ (q ≤ 8) ∧ Fr 238 [(0, hvv), (4, .slice none 0 0), (11, z), (17, y), (18, .int .i64 (q : Int))] [] a ∧ St No w0 [own y 69 1 (((hv.add v).l.take q).map fun x => [wv x]), own z 69 1 ((v.l).map fun x => [wv x])] w) _ ⟨0, .slice none 0 0, rfl, Nat.zero_le _, hfr.pick [0, 4, 11, 17, 18], hst.select [0, 1] (by decide)⟩ ?_
  rintro _ a w23 ⟨q, y, rfl, hq, hfr, hst⟩
  refine wc_seq_k fun K30 hK30 => ?_
  refine wc_seq_region fun K31 hK31 => ?_
  refine wl_v hfr (by decide) (v_move rfl) ?_
  clear hfr
  intro a hfr
  refine wl_v hfr (by decide) (v_lt rfl rfl) ?_
  clear hfr
  intro a hfr
  refine wl_nil (hK31 _ _ ?_)
  refine wc_cond hfr rfl (fun hc10 => ?_) (fun hc10 => ?_)
  · rw [hc10] at hfr
    try simp only [Bool.not_eq_true', Bool.not_eq_false', decide_eq_true_eq, decide_eq_false_iff_not] at hc10
    refine wc_skip ?_
    refine hK30 _ _ ?_
    refine wc_seq_k fun K32 hK32 => ?_
    refine wc_block ?_
    refine wc_of_dr (by kernel_rfl) (dr_of_wd (by kernel_rfl) fun w24 hxz => ?_)
    replace hst : St No w0 [own y 69 1 (((hv.add v).l.take q).map fun x => [wv x]), own z 69 1 ((v.l).map fun x => [wv x])] w24 := hst.grow hxz
    refine wd_sub (k := 0) 11 [0, 10] hfr (by kernel_rfl) (by kernel_rfl) (by kernel_rfl) (by rfl) ?_
    replace hfr : Fr 238 [(0, _), (4, _), (11, _), (17, _), (18, _), (221, _), (222, _)] [] a := hfr.pick [0, 4, 11, 17, 18, 221, 222]
    refine wc_phases_q [10] (fun i => match i with | 10 => pm (fun b : Nat => .slice (some ⟨b, 0, none⟩) 1 1) (fun b => [own (.slice (some ⟨b, 0, none⟩) 1 1) 69 1 [[wv ((hv.l.getD q 0#32) + (v.l.getD q 0#32))]]]) (fun _ => True) | _ => fun _ _ => False) 11 [[], [], [], [1, 2], [3], [], [], [5, 6], [7], [4, 8], [9]] [y, hvv, .int .i64 (q : Int), slAddr hvv (q * 1), wv (hv.l.getD q 0#32), z, .int .i64 (q : Int), slAddr z (q * 1), wv (v.l.getD q 0#32), wv ((hv.l.getD q 0#32) + (v.l.getD q 0#32)), undef] hfr hst (by kernel_rfl) (by kernel_rfl) (by kernel_rfl) ?_ ?_ ?_
    · intro i hi hiq
      match i, hi, hiq with
      | 0, _, _ =>
        intro w hst
        exact OpV.g (v_move rfl)
      | 1, _, _ =>
        intro w hst
        exact OpV.g (v_move rfl)
      | 2, _, _ =>
        intro w hst
        exact OpV.g (v_move rfl)
      | 3, _, _ =>
        intro w hst
        exact OpV.g ((v_indexAddr_sl (i := (q : Int)) (sT := 77) (hst.arg hhv) rfl rfl (Tryd.runUnderlying77 _) (Tryd.sizeOf69 _) (by omega) (by rw [List.length_map]; first | omega | (rw [sch_len]; omega) | (rw [List.length_take, sch_len]; omega) | (rw [W8.l_len]; omega) | (rw [kOf_len]; omega))).as (v' := slAddr hvv (q * 1)) rfl)
      | 4, _, _ =>
        intro w hst
        exact OpV.g (v_load_sl1 (u := wv (hv.l.getD q 0#32)) (i := q) (j := 0) (hst.arg hhv) (by rw [List.length_map]; first | omega | (rw [sch_len]; omega) | (rw [List.length_take, sch_len]; omega) | (rw [W8.l_len]; omega) | (rw [kOf_len]; omega)) rfl (Tryd.isAgg69 _) (by rw [el_at 0#32]; rfl))
      | 5, _, _ =>
        intro w hst
        exact OpV.g (v_move rfl)
      | 6, _, _ =>
        intro w hst
        exact OpV.g (v_move rfl)
      | 7, _, _ =>
        intro w hst
        exact OpV.g ((v_indexAddr_sl (i := (q : Int)) (sT := 77) (hst.ownAt (i := 1) rfl) rfl rfl (Tryd.runUnderlying77 _) (Tryd.sizeOf69 _) (by omega) (by rw [List.length_map]; first | omega | (rw [sch_len]; omega) | (rw [List.length_take, sch_len]; omega) | (rw [W8.l_len]; omega) | (rw [kOf_len]; omega))).as (v' := slAddr z (q * 1)) rfl)
      | 8, _, _ =>
        intro w hst
        exact OpV.g (v_load_sl1 (u := wv (v.l.getD q 0#32)) (i := q) (j := 0) (hst.ownAt (i := 1) rfl) (by rw [List.length_map]; first | omega | (rw [sch_len]; omega) | (rw [List.length_take, sch_len]; omega) | (rw [W8.l_len]; omega) | (rw [kOf_len]; omega)) rfl (Tryd.isAgg69 _) (by rw [el_at 0#32]; rfl))
      | 9, _, _ =>
        intro w hst
        exact OpV.g (v_wadd rfl rfl)
      | 10, _, h => exact absurd (by simp) h
    · intro i hi
      simp only [List.mem_cons, List.not_mem_nil, or_false] at hi
      subst hi
      · intro w hst
        exact g_buildSlice (E := 69) (sz := 1) rfl [[wv ((hv.l.getD q 0#32) + (v.l.getD q 0#32))]] (fun _ => by kernel_rfl) (by simp) rfl (by decide)
    clear hfr hst
    rintro _ _ ⟨b11, rfl, -, rfl⟩ a w25 hfr hst
    replace hfr : Fr 238 [(225, y), (226, hvv), (227, .int .i64 (q : Int)), (228, slAddr hvv (q * 1)), (229, wv (hv.l.getD q 0#32)), (230, z), (231, .int .i64 (q : Int)), (232, slAddr z (q * 1)), (233, wv (v.l.getD q 0#32)), (234, wv ((hv.l.getD q 0#32) + (v.l.getD q 0#32))), (235, _), (0, _), (4, _), (11, _), (17, _), (18, _), (221, _), (222, _)] [] a := hfr
    replace hst : St No w0 [_, _, _] w25 := hst
    refine wl_nil ?_
    refine wd_lin (k := 11) 13 [12] (by kernel_rfl) (by kernel_rfl) (by kernel_rfl) ?_
    refine wl_append (i := 1) (sT := 77) (inf := Tryd.t69) (z := wv (0#32)) (b := 0) (off := 0) (m := 0) (c := 0) rfl rfl rfl (hst.ownAt (i := 0) rfl) (by simp) Tryd.underlying77 rfl rfl rfl rfl (by decide) (by simp [Value.oneCell', yv, wv, sv]) (by have hby : Tryd.t69.bytes = 4 := rfl; simp only [big, hby, List.length_append, List.length_map, List.length_take, sch_len, W8.l_len, List.length_cons, List.length_nil]; omega) (by have hby : Tryd.t69.bytes = 4 := rfl; simp only [big, hby, List.length_append, List.length_map, List.length_take, sch_len, W8.l_len, List.length_cons, List.length_nil]; omega) (by decide) hfr hst fun a w26 s12 hfr hst _ => ?_
    refine wl_v hfr (by decide) (v_assign rfl) ?_
    clear hfr
    intro a hfr
    refine wl_nil ?_
    refine wd_end (by kernel_rfl) ?_
    refine hK32 _ _ ?_
    replace hfr : Fr 238 [(0, _), (4, _), (11, _), (18, _), (17, _)] [] a := hfr.pick [0, 4, 11, 18, 17]
    replace hst : St No w0 [_, _] w26 := hst.mask [false, true, true]
    refine wc_region ?_
    refine wl_v hfr (by decide) (v_move rfl) ?_
    clear hfr
    intro a hfr
    refine wl_v hfr (by decide) (v_add rfl rfl ⟨by omega, by omega⟩) ?_
    clear hfr
    intro a hfr
    refine wl_v hfr (by decide) (v_assign rfl) ?_
    clear hfr
    intro a hfr
    refine wl_nil ?_
    rw [show (((hv.add v).l.take q).map fun x => [wv x]) ++ ([[wv ((hv.l.getD q 0#32) + (v.l.getD q 0#32))]]) = (((hv.add v).l.take (q + 1)).map fun x => [wv x]) from by rw [add_take hv v (by omega)]; simp] at hst
    refine ⟨_, ?_, q + 1, s12, rfl, (by omega), hfr.pick [0, 4, 11, 17, 18], hst.select [0, 1] (by decide)⟩
    omega
  rw [hc10] at hfr
  try simp only [Bool.not_eq_true', Bool.not_eq_false', decide_eq_true_eq, decide_eq_false_iff_not] at hc10
  refine wc_exit ?_
  refine hK28 _ _ ?_
  refine wc_seq_region fun K33 hK33 => ?_
  refine wl_v hfr (by decide) (v_move rfl) ?_
  clear hfr
  intro a hfr
  refine wl_v hfr (by decide) (v_assign rfl) ?_
  clear hfr
  intro a hfr
  refine wl_nil (hK33 _ _ ?_)
  replace hfr : Fr 238 [(4, _)] [] a := hfr.pick [4]
  refine wc_ret ?_
  refine fin_ret hfr Tryd.results58 (resAre_tmp rfl resAre_nil) ?_
  obtain rfl : q = 8 := by omega
  exact ⟨y, rfl, trivial, hst.ext, St.out (E := [own y 69 1 (((block hv bs).l).map fun x => [wv x])]) (H := []) (by rw [block, hrv]; exact hst.select [0] (by decide))⟩
end Go.Proofs.YtmcoolbjgeibcaaDoor
namespace Go.Proofs.YtmcoolbjgeibcaaDoor
open Go.RowKit Go.PW
set_option linter.unusedVariables false
set_option linter.unusedSimpArgs false
set_option maxRecDepth 4000

theorem out_take (v : W8) {q : Nat} (h : q < 8) : v.out.take (4 * (q + 1)) = v.out.take (4 * q) ++ [UInt8.ofNat (v.l.getD q 0#32 >>> 24).toNat, UInt8.ofNat (v.l.getD q 0#32 >>> 16).toNat, UInt8.ofNat (v.l.getD q 0#32 >>> 8).toNat, UInt8.ofNat (v.l.getD q 0#32).toNat] := by
  have : q = 0 ∨ q = 1 ∨ q = 2 ∨ q = 3 ∨ q = 4 ∨ q = 5 ∨ q = 6 ∨ q = 7 := by omega
  rcases this with rfl | rfl | rfl | rfl | rfl | rfl | rfl | rfl <;> simp [W8.out, W8.l, wdBytes]

set_option maxHeartbeats 4000000 in
/-- dialtone/dialtoneref02.Sum -/
theorem rsum_ok (s : By) (w0 : World) (hs : s.length ≤ 100000000) :
    Ret Tryd.prog 33 #[sv s] w0 fun v w => v = sv (sha s) ∧ Ext No w0 w := by
  have hpb := padded_bound s
  refine ret_of Tryd.func33 rfl Tryd.ntmps33 (Nat.le_of_ble_eq_true rfl) fun a hfr => ?_
  replace hfr : Fr 56 [(0, _)] [] a := hfr
  replace hst : St No w0 [] w0 := St.init w0
  refine wc_seq_region fun K1 hK1 => ?_
  refine wl_v hfr (by decide) (v_assign rfl) ?_
  clear hfr
  intro a hfr
  refine wl_nil (hK1 _ _ ?_)
  refine wc_seq_region fun K2 hK2 => ?_
  refine wl_buildSlice (E := 69) (sz := 1) rfl [[wv (1779033703#32)], [wv (3144134277#32)], [wv (1013904242#32)], [wv (2773480762#32)], [wv (1359893119#32)], [wv (2600822924#32)], [wv (528734635#32)], [wv (1541459225#32)]] (by kernel_rfl) (by simp) rfl (by decide) (by decide) hfr hst ?_
  clear hfr hst
  intro a w1 hfr hst
  refine wl_v hfr (by decide) (v_assign rfl) ?_
  clear hfr
  intro a hfr
  refine wl_nil (hK2 _ _ ?_)
  refine wc_seq_region fun K3 hK3 => ?_
  refine wl_v hfr (by decide) (v_move rfl) ?_
  clear hfr
  intro a hfr
  refine wl_callm hfr hst (by decide) Tryd.call57 rfl (extended_ok s _ hs) ?_
  clear hfr hst
  intro a w2 x1 hp hfr hst
  revert x1 hp hfr hst; rintro bz hp hfr hst
  clear hp
  replace hst : St No w0 [own bz 5 1 ((padded s).map fun b => [yv b]), own (.slice (some ⟨w0.heap.size, 0, none⟩) 8 8) 69 1 ([[wv (1779033703#32)], [wv (3144134277#32)], [wv (1013904242#32)], [wv (2773480762#32)], [wv (1359893119#32)], [wv (2600822924#32)], [wv (528734635#32)], [wv (1541459225#32)]])] w2 := hst
  refine wl_v hfr (by decide) (v_assign rfl) ?_
  clear hfr
  intro a hfr
  refine wl_nil (hK3 _ _ ?_)
  refine wc_seq_k fun K4 hK4 => ?_
  refine wc_seq_region fun K5 hK5 => ?_
  refine wl_v hfr (by decide) (v_assign rfl) ?_
  clear hfr
  intro a hfr
  refine wl_nil (hK5 _ _ ?_)
  refine wc_block ?_
  replace hst : St No w0 [own bz 5 1 ((padded s).map fun b => [yv b]), own (.slice (some ⟨w0.heap.size, 0, none⟩) 8 8) 69 1 (((blocks h0 (padded s) 0).l).map fun x => [wv x])] w2 := hst
  refine wc_loop (fun m a w => ∃ (q : Nat) (hz : Value), m = (padded s).length / 64 - q ∧ (q ≤ (padded s).length / 64) ∧ Fr 56 [(2, sv ([])), (4, bz), (3, hz), (5, .int .i64 ((64 * q : Nat) : Int))] [] a ∧ St No w0 [own hz 69 1 (((blocks h0 (padded s) q).l).map fun x => [wv x]), own bz 5 1 ((padded s).map fun b => [yv b])] w) _ ⟨0, (.slice (some ⟨w0.heap.size, 0, none⟩) 8 8), rfl, Nat.zero_le _, hfr.pick [2, 4, 3, 5], hst.select [1, 0] (by decide)⟩ ?_
  rintro _ a w3 ⟨q, hz, rfl, hq, hfr, hst⟩
  refine wc_seq_k fun K6 hK6 => ?_
  refine wc_seq_region fun K7 hK7 => ?_
  refine wl_v hfr (by decide) (v_move rfl) ?_
  clear hfr
  intro a hfr
  refine wl_v hfr (by decide) (v_move rfl) ?_
  clear hfr
  intro a hfr
  refine wl_v hfr (by decide) ((v_len_sl (sT := 46) (hst.ownAt (i := 1) rfl) rfl rfl (Tryd.runUnderlying46 _)).asi (m' := ((padded s).length : Int)) (by rw [List.length_map])) ?_
  clear hfr
  intro a hfr
  refine wl_v hfr (by decide) (v_lt rfl rfl) ?_
  clear hfr
  intro a hfr
  refine wl_nil (hK7 _ _ ?_)
  refine wc_cond hfr rfl (fun hc2 => ?_) (fun hc2 => ?_)
  · rw [hc2] at hfr
    try simp only [Bool.not_eq_true', Bool.not_eq_false', decide_eq_true_eq, decide_eq_false_iff_not] at hc2
    have hpl := padded_len s
    refine wc_skip ?_
    refine hK6 _ _ ?_
    refine wc_seq_k fun K8 hK8 => ?_
    refine wc_block ?_
    refine wc_region ?_
    refine wl_v hfr (by decide) (v_move rfl) ?_
    clear hfr
    intro a hfr
    refine wl_v hfr (by decide) (v_move rfl) ?_
    clear hfr
    intro a hfr
    refine wl_v hfr (by decide) (v_move rfl) ?_
    clear hfr
    intro a hfr
    refine wl_v hfr (by decide) (v_move rfl) ?_
    clear hfr
    intro a hfr
    refine wl_v hfr (by decide) (v_add rfl rfl ⟨by omega, by omega⟩) ?_
    clear hfr
    intro a hfr
    refine wl_v hfr (by decide) (v_slice_at (l := (64 * q)) (h := (64 * q + 64)) (hst.ownAt (i := 1) rfl) rfl rfl rfl Tryd.underlying46 (by kernel_rfl) (.inr (by first | rfl | (rw [show (((64 * q : Nat) : Int) : Int) = (((64 * q) : Nat) : Int) from by omega] <;> rfl))) (.inr (by first | rfl | (rw [show (((64 * q : Nat) : Int) + 64 : Int) = (((64 * q + 64) : Nat) : Int) from by omega] <;> rfl))) (by omega) (by first | (rw [List.length_map]; omega) | (simp <;> omega))) ?_
    clear hfr
    intro a hfr
    refine wl_callm hfr hst (by decide) Tryd.call58 rfl (rblock_ok hz (cut bz 1 (64 * q) (64 * q + 64) (slCap bz)) (blocks h0 (padded s) q) (((padded s).drop (64 * q)).take 64) _ (hst.ownAt (i := 0) rfl) (by have h := ((hst.ownAt (i := 1) rfl).cutm (l := (64 * q)) (h := (64 * q + 64)) (by omega) (by first | omega | (simp; omega))); rwa [show 64 * q + 64 - 64 * q = 64 from by omega] at h) (by simp; omega)) ?_
    clear hfr hst
    intro a w4 x4 hp hfr hst
    revert x4 hp hfr hst; rintro v3 hp hfr hst
    clear hp
    replace hst : St No w0 [own v3 69 1 (((block (blocks h0 (padded s) q) (((padded s).drop (64 * q)).take 64)).l).map fun x => [wv x]), own hz 69 1 (((blocks h0 (padded s) q).l).map fun x => [wv x]), own bz 5 1 ((padded s).map fun b => [yv b])] w4 := hst
    refine wl_v hfr (by decide) (v_assign rfl) ?_
    clear hfr
    intro a hfr
    refine wl_nil ?_
    refine hK8 _ _ ?_
    replace hfr : Fr 56 [(2, _), (4, _), (5, _), (3, _)] [] a := hfr.pick [2, 4, 5, 3]
    refine wc_region ?_
    refine wl_v hfr (by decide) (v_move rfl) ?_
    clear hfr
    intro a hfr
    refine wl_v hfr (by decide) (v_add rfl rfl ⟨by omega, by omega⟩) ?_
    clear hfr
    intro a hfr
    refine wl_v hfr (by decide) (v_assign rfl) ?_
    clear hfr
    intro a hfr
    refine wl_nil ?_
    replace hst : St No w0 [own v3 69 1 (((blocks h0 (padded s) (q + 1)).l).map fun x => [wv x]), own hz 69 1 (((blocks h0 (padded s) q).l).map fun x => [wv x]), own bz 5 1 ((padded s).map fun b => [yv b])] w4 := hst
    rw [show ((64 * q : Nat) : Int) + 64 = ((64 * (q + 1) : Nat) : Int) from by omega] at hfr
    refine ⟨_, ?_, q + 1, v3, rfl, (by omega), hfr.pick [2, 4, 3, 5], hst.select [0, 2] (by decide)⟩
    omega
  rw [hc2] at hfr
  try simp only [Bool.not_eq_true', Bool.not_eq_false', decide_eq_true_eq, decide_eq_false_iff_not] at hc2
  have hpl := padded_len s
  obtain rfl : q = (padded s).length / 64 := by omega
  refine wc_exit ?_
  refine hK4 _ _ ?_
  refine wc_seq_region fun K9 hK9 => ?_
  refine wl_v hfr (by decide) (v_assign rfl) ?_
  clear hfr
  intro a hfr
  refine wl_nil (hK9 _ _ ?_)
  replace hfr : Fr 56 [(2, _), (3, _), (6, _)] [] a := hfr.pick [2, 3, 6]
  refine wc_seq_k fun K10 hK10 => ?_
  refine wc_seq_region fun K11 hK11 => ?_
  refine wl_v hfr (by decide) (v_assign rfl) ?_
  clear hfr
  intro a hfr
  refine wl_nil (hK11 _ _ ?_)
  refine wc_block ?_
  replace hst : St No w0 [own (.slice none 0 0) 5 1 (((blocks h0 (padded s) ((padded s).length / 64)).out.take (4 * 0)).map fun b => [yv b]), own hz 69 1 (((blocks h0 (padded s) ((padded s).length / 64)).l).map fun x => [wv x]), own bz 5 1 ((padded s).map fun b => [yv b])] w3 := hst.nil_own
  refine wc_loop (fun m a w => ∃ (r : Nat) (oz : Value), m = 8 - r ∧ (r ≤ 8) ∧ Fr 56 [(2, sv ([])), (3, hz), (6, oz), (7, .int .i64 (r : Int))] [] a ∧ St No w0 [own oz 5 1 (((blocks h0 (padded s) ((padded s).length / 64)).out.take (4 * r)).map fun b => [yv b]), own hz 69 1 (((blocks h0 (padded s) ((padded s).length / 64)).l).map fun x => [wv x])] w) _ ⟨0, .slice none 0 0, rfl, Nat.zero_le _, hfr.pick [2, 3, 6, 7], hst.select [0, 1] (by decide)⟩ ?_
  rintro _ a w5 ⟨r, oz, rfl, hr, hfr, hst⟩
  refine wc_seq_k fun K12 hK12 => ?_
  refine wc_seq_region fun K13 hK13 => ?_
  refine wl_v hfr (by decide) (v_move rfl) ?_
  clear hfr
  intro a hfr
  refine wl_v hfr (by decide) (v_lt rfl rfl) ?_
  clear hfr
  intro a hfr
  refine wl_nil (hK13 _ _ ?_)
  refine wc_cond hfr rfl (fun hc5 => ?_) (fun hc5 => ?_)
  · rw [hc5] at hfr
    try simp only [Bool.not_eq_true', Bool.not_eq_false', decide_eq_true_eq, decide_eq_false_iff_not] at hc5
    refine wc_skip ?_
    refine hK12 _ _ ?_
    refine wc_seq_k fun K14 hK14 => ?_
    refine wc_block ?_
    refine wc_of_dr (by kernel_rfl) (dr_of_wd (by kernel_rfl) fun w6 hxz => ?_)
    replace hst : St No w0 [own oz 5 1 (((blocks h0 (padded s) ((padded s).length / 64)).out.take (4 * r)).map fun b => [yv b]), own hz 69 1 (((blocks h0 (padded s) ((padded s).length / 64)).l).map fun x => [wv x])] w6 := hst.grow hxz
    refine wd_sub (k := 0) 25 [0, 24] hfr (by kernel_rfl) (by kernel_rfl) (by kernel_rfl) (by rfl) ?_
    replace hfr : Fr 56 [(2, _), (3, _), (6, _), (7, _), (24, _), (25, _)] [] a := hfr.pick [2, 3, 6, 7, 24, 25]
    refine wc_phases_q [24] (fun i => match i with | 24 => pm (fun b : Nat => .slice (some ⟨b, 0, none⟩) 4 4) (fun b => [own (.slice (some ⟨b, 0, none⟩) 4 4) 5 1 [[yv (UInt8.ofNat (((blocks h0 (padded s) ((padded s).length / 64)).l.getD r 0#32) >>> 24).toNat)], [yv (UInt8.ofNat (((blocks h0 (padded s) ((padded s).length / 64)).l.getD r 0#32) >>> 16).toNat)], [yv (UInt8.ofNat (((blocks h0 (padded s) ((padded s).length / 64)).l.getD r 0#32) >>> 8).toNat)], [yv (UInt8.ofNat ((blocks h0 (padded s) ((padded s).length / 64)).l.getD r 0#32).toNat)]]]) (fun _ => True) | _ => fun _ _ => False) 25 [[], [], [], [1, 2], [3], [4], [5], [], [], [7, 8], [9], [10], [11], [], [], [13, 14], [15], [16], [17], [], [], [19, 20], [21], [22], [6, 12, 18, 23]] [oz, hz, .int .i64 (r : Int), slAddr hz (r * 1), wv ((blocks h0 (padded s) ((padded s).length / 64)).l.getD r 0#32), wv (((blocks h0 (padded s) ((padded s).length / 64)).l.getD r 0#32) >>> 24), yv (UInt8.ofNat (((blocks h0 (padded s) ((padded s).length / 64)).l.getD r 0#32) >>> 24).toNat), hz, .int .i64 (r : Int), slAddr hz (r * 1), wv ((blocks h0 (padded s) ((padded s).length / 64)).l.getD r 0#32), wv (((blocks h0 (padded s) ((padded s).length / 64)).l.getD r 0#32) >>> 16), yv (UInt8.ofNat (((blocks h0 (padded s) ((padded s).length / 64)).l.getD r 0#32) >>> 16).toNat), hz, .int .i64 (r : Int), slAddr hz (r * 1), wv ((blocks h0 (padded s) ((padded s).length / 64)).l.getD r 0#32), wv (((blocks h0 (padded s) ((padded s).length / 64)).l.getD r 0#32) >>> 8), yv (UInt8.ofNat (((blocks h0 (padded s) ((padded s).length / 64)).l.getD r 0#32) >>> 8).toNat), hz, .int .i64 (r : Int), slAddr hz (r * 1), wv ((blocks h0 (padded s) ((padded s).length / 64)).l.getD r 0#32), yv (UInt8.ofNat ((blocks h0 (padded s) ((padded s).length / 64)).l.getD r 0#32).toNat), undef] hfr hst (by kernel_rfl) (by kernel_rfl) (by kernel_rfl) ?_ ?_ ?_
    · intro i hi hiq
      match i, hi, hiq with
      | 0, _, _ =>
        intro w hst
        exact OpV.g (v_move rfl)
      | 1, _, _ =>
        intro w hst
        exact OpV.g (v_move rfl)
      | 2, _, _ =>
        intro w hst
        exact OpV.g (v_move rfl)
      | 3, _, _ =>
        intro w hst
        exact OpV.g ((v_indexAddr_sl (i := (r : Int)) (sT := 77) (hst.ownAt (i := 1) rfl) rfl rfl (Tryd.runUnderlying77 _) (Tryd.sizeOf69 _) (by omega) (by rw [List.length_map]; first | omega | (rw [W8.l_len]; omega))).as (v' := slAddr hz (r * 1)) rfl)
      | 4, _, _ =>
        intro w hst
        exact OpV.g (v_load_sl1 (u := wv ((blocks h0 (padded s) ((padded s).length / 64)).l.getD r 0#32)) (i := r) (j := 0) (hst.ownAt (i := 1) rfl) (by rw [List.length_map]; first | omega | (rw [W8.l_len]; omega)) rfl (Tryd.isAgg69 _) (by rw [el_at 0#32]; rfl))
      | 5, _, _ =>
        intro w hst
        exact OpV.g (v_wshr (n := 24) rfl rfl)
      | 6, _, _ =>
        intro w hst
        exact OpV.g (v_conv_wy rfl (by kernel_rfl) Tryd.underlying5)
      | 7, _, _ =>
        intro w hst
        exact OpV.g (v_move rfl)
      | 8, _, _ =>
        intro w hst
        exact OpV.g (v_move rfl)
      | 9, _, _ =>
        intro w hst
        exact OpV.g ((v_indexAddr_sl (i := (r : Int)) (sT := 77) (hst.ownAt (i := 1) rfl) rfl rfl (Tryd.runUnderlying77 _) (Tryd.sizeOf69 _) (by omega) (by rw [List.length_map]; first | omega | (rw [W8.l_len]; omega))).as (v' := slAddr hz (r * 1)) rfl)
      | 10, _, _ =>
        intro w hst
        exact OpV.g (v_load_sl1 (u := wv ((blocks h0 (padded s) ((padded s).length / 64)).l.getD r 0#32)) (i := r) (j := 0) (hst.ownAt (i := 1) rfl) (by rw [List.length_map]; first | omega | (rw [W8.l_len]; omega)) rfl (Tryd.isAgg69 _) (by rw [el_at 0#32]; rfl))
      | 11, _, _ =>
        intro w hst
        exact OpV.g (v_wshr (n := 16) rfl rfl)
      | 12, _, _ =>
        intro w hst
        exact OpV.g (v_conv_wy rfl (by kernel_rfl) Tryd.underlying5)
      | 13, _, _ =>
        intro w hst
        exact OpV.g (v_move rfl)
      | 14, _, _ =>
        intro w hst
        exact OpV.g (v_move rfl)
      | 15, _, _ =>
        intro w hst
        exact OpV.g ((v_indexAddr_sl (i := (r : Int)) (sT := 77) (hst.ownAt (i := 1) rfl) rfl rfl (Tryd.runUnderlying77 _) (Tryd.sizeOf69 _) (by omega) (by rw [List.length_map]; first | omega | (rw [W8.l_len]; omega))).as (v' := slAddr hz (r * 1)) rfl)
      | 16, _, _ =>
        intro w hst
        exact OpV.g (v_load_sl1 (u := wv ((blocks h0 (padded s) ((padded s).length / 64)).l.getD r 0#32)) (i := r) (j := 0) (hst.ownAt (i := 1) rfl) (by rw [List.length_map]; first | omega | (rw [W8.l_len]; omega)) rfl (Tryd.isAgg69 _) (by rw [el_at 0#32]; rfl))
      | 17, _, _ =>
        intro w hst
        exact OpV.g (v_wshr (n := 8) rfl rfl)
      | 18, _, _ =>
        intro w hst
        exact OpV.g (v_conv_wy rfl (by kernel_rfl) Tryd.underlying5)
      | 19, _, _ =>
        intro w hst
        exact OpV.g (v_move rfl)
      | 20, _, _ =>
        intro w hst
        exact OpV.g (v_move rfl)
      | 21, _, _ =>
        intro w hst
        exact OpV.g ((v_indexAddr_sl (i := (r : Int)) (sT := 77) (hst.ownAt (i := 1) rfl) rfl rfl (Tryd.runUnderlying77 _) (Tryd.sizeOf69 _) (by omega) (by rw [List.length_map]; first | omega | (rw [W8.l_len]; omega))).as (v' := slAddr hz (r * 1)) rfl)
      | 22, _, _ =>
        intro w hst
        exact OpV.g (v_load_sl1 (u := wv ((blocks h0 (padded s) ((padded s).length / 64)).l.getD r 0#32)) (i := r) (j := 0) (hst.ownAt (i := 1) rfl) (by rw [List.length_map]; first | omega | (rw [W8.l_len]; omega)) rfl (Tryd.isAgg69 _) (by rw [el_at 0#32]; rfl))
      | 23, _, _ =>
        intro w hst
        exact OpV.g (v_conv_wy rfl (by kernel_rfl) Tryd.underlying5)
      | 24, _, h => exact absurd (by simp) h
      | i + 25, h, _ => exact absurd h (by omega)
    · intro i hi
      simp only [List.mem_cons, List.not_mem_nil, or_false] at hi
      subst hi
      · intro w hst
        exact g_buildSlice (E := 5) (sz := 1) rfl [[yv (UInt8.ofNat (((blocks h0 (padded s) ((padded s).length / 64)).l.getD r 0#32) >>> 24).toNat)], [yv (UInt8.ofNat (((blocks h0 (padded s) ((padded s).length / 64)).l.getD r 0#32) >>> 16).toNat)], [yv (UInt8.ofNat (((blocks h0 (padded s) ((padded s).length / 64)).l.getD r 0#32) >>> 8).toNat)], [yv (UInt8.ofNat ((blocks h0 (padded s) ((padded s).length / 64)).l.getD r 0#32).toNat)]] (fun _ => by kernel_rfl) (by simp) rfl (by decide)
    clear hfr hst
    rintro _ _ ⟨b6, rfl, -, rfl⟩ a w7 hfr hst
    replace hfr : Fr 56 [(28, oz), (29, hz), (30, .int .i64 (r : Int)), (31, slAddr hz (r * 1)), (32, wv ((blocks h0 (padded s) ((padded s).length / 64)).l.getD r 0#32)), (33, wv (((blocks h0 (padded s) ((padded s).length / 64)).l.getD r 0#32) >>> 24)), (34, yv (UInt8.ofNat (((blocks h0 (padded s) ((padded s).length / 64)).l.getD r 0#32) >>> 24).toNat)), (35, hz), (36, .int .i64 (r : Int)), (37, slAddr hz (r * 1)), (38, wv ((blocks h0 (padded s) ((padded s).length / 64)).l.getD r 0#32)), (39, wv (((blocks h0 (padded s) ((padded s).length / 64)).l.getD r 0#32) >>> 16)), (40, yv (UInt8.ofNat (((blocks h0 (padded s) ((padded s).length / 64)).l.getD r 0#32) >>> 16).toNat)), (41, hz), (42, .int .i64 (r : Int)), (43, slAddr hz (r * 1)), (44, wv ((blocks h0 (padded s) ((padded s).length / 64)).l.getD r 0#32)), (45, wv (((blocks h0 (padded s) ((padded s).length / 64)).l.getD r 0#32) >>> 8)), (46, yv (UInt8.ofNat (((blocks h0 (padded s) ((padded s).length / 64)).l.getD r 0#32) >>> 8).toNat)), (47, hz), (48, .int .i64 (r : Int)), (49, slAddr hz (r * 1)), (50, wv ((blocks h0 (padded s) ((padded s).length / 64)).l.getD r 0#32)), (51, yv (UInt8.ofNat ((blocks h0 (padded s) ((padded s).length / 64)).l.getD r 0#32).toNat)), (52, _), (2, _), (3, _), (6, _), (7, _), (24, _), (25, _)] [] a := hfr
    replace hst : St No w0 [_, _, _] w7 := hst
    refine wl_nil ?_
    refine wd_lin (k := 25) 27 [26] (by kernel_rfl) (by kernel_rfl) (by kernel_rfl) ?_
    refine wl_append (i := 1) (sT := 46) (inf := Tryd.t5) (z := yv (0 : UInt8)) (b := 0) (off := 0) (m := 0) (c := 0) rfl rfl rfl (hst.ownAt (i := 0) rfl) (by simp) Tryd.underlying46 rfl rfl rfl rfl (by decide) (by simp [Value.oneCell', yv, wv, sv]) (by have hby : Tryd.t5.bytes = 1 := rfl; simp only [big, hby, List.length_append, List.length_map, List.length_take, out_len, List.length_cons, List.length_nil]; omega) (by have hby : Tryd.t5.bytes = 1 := rfl; simp only [big, hby, List.length_append, List.length_map, List.length_take, out_len, List.length_cons, List.length_nil]; omega) (by decide) hfr hst fun a w8 s7 hfr hst _ => ?_
    refine wl_v hfr (by decide) (v_assign rfl) ?_
    clear hfr
    intro a hfr
    refine wl_nil ?_
    refine wd_end (by kernel_rfl) ?_
    refine hK14 _ _ ?_
    replace hfr : Fr 56 [(2, _), (3, _), (7, _), (6, _)] [] a := hfr.pick [2, 3, 7, 6]
    replace hst : St No w0 [_, _] w8 := hst.mask [false, true, true]
    refine wc_region ?_
    refine wl_v hfr (by decide) (v_move rfl) ?_
    clear hfr
    intro a hfr
    refine wl_v hfr (by decide) (v_add rfl rfl ⟨by omega, by omega⟩) ?_
    clear hfr
    intro a hfr
    refine wl_v hfr (by decide) (v_assign rfl) ?_
    clear hfr
    intro a hfr
    refine wl_nil ?_
    rw [show (((blocks h0 (padded s) ((padded s).length / 64)).out.take (4 * r)).map fun b => [yv b]) ++ ([[yv (UInt8.ofNat (((blocks h0 (padded s) ((padded s).length / 64)).l.getD r 0#32) >>> 24).toNat)], [yv (UInt8.ofNat (((blocks h0 (padded s) ((padded s).length / 64)).l.getD r 0#32) >>> 16).toNat)], [yv (UInt8.ofNat (((blocks h0 (padded s) ((padded s).length / 64)).l.getD r 0#32) >>> 8).toNat)], [yv (UInt8.ofNat ((blocks h0 (padded s) ((padded s).length / 64)).l.getD r 0#32).toNat)]]) = (((blocks h0 (padded s) ((padded s).length / 64)).out.take (4 * (r + 1))).map fun b => [yv b]) from by rw [out_take _ (by omega)]; simp] at hst
    refine ⟨_, ?_, r + 1, s7, rfl, (by omega), hfr.pick [2, 3, 6, 7], hst.select [0, 1] (by decide)⟩
    omega
  rw [hc5] at hfr
  try simp only [Bool.not_eq_true', Bool.not_eq_false', decide_eq_true_eq, decide_eq_false_iff_not] at hc5
  obtain rfl : r = 8 := by omega
  rw [show 4 * 8 = 32 from rfl, List.take_of_length_le (by rw [out_len]; decide)] at hst
  refine wc_exit ?_
  refine hK10 _ _ ?_
  refine wc_seq_region fun K15 hK15 => ?_
  refine wl_v hfr (by decide) (v_move rfl) ?_
  clear hfr
  intro a hfr
  refine wl_v hfr (by decide) (v_conv_sls (hst.ownAt (i := 0) rfl) rfl Tryd.underlying46 Tryd.underlying5 Tryd.underlying9) ?_
  clear hfr
  intro a hfr
  refine wl_v hfr (by decide) (v_assign rfl) ?_
  clear hfr
  intro a hfr
  refine wl_nil (hK15 _ _ ?_)
  replace hfr : Fr 56 [(2, _)] [] a := hfr.pick [2]
  refine wc_ret ?_
  refine fin_ret hfr Tryd.results33 (resAre_tmp rfl resAre_nil) ?_
  exact ⟨by rfl, hst.ext⟩

/-- dialtone/dialtoneref02.Leaf -/
theorem rleaf_ok (s : By) (w0 : World) (hs : s.length ≤ 40000000) :
    Ret Tryd.prog 34 #[sv s] w0 fun v w => v = sv (leafH sha s) ∧ Ext No w0 w := by
  refine ret_of Tryd.func34 rfl Tryd.ntmps34 (Nat.le_of_ble_eq_true rfl) fun a hfr => ?_
  replace hfr : Fr 6 [(0, _)] [] a := hfr
  replace hst : St No w0 [] w0 := St.init w0
  refine wc_seq_region fun K1 hK1 => ?_
  refine wl_v hfr (by decide) (v_assign rfl) ?_
  clear hfr
  intro a hfr
  refine wl_nil (hK1 _ _ ?_)
  refine wc_seq_region fun K2 hK2 => ?_
  refine wl_v hfr (by decide) (v_move rfl) ?_
  clear hfr
  intro a hfr
  refine wl_v hfr (by decide) (v_sadd rfl rfl (by (simp only [List.length_append, List.length_cons, List.length_nil]); omega)) ?_
  clear hfr
  intro a hfr
  refine wl_callp hfr hst (by decide) Tryd.call33 rfl (rsum_ok (([0]) ++ s) _ (by simp only [List.length_append, List.length_cons, List.length_nil]; omega)) ?_
  clear hfr hst
  intro a w1 hfr hst
  refine wl_v hfr (by decide) (v_assign rfl) ?_
  clear hfr
  intro a hfr
  refine wl_nil (hK2 _ _ ?_)
  refine wc_ret ?_
  refine fin_ret hfr Tryd.results34 (resAre_tmp rfl resAre_nil) ?_
  exact ⟨by rfl, hst.ext⟩

/-- dialtone/dialtoneref02.Node -/
theorem rnode_ok (s t : By) (w0 : World) (hs : s.length ≤ 40000000) (ht : t.length ≤ 40000000) :
    Ret Tryd.prog 35 #[sv s, sv t] w0 fun v w => v = sv (nodeH sha s t) ∧ Ext No w0 w := by
  refine ret_of Tryd.func35 rfl Tryd.ntmps35 (Nat.le_of_ble_eq_true rfl) fun a hfr => ?_
  replace hfr : Fr 10 [(0, _), (1, _)] [] a := hfr
  replace hst : St No w0 [] w0 := St.init w0
  refine wc_seq_region fun K1 hK1 => ?_
  refine wl_v hfr (by decide) (v_assign rfl) ?_
  clear hfr
  intro a hfr
  refine wl_nil (hK1 _ _ ?_)
  refine wc_seq_region fun K2 hK2 => ?_
  refine wl_v hfr (by decide) (v_move rfl) ?_
  clear hfr
  intro a hfr
  refine wl_v hfr (by decide) (v_sadd rfl rfl (by (simp only [List.length_append, List.length_cons, List.length_nil]); omega)) ?_
  clear hfr
  intro a hfr
  refine wl_v hfr (by decide) (v_move rfl) ?_
  clear hfr
  intro a hfr
  refine wl_v hfr (by decide) (v_sadd rfl rfl (by (simp only [List.length_append, List.length_cons, List.length_nil]); omega)) ?_
  clear hfr
  intro a hfr
  refine wl_callp hfr hst (by decide) Tryd.call33 rfl (rsum_ok ((([1]) ++ s) ++ t) _ (by simp only [List.length_append, List.length_cons, List.length_nil]; omega)) ?_
  clear hfr hst
  intro a w1 hfr hst
  refine wl_v hfr (by decide) (v_assign rfl) ?_
  clear hfr
  intro a hfr
  refine wl_nil (hK2 _ _ ?_)
  replace hfr : Fr 10 [(4, _)] [] a := hfr.pick [4]
  refine wc_ret ?_
  refine fin_ret hfr Tryd.results35 (resAre_tmp rfl resAre_nil) ?_
  exact ⟨by rfl, hst.ext⟩

/-- dialtone/dialtoneref02.Chain -/
theorem rchain_ok (s t : By) (w0 : World) (hs : s.length ≤ 40000000) (ht : t.length ≤ 40000000) :
    Ret Tryd.prog 37 #[sv s, sv t] w0 fun v w => v = sv (chainH sha s t) ∧ Ext No w0 w := by
  refine ret_of Tryd.func37 rfl Tryd.ntmps37 (Nat.le_of_ble_eq_true rfl) fun a hfr => ?_
  replace hfr : Fr 10 [(0, _), (1, _)] [] a := hfr
  replace hst : St No w0 [] w0 := St.init w0
  refine wc_seq_region fun K1 hK1 => ?_
  refine wl_v hfr (by decide) (v_assign rfl) ?_
  clear hfr
  intro a hfr
  refine wl_nil (hK1 _ _ ?_)
  refine wc_seq_region fun K2 hK2 => ?_
  refine wl_v hfr (by decide) (v_move rfl) ?_
  clear hfr
  intro a hfr
  refine wl_v hfr (by decide) (v_sadd rfl rfl (by (simp only [List.length_append, List.length_cons, List.length_nil]); omega)) ?_
  clear hfr
  intro a hfr
  refine wl_v hfr (by decide) (v_move rfl) ?_
  clear hfr
  intro a hfr
  refine wl_v hfr (by decide) (v_sadd rfl rfl (by (simp only [List.length_append, List.length_cons, List.length_nil]); omega)) ?_
  clear hfr
  intro a hfr
  refine wl_callp hfr hst (by decide) Tryd.call33 rfl (rsum_ok ((([2]) ++ s) ++ t) _ (by simp only [List.length_append, List.length_cons, List.length_nil]; omega)) ?_
  clear hfr hst
  intro a w1 hfr hst
  refine wl_v hfr (by decide) (v_assign rfl) ?_
  clear hfr
  intro a hfr
  refine wl_nil (hK2 _ _ ?_)
  replace hfr : Fr 10 [(4, _)] [] a := hfr.pick [4]
  refine wc_ret ?_
  refine fin_ret hfr Tryd.results37 (resAre_tmp rfl resAre_nil) ?_
  exact ⟨by rfl, hst.ext⟩
end Go.Proofs.YtmcoolbjgeibcaaDoor
namespace Go.Proofs.YtmcoolbjgeibcaaDoor
open Go.RowKit Go.PW
set_option linter.unusedVariables false
set_option linter.unusedSimpArgs false
set_option maxRecDepth 4000

theorem root_single {l : List By} (h : l.length = 1) : rootH sha l = leafH sha (l.getD 0 []) := by
  match l, h with
  | [x], _ => rfl

/-- dialtone/dialtoneref02.Root -/
theorem rroot_ok (L : Nat) :
    ∀ (lv : Value) (ls : List By) (w0 : World), ls.length = L → SlAt w0 lv 1 (ls.map fun s => [sv s]) → ls.length ≤ 1000 → (∀ s ∈ ls, s.length ≤ 40000000) → Ret Tryd.prog 20 #[lv] w0 fun v w => v = sv (rootH sha ls) ∧ Ext No w0 w := by
  induction L using Nat.strongRecOn
  rename_i L ih
  intro lv ls w0 hL hlv hln hls
  have hnb := hlv.le
  rw [List.length_map] at hnb
  refine ret_of Tryd.func20 rfl Tryd.ntmps20 (Nat.le_of_ble_eq_true rfl) fun a hfr => ?_
  replace hfr : Fr 27 [(0, _)] [] a := hfr
  replace hst : St No w0 [] w0 := St.init w0
  refine wc_seq_region fun K1 hK1 => ?_
  refine wl_v hfr (by decide) (v_assign rfl) ?_
  clear hfr
  intro a hfr
  refine wl_nil (hK1 _ _ ?_)
  refine wc_seq_k fun K2 hK2 => ?_
  refine wc_seq_region fun K3 hK3 => ?_
  refine wl_v hfr (by decide) (v_move rfl) ?_
  clear hfr
  intro a hfr
  refine wl_v hfr (by decide) ((v_len_sl (sT := 22) (hst.arg hlv) rfl rfl (Tryd.runUnderlying22 _)).asi (m' := (ls.length : Int)) (by simp)) ?_
  clear hfr
  intro a hfr
  refine wl_v hfr (by decide) (v_eq rfl rfl) ?_
  clear hfr
  intro a hfr
  refine wl_nil (hK3 _ _ ?_)
  refine wc_cond hfr rfl (fun hc1 => ?_) (fun hc1 => ?_)
  · rw [hc1] at hfr
    try simp only [Bool.not_eq_true', Bool.not_eq_false', decide_eq_true_eq, decide_eq_false_iff_not] at hc1
    refine wc_seq_region fun K4 hK4 => ?_
    refine wl_callp hfr hst (by decide) Tryd.call33 rfl (rsum_ok [] _ (by simp)) ?_
    clear hfr hst
    intro a w1 hfr hst
    refine wl_v hfr (by decide) (v_assign rfl) ?_
    clear hfr
    intro a hfr
    refine wl_nil (hK4 _ _ ?_)
    refine wc_ret ?_
    refine fin_ret hfr Tryd.results20 (resAre_tmp rfl resAre_nil) ?_
    exact ⟨by simp only [retv]; rw [show ls = [] from List.eq_nil_of_length_eq_zero (by omega)]; rfl, hst.ext⟩
  rw [hc1] at hfr
  try simp only [Bool.not_eq_true', Bool.not_eq_false', decide_eq_true_eq, decide_eq_false_iff_not] at hc1
  refine wc_skip ?_
  refine hK2 _ _ ?_
  refine wc_seq_k fun K5 hK5 => ?_
  refine wc_seq_region fun K6 hK6 => ?_
  refine wl_v hfr (by decide) (v_move rfl) ?_
  clear hfr
  intro a hfr
  refine wl_v hfr (by decide) ((v_len_sl (sT := 22) (hst.arg hlv) rfl rfl (Tryd.runUnderlying22 _)).asi (m' := (ls.length : Int)) (by simp)) ?_
  clear hfr
  intro a hfr
  refine wl_v hfr (by decide) (v_eq rfl rfl) ?_
  clear hfr
  intro a hfr
  refine wl_nil (hK6 _ _ ?_)
  refine wc_cond hfr rfl (fun hc2 => ?_) (fun hc2 => ?_)
  · rw [hc2] at hfr
    try simp only [Bool.not_eq_true', Bool.not_eq_false', decide_eq_true_eq, decide_eq_false_iff_not] at hc2
    have hx := hls _ (getD_mem (d := []) (show 0 < ls.length by omega))
    refine wc_seq_region fun K7 hK7 => ?_
    refine wl_v hfr (by decide) (v_move rfl) ?_
    clear hfr
    intro a hfr
    refine wl_v hfr (by decide) ((v_indexAddr_sl (i := 0) (sT := 22) (hst.arg hlv) rfl rfl (Tryd.runUnderlying22 _) (Tryd.sizeOf9 _) (by omega) (by rw [List.length_map]; omega)).as (v' := slAddr lv (0 * 1)) rfl) ?_
    clear hfr
    intro a hfr
    refine wl_v hfr (by decide) (v_load_sl1 (u := sv (ls.getD 0 [])) (i := 0) (j := 0) (hst.arg hlv) (by rw [List.length_map]; omega) rfl (Tryd.isAgg9 _) (by simp [List.getD_eq_getElem?_getD, List.getElem?_eq_getElem (show 0 < ls.length by omega)])) ?_
    clear hfr
    intro a hfr
    refine wl_callp hfr hst (by decide) Tryd.call34 rfl (rleaf_ok (ls.getD 0 []) _ (by omega)) ?_
    clear hfr hst
    intro a w2 hfr hst
    refine wl_v hfr (by decide) (v_assign rfl) ?_
    clear hfr
    intro a hfr
    refine wl_nil (hK7 _ _ ?_)
    replace hfr : Fr 27 [(0, _), (2, _)] [] a := hfr.pick [0, 2]
    refine wc_ret ?_
    refine fin_ret hfr Tryd.results20 (resAre_tmp rfl resAre_nil) ?_
    exact ⟨by simp only [retv]; rw [root_single (by omega)], hst.ext⟩
  rw [hc2] at hfr
  try simp only [Bool.not_eq_true', Bool.not_eq_false', decide_eq_true_eq, decide_eq_false_iff_not] at hc2
  have hlt := lft_lt (n := ls.length) (by omega)
  have hlp := lft_pos ls.length
  refine wc_skip ?_
  refine hK5 _ _ ?_
  refine wc_seq_region fun K8 hK8 => ?_
  refine wl_v hfr (by decide) (v_move rfl) ?_
  clear hfr
  intro a hfr
  refine wl_v hfr (by decide) ((v_len_sl (sT := 22) (hst.arg hlv) rfl rfl (Tryd.runUnderlying22 _)).asi (m' := (ls.length : Int)) (by simp)) ?_
  clear hfr
  intro a hfr
  refine wl_callp hfr hst (by decide) Tryd.call42 rfl (leftr_ok ls.length _ (by omega) (by omega)) ?_
  clear hfr hst
  intro a w3 hfr hst
  refine wl_v hfr (by decide) (v_assign rfl) ?_
  clear hfr
  intro a hfr
  refine wl_nil (hK8 _ _ ?_)
  replace hfr : Fr 27 [(0, _), (2, _), (3, _)] [] a := hfr.pick [0, 2, 3]
  refine wc_seq_k fun K9 hK9 => ?_
  refine wc_of_dr (by kernel_rfl) (dr_of_wd (by kernel_rfl) fun w4 hxz => ?_)
  replace hst : St No w0 [] w4 := hst.grow hxz
  refine wd_sub (k := 0) 7 [3, 6] hfr (by kernel_rfl) (by kernel_rfl) (by kernel_rfl) (by rfl) ?_
  replace hfr : Fr 27 [(0, _), (2, _), (3, _)] [] a := hfr.pick [0, 2, 3]
  refine wc_phases_q [] (fun i => match i with | _ => fun _ _ => False) 7 [[], [], [0, 1], [2], [], [], [4, 5]] [lv, .int .i64 (lft ls.length : Int), (cut lv 1 0 (lft ls.length) (slCap lv)), sv (rootH sha (ls.take (lft ls.length))), lv, .int .i64 (lft ls.length : Int), (cut lv 1 (lft ls.length) ls.length (slCap lv))] hfr hst (by kernel_rfl) (by kernel_rfl) (by kernel_rfl) ?_ ?_ ?_
  · intro i hi hiq
    match i, hi, hiq with
    | 0, _, _ =>
      intro w hst
      exact OpV.g (v_move rfl)
    | 1, _, _ =>
      intro w hst
      exact OpV.g (v_move rfl)
    | 2, _, _ =>
      intro w hst
      exact OpV.g (v_slice_at (l := 0) (h := (lft ls.length)) (hst.arg hlv) rfl rfl rfl Tryd.underlying22 (by kernel_rfl) (.inl ⟨rfl, rfl⟩) (.inr (by rw [show ((lft ls.length : Int) : Int) = (((lft ls.length) : Nat) : Int) from by omega] <;> rfl)) (Nat.zero_le _) (by first | (rw [List.length_map]; omega) | (simp <;> omega)))
    | 3, _, _ =>
      intro w hst
      exact g_callp Tryd.call20 rfl (ih _ (by simp only [List.length_take, List.length_drop]; omega) (cut lv 1 0 (lft ls.length) (slCap lv)) (ls.take (lft ls.length)) _ rfl ((hst.arg hlv).cut0 (h := (lft ls.length)) (by first | omega | (rw [List.length_reverse]; omega) | simp | (simp; omega))) (by simp only [List.length_take, List.length_drop]; omega) (fun s h => hls s (List.mem_of_mem_take h)))
    | 4, _, _ =>
      intro w hst
      exact OpV.g (v_move rfl)
    | 5, _, _ =>
      intro w hst
      exact OpV.g (v_move rfl)
    | 6, _, _ =>
      intro w hst
      exact OpV.g (v_slice_at (l := (lft ls.length)) (h := ls.length) (hst.arg hlv) rfl rfl rfl Tryd.underlying22 (by kernel_rfl) (.inr (by rw [show ((lft ls.length : Int) : Int) = (((lft ls.length) : Nat) : Int) from by omega] <;> rfl)) (.inl ⟨rfl, by simp⟩) (by omega) (by simp))
  · intro i hi
    exact absurd hi (by simp)
  clear hfr hst
  intro  a w5 hfr hst
  replace hfr : Fr 27 [(18, lv), (19, .int .i64 (lft ls.length : Int)), (20, (cut lv 1 0 (lft ls.length) (slCap lv))), (21, sv (rootH sha (ls.take (lft ls.length)))), (22, lv), (23, .int .i64 (lft ls.length : Int)), (24, (cut lv 1 (lft ls.length) ls.length (slCap lv))), (0, _), (2, _), (3, _)] [] a := hfr
  refine wl_nil ?_
  refine wd_lin (k := 7) 10 [9] (by kernel_rfl) (by kernel_rfl) (by kernel_rfl) ?_
  refine wl_callp hfr hst (by decide) Tryd.call20 rfl (ih _ (by simp only [List.length_take, List.length_drop]; omega) (cut lv 1 (lft ls.length) ls.length (slCap lv)) (ls.drop (lft ls.length)) _ rfl ((hst.arg hlv).cutd (l := (lft ls.length)) (by first | omega | (rw [List.length_reverse]; omega) | simp | (simp; omega))) (by simp only [List.length_take, List.length_drop]; omega) (fun s h => hls s (List.mem_of_mem_drop h))) ?_
  clear hfr hst
  intro a w6 hfr hst
  refine wl_callp hfr hst (by decide) Tryd.call35 rfl (rnode_ok (rootH sha (ls.take (lft ls.length))) (rootH sha (ls.drop (lft ls.length))) _ (by first | omega | (rw [root_len sha_len]; decide)) (by first | omega | (rw [root_len sha_len]; decide))) ?_
  clear hfr hst
  intro a w7 hfr hst
  refine wl_v hfr (by decide) (v_assign rfl) ?_
  clear hfr
  intro a hfr
  refine wl_nil ?_
  refine wd_end (by kernel_rfl) ?_
  refine hK9 _ _ ?_
  replace hfr : Fr 27 [(2, _)] [] a := hfr.pick [2]
  refine wc_ret ?_
  refine fin_ret hfr Tryd.results20 (resAre_tmp rfl resAre_nil) ?_
  exact ⟨by simp only [retv]; rw [← rootH_two sha (by omega)], hst.ext⟩

/-- dialtone/dialtoneref02.Proof -/
theorem rproof_err (lv : Value) (ls : List By) (i : Int) (w0 : World) (hlv : SlAt w0 lv 1 (ls.map fun s => [sv s])) (hi : i < 0 ∨ (ls.length : Int) ≤ i) :
    Ret Tryd.prog 15 #[lv, .int .i64 i] w0 fun v w => v = .tuple #[.slice none 0 0, .int .i64 2] ∧ Ext No w0 w := by
  refine ret_of Tryd.func15 rfl Tryd.ntmps15 (Nat.le_of_ble_eq_true rfl) fun a hfr => ?_
  replace hfr : Fr 60 [(0, _), (1, _)] [] a := hfr
  replace hst : St No w0 [] w0 := St.init w0
  refine wc_seq_region fun K1 hK1 => ?_
  refine wl_v hfr (by decide) (v_assign rfl) ?_
  clear hfr
  intro a hfr
  refine wl_v hfr (by decide) (v_assign rfl) ?_
  clear hfr
  intro a hfr
  refine wl_nil (hK1 _ _ ?_)
  refine wc_seq_k fun K2 hK2 => ?_
  refine wc_seq_region fun K3 hK3 => ?_
  refine wl_v hfr (by decide) (v_move rfl) ?_
  clear hfr
  intro a hfr
  refine wl_v hfr (by decide) (v_lt rfl rfl) ?_
  clear hfr
  intro a hfr
  refine wl_v hfr (by decide) (v_move rfl) ?_
  clear hfr
  intro a hfr
  rcases Bool.eq_false_or_eq_true (decide (i < 0)) with hb1 | hb1
  · rw [hb1] at hfr
    try simp only [Bool.not_eq_true', Bool.not_eq_false', decide_eq_true_eq, decide_eq_false_iff_not] at hb1
    refine wl_vn hfr (by decide) rfl (by decide) rfl rfl ?_
    clear hfr
    intro a hfr
    refine wl_vn hfr (by decide) rfl (by decide) rfl rfl ?_
    clear hfr
    intro a hfr
    refine wl_vn hfr (by decide) rfl (by decide) rfl rfl ?_
    clear hfr
    intro a hfr
    refine wl_vn hfr (by decide) rfl (by decide) rfl rfl ?_
    clear hfr
    intro a hfr
    refine wl_v hfr (by decide) (v_pick_t rfl rfl) ?_
    clear hfr
    intro a hfr
    refine wl_nil (hK3 _ _ ?_)
    replace hfr : Fr 60 [(0, _), (1, _), (4, _), (5, _), (18, _)] [] a := hfr.pick [0, 1, 4, 5, 18]
    refine wc_cond_t hfr rfl ?_
    refine wc_seq_region fun K4 hK4 => ?_
    refine wl_v hfr (by decide) (v_assign rfl) ?_
    clear hfr
    intro a hfr
    refine wl_v hfr (by decide) (v_assign rfl) ?_
    clear hfr
    intro a hfr
    refine wl_nil (hK4 _ _ ?_)
    refine wc_ret ?_
    refine fin_ret hfr Tryd.results15 (resAre_tmp rfl (resAre_tmp rfl resAre_nil)) ?_
    exact ⟨by rfl, hst.ext⟩
  rw [hb1] at hfr
  try simp only [Bool.not_eq_true', Bool.not_eq_false', decide_eq_true_eq, decide_eq_false_iff_not] at hb1
  refine wl_vy hfr (by decide) rfl (by decide) rfl (v_move rfl) ?_
  clear hfr
  intro a hfr
  refine wl_vy hfr (by decide) rfl (by decide) rfl (v_move rfl) ?_
  clear hfr
  intro a hfr
  refine wl_vy hfr (by decide) rfl (by decide) rfl ((v_len_sl (sT := 22) (hst.arg hlv) rfl rfl (Tryd.runUnderlying22 _)).asi (m' := (ls.length : Int)) (by simp)) ?_
  clear hfr
  intro a hfr
  refine wl_vy hfr (by decide) rfl (by decide) rfl (v_ge rfl rfl) ?_
  clear hfr
  intro a hfr
  refine wl_v hfr (by decide) (v_pick_f rfl rfl) ?_
  clear hfr
  intro a hfr
  refine wl_nil (hK3 _ _ ?_)
  replace hfr : Fr 60 [(0, _), (1, _), (4, _), (5, _), (18, _)] [] a := hfr.pick [0, 1, 4, 5, 18]
  refine wc_cond hfr rfl (fun hc2 => ?_) (fun hc2 => ?_)
  · rw [hc2] at hfr
    try simp only [Bool.not_eq_true', Bool.not_eq_false', decide_eq_true_eq, decide_eq_false_iff_not] at hc2
    refine wc_seq_region fun K5 hK5 => ?_
    refine wl_v hfr (by decide) (v_assign rfl) ?_
    clear hfr
    intro a hfr
    refine wl_v hfr (by decide) (v_assign rfl) ?_
    clear hfr
    intro a hfr
    refine wl_nil (hK5 _ _ ?_)
    refine wc_ret ?_
    refine fin_ret hfr Tryd.results15 (resAre_tmp rfl (resAre_tmp rfl resAre_nil)) ?_
    exact ⟨by rfl, hst.ext⟩
  rw [hc2] at hfr
  try simp only [Bool.not_eq_true', Bool.not_eq_false', decide_eq_true_eq, decide_eq_false_iff_not] at hc2
  omega

theorem proofH_len2 {l : List By} {i : Nat} (h : l.length ≤ 1000) : (proofH sha l i).length ≤ 10 := proof_len _ l i 10 rfl (by omega)

set_option maxHeartbeats 4000000 in
/-- dialtone/dialtoneref02.Proof -/
theorem rproof_ok (L : Nat) :
    ∀ (lv : Value) (ls : List By) (i : Nat) (w0 : World), ls.length = L → SlAt w0 lv 1 (ls.map fun s => [sv s]) → i < ls.length → ls.length ≤ 1000 → (∀ s ∈ ls, s.length ≤ 40000000) → Ret Tryd.prog 15 #[lv, .int .i64 (i : Int)] w0 (MemR w0 (fun v : Value => .tuple #[v, .int .i64 0]) (fun v => [own v 9 1 ((proofH sha ls i).map fun s => [sv s])]) (fun _ => True)) := by
  induction L using Nat.strongRecOn
  rename_i L ih
  intro lv ls i w0 hL hlv hi hln hls
  have hnb := hlv.le
  rw [List.length_map] at hnb
  refine ret_of Tryd.func15 rfl Tryd.ntmps15 (Nat.le_of_ble_eq_true rfl) fun a hfr => ?_
  replace hfr : Fr 60 [(0, _), (1, _)] [] a := hfr
  replace hst : St No w0 [] w0 := St.init w0
  refine wc_seq_region fun K1 hK1 => ?_
  refine wl_v hfr (by decide) (v_assign rfl) ?_
  clear hfr
  intro a hfr
  refine wl_v hfr (by decide) (v_assign rfl) ?_
  clear hfr
  intro a hfr
  refine wl_nil (hK1 _ _ ?_)
  refine wc_seq_k fun K2 hK2 => ?_
  refine wc_seq_region fun K3 hK3 => ?_
  refine wl_v hfr (by decide) (v_move rfl) ?_
  clear hfr
  intro a hfr
  refine wl_v hfr (by decide) (v_lt rfl rfl) ?_
  clear hfr
  intro a hfr
  refine wl_v hfr (by decide) (v_move rfl) ?_
  clear hfr
  intro a hfr
  rcases Bool.eq_false_or_eq_true (decide ((i : Int) < 0)) with hb1 | hb1
  · rw [hb1] at hfr
    try simp only [Bool.not_eq_true', Bool.not_eq_false', decide_eq_true_eq, decide_eq_false_iff_not] at hb1
    omega
  rw [hb1] at hfr
  try simp only [Bool.not_eq_true', Bool.not_eq_false', decide_eq_true_eq, decide_eq_false_iff_not] at hb1
  refine wl_vy hfr (by decide) rfl (by decide) rfl (v_move rfl) ?_
  clear hfr
  intro a hfr
  refine wl_vy hfr (by decide) rfl (by decide) rfl (v_move rfl) ?_
  clear hfr
  intro a hfr
  refine wl_vy hfr (by decide) rfl (by decide) rfl ((v_len_sl (sT := 22) (hst.arg hlv) rfl rfl (Tryd.runUnderlying22 _)).asi (m' := (ls.length : Int)) (by simp)) ?_
  clear hfr
  intro a hfr
  refine wl_vy hfr (by decide) rfl (by decide) rfl (v_ge rfl rfl) ?_
  clear hfr
  intro a hfr
  refine wl_v hfr (by decide) (v_pick_f rfl rfl) ?_
  clear hfr
  intro a hfr
  refine wl_nil (hK3 _ _ ?_)
  replace hfr : Fr 60 [(0, _), (1, _), (4, _), (5, _), (18, _)] [] a := hfr.pick [0, 1, 4, 5, 18]
  refine wc_cond hfr rfl (fun hc2 => ?_) (fun hc2 => ?_)
  · rw [hc2] at hfr
    try simp only [Bool.not_eq_true', Bool.not_eq_false', decide_eq_true_eq, decide_eq_false_iff_not] at hc2
    omega
  rw [hc2] at hfr
  try simp only [Bool.not_eq_true', Bool.not_eq_false', decide_eq_true_eq, decide_eq_false_iff_not] at hc2
  refine wc_skip ?_
  refine hK2 _ _ ?_
  refine wc_seq_k fun K4 hK4 => ?_
  refine wc_seq_region fun K5 hK5 => ?_
  refine wl_v hfr (by decide) (v_move rfl) ?_
  clear hfr
  intro a hfr
  refine wl_v hfr (by decide) ((v_len_sl (sT := 22) (hst.arg hlv) rfl rfl (Tryd.runUnderlying22 _)).asi (m' := (ls.length : Int)) (by simp)) ?_
  clear hfr
  intro a hfr
  refine wl_v hfr (by decide) (v_eq rfl rfl) ?_
  clear hfr
  intro a hfr
  refine wl_nil (hK5 _ _ ?_)
  refine wc_cond hfr rfl (fun hc3 => ?_) (fun hc3 => ?_)
  · rw [hc3] at hfr
    try simp only [Bool.not_eq_true', Bool.not_eq_false', decide_eq_true_eq, decide_eq_false_iff_not] at hc3
    refine wc_seq_region fun K6 hK6 => ?_
    refine wl_v hfr (by decide) (v_assign rfl) ?_
    clear hfr
    intro a hfr
    refine wl_v hfr (by decide) (v_assign rfl) ?_
    clear hfr
    intro a hfr
    refine wl_nil (hK6 _ _ ?_)
    refine wc_ret ?_
    refine fin_ret hfr Tryd.results15 (resAre_tmp rfl (resAre_tmp rfl resAre_nil)) ?_
    have hW := proofH_one sha (l := ls) (i := i) (by omega)
    replace hst : St No w0 [own (.slice none 0 0) 9 1 (([] : List By).map fun s => [sv s])] w0 := hst.nil_own
    refine ⟨.slice none 0 0, rfl, trivial, hst.ext, St.out (E := [own (.slice none 0 0) 9 1 ((proofH sha ls i).map fun s => [sv s])]) (H := []) ?_⟩
    rw [show ((proofH sha ls i).map fun s => [sv s]) = (([] : List By).map fun s => [sv s]) from by first | (rw [hW]; done) | (rw [hW]; simp)]
    exact hst.select [0] (by decide)
  rw [hc3] at hfr
  try simp only [Bool.not_eq_true', Bool.not_eq_false', decide_eq_true_eq, decide_eq_false_iff_not] at hc3
  have hlt := lft_lt (n := ls.length) (by omega)
  have hlp := lft_pos ls.length
  refine wc_skip ?_
  refine hK4 _ _ ?_
  refine wc_seq_region fun K7 hK7 => ?_
  refine wl_v hfr (by decide) (v_move rfl) ?_
  clear hfr
  intro a hfr
  refine wl_v hfr (by decide) ((v_len_sl (sT := 22) (hst.arg hlv) rfl rfl (Tryd.runUnderlying22 _)).asi (m' := (ls.length : Int)) (by simp)) ?_
  clear hfr
  intro a hfr
  refine wl_callp hfr hst (by decide) Tryd.call42 rfl (leftr_ok ls.length _ (by omega) (by omega)) ?_
  clear hfr hst
  intro a w1 hfr hst
  refine wl_v hfr (by decide) (v_assign rfl) ?_
  clear hfr
  intro a hfr
  refine wl_nil (hK7 _ _ ?_)
  replace hfr : Fr 60 [(0, _), (1, _), (4, _), (5, _), (6, _)] [] a := hfr.pick [0, 1, 4, 5, 6]
  refine wc_seq_k fun K8 hK8 => ?_
  refine wc_seq_region fun K9 hK9 => ?_
  refine wl_v hfr (by decide) (v_move rfl) ?_
  clear hfr
  intro a hfr
  refine wl_v hfr (by decide) (v_move rfl) ?_
  clear hfr
  intro a hfr
  refine wl_v hfr (by decide) (v_lt rfl rfl) ?_
  clear hfr
  intro a hfr
  refine wl_nil (hK9 _ _ ?_)
  refine wc_cond hfr rfl (fun hc4 => ?_) (fun hc4 => ?_)
  · rw [hc4] at hfr
    try simp only [Bool.not_eq_true', Bool.not_eq_false', decide_eq_true_eq, decide_eq_false_iff_not] at hc4
    refine wc_seq_region fun K10 hK10 => ?_
    refine wl_v hfr (by decide) (v_move rfl) ?_
    clear hfr
    intro a hfr
    refine wl_v hfr (by decide) (v_move rfl) ?_
    clear hfr
    intro a hfr
    refine wl_v hfr (by decide) (v_slice_at (l := 0) (h := (lft ls.length)) (hst.arg hlv) rfl rfl rfl Tryd.underlying22 (by kernel_rfl) (.inl ⟨rfl, rfl⟩) (.inr (by rw [show ((lft ls.length : Int) : Int) = (((lft ls.length) : Nat) : Int) from by omega] <;> rfl)) (Nat.zero_le _) (by first | (rw [List.length_map]; omega) | (simp <;> omega))) ?_
    clear hfr
    intro a hfr
    refine wl_v hfr (by decide) (v_move rfl) ?_
    clear hfr
    intro a hfr
    refine wl_callm hfr hst (by decide) Tryd.call15 rfl (ih _ (by simp only [List.length_take, List.length_drop]; omega) (cut lv 1 0 (lft ls.length) (slCap lv)) (ls.take (lft ls.length)) i _ rfl ((hst.arg hlv).cut0 (h := (lft ls.length)) (by first | omega | (rw [List.length_reverse]; omega) | simp | (simp; omega))) (by simp only [List.length_take, List.length_drop]; omega) (by simp only [List.length_take, List.length_drop]; omega) (fun s h => hls s (List.mem_of_mem_take h))) ?_
    clear hfr hst
    intro a w2 x6 hp hfr hst
    revert x6 hp hfr hst; rintro v5 hp hfr hst
    clear hp
    replace hst : St No w0 [own v5 9 1 ((proofH sha ((ls.take (lft ls.length))) i).map fun s => [sv s])] w2 := hst
    have hpl := proofH_len2 (l := (ls.take (lft ls.length))) (i := i) (by simp only [List.length_take, List.length_drop]; omega)
    refine wl_v hfr (by decide) (v_move rfl) ?_
    clear hfr
    intro a hfr
    refine wl_v hfr (by decide) (v_extract rfl rfl) ?_
    clear hfr
    intro a hfr
    refine wl_v hfr (by decide) (v_extract rfl rfl) ?_
    clear hfr
    intro a hfr
    refine wl_v hfr (by decide) (v_assign rfl) ?_
    clear hfr
    intro a hfr
    refine wl_v hfr (by decide) (v_assign rfl) ?_
    clear hfr
    intro a hfr
    refine wl_nil (hK10 _ _ ?_)
    replace hfr : Fr 60 [(0, _), (1, _), (4, _), (5, _), (6, _), (7, _)] [] a := hfr.pick [0, 1, 4, 5, 6, 7]
    refine wc_seq_region fun K11 hK11 => ?_
    refine wl_v hfr (by decide) (v_move rfl) ?_
    clear hfr
    intro a hfr
    refine wl_v hfr (by decide) (v_move rfl) ?_
    clear hfr
    intro a hfr
    refine wl_v hfr (by decide) (v_move rfl) ?_
    clear hfr
    intro a hfr
    refine wl_v hfr (by decide) (v_slice_at (l := (lft ls.length)) (h := ls.length) (hst.arg hlv) rfl rfl rfl Tryd.underlying22 (by kernel_rfl) (.inr (by rw [show ((lft ls.length : Int) : Int) = (((lft ls.length) : Nat) : Int) from by omega] <;> rfl)) (.inl ⟨rfl, by simp⟩) (by omega) (by simp)) ?_
    clear hfr
    intro a hfr
    refine wl_callp hfr hst (by decide) Tryd.call20 rfl (rroot_ok _ (cut lv 1 (lft ls.length) ls.length (slCap lv)) (ls.drop (lft ls.length)) _ rfl ((hst.arg hlv).cutd (l := (lft ls.length)) (by first | omega | (rw [List.length_reverse]; omega) | simp | (simp; omega))) (by simp only [List.length_take, List.length_drop]; omega) (fun s h => hls s (List.mem_of_mem_drop h))) ?_
    clear hfr hst
    intro a w3 hfr hst
    refine wl_buildSlice (E := 9) (sz := 1) rfl [[sv (rootH sha (ls.drop (lft ls.length)))]] (by kernel_rfl) (by simp) rfl (by decide) (by decide) hfr hst ?_
    clear hfr hst
    intro a w4 hfr hst
    refine wl_append (i := 1) (sT := 22) (inf := Tryd.t9) (z := .string (⟨#[]⟩)) (b := 0) (off := 0) (m := 0) (c := 0) rfl rfl rfl (hst.ownAt (i := 0) rfl) (by simp) Tryd.underlying22 rfl rfl rfl rfl (by decide) (by simp [Value.oneCell', yv, wv, sv]) (by have hby : Tryd.t9.bytes = 16 := rfl; simp only [big, hby, List.length_append, List.length_map, List.length_cons, List.length_nil]; omega) (by have hby : Tryd.t9.bytes = 16 := rfl; simp only [big, hby, List.length_append, List.length_map, List.length_cons, List.length_nil]; omega) (by decide) hfr hst fun a w5 s7 hfr hst _ => ?_
    refine wl_v hfr (by decide) (v_assign rfl) ?_
    clear hfr
    intro a hfr
    refine wl_v hfr (by decide) (v_assign rfl) ?_
    clear hfr
    intro a hfr
    refine wl_nil (hK11 _ _ ?_)
    replace hfr : Fr 60 [(0, _), (1, _), (6, _), (4, _), (5, _)] [] a := hfr.pick [0, 1, 6, 4, 5]
    replace hst : St No w0 [_] w5 := hst.mask [false, true]
    refine wc_ret ?_
    refine fin_ret hfr Tryd.results15 (resAre_tmp rfl (resAre_tmp rfl resAre_nil)) ?_
    have hW := (proofH_two sha (l := ls) (i := i) (by omega)).trans (if_pos (by omega))
    refine ⟨s7, rfl, trivial, hst.ext, St.out (E := [own s7 9 1 ((proofH sha ls i).map fun s => [sv s])]) (H := []) ?_⟩
    rw [show ((proofH sha ls i).map fun s => [sv s]) = ((proofH sha ((ls.take (lft ls.length))) i).map fun s => [sv s]) ++ ([[sv (rootH sha (ls.drop (lft ls.length)))]]) from by first | (rw [hW]; done) | (rw [hW]; simp)]
    exact hst.select [0] (by decide)
  rw [hc4] at hfr
  try simp only [Bool.not_eq_true', Bool.not_eq_false', decide_eq_true_eq, decide_eq_false_iff_not] at hc4
  refine wc_skip ?_
  refine hK8 _ _ ?_
  refine wc_seq_region fun K12 hK12 => ?_
  refine wl_v hfr (by decide) (v_move rfl) ?_
  clear hfr
  intro a hfr
  refine wl_v hfr (by decide) (v_move rfl) ?_
  clear hfr
  intro a hfr
  refine wl_v hfr (by decide) (v_slice_at (l := (lft ls.length)) (h := ls.length) (hst.arg hlv) rfl rfl rfl Tryd.underlying22 (by kernel_rfl) (.inr (by rw [show ((lft ls.length : Int) : Int) = (((lft ls.length) : Nat) : Int) from by omega] <;> rfl)) (.inl ⟨rfl, by simp⟩) (by omega) (by simp)) ?_
  clear hfr
  intro a hfr
  refine wl_v hfr (by decide) (v_move rfl) ?_
  clear hfr
  intro a hfr
  refine wl_v hfr (by decide) (v_move rfl) ?_
  clear hfr
  intro a hfr
  refine wl_v hfr (by decide) ((v_sub rfl rfl ⟨by omega, by omega⟩).asi (m' := ((i - lft ls.length : Nat) : Int)) (by omega)) ?_
  clear hfr
  intro a hfr
  refine wl_callm hfr hst (by decide) Tryd.call15 rfl (ih _ (by simp only [List.length_take, List.length_drop]; omega) (cut lv 1 (lft ls.length) ls.length (slCap lv)) (ls.drop (lft ls.length)) (i - lft ls.length) _ rfl ((hst.arg hlv).cutd (l := (lft ls.length)) (by first | omega | (rw [List.length_reverse]; omega) | simp | (simp; omega))) (by simp only [List.length_take, List.length_drop]; omega) (by simp only [List.length_take, List.length_drop]; omega) (fun s h => hls s (List.mem_of_mem_drop h))) ?_
  clear hfr hst
  intro a w6 x9 hp hfr hst
  revert x9 hp hfr hst; rintro v8 hp hfr hst
  clear hp
  replace hst : St No w0 [own v8 9 1 ((proofH sha ((ls.drop (lft ls.length))) (i - lft ls.length)).map fun s => [sv s])] w6 := hst
  have hpl := proofH_len2 (l := (ls.drop (lft ls.length))) (i := (i - lft ls.length)) (by simp only [List.length_take, List.length_drop]; omega)
  refine wl_v hfr (by decide) (v_move rfl) ?_
  clear hfr
  intro a hfr
  refine wl_v hfr (by decide) (v_extract rfl rfl) ?_
  clear hfr
  intro a hfr
  refine wl_v hfr (by decide) (v_extract rfl rfl) ?_
  clear hfr
  intro a hfr
  refine wl_v hfr (by decide) (v_assign rfl) ?_
  clear hfr
  intro a hfr
  refine wl_v hfr (by decide) (v_assign rfl) ?_
  clear hfr
  intro a hfr
  refine wl_nil (hK12 _ _ ?_)
  replace hfr : Fr 60 [(0, _), (4, _), (5, _), (6, _), (9, _)] [] a := hfr.pick [0, 4, 5, 6, 9]
  refine wc_seq_region fun K13 hK13 => ?_
  refine wl_v hfr (by decide) (v_move rfl) ?_
  clear hfr
  intro a hfr
  refine wl_v hfr (by decide) (v_move rfl) ?_
  clear hfr
  intro a hfr
  refine wl_v hfr (by decide) (v_move rfl) ?_
  clear hfr
  intro a hfr
  refine wl_v hfr (by decide) (v_slice_at (l := 0) (h := (lft ls.length)) (hst.arg hlv) rfl rfl rfl Tryd.underlying22 (by kernel_rfl) (.inl ⟨rfl, rfl⟩) (.inr (by rw [show ((lft ls.length : Int) : Int) = (((lft ls.length) : Nat) : Int) from by omega] <;> rfl)) (Nat.zero_le _) (by first | (rw [List.length_map]; omega) | (simp <;> omega))) ?_
  clear hfr
  intro a hfr
  refine wl_callp hfr hst (by decide) Tryd.call20 rfl (rroot_ok _ (cut lv 1 0 (lft ls.length) (slCap lv)) (ls.take (lft ls.length)) _ rfl ((hst.arg hlv).cut0 (h := (lft ls.length)) (by first | omega | (rw [List.length_reverse]; omega) | simp | (simp; omega))) (by simp only [List.length_take, List.length_drop]; omega) (fun s h => hls s (List.mem_of_mem_take h))) ?_
  clear hfr hst
  intro a w7 hfr hst
  refine wl_buildSlice (E := 9) (sz := 1) rfl [[sv (rootH sha (ls.take (lft ls.length)))]] (by kernel_rfl) (by simp) rfl (by decide) (by decide) hfr hst ?_
  clear hfr hst
  intro a w8 hfr hst
  refine wl_append (i := 1) (sT := 22) (inf := Tryd.t9) (z := .string (⟨#[]⟩)) (b := 0) (off := 0) (m := 0) (c := 0) rfl rfl rfl (hst.ownAt (i := 0) rfl) (by simp) Tryd.underlying22 rfl rfl rfl rfl (by decide) (by simp [Value.oneCell', yv, wv, sv]) (by have hby : Tryd.t9.bytes = 16 := rfl; simp only [big, hby, List.length_append, List.length_map, List.length_cons, List.length_nil]; omega) (by have hby : Tryd.t9.bytes = 16 := rfl; simp only [big, hby, List.length_append, List.length_map, List.length_cons, List.length_nil]; omega) (by decide) hfr hst fun a w9 s10 hfr hst _ => ?_
  refine wl_v hfr (by decide) (v_assign rfl) ?_
  clear hfr
  intro a hfr
  refine wl_v hfr (by decide) (v_assign rfl) ?_
  clear hfr
  intro a hfr
  refine wl_nil (hK13 _ _ ?_)
  replace hfr : Fr 60 [(4, _), (5, _)] [] a := hfr.pick [4, 5]
  replace hst : St No w0 [_] w9 := hst.mask [false, true]
  refine wc_ret ?_
  refine fin_ret hfr Tryd.results15 (resAre_tmp rfl (resAre_tmp rfl resAre_nil)) ?_
  have hW := (proofH_two sha (l := ls) (i := i) (by omega)).trans (if_neg (by omega))
  refine ⟨s10, rfl, trivial, hst.ext, St.out (E := [own s10 9 1 ((proofH sha ls i).map fun s => [sv s])]) (H := []) ?_⟩
  rw [show ((proofH sha ls i).map fun s => [sv s]) = ((proofH sha ((ls.drop (lft ls.length))) (i - lft ls.length)).map fun s => [sv s]) ++ ([[sv (rootH sha (ls.take (lft ls.length)))]]) from by first | (rw [hW]; done) | (rw [hW]; simp)]
  exact hst.select [0] (by decide)

theorem partH_len2 {l : List By} {mi : Nat} {w : Bool} (h : l.length ≤ 1000) (h1 : 1 ≤ mi) (h2 : mi ≤ l.length) : (partH sha l mi w).length ≤ 11 := part_len l.length l mi 10 w rfl h1 h2 (by omega)

set_option maxHeartbeats 4000000 in
/-- dialtone/dialtoneref02.part -/
theorem rpart_ok (L : Nat) :
    ∀ (lv : Value) (ls : List By) (mi : Nat) (wh : Bool) (w0 : World), ls.length = L → SlAt w0 lv 1 (ls.map fun s => [sv s]) → 1 ≤ mi → mi ≤ ls.length → ls.length ≤ 1000 → (∀ s ∈ ls, s.length ≤ 40000000) → Ret Tryd.prog 43 #[lv, .int .i64 (mi : Int), .bool wh] w0 (MemR w0 (fun v : Value => v) (fun v => [own v 9 1 ((partH sha ls mi wh).map fun s => [sv s])]) (fun _ => True)) := by
  induction L using Nat.strongRecOn
  rename_i L ih
  intro lv ls mi wh w0 hL hlv hi0 hi hln hls
  have hnb := hlv.le
  rw [List.length_map] at hnb
  refine ret_of Tryd.func43 rfl Tryd.ntmps43 (Nat.le_of_ble_eq_true rfl) fun a hfr => ?_
  replace hfr : Fr 47 [(0, _), (1, _), (2, _)] [] a := hfr
  replace hst : St No w0 [] w0 := St.init w0
  refine wc_seq_region fun K1 hK1 => ?_
  refine wl_v hfr (by decide) (v_assign rfl) ?_
  clear hfr
  intro a hfr
  refine wl_nil (hK1 _ _ ?_)
  refine wc_seq_k fun K2 hK2 => ?_
  refine wc_seq_region fun K3 hK3 => ?_
  refine wl_v hfr (by decide) (v_move rfl) ?_
  clear hfr
  intro a hfr
  refine wl_v hfr (by decide) (v_move rfl) ?_
  clear hfr
  intro a hfr
  refine wl_v hfr (by decide) ((v_len_sl (sT := 22) (hst.arg hlv) rfl rfl (Tryd.runUnderlying22 _)).asi (m' := (ls.length : Int)) (by simp)) ?_
  clear hfr
  intro a hfr
  refine wl_v hfr (by decide) (v_eq rfl rfl) ?_
  clear hfr
  intro a hfr
  refine wl_nil (hK3 _ _ ?_)
  refine wc_cond hfr rfl (fun hc1 => ?_) (fun hc1 => ?_)
  · rw [hc1] at hfr
    try simp only [Bool.not_eq_true', Bool.not_eq_false', decide_eq_true_eq, decide_eq_false_iff_not] at hc1
    obtain rfl : mi = ls.length := by omega
    refine wc_seq_k fun K4 hK4 => ?_
    refine wc_seq_region fun K5 hK5 => ?_
    refine wl_v hfr (by decide) (v_move rfl) ?_
    clear hfr
    intro a hfr
    refine wl_nil (hK5 _ _ ?_)
    refine wc_cond hfr rfl (fun hc2 => ?_) (fun hc2 => ?_)
    · rw [hc2] at hfr
      try simp only [Bool.not_eq_true', Bool.not_eq_false', decide_eq_true_eq, decide_eq_false_iff_not] at hc2
      refine wc_seq_region fun K6 hK6 => ?_
      refine wl_v hfr (by decide) (v_assign rfl) ?_
      clear hfr
      intro a hfr
      refine wl_nil (hK6 _ _ ?_)
      refine wc_ret ?_
      refine fin_ret hfr Tryd.results43 (resAre_tmp rfl resAre_nil) ?_
      have hW := (partH_end sha (l := ls) (w := wh)).trans (if_pos (by assumption))
      replace hst : St No w0 [own (.slice none 0 0) 9 1 (([] : List By).map fun s => [sv s])] w0 := hst.nil_own
      refine ⟨.slice none 0 0, rfl, trivial, hst.ext, St.out (E := [own (.slice none 0 0) 9 1 ((partH sha ls ls.length wh).map fun s => [sv s])]) (H := []) ?_⟩
      rw [show ((partH sha ls ls.length wh).map fun s => [sv s]) = (([] : List By).map fun s => [sv s]) from by first | (rw [hW]; done) | (rw [hW]; simp)]
      exact hst.select [0] (by decide)
    rw [hc2] at hfr
    try simp only [Bool.not_eq_true', Bool.not_eq_false', decide_eq_true_eq, decide_eq_false_iff_not] at hc2
    refine wc_skip ?_
    refine hK4 _ _ ?_
    refine wc_seq_region fun K7 hK7 => ?_
    refine wl_v hfr (by decide) (v_move rfl) ?_
    clear hfr
    intro a hfr
    refine wl_callp hfr hst (by decide) Tryd.call20 rfl (rroot_ok _ lv ls _ rfl (hst.arg hlv) hln hls) ?_
    clear hfr hst
    intro a w1 hfr hst
    refine wl_buildSlice (E := 9) (sz := 1) rfl [[sv (rootH sha ls)]] (by kernel_rfl) (by simp) rfl (by decide) (by decide) hfr hst ?_
    clear hfr hst
    intro a w2 hfr hst
    refine wl_v hfr (by decide) (v_assign rfl) ?_
    clear hfr
    intro a hfr
    refine wl_nil (hK7 _ _ ?_)
    replace hfr : Fr 47 [(0, _), (1, _), (2, _), (6, _)] [] a := hfr.pick [0, 1, 2, 6]
    refine wc_ret ?_
    refine fin_ret hfr Tryd.results43 (resAre_tmp rfl resAre_nil) ?_
    have hW := (partH_end sha (l := ls) (w := wh)).trans (if_neg (by simp_all))
    refine ⟨(.slice (some ⟨w1.heap.size, 0, none⟩) 1 1), rfl, trivial, hst.ext, St.out (E := [own (.slice (some ⟨w1.heap.size, 0, none⟩) 1 1) 9 1 ((partH sha ls ls.length wh).map fun s => [sv s])]) (H := []) ?_⟩
    rw [show ((partH sha ls ls.length wh).map fun s => [sv s]) = [[sv (rootH sha ls)]] from by first | (rw [hW]; done) | (rw [hW]; simp)]
    exact hst.select [0] (by decide)
  rw [hc1] at hfr
  try simp only [Bool.not_eq_true', Bool.not_eq_false', decide_eq_true_eq, decide_eq_false_iff_not] at hc1
  have hlt := lft_lt (n := ls.length) (by omega)
  have hlp := lft_pos ls.length
  refine wc_skip ?_
  refine hK2 _ _ ?_
  refine wc_seq_region fun K8 hK8 => ?_
  refine wl_v hfr (by decide) (v_move rfl) ?_
  clear hfr
  intro a hfr
  refine wl_v hfr (by decide) ((v_len_sl (sT := 22) (hst.arg hlv) rfl rfl (Tryd.runUnderlying22 _)).asi (m' := (ls.length : Int)) (by simp)) ?_
  clear hfr
  intro a hfr
  refine wl_callp hfr hst (by decide) Tryd.call42 rfl (leftr_ok ls.length _ (by omega) (by omega)) ?_
  clear hfr hst
  intro a w3 hfr hst
  refine wl_v hfr (by decide) (v_assign rfl) ?_
  clear hfr
  intro a hfr
  refine wl_nil (hK8 _ _ ?_)
  replace hfr : Fr 47 [(0, _), (1, _), (2, _), (6, _), (7, _)] [] a := hfr.pick [0, 1, 2, 6, 7]
  refine wc_seq_k fun K9 hK9 => ?_
  refine wc_seq_region fun K10 hK10 => ?_
  refine wl_v hfr (by decide) (v_move rfl) ?_
  clear hfr
  intro a hfr
  refine wl_v hfr (by decide) (v_move rfl) ?_
  clear hfr
  intro a hfr
  refine wl_v hfr (by decide) (v_le rfl rfl) ?_
  clear hfr
  intro a hfr
  refine wl_nil (hK10 _ _ ?_)
  refine wc_cond hfr rfl (fun hc3 => ?_) (fun hc3 => ?_)
  · rw [hc3] at hfr
    try simp only [Bool.not_eq_true', Bool.not_eq_false', decide_eq_true_eq, decide_eq_false_iff_not] at hc3
    have hpl := partH_len2 (l := ls.take (lft ls.length)) (mi := mi) (w := wh) (by simp only [List.length_take, List.length_drop]; omega) (by omega) (by simp only [List.length_take, List.length_drop]; omega)
    refine wc_seq_k fun K11 hK11 => ?_
    refine wc_of_dr (by kernel_rfl) (dr_of_wd (by kernel_rfl) fun w4 hxz => ?_)
    replace hst : St No w0 [] w4 := hst.grow hxz
    refine wd_sub (k := 0) 9 [5, 8] hfr (by kernel_rfl) (by kernel_rfl) (by kernel_rfl) (by rfl) ?_
    replace hfr : Fr 47 [(0, _), (1, _), (2, _), (6, _), (7, _), (19, _), (20, _), (21, _)] [] a := hfr.pick [0, 1, 2, 6, 7, 19, 20, 21]
    refine wc_phases_q [5] (fun i => match i with | 5 => pm (fun v : Value => v) (fun v => [own v 9 1 ((partH sha ((ls.take (lft ls.length))) mi wh).map fun s => [sv s])]) (fun _ => True) | _ => fun _ _ => False) 9 [[], [], [0, 1], [], [], [2, 3, 4], [], [], [6, 7]] [lv, .int .i64 (lft ls.length : Int), (cut lv 1 0 (lft ls.length) (slCap lv)), .int .i64 (mi : Int), .bool wh, undef, lv, .int .i64 (lft ls.length : Int), (cut lv 1 (lft ls.length) ls.length (slCap lv))] hfr hst (by kernel_rfl) (by kernel_rfl) (by kernel_rfl) ?_ ?_ ?_
    · intro i hi hiq
      match i, hi, hiq with
      | 0, _, _ =>
        intro w hst
        exact OpV.g (v_move rfl)
      | 1, _, _ =>
        intro w hst
        exact OpV.g (v_move rfl)
      | 2, _, _ =>
        intro w hst
        exact OpV.g (v_slice_at (l := 0) (h := (lft ls.length)) (hst.arg hlv) rfl rfl rfl Tryd.underlying22 (by kernel_rfl) (.inl ⟨rfl, rfl⟩) (.inr (by rw [show ((lft ls.length : Int) : Int) = (((lft ls.length) : Nat) : Int) from by omega] <;> rfl)) (Nat.zero_le _) (by first | (rw [List.length_map]; omega) | (simp <;> omega)))
      | 3, _, _ =>
        intro w hst
        exact OpV.g (v_move rfl)
      | 4, _, _ =>
        intro w hst
        exact OpV.g (v_move rfl)
      | 5, _, h => exact absurd (by simp) h
      | 6, _, _ =>
        intro w hst
        exact OpV.g (v_move rfl)
      | 7, _, _ =>
        intro w hst
        exact OpV.g (v_move rfl)
      | 8, _, _ =>
        intro w hst
        exact OpV.g (v_slice_at (l := (lft ls.length)) (h := ls.length) (hst.arg hlv) rfl rfl rfl Tryd.underlying22 (by kernel_rfl) (.inr (by rw [show ((lft ls.length : Int) : Int) = (((lft ls.length) : Nat) : Int) from by omega] <;> rfl)) (.inl ⟨rfl, by simp⟩) (by omega) (by simp))
    · intro i hi
      simp only [List.mem_cons, List.not_mem_nil, or_false] at hi
      subst hi
      · intro w hst
        exact g_callm Tryd.call43 rfl (ih _ (by simp only [List.length_take, List.length_drop]; omega) (cut lv 1 0 (lft ls.length) (slCap lv)) (ls.take (lft ls.length)) mi wh _ rfl ((hst.arg hlv).cut0 (h := (lft ls.length)) (by first | omega | (rw [List.length_reverse]; omega) | simp | (simp; omega))) (by omega) (by simp only [List.length_take, List.length_drop]; omega) (by simp only [List.length_take, List.length_drop]; omega) (fun s h => hls s (List.mem_of_mem_take h)))
    clear hfr hst
    rintro _ _ ⟨v4, rfl, -, rfl⟩ a w5 hfr hst
    replace hfr : Fr 47 [(22, lv), (23, .int .i64 (lft ls.length : Int)), (24, (cut lv 1 0 (lft ls.length) (slCap lv))), (25, .int .i64 (mi : Int)), (26, .bool wh), (27, _), (28, lv), (29, .int .i64 (lft ls.length : Int)), (30, (cut lv 1 (lft ls.length) ls.length (slCap lv))), (0, _), (1, _), (2, _), (6, _), (7, _), (19, _), (20, _), (21, _)] [] a := hfr
    replace hst : St No w0 [_] w5 := hst
    refine wl_nil ?_
    refine wd_lin (k := 9) 13 [12] (by kernel_rfl) (by kernel_rfl) (by kernel_rfl) ?_
    refine wl_callp hfr hst (by decide) Tryd.call20 rfl (rroot_ok _ (cut lv 1 (lft ls.length) ls.length (slCap lv)) (ls.drop (lft ls.length)) _ rfl ((hst.arg hlv).cutd (l := (lft ls.length)) (by first | omega | (rw [List.length_reverse]; omega) | simp | (simp; omega))) (by simp only [List.length_take, List.length_drop]; omega) (fun s h => hls s (List.mem_of_mem_drop h))) ?_
    clear hfr hst
    intro a w6 hfr hst
    refine wl_buildSlice (E := 9) (sz := 1) rfl [[sv (rootH sha (ls.drop (lft ls.length)))]] (by kernel_rfl) (by simp) rfl (by decide) (by decide) hfr hst ?_
    clear hfr hst
    intro a w7 hfr hst
    refine wl_append (i := 1) (sT := 22) (inf := Tryd.t9) (z := .string (⟨#[]⟩)) (b := 0) (off := 0) (m := 0) (c := 0) rfl rfl rfl (hst.ownAt (i := 0) rfl) (by simp) Tryd.underlying22 rfl rfl rfl rfl (by decide) (by simp [Value.oneCell', yv, wv, sv]) (by have hby : Tryd.t9.bytes = 16 := rfl; simp only [big, hby, List.length_append, List.length_map, List.length_cons, List.length_nil]; omega) (by have hby : Tryd.t9.bytes = 16 := rfl; simp only [big, hby, List.length_append, List.length_map, List.length_cons, List.length_nil]; omega) (by decide) hfr hst fun a w8 s5 hfr hst _ => ?_
    refine wl_v hfr (by decide) (v_assign rfl) ?_
    clear hfr
    intro a hfr
    refine wl_nil ?_
    refine wd_end (by kernel_rfl) ?_
    refine hK11 _ _ ?_
    replace hfr : Fr 47 [(0, _), (1, _), (7, _), (6, _)] [] a := hfr.pick [0, 1, 7, 6]
    replace hst : St No w0 [_] w8 := hst.mask [false, true]
    refine wc_ret ?_
    refine fin_ret hfr Tryd.results43 (resAre_tmp rfl resAre_nil) ?_
    have hW := (partH_go sha (l := ls) (m := mi) (w := wh) (by omega) (by omega)).trans (if_pos (by omega))
    refine ⟨s5, rfl, trivial, hst.ext, St.out (E := [own s5 9 1 ((partH sha ls mi wh).map fun s => [sv s])]) (H := []) ?_⟩
    rw [show ((partH sha ls mi wh).map fun s => [sv s]) = ((partH sha ((ls.take (lft ls.length))) mi wh).map fun s => [sv s]) ++ ([[sv (rootH sha (ls.drop (lft ls.length)))]]) from by first | (rw [hW]; done) | (rw [hW]; simp)]
    exact hst.select [0] (by decide)
  rw [hc3] at hfr
  try simp only [Bool.not_eq_true', Bool.not_eq_false', decide_eq_true_eq, decide_eq_false_iff_not] at hc3
  have hpl := partH_len2 (l := ls.drop (lft ls.length)) (mi := (mi - lft ls.length)) (w := false) (by simp only [List.length_take, List.length_drop]; omega) (by omega) (by simp only [List.length_take, List.length_drop]; omega)
  refine wc_skip ?_
  refine hK9 _ _ ?_
  refine wc_seq_k fun K12 hK12 => ?_
  refine wc_of_dr (by kernel_rfl) (dr_of_wd (by kernel_rfl) fun w9 hxz => ?_)
  replace hst : St No w0 [] w9 := hst.grow hxz
  refine wd_sub (k := 0) 10 [6, 9] hfr (by kernel_rfl) (by kernel_rfl) (by kernel_rfl) (by rfl) ?_
  replace hfr : Fr 47 [(0, _), (1, _), (2, _), (6, _), (7, _), (19, _), (20, _), (21, _)] [] a := hfr.pick [0, 1, 2, 6, 7, 19, 20, 21]
  refine wc_phases_q [6] (fun i => match i with | 6 => pm (fun v : Value => v) (fun v => [own v 9 1 ((partH sha ((ls.drop (lft ls.length))) (mi - lft ls.length) false).map fun s => [sv s])]) (fun _ => True) | _ => fun _ _ => False) 10 [[], [], [0, 1], [], [], [3, 4], [2, 5], [], [], [7, 8]] [lv, .int .i64 (lft ls.length : Int), (cut lv 1 (lft ls.length) ls.length (slCap lv)), .int .i64 (mi : Int), .int .i64 (lft ls.length : Int), .int .i64 ((mi - lft ls.length : Nat) : Int), undef, lv, .int .i64 (lft ls.length : Int), (cut lv 1 0 (lft ls.length) (slCap lv))] hfr hst (by kernel_rfl) (by kernel_rfl) (by kernel_rfl) ?_ ?_ ?_
  · intro i hi hiq
    match i, hi, hiq with
    | 0, _, _ =>
      intro w hst
      exact OpV.g (v_move rfl)
    | 1, _, _ =>
      intro w hst
      exact OpV.g (v_move rfl)
    | 2, _, _ =>
      intro w hst
      exact OpV.g (v_slice_at (l := (lft ls.length)) (h := ls.length) (hst.arg hlv) rfl rfl rfl Tryd.underlying22 (by kernel_rfl) (.inr (by rw [show ((lft ls.length : Int) : Int) = (((lft ls.length) : Nat) : Int) from by omega] <;> rfl)) (.inl ⟨rfl, by simp⟩) (by omega) (by simp))
    | 3, _, _ =>
      intro w hst
      exact OpV.g (v_move rfl)
    | 4, _, _ =>
      intro w hst
      exact OpV.g (v_move rfl)
    | 5, _, _ =>
      intro w hst
      exact OpV.g ((v_sub rfl rfl ⟨by omega, by omega⟩).asi (m' := ((mi - lft ls.length : Nat) : Int)) (by omega))
    | 6, _, h => exact absurd (by simp) h
    | 7, _, _ =>
      intro w hst
      exact OpV.g (v_move rfl)
    | 8, _, _ =>
      intro w hst
      exact OpV.g (v_move rfl)
    | 9, _, _ =>
      intro w hst
      exact OpV.g (v_slice_at (l := 0) (h := (lft ls.length)) (hst.arg hlv) rfl rfl rfl Tryd.underlying22 (by kernel_rfl) (.inl ⟨rfl, rfl⟩) (.inr (by rw [show ((lft ls.length : Int) : Int) = (((lft ls.length) : Nat) : Int) from by omega] <;> rfl)) (Nat.zero_le _) (by first | (rw [List.length_map]; omega) | (simp <;> omega)))
  · intro i hi
    simp only [List.mem_cons, List.not_mem_nil, or_false] at hi
    subst hi
    · intro w hst
      exact g_callm Tryd.call43 rfl (ih _ (by simp only [List.length_take, List.length_drop]; omega) (cut lv 1 (lft ls.length) ls.length (slCap lv)) (ls.drop (lft ls.length)) (mi - lft ls.length) false _ rfl ((hst.arg hlv).cutd (l := (lft ls.length)) (by first | omega | (rw [List.length_reverse]; omega) | simp | (simp; omega))) (by omega) (by simp only [List.length_take, List.length_drop]; omega) (by simp only [List.length_take, List.length_drop]; omega) (fun s h => hls s (List.mem_of_mem_drop h)))
  clear hfr hst
  rintro _ _ ⟨v6, rfl, -, rfl⟩ a w10 hfr hst
  replace hfr : Fr 47 [(34, lv), (35, .int .i64 (lft ls.length : Int)), (36, (cut lv 1 (lft ls.length) ls.length (slCap lv))), (37, .int .i64 (mi : Int)), (38, .int .i64 (lft ls.length : Int)), (39, .int .i64 ((mi - lft ls.length : Nat) : Int)), (40, _), (41, lv), (42, .int .i64 (lft ls.length : Int)), (43, (cut lv 1 0 (lft ls.length) (slCap lv))), (0, _), (1, _), (2, _), (6, _), (7, _), (19, _), (20, _), (21, _)] [] a := hfr
  replace hst : St No w0 [_] w10 := hst
  refine wl_nil ?_
  refine wd_lin (k := 10) 14 [13] (by kernel_rfl) (by kernel_rfl) (by kernel_rfl) ?_
  refine wl_callp hfr hst (by decide) Tryd.call20 rfl (rroot_ok _ (cut lv 1 0 (lft ls.length) (slCap lv)) (ls.take (lft ls.length)) _ rfl ((hst.arg hlv).cut0 (h := (lft ls.length)) (by first | omega | (rw [List.length_reverse]; omega) | simp | (simp; omega))) (by simp only [List.length_take, List.length_drop]; omega) (fun s h => hls s (List.mem_of_mem_take h))) ?_
  clear hfr hst
  intro a w11 hfr hst
  refine wl_buildSlice (E := 9) (sz := 1) rfl [[sv (rootH sha (ls.take (lft ls.length)))]] (by kernel_rfl) (by simp) rfl (by decide) (by decide) hfr hst ?_
  clear hfr hst
  intro a w12 hfr hst
  refine wl_append (i := 1) (sT := 22) (inf := Tryd.t9) (z := .string (⟨#[]⟩)) (b := 0) (off := 0) (m := 0) (c := 0) rfl rfl rfl (hst.ownAt (i := 0) rfl) (by simp) Tryd.underlying22 rfl rfl rfl rfl (by decide) (by simp [Value.oneCell', yv, wv, sv]) (by have hby : Tryd.t9.bytes = 16 := rfl; simp only [big, hby, List.length_append, List.length_map, List.length_cons, List.length_nil]; omega) (by have hby : Tryd.t9.bytes = 16 := rfl; simp only [big, hby, List.length_append, List.length_map, List.length_cons, List.length_nil]; omega) (by decide) hfr hst fun a w13 s7 hfr hst _ => ?_
  refine wl_v hfr (by decide) (v_assign rfl) ?_
  clear hfr
  intro a hfr
  refine wl_nil ?_
  refine wd_end (by kernel_rfl) ?_
  refine hK12 _ _ ?_
  replace hfr : Fr 47 [(6, _)] [] a := hfr.pick [6]
  replace hst : St No w0 [_] w13 := hst.mask [false, true]
  refine wc_ret ?_
  refine fin_ret hfr Tryd.results43 (resAre_tmp rfl resAre_nil) ?_
  have hW := (partH_go sha (l := ls) (m := mi) (w := wh) (by omega) (by omega)).trans (if_neg (by omega))
  refine ⟨s7, rfl, trivial, hst.ext, St.out (E := [own s7 9 1 ((partH sha ls mi wh).map fun s => [sv s])]) (H := []) ?_⟩
  rw [show ((partH sha ls mi wh).map fun s => [sv s]) = ((partH sha ((ls.drop (lft ls.length))) (mi - lft ls.length) false).map fun s => [sv s]) ++ ([[sv (rootH sha (ls.take (lft ls.length)))]]) from by first | (rw [hW]; done) | (rw [hW]; simp)]
  exact hst.select [0] (by decide)

/-- dialtone/dialtoneref02.Extension -/
theorem rext_err (lv : Value) (ls : List By) (i : Int) (w0 : World) (hlv : SlAt w0 lv 1 (ls.map fun s => [sv s])) (hi : i < 0 ∨ (ls.length : Int) < i) :
    Ret Tryd.prog 17 #[lv, .int .i64 i] w0 fun v w => v = .tuple #[.slice none 0 0, .int .i64 2] ∧ Ext No w0 w := by
  refine ret_of Tryd.func17 rfl Tryd.ntmps17 (Nat.le_of_ble_eq_true rfl) fun a hfr => ?_
  replace hfr : Fr 19 [(0, _), (1, _)] [] a := hfr
  replace hst : St No w0 [] w0 := St.init w0
  refine wc_seq_region fun K1 hK1 => ?_
  refine wl_v hfr (by decide) (v_assign rfl) ?_
  clear hfr
  intro a hfr
  refine wl_v hfr (by decide) (v_assign rfl) ?_
  clear hfr
  intro a hfr
  refine wl_nil (hK1 _ _ ?_)
  refine wc_seq_k fun K2 hK2 => ?_
  refine wc_seq_region fun K3 hK3 => ?_
  refine wl_v hfr (by decide) (v_move rfl) ?_
  clear hfr
  intro a hfr
  refine wl_v hfr (by decide) (v_lt rfl rfl) ?_
  clear hfr
  intro a hfr
  refine wl_v hfr (by decide) (v_move rfl) ?_
  clear hfr
  intro a hfr
  rcases Bool.eq_false_or_eq_true (decide (i < 0)) with hb1 | hb1
  · rw [hb1] at hfr
    try simp only [Bool.not_eq_true', Bool.not_eq_false', decide_eq_true_eq, decide_eq_false_iff_not] at hb1
    refine wl_vn hfr (by decide) rfl (by decide) rfl rfl ?_
    clear hfr
    intro a hfr
    refine wl_vn hfr (by decide) rfl (by decide) rfl rfl ?_
    clear hfr
    intro a hfr
    refine wl_vn hfr (by decide) rfl (by decide) rfl rfl ?_
    clear hfr
    intro a hfr
    refine wl_vn hfr (by decide) rfl (by decide) rfl rfl ?_
    clear hfr
    intro a hfr
    refine wl_v hfr (by decide) (v_pick_t rfl rfl) ?_
    clear hfr
    intro a hfr
    refine wl_nil (hK3 _ _ ?_)
    replace hfr : Fr 19 [(0, _), (1, _), (4, _), (5, _), (13, _)] [] a := hfr.pick [0, 1, 4, 5, 13]
    refine wc_cond_t hfr rfl ?_
    refine wc_seq_region fun K4 hK4 => ?_
    refine wl_v hfr (by decide) (v_assign rfl) ?_
    clear hfr
    intro a hfr
    refine wl_v hfr (by decide) (v_assign rfl) ?_
    clear hfr
    intro a hfr
    refine wl_nil (hK4 _ _ ?_)
    refine wc_ret ?_
    refine fin_ret hfr Tryd.results17 (resAre_tmp rfl (resAre_tmp rfl resAre_nil)) ?_
    exact ⟨by rfl, hst.ext⟩
  rw [hb1] at hfr
  try simp only [Bool.not_eq_true', Bool.not_eq_false', decide_eq_true_eq, decide_eq_false_iff_not] at hb1
  refine wl_vy hfr (by decide) rfl (by decide) rfl (v_move rfl) ?_
  clear hfr
  intro a hfr
  refine wl_vy hfr (by decide) rfl (by decide) rfl (v_move rfl) ?_
  clear hfr
  intro a hfr
  refine wl_vy hfr (by decide) rfl (by decide) rfl ((v_len_sl (sT := 22) (hst.arg hlv) rfl rfl (Tryd.runUnderlying22 _)).asi (m' := (ls.length : Int)) (by simp)) ?_
  clear hfr
  intro a hfr
  refine wl_vy hfr (by decide) rfl (by decide) rfl (v_gt rfl rfl) ?_
  clear hfr
  intro a hfr
  refine wl_v hfr (by decide) (v_pick_f rfl rfl) ?_
  clear hfr
  intro a hfr
  refine wl_nil (hK3 _ _ ?_)
  replace hfr : Fr 19 [(0, _), (1, _), (4, _), (5, _), (13, _)] [] a := hfr.pick [0, 1, 4, 5, 13]
  refine wc_cond hfr rfl (fun hc2 => ?_) (fun hc2 => ?_)
  · rw [hc2] at hfr
    try simp only [Bool.not_eq_true', Bool.not_eq_false', decide_eq_true_eq, decide_eq_false_iff_not] at hc2
    refine wc_seq_region fun K5 hK5 => ?_
    refine wl_v hfr (by decide) (v_assign rfl) ?_
    clear hfr
    intro a hfr
    refine wl_v hfr (by decide) (v_assign rfl) ?_
    clear hfr
    intro a hfr
    refine wl_nil (hK5 _ _ ?_)
    refine wc_ret ?_
    refine fin_ret hfr Tryd.results17 (resAre_tmp rfl (resAre_tmp rfl resAre_nil)) ?_
    exact ⟨by rfl, hst.ext⟩
  rw [hc2] at hfr
  try simp only [Bool.not_eq_true', Bool.not_eq_false', decide_eq_true_eq, decide_eq_false_iff_not] at hc2
  omega

/-- dialtone/dialtoneref02.Extension -/
theorem rext_ok (lv : Value) (ls : List By) (i : Nat) (w0 : World) (hlv : SlAt w0 lv 1 (ls.map fun s => [sv s])) (hi : i ≤ ls.length) (hln : ls.length ≤ 1000) (hls : ∀ s ∈ ls, s.length ≤ 40000000) :
    Ret Tryd.prog 17 #[lv, .int .i64 (i : Int)] w0 (MemR w0 (fun v : Value => .tuple #[v, .int .i64 0]) (fun v => [own v 9 1 ((extH sha ls i).map fun s => [sv s])]) (fun _ => True)) := by
  refine ret_of Tryd.func17 rfl Tryd.ntmps17 (Nat.le_of_ble_eq_true rfl) fun a hfr => ?_
  replace hfr : Fr 19 [(0, _), (1, _)] [] a := hfr
  replace hst : St No w0 [] w0 := St.init w0
  refine wc_seq_region fun K1 hK1 => ?_
  refine wl_v hfr (by decide) (v_assign rfl) ?_
  clear hfr
  intro a hfr
  refine wl_v hfr (by decide) (v_assign rfl) ?_
  clear hfr
  intro a hfr
  refine wl_nil (hK1 _ _ ?_)
  refine wc_seq_k fun K2 hK2 => ?_
  refine wc_seq_region fun K3 hK3 => ?_
  refine wl_v hfr (by decide) (v_move rfl) ?_
  clear hfr
  intro a hfr
  refine wl_v hfr (by decide) (v_lt rfl rfl) ?_
  clear hfr
  intro a hfr
  refine wl_v hfr (by decide) (v_move rfl) ?_
  clear hfr
  intro a hfr
  rcases Bool.eq_false_or_eq_true (decide ((i : Int) < 0)) with hb1 | hb1
  · rw [hb1] at hfr
    try simp only [Bool.not_eq_true', Bool.not_eq_false', decide_eq_true_eq, decide_eq_false_iff_not] at hb1
    omega
  rw [hb1] at hfr
  try simp only [Bool.not_eq_true', Bool.not_eq_false', decide_eq_true_eq, decide_eq_false_iff_not] at hb1
  refine wl_vy hfr (by decide) rfl (by decide) rfl (v_move rfl) ?_
  clear hfr
  intro a hfr
  refine wl_vy hfr (by decide) rfl (by decide) rfl (v_move rfl) ?_
  clear hfr
  intro a hfr
  refine wl_vy hfr (by decide) rfl (by decide) rfl ((v_len_sl (sT := 22) (hst.arg hlv) rfl rfl (Tryd.runUnderlying22 _)).asi (m' := (ls.length : Int)) (by simp)) ?_
  clear hfr
  intro a hfr
  refine wl_vy hfr (by decide) rfl (by decide) rfl (v_gt rfl rfl) ?_
  clear hfr
  intro a hfr
  refine wl_v hfr (by decide) (v_pick_f rfl rfl) ?_
  clear hfr
  intro a hfr
  refine wl_nil (hK3 _ _ ?_)
  replace hfr : Fr 19 [(0, _), (1, _), (4, _), (5, _), (13, _)] [] a := hfr.pick [0, 1, 4, 5, 13]
  refine wc_cond hfr rfl (fun hc2 => ?_) (fun hc2 => ?_)
  · rw [hc2] at hfr
    try simp only [Bool.not_eq_true', Bool.not_eq_false', decide_eq_true_eq, decide_eq_false_iff_not] at hc2
    omega
  rw [hc2] at hfr
  try simp only [Bool.not_eq_true', Bool.not_eq_false', decide_eq_true_eq, decide_eq_false_iff_not] at hc2
  refine wc_skip ?_
  refine hK2 _ _ ?_
  refine wc_seq_k fun K4 hK4 => ?_
  refine wc_seq_region fun K5 hK5 => ?_
  refine wl_v hfr (by decide) (v_move rfl) ?_
  clear hfr
  intro a hfr
  refine wl_v hfr (by decide) (v_eq rfl rfl) ?_
  clear hfr
  intro a hfr
  refine wl_nil (hK5 _ _ ?_)
  refine wc_cond hfr rfl (fun hc3 => ?_) (fun hc3 => ?_)
  · rw [hc3] at hfr
    try simp only [Bool.not_eq_true', Bool.not_eq_false', decide_eq_true_eq, decide_eq_false_iff_not] at hc3
    refine wc_seq_region fun K6 hK6 => ?_
    refine wl_v hfr (by decide) (v_assign rfl) ?_
    clear hfr
    intro a hfr
    refine wl_v hfr (by decide) (v_assign rfl) ?_
    clear hfr
    intro a hfr
    refine wl_nil (hK6 _ _ ?_)
    refine wc_ret ?_
    refine fin_ret hfr Tryd.results17 (resAre_tmp rfl (resAre_tmp rfl resAre_nil)) ?_
    have hW := (show extH sha ls i = [] from if_pos (by omega))
    replace hst : St No w0 [own (.slice none 0 0) 9 1 (([] : List By).map fun s => [sv s])] w0 := hst.nil_own
    refine ⟨.slice none 0 0, rfl, trivial, hst.ext, St.out (E := [own (.slice none 0 0) 9 1 ((extH sha ls i).map fun s => [sv s])]) (H := []) ?_⟩
    rw [show ((extH sha ls i).map fun s => [sv s]) = (([] : List By).map fun s => [sv s]) from by first | (rw [hW]; done) | (rw [hW]; simp)]
    exact hst.select [0] (by decide)
  rw [hc3] at hfr
  try simp only [Bool.not_eq_true', Bool.not_eq_false', decide_eq_true_eq, decide_eq_false_iff_not] at hc3
  refine wc_skip ?_
  refine hK4 _ _ ?_
  refine wc_seq_region fun K7 hK7 => ?_
  refine wl_v hfr (by decide) (v_move rfl) ?_
  clear hfr
  intro a hfr
  refine wl_v hfr (by decide) (v_move rfl) ?_
  clear hfr
  intro a hfr
  refine wl_callm hfr hst (by decide) Tryd.call43 rfl (rpart_ok _ lv ls i true _ rfl (hst.arg hlv) (by omega) (by omega) hln hls) ?_
  clear hfr hst
  intro a w1 x5 hp hfr hst
  revert x5 hp hfr hst; rintro v4 hp hfr hst
  clear hp
  replace hst : St No w0 [own v4 9 1 ((partH sha ls i true).map fun s => [sv s])] w1 := hst
  refine wl_v hfr (by decide) (v_assign rfl) ?_
  clear hfr
  intro a hfr
  refine wl_v hfr (by decide) (v_assign rfl) ?_
  clear hfr
  intro a hfr
  refine wl_nil (hK7 _ _ ?_)
  replace hfr : Fr 19 [(4, _), (5, _)] [] a := hfr.pick [4, 5]
  refine wc_ret ?_
  refine fin_ret hfr Tryd.results17 (resAre_tmp rfl (resAre_tmp rfl resAre_nil)) ?_
  have hW := (show extH sha ls i = partH sha ls i true from if_neg (by omega))
  refine ⟨v4, rfl, trivial, hst.ext, St.out (E := [own v4 9 1 ((extH sha ls i).map fun s => [sv s])]) (H := []) ?_⟩
  rw [show ((extH sha ls i).map fun s => [sv s]) = ((partH sha ls i true).map fun s => [sv s]) from by first | (rw [hW]; done) | (rw [hW]; simp)]
  exact hst.select [0] (by decide)
end Go.Proofs.YtmcoolbjgeibcaaDoor
namespace Go.Proofs.YtmcoolbjgeibcaaDoor
open Go.RowKit Go.PW
set_option linter.unusedVariables false
set_option linter.unusedSimpArgs false
set_option maxRecDepth 4000

theorem value_le : ∀ (p : List By) (n i : Nat) (s : By), (valueH sha n i s p).1.length ≤ 32 := by
  intro p n i s
  by_cases h : n ≤ 1
  · rw [valueH_one sha h]; exact Nat.le_of_eq (sha_len _)
  · by_cases hp : p.length = 0
    · rw [List.eq_nil_of_length_eq_zero hp, valueH_nil sha (by omega)]; simp
    · by_cases hi : i < lft n
      · rw [value_left (by omega) (by omega) hi]; exact Nat.le_of_eq (sha_len _)
      · rw [value_right (by omega) (by omega) (by omega)]; exact Nat.le_of_eq (sha_len _)
theorem both_le {old : By} (ho : old.length = 32) : ∀ (p : List By) (m n : Nat) (w : Bool), (∀ x ∈ p, x.length = 32) → (bothH sha old m n p w).1.length ≤ 32 ∧ (bothH sha old m n p w).2.1.length ≤ 32 := by
  intro p
  induction hL : p.length generalizing p with
  | zero =>
    intro m n w hp
    obtain rfl : p = [] := List.eq_nil_of_length_eq_zero hL
    by_cases h : m = n
    · subst h; rw [bothH_end]; cases w <;> simp [endH, ho]
    · rw [bothH_nil sha h]; simp
  | succ k ih =>
    intro m n w hp
    by_cases h : m = n
    · subst h; rw [bothH_end]
      cases w with
      | true => simp [ho]
      | false =>
        match p, hp with
        | [x], hp => simp [endH, hp x (by simp)]
        | [], _ => simp [endH]
        | _ :: _ :: _, _ => simp [endH]
    · have hk : (p.take (p.length - 1)).length = k := by rw [List.length_take]; omega
      have hp' : ∀ x ∈ p.take (p.length - 1), x.length = 32 := fun x hx => hp x (List.mem_of_mem_take hx)
      by_cases hi : m ≤ lft n
      · rw [both_left h (by omega) hi]
        exact ⟨(ih _ hk m (lft n) w hp').1, Nat.le_of_eq (sha_len _)⟩
      · rw [both_right h (by omega) hi]
        exact ⟨Nat.le_of_eq (sha_len _), Nat.le_of_eq (sha_len _)⟩
theorem empty_dec (p : List By) : p.isEmpty = decide ((p.length : Int) - 1 < 0) := by
  rw [isEmpty_len, Bool.eq_iff_iff, decide_eq_true_eq, decide_eq_true_eq]; omega

set_option maxHeartbeats 4000000 in
/-- dialtone/dialtoneref02.value -/
theorem rvalue_ok (s : By) (hs : s.length ≤ 40000000) (L : Nat) :
    ∀ (n i : Nat) (lv : Value) (ls : List By) (w0 : World), ls.length = L → SlAt w0 lv 1 (ls.map fun s => [sv s]) → i < n → n ≤ 9223372036854775807 → (∀ x ∈ ls, x.length = 32) → Ret Tryd.prog 50 #[.int .i64 (n : Int), .int .i64 (i : Int), sv s, lv] w0 fun v w => v = .tuple #[sv (valueH sha n i s ls).1, .bool (valueH sha n i s ls).2] ∧ Ext No w0 w := by
  induction L using Nat.strongRecOn
  rename_i L ih
  intro n i lv ls w0 hL hlv hi hn hls
  have hnb := hlv.le
  rw [List.length_map] at hnb
  refine ret_of Tryd.func50 rfl Tryd.ntmps50 (Nat.le_of_ble_eq_true rfl) fun a hfr => ?_
  replace hfr : Fr 70 [(0, _), (1, _), (2, _), (3, _)] [] a := hfr
  replace hst : St No w0 [] w0 := St.init w0
  refine wc_seq_region fun K1 hK1 => ?_
  refine wl_v hfr (by decide) (v_assign rfl) ?_
  clear hfr
  intro a hfr
  refine wl_v hfr (by decide) (v_assign rfl) ?_
  clear hfr
  intro a hfr
  refine wl_nil (hK1 _ _ ?_)
  refine wc_seq_region fun K2 hK2 => ?_
  refine wl_v hfr (by decide) (v_move rfl) ?_
  clear hfr
  intro a hfr
  refine wl_v hfr (by decide) ((v_len_sl (sT := 22) (hst.arg hlv) rfl rfl (Tryd.runUnderlying22 _)).asi (m' := (ls.length : Int)) (by simp)) ?_
  clear hfr
  intro a hfr
  refine wl_v hfr (by decide) (v_sub rfl rfl ⟨by omega, by omega⟩) ?_
  clear hfr
  intro a hfr
  refine wl_v hfr (by decide) (v_assign rfl) ?_
  clear hfr
  intro a hfr
  refine wl_nil (hK2 _ _ ?_)
  refine wc_seq_k fun K3 hK3 => ?_
  refine wc_seq_region fun K4 hK4 => ?_
  refine wl_v hfr (by decide) (v_move rfl) ?_
  clear hfr
  intro a hfr
  refine wl_v hfr (by decide) (v_eq rfl rfl) ?_
  clear hfr
  intro a hfr
  refine wl_nil (hK4 _ _ ?_)
  refine wc_cond hfr rfl (fun hc1 => ?_) (fun hc1 => ?_)
  · rw [hc1] at hfr
    try simp only [Bool.not_eq_true', Bool.not_eq_false', decide_eq_true_eq, decide_eq_false_iff_not] at hc1
    refine wc_seq_region fun K5 hK5 => ?_
    refine wl_v hfr (by decide) (v_move rfl) ?_
    clear hfr
    intro a hfr
    refine wl_callp hfr hst (by decide) Tryd.call34 rfl (rleaf_ok s _ (by omega)) ?_
    clear hfr hst
    intro a w1 hfr hst
    refine wl_v hfr (by decide) (v_move rfl) ?_
    clear hfr
    intro a hfr
    refine wl_v hfr (by decide) (v_lt rfl rfl) ?_
    clear hfr
    intro a hfr
    refine wl_v hfr (by decide) (v_assign rfl) ?_
    clear hfr
    intro a hfr
    refine wl_v hfr (by decide) (v_assign rfl) ?_
    clear hfr
    intro a hfr
    refine wl_nil (hK5 _ _ ?_)
    replace hfr : Fr 70 [(0, _), (1, _), (2, _), (3, _), (10, _), (8, _), (9, _)] [] a := hfr.pick [0, 1, 2, 3, 10, 8, 9]
    refine wc_ret ?_
    refine fin_ret hfr Tryd.results50 (resAre_tmp rfl (resAre_tmp rfl resAre_nil)) ?_
    exact ⟨by simp only [retv]; rw [valueH_one sha (by omega), empty_dec], hst.ext⟩
  rw [hc1] at hfr
  try simp only [Bool.not_eq_true', Bool.not_eq_false', decide_eq_true_eq, decide_eq_false_iff_not] at hc1
  refine wc_skip ?_
  refine hK3 _ _ ?_
  refine wc_seq_k fun K6 hK6 => ?_
  refine wc_seq_region fun K7 hK7 => ?_
  refine wl_v hfr (by decide) (v_move rfl) ?_
  clear hfr
  intro a hfr
  refine wl_v hfr (by decide) (v_lt rfl rfl) ?_
  clear hfr
  intro a hfr
  refine wl_nil (hK7 _ _ ?_)
  replace hfr : Fr 70 [(0, _), (1, _), (2, _), (3, _), (8, _), (9, _), (10, _), (26, _)] [] a := hfr.pick [0, 1, 2, 3, 8, 9, 10, 26]
  refine wc_cond hfr rfl (fun hc2 => ?_) (fun hc2 => ?_)
  · rw [hc2] at hfr
    try simp only [Bool.not_eq_true', Bool.not_eq_false', decide_eq_true_eq, decide_eq_false_iff_not] at hc2
    refine wc_seq_region fun K8 hK8 => ?_
    refine wl_v hfr (by decide) (v_assign rfl) ?_
    clear hfr
    intro a hfr
    refine wl_v hfr (by decide) (v_assign rfl) ?_
    clear hfr
    intro a hfr
    refine wl_nil (hK8 _ _ ?_)
    refine wc_ret ?_
    refine fin_ret hfr Tryd.results50 (resAre_tmp rfl (resAre_tmp rfl resAre_nil)) ?_
    exact ⟨by simp only [retv]; rw [show ls = [] from List.eq_nil_of_length_eq_zero (by omega), valueH_nil sha (by omega)]; rfl, hst.ext⟩
  rw [hc2] at hfr
  try simp only [Bool.not_eq_true', Bool.not_eq_false', decide_eq_true_eq, decide_eq_false_iff_not] at hc2
  have hlt := lft_lt (n := n) (by omega)
  have hlp := lft_pos n
  have hx32 := hls _ (getD_mem (d := []) (show ls.length - 1 < ls.length by omega))
  refine wc_skip ?_
  refine hK6 _ _ ?_
  refine wc_seq_region fun K9 hK9 => ?_
  refine wl_v hfr (by decide) (v_move rfl) ?_
  clear hfr
  intro a hfr
  refine wl_callp hfr hst (by decide) Tryd.call42 rfl (leftr_ok n _ (by omega) (by omega)) ?_
  clear hfr hst
  intro a w2 hfr hst
  refine wl_v hfr (by decide) (v_assign rfl) ?_
  clear hfr
  intro a hfr
  refine wl_nil (hK9 _ _ ?_)
  refine wc_seq_k fun K10 hK10 => ?_
  refine wc_seq_region fun K11 hK11 => ?_
  refine wl_v hfr (by decide) (v_move rfl) ?_
  clear hfr
  intro a hfr
  refine wl_v hfr (by decide) (v_move rfl) ?_
  clear hfr
  intro a hfr
  refine wl_v hfr (by decide) (v_lt rfl rfl) ?_
  clear hfr
  intro a hfr
  refine wl_nil (hK11 _ _ ?_)
  refine wc_cond hfr rfl (fun hc3 => ?_) (fun hc3 => ?_)
  · rw [hc3] at hfr
    try simp only [Bool.not_eq_true', Bool.not_eq_false', decide_eq_true_eq, decide_eq_false_iff_not] at hc3
    refine wc_seq_region fun K12 hK12 => ?_
    refine wl_v hfr (by decide) (v_move rfl) ?_
    clear hfr
    intro a hfr
    refine wl_v hfr (by decide) (v_move rfl) ?_
    clear hfr
    intro a hfr
    refine wl_v hfr (by decide) (v_move rfl) ?_
    clear hfr
    intro a hfr
    refine wl_v hfr (by decide) (v_move rfl) ?_
    clear hfr
    intro a hfr
    refine wl_v hfr (by decide) (v_move rfl) ?_
    clear hfr
    intro a hfr
    refine wl_v hfr (by decide) (v_slice_at (l := 0) (h := (ls.length - 1)) (hst.arg hlv) rfl rfl rfl Tryd.underlying22 (by kernel_rfl) (.inl ⟨rfl, rfl⟩) (.inr (by rw [show ((ls.length : Int) - 1 : Int) = (((ls.length - 1) : Nat) : Int) from by omega] <;> rfl)) (Nat.zero_le _) (by first | (rw [List.length_map]; omega) | (simp <;> omega))) ?_
    clear hfr
    intro a hfr
    refine wl_callp hfr hst (by decide) Tryd.call50 rfl (ih _ (by rw [List.length_take]; omega) (lft n) i (cut lv 1 0 (ls.length - 1) (slCap lv)) (ls.take (ls.length - 1)) _ rfl ((hst.arg hlv).cut0 (h := (ls.length - 1)) (by first | omega | (rw [List.length_reverse]; omega) | simp | (simp; omega))) (by omega) (by omega) (fun x h => hls x (List.mem_of_mem_take h))) ?_
    clear hfr hst
    intro a w3 hfr hst
    have hvl := value_le (ls.take (ls.length - 1)) (lft n) i s
    refine wl_v hfr (by decide) (v_move rfl) ?_
    clear hfr
    intro a hfr
    refine wl_v hfr (by decide) (v_extract rfl rfl) ?_
    clear hfr
    intro a hfr
    refine wl_v hfr (by decide) (v_extract rfl rfl) ?_
    clear hfr
    intro a hfr
    refine wl_v hfr (by decide) (v_assign rfl) ?_
    clear hfr
    intro a hfr
    refine wl_v hfr (by decide) (v_assign rfl) ?_
    clear hfr
    intro a hfr
    refine wl_nil (hK12 _ _ ?_)
    replace hfr : Fr 70 [(0, _), (1, _), (2, _), (3, _), (8, _), (9, _), (10, _), (11, _), (12, _), (13, _)] [] a := hfr.pick [0, 1, 2, 3, 8, 9, 10, 11, 12, 13]
    refine wc_seq_region fun K13 hK13 => ?_
    refine wl_v hfr (by decide) (v_move rfl) ?_
    clear hfr
    intro a hfr
    refine wl_v hfr (by decide) (v_move rfl) ?_
    clear hfr
    intro a hfr
    refine wl_v hfr (by decide) (v_move rfl) ?_
    clear hfr
    intro a hfr
    refine wl_v hfr (by decide) ((v_indexAddr_sl (i := (ls.length : Int) - 1) (sT := 22) (hst.arg hlv) rfl rfl (Tryd.runUnderlying22 _) (Tryd.sizeOf9 _) (by omega) (by rw [List.length_map]; omega)).as (v' := slAddr lv ((ls.length - 1) * 1)) (by rw [show ((ls.length : Int) - 1).toNat = (ls.length - 1) from by omega])) ?_
    clear hfr
    intro a hfr
    refine wl_v hfr (by decide) (v_load_sl1 (u := sv (ls.getD (ls.length - 1) [])) (i := (ls.length - 1)) (j := 0) (hst.arg hlv) (by rw [List.length_map]; omega) rfl (Tryd.isAgg9 _) (by simp [List.getD_eq_getElem?_getD, List.getElem?_eq_getElem (show (ls.length - 1) < ls.length by omega)])) ?_
    clear hfr
    intro a hfr
    refine wl_callp hfr hst (by decide) Tryd.call35 rfl (rnode_ok ((valueH sha (lft n) i s (ls.take (ls.length - 1))).1) (ls.getD (ls.length - 1) []) _ (by omega) (by omega)) ?_
    clear hfr hst
    intro a w4 hfr hst
    refine wl_v hfr (by decide) (v_move rfl) ?_
    clear hfr
    intro a hfr
    refine wl_v hfr (by decide) (v_assign rfl) ?_
    clear hfr
    intro a hfr
    refine wl_v hfr (by decide) (v_assign rfl) ?_
    clear hfr
    intro a hfr
    refine wl_nil (hK13 _ _ ?_)
    replace hfr : Fr 70 [(0, _), (1, _), (2, _), (3, _), (10, _), (11, _), (8, _), (9, _)] [] a := hfr.pick [0, 1, 2, 3, 10, 11, 8, 9]
    refine wc_ret ?_
    refine fin_ret hfr Tryd.results50 (resAre_tmp rfl (resAre_tmp rfl resAre_nil)) ?_
    exact ⟨by simp only [retv]; rw [value_left (p := ls) (by omega) (by omega) (by omega)]; rfl, hst.ext⟩
  rw [hc3] at hfr
  try simp only [Bool.not_eq_true', Bool.not_eq_false', decide_eq_true_eq, decide_eq_false_iff_not] at hc3
  refine wc_skip ?_
  refine hK10 _ _ ?_
  refine wc_seq_region fun K14 hK14 => ?_
  refine wl_v hfr (by decide) (v_move rfl) ?_
  clear hfr
  intro a hfr
  refine wl_v hfr (by decide) (v_move rfl) ?_
  clear hfr
  intro a hfr
  refine wl_v hfr (by decide) ((v_sub rfl rfl ⟨by omega, by omega⟩).asi (m' := ((n - lft n : Nat) : Int)) (by omega)) ?_
  clear hfr
  intro a hfr
  refine wl_v hfr (by decide) (v_move rfl) ?_
  clear hfr
  intro a hfr
  refine wl_v hfr (by decide) (v_move rfl) ?_
  clear hfr
  intro a hfr
  refine wl_v hfr (by decide) ((v_sub rfl rfl ⟨by omega, by omega⟩).asi (m' := ((i - lft n : Nat) : Int)) (by omega)) ?_
  clear hfr
  intro a hfr
  refine wl_v hfr (by decide) (v_move rfl) ?_
  clear hfr
  intro a hfr
  refine wl_v hfr (by decide) (v_move rfl) ?_
  clear hfr
  intro a hfr
  refine wl_v hfr (by decide) (v_move rfl) ?_
  clear hfr
  intro a hfr
  refine wl_v hfr (by decide) (v_slice_at (l := 0) (h := (ls.length - 1)) (hst.arg hlv) rfl rfl rfl Tryd.underlying22 (by kernel_rfl) (.inl ⟨rfl, rfl⟩) (.inr (by rw [show ((ls.length : Int) - 1 : Int) = (((ls.length - 1) : Nat) : Int) from by omega] <;> rfl)) (Nat.zero_le _) (by first | (rw [List.length_map]; omega) | (simp <;> omega))) ?_
  clear hfr
  intro a hfr
  refine wl_callp hfr hst (by decide) Tryd.call50 rfl (ih _ (by rw [List.length_take]; omega) (n - lft n) (i - lft n) (cut lv 1 0 (ls.length - 1) (slCap lv)) (ls.take (ls.length - 1)) _ rfl ((hst.arg hlv).cut0 (h := (ls.length - 1)) (by first | omega | (rw [List.length_reverse]; omega) | simp | (simp; omega))) (by omega) (by omega) (fun x h => hls x (List.mem_of_mem_take h))) ?_
  clear hfr hst
  intro a w5 hfr hst
  have hvl := value_le (ls.take (ls.length - 1)) (n - lft n) (i - lft n) s
  refine wl_v hfr (by decide) (v_move rfl) ?_
  clear hfr
  intro a hfr
  refine wl_v hfr (by decide) (v_extract rfl rfl) ?_
  clear hfr
  intro a hfr
  refine wl_v hfr (by decide) (v_extract rfl rfl) ?_
  clear hfr
  intro a hfr
  refine wl_v hfr (by decide) (v_assign rfl) ?_
  clear hfr
  intro a hfr
  refine wl_v hfr (by decide) (v_assign rfl) ?_
  clear hfr
  intro a hfr
  refine wl_nil (hK14 _ _ ?_)
  replace hfr : Fr 70 [(3, _), (8, _), (9, _), (10, _), (14, _), (15, _)] [] a := hfr.pick [3, 8, 9, 10, 14, 15]
  refine wc_seq_region fun K15 hK15 => ?_
  refine wl_v hfr (by decide) (v_move rfl) ?_
  clear hfr
  intro a hfr
  refine wl_v hfr (by decide) (v_move rfl) ?_
  clear hfr
  intro a hfr
  refine wl_v hfr (by decide) ((v_indexAddr_sl (i := (ls.length : Int) - 1) (sT := 22) (hst.arg hlv) rfl rfl (Tryd.runUnderlying22 _) (Tryd.sizeOf9 _) (by omega) (by rw [List.length_map]; omega)).as (v' := slAddr lv ((ls.length - 1) * 1)) (by rw [show ((ls.length : Int) - 1).toNat = (ls.length - 1) from by omega])) ?_
  clear hfr
  intro a hfr
  refine wl_v hfr (by decide) (v_load_sl1 (u := sv (ls.getD (ls.length - 1) [])) (i := (ls.length - 1)) (j := 0) (hst.arg hlv) (by rw [List.length_map]; omega) rfl (Tryd.isAgg9 _) (by simp [List.getD_eq_getElem?_getD, List.getElem?_eq_getElem (show (ls.length - 1) < ls.length by omega)])) ?_
  clear hfr
  intro a hfr
  refine wl_v hfr (by decide) (v_move rfl) ?_
  clear hfr
  intro a hfr
  refine wl_callp hfr hst (by decide) Tryd.call35 rfl (rnode_ok (ls.getD (ls.length - 1) []) ((valueH sha (n - lft n) (i - lft n) s (ls.take (ls.length - 1))).1) _ (by omega) (by omega)) ?_
  clear hfr hst
  intro a w6 hfr hst
  refine wl_v hfr (by decide) (v_move rfl) ?_
  clear hfr
  intro a hfr
  refine wl_v hfr (by decide) (v_assign rfl) ?_
  clear hfr
  intro a hfr
  refine wl_v hfr (by decide) (v_assign rfl) ?_
  clear hfr
  intro a hfr
  refine wl_nil (hK15 _ _ ?_)
  replace hfr : Fr 70 [(8, _), (9, _)] [] a := hfr.pick [8, 9]
  refine wc_ret ?_
  refine fin_ret hfr Tryd.results50 (resAre_tmp rfl (resAre_tmp rfl resAre_nil)) ?_
  exact ⟨by simp only [retv]; rw [value_right (p := ls) (by omega) (by omega) (by omega)]; rfl, hst.ext⟩

theorem verify_go {root : By} {n i : Nat} {s : By} {p : List By} (h1 : i < n) (hall : (p.all fun x => decide (x.length = 32)) = true) : verifyH sha root n i s p = ((valueH sha n i s p).2 && decide ((valueH sha n i s p).1 = root)) := by
  unfold verifyH; rw [hall, Int.toNat_natCast, Int.toNat_natCast]; simp [h1]

set_option maxHeartbeats 4000000 in
/-- dialtone/dialtoneref02.Verify -/
theorem rverify_ok (root s : By) (n i : Int) (lv : Value) (ls : List By) (w0 : World) (hlv : SlAt w0 lv 1 (ls.map fun s => [sv s])) (hs : s.length ≤ 40000000) (hn : n ≤ 9223372036854775807) :
    Ret Tryd.prog 22 #[sv root, .int .i64 n, .int .i64 i, sv s, lv] w0 fun v w => v = .bool (verifyH sha root n i s ls) ∧ Ext No w0 w := by
  refine ret_of Tryd.func22 rfl Tryd.ntmps22 (Nat.le_of_ble_eq_true rfl) fun a hfr => ?_
  replace hfr : Fr 41 [(0, _), (1, _), (2, _), (3, _), (4, _)] [] a := hfr
  replace hst : St No w0 [] w0 := St.init w0
  refine wc_seq_region fun K1 hK1 => ?_
  refine wl_v hfr (by decide) (v_assign rfl) ?_
  clear hfr
  intro a hfr
  refine wl_nil (hK1 _ _ ?_)
  refine wc_seq_region fun K2 hK2 => ?_
  refine wl_v hfr (by decide) (v_move rfl) ?_
  clear hfr
  intro a hfr
  refine wl_callp hfr hst (by decide) Tryd.call49 rfl (digests_ok lv ls _ (hst.arg hlv)) ?_
  clear hfr hst
  intro a w1 hfr hst
  refine wl_v hfr (by decide) (v_assign rfl) ?_
  clear hfr
  intro a hfr
  refine wl_nil (hK2 _ _ ?_)
  refine wc_seq_k fun K3 hK3 => ?_
  refine wc_seq_region fun K4 hK4 => ?_
  refine wl_v hfr (by decide) (v_move rfl) ?_
  clear hfr
  intro a hfr
  refine wl_v hfr (by decide) (v_lt rfl rfl) ?_
  clear hfr
  intro a hfr
  refine wl_v hfr (by decide) (v_move rfl) ?_
  clear hfr
  intro a hfr
  rcases Bool.eq_false_or_eq_true (decide (i < 0)) with hb1 | hb1
  · rw [hb1] at hfr
    try simp only [Bool.not_eq_true', Bool.not_eq_false', decide_eq_true_eq, decide_eq_false_iff_not] at hb1
    refine wl_vn hfr (by decide) rfl (by decide) rfl rfl ?_
    clear hfr
    intro a hfr
    refine wl_vn hfr (by decide) rfl (by decide) rfl rfl ?_
    clear hfr
    intro a hfr
    refine wl_vn hfr (by decide) rfl (by decide) rfl rfl ?_
    clear hfr
    intro a hfr
    refine wl_v hfr (by decide) (v_pick_t rfl rfl) ?_
    clear hfr
    intro a hfr
    refine wl_v hfr (by decide) (v_move rfl) ?_
    clear hfr
    intro a hfr
    refine wl_vn hfr (by decide) rfl (by decide) rfl rfl ?_
    clear hfr
    intro a hfr
    refine wl_vn hfr (by decide) rfl (by decide) rfl rfl ?_
    clear hfr
    intro a hfr
    refine wl_v hfr (by decide) (v_pick_t rfl rfl) ?_
    clear hfr
    intro a hfr
    refine wl_nil (hK4 _ _ ?_)
    replace hfr : Fr 41 [(0, _), (1, _), (2, _), (3, _), (4, _), (10, _), (26, _)] [] a := hfr.pick [0, 1, 2, 3, 4, 10, 26]
    refine wc_cond_t hfr rfl ?_
    refine wc_seq_region fun K5 hK5 => ?_
    refine wl_v hfr (by decide) (v_assign rfl) ?_
    clear hfr
    intro a hfr
    refine wl_nil (hK5 _ _ ?_)
    refine wc_ret ?_
    refine fin_ret hfr Tryd.results22 (resAre_tmp rfl resAre_nil) ?_
    exact ⟨by simp only [retv]; rw [verify_bad (by rintro ⟨h1, h2, h3⟩; first | omega | simp_all)], hst.ext⟩
  rw [hb1] at hfr
  try simp only [Bool.not_eq_true', Bool.not_eq_false', decide_eq_true_eq, decide_eq_false_iff_not] at hb1
  refine wl_vy hfr (by decide) rfl (by decide) rfl (v_move rfl) ?_
  clear hfr
  intro a hfr
  refine wl_vy hfr (by decide) rfl (by decide) rfl (v_move rfl) ?_
  clear hfr
  intro a hfr
  refine wl_vy hfr (by decide) rfl (by decide) rfl (v_ge rfl rfl) ?_
  clear hfr
  intro a hfr
  refine wl_v hfr (by decide) (v_pick_f rfl rfl) ?_
  clear hfr
  intro a hfr
  refine wl_v hfr (by decide) (v_move rfl) ?_
  clear hfr
  intro a hfr
  rcases Bool.eq_false_or_eq_true (decide (n ≤ i)) with hb2 | hb2
  · rw [hb2] at hfr
    try simp only [Bool.not_eq_true', Bool.not_eq_false', decide_eq_true_eq, decide_eq_false_iff_not] at hb2
    refine wl_vn hfr (by decide) rfl (by decide) rfl rfl ?_
    clear hfr
    intro a hfr
    refine wl_vn hfr (by decide) rfl (by decide) rfl rfl ?_
    clear hfr
    intro a hfr
    refine wl_v hfr (by decide) (v_pick_t rfl rfl) ?_
    clear hfr
    intro a hfr
    refine wl_nil (hK4 _ _ ?_)
    replace hfr : Fr 41 [(0, _), (1, _), (2, _), (3, _), (4, _), (10, _), (26, _)] [] a := hfr.pick [0, 1, 2, 3, 4, 10, 26]
    refine wc_cond_t hfr rfl ?_
    refine wc_seq_region fun K6 hK6 => ?_
    refine wl_v hfr (by decide) (v_assign rfl) ?_
    clear hfr
    intro a hfr
    refine wl_nil (hK6 _ _ ?_)
    refine wc_ret ?_
    refine fin_ret hfr Tryd.results22 (resAre_tmp rfl resAre_nil) ?_
    exact ⟨by simp only [retv]; rw [verify_bad (by rintro ⟨h1, h2, h3⟩; first | omega | simp_all)], hst.ext⟩
  rw [hb2] at hfr
  try simp only [Bool.not_eq_true', Bool.not_eq_false', decide_eq_true_eq, decide_eq_false_iff_not] at hb2
  refine wl_vy hfr (by decide) rfl (by decide) rfl (v_move rfl) ?_
  clear hfr
  intro a hfr
  refine wl_vy hfr (by decide) rfl (by decide) rfl (v_not rfl) ?_
  clear hfr
  intro a hfr
  refine wl_v hfr (by decide) (v_pick_f rfl rfl) ?_
  clear hfr
  intro a hfr
  refine wl_nil (hK4 _ _ ?_)
  replace hfr : Fr 41 [(0, _), (1, _), (2, _), (3, _), (4, _), (10, _), (26, _)] [] a := hfr.pick [0, 1, 2, 3, 4, 10, 26]
  refine wc_cond hfr rfl (fun hc3 => ?_) (fun hc3 => ?_)
  · rw [hc3] at hfr
    try simp only [Bool.not_eq_true', Bool.not_eq_false', decide_eq_true_eq, decide_eq_false_iff_not] at hc3
    refine wc_seq_region fun K7 hK7 => ?_
    refine wl_v hfr (by decide) (v_assign rfl) ?_
    clear hfr
    intro a hfr
    refine wl_nil (hK7 _ _ ?_)
    refine wc_ret ?_
    refine fin_ret hfr Tryd.results22 (resAre_tmp rfl resAre_nil) ?_
    exact ⟨by simp only [retv]; rw [verify_bad (by rintro ⟨h1, h2, h3⟩; first | omega | simp_all)], hst.ext⟩
  rw [hc3] at hfr
  try simp only [Bool.not_eq_true', Bool.not_eq_false', decide_eq_true_eq, decide_eq_false_iff_not] at hc3
  have hall := hc3
  refine wc_skip ?_
  refine hK3 _ _ ?_
  obtain ⟨nn, rfl⟩ := Int.eq_ofNat_of_zero_le (show 0 ≤ n by omega)
  obtain ⟨ii, rfl⟩ := Int.eq_ofNat_of_zero_le (show 0 ≤ i by omega)
  refine wc_seq_region fun K8 hK8 => ?_
  refine wl_v hfr (by decide) (v_move rfl) ?_
  clear hfr
  intro a hfr
  refine wl_v hfr (by decide) (v_move rfl) ?_
  clear hfr
  intro a hfr
  refine wl_v hfr (by decide) (v_move rfl) ?_
  clear hfr
  intro a hfr
  refine wl_v hfr (by decide) (v_move rfl) ?_
  clear hfr
  intro a hfr
  refine wl_callp hfr hst (by decide) Tryd.call50 rfl (rvalue_ok s hs _ nn ii lv ls _ rfl (hst.arg hlv) (by omega) (by omega) (all32 hall)) ?_
  clear hfr hst
  intro a w2 hfr hst
  refine wl_v hfr (by decide) (v_move rfl) ?_
  clear hfr
  intro a hfr
  refine wl_v hfr (by decide) (v_extract rfl rfl) ?_
  clear hfr
  intro a hfr
  refine wl_v hfr (by decide) (v_extract rfl rfl) ?_
  clear hfr
  intro a hfr
  refine wl_v hfr (by decide) (v_assign rfl) ?_
  clear hfr
  intro a hfr
  refine wl_v hfr (by decide) (v_assign rfl) ?_
  clear hfr
  intro a hfr
  refine wl_nil (hK8 _ _ ?_)
  replace hfr : Fr 41 [(0, _), (10, _), (12, _), (13, _)] [] a := hfr.pick [0, 10, 12, 13]
  refine wc_seq_region fun K9 hK9 => ?_
  refine wl_v hfr (by decide) (v_move rfl) ?_
  clear hfr
  intro a hfr
  refine wl_v hfr (by decide) (v_move rfl) ?_
  clear hfr
  intro a hfr
  rcases Bool.eq_false_or_eq_true ((valueH sha nn ii s ls).2) with hb4 | hb4
  · rw [hb4] at hfr
    try simp only [Bool.not_eq_true', Bool.not_eq_false', decide_eq_true_eq, decide_eq_false_iff_not] at hb4
    refine wl_vy hfr (by decide) rfl (by decide) rfl (v_move rfl) ?_
    clear hfr
    intro a hfr
    refine wl_vy hfr (by decide) rfl (by decide) rfl (v_move rfl) ?_
    clear hfr
    intro a hfr
    refine wl_vy hfr (by decide) rfl (by decide) rfl (v_seq rfl rfl) ?_
    clear hfr
    intro a hfr
    refine wl_v hfr (by decide) (v_pick_t rfl rfl) ?_
    clear hfr
    intro a hfr
    refine wl_v hfr (by decide) (v_assign rfl) ?_
    clear hfr
    intro a hfr
    refine wl_nil (hK9 _ _ ?_)
    replace hfr : Fr 41 [(10, _)] [] a := hfr.pick [10]
    refine wc_ret ?_
    refine fin_ret hfr Tryd.results22 (resAre_tmp rfl resAre_nil) ?_
    exact ⟨by simp only [retv]; rw [verify_go (by omega) hall, hb4, Bool.true_and], hst.ext⟩
  rw [hb4] at hfr
  try simp only [Bool.not_eq_true', Bool.not_eq_false', decide_eq_true_eq, decide_eq_false_iff_not] at hb4
  refine wl_vn hfr (by decide) rfl (by decide) rfl rfl ?_
  clear hfr
  intro a hfr
  refine wl_vn hfr (by decide) rfl (by decide) rfl rfl ?_
  clear hfr
  intro a hfr
  refine wl_vn hfr (by decide) rfl (by decide) rfl rfl ?_
  clear hfr
  intro a hfr
  refine wl_v hfr (by decide) (v_pick_f rfl rfl) ?_
  clear hfr
  intro a hfr
  refine wl_v hfr (by decide) (v_assign rfl) ?_
  clear hfr
  intro a hfr
  refine wl_nil (hK9 _ _ ?_)
  replace hfr : Fr 41 [(10, _)] [] a := hfr.pick [10]
  refine wc_ret ?_
  refine fin_ret hfr Tryd.results22 (resAre_tmp rfl resAre_nil) ?_
  exact ⟨by simp only [retv]; rw [verify_go (by omega) hall, hb4, Bool.false_and], hst.ext⟩

theorem endH_not {p : List By} (h : p.length ≠ 1) : endH p = ([], [], false) := by
  match p, h with
  | [], _ => rfl
  | _ :: _ :: _, _ => rfl
  | [_], h => exact absurd rfl h
theorem endH_one {p : List By} (h : p.length = 1) : endH p = (p.getD 0 [], p.getD 0 [], true) := by
  match p, h with
  | [x], _ => rfl

set_option maxHeartbeats 4000000 in
/-- dialtone/dialtoneref02.both -/
theorem rboth_ok (old : By) (hold : old.length = 32) (L : Nat) :
    ∀ (m n : Nat) (lv : Value) (ls : List By) (wh : Bool) (w0 : World), ls.length = L → SlAt w0 lv 1 (ls.map fun s => [sv s]) → 1 ≤ m → m ≤ n → n ≤ 9223372036854775807 → (∀ x ∈ ls, x.length = 32) → Ret Tryd.prog 52 #[sv old, .int .i64 (m : Int), .int .i64 (n : Int), lv, .bool wh] w0 fun v w => v = .tuple #[sv (bothH sha old m n ls wh).1, sv (bothH sha old m n ls wh).2.1, .bool (bothH sha old m n ls wh).2.2] ∧ Ext No w0 w := by
  induction L using Nat.strongRecOn
  rename_i L ih
  intro m n lv ls wh w0 hL hlv hm hmn hn hls
  have hnb := hlv.le
  rw [List.length_map] at hnb
  refine ret_of Tryd.func52 rfl Tryd.ntmps52 (Nat.le_of_ble_eq_true rfl) fun a hfr => ?_
  replace hfr : Fr 95 [(0, _), (1, _), (2, _), (3, _), (4, _)] [] a := hfr
  replace hst : St No w0 [] w0 := St.init w0
  refine wc_seq_region fun K1 hK1 => ?_
  refine wl_v hfr (by decide) (v_assign rfl) ?_
  clear hfr
  intro a hfr
  refine wl_v hfr (by decide) (v_assign rfl) ?_
  clear hfr
  intro a hfr
  refine wl_v hfr (by decide) (v_assign rfl) ?_
  clear hfr
  intro a hfr
  refine wl_nil (hK1 _ _ ?_)
  refine wc_seq_region fun K2 hK2 => ?_
  refine wl_v hfr (by decide) (v_move rfl) ?_
  clear hfr
  intro a hfr
  refine wl_v hfr (by decide) ((v_len_sl (sT := 22) (hst.arg hlv) rfl rfl (Tryd.runUnderlying22 _)).asi (m' := (ls.length : Int)) (by simp)) ?_
  clear hfr
  intro a hfr
  refine wl_v hfr (by decide) (v_sub rfl rfl ⟨by omega, by omega⟩) ?_
  clear hfr
  intro a hfr
  refine wl_v hfr (by decide) (v_assign rfl) ?_
  clear hfr
  intro a hfr
  refine wl_nil (hK2 _ _ ?_)
  refine wc_seq_k fun K3 hK3 => ?_
  refine wc_seq_region fun K4 hK4 => ?_
  refine wl_v hfr (by decide) (v_move rfl) ?_
  clear hfr
  intro a hfr
  refine wl_v hfr (by decide) (v_move rfl) ?_
  clear hfr
  intro a hfr
  refine wl_v hfr (by decide) (v_eq rfl rfl) ?_
  clear hfr
  intro a hfr
  refine wl_nil (hK4 _ _ ?_)
  refine wc_cond hfr rfl (fun hc1 => ?_) (fun hc1 => ?_)
  · rw [hc1] at hfr
    try simp only [Bool.not_eq_true', Bool.not_eq_false', decide_eq_true_eq, decide_eq_false_iff_not] at hc1
    obtain rfl : m = n := by omega
    refine wc_seq_k fun K5 hK5 => ?_
    refine wc_seq_region fun K6 hK6 => ?_
    refine wl_v hfr (by decide) (v_move rfl) ?_
    clear hfr
    intro a hfr
    refine wl_nil (hK6 _ _ ?_)
    replace hfr : Fr 95 [(0, _), (1, _), (2, _), (3, _), (4, _), (10, _), (11, _), (12, _), (13, _), (27, _)] [] a := hfr.pick [0, 1, 2, 3, 4, 10, 11, 12, 13, 27]
    refine wc_cond hfr rfl (fun hc2 => ?_) (fun hc2 => ?_)
    · rw [hc2] at hfr
      try simp only [Bool.not_eq_true', Bool.not_eq_false', decide_eq_true_eq, decide_eq_false_iff_not] at hc2
      refine wc_seq_region fun K7 hK7 => ?_
      refine wl_v hfr (by decide) (v_move rfl) ?_
      clear hfr
      intro a hfr
      refine wl_v hfr (by decide) (v_move rfl) ?_
      clear hfr
      intro a hfr
      refine wl_v hfr (by decide) (v_move rfl) ?_
      clear hfr
      intro a hfr
      refine wl_v hfr (by decide) (v_lt rfl rfl) ?_
      clear hfr
      intro a hfr
      refine wl_v hfr (by decide) (v_assign rfl) ?_
      clear hfr
      intro a hfr
      refine wl_v hfr (by decide) (v_assign rfl) ?_
      clear hfr
      intro a hfr
      refine wl_v hfr (by decide) (v_assign rfl) ?_
      clear hfr
      intro a hfr
      refine wl_nil (hK7 _ _ ?_)
      refine wc_ret ?_
      refine fin_ret hfr Tryd.results52 (resAre_tmp rfl (resAre_tmp rfl (resAre_tmp rfl resAre_nil))) ?_
      exact ⟨by simp only [retv]; rw [bothH_end, if_pos (by assumption), empty_dec], hst.ext⟩
    rw [hc2] at hfr
    try simp only [Bool.not_eq_true', Bool.not_eq_false', decide_eq_true_eq, decide_eq_false_iff_not] at hc2
    refine wc_skip ?_
    refine hK5 _ _ ?_
    refine wc_seq_k fun K8 hK8 => ?_
    refine wc_seq_region fun K9 hK9 => ?_
    refine wl_v hfr (by decide) (v_move rfl) ?_
    clear hfr
    intro a hfr
    refine wl_v hfr (by decide) (v_ne rfl rfl) ?_
    clear hfr
    intro a hfr
    refine wl_nil (hK9 _ _ ?_)
    refine wc_cond hfr rfl (fun hc3 => ?_) (fun hc3 => ?_)
    · rw [hc3] at hfr
      try simp only [Bool.not_eq_true', Bool.not_eq_false', decide_eq_true_eq, decide_eq_false_iff_not] at hc3
      refine wc_seq_region fun K10 hK10 => ?_
      refine wl_v hfr (by decide) (v_assign rfl) ?_
      clear hfr
      intro a hfr
      refine wl_v hfr (by decide) (v_assign rfl) ?_
      clear hfr
      intro a hfr
      refine wl_v hfr (by decide) (v_assign rfl) ?_
      clear hfr
      intro a hfr
      refine wl_nil (hK10 _ _ ?_)
      refine wc_ret ?_
      refine fin_ret hfr Tryd.results52 (resAre_tmp rfl (resAre_tmp rfl (resAre_tmp rfl resAre_nil))) ?_
      exact ⟨by simp only [retv]; rw [bothH_end, if_neg (by simp_all), endH_not (by omega)]; rfl, hst.ext⟩
    rw [hc3] at hfr
    try simp only [Bool.not_eq_true', Bool.not_eq_false', decide_eq_true_eq, decide_eq_false_iff_not] at hc3
    refine wc_skip ?_
    refine hK8 _ _ ?_
    refine wc_seq_k fun K11 hK11 => ?_
    refine wc_of_dr (by kernel_rfl) (dr_of_wd (by kernel_rfl) fun w1 hxz => ?_)
    replace hst : St No w0 [] w1 := hst.grow hxz
    refine wd_sub (k := 0) 7 [5, 6] hfr (by kernel_rfl) (by kernel_rfl) (by kernel_rfl) (by rfl) ?_
    replace hfr : Fr 95 [(0, _), (1, _), (2, _), (3, _), (4, _), (11, _), (12, _), (13, _), (27, _), (32, _), (33, _)] [] a := hfr.pick [0, 1, 2, 3, 4, 11, 12, 13, 27, 32, 33]
    refine wc_phases_q [] (fun i => match i with | _ => fun _ _ => False) 7 [[], [0], [1], [], [3], [4], [2]] [lv, slAddr lv (0 * 1), sv (ls.getD 0 []), lv, slAddr lv (0 * 1), sv (ls.getD 0 []), sv (ls.getD 0 [])] hfr hst (by kernel_rfl) (by kernel_rfl) (by kernel_rfl) ?_ ?_ ?_
    · intro i hi hiq
      match i, hi, hiq with
      | 0, _, _ =>
        intro w hst
        exact OpV.g (v_move rfl)
      | 1, _, _ =>
        intro w hst
        exact OpV.g ((v_indexAddr_sl (i := 0) (sT := 22) (hst.arg hlv) rfl rfl (Tryd.runUnderlying22 _) (Tryd.sizeOf9 _) (by omega) (by rw [List.length_map]; omega)).as (v' := slAddr lv (0 * 1)) rfl)
      | 2, _, _ =>
        intro w hst
        exact OpV.g (v_load_sl1 (u := sv (ls.getD 0 [])) (i := 0) (j := 0) (hst.arg hlv) (by rw [List.length_map]; omega) rfl (Tryd.isAgg9 _) (by simp [List.getD_eq_getElem?_getD, List.getElem?_eq_getElem (show 0 < ls.length by omega)]))
      | 3, _, _ =>
        intro w hst
        exact OpV.g (v_move rfl)
      | 4, _, _ =>
        intro w hst
        exact OpV.g ((v_indexAddr_sl (i := 0) (sT := 22) (hst.arg hlv) rfl rfl (Tryd.runUnderlying22 _) (Tryd.sizeOf9 _) (by omega) (by rw [List.length_map]; omega)).as (v' := slAddr lv (0 * 1)) rfl)
      | 5, _, _ =>
        intro w hst
        exact OpV.g (v_load_sl1 (u := sv (ls.getD 0 [])) (i := 0) (j := 0) (hst.arg hlv) (by rw [List.length_map]; omega) rfl (Tryd.isAgg9 _) (by simp [List.getD_eq_getElem?_getD, List.getElem?_eq_getElem (show 0 < ls.length by omega)]))
      | 6, _, _ =>
        intro w hst
        exact OpV.g (v_assign rfl)
    · intro i hi
      exact absurd hi (by simp)
    clear hfr hst
    intro  a w2 hfr hst
    replace hfr : Fr 95 [(34, lv), (35, slAddr lv (0 * 1)), (36, sv (ls.getD 0 [])), (37, lv), (38, slAddr lv (0 * 1)), (39, sv (ls.getD 0 [])), (10, sv (ls.getD 0 [])), (0, _), (1, _), (2, _), (3, _), (4, _), (11, _), (12, _), (13, _), (27, _), (32, _), (33, _)] [] a := hfr
    refine wl_nil ?_
    refine wd_lin (k := 7) 9 [8] (by kernel_rfl) (by kernel_rfl) (by kernel_rfl) ?_
    refine wl_v hfr (by decide) (v_assign rfl) ?_
    clear hfr
    intro a hfr
    refine wl_v hfr (by decide) (v_assign rfl) ?_
    clear hfr
    intro a hfr
    refine wl_nil ?_
    refine wd_end (by kernel_rfl) ?_
    refine hK11 _ _ ?_
    replace hfr : Fr 95 [(0, _), (1, _), (2, _), (3, _), (4, _), (13, _), (10, _), (11, _), (12, _)] [] a := hfr.pick [0, 1, 2, 3, 4, 13, 10, 11, 12]
    refine wc_ret ?_
    refine fin_ret hfr Tryd.results52 (resAre_tmp rfl (resAre_tmp rfl (resAre_tmp rfl resAre_nil))) ?_
    exact ⟨by simp only [retv]; rw [bothH_end, if_neg (by simp_all), endH_one (by omega)], hst.ext⟩
  rw [hc1] at hfr
  try simp only [Bool.not_eq_true', Bool.not_eq_false', decide_eq_true_eq, decide_eq_false_iff_not] at hc1
  refine wc_skip ?_
  refine hK3 _ _ ?_
  refine wc_seq_k fun K12 hK12 => ?_
  refine wc_seq_region fun K13 hK13 => ?_
  refine wl_v hfr (by decide) (v_move rfl) ?_
  clear hfr
  intro a hfr
  refine wl_v hfr (by decide) (v_lt rfl rfl) ?_
  clear hfr
  intro a hfr
  refine wl_nil (hK13 _ _ ?_)
  replace hfr : Fr 95 [(0, _), (1, _), (2, _), (3, _), (4, _), (10, _), (11, _), (12, _), (13, _), (41, _)] [] a := hfr.pick [0, 1, 2, 3, 4, 10, 11, 12, 13, 41]
  refine wc_cond hfr rfl (fun hc4 => ?_) (fun hc4 => ?_)
  · rw [hc4] at hfr
    try simp only [Bool.not_eq_true', Bool.not_eq_false', decide_eq_true_eq, decide_eq_false_iff_not] at hc4
    refine wc_seq_region fun K14 hK14 => ?_
    refine wl_v hfr (by decide) (v_assign rfl) ?_
    clear hfr
    intro a hfr
    refine wl_v hfr (by decide) (v_assign rfl) ?_
    clear hfr
    intro a hfr
    refine wl_v hfr (by decide) (v_assign rfl) ?_
    clear hfr
    intro a hfr
    refine wl_nil (hK14 _ _ ?_)
    refine wc_ret ?_
    refine fin_ret hfr Tryd.results52 (resAre_tmp rfl (resAre_tmp rfl (resAre_tmp rfl resAre_nil))) ?_
    exact ⟨by simp only [retv]; rw [show ls = [] from List.eq_nil_of_length_eq_zero (by omega), bothH_nil sha (by omega)]; rfl, hst.ext⟩
  rw [hc4] at hfr
  try simp only [Bool.not_eq_true', Bool.not_eq_false', decide_eq_true_eq, decide_eq_false_iff_not] at hc4
  have hlt := lft_lt (n := n) (by omega)
  have hlp := lft_pos n
  have hx32 := hls _ (getD_mem (d := []) (show ls.length - 1 < ls.length by omega))
  refine wc_skip ?_
  refine hK12 _ _ ?_
  refine wc_seq_region fun K15 hK15 => ?_
  refine wl_v hfr (by decide) (v_move rfl) ?_
  clear hfr
  intro a hfr
  refine wl_callp hfr hst (by decide) Tryd.call42 rfl (leftr_ok n _ (by omega) (by omega)) ?_
  clear hfr hst
  intro a w3 hfr hst
  refine wl_v hfr (by decide) (v_assign rfl) ?_
  clear hfr
  intro a hfr
  refine wl_nil (hK15 _ _ ?_)
  refine wc_seq_k fun K16 hK16 => ?_
  refine wc_seq_region fun K17 hK17 => ?_
  refine wl_v hfr (by decide) (v_move rfl) ?_
  clear hfr
  intro a hfr
  refine wl_v hfr (by decide) (v_move rfl) ?_
  clear hfr
  intro a hfr
  refine wl_v hfr (by decide) (v_le rfl rfl) ?_
  clear hfr
  intro a hfr
  refine wl_nil (hK17 _ _ ?_)
  refine wc_cond hfr rfl (fun hc5 => ?_) (fun hc5 => ?_)
  · rw [hc5] at hfr
    try simp only [Bool.not_eq_true', Bool.not_eq_false', decide_eq_true_eq, decide_eq_false_iff_not] at hc5
    refine wc_seq_region fun K18 hK18 => ?_
    refine wl_v hfr (by decide) (v_move rfl) ?_
    clear hfr
    intro a hfr
    refine wl_v hfr (by decide) (v_move rfl) ?_
    clear hfr
    intro a hfr
    refine wl_v hfr (by decide) (v_move rfl) ?_
    clear hfr
    intro a hfr
    refine wl_v hfr (by decide) (v_move rfl) ?_
    clear hfr
    intro a hfr
    refine wl_v hfr (by decide) (v_move rfl) ?_
    clear hfr
    intro a hfr
    refine wl_v hfr (by decide) (v_slice_at (l := 0) (h := (ls.length - 1)) (hst.arg hlv) rfl rfl rfl Tryd.underlying22 (by kernel_rfl) (.inl ⟨rfl, rfl⟩) (.inr (by rw [show ((ls.length : Int) - 1 : Int) = (((ls.length - 1) : Nat) : Int) from by omega] <;> rfl)) (Nat.zero_le _) (by first | (rw [List.length_map]; omega) | (simp <;> omega))) ?_
    clear hfr
    intro a hfr
    refine wl_v hfr (by decide) (v_move rfl) ?_
    clear hfr
    intro a hfr
    refine wl_callp hfr hst (by decide) Tryd.call52 rfl (ih _ (by rw [List.length_take]; omega) m (lft n) (cut lv 1 0 (ls.length - 1) (slCap lv)) (ls.take (ls.length - 1)) wh _ rfl ((hst.arg hlv).cut0 (h := (ls.length - 1)) (by first | omega | (rw [List.length_reverse]; omega) | simp | (simp; omega))) (by omega) (by omega) (by omega) (fun x h => hls x (List.mem_of_mem_take h))) ?_
    clear hfr hst
    intro a w4 hfr hst
    obtain ⟨hvl1, hvl2⟩ := both_le hold (ls.take (ls.length - 1)) m (lft n) wh (fun x h => hls x (List.mem_of_mem_take h))
    refine wl_v hfr (by decide) (v_move rfl) ?_
    clear hfr
    intro a hfr
    refine wl_v hfr (by decide) (v_extract rfl rfl) ?_
    clear hfr
    intro a hfr
    refine wl_v hfr (by decide) (v_extract rfl rfl) ?_
    clear hfr
    intro a hfr
    refine wl_v hfr (by decide) (v_extract rfl rfl) ?_
    clear hfr
    intro a hfr
    refine wl_v hfr (by decide) (v_assign rfl) ?_
    clear hfr
    intro a hfr
    refine wl_v hfr (by decide) (v_assign rfl) ?_
    clear hfr
    intro a hfr
    refine wl_v hfr (by decide) (v_assign rfl) ?_
    clear hfr
    intro a hfr
    refine wl_nil (hK18 _ _ ?_)
    replace hfr : Fr 95 [(0, _), (1, _), (2, _), (3, _), (10, _), (11, _), (12, _), (13, _), (14, _), (15, _), (16, _), (17, _)] [] a := hfr.pick [0, 1, 2, 3, 10, 11, 12, 13, 14, 15, 16, 17]
    refine wc_seq_region fun K19 hK19 => ?_
    refine wl_v hfr (by decide) (v_move rfl) ?_
    clear hfr
    intro a hfr
    refine wl_v hfr (by decide) (v_move rfl) ?_
    clear hfr
    intro a hfr
    refine wl_v hfr (by decide) (v_move rfl) ?_
    clear hfr
    intro a hfr
    refine wl_v hfr (by decide) (v_move rfl) ?_
    clear hfr
    intro a hfr
    refine wl_v hfr (by decide) ((v_indexAddr_sl (i := (ls.length : Int) - 1) (sT := 22) (hst.arg hlv) rfl rfl (Tryd.runUnderlying22 _) (Tryd.sizeOf9 _) (by omega) (by rw [List.length_map]; omega)).as (v' := slAddr lv ((ls.length - 1) * 1)) (by rw [show ((ls.length : Int) - 1).toNat = (ls.length - 1) from by omega])) ?_
    clear hfr
    intro a hfr
    refine wl_v hfr (by decide) (v_load_sl1 (u := sv (ls.getD (ls.length - 1) [])) (i := (ls.length - 1)) (j := 0) (hst.arg hlv) (by rw [List.length_map]; omega) rfl (Tryd.isAgg9 _) (by simp [List.getD_eq_getElem?_getD, List.getElem?_eq_getElem (show (ls.length - 1) < ls.length by omega)])) ?_
    clear hfr
    intro a hfr
    refine wl_callp hfr hst (by decide) Tryd.call35 rfl (rnode_ok ((bothH sha old m (lft n) (ls.take (ls.length - 1)) wh).2.1) (ls.getD (ls.length - 1) []) _ (by omega) (by omega)) ?_
    clear hfr hst
    intro a w5 hfr hst
    refine wl_v hfr (by decide) (v_move rfl) ?_
    clear hfr
    intro a hfr
    refine wl_v hfr (by decide) (v_assign rfl) ?_
    clear hfr
    intro a hfr
    refine wl_v hfr (by decide) (v_assign rfl) ?_
    clear hfr
    intro a hfr
    refine wl_v hfr (by decide) (v_assign rfl) ?_
    clear hfr
    intro a hfr
    refine wl_nil (hK19 _ _ ?_)
    replace hfr : Fr 95 [(0, _), (1, _), (2, _), (3, _), (13, _), (14, _), (10, _), (11, _), (12, _)] [] a := hfr.pick [0, 1, 2, 3, 13, 14, 10, 11, 12]
    refine wc_ret ?_
    refine fin_ret hfr Tryd.results52 (resAre_tmp rfl (resAre_tmp rfl (resAre_tmp rfl resAre_nil))) ?_
    exact ⟨by simp only [retv]; rw [both_left (p := ls) (by omega) (by omega) (by omega)]; rfl, hst.ext⟩
  rw [hc5] at hfr
  try simp only [Bool.not_eq_true', Bool.not_eq_false', decide_eq_true_eq, decide_eq_false_iff_not] at hc5
  refine wc_skip ?_
  refine hK16 _ _ ?_
  refine wc_seq_region fun K20 hK20 => ?_
  refine wl_v hfr (by decide) (v_move rfl) ?_
  clear hfr
  intro a hfr
  refine wl_v hfr (by decide) (v_move rfl) ?_
  clear hfr
  intro a hfr
  refine wl_v hfr (by decide) (v_move rfl) ?_
  clear hfr
  intro a hfr
  refine wl_v hfr (by decide) ((v_sub rfl rfl ⟨by omega, by omega⟩).asi (m' := ((m - lft n : Nat) : Int)) (by omega)) ?_
  clear hfr
  intro a hfr
  refine wl_v hfr (by decide) (v_move rfl) ?_
  clear hfr
  intro a hfr
  refine wl_v hfr (by decide) (v_move rfl) ?_
  clear hfr
  intro a hfr
  refine wl_v hfr (by decide) ((v_sub rfl rfl ⟨by omega, by omega⟩).asi (m' := ((n - lft n : Nat) : Int)) (by omega)) ?_
  clear hfr
  intro a hfr
  refine wl_v hfr (by decide) (v_move rfl) ?_
  clear hfr
  intro a hfr
  refine wl_v hfr (by decide) (v_move rfl) ?_
  clear hfr
  intro a hfr
  refine wl_v hfr (by decide) (v_slice_at (l := 0) (h := (ls.length - 1)) (hst.arg hlv) rfl rfl rfl Tryd.underlying22 (by kernel_rfl) (.inl ⟨rfl, rfl⟩) (.inr (by rw [show ((ls.length : Int) - 1 : Int) = (((ls.length - 1) : Nat) : Int) from by omega] <;> rfl)) (Nat.zero_le _) (by first | (rw [List.length_map]; omega) | (simp <;> omega))) ?_
  clear hfr
  intro a hfr
  refine wl_callp hfr hst (by decide) Tryd.call52 rfl (ih _ (by rw [List.length_take]; omega) (m - lft n) (n - lft n) (cut lv 1 0 (ls.length - 1) (slCap lv)) (ls.take (ls.length - 1)) false _ rfl ((hst.arg hlv).cut0 (h := (ls.length - 1)) (by first | omega | (rw [List.length_reverse]; omega) | simp | (simp; omega))) (by omega) (by omega) (by omega) (fun x h => hls x (List.mem_of_mem_take h))) ?_
  clear hfr hst
  intro a w6 hfr hst
  obtain ⟨hvl1, hvl2⟩ := both_le hold (ls.take (ls.length - 1)) (m - lft n) (n - lft n) false (fun x h => hls x (List.mem_of_mem_take h))
  refine wl_v hfr (by decide) (v_move rfl) ?_
  clear hfr
  intro a hfr
  refine wl_v hfr (by decide) (v_extract rfl rfl) ?_
  clear hfr
  intro a hfr
  refine wl_v hfr (by decide) (v_extract rfl rfl) ?_
  clear hfr
  intro a hfr
  refine wl_v hfr (by decide) (v_extract rfl rfl) ?_
  clear hfr
  intro a hfr
  refine wl_v hfr (by decide) (v_assign rfl) ?_
  clear hfr
  intro a hfr
  refine wl_v hfr (by decide) (v_assign rfl) ?_
  clear hfr
  intro a hfr
  refine wl_v hfr (by decide) (v_assign rfl) ?_
  clear hfr
  intro a hfr
  refine wl_nil (hK20 _ _ ?_)
  replace hfr : Fr 95 [(3, _), (10, _), (11, _), (12, _), (13, _), (18, _), (19, _), (20, _)] [] a := hfr.pick [3, 10, 11, 12, 13, 18, 19, 20]
  refine wc_seq_k fun K21 hK21 => ?_
  refine wc_of_dr (by kernel_rfl) (dr_of_wd (by kernel_rfl) fun w7 hxz => ?_)
  replace hst : St No w0 [] w7 := hst.grow hxz
  refine wd_sub (k := 0) 15 [12, 14] hfr (by kernel_rfl) (by kernel_rfl) (by kernel_rfl) (by rfl) ?_
  replace hfr : Fr 95 [(3, _), (12, _), (13, _), (18, _), (19, _), (20, _)] [] a := hfr.pick [3, 12, 13, 18, 19, 20]
  refine wc_phases_q [] (fun i => match i with | _ => fun _ _ => False) 15 [[], [], [0, 1], [2], [], [3, 4], [], [], [6, 7], [8], [], [9, 10], [], [5], [11]] [lv, .int .i64 ((ls.length : Int) - 1), slAddr lv ((ls.length - 1) * 1), sv (ls.getD (ls.length - 1) []), sv ((bothH sha old (m - lft n) (n - lft n) (ls.take (ls.length - 1)) false).1), sv (nodeH sha (ls.getD (ls.length - 1) []) ((bothH sha old (m - lft n) (n - lft n) (ls.take (ls.length - 1)) false).1)), lv, .int .i64 ((ls.length : Int) - 1), slAddr lv ((ls.length - 1) * 1), sv (ls.getD (ls.length - 1) []), sv ((bothH sha old (m - lft n) (n - lft n) (ls.take (ls.length - 1)) false).2.1), sv (nodeH sha (ls.getD (ls.length - 1) []) ((bothH sha old (m - lft n) (n - lft n) (ls.take (ls.length - 1)) false).2.1)), .bool ((bothH sha old (m - lft n) (n - lft n) (ls.take (ls.length - 1)) false).2.2), sv (nodeH sha (ls.getD (ls.length - 1) []) ((bothH sha old (m - lft n) (n - lft n) (ls.take (ls.length - 1)) false).1)), sv (nodeH sha (ls.getD (ls.length - 1) []) ((bothH sha old (m - lft n) (n - lft n) (ls.take (ls.length - 1)) false).2.1))] hfr hst (by kernel_rfl) (by kernel_rfl) (by kernel_rfl) ?_ ?_ ?_
  · intro i hi hiq
    match i, hi, hiq with
    | 0, _, _ =>
      intro w hst
      exact OpV.g (v_move rfl)
    | 1, _, _ =>
      intro w hst
      exact OpV.g (v_move rfl)
    | 2, _, _ =>
      intro w hst
      exact OpV.g ((v_indexAddr_sl (i := (ls.length : Int) - 1) (sT := 22) (hst.arg hlv) rfl rfl (Tryd.runUnderlying22 _) (Tryd.sizeOf9 _) (by omega) (by rw [List.length_map]; omega)).as (v' := slAddr lv ((ls.length - 1) * 1)) (by rw [show ((ls.length : Int) - 1).toNat = (ls.length - 1) from by omega]))
    | 3, _, _ =>
      intro w hst
      exact OpV.g (v_load_sl1 (u := sv (ls.getD (ls.length - 1) [])) (i := (ls.length - 1)) (j := 0) (hst.arg hlv) (by rw [List.length_map]; omega) rfl (Tryd.isAgg9 _) (by simp [List.getD_eq_getElem?_getD, List.getElem?_eq_getElem (show (ls.length - 1) < ls.length by omega)]))
    | 4, _, _ =>
      intro w hst
      exact OpV.g (v_move rfl)
    | 5, _, _ =>
      intro w hst
      exact g_callp Tryd.call35 rfl (rnode_ok (ls.getD (ls.length - 1) []) ((bothH sha old (m - lft n) (n - lft n) (ls.take (ls.length - 1)) false).1) _ (by omega) (by omega))
    | 6, _, _ =>
      intro w hst
      exact OpV.g (v_move rfl)
    | 7, _, _ =>
      intro w hst
      exact OpV.g (v_move rfl)
    | 8, _, _ =>
      intro w hst
      exact OpV.g ((v_indexAddr_sl (i := (ls.length : Int) - 1) (sT := 22) (hst.arg hlv) rfl rfl (Tryd.runUnderlying22 _) (Tryd.sizeOf9 _) (by omega) (by rw [List.length_map]; omega)).as (v' := slAddr lv ((ls.length - 1) * 1)) (by rw [show ((ls.length : Int) - 1).toNat = (ls.length - 1) from by omega]))
    | 9, _, _ =>
      intro w hst
      exact OpV.g (v_load_sl1 (u := sv (ls.getD (ls.length - 1) [])) (i := (ls.length - 1)) (j := 0) (hst.arg hlv) (by rw [List.length_map]; omega) rfl (Tryd.isAgg9 _) (by simp [List.getD_eq_getElem?_getD, List.getElem?_eq_getElem (show (ls.length - 1) < ls.length by omega)]))
    | 10, _, _ =>
      intro w hst
      exact OpV.g (v_move rfl)
    | 11, _, _ =>
      intro w hst
      exact g_callp Tryd.call35 rfl (rnode_ok (ls.getD (ls.length - 1) []) ((bothH sha old (m - lft n) (n - lft n) (ls.take (ls.length - 1)) false).2.1) _ (by omega) (by omega))
    | 12, _, _ =>
      intro w hst
      exact OpV.g (v_move rfl)
    | 13, _, _ =>
      intro w hst
      exact OpV.g (v_assign rfl)
    | 14, _, _ =>
      intro w hst
      exact OpV.g (v_assign rfl)
    | i + 15, h, _ => exact absurd h (by omega)
  · intro i hi
    exact absurd hi (by simp)
  clear hfr hst
  intro  a w8 hfr hst
  replace hfr : Fr 95 [(82, lv), (83, .int .i64 ((ls.length : Int) - 1)), (84, slAddr lv ((ls.length - 1) * 1)), (85, sv (ls.getD (ls.length - 1) [])), (86, sv ((bothH sha old (m - lft n) (n - lft n) (ls.take (ls.length - 1)) false).1)), (87, sv (nodeH sha (ls.getD (ls.length - 1) []) ((bothH sha old (m - lft n) (n - lft n) (ls.take (ls.length - 1)) false).1))), (88, lv), (89, .int .i64 ((ls.length : Int) - 1)), (90, slAddr lv ((ls.length - 1) * 1)), (91, sv (ls.getD (ls.length - 1) [])), (92, sv ((bothH sha old (m - lft n) (n - lft n) (ls.take (ls.length - 1)) false).2.1)), (93, sv (nodeH sha (ls.getD (ls.length - 1) []) ((bothH sha old (m - lft n) (n - lft n) (ls.take (ls.length - 1)) false).2.1))), (94, .bool ((bothH sha old (m - lft n) (n - lft n) (ls.take (ls.length - 1)) false).2.2)), (10, sv (nodeH sha (ls.getD (ls.length - 1) []) ((bothH sha old (m - lft n) (n - lft n) (ls.take (ls.length - 1)) false).1))), (11, sv (nodeH sha (ls.getD (ls.length - 1) []) ((bothH sha old (m - lft n) (n - lft n) (ls.take (ls.length - 1)) false).2.1))), (3, _), (12, _), (13, _), (18, _), (19, _), (20, _)] [] a := hfr
  refine wl_nil ?_
  refine wd_lin (k := 15) 16 [15] (by kernel_rfl) (by kernel_rfl) (by kernel_rfl) ?_
  refine wl_v hfr (by decide) (v_assign rfl) ?_
  clear hfr
  intro a hfr
  refine wl_nil ?_
  refine wd_end (by kernel_rfl) ?_
  refine hK21 _ _ ?_
  replace hfr : Fr 95 [(10, _), (11, _), (12, _)] [] a := hfr.pick [10, 11, 12]
  refine wc_ret ?_
  refine fin_ret hfr Tryd.results52 (resAre_tmp rfl (resAre_tmp rfl (resAre_tmp rfl resAre_nil))) ?_
  exact ⟨by simp only [retv]; rw [both_right (p := ls) (by omega) (by omega) (by omega)]; rfl, hst.ext⟩

theorem vx_loop {old root : By} {m n : Nat} {p : List By} (hall : (p.all fun x => decide (x.length = 32)) = true) (ho : old.length = 32) (hr : root.length = 32) (h0 : 1 ≤ m) (hmn : m < n) : verifyExtH sha old m root n p = ((bothH sha old m n p true).2.2 && decide ((bothH sha old m n p true).1 = old) && decide ((bothH sha old m n p true).2.1 = root)) := by
  rw [vx_go hall ho hr (by omega) (by omega), if_neg (by omega), if_neg (by omega), Int.toNat_natCast, Int.toNat_natCast]

set_option maxHeartbeats 4000000 in
/-- dialtone/dialtoneref02.VerifyExtension -/
theorem rverifyx_ok (old root : By) (m n : Int) (lv : Value) (ls : List By) (w0 : World) (hlv : SlAt w0 lv 1 (ls.map fun s => [sv s])) (hn : n ≤ 9223372036854775807) :
    Ret Tryd.prog 24 #[sv old, .int .i64 m, sv root, .int .i64 n, lv] w0 fun v w => v = .bool (verifyExtH sha old m root n ls) ∧ Ext No w0 w := by
  refine ret_of Tryd.func24 rfl Tryd.ntmps24 (Nat.le_of_ble_eq_true rfl) fun a hfr => ?_
  replace hfr : Fr 79 [(0, _), (1, _), (2, _), (3, _), (4, _)] [] a := hfr
  replace hst : St No w0 [] w0 := St.init w0
  refine wc_seq_region fun K1 hK1 => ?_
  refine wl_v hfr (by decide) (v_assign rfl) ?_
  clear hfr
  intro a hfr
  refine wl_nil (hK1 _ _ ?_)
  refine wc_seq_region fun K2 hK2 => ?_
  refine wl_v hfr (by decide) (v_move rfl) ?_
  clear hfr
  intro a hfr
  refine wl_callp hfr hst (by decide) Tryd.call49 rfl (digests_ok lv ls _ (hst.arg hlv)) ?_
  clear hfr hst
  intro a w1 hfr hst
  refine wl_v hfr (by decide) (v_assign rfl) ?_
  clear hfr
  intro a hfr
  refine wl_nil (hK2 _ _ ?_)
  refine wc_seq_k fun K3 hK3 => ?_
  refine wc_seq_region fun K4 hK4 => ?_
  refine wl_v hfr (by decide) (v_move rfl) ?_
  clear hfr
  intro a hfr
  refine wl_v hfr (by decide) (v_lt rfl rfl) ?_
  clear hfr
  intro a hfr
  refine wl_v hfr (by decide) (v_move rfl) ?_
  clear hfr
  intro a hfr
  rcases Bool.eq_false_or_eq_true (decide (m < 0)) with hb1 | hb1
  · rw [hb1] at hfr
    try simp only [Bool.not_eq_true', Bool.not_eq_false', decide_eq_true_eq, decide_eq_false_iff_not] at hb1
    refine wl_vn hfr (by decide) rfl (by decide) rfl rfl ?_
    clear hfr
    intro a hfr
    refine wl_vn hfr (by decide) rfl (by decide) rfl rfl ?_
    clear hfr
    intro a hfr
    refine wl_vn hfr (by decide) rfl (by decide) rfl rfl ?_
    clear hfr
    intro a hfr
    refine wl_v hfr (by decide) (v_pick_t rfl rfl) ?_
    clear hfr
    intro a hfr
    refine wl_v hfr (by decide) (v_move rfl) ?_
    clear hfr
    intro a hfr
    refine wl_vn hfr (by decide) rfl (by decide) rfl rfl ?_
    clear hfr
    intro a hfr
    refine wl_vn hfr (by decide) rfl (by decide) rfl rfl ?_
    clear hfr
    intro a hfr
    refine wl_v hfr (by decide) (v_pick_t rfl rfl) ?_
    clear hfr
    intro a hfr
    refine wl_v hfr (by decide) (v_move rfl) ?_
    clear hfr
    intro a hfr
    refine wl_vn hfr (by decide) rfl (by decide) rfl rfl ?_
    clear hfr
    intro a hfr
    refine wl_vn hfr (by decide) rfl (by decide) rfl rfl ?_
    clear hfr
    intro a hfr
    refine wl_vn hfr (by decide) rfl (by decide) rfl rfl ?_
    clear hfr
    intro a hfr
    refine wl_v hfr (by decide) (v_pick_t rfl rfl) ?_
    clear hfr
    intro a hfr
    refine wl_v hfr (by decide) (v_move rfl) ?_
    clear hfr
    intro a hfr
    refine wl_vn hfr (by decide) rfl (by decide) rfl rfl ?_
    clear hfr
    intro a hfr
    refine wl_vn hfr (by decide) rfl (by decide) rfl rfl ?_
    clear hfr
    intro a hfr
    refine wl_vn hfr (by decide) rfl (by decide) rfl rfl ?_
    clear hfr
    intro a hfr
    refine wl_v hfr (by decide) (v_pick_t rfl rfl) ?_
    clear hfr
    intro a hfr
    refine wl_nil (hK4 _ _ ?_)
    replace hfr : Fr 79 [(0, _), (1, _), (2, _), (3, _), (4, _), (10, _), (37, _)] [] a := hfr.pick [0, 1, 2, 3, 4, 10, 37]
    refine wc_cond_t hfr rfl ?_
    refine wc_seq_region fun K5 hK5 => ?_
    refine wl_v hfr (by decide) (v_assign rfl) ?_
    clear hfr
    intro a hfr
    refine wl_nil (hK5 _ _ ?_)
    refine wc_ret ?_
    refine fin_ret hfr Tryd.results24 (resAre_tmp rfl resAre_nil) ?_
    exact ⟨by simp only [retv]; rw [vx_bad (by rintro ⟨h1, h2, h3, h4, h5⟩; first | omega | simp_all)], hst.ext⟩
  rw [hb1] at hfr
  try simp only [Bool.not_eq_true', Bool.not_eq_false', decide_eq_true_eq, decide_eq_false_iff_not] at hb1
  refine wl_vy hfr (by decide) rfl (by decide) rfl (v_move rfl) ?_
  clear hfr
  intro a hfr
  refine wl_vy hfr (by decide) rfl (by decide) rfl (v_move rfl) ?_
  clear hfr
  intro a hfr
  refine wl_vy hfr (by decide) rfl (by decide) rfl (v_gt rfl rfl) ?_
  clear hfr
  intro a hfr
  refine wl_v hfr (by decide) (v_pick_f rfl rfl) ?_
  clear hfr
  intro a hfr
  refine wl_v hfr (by decide) (v_move rfl) ?_
  clear hfr
  intro a hfr
  rcases Bool.eq_false_or_eq_true (decide (n < m)) with hb2 | hb2
  · rw [hb2] at hfr
    try simp only [Bool.not_eq_true', Bool.not_eq_false', decide_eq_true_eq, decide_eq_false_iff_not] at hb2
    refine wl_vn hfr (by decide) rfl (by decide) rfl rfl ?_
    clear hfr
    intro a hfr
    refine wl_vn hfr (by decide) rfl (by decide) rfl rfl ?_
    clear hfr
    intro a hfr
    refine wl_v hfr (by decide) (v_pick_t rfl rfl) ?_
    clear hfr
    intro a hfr
    refine wl_v hfr (by decide) (v_move rfl) ?_
    clear hfr
    intro a hfr
    refine wl_vn hfr (by decide) rfl (by decide) rfl rfl ?_
    clear hfr
    intro a hfr
    refine wl_vn hfr (by decide) rfl (by decide) rfl rfl ?_
    clear hfr
    intro a hfr
    refine wl_vn hfr (by decide) rfl (by decide) rfl rfl ?_
    clear hfr
    intro a hfr
    refine wl_v hfr (by decide) (v_pick_t rfl rfl) ?_
    clear hfr
    intro a hfr
    refine wl_v hfr (by decide) (v_move rfl) ?_
    clear hfr
    intro a hfr
    refine wl_vn hfr (by decide) rfl (by decide) rfl rfl ?_
    clear hfr
    intro a hfr
    refine wl_vn hfr (by decide) rfl (by decide) rfl rfl ?_
    clear hfr
    intro a hfr
    refine wl_vn hfr (by decide) rfl (by decide) rfl rfl ?_
    clear hfr
    intro a hfr
    refine wl_v hfr (by decide) (v_pick_t rfl rfl) ?_
    clear hfr
    intro a hfr
    refine wl_nil (hK4 _ _ ?_)
    replace hfr : Fr 79 [(0, _), (1, _), (2, _), (3, _), (4, _), (10, _), (37, _)] [] a := hfr.pick [0, 1, 2, 3, 4, 10, 37]
    refine wc_cond_t hfr rfl ?_
    refine wc_seq_region fun K6 hK6 => ?_
    refine wl_v hfr (by decide) (v_assign rfl) ?_
    clear hfr
    intro a hfr
    refine wl_nil (hK6 _ _ ?_)
    refine wc_ret ?_
    refine fin_ret hfr Tryd.results24 (resAre_tmp rfl resAre_nil) ?_
    exact ⟨by simp only [retv]; rw [vx_bad (by rintro ⟨h1, h2, h3, h4, h5⟩; first | omega | simp_all)], hst.ext⟩
  rw [hb2] at hfr
  try simp only [Bool.not_eq_true', Bool.not_eq_false', decide_eq_true_eq, decide_eq_false_iff_not] at hb2
  refine wl_vy hfr (by decide) rfl (by decide) rfl (v_move rfl) ?_
  clear hfr
  intro a hfr
  refine wl_vy hfr (by decide) rfl (by decide) rfl (v_not rfl) ?_
  clear hfr
  intro a hfr
  refine wl_v hfr (by decide) (v_pick_f rfl rfl) ?_
  clear hfr
  intro a hfr
  refine wl_v hfr (by decide) (v_move rfl) ?_
  clear hfr
  intro a hfr
  rcases Bool.eq_false_or_eq_true (!(ls.all fun s => decide (s.length = 32))) with hb3 | hb3
  · rw [hb3] at hfr
    try simp only [Bool.not_eq_true', Bool.not_eq_false', decide_eq_true_eq, decide_eq_false_iff_not] at hb3
    refine wl_vn hfr (by decide) rfl (by decide) rfl rfl ?_
    clear hfr
    intro a hfr
    refine wl_vn hfr (by decide) rfl (by decide) rfl rfl ?_
    clear hfr
    intro a hfr
    refine wl_vn hfr (by decide) rfl (by decide) rfl rfl ?_
    clear hfr
    intro a hfr
    refine wl_v hfr (by decide) (v_pick_t rfl rfl) ?_
    clear hfr
    intro a hfr
    refine wl_v hfr (by decide) (v_move rfl) ?_
    clear hfr
    intro a hfr
    refine wl_vn hfr (by decide) rfl (by decide) rfl rfl ?_
    clear hfr
    intro a hfr
    refine wl_vn hfr (by decide) rfl (by decide) rfl rfl ?_
    clear hfr
    intro a hfr
    refine wl_vn hfr (by decide) rfl (by decide) rfl rfl ?_
    clear hfr
    intro a hfr
    refine wl_v hfr (by decide) (v_pick_t rfl rfl) ?_
    clear hfr
    intro a hfr
    refine wl_nil (hK4 _ _ ?_)
    replace hfr : Fr 79 [(0, _), (1, _), (2, _), (3, _), (4, _), (10, _), (37, _)] [] a := hfr.pick [0, 1, 2, 3, 4, 10, 37]
    refine wc_cond_t hfr rfl ?_
    refine wc_seq_region fun K7 hK7 => ?_
    refine wl_v hfr (by decide) (v_assign rfl) ?_
    clear hfr
    intro a hfr
    refine wl_nil (hK7 _ _ ?_)
    refine wc_ret ?_
    refine fin_ret hfr Tryd.results24 (resAre_tmp rfl resAre_nil) ?_
    exact ⟨by simp only [retv]; rw [vx_bad (by rintro ⟨h1, h2, h3, h4, h5⟩; first | omega | simp_all)], hst.ext⟩
  rw [hb3] at hfr
  try simp only [Bool.not_eq_true', Bool.not_eq_false', decide_eq_true_eq, decide_eq_false_iff_not] at hb3
  have hall := hb3
  refine wl_vy hfr (by decide) rfl (by decide) rfl (v_move rfl) ?_
  clear hfr
  intro a hfr
  refine wl_vy hfr (by decide) rfl (by decide) rfl (v_len_str rfl rfl (Tryd.runUnderlying9 _)) ?_
  clear hfr
  intro a hfr
  refine wl_vy hfr (by decide) rfl (by decide) rfl (v_ne rfl rfl) ?_
  clear hfr
  intro a hfr
  refine wl_v hfr (by decide) (v_pick_f rfl rfl) ?_
  clear hfr
  intro a hfr
  refine wl_v hfr (by decide) (v_move rfl) ?_
  clear hfr
  intro a hfr
  rcases Bool.eq_false_or_eq_true (!decide ((old.length : Int) = 32)) with hb4 | hb4
  · rw [hb4] at hfr
    try simp only [Bool.not_eq_true', Bool.not_eq_false', decide_eq_true_eq, decide_eq_false_iff_not] at hb4
    refine wl_vn hfr (by decide) rfl (by decide) rfl rfl ?_
    clear hfr
    intro a hfr
    refine wl_vn hfr (by decide) rfl (by decide) rfl rfl ?_
    clear hfr
    intro a hfr
    refine wl_vn hfr (by decide) rfl (by decide) rfl rfl ?_
    clear hfr
    intro a hfr
    refine wl_v hfr (by decide) (v_pick_t rfl rfl) ?_
    clear hfr
    intro a hfr
    refine wl_nil (hK4 _ _ ?_)
    replace hfr : Fr 79 [(0, _), (1, _), (2, _), (3, _), (4, _), (10, _), (37, _)] [] a := hfr.pick [0, 1, 2, 3, 4, 10, 37]
    refine wc_cond_t hfr rfl ?_
    refine wc_seq_region fun K8 hK8 => ?_
    refine wl_v hfr (by decide) (v_assign rfl) ?_
    clear hfr
    intro a hfr
    refine wl_nil (hK8 _ _ ?_)
    refine wc_ret ?_
    refine fin_ret hfr Tryd.results24 (resAre_tmp rfl resAre_nil) ?_
    exact ⟨by simp only [retv]; rw [vx_bad (by rintro ⟨h1, h2, h3, h4, h5⟩; first | omega | simp_all)], hst.ext⟩
  rw [hb4] at hfr
  try simp only [Bool.not_eq_true', Bool.not_eq_false', decide_eq_true_eq, decide_eq_false_iff_not] at hb4
  refine wl_vy hfr (by decide) rfl (by decide) rfl (v_move rfl) ?_
  clear hfr
  intro a hfr
  refine wl_vy hfr (by decide) rfl (by decide) rfl (v_len_str rfl rfl (Tryd.runUnderlying9 _)) ?_
  clear hfr
  intro a hfr
  refine wl_vy hfr (by decide) rfl (by decide) rfl (v_ne rfl rfl) ?_
  clear hfr
  intro a hfr
  refine wl_v hfr (by decide) (v_pick_f rfl rfl) ?_
  clear hfr
  intro a hfr
  refine wl_nil (hK4 _ _ ?_)
  replace hfr : Fr 79 [(0, _), (1, _), (2, _), (3, _), (4, _), (10, _), (37, _)] [] a := hfr.pick [0, 1, 2, 3, 4, 10, 37]
  refine wc_cond hfr rfl (fun hc5 => ?_) (fun hc5 => ?_)
  · rw [hc5] at hfr
    try simp only [Bool.not_eq_true', Bool.not_eq_false', decide_eq_true_eq, decide_eq_false_iff_not] at hc5
    refine wc_seq_region fun K9 hK9 => ?_
    refine wl_v hfr (by decide) (v_assign rfl) ?_
    clear hfr
    intro a hfr
    refine wl_nil (hK9 _ _ ?_)
    refine wc_ret ?_
    refine fin_ret hfr Tryd.results24 (resAre_tmp rfl resAre_nil) ?_
    exact ⟨by simp only [retv]; rw [vx_bad (by rintro ⟨h1, h2, h3, h4, h5⟩; first | omega | simp_all)], hst.ext⟩
  rw [hc5] at hfr
  try simp only [Bool.not_eq_true', Bool.not_eq_false', decide_eq_true_eq, decide_eq_false_iff_not] at hc5
  refine wc_skip ?_
  refine hK3 _ _ ?_
  refine wc_seq_k fun K10 hK10 => ?_
  refine wc_seq_region fun K11 hK11 => ?_
  refine wl_v hfr (by decide) (v_move rfl) ?_
  clear hfr
  intro a hfr
  refine wl_v hfr (by decide) (v_eq rfl rfl) ?_
  clear hfr
  intro a hfr
  refine wl_nil (hK11 _ _ ?_)
  refine wc_cond hfr rfl (fun hc6 => ?_) (fun hc6 => ?_)
  · rw [hc6] at hfr
    try simp only [Bool.not_eq_true', Bool.not_eq_false', decide_eq_true_eq, decide_eq_false_iff_not] at hc6
    obtain rfl : m = 0 := by omega
    refine wc_seq_region fun K12 hK12 => ?_
    refine wl_v hfr (by decide) (v_move rfl) ?_
    clear hfr
    intro a hfr
    refine wl_v hfr (by decide) ((v_len_sl (sT := 22) (hst.arg hlv) rfl rfl (Tryd.runUnderlying22 _)).asi (m' := (ls.length : Int)) (by simp)) ?_
    clear hfr
    intro a hfr
    refine wl_v hfr (by decide) (v_eq rfl rfl) ?_
    clear hfr
    intro a hfr
    refine wl_v hfr (by decide) (v_move rfl) ?_
    clear hfr
    intro a hfr
    rcases Bool.eq_false_or_eq_true (decide ((ls.length : Int) = 0)) with hb7 | hb7
    · rw [hb7] at hfr
      try simp only [Bool.not_eq_true', Bool.not_eq_false', decide_eq_true_eq, decide_eq_false_iff_not] at hb7
      refine wl_vy hfr (by decide) rfl (by decide) rfl (v_move rfl) ?_
      clear hfr
      intro a hfr
      refine wl_callpy hfr hst (by decide) rfl (by decide) rfl Tryd.call33 rfl (rsum_ok [] _ (by simp)) ?_
      clear hfr hst
      intro a w2 hfr hst
      refine wl_vy hfr (by decide) rfl (by decide) rfl (v_seq rfl rfl) ?_
      clear hfr
      intro a hfr
      refine wl_v hfr (by decide) (v_pick_t rfl rfl) ?_
      clear hfr
      intro a hfr
      refine wl_v hfr (by decide) (v_assign rfl) ?_
      clear hfr
      intro a hfr
      refine wl_nil (hK12 _ _ ?_)
      replace hfr : Fr 79 [(0, _), (1, _), (2, _), (3, _), (4, _), (10, _)] [] a := hfr.pick [0, 1, 2, 3, 4, 10]
      refine wc_ret ?_
      refine fin_ret hfr Tryd.results24 (resAre_tmp rfl resAre_nil) ?_
      exact ⟨by simp only [retv]; rw [vx_zero hall (by omega) (by omega) (by omega)]; rw [decide_eq_true (show ls.length = 0 by omega), Bool.true_and], hst.ext⟩
    rw [hb7] at hfr
    try simp only [Bool.not_eq_true', Bool.not_eq_false', decide_eq_true_eq, decide_eq_false_iff_not] at hb7
    refine wl_vn hfr (by decide) rfl (by decide) rfl rfl ?_
    clear hfr
    intro a hfr
    refine wl_vn hfr (by decide) rfl (by decide) rfl rfl ?_
    clear hfr
    intro a hfr
    refine wl_vn hfr (by decide) rfl (by decide) rfl rfl ?_
    clear hfr
    intro a hfr
    refine wl_v hfr (by decide) (v_pick_f rfl rfl) ?_
    clear hfr
    intro a hfr
    refine wl_v hfr (by decide) (v_assign rfl) ?_
    clear hfr
    intro a hfr
    refine wl_nil (hK12 _ _ ?_)
    replace hfr : Fr 79 [(0, _), (1, _), (2, _), (3, _), (4, _), (10, _)] [] a := hfr.pick [0, 1, 2, 3, 4, 10]
    refine wc_ret ?_
    refine fin_ret hfr Tryd.results24 (resAre_tmp rfl resAre_nil) ?_
    exact ⟨by simp only [retv]; rw [vx_zero hall (by omega) (by omega) (by omega)]; rw [decide_eq_false (show ¬ ls.length = 0 by omega), Bool.false_and], hst.ext⟩
  rw [hc6] at hfr
  try simp only [Bool.not_eq_true', Bool.not_eq_false', decide_eq_true_eq, decide_eq_false_iff_not] at hc6
  refine wc_skip ?_
  refine hK10 _ _ ?_
  refine wc_seq_k fun K13 hK13 => ?_
  refine wc_seq_region fun K14 hK14 => ?_
  refine wl_v hfr (by decide) (v_move rfl) ?_
  clear hfr
  intro a hfr
  refine wl_v hfr (by decide) (v_move rfl) ?_
  clear hfr
  intro a hfr
  refine wl_v hfr (by decide) (v_eq rfl rfl) ?_
  clear hfr
  intro a hfr
  refine wl_nil (hK14 _ _ ?_)
  refine wc_cond hfr rfl (fun hc8 => ?_) (fun hc8 => ?_)
  · rw [hc8] at hfr
    try simp only [Bool.not_eq_true', Bool.not_eq_false', decide_eq_true_eq, decide_eq_false_iff_not] at hc8
    obtain rfl : m = n := by omega
    refine wc_seq_region fun K15 hK15 => ?_
    refine wl_v hfr (by decide) (v_move rfl) ?_
    clear hfr
    intro a hfr
    refine wl_v hfr (by decide) ((v_len_sl (sT := 22) (hst.arg hlv) rfl rfl (Tryd.runUnderlying22 _)).asi (m' := (ls.length : Int)) (by simp)) ?_
    clear hfr
    intro a hfr
    refine wl_v hfr (by decide) (v_eq rfl rfl) ?_
    clear hfr
    intro a hfr
    refine wl_v hfr (by decide) (v_move rfl) ?_
    clear hfr
    intro a hfr
    rcases Bool.eq_false_or_eq_true (decide ((ls.length : Int) = 0)) with hb9 | hb9
    · rw [hb9] at hfr
      try simp only [Bool.not_eq_true', Bool.not_eq_false', decide_eq_true_eq, decide_eq_false_iff_not] at hb9
      refine wl_vy hfr (by decide) rfl (by decide) rfl (v_move rfl) ?_
      clear hfr
      intro a hfr
      refine wl_vy hfr (by decide) rfl (by decide) rfl (v_move rfl) ?_
      clear hfr
      intro a hfr
      refine wl_vy hfr (by decide) rfl (by decide) rfl (v_seq rfl rfl) ?_
      clear hfr
      intro a hfr
      refine wl_v hfr (by decide) (v_pick_t rfl rfl) ?_
      clear hfr
      intro a hfr
      refine wl_v hfr (by decide) (v_assign rfl) ?_
      clear hfr
      intro a hfr
      refine wl_nil (hK15 _ _ ?_)
      replace hfr : Fr 79 [(0, _), (1, _), (2, _), (3, _), (4, _), (10, _)] [] a := hfr.pick [0, 1, 2, 3, 4, 10]
      refine wc_ret ?_
      refine fin_ret hfr Tryd.results24 (resAre_tmp rfl resAre_nil) ?_
      exact ⟨by simp only [retv]; rw [vx_same hall (by omega) (by omega) (by omega)]; rw [decide_eq_true (show ls.length = 0 by omega), Bool.true_and], hst.ext⟩
    rw [hb9] at hfr
    try simp only [Bool.not_eq_true', Bool.not_eq_false', decide_eq_true_eq, decide_eq_false_iff_not] at hb9
    refine wl_vn hfr (by decide) rfl (by decide) rfl rfl ?_
    clear hfr
    intro a hfr
    refine wl_vn hfr (by decide) rfl (by decide) rfl rfl ?_
    clear hfr
    intro a hfr
    refine wl_vn hfr (by decide) rfl (by decide) rfl rfl ?_
    clear hfr
    intro a hfr
    refine wl_v hfr (by decide) (v_pick_f rfl rfl) ?_
    clear hfr
    intro a hfr
    refine wl_v hfr (by decide) (v_assign rfl) ?_
    clear hfr
    intro a hfr
    refine wl_nil (hK15 _ _ ?_)
    replace hfr : Fr 79 [(0, _), (1, _), (2, _), (3, _), (4, _), (10, _)] [] a := hfr.pick [0, 1, 2, 3, 4, 10]
    refine wc_ret ?_
    refine fin_ret hfr Tryd.results24 (resAre_tmp rfl resAre_nil) ?_
    exact ⟨by simp only [retv]; rw [vx_same hall (by omega) (by omega) (by omega)]; rw [decide_eq_false (show ¬ ls.length = 0 by omega), Bool.false_and], hst.ext⟩
  rw [hc8] at hfr
  try simp only [Bool.not_eq_true', Bool.not_eq_false', decide_eq_true_eq, decide_eq_false_iff_not] at hc8
  refine wc_skip ?_
  refine hK13 _ _ ?_
  obtain ⟨mm, rfl⟩ := Int.eq_ofNat_of_zero_le (show 0 ≤ m by omega)
  obtain ⟨nn, rfl⟩ := Int.eq_ofNat_of_zero_le (show 0 ≤ n by omega)
  refine wc_seq_region fun K16 hK16 => ?_
  refine wl_v hfr (by decide) (v_move rfl) ?_
  clear hfr
  intro a hfr
  refine wl_v hfr (by decide) (v_move rfl) ?_
  clear hfr
  intro a hfr
  refine wl_v hfr (by decide) (v_move rfl) ?_
  clear hfr
  intro a hfr
  refine wl_v hfr (by decide) (v_move rfl) ?_
  clear hfr
  intro a hfr
  refine wl_callp hfr hst (by decide) Tryd.call52 rfl (rboth_ok old (by omega) _ mm nn lv ls true _ rfl (hst.arg hlv) (by omega) (by omega) (by omega) (all32 hall)) ?_
  clear hfr hst
  intro a w3 hfr hst
  refine wl_v hfr (by decide) (v_move rfl) ?_
  clear hfr
  intro a hfr
  refine wl_v hfr (by decide) (v_extract rfl rfl) ?_
  clear hfr
  intro a hfr
  refine wl_v hfr (by decide) (v_extract rfl rfl) ?_
  clear hfr
  intro a hfr
  refine wl_v hfr (by decide) (v_extract rfl rfl) ?_
  clear hfr
  intro a hfr
  refine wl_v hfr (by decide) (v_assign rfl) ?_
  clear hfr
  intro a hfr
  refine wl_v hfr (by decide) (v_assign rfl) ?_
  clear hfr
  intro a hfr
  refine wl_v hfr (by decide) (v_assign rfl) ?_
  clear hfr
  intro a hfr
  refine wl_nil (hK16 _ _ ?_)
  replace hfr : Fr 79 [(0, _), (2, _), (10, _), (12, _), (13, _), (14, _)] [] a := hfr.pick [0, 2, 10, 12, 13, 14]
  refine wc_seq_region fun K17 hK17 => ?_
  refine wl_v hfr (by decide) (v_move rfl) ?_
  clear hfr
  intro a hfr
  refine wl_v hfr (by decide) (v_move rfl) ?_
  clear hfr
  intro a hfr
  rcases Bool.eq_false_or_eq_true ((bothH sha old mm nn ls true).2.2) with hb10 | hb10
  · rw [hb10] at hfr
    try simp only [Bool.not_eq_true', Bool.not_eq_false', decide_eq_true_eq, decide_eq_false_iff_not] at hb10
    refine wl_vy hfr (by decide) rfl (by decide) rfl (v_move rfl) ?_
    clear hfr
    intro a hfr
    refine wl_vy hfr (by decide) rfl (by decide) rfl (v_move rfl) ?_
    clear hfr
    intro a hfr
    refine wl_vy hfr (by decide) rfl (by decide) rfl (v_seq rfl rfl) ?_
    clear hfr
    intro a hfr
    refine wl_v hfr (by decide) (v_pick_t rfl rfl) ?_
    clear hfr
    intro a hfr
    refine wl_v hfr (by decide) (v_move rfl) ?_
    clear hfr
    intro a hfr
    rcases Bool.eq_false_or_eq_true (decide ((bothH sha old mm nn ls true).1 = old)) with hb11 | hb11
    · rw [hb11] at hfr
      try simp only [Bool.not_eq_true', Bool.not_eq_false', decide_eq_true_eq, decide_eq_false_iff_not] at hb11
      refine wl_vy hfr (by decide) rfl (by decide) rfl (v_move rfl) ?_
      clear hfr
      intro a hfr
      refine wl_vy hfr (by decide) rfl (by decide) rfl (v_move rfl) ?_
      clear hfr
      intro a hfr
      refine wl_vy hfr (by decide) rfl (by decide) rfl (v_seq rfl rfl) ?_
      clear hfr
      intro a hfr
      refine wl_v hfr (by decide) (v_pick_t rfl rfl) ?_
      clear hfr
      intro a hfr
      refine wl_v hfr (by decide) (v_assign rfl) ?_
      clear hfr
      intro a hfr
      refine wl_nil (hK17 _ _ ?_)
      replace hfr : Fr 79 [(10, _)] [] a := hfr.pick [10]
      refine wc_ret ?_
      refine fin_ret hfr Tryd.results24 (resAre_tmp rfl resAre_nil) ?_
      exact ⟨by simp only [retv]; rw [vx_loop hall (by omega) (by omega) (by omega) (by omega), hb10, decide_eq_true hb11]; rfl, hst.ext⟩
    rw [hb11] at hfr
    try simp only [Bool.not_eq_true', Bool.not_eq_false', decide_eq_true_eq, decide_eq_false_iff_not] at hb11
    refine wl_vn hfr (by decide) rfl (by decide) rfl rfl ?_
    clear hfr
    intro a hfr
    refine wl_vn hfr (by decide) rfl (by decide) rfl rfl ?_
    clear hfr
    intro a hfr
    refine wl_vn hfr (by decide) rfl (by decide) rfl rfl ?_
    clear hfr
    intro a hfr
    refine wl_v hfr (by decide) (v_pick_f rfl rfl) ?_
    clear hfr
    intro a hfr
    refine wl_v hfr (by decide) (v_assign rfl) ?_
    clear hfr
    intro a hfr
    refine wl_nil (hK17 _ _ ?_)
    replace hfr : Fr 79 [(10, _)] [] a := hfr.pick [10]
    refine wc_ret ?_
    refine fin_ret hfr Tryd.results24 (resAre_tmp rfl resAre_nil) ?_
    exact ⟨by simp only [retv]; rw [vx_loop hall (by omega) (by omega) (by omega) (by omega), hb10, decide_eq_false hb11]; rfl, hst.ext⟩
  rw [hb10] at hfr
  try simp only [Bool.not_eq_true', Bool.not_eq_false', decide_eq_true_eq, decide_eq_false_iff_not] at hb10
  refine wl_vn hfr (by decide) rfl (by decide) rfl rfl ?_
  clear hfr
  intro a hfr
  refine wl_vn hfr (by decide) rfl (by decide) rfl rfl ?_
  clear hfr
  intro a hfr
  refine wl_vn hfr (by decide) rfl (by decide) rfl rfl ?_
  clear hfr
  intro a hfr
  refine wl_v hfr (by decide) (v_pick_f rfl rfl) ?_
  clear hfr
  intro a hfr
  refine wl_v hfr (by decide) (v_move rfl) ?_
  clear hfr
  intro a hfr
  refine wl_vn hfr (by decide) rfl (by decide) rfl rfl ?_
  clear hfr
  intro a hfr
  refine wl_vn hfr (by decide) rfl (by decide) rfl rfl ?_
  clear hfr
  intro a hfr
  refine wl_vn hfr (by decide) rfl (by decide) rfl rfl ?_
  clear hfr
  intro a hfr
  refine wl_v hfr (by decide) (v_pick_f rfl rfl) ?_
  clear hfr
  intro a hfr
  refine wl_v hfr (by decide) (v_assign rfl) ?_
  clear hfr
  intro a hfr
  refine wl_nil (hK17 _ _ ?_)
  replace hfr : Fr 79 [(10, _)] [] a := hfr.pick [10]
  refine wc_ret ?_
  refine fin_ret hfr Tryd.results24 (resAre_tmp rfl resAre_nil) ?_
  exact ⟨by simp only [retv]; rw [vx_loop hall (by omega) (by omega) (by omega) (by omega), hb10]; rfl, hst.ext⟩
end Go.Proofs.YtmcoolbjgeibcaaDoor
namespace Go.Proofs.YtmcoolbjgeibcaaDoor
open Go.RowKit Go.PW
set_option linter.unusedVariables false
set_option linter.unusedSimpArgs false
set_option maxRecDepth 4000

/-- dialtone/dialtonelaw02.DigestSumMatchesReference -/
theorem sums_walk (s t : By) (w0 : World) (hsl : s.length ≤ 140737488355328) (htl : t.length ≤ 140737488355328) (hk0 : (blk 0 (kOf.map wv) 88).ok w0) :
    Ret Tryd.prog 10 #[sv s, sv t] w0 fun v w => v = .bool true ∧ Ext No w0 w := by
  refine ret_of Tryd.func10 rfl Tryd.ntmps10 (Nat.le_of_ble_eq_true rfl) fun a hfr => ?_
  replace hfr : Fr 50 [(0, _), (1, _)] [] a := hfr
  replace hst : St No w0 [] w0 := St.init w0
  refine wc_seq_region fun K1 hK1 => ?_
  refine wl_v hfr (by decide) (v_assign rfl) ?_
  clear hfr
  intro a hfr
  refine wl_nil (hK1 _ _ ?_)
  refine wc_seq_region fun K2 hK2 => ?_
  refine wl_callp hfr hst (by decide) Tryd.call12 rfl (sane_ok _ (hst.keepb hk0)) ?_
  clear hfr hst
  intro a w1 hfr hst
  refine wl_v hfr (by decide) (v_assign rfl) ?_
  clear hfr
  intro a hfr
  refine wl_nil (hK2 _ _ ?_)
  refine wc_seq_region fun K3 hK3 => ?_
  refine wl_v hfr (by decide) (v_move rfl) ?_
  clear hfr
  intro a hfr
  refine wl_v hfr (by decide) (v_move rfl) ?_
  clear hfr
  intro a hfr
  refine wl_v hfr (by decide) (v_len_str rfl rfl (Tryd.runUnderlying9 _)) ?_
  clear hfr
  intro a hfr
  refine wl_v hfr (by decide) (v_min2 rfl rfl) ?_
  clear hfr
  intro a hfr
  refine wl_v hfr (by decide) ((v_slice_str (l := 0) (h := (min s.length 500)) rfl rfl rfl Tryd.underlying9 (.inl ⟨rfl, rfl⟩) (.inr (by rw [show (min (s.length : Int) 500 : Int) = (((min s.length 500) : Nat) : Int) from by omega] <;> rfl)) (by omega) (by first | omega | exact Nat.min_le_left _ _)).as (v' := sv (s.take (min s.length 500))) rfl) ?_
  clear hfr
  intro a hfr
  refine wl_v hfr (by decide) (v_assign rfl) ?_
  clear hfr
  intro a hfr
  refine wl_nil (hK3 _ _ ?_)
  replace hfr : Fr 50 [(1, _), (4, _), (5, _), (0, _)] [] a := hfr.pick [1, 4, 5, 0]
  obtain ⟨sc, scd, scl⟩ : ∃ x, s.take (min s.length 500) = x ∧ x.length ≤ 500 := ⟨_, rfl, by rw [List.length_take]; omega⟩
  rw [scd] at hfr
  refine wc_seq_region fun K4 hK4 => ?_
  refine wl_v hfr (by decide) (v_move rfl) ?_
  clear hfr
  intro a hfr
  refine wl_v hfr (by decide) (v_move rfl) ?_
  clear hfr
  intro a hfr
  refine wl_v hfr (by decide) (v_len_str rfl rfl (Tryd.runUnderlying9 _)) ?_
  clear hfr
  intro a hfr
  refine wl_v hfr (by decide) (v_min2 rfl rfl) ?_
  clear hfr
  intro a hfr
  refine wl_v hfr (by decide) ((v_slice_str (l := 0) (h := (min t.length 500)) rfl rfl rfl Tryd.underlying9 (.inl ⟨rfl, rfl⟩) (.inr (by rw [show (min (t.length : Int) 500 : Int) = (((min t.length 500) : Nat) : Int) from by omega] <;> rfl)) (by omega) (by first | omega | exact Nat.min_le_left _ _)).as (v' := sv (t.take (min t.length 500))) rfl) ?_
  clear hfr
  intro a hfr
  refine wl_v hfr (by decide) (v_assign rfl) ?_
  clear hfr
  intro a hfr
  refine wl_nil (hK4 _ _ ?_)
  obtain ⟨tc, tcd, tcl⟩ : ∃ x, t.take (min t.length 500) = x ∧ x.length ≤ 500 := ⟨_, rfl, by rw [List.length_take]; omega⟩
  rw [tcd] at hfr
  refine wc_seq_region fun K5 hK5 => ?_
  refine wl_v hfr (by decide) (v_move rfl) ?_
  clear hfr
  intro a hfr
  refine wl_v hfr (by decide) (v_move rfl) ?_
  clear hfr
  intro a hfr
  refine wl_vy hfr (by decide) rfl (by decide) rfl (v_move rfl) ?_
  clear hfr
  intro a hfr
  refine wl_callpy hfr hst (by decide) rfl (by decide) rfl Tryd.call30 rfl (sum_ok sc _ (hst.keepb hk0) (by omega)) ?_
  clear hfr hst
  intro a w2 hfr hst
  refine wl_vy hfr (by decide) rfl (by decide) rfl (v_move rfl) ?_
  clear hfr
  intro a hfr
  refine wl_callpy hfr hst (by decide) rfl (by decide) rfl Tryd.call33 rfl (rsum_ok sc _ (by omega)) ?_
  clear hfr hst
  intro a w3 hfr hst
  refine wl_vy hfr (by decide) rfl (by decide) rfl ((v_seq rfl rfl).asb (b' := true) (by exact decide_eq_true rfl)) ?_
  clear hfr
  intro a hfr
  refine wl_v hfr (by decide) (v_pick_t rfl rfl) ?_
  clear hfr
  intro a hfr
  refine wl_v hfr (by decide) (v_move rfl) ?_
  clear hfr
  intro a hfr
  refine wl_vy hfr (by decide) rfl (by decide) rfl (v_move rfl) ?_
  clear hfr
  intro a hfr
  refine wl_callpy hfr hst (by decide) rfl (by decide) rfl Tryd.call29 rfl (leaf_ok tc _ (by omega) (hst.keepb hk0)) ?_
  clear hfr hst
  intro a w4 hfr hst
  refine wl_vy hfr (by decide) rfl (by decide) rfl (v_move rfl) ?_
  clear hfr
  intro a hfr
  refine wl_callpy hfr hst (by decide) rfl (by decide) rfl Tryd.call34 rfl (rleaf_ok tc _ (by omega)) ?_
  clear hfr hst
  intro a w5 hfr hst
  refine wl_vy hfr (by decide) rfl (by decide) rfl ((v_seq rfl rfl).asb (b' := true) (by exact decide_eq_true rfl)) ?_
  clear hfr
  intro a hfr
  refine wl_v hfr (by decide) (v_pick_t rfl rfl) ?_
  clear hfr
  intro a hfr
  refine wl_v hfr (by decide) (v_move rfl) ?_
  clear hfr
  intro a hfr
  refine wl_vy hfr (by decide) rfl (by decide) rfl (v_move rfl) ?_
  clear hfr
  intro a hfr
  refine wl_vy hfr (by decide) rfl (by decide) rfl (v_move rfl) ?_
  clear hfr
  intro a hfr
  refine wl_callpy hfr hst (by decide) rfl (by decide) rfl Tryd.call32 rfl (node_ok sc tc _ (by omega) (by omega) (hst.keepb hk0)) ?_
  clear hfr hst
  intro a w6 hfr hst
  refine wl_vy hfr (by decide) rfl (by decide) rfl (v_move rfl) ?_
  clear hfr
  intro a hfr
  refine wl_vy hfr (by decide) rfl (by decide) rfl (v_move rfl) ?_
  clear hfr
  intro a hfr
  refine wl_callpy hfr hst (by decide) rfl (by decide) rfl Tryd.call35 rfl (rnode_ok sc tc _ (by omega) (by omega)) ?_
  clear hfr hst
  intro a w7 hfr hst
  refine wl_vy hfr (by decide) rfl (by decide) rfl ((v_seq rfl rfl).asb (b' := true) (by exact decide_eq_true rfl)) ?_
  clear hfr
  intro a hfr
  refine wl_v hfr (by decide) (v_pick_t rfl rfl) ?_
  clear hfr
  intro a hfr
  refine wl_v hfr (by decide) (v_move rfl) ?_
  clear hfr
  intro a hfr
  refine wl_vy hfr (by decide) rfl (by decide) rfl (v_move rfl) ?_
  clear hfr
  intro a hfr
  refine wl_vy hfr (by decide) rfl (by decide) rfl (v_move rfl) ?_
  clear hfr
  intro a hfr
  refine wl_callpy hfr hst (by decide) rfl (by decide) rfl Tryd.call36 rfl (chain_ok tc sc _ (by omega) (by omega) (hst.keepb hk0)) ?_
  clear hfr hst
  intro a w8 hfr hst
  refine wl_vy hfr (by decide) rfl (by decide) rfl (v_move rfl) ?_
  clear hfr
  intro a hfr
  refine wl_vy hfr (by decide) rfl (by decide) rfl (v_move rfl) ?_
  clear hfr
  intro a hfr
  refine wl_callpy hfr hst (by decide) rfl (by decide) rfl Tryd.call37 rfl (rchain_ok tc sc _ (by omega) (by omega)) ?_
  clear hfr hst
  intro a w9 hfr hst
  refine wl_vy hfr (by decide) rfl (by decide) rfl ((v_seq rfl rfl).asb (b' := true) (by exact decide_eq_true rfl)) ?_
  clear hfr
  intro a hfr
  refine wl_v hfr (by decide) (v_pick_t rfl rfl) ?_
  clear hfr
  intro a hfr
  refine wl_v hfr (by decide) (v_assign rfl) ?_
  clear hfr
  intro a hfr
  refine wl_nil (hK5 _ _ ?_)
  replace hfr : Fr 50 [(4, _)] [] a := hfr.pick [4]
  refine wc_ret ?_
  refine fin_ret hfr Tryd.results10 (resAre_tmp rfl resAre_nil) ?_
  exact ⟨by rfl, hst.ext⟩

set_option maxHeartbeats 4000000 in
/-- dialtone/dialtonelaw02.DigestVerifyMatchesReference -/
theorem verifies_walk (old root s : By) (n i : Int) (av : Value) (xs : List By) (w0 : World) (hn : n ≤ 9223372036854775807) (hsl : s.length ≤ 140737488355328) (hav : SlAt w0 av 1 (xs.map fun s => [sv s])) (hk0 : (blk 0 (kOf.map wv) 88).ok w0) :
    Ret Tryd.prog 4 #[sv old, sv root, .int .i64 n, .int .i64 i, sv s, av] w0 fun v w => v = .bool true ∧ Ext No w0 w := by
  refine ret_of Tryd.func4 rfl Tryd.ntmps4 (Nat.le_of_ble_eq_true rfl) fun a hfr => ?_
  replace hfr : Fr 55 [(0, _), (1, _), (2, _), (3, _), (4, _), (5, _)] [] a := hfr
  replace hst : St No w0 [] w0 := St.init w0
  refine wc_seq_region fun K1 hK1 => ?_
  refine wl_v hfr (by decide) (v_assign rfl) ?_
  clear hfr
  intro a hfr
  refine wl_nil (hK1 _ _ ?_)
  refine wc_seq_region fun K2 hK2 => ?_
  refine wl_callp hfr hst (by decide) Tryd.call12 rfl (sane_ok _ (hst.keepb hk0)) ?_
  clear hfr hst
  intro a w1 hfr hst
  refine wl_v hfr (by decide) (v_assign rfl) ?_
  clear hfr
  intro a hfr
  refine wl_nil (hK2 _ _ ?_)
  refine wc_seq_region fun K3 hK3 => ?_
  refine wl_v hfr (by decide) (v_move rfl) ?_
  clear hfr
  intro a hfr
  refine wl_callm hfr hst (by decide) Tryd.call13 rfl (few_ok av xs 70 _ (hst.arg hav) (by decide)) ?_
  clear hfr hst
  intro a w2 x2 hp hfr hst
  revert x2 hp hfr hst; rintro v1 hp hfr hst
  clear hp
  replace hst : St No w0 [own v1 9 1 ((fewH xs 70).map fun s => [sv s])] w2 := hst
  refine wl_v hfr (by decide) (v_assign rfl) ?_
  clear hfr
  intro a hfr
  refine wl_nil (hK3 _ _ ?_)
  refine wc_seq_region fun K4 hK4 => ?_
  refine wl_v hfr (by decide) (v_move rfl) ?_
  clear hfr
  intro a hfr
  refine wl_v hfr (by decide) (v_move rfl) ?_
  clear hfr
  intro a hfr
  refine wl_v hfr (by decide) (v_len_str rfl rfl (Tryd.runUnderlying9 _)) ?_
  clear hfr
  intro a hfr
  refine wl_v hfr (by decide) (v_min2 rfl rfl) ?_
  clear hfr
  intro a hfr
  refine wl_v hfr (by decide) ((v_slice_str (l := 0) (h := (min s.length 60)) rfl rfl rfl Tryd.underlying9 (.inl ⟨rfl, rfl⟩) (.inr (by rw [show (min (s.length : Int) 60 : Int) = (((min s.length 60) : Nat) : Int) from by omega] <;> rfl)) (by omega) (by first | omega | exact Nat.min_le_left _ _)).as (v' := sv (s.take (min s.length 60))) rfl) ?_
  clear hfr
  intro a hfr
  refine wl_v hfr (by decide) (v_assign rfl) ?_
  clear hfr
  intro a hfr
  refine wl_nil (hK4 _ _ ?_)
  replace hfr : Fr 55 [(0, _), (1, _), (2, _), (3, _), (12, _), (13, _), (5, _), (4, _)] [] a := hfr.pick [0, 1, 2, 3, 12, 13, 5, 4]
  obtain ⟨sc, scd, scl⟩ : ∃ x, s.take (min s.length 60) = x ∧ x.length ≤ 60 := ⟨_, rfl, by rw [List.length_take]; omega⟩
  rw [scd] at hfr
  refine wc_seq_region fun K5 hK5 => ?_
  refine wl_v hfr (by decide) (v_move rfl) ?_
  clear hfr
  intro a hfr
  refine wl_v hfr (by decide) (v_move rfl) ?_
  clear hfr
  intro a hfr
  refine wl_v hfr (by decide) (v_move rfl) ?_
  clear hfr
  intro a hfr
  refine wl_v hfr (by decide) (v_move rfl) ?_
  clear hfr
  intro a hfr
  refine wl_v hfr (by decide) (v_move rfl) ?_
  clear hfr
  intro a hfr
  refine wl_callp hfr hst (by decide) Tryd.call21 rfl (verify_ok root sc n i v1 (fewH xs 70) _ (hst.ownAt (i := 0) rfl) (by rw [few_len]; omega) (by omega) (by omega) (hst.keepb hk0)) ?_
  clear hfr hst
  intro a w3 hfr hst
  refine wl_v hfr (by decide) (v_move rfl) ?_
  clear hfr
  intro a hfr
  refine wl_v hfr (by decide) (v_move rfl) ?_
  clear hfr
  intro a hfr
  refine wl_v hfr (by decide) (v_move rfl) ?_
  clear hfr
  intro a hfr
  refine wl_v hfr (by decide) (v_move rfl) ?_
  clear hfr
  intro a hfr
  refine wl_v hfr (by decide) (v_move rfl) ?_
  clear hfr
  intro a hfr
  refine wl_callp hfr hst (by decide) Tryd.call22 rfl (rverify_ok root sc n i v1 (fewH xs 70) _ (hst.ownAt (i := 0) rfl) (by omega) (by omega)) ?_
  clear hfr hst
  intro a w4 hfr hst
  rcases Bool.eq_false_or_eq_true (verifyH sha root n i sc (fewH xs 70)) with hb3 | hb3
  · rw [hb3] at hfr
    try simp only [Bool.not_eq_true', Bool.not_eq_false', decide_eq_true_eq, decide_eq_false_iff_not] at hb3
    refine wl_v hfr (by decide) ((v_eq_bool rfl rfl Tryd.underlying4).asb (b' := true) rfl) ?_
    clear hfr
    intro a hfr
    refine wl_v hfr (by decide) (v_assign rfl) ?_
    clear hfr
    intro a hfr
    refine wl_nil (hK5 _ _ ?_)
    replace hfr : Fr 55 [(0, _), (1, _), (2, _), (3, _), (12, _), (13, _), (5, _), (14, _)] [] a := hfr.pick [0, 1, 2, 3, 12, 13, 5, 14]
    refine wc_seq_region fun K6 hK6 => ?_
    refine wl_v hfr (by decide) (v_move rfl) ?_
    clear hfr
    intro a hfr
    refine wl_v hfr (by decide) (v_move rfl) ?_
    clear hfr
    intro a hfr
    refine wl_vy hfr (by decide) rfl (by decide) rfl (v_move rfl) ?_
    clear hfr
    intro a hfr
    refine wl_v hfr (by decide) (v_pick_t rfl rfl) ?_
    clear hfr
    intro a hfr
    refine wl_v hfr (by decide) (v_move rfl) ?_
    clear hfr
    intro a hfr
    refine wl_vy hfr (by decide) rfl (by decide) rfl (v_move rfl) ?_
    clear hfr
    intro a hfr
    refine wl_vy hfr (by decide) rfl (by decide) rfl (v_move rfl) ?_
    clear hfr
    intro a hfr
    refine wl_vy hfr (by decide) rfl (by decide) rfl (v_move rfl) ?_
    clear hfr
    intro a hfr
    refine wl_vy hfr (by decide) rfl (by decide) rfl (v_move rfl) ?_
    clear hfr
    intro a hfr
    refine wl_vy hfr (by decide) rfl (by decide) rfl (v_move rfl) ?_
    clear hfr
    intro a hfr
    refine wl_callpy hfr hst (by decide) rfl (by decide) rfl Tryd.call23 rfl (verifyx_ok old root i n v1 (fewH xs 70) _ (hst.ownAt (i := 0) rfl) (by rw [few_len]; omega) (by omega) (hst.keepb hk0)) ?_
    clear hfr hst
    intro a w5 hfr hst
    refine wl_vy hfr (by decide) rfl (by decide) rfl (v_move rfl) ?_
    clear hfr
    intro a hfr
    refine wl_vy hfr (by decide) rfl (by decide) rfl (v_move rfl) ?_
    clear hfr
    intro a hfr
    refine wl_vy hfr (by decide) rfl (by decide) rfl (v_move rfl) ?_
    clear hfr
    intro a hfr
    refine wl_vy hfr (by decide) rfl (by decide) rfl (v_move rfl) ?_
    clear hfr
    intro a hfr
    refine wl_vy hfr (by decide) rfl (by decide) rfl (v_move rfl) ?_
    clear hfr
    intro a hfr
    refine wl_callpy hfr hst (by decide) rfl (by decide) rfl Tryd.call24 rfl (rverifyx_ok old root i n v1 (fewH xs 70) _ (hst.ownAt (i := 0) rfl) (by omega)) ?_
    clear hfr hst
    intro a w6 hfr hst
    rcases Bool.eq_false_or_eq_true (verifyExtH sha old i root n (fewH xs 70)) with hb4 | hb4
    · rw [hb4] at hfr
      try simp only [Bool.not_eq_true', Bool.not_eq_false', decide_eq_true_eq, decide_eq_false_iff_not] at hb4
      refine wl_vy hfr (by decide) rfl (by decide) rfl ((v_eq_bool rfl rfl Tryd.underlying4).asb (b' := true) rfl) ?_
      clear hfr
      intro a hfr
      refine wl_v hfr (by decide) (v_pick_t rfl rfl) ?_
      clear hfr
      intro a hfr
      refine wl_v hfr (by decide) (v_assign rfl) ?_
      clear hfr
      intro a hfr
      refine wl_nil (hK6 _ _ ?_)
      replace hfr : Fr 55 [(12, _)] [] a := hfr.pick [12]
      replace hst : St No w0 [] w6 := hst.mask [false]
      refine wc_ret ?_
      refine fin_ret hfr Tryd.results4 (resAre_tmp rfl resAre_nil) ?_
      exact ⟨by rfl, hst.ext⟩
    rw [hb4] at hfr
    try simp only [Bool.not_eq_true', Bool.not_eq_false', decide_eq_true_eq, decide_eq_false_iff_not] at hb4
    refine wl_vy hfr (by decide) rfl (by decide) rfl ((v_eq_bool rfl rfl Tryd.underlying4).asb (b' := true) rfl) ?_
    clear hfr
    intro a hfr
    refine wl_v hfr (by decide) (v_pick_t rfl rfl) ?_
    clear hfr
    intro a hfr
    refine wl_v hfr (by decide) (v_assign rfl) ?_
    clear hfr
    intro a hfr
    refine wl_nil (hK6 _ _ ?_)
    replace hfr : Fr 55 [(12, _)] [] a := hfr.pick [12]
    replace hst : St No w0 [] w6 := hst.mask [false]
    refine wc_ret ?_
    refine fin_ret hfr Tryd.results4 (resAre_tmp rfl resAre_nil) ?_
    exact ⟨by rfl, hst.ext⟩
  rw [hb3] at hfr
  try simp only [Bool.not_eq_true', Bool.not_eq_false', decide_eq_true_eq, decide_eq_false_iff_not] at hb3
  refine wl_v hfr (by decide) ((v_eq_bool rfl rfl Tryd.underlying4).asb (b' := true) rfl) ?_
  clear hfr
  intro a hfr
  refine wl_v hfr (by decide) (v_assign rfl) ?_
  clear hfr
  intro a hfr
  refine wl_nil (hK5 _ _ ?_)
  replace hfr : Fr 55 [(0, _), (1, _), (2, _), (3, _), (12, _), (13, _), (5, _), (14, _)] [] a := hfr.pick [0, 1, 2, 3, 12, 13, 5, 14]
  refine wc_seq_region fun K7 hK7 => ?_
  refine wl_v hfr (by decide) (v_move rfl) ?_
  clear hfr
  intro a hfr
  refine wl_v hfr (by decide) (v_move rfl) ?_
  clear hfr
  intro a hfr
  refine wl_vy hfr (by decide) rfl (by decide) rfl (v_move rfl) ?_
  clear hfr
  intro a hfr
  refine wl_v hfr (by decide) (v_pick_t rfl rfl) ?_
  clear hfr
  intro a hfr
  refine wl_v hfr (by decide) (v_move rfl) ?_
  clear hfr
  intro a hfr
  refine wl_vy hfr (by decide) rfl (by decide) rfl (v_move rfl) ?_
  clear hfr
  intro a hfr
  refine wl_vy hfr (by decide) rfl (by decide) rfl (v_move rfl) ?_
  clear hfr
  intro a hfr
  refine wl_vy hfr (by decide) rfl (by decide) rfl (v_move rfl) ?_
  clear hfr
  intro a hfr
  refine wl_vy hfr (by decide) rfl (by decide) rfl (v_move rfl) ?_
  clear hfr
  intro a hfr
  refine wl_vy hfr (by decide) rfl (by decide) rfl (v_move rfl) ?_
  clear hfr
  intro a hfr
  refine wl_callpy hfr hst (by decide) rfl (by decide) rfl Tryd.call23 rfl (verifyx_ok old root i n v1 (fewH xs 70) _ (hst.ownAt (i := 0) rfl) (by rw [few_len]; omega) (by omega) (hst.keepb hk0)) ?_
  clear hfr hst
  intro a w7 hfr hst
  refine wl_vy hfr (by decide) rfl (by decide) rfl (v_move rfl) ?_
  clear hfr
  intro a hfr
  refine wl_vy hfr (by decide) rfl (by decide) rfl (v_move rfl) ?_
  clear hfr
  intro a hfr
  refine wl_vy hfr (by decide) rfl (by decide) rfl (v_move rfl) ?_
  clear hfr
  intro a hfr
  refine wl_vy hfr (by decide) rfl (by decide) rfl (v_move rfl) ?_
  clear hfr
  intro a hfr
  refine wl_vy hfr (by decide) rfl (by decide) rfl (v_move rfl) ?_
  clear hfr
  intro a hfr
  refine wl_callpy hfr hst (by decide) rfl (by decide) rfl Tryd.call24 rfl (rverifyx_ok old root i n v1 (fewH xs 70) _ (hst.ownAt (i := 0) rfl) (by omega)) ?_
  clear hfr hst
  intro a w8 hfr hst
  rcases Bool.eq_false_or_eq_true (verifyExtH sha old i root n (fewH xs 70)) with hb5 | hb5
  · rw [hb5] at hfr
    try simp only [Bool.not_eq_true', Bool.not_eq_false', decide_eq_true_eq, decide_eq_false_iff_not] at hb5
    refine wl_vy hfr (by decide) rfl (by decide) rfl ((v_eq_bool rfl rfl Tryd.underlying4).asb (b' := true) rfl) ?_
    clear hfr
    intro a hfr
    refine wl_v hfr (by decide) (v_pick_t rfl rfl) ?_
    clear hfr
    intro a hfr
    refine wl_v hfr (by decide) (v_assign rfl) ?_
    clear hfr
    intro a hfr
    refine wl_nil (hK7 _ _ ?_)
    replace hfr : Fr 55 [(12, _)] [] a := hfr.pick [12]
    replace hst : St No w0 [] w8 := hst.mask [false]
    refine wc_ret ?_
    refine fin_ret hfr Tryd.results4 (resAre_tmp rfl resAre_nil) ?_
    exact ⟨by rfl, hst.ext⟩
  rw [hb5] at hfr
  try simp only [Bool.not_eq_true', Bool.not_eq_false', decide_eq_true_eq, decide_eq_false_iff_not] at hb5
  refine wl_vy hfr (by decide) rfl (by decide) rfl ((v_eq_bool rfl rfl Tryd.underlying4).asb (b' := true) rfl) ?_
  clear hfr
  intro a hfr
  refine wl_v hfr (by decide) (v_pick_t rfl rfl) ?_
  clear hfr
  intro a hfr
  refine wl_v hfr (by decide) (v_assign rfl) ?_
  clear hfr
  intro a hfr
  refine wl_nil (hK7 _ _ ?_)
  replace hfr : Fr 55 [(12, _)] [] a := hfr.pick [12]
  replace hst : St No w0 [] w8 := hst.mask [false]
  refine wc_ret ?_
  refine fin_ret hfr Tryd.results4 (resAre_tmp rfl resAre_nil) ?_
  exact ⟨by rfl, hst.ext⟩

set_option maxHeartbeats 4000000 in
/-- dialtone/dialtonelaw02.DigestTreeMatchesReference -/
theorem trees_walk (i m : Int) (av : Value) (xs : List By) (w0 : World) (hav : SlAt w0 av 1 (xs.map fun s => [sv s])) (hk0 : (blk 0 (kOf.map wv) 88).ok w0) :
    Ret Tryd.prog 3 #[av, .int .i64 i, .int .i64 m] w0 fun v w => v = .bool true ∧ Ext No w0 w := by
  refine ret_of Tryd.func3 rfl Tryd.ntmps3 (Nat.le_of_ble_eq_true rfl) fun a hfr => ?_
  replace hfr : Fr 73 [(0, _), (1, _), (2, _)] [] a := hfr
  replace hst : St No w0 [] w0 := St.init w0
  refine wc_seq_region fun K1 hK1 => ?_
  refine wl_v hfr (by decide) (v_assign rfl) ?_
  clear hfr
  intro a hfr
  refine wl_nil (hK1 _ _ ?_)
  refine wc_seq_region fun K2 hK2 => ?_
  refine wl_callp hfr hst (by decide) Tryd.call12 rfl (sane_ok _ (hst.keepb hk0)) ?_
  clear hfr hst
  intro a w1 hfr hst
  refine wl_v hfr (by decide) (v_assign rfl) ?_
  clear hfr
  intro a hfr
  refine wl_nil (hK2 _ _ ?_)
  refine wc_seq_region fun K3 hK3 => ?_
  refine wl_v hfr (by decide) (v_move rfl) ?_
  clear hfr
  intro a hfr
  refine wl_callm hfr hst (by decide) Tryd.call13 rfl (few_ok av xs 40 _ (hst.arg hav) (by decide)) ?_
  clear hfr hst
  intro a w2 x2 hp hfr hst
  revert x2 hp hfr hst; rintro v1 hp hfr hst
  clear hp
  replace hst : St No w0 [own v1 9 1 ((fewH xs 40).map fun s => [sv s])] w2 := hst
  refine wl_v hfr (by decide) (v_assign rfl) ?_
  clear hfr
  intro a hfr
  refine wl_nil (hK3 _ _ ?_)
  refine wc_seq_region fun K4 hK4 => ?_
  refine wl_v hfr (by decide) (v_move rfl) ?_
  clear hfr
  intro a hfr
  refine wl_v hfr (by decide) (v_move rfl) ?_
  clear hfr
  intro a hfr
  rcases Bool.eq_false_or_eq_true (decide (0 ≤ i ∧ i < ((fewH xs 40).length : Int))) with hb3 | hb3
  · try simp only [Bool.not_eq_true', Bool.not_eq_false', decide_eq_true_eq, decide_eq_false_iff_not] at hb3
    obtain ⟨ii, rfl⟩ := Int.eq_ofNat_of_zero_le hb3.1
    refine wl_callm hfr hst (by decide) Tryd.call14 rfl (proof_ok v1 (fewH xs 40) ii _ (hst.ownAt (i := 0) rfl) (by omega) (by rw [few_len]; omega) few_big (hst.keepb hk0)) ?_
    clear hfr hst
    intro a w3 x5 hp hfr hst
    revert x5 hp hfr hst; rintro v4 hp hfr hst
    clear hp
    replace hst : St No w0 [own v4 9 1 ((proofH sha (fewH xs 40) ii).map fun s => [sv s]), own v1 9 1 ((fewH xs 40).map fun s => [sv s])] w3 := hst
    refine wl_v hfr (by decide) (v_move rfl) ?_
    clear hfr
    intro a hfr
    refine wl_v hfr (by decide) (v_extract rfl rfl) ?_
    clear hfr
    intro a hfr
    refine wl_v hfr (by decide) (v_extract rfl rfl) ?_
    clear hfr
    intro a hfr
    refine wl_v hfr (by decide) (v_assign rfl) ?_
    clear hfr
    intro a hfr
    refine wl_v hfr (by decide) (v_assign rfl) ?_
    clear hfr
    intro a hfr
    refine wl_nil (hK4 _ _ ?_)
    replace hfr : Fr 73 [(1, _), (2, _), (6, _), (7, _), (0, _), (8, _), (9, _)] [] a := hfr.pick [1, 2, 6, 7, 0, 8, 9]
    refine wc_seq_region fun K5 hK5 => ?_
    refine wl_v hfr (by decide) (v_move rfl) ?_
    clear hfr
    intro a hfr
    refine wl_v hfr (by decide) (v_move rfl) ?_
    clear hfr
    intro a hfr
    refine wl_callm hfr hst (by decide) Tryd.call15 rfl (rproof_ok _ v1 (fewH xs 40) ii _ rfl (hst.ownAt (i := 1) rfl) (by omega) (by rw [few_len]; omega) few_big) ?_
    clear hfr hst
    intro a w4 x7 hp hfr hst
    revert x7 hp hfr hst; rintro v6 hp hfr hst
    clear hp
    replace hst : St No w0 [own v6 9 1 ((proofH sha (fewH xs 40) ii).map fun s => [sv s]), own v4 9 1 ((proofH sha (fewH xs 40) ii).map fun s => [sv s]), own v1 9 1 ((fewH xs 40).map fun s => [sv s])] w4 := hst
    refine wl_v hfr (by decide) (v_move rfl) ?_
    clear hfr
    intro a hfr
    refine wl_v hfr (by decide) (v_extract rfl rfl) ?_
    clear hfr
    intro a hfr
    refine wl_v hfr (by decide) (v_extract rfl rfl) ?_
    clear hfr
    intro a hfr
    refine wl_v hfr (by decide) (v_assign rfl) ?_
    clear hfr
    intro a hfr
    refine wl_v hfr (by decide) (v_assign rfl) ?_
    clear hfr
    intro a hfr
    refine wl_nil (hK5 _ _ ?_)
    replace hfr : Fr 73 [(2, _), (6, _), (7, _), (0, _), (8, _), (9, _), (10, _), (11, _)] [] a := hfr.pick [2, 6, 7, 0, 8, 9, 10, 11]
    refine wc_seq_region fun K6 hK6 => ?_
    refine wl_v hfr (by decide) (v_move rfl) ?_
    clear hfr
    intro a hfr
    refine wl_v hfr (by decide) (v_move rfl) ?_
    clear hfr
    intro a hfr
    rcases Bool.eq_false_or_eq_true (decide (0 ≤ m ∧ m ≤ ((fewH xs 40).length : Int))) with hb8 | hb8
    · try simp only [Bool.not_eq_true', Bool.not_eq_false', decide_eq_true_eq, decide_eq_false_iff_not] at hb8
      obtain ⟨mm, rfl⟩ := Int.eq_ofNat_of_zero_le hb8.1
      refine wl_callm hfr hst (by decide) Tryd.call16 rfl (ext_in v1 (fewH xs 40) mm _ (hst.ownAt (i := 2) rfl) (by omega) (by rw [few_len]; omega) few_big (hst.keepb hk0)) ?_
      clear hfr hst
      intro a w5 x10 hp hfr hst
      revert x10 hp hfr hst; rintro v9 hp hfr hst
      clear hp
      replace hst : St No w0 [own v9 9 1 ((extH sha (fewH xs 40) mm).map fun s => [sv s]), own v6 9 1 ((proofH sha (fewH xs 40) ii).map fun s => [sv s]), own v4 9 1 ((proofH sha (fewH xs 40) ii).map fun s => [sv s]), own v1 9 1 ((fewH xs 40).map fun s => [sv s])] w5 := hst
      refine wl_v hfr (by decide) (v_move rfl) ?_
      clear hfr
      intro a hfr
      refine wl_v hfr (by decide) (v_extract rfl rfl) ?_
      clear hfr
      intro a hfr
      refine wl_v hfr (by decide) (v_extract rfl rfl) ?_
      clear hfr
      intro a hfr
      refine wl_v hfr (by decide) (v_assign rfl) ?_
      clear hfr
      intro a hfr
      refine wl_v hfr (by decide) (v_assign rfl) ?_
      clear hfr
      intro a hfr
      refine wl_nil (hK6 _ _ ?_)
      replace hfr : Fr 73 [(2, _), (6, _), (7, _), (0, _), (8, _), (9, _), (10, _), (11, _), (12, _), (13, _)] [] a := hfr.pick [2, 6, 7, 0, 8, 9, 10, 11, 12, 13]
      refine wc_seq_region fun K7 hK7 => ?_
      refine wl_v hfr (by decide) (v_move rfl) ?_
      clear hfr
      intro a hfr
      refine wl_v hfr (by decide) (v_move rfl) ?_
      clear hfr
      intro a hfr
      refine wl_callm hfr hst (by decide) Tryd.call17 rfl (rext_ok v1 (fewH xs 40) mm _ (hst.ownAt (i := 3) rfl) (by omega) (by rw [few_len]; omega) few_big) ?_
      clear hfr hst
      intro a w6 x12 hp hfr hst
      revert x12 hp hfr hst; rintro v11 hp hfr hst
      clear hp
      replace hst : St No w0 [own v11 9 1 ((extH sha (fewH xs 40) mm).map fun s => [sv s]), own v9 9 1 ((extH sha (fewH xs 40) mm).map fun s => [sv s]), own v6 9 1 ((proofH sha (fewH xs 40) ii).map fun s => [sv s]), own v4 9 1 ((proofH sha (fewH xs 40) ii).map fun s => [sv s]), own v1 9 1 ((fewH xs 40).map fun s => [sv s])] w6 := hst
      refine wl_v hfr (by decide) (v_move rfl) ?_
      clear hfr
      intro a hfr
      refine wl_v hfr (by decide) (v_extract rfl rfl) ?_
      clear hfr
      intro a hfr
      refine wl_v hfr (by decide) (v_extract rfl rfl) ?_
      clear hfr
      intro a hfr
      refine wl_v hfr (by decide) (v_assign rfl) ?_
      clear hfr
      intro a hfr
      refine wl_v hfr (by decide) (v_assign rfl) ?_
      clear hfr
      intro a hfr
      refine wl_nil (hK7 _ _ ?_)
      replace hfr : Fr 73 [(6, _), (7, _), (0, _), (8, _), (9, _), (10, _), (11, _), (12, _), (13, _), (14, _), (15, _)] [] a := hfr.pick [6, 7, 0, 8, 9, 10, 11, 12, 13, 14, 15]
      refine wc_seq_region fun K8 hK8 => ?_
      refine wl_v hfr (by decide) (v_move rfl) ?_
      clear hfr
      intro a hfr
      refine wl_v hfr (by decide) (v_move rfl) ?_
      clear hfr
      intro a hfr
      refine wl_callp hfr hst (by decide) Tryd.call18 rfl (ret_b (decide_eq_true rfl) (sames_ok v4 v6 (proofH sha (fewH xs 40) ii) (proofH sha (fewH xs 40) ii) _ (hst.ownAt (i := 3) rfl) (hst.ownAt (i := 2) rfl))) ?_
      clear hfr hst
      intro a w7 hfr hst
      refine wl_v hfr (by decide) (v_move rfl) ?_
      clear hfr
      intro a hfr
      refine wl_vy hfr (by decide) rfl (by decide) rfl (v_move rfl) ?_
      clear hfr
      intro a hfr
      refine wl_vy hfr (by decide) rfl (by decide) rfl (v_move rfl) ?_
      clear hfr
      intro a hfr
      refine wl_callpy hfr hst (by decide) rfl (by decide) rfl Tryd.call18 rfl (ret_b (decide_eq_true rfl) (sames_ok v9 v11 (extH sha (fewH xs 40) mm) (extH sha (fewH xs 40) mm) _ (hst.ownAt (i := 1) rfl) (hst.ownAt (i := 0) rfl))) ?_
      clear hfr hst
      intro a w8 hfr hst
      refine wl_v hfr (by decide) (v_pick_t rfl rfl) ?_
      clear hfr
      intro a hfr
      refine wl_v hfr (by decide) (v_assign rfl) ?_
      clear hfr
      intro a hfr
      refine wl_nil (hK8 _ _ ?_)
      replace hfr : Fr 73 [(6, _), (7, _), (0, _), (9, _), (11, _), (13, _), (15, _), (16, _)] [] a := hfr.pick [6, 7, 0, 9, 11, 13, 15, 16]
      replace hst : St No w0 [_] w8 := hst.mask [false, false, false, false, true]
      refine wc_seq_region fun K9 hK9 => ?_
      refine wl_v hfr (by decide) (v_move rfl) ?_
      clear hfr
      intro a hfr
      refine wl_v hfr (by decide) (v_move rfl) ?_
      clear hfr
      intro a hfr
      refine wl_vy hfr (by decide) rfl (by decide) rfl (v_move rfl) ?_
      clear hfr
      intro a hfr
      refine wl_v hfr (by decide) (v_pick_t rfl rfl) ?_
      clear hfr
      intro a hfr
      refine wl_v hfr (by decide) (v_move rfl) ?_
      clear hfr
      intro a hfr
      refine wl_vy hfr (by decide) rfl (by decide) rfl (v_move rfl) ?_
      clear hfr
      intro a hfr
      refine wl_vy hfr (by decide) rfl (by decide) rfl (v_move rfl) ?_
      clear hfr
      intro a hfr
      refine wl_vy hfr (by decide) rfl (by decide) rfl ((v_eq rfl rfl).asb (b' := true) rfl) ?_
      clear hfr
      intro a hfr
      refine wl_v hfr (by decide) (v_pick_t rfl rfl) ?_
      clear hfr
      intro a hfr
      refine wl_v hfr (by decide) (v_move rfl) ?_
      clear hfr
      intro a hfr
      refine wl_vy hfr (by decide) rfl (by decide) rfl (v_move rfl) ?_
      clear hfr
      intro a hfr
      refine wl_vy hfr (by decide) rfl (by decide) rfl (v_move rfl) ?_
      clear hfr
      intro a hfr
      refine wl_vy hfr (by decide) rfl (by decide) rfl ((v_eq rfl rfl).asb (b' := true) rfl) ?_
      clear hfr
      intro a hfr
      refine wl_v hfr (by decide) (v_pick_t rfl rfl) ?_
      clear hfr
      intro a hfr
      refine wl_v hfr (by decide) (v_move rfl) ?_
      clear hfr
      intro a hfr
      refine wl_vy hfr (by decide) rfl (by decide) rfl (v_move rfl) ?_
      clear hfr
      intro a hfr
      refine wl_callpy hfr hst (by decide) rfl (by decide) rfl Tryd.call19 rfl (root_ok v1 (fewH xs 40) _ (hst.ownAt (i := 0) rfl) (by rw [few_len]; omega) (fun k hk => few_big _ (getD_mem hk)) (hst.keepb hk0)) ?_
      clear hfr hst
      intro a w9 hfr hst
      refine wl_vy hfr (by decide) rfl (by decide) rfl (v_move rfl) ?_
      clear hfr
      intro a hfr
      refine wl_callpy hfr hst (by decide) rfl (by decide) rfl Tryd.call20 rfl (rroot_ok _ v1 (fewH xs 40) _ rfl (hst.ownAt (i := 0) rfl) (by rw [few_len]; omega) few_big) ?_
      clear hfr hst
      intro a w10 hfr hst
      refine wl_vy hfr (by decide) rfl (by decide) rfl ((v_seq rfl rfl).asb (b' := true) (by exact decide_eq_true rfl)) ?_
      clear hfr
      intro a hfr
      refine wl_v hfr (by decide) (v_pick_t rfl rfl) ?_
      clear hfr
      intro a hfr
      refine wl_v hfr (by decide) (v_assign rfl) ?_
      clear hfr
      intro a hfr
      refine wl_nil (hK9 _ _ ?_)
      replace hfr : Fr 73 [(6, _)] [] a := hfr.pick [6]
      replace hst : St No w0 [] w10 := hst.mask [false]
      refine wc_ret ?_
      refine fin_ret hfr Tryd.results3 (resAre_tmp rfl resAre_nil) ?_
      exact ⟨by rfl, hst.ext⟩
    try simp only [Bool.not_eq_true', Bool.not_eq_false', decide_eq_true_eq, decide_eq_false_iff_not] at hb8
    refine wl_callp hfr hst (by decide) Tryd.call16 rfl (ext_err v1 (fewH xs 40) m _ (hst.ownAt (i := 2) rfl) (by omega)) ?_
    clear hfr hst
    intro a w11 hfr hst
    refine wl_v hfr (by decide) (v_move rfl) ?_
    clear hfr
    intro a hfr
    refine wl_v hfr (by decide) (v_extract rfl rfl) ?_
    clear hfr
    intro a hfr
    refine wl_v hfr (by decide) (v_extract rfl rfl) ?_
    clear hfr
    intro a hfr
    refine wl_v hfr (by decide) (v_assign rfl) ?_
    clear hfr
    intro a hfr
    refine wl_v hfr (by decide) (v_assign rfl) ?_
    clear hfr
    intro a hfr
    refine wl_nil (hK6 _ _ ?_)
    replace hfr : Fr 73 [(2, _), (6, _), (7, _), (0, _), (8, _), (9, _), (10, _), (11, _), (12, _), (13, _)] [] a := hfr.pick [2, 6, 7, 0, 8, 9, 10, 11, 12, 13]
    refine wc_seq_region fun K10 hK10 => ?_
    refine wl_v hfr (by decide) (v_move rfl) ?_
    clear hfr
    intro a hfr
    refine wl_v hfr (by decide) (v_move rfl) ?_
    clear hfr
    intro a hfr
    refine wl_callp hfr hst (by decide) Tryd.call17 rfl (rext_err v1 (fewH xs 40) m _ (hst.ownAt (i := 2) rfl) (by omega)) ?_
    clear hfr hst
    intro a w12 hfr hst
    refine wl_v hfr (by decide) (v_move rfl) ?_
    clear hfr
    intro a hfr
    refine wl_v hfr (by decide) (v_extract rfl rfl) ?_
    clear hfr
    intro a hfr
    refine wl_v hfr (by decide) (v_extract rfl rfl) ?_
    clear hfr
    intro a hfr
    refine wl_v hfr (by decide) (v_assign rfl) ?_
    clear hfr
    intro a hfr
    refine wl_v hfr (by decide) (v_assign rfl) ?_
    clear hfr
    intro a hfr
    refine wl_nil (hK10 _ _ ?_)
    replace hfr : Fr 73 [(6, _), (7, _), (0, _), (8, _), (9, _), (10, _), (11, _), (12, _), (13, _), (14, _), (15, _)] [] a := hfr.pick [6, 7, 0, 8, 9, 10, 11, 12, 13, 14, 15]
    refine wc_seq_region fun K11 hK11 => ?_
    refine wl_v hfr (by decide) (v_move rfl) ?_
    clear hfr
    intro a hfr
    refine wl_v hfr (by decide) (v_move rfl) ?_
    clear hfr
    intro a hfr
    refine wl_callp hfr hst (by decide) Tryd.call18 rfl (ret_b (decide_eq_true rfl) (sames_ok v4 v6 (proofH sha (fewH xs 40) ii) (proofH sha (fewH xs 40) ii) _ (hst.ownAt (i := 1) rfl) (hst.ownAt (i := 0) rfl))) ?_
    clear hfr hst
    intro a w13 hfr hst
    refine wl_v hfr (by decide) (v_move rfl) ?_
    clear hfr
    intro a hfr
    refine wl_vy hfr (by decide) rfl (by decide) rfl (v_move rfl) ?_
    clear hfr
    intro a hfr
    refine wl_vy hfr (by decide) rfl (by decide) rfl (v_move rfl) ?_
    clear hfr
    intro a hfr
    refine wl_callpy hfr hst (by decide) rfl (by decide) rfl Tryd.call18 rfl (ret_b (decide_eq_true rfl) (sames_ok (.slice none 0 0) (.slice none 0 0) ([] : List By) ([] : List By) _ (slAt_nil _ _) (slAt_nil _ _))) ?_
    clear hfr hst
    intro a w14 hfr hst
    refine wl_v hfr (by decide) (v_pick_t rfl rfl) ?_
    clear hfr
    intro a hfr
    refine wl_v hfr (by decide) (v_assign rfl) ?_
    clear hfr
    intro a hfr
    refine wl_nil (hK11 _ _ ?_)
    replace hfr : Fr 73 [(6, _), (7, _), (0, _), (9, _), (11, _), (13, _), (15, _), (16, _)] [] a := hfr.pick [6, 7, 0, 9, 11, 13, 15, 16]
    replace hst : St No w0 [_] w14 := hst.mask [false, false, true]
    refine wc_seq_region fun K12 hK12 => ?_
    refine wl_v hfr (by decide) (v_move rfl) ?_
    clear hfr
    intro a hfr
    refine wl_v hfr (by decide) (v_move rfl) ?_
    clear hfr
    intro a hfr
    refine wl_vy hfr (by decide) rfl (by decide) rfl (v_move rfl) ?_
    clear hfr
    intro a hfr
    refine wl_v hfr (by decide) (v_pick_t rfl rfl) ?_
    clear hfr
    intro a hfr
    refine wl_v hfr (by decide) (v_move rfl) ?_
    clear hfr
    intro a hfr
    refine wl_vy hfr (by decide) rfl (by decide) rfl (v_move rfl) ?_
    clear hfr
    intro a hfr
    refine wl_vy hfr (by decide) rfl (by decide) rfl (v_move rfl) ?_
    clear hfr
    intro a hfr
    refine wl_vy hfr (by decide) rfl (by decide) rfl ((v_eq rfl rfl).asb (b' := true) rfl) ?_
    clear hfr
    intro a hfr
    refine wl_v hfr (by decide) (v_pick_t rfl rfl) ?_
    clear hfr
    intro a hfr
    refine wl_v hfr (by decide) (v_move rfl) ?_
    clear hfr
    intro a hfr
    refine wl_vy hfr (by decide) rfl (by decide) rfl (v_move rfl) ?_
    clear hfr
    intro a hfr
    refine wl_vy hfr (by decide) rfl (by decide) rfl (v_move rfl) ?_
    clear hfr
    intro a hfr
    refine wl_vy hfr (by decide) rfl (by decide) rfl ((v_eq rfl rfl).asb (b' := true) rfl) ?_
    clear hfr
    intro a hfr
    refine wl_v hfr (by decide) (v_pick_t rfl rfl) ?_
    clear hfr
    intro a hfr
    refine wl_v hfr (by decide) (v_move rfl) ?_
    clear hfr
    intro a hfr
    refine wl_vy hfr (by decide) rfl (by decide) rfl (v_move rfl) ?_
    clear hfr
    intro a hfr
    refine wl_callpy hfr hst (by decide) rfl (by decide) rfl Tryd.call19 rfl (root_ok v1 (fewH xs 40) _ (hst.ownAt (i := 0) rfl) (by rw [few_len]; omega) (fun k hk => few_big _ (getD_mem hk)) (hst.keepb hk0)) ?_
    clear hfr hst
    intro a w15 hfr hst
    refine wl_vy hfr (by decide) rfl (by decide) rfl (v_move rfl) ?_
    clear hfr
    intro a hfr
    refine wl_callpy hfr hst (by decide) rfl (by decide) rfl Tryd.call20 rfl (rroot_ok _ v1 (fewH xs 40) _ rfl (hst.ownAt (i := 0) rfl) (by rw [few_len]; omega) few_big) ?_
    clear hfr hst
    intro a w16 hfr hst
    refine wl_vy hfr (by decide) rfl (by decide) rfl ((v_seq rfl rfl).asb (b' := true) (by exact decide_eq_true rfl)) ?_
    clear hfr
    intro a hfr
    refine wl_v hfr (by decide) (v_pick_t rfl rfl) ?_
    clear hfr
    intro a hfr
    refine wl_v hfr (by decide) (v_assign rfl) ?_
    clear hfr
    intro a hfr
    refine wl_nil (hK12 _ _ ?_)
    replace hfr : Fr 73 [(6, _)] [] a := hfr.pick [6]
    replace hst : St No w0 [] w16 := hst.mask [false]
    refine wc_ret ?_
    refine fin_ret hfr Tryd.results3 (resAre_tmp rfl resAre_nil) ?_
    exact ⟨by rfl, hst.ext⟩
  try simp only [Bool.not_eq_true', Bool.not_eq_false', decide_eq_true_eq, decide_eq_false_iff_not] at hb3
  refine wl_callp hfr hst (by decide) Tryd.call14 rfl (proof_err v1 (fewH xs 40) i _ (hst.ownAt (i := 0) rfl) (by omega)) ?_
  clear hfr hst
  intro a w17 hfr hst
  refine wl_v hfr (by decide) (v_move rfl) ?_
  clear hfr
  intro a hfr
  refine wl_v hfr (by decide) (v_extract rfl rfl) ?_
  clear hfr
  intro a hfr
  refine wl_v hfr (by decide) (v_extract rfl rfl) ?_
  clear hfr
  intro a hfr
  refine wl_v hfr (by decide) (v_assign rfl) ?_
  clear hfr
  intro a hfr
  refine wl_v hfr (by decide) (v_assign rfl) ?_
  clear hfr
  intro a hfr
  refine wl_nil (hK4 _ _ ?_)
  replace hfr : Fr 73 [(1, _), (2, _), (6, _), (7, _), (0, _), (8, _), (9, _)] [] a := hfr.pick [1, 2, 6, 7, 0, 8, 9]
  refine wc_seq_region fun K13 hK13 => ?_
  refine wl_v hfr (by decide) (v_move rfl) ?_
  clear hfr
  intro a hfr
  refine wl_v hfr (by decide) (v_move rfl) ?_
  clear hfr
  intro a hfr
  refine wl_callp hfr hst (by decide) Tryd.call15 rfl (rproof_err v1 (fewH xs 40) i _ (hst.ownAt (i := 0) rfl) (by omega)) ?_
  clear hfr hst
  intro a w18 hfr hst
  refine wl_v hfr (by decide) (v_move rfl) ?_
  clear hfr
  intro a hfr
  refine wl_v hfr (by decide) (v_extract rfl rfl) ?_
  clear hfr
  intro a hfr
  refine wl_v hfr (by decide) (v_extract rfl rfl) ?_
  clear hfr
  intro a hfr
  refine wl_v hfr (by decide) (v_assign rfl) ?_
  clear hfr
  intro a hfr
  refine wl_v hfr (by decide) (v_assign rfl) ?_
  clear hfr
  intro a hfr
  refine wl_nil (hK13 _ _ ?_)
  replace hfr : Fr 73 [(2, _), (6, _), (7, _), (0, _), (8, _), (9, _), (10, _), (11, _)] [] a := hfr.pick [2, 6, 7, 0, 8, 9, 10, 11]
  refine wc_seq_region fun K14 hK14 => ?_
  refine wl_v hfr (by decide) (v_move rfl) ?_
  clear hfr
  intro a hfr
  refine wl_v hfr (by decide) (v_move rfl) ?_
  clear hfr
  intro a hfr
  rcases Bool.eq_false_or_eq_true (decide (0 ≤ m ∧ m ≤ ((fewH xs 40).length : Int))) with hb13 | hb13
  · try simp only [Bool.not_eq_true', Bool.not_eq_false', decide_eq_true_eq, decide_eq_false_iff_not] at hb13
    obtain ⟨mm, rfl⟩ := Int.eq_ofNat_of_zero_le hb13.1
    refine wl_callm hfr hst (by decide) Tryd.call16 rfl (ext_in v1 (fewH xs 40) mm _ (hst.ownAt (i := 0) rfl) (by omega) (by rw [few_len]; omega) few_big (hst.keepb hk0)) ?_
    clear hfr hst
    intro a w19 x15 hp hfr hst
    revert x15 hp hfr hst; rintro v14 hp hfr hst
    clear hp
    replace hst : St No w0 [own v14 9 1 ((extH sha (fewH xs 40) mm).map fun s => [sv s]), own v1 9 1 ((fewH xs 40).map fun s => [sv s])] w19 := hst
    refine wl_v hfr (by decide) (v_move rfl) ?_
    clear hfr
    intro a hfr
    refine wl_v hfr (by decide) (v_extract rfl rfl) ?_
    clear hfr
    intro a hfr
    refine wl_v hfr (by decide) (v_extract rfl rfl) ?_
    clear hfr
    intro a hfr
    refine wl_v hfr (by decide) (v_assign rfl) ?_
    clear hfr
    intro a hfr
    refine wl_v hfr (by decide) (v_assign rfl) ?_
    clear hfr
    intro a hfr
    refine wl_nil (hK14 _ _ ?_)
    replace hfr : Fr 73 [(2, _), (6, _), (7, _), (0, _), (8, _), (9, _), (10, _), (11, _), (12, _), (13, _)] [] a := hfr.pick [2, 6, 7, 0, 8, 9, 10, 11, 12, 13]
    refine wc_seq_region fun K15 hK15 => ?_
    refine wl_v hfr (by decide) (v_move rfl) ?_
    clear hfr
    intro a hfr
    refine wl_v hfr (by decide) (v_move rfl) ?_
    clear hfr
    intro a hfr
    refine wl_callm hfr hst (by decide) Tryd.call17 rfl (rext_ok v1 (fewH xs 40) mm _ (hst.ownAt (i := 1) rfl) (by omega) (by rw [few_len]; omega) few_big) ?_
    clear hfr hst
    intro a w20 x17 hp hfr hst
    revert x17 hp hfr hst; rintro v16 hp hfr hst
    clear hp
    replace hst : St No w0 [own v16 9 1 ((extH sha (fewH xs 40) mm).map fun s => [sv s]), own v14 9 1 ((extH sha (fewH xs 40) mm).map fun s => [sv s]), own v1 9 1 ((fewH xs 40).map fun s => [sv s])] w20 := hst
    refine wl_v hfr (by decide) (v_move rfl) ?_
    clear hfr
    intro a hfr
    refine wl_v hfr (by decide) (v_extract rfl rfl) ?_
    clear hfr
    intro a hfr
    refine wl_v hfr (by decide) (v_extract rfl rfl) ?_
    clear hfr
    intro a hfr
    refine wl_v hfr (by decide) (v_assign rfl) ?_
    clear hfr
    intro a hfr
    refine wl_v hfr (by decide) (v_assign rfl) ?_
    clear hfr
    intro a hfr
    refine wl_nil (hK15 _ _ ?_)
    replace hfr : Fr 73 [(6, _), (7, _), (0, _), (8, _), (9, _), (10, _), (11, _), (12, _), (13, _), (14, _), (15, _)] [] a := hfr.pick [6, 7, 0, 8, 9, 10, 11, 12, 13, 14, 15]
    refine wc_seq_region fun K16 hK16 => ?_
    refine wl_v hfr (by decide) (v_move rfl) ?_
    clear hfr
    intro a hfr
    refine wl_v hfr (by decide) (v_move rfl) ?_
    clear hfr
    intro a hfr
    refine wl_callp hfr hst (by decide) Tryd.call18 rfl (ret_b (decide_eq_true rfl) (sames_ok (.slice none 0 0) (.slice none 0 0) ([] : List By) ([] : List By) _ (slAt_nil _ _) (slAt_nil _ _))) ?_
    clear hfr hst
    intro a w21 hfr hst
    refine wl_v hfr (by decide) (v_move rfl) ?_
    clear hfr
    intro a hfr
    refine wl_vy hfr (by decide) rfl (by decide) rfl (v_move rfl) ?_
    clear hfr
    intro a hfr
    refine wl_vy hfr (by decide) rfl (by decide) rfl (v_move rfl) ?_
    clear hfr
    intro a hfr
    refine wl_callpy hfr hst (by decide) rfl (by decide) rfl Tryd.call18 rfl (ret_b (decide_eq_true rfl) (sames_ok v14 v16 (extH sha (fewH xs 40) mm) (extH sha (fewH xs 40) mm) _ (hst.ownAt (i := 1) rfl) (hst.ownAt (i := 0) rfl))) ?_
    clear hfr hst
    intro a w22 hfr hst
    refine wl_v hfr (by decide) (v_pick_t rfl rfl) ?_
    clear hfr
    intro a hfr
    refine wl_v hfr (by decide) (v_assign rfl) ?_
    clear hfr
    intro a hfr
    refine wl_nil (hK16 _ _ ?_)
    replace hfr : Fr 73 [(6, _), (7, _), (0, _), (9, _), (11, _), (13, _), (15, _), (16, _)] [] a := hfr.pick [6, 7, 0, 9, 11, 13, 15, 16]
    replace hst : St No w0 [_] w22 := hst.mask [false, false, true]
    refine wc_seq_region fun K17 hK17 => ?_
    refine wl_v hfr (by decide) (v_move rfl) ?_
    clear hfr
    intro a hfr
    refine wl_v hfr (by decide) (v_move rfl) ?_
    clear hfr
    intro a hfr
    refine wl_vy hfr (by decide) rfl (by decide) rfl (v_move rfl) ?_
    clear hfr
    intro a hfr
    refine wl_v hfr (by decide) (v_pick_t rfl rfl) ?_
    clear hfr
    intro a hfr
    refine wl_v hfr (by decide) (v_move rfl) ?_
    clear hfr
    intro a hfr
    refine wl_vy hfr (by decide) rfl (by decide) rfl (v_move rfl) ?_
    clear hfr
    intro a hfr
    refine wl_vy hfr (by decide) rfl (by decide) rfl (v_move rfl) ?_
    clear hfr
    intro a hfr
    refine wl_vy hfr (by decide) rfl (by decide) rfl ((v_eq rfl rfl).asb (b' := true) rfl) ?_
    clear hfr
    intro a hfr
    refine wl_v hfr (by decide) (v_pick_t rfl rfl) ?_
    clear hfr
    intro a hfr
    refine wl_v hfr (by decide) (v_move rfl) ?_
    clear hfr
    intro a hfr
    refine wl_vy hfr (by decide) rfl (by decide) rfl (v_move rfl) ?_
    clear hfr
    intro a hfr
    refine wl_vy hfr (by decide) rfl (by decide) rfl (v_move rfl) ?_
    clear hfr
    intro a hfr
    refine wl_vy hfr (by decide) rfl (by decide) rfl ((v_eq rfl rfl).asb (b' := true) rfl) ?_
    clear hfr
    intro a hfr
    refine wl_v hfr (by decide) (v_pick_t rfl rfl) ?_
    clear hfr
    intro a hfr
    refine wl_v hfr (by decide) (v_move rfl) ?_
    clear hfr
    intro a hfr
    refine wl_vy hfr (by decide) rfl (by decide) rfl (v_move rfl) ?_
    clear hfr
    intro a hfr
    refine wl_callpy hfr hst (by decide) rfl (by decide) rfl Tryd.call19 rfl (root_ok v1 (fewH xs 40) _ (hst.ownAt (i := 0) rfl) (by rw [few_len]; omega) (fun k hk => few_big _ (getD_mem hk)) (hst.keepb hk0)) ?_
    clear hfr hst
    intro a w23 hfr hst
    refine wl_vy hfr (by decide) rfl (by decide) rfl (v_move rfl) ?_
    clear hfr
    intro a hfr
    refine wl_callpy hfr hst (by decide) rfl (by decide) rfl Tryd.call20 rfl (rroot_ok _ v1 (fewH xs 40) _ rfl (hst.ownAt (i := 0) rfl) (by rw [few_len]; omega) few_big) ?_
    clear hfr hst
    intro a w24 hfr hst
    refine wl_vy hfr (by decide) rfl (by decide) rfl ((v_seq rfl rfl).asb (b' := true) (by exact decide_eq_true rfl)) ?_
    clear hfr
    intro a hfr
    refine wl_v hfr (by decide) (v_pick_t rfl rfl) ?_
    clear hfr
    intro a hfr
    refine wl_v hfr (by decide) (v_assign rfl) ?_
    clear hfr
    intro a hfr
    refine wl_nil (hK17 _ _ ?_)
    replace hfr : Fr 73 [(6, _)] [] a := hfr.pick [6]
    replace hst : St No w0 [] w24 := hst.mask [false]
    refine wc_ret ?_
    refine fin_ret hfr Tryd.results3 (resAre_tmp rfl resAre_nil) ?_
    exact ⟨by rfl, hst.ext⟩
  try simp only [Bool.not_eq_true', Bool.not_eq_false', decide_eq_true_eq, decide_eq_false_iff_not] at hb13
  refine wl_callp hfr hst (by decide) Tryd.call16 rfl (ext_err v1 (fewH xs 40) m _ (hst.ownAt (i := 0) rfl) (by omega)) ?_
  clear hfr hst
  intro a w25 hfr hst
  refine wl_v hfr (by decide) (v_move rfl) ?_
  clear hfr
  intro a hfr
  refine wl_v hfr (by decide) (v_extract rfl rfl) ?_
  clear hfr
  intro a hfr
  refine wl_v hfr (by decide) (v_extract rfl rfl) ?_
  clear hfr
  intro a hfr
  refine wl_v hfr (by decide) (v_assign rfl) ?_
  clear hfr
  intro a hfr
  refine wl_v hfr (by decide) (v_assign rfl) ?_
  clear hfr
  intro a hfr
  refine wl_nil (hK14 _ _ ?_)
  replace hfr : Fr 73 [(2, _), (6, _), (7, _), (0, _), (8, _), (9, _), (10, _), (11, _), (12, _), (13, _)] [] a := hfr.pick [2, 6, 7, 0, 8, 9, 10, 11, 12, 13]
  refine wc_seq_region fun K18 hK18 => ?_
  refine wl_v hfr (by decide) (v_move rfl) ?_
  clear hfr
  intro a hfr
  refine wl_v hfr (by decide) (v_move rfl) ?_
  clear hfr
  intro a hfr
  refine wl_callp hfr hst (by decide) Tryd.call17 rfl (rext_err v1 (fewH xs 40) m _ (hst.ownAt (i := 0) rfl) (by omega)) ?_
  clear hfr hst
  intro a w26 hfr hst
  refine wl_v hfr (by decide) (v_move rfl) ?_
  clear hfr
  intro a hfr
  refine wl_v hfr (by decide) (v_extract rfl rfl) ?_
  clear hfr
  intro a hfr
  refine wl_v hfr (by decide) (v_extract rfl rfl) ?_
  clear hfr
  intro a hfr
  refine wl_v hfr (by decide) (v_assign rfl) ?_
  clear hfr
  intro a hfr
  refine wl_v hfr (by decide) (v_assign rfl) ?_
  clear hfr
  intro a hfr
  refine wl_nil (hK18 _ _ ?_)
  replace hfr : Fr 73 [(6, _), (7, _), (0, _), (8, _), (9, _), (10, _), (11, _), (12, _), (13, _), (14, _), (15, _)] [] a := hfr.pick [6, 7, 0, 8, 9, 10, 11, 12, 13, 14, 15]
  refine wc_seq_region fun K19 hK19 => ?_
  refine wl_v hfr (by decide) (v_move rfl) ?_
  clear hfr
  intro a hfr
  refine wl_v hfr (by decide) (v_move rfl) ?_
  clear hfr
  intro a hfr
  refine wl_callp hfr hst (by decide) Tryd.call18 rfl (ret_b (decide_eq_true rfl) (sames_ok (.slice none 0 0) (.slice none 0 0) ([] : List By) ([] : List By) _ (slAt_nil _ _) (slAt_nil _ _))) ?_
  clear hfr hst
  intro a w27 hfr hst
  refine wl_v hfr (by decide) (v_move rfl) ?_
  clear hfr
  intro a hfr
  refine wl_vy hfr (by decide) rfl (by decide) rfl (v_move rfl) ?_
  clear hfr
  intro a hfr
  refine wl_vy hfr (by decide) rfl (by decide) rfl (v_move rfl) ?_
  clear hfr
  intro a hfr
  refine wl_callpy hfr hst (by decide) rfl (by decide) rfl Tryd.call18 rfl (ret_b (decide_eq_true rfl) (sames_ok (.slice none 0 0) (.slice none 0 0) ([] : List By) ([] : List By) _ (slAt_nil _ _) (slAt_nil _ _))) ?_
  clear hfr hst
  intro a w28 hfr hst
  refine wl_v hfr (by decide) (v_pick_t rfl rfl) ?_
  clear hfr
  intro a hfr
  refine wl_v hfr (by decide) (v_assign rfl) ?_
  clear hfr
  intro a hfr
  refine wl_nil (hK19 _ _ ?_)
  replace hfr : Fr 73 [(6, _), (7, _), (0, _), (9, _), (11, _), (13, _), (15, _), (16, _)] [] a := hfr.pick [6, 7, 0, 9, 11, 13, 15, 16]
  refine wc_seq_region fun K20 hK20 => ?_
  refine wl_v hfr (by decide) (v_move rfl) ?_
  clear hfr
  intro a hfr
  refine wl_v hfr (by decide) (v_move rfl) ?_
  clear hfr
  intro a hfr
  refine wl_vy hfr (by decide) rfl (by decide) rfl (v_move rfl) ?_
  clear hfr
  intro a hfr
  refine wl_v hfr (by decide) (v_pick_t rfl rfl) ?_
  clear hfr
  intro a hfr
  refine wl_v hfr (by decide) (v_move rfl) ?_
  clear hfr
  intro a hfr
  refine wl_vy hfr (by decide) rfl (by decide) rfl (v_move rfl) ?_
  clear hfr
  intro a hfr
  refine wl_vy hfr (by decide) rfl (by decide) rfl (v_move rfl) ?_
  clear hfr
  intro a hfr
  refine wl_vy hfr (by decide) rfl (by decide) rfl ((v_eq rfl rfl).asb (b' := true) rfl) ?_
  clear hfr
  intro a hfr
  refine wl_v hfr (by decide) (v_pick_t rfl rfl) ?_
  clear hfr
  intro a hfr
  refine wl_v hfr (by decide) (v_move rfl) ?_
  clear hfr
  intro a hfr
  refine wl_vy hfr (by decide) rfl (by decide) rfl (v_move rfl) ?_
  clear hfr
  intro a hfr
  refine wl_vy hfr (by decide) rfl (by decide) rfl (v_move rfl) ?_
  clear hfr
  intro a hfr
  refine wl_vy hfr (by decide) rfl (by decide) rfl ((v_eq rfl rfl).asb (b' := true) rfl) ?_
  clear hfr
  intro a hfr
  refine wl_v hfr (by decide) (v_pick_t rfl rfl) ?_
  clear hfr
  intro a hfr
  refine wl_v hfr (by decide) (v_move rfl) ?_
  clear hfr
  intro a hfr
  refine wl_vy hfr (by decide) rfl (by decide) rfl (v_move rfl) ?_
  clear hfr
  intro a hfr
  refine wl_callpy hfr hst (by decide) rfl (by decide) rfl Tryd.call19 rfl (root_ok v1 (fewH xs 40) _ (hst.ownAt (i := 0) rfl) (by rw [few_len]; omega) (fun k hk => few_big _ (getD_mem hk)) (hst.keepb hk0)) ?_
  clear hfr hst
  intro a w29 hfr hst
  refine wl_vy hfr (by decide) rfl (by decide) rfl (v_move rfl) ?_
  clear hfr
  intro a hfr
  refine wl_callpy hfr hst (by decide) rfl (by decide) rfl Tryd.call20 rfl (rroot_ok _ v1 (fewH xs 40) _ rfl (hst.ownAt (i := 0) rfl) (by rw [few_len]; omega) few_big) ?_
  clear hfr hst
  intro a w30 hfr hst
  refine wl_vy hfr (by decide) rfl (by decide) rfl ((v_seq rfl rfl).asb (b' := true) (by exact decide_eq_true rfl)) ?_
  clear hfr
  intro a hfr
  refine wl_v hfr (by decide) (v_pick_t rfl rfl) ?_
  clear hfr
  intro a hfr
  refine wl_v hfr (by decide) (v_assign rfl) ?_
  clear hfr
  intro a hfr
  refine wl_nil (hK20 _ _ ?_)
  replace hfr : Fr 73 [(6, _)] [] a := hfr.pick [6]
  replace hst : St No w0 [] w30 := hst.mask [false]
  refine wc_ret ?_
  refine fin_ret hfr Tryd.results3 (resAre_tmp rfl resAre_nil) ?_
  exact ⟨by rfl, hst.ext⟩
end Go.Proofs.YtmcoolbjgeibcaaDoor
