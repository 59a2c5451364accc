/- Texts joined: WshD, BldA, BldB, WshE, WshF, WshG, WshH, WshI, WshJ. -/
import Derived.Test.YtmmfieceinmloaaGreatDoorPBC
import Derived.Laws.StructEq
import Derived.Test.YtmmfieceinmloaaGreatDoorPBB
import Derived.Test.YtmmfieceinmloaaGreatDoorPBA
namespace Go.Proofs.YtmmfieceinmloaaGreatDoor
open Go.RowKit Go.PW
set_option linter.unusedVariables false
set_option linter.unusedSimpArgs false
set_option maxRecDepth 4000
theorem eqF_cons {P : Program} {w : World} {d : Nat} {xs ys : Array Value} {f : Field} {fs : List Field} {a b : Value} {r r' : Bool} (hn : f.name ≠ "_") (h1 : (part f.type xs f.offset).run P w = .ok a w) (h2 : (part f.type ys f.offset).run P w = .ok b w)
  (h3 : (Op.equalIn d f.type a b).run P w = .ok r w) (h4 : (Op.eqFields d xs ys fs).run P w = .ok r' w) : (Op.eqFields d xs ys (f :: fs)).run P w = .ok (r && r') w := by
 simp only [Op.eqFields, hn, ne_eq, not_false_eq_true, if_true, Sem.run_bind, h1, h2, h3, Result.andThen_ok]
 cases r
 ·simp
 ·simpa using h4
theorem eqF_nil {P : Program} {w : World} {d : Nat} {xs ys : Array Value} : (Op.eqFields d xs ys []).run P w = .ok true w := by simp [Op.eqFields]
theorem eqI {w : World} (d : Nat) (a b : Int) : (Op.equalIn (d + 1) 3 (.int .i64 a) (.int .i64 b)).run Tryz.prog w = .ok (decide (a = b)) w := by
 rw [run_equalIn_int w d 3 .i64 .i64 a b Tryz.underlying3]; congr 1
theorem eqS {w : World} (d : Nat) (a b : By) : (Op.equalIn (d + 1) 9 (sv a) (sv b)).run Tryz.prog w = .ok (decide (a = b)) w := by
 unfold sv
 rw [run_equalIn_string w d 9 _ _ Tryz.underlying9, ByteArray.toList_mk, ByteArray.toList_mk]; congr 1
 rw [Bool.eq_iff_iff]; simp
theorem eqRange {w : World} (d : Nat) (a0 a1 c0 c1 : Int) : (Op.equalIn (d + 1 + 1) 27 (.agg #[.int .i64 a0, .int .i64 a1]) (.agg #[.int .i64 c0, .int .i64 c1])).run Tryz.prog w = .ok (decide (a0 = c0) && (decide (a1 = c1) && true)) w := by
 rw [run_equalIn_struct w (d + 1) 27 _ _ (by kernel_rfl) (by kernel_rfl)]
 simp only [Program.fieldsOf, Tryz.underlying27]
 refine eqF_cons (a := .int .i64 a0) (b := .int .i64 c0) (r := decide (a0 = c0)) (by decide) (by simp [part, Tryz.isAgg3, sv]) (by simp [part, Tryz.isAgg3, sv]) (eqI _ _ _) ?_
 refine eqF_cons (a := .int .i64 a1) (b := .int .i64 c1) (r := decide (a1 = c1)) (by decide) (by simp [part, Tryz.isAgg3, sv]) (by simp [part, Tryz.isAgg3, sv]) (eqI _ _ _) ?_
 exact eqF_nil
theorem eqSpell {w : World} (d : Nat) (a0 a1 c0 c1 : Int) : (Op.equalIn (d + 1 + 1) 28 (.agg #[.int .i64 a0, .int .i64 a1]) (.agg #[.int .i64 c0, .int .i64 c1])).run Tryz.prog w = .ok (decide (a0 = c0) && (decide (a1 = c1) && true)) w := by
 rw [run_equalIn_struct w (d + 1) 28 _ _ (by kernel_rfl) (by kernel_rfl)]
 simp only [Program.fieldsOf, Tryz.underlying28]
 refine eqF_cons (a := .int .i64 a0) (b := .int .i64 c0) (r := decide (a0 = c0)) (by decide) (by simp [part, Tryz.isAgg3, sv]) (by simp [part, Tryz.isAgg3, sv]) (eqI _ _ _) ?_
 refine eqF_cons (a := .int .i64 a1) (b := .int .i64 c1) (r := decide (a1 = c1)) (by decide) (by simp [part, Tryz.isAgg3, sv]) (by simp [part, Tryz.isAgg3, sv]) (eqI _ _ _) ?_
 exact eqF_nil
theorem eqWsh (a0 a1 a2 a3 a4 a5 a6 a7 : Int) (a8 : By) (c0 c1 c2 c3 c4 c5 c6 c7 : Int) (c8 : By) (w : World) : (Op.equal 30 (.agg #[.int .i64 a0, .int .i64 a1, .int .i64 a2, .int .i64 a3, .int .i64 a4, .int .i64 a5, .int .i64 a6, .int .i64 a7, sv a8]) (.agg #[.int .i64 c0, .int .i64 c1, .int .i64 c2, .int .i64 c3, .int .i64 c4, .int .i64 c5, .int .i64 c6, .int .i64 c7, sv c8])).run Tryz.prog w = .ok (decide (Wsh.mk a0 a1 a2 a3 a4 a5 a6 a7 a8 = Wsh.mk c0 c1 c2 c3 c4 c5 c6 c7 c8)) w := by
 have e : decide (Wsh.mk a0 a1 a2 a3 a4 a5 a6 a7 a8 = Wsh.mk c0 c1 c2 c3 c4 c5 c6 c7 c8) = (decide (a0 = c0) && (decide (a1 = c1) && ((decide (a2 = c2) && (decide (a3 = c3) && true)) && (decide (a4 = c4) && (decide (a5 = c5) && ((decide (a6 = c6) && (decide (a7 = c7) && true)) && (decide (a8 = c8) && true))))))) := by
  rw [Bool.eq_iff_iff]; simp [and_assoc]
 rw [e]
 unfold Op.equal Op.maxDepth
 obtain ⟨dd, hd⟩ : ∃ dd, 10000 = dd + 1 + 1 + 1 := ⟨9997, rfl⟩
 rw [hd, run_equalIn_struct w (dd + 1 + 1) 30 _ _ (by kernel_rfl) (by kernel_rfl)]
 simp only [Program.fieldsOf, Tryz.underlying30]
 refine eqF_cons (a := .int .i64 a0) (b := .int .i64 c0) (r := decide (a0 = c0)) (by decide) (by simp [part, Tryz.isAgg3, sv]) (by simp [part, Tryz.isAgg3, sv]) (eqI _ _ _) ?_
 refine eqF_cons (a := .int .i64 a1) (b := .int .i64 c1) (r := decide (a1 = c1)) (by decide) (by simp [part, Tryz.isAgg3, sv]) (by simp [part, Tryz.isAgg3, sv]) (eqI _ _ _) ?_
 refine eqF_cons (a := .agg #[.int .i64 a2, .int .i64 a3]) (b := .agg #[.int .i64 c2, .int .i64 c3]) (r := (decide (a2 = c2) && (decide (a3 = c3) && true))) (by decide) (by simp [part, Tryz.isAgg27, Tryz.sizeOf27]) (by simp [part, Tryz.isAgg27, Tryz.sizeOf27]) (eqRange _ _ _ _ _) ?_
 refine eqF_cons (a := .int .i64 a4) (b := .int .i64 c4) (r := decide (a4 = c4)) (by decide) (by simp [part, Tryz.isAgg3, sv]) (by simp [part, Tryz.isAgg3, sv]) (eqI _ _ _) ?_
 refine eqF_cons (a := .int .i64 a5) (b := .int .i64 c5) (r := decide (a5 = c5)) (by decide) (by simp [part, Tryz.isAgg3, sv]) (by simp [part, Tryz.isAgg3, sv]) (eqI _ _ _) ?_
 refine eqF_cons (a := .agg #[.int .i64 a6, .int .i64 a7]) (b := .agg #[.int .i64 c6, .int .i64 c7]) (r := (decide (a6 = c6) && (decide (a7 = c7) && true))) (by decide) (by simp [part, Tryz.isAgg28, Tryz.sizeOf28]) (by simp [part, Tryz.isAgg28, Tryz.sizeOf28]) (eqSpell _ _ _ _ _) ?_
 refine eqF_cons (a := sv a8) (b := sv c8) (r := decide (a8 = c8)) (by decide) (by simp [part, Tryz.isAgg9, sv]) (by simp [part, Tryz.isAgg9, sv]) (eqS _ _ _) ?_
 exact eqF_nil
theorem eqPxy (a0 a1 a2 a3 a4 a5 : Int) (a6 : By) (c0 c1 c2 c3 c4 c5 : Int) (c6 : By) (w : World) : (Op.equal 40 (.agg #[.int .i64 a0, .int .i64 a1, .int .i64 a2, .int .i64 a3, .int .i64 a4, .int .i64 a5, sv a6]) (.agg #[.int .i64 c0, .int .i64 c1, .int .i64 c2, .int .i64 c3, .int .i64 c4, .int .i64 c5, sv c6])).run Tryz.prog w = .ok (decide (Pxy.mk a0 a1 a2 a3 a4 a5 a6 = Pxy.mk c0 c1 c2 c3 c4 c5 c6)) w := by
 have e : decide (Pxy.mk a0 a1 a2 a3 a4 a5 a6 = Pxy.mk c0 c1 c2 c3 c4 c5 c6) = (decide (a0 = c0) && (decide (a1 = c1) && ((decide (a2 = c2) && (decide (a3 = c3) && true)) && ((decide (a4 = c4) && (decide (a5 = c5) && true)) && (decide (a6 = c6) && true))))) := by
  rw [Bool.eq_iff_iff]; simp [and_assoc]
 rw [e]
 unfold Op.equal Op.maxDepth
 obtain ⟨dd, hd⟩ : ∃ dd, 10000 = dd + 1 + 1 + 1 := ⟨9997, rfl⟩
 rw [hd, run_equalIn_struct w (dd + 1 + 1) 40 _ _ (by kernel_rfl) (by kernel_rfl)]
 simp only [Program.fieldsOf, Tryz.underlying40]
 refine eqF_cons (a := .int .i64 a0) (b := .int .i64 c0) (r := decide (a0 = c0)) (by decide) (by simp [part, Tryz.isAgg3, sv]) (by simp [part, Tryz.isAgg3, sv]) (eqI _ _ _) ?_
 refine eqF_cons (a := .int .i64 a1) (b := .int .i64 c1) (r := decide (a1 = c1)) (by decide) (by simp [part, Tryz.isAgg3, sv]) (by simp [part, Tryz.isAgg3, sv]) (eqI _ _ _) ?_
 refine eqF_cons (a := .agg #[.int .i64 a2, .int .i64 a3]) (b := .agg #[.int .i64 c2, .int .i64 c3]) (r := (decide (a2 = c2) && (decide (a3 = c3) && true))) (by decide) (by simp [part, Tryz.isAgg27, Tryz.sizeOf27]) (by simp [part, Tryz.isAgg27, Tryz.sizeOf27]) (eqRange _ _ _ _ _) ?_
 refine eqF_cons (a := .agg #[.int .i64 a4, .int .i64 a5]) (b := .agg #[.int .i64 c4, .int .i64 c5]) (r := (decide (a4 = c4) && (decide (a5 = c5) && true))) (by decide) (by simp [part, Tryz.isAgg28, Tryz.sizeOf28]) (by simp [part, Tryz.isAgg28, Tryz.sizeOf28]) (eqSpell _ _ _ _ _) ?_
 refine eqF_cons (a := sv a6) (b := sv c6) (r := decide (a6 = c6)) (by decide) (by simp [part, Tryz.isAgg9, sv]) (by simp [part, Tryz.isAgg9, sv]) (eqS _ _ _) ?_
 exact eqF_nil
theorem same_end {α : Type} {d : α} {xs ys : List α} {k : Nat} (hl : xs.length = ys.length) (hk : xs.length ≤ k) (h : ∀ j, j < k → xs.getD j d = ys.getD j d) : xs = ys := by
 refine List.ext_getElem hl fun j h1 h2 => ?_
 have := h j (by omega)
 simpa [List.getD_eq_getElem?_getD, h1, h2] using this
theorem same_ne {α : Type} {d : α} {xs ys : List α} {k : Nat} (h : xs.getD k d ≠ ys.getD k d) : xs ≠ ys := fun e => h (by rw [e])
def bentW (x : Wsh) (how n : Int) : Wsh :=
 if pickI how 9 = 0 then { x with signer := n } else if pickI how 9 = 1 then { x with holder := n } else if pickI how 9 = 2 then { x with rf := n } else if pickI how 9 = 3 then { x with rt := n } else
 if pickI how 9 = 4 then { x with carrier := n } else if pickI how 9 = 5 then { x with serial := n } else if pickI how 9 = 6 then { x with sf := n } else if pickI how 9 = 7 then { x with st := n } else { x with rt := x.rt + 1 }
/-- dialtone/dialtoneref15.SameProxies -/
theorem samep_ok (av bv : Value) (xs ys : List Pxy) (w0 : World) (hav : SlAt w0 av 7 (xs.map Pxy.cells)) (hbv : SlAt w0 bv 7 (ys.map Pxy.cells)) :
  Ret Tryz.prog 30 #[av, bv] w0 fun v w => v = .bool (decide (xs = ys)) ∧ Ext No w0 w := by
 have hxb := hav.2.1
 have hyb := hbv.2.1
 simp only [List.length_map, big] at hxb hyb
 refine ret_of Tryz.func30 rfl Tryz.ntmps30 (Nat.le_of_ble_eq_true rfl) fun a hfr => ?_
 replace hfr : Fr 26 [(0, _), (1, _)] [] a := hfr
 replace hst : St No w0 [] w0 := St.init w0
 refine wc_seq_region fun K1 hK1 => ?_
 refine wla hfr rfl fun a hfr => ?_
 refine wl_nil (hK1 _ _ ?_)
 refine wc_seq_k fun K2 hK2 => ?_
 refine wc_seq_region fun K3 hK3 => ?_
 refine wlm hfr rfl fun a hfr => ?_
 refine wlv hfr ((v_len_sl (sT := 31) (hst.arg hav) rfl rfl (Tryz.runUnderlying31 _)).asi (m' := (xs.length : Int)) (by rw [List.length_map])) fun a hfr => ?_
 refine wlm hfr rfl fun a hfr => ?_
 refine wlv hfr ((v_len_sl (sT := 31) (hst.arg hbv) rfl rfl (Tryz.runUnderlying31 _)).asi (m' := (ys.length : Int)) (by rw [List.length_map])) fun a hfr => ?_
 refine wlv hfr (v_ne rfl rfl) fun a hfr => ?_
 refine wl_nil (hK3 _ _ ?_)
 refine wc_cond hfr rfl (fun hc1 => ?_) (fun hc1 => ?_)
 ·rw [hc1] at hfr
  try simp only [qz] at hc1
  refine wc_seq_region fun K4 hK4 => ?_
  refine wla hfr rfl fun a hfr => ?_
  refine wl_nil (hK4 _ _ ?_)
  refine wc_ret ?_
  refine fin_ret hfr Tryz.results30 (resAre_tmp rfl resAre_nil) ?_
  exact ⟨by simp only [retv]; congr 1; refine (decide_eq_false fun h => ?_).symm; subst h; simp at hc1, hst.ext⟩
 rw [hc1] at hfr
 try simp only [qz] at hc1
 have hlen : xs.length = ys.length := by omega
 refine wc_skip ?_
 refine hK2 _ _ ?_
 refine wc_seq_k fun K5 hK5 => ?_
 refine wc_seq_region fun K6 hK6 => ?_
 refine wla hfr rfl fun a hfr => ?_
 refine wl_nil (hK6 _ _ ?_)
 refine wc_block ?_
 refine wc_loop (fun m a w => ∃ (k : Nat), m = xs.length - k ∧ (k ≤ xs.length) ∧ (∀ j, j < k → xs.getD j Pxy.z = ys.getD j Pxy.z) ∧ Fr 26 [(0, av), (1, bv), (5, .int .i64 (k : Int))] [] a ∧ St No w0 [] w) _ ⟨0, rfl, Nat.zero_le _, (fun j h => absurd h (Nat.not_lt_zero _)), hfr.pick [0, 1, 5], hst.select [] (by decide)⟩ ?_
 rintro _ a w1 ⟨k, rfl, hk, hsame, hfr, hst⟩
 refine wc_seq_k fun K7 hK7 => ?_
 refine wc_seq_region fun K8 hK8 => ?_
 refine wlm hfr rfl fun a hfr => ?_
 refine wlm hfr rfl fun a hfr => ?_
 refine wlv hfr ((v_len_sl (sT := 31) (hst.arg hav) rfl rfl (Tryz.runUnderlying31 _)).asi (m' := (xs.length : Int)) (by rw [List.length_map])) fun a hfr => ?_
 refine wlv hfr (v_lt rfl rfl) fun a hfr => ?_
 refine wl_nil (hK8 _ _ ?_)
 refine wc_cond hfr rfl (fun hc2 => ?_) (fun hc2 => ?_)
 ·rw [hc2] at hfr
  try simp only [qz] at hc2
  have hkx : k < xs.length := by omega
  have hky : k < ys.length := by omega
  refine wc_skip ?_
  refine hK7 _ _ ?_
  refine wc_seq_k fun K9 hK9 => ?_
  refine wc_block ?_
  refine wc_seq_k fun K10 hK10 => ?_
  refine wc_of_dr (by kernel_rfl) (dr_of_wd (by kernel_rfl) fun w2 hxz => ?_)
  replace hst := hst.grow hxz
  refine wd_sub (k := 0) 8 [3, 7] hfr (by kernel_rfl) (by kernel_rfl) (by kernel_rfl) (by rfl) ?_
  replace hfr : Fr 26 [(0, _), (1, _), (5, _), (11, _), (12, _), (13, _), (14, _)] [] a := hfr.pick [0, 1, 5, 11, 12, 13, 14]
  refine wc_phases_q [] (fun i => match i with | _ => fun _ _ => False) 8 [[], [], [0, 1], [2], [], [], [4, 5], [6]] [av, .int .i64 (k : Int), slAddr av (k * 7), .agg #[.int .i64 ((xs.getD k Pxy.z).frm), .int .i64 ((xs.getD k Pxy.z).to), .int .i64 ((xs.getD k Pxy.z).rf), .int .i64 ((xs.getD k Pxy.z).rt), .int .i64 ((xs.getD k Pxy.z).sf), .int .i64 ((xs.getD k Pxy.z).st), sv ((xs.getD k Pxy.z).sig)], bv, .int .i64 (k : Int), slAddr bv (k * 7), .agg #[.int .i64 ((ys.getD k Pxy.z).frm), .int .i64 ((ys.getD k Pxy.z).to), .int .i64 ((ys.getD k Pxy.z).rf), .int .i64 ((ys.getD k Pxy.z).rt), .int .i64 ((ys.getD k Pxy.z).sf), .int .i64 ((ys.getD k Pxy.z).st), sv ((ys.getD k Pxy.z).sig)]] hfr hst (by kernel_rfl) (by kernel_rfl) (by kernel_rfl) ?_ ?_ ?_
  ·intro i hi hiq
   match i, hi, hiq with
   | 0, _, _ =>
    intro w hst
    exact OpV.g (v_move rfl)
   | 1, _, _ =>
    intro w hst
    exact OpV.g (v_move rfl)
   | 2, _, _ =>
    intro w hst
    exact OpV.g ((v_indexAddr_sl (i := (k : Int)) (sT := 31) (hst.arg hav) rfl rfl (Tryz.runUnderlying31 _) (Tryz.sizeOf40 _) (by omega) (by rw [List.length_map]; exact hkx)).as (v' := slAddr av (k * 7)) rfl)
   | 3, _, _ =>
    intro w hst
    exact OpV.g ((v_load_sl (hst.arg hav) (i := k) (by rw [List.length_map]; exact hkx) rfl (Tryz.isAgg40 _) (Tryz.sizeOf40 _)).as (v' := .agg #[.int .i64 ((xs.getD k Pxy.z).frm), .int .i64 ((xs.getD k Pxy.z).to), .int .i64 ((xs.getD k Pxy.z).rf), .int .i64 ((xs.getD k Pxy.z).rt), .int .i64 ((xs.getD k Pxy.z).sf), .int .i64 ((xs.getD k Pxy.z).st), sv ((xs.getD k Pxy.z).sig)]) (by rw [el_at Pxy.z]; rfl))
   | 4, _, _ =>
    intro w hst
    exact OpV.g (v_move rfl)
   | 5, _, _ =>
    intro w hst
    exact OpV.g (v_move rfl)
   | 6, _, _ =>
    intro w hst
    exact OpV.g ((v_indexAddr_sl (i := (k : Int)) (sT := 31) (hst.arg hbv) rfl rfl (Tryz.runUnderlying31 _) (Tryz.sizeOf40 _) (by omega) (by rw [List.length_map]; exact hky)).as (v' := slAddr bv (k * 7)) rfl)
   | 7, _, _ =>
    intro w hst
    exact OpV.g ((v_load_sl (hst.arg hbv) (i := k) (by rw [List.length_map]; exact hky) rfl (Tryz.isAgg40 _) (Tryz.sizeOf40 _)).as (v' := .agg #[.int .i64 ((ys.getD k Pxy.z).frm), .int .i64 ((ys.getD k Pxy.z).to), .int .i64 ((ys.getD k Pxy.z).rf), .int .i64 ((ys.getD k Pxy.z).rt), .int .i64 ((ys.getD k Pxy.z).sf), .int .i64 ((ys.getD k Pxy.z).st), sv ((ys.getD k Pxy.z).sig)]) (by rw [el_at Pxy.z]; rfl))
  ·intro i hi
   exact absurd hi (by simp)
  clear hfr hst
  intro  a w3 hfr hst
  replace hfr : Fr 26 [(17, av), (18, .int .i64 (k : Int)), (19, slAddr av (k * 7)), (20, .agg #[.int .i64 ((xs.getD k Pxy.z).frm), .int .i64 ((xs.getD k Pxy.z).to), .int .i64 ((xs.getD k Pxy.z).rf), .int .i64 ((xs.getD k Pxy.z).rt), .int .i64 ((xs.getD k Pxy.z).sf), .int .i64 ((xs.getD k Pxy.z).st), sv ((xs.getD k Pxy.z).sig)]), (21, bv), (22, .int .i64 (k : Int)), (23, slAddr bv (k * 7)), (24, .agg #[.int .i64 ((ys.getD k Pxy.z).frm), .int .i64 ((ys.getD k Pxy.z).to), .int .i64 ((ys.getD k Pxy.z).rf), .int .i64 ((ys.getD k Pxy.z).rt), .int .i64 ((ys.getD k Pxy.z).sf), .int .i64 ((ys.getD k Pxy.z).st), sv ((ys.getD k Pxy.z).sig)]), (0, _), (1, _), (5, _), (11, _), (12, _), (13, _), (14, _)] [] a := hfr
  refine wl_nil ?_
  refine wd_lin (k := 8) 9 [8] (by kernel_rfl) (by kernel_rfl) (by kernel_rfl) ?_
  refine wlv hfr ((v_ne_agg rfl rfl (by kernel_rfl) (eqPxy ((xs.getD k Pxy.z).frm) ((xs.getD k Pxy.z).to) ((xs.getD k Pxy.z).rf) ((xs.getD k Pxy.z).rt) ((xs.getD k Pxy.z).sf) ((xs.getD k Pxy.z).st) ((xs.getD k Pxy.z).sig) ((ys.getD k Pxy.z).frm) ((ys.getD k Pxy.z).to) ((ys.getD k Pxy.z).rf) ((ys.getD k Pxy.z).rt) ((ys.getD k Pxy.z).sf) ((ys.getD k Pxy.z).st) ((ys.getD k Pxy.z).sig) _)).asb (b' := !(decide ((xs.getD k Pxy.z) = (ys.getD k Pxy.z)))) (by rfl)) fun a hfr => ?_
  refine wl_nil ?_
  refine wd_end (by kernel_rfl) ?_
  refine hK10 _ _ ?_
  replace hfr : Fr 26 [(0, _), (1, _), (5, _), (25, _)] [] a := hfr.pick [0, 1, 5, 25]
  refine wc_cond hfr rfl (fun hc3 => ?_) (fun hc3 => ?_)
  ·rw [hc3] at hfr
   try simp only [qz] at hc3
   refine wc_seq_region fun K11 hK11 => ?_
   refine wla hfr rfl fun a hfr => ?_
   refine wl_nil (hK11 _ _ ?_)
   refine wc_ret ?_
   refine fin_ret hfr Tryz.results30 (resAre_tmp rfl resAre_nil) ?_
   exact ⟨by simp only [retv]; congr 1; exact (decide_eq_false (same_ne (d := Pxy.z) (k := k) (by simpa using hc3))).symm, hst.ext⟩
  rw [hc3] at hfr
  try simp only [qz] at hc3
  refine wc_skip ?_
  refine hK9 _ _ ?_
  refine wc_region ?_
  refine wlm hfr rfl fun a hfr => ?_
  refine wlv hfr (v_add rfl rfl ⟨by omega, by omega⟩) fun a hfr => ?_
  refine wla hfr rfl fun a hfr => ?_
  refine wl_nil ?_
  refine ⟨_, ?_, k + 1, rfl, (by omega), (fun j h => by rcases Nat.lt_succ_iff_lt_or_eq.1 h with h | rfl; exact hsame j h; simpa using hc3), hfr.pick [0, 1, 5], hst.select [] (by decide)⟩
  omega
 rw [hc2] at hfr
 try simp only [qz] at hc2
 refine wc_exit ?_
 refine hK5 _ _ ?_
 refine wc_seq_region fun K12 hK12 => ?_
 refine wla hfr rfl fun a hfr => ?_
 refine wl_nil (hK12 _ _ ?_)
 replace hfr : Fr 26 [(4, _)] [] a := hfr.pick [4]
 refine wc_ret ?_
 refine fin_ret hfr Tryz.results30 (resAre_tmp rfl resAre_nil) ?_
 exact ⟨by simp only [retv]; congr 1; exact (decide_eq_true (same_end hlen (by omega) hsame)).symm, hst.ext⟩
set_option maxHeartbeats 4000000 in
/-- dialtone/dialtoneref15.BentWish -/
theorem bent_ok (x : Wsh) (how n : Int) (w0 : World) (hh : -9223372036854775808 ≤ how ∧ how ≤ 9223372036854775807) (hx : x.rt < 9223372036854775807) (hx2 : -9223372036854775808 ≤ x.rt) :
  Ret Tryz.prog 10 #[.agg #[.int .i64 x.signer, .int .i64 x.holder, .int .i64 x.rf, .int .i64 x.rt, .int .i64 x.carrier, .int .i64 x.serial, .int .i64 x.sf, .int .i64 x.st, sv x.sig], .int .i64 how, .int .i64 n] w0 fun v w => v = .tuple #[.agg (bentW x how n).cells.toArray, .bool (!(decide (bentW x how n = x)))] ∧ Ext No w0 w := by
 refine ret_of Tryz.func10 rfl Tryz.ntmps10 (Nat.le_of_ble_eq_true rfl) fun a hfr => ?_
 replace hfr : Fr 58 [(0, _), (1, _), (2, _)] [] a := hfr
 replace hst : St No w0 [] w0 := St.init w0
 refine wc_seq_region fun K1 hK1 => ?_
 refine wl_box hfr hst (by decide) rfl (cs := [.int .i64 x.signer, .int .i64 x.holder, .int .i64 x.rf, .int .i64 x.rt, .int .i64 x.carrier, .int .i64 x.serial, .int .i64 x.sf, .int .i64 x.st, sv x.sig]) rfl ?_
 clear hfr hst
 intro a w1 hfr hst
 refine wl_alloc hfr hst (by decide) (Tryz.zeroValue30 _) (cs := [.int .i64 0, .int .i64 0, .int .i64 0, .int .i64 0, .int .i64 0, .int .i64 0, .int .i64 0, .int .i64 0, .string (⟨#[]⟩)]) rfl ?_
 clear hfr hst
 intro a w2 hfr hst
 refine wla hfr rfl fun a hfr => ?_
 refine wl_nil (hK1 _ _ ?_)
 refine wc_seq_region fun K2 hK2 => ?_
 refine wlv hfr (v_load_all (hst.get (k := 1) rfl) rfl (Tryz.isAgg30 _) (Tryz.sizeOf30 _)) fun a hfr => ?_
 refine wl_alloc hfr hst (by decide) (Tryz.zeroValue30 _) (cs := [.int .i64 0, .int .i64 0, .int .i64 0, .int .i64 0, .int .i64 0, .int .i64 0, .int .i64 0, .int .i64 0, .string (⟨#[]⟩)]) rfl ?_
 clear hfr hst
 intro a w3 hfr hst
 refine wl_store 0 hfr hst rfl rfl rfl (Tryz.sizeOf30 _) rfl (Nat.le_of_ble_eq_true rfl) (ds := [.int .i64 x.signer, .int .i64 x.holder, .int .i64 x.rf, .int .i64 x.rt, .int .i64 x.carrier, .int .i64 x.serial, .int .i64 x.sf, .int .i64 x.st, sv x.sig]) rfl rfl ?_
 clear hfr hst
 intro a w4 hfr hst
 refine wl_nil (hK2 _ _ ?_)
 refine wc_seq_k fun K3 hK3 => ?_
 refine wc_seq_region fun K4 hK4 => ?_
 refine wlm hfr rfl fun a hfr => ?_
 refine wl_callp hfr hst (by decide) Tryz.call53 rfl (pick15_ok how 9 _ (by first | assumption | omega) (by omega)) ?_
 clear hfr hst
 intro a w5 hfr hst
 refine wl_nil (hK4 _ _ ?_)
 refine wc_block ?_
 refine wc_seq_region fun K5 hK5 => ?_
 refine wlv hfr (v_eq rfl rfl) fun a hfr => ?_
 refine wla hfr rfl fun a hfr => ?_
 refine wl_nil (hK5 _ _ ?_)
 refine wc_cond hfr rfl (fun hc1 => ?_) (fun hc1 => ?_)
 ·rw [hc1] at hfr
  try simp only [qz] at hc1
  refine wc_region ?_
  refine wlm hfr rfl fun a hfr => ?_
  refine wlv hfr (v_fieldAddr (v := .pointer (some ⟨w2.heap.size, 0, none⟩)) rfl (by kernel_rfl)) fun a hfr => ?_
  refine wl_store 0 hfr hst rfl rfl rfl (Tryz.sizeOf3 _) rfl (Nat.le_of_ble_eq_true rfl) (ds := [.int .i64 n, .int .i64 x.holder, .int .i64 x.rf, .int .i64 x.rt, .int .i64 x.carrier, .int .i64 x.serial, .int .i64 x.sf, .int .i64 x.st, sv x.sig]) rfl rfl ?_
  clear hfr hst
  intro a w6 hfr hst
  refine wl_nil ?_
  refine hK3 _ _ ?_
  replace hfr : Fr 58 [(3, _), (6, _), (7, _), (8, _)] [] a := hfr.pick [3, 6, 7, 8]
  refine wc_seq_k fun K6 hK6 => ?_
  refine wc_of_dr (by kernel_rfl) (dr_of_wd (by kernel_rfl) fun w7 hxz => ?_)
  replace hst := hst.grow hxz
  refine wd_sub (k := 0) 5 [3, 4] hfr (by kernel_rfl) (by kernel_rfl) (by kernel_rfl) (by rfl) ?_
  replace hfr : Fr 58 [(3, _), (6, _), (7, _), (8, _)] [] a := hfr.pick [3, 6, 7, 8]
  replace hst : St No w0 [blk w1.heap.size [.int .i64 0, .int .i64 0, .int .i64 0, .int .i64 0, .int .i64 0, .int .i64 0, .int .i64 0, .int .i64 0, .string (⟨#[]⟩)] 30, blk w2.heap.size [.int .i64 n, .int .i64 x.holder, .int .i64 x.rf, .int .i64 x.rt, .int .i64 x.carrier, .int .i64 x.serial, .int .i64 x.sf, .int .i64 x.st, sv x.sig] 30, blk w0.heap.size [.int .i64 x.signer, .int .i64 x.holder, .int .i64 x.rf, .int .i64 x.rt, .int .i64 x.carrier, .int .i64 x.serial, .int .i64 x.sf, .int .i64 x.st, sv x.sig] 30] w7 := hst.select [1, 0, 2] (by decide)
  refine wc_phases_set [4] (fun q => if q = 4 then blk w1.heap.size [.int .i64 0, .int .i64 0, .int .i64 0, .int .i64 0, .int .i64 0, .int .i64 0, .int .i64 0, .int .i64 0, .string (⟨#[]⟩)] 30 else join []) (fun q => if q = 4 then blk w1.heap.size [.int .i64 n, .int .i64 x.holder, .int .i64 x.rf, .int .i64 x.rt, .int .i64 x.carrier, .int .i64 x.serial, .int .i64 x.sf, .int .i64 x.st, sv x.sig] 30 else join []) 5 [[], [], [], [1, 2], [0]] (fun i => match i with | 0 => pv (.agg #[.int .i64 n, .int .i64 x.holder, .int .i64 x.rf, .int .i64 x.rt, .int .i64 x.carrier, .int .i64 x.serial, .int .i64 x.sf, .int .i64 x.st, sv x.sig]) | 1 => pv (.agg #[.int .i64 n, .int .i64 x.holder, .int .i64 x.rf, .int .i64 x.rt, .int .i64 x.carrier, .int .i64 x.serial, .int .i64 x.sf, .int .i64 x.st, sv x.sig]) | 2 => pv (.agg #[.int .i64 x.signer, .int .i64 x.holder, .int .i64 x.rf, .int .i64 x.rt, .int .i64 x.carrier, .int .i64 x.serial, .int .i64 x.sf, .int .i64 x.st, sv x.sig]) | 3 => pv (.bool (!(decide ((Wsh.mk n x.holder x.rf x.rt x.carrier x.serial x.sf x.st x.sig) = x)))) | 4 => fun v E => v = undef ∧ E = [] | _ => fun _ _ => False) (by intro q; by_cases h4 : q = 4; (subst h4; rfl); simp only [h4, if_false]) hfr (H := [blk w2.heap.size [.int .i64 n, .int .i64 x.holder, .int .i64 x.rf, .int .i64 x.rt, .int .i64 x.carrier, .int .i64 x.serial, .int .i64 x.sf, .int .i64 x.st, sv x.sig] 30, blk w0.heap.size [.int .i64 x.signer, .int .i64 x.holder, .int .i64 x.rf, .int .i64 x.rt, .int .i64 x.carrier, .int .i64 x.serial, .int .i64 x.sf, .int .i64 x.st, sv x.sig] 30]) hst (by kernel_rfl) (by kernel_rfl) (by kernel_rfl) (by kernel_rfl) (by decide) (by decide) ?_ ?_ ?_ ?_ ?_ ?_
  ·intro i v E h
   match i, h with
   | 0, _ => exact by decide
   | 1, _ => exact by decide
   | 2, _ => exact by decide
   | 3, _ => exact by decide
   | 4, _ => exact by decide
   | i + 5, h => exact h.elim
  ·intro q v E hq h
   simp only [List.mem_cons, List.not_mem_nil, or_false] at hq
   rcases hq with rfl <;> exact h
  ·intro q hq
   simp only [List.mem_cons, List.not_mem_nil, or_false] at hq
   rcases hq with rfl <;> exact ⟨rfl, rfl⟩
  ·intro i hi hiq e
   match i, hi, hiq with
   | 0, _, _ =>
    intro w hst
    exact OpV.g (v_load_all (hst.get (k := 1) rfl) rfl (Tryz.isAgg30 _) (Tryz.sizeOf30 _))
   | 1, _, _ =>
    intro w hst
    exact OpV.g (v_load_all (hst.get (k := 1) rfl) rfl (Tryz.isAgg30 _) (Tryz.sizeOf30 _))
   | 2, _, _ =>
    intro w hst
    exact OpV.g (v_load_all (hst.get (k := 2) rfl) rfl (Tryz.isAgg30 _) (Tryz.sizeOf30 _))
   | 3, _, _ =>
    rintro _ _ ⟨rfl, rfl⟩ _ _ ⟨rfl, rfl⟩
    intro w hst
    exact OpV.g ((v_ne_agg rfl rfl (by kernel_rfl) (eqWsh n x.holder x.rf x.rt x.carrier x.serial x.sf x.st x.sig x.signer x.holder x.rf x.rt x.carrier x.serial x.sf x.st x.sig _)).asb (b' := !(decide ((Wsh.mk n x.holder x.rf x.rt x.carrier x.serial x.sf x.st x.sig) = x))) (by rfl))
   | 4, _, h => exact absurd (by decide) h
  ·intro q hq
   simp only [List.mem_cons, List.not_mem_nil, or_false] at hq
   rcases hq with rfl
   ·rintro _ _ ⟨rfl, rfl⟩
    intro w h
    exact r_storeU (cs := [.int .i64 0, .int .i64 0, .int .i64 0, .int .i64 0, .int .i64 0, .int .i64 0, .int .i64 0, .int .i64 0, .string (⟨#[]⟩)]) (ds := [.int .i64 n, .int .i64 x.holder, .int .i64 x.rf, .int .i64 x.rt, .int .i64 x.carrier, .int .i64 x.serial, .int .i64 x.sf, .int .i64 x.st, sv x.sig]) rfl rfl h (Tryz.sizeOf30 _) rfl (Nat.le_of_ble_eq_true rfl) rfl
  clear hfr hst
  rintro _ _ ⟨rfl, rfl⟩ _ _ ⟨rfl, rfl⟩ _ _ ⟨rfl, rfl⟩ _ _ ⟨rfl, rfl⟩ a w8 hfr hst
  replace hfr : Fr 58 [(54, _), (55, _), (56, _), (57, _), (3, _), (6, _), (7, _), (8, _)] [] a := hfr
  replace hst : St No w0 [blk w1.heap.size [.int .i64 n, .int .i64 x.holder, .int .i64 x.rf, .int .i64 x.rt, .int .i64 x.carrier, .int .i64 x.serial, .int .i64 x.sf, .int .i64 x.st, sv x.sig] 30, blk w2.heap.size [.int .i64 n, .int .i64 x.holder, .int .i64 x.rf, .int .i64 x.rt, .int .i64 x.carrier, .int .i64 x.serial, .int .i64 x.sf, .int .i64 x.st, sv x.sig] 30, blk w0.heap.size [.int .i64 x.signer, .int .i64 x.holder, .int .i64 x.rf, .int .i64 x.rt, .int .i64 x.carrier, .int .i64 x.serial, .int .i64 x.sf, .int .i64 x.st, sv x.sig] 30] w8 := hst
  refine wl_nil ?_
  refine wd_lin (k := 5) 6 [5] (by kernel_rfl) (by kernel_rfl) (by kernel_rfl) ?_
  refine wla hfr rfl fun a hfr => ?_
  refine wl_nil ?_
  refine wd_end (by kernel_rfl) ?_
  refine hK6 _ _ ?_
  replace hfr : Fr 58 [(6, _), (7, _)] [] a := hfr.pick [6, 7]
  replace hst : St No w0 [_] w8 := hst.mask [true, false, false]
  refine wc_ret ?_
  refine fin_ret hfr Tryz.results10 (resAre_cell rfl (res_all (hst.get (k := 0) rfl) (Tryz.isAgg30 _) (Tryz.sizeOf30 _)) (resAre_tmp rfl resAre_nil)) ?_
  have e : bentW x how n = Wsh.mk n x.holder x.rf x.rt x.carrier x.serial x.sf x.st x.sig := by unfold bentW; simp [hc1]
  rw [e]
  exact ⟨rfl, hst.ext⟩
 rw [hc1] at hfr
 try simp only [qz] at hc1
 refine wc_seq_region fun K7 hK7 => ?_
 refine wlv hfr (v_eq rfl rfl) fun a hfr => ?_
 refine wla hfr rfl fun a hfr => ?_
 refine wl_nil (hK7 _ _ ?_)
 replace hfr : Fr 58 [(2, _), (3, _), (6, _), (7, _), (8, _), (11, _), (22, _)] [] a := hfr.pick [2, 3, 6, 7, 8, 11, 22]
 refine wc_cond hfr rfl (fun hc2 => ?_) (fun hc2 => ?_)
 ·rw [hc2] at hfr
  try simp only [qz] at hc2
  refine wc_region ?_
  refine wlm hfr rfl fun a hfr => ?_
  refine wlv hfr (v_fieldAddr (v := .pointer (some ⟨w2.heap.size, 1, none⟩)) rfl (by kernel_rfl)) fun a hfr => ?_
  refine wl_store 0 hfr hst rfl rfl rfl (Tryz.sizeOf3 _) rfl (Nat.le_of_ble_eq_true rfl) (ds := [.int .i64 x.signer, .int .i64 n, .int .i64 x.rf, .int .i64 x.rt, .int .i64 x.carrier, .int .i64 x.serial, .int .i64 x.sf, .int .i64 x.st, sv x.sig]) rfl rfl ?_
  clear hfr hst
  intro a w9 hfr hst
  refine wl_nil ?_
  refine hK3 _ _ ?_
  refine wc_seq_k fun K8 hK8 => ?_
  refine wc_of_dr (by kernel_rfl) (dr_of_wd (by kernel_rfl) fun w10 hxz => ?_)
  replace hst := hst.grow hxz
  refine wd_sub (k := 0) 5 [3, 4] hfr (by kernel_rfl) (by kernel_rfl) (by kernel_rfl) (by rfl) ?_
  replace hfr : Fr 58 [(2, _), (3, _), (6, _), (7, _), (8, _), (11, _), (22, _), (24, _), (25, _)] [] a := hfr.pick [2, 3, 6, 7, 8, 11, 22, 24, 25]
  replace hst : St No w0 [blk w1.heap.size [.int .i64 0, .int .i64 0, .int .i64 0, .int .i64 0, .int .i64 0, .int .i64 0, .int .i64 0, .int .i64 0, .string (⟨#[]⟩)] 30, blk w2.heap.size [.int .i64 x.signer, .int .i64 n, .int .i64 x.rf, .int .i64 x.rt, .int .i64 x.carrier, .int .i64 x.serial, .int .i64 x.sf, .int .i64 x.st, sv x.sig] 30, blk w0.heap.size [.int .i64 x.signer, .int .i64 x.holder, .int .i64 x.rf, .int .i64 x.rt, .int .i64 x.carrier, .int .i64 x.serial, .int .i64 x.sf, .int .i64 x.st, sv x.sig] 30] w10 := hst.select [1, 0, 2] (by decide)
  refine wc_phases_set [4] (fun q => if q = 4 then blk w1.heap.size [.int .i64 0, .int .i64 0, .int .i64 0, .int .i64 0, .int .i64 0, .int .i64 0, .int .i64 0, .int .i64 0, .string (⟨#[]⟩)] 30 else join []) (fun q => if q = 4 then blk w1.heap.size [.int .i64 x.signer, .int .i64 n, .int .i64 x.rf, .int .i64 x.rt, .int .i64 x.carrier, .int .i64 x.serial, .int .i64 x.sf, .int .i64 x.st, sv x.sig] 30 else join []) 5 [[], [], [], [1, 2], [0]] (fun i => match i with | 0 => pv (.agg #[.int .i64 x.signer, .int .i64 n, .int .i64 x.rf, .int .i64 x.rt, .int .i64 x.carrier, .int .i64 x.serial, .int .i64 x.sf, .int .i64 x.st, sv x.sig]) | 1 => pv (.agg #[.int .i64 x.signer, .int .i64 n, .int .i64 x.rf, .int .i64 x.rt, .int .i64 x.carrier, .int .i64 x.serial, .int .i64 x.sf, .int .i64 x.st, sv x.sig]) | 2 => pv (.agg #[.int .i64 x.signer, .int .i64 x.holder, .int .i64 x.rf, .int .i64 x.rt, .int .i64 x.carrier, .int .i64 x.serial, .int .i64 x.sf, .int .i64 x.st, sv x.sig]) | 3 => pv (.bool (!(decide ((Wsh.mk x.signer n x.rf x.rt x.carrier x.serial x.sf x.st x.sig) = x)))) | 4 => fun v E => v = undef ∧ E = [] | _ => fun _ _ => False) (by intro q; by_cases h4 : q = 4; (subst h4; rfl); simp only [h4, if_false]) hfr (H := [blk w2.heap.size [.int .i64 x.signer, .int .i64 n, .int .i64 x.rf, .int .i64 x.rt, .int .i64 x.carrier, .int .i64 x.serial, .int .i64 x.sf, .int .i64 x.st, sv x.sig] 30, blk w0.heap.size [.int .i64 x.signer, .int .i64 x.holder, .int .i64 x.rf, .int .i64 x.rt, .int .i64 x.carrier, .int .i64 x.serial, .int .i64 x.sf, .int .i64 x.st, sv x.sig] 30]) hst (by kernel_rfl) (by kernel_rfl) (by kernel_rfl) (by kernel_rfl) (by decide) (by decide) ?_ ?_ ?_ ?_ ?_ ?_
  ·intro i v E h
   match i, h with
   | 0, _ => exact by decide
   | 1, _ => exact by decide
   | 2, _ => exact by decide
   | 3, _ => exact by decide
   | 4, _ => exact by decide
   | i + 5, h => exact h.elim
  ·intro q v E hq h
   simp only [List.mem_cons, List.not_mem_nil, or_false] at hq
   rcases hq with rfl <;> exact h
  ·intro q hq
   simp only [List.mem_cons, List.not_mem_nil, or_false] at hq
   rcases hq with rfl <;> exact ⟨rfl, rfl⟩
  ·intro i hi hiq e
   match i, hi, hiq with
   | 0, _, _ =>
    intro w hst
    exact OpV.g (v_load_all (hst.get (k := 1) rfl) rfl (Tryz.isAgg30 _) (Tryz.sizeOf30 _))
   | 1, _, _ =>
    intro w hst
    exact OpV.g (v_load_all (hst.get (k := 1) rfl) rfl (Tryz.isAgg30 _) (Tryz.sizeOf30 _))
   | 2, _, _ =>
    intro w hst
    exact OpV.g (v_load_all (hst.get (k := 2) rfl) rfl (Tryz.isAgg30 _) (Tryz.sizeOf30 _))
   | 3, _, _ =>
    rintro _ _ ⟨rfl, rfl⟩ _ _ ⟨rfl, rfl⟩
    intro w hst
    exact OpV.g ((v_ne_agg rfl rfl (by kernel_rfl) (eqWsh x.signer n x.rf x.rt x.carrier x.serial x.sf x.st x.sig x.signer x.holder x.rf x.rt x.carrier x.serial x.sf x.st x.sig _)).asb (b' := !(decide ((Wsh.mk x.signer n x.rf x.rt x.carrier x.serial x.sf x.st x.sig) = x))) (by rfl))
   | 4, _, h => exact absurd (by decide) h
  ·intro q hq
   simp only [List.mem_cons, List.not_mem_nil, or_false] at hq
   rcases hq with rfl
   ·rintro _ _ ⟨rfl, rfl⟩
    intro w h
    exact r_storeU (cs := [.int .i64 0, .int .i64 0, .int .i64 0, .int .i64 0, .int .i64 0, .int .i64 0, .int .i64 0, .int .i64 0, .string (⟨#[]⟩)]) (ds := [.int .i64 x.signer, .int .i64 n, .int .i64 x.rf, .int .i64 x.rt, .int .i64 x.carrier, .int .i64 x.serial, .int .i64 x.sf, .int .i64 x.st, sv x.sig]) rfl rfl h (Tryz.sizeOf30 _) rfl (Nat.le_of_ble_eq_true rfl) rfl
  clear hfr hst
  rintro _ _ ⟨rfl, rfl⟩ _ _ ⟨rfl, rfl⟩ _ _ ⟨rfl, rfl⟩ _ _ ⟨rfl, rfl⟩ a w11 hfr hst
  replace hfr : Fr 58 [(54, _), (55, _), (56, _), (57, _), (2, _), (3, _), (6, _), (7, _), (8, _), (11, _), (22, _), (24, _), (25, _)] [] a := hfr
  replace hst : St No w0 [blk w1.heap.size [.int .i64 x.signer, .int .i64 n, .int .i64 x.rf, .int .i64 x.rt, .int .i64 x.carrier, .int .i64 x.serial, .int .i64 x.sf, .int .i64 x.st, sv x.sig] 30, blk w2.heap.size [.int .i64 x.signer, .int .i64 n, .int .i64 x.rf, .int .i64 x.rt, .int .i64 x.carrier, .int .i64 x.serial, .int .i64 x.sf, .int .i64 x.st, sv x.sig] 30, blk w0.heap.size [.int .i64 x.signer, .int .i64 x.holder, .int .i64 x.rf, .int .i64 x.rt, .int .i64 x.carrier, .int .i64 x.serial, .int .i64 x.sf, .int .i64 x.st, sv x.sig] 30] w11 := hst
  refine wl_nil ?_
  refine wd_lin (k := 5) 6 [5] (by kernel_rfl) (by kernel_rfl) (by kernel_rfl) ?_
  refine wla hfr rfl fun a hfr => ?_
  refine wl_nil ?_
  refine wd_end (by kernel_rfl) ?_
  refine hK8 _ _ ?_
  replace hfr : Fr 58 [(6, _), (7, _)] [] a := hfr.pick [6, 7]
  replace hst : St No w0 [_] w11 := hst.mask [true, false, false]
  refine wc_ret ?_
  refine fin_ret hfr Tryz.results10 (resAre_cell rfl (res_all (hst.get (k := 0) rfl) (Tryz.isAgg30 _) (Tryz.sizeOf30 _)) (resAre_tmp rfl resAre_nil)) ?_
  have e : bentW x how n = Wsh.mk x.signer n x.rf x.rt x.carrier x.serial x.sf x.st x.sig := by unfold bentW; simp [hc1, hc2]
  rw [e]
  exact ⟨rfl, hst.ext⟩
 rw [hc2] at hfr
 try simp only [qz] at hc2
 refine wc_seq_region fun K9 hK9 => ?_
 refine wlv hfr (v_eq rfl rfl) fun a hfr => ?_
 refine wla hfr rfl fun a hfr => ?_
 refine wl_nil (hK9 _ _ ?_)
 refine wc_cond hfr rfl (fun hc3 => ?_) (fun hc3 => ?_)
 ·rw [hc3] at hfr
  try simp only [qz] at hc3
  refine wc_region ?_
  refine wlm hfr rfl fun a hfr => ?_
  refine wlv hfr (v_fieldAddr (v := .pointer (some ⟨w2.heap.size, 2, none⟩)) rfl (by kernel_rfl)) fun a hfr => ?_
  refine wlv hfr (v_fieldAddr (v := .pointer (some ⟨w2.heap.size, 2, none⟩)) rfl (by kernel_rfl)) fun a hfr => ?_
  refine wl_store 0 hfr hst rfl rfl rfl (Tryz.sizeOf3 _) rfl (Nat.le_of_ble_eq_true rfl) (ds := [.int .i64 x.signer, .int .i64 x.holder, .int .i64 n, .int .i64 x.rt, .int .i64 x.carrier, .int .i64 x.serial, .int .i64 x.sf, .int .i64 x.st, sv x.sig]) rfl rfl ?_
  clear hfr hst
  intro a w12 hfr hst
  refine wl_nil ?_
  refine hK3 _ _ ?_
  replace hfr : Fr 58 [(3, _), (6, _), (7, _), (8, _)] [] a := hfr.pick [3, 6, 7, 8]
  refine wc_seq_k fun K10 hK10 => ?_
  refine wc_of_dr (by kernel_rfl) (dr_of_wd (by kernel_rfl) fun w13 hxz => ?_)
  replace hst := hst.grow hxz
  refine wd_sub (k := 0) 5 [3, 4] hfr (by kernel_rfl) (by kernel_rfl) (by kernel_rfl) (by rfl) ?_
  replace hfr : Fr 58 [(3, _), (6, _), (7, _), (8, _)] [] a := hfr.pick [3, 6, 7, 8]
  replace hst : St No w0 [blk w1.heap.size [.int .i64 0, .int .i64 0, .int .i64 0, .int .i64 0, .int .i64 0, .int .i64 0, .int .i64 0, .int .i64 0, .string (⟨#[]⟩)] 30, blk w2.heap.size [.int .i64 x.signer, .int .i64 x.holder, .int .i64 n, .int .i64 x.rt, .int .i64 x.carrier, .int .i64 x.serial, .int .i64 x.sf, .int .i64 x.st, sv x.sig] 30, blk w0.heap.size [.int .i64 x.signer, .int .i64 x.holder, .int .i64 x.rf, .int .i64 x.rt, .int .i64 x.carrier, .int .i64 x.serial, .int .i64 x.sf, .int .i64 x.st, sv x.sig] 30] w13 := hst.select [1, 0, 2] (by decide)
  refine wc_phases_set [4] (fun q => if q = 4 then blk w1.heap.size [.int .i64 0, .int .i64 0, .int .i64 0, .int .i64 0, .int .i64 0, .int .i64 0, .int .i64 0, .int .i64 0, .string (⟨#[]⟩)] 30 else join []) (fun q => if q = 4 then blk w1.heap.size [.int .i64 x.signer, .int .i64 x.holder, .int .i64 n, .int .i64 x.rt, .int .i64 x.carrier, .int .i64 x.serial, .int .i64 x.sf, .int .i64 x.st, sv x.sig] 30 else join []) 5 [[], [], [], [1, 2], [0]] (fun i => match i with | 0 => pv (.agg #[.int .i64 x.signer, .int .i64 x.holder, .int .i64 n, .int .i64 x.rt, .int .i64 x.carrier, .int .i64 x.serial, .int .i64 x.sf, .int .i64 x.st, sv x.sig]) | 1 => pv (.agg #[.int .i64 x.signer, .int .i64 x.holder, .int .i64 n, .int .i64 x.rt, .int .i64 x.carrier, .int .i64 x.serial, .int .i64 x.sf, .int .i64 x.st, sv x.sig]) | 2 => pv (.agg #[.int .i64 x.signer, .int .i64 x.holder, .int .i64 x.rf, .int .i64 x.rt, .int .i64 x.carrier, .int .i64 x.serial, .int .i64 x.sf, .int .i64 x.st, sv x.sig]) | 3 => pv (.bool (!(decide ((Wsh.mk x.signer x.holder n x.rt x.carrier x.serial x.sf x.st x.sig) = x)))) | 4 => fun v E => v = undef ∧ E = [] | _ => fun _ _ => False) (by intro q; by_cases h4 : q = 4; (subst h4; rfl); simp only [h4, if_false]) hfr (H := [blk w2.heap.size [.int .i64 x.signer, .int .i64 x.holder, .int .i64 n, .int .i64 x.rt, .int .i64 x.carrier, .int .i64 x.serial, .int .i64 x.sf, .int .i64 x.st, sv x.sig] 30, blk w0.heap.size [.int .i64 x.signer, .int .i64 x.holder, .int .i64 x.rf, .int .i64 x.rt, .int .i64 x.carrier, .int .i64 x.serial, .int .i64 x.sf, .int .i64 x.st, sv x.sig] 30]) hst (by kernel_rfl) (by kernel_rfl) (by kernel_rfl) (by kernel_rfl) (by decide) (by decide) ?_ ?_ ?_ ?_ ?_ ?_
  ·intro i v E h
   match i, h with
   | 0, _ => exact by decide
   | 1, _ => exact by decide
   | 2, _ => exact by decide
   | 3, _ => exact by decide
   | 4, _ => exact by decide
   | i + 5, h => exact h.elim
  ·intro q v E hq h
   simp only [List.mem_cons, List.not_mem_nil, or_false] at hq
   rcases hq with rfl <;> exact h
  ·intro q hq
   simp only [List.mem_cons, List.not_mem_nil, or_false] at hq
   rcases hq with rfl <;> exact ⟨rfl, rfl⟩
  ·intro i hi hiq e
   match i, hi, hiq with
   | 0, _, _ =>
    intro w hst
    exact OpV.g (v_load_all (hst.get (k := 1) rfl) rfl (Tryz.isAgg30 _) (Tryz.sizeOf30 _))
   | 1, _, _ =>
    intro w hst
    exact OpV.g (v_load_all (hst.get (k := 1) rfl) rfl (Tryz.isAgg30 _) (Tryz.sizeOf30 _))
   | 2, _, _ =>
    intro w hst
    exact OpV.g (v_load_all (hst.get (k := 2) rfl) rfl (Tryz.isAgg30 _) (Tryz.sizeOf30 _))
   | 3, _, _ =>
    rintro _ _ ⟨rfl, rfl⟩ _ _ ⟨rfl, rfl⟩
    intro w hst
    exact OpV.g ((v_ne_agg rfl rfl (by kernel_rfl) (eqWsh x.signer x.holder n x.rt x.carrier x.serial x.sf x.st x.sig x.signer x.holder x.rf x.rt x.carrier x.serial x.sf x.st x.sig _)).asb (b' := !(decide ((Wsh.mk x.signer x.holder n x.rt x.carrier x.serial x.sf x.st x.sig) = x))) (by rfl))
   | 4, _, h => exact absurd (by decide) h
  ·intro q hq
   simp only [List.mem_cons, List.not_mem_nil, or_false] at hq
   rcases hq with rfl
   ·rintro _ _ ⟨rfl, rfl⟩
    intro w h
    exact r_storeU (cs := [.int .i64 0, .int .i64 0, .int .i64 0, .int .i64 0, .int .i64 0, .int .i64 0, .int .i64 0, .int .i64 0, .string (⟨#[]⟩)]) (ds := [.int .i64 x.signer, .int .i64 x.holder, .int .i64 n, .int .i64 x.rt, .int .i64 x.carrier, .int .i64 x.serial, .int .i64 x.sf, .int .i64 x.st, sv x.sig]) rfl rfl h (Tryz.sizeOf30 _) rfl (Nat.le_of_ble_eq_true rfl) rfl
  clear hfr hst
  rintro _ _ ⟨rfl, rfl⟩ _ _ ⟨rfl, rfl⟩ _ _ ⟨rfl, rfl⟩ _ _ ⟨rfl, rfl⟩ a w14 hfr hst
  replace hfr : Fr 58 [(54, _), (55, _), (56, _), (57, _), (3, _), (6, _), (7, _), (8, _)] [] a := hfr
  replace hst : St No w0 [blk w1.heap.size [.int .i64 x.signer, .int .i64 x.holder, .int .i64 n, .int .i64 x.rt, .int .i64 x.carrier, .int .i64 x.serial, .int .i64 x.sf, .int .i64 x.st, sv x.sig] 30, blk w2.heap.size [.int .i64 x.signer, .int .i64 x.holder, .int .i64 n, .int .i64 x.rt, .int .i64 x.carrier, .int .i64 x.serial, .int .i64 x.sf, .int .i64 x.st, sv x.sig] 30, blk w0.heap.size [.int .i64 x.signer, .int .i64 x.holder, .int .i64 x.rf, .int .i64 x.rt, .int .i64 x.carrier, .int .i64 x.serial, .int .i64 x.sf, .int .i64 x.st, sv x.sig] 30] w14 := hst
  refine wl_nil ?_
  refine wd_lin (k := 5) 6 [5] (by kernel_rfl) (by kernel_rfl) (by kernel_rfl) ?_
  refine wla hfr rfl fun a hfr => ?_
  refine wl_nil ?_
  refine wd_end (by kernel_rfl) ?_
  refine hK10 _ _ ?_
  replace hfr : Fr 58 [(6, _), (7, _)] [] a := hfr.pick [6, 7]
  replace hst : St No w0 [_] w14 := hst.mask [true, false, false]
  refine wc_ret ?_
  refine fin_ret hfr Tryz.results10 (resAre_cell rfl (res_all (hst.get (k := 0) rfl) (Tryz.isAgg30 _) (Tryz.sizeOf30 _)) (resAre_tmp rfl resAre_nil)) ?_
  have e : bentW x how n = Wsh.mk x.signer x.holder n x.rt x.carrier x.serial x.sf x.st x.sig := by unfold bentW; simp [hc1, hc2, hc3]
  rw [e]
  exact ⟨rfl, hst.ext⟩
 rw [hc3] at hfr
 try simp only [qz] at hc3
 refine wc_seq_region fun K11 hK11 => ?_
 refine wlv hfr (v_eq rfl rfl) fun a hfr => ?_
 refine wla hfr rfl fun a hfr => ?_
 refine wl_nil (hK11 _ _ ?_)
 refine wc_cond hfr rfl (fun hc4 => ?_) (fun hc4 => ?_)
 ·rw [hc4] at hfr
  try simp only [qz] at hc4
  refine wc_region ?_
  refine wlm hfr rfl fun a hfr => ?_
  refine wlv hfr (v_fieldAddr (v := .pointer (some ⟨w2.heap.size, 2, none⟩)) rfl (by kernel_rfl)) fun a hfr => ?_
  refine wlv hfr (v_fieldAddr (v := .pointer (some ⟨w2.heap.size, 3, none⟩)) rfl (by kernel_rfl)) fun a hfr => ?_
  refine wl_store 0 hfr hst rfl rfl rfl (Tryz.sizeOf3 _) rfl (Nat.le_of_ble_eq_true rfl) (ds := [.int .i64 x.signer, .int .i64 x.holder, .int .i64 x.rf, .int .i64 n, .int .i64 x.carrier, .int .i64 x.serial, .int .i64 x.sf, .int .i64 x.st, sv x.sig]) rfl rfl ?_
  clear hfr hst
  intro a w15 hfr hst
  refine wl_nil ?_
  refine hK3 _ _ ?_
  replace hfr : Fr 58 [(3, _), (6, _), (7, _), (8, _)] [] a := hfr.pick [3, 6, 7, 8]
  refine wc_seq_k fun K12 hK12 => ?_
  refine wc_of_dr (by kernel_rfl) (dr_of_wd (by kernel_rfl) fun w16 hxz => ?_)
  replace hst := hst.grow hxz
  refine wd_sub (k := 0) 5 [3, 4] hfr (by kernel_rfl) (by kernel_rfl) (by kernel_rfl) (by rfl) ?_
  replace hfr : Fr 58 [(3, _), (6, _), (7, _), (8, _)] [] a := hfr.pick [3, 6, 7, 8]
  replace hst : St No w0 [blk w1.heap.size [.int .i64 0, .int .i64 0, .int .i64 0, .int .i64 0, .int .i64 0, .int .i64 0, .int .i64 0, .int .i64 0, .string (⟨#[]⟩)] 30, blk w2.heap.size [.int .i64 x.signer, .int .i64 x.holder, .int .i64 x.rf, .int .i64 n, .int .i64 x.carrier, .int .i64 x.serial, .int .i64 x.sf, .int .i64 x.st, sv x.sig] 30, blk w0.heap.size [.int .i64 x.signer, .int .i64 x.holder, .int .i64 x.rf, .int .i64 x.rt, .int .i64 x.carrier, .int .i64 x.serial, .int .i64 x.sf, .int .i64 x.st, sv x.sig] 30] w16 := hst.select [1, 0, 2] (by decide)
  refine wc_phases_set [4] (fun q => if q = 4 then blk w1.heap.size [.int .i64 0, .int .i64 0, .int .i64 0, .int .i64 0, .int .i64 0, .int .i64 0, .int .i64 0, .int .i64 0, .string (⟨#[]⟩)] 30 else join []) (fun q => if q = 4 then blk w1.heap.size [.int .i64 x.signer, .int .i64 x.holder, .int .i64 x.rf, .int .i64 n, .int .i64 x.carrier, .int .i64 x.serial, .int .i64 x.sf, .int .i64 x.st, sv x.sig] 30 else join []) 5 [[], [], [], [1, 2], [0]] (fun i => match i with | 0 => pv (.agg #[.int .i64 x.signer, .int .i64 x.holder, .int .i64 x.rf, .int .i64 n, .int .i64 x.carrier, .int .i64 x.serial, .int .i64 x.sf, .int .i64 x.st, sv x.sig]) | 1 => pv (.agg #[.int .i64 x.signer, .int .i64 x.holder, .int .i64 x.rf, .int .i64 n, .int .i64 x.carrier, .int .i64 x.serial, .int .i64 x.sf, .int .i64 x.st, sv x.sig]) | 2 => pv (.agg #[.int .i64 x.signer, .int .i64 x.holder, .int .i64 x.rf, .int .i64 x.rt, .int .i64 x.carrier, .int .i64 x.serial, .int .i64 x.sf, .int .i64 x.st, sv x.sig]) | 3 => pv (.bool (!(decide ((Wsh.mk x.signer x.holder x.rf n x.carrier x.serial x.sf x.st x.sig) = x)))) | 4 => fun v E => v = undef ∧ E = [] | _ => fun _ _ => False) (by intro q; by_cases h4 : q = 4; (subst h4; rfl); simp only [h4, if_false]) hfr (H := [blk w2.heap.size [.int .i64 x.signer, .int .i64 x.holder, .int .i64 x.rf, .int .i64 n, .int .i64 x.carrier, .int .i64 x.serial, .int .i64 x.sf, .int .i64 x.st, sv x.sig] 30, blk w0.heap.size [.int .i64 x.signer, .int .i64 x.holder, .int .i64 x.rf, .int .i64 x.rt, .int .i64 x.carrier, .int .i64 x.serial, .int .i64 x.sf, .int .i64 x.st, sv x.sig] 30]) hst (by kernel_rfl) (by kernel_rfl) (by kernel_rfl) (by kernel_rfl) (by decide) (by decide) ?_ ?_ ?_ ?_ ?_ ?_
  ·intro i v E h
   match i, h with
   | 0, _ => exact by decide
   | 1, _ => exact by decide
   | 2, _ => exact by decide
   | 3, _ => exact by decide
   | 4, _ => exact by decide
   | i + 5, h => exact h.elim
  ·intro q v E hq h
   simp only [List.mem_cons, List.not_mem_nil, or_false] at hq
   rcases hq with rfl <;> exact h
  ·intro q hq
   simp only [List.mem_cons, List.not_mem_nil, or_false] at hq
   rcases hq with rfl <;> exact ⟨rfl, rfl⟩
  ·intro i hi hiq e
   match i, hi, hiq with
   | 0, _, _ =>
    intro w hst
    exact OpV.g (v_load_all (hst.get (k := 1) rfl) rfl (Tryz.isAgg30 _) (Tryz.sizeOf30 _))
   | 1, _, _ =>
    intro w hst
    exact OpV.g (v_load_all (hst.get (k := 1) rfl) rfl (Tryz.isAgg30 _) (Tryz.sizeOf30 _))
   | 2, _, _ =>
    intro w hst
    exact OpV.g (v_load_all (hst.get (k := 2) rfl) rfl (Tryz.isAgg30 _) (Tryz.sizeOf30 _))
   | 3, _, _ =>
    rintro _ _ ⟨rfl, rfl⟩ _ _ ⟨rfl, rfl⟩
    intro w hst
    exact OpV.g ((v_ne_agg rfl rfl (by kernel_rfl) (eqWsh x.signer x.holder x.rf n x.carrier x.serial x.sf x.st x.sig x.signer x.holder x.rf x.rt x.carrier x.serial x.sf x.st x.sig _)).asb (b' := !(decide ((Wsh.mk x.signer x.holder x.rf n x.carrier x.serial x.sf x.st x.sig) = x))) (by rfl))
   | 4, _, h => exact absurd (by decide) h
  ·intro q hq
   simp only [List.mem_cons, List.not_mem_nil, or_false] at hq
   rcases hq with rfl
   ·rintro _ _ ⟨rfl, rfl⟩
    intro w h
    exact r_storeU (cs := [.int .i64 0, .int .i64 0, .int .i64 0, .int .i64 0, .int .i64 0, .int .i64 0, .int .i64 0, .int .i64 0, .string (⟨#[]⟩)]) (ds := [.int .i64 x.signer, .int .i64 x.holder, .int .i64 x.rf, .int .i64 n, .int .i64 x.carrier, .int .i64 x.serial, .int .i64 x.sf, .int .i64 x.st, sv x.sig]) rfl rfl h (Tryz.sizeOf30 _) rfl (Nat.le_of_ble_eq_true rfl) rfl
  clear hfr hst
  rintro _ _ ⟨rfl, rfl⟩ _ _ ⟨rfl, rfl⟩ _ _ ⟨rfl, rfl⟩ _ _ ⟨rfl, rfl⟩ a w17 hfr hst
  replace hfr : Fr 58 [(54, _), (55, _), (56, _), (57, _), (3, _), (6, _), (7, _), (8, _)] [] a := hfr
  replace hst : St No w0 [blk w1.heap.size [.int .i64 x.signer, .int .i64 x.holder, .int .i64 x.rf, .int .i64 n, .int .i64 x.carrier, .int .i64 x.serial, .int .i64 x.sf, .int .i64 x.st, sv x.sig] 30, blk w2.heap.size [.int .i64 x.signer, .int .i64 x.holder, .int .i64 x.rf, .int .i64 n, .int .i64 x.carrier, .int .i64 x.serial, .int .i64 x.sf, .int .i64 x.st, sv x.sig] 30, blk w0.heap.size [.int .i64 x.signer, .int .i64 x.holder, .int .i64 x.rf, .int .i64 x.rt, .int .i64 x.carrier, .int .i64 x.serial, .int .i64 x.sf, .int .i64 x.st, sv x.sig] 30] w17 := hst
  refine wl_nil ?_
  refine wd_lin (k := 5) 6 [5] (by kernel_rfl) (by kernel_rfl) (by kernel_rfl) ?_
  refine wla hfr rfl fun a hfr => ?_
  refine wl_nil ?_
  refine wd_end (by kernel_rfl) ?_
  refine hK12 _ _ ?_
  replace hfr : Fr 58 [(6, _), (7, _)] [] a := hfr.pick [6, 7]
  replace hst : St No w0 [_] w17 := hst.mask [true, false, false]
  refine wc_ret ?_
  refine fin_ret hfr Tryz.results10 (resAre_cell rfl (res_all (hst.get (k := 0) rfl) (Tryz.isAgg30 _) (Tryz.sizeOf30 _)) (resAre_tmp rfl resAre_nil)) ?_
  have e : bentW x how n = Wsh.mk x.signer x.holder x.rf n x.carrier x.serial x.sf x.st x.sig := by unfold bentW; simp [hc1, hc2, hc3, hc4]
  rw [e]
  exact ⟨rfl, hst.ext⟩
 rw [hc4] at hfr
 try simp only [qz] at hc4
 refine wc_seq_region fun K13 hK13 => ?_
 refine wlv hfr (v_eq rfl rfl) fun a hfr => ?_
 refine wla hfr rfl fun a hfr => ?_
 refine wl_nil (hK13 _ _ ?_)
 replace hfr : Fr 58 [(2, _), (3, _), (6, _), (7, _), (8, _), (11, _), (36, _)] [] a := hfr.pick [2, 3, 6, 7, 8, 11, 36]
 refine wc_cond hfr rfl (fun hc5 => ?_) (fun hc5 => ?_)
 ·rw [hc5] at hfr
  try simp only [qz] at hc5
  refine wc_region ?_
  refine wlm hfr rfl fun a hfr => ?_
  refine wlv hfr (v_fieldAddr (v := .pointer (some ⟨w2.heap.size, 4, none⟩)) rfl (by kernel_rfl)) fun a hfr => ?_
  refine wl_store 0 hfr hst rfl rfl rfl (Tryz.sizeOf3 _) rfl (Nat.le_of_ble_eq_true rfl) (ds := [.int .i64 x.signer, .int .i64 x.holder, .int .i64 x.rf, .int .i64 x.rt, .int .i64 n, .int .i64 x.serial, .int .i64 x.sf, .int .i64 x.st, sv x.sig]) rfl rfl ?_
  clear hfr hst
  intro a w18 hfr hst
  refine wl_nil ?_
  refine hK3 _ _ ?_
  refine wc_seq_k fun K14 hK14 => ?_
  refine wc_of_dr (by kernel_rfl) (dr_of_wd (by kernel_rfl) fun w19 hxz => ?_)
  replace hst := hst.grow hxz
  refine wd_sub (k := 0) 5 [3, 4] hfr (by kernel_rfl) (by kernel_rfl) (by kernel_rfl) (by rfl) ?_
  replace hfr : Fr 58 [(2, _), (3, _), (6, _), (7, _), (8, _), (11, _), (36, _), (38, _), (39, _)] [] a := hfr.pick [2, 3, 6, 7, 8, 11, 36, 38, 39]
  replace hst : St No w0 [blk w1.heap.size [.int .i64 0, .int .i64 0, .int .i64 0, .int .i64 0, .int .i64 0, .int .i64 0, .int .i64 0, .int .i64 0, .string (⟨#[]⟩)] 30, blk w2.heap.size [.int .i64 x.signer, .int .i64 x.holder, .int .i64 x.rf, .int .i64 x.rt, .int .i64 n, .int .i64 x.serial, .int .i64 x.sf, .int .i64 x.st, sv x.sig] 30, blk w0.heap.size [.int .i64 x.signer, .int .i64 x.holder, .int .i64 x.rf, .int .i64 x.rt, .int .i64 x.carrier, .int .i64 x.serial, .int .i64 x.sf, .int .i64 x.st, sv x.sig] 30] w19 := hst.select [1, 0, 2] (by decide)
  refine wc_phases_set [4] (fun q => if q = 4 then blk w1.heap.size [.int .i64 0, .int .i64 0, .int .i64 0, .int .i64 0, .int .i64 0, .int .i64 0, .int .i64 0, .int .i64 0, .string (⟨#[]⟩)] 30 else join []) (fun q => if q = 4 then blk w1.heap.size [.int .i64 x.signer, .int .i64 x.holder, .int .i64 x.rf, .int .i64 x.rt, .int .i64 n, .int .i64 x.serial, .int .i64 x.sf, .int .i64 x.st, sv x.sig] 30 else join []) 5 [[], [], [], [1, 2], [0]] (fun i => match i with | 0 => pv (.agg #[.int .i64 x.signer, .int .i64 x.holder, .int .i64 x.rf, .int .i64 x.rt, .int .i64 n, .int .i64 x.serial, .int .i64 x.sf, .int .i64 x.st, sv x.sig]) | 1 => pv (.agg #[.int .i64 x.signer, .int .i64 x.holder, .int .i64 x.rf, .int .i64 x.rt, .int .i64 n, .int .i64 x.serial, .int .i64 x.sf, .int .i64 x.st, sv x.sig]) | 2 => pv (.agg #[.int .i64 x.signer, .int .i64 x.holder, .int .i64 x.rf, .int .i64 x.rt, .int .i64 x.carrier, .int .i64 x.serial, .int .i64 x.sf, .int .i64 x.st, sv x.sig]) | 3 => pv (.bool (!(decide ((Wsh.mk x.signer x.holder x.rf x.rt n x.serial x.sf x.st x.sig) = x)))) | 4 => fun v E => v = undef ∧ E = [] | _ => fun _ _ => False) (by intro q; by_cases h4 : q = 4; (subst h4; rfl); simp only [h4, if_false]) hfr (H := [blk w2.heap.size [.int .i64 x.signer, .int .i64 x.holder, .int .i64 x.rf, .int .i64 x.rt, .int .i64 n, .int .i64 x.serial, .int .i64 x.sf, .int .i64 x.st, sv x.sig] 30, blk w0.heap.size [.int .i64 x.signer, .int .i64 x.holder, .int .i64 x.rf, .int .i64 x.rt, .int .i64 x.carrier, .int .i64 x.serial, .int .i64 x.sf, .int .i64 x.st, sv x.sig] 30]) hst (by kernel_rfl) (by kernel_rfl) (by kernel_rfl) (by kernel_rfl) (by decide) (by decide) ?_ ?_ ?_ ?_ ?_ ?_
  ·intro i v E h
   match i, h with
   | 0, _ => exact by decide
   | 1, _ => exact by decide
   | 2, _ => exact by decide
   | 3, _ => exact by decide
   | 4, _ => exact by decide
   | i + 5, h => exact h.elim
  ·intro q v E hq h
   simp only [List.mem_cons, List.not_mem_nil, or_false] at hq
   rcases hq with rfl <;> exact h
  ·intro q hq
   simp only [List.mem_cons, List.not_mem_nil, or_false] at hq
   rcases hq with rfl <;> exact ⟨rfl, rfl⟩
  ·intro i hi hiq e
   match i, hi, hiq with
   | 0, _, _ =>
    intro w hst
    exact OpV.g (v_load_all (hst.get (k := 1) rfl) rfl (Tryz.isAgg30 _) (Tryz.sizeOf30 _))
   | 1, _, _ =>
    intro w hst
    exact OpV.g (v_load_all (hst.get (k := 1) rfl) rfl (Tryz.isAgg30 _) (Tryz.sizeOf30 _))
   | 2, _, _ =>
    intro w hst
    exact OpV.g (v_load_all (hst.get (k := 2) rfl) rfl (Tryz.isAgg30 _) (Tryz.sizeOf30 _))
   | 3, _, _ =>
    rintro _ _ ⟨rfl, rfl⟩ _ _ ⟨rfl, rfl⟩
    intro w hst
    exact OpV.g ((v_ne_agg rfl rfl (by kernel_rfl) (eqWsh x.signer x.holder x.rf x.rt n x.serial x.sf x.st x.sig x.signer x.holder x.rf x.rt x.carrier x.serial x.sf x.st x.sig _)).asb (b' := !(decide ((Wsh.mk x.signer x.holder x.rf x.rt n x.serial x.sf x.st x.sig) = x))) (by rfl))
   | 4, _, h => exact absurd (by decide) h
  ·intro q hq
   simp only [List.mem_cons, List.not_mem_nil, or_false] at hq
   rcases hq with rfl
   ·rintro _ _ ⟨rfl, rfl⟩
    intro w h
    exact r_storeU (cs := [.int .i64 0, .int .i64 0, .int .i64 0, .int .i64 0, .int .i64 0, .int .i64 0, .int .i64 0, .int .i64 0, .string (⟨#[]⟩)]) (ds := [.int .i64 x.signer, .int .i64 x.holder, .int .i64 x.rf, .int .i64 x.rt, .int .i64 n, .int .i64 x.serial, .int .i64 x.sf, .int .i64 x.st, sv x.sig]) rfl rfl h (Tryz.sizeOf30 _) rfl (Nat.le_of_ble_eq_true rfl) rfl
  clear hfr hst
  rintro _ _ ⟨rfl, rfl⟩ _ _ ⟨rfl, rfl⟩ _ _ ⟨rfl, rfl⟩ _ _ ⟨rfl, rfl⟩ a w20 hfr hst
  replace hfr : Fr 58 [(54, _), (55, _), (56, _), (57, _), (2, _), (3, _), (6, _), (7, _), (8, _), (11, _), (36, _), (38, _), (39, _)] [] a := hfr
  replace hst : St No w0 [blk w1.heap.size [.int .i64 x.signer, .int .i64 x.holder, .int .i64 x.rf, .int .i64 x.rt, .int .i64 n, .int .i64 x.serial, .int .i64 x.sf, .int .i64 x.st, sv x.sig] 30, blk w2.heap.size [.int .i64 x.signer, .int .i64 x.holder, .int .i64 x.rf, .int .i64 x.rt, .int .i64 n, .int .i64 x.serial, .int .i64 x.sf, .int .i64 x.st, sv x.sig] 30, blk w0.heap.size [.int .i64 x.signer, .int .i64 x.holder, .int .i64 x.rf, .int .i64 x.rt, .int .i64 x.carrier, .int .i64 x.serial, .int .i64 x.sf, .int .i64 x.st, sv x.sig] 30] w20 := hst
  refine wl_nil ?_
  refine wd_lin (k := 5) 6 [5] (by kernel_rfl) (by kernel_rfl) (by kernel_rfl) ?_
  refine wla hfr rfl fun a hfr => ?_
  refine wl_nil ?_
  refine wd_end (by kernel_rfl) ?_
  refine hK14 _ _ ?_
  replace hfr : Fr 58 [(6, _), (7, _)] [] a := hfr.pick [6, 7]
  replace hst : St No w0 [_] w20 := hst.mask [true, false, false]
  refine wc_ret ?_
  refine fin_ret hfr Tryz.results10 (resAre_cell rfl (res_all (hst.get (k := 0) rfl) (Tryz.isAgg30 _) (Tryz.sizeOf30 _)) (resAre_tmp rfl resAre_nil)) ?_
  have e : bentW x how n = Wsh.mk x.signer x.holder x.rf x.rt n x.serial x.sf x.st x.sig := by unfold bentW; simp [hc1, hc2, hc3, hc4, hc5]
  rw [e]
  exact ⟨rfl, hst.ext⟩
 rw [hc5] at hfr
 try simp only [qz] at hc5
 refine wc_seq_region fun K15 hK15 => ?_
 refine wlv hfr (v_eq rfl rfl) fun a hfr => ?_
 refine wla hfr rfl fun a hfr => ?_
 refine wl_nil (hK15 _ _ ?_)
 refine wc_cond hfr rfl (fun hc6 => ?_) (fun hc6 => ?_)
 ·rw [hc6] at hfr
  try simp only [qz] at hc6
  refine wc_region ?_
  refine wlm hfr rfl fun a hfr => ?_
  refine wlv hfr (v_fieldAddr (v := .pointer (some ⟨w2.heap.size, 5, none⟩)) rfl (by kernel_rfl)) fun a hfr => ?_
  refine wl_store 0 hfr hst rfl rfl rfl (Tryz.sizeOf3 _) rfl (Nat.le_of_ble_eq_true rfl) (ds := [.int .i64 x.signer, .int .i64 x.holder, .int .i64 x.rf, .int .i64 x.rt, .int .i64 x.carrier, .int .i64 n, .int .i64 x.sf, .int .i64 x.st, sv x.sig]) rfl rfl ?_
  clear hfr hst
  intro a w21 hfr hst
  refine wl_nil ?_
  refine hK3 _ _ ?_
  replace hfr : Fr 58 [(3, _), (6, _), (7, _), (8, _)] [] a := hfr.pick [3, 6, 7, 8]
  refine wc_seq_k fun K16 hK16 => ?_
  refine wc_of_dr (by kernel_rfl) (dr_of_wd (by kernel_rfl) fun w22 hxz => ?_)
  replace hst := hst.grow hxz
  refine wd_sub (k := 0) 5 [3, 4] hfr (by kernel_rfl) (by kernel_rfl) (by kernel_rfl) (by rfl) ?_
  replace hfr : Fr 58 [(3, _), (6, _), (7, _), (8, _)] [] a := hfr.pick [3, 6, 7, 8]
  replace hst : St No w0 [blk w1.heap.size [.int .i64 0, .int .i64 0, .int .i64 0, .int .i64 0, .int .i64 0, .int .i64 0, .int .i64 0, .int .i64 0, .string (⟨#[]⟩)] 30, blk w2.heap.size [.int .i64 x.signer, .int .i64 x.holder, .int .i64 x.rf, .int .i64 x.rt, .int .i64 x.carrier, .int .i64 n, .int .i64 x.sf, .int .i64 x.st, sv x.sig] 30, blk w0.heap.size [.int .i64 x.signer, .int .i64 x.holder, .int .i64 x.rf, .int .i64 x.rt, .int .i64 x.carrier, .int .i64 x.serial, .int .i64 x.sf, .int .i64 x.st, sv x.sig] 30] w22 := hst.select [1, 0, 2] (by decide)
  refine wc_phases_set [4] (fun q => if q = 4 then blk w1.heap.size [.int .i64 0, .int .i64 0, .int .i64 0, .int .i64 0, .int .i64 0, .int .i64 0, .int .i64 0, .int .i64 0, .string (⟨#[]⟩)] 30 else join []) (fun q => if q = 4 then blk w1.heap.size [.int .i64 x.signer, .int .i64 x.holder, .int .i64 x.rf, .int .i64 x.rt, .int .i64 x.carrier, .int .i64 n, .int .i64 x.sf, .int .i64 x.st, sv x.sig] 30 else join []) 5 [[], [], [], [1, 2], [0]] (fun i => match i with | 0 => pv (.agg #[.int .i64 x.signer, .int .i64 x.holder, .int .i64 x.rf, .int .i64 x.rt, .int .i64 x.carrier, .int .i64 n, .int .i64 x.sf, .int .i64 x.st, sv x.sig]) | 1 => pv (.agg #[.int .i64 x.signer, .int .i64 x.holder, .int .i64 x.rf, .int .i64 x.rt, .int .i64 x.carrier, .int .i64 n, .int .i64 x.sf, .int .i64 x.st, sv x.sig]) | 2 => pv (.agg #[.int .i64 x.signer, .int .i64 x.holder, .int .i64 x.rf, .int .i64 x.rt, .int .i64 x.carrier, .int .i64 x.serial, .int .i64 x.sf, .int .i64 x.st, sv x.sig]) | 3 => pv (.bool (!(decide ((Wsh.mk x.signer x.holder x.rf x.rt x.carrier n x.sf x.st x.sig) = x)))) | 4 => fun v E => v = undef ∧ E = [] | _ => fun _ _ => False) (by intro q; by_cases h4 : q = 4; (subst h4; rfl); simp only [h4, if_false]) hfr (H := [blk w2.heap.size [.int .i64 x.signer, .int .i64 x.holder, .int .i64 x.rf, .int .i64 x.rt, .int .i64 x.carrier, .int .i64 n, .int .i64 x.sf, .int .i64 x.st, sv x.sig] 30, blk w0.heap.size [.int .i64 x.signer, .int .i64 x.holder, .int .i64 x.rf, .int .i64 x.rt, .int .i64 x.carrier, .int .i64 x.serial, .int .i64 x.sf, .int .i64 x.st, sv x.sig] 30]) hst (by kernel_rfl) (by kernel_rfl) (by kernel_rfl) (by kernel_rfl) (by decide) (by decide) ?_ ?_ ?_ ?_ ?_ ?_
  ·intro i v E h
   match i, h with
   | 0, _ => exact by decide
   | 1, _ => exact by decide
   | 2, _ => exact by decide
   | 3, _ => exact by decide
   | 4, _ => exact by decide
   | i + 5, h => exact h.elim
  ·intro q v E hq h
   simp only [List.mem_cons, List.not_mem_nil, or_false] at hq
   rcases hq with rfl <;> exact h
  ·intro q hq
   simp only [List.mem_cons, List.not_mem_nil, or_false] at hq
   rcases hq with rfl <;> exact ⟨rfl, rfl⟩
  ·intro i hi hiq e
   match i, hi, hiq with
   | 0, _, _ =>
    intro w hst
    exact OpV.g (v_load_all (hst.get (k := 1) rfl) rfl (Tryz.isAgg30 _) (Tryz.sizeOf30 _))
   | 1, _, _ =>
    intro w hst
    exact OpV.g (v_load_all (hst.get (k := 1) rfl) rfl (Tryz.isAgg30 _) (Tryz.sizeOf30 _))
   | 2, _, _ =>
    intro w hst
    exact OpV.g (v_load_all (hst.get (k := 2) rfl) rfl (Tryz.isAgg30 _) (Tryz.sizeOf30 _))
   | 3, _, _ =>
    rintro _ _ ⟨rfl, rfl⟩ _ _ ⟨rfl, rfl⟩
    intro w hst
    exact OpV.g ((v_ne_agg rfl rfl (by kernel_rfl) (eqWsh x.signer x.holder x.rf x.rt x.carrier n x.sf x.st x.sig x.signer x.holder x.rf x.rt x.carrier x.serial x.sf x.st x.sig _)).asb (b' := !(decide ((Wsh.mk x.signer x.holder x.rf x.rt x.carrier n x.sf x.st x.sig) = x))) (by rfl))
   | 4, _, h => exact absurd (by decide) h
  ·intro q hq
   simp only [List.mem_cons, List.not_mem_nil, or_false] at hq
   rcases hq with rfl
   ·rintro _ _ ⟨rfl, rfl⟩
    intro w h
    exact r_storeU (cs := [.int .i64 0, .int .i64 0, .int .i64 0, .int .i64 0, .int .i64 0, .int .i64 0, .int .i64 0, .int .i64 0, .string (⟨#[]⟩)]) (ds := [.int .i64 x.signer, .int .i64 x.holder, .int .i64 x.rf, .int .i64 x.rt, .int .i64 x.carrier, .int .i64 n, .int .i64 x.sf, .int .i64 x.st, sv x.sig]) rfl rfl h (Tryz.sizeOf30 _) rfl (Nat.le_of_ble_eq_true rfl) rfl
  clear hfr hst
  rintro _ _ ⟨rfl, rfl⟩ _ _ ⟨rfl, rfl⟩ _ _ ⟨rfl, rfl⟩ _ _ ⟨rfl, rfl⟩ a w23 hfr hst
  replace hfr : Fr 58 [(54, _), (55, _), (56, _), (57, _), (3, _), (6, _), (7, _), (8, _)] [] a := hfr
  replace hst : St No w0 [blk w1.heap.size [.int .i64 x.signer, .int .i64 x.holder, .int .i64 x.rf, .int .i64 x.rt, .int .i64 x.carrier, .int .i64 n, .int .i64 x.sf, .int .i64 x.st, sv x.sig] 30, blk w2.heap.size [.int .i64 x.signer, .int .i64 x.holder, .int .i64 x.rf, .int .i64 x.rt, .int .i64 x.carrier, .int .i64 n, .int .i64 x.sf, .int .i64 x.st, sv x.sig] 30, blk w0.heap.size [.int .i64 x.signer, .int .i64 x.holder, .int .i64 x.rf, .int .i64 x.rt, .int .i64 x.carrier, .int .i64 x.serial, .int .i64 x.sf, .int .i64 x.st, sv x.sig] 30] w23 := hst
  refine wl_nil ?_
  refine wd_lin (k := 5) 6 [5] (by kernel_rfl) (by kernel_rfl) (by kernel_rfl) ?_
  refine wla hfr rfl fun a hfr => ?_
  refine wl_nil ?_
  refine wd_end (by kernel_rfl) ?_
  refine hK16 _ _ ?_
  replace hfr : Fr 58 [(6, _), (7, _)] [] a := hfr.pick [6, 7]
  replace hst : St No w0 [_] w23 := hst.mask [true, false, false]
  refine wc_ret ?_
  refine fin_ret hfr Tryz.results10 (resAre_cell rfl (res_all (hst.get (k := 0) rfl) (Tryz.isAgg30 _) (Tryz.sizeOf30 _)) (resAre_tmp rfl resAre_nil)) ?_
  have e : bentW x how n = Wsh.mk x.signer x.holder x.rf x.rt x.carrier n x.sf x.st x.sig := by unfold bentW; simp [hc1, hc2, hc3, hc4, hc5, hc6]
  rw [e]
  exact ⟨rfl, hst.ext⟩
 rw [hc6] at hfr
 try simp only [qz] at hc6
 refine wc_seq_region fun K17 hK17 => ?_
 refine wlv hfr (v_eq rfl rfl) fun a hfr => ?_
 refine wla hfr rfl fun a hfr => ?_
 refine wl_nil (hK17 _ _ ?_)
 refine wc_cond hfr rfl (fun hc7 => ?_) (fun hc7 => ?_)
 ·rw [hc7] at hfr
  try simp only [qz] at hc7
  refine wc_region ?_
  refine wlm hfr rfl fun a hfr => ?_
  refine wlv hfr (v_fieldAddr (v := .pointer (some ⟨w2.heap.size, 6, none⟩)) rfl (by kernel_rfl)) fun a hfr => ?_
  refine wlv hfr (v_fieldAddr (v := .pointer (some ⟨w2.heap.size, 6, none⟩)) rfl (by kernel_rfl)) fun a hfr => ?_
  refine wl_store 0 hfr hst rfl rfl rfl (Tryz.sizeOf3 _) rfl (Nat.le_of_ble_eq_true rfl) (ds := [.int .i64 x.signer, .int .i64 x.holder, .int .i64 x.rf, .int .i64 x.rt, .int .i64 x.carrier, .int .i64 x.serial, .int .i64 n, .int .i64 x.st, sv x.sig]) rfl rfl ?_
  clear hfr hst
  intro a w24 hfr hst
  refine wl_nil ?_
  refine hK3 _ _ ?_
  replace hfr : Fr 58 [(3, _), (6, _), (7, _), (8, _)] [] a := hfr.pick [3, 6, 7, 8]
  refine wc_seq_k fun K18 hK18 => ?_
  refine wc_of_dr (by kernel_rfl) (dr_of_wd (by kernel_rfl) fun w25 hxz => ?_)
  replace hst := hst.grow hxz
  refine wd_sub (k := 0) 5 [3, 4] hfr (by kernel_rfl) (by kernel_rfl) (by kernel_rfl) (by rfl) ?_
  replace hfr : Fr 58 [(3, _), (6, _), (7, _), (8, _)] [] a := hfr.pick [3, 6, 7, 8]
  replace hst : St No w0 [blk w1.heap.size [.int .i64 0, .int .i64 0, .int .i64 0, .int .i64 0, .int .i64 0, .int .i64 0, .int .i64 0, .int .i64 0, .string (⟨#[]⟩)] 30, blk w2.heap.size [.int .i64 x.signer, .int .i64 x.holder, .int .i64 x.rf, .int .i64 x.rt, .int .i64 x.carrier, .int .i64 x.serial, .int .i64 n, .int .i64 x.st, sv x.sig] 30, blk w0.heap.size [.int .i64 x.signer, .int .i64 x.holder, .int .i64 x.rf, .int .i64 x.rt, .int .i64 x.carrier, .int .i64 x.serial, .int .i64 x.sf, .int .i64 x.st, sv x.sig] 30] w25 := hst.select [1, 0, 2] (by decide)
  refine wc_phases_set [4] (fun q => if q = 4 then blk w1.heap.size [.int .i64 0, .int .i64 0, .int .i64 0, .int .i64 0, .int .i64 0, .int .i64 0, .int .i64 0, .int .i64 0, .string (⟨#[]⟩)] 30 else join []) (fun q => if q = 4 then blk w1.heap.size [.int .i64 x.signer, .int .i64 x.holder, .int .i64 x.rf, .int .i64 x.rt, .int .i64 x.carrier, .int .i64 x.serial, .int .i64 n, .int .i64 x.st, sv x.sig] 30 else join []) 5 [[], [], [], [1, 2], [0]] (fun i => match i with | 0 => pv (.agg #[.int .i64 x.signer, .int .i64 x.holder, .int .i64 x.rf, .int .i64 x.rt, .int .i64 x.carrier, .int .i64 x.serial, .int .i64 n, .int .i64 x.st, sv x.sig]) | 1 => pv (.agg #[.int .i64 x.signer, .int .i64 x.holder, .int .i64 x.rf, .int .i64 x.rt, .int .i64 x.carrier, .int .i64 x.serial, .int .i64 n, .int .i64 x.st, sv x.sig]) | 2 => pv (.agg #[.int .i64 x.signer, .int .i64 x.holder, .int .i64 x.rf, .int .i64 x.rt, .int .i64 x.carrier, .int .i64 x.serial, .int .i64 x.sf, .int .i64 x.st, sv x.sig]) | 3 => pv (.bool (!(decide ((Wsh.mk x.signer x.holder x.rf x.rt x.carrier x.serial n x.st x.sig) = x)))) | 4 => fun v E => v = undef ∧ E = [] | _ => fun _ _ => False) (by intro q; by_cases h4 : q = 4; (subst h4; rfl); simp only [h4, if_false]) hfr (H := [blk w2.heap.size [.int .i64 x.signer, .int .i64 x.holder, .int .i64 x.rf, .int .i64 x.rt, .int .i64 x.carrier, .int .i64 x.serial, .int .i64 n, .int .i64 x.st, sv x.sig] 30, blk w0.heap.size [.int .i64 x.signer, .int .i64 x.holder, .int .i64 x.rf, .int .i64 x.rt, .int .i64 x.carrier, .int .i64 x.serial, .int .i64 x.sf, .int .i64 x.st, sv x.sig] 30]) hst (by kernel_rfl) (by kernel_rfl) (by kernel_rfl) (by kernel_rfl) (by decide) (by decide) ?_ ?_ ?_ ?_ ?_ ?_
  ·intro i v E h
   match i, h with
   | 0, _ => exact by decide
   | 1, _ => exact by decide
   | 2, _ => exact by decide
   | 3, _ => exact by decide
   | 4, _ => exact by decide
   | i + 5, h => exact h.elim
  ·intro q v E hq h
   simp only [List.mem_cons, List.not_mem_nil, or_false] at hq
   rcases hq with rfl <;> exact h
  ·intro q hq
   simp only [List.mem_cons, List.not_mem_nil, or_false] at hq
   rcases hq with rfl <;> exact ⟨rfl, rfl⟩
  ·intro i hi hiq e
   match i, hi, hiq with
   | 0, _, _ =>
    intro w hst
    exact OpV.g (v_load_all (hst.get (k := 1) rfl) rfl (Tryz.isAgg30 _) (Tryz.sizeOf30 _))
   | 1, _, _ =>
    intro w hst
    exact OpV.g (v_load_all (hst.get (k := 1) rfl) rfl (Tryz.isAgg30 _) (Tryz.sizeOf30 _))
   | 2, _, _ =>
    intro w hst
    exact OpV.g (v_load_all (hst.get (k := 2) rfl) rfl (Tryz.isAgg30 _) (Tryz.sizeOf30 _))
   | 3, _, _ =>
    rintro _ _ ⟨rfl, rfl⟩ _ _ ⟨rfl, rfl⟩
    intro w hst
    exact OpV.g ((v_ne_agg rfl rfl (by kernel_rfl) (eqWsh x.signer x.holder x.rf x.rt x.carrier x.serial n x.st x.sig x.signer x.holder x.rf x.rt x.carrier x.serial x.sf x.st x.sig _)).asb (b' := !(decide ((Wsh.mk x.signer x.holder x.rf x.rt x.carrier x.serial n x.st x.sig) = x))) (by rfl))
   | 4, _, h => exact absurd (by decide) h
  ·intro q hq
   simp only [List.mem_cons, List.not_mem_nil, or_false] at hq
   rcases hq with rfl
   ·rintro _ _ ⟨rfl, rfl⟩
    intro w h
    exact r_storeU (cs := [.int .i64 0, .int .i64 0, .int .i64 0, .int .i64 0, .int .i64 0, .int .i64 0, .int .i64 0, .int .i64 0, .string (⟨#[]⟩)]) (ds := [.int .i64 x.signer, .int .i64 x.holder, .int .i64 x.rf, .int .i64 x.rt, .int .i64 x.carrier, .int .i64 x.serial, .int .i64 n, .int .i64 x.st, sv x.sig]) rfl rfl h (Tryz.sizeOf30 _) rfl (Nat.le_of_ble_eq_true rfl) rfl
  clear hfr hst
  rintro _ _ ⟨rfl, rfl⟩ _ _ ⟨rfl, rfl⟩ _ _ ⟨rfl, rfl⟩ _ _ ⟨rfl, rfl⟩ a w26 hfr hst
  replace hfr : Fr 58 [(54, _), (55, _), (56, _), (57, _), (3, _), (6, _), (7, _), (8, _)] [] a := hfr
  replace hst : St No w0 [blk w1.heap.size [.int .i64 x.signer, .int .i64 x.holder, .int .i64 x.rf, .int .i64 x.rt, .int .i64 x.carrier, .int .i64 x.serial, .int .i64 n, .int .i64 x.st, sv x.sig] 30, blk w2.heap.size [.int .i64 x.signer, .int .i64 x.holder, .int .i64 x.rf, .int .i64 x.rt, .int .i64 x.carrier, .int .i64 x.serial, .int .i64 n, .int .i64 x.st, sv x.sig] 30, blk w0.heap.size [.int .i64 x.signer, .int .i64 x.holder, .int .i64 x.rf, .int .i64 x.rt, .int .i64 x.carrier, .int .i64 x.serial, .int .i64 x.sf, .int .i64 x.st, sv x.sig] 30] w26 := hst
  refine wl_nil ?_
  refine wd_lin (k := 5) 6 [5] (by kernel_rfl) (by kernel_rfl) (by kernel_rfl) ?_
  refine wla hfr rfl fun a hfr => ?_
  refine wl_nil ?_
  refine wd_end (by kernel_rfl) ?_
  refine hK18 _ _ ?_
  replace hfr : Fr 58 [(6, _), (7, _)] [] a := hfr.pick [6, 7]
  replace hst : St No w0 [_] w26 := hst.mask [true, false, false]
  refine wc_ret ?_
  refine fin_ret hfr Tryz.results10 (resAre_cell rfl (res_all (hst.get (k := 0) rfl) (Tryz.isAgg30 _) (Tryz.sizeOf30 _)) (resAre_tmp rfl resAre_nil)) ?_
  have e : bentW x how n = Wsh.mk x.signer x.holder x.rf x.rt x.carrier x.serial n x.st x.sig := by unfold bentW; simp [hc1, hc2, hc3, hc4, hc5, hc6, hc7]
  rw [e]
  exact ⟨rfl, hst.ext⟩
 rw [hc7] at hfr
 try simp only [qz] at hc7
 refine wc_seq_region fun K19 hK19 => ?_
 refine wlv hfr (v_eq rfl rfl) fun a hfr => ?_
 refine wla hfr rfl fun a hfr => ?_
 refine wl_nil (hK19 _ _ ?_)
 replace hfr : Fr 58 [(2, _), (3, _), (6, _), (7, _), (8, _), (49, _)] [] a := hfr.pick [2, 3, 6, 7, 8, 49]
 refine wc_cond hfr rfl (fun hc8 => ?_) (fun hc8 => ?_)
 ·rw [hc8] at hfr
  try simp only [qz] at hc8
  refine wc_region ?_
  refine wlm hfr rfl fun a hfr => ?_
  refine wlv hfr (v_fieldAddr (v := .pointer (some ⟨w2.heap.size, 6, none⟩)) rfl (by kernel_rfl)) fun a hfr => ?_
  refine wlv hfr (v_fieldAddr (v := .pointer (some ⟨w2.heap.size, 7, none⟩)) rfl (by kernel_rfl)) fun a hfr => ?_
  refine wl_store 0 hfr hst rfl rfl rfl (Tryz.sizeOf3 _) rfl (Nat.le_of_ble_eq_true rfl) (ds := [.int .i64 x.signer, .int .i64 x.holder, .int .i64 x.rf, .int .i64 x.rt, .int .i64 x.carrier, .int .i64 x.serial, .int .i64 x.sf, .int .i64 n, sv x.sig]) rfl rfl ?_
  clear hfr hst
  intro a w27 hfr hst
  refine wl_nil ?_
  refine hK3 _ _ ?_
  refine wc_seq_k fun K20 hK20 => ?_
  refine wc_of_dr (by kernel_rfl) (dr_of_wd (by kernel_rfl) fun w28 hxz => ?_)
  replace hst := hst.grow hxz
  refine wd_sub (k := 0) 5 [3, 4] hfr (by kernel_rfl) (by kernel_rfl) (by kernel_rfl) (by rfl) ?_
  replace hfr : Fr 58 [(2, _), (3, _), (6, _), (7, _), (8, _), (49, _), (51, _), (52, _), (53, _)] [] a := hfr.pick [2, 3, 6, 7, 8, 49, 51, 52, 53]
  replace hst : St No w0 [blk w1.heap.size [.int .i64 0, .int .i64 0, .int .i64 0, .int .i64 0, .int .i64 0, .int .i64 0, .int .i64 0, .int .i64 0, .string (⟨#[]⟩)] 30, blk w2.heap.size [.int .i64 x.signer, .int .i64 x.holder, .int .i64 x.rf, .int .i64 x.rt, .int .i64 x.carrier, .int .i64 x.serial, .int .i64 x.sf, .int .i64 n, sv x.sig] 30, blk w0.heap.size [.int .i64 x.signer, .int .i64 x.holder, .int .i64 x.rf, .int .i64 x.rt, .int .i64 x.carrier, .int .i64 x.serial, .int .i64 x.sf, .int .i64 x.st, sv x.sig] 30] w28 := hst.select [1, 0, 2] (by decide)
  refine wc_phases_set [4] (fun q => if q = 4 then blk w1.heap.size [.int .i64 0, .int .i64 0, .int .i64 0, .int .i64 0, .int .i64 0, .int .i64 0, .int .i64 0, .int .i64 0, .string (⟨#[]⟩)] 30 else join []) (fun q => if q = 4 then blk w1.heap.size [.int .i64 x.signer, .int .i64 x.holder, .int .i64 x.rf, .int .i64 x.rt, .int .i64 x.carrier, .int .i64 x.serial, .int .i64 x.sf, .int .i64 n, sv x.sig] 30 else join []) 5 [[], [], [], [1, 2], [0]] (fun i => match i with | 0 => pv (.agg #[.int .i64 x.signer, .int .i64 x.holder, .int .i64 x.rf, .int .i64 x.rt, .int .i64 x.carrier, .int .i64 x.serial, .int .i64 x.sf, .int .i64 n, sv x.sig]) | 1 => pv (.agg #[.int .i64 x.signer, .int .i64 x.holder, .int .i64 x.rf, .int .i64 x.rt, .int .i64 x.carrier, .int .i64 x.serial, .int .i64 x.sf, .int .i64 n, sv x.sig]) | 2 => pv (.agg #[.int .i64 x.signer, .int .i64 x.holder, .int .i64 x.rf, .int .i64 x.rt, .int .i64 x.carrier, .int .i64 x.serial, .int .i64 x.sf, .int .i64 x.st, sv x.sig]) | 3 => pv (.bool (!(decide ((Wsh.mk x.signer x.holder x.rf x.rt x.carrier x.serial x.sf n x.sig) = x)))) | 4 => fun v E => v = undef ∧ E = [] | _ => fun _ _ => False) (by intro q; by_cases h4 : q = 4; (subst h4; rfl); simp only [h4, if_false]) hfr (H := [blk w2.heap.size [.int .i64 x.signer, .int .i64 x.holder, .int .i64 x.rf, .int .i64 x.rt, .int .i64 x.carrier, .int .i64 x.serial, .int .i64 x.sf, .int .i64 n, sv x.sig] 30, blk w0.heap.size [.int .i64 x.signer, .int .i64 x.holder, .int .i64 x.rf, .int .i64 x.rt, .int .i64 x.carrier, .int .i64 x.serial, .int .i64 x.sf, .int .i64 x.st, sv x.sig] 30]) hst (by kernel_rfl) (by kernel_rfl) (by kernel_rfl) (by kernel_rfl) (by decide) (by decide) ?_ ?_ ?_ ?_ ?_ ?_
  ·intro i v E h
   match i, h with
   | 0, _ => exact by decide
   | 1, _ => exact by decide
   | 2, _ => exact by decide
   | 3, _ => exact by decide
   | 4, _ => exact by decide
   | i + 5, h => exact h.elim
  ·intro q v E hq h
   simp only [List.mem_cons, List.not_mem_nil, or_false] at hq
   rcases hq with rfl <;> exact h
  ·intro q hq
   simp only [List.mem_cons, List.not_mem_nil, or_false] at hq
   rcases hq with rfl <;> exact ⟨rfl, rfl⟩
  ·intro i hi hiq e
   match i, hi, hiq with
   | 0, _, _ =>
    intro w hst
    exact OpV.g (v_load_all (hst.get (k := 1) rfl) rfl (Tryz.isAgg30 _) (Tryz.sizeOf30 _))
   | 1, _, _ =>
    intro w hst
    exact OpV.g (v_load_all (hst.get (k := 1) rfl) rfl (Tryz.isAgg30 _) (Tryz.sizeOf30 _))
   | 2, _, _ =>
    intro w hst
    exact OpV.g (v_load_all (hst.get (k := 2) rfl) rfl (Tryz.isAgg30 _) (Tryz.sizeOf30 _))
   | 3, _, _ =>
    rintro _ _ ⟨rfl, rfl⟩ _ _ ⟨rfl, rfl⟩
    intro w hst
    exact OpV.g ((v_ne_agg rfl rfl (by kernel_rfl) (eqWsh x.signer x.holder x.rf x.rt x.carrier x.serial x.sf n x.sig x.signer x.holder x.rf x.rt x.carrier x.serial x.sf x.st x.sig _)).asb (b' := !(decide ((Wsh.mk x.signer x.holder x.rf x.rt x.carrier x.serial x.sf n x.sig) = x))) (by rfl))
   | 4, _, h => exact absurd (by decide) h
  ·intro q hq
   simp only [List.mem_cons, List.not_mem_nil, or_false] at hq
   rcases hq with rfl
   ·rintro _ _ ⟨rfl, rfl⟩
    intro w h
    exact r_storeU (cs := [.int .i64 0, .int .i64 0, .int .i64 0, .int .i64 0, .int .i64 0, .int .i64 0, .int .i64 0, .int .i64 0, .string (⟨#[]⟩)]) (ds := [.int .i64 x.signer, .int .i64 x.holder, .int .i64 x.rf, .int .i64 x.rt, .int .i64 x.carrier, .int .i64 x.serial, .int .i64 x.sf, .int .i64 n, sv x.sig]) rfl rfl h (Tryz.sizeOf30 _) rfl (Nat.le_of_ble_eq_true rfl) rfl
  clear hfr hst
  rintro _ _ ⟨rfl, rfl⟩ _ _ ⟨rfl, rfl⟩ _ _ ⟨rfl, rfl⟩ _ _ ⟨rfl, rfl⟩ a w29 hfr hst
  replace hfr : Fr 58 [(54, _), (55, _), (56, _), (57, _), (2, _), (3, _), (6, _), (7, _), (8, _), (49, _), (51, _), (52, _), (53, _)] [] a := hfr
  replace hst : St No w0 [blk w1.heap.size [.int .i64 x.signer, .int .i64 x.holder, .int .i64 x.rf, .int .i64 x.rt, .int .i64 x.carrier, .int .i64 x.serial, .int .i64 x.sf, .int .i64 n, sv x.sig] 30, blk w2.heap.size [.int .i64 x.signer, .int .i64 x.holder, .int .i64 x.rf, .int .i64 x.rt, .int .i64 x.carrier, .int .i64 x.serial, .int .i64 x.sf, .int .i64 n, sv x.sig] 30, blk w0.heap.size [.int .i64 x.signer, .int .i64 x.holder, .int .i64 x.rf, .int .i64 x.rt, .int .i64 x.carrier, .int .i64 x.serial, .int .i64 x.sf, .int .i64 x.st, sv x.sig] 30] w29 := hst
  refine wl_nil ?_
  refine wd_lin (k := 5) 6 [5] (by kernel_rfl) (by kernel_rfl) (by kernel_rfl) ?_
  refine wla hfr rfl fun a hfr => ?_
  refine wl_nil ?_
  refine wd_end (by kernel_rfl) ?_
  refine hK20 _ _ ?_
  replace hfr : Fr 58 [(6, _), (7, _)] [] a := hfr.pick [6, 7]
  replace hst : St No w0 [_] w29 := hst.mask [true, false, false]
  refine wc_ret ?_
  refine fin_ret hfr Tryz.results10 (resAre_cell rfl (res_all (hst.get (k := 0) rfl) (Tryz.isAgg30 _) (Tryz.sizeOf30 _)) (resAre_tmp rfl resAre_nil)) ?_
  have e : bentW x how n = Wsh.mk x.signer x.holder x.rf x.rt x.carrier x.serial x.sf n x.sig := by unfold bentW; simp [hc1, hc2, hc3, hc4, hc5, hc6, hc7, hc8]
  rw [e]
  exact ⟨rfl, hst.ext⟩
 rw [hc8] at hfr
 try simp only [qz] at hc8
 refine wc_region ?_
 refine wlv hfr (v_fieldAddr (v := .pointer (some ⟨w2.heap.size, 2, none⟩)) rfl (by kernel_rfl)) fun a hfr => ?_
 refine wlv hfr (v_fieldAddr (v := .pointer (some ⟨w2.heap.size, 3, none⟩)) rfl (by kernel_rfl)) fun a hfr => ?_
 refine wlv hfr (v_load_blk1 (hst.get (k := 0) rfl) rfl (Tryz.isAgg3 _) rfl) fun a hfr => ?_
 refine wlv hfr (v_add rfl rfl ⟨by omega, by omega⟩) fun a hfr => ?_
 refine wlv hfr (v_fieldAddr (v := .pointer (some ⟨w2.heap.size, 2, none⟩)) rfl (by kernel_rfl)) fun a hfr => ?_
 refine wlv hfr (v_fieldAddr (v := .pointer (some ⟨w2.heap.size, 3, none⟩)) rfl (by kernel_rfl)) fun a hfr => ?_
 refine wl_store 0 hfr hst rfl rfl rfl (Tryz.sizeOf3 _) rfl (Nat.le_of_ble_eq_true rfl) (ds := [.int .i64 x.signer, .int .i64 x.holder, .int .i64 x.rf, .int .i64 (x.rt + 1), .int .i64 x.carrier, .int .i64 x.serial, .int .i64 x.sf, .int .i64 x.st, sv x.sig]) rfl rfl ?_
 clear hfr hst
 intro a w30 hfr hst
 refine wl_nil ?_
 refine hK3 _ _ ?_
 replace hfr : Fr 58 [(3, _), (6, _), (7, _), (8, _)] [] a := hfr.pick [3, 6, 7, 8]
 refine wc_seq_k fun K21 hK21 => ?_
 refine wc_of_dr (by kernel_rfl) (dr_of_wd (by kernel_rfl) fun w31 hxz => ?_)
 replace hst := hst.grow hxz
 refine wd_sub (k := 0) 5 [3, 4] hfr (by kernel_rfl) (by kernel_rfl) (by kernel_rfl) (by rfl) ?_
 replace hfr : Fr 58 [(3, _), (6, _), (7, _), (8, _)] [] a := hfr.pick [3, 6, 7, 8]
 replace hst : St No w0 [blk w1.heap.size [.int .i64 0, .int .i64 0, .int .i64 0, .int .i64 0, .int .i64 0, .int .i64 0, .int .i64 0, .int .i64 0, .string (⟨#[]⟩)] 30, blk w2.heap.size [.int .i64 x.signer, .int .i64 x.holder, .int .i64 x.rf, .int .i64 (x.rt + 1), .int .i64 x.carrier, .int .i64 x.serial, .int .i64 x.sf, .int .i64 x.st, sv x.sig] 30, blk w0.heap.size [.int .i64 x.signer, .int .i64 x.holder, .int .i64 x.rf, .int .i64 x.rt, .int .i64 x.carrier, .int .i64 x.serial, .int .i64 x.sf, .int .i64 x.st, sv x.sig] 30] w31 := hst.select [1, 0, 2] (by decide)
 refine wc_phases_set [4] (fun q => if q = 4 then blk w1.heap.size [.int .i64 0, .int .i64 0, .int .i64 0, .int .i64 0, .int .i64 0, .int .i64 0, .int .i64 0, .int .i64 0, .string (⟨#[]⟩)] 30 else join []) (fun q => if q = 4 then blk w1.heap.size [.int .i64 x.signer, .int .i64 x.holder, .int .i64 x.rf, .int .i64 (x.rt + 1), .int .i64 x.carrier, .int .i64 x.serial, .int .i64 x.sf, .int .i64 x.st, sv x.sig] 30 else join []) 5 [[], [], [], [1, 2], [0]] (fun i => match i with | 0 => pv (.agg #[.int .i64 x.signer, .int .i64 x.holder, .int .i64 x.rf, .int .i64 (x.rt + 1), .int .i64 x.carrier, .int .i64 x.serial, .int .i64 x.sf, .int .i64 x.st, sv x.sig]) | 1 => pv (.agg #[.int .i64 x.signer, .int .i64 x.holder, .int .i64 x.rf, .int .i64 (x.rt + 1), .int .i64 x.carrier, .int .i64 x.serial, .int .i64 x.sf, .int .i64 x.st, sv x.sig]) | 2 => pv (.agg #[.int .i64 x.signer, .int .i64 x.holder, .int .i64 x.rf, .int .i64 x.rt, .int .i64 x.carrier, .int .i64 x.serial, .int .i64 x.sf, .int .i64 x.st, sv x.sig]) | 3 => pv (.bool (!(decide ((Wsh.mk x.signer x.holder x.rf (x.rt + 1) x.carrier x.serial x.sf x.st x.sig) = x)))) | 4 => fun v E => v = undef ∧ E = [] | _ => fun _ _ => False) (by intro q; by_cases h4 : q = 4; (subst h4; rfl); simp only [h4, if_false]) hfr (H := [blk w2.heap.size [.int .i64 x.signer, .int .i64 x.holder, .int .i64 x.rf, .int .i64 (x.rt + 1), .int .i64 x.carrier, .int .i64 x.serial, .int .i64 x.sf, .int .i64 x.st, sv x.sig] 30, blk w0.heap.size [.int .i64 x.signer, .int .i64 x.holder, .int .i64 x.rf, .int .i64 x.rt, .int .i64 x.carrier, .int .i64 x.serial, .int .i64 x.sf, .int .i64 x.st, sv x.sig] 30]) hst (by kernel_rfl) (by kernel_rfl) (by kernel_rfl) (by kernel_rfl) (by decide) (by decide) ?_ ?_ ?_ ?_ ?_ ?_
 ·intro i v E h
  match i, h with
  | 0, _ => exact by decide
  | 1, _ => exact by decide
  | 2, _ => exact by decide
  | 3, _ => exact by decide
  | 4, _ => exact by decide
  | i + 5, h => exact h.elim
 ·intro q v E hq h
  simp only [List.mem_cons, List.not_mem_nil, or_false] at hq
  rcases hq with rfl <;> exact h
 ·intro q hq
  simp only [List.mem_cons, List.not_mem_nil, or_false] at hq
  rcases hq with rfl <;> exact ⟨rfl, rfl⟩
 ·intro i hi hiq e
  match i, hi, hiq with
  | 0, _, _ =>
   intro w hst
   exact OpV.g (v_load_all (hst.get (k := 1) rfl) rfl (Tryz.isAgg30 _) (Tryz.sizeOf30 _))
  | 1, _, _ =>
   intro w hst
   exact OpV.g (v_load_all (hst.get (k := 1) rfl) rfl (Tryz.isAgg30 _) (Tryz.sizeOf30 _))
  | 2, _, _ =>
   intro w hst
   exact OpV.g (v_load_all (hst.get (k := 2) rfl) rfl (Tryz.isAgg30 _) (Tryz.sizeOf30 _))
  | 3, _, _ =>
   rintro _ _ ⟨rfl, rfl⟩ _ _ ⟨rfl, rfl⟩
   intro w hst
   exact OpV.g ((v_ne_agg rfl rfl (by kernel_rfl) (eqWsh x.signer x.holder x.rf (x.rt + 1) x.carrier x.serial x.sf x.st x.sig x.signer x.holder x.rf x.rt x.carrier x.serial x.sf x.st x.sig _)).asb (b' := !(decide ((Wsh.mk x.signer x.holder x.rf (x.rt + 1) x.carrier x.serial x.sf x.st x.sig) = x))) (by rfl))
  | 4, _, h => exact absurd (by decide) h
 ·intro q hq
  simp only [List.mem_cons, List.not_mem_nil, or_false] at hq
  rcases hq with rfl
  ·rintro _ _ ⟨rfl, rfl⟩
   intro w h
   exact r_storeU (cs := [.int .i64 0, .int .i64 0, .int .i64 0, .int .i64 0, .int .i64 0, .int .i64 0, .int .i64 0, .int .i64 0, .string (⟨#[]⟩)]) (ds := [.int .i64 x.signer, .int .i64 x.holder, .int .i64 x.rf, .int .i64 (x.rt + 1), .int .i64 x.carrier, .int .i64 x.serial, .int .i64 x.sf, .int .i64 x.st, sv x.sig]) rfl rfl h (Tryz.sizeOf30 _) rfl (Nat.le_of_ble_eq_true rfl) rfl
 clear hfr hst
 rintro _ _ ⟨rfl, rfl⟩ _ _ ⟨rfl, rfl⟩ _ _ ⟨rfl, rfl⟩ _ _ ⟨rfl, rfl⟩ a w32 hfr hst
 replace hfr : Fr 58 [(54, _), (55, _), (56, _), (57, _), (3, _), (6, _), (7, _), (8, _)] [] a := hfr
 replace hst : St No w0 [blk w1.heap.size [.int .i64 x.signer, .int .i64 x.holder, .int .i64 x.rf, .int .i64 (x.rt + 1), .int .i64 x.carrier, .int .i64 x.serial, .int .i64 x.sf, .int .i64 x.st, sv x.sig] 30, blk w2.heap.size [.int .i64 x.signer, .int .i64 x.holder, .int .i64 x.rf, .int .i64 (x.rt + 1), .int .i64 x.carrier, .int .i64 x.serial, .int .i64 x.sf, .int .i64 x.st, sv x.sig] 30, blk w0.heap.size [.int .i64 x.signer, .int .i64 x.holder, .int .i64 x.rf, .int .i64 x.rt, .int .i64 x.carrier, .int .i64 x.serial, .int .i64 x.sf, .int .i64 x.st, sv x.sig] 30] w32 := hst
 refine wl_nil ?_
 refine wd_lin (k := 5) 6 [5] (by kernel_rfl) (by kernel_rfl) (by kernel_rfl) ?_
 refine wla hfr rfl fun a hfr => ?_
 refine wl_nil ?_
 refine wd_end (by kernel_rfl) ?_
 refine hK21 _ _ ?_
 replace hfr : Fr 58 [(6, _), (7, _)] [] a := hfr.pick [6, 7]
 replace hst : St No w0 [_] w32 := hst.mask [true, false, false]
 refine wc_ret ?_
 refine fin_ret hfr Tryz.results10 (resAre_cell rfl (res_all (hst.get (k := 0) rfl) (Tryz.isAgg30 _) (Tryz.sizeOf30 _)) (resAre_tmp rfl resAre_nil)) ?_
 have e : bentW x how n = Wsh.mk x.signer x.holder x.rf (x.rt + 1) x.carrier x.serial x.sf x.st x.sig := by unfold bentW; simp [hc1, hc2, hc3, hc4, hc5, hc6, hc7, hc8]
 rw [e]
 exact ⟨rfl, hst.ext⟩
def hashedH (key s : By) : List By := [[0] ++ s, [1] ++ key ++ leafH sha s]
/-- dialtone/dialtoneref15.Hashed -/
theorem hashed_ok (key s : By) (w0 : World) (hk : key.length ≤ 30000000) (hs : s.length ≤ 30000000) :
  Ret Tryz.prog 36 #[sv key, sv s] w0 (MemR w0 (fun v : Value => v) (fun v => [own v 9 1 ((hashedH key s).map fun s => [sv s])]) (fun _ => True)) := by
 refine ret_of Tryz.func36 rfl Tryz.ntmps36 (Nat.le_of_ble_eq_true rfl) fun a hfr => ?_
 replace hfr : Fr 13 [(0, _), (1, _)] [] a := hfr
 replace hst : St No w0 [] w0 := St.init w0
 refine wc_seq_region fun K1 hK1 => ?_
 refine wla hfr rfl fun a hfr => ?_
 refine wl_nil (hK1 _ _ ?_)
 refine wc_seq_region fun K2 hK2 => ?_
 refine wlm hfr rfl fun a hfr => ?_
 refine wlv hfr (v_sadd rfl rfl (by (simp only [List.length_append, List.length_cons, List.length_nil, leaf_len sha_len]); omega)) fun a hfr => ?_
 refine wlm hfr rfl fun a hfr => ?_
 refine wlv hfr (v_sadd rfl rfl (by (simp only [List.length_append, List.length_cons, List.length_nil, leaf_len sha_len]); omega)) fun a hfr => ?_
 refine wlm hfr rfl fun a hfr => ?_
 refine wl_callp hfr hst (by decide) Tryz.call92 rfl (rleaf_ok s _ (by omega)) ?_
 clear hfr hst
 intro a w1 hfr hst
 refine wlv hfr (v_sadd rfl rfl (by (simp only [List.length_append, List.length_cons, List.length_nil, leaf_len sha_len]); omega)) fun a hfr => ?_
 refine wl_buildSlice (E := 9) (sz := 1) rfl [[sv (([0]) ++ s)], [sv ((([1]) ++ key) ++ (leafH sha s))]] (by kernel_rfl) (by simp) rfl (by decide) (by decide) hfr hst ?_
 clear hfr hst
 intro a w2 hfr hst
 refine wla hfr rfl fun a hfr => ?_
 refine wl_nil (hK2 _ _ ?_)
 replace hfr : Fr 13 [(4, _)] [] a := hfr.pick [4]
 refine wc_ret ?_
 refine fin_ret hfr Tryz.results36 (resAre_tmp rfl resAre_nil) ?_
 exact ⟨(.slice (some ⟨w1.heap.size, 0, none⟩) 2 2), rfl, trivial, hst.ext, St.out (E := [own (.slice (some ⟨w1.heap.size, 0, none⟩) 2 2) 9 1 ((hashedH key s).map fun s => [sv s])]) (H := []) hst⟩
def collB (s t : By) : Bool := !decide (s = t) && decide (sha s = sha t)
def collH (xs ys : List By) : Bool := xs.any fun s => ys.any fun t => collB s t
theorem coll_true {xs ys : List By} {i j : Nat} (hi : i < xs.length) (hj : j < ys.length) (h : collB (xs.getD i []) (ys.getD j []) = true) : collH xs ys = true :=
 List.any_eq_true.2 ⟨_, getD_mem hi, List.any_eq_true.2 ⟨_, getD_mem hj, h⟩⟩
theorem coll_false {xs ys : List By} (h : ∀ i, i < xs.length → ∀ j, j < ys.length → collB (xs.getD i []) (ys.getD j []) = false) : collH xs ys = false := by
 rw [Bool.eq_false_iff]
 intro hc
 obtain ⟨s, hs, h2⟩ := List.any_eq_true.1 hc
 obtain ⟨t, ht, h3⟩ := List.any_eq_true.1 h2
 obtain ⟨i, hi, rfl⟩ := List.getElem_of_mem hs
 obtain ⟨j, hj, rfl⟩ := List.getElem_of_mem ht
 have := h i hi j hj
 rw [List.getD_eq_getElem?_getD, List.getD_eq_getElem?_getD, List.getElem?_eq_getElem hi, List.getElem?_eq_getElem hj] at this
 simp only [Option.getD_some] at this
 rw [this] at h3; cases h3
theorem sums_at {ys : List By} {j : Nat} (h : j < ys.length) : (ys.map sha).getD j [] = sha (ys.getD j []) := by
 rw [List.getD_eq_getElem?_getD, List.getElem?_map, List.getElem?_eq_getElem h, List.getD_eq_getElem?_getD, List.getElem?_eq_getElem h]; rfl
set_option maxHeartbeats 4000000 in
/-- dialtone/dialtoneref02.Collided -/
theorem collided_ok (av bv : Value) (xs ys : List By) (w0 : World) (hav : SlAt w0 av 1 ((xs).map fun s => [sv s])) (hbv : SlAt w0 bv 1 ((ys).map fun s => [sv s])) (hxs : ∀ s ∈ xs, s.length ≤ 100000000) (hys : ∀ s ∈ ys, s.length ≤ 100000000) (hyn : ys.length ≤ 1000) :
  Ret Tryz.prog 35 #[av, bv] w0 fun v w => v = .bool (collH xs ys) ∧ Ext No w0 w := by
 have hxb := hav.2.1
 simp only [List.length_map, big] at hxb
 refine ret_of Tryz.func35 rfl Tryz.ntmps35 (Nat.le_of_ble_eq_true rfl) fun a hfr => ?_
 replace hfr : Fr 58 [(0, _), (1, _)] [] a := hfr
 replace hst : St No w0 [] w0 := St.init w0
 refine wc_seq_region fun K1 hK1 => ?_
 refine wla hfr rfl fun a hfr => ?_
 refine wl_nil (hK1 _ _ ?_)
 refine wc_seq_region fun K2 hK2 => ?_
 refine wla hfr rfl fun a hfr => ?_
 refine wl_nil (hK2 _ _ ?_)
 refine wc_seq_k fun K3 hK3 => ?_
 refine wc_seq_region fun K4 hK4 => ?_
 refine wla hfr rfl fun a hfr => ?_
 refine wl_nil (hK4 _ _ ?_)
 refine wc_block ?_
 replace hst : St No w0 [own (.slice none 0 0) 9 1 (((ys.take 0).map sha).map fun s => [sv s])] w0 := hst.nil_own
 refine wc_loop (fun m a w => ∃ (k : Nat) (vs : Value), m = ys.length - k ∧ (k ≤ ys.length) ∧ Fr 58 [(0, av), (1, bv), (4, .bool false), (5, vs), (6, .int .i64 (k : Int))] [] a ∧ St No w0 [own vs 9 1 (((ys.take k).map sha).map fun s => [sv s])] w) _ ⟨0, .slice none 0 0, rfl, Nat.zero_le _, hfr.pick [0, 1, 4, 5, 6], hst.select [0] (by decide)⟩ ?_
 rintro _ a w1 ⟨k, vs, rfl, hk, hfr, hst⟩
 refine wc_seq_k fun K5 hK5 => ?_
 refine wc_seq_region fun K6 hK6 => ?_
 refine wlm hfr rfl fun a hfr => ?_
 refine wlm hfr rfl fun a hfr => ?_
 refine wlv hfr ((v_len_sl (sT := 32) (hst.arg hbv) rfl rfl (Tryz.runUnderlying32 _)).asi (m' := (ys.length : Int)) (by rw [List.length_map])) fun a hfr => ?_
 refine wlv hfr (v_lt rfl rfl) fun a hfr => ?_
 refine wl_nil (hK6 _ _ ?_)
 refine wc_cond hfr rfl (fun hc1 => ?_) (fun hc1 => ?_)
 ·rw [hc1] at hfr
  try simp only [qz, Bool.and_eq_true, Bool.or_eq_true, Bool.and_eq_false_iff, Bool.or_eq_false_iff] at hc1
  refine wc_skip ?_
  refine hK5 _ _ ?_
  refine wc_seq_k fun K7 hK7 => ?_
  refine wc_block ?_
  refine wc_region ?_
  refine wlm hfr rfl fun a hfr => ?_
  refine wlm hfr rfl fun a hfr => ?_
  refine wlm hfr rfl fun a hfr => ?_
  refine wlv hfr ((v_indexAddr_sl (i := (k : Int)) (sT := 32) (hst.arg hbv) rfl rfl (Tryz.runUnderlying32 _) (Tryz.sizeOf9 _) (by omega) (by first | (rw [List.length_map]; omega) | (rw [List.length_map, List.length_map]; omega))).as (v' := slAddr bv (k * 1)) rfl) fun a hfr => ?_
  refine wlv hfr (v_load_sl1 (u := sv (ys.getD k [])) (i := k) (j := 0) (hst.arg hbv) (by first | (rw [List.length_map]; omega) | (rw [List.length_map, List.length_map]; omega)) rfl (Tryz.isAgg9 _) (by rw [el_at []]; rfl)) fun a hfr => ?_
  refine wl_callp hfr hst (by decide) Tryz.call91 rfl (rsum_ok (ys.getD k []) _ (by first | exact hxs _ (getD_mem (by omega)) | exact hys _ (getD_mem (by omega)))) ?_
  clear hfr hst
  intro a w2 hfr hst
  refine wl_buildSlice (E := 9) (sz := 1) rfl [[sv (sha (ys.getD k []))]] (by kernel_rfl) (by simp) rfl (by decide) (by decide) hfr hst ?_
  clear hfr hst
  intro a w3 hfr hst
  refine wl_append (i := 1) (sT := 32) (inf := Tryz.t9) (z := .string (⟨#[]⟩)) (b := 0) (off := 0) (m := 0) (c := 0) rfl rfl rfl (hst.ownAt (i := 0) rfl) (by simp) Tryz.underlying32 rfl rfl rfl rfl (by decide) (by simp [Value.oneCell', yv, wv, sv]) (by have hby : Tryz.t9.bytes = 16 := rfl; simp [big, hby] <;> omega) (by have hby : Tryz.t9.bytes = 16 := rfl; simp [big, hby] <;> omega) (by decide) hfr hst fun a w4 s2 hfr hst _ => ?_
  rw [show (((ys.take k).map sha).map fun s => [sv s]) ++ ([[sv (sha (ys.getD k []))]]) = (((ys.take (k + 1)).map sha).map fun s => [sv s]) from by rw [take_snoc [] (by omega)]; simp] at hst
  refine wla hfr rfl fun a hfr => ?_
  refine wl_nil ?_
  refine hK7 _ _ ?_
  replace hfr : Fr 58 [(0, _), (1, _), (4, _), (6, _), (5, _)] [] a := hfr.pick [0, 1, 4, 6, 5]
  replace hst : St No w0 [_] w4 := hst.mask [false, true]
  refine wc_region ?_
  refine wlm hfr rfl fun a hfr => ?_
  refine wlv hfr (v_add rfl rfl ⟨by omega, by omega⟩) fun a hfr => ?_
  refine wla hfr rfl fun a hfr => ?_
  refine wl_nil ?_
  refine ⟨_, ?_, k + 1, s2, rfl, (by omega), hfr.pick [0, 1, 4, 5, 6], hst.select [0] (by decide)⟩
  omega
 rw [hc1] at hfr
 try simp only [qz, Bool.and_eq_true, Bool.or_eq_true, Bool.and_eq_false_iff, Bool.or_eq_false_iff] at hc1
 obtain rfl : k = ys.length := by omega
 rw [List.take_length] at hst
 refine wc_exit ?_
 refine hK3 _ _ ?_
 refine wc_seq_k fun K8 hK8 => ?_
 refine wc_seq_region fun K9 hK9 => ?_
 refine wla hfr rfl fun a hfr => ?_
 refine wl_nil (hK9 _ _ ?_)
 refine wc_block ?_
 refine wc_loop (fun m a w => ∃ (x : Nat), m = xs.length - x ∧ (x ≤ xs.length) ∧ (∀ i, i < x → ∀ j, j < ys.length → collB (xs.getD i []) (ys.getD j []) = false) ∧ Fr 58 [(0, av), (1, bv), (5, vs), (7, .int .i64 (x : Int))] [] a ∧ St No w0 [own vs 9 1 ((ys.map sha).map fun s => [sv s])] w) _ ⟨0, rfl, Nat.zero_le _, (fun i h => absurd h (Nat.not_lt_zero _)), hfr.pick [0, 1, 5, 7], hst.select [0] (by decide)⟩ ?_
 rintro _ a w5 ⟨x, rfl, hx, hno, hfr, hst⟩
 refine wc_seq_k fun K10 hK10 => ?_
 refine wc_seq_region fun K11 hK11 => ?_
 refine wlm hfr rfl fun a hfr => ?_
 refine wlm hfr rfl fun a hfr => ?_
 refine wlv hfr ((v_len_sl (sT := 32) (hst.arg hav) rfl rfl (Tryz.runUnderlying32 _)).asi (m' := (xs.length : Int)) (by rw [List.length_map])) fun a hfr => ?_
 refine wlv hfr (v_lt rfl rfl) fun a hfr => ?_
 refine wl_nil (hK11 _ _ ?_)
 refine wc_cond hfr rfl (fun hc3 => ?_) (fun hc3 => ?_)
 ·rw [hc3] at hfr
  try simp only [qz, Bool.and_eq_true, Bool.or_eq_true, Bool.and_eq_false_iff, Bool.or_eq_false_iff] at hc3
  have hxl : x < xs.length := by omega
  refine wc_skip ?_
  refine hK10 _ _ ?_
  refine wc_seq_k fun K12 hK12 => ?_
  refine wc_block ?_
  refine wc_seq_region fun K13 hK13 => ?_
  refine wlm hfr rfl fun a hfr => ?_
  refine wlm hfr rfl fun a hfr => ?_
  refine wlv hfr ((v_indexAddr_sl (i := (x : Int)) (sT := 32) (hst.arg hav) rfl rfl (Tryz.runUnderlying32 _) (Tryz.sizeOf9 _) (by omega) (by first | (rw [List.length_map]; omega) | (rw [List.length_map, List.length_map]; omega))).as (v' := slAddr av (x * 1)) rfl) fun a hfr => ?_
  refine wlv hfr (v_load_sl1 (u := sv (xs.getD x [])) (i := x) (j := 0) (hst.arg hav) (by first | (rw [List.length_map]; omega) | (rw [List.length_map, List.length_map]; omega)) rfl (Tryz.isAgg9 _) (by rw [el_at []]; rfl)) fun a hfr => ?_
  refine wl_callp hfr hst (by decide) Tryz.call91 rfl (rsum_ok (xs.getD x []) _ (by first | exact hxs _ (getD_mem (by omega)) | exact hys _ (getD_mem (by omega)))) ?_
  clear hfr hst
  intro a w6 hfr hst
  refine wla hfr rfl fun a hfr => ?_
  refine wl_nil (hK13 _ _ ?_)
  replace hfr : Fr 58 [(0, _), (1, _), (5, _), (7, _), (8, _)] [] a := hfr.pick [0, 1, 5, 7, 8]
  refine wc_seq_region fun K14 hK14 => ?_
  refine wla hfr rfl fun a hfr => ?_
  refine wl_nil (hK14 _ _ ?_)
  refine wc_block ?_
  refine wc_loop (fun m a w => ∃ (y : Nat), m = ys.length - y ∧ (y ≤ ys.length) ∧ (∀ j, j < y → collB (xs.getD x []) (ys.getD j []) = false) ∧ Fr 58 [(0, av), (1, bv), (5, vs), (7, .int .i64 (x : Int)), (8, sv (sha (xs.getD x []))), (9, .int .i64 (y : Int))] [] a ∧ St No w0 [own vs 9 1 ((ys.map sha).map fun s => [sv s])] w) _ ⟨0, rfl, Nat.zero_le _, (fun i h => absurd h (Nat.not_lt_zero _)), hfr.pick [0, 1, 5, 7, 8, 9], hst.select [0] (by decide)⟩ ?_
  rintro _ a w7 ⟨y, rfl, hy, hno2, hfr, hst⟩
  refine wc_seq_k fun K15 hK15 => ?_
  refine wc_seq_region fun K16 hK16 => ?_
  refine wlm hfr rfl fun a hfr => ?_
  refine wlm hfr rfl fun a hfr => ?_
  refine wlv hfr ((v_len_sl (sT := 32) (hst.arg hbv) rfl rfl (Tryz.runUnderlying32 _)).asi (m' := (ys.length : Int)) (by rw [List.length_map])) fun a hfr => ?_
  refine wlv hfr (v_lt rfl rfl) fun a hfr => ?_
  refine wl_nil (hK16 _ _ ?_)
  refine wc_cond hfr rfl (fun hc4 => ?_) (fun hc4 => ?_)
  ·rw [hc4] at hfr
   try simp only [qz, Bool.and_eq_true, Bool.or_eq_true, Bool.and_eq_false_iff, Bool.or_eq_false_iff] at hc4
   have hyl : y < ys.length := by omega
   refine wc_skip ?_
   refine hK15 _ _ ?_
   refine wc_seq_k fun K17 hK17 => ?_
   refine wc_block ?_
   refine wc_seq_k fun K18 hK18 => ?_
   refine wc_of_dr (by kernel_rfl) (dr_of_wd (by kernel_rfl) fun w8 hxz => ?_)
   replace hst := hst.grow hxz
   refine wd_sub (k := 0) 8 [3, 7] hfr (by kernel_rfl) (by kernel_rfl) (by kernel_rfl) (by rfl) ?_
   replace hfr : Fr 58 [(0, _), (1, _), (5, _), (7, _), (8, _), (9, _), (35, _), (36, _), (37, _), (38, _)] [] a := hfr.pick [0, 1, 5, 7, 8, 9, 35, 36, 37, 38]
   refine wc_phases_q [] (fun i => match i with | _ => fun _ _ => False) 8 [[], [], [0, 1], [2], [], [], [4, 5], [6]] [av, .int .i64 (x : Int), slAddr av (x * 1), sv (xs.getD x []), bv, .int .i64 (y : Int), slAddr bv (y * 1), sv (ys.getD y [])] hfr hst (by kernel_rfl) (by kernel_rfl) (by kernel_rfl) ?_ ?_ ?_
   ·intro i hi hiq
    match i, hi, hiq with
    | 0, _, _ =>
     intro w hst
     exact OpV.g (v_move rfl)
    | 1, _, _ =>
     intro w hst
     exact OpV.g (v_move rfl)
    | 2, _, _ =>
     intro w hst
     exact OpV.g ((v_indexAddr_sl (i := (x : Int)) (sT := 32) (hst.arg hav) rfl rfl (Tryz.runUnderlying32 _) (Tryz.sizeOf9 _) (by omega) (by first | (rw [List.length_map]; omega) | (rw [List.length_map, List.length_map]; omega))).as (v' := slAddr av (x * 1)) rfl)
    | 3, _, _ =>
     intro w hst
     exact OpV.g (v_load_sl1 (u := sv (xs.getD x [])) (i := x) (j := 0) (hst.arg hav) (by first | (rw [List.length_map]; omega) | (rw [List.length_map, List.length_map]; omega)) rfl (Tryz.isAgg9 _) (by rw [el_at []]; rfl))
    | 4, _, _ =>
     intro w hst
     exact OpV.g (v_move rfl)
    | 5, _, _ =>
     intro w hst
     exact OpV.g (v_move rfl)
    | 6, _, _ =>
     intro w hst
     exact OpV.g ((v_indexAddr_sl (i := (y : Int)) (sT := 32) (hst.arg hbv) rfl rfl (Tryz.runUnderlying32 _) (Tryz.sizeOf9 _) (by omega) (by first | (rw [List.length_map]; omega) | (rw [List.length_map, List.length_map]; omega))).as (v' := slAddr bv (y * 1)) rfl)
    | 7, _, _ =>
     intro w hst
     exact OpV.g (v_load_sl1 (u := sv (ys.getD y [])) (i := y) (j := 0) (hst.arg hbv) (by first | (rw [List.length_map]; omega) | (rw [List.length_map, List.length_map]; omega)) rfl (Tryz.isAgg9 _) (by rw [el_at []]; rfl))
   ·intro i hi
    exact absurd hi (by simp)
   clear hfr hst
   intro  a w9 hfr hst
   replace hfr : Fr 58 [(41, av), (42, .int .i64 (x : Int)), (43, slAddr av (x * 1)), (44, sv (xs.getD x [])), (45, bv), (46, .int .i64 (y : Int)), (47, slAddr bv (y * 1)), (48, sv (ys.getD y [])), (0, _), (1, _), (5, _), (7, _), (8, _), (9, _), (35, _), (36, _), (37, _), (38, _)] [] a := hfr
   refine wl_nil ?_
   refine wd_lin (k := 8) 10 [9] (by kernel_rfl) (by kernel_rfl) (by kernel_rfl) ?_
   refine wlv hfr (v_sne rfl rfl) fun a hfr => ?_
   refine wlm hfr rfl fun a hfr => ?_
   refine wl_nil ?_
   rcases Bool.eq_false_or_eq_true (!decide (xs.getD x [] = ys.getD y [])) with hb5 | hb5
   ·rw [hb5] at hfr
    try simp only [qz] at hb5
    refine wd_sub (k := 10) 15 [10, 14] hfr (by kernel_rfl) (by kernel_rfl) (by kernel_rfl) (by rfl) ?_
    replace hfr : Fr 58 [(0, _), (1, _), (5, _), (7, _), (8, _), (9, _), (35, _), (36, _), (37, _), (38, _), (41, _), (42, _), (43, _), (44, _), (45, _), (46, _), (47, _), (48, _), (49, _), (50, _)] [] a := hfr.pick [0, 1, 5, 7, 8, 9, 35, 36, 37, 38, 41, 42, 43, 44, 45, 46, 47, 48, 49, 50]
    refine wc_phases_q [] (fun i => match i with | _ => fun _ _ => False) 5 [[], [], [], [1, 2], [3]] [sv (sha (xs.getD x [])), vs, .int .i64 (y : Int), slAddr vs (y * 1), sv (sha (ys.getD y []))] hfr hst (by kernel_rfl) (by kernel_rfl) (by kernel_rfl) ?_ ?_ ?_
    ·intro i hi hiq
     match i, hi, hiq with
     | 0, _, _ =>
      intro w hst
      exact OpV.g (v_move rfl)
     | 1, _, _ =>
      intro w hst
      exact OpV.g (v_move rfl)
     | 2, _, _ =>
      intro w hst
      exact OpV.g (v_move rfl)
     | 3, _, _ =>
      intro w hst
      exact OpV.g ((v_indexAddr_sl (i := (y : Int)) (sT := 32) (hst.ownAt (i := 0) rfl) rfl rfl (Tryz.runUnderlying32 _) (Tryz.sizeOf9 _) (by omega) (by first | (rw [List.length_map]; omega) | (rw [List.length_map, List.length_map]; omega))).as (v' := slAddr vs (y * 1)) rfl)
     | 4, _, _ =>
      intro w hst
      exact OpV.g (v_load_sl1 (u := sv (sha (ys.getD y []))) (i := y) (j := 0) (hst.ownAt (i := 0) rfl) (by first | (rw [List.length_map]; omega) | (rw [List.length_map, List.length_map]; omega)) rfl (Tryz.isAgg9 _) (by rw [el_at [], sums_at (by omega)]; rfl))
    ·intro i hi
     exact absurd hi (by simp)
    clear hfr hst
    intro  a w10 hfr hst
    replace hfr : Fr 58 [(51, sv (sha (xs.getD x []))), (52, vs), (53, .int .i64 (y : Int)), (54, slAddr vs (y * 1)), (55, sv (sha (ys.getD y []))), (0, _), (1, _), (5, _), (7, _), (8, _), (9, _), (35, _), (36, _), (37, _), (38, _), (41, _), (42, _), (43, _), (44, _), (45, _), (46, _), (47, _), (48, _), (49, _), (50, _)] [] a := hfr
    refine wl_nil ?_
    refine wd_lin (k := 15) 17 [16] (by kernel_rfl) (by kernel_rfl) (by kernel_rfl) ?_
    refine wly hfr (v_seq rfl rfl) fun a hfr => ?_
    refine wlv hfr (v_pick_t rfl rfl) fun a hfr => ?_
    refine wl_nil ?_
    refine wd_end (by kernel_rfl) ?_
    refine hK18 _ _ ?_
    replace hfr : Fr 58 [(0, _), (1, _), (5, _), (7, _), (8, _), (9, _), (57, _)] [] a := hfr.pick [0, 1, 5, 7, 8, 9, 57]
    refine wc_cond hfr rfl (fun hc6 => ?_) (fun hc6 => ?_)
    ·rw [hc6] at hfr
     try simp only [qz, Bool.and_eq_true, Bool.or_eq_true, Bool.and_eq_false_iff, Bool.or_eq_false_iff] at hc6
     refine wc_seq_region fun K19 hK19 => ?_
     refine wla hfr rfl fun a hfr => ?_
     refine wl_nil (hK19 _ _ ?_)
     refine wc_ret ?_
     refine fin_ret hfr Tryz.results35 (resAre_tmp rfl resAre_nil) ?_
     exact ⟨by simp only [retv]; congr 1; exact (coll_true hxl hyl (by unfold collB; simp [-List.getD_eq_getElem?_getD, hb5, hc6])).symm, hst.ext⟩
    rw [hc6] at hfr
    try simp only [qz, Bool.and_eq_true, Bool.or_eq_true, Bool.and_eq_false_iff, Bool.or_eq_false_iff] at hc6
    refine wc_skip ?_
    refine hK17 _ _ ?_
    refine wc_region ?_
    refine wlm hfr rfl fun a hfr => ?_
    refine wlv hfr (v_add rfl rfl ⟨by omega, by omega⟩) fun a hfr => ?_
    refine wla hfr rfl fun a hfr => ?_
    refine wl_nil ?_
    refine ⟨_, ?_, y + 1, rfl, (by omega), (fun j h => by rcases Nat.lt_succ_iff_lt_or_eq.1 h with h | rfl; exact hno2 j h; unfold collB; simp [-List.getD_eq_getElem?_getD, hc6]), hfr.pick [0, 1, 5, 7, 8, 9], hst.select [0] (by decide)⟩
    omega
   rw [hb5] at hfr
   try simp only [qz] at hb5
   replace hfr : Fr 58 [(0, av), (1, bv), (5, vs), (7, .int .i64 (x : Int)), (8, sv (sha (xs.getD x []))), (9, .int .i64 (y : Int)), (35, .int .i64 (y : Int)), (36, bv), (37, .int .i64 (ys.length : Int)), (38, .bool true), (41, av), (42, .int .i64 (x : Int)), (43, slAddr av (x * 1)), (44, sv (xs.getD x [])), (45, bv), (46, .int .i64 (y : Int)), (47, slAddr bv (y * 1)), (48, sv (ys.getD y [])), (49, .bool false), (50, .bool false)] [] a := hfr.pick [0, 1, 5, 7, 8, 9, 35, 36, 37, 38, 41, 42, 43, 44, 45, 46, 47, 48, 49, 50]
   refine wd_skip (k := 10) 15 [10, 14] hfr (by kernel_rfl) (by kernel_rfl) (by kernel_rfl) (by rfl) fun a hfr => ?_
   replace hfr : Fr 58 [(51, undef), (52, undef), (53, undef), (54, undef), (55, undef), (0, av), (1, bv), (5, vs), (7, .int .i64 (x : Int)), (8, sv (sha (xs.getD x []))), (9, .int .i64 (y : Int)), (35, .int .i64 (y : Int)), (36, bv), (37, .int .i64 (ys.length : Int)), (38, .bool true), (41, av), (42, .int .i64 (x : Int)), (43, slAddr av (x * 1)), (44, sv (xs.getD x [])), (45, bv), (46, .int .i64 (y : Int)), (47, slAddr bv (y * 1)), (48, sv (ys.getD y [])), (49, .bool false), (50, .bool false)] [] a := hfr
   refine wd_lin (k := 15) 17 [16] (by kernel_rfl) (by kernel_rfl) (by kernel_rfl) ?_
   refine wln hfr fun a hfr => ?_
   refine wlv hfr (v_pick_f rfl rfl) fun a hfr => ?_
   refine wl_nil ?_
   refine wd_end (by kernel_rfl) ?_
   refine hK18 _ _ ?_
   replace hfr : Fr 58 [(0, _), (1, _), (5, _), (7, _), (8, _), (9, _), (57, _)] [] a := hfr.pick [0, 1, 5, 7, 8, 9, 57]
   refine wc_cond_f hfr rfl ?_
   refine wc_skip ?_
   refine hK17 _ _ ?_
   refine wc_region ?_
   refine wlm hfr rfl fun a hfr => ?_
   refine wlv hfr (v_add rfl rfl ⟨by omega, by omega⟩) fun a hfr => ?_
   refine wla hfr rfl fun a hfr => ?_
   refine wl_nil ?_
   refine ⟨_, ?_, y + 1, rfl, (by omega), (fun j h => by rcases Nat.lt_succ_iff_lt_or_eq.1 h with h | rfl; exact hno2 j h; unfold collB; simp [-List.getD_eq_getElem?_getD, hb5]), hfr.pick [0, 1, 5, 7, 8, 9], hst.select [0] (by decide)⟩
   omega
  rw [hc4] at hfr
  try simp only [qz, Bool.and_eq_true, Bool.or_eq_true, Bool.and_eq_false_iff, Bool.or_eq_false_iff] at hc4
  refine wc_exit ?_
  refine hK12 _ _ ?_
  refine wc_region ?_
  refine wlm hfr rfl fun a hfr => ?_
  refine wlv hfr (v_add rfl rfl ⟨by omega, by omega⟩) fun a hfr => ?_
  refine wla hfr rfl fun a hfr => ?_
  refine wl_nil ?_
  refine ⟨_, ?_, x + 1, rfl, (by omega), (fun i h => by rcases Nat.lt_succ_iff_lt_or_eq.1 h with h | rfl; exact hno i h; exact fun j hj => hno2 j (by omega)), hfr.pick [0, 1, 5, 7], hst.select [0] (by decide)⟩
  omega
 rw [hc3] at hfr
 try simp only [qz, Bool.and_eq_true, Bool.or_eq_true, Bool.and_eq_false_iff, Bool.or_eq_false_iff] at hc3
 refine wc_exit ?_
 refine hK8 _ _ ?_
 refine wc_seq_region fun K20 hK20 => ?_
 refine wla hfr rfl fun a hfr => ?_
 refine wl_nil (hK20 _ _ ?_)
 replace hfr : Fr 58 [(4, _)] [] a := hfr.pick [4]
 refine wc_ret ?_
 refine fin_ret hfr Tryz.results35 (resAre_tmp rfl resAre_nil) ?_
 exact ⟨by simp only [retv]; congr 1; exact (coll_false fun i h => hno i (by omega)).symm, hst.ext⟩
end Go.Proofs.YtmmfieceinmloaaGreatDoor
namespace Go.Proofs.YtmmfieceinmloaaGreatDoor
open Go.RowKit Go.PW
set_option linter.unusedVariables false
set_option linter.unusedSimpArgs false
set_option maxRecDepth 4000
/-- A builder: its block (of a type in which a strings.Builder lies), its bytes. -/
def bld (T : TypeId) (b : Nat) (ad v : Value) (bs : By) : Ent := join [blk b [ad, v] T, own v 5 1 ((bs).map fun b => [yv b])]
theorem bld_open {M : Nat → Prop} {w0 w : World} {T : TypeId} {b : Nat} {ad v : Value} {bs : By} {H : List Ent} (h : St M w0 (bld T b ad v bs :: H) w) : St M w0 ([blk b [ad, v] T, own v 5 1 ((bs).map fun b => [yv b])] ++ H) w := St.unjoin _ _ h
/-- (*strings.Builder).copyCheck -/
theorem check_fresh (T : TypeId) (b : Nat) (v : Value) (w0 : World) (hlie : liesAt Tryz.prog Tryz.prog.depth T (2 / Tryz.prog.cellsOf T) 0 131 1 = true) (hb : (blk b [.pointer none, v] T).ok w0) :
  Ret Tryz.prog 126 #[.pointer (some ⟨b, 0, none⟩)] w0 fun u w => u = .tuple #[] ∧ Ext (· = b) w0 w ∧ (blk b [.pointer (some ⟨b, 0, none⟩), v] T).ok w := by
 refine ret_of Tryz.func126 rfl Tryz.ntmps126 (Nat.le_of_ble_eq_true rfl) fun a hfr => ?_
 replace hfr : Fr 20 [(0, _)] [] a := hfr
 replace hst : St (· = b) w0 [blk b [.pointer none, v] T] w0 := St.one hb
 refine wc_seq_region fun K1 hK1 => ?_
 refine wlm hfr rfl fun a hfr => ?_
 refine wlv hfr (v_nilCheck rfl) fun a hfr => ?_
 refine wlv hfr (v_fieldAddr (v := .pointer (some ⟨b, 0, none⟩)) rfl (by kernel_rfl)) fun a hfr => ?_
 refine wlv hfr (v_load_blk1 (hst.get (k := 0) rfl) rfl (Tryz.isAgg129 _) rfl) fun a hfr => ?_
 refine wlv hfr (v_nilp rfl rfl Tryz.underlying129) fun a hfr => ?_
 refine wl_nil (hK1 _ _ ?_)
 refine wc_cond_t hfr rfl ?_
 refine wc_region ?_
 refine wlm hfr rfl fun a hfr => ?_
 refine wlm hfr rfl fun a hfr => ?_
 refine wlv hfr (v_tounsafe (j := Tryz.t131) (hst.get (k := 0) rfl) rfl Tryz.underlying129 Tryz.underlying216 rfl rfl (by simp)) fun a hfr => ?_
 refine wlv hfr (v_noescape Tryz.func147 (by kernel_rfl) (by kernel_rfl) (by kernel_rfl) (by kernel_rfl) rfl) fun a hfr => ?_
 refine wlv hfr (v_fromunsafe (j := Tryz.t131) (hst.get (k := 0) rfl) rfl Tryz.underlying216 Tryz.underlying129 rfl hlie) fun a hfr => ?_
 refine wlv hfr (v_nilCheck rfl) fun a hfr => ?_
 refine wlv hfr (v_fieldAddr (v := .pointer (some ⟨b, 0, none⟩)) rfl (by kernel_rfl)) fun a hfr => ?_
 refine wl_store 0 hfr hst rfl rfl rfl (Tryz.sizeOf129 _) rfl (Nat.le_of_ble_eq_true rfl) (ds := [.pointer (some ⟨b, 0, none⟩), v]) rfl rfl ?_
 clear hfr hst
 intro a w2 hfr hst
 refine wl_nil ?_
 refine fin_end hfr Tryz.results126 resAre_nil ?_
 exact ⟨rfl, hst.ext, hst.get (k := 0) rfl⟩
/-- (*strings.Builder).copyCheck -/
theorem check_used (T : TypeId) (b : Nat) (v : Value) (w0 : World) (hlie : liesAt Tryz.prog Tryz.prog.depth T (2 / Tryz.prog.cellsOf T) 0 131 1 = true) (hb : (blk b [.pointer (some ⟨b, 0, none⟩), v] T).ok w0) :
  Ret Tryz.prog 126 #[.pointer (some ⟨b, 0, none⟩)] w0 fun u w => u = .tuple #[] ∧ Ext (· = b) w0 w ∧ (blk b [.pointer (some ⟨b, 0, none⟩), v] T).ok w := by
 refine ret_of Tryz.func126 rfl Tryz.ntmps126 (Nat.le_of_ble_eq_true rfl) fun a hfr => ?_
 replace hfr : Fr 20 [(0, _)] [] a := hfr
 replace hst : St (· = b) w0 [blk b [.pointer (some ⟨b, 0, none⟩), v] T] w0 := St.one hb
 refine wc_seq_region fun K1 hK1 => ?_
 refine wlm hfr rfl fun a hfr => ?_
 refine wlv hfr (v_nilCheck rfl) fun a hfr => ?_
 refine wlv hfr (v_fieldAddr (v := .pointer (some ⟨b, 0, none⟩)) rfl (by kernel_rfl)) fun a hfr => ?_
 refine wlv hfr (v_load_blk1 (hst.get (k := 0) rfl) rfl (Tryz.isAgg129 _) rfl) fun a hfr => ?_
 refine wlv hfr (v_ptrnil rfl rfl Tryz.underlying129) fun a hfr => ?_
 refine wl_nil (hK1 _ _ ?_)
 refine wc_cond_f hfr rfl ?_
 refine wc_seq_region fun K2 hK2 => ?_
 refine wlm hfr rfl fun a hfr => ?_
 refine wlv hfr (v_nilCheck rfl) fun a hfr => ?_
 refine wlv hfr (v_fieldAddr (v := .pointer (some ⟨b, 0, none⟩)) rfl (by kernel_rfl)) fun a hfr => ?_
 refine wlv hfr (v_load_blk1 (hst.get (k := 0) rfl) rfl (Tryz.isAgg129 _) rfl) fun a hfr => ?_
 refine wlm hfr rfl fun a hfr => ?_
 refine wlv hfr (v_ptrne (j := Tryz.t131) rfl rfl Tryz.underlying129 rfl) fun a hfr => ?_
 refine wl_nil (hK2 _ _ ?_)
 replace hfr : Fr 20 [(19, _)] [] a := hfr.pick [19]
 refine wc_cond_f hfr rfl ?_
 refine wc_skip ?_
 refine fin_end hfr Tryz.results126 resAre_nil ?_
 exact ⟨rfl, hst.ext, hst.get (k := 0) rfl⟩
/-- (*strings.Builder).WriteString -/
theorem wstr_fresh {M : Nat → Prop} {w0 : World} (T : TypeId) (b : Nat) (v : Value) (bs : By) (s : By) (ws : World) (hlie : liesAt Tryz.prog Tryz.prog.depth T (2 / Tryz.prog.cellsOf T) 0 131 1 = true) (hne : s ≠ []) (hbn : bs.length + s.length ≤ 1000000000) (hst : St M w0 [bld T b (.pointer none) v bs] ws) :
  Ret Tryz.prog 78 #[.pointer (some ⟨b, 0, none⟩), sv s] ws fun u w => u = .tuple #[.int .i64 (s.length : Int), .nilIface] ∧ ∃ v2, St M w0 [bld T b (.pointer (some ⟨b, 0, none⟩)) v2 (bs ++ s)] w := by
 refine ret_of Tryz.func78 rfl Tryz.ntmps78 (Nat.le_of_ble_eq_true rfl) fun a hfr => ?_
 replace hfr : Fr 19 [(0, _), (1, _)] [] a := hfr
 replace hst : St M w0 [blk b [.pointer none, v] T, own v 5 1 ((bs).map fun b => [yv b])] ws := bld_open hst
 refine wc_seq_region fun K1 hK1 => ?_
 refine wla hfr rfl fun a hfr => ?_
 refine wla hfr rfl fun a hfr => ?_
 refine wl_nil (hK1 _ _ ?_)
 refine wc_seq_region fun K2 hK2 => ?_
 refine wlm hfr rfl fun a hfr => ?_
 refine wl_callw 0 hfr hst (by decide) Tryz.call126 rfl rfl (check_fresh T b _ _ hlie (hst.get (k := 0) rfl)) rfl ?_
 clear hfr hst
 intro a w1 hfr hst
 refine wl_nil (hK2 _ _ ?_)
 refine wc_seq_region fun K3 hK3 => ?_
 refine wlm hfr rfl fun a hfr => ?_
 refine wlm hfr rfl fun a hfr => ?_
 refine wlv hfr (v_nilCheck rfl) fun a hfr => ?_
 refine wlv hfr (v_fieldAddr (v := .pointer (some ⟨b, 1, none⟩)) rfl (by kernel_rfl)) fun a hfr => ?_
 refine wlv hfr (v_load_blk1 (hst.get (k := 0) rfl) rfl (Tryz.isAgg62 _) rfl) fun a hfr => ?_
 refine wlm hfr rfl fun a hfr => ?_
 refine wl_append_str (i := 1) (sT := 62) (uT := 9) (inf := Tryz.t5) (bs := bs) (s := s) rfl rfl rfl hne Tryz.underlying62 Tryz.underlying9 rfl rfl rfl rfl (by omega) (by decide) hfr hst ?_
 clear hfr hst
 intro a w2 s1 hfr hst
 refine wlv hfr (v_nilCheck rfl) fun a hfr => ?_
 refine wlv hfr (v_fieldAddr (v := .pointer (some ⟨b, 1, none⟩)) rfl (by kernel_rfl)) fun a hfr => ?_
 refine wl_store_sl 0 hfr hst (hst.ownAt (i := 1) rfl) rfl rfl rfl (Tryz.sizeOf62 _) (Nat.le_of_ble_eq_true rfl) (ds := [.pointer (some ⟨b, 0, none⟩), s1]) rfl rfl ?_
 clear hfr hst
 intro a w3 hfr hst
 refine wl_nil (hK3 _ _ ?_)
 replace hfr : Fr 19 [(1, _), (4, _), (5, _)] [] a := hfr.pick [1, 4, 5]
 refine wc_seq_region fun K4 hK4 => ?_
 refine wlm hfr rfl fun a hfr => ?_
 refine wlv hfr (v_len_str rfl rfl (Tryz.runUnderlying9 _)) fun a hfr => ?_
 refine wla hfr rfl fun a hfr => ?_
 refine wla hfr rfl fun a hfr => ?_
 refine wl_nil (hK4 _ _ ?_)
 refine wc_ret ?_
 refine fin_ret hfr Tryz.results78 (resAre_tmp rfl (resAre_tmp rfl resAre_nil)) ?_
 replace hst : St M w0 [blk b [.pointer (some ⟨b, 0, none⟩), s1] T, own s1 5 1 ((bs ++ s).map fun b => [yv b])] _ := hst.select [0, 1] (by decide)
 exact ⟨rfl, s1, St.join [blk b [.pointer (some ⟨b, 0, none⟩), s1] T, own s1 5 1 ((bs ++ s).map fun b => [yv b])] [] hst⟩
/-- (*strings.Builder).WriteByte -/
theorem wbyte_fresh {M : Nat → Prop} {w0 : World} (T : TypeId) (b : Nat) (v : Value) (bs : By) (z : UInt8) (ws : World) (hlie : liesAt Tryz.prog Tryz.prog.depth T (2 / Tryz.prog.cellsOf T) 0 131 1 = true) (hbn : bs.length + 1 ≤ 1000000000) (hst : St M w0 [bld T b (.pointer none) v bs] ws) :
  Ret Tryz.prog 88 #[.pointer (some ⟨b, 0, none⟩), yv z] ws fun u w => u = .nilIface ∧ ∃ v2, St M w0 [bld T b (.pointer (some ⟨b, 0, none⟩)) v2 (bs ++ [z])] w := by
 refine ret_of Tryz.func88 rfl Tryz.ntmps88 (Nat.le_of_ble_eq_true rfl) fun a hfr => ?_
 replace hfr : Fr 17 [(0, _), (1, _)] [] a := hfr
 replace hst : St M w0 [blk b [.pointer none, v] T, own v 5 1 ((bs).map fun b => [yv b])] ws := bld_open hst
 refine wc_seq_region fun K1 hK1 => ?_
 refine wla hfr rfl fun a hfr => ?_
 refine wl_nil (hK1 _ _ ?_)
 refine wc_seq_region fun K2 hK2 => ?_
 refine wlm hfr rfl fun a hfr => ?_
 refine wl_callw 0 hfr hst (by decide) Tryz.call126 rfl rfl (check_fresh T b _ _ hlie (hst.get (k := 0) rfl)) rfl ?_
 clear hfr hst
 intro a w1 hfr hst
 refine wl_nil (hK2 _ _ ?_)
 refine wc_seq_region fun K3 hK3 => ?_
 refine wlm hfr rfl fun a hfr => ?_
 refine wlm hfr rfl fun a hfr => ?_
 refine wlv hfr (v_nilCheck rfl) fun a hfr => ?_
 refine wlv hfr (v_fieldAddr (v := .pointer (some ⟨b, 1, none⟩)) rfl (by kernel_rfl)) fun a hfr => ?_
 refine wlv hfr (v_load_blk1 (hst.get (k := 0) rfl) rfl (Tryz.isAgg62 _) rfl) fun a hfr => ?_
 refine wlm hfr rfl fun a hfr => ?_
 refine wl_buildSlice (E := 5) (sz := 1) rfl [[yv z]] (by kernel_rfl) (by simp) rfl (by decide) (by decide) hfr hst ?_
 clear hfr hst
 intro a w2 hfr hst
 refine wl_append (i := 2) (sT := 62) (inf := Tryz.t5) (z := yv (0 : UInt8)) (b := 0) (off := 0) (m := 0) (c := 0) rfl rfl rfl (hst.ownAt (i := 0) rfl) (by simp) Tryz.underlying62 rfl rfl rfl rfl (by decide) (by simp [Value.oneCell', yv, wv, sv]) (by have hby : Tryz.t5.bytes = 1 := rfl; simp [big, hby] <;> omega) (by have hby : Tryz.t5.bytes = 1 := rfl; simp [big, hby] <;> omega) (by decide) hfr hst fun a w3 s1 hfr hst _ => ?_
 rw [show ((bs).map fun b => [yv b]) ++ ([[yv z]]) = ((bs ++ [z]).map fun b => [yv b]) from by simp] at hst
 refine wlv hfr (v_nilCheck rfl) fun a hfr => ?_
 refine wlv hfr (v_fieldAddr (v := .pointer (some ⟨b, 1, none⟩)) rfl (by kernel_rfl)) fun a hfr => ?_
 refine wl_store_sl 1 hfr hst (hst.ownAt (i := 2) rfl) rfl rfl rfl (Tryz.sizeOf62 _) (Nat.le_of_ble_eq_true rfl) (ds := [.pointer (some ⟨b, 0, none⟩), s1]) rfl rfl ?_
 clear hfr hst
 intro a w4 hfr hst
 refine wl_nil (hK3 _ _ ?_)
 replace hfr : Fr 17 [(4, _)] [] a := hfr.pick [4]
 replace hst : St M w0 [_, _] w4 := hst.mask [false, true, true]
 refine wc_seq_region fun K4 hK4 => ?_
 refine wla hfr rfl fun a hfr => ?_
 refine wl_nil (hK4 _ _ ?_)
 refine wc_ret ?_
 refine fin_ret hfr Tryz.results88 (resAre_tmp rfl resAre_nil) ?_
 replace hst : St M w0 [blk b [.pointer (some ⟨b, 0, none⟩), s1] T, own s1 5 1 ((bs ++ [z]).map fun b => [yv b])] _ := hst.select [0, 1] (by decide)
 exact ⟨rfl, s1, St.join [blk b [.pointer (some ⟨b, 0, none⟩), s1] T, own s1 5 1 ((bs ++ [z]).map fun b => [yv b])] [] hst⟩
/-- (*strings.Builder).WriteString -/
theorem wstr_used {M : Nat → Prop} {w0 : World} (T : TypeId) (b : Nat) (v : Value) (bs : By) (s : By) (ws : World) (hlie : liesAt Tryz.prog Tryz.prog.depth T (2 / Tryz.prog.cellsOf T) 0 131 1 = true) (hne : s ≠ []) (hbn : bs.length + s.length ≤ 1000000000) (hst : St M w0 [bld T b (.pointer (some ⟨b, 0, none⟩)) v bs] ws) :
  Ret Tryz.prog 78 #[.pointer (some ⟨b, 0, none⟩), sv s] ws fun u w => u = .tuple #[.int .i64 (s.length : Int), .nilIface] ∧ ∃ v2, St M w0 [bld T b (.pointer (some ⟨b, 0, none⟩)) v2 (bs ++ s)] w := by
 refine ret_of Tryz.func78 rfl Tryz.ntmps78 (Nat.le_of_ble_eq_true rfl) fun a hfr => ?_
 replace hfr : Fr 19 [(0, _), (1, _)] [] a := hfr
 replace hst : St M w0 [blk b [.pointer (some ⟨b, 0, none⟩), v] T, own v 5 1 ((bs).map fun b => [yv b])] ws := bld_open hst
 refine wc_seq_region fun K1 hK1 => ?_
 refine wla hfr rfl fun a hfr => ?_
 refine wla hfr rfl fun a hfr => ?_
 refine wl_nil (hK1 _ _ ?_)
 refine wc_seq_region fun K2 hK2 => ?_
 refine wlm hfr rfl fun a hfr => ?_
 refine wl_callw 0 hfr hst (by decide) Tryz.call126 rfl rfl (check_used T b _ _ hlie (hst.get (k := 0) rfl)) rfl ?_
 clear hfr hst
 intro a w1 hfr hst
 refine wl_nil (hK2 _ _ ?_)
 refine wc_seq_region fun K3 hK3 => ?_
 refine wlm hfr rfl fun a hfr => ?_
 refine wlm hfr rfl fun a hfr => ?_
 refine wlv hfr (v_nilCheck rfl) fun a hfr => ?_
 refine wlv hfr (v_fieldAddr (v := .pointer (some ⟨b, 1, none⟩)) rfl (by kernel_rfl)) fun a hfr => ?_
 refine wlv hfr (v_load_blk1 (hst.get (k := 0) rfl) rfl (Tryz.isAgg62 _) rfl) fun a hfr => ?_
 refine wlm hfr rfl fun a hfr => ?_
 refine wl_append_str (i := 1) (sT := 62) (uT := 9) (inf := Tryz.t5) (bs := bs) (s := s) rfl rfl rfl hne Tryz.underlying62 Tryz.underlying9 rfl rfl rfl rfl (by omega) (by decide) hfr hst ?_
 clear hfr hst
 intro a w2 s1 hfr hst
 refine wlv hfr (v_nilCheck rfl) fun a hfr => ?_
 refine wlv hfr (v_fieldAddr (v := .pointer (some ⟨b, 1, none⟩)) rfl (by kernel_rfl)) fun a hfr => ?_
 refine wl_store_sl 0 hfr hst (hst.ownAt (i := 1) rfl) rfl rfl rfl (Tryz.sizeOf62 _) (Nat.le_of_ble_eq_true rfl) (ds := [.pointer (some ⟨b, 0, none⟩), s1]) rfl rfl ?_
 clear hfr hst
 intro a w3 hfr hst
 refine wl_nil (hK3 _ _ ?_)
 replace hfr : Fr 19 [(1, _), (4, _), (5, _)] [] a := hfr.pick [1, 4, 5]
 refine wc_seq_region fun K4 hK4 => ?_
 refine wlm hfr rfl fun a hfr => ?_
 refine wlv hfr (v_len_str rfl rfl (Tryz.runUnderlying9 _)) fun a hfr => ?_
 refine wla hfr rfl fun a hfr => ?_
 refine wla hfr rfl fun a hfr => ?_
 refine wl_nil (hK4 _ _ ?_)
 refine wc_ret ?_
 refine fin_ret hfr Tryz.results78 (resAre_tmp rfl (resAre_tmp rfl resAre_nil)) ?_
 replace hst : St M w0 [blk b [.pointer (some ⟨b, 0, none⟩), s1] T, own s1 5 1 ((bs ++ s).map fun b => [yv b])] _ := hst.select [0, 1] (by decide)
 exact ⟨rfl, s1, St.join [blk b [.pointer (some ⟨b, 0, none⟩), s1] T, own s1 5 1 ((bs ++ s).map fun b => [yv b])] [] hst⟩
/-- (*strings.Builder).WriteByte -/
theorem wbyte_used {M : Nat → Prop} {w0 : World} (T : TypeId) (b : Nat) (v : Value) (bs : By) (z : UInt8) (ws : World) (hlie : liesAt Tryz.prog Tryz.prog.depth T (2 / Tryz.prog.cellsOf T) 0 131 1 = true) (hbn : bs.length + 1 ≤ 1000000000) (hst : St M w0 [bld T b (.pointer (some ⟨b, 0, none⟩)) v bs] ws) :
  Ret Tryz.prog 88 #[.pointer (some ⟨b, 0, none⟩), yv z] ws fun u w => u = .nilIface ∧ ∃ v2, St M w0 [bld T b (.pointer (some ⟨b, 0, none⟩)) v2 (bs ++ [z])] w := by
 refine ret_of Tryz.func88 rfl Tryz.ntmps88 (Nat.le_of_ble_eq_true rfl) fun a hfr => ?_
 replace hfr : Fr 17 [(0, _), (1, _)] [] a := hfr
 replace hst : St M w0 [blk b [.pointer (some ⟨b, 0, none⟩), v] T, own v 5 1 ((bs).map fun b => [yv b])] ws := bld_open hst
 refine wc_seq_region fun K1 hK1 => ?_
 refine wla hfr rfl fun a hfr => ?_
 refine wl_nil (hK1 _ _ ?_)
 refine wc_seq_region fun K2 hK2 => ?_
 refine wlm hfr rfl fun a hfr => ?_
 refine wl_callw 0 hfr hst (by decide) Tryz.call126 rfl rfl (check_used T b _ _ hlie (hst.get (k := 0) rfl)) rfl ?_
 clear hfr hst
 intro a w1 hfr hst
 refine wl_nil (hK2 _ _ ?_)
 refine wc_seq_region fun K3 hK3 => ?_
 refine wlm hfr rfl fun a hfr => ?_
 refine wlm hfr rfl fun a hfr => ?_
 refine wlv hfr (v_nilCheck rfl) fun a hfr => ?_
 refine wlv hfr (v_fieldAddr (v := .pointer (some ⟨b, 1, none⟩)) rfl (by kernel_rfl)) fun a hfr => ?_
 refine wlv hfr (v_load_blk1 (hst.get (k := 0) rfl) rfl (Tryz.isAgg62 _) rfl) fun a hfr => ?_
 refine wlm hfr rfl fun a hfr => ?_
 refine wl_buildSlice (E := 5) (sz := 1) rfl [[yv z]] (by kernel_rfl) (by simp) rfl (by decide) (by decide) hfr hst ?_
 clear hfr hst
 intro a w2 hfr hst
 refine wl_append (i := 2) (sT := 62) (inf := Tryz.t5) (z := yv (0 : UInt8)) (b := 0) (off := 0) (m := 0) (c := 0) rfl rfl rfl (hst.ownAt (i := 0) rfl) (by simp) Tryz.underlying62 rfl rfl rfl rfl (by decide) (by simp [Value.oneCell', yv, wv, sv]) (by have hby : Tryz.t5.bytes = 1 := rfl; simp [big, hby] <;> omega) (by have hby : Tryz.t5.bytes = 1 := rfl; simp [big, hby] <;> omega) (by decide) hfr hst fun a w3 s1 hfr hst _ => ?_
 rw [show ((bs).map fun b => [yv b]) ++ ([[yv z]]) = ((bs ++ [z]).map fun b => [yv b]) from by simp] at hst
 refine wlv hfr (v_nilCheck rfl) fun a hfr => ?_
 refine wlv hfr (v_fieldAddr (v := .pointer (some ⟨b, 1, none⟩)) rfl (by kernel_rfl)) fun a hfr => ?_
 refine wl_store_sl 1 hfr hst (hst.ownAt (i := 2) rfl) rfl rfl rfl (Tryz.sizeOf62 _) (Nat.le_of_ble_eq_true rfl) (ds := [.pointer (some ⟨b, 0, none⟩), s1]) rfl rfl ?_
 clear hfr hst
 intro a w4 hfr hst
 refine wl_nil (hK3 _ _ ?_)
 replace hfr : Fr 17 [(4, _)] [] a := hfr.pick [4]
 replace hst : St M w0 [_, _] w4 := hst.mask [false, true, true]
 refine wc_seq_region fun K4 hK4 => ?_
 refine wla hfr rfl fun a hfr => ?_
 refine wl_nil (hK4 _ _ ?_)
 refine wc_ret ?_
 refine fin_ret hfr Tryz.results88 (resAre_tmp rfl resAre_nil) ?_
 replace hst : St M w0 [blk b [.pointer (some ⟨b, 0, none⟩), s1] T, own s1 5 1 ((bs ++ [z]).map fun b => [yv b])] _ := hst.select [0, 1] (by decide)
 exact ⟨rfl, s1, St.join [blk b [.pointer (some ⟨b, 0, none⟩), s1] T, own s1 5 1 ((bs ++ [z]).map fun b => [yv b])] [] hst⟩
theorem own_lit {w : World} {E : TypeId} {v : Value} {bs : By} (h : (own v E 1 ((bs).map fun b => [yv b])).ok w) (hne : bs ≠ []) : ∃ g cap, v = .slice (some ⟨g, 0, none⟩) bs.length cap ∧ cap ≠ 0 := by
 obtain ⟨h1, h2, h3, h4⟩ := h
 have hn : bs.length ≠ 0 := by simpa using hne
 rcases h4 with ⟨_, h0⟩ | ⟨g, cap, cur, fz, hv, _, _, hnc, _⟩
 ·rw [List.length_map] at h0; exact absurd h0 hn
 ·rw [List.length_map] at hv hnc; exact ⟨g, cap, hv, by omega⟩
/-- (*strings.Builder).String -/
theorem bstring_lit {M : Nat → Prop} {w0 : World} (T : TypeId) (b g cap : Nat) (bs : By) (ws : World) (hne : bs ≠ []) (hcap : cap ≠ 0) (hst : St M w0 [blk b [.pointer (some ⟨b, 0, none⟩), .slice (some ⟨g, 0, none⟩) bs.length cap] T, own (.slice (some ⟨g, 0, none⟩) bs.length cap) 5 1 ((bs).map fun b => [yv b])] ws) :
  Ret Tryz.prog 79 #[.pointer (some ⟨b, 0, none⟩)] ws fun u w => u = sv bs ∧ St M w0 [blk b [.pointer (some ⟨b, 0, none⟩), .slice (some ⟨g, 0, none⟩) bs.length cap] T] w := by
 refine ret_of Tryz.func79 rfl Tryz.ntmps79 (Nat.le_of_ble_eq_true rfl) fun a hfr => ?_
 replace hfr : Fr 14 [(0, _)] [] a := hfr
 skip
 refine wc_seq_region fun K1 hK1 => ?_
 refine wla hfr rfl fun a hfr => ?_
 refine wl_nil (hK1 _ _ ?_)
 refine wc_seq_k fun K2 hK2 => ?_
 refine wc_of_dr (by kernel_rfl) ?_
 replace hfr : Fr 14 [(0, _), (2, _)] [] a := hfr.pick [0, 2]
 replace hst : St M w0 (own (.slice (some ⟨g, 0, none⟩) bs.length cap) 5 1 ((bs).map fun b => [yv b]) :: [blk b [.pointer (some ⟨b, 0, none⟩), .slice (some ⟨g, 0, none⟩) bs.length cap] T]) ws := hst.front (i := 1) rfl
 refine wc_phases_one 10 (own (.slice (some ⟨g, 0, none⟩) bs.length cap) 5 1 ((bs).map fun b => [yv b])) (fun _ => sl (.slice (some ⟨g, 0, none⟩) bs.length cap) 1 ((bs).map fun b => [yv b])) 11 [[], [0], [1], [2], [3], [], [5], [6], [7], [8], [4, 9]] (fun i => match i with | 0 => pv (.pointer (some ⟨b, 0, none⟩)) | 1 => pv (.pointer (some ⟨b, 0, none⟩)) | 2 => pv (.pointer (some ⟨b, 1, none⟩)) | 3 => pv (.slice (some ⟨g, 0, none⟩) bs.length cap) | 4 => pv (.pointer (some ⟨g, 0, none⟩)) | 5 => pv (.pointer (some ⟨b, 0, none⟩)) | 6 => pv (.pointer (some ⟨b, 0, none⟩)) | 7 => pv (.pointer (some ⟨b, 1, none⟩)) | 8 => pv (.slice (some ⟨g, 0, none⟩) bs.length cap) | 9 => pv (.int .i64 (bs.length : Int)) | 10 => fun v E => v = sv bs ∧ E = [] | _ => fun _ _ => False) hfr hst (by kernel_rfl) (by kernel_rfl) (by kernel_rfl) (by decide) ?_ ?_ ?_ ?_
 ·intro i v E h
  match i, h with
  | 0, _ => exact by decide
  | 1, _ => exact by decide
  | 2, _ => exact by decide
  | 3, _ => exact by decide
  | 4, _ => exact by decide
  | 5, _ => exact by decide
  | 6, _ => exact by decide
  | 7, _ => exact by decide
  | 8, _ => exact by decide
  | 9, _ => exact by decide
  | 10, _ => exact by decide
  | i + 11, h => exact h.elim
 ·intro i hi hiq e
  match i, hi, hiq with
  | 0, _, _ =>
   intro w hst
   exact OpV.g (v_move rfl)
  | 1, _, _ =>
   rintro _ _ ⟨rfl, rfl⟩
   intro w hst
   exact OpV.g (v_nilCheck rfl)
  | 2, _, _ =>
   rintro _ _ ⟨rfl, rfl⟩
   intro w hst
   exact OpV.g (v_fieldAddr (v := .pointer (some ⟨b, 1, none⟩)) rfl (by kernel_rfl))
  | 3, _, _ =>
   rintro _ _ ⟨rfl, rfl⟩
   intro w hst
   exact OpV.g (v_load_blk1 (hst.get (k := 1) rfl) rfl (Tryz.isAgg62 _) rfl)
  | 4, _, _ =>
   rintro _ _ ⟨rfl, rfl⟩
   intro w hst
   exact OpV.g (v_sliceData rfl hcap)
  | 5, _, _ =>
   intro w hst
   exact OpV.g (v_move rfl)
  | 6, _, _ =>
   rintro _ _ ⟨rfl, rfl⟩
   intro w hst
   exact OpV.g (v_nilCheck rfl)
  | 7, _, _ =>
   rintro _ _ ⟨rfl, rfl⟩
   intro w hst
   exact OpV.g (v_fieldAddr (v := .pointer (some ⟨b, 1, none⟩)) rfl (by kernel_rfl))
  | 8, _, _ =>
   rintro _ _ ⟨rfl, rfl⟩
   intro w hst
   exact OpV.g (v_load_blk1 (hst.get (k := 1) rfl) rfl (Tryz.isAgg62 _) rfl)
  | 9, _, _ =>
   rintro _ _ ⟨rfl, rfl⟩
   intro w hst
   exact OpV.g ((v_builtin (v := .int .i64 (bs.length : Int)) (vs := [.slice (some ⟨g, 0, none⟩) bs.length cap]) (by simp [evs]; rfl) (by simp [builtin, Builtin.len_, Tryz.runUnderlying62]; rfl)).as rfl)
  | 10, _, h => exact absurd rfl h
 ·rintro _ _ ⟨rfl, rfl⟩ _ _ ⟨rfl, rfl⟩
  intro w hst
  exact (r_unsafeString (hst.get (k := 0) rfl) hne rfl rfl Tryz.underlying188 (by kernel_rfl)).mono fun v w' ⟨h1, h2, h3, h4⟩ => ⟨h2, h3, h4, ⟨h1, rfl⟩⟩
 clear hfr hst
 rintro vq _ _ ⟨⟨rfl, rfl⟩, -⟩ _ _ ⟨⟨rfl, rfl⟩, -⟩ _ _ ⟨⟨rfl, rfl⟩, -⟩ _ _ ⟨⟨rfl, rfl⟩, -⟩ _ _ ⟨⟨rfl, rfl⟩, -⟩ _ _ ⟨⟨rfl, rfl⟩, -⟩ _ _ ⟨⟨rfl, rfl⟩, -⟩ _ _ ⟨⟨rfl, rfl⟩, -⟩ _ _ ⟨⟨rfl, rfl⟩, -⟩ _ _ ⟨⟨rfl, rfl⟩, -⟩ _ _ ⟨⟨rfl, rfl⟩, -⟩ a w1 hfr hst
 replace hfr : Fr 14 [(3, _), (4, _), (5, _), (6, _), (7, _), (8, _), (9, _), (10, _), (11, _), (12, _), (13, _), (0, _), (2, _)] [] a := hfr
 replace hst : St M w0 [(fun _ => sl (.slice (some ⟨g, 0, none⟩) bs.length cap) 1 ((bs).map fun b => [yv b])) vq, blk b [.pointer (some ⟨b, 0, none⟩), .slice (some ⟨g, 0, none⟩) bs.length cap] T] w1 := hst
 refine wla hfr rfl fun a hfr => ?_
 refine wl_nil ?_
 refine hK2 _ _ ?_
 replace hfr : Fr 14 [(2, _)] [] a := hfr.pick [2]
 refine wc_ret ?_
 refine fin_ret hfr Tryz.results79 (resAre_tmp rfl resAre_nil) ?_
 exact ⟨rfl, hst.select [1] (by decide)⟩
theorem bstring_ok {M : Nat → Prop} {w0 : World} (T : TypeId) (b : Nat) (v : Value) (bs : By) (ws : World) (hne : bs ≠ []) (hst : St M w0 [bld T b (.pointer (some ⟨b, 0, none⟩)) v bs] ws) :
  Ret Tryz.prog 79 #[.pointer (some ⟨b, 0, none⟩)] ws fun u w => u = sv bs ∧ St M w0 [blk b [.pointer (some ⟨b, 0, none⟩), v] T] w := by
 have hst : St M w0 [blk b [.pointer (some ⟨b, 0, none⟩), v] T, own v 5 1 ((bs).map fun b => [yv b])] ws := bld_open hst
 obtain ⟨g, cap, rfl, hcap⟩ := own_lit (hst.get (k := 1) rfl) hne
 exact bstring_lit T b g cap bs ws hne hcap hst
end Go.Proofs.YtmmfieceinmloaaGreatDoor
namespace Go.Proofs.YtmmfieceinmloaaGreatDoor
open Go.RowKit Go.PW
set_option linter.unusedVariables false
set_option linter.unusedSimpArgs false
set_option maxRecDepth 4000
theorem wstr_any {M : Nat → Prop} {w0 : World} (T : TypeId) (b : Nat) (ad v : Value) (bs s : By) (ws : World) (hlie : liesAt Tryz.prog Tryz.prog.depth T (2 / Tryz.prog.cellsOf T) 0 131 1 = true) (had : ad = .pointer none ∨ ad = .pointer (some ⟨b, 0, none⟩)) (hne : s ≠ []) (hbn : bs.length + s.length ≤ 1000000000) (hst : St M w0 [bld T b ad v bs] ws) :
  Ret Tryz.prog 78 #[.pointer (some ⟨b, 0, none⟩), sv s] ws fun u w => u = .tuple #[.int .i64 (s.length : Int), .nilIface] ∧ ∃ v2, St M w0 [bld T b (.pointer (some ⟨b, 0, none⟩)) v2 (bs ++ s)] w := by
 rcases had with rfl | rfl
 ·exact wstr_fresh T b v bs s ws hlie hne hbn hst
 ·exact wstr_used T b v bs s ws hlie hne hbn hst
theorem putI_ne (n : Int) : putI n ≠ [] := fun h => by have := (putI_len n).1; rw [h] at this; simp at this
/-- (*dialtone/wish.writer).numbers -/
theorem numbers_ok {M : Nat → Prop} {w0 : World} (T : TypeId) (b : Nat) (ad v lv : Value) (bs : By) (ns : List Int) (ws : World) (hlie : liesAt Tryz.prog Tryz.prog.depth T (2 / Tryz.prog.cellsOf T) 0 131 1 = true) (had : ad = .pointer none ∨ ad = .pointer (some ⟨b, 0, none⟩)) (hns : smalls ns) (hnn : ns ≠ []) (hbn : bs.length + 9 * ns.length ≤ 1000000000) (hst : St M w0 [bld T b (ad) v bs, own lv 3 1 ((ns).map fun n => [Value.int .i64 n])] ws) :
  Ret Tryz.prog 77 #[.pointer (some ⟨b, 0, none⟩), lv] ws fun u w => u = .tuple #[] ∧ ∃ v2, St M w0 [bld T b (.pointer (some ⟨b, 0, none⟩)) v2 (bs ++ puts ns)] w := by
 refine ret_of Tryz.func77 rfl Tryz.ntmps77 (Nat.le_of_ble_eq_true rfl) fun a hfr => ?_
 replace hfr : Fr 25 [(0, _), (1, _)] [] a := hfr
 skip
 refine wc_seq_region fun K1 hK1 => ?_
 refine wlm hfr rfl fun a hfr => ?_
 refine wlv hfr ((v_len_sl (sT := 88) (hst.ownAt (i := 1) rfl) rfl rfl (Tryz.runUnderlying88 _)).asi (m' := (ns.length : Int)) (by rw [List.length_map])) fun a hfr => ?_
 refine wlm hfr rfl fun a hfr => ?_
 refine wl_nil (hK1 _ _ ?_)
 refine wc_block ?_
 replace hst : St M w0 [bld T b ad v (bs ++ puts (ns.take 0)), own lv 3 1 ((ns).map fun n => [Value.int .i64 n])] ws := by rw [show bs ++ puts (ns.take 0) = bs from by simp [puts]]; exact hst
 refine wc_loop (fun m a w => ∃ (k : Nat) (ad : Value) (v : Value), m = ns.length - k ∧ (k ≤ ns.length) ∧ (ad = .pointer none ∨ ad = .pointer (some ⟨b, 0, none⟩)) ∧ (0 < k → ad = .pointer (some ⟨b, 0, none⟩)) ∧ Fr 25 [(0, .pointer (some ⟨b, 0, none⟩)), (8, lv), (9, .int .i64 (ns.length : Int)), (10, .int .i64 (k : Int))] [] a ∧ St M w0 [bld T b (ad) v (bs ++ puts (ns.take k)), own lv 3 1 ((ns).map fun n => [Value.int .i64 n])] w) _ ⟨0, ad, v, rfl, Nat.zero_le _, had, (fun h => absurd h (Nat.lt_irrefl 0)), hfr.pick [0, 8, 9, 10], hst⟩ ?_
 rintro _ a w1 ⟨k, ad, v, rfl, hk, had, hak, hfr, hst⟩
 refine wc_seq_region fun K2 hK2 => ?_
 refine wlv hfr (v_lt rfl rfl) fun a hfr => ?_
 refine wl_nil (hK2 _ _ ?_)
 refine wc_seq_k fun K3 hK3 => ?_
 refine wc_cond hfr rfl (fun hc1 => ?_) (fun hc1 => ?_)
 ·rw [hc1] at hfr
  try simp only [qz] at hc1
  refine wc_skip ?_
  refine hK3 _ _ ?_
  refine wc_seq_k fun K4 hK4 => ?_
  refine wc_block ?_
  refine wc_seq_region fun K5 hK5 => ?_
  refine wlv hfr ((v_indexAddr_sl (i := (k : Int)) (sT := 88) (hst.ownAt (i := 1) rfl) rfl rfl (Tryz.runUnderlying88 _) (Tryz.sizeOf3 _) (by omega) (by rw [List.length_map]; omega)).as (v' := slAddr lv (k * 1)) rfl) fun a hfr => ?_
  refine wlv hfr (v_load_sl1 (u := .int .i64 (ns.getD k 0)) (i := k) (j := 0) (hst.ownAt (i := 1) rfl) (by rw [List.length_map]; omega) rfl (Tryz.isAgg3 _) (by rw [el_at (0 : Int)]; rfl)) fun a hfr => ?_
  refine wla hfr rfl fun a hfr => ?_
  refine wl_nil (hK5 _ _ ?_)
  refine wc_seq_region fun K6 hK6 => ?_
  refine wlm hfr rfl fun a hfr => ?_
  refine wl_callp hfr hst (by decide) Tryz.call125 rfl (putInt_ok (ns.getD k 0) _ (hns _ (getD_mem (by omega)))) ?_
  clear hfr hst
  intro a w2 hfr hst
  refine wlm hfr rfl fun a hfr => ?_
  refine wlv hfr (v_extract rfl rfl) fun a hfr => ?_
  refine wlv hfr (v_extract rfl rfl) fun a hfr => ?_
  refine wla hfr rfl fun a hfr => ?_
  refine wla hfr rfl fun a hfr => ?_
  refine wl_nil (hK6 _ _ ?_)
  replace hfr : Fr 25 [(0, _), (8, _), (9, _), (10, _), (6, _)] [] a := hfr.pick [0, 8, 9, 10, 6]
  refine wc_region ?_
  refine wlm hfr rfl fun a hfr => ?_
  refine wlv hfr (v_nilCheck rfl) fun a hfr => ?_
  refine wlv hfr (v_fieldAddr (v := .pointer (some ⟨b, 0, none⟩)) rfl (by kernel_rfl)) fun a hfr => ?_
  refine wlm hfr rfl fun a hfr => ?_
  refine wl_callE (R := fun u e' => u = .tuple #[.int .i64 ((putI (ns.getD k 0)).length : Int), .nilIface] ∧ ∃ v2, e' = bld T b (.pointer (some ⟨b, 0, none⟩)) v2 ((bs ++ puts (ns.take k)) ++ (putI (ns.getD k 0)))) 0 hfr hst rfl (by decide) Tryz.call78 rfl (fun h => (wstr_any T b _ _ _ _ _ hlie (had) (putI_ne _) (by have h1 := puts_len (ns.take k); have h2 := (putI_len (ns.getD k 0)).2; rw [List.length_take] at h1; rw [List.length_append]; omega) h).mono fun u w ⟨h1, v2, h2⟩ => ⟨_, ⟨h1, v2, rfl⟩, h2⟩) ?_
  clear hfr hst
  rintro a w3 _ _ ⟨rfl, v2, rfl⟩ hfr hst
  replace hst : St M w0 [bld T b (.pointer (some ⟨b, 0, none⟩)) v2 ((bs ++ puts (ns.take k)) ++ (putI (ns.getD k 0))), own lv 3 1 ((ns).map fun n => [Value.int .i64 n])] w3 := hst
  refine wl_nil ?_
  refine hK4 _ _ ?_
  replace hfr : Fr 25 [(0, _), (8, _), (9, _), (10, _)] [] a := hfr.pick [0, 8, 9, 10]
  refine wc_region ?_
  refine wlv hfr (v_add rfl rfl ⟨by omega, by omega⟩) fun a hfr => ?_
  refine wlm hfr rfl fun a hfr => ?_
  refine wl_nil ?_
  replace hst : St M w0 [bld T b (.pointer (some ⟨b, 0, none⟩)) v2 (bs ++ puts (ns.take (k + 1))), own lv 3 1 ((ns).map fun n => [Value.int .i64 n])] w3 := by rw [show bs ++ puts (ns.take (k + 1)) = (bs ++ puts (ns.take k)) ++ (putI (ns.getD k 0)) from by rw [take_snoc 0 (by omega), puts_snoc, List.append_assoc]]; exact hst
  refine ⟨_, ?_, k + 1, .pointer (some ⟨b, 0, none⟩), v2, rfl, (by omega), (.inr rfl), (fun _ => rfl), hfr.pick [0, 8, 9, 10], hst⟩
  omega
 rw [hc1] at hfr
 try simp only [qz] at hc1
 obtain rfl : k = ns.length := by omega
 rw [List.take_length] at hst
 obtain rfl := hak (List.length_pos_iff.2 hnn)
 refine wc_exit ?_
 refine fin_end hfr Tryz.results77 resAre_nil ?_
 exact ⟨rfl, _, hst.select [0] (by decide)⟩
/-- (*dialtone/wish.writer).wish -/
theorem wwish_ok {M : Nat → Prop} {w0 : World} (T : TypeId) (b : Nat) (ad v : Value) (bs : By) (x : Wsh) (ws : World) (hlie : liesAt Tryz.prog Tryz.prog.depth T (2 / Tryz.prog.cellsOf T) 0 131 1 = true) (had : ad = .pointer none ∨ ad = .pointer (some ⟨b, 0, none⟩)) (hx : smalls x.nums) (hbn : bs.length ≤ 1000000) (hst : St M w0 [bld T b (ad) v bs] ws) :
  Ret Tryz.prog 67 #[.pointer (some ⟨b, 0, none⟩), .agg #[.int .i64 x.signer, .int .i64 x.holder, .int .i64 x.rf, .int .i64 x.rt, .int .i64 x.carrier, .int .i64 x.serial, .int .i64 x.sf, .int .i64 x.st, sv x.sig]] ws fun u w => u = .tuple #[] ∧ ∃ v2, St M w0 [bld T b (.pointer (some ⟨b, 0, none⟩)) v2 (bs ++ x.content)] w := by
 refine ret_of Tryz.func67 rfl Tryz.ntmps67 (Nat.le_of_ble_eq_true rfl) fun a hfr => ?_
 replace hfr : Fr 27 [(0, _), (1, _)] [] a := hfr
 skip
 refine wc_seq_region fun K1 hK1 => ?_
 refine wl_box hfr hst (by decide) rfl (cs := [.int .i64 x.signer, .int .i64 x.holder, .int .i64 x.rf, .int .i64 x.rt, .int .i64 x.carrier, .int .i64 x.serial, .int .i64 x.sf, .int .i64 x.st, sv x.sig]) rfl ?_
 clear hfr hst
 intro a w1 hfr hst
 refine wl_nil (hK1 _ _ ?_)
 refine wc_region ?_
 refine wlm hfr rfl fun a hfr => ?_
 refine wlv hfr (v_fieldAddr (v := .pointer (some ⟨ws.heap.size, 0, none⟩)) rfl (by kernel_rfl)) fun a hfr => ?_
 refine wlv hfr (v_load_blk1 (hst.get (k := 0) rfl) rfl (Tryz.isAgg3 _) rfl) fun a hfr => ?_
 refine wlv hfr (v_fieldAddr (v := .pointer (some ⟨ws.heap.size, 1, none⟩)) rfl (by kernel_rfl)) fun a hfr => ?_
 refine wlv hfr (v_load_blk1 (hst.get (k := 0) rfl) rfl (Tryz.isAgg3 _) rfl) fun a hfr => ?_
 refine wlv hfr (v_fieldAddr (v := .pointer (some ⟨ws.heap.size, 2, none⟩)) rfl (by kernel_rfl)) fun a hfr => ?_
 refine wlv hfr (v_fieldAddr (v := .pointer (some ⟨ws.heap.size, 2, none⟩)) rfl (by kernel_rfl)) fun a hfr => ?_
 refine wlv hfr (v_load_blk1 (hst.get (k := 0) rfl) rfl (Tryz.isAgg3 _) rfl) fun a hfr => ?_
 refine wlv hfr (v_fieldAddr (v := .pointer (some ⟨ws.heap.size, 2, none⟩)) rfl (by kernel_rfl)) fun a hfr => ?_
 refine wlv hfr (v_fieldAddr (v := .pointer (some ⟨ws.heap.size, 3, none⟩)) rfl (by kernel_rfl)) fun a hfr => ?_
 refine wlv hfr (v_load_blk1 (hst.get (k := 0) rfl) rfl (Tryz.isAgg3 _) rfl) fun a hfr => ?_
 refine wlv hfr (v_fieldAddr (v := .pointer (some ⟨ws.heap.size, 4, none⟩)) rfl (by kernel_rfl)) fun a hfr => ?_
 refine wlv hfr (v_load_blk1 (hst.get (k := 0) rfl) rfl (Tryz.isAgg3 _) rfl) fun a hfr => ?_
 refine wlv hfr (v_fieldAddr (v := .pointer (some ⟨ws.heap.size, 5, none⟩)) rfl (by kernel_rfl)) fun a hfr => ?_
 refine wlv hfr (v_load_blk1 (hst.get (k := 0) rfl) rfl (Tryz.isAgg3 _) rfl) fun a hfr => ?_
 refine wlv hfr (v_fieldAddr (v := .pointer (some ⟨ws.heap.size, 6, none⟩)) rfl (by kernel_rfl)) fun a hfr => ?_
 refine wlv hfr (v_fieldAddr (v := .pointer (some ⟨ws.heap.size, 6, none⟩)) rfl (by kernel_rfl)) fun a hfr => ?_
 refine wlv hfr (v_load_blk1 (hst.get (k := 0) rfl) rfl (Tryz.isAgg3 _) rfl) fun a hfr => ?_
 refine wlv hfr (v_fieldAddr (v := .pointer (some ⟨ws.heap.size, 6, none⟩)) rfl (by kernel_rfl)) fun a hfr => ?_
 refine wlv hfr (v_fieldAddr (v := .pointer (some ⟨ws.heap.size, 7, none⟩)) rfl (by kernel_rfl)) fun a hfr => ?_
 refine wlv hfr (v_load_blk1 (hst.get (k := 0) rfl) rfl (Tryz.isAgg3 _) rfl) fun a hfr => ?_
 refine wl_buildSlice (E := 3) (sz := 1) rfl [[.int .i64 1], [.int .i64 x.signer], [.int .i64 x.holder], [.int .i64 x.rf], [.int .i64 x.rt], [.int .i64 x.carrier], [.int .i64 x.serial], [.int .i64 x.sf], [.int .i64 x.st]] (by kernel_rfl) (by simp) rfl (by decide) (by decide) hfr hst ?_
 clear hfr hst
 intro a w2 hfr hst
 replace hst : St M w0 [bld T b (ad) v bs, own (.slice (some ⟨w1.heap.size, 0, none⟩) 9 9) 3 1 ([[.int .i64 1], [.int .i64 x.signer], [.int .i64 x.holder], [.int .i64 x.rf], [.int .i64 x.rt], [.int .i64 x.carrier], [.int .i64 x.serial], [.int .i64 x.sf], [.int .i64 x.st]]), blk ws.heap.size [.int .i64 x.signer, .int .i64 x.holder, .int .i64 x.rf, .int .i64 x.rt, .int .i64 x.carrier, .int .i64 x.serial, .int .i64 x.sf, .int .i64 x.st, sv x.sig] 30] w2 := hst.select [2, 0, 1] (by decide)
 replace hst := St.join [bld T b (ad) v bs, own (.slice (some ⟨w1.heap.size, 0, none⟩) 9 9) 3 1 ([[.int .i64 1], [.int .i64 x.signer], [.int .i64 x.holder], [.int .i64 x.rf], [.int .i64 x.rt], [.int .i64 x.carrier], [.int .i64 x.serial], [.int .i64 x.sf], [.int .i64 x.st]])] [blk ws.heap.size [.int .i64 x.signer, .int .i64 x.holder, .int .i64 x.rf, .int .i64 x.rt, .int .i64 x.carrier, .int .i64 x.serial, .int .i64 x.sf, .int .i64 x.st, sv x.sig] 30] hst
 refine wl_callE (R := fun u e' => u = .tuple #[] ∧ ∃ v2, e' = bld T b (.pointer (some ⟨b, 0, none⟩)) v2 (bs ++ puts [1, x.signer, x.holder, x.rf, x.rt, x.carrier, x.serial, x.sf, x.st])) 0 hfr hst rfl (by decide) Tryz.call77 rfl (fun h => (numbers_ok T b _ _ _ _ [1, x.signer, x.holder, x.rf, x.rt, x.carrier, x.serial, x.sf, x.st] _ hlie (had) (hx) (by simp) (by simp <;> omega) (St.unjoin [bld T b (ad) v bs, own (.slice (some ⟨w1.heap.size, 0, none⟩) 9 9) 3 1 ([[.int .i64 1], [.int .i64 x.signer], [.int .i64 x.holder], [.int .i64 x.rf], [.int .i64 x.rt], [.int .i64 x.carrier], [.int .i64 x.serial], [.int .i64 x.sf], [.int .i64 x.st]])] [] h)).mono fun u w ⟨h1, v2, h2⟩ => ⟨_, ⟨h1, v2, rfl⟩, h2⟩) ?_
 clear hfr hst
 rintro a w3 _ _ ⟨rfl, v1, rfl⟩ hfr hst
 replace hst : St M w0 [bld T b (.pointer (some ⟨b, 0, none⟩)) v1 (bs ++ puts [1, x.signer, x.holder, x.rf, x.rt, x.carrier, x.serial, x.sf, x.st]), blk ws.heap.size [.int .i64 x.signer, .int .i64 x.holder, .int .i64 x.rf, .int .i64 x.rt, .int .i64 x.carrier, .int .i64 x.serial, .int .i64 x.sf, .int .i64 x.st, sv x.sig] 30] w3 := hst
 refine wl_nil ?_
 refine fin_end hfr Tryz.results67 resAre_nil ?_
 exact ⟨rfl, _, hst.select [0] (by decide)⟩
/-- (*dialtone/wish.writer).proxy -/
theorem wproxy_ok {M : Nat → Prop} {w0 : World} (T : TypeId) (b : Nat) (ad v : Value) (bs : By) (x : Pxy) (ws : World) (hlie : liesAt Tryz.prog Tryz.prog.depth T (2 / Tryz.prog.cellsOf T) 0 131 1 = true) (had : ad = .pointer none ∨ ad = .pointer (some ⟨b, 0, none⟩)) (hx : smalls x.nums) (hbn : bs.length ≤ 1000000) (hst : St M w0 [bld T b (ad) v bs] ws) :
  Ret Tryz.prog 65 #[.pointer (some ⟨b, 0, none⟩), .agg #[.int .i64 x.frm, .int .i64 x.to, .int .i64 x.rf, .int .i64 x.rt, .int .i64 x.sf, .int .i64 x.st, sv x.sig]] ws fun u w => u = .tuple #[] ∧ ∃ v2, St M w0 [bld T b (.pointer (some ⟨b, 0, none⟩)) v2 (bs ++ x.content)] w := by
 refine ret_of Tryz.func65 rfl Tryz.ntmps65 (Nat.le_of_ble_eq_true rfl) fun a hfr => ?_
 replace hfr : Fr 23 [(0, _), (1, _)] [] a := hfr
 skip
 refine wc_seq_region fun K1 hK1 => ?_
 refine wl_box hfr hst (by decide) rfl (cs := [.int .i64 x.frm, .int .i64 x.to, .int .i64 x.rf, .int .i64 x.rt, .int .i64 x.sf, .int .i64 x.st, sv x.sig]) rfl ?_
 clear hfr hst
 intro a w1 hfr hst
 refine wl_nil (hK1 _ _ ?_)
 refine wc_region ?_
 refine wlm hfr rfl fun a hfr => ?_
 refine wlv hfr (v_fieldAddr (v := .pointer (some ⟨ws.heap.size, 0, none⟩)) rfl (by kernel_rfl)) fun a hfr => ?_
 refine wlv hfr (v_load_blk1 (hst.get (k := 0) rfl) rfl (Tryz.isAgg3 _) rfl) fun a hfr => ?_
 refine wlv hfr (v_fieldAddr (v := .pointer (some ⟨ws.heap.size, 1, none⟩)) rfl (by kernel_rfl)) fun a hfr => ?_
 refine wlv hfr (v_load_blk1 (hst.get (k := 0) rfl) rfl (Tryz.isAgg3 _) rfl) fun a hfr => ?_
 refine wlv hfr (v_fieldAddr (v := .pointer (some ⟨ws.heap.size, 2, none⟩)) rfl (by kernel_rfl)) fun a hfr => ?_
 refine wlv hfr (v_fieldAddr (v := .pointer (some ⟨ws.heap.size, 2, none⟩)) rfl (by kernel_rfl)) fun a hfr => ?_
 refine wlv hfr (v_load_blk1 (hst.get (k := 0) rfl) rfl (Tryz.isAgg3 _) rfl) fun a hfr => ?_
 refine wlv hfr (v_fieldAddr (v := .pointer (some ⟨ws.heap.size, 2, none⟩)) rfl (by kernel_rfl)) fun a hfr => ?_
 refine wlv hfr (v_fieldAddr (v := .pointer (some ⟨ws.heap.size, 3, none⟩)) rfl (by kernel_rfl)) fun a hfr => ?_
 refine wlv hfr (v_load_blk1 (hst.get (k := 0) rfl) rfl (Tryz.isAgg3 _) rfl) fun a hfr => ?_
 refine wlv hfr (v_fieldAddr (v := .pointer (some ⟨ws.heap.size, 4, none⟩)) rfl (by kernel_rfl)) fun a hfr => ?_
 refine wlv hfr (v_fieldAddr (v := .pointer (some ⟨ws.heap.size, 4, none⟩)) rfl (by kernel_rfl)) fun a hfr => ?_
 refine wlv hfr (v_load_blk1 (hst.get (k := 0) rfl) rfl (Tryz.isAgg3 _) rfl) fun a hfr => ?_
 refine wlv hfr (v_fieldAddr (v := .pointer (some ⟨ws.heap.size, 4, none⟩)) rfl (by kernel_rfl)) fun a hfr => ?_
 refine wlv hfr (v_fieldAddr (v := .pointer (some ⟨ws.heap.size, 5, none⟩)) rfl (by kernel_rfl)) fun a hfr => ?_
 refine wlv hfr (v_load_blk1 (hst.get (k := 0) rfl) rfl (Tryz.isAgg3 _) rfl) fun a hfr => ?_
 refine wl_buildSlice (E := 3) (sz := 1) rfl [[.int .i64 2], [.int .i64 x.frm], [.int .i64 x.to], [.int .i64 x.rf], [.int .i64 x.rt], [.int .i64 x.sf], [.int .i64 x.st]] (by kernel_rfl) (by simp) rfl (by decide) (by decide) hfr hst ?_
 clear hfr hst
 intro a w2 hfr hst
 replace hst : St M w0 [bld T b (ad) v bs, own (.slice (some ⟨w1.heap.size, 0, none⟩) 7 7) 3 1 ([[.int .i64 2], [.int .i64 x.frm], [.int .i64 x.to], [.int .i64 x.rf], [.int .i64 x.rt], [.int .i64 x.sf], [.int .i64 x.st]]), blk ws.heap.size [.int .i64 x.frm, .int .i64 x.to, .int .i64 x.rf, .int .i64 x.rt, .int .i64 x.sf, .int .i64 x.st, sv x.sig] 40] w2 := hst.select [2, 0, 1] (by decide)
 replace hst := St.join [bld T b (ad) v bs, own (.slice (some ⟨w1.heap.size, 0, none⟩) 7 7) 3 1 ([[.int .i64 2], [.int .i64 x.frm], [.int .i64 x.to], [.int .i64 x.rf], [.int .i64 x.rt], [.int .i64 x.sf], [.int .i64 x.st]])] [blk ws.heap.size [.int .i64 x.frm, .int .i64 x.to, .int .i64 x.rf, .int .i64 x.rt, .int .i64 x.sf, .int .i64 x.st, sv x.sig] 40] hst
 refine wl_callE (R := fun u e' => u = .tuple #[] ∧ ∃ v2, e' = bld T b (.pointer (some ⟨b, 0, none⟩)) v2 (bs ++ puts [2, x.frm, x.to, x.rf, x.rt, x.sf, x.st])) 0 hfr hst rfl (by decide) Tryz.call77 rfl (fun h => (numbers_ok T b _ _ _ _ [2, x.frm, x.to, x.rf, x.rt, x.sf, x.st] _ hlie (had) (hx) (by simp) (by simp <;> omega) (St.unjoin [bld T b (ad) v bs, own (.slice (some ⟨w1.heap.size, 0, none⟩) 7 7) 3 1 ([[.int .i64 2], [.int .i64 x.frm], [.int .i64 x.to], [.int .i64 x.rf], [.int .i64 x.rt], [.int .i64 x.sf], [.int .i64 x.st]])] [] h)).mono fun u w ⟨h1, v2, h2⟩ => ⟨_, ⟨h1, v2, rfl⟩, h2⟩) ?_
 clear hfr hst
 rintro a w3 _ _ ⟨rfl, v1, rfl⟩ hfr hst
 replace hst : St M w0 [bld T b (.pointer (some ⟨b, 0, none⟩)) v1 (bs ++ puts [2, x.frm, x.to, x.rf, x.rt, x.sf, x.st]), blk ws.heap.size [.int .i64 x.frm, .int .i64 x.to, .int .i64 x.rf, .int .i64 x.rt, .int .i64 x.sf, .int .i64 x.st, sv x.sig] 40] w3 := hst
 refine wl_nil ?_
 refine fin_end hfr Tryz.results65 resAre_nil ?_
 exact ⟨rfl, _, hst.select [0] (by decide)⟩
/-- dialtone/wish.seal -/
theorem seal_ok {M : Nat → Prop} {w0 : World} (key content : By) (g : FuncId) (caps : List Value) (ec : Ent) (ws : World) (hen : ∀ args w, (callFunc g args).run Tryz.prog w = .ok (.enter g args) w)
  (hc : ∀ {M : Nat → Prop} {w0 : World} (b : Nat) (v : Value) (ws : World), St M w0 [bld 133 b (.pointer none) v [], ec] ws → Ret Tryz.prog g ([Value.pointer (some ⟨b, 0, none⟩)] ++ caps).toArray ws fun u w => u = .tuple #[] ∧ ∃ v2, St M w0 [bld 133 b (.pointer (some ⟨b, 0, none⟩)) v2 content, ec] w)
  (hne : content ≠ []) (hkl : key.length ≤ 40000000) (hcl : content.length ≤ 40000000) (hst : St M w0 [blk 0 (kOf.map wv) 239, ec] ws) :
  Ret Tryz.prog 63 #[sv key, .func (.func g) #[] caps.toArray] ws fun u w => u = sv (sealH key content) ∧ St M w0 [blk 0 (kOf.map wv) 239, ec] w := by
 refine ret_of Tryz.func63 rfl Tryz.ntmps63 (Nat.le_of_ble_eq_true rfl) fun a hfr => ?_
 replace hfr : Fr 13 [(0, _), (1, _)] [] a := hfr
 skip
 refine wc_seq_region fun K1 hK1 => ?_
 refine wla hfr rfl fun a hfr => ?_
 refine wl_nil (hK1 _ _ ?_)
 refine wc_seq_region fun K2 hK2 => ?_
 refine wl_alloc hfr hst (by decide) (Tryz.zeroValue133 _) (cs := [.pointer none, .slice none 0 0]) rfl ?_
 clear hfr hst
 intro a w1 hfr hst
 refine wl_nil (hK2 _ _ ?_)
 refine wc_seq_region fun K3 hK3 => ?_
 refine wlm hfr rfl fun a hfr => ?_
 replace hst : St M w0 (own (.slice none 0 0) 5 1 [] :: [blk ws.heap.size [.pointer none, .slice none 0 0] 133, blk 0 (kOf.map wv) 239, ec]) w1 := hst.nil_own
 replace hst : St M w0 [blk ws.heap.size [.pointer none, .slice none 0 0] 133, own (.slice none 0 0) 5 1 ([]), ec, blk 0 (kOf.map wv) 239] w1 := hst.select [1, 0, 3, 2] (by decide)
 replace hst : St M w0 ([bld 133 (ws.heap.size) (.pointer none) (.slice none 0 0) [], ec] ++ [blk 0 (kOf.map wv) 239]) w1 := St.join [blk ws.heap.size [.pointer none, .slice none 0 0] 133, own (.slice none 0 0) 5 1 ([])] [ec, blk 0 (kOf.map wv) 239] hst
 replace hst := St.join _ _ hst
 refine wl_callEv (R := fun u e' => u = .tuple #[] ∧ ∃ v2, e' = join [bld 133 (ws.heap.size) (.pointer (some ⟨ws.heap.size, 0, none⟩)) v2 content, ec]) 0 hfr hst rfl (by decide) rfl hen rfl (fun h => (hc (ws.heap.size) _ _ (St.unjoin [bld 133 (ws.heap.size) (.pointer none) (.slice none 0 0) [], ec] [] h)).mono fun u w ⟨h1, v2, h2⟩ => ⟨_, ⟨h1, v2, rfl⟩, St.join _ [] h2⟩) ?_
 clear hfr hst
 rintro a w2 _ _ ⟨rfl, v1, rfl⟩ hfr hst
 replace hst : St M w0 [bld 133 (ws.heap.size) (.pointer (some ⟨ws.heap.size, 0, none⟩)) v1 content, ec, blk 0 (kOf.map wv) 239] w2 := St.unjoin [bld 133 (ws.heap.size) (.pointer (some ⟨ws.heap.size, 0, none⟩)) v1 content, ec] [blk 0 (kOf.map wv) 239] hst
 refine wl_nil (hK3 _ _ ?_)
 refine wc_seq_region fun K4 hK4 => ?_
 refine wlm hfr rfl fun a hfr => ?_
 refine wlv hfr (v_fieldAddr (v := .pointer (some ⟨ws.heap.size, 0, none⟩)) rfl (by kernel_rfl)) fun a hfr => ?_
 refine wl_callE (R := fun u e' => u = sv (content) ∧ e' = blk (ws.heap.size) [.pointer (some ⟨ws.heap.size, 0, none⟩), v1] 133) 0 hfr hst rfl (by decide) Tryz.call79 rfl (fun h => (bstring_ok 133 (ws.heap.size) _ _ _ hne h).mono fun u w ⟨h1, h2⟩ => ⟨_, ⟨h1, rfl⟩, h2⟩) ?_
 clear hfr hst
 rintro a w3 _ _ ⟨rfl, rfl⟩ hfr hst
 replace hst : St M w0 [blk (ws.heap.size) [.pointer (some ⟨ws.heap.size, 0, none⟩), v1] 133, ec, blk 0 (kOf.map wv) 239] w3 := hst
 refine wl_callp hfr hst (by decide) Tryz.call121 rfl (leaf_ok content _ (by omega) (hst.get (k := 2) rfl)) ?_
 clear hfr hst
 intro a w4 hfr hst
 refine wl_callp hfr hst (by decide) Tryz.call120 rfl (node_ok key (leafH sha content) _ (by omega) (by rw [leaf_len sha_len]; decide) (hst.get (k := 2) rfl)) ?_
 clear hfr hst
 intro a w5 hfr hst
 refine wla hfr rfl fun a hfr => ?_
 refine wl_nil (hK4 _ _ ?_)
 replace hfr : Fr 13 [(4, _)] [] a := hfr.pick [4]
 refine wc_ret ?_
 refine fin_ret hfr Tryz.results63 (resAre_tmp rfl resAre_nil) ?_
 exact ⟨rfl, hst.select [2, 1] (by decide)⟩
end Go.Proofs.YtmmfieceinmloaaGreatDoor
namespace Go.Proofs.YtmmfieceinmloaaGreatDoor
open Go.RowKit Go.PW
set_option linter.unusedVariables false
set_option linter.unusedSimpArgs false
set_option maxRecDepth 4000
/-- dialtone/wish.isKey -/
theorem isKey_ok (s : By) (w0 : World) :
  Ret Tryz.prog 56 #[sv s] w0 fun v w => v = .bool (decide ((s.length : Int) = 32)) ∧ Ext No w0 w := by
 refine ret_of Tryz.func56 rfl Tryz.ntmps56 (Nat.le_of_ble_eq_true rfl) fun a hfr => ?_
 replace hfr : Fr 6 [(0, _)] [] a := hfr
 replace hst : St No w0 [] w0 := St.init w0
 refine wc_seq_region fun K1 hK1 => ?_
 refine wla hfr rfl fun a hfr => ?_
 refine wl_nil (hK1 _ _ ?_)
 refine wc_seq_region fun K2 hK2 => ?_
 refine wlm hfr rfl fun a hfr => ?_
 refine wlv hfr (v_len_str rfl rfl (Tryz.runUnderlying9 _)) fun a hfr => ?_
 refine wlv hfr (v_eq rfl rfl) fun a hfr => ?_
 refine wla hfr rfl fun a hfr => ?_
 refine wl_nil (hK2 _ _ ?_)
 refine wc_ret ?_
 refine fin_ret hfr Tryz.results56 (resAre_tmp rfl resAre_nil) ?_
 exact ⟨by rfl, hst.ext⟩
/-- dialtone/wish.isWithin -/
theorem isWithin_ok (n lo hi : Int) (w0 : World) :
  Ret Tryz.prog 60 #[.int .i64 n, .int .i64 lo, .int .i64 hi] w0 fun v w => v = .bool (inB n lo hi) ∧ Ext No w0 w := by
 refine ret_of Tryz.func60 rfl Tryz.ntmps60 (Nat.le_of_ble_eq_true rfl) fun a hfr => ?_
 replace hfr : Fr 15 [(0, _), (1, _), (2, _)] [] a := hfr
 replace hst : St No w0 [] w0 := St.init w0
 refine wc_seq_region fun K1 hK1 => ?_
 refine wla hfr rfl fun a hfr => ?_
 refine wl_nil (hK1 _ _ ?_)
 refine wc_seq_region fun K2 hK2 => ?_
 refine wlm hfr rfl fun a hfr => ?_
 refine wlm hfr rfl fun a hfr => ?_
 refine wlv hfr (v_le rfl rfl) fun a hfr => ?_
 refine wlm hfr rfl fun a hfr => ?_
 refine wl_join (N := 15) (df := []) 4 [(14, .bool ((decide (lo ≤ n)) && (decide (n ≤ hi)))), (0, .int .i64 n), (1, .int .i64 lo), (2, .int .i64 hi), (6, .bool false)] ?_ (fun hj => ?_)
 rotate_left
 ·rcases Bool.eq_false_or_eq_true (decide (lo ≤ n)) with hb1 | hb1
  ·rw [hb1] at hfr
   have hb1b := hb1
   try simp only [qz, Bool.and_eq_true, Bool.or_eq_true, Bool.and_eq_false_iff, Bool.or_eq_false_iff] at hb1
   refine wly hfr (v_move rfl) fun a hfr => ?_
   refine wly hfr (v_move rfl) fun a hfr => ?_
   refine wly hfr (v_le rfl rfl) fun a hfr => ?_
   refine wlv hfr (v_pick_t rfl rfl) fun a hfr => ?_
   refine hj _ ?_
   try rw [hb1b]
   exact hfr.pick [14, 0, 1, 2, 6]
  rw [hb1] at hfr
  have hb1b := hb1
  try simp only [qz, Bool.and_eq_true, Bool.or_eq_true, Bool.and_eq_false_iff, Bool.or_eq_false_iff] at hb1
  refine wln hfr fun a hfr => ?_
  refine wln hfr fun a hfr => ?_
  refine wln hfr fun a hfr => ?_
  refine wlv hfr (v_pick_f rfl rfl) fun a hfr => ?_
  refine hj _ ?_
  try rw [hb1b]
  exact hfr.pick [14, 0, 1, 2, 6]
 intro a hfr
 refine wla hfr rfl fun a hfr => ?_
 refine wl_nil (hK2 _ _ ?_)
 refine wc_ret ?_
 refine fin_ret hfr Tryz.results60 (resAre_tmp rfl resAre_nil) ?_
 exact ⟨by rfl, hst.ext⟩
/-- dialtone/wish.isRange -/
theorem isRange_ok (b d : Int) (w0 : World) :
  Ret Tryz.prog 114 #[.agg #[.int .i64 b, .int .i64 d]] w0 fun v w => v = .bool (isRangeB b d) ∧ Ext No w0 w := by
 refine ret_of Tryz.func114 rfl Tryz.ntmps114 (Nat.le_of_ble_eq_true rfl) fun a hfr => ?_
 replace hfr : Fr 18 [(0, _)] [] a := hfr
 replace hst : St No w0 [] w0 := St.init w0
 refine wc_seq_region fun K1 hK1 => ?_
 refine wl_box hfr hst (by decide) rfl (cs := [.int .i64 b, .int .i64 d]) rfl ?_
 clear hfr hst
 intro a w1 hfr hst
 refine wla hfr rfl fun a hfr => ?_
 refine wl_nil (hK1 _ _ ?_)
 refine wc_seq_region fun K2 hK2 => ?_
 refine wlv hfr (v_fieldAddr (v := .pointer (some ⟨w0.heap.size, 0, none⟩)) rfl (by kernel_rfl)) fun a hfr => ?_
 refine wlv hfr (v_load_blk1 (hst.get (k := 0) rfl) rfl (Tryz.isAgg3 _) rfl) fun a hfr => ?_
 refine wlv hfr (v_le rfl rfl) fun a hfr => ?_
 refine wlm hfr rfl fun a hfr => ?_
 refine wl_join (N := 18) (df := []) 6 [(12, .bool ((decide (0 ≤ b)) && (decide (b < d)))), (0, .agg #[.int .i64 b, .int .i64 d]), (1, .pointer (some ⟨w0.heap.size, 0, none⟩)), (2, .bool false)] ?_ (fun hj => ?_)
 rotate_left
 ·rcases Bool.eq_false_or_eq_true (decide (0 ≤ b)) with hb1 | hb1
  ·rw [hb1] at hfr
   have hb1b := hb1
   try simp only [qz, Bool.and_eq_true, Bool.or_eq_true, Bool.and_eq_false_iff, Bool.or_eq_false_iff] at hb1
   refine wly hfr (v_fieldAddr (v := .pointer (some ⟨w0.heap.size, 0, none⟩)) rfl (by kernel_rfl)) fun a hfr => ?_
   refine wly hfr (v_load_blk1 (hst.get (k := 0) rfl) rfl (Tryz.isAgg3 _) rfl) fun a hfr => ?_
   refine wly hfr (v_fieldAddr (v := .pointer (some ⟨w0.heap.size, 1, none⟩)) rfl (by kernel_rfl)) fun a hfr => ?_
   refine wly hfr (v_load_blk1 (hst.get (k := 0) rfl) rfl (Tryz.isAgg3 _) rfl) fun a hfr => ?_
   refine wly hfr (v_lt rfl rfl) fun a hfr => ?_
   refine wlv hfr (v_pick_t rfl rfl) fun a hfr => ?_
   refine hj _ ?_
   try rw [hb1b]
   exact hfr.pick [12, 0, 1, 2]
  rw [hb1] at hfr
  have hb1b := hb1
  try simp only [qz, Bool.and_eq_true, Bool.or_eq_true, Bool.and_eq_false_iff, Bool.or_eq_false_iff] at hb1
  refine wln hfr fun a hfr => ?_
  refine wln hfr fun a hfr => ?_
  refine wln hfr fun a hfr => ?_
  refine wln hfr fun a hfr => ?_
  refine wln hfr fun a hfr => ?_
  refine wlv hfr (v_pick_f rfl rfl) fun a hfr => ?_
  refine hj _ ?_
  try rw [hb1b]
  exact hfr.pick [12, 0, 1, 2]
 intro a hfr
 refine wlm hfr rfl fun a hfr => ?_
 refine wl_join (N := 18) (df := []) 4 [(17, .bool (((decide (0 ≤ b)) && (decide (b < d))) && (decide (d ≤ 100000000)))), (0, .agg #[.int .i64 b, .int .i64 d]), (1, .pointer (some ⟨w0.heap.size, 0, none⟩)), (2, .bool false)] ?_ (fun hj => ?_)
 rotate_left
 ·rcases Bool.eq_false_or_eq_true ((decide (0 ≤ b)) && (decide (b < d))) with hb2 | hb2
  ·rw [hb2] at hfr
   have hb2b := hb2
   try simp only [qz, Bool.and_eq_true, Bool.or_eq_true, Bool.and_eq_false_iff, Bool.or_eq_false_iff] at hb2
   refine wly hfr (v_fieldAddr (v := .pointer (some ⟨w0.heap.size, 1, none⟩)) rfl (by kernel_rfl)) fun a hfr => ?_
   refine wly hfr (v_load_blk1 (hst.get (k := 0) rfl) rfl (Tryz.isAgg3 _) rfl) fun a hfr => ?_
   refine wly hfr (v_le rfl rfl) fun a hfr => ?_
   refine wlv hfr (v_pick_t rfl rfl) fun a hfr => ?_
   refine hj _ ?_
   try rw [hb2b]
   exact hfr.pick [17, 0, 1, 2]
  rw [hb2] at hfr
  have hb2b := hb2
  try simp only [qz, Bool.and_eq_true, Bool.or_eq_true, Bool.and_eq_false_iff, Bool.or_eq_false_iff] at hb2
  refine wln hfr fun a hfr => ?_
  refine wln hfr fun a hfr => ?_
  refine wln hfr fun a hfr => ?_
  refine wlv hfr (v_pick_f rfl rfl) fun a hfr => ?_
  refine hj _ ?_
  try rw [hb2b]
  exact hfr.pick [17, 0, 1, 2]
 intro a hfr
 refine wla hfr rfl fun a hfr => ?_
 refine wl_nil (hK2 _ _ ?_)
 refine wc_ret ?_
 refine fin_ret hfr Tryz.results114 (resAre_tmp rfl resAre_nil) ?_
 exact ⟨by rfl, hst.ext⟩
/-- dialtone/wish.isSpell -/
theorem isSpell_ok (b d : Int) (w0 : World) :
  Ret Tryz.prog 115 #[.agg #[.int .i64 b, .int .i64 d]] w0 fun v w => v = .bool (isSpellB b d) ∧ Ext No w0 w := by
 refine ret_of Tryz.func115 rfl Tryz.ntmps115 (Nat.le_of_ble_eq_true rfl) fun a hfr => ?_
 replace hfr : Fr 18 [(0, _)] [] a := hfr
 replace hst : St No w0 [] w0 := St.init w0
 refine wc_seq_region fun K1 hK1 => ?_
 refine wl_box hfr hst (by decide) rfl (cs := [.int .i64 b, .int .i64 d]) rfl ?_
 clear hfr hst
 intro a w1 hfr hst
 refine wla hfr rfl fun a hfr => ?_
 refine wl_nil (hK1 _ _ ?_)
 refine wc_seq_region fun K2 hK2 => ?_
 refine wlv hfr (v_fieldAddr (v := .pointer (some ⟨w0.heap.size, 0, none⟩)) rfl (by kernel_rfl)) fun a hfr => ?_
 refine wlv hfr (v_load_blk1 (hst.get (k := 0) rfl) rfl (Tryz.isAgg3 _) rfl) fun a hfr => ?_
 refine wlv hfr (v_le rfl rfl) fun a hfr => ?_
 refine wlm hfr rfl fun a hfr => ?_
 refine wl_join (N := 18) (df := []) 6 [(12, .bool ((decide (0 ≤ b)) && (decide (b < d)))), (0, .agg #[.int .i64 b, .int .i64 d]), (1, .pointer (some ⟨w0.heap.size, 0, none⟩)), (2, .bool false)] ?_ (fun hj => ?_)
 rotate_left
 ·rcases Bool.eq_false_or_eq_true (decide (0 ≤ b)) with hb1 | hb1
  ·rw [hb1] at hfr
   have hb1b := hb1
   try simp only [qz, Bool.and_eq_true, Bool.or_eq_true, Bool.and_eq_false_iff, Bool.or_eq_false_iff] at hb1
   refine wly hfr (v_fieldAddr (v := .pointer (some ⟨w0.heap.size, 0, none⟩)) rfl (by kernel_rfl)) fun a hfr => ?_
   refine wly hfr (v_load_blk1 (hst.get (k := 0) rfl) rfl (Tryz.isAgg3 _) rfl) fun a hfr => ?_
   refine wly hfr (v_fieldAddr (v := .pointer (some ⟨w0.heap.size, 1, none⟩)) rfl (by kernel_rfl)) fun a hfr => ?_
   refine wly hfr (v_load_blk1 (hst.get (k := 0) rfl) rfl (Tryz.isAgg3 _) rfl) fun a hfr => ?_
   refine wly hfr (v_lt rfl rfl) fun a hfr => ?_
   refine wlv hfr (v_pick_t rfl rfl) fun a hfr => ?_
   refine hj _ ?_
   try rw [hb1b]
   exact hfr.pick [12, 0, 1, 2]
  rw [hb1] at hfr
  have hb1b := hb1
  try simp only [qz, Bool.and_eq_true, Bool.or_eq_true, Bool.and_eq_false_iff, Bool.or_eq_false_iff] at hb1
  refine wln hfr fun a hfr => ?_
  refine wln hfr fun a hfr => ?_
  refine wln hfr fun a hfr => ?_
  refine wln hfr fun a hfr => ?_
  refine wln hfr fun a hfr => ?_
  refine wlv hfr (v_pick_f rfl rfl) fun a hfr => ?_
  refine hj _ ?_
  try rw [hb1b]
  exact hfr.pick [12, 0, 1, 2]
 intro a hfr
 refine wlm hfr rfl fun a hfr => ?_
 refine wl_join (N := 18) (df := []) 4 [(17, .bool (((decide (0 ≤ b)) && (decide (b < d))) && (decide (d ≤ 10000001)))), (0, .agg #[.int .i64 b, .int .i64 d]), (1, .pointer (some ⟨w0.heap.size, 0, none⟩)), (2, .bool false)] ?_ (fun hj => ?_)
 rotate_left
 ·rcases Bool.eq_false_or_eq_true ((decide (0 ≤ b)) && (decide (b < d))) with hb2 | hb2
  ·rw [hb2] at hfr
   have hb2b := hb2
   try simp only [qz, Bool.and_eq_true, Bool.or_eq_true, Bool.and_eq_false_iff, Bool.or_eq_false_iff] at hb2
   refine wly hfr (v_fieldAddr (v := .pointer (some ⟨w0.heap.size, 1, none⟩)) rfl (by kernel_rfl)) fun a hfr => ?_
   refine wly hfr (v_load_blk1 (hst.get (k := 0) rfl) rfl (Tryz.isAgg3 _) rfl) fun a hfr => ?_
   refine wly hfr (v_le rfl rfl) fun a hfr => ?_
   refine wlv hfr (v_pick_t rfl rfl) fun a hfr => ?_
   refine hj _ ?_
   try rw [hb2b]
   exact hfr.pick [17, 0, 1, 2]
  rw [hb2] at hfr
  have hb2b := hb2
  try simp only [qz, Bool.and_eq_true, Bool.or_eq_true, Bool.and_eq_false_iff, Bool.or_eq_false_iff] at hb2
  refine wln hfr fun a hfr => ?_
  refine wln hfr fun a hfr => ?_
  refine wln hfr fun a hfr => ?_
  refine wlv hfr (v_pick_f rfl rfl) fun a hfr => ?_
  refine hj _ ?_
  try rw [hb2b]
  exact hfr.pick [17, 0, 1, 2]
 intro a hfr
 refine wla hfr rfl fun a hfr => ?_
 refine wl_nil (hK2 _ _ ?_)
 refine wc_ret ?_
 refine fin_ret hfr Tryz.results115 (resAre_tmp rfl resAre_nil) ?_
 exact ⟨by rfl, hst.ext⟩
set_option maxHeartbeats 4000000 in
/-- dialtone/wish.isWish -/
theorem isWish_ok (x : Wsh) (w0 : World) :
  Ret Tryz.prog 58 #[.agg #[.int .i64 x.signer, .int .i64 x.holder, .int .i64 x.rf, .int .i64 x.rt, .int .i64 x.carrier, .int .i64 x.serial, .int .i64 x.sf, .int .i64 x.st, sv x.sig]] w0 fun v w => v = .bool x.ok ∧ Ext No w0 w := by
 refine ret_of Tryz.func58 rfl Tryz.ntmps58 (Nat.le_of_ble_eq_true rfl) fun a hfr => ?_
 replace hfr : Fr 33 [(0, _)] [] a := hfr
 replace hst : St No w0 [] w0 := St.init w0
 refine wc_seq_region fun K1 hK1 => ?_
 refine wl_box hfr hst (by decide) rfl (cs := [.int .i64 x.signer, .int .i64 x.holder, .int .i64 x.rf, .int .i64 x.rt, .int .i64 x.carrier, .int .i64 x.serial, .int .i64 x.sf, .int .i64 x.st, sv x.sig]) rfl ?_
 clear hfr hst
 intro a w1 hfr hst
 refine wla hfr rfl fun a hfr => ?_
 refine wl_nil (hK1 _ _ ?_)
 refine wc_seq_region fun K2 hK2 => ?_
 refine wlv hfr (v_fieldAddr (v := .pointer (some ⟨w0.heap.size, 0, none⟩)) rfl (by kernel_rfl)) fun a hfr => ?_
 refine wlv hfr (v_load_blk1 (hst.get (k := 0) rfl) rfl (Tryz.isAgg3 _) rfl) fun a hfr => ?_
 refine wl_callp hfr hst (by decide) Tryz.call60 rfl (isWithin_ok x.signer 0 63 _) ?_
 clear hfr hst
 intro a w2 hfr hst
 refine wlm hfr rfl fun a hfr => ?_
 rcases Bool.eq_false_or_eq_true (inB x.signer 0 63) with hb1 | hb1
 ·rw [hb1] at hfr
  try simp only [qz] at hb1
  refine wly hfr (v_fieldAddr (v := .pointer (some ⟨w0.heap.size, 1, none⟩)) rfl (by kernel_rfl)) fun a hfr => ?_
  refine wly hfr (v_load_blk1 (hst.get (k := 0) rfl) rfl (Tryz.isAgg3 _) rfl) fun a hfr => ?_
  refine wl_callpy hfr hst (by decide) rfl (by decide) rfl Tryz.call60 rfl (isWithin_ok x.holder 0 63 _) ?_
  clear hfr hst
  intro a w3 hfr hst
  refine wlv hfr (v_pick_t rfl rfl) fun a hfr => ?_
  refine wla hfr rfl fun a hfr => ?_
  refine wl_nil (hK2 _ _ ?_)
  replace hfr : Fr 33 [(1, _), (2, _), (3, _)] [] a := hfr.pick [1, 2, 3]
  refine wc_seq_region fun K3 hK3 => ?_
  refine wlm hfr rfl fun a hfr => ?_
  refine wlm hfr rfl fun a hfr => ?_
  rcases Bool.eq_false_or_eq_true (inB x.holder 0 63) with hb2 | hb2
  ·rw [hb2] at hfr
   try simp only [qz] at hb2
   refine wly hfr (v_fieldAddr (v := .pointer (some ⟨w0.heap.size, 2, none⟩)) rfl (by kernel_rfl)) fun a hfr => ?_
   refine wly hfr (v_load_blk (ds := [.int .i64 x.rf, .int .i64 x.rt]) (hst.get (k := 0) rfl) rfl (Tryz.isAgg27 _) (Tryz.sizeOf27 _) rfl) fun a hfr => ?_
   refine wl_callpy hfr hst (by decide) rfl (by decide) rfl Tryz.call114 rfl (isRange_ok x.rf x.rt _) ?_
   clear hfr hst
   intro a w4 hfr hst
   refine wlv hfr (v_pick_t rfl rfl) fun a hfr => ?_
   refine wlm hfr rfl fun a hfr => ?_
   rcases Bool.eq_false_or_eq_true (isRangeB x.rf x.rt) with hb3 | hb3
   ·rw [hb3] at hfr
    try simp only [qz] at hb3
    refine wly hfr (v_fieldAddr (v := .pointer (some ⟨w0.heap.size, 4, none⟩)) rfl (by kernel_rfl)) fun a hfr => ?_
    refine wly hfr (v_load_blk1 (hst.get (k := 0) rfl) rfl (Tryz.isAgg3 _) rfl) fun a hfr => ?_
    refine wl_callpy hfr hst (by decide) rfl (by decide) rfl Tryz.call60 rfl (isWithin_ok x.carrier 0 7 _) ?_
    clear hfr hst
    intro a w5 hfr hst
    refine wlv hfr (v_pick_t rfl rfl) fun a hfr => ?_
    refine wlm hfr rfl fun a hfr => ?_
    rcases Bool.eq_false_or_eq_true (inB x.carrier 0 7) with hb4 | hb4
    ·rw [hb4] at hfr
     try simp only [qz] at hb4
     refine wly hfr (v_fieldAddr (v := .pointer (some ⟨w0.heap.size, 5, none⟩)) rfl (by kernel_rfl)) fun a hfr => ?_
     refine wly hfr (v_load_blk1 (hst.get (k := 0) rfl) rfl (Tryz.isAgg3 _) rfl) fun a hfr => ?_
     refine wl_callpy hfr hst (by decide) rfl (by decide) rfl Tryz.call60 rfl (isWithin_ok x.serial 0 1000000 _) ?_
     clear hfr hst
     intro a w6 hfr hst
     refine wlv hfr (v_pick_t rfl rfl) fun a hfr => ?_
     refine wlm hfr rfl fun a hfr => ?_
     rcases Bool.eq_false_or_eq_true (inB x.serial 0 1000000) with hb5 | hb5
     ·rw [hb5] at hfr
      try simp only [qz] at hb5
      refine wly hfr (v_fieldAddr (v := .pointer (some ⟨w0.heap.size, 6, none⟩)) rfl (by kernel_rfl)) fun a hfr => ?_
      refine wly hfr (v_load_blk (ds := [.int .i64 x.sf, .int .i64 x.st]) (hst.get (k := 0) rfl) rfl (Tryz.isAgg28 _) (Tryz.sizeOf28 _) rfl) fun a hfr => ?_
      refine wl_callpy hfr hst (by decide) rfl (by decide) rfl Tryz.call115 rfl (isSpell_ok x.sf x.st _) ?_
      clear hfr hst
      intro a w7 hfr hst
      refine wlv hfr (v_pick_t rfl rfl) fun a hfr => ?_
      refine wla hfr rfl fun a hfr => ?_
      refine wl_nil (hK3 _ _ ?_)
      replace hfr : Fr 33 [(2, _)] [] a := hfr.pick [2]
      replace hst : St No w0 [] w7 := hst.mask [false]
      refine wc_ret ?_
      refine fin_ret hfr Tryz.results58 (resAre_tmp rfl resAre_nil) ?_
      exact ⟨by simp only [retv]; unfold Wsh.ok; simp [hb1, hb2, hb3, hb4, hb5], hst.ext⟩
     rw [hb5] at hfr
     try simp only [qz] at hb5
     refine wln hfr fun a hfr => ?_
     refine wln hfr fun a hfr => ?_
     refine wln hfr fun a hfr => ?_
     refine wlv hfr (v_pick_f rfl rfl) fun a hfr => ?_
     refine wla hfr rfl fun a hfr => ?_
     refine wl_nil (hK3 _ _ ?_)
     replace hfr : Fr 33 [(2, _)] [] a := hfr.pick [2]
     replace hst : St No w0 [] w6 := hst.mask [false]
     refine wc_ret ?_
     refine fin_ret hfr Tryz.results58 (resAre_tmp rfl resAre_nil) ?_
     exact ⟨by simp only [retv]; unfold Wsh.ok; simp [hb1, hb2, hb3, hb4, hb5], hst.ext⟩
    rw [hb4] at hfr
    try simp only [qz] at hb4
    refine wln hfr fun a hfr => ?_
    refine wln hfr fun a hfr => ?_
    refine wln hfr fun a hfr => ?_
    refine wlv hfr (v_pick_f rfl rfl) fun a hfr => ?_
    refine wlm hfr rfl fun a hfr => ?_
    refine wln hfr fun a hfr => ?_
    refine wln hfr fun a hfr => ?_
    refine wln hfr fun a hfr => ?_
    refine wlv hfr (v_pick_f rfl rfl) fun a hfr => ?_
    refine wla hfr rfl fun a hfr => ?_
    refine wl_nil (hK3 _ _ ?_)
    replace hfr : Fr 33 [(2, _)] [] a := hfr.pick [2]
    replace hst : St No w0 [] w5 := hst.mask [false]
    refine wc_ret ?_
    refine fin_ret hfr Tryz.results58 (resAre_tmp rfl resAre_nil) ?_
    exact ⟨by simp only [retv]; unfold Wsh.ok; simp [hb1, hb2, hb3, hb4], hst.ext⟩
   rw [hb3] at hfr
   try simp only [qz] at hb3
   refine wln hfr fun a hfr => ?_
   refine wln hfr fun a hfr => ?_
   refine wln hfr fun a hfr => ?_
   refine wlv hfr (v_pick_f rfl rfl) fun a hfr => ?_
   refine wlm hfr rfl fun a hfr => ?_
   refine wln hfr fun a hfr => ?_
   refine wln hfr fun a hfr => ?_
   refine wln hfr fun a hfr => ?_
   refine wlv hfr (v_pick_f rfl rfl) fun a hfr => ?_
   refine wlm hfr rfl fun a hfr => ?_
   refine wln hfr fun a hfr => ?_
   refine wln hfr fun a hfr => ?_
   refine wln hfr fun a hfr => ?_
   refine wlv hfr (v_pick_f rfl rfl) fun a hfr => ?_
   refine wla hfr rfl fun a hfr => ?_
   refine wl_nil (hK3 _ _ ?_)
   replace hfr : Fr 33 [(2, _)] [] a := hfr.pick [2]
   replace hst : St No w0 [] w4 := hst.mask [false]
   refine wc_ret ?_
   refine fin_ret hfr Tryz.results58 (resAre_tmp rfl resAre_nil) ?_
   exact ⟨by simp only [retv]; unfold Wsh.ok; simp [hb1, hb2, hb3], hst.ext⟩
  rw [hb2] at hfr
  try simp only [qz] at hb2
  refine wln hfr fun a hfr => ?_
  refine wln hfr fun a hfr => ?_
  refine wln hfr fun a hfr => ?_
  refine wlv hfr (v_pick_f rfl rfl) fun a hfr => ?_
  refine wlm hfr rfl fun a hfr => ?_
  refine wln hfr fun a hfr => ?_
  refine wln hfr fun a hfr => ?_
  refine wln hfr fun a hfr => ?_
  refine wlv hfr (v_pick_f rfl rfl) fun a hfr => ?_
  refine wlm hfr rfl fun a hfr => ?_
  refine wln hfr fun a hfr => ?_
  refine wln hfr fun a hfr => ?_
  refine wln hfr fun a hfr => ?_
  refine wlv hfr (v_pick_f rfl rfl) fun a hfr => ?_
  refine wlm hfr rfl fun a hfr => ?_
  refine wln hfr fun a hfr => ?_
  refine wln hfr fun a hfr => ?_
  refine wln hfr fun a hfr => ?_
  refine wlv hfr (v_pick_f rfl rfl) fun a hfr => ?_
  refine wla hfr rfl fun a hfr => ?_
  refine wl_nil (hK3 _ _ ?_)
  replace hfr : Fr 33 [(2, _)] [] a := hfr.pick [2]
  replace hst : St No w0 [] w3 := hst.mask [false]
  refine wc_ret ?_
  refine fin_ret hfr Tryz.results58 (resAre_tmp rfl resAre_nil) ?_
  exact ⟨by simp only [retv]; unfold Wsh.ok; simp [hb1, hb2], hst.ext⟩
 rw [hb1] at hfr
 try simp only [qz] at hb1
 refine wln hfr fun a hfr => ?_
 refine wln hfr fun a hfr => ?_
 refine wln hfr fun a hfr => ?_
 refine wlv hfr (v_pick_f rfl rfl) fun a hfr => ?_
 refine wla hfr rfl fun a hfr => ?_
 refine wl_nil (hK2 _ _ ?_)
 replace hfr : Fr 33 [(1, _), (2, _), (3, _)] [] a := hfr.pick [1, 2, 3]
 refine wc_seq_region fun K4 hK4 => ?_
 refine wlm hfr rfl fun a hfr => ?_
 refine wlm hfr rfl fun a hfr => ?_
 refine wln hfr fun a hfr => ?_
 refine wln hfr fun a hfr => ?_
 refine wln hfr fun a hfr => ?_
 refine wlv hfr (v_pick_f rfl rfl) fun a hfr => ?_
 refine wlm hfr rfl fun a hfr => ?_
 refine wln hfr fun a hfr => ?_
 refine wln hfr fun a hfr => ?_
 refine wln hfr fun a hfr => ?_
 refine wlv hfr (v_pick_f rfl rfl) fun a hfr => ?_
 refine wlm hfr rfl fun a hfr => ?_
 refine wln hfr fun a hfr => ?_
 refine wln hfr fun a hfr => ?_
 refine wln hfr fun a hfr => ?_
 refine wlv hfr (v_pick_f rfl rfl) fun a hfr => ?_
 refine wlm hfr rfl fun a hfr => ?_
 refine wln hfr fun a hfr => ?_
 refine wln hfr fun a hfr => ?_
 refine wln hfr fun a hfr => ?_
 refine wlv hfr (v_pick_f rfl rfl) fun a hfr => ?_
 refine wla hfr rfl fun a hfr => ?_
 refine wl_nil (hK4 _ _ ?_)
 replace hfr : Fr 33 [(2, _)] [] a := hfr.pick [2]
 replace hst : St No w0 [] w2 := hst.mask [false]
 refine wc_ret ?_
 refine fin_ret hfr Tryz.results58 (resAre_tmp rfl resAre_nil) ?_
 exact ⟨by simp only [retv]; unfold Wsh.ok; simp [hb1], hst.ext⟩
set_option maxHeartbeats 4000000 in
/-- dialtone/wish.isProxy -/
theorem isProxy_ok (x : Pxy) (w0 : World) :
  Ret Tryz.prog 73 #[.agg #[.int .i64 x.frm, .int .i64 x.to, .int .i64 x.rf, .int .i64 x.rt, .int .i64 x.sf, .int .i64 x.st, sv x.sig]] w0 fun v w => v = .bool x.ok ∧ Ext No w0 w := by
 refine ret_of Tryz.func73 rfl Tryz.ntmps73 (Nat.le_of_ble_eq_true rfl) fun a hfr => ?_
 replace hfr : Fr 30 [(0, _)] [] a := hfr
 replace hst : St No w0 [] w0 := St.init w0
 refine wc_seq_region fun K1 hK1 => ?_
 refine wl_box hfr hst (by decide) rfl (cs := [.int .i64 x.frm, .int .i64 x.to, .int .i64 x.rf, .int .i64 x.rt, .int .i64 x.sf, .int .i64 x.st, sv x.sig]) rfl ?_
 clear hfr hst
 intro a w1 hfr hst
 refine wla hfr rfl fun a hfr => ?_
 refine wl_nil (hK1 _ _ ?_)
 refine wc_seq_region fun K2 hK2 => ?_
 refine wlv hfr (v_fieldAddr (v := .pointer (some ⟨w0.heap.size, 0, none⟩)) rfl (by kernel_rfl)) fun a hfr => ?_
 refine wlv hfr (v_load_blk1 (hst.get (k := 0) rfl) rfl (Tryz.isAgg3 _) rfl) fun a hfr => ?_
 refine wl_callp hfr hst (by decide) Tryz.call60 rfl (isWithin_ok x.frm 0 63 _) ?_
 clear hfr hst
 intro a w2 hfr hst
 refine wlm hfr rfl fun a hfr => ?_
 rcases Bool.eq_false_or_eq_true (inB x.frm 0 63) with hb1 | hb1
 ·rw [hb1] at hfr
  try simp only [qz] at hb1
  refine wly hfr (v_fieldAddr (v := .pointer (some ⟨w0.heap.size, 1, none⟩)) rfl (by kernel_rfl)) fun a hfr => ?_
  refine wly hfr (v_load_blk1 (hst.get (k := 0) rfl) rfl (Tryz.isAgg3 _) rfl) fun a hfr => ?_
  refine wl_callpy hfr hst (by decide) rfl (by decide) rfl Tryz.call60 rfl (isWithin_ok x.to 0 63 _) ?_
  clear hfr hst
  intro a w3 hfr hst
  refine wlv hfr (v_pick_t rfl rfl) fun a hfr => ?_
  refine wlm hfr rfl fun a hfr => ?_
  rcases Bool.eq_false_or_eq_true (inB x.to 0 63) with hb2 | hb2
  ·rw [hb2] at hfr
   try simp only [qz] at hb2
   refine wly hfr (v_fieldAddr (v := .pointer (some ⟨w0.heap.size, 0, none⟩)) rfl (by kernel_rfl)) fun a hfr => ?_
   refine wly hfr (v_load_blk1 (hst.get (k := 0) rfl) rfl (Tryz.isAgg3 _) rfl) fun a hfr => ?_
   refine wly hfr (v_fieldAddr (v := .pointer (some ⟨w0.heap.size, 1, none⟩)) rfl (by kernel_rfl)) fun a hfr => ?_
   refine wly hfr (v_load_blk1 (hst.get (k := 0) rfl) rfl (Tryz.isAgg3 _) rfl) fun a hfr => ?_
   refine wly hfr (v_ne rfl rfl) fun a hfr => ?_
   refine wlv hfr (v_pick_t rfl rfl) fun a hfr => ?_
   refine wla hfr rfl fun a hfr => ?_
   refine wl_nil (hK2 _ _ ?_)
   replace hfr : Fr 30 [(1, _), (2, _), (3, _)] [] a := hfr.pick [1, 2, 3]
   refine wc_seq_region fun K3 hK3 => ?_
   refine wlm hfr rfl fun a hfr => ?_
   refine wlm hfr rfl fun a hfr => ?_
   rcases Bool.eq_false_or_eq_true (!decide (x.frm = x.to)) with hb3 | hb3
   ·rw [hb3] at hfr
    try simp only [qz] at hb3
    refine wly hfr (v_fieldAddr (v := .pointer (some ⟨w0.heap.size, 2, none⟩)) rfl (by kernel_rfl)) fun a hfr => ?_
    refine wly hfr (v_load_blk (ds := [.int .i64 x.rf, .int .i64 x.rt]) (hst.get (k := 0) rfl) rfl (Tryz.isAgg27 _) (Tryz.sizeOf27 _) rfl) fun a hfr => ?_
    refine wl_callpy hfr hst (by decide) rfl (by decide) rfl Tryz.call114 rfl (isRange_ok x.rf x.rt _) ?_
    clear hfr hst
    intro a w4 hfr hst
    refine wlv hfr (v_pick_t rfl rfl) fun a hfr => ?_
    refine wlm hfr rfl fun a hfr => ?_
    rcases Bool.eq_false_or_eq_true (isRangeB x.rf x.rt) with hb4 | hb4
    ·rw [hb4] at hfr
     try simp only [qz] at hb4
     refine wly hfr (v_fieldAddr (v := .pointer (some ⟨w0.heap.size, 4, none⟩)) rfl (by kernel_rfl)) fun a hfr => ?_
     refine wly hfr (v_load_blk (ds := [.int .i64 x.sf, .int .i64 x.st]) (hst.get (k := 0) rfl) rfl (Tryz.isAgg28 _) (Tryz.sizeOf28 _) rfl) fun a hfr => ?_
     refine wl_callpy hfr hst (by decide) rfl (by decide) rfl Tryz.call115 rfl (isSpell_ok x.sf x.st _) ?_
     clear hfr hst
     intro a w5 hfr hst
     refine wlv hfr (v_pick_t rfl rfl) fun a hfr => ?_
     refine wla hfr rfl fun a hfr => ?_
     refine wl_nil (hK3 _ _ ?_)
     replace hfr : Fr 30 [(2, _)] [] a := hfr.pick [2]
     replace hst : St No w0 [] w5 := hst.mask [false]
     refine wc_ret ?_
     refine fin_ret hfr Tryz.results73 (resAre_tmp rfl resAre_nil) ?_
     exact ⟨by simp only [retv]; unfold Pxy.ok; simp [hb1, hb2, hb3, hb4], hst.ext⟩
    rw [hb4] at hfr
    try simp only [qz] at hb4
    refine wln hfr fun a hfr => ?_
    refine wln hfr fun a hfr => ?_
    refine wln hfr fun a hfr => ?_
    refine wlv hfr (v_pick_f rfl rfl) fun a hfr => ?_
    refine wla hfr rfl fun a hfr => ?_
    refine wl_nil (hK3 _ _ ?_)
    replace hfr : Fr 30 [(2, _)] [] a := hfr.pick [2]
    replace hst : St No w0 [] w4 := hst.mask [false]
    refine wc_ret ?_
    refine fin_ret hfr Tryz.results73 (resAre_tmp rfl resAre_nil) ?_
    exact ⟨by simp only [retv]; unfold Pxy.ok; simp [hb1, hb2, hb3, hb4], hst.ext⟩
   rw [hb3] at hfr
   try simp only [qz] at hb3
   refine wln hfr fun a hfr => ?_
   refine wln hfr fun a hfr => ?_
   refine wln hfr fun a hfr => ?_
   refine wlv hfr (v_pick_f rfl rfl) fun a hfr => ?_
   refine wlm hfr rfl fun a hfr => ?_
   refine wln hfr fun a hfr => ?_
   refine wln hfr fun a hfr => ?_
   refine wln hfr fun a hfr => ?_
   refine wlv hfr (v_pick_f rfl rfl) fun a hfr => ?_
   refine wla hfr rfl fun a hfr => ?_
   refine wl_nil (hK3 _ _ ?_)
   replace hfr : Fr 30 [(2, _)] [] a := hfr.pick [2]
   replace hst : St No w0 [] w3 := hst.mask [false]
   refine wc_ret ?_
   refine fin_ret hfr Tryz.results73 (resAre_tmp rfl resAre_nil) ?_
   exact ⟨by simp only [retv]; unfold Pxy.ok; simp [hb1, hb2, hb3], hst.ext⟩
  rw [hb2] at hfr
  try simp only [qz] at hb2
  refine wln hfr fun a hfr => ?_
  refine wln hfr fun a hfr => ?_
  refine wln hfr fun a hfr => ?_
  refine wln hfr fun a hfr => ?_
  refine wln hfr fun a hfr => ?_
  refine wlv hfr (v_pick_f rfl rfl) fun a hfr => ?_
  refine wla hfr rfl fun a hfr => ?_
  refine wl_nil (hK2 _ _ ?_)
  replace hfr : Fr 30 [(1, _), (2, _), (3, _)] [] a := hfr.pick [1, 2, 3]
  refine wc_seq_region fun K4 hK4 => ?_
  refine wlm hfr rfl fun a hfr => ?_
  refine wlm hfr rfl fun a hfr => ?_
  refine wln hfr fun a hfr => ?_
  refine wln hfr fun a hfr => ?_
  refine wln hfr fun a hfr => ?_
  refine wlv hfr (v_pick_f rfl rfl) fun a hfr => ?_
  refine wlm hfr rfl fun a hfr => ?_
  refine wln hfr fun a hfr => ?_
  refine wln hfr fun a hfr => ?_
  refine wln hfr fun a hfr => ?_
  refine wlv hfr (v_pick_f rfl rfl) fun a hfr => ?_
  refine wla hfr rfl fun a hfr => ?_
  refine wl_nil (hK4 _ _ ?_)
  replace hfr : Fr 30 [(2, _)] [] a := hfr.pick [2]
  replace hst : St No w0 [] w3 := hst.mask [false]
  refine wc_ret ?_
  refine fin_ret hfr Tryz.results73 (resAre_tmp rfl resAre_nil) ?_
  exact ⟨by simp only [retv]; unfold Pxy.ok; simp [hb1, hb2], hst.ext⟩
 rw [hb1] at hfr
 try simp only [qz] at hb1
 refine wln hfr fun a hfr => ?_
 refine wln hfr fun a hfr => ?_
 refine wln hfr fun a hfr => ?_
 refine wlv hfr (v_pick_f rfl rfl) fun a hfr => ?_
 refine wlm hfr rfl fun a hfr => ?_
 refine wln hfr fun a hfr => ?_
 refine wln hfr fun a hfr => ?_
 refine wln hfr fun a hfr => ?_
 refine wln hfr fun a hfr => ?_
 refine wln hfr fun a hfr => ?_
 refine wlv hfr (v_pick_f rfl rfl) fun a hfr => ?_
 refine wla hfr rfl fun a hfr => ?_
 refine wl_nil (hK2 _ _ ?_)
 replace hfr : Fr 30 [(1, _), (2, _), (3, _)] [] a := hfr.pick [1, 2, 3]
 refine wc_seq_region fun K5 hK5 => ?_
 refine wlm hfr rfl fun a hfr => ?_
 refine wlm hfr rfl fun a hfr => ?_
 refine wln hfr fun a hfr => ?_
 refine wln hfr fun a hfr => ?_
 refine wln hfr fun a hfr => ?_
 refine wlv hfr (v_pick_f rfl rfl) fun a hfr => ?_
 refine wlm hfr rfl fun a hfr => ?_
 refine wln hfr fun a hfr => ?_
 refine wln hfr fun a hfr => ?_
 refine wln hfr fun a hfr => ?_
 refine wlv hfr (v_pick_f rfl rfl) fun a hfr => ?_
 refine wla hfr rfl fun a hfr => ?_
 refine wl_nil (hK5 _ _ ?_)
 replace hfr : Fr 30 [(2, _)] [] a := hfr.pick [2]
 replace hst : St No w0 [] w2 := hst.mask [false]
 refine wc_ret ?_
 refine fin_ret hfr Tryz.results73 (resAre_tmp rfl resAre_nil) ?_
 exact ⟨by simp only [retv]; unfold Pxy.ok; simp [hb1], hst.ext⟩
/-- dialtone/wish.SignWish$1 -/
theorem sw1_run {M : Nat → Prop} {w0 : World} (b bx : Nat) (v : Value) (x : Wsh) (ws : World) (hx : smalls x.nums) (hst : St M w0 [bld 133 b (.pointer none) v ([] : By), blk bx [.int .i64 x.signer, .int .i64 x.holder, .int .i64 x.rf, .int .i64 x.rt, .int .i64 x.carrier, .int .i64 x.serial, .int .i64 x.sf, .int .i64 x.st, sv x.sig] 30] ws) :
  Ret Tryz.prog 72 #[.pointer (some ⟨b, 0, none⟩), .pointer (some ⟨bx, 0, none⟩)] ws fun u w => u = .tuple #[] ∧ ∃ v2, St M w0 [bld 133 b (.pointer (some ⟨b, 0, none⟩)) v2 x.content, blk bx [.int .i64 x.signer, .int .i64 x.holder, .int .i64 x.rf, .int .i64 x.rt, .int .i64 x.carrier, .int .i64 x.serial, .int .i64 x.sf, .int .i64 x.st, sv x.sig] 30] w := by
 refine ret_of Tryz.func72 rfl Tryz.ntmps72 (Nat.le_of_ble_eq_true rfl) fun a hfr => ?_
 replace hfr : Fr 6 [(0, _), (1, _)] [] a := hfr
 skip
 refine wc_region ?_
 refine wlm hfr rfl fun a hfr => ?_
 refine wlv hfr (v_load_all (hst.get (k := 1) rfl) rfl (Tryz.isAgg30 _) (Tryz.sizeOf30 _)) fun a hfr => ?_
 refine wl_callE (R := fun u e' => u = .tuple #[] ∧ ∃ v2, e' = bld 133 b (.pointer (some ⟨b, 0, none⟩)) v2 (([] : By) ++ x.content)) 0 hfr hst rfl (by decide) Tryz.call67 rfl (fun h => (wwish_ok 133 b _ _ _ x _ (by kernel_rfl) (.inl rfl) hx (by simp) h).mono fun u w ⟨h1, v2, h2⟩ => ⟨_, ⟨h1, v2, rfl⟩, h2⟩) ?_
 clear hfr hst
 rintro a w1 _ _ ⟨rfl, v1, rfl⟩ hfr hst
 replace hst : St M w0 [bld 133 b (.pointer (some ⟨b, 0, none⟩)) v1 (([] : By) ++ x.content), blk bx [.int .i64 x.signer, .int .i64 x.holder, .int .i64 x.rf, .int .i64 x.rt, .int .i64 x.carrier, .int .i64 x.serial, .int .i64 x.sf, .int .i64 x.st, sv x.sig] 30] w1 := hst
 refine wl_nil ?_
 refine fin_end hfr Tryz.results72 resAre_nil ?_
 exact ⟨rfl, _, hst.select [0, 1] (by decide)⟩
/-- dialtone/wish.SignProxy$1 -/
theorem sp1_run {M : Nat → Prop} {w0 : World} (b bx : Nat) (v : Value) (x : Pxy) (ws : World) (hx : smalls x.nums) (hst : St M w0 [bld 133 b (.pointer none) v ([] : By), blk bx [.int .i64 x.frm, .int .i64 x.to, .int .i64 x.rf, .int .i64 x.rt, .int .i64 x.sf, .int .i64 x.st, sv x.sig] 40] ws) :
  Ret Tryz.prog 74 #[.pointer (some ⟨b, 0, none⟩), .pointer (some ⟨bx, 0, none⟩)] ws fun u w => u = .tuple #[] ∧ ∃ v2, St M w0 [bld 133 b (.pointer (some ⟨b, 0, none⟩)) v2 x.content, blk bx [.int .i64 x.frm, .int .i64 x.to, .int .i64 x.rf, .int .i64 x.rt, .int .i64 x.sf, .int .i64 x.st, sv x.sig] 40] w := by
 refine ret_of Tryz.func74 rfl Tryz.ntmps74 (Nat.le_of_ble_eq_true rfl) fun a hfr => ?_
 replace hfr : Fr 6 [(0, _), (1, _)] [] a := hfr
 skip
 refine wc_region ?_
 refine wlm hfr rfl fun a hfr => ?_
 refine wlv hfr (v_load_all (hst.get (k := 1) rfl) rfl (Tryz.isAgg40 _) (Tryz.sizeOf40 _)) fun a hfr => ?_
 refine wl_callE (R := fun u e' => u = .tuple #[] ∧ ∃ v2, e' = bld 133 b (.pointer (some ⟨b, 0, none⟩)) v2 (([] : By) ++ x.content)) 0 hfr hst rfl (by decide) Tryz.call65 rfl (fun h => (wproxy_ok 133 b _ _ _ x _ (by kernel_rfl) (.inl rfl) hx (by simp) h).mono fun u w ⟨h1, v2, h2⟩ => ⟨_, ⟨h1, v2, rfl⟩, h2⟩) ?_
 clear hfr hst
 rintro a w1 _ _ ⟨rfl, v1, rfl⟩ hfr hst
 replace hst : St M w0 [bld 133 b (.pointer (some ⟨b, 0, none⟩)) v1 (([] : By) ++ x.content), blk bx [.int .i64 x.frm, .int .i64 x.to, .int .i64 x.rf, .int .i64 x.rt, .int .i64 x.sf, .int .i64 x.st, sv x.sig] 40] w1 := hst
 refine wl_nil ?_
 refine fin_end hfr Tryz.results74 resAre_nil ?_
 exact ⟨rfl, _, hst.select [0, 1] (by decide)⟩
/-- dialtone/wish.Why$2 -/
theorem wp2_run {M : Nat → Prop} {w0 : World} (b bx : Nat) (v : Value) (x : Pxy) (ws : World) (hx : smalls x.nums) (hst : St M w0 [bld 133 b (.pointer none) v ([] : By), blk bx [.int .i64 x.frm, .int .i64 x.to, .int .i64 x.rf, .int .i64 x.rt, .int .i64 x.sf, .int .i64 x.st, sv x.sig] 40] ws) :
  Ret Tryz.prog 64 #[.pointer (some ⟨b, 0, none⟩), .pointer (some ⟨bx, 0, none⟩)] ws fun u w => u = .tuple #[] ∧ ∃ v2, St M w0 [bld 133 b (.pointer (some ⟨b, 0, none⟩)) v2 x.content, blk bx [.int .i64 x.frm, .int .i64 x.to, .int .i64 x.rf, .int .i64 x.rt, .int .i64 x.sf, .int .i64 x.st, sv x.sig] 40] w := by
 refine ret_of Tryz.func64 rfl Tryz.ntmps64 (Nat.le_of_ble_eq_true rfl) fun a hfr => ?_
 replace hfr : Fr 6 [(0, _), (1, _)] [] a := hfr
 skip
 refine wc_region ?_
 refine wlm hfr rfl fun a hfr => ?_
 refine wlv hfr (v_load_all (hst.get (k := 1) rfl) rfl (Tryz.isAgg40 _) (Tryz.sizeOf40 _)) fun a hfr => ?_
 refine wl_callE (R := fun u e' => u = .tuple #[] ∧ ∃ v2, e' = bld 133 b (.pointer (some ⟨b, 0, none⟩)) v2 (([] : By) ++ x.content)) 0 hfr hst rfl (by decide) Tryz.call65 rfl (fun h => (wproxy_ok 133 b _ _ _ x _ (by kernel_rfl) (.inl rfl) hx (by simp) h).mono fun u w ⟨h1, v2, h2⟩ => ⟨_, ⟨h1, v2, rfl⟩, h2⟩) ?_
 clear hfr hst
 rintro a w1 _ _ ⟨rfl, v1, rfl⟩ hfr hst
 replace hst : St M w0 [bld 133 b (.pointer (some ⟨b, 0, none⟩)) v1 (([] : By) ++ x.content), blk bx [.int .i64 x.frm, .int .i64 x.to, .int .i64 x.rf, .int .i64 x.rt, .int .i64 x.sf, .int .i64 x.st, sv x.sig] 40] w1 := hst
 refine wl_nil ?_
 refine fin_end hfr Tryz.results64 resAre_nil ?_
 exact ⟨rfl, _, hst.select [0, 1] (by decide)⟩
/-- dialtone/wish.Why$3 -/
theorem ww3_run {M : Nat → Prop} {w0 : World} (b bx : Nat) (v : Value) (x : Wsh) (ws : World) (hx : smalls x.nums) (hst : St M w0 [bld 133 b (.pointer none) v ([] : By), blk bx [.int .i64 x.signer, .int .i64 x.holder, .int .i64 x.rf, .int .i64 x.rt, .int .i64 x.carrier, .int .i64 x.serial, .int .i64 x.sf, .int .i64 x.st, sv x.sig] 30] ws) :
  Ret Tryz.prog 66 #[.pointer (some ⟨b, 0, none⟩), .pointer (some ⟨bx, 0, none⟩)] ws fun u w => u = .tuple #[] ∧ ∃ v2, St M w0 [bld 133 b (.pointer (some ⟨b, 0, none⟩)) v2 x.content, blk bx [.int .i64 x.signer, .int .i64 x.holder, .int .i64 x.rf, .int .i64 x.rt, .int .i64 x.carrier, .int .i64 x.serial, .int .i64 x.sf, .int .i64 x.st, sv x.sig] 30] w := by
 refine ret_of Tryz.func66 rfl Tryz.ntmps66 (Nat.le_of_ble_eq_true rfl) fun a hfr => ?_
 replace hfr : Fr 6 [(0, _), (1, _)] [] a := hfr
 skip
 refine wc_region ?_
 refine wlm hfr rfl fun a hfr => ?_
 refine wlv hfr (v_load_all (hst.get (k := 1) rfl) rfl (Tryz.isAgg30 _) (Tryz.sizeOf30 _)) fun a hfr => ?_
 refine wl_callE (R := fun u e' => u = .tuple #[] ∧ ∃ v2, e' = bld 133 b (.pointer (some ⟨b, 0, none⟩)) v2 (([] : By) ++ x.content)) 0 hfr hst rfl (by decide) Tryz.call67 rfl (fun h => (wwish_ok 133 b _ _ _ x _ (by kernel_rfl) (.inl rfl) hx (by simp) h).mono fun u w ⟨h1, v2, h2⟩ => ⟨_, ⟨h1, v2, rfl⟩, h2⟩) ?_
 clear hfr hst
 rintro a w1 _ _ ⟨rfl, v1, rfl⟩ hfr hst
 replace hst : St M w0 [bld 133 b (.pointer (some ⟨b, 0, none⟩)) v1 (([] : By) ++ x.content), blk bx [.int .i64 x.signer, .int .i64 x.holder, .int .i64 x.rf, .int .i64 x.rt, .int .i64 x.carrier, .int .i64 x.serial, .int .i64 x.sf, .int .i64 x.st, sv x.sig] 30] w1 := hst
 refine wl_nil ?_
 refine fin_end hfr Tryz.results66 resAre_nil ?_
 exact ⟨rfl, _, hst.select [0, 1] (by decide)⟩
theorem puts_ne {n : Int} {l : List Int} : puts (n :: l) ≠ [] := fun h => by
 have := (putI_len n).1
 simp only [puts, List.flatMap_cons, List.append_eq_nil_iff] at h
 rw [h.1] at this; simp at this
/-- dialtone/wish.SignWish -/
theorem signwish_ok (key : By) (x : Wsh) (w0 : World) (hk : key.length = 32) (hok : x.ok = true) (hk0 : (blk 0 (kOf.map wv) 239).ok w0) :
  Ret Tryz.prog 22 #[sv key, .agg #[.int .i64 x.signer, .int .i64 x.holder, .int .i64 x.rf, .int .i64 x.rt, .int .i64 x.carrier, .int .i64 x.serial, .int .i64 x.sf, .int .i64 x.st, sv x.sig]] w0 fun v w => v = .tuple #[.agg (x.sealed key).cells.toArray, .int .i64 0] ∧ Ext No w0 w := by
 refine ret_of Tryz.func22 rfl Tryz.ntmps22 (Nat.le_of_ble_eq_true rfl) fun a hfr => ?_
 replace hfr : Fr 20 [(0, _), (1, _)] [] a := hfr
 replace hst : St (· = 0) w0 [blk 0 (kOf.map wv) 239] w0 := St.one hk0
 refine wc_seq_region fun K1 hK1 => ?_
 refine wl_box hfr hst (by decide) rfl (cs := [.int .i64 x.signer, .int .i64 x.holder, .int .i64 x.rf, .int .i64 x.rt, .int .i64 x.carrier, .int .i64 x.serial, .int .i64 x.sf, .int .i64 x.st, sv x.sig]) rfl ?_
 clear hfr hst
 intro a w1 hfr hst
 refine wl_alloc hfr hst (by decide) (Tryz.zeroValue30 _) (cs := [.int .i64 0, .int .i64 0, .int .i64 0, .int .i64 0, .int .i64 0, .int .i64 0, .int .i64 0, .int .i64 0, .string (⟨#[]⟩)]) rfl ?_
 clear hfr hst
 intro a w2 hfr hst
 refine wla hfr rfl fun a hfr => ?_
 refine wl_nil (hK1 _ _ ?_)
 refine wc_seq_k fun K2 hK2 => ?_
 refine wc_seq_region fun K3 hK3 => ?_
 refine wlm hfr rfl fun a hfr => ?_
 refine wl_callp hfr hst (by decide) Tryz.call56 rfl (isKey_ok key _) ?_
 clear hfr hst
 intro a w3 hfr hst
 refine wlv hfr (v_not rfl) fun a hfr => ?_
 refine wlm hfr rfl fun a hfr => ?_
 rcases Bool.eq_false_or_eq_true (!(decide ((key.length : Int) = 32))) with hb1 | hb1
 ·rw [hb1] at hfr
  try simp only [qz] at hb1
  exfalso; omega
 rw [hb1] at hfr
 try simp only [qz] at hb1
 refine wly hfr (v_load_all (hst.get (k := 1) rfl) rfl (Tryz.isAgg30 _) (Tryz.sizeOf30 _)) fun a hfr => ?_
 refine wl_callpy hfr hst (by decide) rfl (by decide) rfl Tryz.call58 rfl (isWish_ok x _) ?_
 clear hfr hst
 intro a w4 hfr hst
 refine wly hfr (v_not rfl) fun a hfr => ?_
 refine wlv hfr (v_pick_f rfl rfl) fun a hfr => ?_
 refine wl_nil (hK3 _ _ ?_)
 replace hfr : Fr 20 [(0, _), (3, _), (4, _), (5, _), (13, _)] [] a := hfr.pick [0, 3, 4, 5, 13]
 refine wc_cond hfr rfl (fun hc2 => ?_) (fun hc2 => ?_)
 ·rw [hc2] at hfr
  try simp only [qz] at hc2
  simp [hok] at hc2
 rw [hc2] at hfr
 try simp only [qz] at hc2
 refine wc_skip ?_
 refine hK2 _ _ ?_
 refine wc_seq_region fun K4 hK4 => ?_
 refine wlm hfr rfl fun a hfr => ?_
 refine wlv hfr (v_makeFunc rfl rfl) fun a hfr => ?_
 replace hst : St (· = 0) w0 [blk 0 (kOf.map wv) 239, blk w0.heap.size [.int .i64 x.signer, .int .i64 x.holder, .int .i64 x.rf, .int .i64 x.rt, .int .i64 x.carrier, .int .i64 x.serial, .int .i64 x.sf, .int .i64 x.st, sv x.sig] 30, blk w1.heap.size [.int .i64 0, .int .i64 0, .int .i64 0, .int .i64 0, .int .i64 0, .int .i64 0, .int .i64 0, .int .i64 0, .string (⟨#[]⟩)] 30] w4 := hst.select [2, 1, 0] (by decide)
 replace hst := St.join [blk 0 (kOf.map wv) 239, blk w0.heap.size [.int .i64 x.signer, .int .i64 x.holder, .int .i64 x.rf, .int .i64 x.rt, .int .i64 x.carrier, .int .i64 x.serial, .int .i64 x.sf, .int .i64 x.st, sv x.sig] 30] [blk w1.heap.size [.int .i64 0, .int .i64 0, .int .i64 0, .int .i64 0, .int .i64 0, .int .i64 0, .int .i64 0, .int .i64 0, .string (⟨#[]⟩)] 30] hst
 refine wl_callE (R := fun u e' => u = sv (sealH key x.content) ∧ e' = join [blk 0 (kOf.map wv) 239, blk w0.heap.size [.int .i64 x.signer, .int .i64 x.holder, .int .i64 x.rf, .int .i64 x.rt, .int .i64 x.carrier, .int .i64 x.serial, .int .i64 x.sf, .int .i64 x.st, sv x.sig] 30]) 0 hfr hst rfl (by decide) Tryz.call63 rfl (fun h => (seal_ok key x.content 72 [.pointer (some ⟨w0.heap.size, 0, none⟩)] (blk w0.heap.size [.int .i64 x.signer, .int .i64 x.holder, .int .i64 x.rf, .int .i64 x.rt, .int .i64 x.carrier, .int .i64 x.serial, .int .i64 x.sf, .int .i64 x.st, sv x.sig] 30) _ Tryz.call72 (fun b v ws h => sw1_run b _ v x ws (Wsh.smalls_of hok) h) puts_ne (by omega) (Nat.le_trans x.content_len (by decide)) (St.unjoin [blk 0 (kOf.map wv) 239, blk w0.heap.size [.int .i64 x.signer, .int .i64 x.holder, .int .i64 x.rf, .int .i64 x.rt, .int .i64 x.carrier, .int .i64 x.serial, .int .i64 x.sf, .int .i64 x.st, sv x.sig] 30] [] h)).mono fun u w ⟨h1, h2⟩ => ⟨_, ⟨h1, rfl⟩, St.join _ [] h2⟩) ?_
 clear hfr hst
 rintro a w5 _ _ ⟨rfl, rfl⟩ hfr hst
 replace hst : St (· = 0) w0 [blk 0 (kOf.map wv) 239, blk w0.heap.size [.int .i64 x.signer, .int .i64 x.holder, .int .i64 x.rf, .int .i64 x.rt, .int .i64 x.carrier, .int .i64 x.serial, .int .i64 x.sf, .int .i64 x.st, sv x.sig] 30, blk w1.heap.size [.int .i64 0, .int .i64 0, .int .i64 0, .int .i64 0, .int .i64 0, .int .i64 0, .int .i64 0, .int .i64 0, .string (⟨#[]⟩)] 30] w5 := St.unjoin [blk 0 (kOf.map wv) 239, blk w0.heap.size [.int .i64 x.signer, .int .i64 x.holder, .int .i64 x.rf, .int .i64 x.rt, .int .i64 x.carrier, .int .i64 x.serial, .int .i64 x.sf, .int .i64 x.st, sv x.sig] 30] [blk w1.heap.size [.int .i64 0, .int .i64 0, .int .i64 0, .int .i64 0, .int .i64 0, .int .i64 0, .int .i64 0, .int .i64 0, .string (⟨#[]⟩)] 30] hst
 refine wlv hfr (v_fieldAddr (v := .pointer (some ⟨w0.heap.size, 8, none⟩)) rfl (by kernel_rfl)) fun a hfr => ?_
 refine wl_store 1 hfr hst rfl rfl rfl (Tryz.sizeOf9 _) rfl (Nat.le_of_ble_eq_true rfl) (ds := [.int .i64 x.signer, .int .i64 x.holder, .int .i64 x.rf, .int .i64 x.rt, .int .i64 x.carrier, .int .i64 x.serial, .int .i64 x.sf, .int .i64 x.st, sv (sealH key x.content)]) rfl rfl ?_
 clear hfr hst
 intro a w6 hfr hst
 refine wl_nil (hK4 _ _ ?_)
 replace hfr : Fr 20 [(3, _), (4, _), (5, _)] [] a := hfr.pick [3, 4, 5]
 refine wc_seq_region fun K5 hK5 => ?_
 refine wlv hfr (v_load_all (hst.get (k := 1) rfl) rfl (Tryz.isAgg30 _) (Tryz.sizeOf30 _)) fun a hfr => ?_
 refine wl_store 2 hfr hst rfl rfl rfl (Tryz.sizeOf30 _) rfl (Nat.le_of_ble_eq_true rfl) (ds := [.int .i64 x.signer, .int .i64 x.holder, .int .i64 x.rf, .int .i64 x.rt, .int .i64 x.carrier, .int .i64 x.serial, .int .i64 x.sf, .int .i64 x.st, sv (sealH key x.content)]) rfl rfl ?_
 clear hfr hst
 intro a w7 hfr hst
 refine wla hfr rfl fun a hfr => ?_
 refine wl_nil (hK5 _ _ ?_)
 refine wc_ret ?_
 refine fin_ret hfr Tryz.results22 (resAre_cell rfl (res_all (hst.get (k := 2) rfl) (Tryz.isAgg30 _) (Tryz.sizeOf30 _)) (resAre_tmp rfl resAre_nil)) ?_
 exact ⟨rfl, hst.ext.const hk0 (hst.get (k := 0) rfl)⟩
/-- dialtone/wish.SignProxy -/
theorem signproxy_ok (key : By) (x : Pxy) (w0 : World) (hk : key.length = 32) (hok : x.ok = true) (hk0 : (blk 0 (kOf.map wv) 239).ok w0) :
  Ret Tryz.prog 24 #[sv key, .agg #[.int .i64 x.frm, .int .i64 x.to, .int .i64 x.rf, .int .i64 x.rt, .int .i64 x.sf, .int .i64 x.st, sv x.sig]] w0 fun v w => v = .tuple #[.agg (x.sealed key).cells.toArray, .int .i64 0] ∧ Ext No w0 w := by
 refine ret_of Tryz.func24 rfl Tryz.ntmps24 (Nat.le_of_ble_eq_true rfl) fun a hfr => ?_
 replace hfr : Fr 20 [(0, _), (1, _)] [] a := hfr
 replace hst : St (· = 0) w0 [blk 0 (kOf.map wv) 239] w0 := St.one hk0
 refine wc_seq_region fun K1 hK1 => ?_
 refine wl_box hfr hst (by decide) rfl (cs := [.int .i64 x.frm, .int .i64 x.to, .int .i64 x.rf, .int .i64 x.rt, .int .i64 x.sf, .int .i64 x.st, sv x.sig]) rfl ?_
 clear hfr hst
 intro a w1 hfr hst
 refine wl_alloc hfr hst (by decide) (Tryz.zeroValue40 _) (cs := [.int .i64 0, .int .i64 0, .int .i64 0, .int .i64 0, .int .i64 0, .int .i64 0, .string (⟨#[]⟩)]) rfl ?_
 clear hfr hst
 intro a w2 hfr hst
 refine wla hfr rfl fun a hfr => ?_
 refine wl_nil (hK1 _ _ ?_)
 refine wc_seq_k fun K2 hK2 => ?_
 refine wc_seq_region fun K3 hK3 => ?_
 refine wlm hfr rfl fun a hfr => ?_
 refine wl_callp hfr hst (by decide) Tryz.call56 rfl (isKey_ok key _) ?_
 clear hfr hst
 intro a w3 hfr hst
 refine wlv hfr (v_not rfl) fun a hfr => ?_
 refine wlm hfr rfl fun a hfr => ?_
 rcases Bool.eq_false_or_eq_true (!(decide ((key.length : Int) = 32))) with hb1 | hb1
 ·rw [hb1] at hfr
  try simp only [qz] at hb1
  exfalso; omega
 rw [hb1] at hfr
 try simp only [qz] at hb1
 refine wly hfr (v_load_all (hst.get (k := 1) rfl) rfl (Tryz.isAgg40 _) (Tryz.sizeOf40 _)) fun a hfr => ?_
 refine wl_callpy hfr hst (by decide) rfl (by decide) rfl Tryz.call73 rfl (isProxy_ok x _) ?_
 clear hfr hst
 intro a w4 hfr hst
 refine wly hfr (v_not rfl) fun a hfr => ?_
 refine wlv hfr (v_pick_f rfl rfl) fun a hfr => ?_
 refine wl_nil (hK3 _ _ ?_)
 replace hfr : Fr 20 [(0, _), (3, _), (4, _), (5, _), (13, _)] [] a := hfr.pick [0, 3, 4, 5, 13]
 refine wc_cond hfr rfl (fun hc2 => ?_) (fun hc2 => ?_)
 ·rw [hc2] at hfr
  try simp only [qz] at hc2
  simp [hok] at hc2
 rw [hc2] at hfr
 try simp only [qz] at hc2
 refine wc_skip ?_
 refine hK2 _ _ ?_
 refine wc_seq_region fun K4 hK4 => ?_
 refine wlm hfr rfl fun a hfr => ?_
 refine wlv hfr (v_makeFunc rfl rfl) fun a hfr => ?_
 replace hst : St (· = 0) w0 [blk 0 (kOf.map wv) 239, blk w0.heap.size [.int .i64 x.frm, .int .i64 x.to, .int .i64 x.rf, .int .i64 x.rt, .int .i64 x.sf, .int .i64 x.st, sv x.sig] 40, blk w1.heap.size [.int .i64 0, .int .i64 0, .int .i64 0, .int .i64 0, .int .i64 0, .int .i64 0, .string (⟨#[]⟩)] 40] w4 := hst.select [2, 1, 0] (by decide)
 replace hst := St.join [blk 0 (kOf.map wv) 239, blk w0.heap.size [.int .i64 x.frm, .int .i64 x.to, .int .i64 x.rf, .int .i64 x.rt, .int .i64 x.sf, .int .i64 x.st, sv x.sig] 40] [blk w1.heap.size [.int .i64 0, .int .i64 0, .int .i64 0, .int .i64 0, .int .i64 0, .int .i64 0, .string (⟨#[]⟩)] 40] hst
 refine wl_callE (R := fun u e' => u = sv (sealH key x.content) ∧ e' = join [blk 0 (kOf.map wv) 239, blk w0.heap.size [.int .i64 x.frm, .int .i64 x.to, .int .i64 x.rf, .int .i64 x.rt, .int .i64 x.sf, .int .i64 x.st, sv x.sig] 40]) 0 hfr hst rfl (by decide) Tryz.call63 rfl (fun h => (seal_ok key x.content 74 [.pointer (some ⟨w0.heap.size, 0, none⟩)] (blk w0.heap.size [.int .i64 x.frm, .int .i64 x.to, .int .i64 x.rf, .int .i64 x.rt, .int .i64 x.sf, .int .i64 x.st, sv x.sig] 40) _ Tryz.call74 (fun b v ws h => sp1_run b _ v x ws (Pxy.smalls_of hok) h) puts_ne (by omega) (Nat.le_trans x.content_len (by decide)) (St.unjoin [blk 0 (kOf.map wv) 239, blk w0.heap.size [.int .i64 x.frm, .int .i64 x.to, .int .i64 x.rf, .int .i64 x.rt, .int .i64 x.sf, .int .i64 x.st, sv x.sig] 40] [] h)).mono fun u w ⟨h1, h2⟩ => ⟨_, ⟨h1, rfl⟩, St.join _ [] h2⟩) ?_
 clear hfr hst
 rintro a w5 _ _ ⟨rfl, rfl⟩ hfr hst
 replace hst : St (· = 0) w0 [blk 0 (kOf.map wv) 239, blk w0.heap.size [.int .i64 x.frm, .int .i64 x.to, .int .i64 x.rf, .int .i64 x.rt, .int .i64 x.sf, .int .i64 x.st, sv x.sig] 40, blk w1.heap.size [.int .i64 0, .int .i64 0, .int .i64 0, .int .i64 0, .int .i64 0, .int .i64 0, .string (⟨#[]⟩)] 40] w5 := St.unjoin [blk 0 (kOf.map wv) 239, blk w0.heap.size [.int .i64 x.frm, .int .i64 x.to, .int .i64 x.rf, .int .i64 x.rt, .int .i64 x.sf, .int .i64 x.st, sv x.sig] 40] [blk w1.heap.size [.int .i64 0, .int .i64 0, .int .i64 0, .int .i64 0, .int .i64 0, .int .i64 0, .string (⟨#[]⟩)] 40] hst
 refine wlv hfr (v_fieldAddr (v := .pointer (some ⟨w0.heap.size, 6, none⟩)) rfl (by kernel_rfl)) fun a hfr => ?_
 refine wl_store 1 hfr hst rfl rfl rfl (Tryz.sizeOf9 _) rfl (Nat.le_of_ble_eq_true rfl) (ds := [.int .i64 x.frm, .int .i64 x.to, .int .i64 x.rf, .int .i64 x.rt, .int .i64 x.sf, .int .i64 x.st, sv (sealH key x.content)]) rfl rfl ?_
 clear hfr hst
 intro a w6 hfr hst
 refine wl_nil (hK4 _ _ ?_)
 replace hfr : Fr 20 [(3, _), (4, _), (5, _)] [] a := hfr.pick [3, 4, 5]
 refine wc_seq_region fun K5 hK5 => ?_
 refine wlv hfr (v_load_all (hst.get (k := 1) rfl) rfl (Tryz.isAgg40 _) (Tryz.sizeOf40 _)) fun a hfr => ?_
 refine wl_store 2 hfr hst rfl rfl rfl (Tryz.sizeOf40 _) rfl (Nat.le_of_ble_eq_true rfl) (ds := [.int .i64 x.frm, .int .i64 x.to, .int .i64 x.rf, .int .i64 x.rt, .int .i64 x.sf, .int .i64 x.st, sv (sealH key x.content)]) rfl rfl ?_
 clear hfr hst
 intro a w7 hfr hst
 refine wla hfr rfl fun a hfr => ?_
 refine wl_nil (hK5 _ _ ?_)
 refine wc_ret ?_
 refine fin_ret hfr Tryz.results24 (resAre_cell rfl (res_all (hst.get (k := 2) rfl) (Tryz.isAgg40 _) (Tryz.sizeOf40 _)) (resAre_tmp rfl resAre_nil)) ?_
 exact ⟨rfl, hst.ext.const hk0 (hst.get (k := 0) rfl)⟩
end Go.Proofs.YtmmfieceinmloaaGreatDoor
namespace Go.Proofs.YtmmfieceinmloaaGreatDoor
open Go.RowKit Go.PW
set_option linter.unusedVariables false
set_option linter.unusedSimpArgs false
set_option maxRecDepth 4000
/-- slices.IndexFunc[[]dialtone/api.Proxy,dialtone/api.Proxy]: the first index at which the closure says yes. -/
theorem indexP_ok {M : Nat → Prop} {wb : World} {H : List Ent} {sv : Value} {els : List (List Value)} {caps : List Value} {g : FuncId} (p : Nat → Bool) (ev_ : Nat → Value) (J : Nat → Ent → Prop) (e0 : Ent) (w0 : World)
  (hen : ∀ args w, (callFunc g args).run Tryz.prog w = .ok (.enter g args) w) (hs : ∀ e w, St M wb (e :: H) w → SlAt w sv 7 els)
  (hev : ∀ k (h : k < els.length), .agg (els[k]).toArray = ev_ k) (hJ0 : J 0 e0) (hst : St M wb (e0 :: H) w0)
  (hcl : ∀ k e w, k < els.length → J k e → e.ok w → (∀ b, e.foot b → b < w.heap.size) → Ret Tryz.prog g ([ev_ k] ++ caps).toArray w fun v w' => v = .bool (p k) ∧ ∃ e', Ext e.foot w w' ∧ e'.ok w' ∧ (∀ b, e'.foot b → b < w'.heap.size ∧ (e.foot b ∨ w.heap.size ≤ b)) ∧ J (k + 1) e') :
  Ret Tryz.prog 116 #[sv, .func (.func g) #[] caps.toArray] w0 fun v w => v = .int .i64 (fstIdx p els.length) ∧ ∃ k e', J k e' ∧ St M wb (e' :: H) w := by
 have hsl := (hs _ _ hst).le
 refine ret_of Tryz.func116 rfl Tryz.ntmps116 (Nat.le_of_ble_eq_true rfl) fun a hfr => ?_
 have hfr : Fr 19 [(0, _), (1, _)] [] a := hfr
 refine wc_seq_region fun K1 hK1 => ?_
 refine wla hfr rfl fun a hfr => ?_
 refine wl_nil (hK1 _ _ ?_)
 refine wc_seq_k fun K2 hK2 => ?_
 refine wc_seq_region fun K3 hK3 => ?_
 refine wlm hfr rfl fun a hfr => ?_
 refine wlv hfr (v_len_sl (sT := 31) (hs _ _ hst) rfl rfl (Tryz.runUnderlying31 _)) fun a hfr => ?_
 refine wlm hfr rfl fun a hfr => ?_
 refine wl_nil (hK3 _ _ ?_)
 refine wc_block ?_
 refine wc_loop (fun m a w => ∃ (k : Nat) (e : Ent), m = els.length - k ∧ (k ≤ els.length) ∧ (∀ j, j < k → p j = false) ∧ (J k e) ∧ Fr 19 [(0, sv), (1, .func (.func g) #[] caps.toArray), (6, sv), (7, .int .i64 els.length), (8, .int .i64 (k : Int))] [] a ∧ St M wb (e :: H) w) _ ⟨0, e0, rfl, Nat.zero_le _, (by intro j hj; omega), hJ0, hfr.pick [0, 1, 6, 7, 8], hst⟩ ?_
 rintro _ a w1 ⟨k, e, rfl, hk, hp, hJ, hfr, hst⟩
 refine wc_seq_region fun K4 hK4 => ?_
 refine wlv hfr (v_lt rfl rfl) fun a hfr => ?_
 refine wl_nil (hK4 _ _ ?_)
 refine wc_seq_k fun K5 hK5 => ?_
 refine wc_cond hfr rfl (fun hc1 => ?_) (fun hc1 => ?_)
 ·rw [hc1] at hfr
  try simp only [qz] at hc1
  refine wc_skip ?_
  refine hK5 _ _ ?_
  refine wc_seq_k fun K6 hK6 => ?_
  refine wc_block ?_
  refine wc_seq_region fun K7 hK7 => ?_
  refine wlm hfr rfl fun a hfr => ?_
  refine wla hfr rfl fun a hfr => ?_
  refine wl_nil (hK7 _ _ ?_)
  refine wc_seq_region fun K8 hK8 => ?_
  refine wlm hfr rfl fun a hfr => ?_
  refine wlm hfr rfl fun a hfr => ?_
  refine wlm hfr rfl fun a hfr => ?_
  refine wlv hfr ((v_indexAddr_sl (i := (k : Int)) (sT := 31) (hs _ _ hst) rfl rfl (Tryz.runUnderlying31 _) (Tryz.sizeOf40 _) (by omega) (by omega)).as (v' := slAddr sv (k * 7)) rfl) fun a hfr => ?_
  refine wlv hfr ((v_load_sl (hs _ _ hst) (i := k) (by omega) rfl (Tryz.isAgg40 _) (Tryz.sizeOf40 _)).as (v' := ev_ k) (hev k (by omega))) fun a hfr => ?_
  refine wl_r (r_callv (cap := caps) rfl hen rfl (hcl k _ _ (by omega) hJ (hst.get (k := 0) rfl) (fun b hb => hst.lt (k := 0) rfl hb))) rfl rfl hfr fun a v w2 hR hfr => ?_
  obtain ⟨rfl, e1, hx, hok, hft, hJ1⟩ := hR
  have hst := hst.exchange (k := 0) rfl hx hok hft
  have hst : St M wb (e1 :: H) w2 := hst
  refine wl_nil (hK8 _ _ ?_)
  refine wc_cond hfr rfl (fun hc2 => ?_) (fun hc2 => ?_)
  ·rw [hc2] at hfr
   try simp only [qz] at hc2
   refine wc_seq_region fun K9 hK9 => ?_
   refine wlm hfr rfl fun a hfr => ?_
   refine wla hfr rfl fun a hfr => ?_
   refine wl_nil (hK9 _ _ ?_)
   refine wc_ret ?_
   refine fin_ret hfr Tryz.results116 (resAre_tmp rfl resAre_nil) ?_
   exact ⟨by rw [fstIdx_some (k := k) (by omega) hp (by assumption)]; rfl, _, _, hJ1, hst⟩
  rw [hc2] at hfr
  try simp only [qz] at hc2
  refine wc_skip ?_
  refine hK6 _ _ ?_
  refine wc_region ?_
  refine wlv hfr (v_add rfl rfl ⟨by omega, by omega⟩) fun a hfr => ?_
  refine wlm hfr rfl fun a hfr => ?_
  refine wl_nil ?_
  refine ⟨_, ?_, k + 1, e1, rfl, (by omega), (by intro j hj; by_cases h : j = k; (subst h; assumption); exact hp j (by omega)), hJ1, hfr.pick [0, 1, 6, 7, 8], hst⟩
  omega
 rw [hc1] at hfr
 try simp only [qz] at hc1
 refine wc_exit ?_
 refine hK2 _ _ ?_
 refine wc_seq_region fun K10 hK10 => ?_
 refine wla hfr rfl fun a hfr => ?_
 refine wl_nil (hK10 _ _ ?_)
 refine wc_ret ?_
 refine fin_ret hfr Tryz.results116 (resAre_tmp rfl resAre_nil) ?_
 have hkl : k = els.length := by omega
 subst hkl
 exact ⟨by rw [fstIdx_none hp]; rfl, _, _, hJ, hst⟩
theorem index_pxy {sv : Value} {xs : List Pxy} {g : FuncId} (p : Pxy → Bool) (w0 : World) (hen : ∀ args w, (callFunc g args).run Tryz.prog w = .ok (.enter g args) w) (hs : SlAt w0 sv 7 (xs.map Pxy.cells))
  (hcl : ∀ (x : Pxy) (w : World), Ret Tryz.prog g #[.agg x.cells.toArray] w fun v w' => v = .bool (p x) ∧ Ext No w w') :
  Ret Tryz.prog 116 #[sv, .func (.func g) #[] #[]] w0 fun v w => v = .int .i64 (fstIdx (fun k => p (xs.getD k Pxy.z)) xs.length) ∧ Ext No w0 w := by
 have hst : St No w0 [join []] w0 := St.join [] [] (St.init w0)
 have h := indexP_ok (M := No) (wb := w0) (H := []) (sv := sv) (els := xs.map Pxy.cells) (caps := []) (g := g) (fun k => p (xs.getD k Pxy.z)) (fun k => .agg (xs.getD k Pxy.z).cells.toArray) (fun _ e => e = join []) (join []) w0 hen
  (fun e w h => h.arg hs) (fun k h => by rw [el_at Pxy.z]) rfl hst (fun k e w hk he hok hlt => by
   subst he
   refine (hcl _ w).mono fun v w' ⟨h1, h2⟩ => ⟨h1, join [], h2.mono (fun k _ hk => hk.elim), ?_, ?_, rfl⟩
   ·exact ⟨fun e he => (by cases he), List.Pairwise.nil⟩
   ·rintro b ⟨e, he, _⟩
    cases he)
 refine h.mono fun v w ⟨h1, k, e, he, hst⟩ => ⟨by rw [h1, List.length_map], hst.ext⟩
/-- dialtone/wish.badProxy$1 -/
theorem badp1_ok (x : Pxy) (w0 : World) :
  Ret Tryz.prog 117 #[.agg #[.int .i64 x.frm, .int .i64 x.to, .int .i64 x.rf, .int .i64 x.rt, .int .i64 x.sf, .int .i64 x.st, sv x.sig]] w0 fun v w => v = .bool (!x.ok) ∧ Ext No w0 w := by
 refine ret_of Tryz.func117 rfl Tryz.ntmps117 (Nat.le_of_ble_eq_true rfl) fun a hfr => ?_
 have hfr : Fr 6 [(0, _)] [] a := hfr
 have hst : St No w0 [] w0 := St.init w0
 refine wc_seq_region fun K1 hK1 => ?_
 refine wl_box hfr hst (by decide) rfl (cs := [.int .i64 x.frm, .int .i64 x.to, .int .i64 x.rf, .int .i64 x.rt, .int .i64 x.sf, .int .i64 x.st, sv x.sig]) rfl fun a w1 hfr hst => ?_
 refine wla hfr rfl fun a hfr => ?_
 refine wl_nil (hK1 _ _ ?_)
 refine wc_seq_region fun K2 hK2 => ?_
 refine wlv hfr (v_load_all (hst.get (k := 0) rfl) rfl (Tryz.isAgg40 _) (Tryz.sizeOf40 _)) fun a hfr => ?_
 refine wl_callp hfr hst (by decide) Tryz.call73 rfl (isProxy_ok x _) fun a w2 hfr hst => ?_
 refine wlv hfr (v_not rfl) fun a hfr => ?_
 refine wla hfr rfl fun a hfr => ?_
 refine wl_nil (hK2 _ _ ?_)
 refine wc_ret ?_
 refine fin_ret hfr Tryz.results117 (resAre_tmp rfl resAre_nil) ?_
 exact ⟨by rfl, hst.ext⟩
/-- The first index whose proxy is not formed, or -1. -/
def badN (xs : List Pxy) : Int := fstIdx (fun k => !(xs.getD k Pxy.z).ok) xs.length
theorem badp_call (v : Value) (xs : List Pxy) (w0 : World) (hv : SlAt w0 v 7 (xs.map Pxy.cells)) : Ret Tryz.prog 116 #[v, .func (.func 117) #[] #[]] w0 fun v w => v = .int .i64 (badN xs) ∧ Ext No w0 w :=
 index_pxy (fun x => !x.ok) w0 Tryz.call117 hv (fun x w => badp1_ok x w)
/-- dialtone/wish.badProxy -/
theorem badProxy_ok (lv : Value) (xs : List Pxy) (w0 : World) (hlv : SlAt w0 lv 7 (xs.map Pxy.cells)) :
  Ret Tryz.prog 59 #[lv] w0 fun v w => v = .int .i64 (badN xs) ∧ Ext No w0 w := by
 refine ret_of Tryz.func59 rfl Tryz.ntmps59 (Nat.le_of_ble_eq_true rfl) fun a hfr => ?_
 have hfr : Fr 5 [(0, _)] [] a := hfr
 have hst : St No w0 [] w0 := St.init w0
 refine wc_seq_region fun K1 hK1 => ?_
 refine wla hfr rfl fun a hfr => ?_
 refine wl_nil (hK1 _ _ ?_)
 refine wc_seq_region fun K2 hK2 => ?_
 refine wlm hfr rfl fun a hfr => ?_
 refine wl_callp hfr hst (by decide) Tryz.call116 rfl (badp_call lv xs _ (hst.arg hlv)) fun a w1 hfr hst => ?_
 refine wla hfr rfl fun a hfr => ?_
 refine wl_nil (hK2 _ _ ?_)
 refine wc_ret ?_
 refine fin_ret hfr Tryz.results59 (resAre_tmp rfl resAre_nil) ?_
 exact ⟨by rfl, hst.ext⟩
/-- dialtone/wish.Formed -/
theorem formed_ok (x : Wsh) (lv : Value) (xs : List Pxy) (w0 : World) (hlv : SlAt w0 lv 7 (xs.map Pxy.cells)) :
  Ret Tryz.prog 19 #[.agg #[.int .i64 x.signer, .int .i64 x.holder, .int .i64 x.rf, .int .i64 x.rt, .int .i64 x.carrier, .int .i64 x.serial, .int .i64 x.sf, .int .i64 x.st, sv x.sig], lv] w0 fun v w => v = .bool (x.ok && decide ((xs.length : Int) ≤ 4) && decide (badN xs < 0)) ∧ Ext No w0 w := by
 refine ret_of Tryz.func19 rfl Tryz.ntmps19 (Nat.le_of_ble_eq_true rfl) fun a hfr => ?_
 have hfr : Fr 17 [(0, _), (1, _)] [] a := hfr
 have hst : St No w0 [] w0 := St.init w0
 refine wc_seq_region fun K1 hK1 => ?_
 refine wl_box hfr hst (by decide) rfl (cs := [.int .i64 x.signer, .int .i64 x.holder, .int .i64 x.rf, .int .i64 x.rt, .int .i64 x.carrier, .int .i64 x.serial, .int .i64 x.sf, .int .i64 x.st, sv x.sig]) rfl fun a w1 hfr hst => ?_
 refine wla hfr rfl fun a hfr => ?_
 refine wl_nil (hK1 _ _ ?_)
 refine wc_seq_region fun K2 hK2 => ?_
 refine wlv hfr (v_load_all (hst.get (k := 0) rfl) rfl (Tryz.isAgg30 _) (Tryz.sizeOf30 _)) fun a hfr => ?_
 refine wl_callp hfr hst (by decide) Tryz.call58 rfl (isWish_ok x _) fun a w2 hfr hst => ?_
 refine wlm hfr rfl fun a hfr => ?_
 rcases Bool.eq_false_or_eq_true (x.ok) with hb1 | hb1
 ·rw [hb1] at hfr
  try simp only [qz] at hb1
  refine wly hfr (v_move rfl) fun a hfr => ?_
  refine wly hfr ((v_len_sl (sT := 31) (hst.arg hlv) rfl rfl (Tryz.runUnderlying31 _)).asi (m' := (xs.length : Int)) (by rw [List.length_map])) fun a hfr => ?_
  refine wly hfr (v_le rfl rfl) fun a hfr => ?_
  refine wlv hfr (v_pick_t rfl rfl) fun a hfr => ?_
  refine wlm hfr rfl fun a hfr => ?_
  rcases Bool.eq_false_or_eq_true (decide ((xs.length : Int) ≤ 4)) with hb2 | hb2
  ·rw [hb2] at hfr
   try simp only [qz] at hb2
   refine wly hfr (v_move rfl) fun a hfr => ?_
   refine wl_callpy hfr hst (by decide) rfl (by decide) rfl Tryz.call59 rfl (badProxy_ok lv xs _ (hst.arg hlv)) fun a w3 hfr hst => ?_
   refine wly hfr (v_lt rfl rfl) fun a hfr => ?_
   refine wlv hfr (v_pick_t rfl rfl) fun a hfr => ?_
   refine wla hfr rfl fun a hfr => ?_
   refine wl_nil (hK2 _ _ ?_)
   have hfr : Fr 17 [(0, _), (1, _), (2, _), (4, _)] [] a := hfr.pick [0, 1, 2, 4]
   refine wc_ret ?_
   refine fin_ret hfr Tryz.results19 (resAre_tmp rfl resAre_nil) ?_
   exact ⟨by simp only [retv]; simp [hb1, hb2], hst.ext⟩
  rw [hb2] at hfr
  try simp only [qz] at hb2
  refine wln hfr fun a hfr => ?_
  refine wln hfr fun a hfr => ?_
  refine wln hfr fun a hfr => ?_
  refine wlv hfr (v_pick_f rfl rfl) fun a hfr => ?_
  refine wla hfr rfl fun a hfr => ?_
  refine wl_nil (hK2 _ _ ?_)
  have hfr : Fr 17 [(0, _), (1, _), (2, _), (4, _)] [] a := hfr.pick [0, 1, 2, 4]
  refine wc_ret ?_
  refine fin_ret hfr Tryz.results19 (resAre_tmp rfl resAre_nil) ?_
  exact ⟨by simp only [retv]; simp [hb1, hb2], hst.ext⟩
 rw [hb1] at hfr
 try simp only [qz] at hb1
 refine wln hfr fun a hfr => ?_
 refine wln hfr fun a hfr => ?_
 refine wln hfr fun a hfr => ?_
 refine wlv hfr (v_pick_f rfl rfl) fun a hfr => ?_
 refine wlm hfr rfl fun a hfr => ?_
 refine wln hfr fun a hfr => ?_
 refine wln hfr fun a hfr => ?_
 refine wln hfr fun a hfr => ?_
 refine wlv hfr (v_pick_f rfl rfl) fun a hfr => ?_
 refine wla hfr rfl fun a hfr => ?_
 refine wl_nil (hK2 _ _ ?_)
 have hfr : Fr 17 [(0, _), (1, _), (2, _), (4, _)] [] a := hfr.pick [0, 1, 2, 4]
 refine wc_ret ?_
 refine fin_ret hfr Tryz.results19 (resAre_tmp rfl resAre_nil) ?_
 exact ⟨by simp only [retv]; simp [hb1], hst.ext⟩
end Go.Proofs.YtmmfieceinmloaaGreatDoor
namespace Go.Proofs.YtmmfieceinmloaaGreatDoor
open Go.RowKit Go.PW
set_option linter.unusedVariables false
set_option linter.unusedSimpArgs false
set_option maxRecDepth 4000
set_option maxHeartbeats 4000000 in
/-- dialtone/wish.isIn -/
theorem isIn_ok (rf rt sf st : Int) (x : Pxy) (w0 : World) :
  Ret Tryz.prog 119 #[.agg #[.int .i64 rf, .int .i64 rt], .agg #[.int .i64 sf, .int .i64 st], .agg #[.int .i64 x.frm, .int .i64 x.to, .int .i64 x.rf, .int .i64 x.rt, .int .i64 x.sf, .int .i64 x.st, sv x.sig]] w0 fun v w => v = .bool (isInH rf rt sf st x) ∧ Ext No w0 w := by
 refine ret_of Tryz.func119 rfl Tryz.ntmps119 (Nat.le_of_ble_eq_true rfl) fun a hfr => ?_
 replace hfr : Fr 37 [(0, _), (1, _), (2, _)] [] a := hfr
 replace hst : St No w0 [] w0 := St.init w0
 refine wc_seq_region fun K1 hK1 => ?_
 refine wl_box hfr hst (by decide) rfl (cs := [.int .i64 rf, .int .i64 rt]) rfl ?_
 clear hfr hst
 intro a w1 hfr hst
 refine wl_box hfr hst (by decide) rfl (cs := [.int .i64 sf, .int .i64 st]) rfl ?_
 clear hfr hst
 intro a w2 hfr hst
 refine wl_box hfr hst (by decide) rfl (cs := [.int .i64 x.frm, .int .i64 x.to, .int .i64 x.rf, .int .i64 x.rt, .int .i64 x.sf, .int .i64 x.st, sv x.sig]) rfl ?_
 clear hfr hst
 intro a w3 hfr hst
 refine wla hfr rfl fun a hfr => ?_
 refine wl_nil (hK1 _ _ ?_)
 refine wc_seq_region fun K2 hK2 => ?_
 refine wlv hfr (v_fieldAddr (v := .pointer (some ⟨w2.heap.size, 2, none⟩)) rfl (by kernel_rfl)) fun a hfr => ?_
 refine wlv hfr (v_fieldAddr (v := .pointer (some ⟨w2.heap.size, 2, none⟩)) rfl (by kernel_rfl)) fun a hfr => ?_
 refine wlv hfr (v_load_blk1 (hst.get (k := 0) rfl) rfl (Tryz.isAgg3 _) rfl) fun a hfr => ?_
 refine wlv hfr (v_fieldAddr (v := .pointer (some ⟨w0.heap.size, 0, none⟩)) rfl (by kernel_rfl)) fun a hfr => ?_
 refine wlv hfr (v_load_blk1 (hst.get (k := 2) rfl) rfl (Tryz.isAgg3 _) rfl) fun a hfr => ?_
 refine wlv hfr (v_le rfl rfl) fun a hfr => ?_
 refine wlm hfr rfl fun a hfr => ?_
 refine wl_join (N := 37) (df := []) 7 [(20, .bool ((decide (x.rf ≤ rf)) && (decide (rt ≤ x.rt)))), (0, .agg #[.int .i64 rf, .int .i64 rt]), (1, .agg #[.int .i64 sf, .int .i64 st]), (2, .agg #[.int .i64 x.frm, .int .i64 x.to, .int .i64 x.rf, .int .i64 x.rt, .int .i64 x.sf, .int .i64 x.st, sv x.sig]), (3, .pointer (some ⟨w0.heap.size, 0, none⟩)), (4, .pointer (some ⟨w1.heap.size, 0, none⟩)), (5, .pointer (some ⟨w2.heap.size, 0, none⟩)), (6, .bool false)] ?_ (fun hj => ?_)
 rotate_left
 ·rcases Bool.eq_false_or_eq_true (decide (x.rf ≤ rf)) with hb1 | hb1
  ·rw [hb1] at hfr
   have hb1b := hb1
   try simp only [qz, Bool.and_eq_true, Bool.or_eq_true, Bool.and_eq_false_iff, Bool.or_eq_false_iff] at hb1
   refine wly hfr (v_fieldAddr (v := .pointer (some ⟨w0.heap.size, 1, none⟩)) rfl (by kernel_rfl)) fun a hfr => ?_
   refine wly hfr (v_load_blk1 (hst.get (k := 2) rfl) rfl (Tryz.isAgg3 _) rfl) fun a hfr => ?_
   refine wly hfr (v_fieldAddr (v := .pointer (some ⟨w2.heap.size, 2, none⟩)) rfl (by kernel_rfl)) fun a hfr => ?_
   refine wly hfr (v_fieldAddr (v := .pointer (some ⟨w2.heap.size, 3, none⟩)) rfl (by kernel_rfl)) fun a hfr => ?_
   refine wly hfr (v_load_blk1 (hst.get (k := 0) rfl) rfl (Tryz.isAgg3 _) rfl) fun a hfr => ?_
   refine wly hfr (v_le rfl rfl) fun a hfr => ?_
   refine wlv hfr (v_pick_t rfl rfl) fun a hfr => ?_
   refine hj _ ?_
   try rw [hb1b]
   exact hfr.pick [20, 0, 1, 2, 3, 4, 5, 6]
  rw [hb1] at hfr
  have hb1b := hb1
  try simp only [qz, Bool.and_eq_true, Bool.or_eq_true, Bool.and_eq_false_iff, Bool.or_eq_false_iff] at hb1
  refine wln hfr fun a hfr => ?_
  refine wln hfr fun a hfr => ?_
  refine wln hfr fun a hfr => ?_
  refine wln hfr fun a hfr => ?_
  refine wln hfr fun a hfr => ?_
  refine wln hfr fun a hfr => ?_
  refine wlv hfr (v_pick_f rfl rfl) fun a hfr => ?_
  refine hj _ ?_
  try rw [hb1b]
  exact hfr.pick [20, 0, 1, 2, 3, 4, 5, 6]
 intro a hfr
 refine wlm hfr rfl fun a hfr => ?_
 refine wl_join (N := 37) (df := []) 7 [(28, .bool (((decide (x.rf ≤ rf)) && (decide (rt ≤ x.rt))) && (decide (x.sf ≤ sf)))), (0, .agg #[.int .i64 rf, .int .i64 rt]), (1, .agg #[.int .i64 sf, .int .i64 st]), (2, .agg #[.int .i64 x.frm, .int .i64 x.to, .int .i64 x.rf, .int .i64 x.rt, .int .i64 x.sf, .int .i64 x.st, sv x.sig]), (3, .pointer (some ⟨w0.heap.size, 0, none⟩)), (4, .pointer (some ⟨w1.heap.size, 0, none⟩)), (5, .pointer (some ⟨w2.heap.size, 0, none⟩)), (6, .bool false)] ?_ (fun hj => ?_)
 rotate_left
 ·rcases Bool.eq_false_or_eq_true ((decide (x.rf ≤ rf)) && (decide (rt ≤ x.rt))) with hb2 | hb2
  ·rw [hb2] at hfr
   have hb2b := hb2
   try simp only [qz, Bool.and_eq_true, Bool.or_eq_true, Bool.and_eq_false_iff, Bool.or_eq_false_iff] at hb2
   refine wly hfr (v_fieldAddr (v := .pointer (some ⟨w2.heap.size, 4, none⟩)) rfl (by kernel_rfl)) fun a hfr => ?_
   refine wly hfr (v_fieldAddr (v := .pointer (some ⟨w2.heap.size, 4, none⟩)) rfl (by kernel_rfl)) fun a hfr => ?_
   refine wly hfr (v_load_blk1 (hst.get (k := 0) rfl) rfl (Tryz.isAgg3 _) rfl) fun a hfr => ?_
   refine wly hfr (v_fieldAddr (v := .pointer (some ⟨w1.heap.size, 0, none⟩)) rfl (by kernel_rfl)) fun a hfr => ?_
   refine wly hfr (v_load_blk1 (hst.get (k := 1) rfl) rfl (Tryz.isAgg3 _) rfl) fun a hfr => ?_
   refine wly hfr (v_le rfl rfl) fun a hfr => ?_
   refine wlv hfr (v_pick_t rfl rfl) fun a hfr => ?_
   refine hj _ ?_
   try rw [hb2b]
   exact hfr.pick [28, 0, 1, 2, 3, 4, 5, 6]
  rw [hb2] at hfr
  have hb2b := hb2
  try simp only [qz, Bool.and_eq_true, Bool.or_eq_true, Bool.and_eq_false_iff, Bool.or_eq_false_iff] at hb2
  refine wln hfr fun a hfr => ?_
  refine wln hfr fun a hfr => ?_
  refine wln hfr fun a hfr => ?_
  refine wln hfr fun a hfr => ?_
  refine wln hfr fun a hfr => ?_
  refine wln hfr fun a hfr => ?_
  refine wlv hfr (v_pick_f rfl rfl) fun a hfr => ?_
  refine hj _ ?_
  try rw [hb2b]
  exact hfr.pick [28, 0, 1, 2, 3, 4, 5, 6]
 intro a hfr
 refine wlm hfr rfl fun a hfr => ?_
 refine wl_join (N := 37) (df := []) 7 [(36, .bool ((((decide (x.rf ≤ rf)) && (decide (rt ≤ x.rt))) && (decide (x.sf ≤ sf))) && (decide (st ≤ x.st)))), (0, .agg #[.int .i64 rf, .int .i64 rt]), (1, .agg #[.int .i64 sf, .int .i64 st]), (2, .agg #[.int .i64 x.frm, .int .i64 x.to, .int .i64 x.rf, .int .i64 x.rt, .int .i64 x.sf, .int .i64 x.st, sv x.sig]), (3, .pointer (some ⟨w0.heap.size, 0, none⟩)), (4, .pointer (some ⟨w1.heap.size, 0, none⟩)), (5, .pointer (some ⟨w2.heap.size, 0, none⟩)), (6, .bool false)] ?_ (fun hj => ?_)
 rotate_left
 ·rcases Bool.eq_false_or_eq_true (((decide (x.rf ≤ rf)) && (decide (rt ≤ x.rt))) && (decide (x.sf ≤ sf))) with hb3 | hb3
  ·rw [hb3] at hfr
   have hb3b := hb3
   try simp only [qz, Bool.and_eq_true, Bool.or_eq_true, Bool.and_eq_false_iff, Bool.or_eq_false_iff] at hb3
   refine wly hfr (v_fieldAddr (v := .pointer (some ⟨w1.heap.size, 1, none⟩)) rfl (by kernel_rfl)) fun a hfr => ?_
   refine wly hfr (v_load_blk1 (hst.get (k := 1) rfl) rfl (Tryz.isAgg3 _) rfl) fun a hfr => ?_
   refine wly hfr (v_fieldAddr (v := .pointer (some ⟨w2.heap.size, 4, none⟩)) rfl (by kernel_rfl)) fun a hfr => ?_
   refine wly hfr (v_fieldAddr (v := .pointer (some ⟨w2.heap.size, 5, none⟩)) rfl (by kernel_rfl)) fun a hfr => ?_
   refine wly hfr (v_load_blk1 (hst.get (k := 0) rfl) rfl (Tryz.isAgg3 _) rfl) fun a hfr => ?_
   refine wly hfr (v_le rfl rfl) fun a hfr => ?_
   refine wlv hfr (v_pick_t rfl rfl) fun a hfr => ?_
   refine hj _ ?_
   try rw [hb3b]
   exact hfr.pick [36, 0, 1, 2, 3, 4, 5, 6]
  rw [hb3] at hfr
  have hb3b := hb3
  try simp only [qz, Bool.and_eq_true, Bool.or_eq_true, Bool.and_eq_false_iff, Bool.or_eq_false_iff] at hb3
  refine wln hfr fun a hfr => ?_
  refine wln hfr fun a hfr => ?_
  refine wln hfr fun a hfr => ?_
  refine wln hfr fun a hfr => ?_
  refine wln hfr fun a hfr => ?_
  refine wln hfr fun a hfr => ?_
  refine wlv hfr (v_pick_f rfl rfl) fun a hfr => ?_
  refine hj _ ?_
  try rw [hb3b]
  exact hfr.pick [36, 0, 1, 2, 3, 4, 5, 6]
 intro a hfr
 refine wla hfr rfl fun a hfr => ?_
 refine wl_nil (hK2 _ _ ?_)
 replace hfr : Fr 37 [(6, _)] [] a := hfr.pick [6]
 replace hst : St No w0 [] w3 := hst.mask [false, false, false]
 refine wc_ret ?_
 refine fin_ret hfr Tryz.results119 (resAre_tmp rfl resAre_nil) ?_
 exact ⟨by rfl, hst.ext⟩
def prevP (xs : List Pxy) (k : Nat) : Option Pxy := if k = 0 then none else some (xs.getD (k - 1) Pxy.z)
theorem drop_cons {α : Type} {xs : List α} {k : Nat} (d : α) (h : k < xs.length) : xs.drop k = xs.getD k d :: xs.drop (k + 1) := by
 rw [List.drop_eq_getElem_cons h, List.getD_eq_getElem?_getD, List.getElem?_eq_getElem h]; rfl
def scopeV (x : Wsh) (xs : List Pxy) : Int × Bool := match scopeBad x none xs 0 with | some n => (n, true) | none => (-1, false)
theorem scope_none {x : Wsh} {xs : List Pxy} (h : scopeBad x none xs 0 = none) : scopeV x xs = (-1, false) := by unfold scopeV; rw [h]
theorem scope_some {x : Wsh} {xs : List Pxy} {n : Int} (h : scopeBad x none xs 0 = some n) : scopeV x xs = (n, true) := by unfold scopeV; rw [h]
theorem scope_step {x : Wsh} {xs : List Pxy} {k : Nat} (hk : k < xs.length) (h : k = 0 ∨ isInH (xs.getD k Pxy.z).rf (xs.getD k Pxy.z).rt (xs.getD k Pxy.z).sf (xs.getD k Pxy.z).st (xs.getD (k - 1) Pxy.z) = true) :
  scopeBad x (prevP xs k) (xs.drop k) k = scopeBad x (prevP xs (k + 1)) (xs.drop (k + 1)) (k + 1) := by
 rw [drop_cons Pxy.z hk]
 by_cases h0 : k = 0
 ·subst h0; rfl
 ·unfold prevP
  rw [if_neg h0, if_neg (by omega), scopeBad, if_pos (h.resolve_left h0)]; rfl
theorem scope_hit {x : Wsh} {xs : List Pxy} {k : Nat} (hk : k < xs.length) (h0 : 0 < k) (h : isInH (xs.getD k Pxy.z).rf (xs.getD k Pxy.z).rt (xs.getD k Pxy.z).sf (xs.getD k Pxy.z).st (xs.getD (k - 1) Pxy.z) = false) :
  scopeBad x (prevP xs k) (xs.drop k) k = some (k : Int) := by
 rw [drop_cons Pxy.z hk]
 unfold prevP
 rw [if_neg (by omega), scopeBad, if_neg (by rw [h]; simp)]
theorem scope_end {x : Wsh} {xs : List Pxy} : scopeBad x (prevP xs xs.length) (xs.drop xs.length) xs.length = if xs.length = 0 ∨ isInH x.rf x.rt x.sf x.st (xs.getD (xs.length - 1) Pxy.z) = true then none else some (-1) := by
 rw [List.drop_length]
 unfold prevP
 by_cases h0 : xs.length = 0
 ·rw [if_pos h0, if_pos (.inl h0)]; rfl
 ·rw [if_neg h0, scopeBad]; simp [h0]
theorem scope_zero {x : Wsh} {xs : List Pxy} (h : xs.length = 0) (hs : scopeBad x none xs 0 = if xs.length = 0 ∨ isInH x.rf x.rt x.sf x.st (xs.getD (xs.length - 1) Pxy.z) = true then none else some (-1)) : scopeV x xs = (-1, false) := by
 rw [if_pos (.inl h)] at hs; exact scope_none hs
theorem scope_last {x : Wsh} {xs : List Pxy} (h : 0 < xs.length) (hs : scopeBad x none xs 0 = if xs.length = 0 ∨ isInH x.rf x.rt x.sf x.st (xs.getD (xs.length - 1) Pxy.z) = true then none else some (-1)) : scopeV x xs = (-1, !isInH x.rf x.rt x.sf x.st (xs.getD (xs.length - 1) Pxy.z)) := by
 cases hc : isInH x.rf x.rt x.sf x.st (xs.getD (xs.length - 1) Pxy.z) with
 | true => rw [if_pos (.inr hc)] at hs; exact scope_none hs
 | false => rw [if_neg (fun hh => by rcases hh with hh | hh; omega; rw [hc] at hh; cases hh)] at hs; exact scope_some hs
set_option maxHeartbeats 4000000 in
/-- dialtone/wish.scope -/
theorem scope_ok (x : Wsh) (lv : Value) (xs : List Pxy) (w0 : World) (hlv : SlAt w0 lv 7 (xs.map Pxy.cells)) :
  Ret Tryz.prog 62 #[.agg #[.int .i64 x.signer, .int .i64 x.holder, .int .i64 x.rf, .int .i64 x.rt, .int .i64 x.carrier, .int .i64 x.serial, .int .i64 x.sf, .int .i64 x.st, sv x.sig], lv] w0 fun v w => v = .tuple #[.int .i64 (scopeV x xs).1, .bool (scopeV x xs).2] ∧ Ext No w0 w := by
 have hxb := hlv.2.1
 simp only [List.length_map, big] at hxb
 refine ret_of Tryz.func62 rfl Tryz.ntmps62 (Nat.le_of_ble_eq_true rfl) fun a hfr => ?_
 replace hfr : Fr 49 [(0, _), (1, _)] [] a := hfr
 replace hst : St No w0 [] w0 := St.init w0
 refine wc_seq_region fun K1 hK1 => ?_
 refine wl_box hfr hst (by decide) rfl (cs := [.int .i64 x.signer, .int .i64 x.holder, .int .i64 x.rf, .int .i64 x.rt, .int .i64 x.carrier, .int .i64 x.serial, .int .i64 x.sf, .int .i64 x.st, sv x.sig]) rfl ?_
 clear hfr hst
 intro a w1 hfr hst
 refine wla hfr rfl fun a hfr => ?_
 refine wla hfr rfl fun a hfr => ?_
 refine wl_nil (hK1 _ _ ?_)
 refine wc_seq_k fun K2 hK2 => ?_
 refine wc_seq_region fun K3 hK3 => ?_
 refine wlm hfr rfl fun a hfr => ?_
 refine wlv hfr ((v_len_sl (sT := 31) (hst.arg hlv) rfl rfl (Tryz.runUnderlying31 _)).asi (m' := (xs.length : Int)) (by rw [List.length_map])) fun a hfr => ?_
 refine wlm hfr rfl fun a hfr => ?_
 refine wl_nil (hK3 _ _ ?_)
 refine wc_block ?_
 refine wc_loop (fun m a w => ∃ (k : Nat), m = xs.length - k ∧ (k ≤ xs.length) ∧ (scopeBad x none xs 0 = scopeBad x (prevP xs k) (xs.drop k) k) ∧ Fr 49 [(1, lv), (2, .pointer (some ⟨w0.heap.size, 0, none⟩)), (8, lv), (9, .int .i64 (xs.length : Int)), (10, .int .i64 (k : Int))] [] a ∧ St No w0 [blk w0.heap.size [.int .i64 x.signer, .int .i64 x.holder, .int .i64 x.rf, .int .i64 x.rt, .int .i64 x.carrier, .int .i64 x.serial, .int .i64 x.sf, .int .i64 x.st, sv x.sig] 30] w) _ ⟨0, rfl, Nat.zero_le _, rfl, hfr.pick [1, 2, 8, 9, 10], hst.select [0] (by decide)⟩ ?_
 rintro _ a w2 ⟨k, rfl, hk, hs, hfr, hst⟩
 refine wc_seq_region fun K4 hK4 => ?_
 refine wlv hfr (v_lt rfl rfl) fun a hfr => ?_
 refine wl_nil (hK4 _ _ ?_)
 refine wc_seq_k fun K5 hK5 => ?_
 refine wc_cond hfr rfl (fun hc1 => ?_) (fun hc1 => ?_)
 ·rw [hc1] at hfr
  try simp only [qz] at hc1
  have hkx : k < xs.length := by omega
  refine wc_skip ?_
  refine hK5 _ _ ?_
  refine wc_seq_k fun K6 hK6 => ?_
  refine wc_block ?_
  refine wc_seq_region fun K7 hK7 => ?_
  refine wlm hfr rfl fun a hfr => ?_
  refine wlv hfr ((v_indexAddr_sl (i := (k : Int)) (sT := 31) (hst.arg hlv) rfl rfl (Tryz.runUnderlying31 _) (Tryz.sizeOf40 _) (by omega) (by rw [List.length_map]; omega)).as (v' := slAddr lv (k * 7)) rfl) fun a hfr => ?_
  refine wlv hfr ((v_load_sl (hst.arg hlv) (i := k) (by rw [List.length_map]; omega) rfl (Tryz.isAgg40 _) (Tryz.sizeOf40 _)).as (v' := .agg #[.int .i64 ((xs.getD k Pxy.z).frm), .int .i64 ((xs.getD k Pxy.z).to), .int .i64 ((xs.getD k Pxy.z).rf), .int .i64 ((xs.getD k Pxy.z).rt), .int .i64 ((xs.getD k Pxy.z).sf), .int .i64 ((xs.getD k Pxy.z).st), sv ((xs.getD k Pxy.z).sig)]) (by rw [el_at Pxy.z]; rfl)) fun a hfr => ?_
  refine wl_alloc hfr hst (by decide) (Tryz.zeroValue40 _) (cs := [.int .i64 0, .int .i64 0, .int .i64 0, .int .i64 0, .int .i64 0, .int .i64 0, .string (⟨#[]⟩)]) rfl ?_
  clear hfr hst
  intro a w3 hfr hst
  refine wla hfr rfl fun a hfr => ?_
  refine wl_store 0 hfr hst rfl rfl rfl (Tryz.sizeOf40 _) rfl (Nat.le_of_ble_eq_true rfl) (ds := [.int .i64 ((xs.getD k Pxy.z).frm), .int .i64 ((xs.getD k Pxy.z).to), .int .i64 ((xs.getD k Pxy.z).rf), .int .i64 ((xs.getD k Pxy.z).rt), .int .i64 ((xs.getD k Pxy.z).sf), .int .i64 ((xs.getD k Pxy.z).st), sv ((xs.getD k Pxy.z).sig)]) rfl rfl ?_
  clear hfr hst
  intro a w4 hfr hst
  refine wl_nil (hK7 _ _ ?_)
  refine wc_seq_k fun K8 hK8 => ?_
  refine wc_of_dr (by kernel_rfl) (dr_of_wd (by kernel_rfl) fun w5 hxz => ?_)
  replace hst := hst.grow hxz
  refine wd_lin (k := 0) 3 [2] (by kernel_rfl) (by kernel_rfl) (by kernel_rfl) ?_
  refine wlm hfr rfl fun a hfr => ?_
  refine wlv hfr (v_gt rfl rfl) fun a hfr => ?_
  refine wlm hfr rfl fun a hfr => ?_
  refine wl_nil ?_
  rcases Bool.eq_false_or_eq_true (decide (0 < (k : Int))) with hb2 | hb2
  ·rw [hb2] at hfr
   try simp only [qz] at hb2
   refine wd_sub (k := 3) 12 [4, 6, 11] hfr (by kernel_rfl) (by kernel_rfl) (by kernel_rfl) (by rfl) ?_
   replace hfr : Fr 49 [(1, _), (2, _), (8, _), (9, _), (10, _), (11, _), (12, _), (13, _), (14, _), (7, _), (6, _), (15, _), (16, _), (17, _)] [] a := hfr.pick [1, 2, 8, 9, 10, 11, 12, 13, 14, 7, 6, 15, 16, 17]
   refine wc_phases_q [] (fun i => match i with | _ => fun _ _ => False) 9 [[], [0], [], [2], [], [], [5], [4, 6], [7]] [.pointer (some ⟨w2.heap.size, 2, none⟩), .agg #[.int .i64 ((xs.getD k Pxy.z).rf), .int .i64 ((xs.getD k Pxy.z).rt)], .pointer (some ⟨w2.heap.size, 4, none⟩), .agg #[.int .i64 ((xs.getD k Pxy.z).sf), .int .i64 ((xs.getD k Pxy.z).st)], lv, .int .i64 (k : Int), .int .i64 ((k : Int) - 1), slAddr lv ((k - 1) * 7), .agg #[.int .i64 ((xs.getD (k - 1) Pxy.z).frm), .int .i64 ((xs.getD (k - 1) Pxy.z).to), .int .i64 ((xs.getD (k - 1) Pxy.z).rf), .int .i64 ((xs.getD (k - 1) Pxy.z).rt), .int .i64 ((xs.getD (k - 1) Pxy.z).sf), .int .i64 ((xs.getD (k - 1) Pxy.z).st), sv ((xs.getD (k - 1) Pxy.z).sig)]] hfr hst (by kernel_rfl) (by kernel_rfl) (by kernel_rfl) ?_ ?_ ?_
   ·intro i hi hiq
    match i, hi, hiq with
    | 0, _, _ =>
     intro w hst
     exact OpV.g (v_fieldAddr (v := .pointer (some ⟨w2.heap.size, 2, none⟩)) rfl (by kernel_rfl))
    | 1, _, _ =>
     intro w hst
     exact OpV.g (v_load_blk (ds := [.int .i64 ((xs.getD k Pxy.z).rf), .int .i64 ((xs.getD k Pxy.z).rt)]) (hst.get (k := 0) rfl) rfl (Tryz.isAgg27 _) (Tryz.sizeOf27 _) rfl)
    | 2, _, _ =>
     intro w hst
     exact OpV.g (v_fieldAddr (v := .pointer (some ⟨w2.heap.size, 4, none⟩)) rfl (by kernel_rfl))
    | 3, _, _ =>
     intro w hst
     exact OpV.g (v_load_blk (ds := [.int .i64 ((xs.getD k Pxy.z).sf), .int .i64 ((xs.getD k Pxy.z).st)]) (hst.get (k := 0) rfl) rfl (Tryz.isAgg28 _) (Tryz.sizeOf28 _) rfl)
    | 4, _, _ =>
     intro w hst
     exact OpV.g (v_move rfl)
    | 5, _, _ =>
     intro w hst
     exact OpV.g (v_move rfl)
    | 6, _, _ =>
     intro w hst
     exact OpV.g (v_sub rfl rfl ⟨by omega, by omega⟩)
    | 7, _, _ =>
     intro w hst
     exact OpV.g ((v_indexAddr_sl (i := (k : Int) - 1) (sT := 31) (hst.arg hlv) rfl rfl (Tryz.runUnderlying31 _) (Tryz.sizeOf40 _) (by omega) (by rw [List.length_map]; omega)).as (v' := slAddr lv ((k - 1) * 7)) (by rw [show ((k : Int) - 1).toNat = (k - 1) from by omega]))
    | 8, _, _ =>
     intro w hst
     exact OpV.g ((v_load_sl (hst.arg hlv) (i := (k - 1)) (by rw [List.length_map]; omega) rfl (Tryz.isAgg40 _) (Tryz.sizeOf40 _)).as (v' := .agg #[.int .i64 ((xs.getD (k - 1) Pxy.z).frm), .int .i64 ((xs.getD (k - 1) Pxy.z).to), .int .i64 ((xs.getD (k - 1) Pxy.z).rf), .int .i64 ((xs.getD (k - 1) Pxy.z).rt), .int .i64 ((xs.getD (k - 1) Pxy.z).sf), .int .i64 ((xs.getD (k - 1) Pxy.z).st), sv ((xs.getD (k - 1) Pxy.z).sig)]) (by rw [el_at Pxy.z]; rfl))
   ·intro i hi
    exact absurd hi (by simp)
   clear hfr hst
   intro  a w6 hfr hst
   replace hfr : Fr 49 [(18, .pointer (some ⟨w2.heap.size, 2, none⟩)), (19, .agg #[.int .i64 ((xs.getD k Pxy.z).rf), .int .i64 ((xs.getD k Pxy.z).rt)]), (20, .pointer (some ⟨w2.heap.size, 4, none⟩)), (21, .agg #[.int .i64 ((xs.getD k Pxy.z).sf), .int .i64 ((xs.getD k Pxy.z).st)]), (22, lv), (23, .int .i64 (k : Int)), (24, .int .i64 ((k : Int) - 1)), (25, slAddr lv ((k - 1) * 7)), (26, .agg #[.int .i64 ((xs.getD (k - 1) Pxy.z).frm), .int .i64 ((xs.getD (k - 1) Pxy.z).to), .int .i64 ((xs.getD (k - 1) Pxy.z).rf), .int .i64 ((xs.getD (k - 1) Pxy.z).rt), .int .i64 ((xs.getD (k - 1) Pxy.z).sf), .int .i64 ((xs.getD (k - 1) Pxy.z).st), sv ((xs.getD (k - 1) Pxy.z).sig)]), (1, _), (2, _), (8, _), (9, _), (10, _), (11, _), (12, _), (13, _), (14, _), (7, _), (6, _), (15, _), (16, _), (17, _)] [] a := hfr
   refine wl_nil ?_
   refine wd_lin (k := 12) 15 [14] (by kernel_rfl) (by kernel_rfl) (by kernel_rfl) ?_
   refine wl_callpy hfr hst (by decide) rfl (by decide) rfl Tryz.call119 rfl (isIn_ok ((xs.getD k Pxy.z).rf) ((xs.getD k Pxy.z).rt) ((xs.getD k Pxy.z).sf) ((xs.getD k Pxy.z).st) (xs.getD (k - 1) Pxy.z) _) ?_
   clear hfr hst
   intro a w7 hfr hst
   refine wly hfr (v_not rfl) fun a hfr => ?_
   refine wlv hfr (v_pick_t rfl rfl) fun a hfr => ?_
   refine wl_nil ?_
   refine wd_end (by kernel_rfl) ?_
   refine hK8 _ _ ?_
   replace hfr : Fr 49 [(1, _), (2, _), (8, _), (9, _), (10, _), (6, _), (29, _)] [] a := hfr.pick [1, 2, 8, 9, 10, 6, 29]
   replace hst : St No w0 [_] w7 := hst.mask [false, true]
   refine wc_cond hfr rfl (fun hc3 => ?_) (fun hc3 => ?_)
   ·rw [hc3] at hfr
    try simp only [qz] at hc3
    refine wc_seq_region fun K9 hK9 => ?_
    refine wlm hfr rfl fun a hfr => ?_
    refine wla hfr rfl fun a hfr => ?_
    refine wla hfr rfl fun a hfr => ?_
    refine wl_nil (hK9 _ _ ?_)
    refine wc_ret ?_
    refine fin_ret hfr Tryz.results62 (resAre_tmp rfl (resAre_tmp rfl resAre_nil)) ?_
    exact ⟨by simp only [retv]; rw [scope_some (by rw [hs]; exact scope_hit hkx (by omega) (by simpa using hc3))], hst.ext⟩
   rw [hc3] at hfr
   try simp only [qz] at hc3
   refine wc_skip ?_
   refine hK6 _ _ ?_
   refine wc_region ?_
   refine wlv hfr (v_add rfl rfl ⟨by omega, by omega⟩) fun a hfr => ?_
   refine wlm hfr rfl fun a hfr => ?_
   refine wl_nil ?_
   refine ⟨_, ?_, k + 1, rfl, (by omega), (by rw [hs]; exact scope_step hkx (by first | (left; omega) | (right; simpa using hc3))), hfr.pick [1, 2, 8, 9, 10], hst.select [0] (by decide)⟩
   omega
  rw [hb2] at hfr
  try simp only [qz] at hb2
  replace hfr : Fr 49 [(1, lv), (2, .pointer (some ⟨w0.heap.size, 0, none⟩)), (8, lv), (9, .int .i64 (xs.length : Int)), (10, .int .i64 (k : Int)), (11, .bool true), (12, .int .i64 (k : Int)), (13, slAddr lv (k * 7)), (14, .agg #[.int .i64 ((xs.getD k Pxy.z).frm), .int .i64 ((xs.getD k Pxy.z).to), .int .i64 ((xs.getD k Pxy.z).rf), .int .i64 ((xs.getD k Pxy.z).rt), .int .i64 ((xs.getD k Pxy.z).sf), .int .i64 ((xs.getD k Pxy.z).st), sv ((xs.getD k Pxy.z).sig)]), (7, .pointer (some ⟨w2.heap.size, 0, none⟩)), (6, .int .i64 (k : Int)), (15, .int .i64 (k : Int)), (16, .bool false), (17, .bool false)] [] a := hfr.pick [1, 2, 8, 9, 10, 11, 12, 13, 14, 7, 6, 15, 16, 17]
  refine wd_skip (k := 3) 12 [4, 6, 11] hfr (by kernel_rfl) (by kernel_rfl) (by kernel_rfl) (by rfl) fun a hfr => ?_
  replace hfr : Fr 49 [(18, undef), (19, undef), (20, undef), (21, undef), (22, undef), (23, undef), (24, undef), (25, undef), (26, undef), (1, lv), (2, .pointer (some ⟨w0.heap.size, 0, none⟩)), (8, lv), (9, .int .i64 (xs.length : Int)), (10, .int .i64 (k : Int)), (11, .bool true), (12, .int .i64 (k : Int)), (13, slAddr lv (k * 7)), (14, .agg #[.int .i64 ((xs.getD k Pxy.z).frm), .int .i64 ((xs.getD k Pxy.z).to), .int .i64 ((xs.getD k Pxy.z).rf), .int .i64 ((xs.getD k Pxy.z).rt), .int .i64 ((xs.getD k Pxy.z).sf), .int .i64 ((xs.getD k Pxy.z).st), sv ((xs.getD k Pxy.z).sig)]), (7, .pointer (some ⟨w2.heap.size, 0, none⟩)), (6, .int .i64 (k : Int)), (15, .int .i64 (k : Int)), (16, .bool false), (17, .bool false)] [] a := hfr
  refine wd_lin (k := 12) 15 [14] (by kernel_rfl) (by kernel_rfl) (by kernel_rfl) ?_
  refine wln hfr fun a hfr => ?_
  refine wln hfr fun a hfr => ?_
  refine wlv hfr (v_pick_f rfl rfl) fun a hfr => ?_
  refine wl_nil ?_
  refine wd_end (by kernel_rfl) ?_
  refine hK8 _ _ ?_
  replace hfr : Fr 49 [(1, _), (2, _), (8, _), (9, _), (10, _), (6, _), (29, _)] [] a := hfr.pick [1, 2, 8, 9, 10, 6, 29]
  replace hst : St No w0 [_] w5 := hst.mask [false, true]
  refine wc_cond_f hfr rfl ?_
  refine wc_skip ?_
  refine hK6 _ _ ?_
  refine wc_region ?_
  refine wlv hfr (v_add rfl rfl ⟨by omega, by omega⟩) fun a hfr => ?_
  refine wlm hfr rfl fun a hfr => ?_
  refine wl_nil ?_
  refine ⟨_, ?_, k + 1, rfl, (by omega), (by rw [hs]; exact scope_step hkx (by first | (left; omega) | (right; simpa using hb2))), hfr.pick [1, 2, 8, 9, 10], hst.select [0] (by decide)⟩
  omega
 rw [hc1] at hfr
 try simp only [qz] at hc1
 have hke : k = xs.length := by omega
 rw [hke, scope_end] at hs
 refine wc_exit ?_
 refine hK2 _ _ ?_
 refine wc_seq_k fun K10 hK10 => ?_
 refine wc_of_dr (by kernel_rfl) (dr_of_wd (by kernel_rfl) fun w8 hxz => ?_)
 replace hst := hst.grow hxz
 refine wd_lin (k := 0) 4 [3] (by kernel_rfl) (by kernel_rfl) (by kernel_rfl) ?_
 refine wlm hfr rfl fun a hfr => ?_
 refine wlv hfr ((v_len_sl (sT := 31) (hst.arg hlv) rfl rfl (Tryz.runUnderlying31 _)).asi (m' := (xs.length : Int)) (by rw [List.length_map])) fun a hfr => ?_
 refine wlv hfr (v_gt rfl rfl) fun a hfr => ?_
 refine wlm hfr rfl fun a hfr => ?_
 refine wl_nil ?_
 rcases Bool.eq_false_or_eq_true (decide (0 < (xs.length : Int))) with hb4 | hb4
 ·rw [hb4] at hfr
  try simp only [qz] at hb4
  refine wd_sub (k := 4) 14 [5, 7, 13] hfr (by kernel_rfl) (by kernel_rfl) (by kernel_rfl) (by rfl) ?_
  replace hfr : Fr 49 [(1, _), (2, _), (8, _), (9, _), (10, _), (11, _), (32, _), (33, _), (34, _), (35, _)] [] a := hfr.pick [1, 2, 8, 9, 10, 11, 32, 33, 34, 35]
  refine wc_phases_q [] (fun i => match i with | _ => fun _ _ => False) 10 [[], [0], [], [2], [], [], [5], [6], [4, 7], [8]] [.pointer (some ⟨w0.heap.size, 2, none⟩), .agg #[.int .i64 x.rf, .int .i64 x.rt], .pointer (some ⟨w0.heap.size, 6, none⟩), .agg #[.int .i64 x.sf, .int .i64 x.st], lv, lv, .int .i64 (xs.length : Int), .int .i64 ((xs.length : Int) - 1), slAddr lv ((xs.length - 1) * 7), .agg #[.int .i64 ((xs.getD (xs.length - 1) Pxy.z).frm), .int .i64 ((xs.getD (xs.length - 1) Pxy.z).to), .int .i64 ((xs.getD (xs.length - 1) Pxy.z).rf), .int .i64 ((xs.getD (xs.length - 1) Pxy.z).rt), .int .i64 ((xs.getD (xs.length - 1) Pxy.z).sf), .int .i64 ((xs.getD (xs.length - 1) Pxy.z).st), sv ((xs.getD (xs.length - 1) Pxy.z).sig)]] hfr hst (by kernel_rfl) (by kernel_rfl) (by kernel_rfl) ?_ ?_ ?_
  ·intro i hi hiq
   match i, hi, hiq with
   | 0, _, _ =>
    intro w hst
    exact OpV.g (v_fieldAddr (v := .pointer (some ⟨w0.heap.size, 2, none⟩)) rfl (by kernel_rfl))
   | 1, _, _ =>
    intro w hst
    exact OpV.g (v_load_blk (ds := [.int .i64 x.rf, .int .i64 x.rt]) (hst.get (k := 0) rfl) rfl (Tryz.isAgg27 _) (Tryz.sizeOf27 _) rfl)
   | 2, _, _ =>
    intro w hst
    exact OpV.g (v_fieldAddr (v := .pointer (some ⟨w0.heap.size, 6, none⟩)) rfl (by kernel_rfl))
   | 3, _, _ =>
    intro w hst
    exact OpV.g (v_load_blk (ds := [.int .i64 x.sf, .int .i64 x.st]) (hst.get (k := 0) rfl) rfl (Tryz.isAgg28 _) (Tryz.sizeOf28 _) rfl)
   | 4, _, _ =>
    intro w hst
    exact OpV.g (v_move rfl)
   | 5, _, _ =>
    intro w hst
    exact OpV.g (v_move rfl)
   | 6, _, _ =>
    intro w hst
    exact OpV.g ((v_len_sl (sT := 31) (hst.arg hlv) rfl rfl (Tryz.runUnderlying31 _)).asi (m' := (xs.length : Int)) (by rw [List.length_map]))
   | 7, _, _ =>
    intro w hst
    exact OpV.g (v_sub rfl rfl ⟨by omega, by omega⟩)
   | 8, _, _ =>
    intro w hst
    exact OpV.g ((v_indexAddr_sl (i := (xs.length : Int) - 1) (sT := 31) (hst.arg hlv) rfl rfl (Tryz.runUnderlying31 _) (Tryz.sizeOf40 _) (by omega) (by rw [List.length_map]; omega)).as (v' := slAddr lv ((xs.length - 1) * 7)) (by rw [show ((xs.length : Int) - 1).toNat = (xs.length - 1) from by omega]))
   | 9, _, _ =>
    intro w hst
    exact OpV.g ((v_load_sl (hst.arg hlv) (i := (xs.length - 1)) (by rw [List.length_map]; omega) rfl (Tryz.isAgg40 _) (Tryz.sizeOf40 _)).as (v' := .agg #[.int .i64 ((xs.getD (xs.length - 1) Pxy.z).frm), .int .i64 ((xs.getD (xs.length - 1) Pxy.z).to), .int .i64 ((xs.getD (xs.length - 1) Pxy.z).rf), .int .i64 ((xs.getD (xs.length - 1) Pxy.z).rt), .int .i64 ((xs.getD (xs.length - 1) Pxy.z).sf), .int .i64 ((xs.getD (xs.length - 1) Pxy.z).st), sv ((xs.getD (xs.length - 1) Pxy.z).sig)]) (by rw [el_at Pxy.z]; rfl))
  ·intro i hi
   exact absurd hi (by simp)
  clear hfr hst
  intro  a w9 hfr hst
  replace hfr : Fr 49 [(36, .pointer (some ⟨w0.heap.size, 2, none⟩)), (37, .agg #[.int .i64 x.rf, .int .i64 x.rt]), (38, .pointer (some ⟨w0.heap.size, 6, none⟩)), (39, .agg #[.int .i64 x.sf, .int .i64 x.st]), (40, lv), (41, lv), (42, .int .i64 (xs.length : Int)), (43, .int .i64 ((xs.length : Int) - 1)), (44, slAddr lv ((xs.length - 1) * 7)), (45, .agg #[.int .i64 ((xs.getD (xs.length - 1) Pxy.z).frm), .int .i64 ((xs.getD (xs.length - 1) Pxy.z).to), .int .i64 ((xs.getD (xs.length - 1) Pxy.z).rf), .int .i64 ((xs.getD (xs.length - 1) Pxy.z).rt), .int .i64 ((xs.getD (xs.length - 1) Pxy.z).sf), .int .i64 ((xs.getD (xs.length - 1) Pxy.z).st), sv ((xs.getD (xs.length - 1) Pxy.z).sig)]), (1, _), (2, _), (8, _), (9, _), (10, _), (11, _), (32, _), (33, _), (34, _), (35, _)] [] a := hfr
  refine wl_nil ?_
  refine wd_lin (k := 14) 15 [14] (by kernel_rfl) (by kernel_rfl) (by kernel_rfl) ?_
  refine wl_callpy hfr hst (by decide) rfl (by decide) rfl Tryz.call119 rfl (isIn_ok x.rf x.rt x.sf x.st (xs.getD (xs.length - 1) Pxy.z) _) ?_
  clear hfr hst
  intro a w10 hfr hst
  refine wl_nil ?_
  refine wd_sub (k := 15) 18 [16, 17] hfr (by kernel_rfl) (by kernel_rfl) (by kernel_rfl) (by rfl) ?_
  replace hfr : Fr 49 [(1, _), (2, _), (8, _), (9, _), (10, _), (11, _), (32, _), (33, _), (34, _), (35, _), (36, _), (37, _), (38, _), (39, _), (40, _), (41, _), (42, _), (43, _), (44, _), (45, _), (46, _)] [] a := hfr.pick [1, 2, 8, 9, 10, 11, 32, 33, 34, 35, 36, 37, 38, 39, 40, 41, 42, 43, 44, 45, 46]
  refine wc_phases_q [] (fun i => match i with | _ => fun _ _ => False) 3 [[], [0], []] [.bool (!(isInH x.rf x.rt x.sf x.st (xs.getD (xs.length - 1) Pxy.z))), .bool (!(isInH x.rf x.rt x.sf x.st (xs.getD (xs.length - 1) Pxy.z))), .int .i64 (-1)] hfr hst (by kernel_rfl) (by kernel_rfl) (by kernel_rfl) ?_ ?_ ?_
  ·intro i hi hiq
   match i, hi, hiq with
   | 0, _, _ =>
    intro w hst
    exact OpV.g (v_not rfl)
   | 1, _, _ =>
    intro w hst
    exact OpV.g (v_pick_t rfl rfl)
   | 2, _, _ =>
    intro w hst
    exact OpV.g (v_assign rfl)
  ·intro i hi
   exact absurd hi (by simp)
  clear hfr hst
  intro  a w11 hfr hst
  replace hfr : Fr 49 [(47, .bool (!(isInH x.rf x.rt x.sf x.st (xs.getD (xs.length - 1) Pxy.z)))), (48, .bool (!(isInH x.rf x.rt x.sf x.st (xs.getD (xs.length - 1) Pxy.z)))), (4, .int .i64 (-1)), (1, _), (2, _), (8, _), (9, _), (10, _), (11, _), (32, _), (33, _), (34, _), (35, _), (36, _), (37, _), (38, _), (39, _), (40, _), (41, _), (42, _), (43, _), (44, _), (45, _), (46, _)] [] a := hfr
  refine wl_nil ?_
  refine wd_lin (k := 18) 19 [18] (by kernel_rfl) (by kernel_rfl) (by kernel_rfl) ?_
  refine wla hfr rfl fun a hfr => ?_
  refine wl_nil ?_
  refine wd_end (by kernel_rfl) ?_
  refine hK10 _ _ ?_
  replace hfr : Fr 49 [(4, _), (5, _)] [] a := hfr.pick [4, 5]
  replace hst : St No w0 [] w11 := hst.mask [false]
  refine wc_ret ?_
  refine fin_ret hfr Tryz.results62 (resAre_tmp rfl (resAre_tmp rfl resAre_nil)) ?_
  exact ⟨by simp only [retv]; rw [scope_last (by omega) hs], hst.ext⟩
 rw [hb4] at hfr
 try simp only [qz] at hb4
 replace hfr : Fr 49 [(1, lv), (2, .pointer (some ⟨w0.heap.size, 0, none⟩)), (8, lv), (9, .int .i64 (xs.length : Int)), (10, .int .i64 (k : Int)), (11, .bool false), (32, lv), (33, .int .i64 (xs.length : Int)), (34, .bool false), (35, .bool false)] [] a := hfr.pick [1, 2, 8, 9, 10, 11, 32, 33, 34, 35]
 refine wd_skip (k := 4) 14 [5, 7, 13] hfr (by kernel_rfl) (by kernel_rfl) (by kernel_rfl) (by rfl) fun a hfr => ?_
 replace hfr : Fr 49 [(36, undef), (37, undef), (38, undef), (39, undef), (40, undef), (41, undef), (42, undef), (43, undef), (44, undef), (45, undef), (1, lv), (2, .pointer (some ⟨w0.heap.size, 0, none⟩)), (8, lv), (9, .int .i64 (xs.length : Int)), (10, .int .i64 (k : Int)), (11, .bool false), (32, lv), (33, .int .i64 (xs.length : Int)), (34, .bool false), (35, .bool false)] [] a := hfr
 refine wd_lin (k := 14) 15 [14] (by kernel_rfl) (by kernel_rfl) (by kernel_rfl) ?_
 refine wln hfr fun a hfr => ?_
 refine wl_nil ?_
 replace hfr : Fr 49 [(36, undef), (37, undef), (38, undef), (39, undef), (40, undef), (41, undef), (42, undef), (43, undef), (44, undef), (45, undef), (1, lv), (2, .pointer (some ⟨w0.heap.size, 0, none⟩)), (8, lv), (9, .int .i64 (xs.length : Int)), (10, .int .i64 (k : Int)), (11, .bool false), (32, lv), (33, .int .i64 (xs.length : Int)), (34, .bool false), (35, .bool false), (46, undef)] [] a := hfr.pick [36, 37, 38, 39, 40, 41, 42, 43, 44, 45, 1, 2, 8, 9, 10, 11, 32, 33, 34, 35, 46]
 refine wd_mix (k := 15) 18 [16, 17] (fun i => match i with | 15 => undef | 16 => .bool false | 17 => .int .i64 (-1) | _ => undef) hfr (by kernel_rfl) (by kernel_rfl) (by kernel_rfl) (by rfl) ?_ ?_
 ·intro i h1 h2
  have hi : i = 15 ∨ i = 16 ∨ i = 17 := by omega
  rcases hi with rfl | rfl | rfl
  ·exact ⟨fun _ => rfl, fun h => by cases h⟩
  ·exact ⟨fun h => (by cases h), fun _ => v_pick_f rfl rfl⟩
  ·exact ⟨fun h => (by cases h), fun _ => v_assign rfl⟩
 intro a hfr
 replace hfr : Fr 49 [(47, undef), (48, .bool false), (4, .int .i64 (-1)), (36, undef), (37, undef), (38, undef), (39, undef), (40, undef), (41, undef), (42, undef), (43, undef), (44, undef), (45, undef), (1, lv), (2, .pointer (some ⟨w0.heap.size, 0, none⟩)), (8, lv), (9, .int .i64 (xs.length : Int)), (10, .int .i64 (k : Int)), (11, .bool false), (32, lv), (33, .int .i64 (xs.length : Int)), (34, .bool false), (35, .bool false), (46, undef)] [] a := hfr
 refine wd_lin (k := 18) 19 [18] (by kernel_rfl) (by kernel_rfl) (by kernel_rfl) ?_
 refine wla hfr rfl fun a hfr => ?_
 refine wl_nil ?_
 refine wd_end (by kernel_rfl) ?_
 refine hK10 _ _ ?_
 replace hfr : Fr 49 [(4, _), (5, _)] [] a := hfr.pick [4, 5]
 replace hst : St No w0 [] w8 := hst.mask [false]
 refine wc_ret ?_
 refine fin_ret hfr Tryz.results62 (resAre_tmp rfl (resAre_tmp rfl resAre_nil)) ?_
 exact ⟨by simp only [retv]; rw [scope_zero (by omega) hs], hst.ext⟩
/-- dialtone/dialtonelaw15.pick -/
theorem pickL_ok (n m : Int) (w0 : World) (hn : -9223372036854775808 ≤ n ∧ n ≤ 9223372036854775807) (hm : 0 < m ∧ m ≤ 9223372036854775807) :
  Ret Tryz.prog 11 #[.int .i64 n, .int .i64 m] w0 fun v w => v = .int .i64 (pickI n m) ∧ Ext No w0 w := by
 refine ret_of Tryz.func11 rfl Tryz.ntmps11 (Nat.le_of_ble_eq_true rfl) fun a hfr => ?_
 replace hfr : Fr 13 [(0, _), (1, _)] [] a := hfr
 replace hst : St No w0 [] w0 := St.init w0
 refine wc_seq_region fun K1 hK1 => ?_
 refine wla hfr rfl fun a hfr => ?_
 refine wl_nil (hK1 _ _ ?_)
 refine wc_seq_k fun K2 hK2 => ?_
 refine wc_seq_region fun K3 hK3 => ?_
 refine wlm hfr rfl fun a hfr => ?_
 refine wlv hfr (v_lt rfl rfl) fun a hfr => ?_
 refine wl_nil (hK3 _ _ ?_)
 refine wc_cond hfr rfl (fun hc1 => ?_) (fun hc1 => ?_)
 ·rw [hc1] at hfr
  try simp only [qz] at hc1
  refine wc_region ?_
  refine wlm hfr rfl fun a hfr => ?_
  refine wlv hfr (v_add rfl rfl ⟨by omega, by omega⟩) fun a hfr => ?_
  refine wlv hfr (v_neg rfl (by omega) (by omega)) fun a hfr => ?_
  refine wla hfr rfl fun a hfr => ?_
  refine wl_nil ?_
  refine hK2 _ _ ?_
  refine wc_seq_region fun K4 hK4 => ?_
  refine wlm hfr rfl fun a hfr => ?_
  refine wlm hfr rfl fun a hfr => ?_
  refine wlv hfr (v_rem rfl rfl (by omega) (by omega)) fun a hfr => ?_
  refine wla hfr rfl fun a hfr => ?_
  refine wl_nil (hK4 _ _ ?_)
  replace hfr : Fr 13 [(4, _)] [] a := hfr.pick [4]
  refine wc_ret ?_
  refine fin_ret hfr Tryz.results11 (resAre_tmp rfl resAre_nil) ?_
  exact ⟨by simp only [retv, pickI]; simp [hc1], hst.ext⟩
 rw [hc1] at hfr
 try simp only [qz] at hc1
 refine wc_skip ?_
 refine hK2 _ _ ?_
 refine wc_seq_region fun K5 hK5 => ?_
 refine wlm hfr rfl fun a hfr => ?_
 refine wlm hfr rfl fun a hfr => ?_
 refine wlv hfr (v_rem rfl rfl (by omega) (by omega)) fun a hfr => ?_
 refine wla hfr rfl fun a hfr => ?_
 refine wl_nil (hK5 _ _ ?_)
 replace hfr : Fr 13 [(4, _)] [] a := hfr.pick [4]
 refine wc_ret ?_
 refine fin_ret hfr Tryz.results11 (resAre_tmp rfl resAre_nil) ?_
 exact ⟨by simp only [retv, pickI]; simp [hc1], hst.ext⟩
def grantedP (to : Int) : Pxy := ⟨1, 2, 1000, 2000, 100, to, []⟩
def wishedW (to : Int) : Wsh := ⟨2, 1, 1100, 1200, 3, 7, 150, to, []⟩
theorem grantedP_ok {to : Int} (h : 100 < to) (h2 : to ≤ 10000001) : (grantedP to).ok = true := by
 show (inB 1 0 63 && inB 2 0 63 && !decide ((1 : Int) = 2) && isRangeB 1000 2000 && isSpellB 100 to) = true
 simp [inB, isRangeB, isSpellB, h, h2]
theorem wishedW_ok {to : Int} (h : 150 < to) (h2 : to ≤ 10000001) : (wishedW to).ok = true := by
 show ((inB 2 0 63 && inB 1 0 63) && isRangeB 1100 1200 && inB 3 0 7 && inB 7 0 1000000 && isSpellB 150 to) = true
 simp [inB, isRangeB, isSpellB, h, h2]
/-- dialtone/dialtonelaw15.granted -/
theorem granted_ok (to : Int) (w0 : World) (h1 : 100 < to) (h2 : to ≤ 10000001) (hk0 : (blk 0 (kOf.map wv) 239).ok w0) :
  Ret Tryz.prog 51 #[.int .i64 to] w0 fun v w => v = .agg (((grantedP to).sealed (keyH 1)).cells).toArray ∧ Ext No w0 w := by
 refine ret_of Tryz.func51 rfl Tryz.ntmps51 (Nat.le_of_ble_eq_true rfl) fun a hfr => ?_
 replace hfr : Fr 15 [(0, _)] [] a := hfr
 replace hst : St (· = 0) w0 [blk 0 (kOf.map wv) 239] w0 := St.one hk0
 refine wc_seq_region fun K1 hK1 => ?_
 refine wl_alloc hfr hst (by decide) (Tryz.zeroValue40 _) (cs := [.int .i64 0, .int .i64 0, .int .i64 0, .int .i64 0, .int .i64 0, .int .i64 0, .string (⟨#[]⟩)]) rfl ?_
 clear hfr hst
 intro a w1 hfr hst
 refine wl_nil (hK1 _ _ ?_)
 refine wc_seq_region fun K2 hK2 => ?_
 refine wl_callp hfr hst (by decide) Tryz.call21 rfl (key_ok 1 _) ?_
 clear hfr hst
 intro a w2 hfr hst
 refine wlv hfr (v_build (v := .agg #[.int .i64 1000, .int .i64 2000]) rfl (by kernel_rfl)) fun a hfr => ?_
 refine wlm hfr rfl fun a hfr => ?_
 refine wlv hfr (v_build (v := .agg #[.int .i64 100, .int .i64 to]) rfl (by kernel_rfl)) fun a hfr => ?_
 refine wlv hfr (v_build (v := .agg #[.int .i64 1, .int .i64 2, .int .i64 1000, .int .i64 2000, .int .i64 100, .int .i64 to, .string (⟨#[]⟩)]) rfl (by kernel_rfl)) fun a hfr => ?_
 refine wl_callp hfr hst (by decide) Tryz.call24 rfl (signproxy_ok (keyH 1) (grantedP to) _ (keyH_len _) (grantedP_ok h1 h2) (hst.get (k := 1) rfl)) ?_
 clear hfr hst
 intro a w3 hfr hst
 refine wlm hfr rfl fun a hfr => ?_
 refine wlv hfr (v_extract rfl rfl) fun a hfr => ?_
 refine wlv hfr (v_extract rfl rfl) fun a hfr => ?_
 refine wl_alloc hfr hst (by decide) (Tryz.zeroValue40 _) (cs := [.int .i64 0, .int .i64 0, .int .i64 0, .int .i64 0, .int .i64 0, .int .i64 0, .string (⟨#[]⟩)]) rfl ?_
 clear hfr hst
 intro a w4 hfr hst
 refine wl_store 0 hfr hst rfl rfl rfl (Tryz.sizeOf40 _) rfl (Nat.le_of_ble_eq_true rfl) (ds := [.int .i64 1, .int .i64 2, .int .i64 1000, .int .i64 2000, .int .i64 100, .int .i64 to, sv (sealH (keyH 1) (grantedP to).content)]) rfl rfl ?_
 clear hfr hst
 intro a w5 hfr hst
 refine wla hfr rfl fun a hfr => ?_
 refine wl_nil (hK2 _ _ ?_)
 replace hfr : Fr 15 [(2, _), (3, _)] [] a := hfr.pick [2, 3]
 refine wc_seq_region fun K3 hK3 => ?_
 refine wlv hfr (v_load_all (hst.get (k := 0) rfl) rfl (Tryz.isAgg40 _) (Tryz.sizeOf40 _)) fun a hfr => ?_
 refine wl_store 1 hfr hst rfl rfl rfl (Tryz.sizeOf40 _) rfl (Nat.le_of_ble_eq_true rfl) (ds := [.int .i64 1, .int .i64 2, .int .i64 1000, .int .i64 2000, .int .i64 100, .int .i64 to, sv (sealH (keyH 1) (grantedP to).content)]) rfl rfl ?_
 clear hfr hst
 intro a w6 hfr hst
 refine wl_nil (hK3 _ _ ?_)
 refine wc_ret ?_
 refine fin_ret hfr Tryz.results51 (resAre_cell rfl (res_all (hst.get (k := 1) rfl) (Tryz.isAgg40 _) (Tryz.sizeOf40 _)) resAre_nil) ?_
 exact ⟨rfl, hst.ext.const hk0 (hst.get (k := 2) rfl)⟩
/-- dialtone/dialtonelaw15.wished -/
theorem wished_ok (to : Int) (w0 : World) (h1 : 150 < to) (h2 : to ≤ 10000001) (hk0 : (blk 0 (kOf.map wv) 239).ok w0) :
  Ret Tryz.prog 50 #[.int .i64 to] w0 fun v w => v = .agg (((wishedW to).sealed (keyH 2)).cells).toArray ∧ Ext No w0 w := by
 refine ret_of Tryz.func50 rfl Tryz.ntmps50 (Nat.le_of_ble_eq_true rfl) fun a hfr => ?_
 replace hfr : Fr 15 [(0, _)] [] a := hfr
 replace hst : St (· = 0) w0 [blk 0 (kOf.map wv) 239] w0 := St.one hk0
 refine wc_seq_region fun K1 hK1 => ?_
 refine wl_alloc hfr hst (by decide) (Tryz.zeroValue30 _) (cs := [.int .i64 0, .int .i64 0, .int .i64 0, .int .i64 0, .int .i64 0, .int .i64 0, .int .i64 0, .int .i64 0, .string (⟨#[]⟩)]) rfl ?_
 clear hfr hst
 intro a w1 hfr hst
 refine wl_nil (hK1 _ _ ?_)
 refine wc_seq_region fun K2 hK2 => ?_
 refine wl_callp hfr hst (by decide) Tryz.call21 rfl (key_ok 2 _) ?_
 clear hfr hst
 intro a w2 hfr hst
 refine wlv hfr (v_build (v := .agg #[.int .i64 1100, .int .i64 1200]) rfl (by kernel_rfl)) fun a hfr => ?_
 refine wlm hfr rfl fun a hfr => ?_
 refine wlv hfr (v_build (v := .agg #[.int .i64 150, .int .i64 to]) rfl (by kernel_rfl)) fun a hfr => ?_
 refine wlv hfr (v_build (v := .agg #[.int .i64 2, .int .i64 1, .int .i64 1100, .int .i64 1200, .int .i64 3, .int .i64 7, .int .i64 150, .int .i64 to, .string (⟨#[]⟩)]) rfl (by kernel_rfl)) fun a hfr => ?_
 refine wl_callp hfr hst (by decide) Tryz.call22 rfl (signwish_ok (keyH 2) (wishedW to) _ (keyH_len _) (wishedW_ok h1 h2) (hst.get (k := 1) rfl)) ?_
 clear hfr hst
 intro a w3 hfr hst
 refine wlm hfr rfl fun a hfr => ?_
 refine wlv hfr (v_extract rfl rfl) fun a hfr => ?_
 refine wlv hfr (v_extract rfl rfl) fun a hfr => ?_
 refine wl_alloc hfr hst (by decide) (Tryz.zeroValue30 _) (cs := [.int .i64 0, .int .i64 0, .int .i64 0, .int .i64 0, .int .i64 0, .int .i64 0, .int .i64 0, .int .i64 0, .string (⟨#[]⟩)]) rfl ?_
 clear hfr hst
 intro a w4 hfr hst
 refine wl_store 0 hfr hst rfl rfl rfl (Tryz.sizeOf30 _) rfl (Nat.le_of_ble_eq_true rfl) (ds := [.int .i64 2, .int .i64 1, .int .i64 1100, .int .i64 1200, .int .i64 3, .int .i64 7, .int .i64 150, .int .i64 to, sv (sealH (keyH 2) (wishedW to).content)]) rfl rfl ?_
 clear hfr hst
 intro a w5 hfr hst
 refine wla hfr rfl fun a hfr => ?_
 refine wl_nil (hK2 _ _ ?_)
 replace hfr : Fr 15 [(2, _), (3, _)] [] a := hfr.pick [2, 3]
 refine wc_seq_region fun K3 hK3 => ?_
 refine wlv hfr (v_load_all (hst.get (k := 0) rfl) rfl (Tryz.isAgg30 _) (Tryz.sizeOf30 _)) fun a hfr => ?_
 refine wl_store 1 hfr hst rfl rfl rfl (Tryz.sizeOf30 _) rfl (Nat.le_of_ble_eq_true rfl) (ds := [.int .i64 2, .int .i64 1, .int .i64 1100, .int .i64 1200, .int .i64 3, .int .i64 7, .int .i64 150, .int .i64 to, sv (sealH (keyH 2) (wishedW to).content)]) rfl rfl ?_
 clear hfr hst
 intro a w6 hfr hst
 refine wl_nil (hK3 _ _ ?_)
 refine wc_ret ?_
 refine fin_ret hfr Tryz.results50 (resAre_cell rfl (res_all (hst.get (k := 1) rfl) (Tryz.isAgg30 _) (Tryz.sizeOf30 _)) resAre_nil) ?_
 exact ⟨rfl, hst.ext.const hk0 (hst.get (k := 2) rfl)⟩
end Go.Proofs.YtmmfieceinmloaaGreatDoor
namespace Go.Proofs.YtmmfieceinmloaaGreatDoor
open Go.RowKit Go.PW
set_option linter.unusedVariables false
set_option linter.unusedSimpArgs false
set_option maxRecDepth 4000
/-- The persons that the proxies lead to, each with the index of the proxy that it must have granted; the last one with -1. -/
def pers : Int → List Pxy → Nat → List (Int × Int)
 | who, [], _ => [(-1, who)]
 | who, p :: l, k => ((k : Int), who) :: pers p.to l (k + 1)
def encQ (x : Int × Int) : List Value := [.int .i64 x.1, .int .i64 x.2]
def NxQ (h : Int) (xs : List Pxy) (pre : List (Int × Int)) (x : Int × Int) : Prop := ∃ suf, pers h xs 0 = pre ++ x :: suf
/-- dialtone/wish.persons$1 -/
theorem persons_run {M : Nat → Prop} {w0 : World} (h : Int) (lv : Value) (xs : List Pxy) (lp bh bl : Nat) (J Jx : List (Int × Int) → Ent → Prop) (hY : Rounds Tryz.prog M w0 lp encQ (NxQ h xs) J Jx) (e0 : Ent) (ws : World) (hsv : ∀ H w, St M w0 H w → SlAt w lv 7 (xs.map Pxy.cells)) (hJ : J [] e0) (hst : St M w0 [e0, blk bh [.int .i64 h] 3, blk bl [lv] 31] ws) :
  Ret Tryz.prog 118 #[.func (.yield lp) #[] #[], .pointer (some ⟨bh, 0, none⟩), .pointer (some ⟨bl, 0, none⟩)] ws fun _ w => ∃ e1 Hi1, St M w0 (e1 :: Hi1) w ∧ ((∃ zs, (zs = pers h xs 0 ∧ Hi1 = [blk bh [.int .i64 h] 3, blk bl [lv] 31]) ∧ J zs e1) ∨ (∃ pre, Hi1 = [blk bh [.int .i64 h] 3, blk bl [lv] 31] ∧ Jx pre e1)) := by
 refine ret_of Tryz.func118 rfl Tryz.ntmps118 (Nat.le_of_ble_eq_true rfl) fun a hfr => ?_
 replace hfr : Fr 26 [(0, _), (1, _), (2, _)] [] a := hfr
 have hlb := (hsv _ _ hst).2.1
 rw [List.length_map] at hlb
 unfold big at hlb
 refine wc_seq_region fun K1 hK1 => ?_
 refine wlv hfr (v_load_blk1 (hst.get (k := 1) rfl) rfl (Tryz.isAgg3 _) rfl) fun a hfr => ?_
 refine wla hfr rfl fun a hfr => ?_
 refine wl_nil (hK1 _ _ ?_)
 refine wc_seq_k fun K2 hK2 => ?_
 refine wc_seq_region fun K3 hK3 => ?_
 refine wlv hfr (v_load_blk1 (hst.get (k := 2) rfl) rfl (Tryz.isAgg31 _) rfl) fun a hfr => ?_
 refine wlv hfr ((v_len_sl (sT := 31) (hsv _ _ hst) rfl rfl (Tryz.runUnderlying31 _)).asi (m' := (xs.length : Int)) (by rw [List.length_map])) fun a hfr => ?_
 refine wlm hfr rfl fun a hfr => ?_
 refine wl_nil (hK3 _ _ ?_)
 refine wc_block ?_
 refine wc_loop (fun m a w => ∃ (k : Nat) (who : Int) (e : Ent) (dn : List (Int × Int)), m = xs.length - k ∧ (k ≤ xs.length) ∧ (pers h xs 0 = dn ++ pers who (xs.drop k) k) ∧ (J dn e) ∧ Fr 26 [(0, .func (.yield lp) #[] #[]), (8, lv), (9, .int .i64 (xs.length : Int)), (4, .int .i64 who), (10, .int .i64 (k : Int))] [] a ∧ St M w0 [e, blk bh [.int .i64 h] 3, blk bl [lv] 31] w) _ ⟨0, h, e0, [], rfl, Nat.zero_le _, rfl, hJ, hfr.pick [0, 8, 9, 4, 10], hst.select [0, 1, 2] (by decide)⟩ ?_
 rintro _ a w1 ⟨k, who, e, dn, rfl, hk, hp, hJ, hfr, hst⟩
 refine wc_seq_region fun K4 hK4 => ?_
 refine wlv hfr (v_lt rfl rfl) fun a hfr => ?_
 refine wl_nil (hK4 _ _ ?_)
 refine wc_seq_k fun K5 hK5 => ?_
 refine wc_cond hfr rfl (fun hc1 => ?_) (fun hc1 => ?_)
 ·rw [hc1] at hfr
  try simp only [qz] at hc1
  have hkx : k < xs.length := by omega
  refine wc_skip ?_
  refine hK5 _ _ ?_
  refine wc_seq_k fun K6 hK6 => ?_
  refine wc_block ?_
  refine wc_seq_region fun K7 hK7 => ?_
  refine wlm hfr rfl fun a hfr => ?_
  refine wlv hfr ((v_indexAddr_sl (i := (k : Int)) (sT := 31) (hsv _ _ hst) rfl rfl (Tryz.runUnderlying31 _) (Tryz.sizeOf40 _) (by omega) (by rw [List.length_map]; omega)).as (v' := slAddr lv (k * 7)) rfl) fun a hfr => ?_
  refine wlv hfr ((v_load_sl (hsv _ _ hst) (i := k) (by rw [List.length_map]; omega) rfl (Tryz.isAgg40 _) (Tryz.sizeOf40 _)).as (v' := .agg #[.int .i64 ((xs.getD k Pxy.z).frm), .int .i64 ((xs.getD k Pxy.z).to), .int .i64 ((xs.getD k Pxy.z).rf), .int .i64 ((xs.getD k Pxy.z).rt), .int .i64 ((xs.getD k Pxy.z).sf), .int .i64 ((xs.getD k Pxy.z).st), sv ((xs.getD k Pxy.z).sig)]) (by rw [el_at Pxy.z]; rfl)) fun a hfr => ?_
  refine wl_alloc hfr hst (by decide) (Tryz.zeroValue40 _) (cs := [.int .i64 0, .int .i64 0, .int .i64 0, .int .i64 0, .int .i64 0, .int .i64 0, .string (⟨#[]⟩)]) rfl ?_
  clear hfr hst
  intro a w2 hfr hst
  refine wla hfr rfl fun a hfr => ?_
  refine wl_store 0 hfr hst rfl rfl rfl (Tryz.sizeOf40 _) rfl (Nat.le_of_ble_eq_true rfl) (ds := [.int .i64 ((xs.getD k Pxy.z).frm), .int .i64 ((xs.getD k Pxy.z).to), .int .i64 ((xs.getD k Pxy.z).rf), .int .i64 ((xs.getD k Pxy.z).rt), .int .i64 ((xs.getD k Pxy.z).sf), .int .i64 ((xs.getD k Pxy.z).st), sv ((xs.getD k Pxy.z).sig)]) rfl rfl ?_
  clear hfr hst
  intro a w3 hfr hst
  refine wl_nil (hK7 _ _ ?_)
  refine wc_seq_k fun K8 hK8 => ?_
  refine wc_seq_region fun K9 hK9 => ?_
  refine wlm hfr rfl fun a hfr => ?_
  refine wlm hfr rfl fun a hfr => ?_
  refine wlm hfr rfl fun a hfr => ?_
  refine wl_r (r_yield rfl rfl (hY.yield (pre := dn) (x := ((k : Int), who)) ⟨_, by rw [hp, drop_cons Pxy.z hkx]; rfl⟩ hJ (hst.only (i := 1) rfl))) rfl rfl hfr ?_
  clear hfr
  intro a v w4 hR hfr
  obtain ⟨y2, e3, rfl, hx, hok, hft, hJt, hJf⟩ := hR
  replace hst := hst.exchange (k := 1) rfl hx hok hft
  replace hst : St M w0 [blk w1.heap.size [.int .i64 ((xs.getD k Pxy.z).frm), .int .i64 ((xs.getD k Pxy.z).to), .int .i64 ((xs.getD k Pxy.z).rf), .int .i64 ((xs.getD k Pxy.z).rt), .int .i64 ((xs.getD k Pxy.z).sf), .int .i64 ((xs.getD k Pxy.z).st), sv ((xs.getD k Pxy.z).sig)] 40, e3, blk bh [.int .i64 h] 3, blk bl [lv] 31] w4 := hst
  clear hx hok hft
  refine wlv hfr (v_not rfl) fun a hfr => ?_
  refine wl_nil (hK9 _ _ ?_)
  replace hfr : Fr 26 [(0, _), (8, _), (9, _), (10, _), (6, _), (19, _)] [] a := hfr.pick [0, 8, 9, 10, 6, 19]
  refine wc_cond hfr rfl (fun hc4 => ?_) (fun hc4 => ?_)
  ·rw [hc4] at hfr
   try simp only [qz] at hc4
   have hJ := hJf hc4
   refine wc_ret ?_
   refine fin_ret hfr Tryz.results118 resAre_nil ?_
   exact ⟨_, _, hst.select [1, 2, 3] (by decide), .inr ⟨_, rfl, hJ⟩⟩
  rw [hc4] at hfr
  try simp only [qz] at hc4
  have hJ := hJt hc4
  refine wc_skip ?_
  refine hK8 _ _ ?_
  refine wc_region ?_
  refine wlv hfr (v_fieldAddr (v := .pointer (some ⟨w1.heap.size, 1, none⟩)) rfl (by kernel_rfl)) fun a hfr => ?_
  refine wlv hfr (v_load_blk1 (hst.get (k := 0) rfl) rfl (Tryz.isAgg3 _) rfl) fun a hfr => ?_
  refine wla hfr rfl fun a hfr => ?_
  refine wl_nil ?_
  refine hK6 _ _ ?_
  refine wc_region ?_
  refine wlv hfr (v_add rfl rfl ⟨by omega, by omega⟩) fun a hfr => ?_
  refine wlm hfr rfl fun a hfr => ?_
  refine wl_nil ?_
  refine ⟨_, ?_, k + 1, (xs.getD k Pxy.z).to, e3, dn ++ [((k : Int), who)], rfl, (by omega), (by rw [hp, drop_cons Pxy.z hkx, pers, List.append_assoc]; rfl), hJ, hfr.pick [0, 8, 9, 4, 10], hst.select [1, 2, 3] (by decide)⟩
  omega
 rw [hc1] at hfr
 try simp only [qz] at hc1
 obtain rfl : k = xs.length := by omega
 rw [List.drop_length] at hp
 refine wc_exit ?_
 refine hK2 _ _ ?_
 refine wc_region ?_
 refine wlm hfr rfl fun a hfr => ?_
 refine wlm hfr rfl fun a hfr => ?_
 refine wl_r (r_yield rfl rfl (hY.yield (pre := dn) (x := ((-1 : Int), who)) ⟨[], hp⟩ hJ (hst.only (i := 0) rfl))) rfl rfl hfr ?_
 clear hfr
 intro a v w5 hR hfr
 obtain ⟨y5, e6, rfl, hx, hok, hft, hJt, hJf⟩ := hR
 replace hst := hst.exchange (k := 0) rfl hx hok hft
 replace hst : St M w0 [e6, blk bh [.int .i64 h] 3, blk bl [lv] 31] w5 := hst
 clear hx hok hft
 refine wl_nil ?_
 refine fin_end hfr Tryz.results118 resAre_nil ?_
 rcases Bool.eq_false_or_eq_true y5 with hyy | hyy
 ·exact ⟨_, _, hst.select [0, 1, 2] (by decide), .inl ⟨_, ⟨hp.symm.symm ▸ rfl, rfl⟩, hJt hyy⟩⟩
 ·exact ⟨_, _, hst.select [0, 1, 2] (by decide), .inr ⟨_, rfl, hJf hyy⟩⟩
theorem persons_iter {M : Nat → Prop} {w0 : World} (h : Int) (lv : Value) (xs : List Pxy) (bh bl : Nat) (hsv : ∀ H w, St M w0 H w → SlAt w lv 7 (xs.map Pxy.cells)) :
  Iter Tryz.prog 118 [.pointer (some ⟨bh, 0, none⟩), .pointer (some ⟨bl, 0, none⟩)] encQ (NxQ h xs) (fun zs Hi1 => zs = pers h xs 0 ∧ Hi1 = [blk bh [.int .i64 h] 3, blk bl [lv] 31]) (fun pre Hi1 => Hi1 = [blk bh [.int .i64 h] 3, blk bl [lv] 31]) M w0 [blk bh [.int .i64 h] 3, blk bl [lv] 31] :=
 fun lp J Jx w e hY hJ hst => persons_run h lv xs lp bh bl J Jx hY e w hsv hJ hst
/-- dialtone/wish.persons -/
theorem persons_ok (h : Int) (lv : Value) (xs : List Pxy) (w0 : World) (hlv : SlAt w0 lv 7 (xs.map Pxy.cells)) :
  Ret Tryz.prog 61 #[.int .i64 h, lv] w0 (MemR w0 (fun z : Nat × Nat => .func (.func 118) #[] #[.pointer (some ⟨z.1, 0, none⟩), .pointer (some ⟨z.2, 0, none⟩)]) (fun z => [blk z.2 [lv] 31, blk z.1 [.int .i64 h] 3]) (fun _ => True)) := by
 refine ret_of Tryz.func61 rfl Tryz.ntmps61 (Nat.le_of_ble_eq_true rfl) fun a hfr => ?_
 replace hfr : Fr 6 [(0, _), (1, _)] [] a := hfr
 replace hst : St No w0 [] w0 := St.init w0
 refine wc_seq_region fun K1 hK1 => ?_
 refine wl_box hfr hst (by decide) rfl (cs := [.int .i64 h]) rfl ?_
 clear hfr hst
 intro a w1 hfr hst
 refine wl_box hfr hst (by decide) rfl (cs := [lv]) (by rw [(hst.arg hlv).cells]) ?_
 clear hfr hst
 intro a w2 hfr hst
 refine wla hfr rfl fun a hfr => ?_
 refine wl_nil (hK1 _ _ ?_)
 refine wc_seq_region fun K2 hK2 => ?_
 refine wlv hfr (v_makeFunc rfl rfl) fun a hfr => ?_
 refine wla hfr rfl fun a hfr => ?_
 refine wl_nil (hK2 _ _ ?_)
 refine wc_ret ?_
 refine fin_ret hfr Tryz.results61 (resAre_tmp rfl resAre_nil) ?_
 exact ⟨(w0.heap.size, w1.heap.size), rfl, trivial, hst.ext, St.out (H := []) hst⟩
end Go.Proofs.YtmmfieceinmloaaGreatDoor
namespace Go.Proofs.YtmmfieceinmloaaGreatDoor
open Go.RowKit Go.PW
set_option linter.unusedVariables false
set_option linter.unusedSimpArgs false
set_option maxRecDepth 4000
/-- slices.IndexFunc[[]string,string]: the first index at which the closure says yes. -/
theorem indexS_ok {M : Nat → Prop} {wb : World} {H : List Ent} {sv : Value} {els : List (List Value)} {caps : List Value} {g : FuncId} (p : Nat → Bool) (ev_ : Nat → Value) (J : Nat → Ent → Prop) (e0 : Ent) (w0 : World)
  (hen : ∀ args w, (callFunc g args).run Tryz.prog w = .ok (.enter g args) w) (hs : ∀ e w, St M wb (e :: H) w → SlAt w sv 1 els)
  (hev : ∀ k (h : k < els.length), (els[k])[0]? = some (ev_ k)) (hJ0 : J 0 e0) (hst : St M wb (e0 :: H) w0)
  (hcl : ∀ k e w, k < els.length → J k e → e.ok w → (∀ b, e.foot b → b < w.heap.size) → Ret Tryz.prog g ([ev_ k] ++ caps).toArray w fun v w' => v = .bool (p k) ∧ ∃ e', Ext e.foot w w' ∧ e'.ok w' ∧ (∀ b, e'.foot b → b < w'.heap.size ∧ (e.foot b ∨ w.heap.size ≤ b)) ∧ J (k + 1) e') :
  Ret Tryz.prog 113 #[sv, .func (.func g) #[] caps.toArray] w0 fun v w => v = .int .i64 (fstIdx p els.length) ∧ ∃ k e', J k e' ∧ St M wb (e' :: H) w := by
 have hsl := (hs _ _ hst).le
 refine ret_of Tryz.func113 rfl Tryz.ntmps113 (Nat.le_of_ble_eq_true rfl) fun a hfr => ?_
 have hfr : Fr 19 [(0, _), (1, _)] [] a := hfr
 refine wc_seq_region fun K1 hK1 => ?_
 refine wla hfr rfl fun a hfr => ?_
 refine wl_nil (hK1 _ _ ?_)
 refine wc_seq_k fun K2 hK2 => ?_
 refine wc_seq_region fun K3 hK3 => ?_
 refine wlm hfr rfl fun a hfr => ?_
 refine wlv hfr (v_len_sl (sT := 32) (hs _ _ hst) rfl rfl (Tryz.runUnderlying32 _)) fun a hfr => ?_
 refine wlm hfr rfl fun a hfr => ?_
 refine wl_nil (hK3 _ _ ?_)
 refine wc_block ?_
 refine wc_loop (fun m a w => ∃ (k : Nat) (e : Ent), m = els.length - k ∧ (k ≤ els.length) ∧ (∀ j, j < k → p j = false) ∧ (J k e) ∧ Fr 19 [(0, sv), (1, .func (.func g) #[] caps.toArray), (6, sv), (7, .int .i64 els.length), (8, .int .i64 (k : Int))] [] a ∧ St M wb (e :: H) w) _ ⟨0, e0, rfl, Nat.zero_le _, (by intro j hj; omega), hJ0, hfr.pick [0, 1, 6, 7, 8], hst⟩ ?_
 rintro _ a w1 ⟨k, e, rfl, hk, hp, hJ, hfr, hst⟩
 refine wc_seq_region fun K4 hK4 => ?_
 refine wlv hfr (v_lt rfl rfl) fun a hfr => ?_
 refine wl_nil (hK4 _ _ ?_)
 refine wc_seq_k fun K5 hK5 => ?_
 refine wc_cond hfr rfl (fun hc1 => ?_) (fun hc1 => ?_)
 ·rw [hc1] at hfr
  try simp only [qz] at hc1
  refine wc_skip ?_
  refine hK5 _ _ ?_
  refine wc_seq_k fun K6 hK6 => ?_
  refine wc_block ?_
  refine wc_seq_region fun K7 hK7 => ?_
  refine wlm hfr rfl fun a hfr => ?_
  refine wla hfr rfl fun a hfr => ?_
  refine wl_nil (hK7 _ _ ?_)
  refine wc_seq_region fun K8 hK8 => ?_
  refine wlm hfr rfl fun a hfr => ?_
  refine wlm hfr rfl fun a hfr => ?_
  refine wlm hfr rfl fun a hfr => ?_
  refine wlv hfr ((v_indexAddr_sl (i := (k : Int)) (sT := 32) (hs _ _ hst) rfl rfl (Tryz.runUnderlying32 _) (Tryz.sizeOf9 _) (by omega) (by omega)).as (v' := slAddr sv (k * 1)) rfl) fun a hfr => ?_
  refine wlv hfr ((v_load_sl1 (u := ev_ k) (i := k) (j := 0) (hs _ _ hst) (by omega) rfl (Tryz.isAgg9 _) (hev k (by omega)))) fun a hfr => ?_
  refine wl_r (r_callv (cap := caps) rfl hen rfl (hcl k _ _ (by omega) hJ (hst.get (k := 0) rfl) (fun b hb => hst.lt (k := 0) rfl hb))) rfl rfl hfr fun a v w2 hR hfr => ?_
  obtain ⟨rfl, e1, hx, hok, hft, hJ1⟩ := hR
  have hst := hst.exchange (k := 0) rfl hx hok hft
  have hst : St M wb (e1 :: H) w2 := hst
  refine wl_nil (hK8 _ _ ?_)
  refine wc_cond hfr rfl (fun hc2 => ?_) (fun hc2 => ?_)
  ·rw [hc2] at hfr
   try simp only [qz] at hc2
   refine wc_seq_region fun K9 hK9 => ?_
   refine wlm hfr rfl fun a hfr => ?_
   refine wla hfr rfl fun a hfr => ?_
   refine wl_nil (hK9 _ _ ?_)
   refine wc_ret ?_
   refine fin_ret hfr Tryz.results113 (resAre_tmp rfl resAre_nil) ?_
   exact ⟨by rw [fstIdx_some (k := k) (by omega) hp (by assumption)]; rfl, _, _, hJ1, hst⟩
  rw [hc2] at hfr
  try simp only [qz] at hc2
  refine wc_skip ?_
  refine hK6 _ _ ?_
  refine wc_region ?_
  refine wlv hfr (v_add rfl rfl ⟨by omega, by omega⟩) fun a hfr => ?_
  refine wlm hfr rfl fun a hfr => ?_
  refine wl_nil ?_
  refine ⟨_, ?_, k + 1, e1, rfl, (by omega), (by intro j hj; by_cases h : j = k; (subst h; assumption); exact hp j (by omega)), hJ1, hfr.pick [0, 1, 6, 7, 8], hst⟩
  omega
 rw [hc1] at hfr
 try simp only [qz] at hc1
 refine wc_exit ?_
 refine hK2 _ _ ?_
 refine wc_seq_region fun K10 hK10 => ?_
 refine wla hfr rfl fun a hfr => ?_
 refine wl_nil (hK10 _ _ ?_)
 refine wc_ret ?_
 refine fin_ret hfr Tryz.results113 (resAre_tmp rfl resAre_nil) ?_
 have hkl : k = els.length := by omega
 subst hkl
 exact ⟨by rw [fstIdx_none hp]; rfl, _, _, hJ, hst⟩
/-- slices.ContainsFunc[[]string,string]: does the closure say yes anywhere? -/
theorem containsS_ok {M : Nat → Prop} {wb : World} {H : List Ent} {sv : Value} {els : List (List Value)} {caps : List Value} {g : FuncId} (p : Nat → Bool) (ev_ : Nat → Value) (J : Nat → Ent → Prop) (e0 : Ent) (w0 : World)
  (hen : ∀ args w, (callFunc g args).run Tryz.prog w = .ok (.enter g args) w) (hs : ∀ e w, St M wb (e :: H) w → SlAt w sv 1 els)
  (hev : ∀ k (h : k < els.length), (els[k])[0]? = some (ev_ k)) (hJ0 : J 0 e0) (hst : St M wb (e0 :: H) w0)
  (hcl : ∀ k e w, k < els.length → J k e → e.ok w → (∀ b, e.foot b → b < w.heap.size) → Ret Tryz.prog g ([ev_ k] ++ caps).toArray w fun v w' => v = .bool (p k) ∧ ∃ e', Ext e.foot w w' ∧ e'.ok w' ∧ (∀ b, e'.foot b → b < w'.heap.size ∧ (e.foot b ∨ w.heap.size ≤ b)) ∧ J (k + 1) e') :
  Ret Tryz.prog 57 #[sv, .func (.func g) #[] caps.toArray] w0 fun v w => v = .bool ((List.range els.length).any p) ∧ ∃ k e', J k e' ∧ St M wb (e' :: H) w := by
 refine ret_of Tryz.func57 rfl Tryz.ntmps57 (Nat.le_of_ble_eq_true rfl) fun a hfr => ?_
 have hfr : Fr 9 [(0, _), (1, _)] [] a := hfr
 refine wc_seq_region fun K1 hK1 => ?_
 refine wla hfr rfl fun a hfr => ?_
 refine wl_nil (hK1 _ _ ?_)
 refine wc_seq_region fun K2 hK2 => ?_
 refine wlm hfr rfl fun a hfr => ?_
 refine wlm hfr rfl fun a hfr => ?_
 refine wl_r (r_call Tryz.call113 rfl (indexS_ok p ev_ J e0 _ hen hs hev hJ0 hst hcl)) rfl rfl hfr fun a v w1 hR hfr => ?_
 obtain ⟨rfl, kk, e1, hJ1, hst⟩ := hR
 refine wlv hfr (v_ge rfl rfl) fun a hfr => ?_
 refine wla hfr rfl fun a hfr => ?_
 refine wl_nil (hK2 _ _ ?_)
 refine wc_ret ?_
 refine fin_ret hfr Tryz.results57 (resAre_tmp rfl resAre_nil) ?_
 exact ⟨by rw [fstIdx_any]; rfl, _, _, hJ1, hst⟩
/-- slices.ContainsFunc[[]dialtone/api.Proxy,dialtone/api.Proxy]: does the closure say yes anywhere? -/
theorem containsP_ok {M : Nat → Prop} {wb : World} {H : List Ent} {sv : Value} {els : List (List Value)} {caps : List Value} {g : FuncId} (p : Nat → Bool) (ev_ : Nat → Value) (J : Nat → Ent → Prop) (e0 : Ent) (w0 : World)
  (hen : ∀ args w, (callFunc g args).run Tryz.prog w = .ok (.enter g args) w) (hs : ∀ e w, St M wb (e :: H) w → SlAt w sv 7 els)
  (hev : ∀ k (h : k < els.length), .agg (els[k]).toArray = ev_ k) (hJ0 : J 0 e0) (hst : St M wb (e0 :: H) w0)
  (hcl : ∀ k e w, k < els.length → J k e → e.ok w → (∀ b, e.foot b → b < w.heap.size) → Ret Tryz.prog g ([ev_ k] ++ caps).toArray w fun v w' => v = .bool (p k) ∧ ∃ e', Ext e.foot w w' ∧ e'.ok w' ∧ (∀ b, e'.foot b → b < w'.heap.size ∧ (e.foot b ∨ w.heap.size ≤ b)) ∧ J (k + 1) e') :
  Ret Tryz.prog 76 #[sv, .func (.func g) #[] caps.toArray] w0 fun v w => v = .bool ((List.range els.length).any p) ∧ ∃ k e', J k e' ∧ St M wb (e' :: H) w := by
 refine ret_of Tryz.func76 rfl Tryz.ntmps76 (Nat.le_of_ble_eq_true rfl) fun a hfr => ?_
 have hfr : Fr 9 [(0, _), (1, _)] [] a := hfr
 refine wc_seq_region fun K1 hK1 => ?_
 refine wla hfr rfl fun a hfr => ?_
 refine wl_nil (hK1 _ _ ?_)
 refine wc_seq_region fun K2 hK2 => ?_
 refine wlm hfr rfl fun a hfr => ?_
 refine wlm hfr rfl fun a hfr => ?_
 refine wl_r (r_call Tryz.call116 rfl (indexP_ok p ev_ J e0 _ hen hs hev hJ0 hst hcl)) rfl rfl hfr fun a v w1 hR hfr => ?_
 obtain ⟨rfl, kk, e1, hJ1, hst⟩ := hR
 refine wlv hfr (v_ge rfl rfl) fun a hfr => ?_
 refine wla hfr rfl fun a hfr => ?_
 refine wl_nil (hK2 _ _ ?_)
 refine wc_ret ?_
 refine fin_ret hfr Tryz.results76 (resAre_tmp rfl resAre_nil) ?_
 exact ⟨by rw [fstIdx_any]; rfl, _, _, hJ1, hst⟩
theorem any_pxy {u : Value} {xs : List Pxy} {g : FuncId} (p : Pxy → Bool) (w0 : World) (hen : ∀ args w, (callFunc g args).run Tryz.prog w = .ok (.enter g args) w) (hs : SlAt w0 u 7 (xs.map Pxy.cells))
  (hcl : ∀ (x : Pxy) (w : World), x ∈ xs → Ret Tryz.prog g #[.agg x.cells.toArray] w fun v w' => v = .bool (p x) ∧ Ext No w w') :
  Ret Tryz.prog 76 #[u, .func (.func g) #[] #[]] w0 fun v w => v = .bool (xs.any p) ∧ Ext No w0 w := by
 have hst : St No w0 [join []] w0 := St.join [] [] (St.init w0)
 have h := containsP_ok (M := No) (wb := w0) (H := []) (sv := u) (els := xs.map Pxy.cells) (caps := []) (g := g) (fun k => p (xs.getD k Pxy.z)) (fun k => .agg (xs.getD k Pxy.z).cells.toArray) (fun _ e => e = join []) (join []) w0 hen
  (fun e w h => h.arg hs) (fun k h => by rw [el_at Pxy.z]) rfl hst (fun k e w hk he hok hlt => by
   subst he
   refine (hcl _ w (getD_mem (by simpa using hk))).mono fun v w' ⟨h1, h2⟩ => ⟨h1, join [], h2.mono (fun k _ hk => hk.elim), ?_, ?_, rfl⟩
   ·exact ⟨fun e he => (by cases he), List.Pairwise.nil⟩
   ·rintro b ⟨e, he, _⟩
    cases he)
 refine h.mono fun v w ⟨h1, k, e, he, hst⟩ => ⟨?_, hst.ext⟩
 rw [h1, List.length_map]
 congr 1
 rw [Bool.eq_iff_iff, List.any_eq_true, List.any_eq_true]
 constructor
 ·rintro ⟨k, hk, hp⟩
  exact ⟨_, getD_mem (List.mem_range.1 hk), hp⟩
 ·rintro ⟨x, hx, hp⟩
  obtain ⟨k, hk, rfl⟩ := List.getElem_of_mem hx
  exact ⟨k, List.mem_range.2 hk, by rw [List.getD_eq_getElem?_getD, List.getElem?_eq_getElem hk]; exact hp⟩
theorem any_str {u : Value} {xs : List By} {g : FuncId} (p : By → Bool) (w0 : World) (hen : ∀ args w, (callFunc g args).run Tryz.prog w = .ok (.enter g args) w) (hs : SlAt w0 u 1 (xs.map (fun s => [sv s])))
  (hcl : ∀ (x : By) (w : World), x ∈ xs → Ret Tryz.prog g #[sv x] w fun v w' => v = .bool (p x) ∧ Ext No w w') :
  Ret Tryz.prog 57 #[u, .func (.func g) #[] #[]] w0 fun v w => v = .bool (xs.any p) ∧ Ext No w0 w := by
 have hst : St No w0 [join []] w0 := St.join [] [] (St.init w0)
 have h := containsS_ok (M := No) (wb := w0) (H := []) (sv := u) (els := xs.map (fun s => [sv s])) (caps := []) (g := g) (fun k => p (xs.getD k [])) (fun k => sv (xs.getD k [])) (fun _ e => e = join []) (join []) w0 hen
  (fun e w h => h.arg hs) (fun k h => by rw [el_at []]; rfl) rfl hst (fun k e w hk he hok hlt => by
   subst he
   refine (hcl _ w (getD_mem (by simpa using hk))).mono fun v w' ⟨h1, h2⟩ => ⟨h1, join [], h2.mono (fun k _ hk => hk.elim), ?_, ?_, rfl⟩
   ·exact ⟨fun e he => (by cases he), List.Pairwise.nil⟩
   ·rintro b ⟨e, he, _⟩
    cases he)
 refine h.mono fun v w ⟨h1, k, e, he, hst⟩ => ⟨?_, hst.ext⟩
 rw [h1, List.length_map]
 congr 1
 rw [Bool.eq_iff_iff, List.any_eq_true, List.any_eq_true]
 constructor
 ·rintro ⟨k, hk, hp⟩
  exact ⟨_, getD_mem (List.mem_range.1 hk), hp⟩
 ·rintro ⟨x, hx, hp⟩
  obtain ⟨k, hk, rfl⟩ := List.getElem_of_mem hx
  exact ⟨k, List.mem_range.2 hk, by rw [List.getD_eq_getElem?_getD, List.getElem?_eq_getElem hk]; exact hp⟩
/-- dialtone/wish.Why$1 -/
theorem why1_ok (s : By) (w0 : World) :
  Ret Tryz.prog 55 #[sv s] w0 fun v w => v = .bool (!decide ((s.length : Int) = 32)) ∧ Ext No w0 w := by
 refine ret_of Tryz.func55 rfl Tryz.ntmps55 (Nat.le_of_ble_eq_true rfl) fun a hfr => ?_
 replace hfr : Fr 6 [(0, _)] [] a := hfr
 replace hst : St No w0 [] w0 := St.init w0
 refine wc_seq_region fun K1 hK1 => ?_
 refine wla hfr rfl fun a hfr => ?_
 refine wl_nil (hK1 _ _ ?_)
 refine wc_seq_region fun K2 hK2 => ?_
 refine wlm hfr rfl fun a hfr => ?_
 refine wl_callp hfr hst (by decide) Tryz.call56 rfl (isKey_ok s _) ?_
 clear hfr hst
 intro a w1 hfr hst
 refine wlv hfr (v_not rfl) fun a hfr => ?_
 refine wla hfr rfl fun a hfr => ?_
 refine wl_nil (hK2 _ _ ?_)
 refine wc_ret ?_
 refine fin_ret hfr Tryz.results55 (resAre_tmp rfl resAre_nil) ?_
 exact ⟨by rfl, hst.ext⟩
/-- dialtone/wish.Encode$1 -/
theorem enc1_ok (x : Pxy) (w0 : World) :
  Ret Tryz.prog 75 #[.agg #[.int .i64 x.frm, .int .i64 x.to, .int .i64 x.rf, .int .i64 x.rt, .int .i64 x.sf, .int .i64 x.st, sv x.sig]] w0 fun v w => v = .bool (!decide ((x.sig.length : Int) = 32)) ∧ Ext No w0 w := by
 refine ret_of Tryz.func75 rfl Tryz.ntmps75 (Nat.le_of_ble_eq_true rfl) fun a hfr => ?_
 replace hfr : Fr 7 [(0, _)] [] a := hfr
 replace hst : St No w0 [] w0 := St.init w0
 refine wc_seq_region fun K1 hK1 => ?_
 refine wl_box hfr hst (by decide) rfl (cs := [.int .i64 x.frm, .int .i64 x.to, .int .i64 x.rf, .int .i64 x.rt, .int .i64 x.sf, .int .i64 x.st, sv x.sig]) rfl ?_
 clear hfr hst
 intro a w1 hfr hst
 refine wla hfr rfl fun a hfr => ?_
 refine wl_nil (hK1 _ _ ?_)
 refine wc_seq_region fun K2 hK2 => ?_
 refine wlv hfr (v_fieldAddr (v := .pointer (some ⟨w0.heap.size, 6, none⟩)) rfl (by kernel_rfl)) fun a hfr => ?_
 refine wlv hfr (v_load_blk1 (hst.get (k := 0) rfl) rfl (Tryz.isAgg9 _) rfl) fun a hfr => ?_
 refine wlv hfr (v_len_str rfl rfl (Tryz.runUnderlying9 _)) fun a hfr => ?_
 refine wlv hfr (v_ne rfl rfl) fun a hfr => ?_
 refine wla hfr rfl fun a hfr => ?_
 refine wl_nil (hK2 _ _ ?_)
 replace hfr : Fr 7 [(2, _)] [] a := hfr.pick [2]
 replace hst : St No w0 [] w1 := hst.mask [false]
 refine wc_ret ?_
 refine fin_ret hfr Tryz.results75 (resAre_tmp rfl resAre_nil) ?_
 exact ⟨by rfl, hst.ext⟩
end Go.Proofs.YtmmfieceinmloaaGreatDoor
namespace Go.Proofs.YtmmfieceinmloaaGreatDoor
open Go.RowKit Go.PW
set_option linter.unusedVariables false
set_option linter.unusedSimpArgs false
set_option maxRecDepth 4000
/-- dialtone/wish.Account$1 -/
theorem acc1_run {M : Nat → Prop} {w0 : World} (b bx by_ : Nat) (v : Value) (n d : Int) (ws : World) (hx : smalls [3, n, d]) (hst : St M w0 [bld 133 b (.pointer none) v ([] : By), blk bx [.int .i64 n] 3, blk by_ [.int .i64 d] 3] ws) :
  Ret Tryz.prog 87 #[.pointer (some ⟨b, 0, none⟩), .pointer (some ⟨bx, 0, none⟩), .pointer (some ⟨by_, 0, none⟩)] ws fun u w => u = .tuple #[] ∧ ∃ v2, St M w0 [bld 133 b (.pointer (some ⟨b, 0, none⟩)) v2 (puts [3, n, d]), blk bx [.int .i64 n] 3, blk by_ [.int .i64 d] 3] w := by
 refine ret_of Tryz.func87 rfl Tryz.ntmps87 (Nat.le_of_ble_eq_true rfl) fun a hfr => ?_
 replace hfr : Fr 9 [(0, _), (1, _), (2, _)] [] a := hfr
 skip
 refine wc_region ?_
 refine wlm hfr rfl fun a hfr => ?_
 refine wlv hfr (v_load_blk1 (hst.get (k := 1) rfl) rfl (Tryz.isAgg3 _) rfl) fun a hfr => ?_
 refine wlv hfr (v_load_blk1 (hst.get (k := 2) rfl) rfl (Tryz.isAgg3 _) rfl) fun a hfr => ?_
 refine wl_buildSlice (E := 3) (sz := 1) rfl [[.int .i64 3], [.int .i64 n], [.int .i64 d]] (by kernel_rfl) (by simp) rfl (by decide) (by decide) hfr hst ?_
 clear hfr hst
 intro a w1 hfr hst
 replace hst : St M w0 [bld 133 b (.pointer none) v ([] : By), own (.slice (some ⟨ws.heap.size, 0, none⟩) 3 3) 3 1 ([[.int .i64 3], [.int .i64 n], [.int .i64 d]]), blk bx [.int .i64 n] 3, blk by_ [.int .i64 d] 3] w1 := hst.select [1, 0, 2, 3] (by decide)
 replace hst := St.join [bld 133 b (.pointer none) v ([] : By), own (.slice (some ⟨ws.heap.size, 0, none⟩) 3 3) 3 1 ([[.int .i64 3], [.int .i64 n], [.int .i64 d]])] [blk bx [.int .i64 n] 3, blk by_ [.int .i64 d] 3] hst
 refine wl_callE (R := fun u e' => u = .tuple #[] ∧ ∃ v2, e' = bld 133 b (.pointer (some ⟨b, 0, none⟩)) v2 (([] : By) ++ puts [3, n, d])) 0 hfr hst rfl (by decide) Tryz.call77 rfl (fun h => (numbers_ok 133 b _ _ _ _ [3, n, d] _ (by kernel_rfl) (.inl rfl) hx (by simp) (by simp) (St.unjoin [bld 133 b (.pointer none) v ([] : By), own (.slice (some ⟨ws.heap.size, 0, none⟩) 3 3) 3 1 ([[.int .i64 3], [.int .i64 n], [.int .i64 d]])] [] h)).mono fun u w ⟨h1, v2, h2⟩ => ⟨_, ⟨h1, v2, rfl⟩, h2⟩) ?_
 clear hfr hst
 rintro a w2 _ _ ⟨rfl, v1, rfl⟩ hfr hst
 replace hst : St M w0 [bld 133 b (.pointer (some ⟨b, 0, none⟩)) v1 (([] : By) ++ puts [3, n, d]), blk bx [.int .i64 n] 3, blk by_ [.int .i64 d] 3] w2 := hst
 refine wl_nil ?_
 refine fin_end hfr Tryz.results87 resAre_nil ?_
 exact ⟨rfl, _, hst.select [0, 1, 2] (by decide)⟩
end Go.Proofs.YtmmfieceinmloaaGreatDoor
