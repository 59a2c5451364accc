/- Texts joined: LgB, LgC, LgD, LgE, LgF. -/
import Derived.Test.YtddfkkdanpmnaaaDoorPMD
import Derived.Test.YtddfkkdanpmnaaaDoorPMB
import Derived.Test.YtddfkkdanpmnaaaDoorPMA
import Derived.Laws.StructEq
set_option linter.unusedVariables false
set_option linter.unusedSimpArgs false
set_option maxRecDepth 4000
set_option maxHeartbeats 4000000
namespace Go.Proofs.YtddfkkdanpmnaaaDoor
open Go.RowKit Go.PW _root_.Go.Proofs.Tryd
def smalls (l : List Int) : Prop := ∀ n ∈ l, small n
def i64 (n : Int) : Prop := -9223372036854775808 ≤ n ∧ n ≤ 9223372036854775807
def Rec.cells (x : Rec) : List Value := [iv x.t, iv x.kind, iv x.a, iv x.b, sv x.text]
theorem cG {l : List (List Value)} (h : ∀ e ∈ l, ∃ p : Rec, e = p.cells) : ∀ e ∈ l, ∀ u ∈ e, u.oneCell' = true := by
 intro e he u hu
 obtain ⟨p, rfl⟩ := h e he
 simp only [Rec.cells, List.mem_cons, List.not_mem_nil, or_false] at hu
 rcases hu with rfl | rfl | rfl | rfl | rfl <;> rfl
def Rin.cells (y : Rin) : List Value := [iv y.x0, iv y.x1, iv y.x2, iv y.x3, iv y.x4]
def Rin.z : Rin := ⟨0, 0, 0, 0, 0⟩
def Rin.wt (y : Rin) : Prop := i64 y.x0 ∧ i64 y.x1 ∧ i64 y.x2 ∧ i64 y.x3 ∧ i64 y.x4
theorem mr {α : Type} {d : α} {xs ys : List α} {k : Nat} (hl : xs.length = ys.length) (hk : xs.length ≤ k) (h : ∀ j, j < k → xs.getD j d = ys.getD j d) : xs = ys := by
 refine List.ext_getElem hl fun j h1 h2 => ?_
 have := h j om
 simpa [List.getD_eq_getElem?_getD, h1, h2] using this
theorem nN {α : Type} {d : α} {xs ys : List α} {k : Nat} (h : xs.getD k d ≠ ys.getD k d) : xs ≠ ys := fun e => h (by rw [e])
def prevT (l : List Rec) : Nat → Int
 | 0 => 0
 | k + 1 => (l.getD k Rec.z).t
theorem mN {l : List Rec} {k : Nat} (h : 0 < k) : prevT l k = (l.getD (k - 1) Rec.z).t := by
 cases k with
 | zero => exact absurd h (Nat.lt_irrefl 0)
 | succ k => rfl
theorem Rec.t0 {x : Rec} (h : x.ok = true) : 0 ≤ x.t := by
 simp only [Rec.ok, inB, Bool.and_eq_true, decide_eq_true_eq] at h; omega
theorem fa {l : List Rec} {k : Nat} (h : k < l.length) : l.drop k = l.getD k Rec.z :: l.drop (k + 1) := by
 rw [List.drop_eq_getElem_cons h, List.getD_eq_getElem?_getD, List.getElem?_eq_getElem h]; rfl
section
variable {l : List Rec} {k : Nat} {t : Int}
theorem mo (hk : k < l.length) (ho : (l.getD k Rec.z).ok = true) (ht : t ≤ (l.getD k Rec.z).t) : bD t (l.drop k) = bD (prevT l (k + 1)) (l.drop (k + 1)) := by
 rw [fa hk, bD, ho, decide_eq_true ht]; rfl
theorem oP (hk : k < l.length) (ho : (l.getD k Rec.z).ok = false) : bD t (l.drop k) = false := by rw [fa hk, bD, ho]; rfl
theorem oT (hk : k < l.length) (ht : (l.getD k Rec.z).t < t) : bD t (l.drop k) = false := by rw [fa hk, bD, decide_eq_false om, Bool.and_false]; rfl
end
def eB (x : Rec) : By := if x.ok = true then x.enc else []
def eE (x : Rec) : Int := if x.ok = true then 0 else 110
theorem gc (x : Rec) : (eB x).length ≤ 300 := by
 unfold eB
 split
 ·rename_i h
  have h1 := x.enc_len
  have h2 := Rec.len h
  omega
 ·simp
def decR (acc : List Int) (m : Nat) (r : By) : Option Rec := match intsR m r with
 | none => none
 | some (l, t) => tailR (acc ++ l) t
def decX (s : By) : Rec := (decRec s).getD Rec.z
def decE (s : By) : Int := if (decRec s).isSome = true then 0 else 110
section
variable {acc : List Int} {m : Nat} {r q x s : By} {n : Int}
theorem iU : decRec s = decR [] 4 s := by
 unfold decRec decR
 cases intsR 4 s <;> rfl
theorem du (h : rdI r = some (n, q)) : decR acc (m + 1) r = decR (acc ++ [n]) m q := by
 unfold decR
 rw [mV h]
 cases intsR m q with
 | none => rfl
 | some p => simp
theorem cS (h : rdI r = none) : decR acc (m + 1) r = none := by unfold decR; rw [lw h]
theorem iY : decR acc 0 r = tailR acc r := by unfold decR; simp [intsR]
theorem ie (h : rdS r = none) : tailR acc r = none := by unfold tailR; rw [h]
theorem jl (h : rdS r = some (x, q)) : tailR acc r = shutR acc x q := by unfold tailR; rw [h]
theorem g5 (h1 : q = []) (h2 : (recN acc x).ok = true) : shutR acc x q = some (recN acc x) := if_pos ⟨h1, h2⟩
theorem io (h : q ≠ []) : shutR acc x q = none := if_neg fun hh => h hh.1
theorem g6 (h : (recN acc x).ok = false) : shutR acc x q = none := if_neg fun hh => by rw [h] at hh; cases hh.2
end
def codesB (l : List Rec) : List By := l.map eB
theorem ei {l : List Rec} (h : ∀ x ∈ l, x.ok = true) : codesB l = codesR l := List.map_congr_left fun x hx => if_pos (h x hx)
theorem gt (l : List Rec) : ∀ s ∈ codesB l, s.length ≤ 300 := by
 intro s hs
 obtain ⟨x, _, rfl⟩ := List.mem_map.1 hs
 exact gc x
theorem gb (l : List Rec) : (codesB l).length = l.length := List.length_map ..
def addOk (o : Int) (l : List Rec) (x : Rec) : Bool := logOk o l && logOk o (l ++ [x])
theorem ee {P : Program} {w : World} {d : Nat} {xs ys : Array Value} {f : Field} {fs : List Field} {a b : Value} {r r' : Bool} (hn : f.name ≠ "_") (h1 : (part f.type xs f.offset).run P w = .ok a w) (h2 : (part f.type ys f.offset).run P w = .ok b w)
  (h3 : (Op.equalIn d f.type a b).run P w = .ok r w) (h4 : (Op.eqFields d xs ys fs).run P w = .ok r' w) : (Op.eqFields d xs ys (f :: fs)).run P w = .ok (r && r') w := by
 simp only [Op.eqFields, hn, ne_eq, not_false_eq_true, if_true, Sem.run_bind, h1, h2, h3, Result.andThen_ok]
 cases r
 ·simp
 ·simpa using h4
theorem oE {P : Program} {w : World} {d : Nat} {xs ys : Array Value} : (Op.eqFields d xs ys []).run P w = .ok true w := by simp [Op.eqFields]
theorem eqI {w : World} (d : Nat) (a b : Int) : (Op.equalIn (d + 1) 3 (iv a) (iv b)).run Tryd.prog w = .ok (decide (a = b)) w := by
 rw [run_equalIn_int w d 3 .i64 .i64 a b underlying3]; congr 1
theorem eqS {w : World} (d : Nat) (a b : By) : (Op.equalIn (d + 1) 9 (sv a) (sv b)).run Tryd.prog w = .ok (decide (a = b)) w := by
 unfold sv
 rw [run_equalIn_string w d 9 _ _ underlying9, ByteArray.toList_mk, ByteArray.toList_mk]; congr 1
 rw [Bool.eq_iff_iff]; simp
theorem eqRec (a0 a1 a2 a3 : Int) (a4 : By) (c0 c1 c2 c3 : Int) (c4 : By) (w : World) : (Op.equal 27 (.agg #[iv a0, iv a1, iv a2, iv a3, sv a4]) (.agg #[iv c0, iv c1, iv c2, iv c3, sv c4])).run Tryd.prog w = .ok (decide (Rec.mk a0 a1 a2 a3 a4 = Rec.mk c0 c1 c2 c3 c4)) w := by
 have e : decide (Rec.mk a0 a1 a2 a3 a4 = Rec.mk c0 c1 c2 c3 c4) = (decide (a0 = c0) && (decide (a1 = c1) && (decide (a2 = c2) && (decide (a3 = c3) && (decide (a4 = c4) && true))))) := by
  rw [Bool.eq_iff_iff]; simp [and_assoc]
 rw [e]
 unfold Op.equal Op.maxDepth
 obtain ⟨dd, hd⟩ : ∃ dd, 10000 = dd + 1 + 1 + 1 := ⟨9997, rfl⟩
 rw [hd, run_equalIn_struct w (dd + 1 + 1) 27 _ _ kr kr]
 simp only [Program.fieldsOf, underlying27]
 refine ee (a := iv a0) (b := iv c0) (r := decide (a0 = c0)) de (by simp [part, isAgg3, sv]) (by simp [part, isAgg3, sv]) (eqI _ _ _) ?_
 refine ee (a := iv a1) (b := iv c1) (r := decide (a1 = c1)) de (by simp [part, isAgg3, sv]) (by simp [part, isAgg3, sv]) (eqI _ _ _) ?_
 refine ee (a := iv a2) (b := iv c2) (r := decide (a2 = c2)) de (by simp [part, isAgg3, sv]) (by simp [part, isAgg3, sv]) (eqI _ _ _) ?_
 refine ee (a := iv a3) (b := iv c3) (r := decide (a3 = c3)) de (by simp [part, isAgg3, sv]) (by simp [part, isAgg3, sv]) (eqI _ _ _) ?_
 refine ee (a := sv a4) (b := sv c4) (r := decide (a4 = c4)) de (by simp [part, isAgg9, sv]) (by simp [part, isAgg9, sv]) (eqS _ _ _) ?_
 exact oE
theorem bN (n m : Int) (w0 : World) (hn : -9223372036854775808 ≤ n ∧ n ≤ 9223372036854775807) (hm : 0 < m ∧ m ≤ 9223372036854775807) :
  Ret Tryd.prog 44 #[iv n, iv m] w0 fun v w => v = iv (pickI n m) ∧ Ext No w0 w := by
 refine aI func44 rfl ntmps44 (lb rfl) fun a Y => ?_
 replace Y := Y.p2 0 1 rfl
 replace U : St No w0 [] w0 := St.init w0
 refine aa fun K1 hK1 => wla Y rfl fun a Y => ab (hK1 _ _ <| ac fun K2 hK2 => ?_)
 refine aa fun K3 hK3 => wlm Y rfl fun a Y => wlv Y (v_lt rfl rfl) fun a Y => ab (hK3 _ _ ?_)
 refine az Y rfl (fun hc1 => ?_) (fun hc1 => ?_)
 ·rw [hc1] at Y
  try simp only [qz] at hc1
  refine ao <| wlm Y rfl fun a Y => wlv Y (aM rfl rfl ⟨om, om⟩) fun a Y => wlv Y (ig rfl om om) fun a Y => wla Y rfl fun a Y => ab <| hK2 _ _ <| aa fun K4 hK4 => wlm Y rfl fun a Y => wlm Y rfl fun a Y => wlv Y (ij rfl rfl om om) fun a Y => wla Y rfl fun a Y => ab (hK4 _ _ ?_)
  replace Y := Y.p1 4 rfl
  refine au ?_
  refine ar Y results44 (ae rfl ah) ?_
  exact ⟨by simp only [retv, pickI]; simp [hc1], U.ext⟩
 rw [hc1] at Y
 try simp only [qz] at hc1
 refine aq <| hK2 _ _ <| aa fun K5 hK5 => wlm Y rfl fun a Y => wlm Y rfl fun a Y => wlv Y (ij rfl rfl om om) fun a Y => wla Y rfl fun a Y => ab (hK5 _ _ ?_)
 replace Y := Y.p1 4 rfl
 refine au ?_
 refine ar Y results44 (ae rfl ah) ?_
 exact ⟨by simp only [retv, pickI]; simp [hc1], U.ext⟩
theorem bK (n m : Int) (w0 : World) (hn : -9223372036854775808 ≤ n ∧ n ≤ 9223372036854775807) (hm : 0 < m ∧ m ≤ 9223372036854775807) :
  Ret Tryd.prog 19 #[iv n, iv m] w0 fun v w => v = iv (pickI n m) ∧ Ext No w0 w := by
 refine aI func19 rfl ntmps19 (lb rfl) fun a Y => ?_
 replace Y := Y.p2 0 1 rfl
 replace U : St No w0 [] w0 := St.init w0
 refine aa fun K1 hK1 => wla Y rfl fun a Y => ab (hK1 _ _ <| ac fun K2 hK2 => ?_)
 refine aa fun K3 hK3 => wlm Y rfl fun a Y => wlv Y (v_lt rfl rfl) fun a Y => ab (hK3 _ _ ?_)
 refine az Y rfl (fun hc1 => ?_) (fun hc1 => ?_)
 ·rw [hc1] at Y
  try simp only [qz] at hc1
  refine ao <| wlm Y rfl fun a Y => wlv Y (aM rfl rfl ⟨om, om⟩) fun a Y => wlv Y (ig rfl om om) fun a Y => wla Y rfl fun a Y => ab <| hK2 _ _ <| aa fun K4 hK4 => wlm Y rfl fun a Y => wlm Y rfl fun a Y => wlv Y (ij rfl rfl om om) fun a Y => wla Y rfl fun a Y => ab (hK4 _ _ ?_)
  replace Y := Y.p1 4 rfl
  refine au ?_
  refine ar Y results19 (ae rfl ah) ?_
  exact ⟨by simp only [retv, pickI]; simp [hc1], U.ext⟩
 rw [hc1] at Y
 try simp only [qz] at hc1
 refine aq <| hK2 _ _ <| aa fun K5 hK5 => wlm Y rfl fun a Y => wlm Y rfl fun a Y => wlv Y (ij rfl rfl om om) fun a Y => wla Y rfl fun a Y => ab (hK5 _ _ ?_)
 replace Y := Y.p1 4 rfl
 refine au ?_
 refine ar Y results19 (ae rfl ah) ?_
 exact ⟨by simp only [retv, pickI]; simp [hc1], U.ext⟩
theorem el (x : Rec) (w0 : World) :
  Ret Tryd.prog 47 #[.agg #[iv x.t, iv x.kind, iv x.a, iv x.b, sv x.text]] w0 fun v w => v = .bool x.ok ∧ Ext No w0 w := by
 refine aI func47 rfl ntmps47 (lb rfl) fun a Y => ?_
 replace Y := Y.p1 0 rfl
 replace U : St No w0 [] w0 := St.init w0
 refine aa fun K1 hK1 => bh Y U de rfl (cs := [iv x.t, iv x.kind, iv x.a, iv x.b, sv x.text]) rfl ?_
 clear Y U
 intro a w1 Y U
 refine wla Y rfl fun a Y => ab (hK1 _ _ <| aa fun K2 hK2 => ?_)
 refine wlv Y (al (v := pq w0.hz) rfl kr) fun a Y => wlv Y (ld U 0 rfl rfl (isAgg3 _) rfl) fun a Y => wlv Y (v_ge rfl rfl) fun a Y => wlm Y rfl fun a Y => ?_
 refine cK (N := 47) (df := []) 4 [(10, .bool ((decide (0 ≤ x.t)) && (decide (x.t ≤ 10000000)))), (0, .agg #[iv x.t, iv x.kind, iv x.a, iv x.b, sv x.text]), (1, pq w0.hz), (2, .bool false)] ?_ (fun hj => ?_)
 rotate_left
 ·rcases Bool.eq_false_or_eq_true (decide (0 ≤ x.t)) with hb1 | hb1
  ·rw [hb1] at Y
   have hb1b := hb1
   try simp only [qz, Bool.and_eq_true, Bool.or_eq_true, Bool.and_eq_false_iff, Bool.or_eq_false_iff] at hb1
   refine wly Y (al (v := pq w0.hz) rfl kr) fun a Y => wly Y (ld U 0 rfl rfl (isAgg3 _) rfl) fun a Y => wly Y (v_le rfl rfl) fun a Y => wlv Y (aB rfl rfl) fun a Y => ?_
   refine hj _ ?_
   try rw [hb1b]
   exact Y.pick [10, 0, 1, 2]
  rw [hb1] at Y
  have hb1b := hb1
  try simp only [qz, Bool.and_eq_true, Bool.or_eq_true, Bool.and_eq_false_iff, Bool.or_eq_false_iff] at hb1
  refine wln Y fun a Y => wln Y fun a Y => wln Y fun a Y => wlv Y (aw rfl rfl) fun a Y => ?_
  refine hj _ ?_
  try rw [hb1b]
  exact Y.pick [10, 0, 1, 2]
 intro a Y
 refine wlm Y rfl fun a Y => ?_
 refine cK (N := 47) (df := []) 4 [(15, .bool (((decide (0 ≤ x.t)) && (decide (x.t ≤ 10000000))) && (decide (1 ≤ x.kind)))), (0, .agg #[iv x.t, iv x.kind, iv x.a, iv x.b, sv x.text]), (1, pq w0.hz), (2, .bool false)] ?_ (fun hj => ?_)
 rotate_left
 ·rcases Bool.eq_false_or_eq_true ((decide (0 ≤ x.t)) && (decide (x.t ≤ 10000000))) with hb2 | hb2
  ·rw [hb2] at Y
   have hb2b := hb2
   try simp only [qz, Bool.and_eq_true, Bool.or_eq_true, Bool.and_eq_false_iff, Bool.or_eq_false_iff] at hb2
   refine wly Y (al (v := po w0.hz 1) rfl kr) fun a Y => wly Y (ld U 0 rfl rfl (isAgg3 _) rfl) fun a Y => wly Y (v_ge rfl rfl) fun a Y => wlv Y (aB rfl rfl) fun a Y => ?_
   refine hj _ ?_
   try rw [hb2b]
   exact Y.pick [15, 0, 1, 2]
  rw [hb2] at Y
  have hb2b := hb2
  try simp only [qz, Bool.and_eq_true, Bool.or_eq_true, Bool.and_eq_false_iff, Bool.or_eq_false_iff] at hb2
  refine wln Y fun a Y => wln Y fun a Y => wln Y fun a Y => wlv Y (aw rfl rfl) fun a Y => ?_
  refine hj _ ?_
  try rw [hb2b]
  exact Y.pick [15, 0, 1, 2]
 intro a Y
 refine wlm Y rfl fun a Y => ?_
 refine cK (N := 47) (df := []) 4 [(20, .bool ((((decide (0 ≤ x.t)) && (decide (x.t ≤ 10000000))) && (decide (1 ≤ x.kind))) && (decide (x.kind ≤ 20)))), (0, .agg #[iv x.t, iv x.kind, iv x.a, iv x.b, sv x.text]), (1, pq w0.hz), (2, .bool false)] ?_ (fun hj => ?_)
 rotate_left
 ·rcases Bool.eq_false_or_eq_true (((decide (0 ≤ x.t)) && (decide (x.t ≤ 10000000))) && (decide (1 ≤ x.kind))) with hb3 | hb3
  ·rw [hb3] at Y
   have hb3b := hb3
   try simp only [qz, Bool.and_eq_true, Bool.or_eq_true, Bool.and_eq_false_iff, Bool.or_eq_false_iff] at hb3
   refine wly Y (al (v := po w0.hz 1) rfl kr) fun a Y => wly Y (ld U 0 rfl rfl (isAgg3 _) rfl) fun a Y => wly Y (v_le rfl rfl) fun a Y => wlv Y (aB rfl rfl) fun a Y => ?_
   refine hj _ ?_
   try rw [hb3b]
   exact Y.pick [20, 0, 1, 2]
  rw [hb3] at Y
  have hb3b := hb3
  try simp only [qz, Bool.and_eq_true, Bool.or_eq_true, Bool.and_eq_false_iff, Bool.or_eq_false_iff] at hb3
  refine wln Y fun a Y => wln Y fun a Y => wln Y fun a Y => wlv Y (aw rfl rfl) fun a Y => ?_
  refine hj _ ?_
  try rw [hb3b]
  exact Y.pick [20, 0, 1, 2]
 intro a Y
 refine wlm Y rfl fun a Y => ?_
 refine cK (N := 47) (df := []) 4 [(25, .bool (((((decide (0 ≤ x.t)) && (decide (x.t ≤ 10000000))) && (decide (1 ≤ x.kind))) && (decide (x.kind ≤ 20))) && (decide (-1 ≤ x.a)))), (0, .agg #[iv x.t, iv x.kind, iv x.a, iv x.b, sv x.text]), (1, pq w0.hz), (2, .bool false)] ?_ (fun hj => ?_)
 rotate_left
 ·rcases Bool.eq_false_or_eq_true ((((decide (0 ≤ x.t)) && (decide (x.t ≤ 10000000))) && (decide (1 ≤ x.kind))) && (decide (x.kind ≤ 20))) with hb4 | hb4
  ·rw [hb4] at Y
   have hb4b := hb4
   try simp only [qz, Bool.and_eq_true, Bool.or_eq_true, Bool.and_eq_false_iff, Bool.or_eq_false_iff] at hb4
   refine wly Y (al (v := po w0.hz 2) rfl kr) fun a Y => wly Y (ld U 0 rfl rfl (isAgg3 _) rfl) fun a Y => wly Y (v_ge rfl rfl) fun a Y => wlv Y (aB rfl rfl) fun a Y => ?_
   refine hj _ ?_
   try rw [hb4b]
   exact Y.pick [25, 0, 1, 2]
  rw [hb4] at Y
  have hb4b := hb4
  try simp only [qz, Bool.and_eq_true, Bool.or_eq_true, Bool.and_eq_false_iff, Bool.or_eq_false_iff] at hb4
  refine wln Y fun a Y => wln Y fun a Y => wln Y fun a Y => wlv Y (aw rfl rfl) fun a Y => ?_
  refine hj _ ?_
  try rw [hb4b]
  exact Y.pick [25, 0, 1, 2]
 intro a Y
 refine wlm Y rfl fun a Y => ?_
 refine cK (N := 47) (df := []) 4 [(30, .bool ((((((decide (0 ≤ x.t)) && (decide (x.t ≤ 10000000))) && (decide (1 ≤ x.kind))) && (decide (x.kind ≤ 20))) && (decide (-1 ≤ x.a))) && (decide (x.a ≤ 99999999)))), (0, .agg #[iv x.t, iv x.kind, iv x.a, iv x.b, sv x.text]), (1, pq w0.hz), (2, .bool false)] ?_ (fun hj => ?_)
 rotate_left
 ·rcases Bool.eq_false_or_eq_true (((((decide (0 ≤ x.t)) && (decide (x.t ≤ 10000000))) && (decide (1 ≤ x.kind))) && (decide (x.kind ≤ 20))) && (decide (-1 ≤ x.a))) with hb5 | hb5
  ·rw [hb5] at Y
   have hb5b := hb5
   try simp only [qz, Bool.and_eq_true, Bool.or_eq_true, Bool.and_eq_false_iff, Bool.or_eq_false_iff] at hb5
   refine wly Y (al (v := po w0.hz 2) rfl kr) fun a Y => wly Y (ld U 0 rfl rfl (isAgg3 _) rfl) fun a Y => wly Y (v_le rfl rfl) fun a Y => wlv Y (aB rfl rfl) fun a Y => ?_
   refine hj _ ?_
   try rw [hb5b]
   exact Y.pick [30, 0, 1, 2]
  rw [hb5] at Y
  have hb5b := hb5
  try simp only [qz, Bool.and_eq_true, Bool.or_eq_true, Bool.and_eq_false_iff, Bool.or_eq_false_iff] at hb5
  refine wln Y fun a Y => wln Y fun a Y => wln Y fun a Y => wlv Y (aw rfl rfl) fun a Y => ?_
  refine hj _ ?_
  try rw [hb5b]
  exact Y.pick [30, 0, 1, 2]
 intro a Y
 refine wlm Y rfl fun a Y => ?_
 refine cK (N := 47) (df := []) 4 [(35, .bool (((((((decide (0 ≤ x.t)) && (decide (x.t ≤ 10000000))) && (decide (1 ≤ x.kind))) && (decide (x.kind ≤ 20))) && (decide (-1 ≤ x.a))) && (decide (x.a ≤ 99999999))) && (decide (-1 ≤ x.b)))), (0, .agg #[iv x.t, iv x.kind, iv x.a, iv x.b, sv x.text]), (1, pq w0.hz), (2, .bool false)] ?_ (fun hj => ?_)
 rotate_left
 ·rcases Bool.eq_false_or_eq_true ((((((decide (0 ≤ x.t)) && (decide (x.t ≤ 10000000))) && (decide (1 ≤ x.kind))) && (decide (x.kind ≤ 20))) && (decide (-1 ≤ x.a))) && (decide (x.a ≤ 99999999))) with hb6 | hb6
  ·rw [hb6] at Y
   have hb6b := hb6
   try simp only [qz, Bool.and_eq_true, Bool.or_eq_true, Bool.and_eq_false_iff, Bool.or_eq_false_iff] at hb6
   refine wly Y (al (v := po w0.hz 3) rfl kr) fun a Y => wly Y (ld U 0 rfl rfl (isAgg3 _) rfl) fun a Y => wly Y (v_ge rfl rfl) fun a Y => wlv Y (aB rfl rfl) fun a Y => ?_
   refine hj _ ?_
   try rw [hb6b]
   exact Y.pick [35, 0, 1, 2]
  rw [hb6] at Y
  have hb6b := hb6
  try simp only [qz, Bool.and_eq_true, Bool.or_eq_true, Bool.and_eq_false_iff, Bool.or_eq_false_iff] at hb6
  refine wln Y fun a Y => wln Y fun a Y => wln Y fun a Y => wlv Y (aw rfl rfl) fun a Y => ?_
  refine hj _ ?_
  try rw [hb6b]
  exact Y.pick [35, 0, 1, 2]
 intro a Y
 refine wlm Y rfl fun a Y => ?_
 refine cK (N := 47) (df := []) 4 [(40, .bool ((((((((decide (0 ≤ x.t)) && (decide (x.t ≤ 10000000))) && (decide (1 ≤ x.kind))) && (decide (x.kind ≤ 20))) && (decide (-1 ≤ x.a))) && (decide (x.a ≤ 99999999))) && (decide (-1 ≤ x.b))) && (decide (x.b ≤ 99999999)))), (0, .agg #[iv x.t, iv x.kind, iv x.a, iv x.b, sv x.text]), (1, pq w0.hz), (2, .bool false)] ?_ (fun hj => ?_)
 rotate_left
 ·rcases Bool.eq_false_or_eq_true (((((((decide (0 ≤ x.t)) && (decide (x.t ≤ 10000000))) && (decide (1 ≤ x.kind))) && (decide (x.kind ≤ 20))) && (decide (-1 ≤ x.a))) && (decide (x.a ≤ 99999999))) && (decide (-1 ≤ x.b))) with hb7 | hb7
  ·rw [hb7] at Y
   have hb7b := hb7
   try simp only [qz, Bool.and_eq_true, Bool.or_eq_true, Bool.and_eq_false_iff, Bool.or_eq_false_iff] at hb7
   refine wly Y (al (v := po w0.hz 3) rfl kr) fun a Y => wly Y (ld U 0 rfl rfl (isAgg3 _) rfl) fun a Y => wly Y (v_le rfl rfl) fun a Y => wlv Y (aB rfl rfl) fun a Y => ?_
   refine hj _ ?_
   try rw [hb7b]
   exact Y.pick [40, 0, 1, 2]
  rw [hb7] at Y
  have hb7b := hb7
  try simp only [qz, Bool.and_eq_true, Bool.or_eq_true, Bool.and_eq_false_iff, Bool.or_eq_false_iff] at hb7
  refine wln Y fun a Y => wln Y fun a Y => wln Y fun a Y => wlv Y (aw rfl rfl) fun a Y => ?_
  refine hj _ ?_
  try rw [hb7b]
  exact Y.pick [40, 0, 1, 2]
 intro a Y
 refine wlm Y rfl fun a Y => ?_
 refine cK (N := 47) (df := []) 5 [(46, .bool (((((((((decide (0 ≤ x.t)) && (decide (x.t ≤ 10000000))) && (decide (1 ≤ x.kind))) && (decide (x.kind ≤ 20))) && (decide (-1 ≤ x.a))) && (decide (x.a ≤ 99999999))) && (decide (-1 ≤ x.b))) && (decide (x.b ≤ 99999999))) && (decide ((x.text.length : Int) ≤ 200)))), (0, .agg #[iv x.t, iv x.kind, iv x.a, iv x.b, sv x.text]), (1, pq w0.hz), (2, .bool false)] ?_ (fun hj => ?_)
 rotate_left
 ·rcases Bool.eq_false_or_eq_true ((((((((decide (0 ≤ x.t)) && (decide (x.t ≤ 10000000))) && (decide (1 ≤ x.kind))) && (decide (x.kind ≤ 20))) && (decide (-1 ≤ x.a))) && (decide (x.a ≤ 99999999))) && (decide (-1 ≤ x.b))) && (decide (x.b ≤ 99999999))) with hb8 | hb8
  ·rw [hb8] at Y
   have hb8b := hb8
   try simp only [qz, Bool.and_eq_true, Bool.or_eq_true, Bool.and_eq_false_iff, Bool.or_eq_false_iff] at hb8
   refine wly Y (al (v := po w0.hz 4) rfl kr) fun a Y => wly Y (ld U 0 rfl rfl (isAgg9 _) rfl) fun a Y => wly Y (aW rfl rfl (runUnderlying9 _)) fun a Y => wly Y (v_le rfl rfl) fun a Y => wlv Y (aB rfl rfl) fun a Y => ?_
   refine hj _ ?_
   try rw [hb8b]
   exact Y.pick [46, 0, 1, 2]
  rw [hb8] at Y
  have hb8b := hb8
  try simp only [qz, Bool.and_eq_true, Bool.or_eq_true, Bool.and_eq_false_iff, Bool.or_eq_false_iff] at hb8
  refine wln Y fun a Y => wln Y fun a Y => wln Y fun a Y => wln Y fun a Y => wlv Y (aw rfl rfl) fun a Y => ?_
  refine hj _ ?_
  try rw [hb8b]
  exact Y.pick [46, 0, 1, 2]
 intro a Y
 refine wla Y rfl fun a Y => ab (hK2 _ _ <| au ?_)
 refine ar Y results47 (ae rfl ah) ?_
 refine ⟨?_, U.ext⟩
 simp only [retv]
 refine congrArg Value.bool ?_
 rw [Bool.eq_iff_iff]; simp only [Rec.ok, inB, Bool.and_eq_true, decide_eq_true_eq]; omega
theorem dr (o : Int) (lv : Value) (l : List Rec) (w0 : World) (hlv : SlAt w0 lv 5 (l.map Rec.cells)) :
  Ret Tryd.prog 17 #[.agg #[iv o, lv]] w0 fun v w => v = .bool (logOk o l) ∧ Ext No w0 w := by
 have hxb := hlv.2.1
 simp only [List.length_map, big] at hxb
 refine aI func17 rfl ntmps17 (lb rfl) fun a Y => ?_
 replace Y := Y.p1 0 rfl
 replace U : St No w0 [] w0 := St.init w0
 refine aa fun K1 hK1 => bh Y U de rfl (cs := [iv o, lv]) rfl ?_
 clear Y U
 intro a w1 Y U
 refine wla Y rfl fun a Y => ab (hK1 _ _ <| ac fun K2 hK2 => ?_)
 refine aa fun K3 hK3 => wlv Y (al (v := pq w0.hz) rfl kr) fun a Y => wlv Y (ld U 0 rfl rfl (isAgg3 _) rfl) fun a Y => wlv Y (v_lt rfl rfl) fun a Y => wlm Y rfl fun a Y => ?_
 rcases Bool.eq_false_or_eq_true (decide (o < 0)) with hb1 | hb1
 ·rw [hb1] at Y
  try simp only [qz] at hb1
  refine wln Y fun a Y => wln Y fun a Y => wln Y fun a Y => wlv Y (aB rfl rfl) fun a Y => wlm Y rfl fun a Y => wln Y fun a Y => wln Y fun a Y => wln Y fun a Y => wln Y fun a Y => wlv Y (aB rfl rfl) fun a Y => ab (hK3 _ _ ?_)
  replace Y := Y.p3 1 2 17 rfl
  refine aD Y rfl ?_
  refine aa fun K4 hK4 => wla Y rfl fun a Y => ab (hK4 _ _ <| au ?_)
  refine ar Y results17 (ae rfl ah) ?_
  refine ⟨?_, U.ext⟩
  simp only [retv]
  refine congrArg Value.bool ?_
  exact (by rw [eq_comm, Bool.eq_false_iff]; intro h; simp only [logOk, inB, Bool.and_eq_true, decide_eq_true_eq] at h; omega)
 rw [hb1] at Y
 try simp only [qz] at hb1
 refine wly Y (al (v := pq w0.hz) rfl kr) fun a Y => wly Y (ld U 0 rfl rfl (isAgg3 _) rfl) fun a Y => wly Y (v_gt rfl rfl) fun a Y => wlv Y (aw rfl rfl) fun a Y => wlm Y rfl fun a Y => ?_
 rcases Bool.eq_false_or_eq_true (decide (99 < o)) with hb2 | hb2
 ·rw [hb2] at Y
  try simp only [qz] at hb2
  refine wln Y fun a Y => wln Y fun a Y => wln Y fun a Y => wln Y fun a Y => wlv Y (aB rfl rfl) fun a Y => ab (hK3 _ _ ?_)
  replace Y := Y.p3 1 2 17 rfl
  refine aD Y rfl ?_
  refine aa fun K5 hK5 => wla Y rfl fun a Y => ab (hK5 _ _ <| au ?_)
  refine ar Y results17 (ae rfl ah) ?_
  refine ⟨?_, U.ext⟩
  simp only [retv]
  refine congrArg Value.bool ?_
  exact (by rw [eq_comm, Bool.eq_false_iff]; intro h; simp only [logOk, inB, Bool.and_eq_true, decide_eq_true_eq] at h; omega)
 rw [hb2] at Y
 try simp only [qz] at hb2
 refine wly Y (al (v := po w0.hz 1) rfl kr) fun a Y => wly Y (ld U 0 rfl rfl (isAgg23 _) rfl) fun a Y => wly Y ((aK (sT := 23) (U.arg hlv) rfl rfl (runUnderlying23 _)).asi (m' := (l.length : Int)) (by rw [List.length_map])) fun a Y => wly Y (v_gt rfl rfl) fun a Y => wlv Y (aw rfl rfl) fun a Y => ab (hK3 _ _ ?_)
 replace Y := Y.p3 1 2 17 rfl
 refine az Y rfl (fun hc3 => ?_) (fun hc3 => ?_)
 ·rw [hc3] at Y
  try simp only [qz] at hc3
  refine aa fun K6 hK6 => wla Y rfl fun a Y => ab (hK6 _ _ <| au ?_)
  refine ar Y results17 (ae rfl ah) ?_
  refine ⟨?_, U.ext⟩
  simp only [retv]
  refine congrArg Value.bool ?_
  exact (by rw [eq_comm, Bool.eq_false_iff]; intro h; simp only [logOk, inB, Bool.and_eq_true, decide_eq_true_eq] at h; omega)
 rw [hc3] at Y
 try simp only [qz] at hc3
 refine aq <| hK2 _ _ <| ac fun K7 hK7 => aa fun K8 hK8 => wla Y rfl fun a Y => ab (hK8 _ _ <| ap ?_)
 refine aV (fun m a w => ∃ (k : Nat), m = l.length - k ∧ (k ≤ l.length) ∧ (bD 0 l = bD (prevT l k) (l.drop k)) ∧ Fr 52 [(1, pq w0.hz), (3, iv (k : Int))] [] a ∧ St No w0 [blk w0.hz [iv o, lv] 25] w) _ ⟨0, rfl, Nat.zero_le _, rfl, Y.pick [1, 3], U.select [0] de⟩ ?_
 rintro _ a w2 ⟨k, rfl, hk, hs, Y, U⟩
 refine ac fun K9 hK9 => aa fun K10 hK10 => wlm Y rfl fun a Y => wlv Y (al (v := po w0.hz 1) rfl kr) fun a Y => wlv Y (ld U 0 rfl rfl (isAgg23 _) rfl) fun a Y => wlv Y ((aK (sT := 23) (U.arg hlv) rfl rfl (runUnderlying23 _)).asi (m' := (l.length : Int)) (by rw [List.length_map])) fun a Y => wlv Y (v_lt rfl rfl) fun a Y => ab (hK10 _ _ ?_)
 refine az Y rfl (fun hc4 => ?_) (fun hc4 => ?_)
 ·rw [hc4] at Y
  try simp only [qz] at hc4
  have hkx : k < l.length := by omega
  refine aq <| hK9 _ _ <| ac fun K11 hK11 => ap <| ac fun K12 hK12 => aO kr (aP kr fun w3 hxz => ?_)
  replace U := U.grow hxz
  refine aS (k := 0) 3 [1, 2] Y kr kr kr rfx ?_
  replace Y := Y.p7 1 3 18 19 20 21 22 rfl
  refine aA [] (fun i => match i with | _ => fun _ _ => False) 3 [[], [0], []] [po w0.hz 1, lv, iv (k : Int)] Y U kr kr kr ?_ ?_ ?_
  ·intro i hi hiq
   match i, hi, hiq with
   | 0, _, _ => exact fun w U => OpV.g (al (v := po w0.hz 1) rfl kr)
   | 1, _, _ => exact fun w U => OpV.g (ld U 0 rfl rfl (isAgg23 _) rfl)
   | 2, _, _ => exact fun w U => OpV.g (ai rfl)
  ·intro i hi
   exact absurd hi sm
  clear Y U
  intro  a w4 Y U
  replace Y : Fr 52 [(25, po w0.hz 1), (26, lv), (27, iv (k : Int)), (1, _), (3, _), (18, _), (19, _), (20, _), (21, _), (22, _)] [] a := Y
  refine ab <| aQ (k := 3) 11 [10] kr kr kr ?_
  refine wlv Y ((ak (i := (k : Int)) (sT := 23) (U.arg hlv) rfl rfl (runUnderlying23 _) (sizeOf27 _) om (by rw [List.length_map]; omega)).as (v' := slAddr lv (k * 5)) rfl) fun a Y => wlv Y ((bt (U.arg hlv) (i := k) (by rw [List.length_map]; omega) rfl (isAgg27 _) (sizeOf27 _)).as (v' := .agg #[iv ((l.getD k Rec.z).t), iv ((l.getD k Rec.z).kind), iv ((l.getD k Rec.z).a), iv ((l.getD k Rec.z).b), sv ((l.getD k Rec.z).text)]) (by rw [br Rec.z]; rfl)) fun a Y => am Y U de call47 rfl (el (l.getD k Rec.z) _) ?_
  clear Y U
  intro a w5 Y U
  refine wlv Y (bn rfl) fun a Y => wlm Y rfl fun a Y => ?_
  rcases Bool.eq_false_or_eq_true (!((l.getD k Rec.z).ok)) with hb5 | hb5
  ·rw [hb5] at Y
   try simp only [qz] at hb5
   have hbad : bD 0 l = false := by rw [hs]; exact oP hkx (by simpa using hb5)
   refine wln Y fun a Y => wln Y fun a Y => wln Y fun a Y => ab ?_
   replace Y : Fr 52 [(1, pq w0.hz), (3, iv (k : Int)), (18, iv (k : Int)), (19, po w0.hz 1), (20, lv), (21, iv (l.length : Int)), (22, .bool true), (25, po w0.hz 1), (26, lv), (27, iv (k : Int)), (28, slAddr lv (k * 5)), (29, .agg #[iv ((l.getD k Rec.z).t), iv ((l.getD k Rec.z).kind), iv ((l.getD k Rec.z).a), iv ((l.getD k Rec.z).b), sv ((l.getD k Rec.z).text)]), (30, .bool ((l.getD k Rec.z).ok)), (31, .bool true), (32, .bool true), (33, undef), (34, undef), (35, undef)] [] a := Y.pick [1, 3, 18, 19, 20, 21, 22, 25, 26, 27, 28, 29, 30, 31, 32, 33, 34, 35]
   refine iL (k := 11) 24 [16, 23] Y kr kr kr rfx fun a Y => ?_
   replace Y : Fr 52 [(36, undef), (37, undef), (38, undef), (39, undef), (40, undef), (41, undef), (42, undef), (43, undef), (44, undef), (45, undef), (46, undef), (47, undef), (48, undef), (1, pq w0.hz), (3, iv (k : Int)), (18, iv (k : Int)), (19, po w0.hz 1), (20, lv), (21, iv (l.length : Int)), (22, .bool true), (25, po w0.hz 1), (26, lv), (27, iv (k : Int)), (28, slAddr lv (k * 5)), (29, .agg #[iv ((l.getD k Rec.z).t), iv ((l.getD k Rec.z).kind), iv ((l.getD k Rec.z).a), iv ((l.getD k Rec.z).b), sv ((l.getD k Rec.z).text)]), (30, .bool ((l.getD k Rec.z).ok)), (31, .bool true), (32, .bool true), (33, undef), (34, undef), (35, undef)] [] a := Y
   refine aQ (k := 24) 27 [26] kr kr kr ?_
   refine wl_vu Y de rfl de rfl fun a Y => wln Y fun a Y => wlv Y (aB rfl rfl) fun a Y => ab <| bd kr ?_
   refine hK12 _ _ ?_
   replace Y := Y.p3 1 3 51 rfl
   refine aD Y rfl ?_
   refine aa fun K13 hK13 => wla Y rfl fun a Y => ab (hK13 _ _ <| au ?_)
   refine ar Y results17 (ae rfl ah) ?_
   refine ⟨?_, U.ext⟩
   simp only [retv]
   refine congrArg Value.bool ?_
   unfold logOk; rw [hbad]; rfl
  rw [hb5] at Y
  try simp only [qz] at hb5
  have hok : (l.getD k Rec.z).ok = true := by simpa using hb5
  have ht0 := Rec.t0 hok
  refine wly Y (ai rfl) fun a Y => wly Y (v_gt rfl rfl) fun a Y => wly Y (ai rfl) fun a Y => ab ?_
  rcases Bool.eq_false_or_eq_true (decide (0 < (k : Int))) with hb6 | hb6
  ·rw [hb6] at Y
   try simp only [qz] at hb6
   have hpv := mN (l := l) (k := k) om
   refine aS (k := 11) 24 [16, 23] Y kr kr kr rfx ?_
   replace Y := Y.p18 1 3 18 19 20 21 22 25 26 27 28 29 30 31 32 33 34 35 rfl
   refine aA [] (fun i => match i with | _ => fun _ _ => False) 13 [[], [0], [], [1, 2], [3], [4], [], [6], [], [8], [7, 9], [10], [11]] [po w0.hz 1, lv, iv (k : Int), slAddr lv (k * 5), slAddr lv (k * 5 + 0), iv ((l.getD k Rec.z).t), po w0.hz 1, lv, iv (k : Int), iv ((k : Int) - 1), slAddr lv ((k - 1) * 5), slAddr lv ((k - 1) * 5 + 0), iv ((l.getD (k - 1) Rec.z).t)] Y U kr kr kr ?_ ?_ ?_
   ·intro i hi hiq
    match i, hi, hiq with
    | 0, _, _ => exact fun w U => OpV.g (al (v := po w0.hz 1) rfl kr)
    | 1, _, _ => exact fun w U => OpV.g (ld U 0 rfl rfl (isAgg23 _) rfl)
    | 2, _, _ => exact fun w U => OpV.g (ai rfl)
    | 3, _, _ => exact fun w U => OpV.g ((ak (i := (k : Int)) (sT := 23) (U.arg hlv) rfl rfl (runUnderlying23 _) (sizeOf27 _) om (by rw [List.length_map]; omega)).as (v' := slAddr lv (k * 5)) rfl)
    | 4, _, _ => exact fun w U => OpV.g (bC (k := k * 5) (j := 0) (U.arg hlv) (i := k) (by rw [List.length_map]; omega) rfl (fun _ _ => by kernel_rfl))
    | 5, _, _ => exact fun w U => OpV.g (ax (u := iv ((l.getD k Rec.z).t)) (i := k) (j := 0) (U.arg hlv) (by rw [List.length_map]; omega) rfl (isAgg3 _) (by rw [br Rec.z]; rfl))
    | 6, _, _ => exact fun w U => OpV.g (al (v := po w0.hz 1) rfl kr)
    | 7, _, _ => exact fun w U => OpV.g (ld U 0 rfl rfl (isAgg23 _) rfl)
    | 8, _, _ => exact fun w U => OpV.g (ai rfl)
    | 9, _, _ => exact fun w U => OpV.g (bq rfl rfl ⟨om, om⟩)
    | 10, _, _ => exact fun w U => OpV.g ((ak (i := (k : Int) - 1) (sT := 23) (U.arg hlv) rfl rfl (runUnderlying23 _) (sizeOf27 _) om (by rw [List.length_map]; omega)).as (v' := slAddr lv ((k - 1) * 5)) (by rw [show ((k : Int) - 1).toNat = (k - 1) from by omega]))
    | 11, _, _ => exact fun w U => OpV.g (bC (k := (k - 1) * 5) (j := 0) (U.arg hlv) (i := (k - 1)) (by rw [List.length_map]; omega) rfl (fun _ _ => by kernel_rfl))
    | 12, _, _ => exact fun w U => OpV.g (ax (u := iv ((l.getD (k - 1) Rec.z).t)) (i := (k - 1)) (j := 0) (U.arg hlv) (by rw [List.length_map]; omega) rfl (isAgg3 _) (by rw [br Rec.z]; rfl))
    | i + 13, h, _ => exact absurd h om
   ·intro i hi
    exact absurd hi sm
   clear Y U
   intro  a w6 Y U
   replace Y : Fr 52 [(36, po w0.hz 1), (37, lv), (38, iv (k : Int)), (39, slAddr lv (k * 5)), (40, slAddr lv (k * 5 + 0)), (41, iv ((l.getD k Rec.z).t)), (42, po w0.hz 1), (43, lv), (44, iv (k : Int)), (45, iv ((k : Int) - 1)), (46, slAddr lv ((k - 1) * 5)), (47, slAddr lv ((k - 1) * 5 + 0)), (48, iv ((l.getD (k - 1) Rec.z).t)), (1, _), (3, _), (18, _), (19, _), (20, _), (21, _), (22, _), (25, _), (26, _), (27, _), (28, _), (29, _), (30, _), (31, _), (32, _), (33, _), (34, _), (35, _)] [] a := Y
   refine ab <| aQ (k := 24) 27 [26] kr kr kr ?_
   refine wly Y (v_lt rfl rfl) fun a Y => wly Y (aB rfl rfl) fun a Y => wlv Y (aw rfl rfl) fun a Y => ab <| bd kr ?_
   refine hK12 _ _ ?_
   replace Y := Y.p3 1 3 51 rfl
   refine az Y rfl (fun hc7 => ?_) (fun hc7 => ?_)
   ·rw [hc7] at Y
    try simp only [qz] at hc7
    have hbad : bD 0 l = false := by rw [hs]; exact oT hkx (by rw [hpv]; exact hc7)
    refine aa fun K14 hK14 => wla Y rfl fun a Y => ab (hK14 _ _ <| au ?_)
    refine ar Y results17 (ae rfl ah) ?_
    refine ⟨?_, U.ext⟩
    simp only [retv]
    refine congrArg Value.bool ?_
    unfold logOk; rw [hbad]; rfl
   rw [hc7] at Y
   try simp only [qz] at hc7
   have hgo : prevT l k ≤ (l.getD k Rec.z).t := by rw [hpv]; omega
   refine aq <| hK11 _ _ <| ao <| wlm Y rfl fun a Y => wlv Y (aM rfl rfl ⟨om, om⟩) fun a Y => wla Y rfl fun a Y => ab ?_
   refine ⟨_, ?_, k + 1, rfl, om, (by rw [hs]; exact mo hkx hok hgo), Y.pick [1, 3], U.select [0] de⟩
   omega
  rw [hb6] at Y
  try simp only [qz] at hb6
  have hgo : prevT l k ≤ (l.getD k Rec.z).t := by
   have h0 : k = 0 := by omega
   rw [h0] at ht0 ⊢; exact ht0
  replace Y : Fr 52 [(1, pq w0.hz), (3, iv (k : Int)), (18, iv (k : Int)), (19, po w0.hz 1), (20, lv), (21, iv (l.length : Int)), (22, .bool true), (25, po w0.hz 1), (26, lv), (27, iv (k : Int)), (28, slAddr lv (k * 5)), (29, .agg #[iv ((l.getD k Rec.z).t), iv ((l.getD k Rec.z).kind), iv ((l.getD k Rec.z).a), iv ((l.getD k Rec.z).b), sv ((l.getD k Rec.z).text)]), (30, .bool ((l.getD k Rec.z).ok)), (31, .bool false), (32, .bool false), (33, iv (k : Int)), (34, .bool false), (35, .bool false)] [] a := Y.pick [1, 3, 18, 19, 20, 21, 22, 25, 26, 27, 28, 29, 30, 31, 32, 33, 34, 35]
  refine iL (k := 11) 24 [16, 23] Y kr kr kr rfx fun a Y => ?_
  replace Y : Fr 52 [(36, undef), (37, undef), (38, undef), (39, undef), (40, undef), (41, undef), (42, undef), (43, undef), (44, undef), (45, undef), (46, undef), (47, undef), (48, undef), (1, pq w0.hz), (3, iv (k : Int)), (18, iv (k : Int)), (19, po w0.hz 1), (20, lv), (21, iv (l.length : Int)), (22, .bool true), (25, po w0.hz 1), (26, lv), (27, iv (k : Int)), (28, slAddr lv (k * 5)), (29, .agg #[iv ((l.getD k Rec.z).t), iv ((l.getD k Rec.z).kind), iv ((l.getD k Rec.z).a), iv ((l.getD k Rec.z).b), sv ((l.getD k Rec.z).text)]), (30, .bool ((l.getD k Rec.z).ok)), (31, .bool false), (32, .bool false), (33, iv (k : Int)), (34, .bool false), (35, .bool false)] [] a := Y
  refine aQ (k := 24) 27 [26] kr kr kr ?_
  refine wln Y fun a Y => wly Y (aw rfl rfl) fun a Y => wlv Y (aw rfl rfl) fun a Y => ab <| bd kr ?_
  refine hK12 _ _ ?_
  replace Y := Y.p3 1 3 51 rfl
  refine aE Y rfl ?_
  refine aq <| hK11 _ _ <| ao <| wlm Y rfl fun a Y => wlv Y (aM rfl rfl ⟨om, om⟩) fun a Y => wla Y rfl fun a Y => ab ?_
  refine ⟨_, ?_, k + 1, rfl, om, (by rw [hs]; exact mo hkx hok hgo), Y.pick [1, 3], U.select [0] de⟩
  omega
 rw [hc4] at Y
 try simp only [qz] at hc4
 have hall : bD 0 l = true := by rw [hs, show k = l.length by omega, List.drop_length]; rfl
 refine aL <| hK7 _ _ <| aa fun K15 hK15 => wla Y rfl fun a Y => ab (hK15 _ _ ?_)
 replace Y := Y.p1 2 rfl
 replace U : St No w0 [] w2 := U.mask [false]
 refine au ?_
 refine ar Y results17 (ae rfl ah) ?_
 refine ⟨?_, U.ext⟩
 simp only [retv]
 refine congrArg Value.bool ?_
 rw [eq_comm]; simp only [logOk, inB, Bool.and_eq_true, decide_eq_true_eq]; exact ⟨⟨hall, by omega, by omega⟩, by omega⟩
theorem nV (x : Rec) (w0 : World) (hok : x.ok = true) :
  Ret Tryd.prog 23 #[.agg #[iv x.t, iv x.kind, iv x.a, iv x.b, sv x.text]] w0 fun v w => v = .tuple #[sv x.enc, iv 0] ∧ Ext No w0 w := by
 have hsm := Rec.smalls hok
 have hs0 : small x.t := hsm _ sm
 have hs1 : small x.kind := hsm _ sm
 have hs2 : small x.a := hsm _ sm
 have hs3 : small x.b := hsm _ sm
 have hle := Rec.len hok
 have hq0 := bE x.t
 have hq1 := bE x.kind
 have hq2 := bE x.a
 have hq3 := bE x.b
 have hq4 := bE (x.text.length : Int)
 have hq5 : (putS x.text).length ≤ 300 := by unfold putS; rw [List.length_append]; omega
 refine aI func23 rfl ntmps23 (lb rfl) fun a Y => ?_
 replace Y := Y.p1 0 rfl
 replace U : St No w0 [] w0 := St.init w0
 refine aa fun K1 hK1 => bh Y U de rfl (cs := [iv x.t, iv x.kind, iv x.a, iv x.b, sv x.text]) rfl ?_
 clear Y U
 intro a w1 Y U
 refine wla Y rfl fun a Y => wla Y rfl fun a Y => ab (hK1 _ _ <| ac fun K2 hK2 => ?_)
 refine aa fun K3 hK3 => wlv Y (aj (U.g 0 rfl) rfl (isAgg27 _) (sizeOf27 _)) fun a Y => am Y U de call47 rfl (el x _) ?_
 clear Y U
 intro a w2 Y U
 refine wlv Y (bn rfl) fun a Y => ab (hK3 _ _ ?_)
 refine az Y rfl (fun hc1 => ?_) (fun hc1 => ?_)
 ·rw [hc1] at Y
  try simp only [qz] at hc1
  simp [hok] at hc1
 rw [hc1] at Y
 try simp only [qz] at hc1
 refine aq <| hK2 _ _ <| aa fun K4 hK4 => wla Y rfl fun a Y => ab (hK4 _ _ <| ac fun K5 hK5 => ?_)
 refine aa fun K6 hK6 => wlv Y (al (v := pq w0.hz) rfl kr) fun a Y => wlv Y (ld U 0 rfl rfl (isAgg3 _) rfl) fun a Y => wlv Y (al (v := po w0.hz 1) rfl kr) fun a Y => wlv Y (ld U 0 rfl rfl (isAgg3 _) rfl) fun a Y => wlv Y (al (v := po w0.hz 2) rfl kr) fun a Y => wlv Y (ld U 0 rfl rfl (isAgg3 _) rfl) fun a Y => wlv Y (al (v := po w0.hz 3) rfl kr) fun a Y => wlv Y (ld U 0 rfl rfl (isAgg3 _) rfl) fun a Y => aG (E := 3) (sz := 1) rfl [[iv x.t], [iv x.kind], [iv x.a], [iv x.b]] kr sm rfl de de Y U ?_
 clear Y U
 intro a w3 Y U
 refine wlv Y ((aK (sT := 41) (U.ow 0 rfl) rfl rfl (runUnderlying41 _)).asi (m' := 4) rfx) fun a Y => wlm Y rfl fun a Y => ab (hK6 _ _ ?_)
 replace Y := Y.p7 1 2 3 4 22 23 24 rfl
 refine ap <| cb 6 ?_
 refine ba ?_
 refine aa fun K7 hK7 => wlv Y ((v_lt rfl rfl).asb (b' := true) rfl) fun a Y => ab (hK7 _ _ <| ac fun K8 hK8 => ?_)
 refine aD Y rfl ?_
 refine aq <| hK8 _ _ <| ac fun K9 hK9 => ap <| aa fun K10 hK10 => wlv Y ((ak (i := 0) (sT := 41) (U.ow 0 rfl) rfl rfl (runUnderlying41 _) (sizeOf3 _) om sm).as (v' := slAddr (.slice (some ⟨w2.hz, 0, none⟩) 4 4) (0 * 1)) rfl) fun a Y => wlv Y (ax (u := iv x.t) (i := 0) (j := 0) (U.ow 0 rfl) sm rfl (isAgg3 _) rfx) fun a Y => wla Y rfl fun a Y => ab (hK10 _ _ <| aa fun K11 hK11 => ?_)
 refine wlm Y rfl fun a Y => am Y U de call53 rfl (cy x.t _ (by assumption)) ?_
 clear Y U
 intro a w4 Y U
 refine wlm Y rfl fun a Y => wlv Y (ag rfl rfl) fun a Y => wlv Y (ag rfl rfl) fun a Y => wla Y rfl fun a Y => wla Y rfl fun a Y => ab (hK11 _ _ ?_)
 replace Y := Y.p8 1 2 3 4 22 23 24 7 rfl
 refine ao <| wlm Y rfl fun a Y => wlm Y rfl fun a Y => wlv Y (cZ rfl rfl (by first | omega | (simp only [List.length_append, List.length_nil]; omega))) fun a Y => wla Y rfl fun a Y => ab <| hK9 _ _ <| ao <| wlv Y ((aM rfl rfl de).asi (m' := 1) rfl) fun a Y => wlm Y rfl fun a Y => ab <| ba ?_
 refine aa fun K12 hK12 => wlv Y ((v_lt rfl rfl).asb (b' := true) rfl) fun a Y => ab (hK12 _ _ <| ac fun K13 hK13 => ?_)
 refine aD Y rfl ?_
 refine aq <| hK13 _ _ <| ac fun K14 hK14 => ap <| aa fun K15 hK15 => wlv Y ((ak (i := 1) (sT := 41) (U.ow 0 rfl) rfl rfl (runUnderlying41 _) (sizeOf3 _) om sm).as (v' := slAddr (.slice (some ⟨w2.hz, 0, none⟩) 4 4) (1 * 1)) rfl) fun a Y => wlv Y (ax (u := iv x.kind) (i := 1) (j := 0) (U.ow 0 rfl) sm rfl (isAgg3 _) rfx) fun a Y => wla Y rfl fun a Y => ab (hK15 _ _ ?_)
 replace Y := Y.p8 1 2 3 22 23 4 24 6 rfl
 refine aa fun K16 hK16 => wlm Y rfl fun a Y => am Y U de call53 rfl (cy x.kind _ (by assumption)) ?_
 clear Y U
 intro a w5 Y U
 refine wlm Y rfl fun a Y => wlv Y (ag rfl rfl) fun a Y => wlv Y (ag rfl rfl) fun a Y => wla Y rfl fun a Y => wla Y rfl fun a Y => ab (hK16 _ _ ?_)
 replace Y := Y.p8 1 2 3 22 23 4 24 7 rfl
 refine ao <| wlm Y rfl fun a Y => wlm Y rfl fun a Y => wlv Y (cZ rfl rfl (by first | omega | (simp only [List.length_append, List.length_nil]; omega))) fun a Y => wla Y rfl fun a Y => ab <| hK14 _ _ <| ao <| wlv Y ((aM rfl rfl de).asi (m' := 2) rfl) fun a Y => wlm Y rfl fun a Y => ab <| ba ?_
 refine aa fun K17 hK17 => wlv Y ((v_lt rfl rfl).asb (b' := true) rfl) fun a Y => ab (hK17 _ _ <| ac fun K18 hK18 => ?_)
 refine aD Y rfl ?_
 refine aq <| hK18 _ _ <| ac fun K19 hK19 => ap <| aa fun K20 hK20 => wlv Y ((ak (i := 2) (sT := 41) (U.ow 0 rfl) rfl rfl (runUnderlying41 _) (sizeOf3 _) om sm).as (v' := slAddr (.slice (some ⟨w2.hz, 0, none⟩) 4 4) (2 * 1)) rfl) fun a Y => wlv Y (ax (u := iv x.a) (i := 2) (j := 0) (U.ow 0 rfl) sm rfl (isAgg3 _) rfx) fun a Y => wla Y rfl fun a Y => ab (hK20 _ _ ?_)
 replace Y := Y.p8 1 2 3 22 23 4 24 6 rfl
 refine aa fun K21 hK21 => wlm Y rfl fun a Y => am Y U de call53 rfl (cy x.a _ (by assumption)) ?_
 clear Y U
 intro a w6 Y U
 refine wlm Y rfl fun a Y => wlv Y (ag rfl rfl) fun a Y => wlv Y (ag rfl rfl) fun a Y => wla Y rfl fun a Y => wla Y rfl fun a Y => ab (hK21 _ _ ?_)
 replace Y := Y.p8 1 2 3 22 23 4 24 7 rfl
 refine ao <| wlm Y rfl fun a Y => wlm Y rfl fun a Y => wlv Y (cZ rfl rfl (by first | omega | (simp only [List.length_append, List.length_nil]; omega))) fun a Y => wla Y rfl fun a Y => ab <| hK19 _ _ <| ao <| wlv Y ((aM rfl rfl de).asi (m' := 3) rfl) fun a Y => wlm Y rfl fun a Y => ab <| ba ?_
 refine aa fun K22 hK22 => wlv Y ((v_lt rfl rfl).asb (b' := true) rfl) fun a Y => ab (hK22 _ _ <| ac fun K23 hK23 => ?_)
 refine aD Y rfl ?_
 refine aq <| hK23 _ _ <| ac fun K24 hK24 => ap <| aa fun K25 hK25 => wlv Y ((ak (i := 3) (sT := 41) (U.ow 0 rfl) rfl rfl (runUnderlying41 _) (sizeOf3 _) om sm).as (v' := slAddr (.slice (some ⟨w2.hz, 0, none⟩) 4 4) (3 * 1)) rfl) fun a Y => wlv Y (ax (u := iv x.b) (i := 3) (j := 0) (U.ow 0 rfl) sm rfl (isAgg3 _) rfx) fun a Y => wla Y rfl fun a Y => ab (hK25 _ _ ?_)
 replace Y := Y.p8 1 2 3 22 23 4 24 6 rfl
 refine aa fun K26 hK26 => wlm Y rfl fun a Y => am Y U de call53 rfl (cy x.b _ (by assumption)) ?_
 clear Y U
 intro a w7 Y U
 refine wlm Y rfl fun a Y => wlv Y (ag rfl rfl) fun a Y => wlv Y (ag rfl rfl) fun a Y => wla Y rfl fun a Y => wla Y rfl fun a Y => ab (hK26 _ _ ?_)
 replace Y := Y.p8 1 2 3 22 23 4 24 7 rfl
 refine ao <| wlm Y rfl fun a Y => wlm Y rfl fun a Y => wlv Y (cZ rfl rfl (by first | omega | (simp only [List.length_append, List.length_nil]; omega))) fun a Y => wla Y rfl fun a Y => ab <| hK24 _ _ <| ao <| wlv Y ((aM rfl rfl de).asi (m' := 4) rfl) fun a Y => wlm Y rfl fun a Y => ab <| ba ?_
 refine aa fun K27 hK27 => wlv Y ((v_lt rfl rfl).asb (b' := false) rfl) fun a Y => ab (hK27 _ _ <| ac fun K28 hK28 => ?_)
 refine aE Y rfl ?_
 refine aL <| hK5 _ _ <| aa fun K29 hK29 => wlv Y (al (v := po w0.hz 4) rfl kr) fun a Y => wlv Y (ld U 1 rfl rfl (isAgg9 _) rfl) fun a Y => am Y U de call54 rfl (gR x.text _ om) ?_
 clear Y U
 intro a w8 Y U
 refine wlm Y rfl fun a Y => wlv Y (ag rfl rfl) fun a Y => wlv Y (ag rfl rfl) fun a Y => wla Y rfl fun a Y => wla Y rfl fun a Y => ab (hK29 _ _ ?_)
 replace Y := Y.p4 2 3 4 9 rfl
 replace U : St No w0 [] w8 := U.mask [false, false]
 refine aa fun K30 hK30 => wlm Y rfl fun a Y => wlm Y rfl fun a Y => wlv Y (cZ rfl rfl (by first | omega | (simp only [List.length_append, List.length_nil]; omega))) fun a Y => wla Y rfl fun a Y => wla Y rfl fun a Y => ab (hK30 _ _ <| au ?_)
 refine ar Y results23 (ae rfl (ae rfl ah)) ?_
 exact ⟨by simp only [retv]; simp [Rec.enc, puts], U.ext⟩
theorem mf (x : Rec) (w0 : World) (hok : x.ok = false) :
  Ret Tryd.prog 23 #[.agg #[iv x.t, iv x.kind, iv x.a, iv x.b, sv x.text]] w0 fun v w => v = .tuple #[sv ([] : By), iv 110] ∧ Ext No w0 w := by
 refine aI func23 rfl ntmps23 (lb rfl) fun a Y => ?_
 replace Y := Y.p1 0 rfl
 replace U : St No w0 [] w0 := St.init w0
 refine aa fun K1 hK1 => bh Y U de rfl (cs := [iv x.t, iv x.kind, iv x.a, iv x.b, sv x.text]) rfl ?_
 clear Y U
 intro a w1 Y U
 refine wla Y rfl fun a Y => wla Y rfl fun a Y => ab (hK1 _ _ <| ac fun K2 hK2 => ?_)
 refine aa fun K3 hK3 => wlv Y (aj (U.g 0 rfl) rfl (isAgg27 _) (sizeOf27 _)) fun a Y => am Y U de call47 rfl (el x _) ?_
 clear Y U
 intro a w2 Y U
 refine wlv Y (bn rfl) fun a Y => ab (hK3 _ _ ?_)
 refine az Y rfl (fun hc1 => ?_) (fun hc1 => ?_)
 ·rw [hc1] at Y
  try simp only [qz] at hc1
  refine aa fun K4 hK4 => wla Y rfl fun a Y => wla Y rfl fun a Y => ab (hK4 _ _ <| au ?_)
  refine ar Y results23 (ae rfl (ae rfl ah)) ?_
  exact ⟨by rfl, U.ext⟩
 rw [hc1] at Y
 try simp only [qz] at hc1
 simp [hok] at hc1
theorem eX (x : Rec) (w0 : World) : Ret Tryd.prog 23 #[.agg #[iv x.t, iv x.kind, iv x.a, iv x.b, sv x.text]] w0 fun v w => v = .tuple #[sv (eB x), iv (eE x)] ∧ Ext No w0 w := by
 unfold eB eE
 cases h : x.ok with
 | true => rw [if_pos rfl, if_pos rfl]; exact nV x w0 h
 | false => rw [if_neg sm, if_neg sm]; exact mf x w0 h
end Go.Proofs.YtddfkkdanpmnaaaDoor
namespace Go.Proofs.YtddfkkdanpmnaaaDoor
open Go.RowKit Go.PW _root_.Go.Proofs.Tryd
def addO (o : Int) (l : List Rec) (x : Rec) : Int := if addOk o l x = true then o else 0
def addL (o : Int) (l : List Rec) (x : Rec) : List Rec := if addOk o l x = true then l ++ [x] else []
def addE (o : Int) (l : List Rec) (x : Rec) : Int := if addOk o l x = true then 0 else 110
theorem eq {o : Int} {l : List Rec} {x : Rec} (h : addOk o l x = true) : logOk o l = true ∧ logOk o (l ++ [x]) = true := by
 unfold addOk at h; simpa using h
theorem my (av bv : Value) (xs ys : List Rec) (w0 : World) (hav : SlAt w0 av 5 (xs.map Rec.cells)) (hbv : SlAt w0 bv 5 (ys.map Rec.cells)) :
  Ret Tryd.prog 26 #[av, bv] w0 fun v w => v = .bool (decide (xs = ys)) ∧ Ext No w0 w := by
 have hxb := hav.2.1
 have hyb := hbv.2.1
 simp only [List.length_map, big] at hxb hyb
 refine aI func26 rfl ntmps26 (lb rfl) fun a Y => ?_
 replace Y := Y.p2 0 1 rfl
 replace U : St No w0 [] w0 := St.init w0
 refine aa fun K1 hK1 => wla Y rfl fun a Y => ab (hK1 _ _ <| ac fun K2 hK2 => ?_)
 refine aa fun K3 hK3 => wlm Y rfl fun a Y => wlv Y ((aK (sT := 23) (U.arg hav) rfl rfl (runUnderlying23 _)).asi (m' := (xs.length : Int)) (by rw [List.length_map])) fun a Y => wlm Y rfl fun a Y => wlv Y ((aK (sT := 23) (U.arg hbv) rfl rfl (runUnderlying23 _)).asi (m' := (ys.length : Int)) (by rw [List.length_map])) fun a Y => wlv Y (v_ne rfl rfl) fun a Y => ab (hK3 _ _ ?_)
 refine az Y rfl (fun hc1 => ?_) (fun hc1 => ?_)
 ·rw [hc1] at Y
  try simp only [qz] at hc1
  refine aa fun K4 hK4 => wla Y rfl fun a Y => ab (hK4 _ _ <| au ?_)
  refine ar Y results26 (ae rfl ah) ?_
  exact ⟨by simp only [retv]; congr 1; refine (decide_eq_false fun h => ?_).symm; subst h; simp at hc1, U.ext⟩
 rw [hc1] at Y
 try simp only [qz] at hc1
 have hlen : xs.length = ys.length := by omega
 refine aq <| hK2 _ _ <| ac fun K5 hK5 => aa fun K6 hK6 => wla Y rfl fun a Y => ab (hK6 _ _ <| ap ?_)
 refine aV (fun m a w => ∃ (k : Nat), m = xs.length - k ∧ (k ≤ xs.length) ∧ (∀ j, j < k → xs.getD j Rec.z = ys.getD j Rec.z) ∧ Fr 26 [(0, av), (1, bv), (5, iv (k : Int))] [] a ∧ St No w0 [] w) _ ⟨0, rfl, Nat.zero_le _, (fun j h => absurd h (Nat.not_lt_zero _)), Y.pick [0, 1, 5], U.select [] de⟩ ?_
 rintro _ a w1 ⟨k, rfl, hk, hsame, Y, U⟩
 refine ac fun K7 hK7 => aa fun K8 hK8 => wlm Y rfl fun a Y => wlm Y rfl fun a Y => wlv Y ((aK (sT := 23) (U.arg hav) rfl rfl (runUnderlying23 _)).asi (m' := (xs.length : Int)) (by rw [List.length_map])) fun a Y => wlv Y (v_lt rfl rfl) fun a Y => ab (hK8 _ _ ?_)
 refine az Y rfl (fun hc2 => ?_) (fun hc2 => ?_)
 ·rw [hc2] at Y
  try simp only [qz] at hc2
  have hkx : k < xs.length := by omega
  have hky : k < ys.length := by omega
  refine aq <| hK7 _ _ <| ac fun K9 hK9 => ap <| ac fun K10 hK10 => aO kr (aP kr fun w2 hxz => ?_)
  replace U := U.grow hxz
  refine aS (k := 0) 8 [3, 7] Y kr kr kr rfx ?_
  replace Y := Y.p7 0 1 5 11 12 13 14 rfl
  refine aA [] (fun i => match i with | _ => fun _ _ => False) 8 [[], [], [0, 1], [2], [], [], [4, 5], [6]] [av, iv (k : Int), slAddr av (k * 5), .agg #[iv ((xs.getD k Rec.z).t), iv ((xs.getD k Rec.z).kind), iv ((xs.getD k Rec.z).a), iv ((xs.getD k Rec.z).b), sv ((xs.getD k Rec.z).text)], bv, iv (k : Int), slAddr bv (k * 5), .agg #[iv ((ys.getD k Rec.z).t), iv ((ys.getD k Rec.z).kind), iv ((ys.getD k Rec.z).a), iv ((ys.getD k Rec.z).b), sv ((ys.getD k Rec.z).text)]] Y U kr kr kr ?_ ?_ ?_
  ·intro i hi hiq
   match i, hi, hiq with
   | 0, _, _ => exact fun w U => OpV.g (ai rfl)
   | 1, _, _ => exact fun w U => OpV.g (ai rfl)
   | 2, _, _ => exact fun w U => OpV.g ((ak (i := (k : Int)) (sT := 23) (U.arg hav) rfl rfl (runUnderlying23 _) (sizeOf27 _) om (by rw [List.length_map]; exact hkx)).as (v' := slAddr av (k * 5)) rfl)
   | 3, _, _ => exact fun w U => OpV.g ((bt (U.arg hav) (i := k) (by rw [List.length_map]; exact hkx) rfl (isAgg27 _) (sizeOf27 _)).as (v' := .agg #[iv ((xs.getD k Rec.z).t), iv ((xs.getD k Rec.z).kind), iv ((xs.getD k Rec.z).a), iv ((xs.getD k Rec.z).b), sv ((xs.getD k Rec.z).text)]) (by rw [br Rec.z]; rfl))
   | 4, _, _ => exact fun w U => OpV.g (ai rfl)
   | 5, _, _ => exact fun w U => OpV.g (ai rfl)
   | 6, _, _ => exact fun w U => OpV.g ((ak (i := (k : Int)) (sT := 23) (U.arg hbv) rfl rfl (runUnderlying23 _) (sizeOf27 _) om (by rw [List.length_map]; exact hky)).as (v' := slAddr bv (k * 5)) rfl)
   | 7, _, _ => exact fun w U => OpV.g ((bt (U.arg hbv) (i := k) (by rw [List.length_map]; exact hky) rfl (isAgg27 _) (sizeOf27 _)).as (v' := .agg #[iv ((ys.getD k Rec.z).t), iv ((ys.getD k Rec.z).kind), iv ((ys.getD k Rec.z).a), iv ((ys.getD k Rec.z).b), sv ((ys.getD k Rec.z).text)]) (by rw [br Rec.z]; rfl))
  ·intro i hi
   exact absurd hi sm
  clear Y U
  intro  a w3 Y U
  replace Y : Fr 26 [(17, av), (18, iv (k : Int)), (19, slAddr av (k * 5)), (20, .agg #[iv ((xs.getD k Rec.z).t), iv ((xs.getD k Rec.z).kind), iv ((xs.getD k Rec.z).a), iv ((xs.getD k Rec.z).b), sv ((xs.getD k Rec.z).text)]), (21, bv), (22, iv (k : Int)), (23, slAddr bv (k * 5)), (24, .agg #[iv ((ys.getD k Rec.z).t), iv ((ys.getD k Rec.z).kind), iv ((ys.getD k Rec.z).a), iv ((ys.getD k Rec.z).b), sv ((ys.getD k Rec.z).text)]), (0, _), (1, _), (5, _), (11, _), (12, _), (13, _), (14, _)] [] a := Y
  refine ab <| aQ (k := 8) 9 [8] kr kr kr ?_
  refine wlv Y ((cw rfl rfl kr (eqRec ((xs.getD k Rec.z).t) ((xs.getD k Rec.z).kind) ((xs.getD k Rec.z).a) ((xs.getD k Rec.z).b) ((xs.getD k Rec.z).text) ((ys.getD k Rec.z).t) ((ys.getD k Rec.z).kind) ((ys.getD k Rec.z).a) ((ys.getD k Rec.z).b) ((ys.getD k Rec.z).text) _)).asb (b' := !(decide ((xs.getD k Rec.z) = (ys.getD k Rec.z)))) rfx) fun a Y => ab <| bd kr ?_
  refine hK10 _ _ ?_
  replace Y := Y.p4 0 1 5 25 rfl
  refine az Y rfl (fun hc3 => ?_) (fun hc3 => ?_)
  ·rw [hc3] at Y
   try simp only [qz] at hc3
   refine aa fun K11 hK11 => wla Y rfl fun a Y => ab (hK11 _ _ <| au ?_)
   refine ar Y results26 (ae rfl ah) ?_
   exact ⟨by simp only [retv]; congr 1; exact (decide_eq_false (nN (d := Rec.z) (k := k) (by simpa using hc3))).symm, U.ext⟩
  rw [hc3] at Y
  try simp only [qz] at hc3
  refine aq <| hK9 _ _ <| ao <| wlm Y rfl fun a Y => wlv Y (aM rfl rfl ⟨om, om⟩) fun a Y => wla Y rfl fun a Y => ab ?_
  refine ⟨_, ?_, k + 1, rfl, om, (fun j h => by rcases Nat.lt_succ_iff_lt_or_eq.1 h with h | rfl; exact hsame j h; simpa using hc3), Y.pick [0, 1, 5], U.select [] de⟩
  omega
 rw [hc2] at Y
 try simp only [qz] at hc2
 refine aL <| hK5 _ _ <| aa fun K12 hK12 => wla Y rfl fun a Y => ab (hK12 _ _ ?_)
 replace Y := Y.p1 4 rfl
 refine au ?_
 refine ar Y results26 (ae rfl ah) ?_
 exact ⟨by simp only [retv]; congr 1; exact (decide_eq_true (mr hlen om hsame)).symm, U.ext⟩
theorem dD (o1 o2 : Int) (av bv : Value) (xs ys : List Rec) (w0 : World) (hav : SlAt w0 av 5 (xs.map Rec.cells)) (hbv : SlAt w0 bv 5 (ys.map Rec.cells)) :
  Ret Tryd.prog 18 #[.agg #[iv o1, av], .agg #[iv o2, bv]] w0 fun v w => v = .bool (decide (o1 = o2) && decide (xs = ys)) ∧ Ext No w0 w := by
 refine aI func18 rfl ntmps18 (lb rfl) fun a Y => ?_
 replace Y := Y.p2 0 1 rfl
 replace U : St No w0 [] w0 := St.init w0
 refine aa fun K1 hK1 => bh Y U de rfl (cs := [iv o1, av]) rfl ?_
 clear Y U
 intro a w1 Y U
 refine bh Y U de rfl (cs := [iv o2, bv]) rfl ?_
 clear Y U
 intro a w2 Y U
 refine wla Y rfl fun a Y => ab (hK1 _ _ <| aa fun K2 hK2 => ?_)
 refine wlv Y (al (v := pq w0.hz) rfl kr) fun a Y => wlv Y (ld U 1 rfl rfl (isAgg3 _) rfl) fun a Y => wlv Y (al (v := pq w1.hz) rfl kr) fun a Y => wlv Y (ld U 0 rfl rfl (isAgg3 _) rfl) fun a Y => wlv Y (v_eq rfl rfl) fun a Y => wlm Y rfl fun a Y => ?_
 rcases Bool.eq_false_or_eq_true (decide (o1 = o2)) with hb1 | hb1
 ·rw [hb1] at Y
  try simp only [qz] at hb1
  refine wly Y (al (v := po w0.hz 1) rfl kr) fun a Y => wly Y (ld U 1 rfl rfl (isAgg23 _) rfl) fun a Y => wly Y (al (v := po w1.hz 1) rfl kr) fun a Y => wly Y (ld U 0 rfl rfl (isAgg23 _) rfl) fun a Y => aR Y U de rfl de rfl call26 rfl (my av bv xs ys _ (U.arg hav) (U.arg hbv)) ?_
  clear Y U
  intro a w3 Y U
  refine wlv Y (aB rfl rfl) fun a Y => wla Y rfl fun a Y => ab (hK2 _ _ ?_)
  replace Y := Y.p1 4 rfl
  replace U : St No w0 [] w3 := U.mask [false, false]
  refine au ?_
  refine ar Y results18 (ae rfl ah) ?_
  exact ⟨by simp only [retv]; simp [hb1], U.ext⟩
 rw [hb1] at Y
 try simp only [qz] at hb1
 refine wln Y fun a Y => wln Y fun a Y => wln Y fun a Y => wln Y fun a Y => wln Y fun a Y => wlv Y (aw rfl rfl) fun a Y => wla Y rfl fun a Y => ab (hK2 _ _ ?_)
 replace Y := Y.p1 4 rfl
 replace U : St No w0 [] w2 := U.mask [false, false]
 refine au ?_
 refine ar Y results18 (ae rfl ah) ?_
 exact ⟨by simp only [retv]; simp [hb1], U.ext⟩
theorem cO (s : By) (w0 : World) (hsl : s.length ≤ 1000000) :
  Ret Tryd.prog 25 #[sv s] w0 fun v w => v = .tuple #[.agg (decX s).cells.toArray, iv (decE s)] ∧ Ext No w0 w := by
 refine aI func25 rfl ntmps25 (lb rfl) fun a Y => ?_
 replace Y := Y.p1 0 rfl
 replace U : St No w0 [] w0 := St.init w0
 refine aa fun K1 hK1 => aC Y U de (zeroValue27 _) (cs := [iv 0, iv 0, iv 0, iv 0, .string (⟨#[]⟩)]) rfl ?_
 clear Y U
 intro a w1 Y U
 refine wla Y rfl fun a Y => ab (hK1 _ _ <| aa fun K2 hK2 => ?_)
 refine aC Y U de (zeroValue37 _) (cs := [iv 0, iv 0, iv 0, iv 0]) rfl ?_
 clear Y U
 intro a w2 Y U
 refine ab (hK2 _ _ <| aa fun K3 hK3 => ?_)
 refine wla Y rfl fun a Y => ab (hK3 _ _ <| ac fun K4 hK4 => ?_)
 refine aa fun K5 hK5 => wla Y rfl fun a Y => ab (hK5 _ _ <| ap ?_)
 refine cb 6 ?_
 refine ba ?_
 refine ac fun K6 hK6 => aa fun K7 hK7 => wlm Y rfl fun a Y => wlv Y ((v_lt rfl rfl).asb (b' := true) rfl) fun a Y => ab (hK7 _ _ <| aD Y rfl ?_)
 refine aq <| hK6 _ _ <| ac fun K8 hK8 => ap <| aa fun K9 hK9 => wlm Y rfl fun a Y => wlm Y rfl fun a Y => ?_
 rcases Bool.eq_false_or_eq_true ((rdI s).isSome) with hb1 | hb1
 ·try simp only [qz] at hb1
  obtain ⟨⟨n1, r1⟩, hq1⟩ := Option.isSome_iff_exists.1 hb1
  have hd1 := iU.trans (du hq1)
  have hsf1 := (ch hq1).trans (List.suffix_refl s)
  refine am Y U de call60 rfl (dB sm (List.suffix_refl s) hsl hq1) ?_
  clear Y U
  intro a w3 Y U
  refine wlm Y rfl fun a Y => wlv Y (ag rfl rfl) fun a Y => wlv Y (ag rfl rfl) fun a Y => wlv Y (ag rfl rfl) fun a Y => wla Y rfl fun a Y => wla Y rfl fun a Y => wla Y rfl fun a Y => ab (hK9 _ _ ?_)
  replace Y := Y.p9 0 2 3 4 5 6 7 8 9 rfl
  refine ac fun K10 hK10 => aa fun K11 hK11 => wlm Y rfl fun a Y => wlv Y ((v_ne rfl rfl).asb (b' := false) rfl) fun a Y => ab (hK11 _ _ <| aE Y rfl ?_)
  refine aq <| hK10 _ _ <| aa fun K12 hK12 => wlm Y rfl fun a Y => wlm Y rfl fun a Y => wlv Y (aN (v := pq w1.hz) rfl rfl kr) fun a Y => ay 0 Y U rfl rfl rfl (sizeOf3 _) rfl (lb rfl) (ds := [iv n1, iv 0, iv 0, iv 0]) rfl rfl ?_
  clear Y U
  intro a w4 Y U
  refine ab (hK12 _ _ ?_)
  replace Y := Y.p6 0 2 3 4 6 8 rfl
  refine ao <| wlm Y rfl fun a Y => wla Y rfl fun a Y => ab <| hK8 _ _ <| ao <| wlm Y rfl fun a Y => wlv Y ((aM rfl rfl de).asi (m' := 1) rfl) fun a Y => wla Y rfl fun a Y => ab <| ba ?_
  refine ac fun K13 hK13 => aa fun K14 hK14 => wlm Y rfl fun a Y => wlv Y ((v_lt rfl rfl).asb (b' := true) rfl) fun a Y => ab (hK14 _ _ <| aD Y rfl ?_)
  refine aq <| hK13 _ _ <| ac fun K15 hK15 => ap <| aa fun K16 hK16 => wlm Y rfl fun a Y => wlm Y rfl fun a Y => ?_
  rcases Bool.eq_false_or_eq_true ((rdI r1).isSome) with hb2 | hb2
  ·try simp only [qz] at hb2
   obtain ⟨⟨n2, r2⟩, hq2⟩ := Option.isSome_iff_exists.1 hb2
   have hd2 := hd1.trans (du hq2)
   have hsf2 := (ch hq2).trans hsf1
   refine am Y U de call60 rfl (dB rfl hsf1 hsl hq2) ?_
   clear Y U
   intro a w5 Y U
   refine wlm Y rfl fun a Y => wlv Y (ag rfl rfl) fun a Y => wlv Y (ag rfl rfl) fun a Y => wlv Y (ag rfl rfl) fun a Y => wla Y rfl fun a Y => wla Y rfl fun a Y => wla Y rfl fun a Y => ab (hK16 _ _ ?_)
   replace Y := Y.p9 0 2 3 4 5 6 7 8 9 rfl
   refine ac fun K17 hK17 => aa fun K18 hK18 => wlm Y rfl fun a Y => wlv Y ((v_ne rfl rfl).asb (b' := false) rfl) fun a Y => ab (hK18 _ _ <| aE Y rfl ?_)
   refine aq <| hK17 _ _ <| aa fun K19 hK19 => wlm Y rfl fun a Y => wlm Y rfl fun a Y => wlv Y (aN (v := po w1.hz 1) rfl rfl kr) fun a Y => ay 0 Y U rfl rfl rfl (sizeOf3 _) rfl (lb rfl) (ds := [iv n1, iv n2, iv 0, iv 0]) rfl rfl ?_
   clear Y U
   intro a w6 Y U
   refine ab (hK19 _ _ ?_)
   replace Y := Y.p6 0 2 3 4 6 8 rfl
   refine ao <| wlm Y rfl fun a Y => wla Y rfl fun a Y => ab <| hK15 _ _ <| ao <| wlm Y rfl fun a Y => wlv Y ((aM rfl rfl de).asi (m' := 2) rfl) fun a Y => wla Y rfl fun a Y => ab <| ba ?_
   refine ac fun K20 hK20 => aa fun K21 hK21 => wlm Y rfl fun a Y => wlv Y ((v_lt rfl rfl).asb (b' := true) rfl) fun a Y => ab (hK21 _ _ <| aD Y rfl ?_)
   refine aq <| hK20 _ _ <| ac fun K22 hK22 => ap <| aa fun K23 hK23 => wlm Y rfl fun a Y => wlm Y rfl fun a Y => ?_
   rcases Bool.eq_false_or_eq_true ((rdI r2).isSome) with hb3 | hb3
   ·try simp only [qz] at hb3
    obtain ⟨⟨n3, r3⟩, hq3⟩ := Option.isSome_iff_exists.1 hb3
    have hd3 := hd2.trans (du hq3)
    have hsf3 := (ch hq3).trans hsf2
    refine am Y U de call60 rfl (dB rfl hsf2 hsl hq3) ?_
    clear Y U
    intro a w7 Y U
    refine wlm Y rfl fun a Y => wlv Y (ag rfl rfl) fun a Y => wlv Y (ag rfl rfl) fun a Y => wlv Y (ag rfl rfl) fun a Y => wla Y rfl fun a Y => wla Y rfl fun a Y => wla Y rfl fun a Y => ab (hK23 _ _ ?_)
    replace Y := Y.p9 0 2 3 4 5 6 7 8 9 rfl
    refine ac fun K24 hK24 => aa fun K25 hK25 => wlm Y rfl fun a Y => wlv Y ((v_ne rfl rfl).asb (b' := false) rfl) fun a Y => ab (hK25 _ _ <| aE Y rfl ?_)
    refine aq <| hK24 _ _ <| aa fun K26 hK26 => wlm Y rfl fun a Y => wlm Y rfl fun a Y => wlv Y (aN (v := po w1.hz 2) rfl rfl kr) fun a Y => ay 0 Y U rfl rfl rfl (sizeOf3 _) rfl (lb rfl) (ds := [iv n1, iv n2, iv n3, iv 0]) rfl rfl ?_
    clear Y U
    intro a w8 Y U
    refine ab (hK26 _ _ ?_)
    replace Y := Y.p6 0 2 3 4 6 8 rfl
    refine ao <| wlm Y rfl fun a Y => wla Y rfl fun a Y => ab <| hK22 _ _ <| ao <| wlm Y rfl fun a Y => wlv Y ((aM rfl rfl de).asi (m' := 3) rfl) fun a Y => wla Y rfl fun a Y => ab <| ba ?_
    refine ac fun K27 hK27 => aa fun K28 hK28 => wlm Y rfl fun a Y => wlv Y ((v_lt rfl rfl).asb (b' := true) rfl) fun a Y => ab (hK28 _ _ <| aD Y rfl ?_)
    refine aq <| hK27 _ _ <| ac fun K29 hK29 => ap <| aa fun K30 hK30 => wlm Y rfl fun a Y => wlm Y rfl fun a Y => ?_
    rcases Bool.eq_false_or_eq_true ((rdI r3).isSome) with hb4 | hb4
    ·try simp only [qz] at hb4
     obtain ⟨⟨n4, r4⟩, hq4⟩ := Option.isSome_iff_exists.1 hb4
     have hd4 := hd3.trans (du hq4)
     have hsf4 := (ch hq4).trans hsf3
     refine am Y U de call60 rfl (dB rfl hsf3 hsl hq4) ?_
     clear Y U
     intro a w9 Y U
     refine wlm Y rfl fun a Y => wlv Y (ag rfl rfl) fun a Y => wlv Y (ag rfl rfl) fun a Y => wlv Y (ag rfl rfl) fun a Y => wla Y rfl fun a Y => wla Y rfl fun a Y => wla Y rfl fun a Y => ab (hK30 _ _ ?_)
     replace Y := Y.p9 0 2 3 4 5 6 7 8 9 rfl
     refine ac fun K31 hK31 => aa fun K32 hK32 => wlm Y rfl fun a Y => wlv Y ((v_ne rfl rfl).asb (b' := false) rfl) fun a Y => ab (hK32 _ _ <| aE Y rfl ?_)
     refine aq <| hK31 _ _ <| aa fun K33 hK33 => wlm Y rfl fun a Y => wlm Y rfl fun a Y => wlv Y (aN (v := po w1.hz 3) rfl rfl kr) fun a Y => ay 0 Y U rfl rfl rfl (sizeOf3 _) rfl (lb rfl) (ds := [iv n1, iv n2, iv n3, iv n4]) rfl rfl ?_
     clear Y U
     intro a w10 Y U
     refine ab (hK33 _ _ ?_)
     replace Y := Y.p6 0 2 3 4 6 8 rfl
     refine ao <| wlm Y rfl fun a Y => wla Y rfl fun a Y => ab <| hK29 _ _ <| ao <| wlm Y rfl fun a Y => wlv Y ((aM rfl rfl de).asi (m' := 4) rfl) fun a Y => wla Y rfl fun a Y => ab <| ba ?_
     refine ac fun K34 hK34 => aa fun K35 hK35 => wlm Y rfl fun a Y => wlv Y ((v_lt rfl rfl).asb (b' := false) rfl) fun a Y => ab (hK35 _ _ <| aE Y rfl ?_)
     refine aL <| hK4 _ _ <| aa fun K36 hK36 => wlm Y rfl fun a Y => wlm Y rfl fun a Y => ?_
     rcases Bool.eq_false_or_eq_true ((rdS r4).isSome) with hb5 | hb5
     ·try simp only [qz] at hb5
      obtain ⟨⟨x9, r5⟩, hq5⟩ := Option.isSome_iff_exists.1 hb5
      have hd5 := hd4.trans (iY.trans (jl hq5))
      have hsf5 := (k9 hq5).trans hsf4
      refine am Y U de call61 rfl (ku s r4 x9 r5 _ _ rfl hsf4 hsl hq5) ?_
      clear Y U
      intro a w11 Y U
      refine wlm Y rfl fun a Y => wlv Y (ag rfl rfl) fun a Y => wlv Y (ag rfl rfl) fun a Y => wlv Y (ag rfl rfl) fun a Y => wla Y rfl fun a Y => wla Y rfl fun a Y => wla Y rfl fun a Y => ab (hK36 _ _ ?_)
      replace Y := Y.p7 0 2 3 4 10 11 12 rfl
      refine aa fun K37 hK37 => wlv Y (aN (v := pq w1.hz) rfl rfl kr) fun a Y => wlv Y (ld U 0 rfl rfl (isAgg3 _) rfl) fun a Y => wlv Y (aN (v := po w1.hz 1) rfl rfl kr) fun a Y => wlv Y (ld U 0 rfl rfl (isAgg3 _) rfl) fun a Y => wlv Y (aN (v := po w1.hz 2) rfl rfl kr) fun a Y => wlv Y (ld U 0 rfl rfl (isAgg3 _) rfl) fun a Y => wlv Y (aN (v := po w1.hz 3) rfl rfl kr) fun a Y => wlv Y (ld U 0 rfl rfl (isAgg3 _) rfl) fun a Y => wlm Y rfl fun a Y => wlv Y (aZ (v := .agg #[iv n1, iv n2, iv n3, iv n4, sv x9]) rfl kr) fun a Y => ?_
      refine aC Y U de (zeroValue27 _) (cs := [iv 0, iv 0, iv 0, iv 0, .string (⟨#[]⟩)]) rfl ?_
      clear Y U
      intro a w12 Y U
      refine ay 0 Y U rfl rfl rfl (sizeOf27 _) rfl (lb rfl) (ds := [iv n1, iv n2, iv n3, iv n4, sv x9]) rfl rfl ?_
      clear Y U
      intro a w13 Y U
      refine ab (hK37 _ _ ?_)
      replace Y := Y.p6 0 2 3 11 12 13 rfl
      replace U := U.k2 5 rfl
      refine ac fun K38 hK38 => aa fun K39 hK39 => wlm Y rfl fun a Y => wlv Y ((v_ne rfl rfl).asb (b' := false) rfl) fun a Y => wlm Y rfl fun a Y => wly Y (ai rfl) fun a Y => wly Y (ai rfl) fun a Y => wly Y (aW rfl rfl (runUnderlying9 _)) fun a Y => wly Y (v_ne rfl rfl) fun a Y => wlv Y (aw rfl rfl) fun a Y => wlm Y rfl fun a Y => ?_
      rcases Bool.eq_false_or_eq_true (!decide (((s.length - r5.length : Nat) : Int) = (s.length : Int))) with hb6 | hb6
      ·rw [hb6] at Y
       try simp only [qz] at hb6
       have hdn := hd5.trans (io (by intro h0; have h1 := congrArg List.length h0; rw [List.length_nil] at h1; omega))
       refine wln Y fun a Y => wln Y fun a Y => wln Y fun a Y => wlv Y (aB rfl rfl) fun a Y => ab (hK39 _ _ ?_)
       replace Y := Y.p4 2 3 13 61 rfl
       refine aD Y rfl ?_
       refine aa fun K40 hK40 => wlv Y (aZ (v := .agg #[iv 0, iv 0, iv 0, iv 0, .string (⟨#[]⟩)]) rfl kr) fun a Y => ay 1 Y U rfl rfl rfl (sizeOf27 _) rfl (lb rfl) (ds := [iv 0, iv 0, iv 0, iv 0, .string (⟨#[]⟩)]) rfl rfl ?_
       clear Y U
       intro a w14 Y U
       refine wla Y rfl fun a Y => ab (hK40 _ _ <| au ?_)
       refine ar Y results25 (aH rfl (bj (U.g 1 rfl) (isAgg27 _) (sizeOf27 _)) (ae rfl ah)) ?_
       exact ⟨by simp only [retv]; unfold decX decE; rw [hdn]; rfl, U.ext⟩
      rw [hb6] at Y
      try simp only [qz] at hb6
      have hqn : r5 = [] := List.eq_nil_of_length_eq_zero (by have := hsf5.length_le; omega)
      refine wly Y (aj (U.g 0 rfl) rfl (isAgg27 _) (sizeOf27 _)) fun a Y => aR Y U de rfl de rfl call47 rfl (el (⟨n1, n2, n3, n4, x9⟩ : Rec) _) ?_
      clear Y U
      intro a w15 Y U
      refine wly Y (bn rfl) fun a Y => wlv Y (aw rfl rfl) fun a Y => ab (hK39 _ _ ?_)
      replace Y := Y.p4 2 3 13 61 rfl
      refine az Y rfl (fun hc7 => ?_) (fun hc7 => ?_)
      ·rw [hc7] at Y
       try simp only [qz] at hc7
       have hdn := hd5.trans (g6 (by exact hc7))
       refine aa fun K41 hK41 => wlv Y (aZ (v := .agg #[iv 0, iv 0, iv 0, iv 0, .string (⟨#[]⟩)]) rfl kr) fun a Y => ay 1 Y U rfl rfl rfl (sizeOf27 _) rfl (lb rfl) (ds := [iv 0, iv 0, iv 0, iv 0, .string (⟨#[]⟩)]) rfl rfl ?_
       clear Y U
       intro a w16 Y U
       refine wla Y rfl fun a Y => ab (hK41 _ _ <| au ?_)
       refine ar Y results25 (aH rfl (bj (U.g 1 rfl) (isAgg27 _) (sizeOf27 _)) (ae rfl ah)) ?_
       exact ⟨by simp only [retv]; unfold decX decE; rw [hdn]; rfl, U.ext⟩
      rw [hc7] at Y
      try simp only [qz] at hc7
      have hds := hd5.trans (g5 hqn (by exact hc7))
      refine aq <| hK38 _ _ <| aa fun K42 hK42 => wlv Y (aj (U.g 0 rfl) rfl (isAgg27 _) (sizeOf27 _)) fun a Y => ay 1 Y U rfl rfl rfl (sizeOf27 _) rfl (lb rfl) (ds := [iv n1, iv n2, iv n3, iv n4, sv x9]) rfl rfl ?_
      clear Y U
      intro a w17 Y U
      refine wla Y rfl fun a Y => ab (hK42 _ _ <| au ?_)
      refine ar Y results25 (aH rfl (bj (U.g 1 rfl) (isAgg27 _) (sizeOf27 _)) (ae rfl ah)) ?_
      exact ⟨by simp only [retv]; unfold decX decE; rw [hds]; rfl, U.ext⟩
     try simp only [qz] at hb5
     have hq5 : rdS r4 = none := by
      cases h : rdS r4 with
      | none => rfl
      | some z => rw [h] at hb5; cases hb5
     have hdn := hd4.trans (iY.trans (ie hq5))
     refine am Y U de call61 rfl (je rfl hsf4 hsl hq5) ?_
     clear Y U
     intro a w18 Y U
     refine wlm Y rfl fun a Y => wlv Y (ag rfl rfl) fun a Y => wlv Y (ag rfl rfl) fun a Y => wlv Y (ag rfl rfl) fun a Y => wla Y rfl fun a Y => wla Y rfl fun a Y => wla Y rfl fun a Y => ab (hK36 _ _ ?_)
     replace Y := Y.p7 0 2 3 4 10 11 12 rfl
     refine aa fun K43 hK43 => wlv Y (aN (v := pq w1.hz) rfl rfl kr) fun a Y => wlv Y (ld U 0 rfl rfl (isAgg3 _) rfl) fun a Y => wlv Y (aN (v := po w1.hz 1) rfl rfl kr) fun a Y => wlv Y (ld U 0 rfl rfl (isAgg3 _) rfl) fun a Y => wlv Y (aN (v := po w1.hz 2) rfl rfl kr) fun a Y => wlv Y (ld U 0 rfl rfl (isAgg3 _) rfl) fun a Y => wlv Y (aN (v := po w1.hz 3) rfl rfl kr) fun a Y => wlv Y (ld U 0 rfl rfl (isAgg3 _) rfl) fun a Y => wlm Y rfl fun a Y => wlv Y (aZ (v := .agg #[iv n1, iv n2, iv n3, iv n4, sv ([])]) rfl kr) fun a Y => ?_
     refine aC Y U de (zeroValue27 _) (cs := [iv 0, iv 0, iv 0, iv 0, .string (⟨#[]⟩)]) rfl ?_
     clear Y U
     intro a w19 Y U
     refine ay 0 Y U rfl rfl rfl (sizeOf27 _) rfl (lb rfl) (ds := [iv n1, iv n2, iv n3, iv n4, sv ([])]) rfl rfl ?_
     clear Y U
     intro a w20 Y U
     refine ab (hK43 _ _ ?_)
     replace Y := Y.p6 0 2 3 11 12 13 rfl
     replace U := U.k2 5 rfl
     refine ac fun K44 hK44 => aa fun K45 hK45 => wlm Y rfl fun a Y => wlv Y ((v_ne rfl rfl).asb (b' := true) rfl) fun a Y => wlm Y rfl fun a Y => wln Y fun a Y => wln Y fun a Y => wln Y fun a Y => wln Y fun a Y => wlv Y (aB rfl rfl) fun a Y => wlm Y rfl fun a Y => wln Y fun a Y => ?_
     refine wln Y fun a Y => wln Y fun a Y => wlv Y (aB rfl rfl) fun a Y => ab (hK45 _ _ ?_)
     replace Y := Y.p4 2 3 13 61 rfl
     refine aD Y rfl ?_
     refine aa fun K46 hK46 => wlv Y (aZ (v := .agg #[iv 0, iv 0, iv 0, iv 0, .string (⟨#[]⟩)]) rfl kr) fun a Y => ay 1 Y U rfl rfl rfl (sizeOf27 _) rfl (lb rfl) (ds := [iv 0, iv 0, iv 0, iv 0, .string (⟨#[]⟩)]) rfl rfl ?_
     clear Y U
     intro a w21 Y U
     refine wla Y rfl fun a Y => ab (hK46 _ _ <| au ?_)
     refine ar Y results25 (aH rfl (bj (U.g 1 rfl) (isAgg27 _) (sizeOf27 _)) (ae rfl ah)) ?_
     exact ⟨by simp only [retv]; unfold decX decE; rw [hdn]; rfl, U.ext⟩
    try simp only [qz] at hb4
    have hq4 : rdI r3 = none := by
     cases h : rdI r3 with
     | none => rfl
     | some z => rw [h] at hb4; cases hb4
    have hdn := hd3.trans (cS hq4)
    refine am Y U de call60 rfl (dJ rfl hsf3 hsl hq4) ?_
    clear Y U
    intro a w22 Y U
    refine wlm Y rfl fun a Y => wlv Y (ag rfl rfl) fun a Y => wlv Y (ag rfl rfl) fun a Y => wlv Y (ag rfl rfl) fun a Y => wla Y rfl fun a Y => wla Y rfl fun a Y => wla Y rfl fun a Y => ab (hK30 _ _ ?_)
    replace Y := Y.p9 0 2 3 4 5 6 7 8 9 rfl
    refine ac fun K47 hK47 => aa fun K48 hK48 => wlm Y rfl fun a Y => wlv Y ((v_ne rfl rfl).asb (b' := true) rfl) fun a Y => ab (hK48 _ _ <| aD Y rfl ?_)
    refine aa fun K49 hK49 => wlv Y (aZ (v := .agg #[iv 0, iv 0, iv 0, iv 0, .string (⟨#[]⟩)]) rfl kr) fun a Y => ay 1 Y U rfl rfl rfl (sizeOf27 _) rfl (lb rfl) (ds := [iv 0, iv 0, iv 0, iv 0, .string (⟨#[]⟩)]) rfl rfl ?_
    clear Y U
    intro a w23 Y U
    refine wla Y rfl fun a Y => ab (hK49 _ _ <| au ?_)
    refine ar Y results25 (aH rfl (bj (U.g 1 rfl) (isAgg27 _) (sizeOf27 _)) (ae rfl ah)) ?_
    exact ⟨by simp only [retv]; unfold decX decE; rw [hdn]; rfl, U.ext⟩
   try simp only [qz] at hb3
   have hq3 : rdI r2 = none := by
    cases h : rdI r2 with
    | none => rfl
    | some z => rw [h] at hb3; cases hb3
   have hdn := hd2.trans (cS hq3)
   refine am Y U de call60 rfl (dJ rfl hsf2 hsl hq3) ?_
   clear Y U
   intro a w24 Y U
   refine wlm Y rfl fun a Y => wlv Y (ag rfl rfl) fun a Y => wlv Y (ag rfl rfl) fun a Y => wlv Y (ag rfl rfl) fun a Y => wla Y rfl fun a Y => wla Y rfl fun a Y => wla Y rfl fun a Y => ab (hK23 _ _ ?_)
   replace Y := Y.p9 0 2 3 4 5 6 7 8 9 rfl
   refine ac fun K50 hK50 => aa fun K51 hK51 => wlm Y rfl fun a Y => wlv Y ((v_ne rfl rfl).asb (b' := true) rfl) fun a Y => ab (hK51 _ _ <| aD Y rfl ?_)
   refine aa fun K52 hK52 => wlv Y (aZ (v := .agg #[iv 0, iv 0, iv 0, iv 0, .string (⟨#[]⟩)]) rfl kr) fun a Y => ay 1 Y U rfl rfl rfl (sizeOf27 _) rfl (lb rfl) (ds := [iv 0, iv 0, iv 0, iv 0, .string (⟨#[]⟩)]) rfl rfl ?_
   clear Y U
   intro a w25 Y U
   refine wla Y rfl fun a Y => ab (hK52 _ _ <| au ?_)
   refine ar Y results25 (aH rfl (bj (U.g 1 rfl) (isAgg27 _) (sizeOf27 _)) (ae rfl ah)) ?_
   exact ⟨by simp only [retv]; unfold decX decE; rw [hdn]; rfl, U.ext⟩
  try simp only [qz] at hb2
  have hq2 : rdI r1 = none := by
   cases h : rdI r1 with
   | none => rfl
   | some z => rw [h] at hb2; cases hb2
  have hdn := hd1.trans (cS hq2)
  refine am Y U de call60 rfl (dJ rfl hsf1 hsl hq2) ?_
  clear Y U
  intro a w26 Y U
  refine wlm Y rfl fun a Y => wlv Y (ag rfl rfl) fun a Y => wlv Y (ag rfl rfl) fun a Y => wlv Y (ag rfl rfl) fun a Y => wla Y rfl fun a Y => wla Y rfl fun a Y => wla Y rfl fun a Y => ab (hK16 _ _ ?_)
  replace Y := Y.p9 0 2 3 4 5 6 7 8 9 rfl
  refine ac fun K53 hK53 => aa fun K54 hK54 => wlm Y rfl fun a Y => wlv Y ((v_ne rfl rfl).asb (b' := true) rfl) fun a Y => ab (hK54 _ _ <| aD Y rfl ?_)
  refine aa fun K55 hK55 => wlv Y (aZ (v := .agg #[iv 0, iv 0, iv 0, iv 0, .string (⟨#[]⟩)]) rfl kr) fun a Y => ay 1 Y U rfl rfl rfl (sizeOf27 _) rfl (lb rfl) (ds := [iv 0, iv 0, iv 0, iv 0, .string (⟨#[]⟩)]) rfl rfl ?_
  clear Y U
  intro a w27 Y U
  refine wla Y rfl fun a Y => ab (hK55 _ _ <| au ?_)
  refine ar Y results25 (aH rfl (bj (U.g 1 rfl) (isAgg27 _) (sizeOf27 _)) (ae rfl ah)) ?_
  exact ⟨by simp only [retv]; unfold decX decE; rw [hdn]; rfl, U.ext⟩
 try simp only [qz] at hb1
 have hq1 : rdI s = none := by
  cases h : rdI s with
  | none => rfl
  | some z => rw [h] at hb1; cases hb1
 have hdn := iU.trans (cS hq1)
 refine am Y U de call60 rfl (dJ sm (List.suffix_refl s) hsl hq1) ?_
 clear Y U
 intro a w28 Y U
 refine wlm Y rfl fun a Y => wlv Y (ag rfl rfl) fun a Y => wlv Y (ag rfl rfl) fun a Y => wlv Y (ag rfl rfl) fun a Y => wla Y rfl fun a Y => wla Y rfl fun a Y => wla Y rfl fun a Y => ab (hK9 _ _ ?_)
 replace Y := Y.p9 0 2 3 4 5 6 7 8 9 rfl
 refine ac fun K56 hK56 => aa fun K57 hK57 => wlm Y rfl fun a Y => wlv Y ((v_ne rfl rfl).asb (b' := true) rfl) fun a Y => ab (hK57 _ _ <| aD Y rfl ?_)
 refine aa fun K58 hK58 => wlv Y (aZ (v := .agg #[iv 0, iv 0, iv 0, iv 0, .string (⟨#[]⟩)]) rfl kr) fun a Y => ay 1 Y U rfl rfl rfl (sizeOf27 _) rfl (lb rfl) (ds := [iv 0, iv 0, iv 0, iv 0, .string (⟨#[]⟩)]) rfl rfl ?_
 clear Y U
 intro a w29 Y U
 refine wla Y rfl fun a Y => ab (hK58 _ _ <| au ?_)
 refine ar Y results25 (aH rfl (bj (U.g 1 rfl) (isAgg27 _) (sizeOf27 _)) (ae rfl ah)) ?_
 exact ⟨by simp only [retv]; unfold decX decE; rw [hdn]; rfl, U.ext⟩
theorem bZ (o : Int) (lv : Value) (l : List Rec) (kind at_ : Int) (w0 : World) (hlv : SlAt w0 lv 5 (l.map Rec.cells)) :
  Ret Tryd.prog 21 #[.agg #[iv o, lv], iv kind, iv at_] w0 fun v w => v = iv (findH o l kind at_) ∧ Ext No w0 w := by
 have hxb := hlv.2.1
 simp only [List.length_map, big] at hxb
 refine aI func21 rfl ntmps21 (lb rfl) fun a Y => ?_
 replace Y := Y.p3 0 1 2 rfl
 replace U : St No w0 [] w0 := St.init w0
 refine aa fun K1 hK1 => bh Y U de rfl (cs := [iv o, lv]) rfl ?_
 clear Y U
 intro a w1 Y U
 refine wla Y rfl fun a Y => ab (hK1 _ _ <| ac fun K2 hK2 => ?_)
 refine aa fun K3 hK3 => wlv Y (aj (U.g 0 rfl) rfl (isAgg25 _) (sizeOf25 _)) fun a Y => am Y U de call17 rfl (dr o lv l _ (U.arg hlv)) ?_
 clear Y U
 intro a w2 Y U
 refine wlv Y (bn rfl) fun a Y => ab (hK3 _ _ ?_)
 refine az Y rfl (fun hc1 => ?_) (fun hc1 => ?_)
 ·rw [hc1] at Y
  try simp only [qz, Bool.and_eq_true, Bool.or_eq_true, Bool.and_eq_false_iff, Bool.or_eq_false_iff] at hc1
  have hlo : logOk o l = false := by simpa using hc1
  refine aa fun K4 hK4 => wla Y rfl fun a Y => ab (hK4 _ _ <| au ?_)
  refine ar Y results21 (ae rfl ah) ?_
  exact ⟨by simp only [retv]; rw [findH, if_neg (by rw [hlo]; decide)]; try rfl, U.ext⟩
 rw [hc1] at Y
 try simp only [qz, Bool.and_eq_true, Bool.or_eq_true, Bool.and_eq_false_iff, Bool.or_eq_false_iff] at hc1
 have hlo : logOk o l = true := by simpa using hc1
 refine aq <| hK2 _ _ <| aa fun K5 hK5 => wla Y rfl fun a Y => ab (hK5 _ _ <| ac fun K6 hK6 => ?_)
 refine aa fun K7 hK7 => wla Y rfl fun a Y => ab (hK7 _ _ <| ap ?_)
 refine aV (fun m a w => ∃ (k : Nat) (z : Int), m = l.length - k ∧ (k ≤ l.length) ∧ (findF (hitR kind at_) l k = z) ∧ Fr 39 [(1, iv kind), (2, iv at_), (3, pq w0.hz), (6, iv 0), (7, iv z), (8, iv (k : Int))] [] a ∧ St No w0 [blk w0.hz [iv o, lv] 25] w) _ ⟨0, -1, rfl, Nat.zero_le _, rfl, Y.pick [1, 2, 3, 6, 7, 8], U.select [0] de⟩ ?_
 rintro _ a w3 ⟨k, z, rfl, hk, hz, Y, U⟩
 refine ac fun K8 hK8 => aa fun K9 hK9 => wlm Y rfl fun a Y => wlv Y (al (v := po w0.hz 1) rfl kr) fun a Y => wlv Y (ld U 0 rfl rfl (isAgg23 _) rfl) fun a Y => wlv Y ((aK (sT := 23) (U.arg hlv) rfl rfl (runUnderlying23 _)).asi (m' := (l.length : Int)) (by rw [List.length_map])) fun a Y => wlv Y (v_lt rfl rfl) fun a Y => ab (hK9 _ _ ?_)
 refine az Y rfl (fun hc2 => ?_) (fun hc2 => ?_)
 ·rw [hc2] at Y
  try simp only [qz, Bool.and_eq_true, Bool.or_eq_true, Bool.and_eq_false_iff, Bool.or_eq_false_iff] at hc2
  have hkx : k < l.length := by omega
  refine aq <| hK8 _ _ <| ac fun K10 hK10 => ap <| aa fun K11 hK11 => wlv Y (al (v := po w0.hz 1) rfl kr) fun a Y => wlv Y (ld U 0 rfl rfl (isAgg23 _) rfl) fun a Y => wlm Y rfl fun a Y => wlv Y ((ak (i := (k : Int)) (sT := 23) (U.arg hlv) rfl rfl (runUnderlying23 _) (sizeOf27 _) om (by rw [List.length_map]; omega)).as (v' := slAddr lv (k * 5)) rfl) fun a Y => wlv Y (bC (k := k * 5) (j := 1) (U.arg hlv) (i := k) (by rw [List.length_map]; omega) rfl (fun _ _ => by kernel_rfl)) fun a Y => wlv Y (ax (u := iv ((l.getD k Rec.z).kind)) (i := k) (j := 1) (U.arg hlv) (by rw [List.length_map]; omega) rfl (isAgg3 _) (by rw [br Rec.z]; rfl)) fun a Y => wlm Y rfl fun a Y => ?_
  refine wlv Y (v_eq rfl rfl) fun a Y => wlm Y rfl fun a Y => ?_
  refine cK (N := 39) (df := []) 9 [(36, .bool ((decide ((l.getD k Rec.z).kind = kind)) && (decide ((l.getD k Rec.z).t ≤ at_)))), (1, iv kind), (2, iv at_), (3, pq w0.hz), (6, iv 0), (7, iv z), (8, iv (k : Int)), (12, iv (k : Int)), (13, po w0.hz 1), (14, lv), (15, iv (l.length : Int)), (16, .bool true)] ?_ (fun hj => ?_)
  rotate_left
  ·rcases Bool.eq_false_or_eq_true (decide ((l.getD k Rec.z).kind = kind)) with hb3 | hb3
   ·rw [hb3] at Y
    have hb3b := hb3
    try simp only [qz, Bool.and_eq_true, Bool.or_eq_true, Bool.and_eq_false_iff, Bool.or_eq_false_iff] at hb3
    refine wly Y (al (v := po w0.hz 1) rfl kr) fun a Y => wly Y (ld U 0 rfl rfl (isAgg23 _) rfl) fun a Y => wly Y (ai rfl) fun a Y => wly Y ((ak (i := (k : Int)) (sT := 23) (U.arg hlv) rfl rfl (runUnderlying23 _) (sizeOf27 _) om (by rw [List.length_map]; omega)).as (v' := slAddr lv (k * 5)) rfl) fun a Y => wly Y (bC (k := k * 5) (j := 0) (U.arg hlv) (i := k) (by rw [List.length_map]; omega) rfl (fun _ _ => by kernel_rfl)) fun a Y => wly Y (ax (u := iv ((l.getD k Rec.z).t)) (i := k) (j := 0) (U.arg hlv) (by rw [List.length_map]; omega) rfl (isAgg3 _) (by rw [br Rec.z]; rfl)) fun a Y => wly Y (ai rfl) fun a Y => wly Y (v_le rfl rfl) fun a Y => wlv Y (aB rfl rfl) fun a Y => ?_
    refine hj _ ?_
    try rw [hb3b]
    exact Y.pick [36, 1, 2, 3, 6, 7, 8, 12, 13, 14, 15, 16]
   rw [hb3] at Y
   have hb3b := hb3
   try simp only [qz, Bool.and_eq_true, Bool.or_eq_true, Bool.and_eq_false_iff, Bool.or_eq_false_iff] at hb3
   refine wln Y fun a Y => wln Y fun a Y => wln Y fun a Y => wln Y fun a Y => wln Y fun a Y => wln Y fun a Y => wln Y fun a Y => wln Y fun a Y => wlv Y (aw rfl rfl) fun a Y => ?_
   refine hj _ ?_
   try rw [hb3b]
   exact Y.pick [36, 1, 2, 3, 6, 7, 8, 12, 13, 14, 15, 16]
  intro a Y
  refine ab (hK11 _ _ ?_)
  refine az Y rfl (fun hc4 => ?_) (fun hc4 => ?_)
  ·rw [hc4] at Y
   try simp only [qz, Bool.and_eq_true, Bool.or_eq_true, Bool.and_eq_false_iff, Bool.or_eq_false_iff] at hc4
   refine ao <| wlm Y rfl fun a Y => wla Y rfl fun a Y => ab <| hK10 _ _ ?_
   replace Y := Y.p6 1 2 3 6 8 7 rfl
   refine ao <| wlm Y rfl fun a Y => wlv Y (aM rfl rfl ⟨om, om⟩) fun a Y => wla Y rfl fun a Y => ab ?_
   refine ⟨_, ?_, k + 1, (k : Int), rfl, om, (by rw [findF, if_pos (by unfold hitR; simp only [Bool.and_eq_true, decide_eq_true_eq]; omega)]), Y.pick [1, 2, 3, 6, 7, 8], U.select [0] de⟩
   omega
  rw [hc4] at Y
  try simp only [qz, Bool.and_eq_true, Bool.or_eq_true, Bool.and_eq_false_iff, Bool.or_eq_false_iff] at hc4
  refine aq <| hK10 _ _ <| ao <| wlm Y rfl fun a Y => wlv Y (aM rfl rfl ⟨om, om⟩) fun a Y => wla Y rfl fun a Y => ab ?_
  refine ⟨_, ?_, k + 1, z, rfl, om, (by rw [findF, if_neg (by unfold hitR; simp only [Bool.and_eq_true, decide_eq_true_eq]; omega)]; exact hz), Y.pick [1, 2, 3, 6, 7, 8], U.select [0] de⟩
  omega
 rw [hc2] at Y
 try simp only [qz, Bool.and_eq_true, Bool.or_eq_true, Bool.and_eq_false_iff, Bool.or_eq_false_iff] at hc2
 have hke : k = l.length := by omega
 refine aL <| hK6 _ _ <| aa fun K12 hK12 => wlm Y rfl fun a Y => wla Y rfl fun a Y => ab (hK12 _ _ ?_)
 replace Y := Y.p1 6 rfl
 replace U : St No w0 [] w3 := U.mask [false]
 refine au ?_
 refine ar Y results21 (ae rfl ah) ?_
 exact ⟨by simp only [retv]; rw [findH, if_pos hlo, ← hke, hz]; try rfl, U.ext⟩
theorem mA (o : Int) (lv : Value) (l : List Rec) (x : Rec) (w0 : World) (hlv : SlAt w0 lv 5 (l.map Rec.cells)) (hll : l.length ≤ 1000) (hok : addOk o l x = true) :
  Ret Tryd.prog 14 #[.agg #[iv o, lv], .agg #[iv x.t, iv x.kind, iv x.a, iv x.b, sv x.text]] w0 (MemR w0 (fun v : Value => .tuple #[.agg #[iv o, v], iv 0]) (fun v => [own v 27 5 ((l ++ [x]).map Rec.cells)]) (fun _ => True)) := by
 refine aI func14 rfl ntmps14 (lb rfl) fun a Y => ?_
 replace Y := Y.p2 0 1 rfl
 replace U : St No w0 [] w0 := St.init w0
 refine aa fun K1 hK1 => bh Y U de rfl (cs := [iv o, lv]) rfl ?_
 clear Y U
 intro a w1 Y U
 refine bh Y U de rfl (cs := [iv x.t, iv x.kind, iv x.a, iv x.b, sv x.text]) rfl ?_
 clear Y U
 intro a w2 Y U
 refine aC Y U de (zeroValue25 _) (cs := [iv 0, .slice none 0 0]) rfl ?_
 clear Y U
 intro a w3 Y U
 refine wla Y rfl fun a Y => ab (hK1 _ _ <| ac fun K2 hK2 => ?_)
 refine aO kr (aP kr fun w4 hxz => ?_)
 replace U := U.grow hxz
 refine aS (k := 0) 11 [9, 10] Y kr kr kr rfx ?_
 replace Y := Y.p6 0 1 2 3 4 5 rfl
 refine cq 2 5 8 9 (fun v => own v 27 5 ([])) (fun v => own v 27 5 (([]) ++ ((l).map Rec.cells))) (fun v => own v 27 5 ((([]) ++ ((l).map Rec.cells)) ++ ([[iv x.t, iv x.kind, iv x.a, iv x.b, sv x.text]]))) (fun u => .agg #[iv o, u]) 11 [[], [0], [], [], [3], [2, 4], [], [6], [5, 7], [1, 8], []] (fun i => match i with | 0 => pv (pq w0.hz) | 1 => pv (iv o) | 2 => fun v E => E = [] | 3 => pv (po w0.hz 1) | 4 => pv (lv) | 5 => fun v E => E = [] | 6 => pv (.agg #[iv x.t, iv x.kind, iv x.a, iv x.b, sv x.text]) | 7 => pm (fun b : Nat => .slice (some ⟨b, 0, none⟩) 1 1) (fun b => [own (.slice (some ⟨b, 0, none⟩) 1 1) 27 5 [[iv x.t, iv x.kind, iv x.a, iv x.b, sv x.text]]]) (fun _ => True) | 8 => fun v E => E = [] | 9 => fun v E => E = [] | 10 => pm (fun b : Nat => pq b) (fun b => [blk b [iv 0, .slice none 0 0] 25]) (fun _ => True) | _ => fun _ _ => False) Y U kr kr kr de de de de de ?_ ?_ ?_ ?_ ?_ ?_ ?_
 ·intro i v E h
  match i, h with
  | 0, _ => exact by decide
  | 1, _ => exact by decide
  | 2, _ => exact by decide
  | 3, _ => exact by decide
  | 4, _ => exact by decide
  | 5, _ => exact by decide
  | 6, _ => exact by decide
  | 7, _ => exact by decide
  | 8, _ => exact by decide
  | 9, _ => exact by decide
  | 10, _ => exact by decide
  | i + 11, h => exact h.elim
 ·intro i hi h0 h1 h2 h3 e
  match i, hi, h0, h1, h2, h3 with
  | 0, _, _, _, _, _ => exact fun w U => OpV.g (al (v := pq w0.hz) rfl kr)
  | 1, _, _, _, _, _ =>
   rintro _ _ ⟨rfl, rfl⟩
   intro w U
   exact OpV.g (ld U 3 rfl rfl (isAgg3 _) rfl)
  | 2, _, h, _, _, _ => exact absurd rfl h
  | 3, _, _, _, _, _ => exact fun w U => OpV.g (al (v := po w0.hz 1) rfl kr)
  | 4, _, _, _, _, _ =>
   rintro _ _ ⟨rfl, rfl⟩
   intro w U
   exact OpV.g (ld U 3 rfl rfl (isAgg23 _) rfl)
  | 5, _, _, h, _, _ => exact absurd rfl h
  | 6, _, _, _, _, _ => exact fun w U => OpV.g (aj (U.g 2 rfl) rfl (isAgg27 _) (sizeOf27 _))
  | 7, _, _, _, _, _ =>
   rintro _ _ ⟨rfl, rfl⟩
   intro w U
   exact aY (E := 27) (sz := 5) rfl [[iv x.t, iv x.kind, iv x.a, iv x.b, sv x.text]] (fun _ => by kernel_rfl) sm rfl de
  | 8, _, _, _, h, _ => exact absurd rfl h
  | 9, _, _, _, _, h => exact absurd rfl h
  | 10, _, _, _, _, _ => exact fun w U => eU (zeroValue25 _) (cs := [iv 0, .slice none 0 0]) rfl
 ·intro w U
  exact OpR.to_own (f := fun b : Nat => .slice (some ⟨b, 0, none⟩) 0 0) (e := fun v => own v 27 5 []) (aY (E := 27) (sz := 5) rfl [] (fun _ => by kernel_rfl) sm rfl de) (fun v => rfl)
 ·rintro s1 _ rfl _ _ ⟨rfl, rfl⟩
  intro w U
  replace U : St No w0 (own s1 27 5 ([]) :: _) w := U
  exact (bI (U.g 0 rfl) rfl rfl (U.arg hlv) underlying23 (inf := Tryd.t27) (z := .agg #[iv 0, iv 0, iv 0, iv 0, .string (⟨#[]⟩)]) rfl rfl rfl rfl de (by first | (simp [Value.oneCell', yv, wv, sv]; done) | exact cG (by intro e he; obtain ⟨p, _, rfl⟩ := List.mem_map.1 he; exact ⟨p, rfl⟩)) (by have hby : Tryd.t27.bytes = 48 := rfl; simp only [big, hby, List.length_append, List.length_map, List.length_cons, List.length_nil]; omega) (by have hby : Tryd.t27.bytes = 48 := rfl; simp only [big, hby, List.length_append, List.length_map, List.length_cons, List.length_nil]; omega)).mono fun v w' ⟨h1, h2, h3⟩ => ⟨h1, h2, h3, rfl⟩
 ·rintro s2 _ rfl _ _ ⟨b3, rfl, -, rfl⟩
  intro w U
  replace U : St No w0 (own s2 27 5 (([]) ++ ((l).map Rec.cells)) :: _) w := U
  exact (bI (U.g 0 rfl) rfl rfl (U.ow 1 rfl) underlying23 (inf := Tryd.t27) (z := .agg #[iv 0, iv 0, iv 0, iv 0, .string (⟨#[]⟩)]) rfl rfl rfl rfl de (by first | (simp [Value.oneCell', yv, wv, sv]; done) | exact cG (by intro e he; obtain ⟨p, _, rfl⟩ := List.mem_map.1 he; exact ⟨p, rfl⟩)) (by have hby : Tryd.t27.bytes = 48 := rfl; simp only [big, hby, List.length_append, List.length_map, List.length_cons, List.length_nil]; omega) (by have hby : Tryd.t27.bytes = 48 := rfl; simp only [big, hby, List.length_append, List.length_map, List.length_cons, List.length_nil]; omega)).mono fun v w' ⟨h1, h2, h3⟩ => ⟨h1, h2, h3, rfl⟩
 ·rintro _ _ ⟨rfl, rfl⟩ s4 _ rfl
  intro w U
  have U : St No w0 (own s4 27 5 ((([]) ++ ((l).map Rec.cells)) ++ ([[iv x.t, iv x.kind, iv x.a, iv x.b, sv x.text]])) :: _) w := U
  obtain ⟨_, _, _, esl⟩ := dQ (U.ow 0 rfl)
  exact OpV.hopv (OpV.g (aZ (v := .agg #[iv o, s4]) rfl (by rw [esl]; kernel_rfl))) rfl
 clear Y U
 rintro vq _ _ ⟨⟨rfl, rfl⟩, -⟩ _ _ ⟨⟨rfl, rfl⟩, -⟩ s1 _ ⟨rfl, -, -⟩ _ _ ⟨⟨rfl, rfl⟩, -⟩ _ _ ⟨⟨rfl, rfl⟩, -⟩ s2 _ ⟨rfl, -, -⟩ _ _ ⟨⟨rfl, rfl⟩, -⟩ _ _ ⟨⟨b3, rfl, -, rfl⟩, -⟩ s4 _ ⟨rfl, hvq, -⟩ _ _ ⟨rfl, -, hv3⟩ _ _ ⟨⟨b5, rfl, -, rfl⟩, -⟩ a w5 Y U
 obtain rfl := hvq rfl
 obtain rfl := hv3 rfl
 replace Y := Y.p17 7 8 9 10 11 12 13 14 15 16 6 0 1 2 3 4 5 rfl
 replace U : St No w0 [_, _, _, _, _, _] w5 := U
 replace U : St No w0 [own (.slice (some ⟨b3, 0, none⟩) 1 1) 27 5 ([[iv x.t, iv x.kind, iv x.a, iv x.b, sv x.text]]), blk b5 [iv 0, .slice none 0 0] 25, own s4 27 5 ((l ++ [x]).map Rec.cells), blk w2.hz [iv 0, .slice none 0 0] 25, blk w1.hz [iv x.t, iv x.kind, iv x.a, iv x.b, sv x.text] 27, blk w0.hz [iv o, lv] 25] w5 := by rw [List.map_append]; exact U
 refine ab <| aQ (k := 11) 12 [11] kr kr kr ?_
 refine aJ (us := [iv o, s4]) 1 Y U rfl rfl rfl (sizeOf25 _) (by intro z hz; simp only [List.mem_cons, List.not_mem_nil, or_false] at hz; rcases hz with rfl | rfl <;> first | rfl | exact SlAt.one (U.ow 2 rfl)) (lb rfl) (ds := [iv o, s4]) rfl rfl ?_
 clear Y U
 intro a w6 Y U
 refine ab <| bd kr ?_
 refine hK2 _ _ ?_
 replace Y := Y.p4 2 4 5 6 rfl
 replace U := U.k4 46 rfl
 refine ac fun K3 hK3 => aa fun K4 hK4 => wlv Y (aj (U.g 3 rfl) rfl (isAgg25 _) (sizeOf25 _)) fun a Y => am Y U de call17 rfl (dr o lv l _ (U.arg hlv)) ?_
 clear Y U
 intro a w7 Y U
 refine wlv Y (bn rfl) fun a Y => wlm Y rfl fun a Y => ?_
 rcases Bool.eq_false_or_eq_true (!(logOk o l)) with hb6 | hb6
 ·rw [hb6] at Y
  try simp only [qz] at hb6
  exfalso; obtain ⟨h1, h2⟩ := eq hok; simp [h1, h2] at hb6
 rw [hb6] at Y
 try simp only [qz] at hb6
 refine wly Y (aj (U.g 0 rfl) rfl (isAgg25 _) (sizeOf25 _)) fun a Y => aR Y U de rfl de rfl call17 rfl (dr o s4 (l ++ [x]) _ (U.ow 1 rfl)) ?_
 clear Y U
 intro a w8 Y U
 refine wly Y (bn rfl) fun a Y => wlv Y (aw rfl rfl) fun a Y => ab (hK4 _ _ ?_)
 replace Y := Y.p4 4 5 6 24 rfl
 replace U := U.k3 7 rfl
 refine az Y rfl (fun hc7 => ?_) (fun hc7 => ?_)
 ·rw [hc7] at Y
  try simp only [qz] at hc7
  exfalso; obtain ⟨h1, h2⟩ := eq hok; simp [h1, h2] at hc7
 rw [hc7] at Y
 try simp only [qz] at hc7
 refine aq <| hK3 _ _ <| aa fun K5 hK5 => wlv Y (aj (U.g 0 rfl) rfl (isAgg25 _) (sizeOf25 _)) fun a Y => aJ (us := [iv o, s4]) 2 Y U rfl rfl rfl (sizeOf25 _) (by intro z hz; simp only [List.mem_cons, List.not_mem_nil, or_false] at hz; rcases hz with rfl | rfl <;> first | rfl | exact SlAt.one (U.ow 1 rfl)) (lb rfl) (ds := [iv o, s4]) rfl rfl ?_
 clear Y U
 intro a w9 Y U
 refine wla Y rfl fun a Y => ab (hK5 _ _ <| au ?_)
 refine ar Y results14 (aH rfl (bj (U.g 2 rfl) (isAgg25 _) (sizeOf25 _)) (ae rfl ah)) ?_
 exact ⟨_, rfl, trivial, U.ext, St.out (E := [own _ 27 5 ((l ++ [x]).map Rec.cells)]) (H := []) (U.select [1] de)⟩
theorem oB (o : Int) (lv : Value) (l : List Rec) (x : Rec) (w0 : World) (hlv : SlAt w0 lv 5 (l.map Rec.cells)) (hll : l.length ≤ 1000) (hok : addOk o l x = false) :
  Ret Tryd.prog 14 #[.agg #[iv o, lv], .agg #[iv x.t, iv x.kind, iv x.a, iv x.b, sv x.text]] w0 (MemR w0 (fun v : Value => .tuple #[.agg #[iv 0, v], iv 110]) (fun v => [own v 27 5 (([] : List Rec).map Rec.cells)]) (fun _ => True)) := by
 refine aI func14 rfl ntmps14 (lb rfl) fun a Y => ?_
 replace Y := Y.p2 0 1 rfl
 replace U : St No w0 [] w0 := St.init w0
 refine aa fun K1 hK1 => bh Y U de rfl (cs := [iv o, lv]) rfl ?_
 clear Y U
 intro a w1 Y U
 refine bh Y U de rfl (cs := [iv x.t, iv x.kind, iv x.a, iv x.b, sv x.text]) rfl ?_
 clear Y U
 intro a w2 Y U
 refine aC Y U de (zeroValue25 _) (cs := [iv 0, .slice none 0 0]) rfl ?_
 clear Y U
 intro a w3 Y U
 refine wla Y rfl fun a Y => ab (hK1 _ _ <| ac fun K2 hK2 => ?_)
 refine aO kr (aP kr fun w4 hxz => ?_)
 replace U := U.grow hxz
 refine aS (k := 0) 11 [9, 10] Y kr kr kr rfx ?_
 replace Y := Y.p6 0 1 2 3 4 5 rfl
 refine cq 2 5 8 9 (fun v => own v 27 5 ([])) (fun v => own v 27 5 (([]) ++ ((l).map Rec.cells))) (fun v => own v 27 5 ((([]) ++ ((l).map Rec.cells)) ++ ([[iv x.t, iv x.kind, iv x.a, iv x.b, sv x.text]]))) (fun u => .agg #[iv o, u]) 11 [[], [0], [], [], [3], [2, 4], [], [6], [5, 7], [1, 8], []] (fun i => match i with | 0 => pv (pq w0.hz) | 1 => pv (iv o) | 2 => fun v E => E = [] | 3 => pv (po w0.hz 1) | 4 => pv (lv) | 5 => fun v E => E = [] | 6 => pv (.agg #[iv x.t, iv x.kind, iv x.a, iv x.b, sv x.text]) | 7 => pm (fun b : Nat => .slice (some ⟨b, 0, none⟩) 1 1) (fun b => [own (.slice (some ⟨b, 0, none⟩) 1 1) 27 5 [[iv x.t, iv x.kind, iv x.a, iv x.b, sv x.text]]]) (fun _ => True) | 8 => fun v E => E = [] | 9 => fun v E => E = [] | 10 => pm (fun b : Nat => pq b) (fun b => [blk b [iv 0, .slice none 0 0] 25]) (fun _ => True) | _ => fun _ _ => False) Y U kr kr kr de de de de de ?_ ?_ ?_ ?_ ?_ ?_ ?_
 ·intro i v E h
  match i, h with
  | 0, _ => exact by decide
  | 1, _ => exact by decide
  | 2, _ => exact by decide
  | 3, _ => exact by decide
  | 4, _ => exact by decide
  | 5, _ => exact by decide
  | 6, _ => exact by decide
  | 7, _ => exact by decide
  | 8, _ => exact by decide
  | 9, _ => exact by decide
  | 10, _ => exact by decide
  | i + 11, h => exact h.elim
 ·intro i hi h0 h1 h2 h3 e
  match i, hi, h0, h1, h2, h3 with
  | 0, _, _, _, _, _ => exact fun w U => OpV.g (al (v := pq w0.hz) rfl kr)
  | 1, _, _, _, _, _ =>
   rintro _ _ ⟨rfl, rfl⟩
   intro w U
   exact OpV.g (ld U 3 rfl rfl (isAgg3 _) rfl)
  | 2, _, h, _, _, _ => exact absurd rfl h
  | 3, _, _, _, _, _ => exact fun w U => OpV.g (al (v := po w0.hz 1) rfl kr)
  | 4, _, _, _, _, _ =>
   rintro _ _ ⟨rfl, rfl⟩
   intro w U
   exact OpV.g (ld U 3 rfl rfl (isAgg23 _) rfl)
  | 5, _, _, h, _, _ => exact absurd rfl h
  | 6, _, _, _, _, _ => exact fun w U => OpV.g (aj (U.g 2 rfl) rfl (isAgg27 _) (sizeOf27 _))
  | 7, _, _, _, _, _ =>
   rintro _ _ ⟨rfl, rfl⟩
   intro w U
   exact aY (E := 27) (sz := 5) rfl [[iv x.t, iv x.kind, iv x.a, iv x.b, sv x.text]] (fun _ => by kernel_rfl) sm rfl de
  | 8, _, _, _, h, _ => exact absurd rfl h
  | 9, _, _, _, _, h => exact absurd rfl h
  | 10, _, _, _, _, _ => exact fun w U => eU (zeroValue25 _) (cs := [iv 0, .slice none 0 0]) rfl
 ·intro w U
  exact OpR.to_own (f := fun b : Nat => .slice (some ⟨b, 0, none⟩) 0 0) (e := fun v => own v 27 5 []) (aY (E := 27) (sz := 5) rfl [] (fun _ => by kernel_rfl) sm rfl de) (fun v => rfl)
 ·rintro s1 _ rfl _ _ ⟨rfl, rfl⟩
  intro w U
  replace U : St No w0 (own s1 27 5 ([]) :: _) w := U
  exact (bI (U.g 0 rfl) rfl rfl (U.arg hlv) underlying23 (inf := Tryd.t27) (z := .agg #[iv 0, iv 0, iv 0, iv 0, .string (⟨#[]⟩)]) rfl rfl rfl rfl de (by first | (simp [Value.oneCell', yv, wv, sv]; done) | exact cG (by intro e he; obtain ⟨p, _, rfl⟩ := List.mem_map.1 he; exact ⟨p, rfl⟩)) (by have hby : Tryd.t27.bytes = 48 := rfl; simp only [big, hby, List.length_append, List.length_map, List.length_cons, List.length_nil]; omega) (by have hby : Tryd.t27.bytes = 48 := rfl; simp only [big, hby, List.length_append, List.length_map, List.length_cons, List.length_nil]; omega)).mono fun v w' ⟨h1, h2, h3⟩ => ⟨h1, h2, h3, rfl⟩
 ·rintro s2 _ rfl _ _ ⟨b3, rfl, -, rfl⟩
  intro w U
  replace U : St No w0 (own s2 27 5 (([]) ++ ((l).map Rec.cells)) :: _) w := U
  exact (bI (U.g 0 rfl) rfl rfl (U.ow 1 rfl) underlying23 (inf := Tryd.t27) (z := .agg #[iv 0, iv 0, iv 0, iv 0, .string (⟨#[]⟩)]) rfl rfl rfl rfl de (by first | (simp [Value.oneCell', yv, wv, sv]; done) | exact cG (by intro e he; obtain ⟨p, _, rfl⟩ := List.mem_map.1 he; exact ⟨p, rfl⟩)) (by have hby : Tryd.t27.bytes = 48 := rfl; simp only [big, hby, List.length_append, List.length_map, List.length_cons, List.length_nil]; omega) (by have hby : Tryd.t27.bytes = 48 := rfl; simp only [big, hby, List.length_append, List.length_map, List.length_cons, List.length_nil]; omega)).mono fun v w' ⟨h1, h2, h3⟩ => ⟨h1, h2, h3, rfl⟩
 ·rintro _ _ ⟨rfl, rfl⟩ s4 _ rfl
  intro w U
  have U : St No w0 (own s4 27 5 ((([]) ++ ((l).map Rec.cells)) ++ ([[iv x.t, iv x.kind, iv x.a, iv x.b, sv x.text]])) :: _) w := U
  obtain ⟨_, _, _, esl⟩ := dQ (U.ow 0 rfl)
  exact OpV.hopv (OpV.g (aZ (v := .agg #[iv o, s4]) rfl (by rw [esl]; kernel_rfl))) rfl
 clear Y U
 rintro vq _ _ ⟨⟨rfl, rfl⟩, -⟩ _ _ ⟨⟨rfl, rfl⟩, -⟩ s1 _ ⟨rfl, -, -⟩ _ _ ⟨⟨rfl, rfl⟩, -⟩ _ _ ⟨⟨rfl, rfl⟩, -⟩ s2 _ ⟨rfl, -, -⟩ _ _ ⟨⟨rfl, rfl⟩, -⟩ _ _ ⟨⟨b3, rfl, -, rfl⟩, -⟩ s4 _ ⟨rfl, hvq, -⟩ _ _ ⟨rfl, -, hv3⟩ _ _ ⟨⟨b5, rfl, -, rfl⟩, -⟩ a w5 Y U
 obtain rfl := hvq rfl
 obtain rfl := hv3 rfl
 replace Y := Y.p17 7 8 9 10 11 12 13 14 15 16 6 0 1 2 3 4 5 rfl
 replace U : St No w0 [_, _, _, _, _, _] w5 := U
 replace U : St No w0 [own (.slice (some ⟨b3, 0, none⟩) 1 1) 27 5 ([[iv x.t, iv x.kind, iv x.a, iv x.b, sv x.text]]), blk b5 [iv 0, .slice none 0 0] 25, own s4 27 5 ((l ++ [x]).map Rec.cells), blk w2.hz [iv 0, .slice none 0 0] 25, blk w1.hz [iv x.t, iv x.kind, iv x.a, iv x.b, sv x.text] 27, blk w0.hz [iv o, lv] 25] w5 := by rw [List.map_append]; exact U
 refine ab <| aQ (k := 11) 12 [11] kr kr kr ?_
 refine aJ (us := [iv o, s4]) 1 Y U rfl rfl rfl (sizeOf25 _) (by intro z hz; simp only [List.mem_cons, List.not_mem_nil, or_false] at hz; rcases hz with rfl | rfl <;> first | rfl | exact SlAt.one (U.ow 2 rfl)) (lb rfl) (ds := [iv o, s4]) rfl rfl ?_
 clear Y U
 intro a w6 Y U
 refine ab <| bd kr ?_
 refine hK2 _ _ ?_
 replace Y := Y.p4 2 4 5 6 rfl
 replace U := U.k4 46 rfl
 refine ac fun K3 hK3 => aa fun K4 hK4 => wlv Y (aj (U.g 3 rfl) rfl (isAgg25 _) (sizeOf25 _)) fun a Y => am Y U de call17 rfl (dr o lv l _ (U.arg hlv)) ?_
 clear Y U
 intro a w7 Y U
 refine wlv Y (bn rfl) fun a Y => wlm Y rfl fun a Y => ?_
 rcases Bool.eq_false_or_eq_true (!(logOk o l)) with hb6 | hb6
 ·rw [hb6] at Y
  try simp only [qz] at hb6
  refine wln Y fun a Y => wln Y fun a Y => wln Y fun a Y => wlv Y (aB rfl rfl) fun a Y => ab (hK4 _ _ ?_)
  replace Y := Y.p4 4 5 6 24 rfl
  replace U := U.k3 7 rfl
  refine aD Y rfl ?_
  refine aa fun K5 hK5 => wlv Y (aZ (v := .agg #[iv 0, .slice none 0 0]) rfl kr) fun a Y => ay 2 Y U rfl rfl rfl (sizeOf25 _) rfl (lb rfl) (ds := [iv 0, .slice none 0 0]) rfl rfl ?_
  clear Y U
  intro a w8 Y U
  refine wla Y rfl fun a Y => ab (hK5 _ _ <| au ?_)
  refine ar Y results14 (aH rfl (bj (U.g 2 rfl) (isAgg25 _) (sizeOf25 _)) (ae rfl ah)) ?_
  replace U : St No w0 [own (.slice none 0 0) 27 5 ((([] : List Rec)).map Rec.cells), blk b5 [iv o, s4] 25, own s4 27 5 ((l ++ [x]).map Rec.cells), blk w2.hz [iv 0, .slice none 0 0] 25] w8 := U.nil_own
  exact ⟨.slice none 0 0, rfl, trivial, U.ext, St.out (E := [own (.slice none 0 0) 27 5 ((([] : List Rec)).map Rec.cells)]) (H := []) (U.select [0] de)⟩
 rw [hb6] at Y
 try simp only [qz] at hb6
 refine wly Y (aj (U.g 0 rfl) rfl (isAgg25 _) (sizeOf25 _)) fun a Y => aR Y U de rfl de rfl call17 rfl (dr o s4 (l ++ [x]) _ (U.ow 1 rfl)) ?_
 clear Y U
 intro a w9 Y U
 refine wly Y (bn rfl) fun a Y => wlv Y (aw rfl rfl) fun a Y => ab (hK4 _ _ ?_)
 replace Y := Y.p4 4 5 6 24 rfl
 replace U := U.k3 7 rfl
 refine az Y rfl (fun hc7 => ?_) (fun hc7 => ?_)
 ·rw [hc7] at Y
  try simp only [qz] at hc7
  refine aa fun K6 hK6 => wlv Y (aZ (v := .agg #[iv 0, .slice none 0 0]) rfl kr) fun a Y => ay 2 Y U rfl rfl rfl (sizeOf25 _) rfl (lb rfl) (ds := [iv 0, .slice none 0 0]) rfl rfl ?_
  clear Y U
  intro a w10 Y U
  refine wla Y rfl fun a Y => ab (hK6 _ _ <| au ?_)
  refine ar Y results14 (aH rfl (bj (U.g 2 rfl) (isAgg25 _) (sizeOf25 _)) (ae rfl ah)) ?_
  replace U : St No w0 [own (.slice none 0 0) 27 5 ((([] : List Rec)).map Rec.cells), blk b5 [iv o, s4] 25, own s4 27 5 ((l ++ [x]).map Rec.cells), blk w2.hz [iv 0, .slice none 0 0] 25] w10 := U.nil_own
  exact ⟨.slice none 0 0, rfl, trivial, U.ext, St.out (E := [own (.slice none 0 0) 27 5 ((([] : List Rec)).map Rec.cells)]) (H := []) (U.select [0] de)⟩
 rw [hc7] at Y
 try simp only [qz] at hc7
 exfalso; unfold addOk at hok; simp only [hb6, hc7] at hok; simp at hok
theorem dI (o : Int) (lv : Value) (l : List Rec) (x : Rec) (w0 : World) (hlv : SlAt w0 lv 5 (l.map Rec.cells)) (hll : l.length ≤ 1000) : Ret Tryd.prog 14 #[.agg #[iv o, lv], .agg #[iv x.t, iv x.kind, iv x.a, iv x.b, sv x.text]] w0 (MemR w0 (fun v : Value => .tuple #[.agg #[iv (addO o l x), v], iv (addE o l x)]) (fun v => [own v 27 5 ((addL o l x).map Rec.cells)]) (fun _ => True)) := by
 unfold addO addE addL
 cases h : addOk o l x with
 | true => rw [if_pos rfl, if_pos rfl, if_pos rfl]; exact mA o lv l x w0 hlv hll h
 | false => rw [if_neg sm, if_neg sm, if_neg sm]; exact oB o lv l x w0 hlv hll h
theorem oM {a b : Int} (ha : i64 a) (hb : 1 ≤ b) : -9223372036854775808 ≤ a.tdiv b ∧ a.tdiv b ≤ 9223372036854775807 := by
 have h : (a.tdiv b).natAbs ≤ a.natAbs := by rw [Int.natAbs_tdiv]; exact Nat.div_le_self _ _
 unfold i64 at ha
 by_cases h0 : 0 ≤ a
 ·have := Int.tdiv_nonneg h0 (by omega : 0 ≤ b); omega
 ·have h1 : a.tdiv b = -((-a).tdiv b) := by rw [Int.neg_tdiv, Int.neg_neg]
  have := Int.tdiv_nonneg (by omega : 0 ≤ -a) (by omega : 0 ≤ b); omega
def timeR : Int → List Rin → Int
 | t, [] => t
 | t, y :: l => timeR (t + pickI y.x0 30) l
theorem gr : ∀ (l : List Rin) (t : Int) (y : Rin), timeR t (l ++ [y]) = timeR t l + pickI y.x0 30
 | [], t, y => rfl
 | x :: l, t, y => gr l _ y
theorem gu : ∀ (l : List Rin) (t : Int) (y : Rin), recsR t (l ++ [y]) = recsR t l ++ [entR (timeR t l + pickI y.x0 30) y.x1 y.x2 y.x3 y.x4]
 | [], t, y => rfl
 | x :: l, t, y => by rw [List.cons_append, recsR, gu l _ y]; rfl
theorem jp : ∀ (l : List Rin) (t : Int), 0 ≤ t → 0 ≤ timeR t l ∧ timeR t l ≤ t + 30 * l.length
 | [], t, h => ⟨h, by simp [timeR]⟩
 | x :: l, t, h => by
  have h1 := bw x.x0 (n := 30) om
  have h2 := jp l (t + pickI x.x0 30) om
  rw [timeR, List.length_cons]; omega
theorem fW {α : Type} {l : List α} {k : Nat} (hk : k ≤ l.length) (h : ¬ (k < l.length ∧ k < 12)) (h12 : k ≤ 12) : l.take k = l.take 12 := by
 by_cases h1 : k = 12
 ·rw [h1]
 ·rw [List.take_of_length_le om, List.take_of_length_le om]
def bentK (l : List Rec) (at_ : Int) : Nat := if l = [] then 0 else (pickI at_ (l.length : Int)).toNat
def aU (l : List Rec) (n : Int) : List Rec := if l = [] then [⟨n, 1, 0, 0, []⟩] else l
def bentR (x : Rec) (how n : Int) : Rec :=
 if pickI how 6 = 0 then x else if pickI how 6 = 1 then { x with t := n } else if pickI how 6 = 2 then { x with kind := n } else if pickI how 6 = 3 then { x with a := n } else if pickI how 6 = 4 then { x with b := n } else { x with text := List.replicate (150 + pickI n 100).toNat 0 }
def bentO (o how n : Int) : Int := if pickI how 6 = 0 then n else o
def bentL (l : List Rec) (how n at_ : Int) : List Rec := (aU l n).set (bentK l at_) (bentR ((aU l n).getD (bentK l at_) Rec.z) how n)
theorem nq (l : List Rec) (n at_ : Int) : bentK l at_ < (aU l n).length := by
 unfold bentK aU
 by_cases h : l = []
 ·rw [if_pos h, if_pos h]; simp
 ·rw [if_neg h, if_neg h]
  have h1 : 0 < l.length := List.length_pos_iff.2 h
  have := bw at_ (n := (l.length : Int)) om
  omega
theorem lR (l : List Rec) (how n at_ : Int) : (bentL l how n at_).length ≤ l.length + 1 := by
 unfold bentL aU
 rw [List.length_set]
 split <;> simp_all
theorem gL {α : Type} {l : List α} {k : Nat} {d : α} (h : k < l.length) : l.set k (l.getD k d) = l := by
 rw [List.getD_eq_getElem?_getD, List.getElem?_eq_getElem h]; simp
theorem fi {l : List Rec} {k j : Nat} {us : List Value} {y : Rec} (hk : k < l.length) (h : splice (l.getD k Rec.z).cells j us = y.cells) (hk2 : k < (l.map Rec.cells).length) : (l.map Rec.cells).set k (splice (l.map Rec.cells)[k] j us) = (l.set k y).map Rec.cells := by
 rw [List.map_set, ← h]
 congr 2
 rw [List.getElem_map, List.getD_eq_getElem?_getD, List.getElem?_eq_getElem hk]; rfl
def cutRec (x : Rec) : Rec := { x with text := x.text.take 201 }
def cutR (l : List Rec) : List Rec := (l.take 3).map cutRec
theorem nm (l : List Rec) : (cutR l).length ≤ 3 := by rw [cutR, List.length_map, List.length_take]; omega
theorem mS {l : List Rec} {k : Nat} (h : k < l.length) : (l.take (k + 1)).map cutRec = (l.take k).map cutRec ++ [cutRec (l.getD k Rec.z)] := by
 rw [cc Rec.z h, List.map_append]; rfl
theorem mR {s : By} {n : Nat} : s.take (min s.length n) = s.take n := by
 rw [Nat.min_def]; split
 ·rw [List.take_of_length_le (Nat.le_refl _), List.take_of_length_le om]
 ·rfl
def keyR (n : Int) : By := sha (putI (pickI n 1099511627776))
def exR : List Rec := [⟨10, 1, 7, -1, [110, 101, 119, 115]⟩, ⟨20, 2, 0, 5, []⟩, ⟨20, 1, 8, -1, []⟩]
theorem lN {P : Program} {w : World} {L : List (Nat × Value)} {dst : Option Tmp} {T T' ty : TypeId} {pos : String} {af : Array Edge} {gd : Option (Nat × Bool)} {x : Operand} {n : Int} (hx : ev L x = some (iv n)) (hs : (P.underlying T).isSome = true) (hd : P.underlying T' = some (.int .u8)) : OpV P ⟨dst, .convert T T' x, ty, pos, af, gd⟩ L w (yv (UInt8.ofNat (n % 256).toNat)) :=
 (dl hx hs hd).as (by
  have h1 : 0 ≤ n % 256 := Int.emod_nonneg _ de
  have h2 : n % 256 < 256 := Int.emod_lt_of_pos _ de
  have e : ((UInt8.ofNat (n % 256).toNat).toNat : Int) = n % 256 := by rw [nu om]; omega
  unfold yv
  rw [e]
  simp [IntKind.wrap, IntKind.signed, IntKind.bits])
theorem eh (t x0 x1 x2 x3 : Int) (w0 : World) (ht : i64 t) (h0 : i64 x0) (h1 : i64 x1) (h2 : i64 x2) (h3 : i64 x3) :
  Ret Tryd.prog 15 #[iv t, .agg #[iv x0, iv x1, iv x2, iv x3]] w0 fun v w => v = .agg #[iv ((entR t x0 x1 x2 x3).t), iv ((entR t x0 x1 x2 x3).kind), iv ((entR t x0 x1 x2 x3).a), iv ((entR t x0 x1 x2 x3).b), sv ((entR t x0 x1 x2 x3).text)] ∧ Ext No w0 w := by
 have hp4 := bw x3 (n := 4) de
 have hpa := bw x0 (n := 3) de
 have hpb := bw x1 (n := 200) de
 have hpc := bw x2 (n := 200) de
 refine aI func15 rfl ntmps15 (lb rfl) fun a Y => ?_
 replace Y := Y.p2 0 1 rfl
 replace U : St No w0 [] w0 := St.init w0
 refine aa fun K1 hK1 => bh Y U de rfl (cs := [iv x0, iv x1, iv x2, iv x3]) rfl ?_
 clear Y U
 intro a w1 Y U
 refine aC Y U de (zeroValue27 _) (cs := [iv 0, iv 0, iv 0, iv 0, .string (⟨#[]⟩)]) rfl ?_
 clear Y U
 intro a w2 Y U
 refine ab (hK1 _ _ <| ac fun K2 hK2 => ?_)
 refine aO kr (aP kr fun w3 hxz => ?_)
 replace U := U.grow hxz
 refine aS (k := 0) 16 [14, 15] Y kr kr kr rfx ?_
 replace Y := Y.p4 0 1 3 4 rfl
 refine aA [15] (fun i => match i with | 15 => pm (fun b : Nat => pq b) (fun b => [blk b [iv 0, iv 0, iv 0, iv 0, .string (⟨#[]⟩)] 27]) (fun _ => True) | _ => fun _ _ => False) 16 [[], [0], [], [2], [3], [4], [], [6], [7], [8], [], [10], [11], [12], [1, 5, 9, 13], []] [iv t, iv (pickI t 10000001), pq w0.hz, iv x0, iv (pickI x0 3), iv (1 + (pickI x0 3)), po w0.hz 1, iv x1, iv (pickI x1 200), iv ((pickI x1 200) - 1), po w0.hz 2, iv x2, iv (pickI x2 200), iv ((pickI x2 200) - 1), .agg #[iv (pickI t 10000001), iv (1 + (pickI x0 3)), iv ((pickI x1 200) - 1), iv ((pickI x2 200) - 1), .string (⟨#[]⟩)], undef] Y U kr kr kr ?_ ?_ ?_
 ·intro i hi hiq
  match i, hi, hiq with
  | 0, _, _ => exact fun w U => OpV.g (ai rfl)
  | 1, _, _ => exact fun w U => aT call44 rfl (bN t 10000001 _ (by first | assumption | (unfold i64 at *; omega) | omega) om)
  | 2, _, _ => exact fun w U => OpV.g (aN (v := pq w0.hz) rfl rfl kr)
  | 3, _, _ => exact fun w U => OpV.g (ld U 1 rfl rfl (isAgg3 _) rfl)
  | 4, _, _ => exact fun w U => aT call44 rfl (bN x0 3 _ (by first | assumption | (unfold i64 at *; omega) | omega) om)
  | 5, _, _ => exact fun w U => OpV.g (aM rfl rfl ⟨om, om⟩)
  | 6, _, _ => exact fun w U => OpV.g (aN (v := po w0.hz 1) rfl rfl kr)
  | 7, _, _ => exact fun w U => OpV.g (ld U 1 rfl rfl (isAgg3 _) rfl)
  | 8, _, _ => exact fun w U => aT call44 rfl (bN x1 200 _ (by first | assumption | (unfold i64 at *; omega) | omega) om)
  | 9, _, _ => exact fun w U => OpV.g (bq rfl rfl ⟨om, om⟩)
  | 10, _, _ => exact fun w U => OpV.g (aN (v := po w0.hz 2) rfl rfl kr)
  | 11, _, _ => exact fun w U => OpV.g (ld U 1 rfl rfl (isAgg3 _) rfl)
  | 12, _, _ => exact fun w U => aT call44 rfl (bN x2 200 _ (by first | assumption | (unfold i64 at *; omega) | omega) om)
  | 13, _, _ => exact fun w U => OpV.g (bq rfl rfl ⟨om, om⟩)
  | 14, _, _ => exact fun w U => OpV.g (aZ (v := .agg #[iv (pickI t 10000001), iv (1 + (pickI x0 3)), iv ((pickI x1 200) - 1), iv ((pickI x2 200) - 1), .string (⟨#[]⟩)]) rfl kr)
  | 15, _, h => exact absurd sm h
  | i + 16, h, _ => exact absurd h om
 ·intro i hi
  simp only [List.mem_cons, List.not_mem_nil, or_false] at hi
  subst hi
  ·intro w U
   exact eU (zeroValue27 _) (cs := [iv 0, iv 0, iv 0, iv 0, .string (⟨#[]⟩)]) rfl
 clear Y U
 rintro _ _ ⟨b1, rfl, -, rfl⟩ a w4 Y U
 replace Y : Fr 43 [(7, iv t), (8, iv (pickI t 10000001)), (9, pq w0.hz), (10, iv x0), (11, iv (pickI x0 3)), (12, iv (1 + (pickI x0 3))), (13, po w0.hz 1), (14, iv x1), (15, iv (pickI x1 200)), (16, iv ((pickI x1 200) - 1)), (17, po w0.hz 2), (18, iv x2), (19, iv (pickI x2 200)), (20, iv ((pickI x2 200) - 1)), (21, .agg #[iv (pickI t 10000001), iv (1 + (pickI x0 3)), iv ((pickI x1 200) - 1), iv ((pickI x2 200) - 1), .string (⟨#[]⟩)]), (5, _), (0, _), (1, _), (3, _), (4, _)] [] a := Y
 replace U : St No w0 [_, _, _] w4 := U
 refine ab <| aQ (k := 16) 17 [16] kr kr kr ?_
 refine ay 0 Y U rfl rfl rfl (sizeOf27 _) rfl (lb rfl) (ds := [iv (pickI t 10000001), iv (1 + (pickI x0 3)), iv ((pickI x1 200) - 1), iv ((pickI x2 200) - 1), .string (⟨#[]⟩)]) rfl rfl ?_
 clear Y U
 intro a w5 Y U
 refine ab <| bd kr ?_
 refine hK2 _ _ ?_
 replace Y := Y.p3 3 4 5 rfl
 refine ac fun K3 hK3 => aa fun K4 hK4 => wla Y rfl fun a Y => ab (hK4 _ _ <| ap ?_)
 refine aV (fun m a w => ∃ (k : Nat), m = (pickI x3 4).toNat - k ∧ ((k : Int) ≤ pickI x3 4) ∧ Fr 43 [(3, pq w0.hz), (4, pq w1.hz), (5, pq b1), (6, iv (k : Int))] [] a ∧ St No w0 [blk b1 [iv (pickI t 10000001), iv (1 + (pickI x0 3)), iv ((pickI x1 200) - 1), iv ((pickI x2 200) - 1), sv (textR x3 k)] 27, blk w1.hz [iv 0, iv 0, iv 0, iv 0, .string (⟨#[]⟩)] 27, blk w0.hz [iv x0, iv x1, iv x2, iv x3] 37] w) _ ⟨0, rfl, hp4.1, Y.pick [3, 4, 5, 6], U.select [0, 1, 2] de⟩ ?_
 rintro _ a w6 ⟨k, rfl, hk, Y, U⟩
 refine ac fun K5 hK5 => aa fun K6 hK6 => wlm Y rfl fun a Y => wlv Y (aN (v := po w0.hz 3) rfl rfl kr) fun a Y => wlv Y (ld U 2 rfl rfl (isAgg3 _) rfl) fun a Y => am Y U de call44 rfl (bN x3 4 _ (by first | assumption | (unfold i64 at *; omega) | omega) om) ?_
 clear Y U
 intro a w7 Y U
 refine wlv Y (v_lt rfl rfl) fun a Y => ab (hK6 _ _ ?_)
 refine az Y rfl (fun hc2 => ?_) (fun hc2 => ?_)
 ·rw [hc2] at Y
  try simp only [qz] at hc2
  have hk4 : k < 4 := by omega
  have htl := fu x3 k
  have htl2 := bw (x3.tdiv (4 + (k : Int))) (n := 256) de
  have htd := oM h3 (b := 4 + (k : Int)) om
  refine aq <| hK5 _ _ <| ac fun K7 hK7 => ap <| aO kr (aP kr fun w8 hxz => ?_)
  replace U := U.grow hxz
  refine aS (k := 0) 11 [1, 10] Y kr kr kr rfx ?_
  replace Y := Y.p9 3 4 5 6 22 23 24 25 26 rfl
  refine aA [9] (fun i => match i with | 9 => pm (fun b : Nat => .slice (some ⟨b, 0, none⟩) 1 1) (fun b => [own (.slice (some ⟨b, 0, none⟩) 1 1) 5 1 [[yv (UInt8.ofNat (pickI (x3.tdiv (4 + (k : Int))) 256).toNat)]]]) (fun _ => True) | _ => fun _ _ => False) 11 [[], [0], [], [2], [], [4], [3, 5], [6], [7], [8], [9]] [po b1 4, sv (textR x3 k), po w0.hz 3, iv x3, iv (k : Int), iv (4 + (k : Int)), iv (x3.tdiv (4 + (k : Int))), iv (pickI (x3.tdiv (4 + (k : Int))) 256), yv (UInt8.ofNat (pickI (x3.tdiv (4 + (k : Int))) 256).toNat), undef, sv ([(UInt8.ofNat (pickI (x3.tdiv (4 + (k : Int))) 256).toNat)])] Y U kr kr kr ?_ ?_ ?_
  ·intro i hi hiq
   match i, hi, hiq with
   | 0, _, _ => exact fun w U => OpV.g (al (v := po b1 4) rfl kr)
   | 1, _, _ => exact fun w U => OpV.g (ld U 0 rfl rfl (isAgg9 _) rfl)
   | 2, _, _ => exact fun w U => OpV.g (aN (v := po w0.hz 3) rfl rfl kr)
   | 3, _, _ => exact fun w U => OpV.g (ld U 2 rfl rfl (isAgg3 _) rfl)
   | 4, _, _ => exact fun w U => OpV.g (ai rfl)
   | 5, _, _ => exact fun w U => OpV.g (aM rfl rfl ⟨om, om⟩)
   | 6, _, _ => exact fun w U => OpV.g (pu rfl rfl om h3)
   | 7, _, _ => exact fun w U => aT call44 rfl (bN (x3.tdiv (4 + (k : Int))) 256 _ (by first | assumption | (unfold i64 at *; omega) | omega) om)
   | 8, _, _ => exact fun w U => OpV.g ((lN (n := pickI (x3.tdiv (4 + (k : Int))) 256) rfl kr underlying5).as (v' := yv (UInt8.ofNat (pickI (x3.tdiv (4 + (k : Int))) 256).toNat)) (by have hp := bw (x3.tdiv (4 + (k : Int))) (n := 256) de; rw [Int.emod_eq_of_lt hp.1 hp.2]))
   | 9, _, h => exact absurd sm h
   | 10, _, _ =>
    rintro _ _ ⟨b3, rfl, -, rfl⟩
    intro w U
    exact OpV.g (dh (xs := [(UInt8.ofNat (pickI (x3.tdiv (4 + (k : Int))) 256).toNat)]) (U.ow 0 rfl) rfl underlying71 underlying5 underlying9)
  ·intro i hi
   simp only [List.mem_cons, List.not_mem_nil, or_false] at hi
   subst hi
   ·intro w U
    exact aY (E := 5) (sz := 1) rfl [[yv (UInt8.ofNat (pickI (x3.tdiv (4 + (k : Int))) 256).toNat)]] (fun _ => by kernel_rfl) sm rfl de
  clear Y U
  rintro _ _ ⟨b3, rfl, -, rfl⟩ a w9 Y U
  replace Y : Fr 43 [(29, po b1 4), (30, sv (textR x3 k)), (31, po w0.hz 3), (32, iv x3), (33, iv (k : Int)), (34, iv (4 + (k : Int))), (35, iv (x3.tdiv (4 + (k : Int)))), (36, iv (pickI (x3.tdiv (4 + (k : Int))) 256)), (37, yv (UInt8.ofNat (pickI (x3.tdiv (4 + (k : Int))) 256).toNat)), (38, _), (39, sv ([(UInt8.ofNat (pickI (x3.tdiv (4 + (k : Int))) 256).toNat)])), (3, _), (4, _), (5, _), (6, _), (22, _), (23, _), (24, _), (25, _), (26, _)] [] a := Y
  replace U : St No w0 [_, _, _, _] w9 := U
  refine ab <| aQ (k := 11) 14 [13] kr kr kr ?_
  refine wlv Y (cZ rfl rfl (by simp only [List.length_cons, List.length_nil]; omega)) fun a Y => wlv Y (al (v := po b1 4) rfl kr) fun a Y => ay 1 Y U rfl rfl rfl (sizeOf9 _) rfl (lb rfl) (ds := [iv (pickI t 10000001), iv (1 + (pickI x0 3)), iv ((pickI x1 200) - 1), iv ((pickI x2 200) - 1), sv ((textR x3 k) ++ ([(UInt8.ofNat (pickI (x3.tdiv (4 + (k : Int))) 256).toNat)]))]) rfl rfl ?_
  clear Y U
  intro a w10 Y U
  refine ab <| bd kr ?_
  refine hK7 _ _ ?_
  replace Y := Y.p4 3 4 5 6 rfl
  replace U := U.k3 14 rfl
  refine ao <| wlm Y rfl fun a Y => wlv Y (aM rfl rfl ⟨om, om⟩) fun a Y => wla Y rfl fun a Y => ab ?_
  refine ⟨_, ?_, k + 1, rfl, om, Y.pick [3, 4, 5, 6], U.select [0, 1, 2] de⟩
  omega
 rw [hc2] at Y
 try simp only [qz] at hc2
 refine aL <| hK3 _ _ <| aa fun K8 hK8 => wlv Y (aj (U.g 0 rfl) rfl (isAgg27 _) (sizeOf27 _)) fun a Y => ay 1 Y U rfl rfl rfl (sizeOf27 _) rfl (lb rfl) (ds := [iv (pickI t 10000001), iv (1 + (pickI x0 3)), iv ((pickI x1 200) - 1), iv ((pickI x2 200) - 1), sv (textR x3 k)]) rfl rfl ?_
 clear Y U
 intro a w11 Y U
 refine ab (hK8 _ _ ?_)
 replace Y := Y.p1 4 rfl
 replace U := U.k1 2 rfl
 refine au ?_
 refine ar Y results15 (aH rfl (bj (U.g 0 rfl) (isAgg27 _) (sizeOf27 _)) ah) ?_
 have hke : k = (pickI x3 4).toNat := by omega
 exact ⟨by simp only [retv]; unfold entR; rw [← hke], U.ext⟩
theorem mK (owner : Int) (xv : Value) (ys : List Rin) (w0 : World) (hxv : SlAt w0 xv 5 (ys.map Rin.cells)) (hys : ∀ y ∈ ys, y.wt) (how : i64 owner) :
  Ret Tryd.prog 10 #[iv owner, xv] w0 (MemR w0 (fun v : Value => .agg #[iv (pickI owner 100), v]) (fun v => [own v 27 5 ((madeR ys).map Rec.cells)]) (fun _ => True)) := by
 have hxb := hxv.2.1
 simp only [List.length_map, big] at hxb
 refine aI func10 rfl ntmps10 (lb rfl) fun a Y => ?_
 replace Y := Y.p2 0 1 rfl
 replace U : St No w0 [] w0 := St.init w0
 refine aa fun K1 hK1 => aC Y U de (zeroValue25 _) (cs := [iv 0, .slice none 0 0]) rfl ?_
 clear Y U
 intro a w1 Y U
 refine ab (hK1 _ _ <| aa fun K2 hK2 => ?_)
 refine wlm Y rfl fun a Y => am Y U de call44 rfl (bN owner 100 _ (by first | assumption | (unfold i64 at *; omega) | omega) om) ?_
 clear Y U
 intro a w2 Y U
 refine wlv Y (aZ (v := .agg #[iv (pickI owner 100), .slice none 0 0]) rfl kr) fun a Y => aC Y U de (zeroValue25 _) (cs := [iv 0, .slice none 0 0]) rfl ?_
 clear Y U
 intro a w3 Y U
 refine ay 0 Y U rfl rfl rfl (sizeOf25 _) rfl (lb rfl) (ds := [iv (pickI owner 100), .slice none 0 0]) rfl rfl ?_
 clear Y U
 intro a w4 Y U
 refine ab (hK2 _ _ <| aa fun K3 hK3 => ?_)
 refine wla Y rfl fun a Y => ab (hK3 _ _ <| ac fun K4 hK4 => ?_)
 refine aa fun K5 hK5 => wla Y rfl fun a Y => ab (hK5 _ _ <| ap ?_)
 replace U : St No w0 [own (.slice none 0 0) 27 5 ((recsR 0 (ys.take 0)).map Rec.cells), blk w2.hz [iv (pickI owner 100), .slice none 0 0] 25, blk w0.hz [iv 0, .slice none 0 0] 25] w4 := U.nil_own
 refine aV (fun m a w => ∃ (k : Nat) (v : Value), m = 12 - k ∧ (k ≤ ys.length) ∧ (k ≤ 12) ∧ Fr 58 [(1, xv), (4, pq w0.hz), (5, pq w2.hz), (6, iv (timeR 0 (ys.take k))), (7, iv (k : Int))] [] a ∧ St No w0 [blk w2.hz [iv (pickI owner 100), v] 25, blk w0.hz [iv 0, .slice none 0 0] 25, own v 27 5 ((recsR 0 (ys.take k)).map Rec.cells)] w) _ ⟨0, .slice none 0 0, rfl, Nat.zero_le _, de, Y.pick [1, 4, 5, 6, 7], U.select [1, 2, 0] de⟩ ?_
 rintro _ a w5 ⟨k, v, rfl, hk, hk12, Y, U⟩
 refine ac fun K6 hK6 => aa fun K7 hK7 => wlm Y rfl fun a Y => wlm Y rfl fun a Y => wlv Y ((aK (sT := 22) (U.arg hxv) rfl rfl (runUnderlying22 _)).asi (m' := (ys.length : Int)) (by rw [List.length_map])) fun a Y => wlv Y (v_lt rfl rfl) fun a Y => wlm Y rfl fun a Y => ?_
 rcases Bool.eq_false_or_eq_true (decide ((k : Int) < (ys.length : Int))) with hb1 | hb1
 ·rw [hb1] at Y
  try simp only [qz] at hb1
  have hky : k < ys.length := by omega
  refine wly Y (ai rfl) fun a Y => wly Y (v_lt rfl rfl) fun a Y => wlv Y (aB rfl rfl) fun a Y => ab (hK7 _ _ ?_)
  replace Y := Y.p6 1 4 5 6 7 18 rfl
  refine az Y rfl (fun hc2 => ?_) (fun hc2 => ?_)
  ·rw [hc2] at Y
   try simp only [qz] at hc2
   obtain ⟨y, hy⟩ : ∃ y, ys.getD k Rin.z = y := ⟨_, rfl⟩
   obtain ⟨hy0, hy1, hy2, hy3, hy4⟩ : y.wt := by rw [← hy]; exact hys _ (bF hky)
   have htm := jp (ys.take k) 0 om
   rw [List.length_take] at htm
   have hp30 := bw y.x0 (n := 30) de
   refine aq <| hK6 _ _ <| ac fun K8 hK8 => ap <| aa fun K9 hK9 => wlm Y rfl fun a Y => wlm Y rfl fun a Y => wlm Y rfl fun a Y => wlv Y ((ak (i := (k : Int)) (sT := 22) (U.arg hxv) rfl rfl (runUnderlying22 _) (sizeOf75 _) om (by rw [List.length_map]; omega)).as (v' := slAddr xv (k * 5)) rfl) fun a Y => wlv Y (ca (k := k * 5) (j := 0) (U.arg hxv) (i := k) (by rw [List.length_map]; omega) rfl rfl (fun _ _ => by kernel_rfl)) fun a Y => wlv Y (ax (u := iv y.x0) (i := k) (j := 0) (U.arg hxv) (by rw [List.length_map]; omega) rfl (isAgg3 _) (by rw [br Rin.z, hy]; rfl)) fun a Y => am Y U de call44 rfl (bN y.x0 30 _ (by first | assumption | (unfold i64 at *; omega) | omega) om) ?_
   clear Y U
   intro a w6 Y U
   refine wlv Y (aM rfl rfl ⟨om, om⟩) fun a Y => wla Y rfl fun a Y => ab (hK9 _ _ ?_)
   replace Y := Y.p5 1 4 5 7 6 rfl
   refine aO kr (aP kr fun w7 hxz => ?_)
   replace U := U.grow hxz
   refine aS (k := 0) 26 [1, 25] Y kr kr kr rfx ?_
   replace Y := Y.p5 1 4 5 7 6 rfl
   refine aA [25] (fun i => match i with | 25 => pm (fun b : Nat => .slice (some ⟨b, 0, none⟩) 1 1) (fun b => [own (.slice (some ⟨b, 0, none⟩) 1 1) 27 5 [[iv ((entR ((timeR 0 (ys.take k)) + (pickI y.x0 30)) y.x1 y.x2 y.x3 y.x4).t), iv ((entR ((timeR 0 (ys.take k)) + (pickI y.x0 30)) y.x1 y.x2 y.x3 y.x4).kind), iv ((entR ((timeR 0 (ys.take k)) + (pickI y.x0 30)) y.x1 y.x2 y.x3 y.x4).a), iv ((entR ((timeR 0 (ys.take k)) + (pickI y.x0 30)) y.x1 y.x2 y.x3 y.x4).b), sv ((entR ((timeR 0 (ys.take k)) + (pickI y.x0 30)) y.x1 y.x2 y.x3 y.x4).text)]]]) (fun _ => True) | _ => fun _ _ => False) 26 [[], [0], [], [], [], [3, 4], [5], [6], [], [], [8, 9], [10], [11], [], [], [13, 14], [15], [16], [], [], [18, 19], [20], [21], [7, 12, 17, 22], [2, 23], [24]] [po w2.hz 1, v, iv ((timeR 0 (ys.take k)) + (pickI y.x0 30)), xv, iv (k : Int), slAddr xv (k * 5), slAddr xv (k * 5 + 1), iv y.x1, xv, iv (k : Int), slAddr xv (k * 5), slAddr xv (k * 5 + 2), iv y.x2, xv, iv (k : Int), slAddr xv (k * 5), slAddr xv (k * 5 + 3), iv y.x3, xv, iv (k : Int), slAddr xv (k * 5), slAddr xv (k * 5 + 4), iv y.x4, .agg #[iv y.x1, iv y.x2, iv y.x3, iv y.x4], .agg #[iv ((entR ((timeR 0 (ys.take k)) + (pickI y.x0 30)) y.x1 y.x2 y.x3 y.x4).t), iv ((entR ((timeR 0 (ys.take k)) + (pickI y.x0 30)) y.x1 y.x2 y.x3 y.x4).kind), iv ((entR ((timeR 0 (ys.take k)) + (pickI y.x0 30)) y.x1 y.x2 y.x3 y.x4).a), iv ((entR ((timeR 0 (ys.take k)) + (pickI y.x0 30)) y.x1 y.x2 y.x3 y.x4).b), sv ((entR ((timeR 0 (ys.take k)) + (pickI y.x0 30)) y.x1 y.x2 y.x3 y.x4).text)], undef] Y U kr kr kr ?_ ?_ ?_
   ·intro i hi hiq
    match i, hi, hiq with
    | 0, _, _ => exact fun w U => OpV.g (al (v := po w2.hz 1) rfl kr)
    | 1, _, _ => exact fun w U => OpV.g (ld U 0 rfl rfl (isAgg23 _) rfl)
    | 2, _, _ => exact fun w U => OpV.g (ai rfl)
    | 3, _, _ => exact fun w U => OpV.g (ai rfl)
    | 4, _, _ => exact fun w U => OpV.g (ai rfl)
    | 5, _, _ => exact fun w U => OpV.g ((ak (i := (k : Int)) (sT := 22) (U.arg hxv) rfl rfl (runUnderlying22 _) (sizeOf75 _) om (by rw [List.length_map]; omega)).as (v' := slAddr xv (k * 5)) rfl)
    | 6, _, _ => exact fun w U => OpV.g (ca (k := k * 5) (j := 1) (U.arg hxv) (i := k) (by rw [List.length_map]; omega) rfl rfl (fun _ _ => by kernel_rfl))
    | 7, _, _ => exact fun w U => OpV.g (ax (u := iv y.x1) (i := k) (j := 1) (U.arg hxv) (by rw [List.length_map]; omega) rfl (isAgg3 _) (by rw [br Rin.z, hy]; rfl))
    | 8, _, _ => exact fun w U => OpV.g (ai rfl)
    | 9, _, _ => exact fun w U => OpV.g (ai rfl)
    | 10, _, _ => exact fun w U => OpV.g ((ak (i := (k : Int)) (sT := 22) (U.arg hxv) rfl rfl (runUnderlying22 _) (sizeOf75 _) om (by rw [List.length_map]; omega)).as (v' := slAddr xv (k * 5)) rfl)
    | 11, _, _ => exact fun w U => OpV.g (ca (k := k * 5) (j := 2) (U.arg hxv) (i := k) (by rw [List.length_map]; omega) rfl rfl (fun _ _ => by kernel_rfl))
    | 12, _, _ => exact fun w U => OpV.g (ax (u := iv y.x2) (i := k) (j := 2) (U.arg hxv) (by rw [List.length_map]; omega) rfl (isAgg3 _) (by rw [br Rin.z, hy]; rfl))
    | 13, _, _ => exact fun w U => OpV.g (ai rfl)
    | 14, _, _ => exact fun w U => OpV.g (ai rfl)
    | 15, _, _ => exact fun w U => OpV.g ((ak (i := (k : Int)) (sT := 22) (U.arg hxv) rfl rfl (runUnderlying22 _) (sizeOf75 _) om (by rw [List.length_map]; omega)).as (v' := slAddr xv (k * 5)) rfl)
    | 16, _, _ => exact fun w U => OpV.g (ca (k := k * 5) (j := 3) (U.arg hxv) (i := k) (by rw [List.length_map]; omega) rfl rfl (fun _ _ => by kernel_rfl))
    | 17, _, _ => exact fun w U => OpV.g (ax (u := iv y.x3) (i := k) (j := 3) (U.arg hxv) (by rw [List.length_map]; omega) rfl (isAgg3 _) (by rw [br Rin.z, hy]; rfl))
    | 18, _, _ => exact fun w U => OpV.g (ai rfl)
    | 19, _, _ => exact fun w U => OpV.g (ai rfl)
    | 20, _, _ => exact fun w U => OpV.g ((ak (i := (k : Int)) (sT := 22) (U.arg hxv) rfl rfl (runUnderlying22 _) (sizeOf75 _) om (by rw [List.length_map]; omega)).as (v' := slAddr xv (k * 5)) rfl)
    | 21, _, _ => exact fun w U => OpV.g (ca (k := k * 5) (j := 4) (U.arg hxv) (i := k) (by rw [List.length_map]; omega) rfl rfl (fun _ _ => by kernel_rfl))
    | 22, _, _ => exact fun w U => OpV.g (ax (u := iv y.x4) (i := k) (j := 4) (U.arg hxv) (by rw [List.length_map]; omega) rfl (isAgg3 _) (by rw [br Rin.z, hy]; rfl))
    | 23, _, _ => exact fun w U => OpV.g (aZ (v := .agg #[iv y.x1, iv y.x2, iv y.x3, iv y.x4]) rfl kr)
    | 24, _, _ => exact fun w U => aT call15 rfl (eh ((timeR 0 (ys.take k)) + (pickI y.x0 30)) y.x1 y.x2 y.x3 y.x4 _ (by unfold i64; omega) (by assumption) (by assumption) (by assumption) (by assumption))
    | 25, _, h => exact absurd sm h
    | i + 26, h, _ => exact absurd h om
   ·intro i hi
    simp only [List.mem_cons, List.not_mem_nil, or_false] at hi
    subst hi
    ·intro w U
     exact aY (E := 27) (sz := 5) rfl [[iv ((entR ((timeR 0 (ys.take k)) + (pickI y.x0 30)) y.x1 y.x2 y.x3 y.x4).t), iv ((entR ((timeR 0 (ys.take k)) + (pickI y.x0 30)) y.x1 y.x2 y.x3 y.x4).kind), iv ((entR ((timeR 0 (ys.take k)) + (pickI y.x0 30)) y.x1 y.x2 y.x3 y.x4).a), iv ((entR ((timeR 0 (ys.take k)) + (pickI y.x0 30)) y.x1 y.x2 y.x3 y.x4).b), sv ((entR ((timeR 0 (ys.take k)) + (pickI y.x0 30)) y.x1 y.x2 y.x3 y.x4).text)]] (fun _ => by kernel_rfl) sm rfl de
   clear Y U
   rintro _ _ ⟨b3, rfl, -, rfl⟩ a w8 Y U
   replace Y : Fr 58 [(29, po w2.hz 1), (30, v), (31, iv ((timeR 0 (ys.take k)) + (pickI y.x0 30))), (32, xv), (33, iv (k : Int)), (34, slAddr xv (k * 5)), (35, slAddr xv (k * 5 + 1)), (36, iv y.x1), (37, xv), (38, iv (k : Int)), (39, slAddr xv (k * 5)), (40, slAddr xv (k * 5 + 2)), (41, iv y.x2), (42, xv), (43, iv (k : Int)), (44, slAddr xv (k * 5)), (45, slAddr xv (k * 5 + 3)), (46, iv y.x3), (47, xv), (48, iv (k : Int)), (49, slAddr xv (k * 5)), (50, slAddr xv (k * 5 + 4)), (51, iv y.x4), (52, .agg #[iv y.x1, iv y.x2, iv y.x3, iv y.x4]), (53, .agg #[iv ((entR ((timeR 0 (ys.take k)) + (pickI y.x0 30)) y.x1 y.x2 y.x3 y.x4).t), iv ((entR ((timeR 0 (ys.take k)) + (pickI y.x0 30)) y.x1 y.x2 y.x3 y.x4).kind), iv ((entR ((timeR 0 (ys.take k)) + (pickI y.x0 30)) y.x1 y.x2 y.x3 y.x4).a), iv ((entR ((timeR 0 (ys.take k)) + (pickI y.x0 30)) y.x1 y.x2 y.x3 y.x4).b), sv ((entR ((timeR 0 (ys.take k)) + (pickI y.x0 30)) y.x1 y.x2 y.x3 y.x4).text)]), (54, _), (1, _), (4, _), (5, _), (7, _), (6, _)] [] a := Y
   replace U : St No w0 [_, _, _, _] w8 := U
   refine ab <| aQ (k := 26) 29 [28] kr kr kr ?_
   refine bf (i := 3) (sT := 23) (inf := Tryd.t27) (z := .agg #[iv 0, iv 0, iv 0, iv 0, .string (⟨#[]⟩)]) (b := 0) (off := 0) (m := 0) (c := 0) rfl rfl rfl (U.ow 0 rfl) sm underlying23 rfl rfl rfl rfl de (by simp [Value.oneCell', yv, wv, sv]) (by have hby : Tryd.t27.bytes = 48 := rfl; simp only [big, hby, List.length_append, List.length_map, c9, List.length_take, List.length_cons, List.length_nil]; omega) (by have hby : Tryd.t27.bytes = 48 := rfl; simp only [big, hby, List.length_append, List.length_map, c9, List.length_take, List.length_cons, List.length_nil]; omega) de Y U fun a w9 s4 Y U _ => wlv Y (al (v := po w2.hz 1) rfl kr) fun a Y => cf 1 Y U (U.ow 3 rfl) rfl rfl rfl (sizeOf23 _) (lb rfl) (ds := [iv (pickI owner 100), s4]) rfl rfl ?_
   clear Y U
   intro a w10 Y U
   refine ab <| bd kr ?_
   refine hK8 _ _ ?_
   replace Y := Y.p5 1 4 5 7 6 rfl
   replace U := U.k3 14 rfl
   rw [show ((recsR 0 (ys.take k)).map Rec.cells) ++ ([[iv ((entR ((timeR 0 (ys.take k)) + (pickI y.x0 30)) y.x1 y.x2 y.x3 y.x4).t), iv ((entR ((timeR 0 (ys.take k)) + (pickI y.x0 30)) y.x1 y.x2 y.x3 y.x4).kind), iv ((entR ((timeR 0 (ys.take k)) + (pickI y.x0 30)) y.x1 y.x2 y.x3 y.x4).a), iv ((entR ((timeR 0 (ys.take k)) + (pickI y.x0 30)) y.x1 y.x2 y.x3 y.x4).b), sv ((entR ((timeR 0 (ys.take k)) + (pickI y.x0 30)) y.x1 y.x2 y.x3 y.x4).text)]]) = ((recsR 0 (ys.take (k + 1))).map Rec.cells) from by rw [cc Rin.z hky, gu, hy, List.map_append]; rfl] at U
   rw [show timeR 0 (ys.take k) + pickI y.x0 30 = timeR 0 (ys.take (k + 1)) from by rw [cc Rin.z hky, gr, hy]] at Y
   refine ao <| wlm Y rfl fun a Y => wlv Y (aM rfl rfl ⟨om, om⟩) fun a Y => wla Y rfl fun a Y => ab ?_
   refine ⟨_, ?_, k + 1, s4, rfl, om, om, Y.pick [1, 4, 5, 6, 7], U.select [0, 1, 2] de⟩
   omega
  rw [hc2] at Y
  try simp only [qz] at hc2
  have htk := fW hk om hk12
  refine aL <| hK4 _ _ <| aa fun K10 hK10 => wlv Y (aj (U.g 0 rfl) rfl (isAgg25 _) (sizeOf25 _)) fun a Y => aJ (us := [iv (pickI owner 100), v]) 1 Y U rfl rfl rfl (sizeOf25 _) (by intro z hz; simp only [List.mem_cons, List.not_mem_nil, or_false] at hz; rcases hz with rfl | rfl <;> first | rfl | exact SlAt.one (U.ow 2 rfl)) (lb rfl) (ds := [iv (pickI owner 100), v]) rfl rfl ?_
  clear Y U
  intro a w11 Y U
  refine ab (hK10 _ _ ?_)
  replace Y := Y.p1 4 rfl
  replace U := U.k2 6 rfl
  refine au ?_
  refine ar Y results10 (aH rfl (bj (U.g 0 rfl) (isAgg25 _) (sizeOf25 _)) ah) ?_
  rw [htk] at U
  exact ⟨v, rfl, trivial, U.ext, St.out (E := [own v 27 5 ((madeR ys).map Rec.cells)]) (H := []) (U.select [1] de)⟩
 rw [hb1] at Y
 try simp only [qz] at hb1
 have htk := fW hk om hk12
 refine wln Y fun a Y => wln Y fun a Y => wlv Y (aw rfl rfl) fun a Y => ab (hK7 _ _ ?_)
 replace Y := Y.p6 1 4 5 6 7 18 rfl
 refine aE Y rfl ?_
 refine aL <| hK4 _ _ <| aa fun K11 hK11 => wlv Y (aj (U.g 0 rfl) rfl (isAgg25 _) (sizeOf25 _)) fun a Y => aJ (us := [iv (pickI owner 100), v]) 1 Y U rfl rfl rfl (sizeOf25 _) (by intro z hz; simp only [List.mem_cons, List.not_mem_nil, or_false] at hz; rcases hz with rfl | rfl <;> first | rfl | exact SlAt.one (U.ow 2 rfl)) (lb rfl) (ds := [iv (pickI owner 100), v]) rfl rfl ?_
 clear Y U
 intro a w12 Y U
 refine ab (hK11 _ _ ?_)
 replace Y := Y.p1 4 rfl
 replace U := U.k2 6 rfl
 refine au ?_
 refine ar Y results10 (aH rfl (bj (U.g 0 rfl) (isAgg25 _) (sizeOf25 _)) ah) ?_
 rw [htk] at U
 exact ⟨v, rfl, trivial, U.ext, St.out (E := [own v 27 5 ((madeR ys).map Rec.cells)]) (H := []) (U.select [1] de)⟩
theorem nX (n : Int) (w0 : World) (hn : i64 n) :
  Ret Tryd.prog 35 #[iv n] w0 fun v w => v = sv (keyR n) ∧ Ext No w0 w := by
 have hp := bw n (n := 1099511627776) de
 have hq := bE (pickI n 1099511627776)
 refine aI func35 rfl ntmps35 (lb rfl) fun a Y => ?_
 replace Y := Y.p1 0 rfl
 replace U : St No w0 [] w0 := St.init w0
 refine aa fun K1 hK1 => wla Y rfl fun a Y => ab (hK1 _ _ <| aa fun K2 hK2 => ?_)
 refine wlm Y rfl fun a Y => am Y U de call44 rfl (bN n 1099511627776 _ (by first | assumption | (unfold i64 at *; omega) | omega) om) ?_
 clear Y U
 intro a w1 Y U
 refine am Y U de call53 rfl (cy (pickI n 1099511627776) _ (by unfold small; omega)) ?_
 clear Y U
 intro a w2 Y U
 refine wlm Y rfl fun a Y => wlv Y (ag rfl rfl) fun a Y => wlv Y (ag rfl rfl) fun a Y => wla Y rfl fun a Y => wla Y rfl fun a Y => ab (hK2 _ _ ?_)
 replace Y := Y.p2 2 3 rfl
 refine aa fun K3 hK3 => wlm Y rfl fun a Y => am Y U de call70 rfl (oi (putI (pickI n 1099511627776)) _ om) ?_
 clear Y U
 intro a w3 Y U
 refine wla Y rfl fun a Y => ab (hK3 _ _ <| au ?_)
 refine ar Y results35 (ae rfl ah) ?_
 exact ⟨by rfl, U.ext⟩
theorem mU (o : Int) (lv : Value) (l : List Rec) (how n at_ : Int) (w0 : World) (hlv : SlAt w0 lv 5 (l.map Rec.cells)) (hll : l.length ≤ 1000) (hh : i64 how) (hn : i64 n) (ha : i64 at_) :
  Ret Tryd.prog 11 #[.agg #[iv o, lv], iv how, iv n, iv at_] w0 (MemR w0 (fun v : Value => .agg #[iv (bentO o how n), v]) (fun v => [own v 27 5 ((bentL l how n at_).map Rec.cells)]) (fun _ => True)) := by
 have hp6 := bw how (n := 6) de
 have hp100 := bw n (n := 100) de
 have hKlt := nq l n at_
 refine aI func11 rfl ntmps11 (lb rfl) fun a Y => ?_
 replace Y := Y.p4 0 1 2 3 rfl
 replace U : St No w0 [] w0 := St.init w0
 refine aa fun K1 hK1 => bh Y U de rfl (cs := [iv o, lv]) rfl ?_
 clear Y U
 intro a w1 Y U
 refine aC Y U de (zeroValue25 _) (cs := [iv 0, .slice none 0 0]) rfl ?_
 clear Y U
 intro a w2 Y U
 refine ab (hK1 _ _ <| aa fun K2 hK2 => ?_)
 refine aG (E := 27) (sz := 5) rfl [] kr sm rfl de de Y U ?_
 clear Y U
 intro a w3 Y U
 refine wlv Y (al (v := po w0.hz 1) rfl kr) fun a Y => wlv Y (ld U 2 rfl rfl (isAgg23 _) rfl) fun a Y => ey (i := 0) (sT := 23) (inf := Tryd.t27) (z := .agg #[iv 0, iv 0, iv 0, iv 0, .string (⟨#[]⟩)]) rfl rfl rfl (U.arg hlv) underlying23 rfl rfl rfl rfl de (by first | (simp [Value.oneCell', yv, wv, sv]; done) | exact cG (by intro e he; obtain ⟨p, _, rfl⟩ := List.mem_map.1 he; exact ⟨p, rfl⟩)) (by have hby : Tryd.t27.bytes = 48 := rfl; simp only [big, hby, List.length_append, List.length_map, c9, List.length_take, List.length_cons, List.length_nil]; omega) (by have hby : Tryd.t27.bytes = 48 := rfl; simp only [big, hby, List.length_append, List.length_map, c9, List.length_take, List.length_cons, List.length_nil]; omega) de Y U ?_
 clear Y U
 intro a w4 s1 Y U
 rw [show ([]) ++ ((l).map Rec.cells) = ((l).map Rec.cells) from List.nil_append _] at U
 refine wlv Y (al (v := po w0.hz 1) rfl kr) fun a Y => cf 2 Y U (U.ow 0 rfl) rfl rfl rfl (sizeOf23 _) (lb rfl) (ds := [iv o, s1]) rfl rfl ?_
 clear Y U
 intro a w5 Y U
 refine ab (hK2 _ _ ?_)
 replace Y := Y.p5 1 2 3 4 8 rfl
 refine aa fun K3 hK3 => wla Y rfl fun a Y => ab (hK3 _ _ <| ac fun K4 hK4 => ?_)
 refine aa fun K5 hK5 => wlv Y (al (v := po w0.hz 1) rfl kr) fun a Y => wlv Y (ld U 2 rfl rfl (isAgg23 _) rfl) fun a Y => wlv Y ((aK (sT := 23) (U.ow 0 rfl) rfl rfl (runUnderlying23 _)).asi (m' := (l.length : Int)) (by rw [List.length_map])) fun a Y => wlv Y (v_gt rfl rfl) fun a Y => ab (hK5 _ _ ?_)
 refine fN (fun a w => ∃ (v : Value), Fr 77 [(1, iv how), (2, iv n), (4, pq w0.hz), (8, pq w1.hz), (9, iv ((bentK l at_) : Int))] [] a ∧ St No w0 [blk w1.hz [iv 0, .slice none 0 0] 25, blk w0.hz [iv o, v] 25, own v 27 5 (((aU l n)).map Rec.cells)] w) ?_ ?_
 ·refine az Y rfl (fun hc2 => ?_) (fun hc2 => ?_)
  ·rw [hc2] at Y
   try simp only [qz] at hc2
   have hle : ¬ l = [] := fun e => by rw [e] at hc2; simp at hc2
   have hKK : bentK l at_ = (pickI at_ (l.length : Int)).toNat := if_neg hle
   have hBB : aU l n = l := if_neg hle
   have hpl := bw at_ (n := (l.length : Int)) om
   refine ao <| wlm Y rfl fun a Y => wlv Y (al (v := po w0.hz 1) rfl kr) fun a Y => wlv Y (ld U 2 rfl rfl (isAgg23 _) rfl) fun a Y => wlv Y ((aK (sT := 23) (U.ow 0 rfl) rfl rfl (runUnderlying23 _)).asi (m' := (l.length : Int)) (by rw [List.length_map])) fun a Y => am Y U de call44 rfl (bN at_ (l.length : Int) _ (by first | assumption | (unfold i64 at *; omega) | omega) om) ?_
   clear Y U
   intro a w6 Y U
   refine wla Y rfl fun a Y => ab ?_
   rw [show ((l).map Rec.cells) = (((aU l n)).map Rec.cells) from by rw [hBB]] at U
   rw [show pickI at_ (l.length : Int) = ((bentK l at_) : Int) from by rw [hKK]; omega] at Y
   exact ⟨s1, Y.pick [1, 2, 4, 8, 9], U.select [1, 2, 0] de⟩
  rw [hc2] at Y
  try simp only [qz] at hc2
  have hle : l = [] := List.eq_nil_of_length_eq_zero om
  have hKK : bentK l at_ = 0 := if_pos hle
  have hBB : aU l n = [⟨n, 1, 0, 0, []⟩] := if_pos hle
  refine ao <| wlm Y rfl fun a Y => wlv Y (aZ (v := .agg #[iv n, iv 1, iv 0, iv 0, sv ([] : By)]) rfl kr) fun a Y => aG (E := 27) (sz := 5) rfl [[iv n, iv 1, iv 0, iv 0, sv ([] : By)]] kr sm rfl de de Y U ?_
  clear Y U
  intro a w7 Y U
  refine wlv Y (al (v := po w0.hz 1) rfl kr) fun a Y => ay 3 Y U rfl rfl rfl (sizeOf23 _) rfl (lb rfl) (ds := [iv o, (.slice (some ⟨w5.hz, 0, none⟩) 1 1)]) rfl rfl ?_
  clear Y U
  intro a w8 Y U
  refine ab ?_
  rw [show [[iv n, iv 1, iv 0, iv 0, sv ([] : By)]] = (((aU l n)).map Rec.cells) from by rw [hBB]; rfl] at U
  replace Y : Fr 77 [(1, iv how), (2, iv n), (3, iv at_), (4, pq w0.hz), (8, pq w1.hz), (9, iv ((bentK l at_) : Int)), (15, po w0.hz 1), (16, s1), (17, iv (l.length : Int)), (18, .bool false), (24, iv n), (25, .agg #[iv n, iv 1, iv 0, iv 0, sv ([] : By)]), (26, (.slice (some ⟨w5.hz, 0, none⟩) 1 1)), (27, po w0.hz 1)] [] a := by rw [hKK]; exact Y.pick [1, 2, 3, 4, 8, 9, 15, 16, 17, 18, 24, 25, 26, 27]
  exact ⟨(.slice (some ⟨w5.hz, 0, none⟩) 1 1), Y.pick [1, 2, 4, 8, 9], U.select [2, 3, 0] de⟩
 rintro a w9 ⟨v, Y, U⟩
 refine hK4 _ _ <| ac fun K6 hK6 => aa fun K7 hK7 => wlm Y rfl fun a Y => am Y U de call44 rfl (bN how 6 _ (by first | assumption | (unfold i64 at *; omega) | omega) om) ?_
 clear Y U
 intro a w10 Y U
 refine ab (hK7 _ _ <| ap ?_)
 refine aa fun K8 hK8 => wlv Y (v_eq rfl rfl) fun a Y => wla Y rfl fun a Y => ab (hK8 _ _ ?_)
 refine az Y rfl (fun hc3 => ?_) (fun hc3 => ?_)
 ·rw [hc3] at Y
  try simp only [qz] at hc3
  refine ao <| wlm Y rfl fun a Y => wlv Y (al (v := pq w0.hz) rfl kr) fun a Y => ay 1 Y U rfl rfl rfl (sizeOf3 _) rfl (lb rfl) (ds := [iv n, v]) rfl rfl ?_
  clear Y U
  intro a w11 Y U
  refine ab <| hK6 _ _ ?_
  replace Y := Y.p2 4 8 rfl
  refine aa fun K9 hK9 => wlv Y (aj (U.g 1 rfl) rfl (isAgg25 _) (sizeOf25 _)) fun a Y => aJ (us := [iv n, v]) 0 Y U rfl rfl rfl (sizeOf25 _) (by intro z hz; simp only [List.mem_cons, List.not_mem_nil, or_false] at hz; rcases hz with rfl | rfl <;> first | rfl | exact SlAt.one (U.ow 2 rfl)) (lb rfl) (ds := [iv n, v]) rfl rfl ?_
  clear Y U
  intro a w12 Y U
  refine ab (hK9 _ _ <| au ?_)
  refine ar Y results11 (aH rfl (bj (U.g 0 rfl) (isAgg25 _) (sizeOf25 _)) ah) ?_
  have hO : bentO o how n = n := if_pos hc3
  have hL : bentL l how n at_ = ((aU l n)) := by unfold bentL bentR; rw [if_pos hc3]; exact gL hKlt
  rw [hO, hL]
  exact ⟨v, rfl, trivial, U.ext, St.out (E := [own v 27 5 (((aU l n)).map Rec.cells)]) (H := []) (U.select [2] de)⟩
 rw [hc3] at Y
 try simp only [qz] at hc3
 refine aa fun K10 hK10 => wlv Y (v_eq rfl rfl) fun a Y => wla Y rfl fun a Y => ab (hK10 _ _ ?_)
 refine az Y rfl (fun hc4 => ?_) (fun hc4 => ?_)
 ·rw [hc4] at Y
  try simp only [qz] at hc4
  refine ao <| wlv Y (al (v := po w0.hz 1) rfl kr) fun a Y => wlv Y (ld U 1 rfl rfl (isAgg23 _) rfl) fun a Y => wlm Y rfl fun a Y => wlm Y rfl fun a Y => wlv Y ((ak (i := ((bentK l at_) : Int)) (sT := 23) (U.ow 2 rfl) rfl rfl (runUnderlying23 _) (sizeOf27 _) om (by rw [List.length_map]; exact hKlt)).as (v' := slAddr v ((bentK l at_) * 5)) (by rw [show (((bentK l at_) : Int)).toNat = (bentK l at_) from by omega])) fun a Y => wlv Y (bC (k := (bentK l at_) * 5) (j := 0) (U.ow 2 rfl) (i := (bentK l at_)) (by rw [List.length_map]; exact hKlt) rfl (fun _ _ => by kernel_rfl)) fun a Y => cJ (k := (bentK l at_)) (j := 0) 2 Y U rfl rfl rfl (by rw [List.length_map]; exact hKlt) om (sizeOf3 _) (by simp [Value.oneCell', yv, wv, sv, Value.cells]) (lb rfl) (els' := (((aU l n).set (bentK l at_) { ((aU l n).getD (bentK l at_) Rec.z) with t := n }).map Rec.cells)) (fi hKlt rfl _) rfl ?_
  clear Y U
  intro a w13 Y U
  refine ab <| hK6 _ _ ?_
  replace Y := Y.p2 4 8 rfl
  refine aa fun K11 hK11 => wlv Y (aj (U.g 1 rfl) rfl (isAgg25 _) (sizeOf25 _)) fun a Y => aJ (us := [iv o, v]) 0 Y U rfl rfl rfl (sizeOf25 _) (by intro z hz; simp only [List.mem_cons, List.not_mem_nil, or_false] at hz; rcases hz with rfl | rfl <;> first | rfl | exact SlAt.one (U.ow 2 rfl)) (lb rfl) (ds := [iv o, v]) rfl rfl ?_
  clear Y U
  intro a w14 Y U
  refine ab (hK11 _ _ <| au ?_)
  refine ar Y results11 (aH rfl (bj (U.g 0 rfl) (isAgg25 _) (sizeOf25 _)) ah) ?_
  have hO : bentO o how n = o := if_neg hc3
  have hL : bentL l how n at_ = ((aU l n).set (bentK l at_) { ((aU l n).getD (bentK l at_) Rec.z) with t := n }) := by unfold bentL bentR; rw [if_neg hc3, if_pos hc4]
  rw [hO, hL]
  exact ⟨v, rfl, trivial, U.ext, St.out (E := [own v 27 5 (((aU l n).set (bentK l at_) { ((aU l n).getD (bentK l at_) Rec.z) with t := n }).map Rec.cells)]) (H := []) (U.select [2] de)⟩
 rw [hc4] at Y
 try simp only [qz] at hc4
 refine aa fun K12 hK12 => wlv Y (v_eq rfl rfl) fun a Y => wla Y rfl fun a Y => ab (hK12 _ _ ?_)
 replace Y := Y.p6 2 4 8 9 29 52 rfl
 refine az Y rfl (fun hc5 => ?_) (fun hc5 => ?_)
 ·rw [hc5] at Y
  try simp only [qz] at hc5
  refine ao <| wlv Y (al (v := po w0.hz 1) rfl kr) fun a Y => wlv Y (ld U 1 rfl rfl (isAgg23 _) rfl) fun a Y => wlm Y rfl fun a Y => wlm Y rfl fun a Y => wlv Y ((ak (i := ((bentK l at_) : Int)) (sT := 23) (U.ow 2 rfl) rfl rfl (runUnderlying23 _) (sizeOf27 _) om (by rw [List.length_map]; exact hKlt)).as (v' := slAddr v ((bentK l at_) * 5)) (by rw [show (((bentK l at_) : Int)).toNat = (bentK l at_) from by omega])) fun a Y => wlv Y (bC (k := (bentK l at_) * 5) (j := 1) (U.ow 2 rfl) (i := (bentK l at_)) (by rw [List.length_map]; exact hKlt) rfl (fun _ _ => by kernel_rfl)) fun a Y => cJ (k := (bentK l at_)) (j := 1) 2 Y U rfl rfl rfl (by rw [List.length_map]; exact hKlt) om (sizeOf3 _) (by simp [Value.oneCell', yv, wv, sv, Value.cells]) (lb rfl) (els' := (((aU l n).set (bentK l at_) { ((aU l n).getD (bentK l at_) Rec.z) with kind := n }).map Rec.cells)) (fi hKlt rfl _) rfl ?_
  clear Y U
  intro a w15 Y U
  refine ab <| hK6 _ _ ?_
  replace Y := Y.p2 4 8 rfl
  refine aa fun K13 hK13 => wlv Y (aj (U.g 1 rfl) rfl (isAgg25 _) (sizeOf25 _)) fun a Y => aJ (us := [iv o, v]) 0 Y U rfl rfl rfl (sizeOf25 _) (by intro z hz; simp only [List.mem_cons, List.not_mem_nil, or_false] at hz; rcases hz with rfl | rfl <;> first | rfl | exact SlAt.one (U.ow 2 rfl)) (lb rfl) (ds := [iv o, v]) rfl rfl ?_
  clear Y U
  intro a w16 Y U
  refine ab (hK13 _ _ <| au ?_)
  refine ar Y results11 (aH rfl (bj (U.g 0 rfl) (isAgg25 _) (sizeOf25 _)) ah) ?_
  have hO : bentO o how n = o := if_neg hc3
  have hL : bentL l how n at_ = ((aU l n).set (bentK l at_) { ((aU l n).getD (bentK l at_) Rec.z) with kind := n }) := by unfold bentL bentR; rw [if_neg hc3, if_neg hc4, if_pos hc5]
  rw [hO, hL]
  exact ⟨v, rfl, trivial, U.ext, St.out (E := [own v 27 5 (((aU l n).set (bentK l at_) { ((aU l n).getD (bentK l at_) Rec.z) with kind := n }).map Rec.cells)]) (H := []) (U.select [2] de)⟩
 rw [hc5] at Y
 try simp only [qz] at hc5
 refine aa fun K14 hK14 => wlv Y (v_eq rfl rfl) fun a Y => wla Y rfl fun a Y => ab (hK14 _ _ ?_)
 refine az Y rfl (fun hc6 => ?_) (fun hc6 => ?_)
 ·rw [hc6] at Y
  try simp only [qz] at hc6
  refine ao <| wlv Y (al (v := po w0.hz 1) rfl kr) fun a Y => wlv Y (ld U 1 rfl rfl (isAgg23 _) rfl) fun a Y => wlm Y rfl fun a Y => wlm Y rfl fun a Y => wlv Y ((ak (i := ((bentK l at_) : Int)) (sT := 23) (U.ow 2 rfl) rfl rfl (runUnderlying23 _) (sizeOf27 _) om (by rw [List.length_map]; exact hKlt)).as (v' := slAddr v ((bentK l at_) * 5)) (by rw [show (((bentK l at_) : Int)).toNat = (bentK l at_) from by omega])) fun a Y => wlv Y (bC (k := (bentK l at_) * 5) (j := 2) (U.ow 2 rfl) (i := (bentK l at_)) (by rw [List.length_map]; exact hKlt) rfl (fun _ _ => by kernel_rfl)) fun a Y => cJ (k := (bentK l at_)) (j := 2) 2 Y U rfl rfl rfl (by rw [List.length_map]; exact hKlt) om (sizeOf3 _) (by simp [Value.oneCell', yv, wv, sv, Value.cells]) (lb rfl) (els' := (((aU l n).set (bentK l at_) { ((aU l n).getD (bentK l at_) Rec.z) with a := n }).map Rec.cells)) (fi hKlt rfl _) rfl ?_
  clear Y U
  intro a w17 Y U
  refine ab <| hK6 _ _ ?_
  replace Y := Y.p2 4 8 rfl
  refine aa fun K15 hK15 => wlv Y (aj (U.g 1 rfl) rfl (isAgg25 _) (sizeOf25 _)) fun a Y => aJ (us := [iv o, v]) 0 Y U rfl rfl rfl (sizeOf25 _) (by intro z hz; simp only [List.mem_cons, List.not_mem_nil, or_false] at hz; rcases hz with rfl | rfl <;> first | rfl | exact SlAt.one (U.ow 2 rfl)) (lb rfl) (ds := [iv o, v]) rfl rfl ?_
  clear Y U
  intro a w18 Y U
  refine ab (hK15 _ _ <| au ?_)
  refine ar Y results11 (aH rfl (bj (U.g 0 rfl) (isAgg25 _) (sizeOf25 _)) ah) ?_
  have hO : bentO o how n = o := if_neg hc3
  have hL : bentL l how n at_ = ((aU l n).set (bentK l at_) { ((aU l n).getD (bentK l at_) Rec.z) with a := n }) := by unfold bentL bentR; rw [if_neg hc3, if_neg hc4, if_neg hc5, if_pos hc6]
  rw [hO, hL]
  exact ⟨v, rfl, trivial, U.ext, St.out (E := [own v 27 5 (((aU l n).set (bentK l at_) { ((aU l n).getD (bentK l at_) Rec.z) with a := n }).map Rec.cells)]) (H := []) (U.select [2] de)⟩
 rw [hc6] at Y
 try simp only [qz] at hc6
 refine aa fun K16 hK16 => wlv Y (v_eq rfl rfl) fun a Y => wla Y rfl fun a Y => ab (hK16 _ _ ?_)
 refine az Y rfl (fun hc7 => ?_) (fun hc7 => ?_)
 ·rw [hc7] at Y
  try simp only [qz] at hc7
  refine ao <| wlv Y (al (v := po w0.hz 1) rfl kr) fun a Y => wlv Y (ld U 1 rfl rfl (isAgg23 _) rfl) fun a Y => wlm Y rfl fun a Y => wlm Y rfl fun a Y => wlv Y ((ak (i := ((bentK l at_) : Int)) (sT := 23) (U.ow 2 rfl) rfl rfl (runUnderlying23 _) (sizeOf27 _) om (by rw [List.length_map]; exact hKlt)).as (v' := slAddr v ((bentK l at_) * 5)) (by rw [show (((bentK l at_) : Int)).toNat = (bentK l at_) from by omega])) fun a Y => wlv Y (bC (k := (bentK l at_) * 5) (j := 3) (U.ow 2 rfl) (i := (bentK l at_)) (by rw [List.length_map]; exact hKlt) rfl (fun _ _ => by kernel_rfl)) fun a Y => cJ (k := (bentK l at_)) (j := 3) 2 Y U rfl rfl rfl (by rw [List.length_map]; exact hKlt) om (sizeOf3 _) (by simp [Value.oneCell', yv, wv, sv, Value.cells]) (lb rfl) (els' := (((aU l n).set (bentK l at_) { ((aU l n).getD (bentK l at_) Rec.z) with b := n }).map Rec.cells)) (fi hKlt rfl _) rfl ?_
  clear Y U
  intro a w19 Y U
  refine ab <| hK6 _ _ ?_
  replace Y := Y.p2 4 8 rfl
  refine aa fun K17 hK17 => wlv Y (aj (U.g 1 rfl) rfl (isAgg25 _) (sizeOf25 _)) fun a Y => aJ (us := [iv o, v]) 0 Y U rfl rfl rfl (sizeOf25 _) (by intro z hz; simp only [List.mem_cons, List.not_mem_nil, or_false] at hz; rcases hz with rfl | rfl <;> first | rfl | exact SlAt.one (U.ow 2 rfl)) (lb rfl) (ds := [iv o, v]) rfl rfl ?_
  clear Y U
  intro a w20 Y U
  refine ab (hK17 _ _ <| au ?_)
  refine ar Y results11 (aH rfl (bj (U.g 0 rfl) (isAgg25 _) (sizeOf25 _)) ah) ?_
  have hO : bentO o how n = o := if_neg hc3
  have hL : bentL l how n at_ = ((aU l n).set (bentK l at_) { ((aU l n).getD (bentK l at_) Rec.z) with b := n }) := by unfold bentL bentR; rw [if_neg hc3, if_neg hc4, if_neg hc5, if_neg hc6, if_pos hc7]
  rw [hO, hL]
  exact ⟨v, rfl, trivial, U.ext, St.out (E := [own v 27 5 (((aU l n).set (bentK l at_) { ((aU l n).getD (bentK l at_) Rec.z) with b := n }).map Rec.cells)]) (H := []) (U.select [2] de)⟩
 rw [hc7] at Y
 try simp only [qz] at hc7
 refine aO kr (aP kr fun w21 hxz => ?_)
 replace U := U.grow hxz
 refine aS (k := 0) 8 [1, 2, 7] Y kr kr kr rfx ?_
 replace Y := Y.p10 2 4 8 9 29 52 61 60 69 68 rfl
 refine aA [6] (fun i => match i with | 6 => pm (fun b : Nat => .slice (some ⟨b, 0, none⟩) ((150 + pickI n 100).toNat) ((150 + pickI n 100).toNat)) (fun b => [own (.slice (some ⟨b, 0, none⟩) ((150 + pickI n 100).toNat) ((150 + pickI n 100).toNat)) 5 1 ((List.replicate ((150 + pickI n 100).toNat) (0 : UInt8)).map fun b => [yv b])]) (fun _ => True) | _ => fun _ _ => False) 8 [[], [0], [], [], [3], [4], [5], [6]] [po w0.hz 1, v, iv ((bentK l at_) : Int), iv n, iv (pickI n 100), iv ((150 + pickI n 100).toNat : Int), undef, sv (List.replicate ((150 + pickI n 100).toNat) (0 : UInt8))] Y U kr kr kr ?_ ?_ ?_
 ·intro i hi hiq
  match i, hi, hiq with
  | 0, _, _ => exact fun w U => OpV.g (al (v := po w0.hz 1) rfl kr)
  | 1, _, _ => exact fun w U => OpV.g (ld U 1 rfl rfl (isAgg23 _) rfl)
  | 2, _, _ => exact fun w U => OpV.g (ai rfl)
  | 3, _, _ => exact fun w U => OpV.g (ai rfl)
  | 4, _, _ => exact fun w U => aT call44 rfl (bN n 100 _ (by first | assumption | (unfold i64 at *; omega) | omega) om)
  | 5, _, _ => exact fun w U => OpV.g ((aM rfl rfl ⟨om, om⟩).asi (m' := ((150 + pickI n 100).toNat : Int)) om)
  | 6, _, h => exact absurd sm h
  | 7, _, _ =>
   rintro _ _ ⟨b8, rfl, -, rfl⟩
   intro w U
   exact OpV.g (dh (U.ow 0 rfl) rfl underlying71 underlying5 underlying9)
 ·intro i hi
  simp only [List.mem_cons, List.not_mem_nil, or_false] at hi
  subst hi
  ·intro w U
   exact j1 (n := ((150 + pickI n 100).toNat)) (E := 5) (sz := 1) rfl rfl ((List.replicate ((150 + pickI n 100).toNat) (0 : UInt8)).map fun b => [yv b]) (g8 underlying71 (inf := Tryd.t5) rfl rfl rfl rfl de ((150 + pickI n 100).toNat) (by rw [List.map_replicate]; rfl) om) (by intro e he; obtain ⟨_, _, rfl⟩ := List.mem_map.1 he; rfl) sm (by simp only [big]; omega)
 clear Y U
 rintro _ _ ⟨b8, rfl, -, rfl⟩ a w22 Y U
 replace Y : Fr 77 [(30, po w0.hz 1), (31, v), (32, iv ((bentK l at_) : Int)), (33, iv n), (34, iv (pickI n 100)), (35, iv ((150 + pickI n 100).toNat : Int)), (36, _), (37, sv (List.replicate ((150 + pickI n 100).toNat) (0 : UInt8))), (2, _), (4, _), (8, _), (9, _), (29, _), (52, _), (61, _), (60, _), (69, _), (68, _)] [] a := Y
 replace U : St No w0 [_, _, _, _] w22 := U
 refine ab <| aQ (k := 8) 11 [10] kr kr kr ?_
 refine wlv Y ((ak (i := ((bentK l at_) : Int)) (sT := 23) (U.ow 3 rfl) rfl rfl (runUnderlying23 _) (sizeOf27 _) om (by rw [List.length_map]; exact hKlt)).as (v' := slAddr v ((bentK l at_) * 5)) (by rw [show (((bentK l at_) : Int)).toNat = (bentK l at_) from by omega])) fun a Y => wlv Y (bC (k := (bentK l at_) * 5) (j := 4) (U.ow 3 rfl) (i := (bentK l at_)) (by rw [List.length_map]; exact hKlt) rfl (fun _ _ => by kernel_rfl)) fun a Y => cJ (k := (bentK l at_)) (j := 4) 3 Y U rfl rfl rfl (by rw [List.length_map]; exact hKlt) om (sizeOf9 _) (by simp [Value.oneCell', yv, wv, sv, Value.cells]) (lb rfl) (els' := (((aU l n).set (bentK l at_) { ((aU l n).getD (bentK l at_) Rec.z) with text := (List.replicate ((150 + pickI n 100).toNat) (0 : UInt8)) }).map Rec.cells)) (fi hKlt rfl _) rfl ?_
 clear Y U
 intro a w23 Y U
 refine ab <| bd kr ?_
 refine hK6 _ _ ?_
 replace Y := Y.p2 4 8 rfl
 replace U := U.k3 14 rfl
 refine aa fun K18 hK18 => wlv Y (aj (U.g 1 rfl) rfl (isAgg25 _) (sizeOf25 _)) fun a Y => aJ (us := [iv o, v]) 0 Y U rfl rfl rfl (sizeOf25 _) (by intro z hz; simp only [List.mem_cons, List.not_mem_nil, or_false] at hz; rcases hz with rfl | rfl <;> first | rfl | exact SlAt.one (U.ow 2 rfl)) (lb rfl) (ds := [iv o, v]) rfl rfl ?_
 clear Y U
 intro a w24 Y U
 refine ab (hK18 _ _ <| au ?_)
 refine ar Y results11 (aH rfl (bj (U.g 0 rfl) (isAgg25 _) (sizeOf25 _)) ah) ?_
 have hO : bentO o how n = o := if_neg hc3
 have hL : bentL l how n at_ = ((aU l n).set (bentK l at_) { ((aU l n).getD (bentK l at_) Rec.z) with text := (List.replicate ((150 + pickI n 100).toNat) (0 : UInt8)) }) := by unfold bentL bentR; rw [if_neg hc3, if_neg hc4, if_neg hc5, if_neg hc6, if_neg hc7]
 rw [hO, hL]
 exact ⟨v, rfl, trivial, U.ext, St.out (E := [own v 27 5 (((aU l n).set (bentK l at_) { ((aU l n).getD (bentK l at_) Rec.z) with text := (List.replicate ((150 + pickI n 100).toNat) (0 : UInt8)) }).map Rec.cells)]) (H := []) (U.select [2] de)⟩
def headB (o : Int) (l : List Rec) : By := if logOk o l = true then rootH sha (codesR l) else []
def headE (o : Int) (l : List Rec) : Int := if logOk o l = true then 0 else 110
theorem eS {o : Int} {l : List Rec} : headE o l = 0 ↔ logOk o l = true := by
 unfold headE; split <;> simp_all
theorem eM {o : Int} {l : List Rec} (h : logOk o l = true) : headB o l = rootH sha (codesR l) := if_pos h
def signOk (key : By) (o : Int) (l : List Rec) : Bool := logOk o l && decide (key.length = 32)
def signB (key : By) (o : Int) (l : List Rec) : By := if signOk key o l = true then tagR sha key o (l.length : Int) (rootH sha (codesR l)) else []
def signE (key : By) (o : Int) (l : List Rec) : Int := if signOk key o l = true then 0 else 110
def checkB (root : By) (n i : Int) (x : Rec) (p : List By) : Bool := x.ok && cF sha root n i x.enc p
theorem fX {l : List Rec} (h : ∀ x ∈ l, x.ok = true) : ∀ s ∈ codesR l, s.length ≤ 300 := by rw [← ei h]; exact gt l
theorem lg {l : List Rec} {k : Nat} (hk : k ≤ l.length) (h : ¬ (k < l.length ∧ k < 3)) (h3 : k ≤ 3) : (l.take k).map cutRec = cutR l := by
 unfold cutR
 by_cases h1 : k = 3
 ·rw [h1]
 ·rw [List.take_of_length_le om, List.take_of_length_le om]
theorem pp (o : Int) (lv : Value) (l : List Rec) (w0 : World) (hlv : SlAt w0 lv 5 (l.map Rec.cells)) :
  Ret Tryd.prog 12 #[.agg #[iv o, lv]] w0 (MemR w0 (fun v : Value => .agg #[iv o, v]) (fun v => [own v 27 5 ((cutR l).map Rec.cells)]) (fun _ => True)) := by
 have hxb := hlv.2.1
 simp only [List.length_map, big] at hxb
 refine aI func12 rfl ntmps12 (lb rfl) fun a Y => ?_
 replace Y := Y.p1 0 rfl
 replace U : St No w0 [] w0 := St.init w0
 refine aa fun K1 hK1 => bh Y U de rfl (cs := [iv o, lv]) rfl ?_
 clear Y U
 intro a w1 Y U
 refine aC Y U de (zeroValue25 _) (cs := [iv 0, .slice none 0 0]) rfl ?_
 clear Y U
 intro a w2 Y U
 refine ab (hK1 _ _ <| aa fun K2 hK2 => ?_)
 refine wlv Y (al (v := pq w0.hz) rfl kr) fun a Y => wlv Y (ld U 1 rfl rfl (isAgg3 _) rfl) fun a Y => wlv Y (aZ (v := .agg #[iv o, .slice none 0 0]) rfl kr) fun a Y => aC Y U de (zeroValue25 _) (cs := [iv 0, .slice none 0 0]) rfl ?_
 clear Y U
 intro a w3 Y U
 refine ay 0 Y U rfl rfl rfl (sizeOf25 _) rfl (lb rfl) (ds := [iv o, .slice none 0 0]) rfl rfl ?_
 clear Y U
 intro a w4 Y U
 refine ab (hK2 _ _ <| ac fun K3 hK3 => ?_)
 refine aa fun K4 hK4 => wla Y rfl fun a Y => ab (hK4 _ _ <| ap ?_)
 replace U : St No w0 [own (.slice none 0 0) 27 5 ((((l.take 0).map cutRec)).map Rec.cells), blk w2.hz [iv o, .slice none 0 0] 25, blk w1.hz [iv 0, .slice none 0 0] 25, blk w0.hz [iv o, lv] 25] w4 := U.nil_own
 refine aV (fun m a w => ∃ (k : Nat) (v : Value), m = 3 - k ∧ (k ≤ l.length) ∧ (k ≤ 3) ∧ Fr 40 [(1, pq w0.hz), (2, pq w1.hz), (3, pq w2.hz), (4, iv (k : Int))] [] a ∧ St No w0 [blk w2.hz [iv o, v] 25, blk w1.hz [iv 0, .slice none 0 0] 25, blk w0.hz [iv o, lv] 25, own v 27 5 ((((l.take k).map cutRec)).map Rec.cells)] w) _ ⟨0, .slice none 0 0, rfl, Nat.zero_le _, de, Y.pick [1, 2, 3, 4], U.select [1, 2, 3, 0] de⟩ ?_
 rintro _ a w5 ⟨k, v, rfl, hk, hk3, Y, U⟩
 refine ac fun K5 hK5 => aa fun K6 hK6 => wlm Y rfl fun a Y => wlv Y (al (v := po w0.hz 1) rfl kr) fun a Y => wlv Y (ld U 2 rfl rfl (isAgg23 _) rfl) fun a Y => wlv Y ((aK (sT := 23) (U.arg hlv) rfl rfl (runUnderlying23 _)).asi (m' := (l.length : Int)) (by rw [List.length_map])) fun a Y => wlv Y (v_lt rfl rfl) fun a Y => wlm Y rfl fun a Y => ?_
 rcases Bool.eq_false_or_eq_true (decide ((k : Int) < (l.length : Int))) with hb1 | hb1
 ·rw [hb1] at Y
  try simp only [qz] at hb1
  have hkx : k < l.length := by omega
  refine wly Y (ai rfl) fun a Y => wly Y (v_lt rfl rfl) fun a Y => wlv Y (aB rfl rfl) fun a Y => ab (hK6 _ _ ?_)
  replace Y := Y.p5 1 2 3 4 17 rfl
  refine az Y rfl (fun hc2 => ?_) (fun hc2 => ?_)
  ·rw [hc2] at Y
   try simp only [qz] at hc2
   refine aq <| hK5 _ _ <| ac fun K7 hK7 => ap <| aa fun K8 hK8 => wlv Y (al (v := po w0.hz 1) rfl kr) fun a Y => wlv Y (ld U 2 rfl rfl (isAgg23 _) rfl) fun a Y => wlm Y rfl fun a Y => wlv Y ((ak (i := (k : Int)) (sT := 23) (U.arg hlv) rfl rfl (runUnderlying23 _) (sizeOf27 _) om (by rw [List.length_map]; omega)).as (v' := slAddr lv (k * 5)) rfl) fun a Y => wlv Y ((bt (U.arg hlv) (i := k) (by rw [List.length_map]; omega) rfl (isAgg27 _) (sizeOf27 _)).as (v' := .agg #[iv ((l.getD k Rec.z).t), iv ((l.getD k Rec.z).kind), iv ((l.getD k Rec.z).a), iv ((l.getD k Rec.z).b), sv ((l.getD k Rec.z).text)]) (by rw [br Rec.z]; rfl)) fun a Y => aC Y U de (zeroValue27 _) (cs := [iv 0, iv 0, iv 0, iv 0, .string (⟨#[]⟩)]) rfl ?_
   clear Y U
   intro a w6 Y U
   refine ay 0 Y U rfl rfl rfl (sizeOf27 _) rfl (lb rfl) (ds := [iv ((l.getD k Rec.z).t), iv ((l.getD k Rec.z).kind), iv ((l.getD k Rec.z).a), iv ((l.getD k Rec.z).b), sv ((l.getD k Rec.z).text)]) rfl rfl ?_
   clear Y U
   intro a w7 Y U
   refine ab (hK8 _ _ ?_)
   replace Y := Y.p5 1 2 3 4 5 rfl
   refine aa fun K9 hK9 => wlv Y (al (v := po w5.hz 4) rfl kr) fun a Y => wlv Y (ld U 0 rfl rfl (isAgg9 _) rfl) fun a Y => wlv Y (al (v := po w5.hz 4) rfl kr) fun a Y => wlv Y (ld U 0 rfl rfl (isAgg9 _) rfl) fun a Y => wlv Y (aW rfl rfl (runUnderlying9 _)) fun a Y => wlv Y (jd rfl rfl) fun a Y => wlv Y ((bS (xs := (l.getD k Rec.z).text) (l := 0) (h := (min ((l.getD k Rec.z).text).length 201)) rfl rfl rfl underlying9 (.inl ⟨rfl, rfl⟩) (.inr (by rw [show (min (((l.getD k Rec.z).text).length : Int) 201 : Int) = (((min ((l.getD k Rec.z).text).length 201) : Nat) : Int) from by omega] <;> rfl)) om (by first | omega | exact Nat.min_le_left _ _)).as (v' := sv (((l.getD k Rec.z).text).take (min ((l.getD k Rec.z).text).length 201))) rfl) fun a Y => wlv Y (al (v := po w5.hz 4) rfl kr) fun a Y => ay 0 Y U rfl rfl rfl (sizeOf9 _) rfl (lb rfl) (ds := [iv ((l.getD k Rec.z).t), iv ((l.getD k Rec.z).kind), iv ((l.getD k Rec.z).a), iv ((l.getD k Rec.z).b), sv (((l.getD k Rec.z).text).take (min ((l.getD k Rec.z).text).length 201))]) rfl rfl ?_
   clear Y U
   intro a w8 Y U
   refine ab (hK9 _ _ ?_)
   replace Y := Y.p5 1 2 3 4 5 rfl
   refine ao <| wlv Y (al (v := po w2.hz 1) rfl kr) fun a Y => wlv Y (ld U 1 rfl rfl (isAgg23 _) rfl) fun a Y => wlv Y (aj (U.g 0 rfl) rfl (isAgg27 _) (sizeOf27 _)) fun a Y => aG (E := 27) (sz := 5) rfl [[iv ((l.getD k Rec.z).t), iv ((l.getD k Rec.z).kind), iv ((l.getD k Rec.z).a), iv ((l.getD k Rec.z).b), sv (((l.getD k Rec.z).text).take (min ((l.getD k Rec.z).text).length 201))]] kr sm rfl de de Y U ?_
   clear Y U
   intro a w9 Y U
   refine bf (i := 5) (sT := 23) (inf := Tryd.t27) (z := .agg #[iv 0, iv 0, iv 0, iv 0, .string (⟨#[]⟩)]) (b := 0) (off := 0) (m := 0) (c := 0) rfl rfl rfl (U.ow 0 rfl) sm underlying23 rfl rfl rfl rfl de (by simp [Value.oneCell', yv, wv, sv]) (by have hby : Tryd.t27.bytes = 48 := rfl; simp only [big, hby, List.length_append, List.length_map, List.length_take, List.length_cons, List.length_nil]; omega) (by have hby : Tryd.t27.bytes = 48 := rfl; simp only [big, hby, List.length_append, List.length_map, List.length_take, List.length_cons, List.length_nil]; omega) de Y U fun a w10 s3 Y U _ => ?_
   rw [show ((((l.take k).map cutRec)).map Rec.cells) ++ ([[iv ((l.getD k Rec.z).t), iv ((l.getD k Rec.z).kind), iv ((l.getD k Rec.z).a), iv ((l.getD k Rec.z).b), sv (((l.getD k Rec.z).text).take (min ((l.getD k Rec.z).text).length 201))]]) = ((((l.take (k + 1)).map cutRec)).map Rec.cells) from by rw [mS hkx, List.map_append, mR]; rfl] at U
   refine wlv Y (al (v := po w2.hz 1) rfl kr) fun a Y => cf 2 Y U (U.ow 5 rfl) rfl rfl rfl (sizeOf23 _) (lb rfl) (ds := [iv o, s3]) rfl rfl ?_
   clear Y U
   intro a w11 Y U
   refine ab <| hK7 _ _ ?_
   replace Y := Y.p4 1 2 3 4 rfl
   replace U := U.k4 60 rfl
   refine ao <| wlm Y rfl fun a Y => wlv Y (aM rfl rfl ⟨om, om⟩) fun a Y => wla Y rfl fun a Y => ab ?_
   refine ⟨_, ?_, k + 1, s3, rfl, om, om, Y.pick [1, 2, 3, 4], U.select [0, 1, 2, 3] de⟩
   omega
  rw [hc2] at Y
  try simp only [qz] at hc2
  have hce := lg hk om hk3
  refine aL <| hK3 _ _ <| aa fun K10 hK10 => wlv Y (aj (U.g 0 rfl) rfl (isAgg25 _) (sizeOf25 _)) fun a Y => aJ (us := [iv o, v]) 1 Y U rfl rfl rfl (sizeOf25 _) (by intro z hz; simp only [List.mem_cons, List.not_mem_nil, or_false] at hz; rcases hz with rfl | rfl <;> first | rfl | exact SlAt.one (U.ow 3 rfl)) (lb rfl) (ds := [iv o, v]) rfl rfl ?_
  clear Y U
  intro a w12 Y U
  refine ab (hK10 _ _ <| au ?_)
  refine ar Y results12 (aH rfl (bj (U.g 1 rfl) (isAgg25 _) (sizeOf25 _)) ah) ?_
  rw [hce] at U
  exact ⟨v, rfl, trivial, U.ext, St.out (E := [own v 27 5 ((cutR l).map Rec.cells)]) (H := []) (U.select [3] de)⟩
 rw [hb1] at Y
 try simp only [qz] at hb1
 have hce := lg hk om hk3
 refine wln Y fun a Y => wln Y fun a Y => wlv Y (aw rfl rfl) fun a Y => ab (hK6 _ _ ?_)
 replace Y := Y.p5 1 2 3 4 17 rfl
 refine aE Y rfl ?_
 refine aL <| hK3 _ _ <| aa fun K11 hK11 => wlv Y (aj (U.g 0 rfl) rfl (isAgg25 _) (sizeOf25 _)) fun a Y => aJ (us := [iv o, v]) 1 Y U rfl rfl rfl (sizeOf25 _) (by intro z hz; simp only [List.mem_cons, List.not_mem_nil, or_false] at hz; rcases hz with rfl | rfl <;> first | rfl | exact SlAt.one (U.ow 3 rfl)) (lb rfl) (ds := [iv o, v]) rfl rfl ?_
 clear Y U
 intro a w13 Y U
 refine ab (hK11 _ _ <| au ?_)
 refine ar Y results12 (aH rfl (bj (U.g 1 rfl) (isAgg25 _) (sizeOf25 _)) ah) ?_
 rw [hce] at U
 exact ⟨v, rfl, trivial, U.ext, St.out (E := [own v 27 5 ((cutR l).map Rec.cells)]) (H := []) (U.select [3] de)⟩
theorem kg (w0 : World) :
  Ret Tryd.prog 41 #[] w0 (MemR w0 (fun v : Value => .agg #[iv 4, v]) (fun v => [own v 27 5 (exR.map Rec.cells)]) (fun _ => True)) := by
 refine aI func41 rfl ntmps41 (lb rfl) fun a Y => ?_
 replace Y : Fr 6 [] [] a := Y
 replace U : St No w0 [] w0 := St.init w0
 refine aa fun K1 hK1 => aC Y U de (zeroValue25 _) (cs := [iv 0, .slice none 0 0]) rfl ?_
 clear Y U
 intro a w1 Y U
 refine ab (hK1 _ _ <| aa fun K2 hK2 => ?_)
 refine wlv Y (aZ (v := .agg #[iv 10, iv 1, iv 7, iv (-1), sv ([110, 101, 119, 115])]) rfl kr) fun a Y => wlv Y (aZ (v := .agg #[iv 20, iv 2, iv 0, iv 5, sv ([] : By)]) rfl kr) fun a Y => wlv Y (aZ (v := .agg #[iv 20, iv 1, iv 8, iv (-1), sv ([] : By)]) rfl kr) fun a Y => aG (E := 27) (sz := 5) rfl [[iv 10, iv 1, iv 7, iv (-1), sv ([110, 101, 119, 115])], [iv 20, iv 2, iv 0, iv 5, sv ([] : By)], [iv 20, iv 1, iv 8, iv (-1), sv ([] : By)]] kr sm rfl de de Y U ?_
 clear Y U
 intro a w2 Y U
 refine wlv Y (aZ (v := .agg #[iv 4, (.slice (some ⟨w1.hz, 0, none⟩) 3 3)]) rfl kr) fun a Y => ay 1 Y U rfl rfl rfl (sizeOf25 _) rfl (lb rfl) (ds := [iv 4, (.slice (some ⟨w1.hz, 0, none⟩) 3 3)]) rfl rfl ?_
 clear Y U
 intro a w3 Y U
 refine ab (hK2 _ _ <| au ?_)
 refine ar Y results41 (aH rfl (bj (U.g 1 rfl) (isAgg25 _) (sizeOf25 _)) ah) ?_
 exact ⟨(.slice (some ⟨w1.hz, 0, none⟩) 3 3), rfl, trivial, U.ext, St.out (E := [own (.slice (some ⟨w1.hz, 0, none⟩) 3 3) 27 5 (exR.map Rec.cells)]) (H := []) (U.select [0] de)⟩
end Go.Proofs.YtddfkkdanpmnaaaDoor
