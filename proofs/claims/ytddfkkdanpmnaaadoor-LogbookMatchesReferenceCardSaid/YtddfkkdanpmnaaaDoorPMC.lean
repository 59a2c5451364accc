/- Texts joined: DigD, DigE, DigF, DigG, DigH, DigI, DigJ, DigK, DigL, DigM, DigN, Rev, DigO, DigP2, DigV, DigW, RefA. -/
import Derived.Test.YtddfkkdanpmnaaaDoorPMB
import Derived.Test.YtddfkkdanpmnaaaDoorPMA
set_option linter.unusedVariables false
set_option linter.unusedSimpArgs false
set_option maxRecDepth 4000
set_option maxHeartbeats 4000000
namespace Go.Proofs.YtddfkkdanpmnaaaDoor
open Go.RowKit Go.PW _root_.Go.Proofs.Tryd
theorem lM (xs : List (List UInt8)) : Lib.join xs [] = xs.flatten := by
 cases xs with
 | nil => rfl
 | cons x r => rw [Lib.join_cons, Lib.joinTail]; simp
theorem n8 (lv : Value) (xs : List (List UInt8)) (w0 : World) (h : SlAt w0 lv 1 (xs.map fun s => [sv s])) (hn : xs.length ≤ 1000) (hlen : xs.flatten.length ≤ 140737488355328) :
  Ret Tryd.prog 106 #[lv, sv []] w0 fun v w => v = sv xs.flatten ∧ Ext No w0 w := by
 have hbig := h.le
 rw [List.length_map] at hbig
 rcases h.2.2 with ⟨rfl, h0⟩ | ⟨b, off, cap, rfl, hc, hb, hcells⟩
 ·obtain rfl : xs = [] := by simpa using h0
  exact (Tryd.strings_Join_none none 0 ⟨#[]⟩ w0).mono fun e w ⟨he, hw⟩ => ⟨_, he, rfl, by rw [hw]; exact Ext.refl _ _⟩
 ·have hm : ((xs.map fun s => (⟨s.toArray⟩ : ByteArray)).map (·.data.toList)) = xs := by simp [Function.comp_def]
  have hf : (xs.map fun s => [sv s]).flatten = xs.map sv := by
   clear hcells hc hb h hlen hbig hm hn
   induction xs with
   | nil => rfl
   | cons x xs ih => rw [List.map_cons, List.flatten_cons, ih]; rfl
  have hj : Lib.join ((xs.map fun s => (⟨s.toArray⟩ : ByteArray)).map (·.data.toList)) (ByteArray.mk #[]).data.toList = xs.flatten := by rw [hm]; exact lM xs
  rw [hf] at hcells
  have := Tryd.strings_Join b off cap (xs.map fun s => ⟨s.toArray⟩) ⟨#[]⟩ w0 (fun j x hx => by
   refine hcells j _ ?_
   rw [List.getElem?_map] at hx ⊢
   cases hq : xs[j]? with
   | none => rw [hq] at hx; cases hx
   | some z => rw [hq] at hx; cases hx; rfl) hb (by simp; omega) (by simpa using hc) (by rw [hj]; exact hlen)
  rw [hj] at this
  simp only [List.length_map] at this ⊢
  exact this.mono fun e w ⟨he, hw⟩ => ⟨_, he, rfl, Ext.of_below hw⟩
theorem lr (s t : List UInt8) : ((⟨s.toArray⟩ : ByteArray) ++ (⟨t.toArray⟩ : ByteArray)) = ⟨(s ++ t).toArray⟩ := by
 apply ByteArray.ext
 simp [ByteArray.data_append]
theorem cZ {P : Program} {w : World} {L : List (Nat × Value)} {dst : Option Tmp} {T T' ty : TypeId} {pos : String} {af : Array Edge} {gd : Option (Nat × Bool)} {x y : Operand} {s t : List UInt8} (hx : ev L x = some (sv s)) (hy : ev L y = some (sv t)) (hl : s.length + t.length ≤ 9223372036854775807) : OpV P ⟨dst, .binOp .add T x y T', ty, pos, af, gd⟩ L w (sv (s ++ t)) :=
 cM hx hy rfl (by
  show (Op.stringOp .add ⟨s.toArray⟩ ⟨t.toArray⟩).run P w = _
  rw [run_string_add_sum w _ _ (by simpa [ByteArray.size] using hl), lr]; rfl)
theorem gj (mark : List UInt8) (xs : List (List UInt8)) (lv : Value) (b : Nat) (w0 : World) (hb : (blk b [sv mark] 9).ok w0) (hlv : SlAt w0 lv 1 (xs.map fun s => [sv s])) (hxn : xs.length ≤ 1000) (hml : mark.length ≤ 1000) (hlen0 : xs.flatten.length ≤ 90000000) (hk0 : (blk 0 (kOf.map wv) 161).ok w0) :
  Ret Tryd.prog 105 #[lv, pq b] w0 fun v w => v = sv (sha (mark ++ xs.flatten)) ∧ Ext No w0 w := by
 have hlen : xs.flatten.length ≤ 140737488355328 := by omega
 refine aI func105 rfl ntmps105 (lb rfl) fun a Y => ?_
 replace Y := Y.p2 0 1 rfl
 replace U : St No w0 [] w0 := St.init w0
 refine aa fun K1 hK1 => wla Y rfl fun a Y => ab (hK1 _ _ <| ac fun K2 hK2 => ?_)
 refine aO kr (aP kr fun w1 hxz => ?_)
 replace U := U.grow hxz
 refine aS (k := 0) 3 [0, 2] Y kr kr kr rfx ?_
 replace Y := Y.p3 0 1 3 rfl
 refine aA [] (fun i => match i with | _ => fun _ _ => False) 3 [[], [], [1]] [sv mark, lv, sv xs.flatten] Y U kr kr kr ?_ ?_ ?_
 ·intro i hi hiq
  match i, hi, hiq with
  | 0, _, _ => exact fun w U => OpV.g (bP (U.keepb hb) rfl (isAgg9 _) rfl)
  | 1, _, _ => exact fun w U => OpV.g (ai rfl)
  | 2, _, _ => exact fun w U => aT call106 rfl (n8 lv xs _ (U.arg hlv) (by simpa using hxn) (by simpa using hlen))
 ·intro i hi
  exact absurd hi sm
 clear Y U
 intro  a w2 Y U
 replace Y : Fr 9 [(4, sv mark), (5, lv), (6, sv xs.flatten), (0, _), (1, _), (3, _)] [] a := Y
 refine ab <| aQ (k := 3) 6 [5] kr kr kr ?_
 refine wlv Y (cZ rfl rfl (by (try simp only [List.length_append]); omega)) fun a Y => am Y U de call80 rfl (kl (mark ++ xs.flatten) _ (U.keepb hk0) (by simp only [List.length_append]; omega)) ?_
 clear Y U
 intro a w3 Y U
 refine wla Y rfl fun a Y => ab <| bd kr ?_
 refine hK2 _ _ ?_
 replace Y := Y.p1 3 rfl
 refine au ?_
 refine ar Y results105 (ae rfl ah) ?_
 exact ⟨by rfl, U.ext⟩
theorem gU (mark : List UInt8) (w0 : World) :
  Ret Tryd.prog 93 #[sv mark] w0 (MemR w0 (fun b : Nat => .func (.func 105) #[] #[pq b]) (fun b => [blk b [sv mark] 9]) (fun _ => True)) := by
 refine aI func93 rfl ntmps93 (lb rfl) fun a Y => ?_
 replace Y := Y.p1 0 rfl
 replace U : St No w0 [] w0 := St.init w0
 refine aa fun K1 hK1 => bh Y U de rfl (cs := [sv mark]) rfl ?_
 clear Y U
 intro a w1 Y U
 refine wla Y rfl fun a Y => ab (hK1 _ _ <| aa fun K2 hK2 => ?_)
 refine wlv Y (cz rfl rfl) fun a Y => wla Y rfl fun a Y => ab (hK2 _ _ <| au ?_)
 refine ar Y results93 (ae rfl ah) ?_
 exact ⟨w0.hz, rfl, trivial, U.ext, St.out (H := []) U⟩
theorem iz (s : List UInt8) (w0 : World) (hs : s.length ≤ 40000000) (hk0 : (blk 0 (kOf.map wv) 161).ok w0) :
  Ret Tryd.prog 78 #[sv s] w0 fun v w => v = sv (sha (0 :: s)) ∧ Ext No w0 w := by
 refine aI func78 rfl ntmps78 (lb rfl) fun a Y => ?_
 replace Y := Y.p1 0 rfl
 replace U : St No w0 [] w0 := St.init w0
 refine aa fun K1 hK1 => wla Y rfl fun a Y => ab (hK1 _ _ <| aa fun K2 hK2 => ?_)
 refine aX Y U de call93 rfl (gU [0] _) ?_
 clear Y U
 intro a w1 x1 hp Y U
 revert x1 hp Y U; rintro bm hp Y U
 clear hp
 replace U : St No w0 [_] w1 := U
 refine wlm Y rfl fun a Y => aG (E := 9) (sz := 1) rfl [[sv s]] kr sm rfl de de Y U ?_
 clear Y U
 intro a w2 Y U
 refine hT Y U de rfl call105 rfl (gj [0] [s] (.slice (some ⟨w1.hz, 0, none⟩) 1 1) bm _ (U.g 1 rfl) (U.ow 0 rfl) sm sm (by simp; omega) (U.keepb hk0)) ?_
 clear Y U
 intro a w3 Y U
 refine wla Y rfl fun a Y => ab (hK2 _ _ <| au ?_)
 refine ar Y results78 (ae rfl ah) ?_
 exact ⟨by simp [retv], U.ext⟩
theorem fh (s t : List UInt8) (w0 : World) (hs : s.length ≤ 40000000) (ht : t.length ≤ 40000000) (hk0 : (blk 0 (kOf.map wv) 161).ok w0) :
  Ret Tryd.prog 79 #[sv s, sv t] w0 fun v w => v = sv (sha (1 :: (s ++ t))) ∧ Ext No w0 w := by
 refine aI func79 rfl ntmps79 (lb rfl) fun a Y => ?_
 replace Y := Y.p2 0 1 rfl
 replace U : St No w0 [] w0 := St.init w0
 refine aa fun K1 hK1 => wla Y rfl fun a Y => ab (hK1 _ _ <| aa fun K2 hK2 => ?_)
 refine aX Y U de call93 rfl (gU [1] _) ?_
 clear Y U
 intro a w1 x1 hp Y U
 revert x1 hp Y U; rintro bm hp Y U
 clear hp
 replace U : St No w0 [_] w1 := U
 refine wlm Y rfl fun a Y => wlm Y rfl fun a Y => aG (E := 9) (sz := 1) rfl [[sv s], [sv t]] kr sm rfl de de Y U ?_
 clear Y U
 intro a w2 Y U
 refine hT Y U de rfl call105 rfl (gj [1] [s, t] (.slice (some ⟨w1.hz, 0, none⟩) 2 2) bm _ (U.g 1 rfl) (U.ow 0 rfl) sm sm (by simp; omega) (U.keepb hk0)) ?_
 clear Y U
 intro a w3 Y U
 refine wla Y rfl fun a Y => ab (hK2 _ _ ?_)
 replace Y := Y.p1 4 rfl
 replace U : St No w0 [] w3 := U.mask [false, false]
 refine au ?_
 refine ar Y results79 (ae rfl ah) ?_
 exact ⟨by simp [retv], U.ext⟩
theorem gh : ∀ (f x : Nat), 0 < x → x < 2 ^ f → Lib.bitLenAux f x = Nat.log2 x + 1
 | 0, x, h0, h => by simp at h; omega
 | f + 1, x, h0, h => by
  rw [Lib.bitLenAux, if_neg om, Nat.log2_def]
  by_cases h2 : 2 ≤ x
  ·rw [if_pos h2, gh f (x / 2) om (by rw [Nat.pow_succ] at h; omega)]; omega
  ·rw [if_neg h2]
   have : x / 2 = 0 := by omega
   rw [this]
   cases f <;> simp [Lib.bitLenAux]
theorem kf {x : Nat} (h0 : 0 < x) (h : x < 18446744073709551616) : Lib.bitLen x = Nat.log2 x + 1 := gh 64 x h0 (by simpa using h)
theorem oJ (x : Int) (m : Nat) (w0 : World) (h0 : 0 ≤ x) (h1 : x ≤ 18446744073709551615) (hm : x.toNat = m) (hp : 0 < m) : Ret Tryd.prog 98 #[.int .u64 x] w0 fun v w => v = iv ((Nat.log2 m + 1 : Nat) : Int) ∧ Ext No w0 w :=
 (Tryd.bits_Len x w0 h0 h1).mono fun e w ⟨he, hw⟩ => ⟨_, he, by rw [hm, kf hp om], by rw [hw]; exact Ext.refl _ _⟩
theorem oH {P : Program} {w : World} {L : List (Nat × Value)} {dst : Option Tmp} {T T' ty : TypeId} {pos : String} {af : Array Edge} {gd : Option (Nat × Bool)} {x y : Operand} {k : IntKind} {n : Nat} (hn : n ≤ 62) (hx : ev L x = some (iv 1)) (hy : ev L y = some (.int k (n : Int))) : OpV P ⟨dst, .binOp .shl T x y T', ty, pos, af, gd⟩ L w (iv ((2 ^ n : Nat) : Int)) :=
 cM hx hy rfl (by
  have h0 : ¬ ((n : Int) < 0) := by omega
  show (Op.shift .shl .i64 1 k (n : Int)).run P w = _
  simp only [Op.shift, if_neg h0, Int.toNat_natCast]
  show Result.ok (iv (IntKind.i64.wrap (1 * 2 ^ (min n 64)))) w = _
  have hle : 2 ^ n ≤ 2 ^ 62 := Nat.pow_le_pow_right de hn
  have : (1 : Int) * 2 ^ (min n 64) = ((2 ^ n : Nat) : Int) := by rw [Nat.min_eq_left om, Int.one_mul]; push_cast; rfl
  rw [this]
  clear this
  generalize 2 ^ n = q at hle ⊢
  rw [IntWalk.i64_in (q : Int) (by constructor <;> omega)])
theorem lB {n : Nat} (h2 : 2 ≤ n) (hn : n ≤ 9223372036854775807) : Nat.log2 (n - 1) ≤ 62 := by
 have := (Nat.log2_lt (n := n - 1) (k := 63) om).2 om
 omega
theorem fJ (n : Nat) (w0 : World) (h2 : 2 ≤ n) (hn : n ≤ 9223372036854775807) :
  Ret Tryd.prog 82 #[iv (n : Int)] w0 fun v w => v = iv (lft n : Int) ∧ Ext No w0 w := by
 have hlb := lB h2 hn
 refine aI func82 rfl ntmps82 (lb rfl) fun a Y => ?_
 replace Y := Y.p1 0 rfl
 replace U : St No w0 [] w0 := St.init w0
 refine aa fun K1 hK1 => wla Y rfl fun a Y => ab (hK1 _ _ <| aa fun K2 hK2 => ?_)
 refine wlm Y rfl fun a Y => wlv Y (bq rfl rfl ⟨om, om⟩) fun a Y => wlv Y (da rfl kr underlying120) fun a Y => am Y U de call98 rfl (oJ _ (n - 1) _ om om om om) ?_
 clear Y U
 intro a w1 Y U
 refine wlv Y ((bq rfl rfl ⟨om, om⟩).asi (m' := ((Nat.log2 (n - 1) : Nat) : Int)) om) fun a Y => wlv Y (oH (n := (Nat.log2 (n - 1))) om rfl rfl) fun a Y => wla Y rfl fun a Y => ab (hK2 _ _ ?_)
 replace Y := Y.p1 2 rfl
 refine au ?_
 refine ar Y results82 (ae rfl ah) ?_
 exact ⟨by rfl, U.ext⟩
theorem ed (s : List UInt8) (w0 : World) :
  Ret Tryd.prog 90 #[sv s] w0 fun v w => v = .bool (decide ((s.length : Int) = 32)) ∧ Ext No w0 w := by
 refine aI func90 rfl ntmps90 (lb rfl) fun a Y => ?_
 replace Y := Y.p1 0 rfl
 replace U : St No w0 [] w0 := St.init w0
 refine aa fun K1 hK1 => wla Y rfl fun a Y => ab (hK1 _ _ <| aa fun K2 hK2 => ?_)
 refine wlm Y rfl fun a Y => wlv Y (aW rfl rfl (runUnderlying9 _)) fun a Y => wlv Y (v_eq rfl rfl) fun a Y => wla Y rfl fun a Y => ab (hK2 _ _ <| au ?_)
 refine ar Y results90 (ae rfl ah) ?_
 exact ⟨by rfl, U.ext⟩
theorem dk (r : List UInt8) (first : Bool) (s : List UInt8) (w0 : World) (hr : r.length ≤ 40000000) (hs : s.length ≤ 40000000) (hk0 : (blk 0 (kOf.map wv) 161).ok w0) :
  Ret Tryd.prog 87 #[.agg #[sv r, .bool first], sv s] w0 fun v w => v = sv (sha (1 :: (if first then r ++ s else s ++ r))) ∧ Ext No w0 w := by
 refine aI func87 rfl ntmps87 (lb rfl) fun a Y => ?_
 replace Y := Y.p2 0 1 rfl
 replace U : St No w0 [] w0 := St.init w0
 refine aa fun K1 hK1 => bh Y U de rfl (cs := [sv r, .bool first]) rfl ?_
 clear Y U
 intro a w1 Y U
 refine wla Y rfl fun a Y => ab (hK1 _ _ <| ac fun K2 hK2 => ?_)
 refine aa fun K3 hK3 => wlv Y (al (v := po w0.hz 1) rfl kr) fun a Y => wlv Y (ld U 0 rfl rfl (isAgg4 _) rfl) fun a Y => ab (hK3 _ _ ?_)
 refine az Y rfl (fun hc1 => ?_) (fun hc1 => ?_)
 ·rw [hc1] at Y
  try simp only [qz] at hc1
  refine aa fun K4 hK4 => wlv Y (al (v := pq w0.hz) rfl kr) fun a Y => wlv Y (ld U 0 rfl rfl (isAgg9 _) rfl) fun a Y => wlm Y rfl fun a Y => am Y U de call79 rfl (fh r s _ om om (U.keepb hk0)) ?_
  clear Y U
  intro a w2 Y U
  refine wla Y rfl fun a Y => ab (hK4 _ _ ?_)
  replace Y := Y.p3 1 2 4 rfl
  refine au ?_
  refine ar Y results87 (ae rfl ah) ?_
  exact ⟨by simp_all [retv], U.ext⟩
 rw [hc1] at Y
 try simp only [qz] at hc1
 refine aq <| hK2 _ _ <| aa fun K5 hK5 => wlm Y rfl fun a Y => wlv Y (al (v := pq w0.hz) rfl kr) fun a Y => wlv Y (ld U 0 rfl rfl (isAgg9 _) rfl) fun a Y => am Y U de call79 rfl (fh s r _ om om (U.keepb hk0)) ?_
 clear Y U
 intro a w3 Y U
 refine wla Y rfl fun a Y => ab (hK5 _ _ ?_)
 replace Y := Y.p1 4 rfl
 replace U : St No w0 [] w3 := U.mask [false]
 refine au ?_
 refine ar Y results87 (ae rfl ah) ?_
 exact ⟨by simp_all [retv], U.ext⟩
def encB (xs : List By) (k : Nat) : List Value := [iv (k : Int), sv (xs.getD k [])]
def NxB (n : Nat) (pre : List Nat) (x : Nat) : Prop := x + 1 + pre.length = n
def backs (n : Nat) : Nat → List Nat
 | 0 => []
 | j + 1 => backs n j ++ [n - 1 - j]
theorem dC (n j : Nat) : (backs n j).length = j := by
 induction j with
 | zero => rfl
 | succ j ih => rw [backs, List.length_append, ih]; rfl
theorem eD {α β : Type} (f : β → α → β) (d : α) (xs : List α) : ∀ (j : Nat) (r : β), j ≤ xs.length → (backs xs.length j).foldl (fun o k => f o (xs.getD k d)) r = ((xs.drop (xs.length - j)).reverse).foldl f r
 | 0, r, h => by rw [Nat.sub_zero, List.drop_length]; rfl
 | j + 1, r, h => by
  rw [backs, List.foldl_append, eD f d xs j r om]
  have hd : xs.drop (xs.length - (j + 1)) = xs.getD (xs.length - 1 - j) d :: xs.drop (xs.length - j) := by
   have hk : xs.length - (j + 1) < xs.length := by omega
   rw [List.drop_eq_getElem_cons hk, show xs.length - (j + 1) + 1 = xs.length - j from by omega, List.getD_eq_getElem?_getD, show xs.length - 1 - j = xs.length - (j + 1) from by omega, List.getElem?_eq_getElem hk]
   rfl
  rw [hd, List.reverse_cons, List.foldl_append]; rfl
theorem m9 {M : Nat → Prop} {w0 : World} (v : Value) (xs : List By) (lp b1 : Nat) (J Jx : List Nat → Ent → Prop) (hY : Rounds Tryd.prog M w0 lp (encB xs) (NxB xs.length) J Jx) (e0 : Ent) (ws : World) (hn : xs.length ≤ 1000000) (hJ : J [] e0) (U : St M w0 [e0, blk b1 [v] 45, own v 9 1 (xs.map fun s => [sv s])] ws) :
  Ret Tryd.prog 97 #[.func (.yield lp) #[] #[], pq b1] ws fun _ w => ∃ e1 Hi1, St M w0 (e1 :: Hi1) w ∧ ((∃ ys, (ys = backs xs.length xs.length ∧ Hi1 = [blk b1 [v] 45, own v 9 1 (xs.map fun s => [sv s])]) ∧ J ys e1) ∨ (∃ pre, Hi1 = [blk b1 [v] 45, own v 9 1 (xs.map fun s => [sv s])] ∧ Jx pre e1)) := by
 refine aI func97 rfl ntmps97 (lb rfl) fun a Y => ?_
 replace Y := Y.p2 0 1 rfl
 skip
 refine aa fun K1 hK1 => wlv Y (ld U 1 rfl rfl (isAgg45 _) rfl) fun a Y => wlv Y ((aK (sT := 45) (U.ow 2 rfl) rfl rfl (runUnderlying45 _)).asi (m' := (xs.length : Int)) sm) fun a Y => wlv Y (bq rfl rfl ⟨om, om⟩) fun a Y => wla Y rfl fun a Y => ab (hK1 _ _ <| ap ?_)
 rw [show (xs.length : Int) - 1 = (xs.length : Int) - 1 - ((0 : Nat) : Int) from by omega] at Y
 refine aV (fun m a w => ∃ (j : Nat) (e : Ent), m = xs.length - j ∧ (j ≤ xs.length) ∧ (J (backs xs.length j) e) ∧ Fr 19 [(0, .func (.yield lp) #[] #[]), (1, pq b1), (3, iv ((xs.length : Int) - 1 - (j : Int)))] [] a ∧ St M w0 [e, blk b1 [v] 45, own v 9 1 (xs.map fun s => [sv s])] w) _ ⟨0, e0, rfl, Nat.zero_le _, hJ, Y.pick [0, 1, 3], U⟩ ?_
 rintro _ a w1 ⟨j, e, rfl, hj, hJ, Y, U⟩
 refine ac fun K2 hK2 => aa fun K3 hK3 => wlm Y rfl fun a Y => wlv Y (v_ge rfl rfl) fun a Y => ab (hK3 _ _ ?_)
 refine az Y rfl (fun hc1 => ?_) (fun hc1 => ?_)
 ·rw [hc1] at Y
  try simp only [qz] at hc1
  have hjl : j < xs.length := by omega
  refine aq <| hK2 _ _ <| ac fun K4 hK4 => ap ?_
  have hidx : (xs.length : Int) - 1 - (j : Int) = ((xs.length - 1 - j : Nat) : Int) := by omega
  refine aa fun K5 hK5 => wlm Y rfl fun a Y => wlm Y rfl fun a Y => wlv Y (ld U 1 rfl rfl (isAgg45 _) rfl) fun a Y => wlm Y rfl fun a Y => wlv Y ((ak (i := (xs.length : Int) - 1 - (j : Int)) (sT := 45) (U.ow 2 rfl) rfl rfl (runUnderlying45 _) (sizeOf9 _) om (by simp; omega)).as (v' := slAddr v ((xs.length - 1 - j) * 1)) (by rw [show ((xs.length : Int) - 1 - (j : Int)).toNat = (xs.length - 1 - j) from by omega])) fun a Y => ?_
  refine wlv Y (ax (u := sv (xs.getD (xs.length - 1 - j) [])) (i := (xs.length - 1 - j)) (j := 0) (U.ow 2 rfl) (by simp; omega) rfl (isAgg9 _) (by simp [List.getD_eq_getElem?_getD, List.getElem?_eq_getElem (show (xs.length - 1 - j) < xs.length by omega)])) fun a Y => ?_
  rw [hidx] at Y
  refine wl_r (eZ rfl rfl (hY.yield (pre := backs xs.length j) (x := xs.length - 1 - j) (by show xs.length - 1 - j + 1 + (backs xs.length j).length = xs.length; rw [dC]; omega) hJ (U.only (i := 0) rfl))) rfl rfl Y ?_
  clear Y
  intro a v w2 hR Y
  obtain ⟨y2, e3, rfl, hx, hok, hft, hJt, hJf⟩ := hR
  replace U := U.exchange (k := 0) rfl hx hok hft
  replace U : St M w0 [_, _, _] w2 := U
  clear hx hok hft
  refine wlv Y (bn rfl) fun a Y => ab (hK5 _ _ ?_)
  replace Y := Y.p4 0 1 3 18 rfl
  refine az Y rfl (fun hc4 => ?_) (fun hc4 => ?_)
  ·rw [hc4] at Y
   try simp only [qz] at hc4
   have hJ := hJf hc4
   refine au ?_
   refine ar Y results97 ah ?_
   exact ⟨_, _, U, .inr ⟨_, rfl, hJ⟩⟩
  rw [hc4] at Y
  try simp only [qz] at hc4
  have hJ := hJt hc4
  refine aq <| hK4 _ _ <| ao <| wlm Y rfl fun a Y => wlv Y (bq rfl rfl ⟨om, om⟩) fun a Y => wla Y rfl fun a Y => ab ?_
  rw [show ((xs.length - 1 - j : Nat) : Int) - 1 = (xs.length : Int) - 1 - ((j + 1 : Nat) : Int) from by omega] at Y
  refine ⟨_, ?_, j + 1, e3, rfl, om, hJ, Y.pick [0, 1, 3], U⟩
  omega
 rw [hc1] at Y
 try simp only [qz] at hc1
 obtain rfl : j = xs.length := by omega
 refine aL ?_
 refine dv Y results97 ah ?_
 exact ⟨_, _, U, .inl ⟨_, ⟨rfl, rfl⟩, hJ⟩⟩
theorem lC {M : Nat → Prop} {w0 : World} (v : Value) (xs : List By) (b1 : Nat) (hn : xs.length ≤ 1000000) :
  Iter Tryd.prog 97 [pq b1] (encB xs) (NxB xs.length) (fun ys Hi => ys = backs xs.length xs.length ∧ Hi = [blk b1 [v] 45, own v 9 1 (xs.map fun s => [sv s])]) (fun pre Hi => Hi = [blk b1 [v] 45, own v 9 1 (xs.map fun s => [sv s])]) M w0 [blk b1 [v] 45, own v 9 1 (xs.map fun s => [sv s])] :=
 fun lp J Jx w e hY hJ U => m9 v xs lp b1 J Jx hY e w hn hJ U
theorem oA (v : Value) (els : List (List Value)) (w0 : World) (hv : SlAt w0 v 1 els) :
  Ret Tryd.prog 81 #[v] w0 (MemR w0 (fun z : Nat => .func (.func 97) #[] #[pq z]) (fun z => [blk z [v] 45]) (fun _ => True)) := by
 refine aI func81 rfl ntmps81 (lb rfl) fun a Y => ?_
 replace Y := Y.p1 0 rfl
 replace U : St No w0 [] w0 := St.init w0
 refine aa fun K1 hK1 => bh Y U de rfl (cs := [v]) (by rw [(U.arg hv).cells]) ?_
 clear Y U
 intro a w1 Y U
 refine wla Y rfl fun a Y => ab (hK1 _ _ <| aa fun K2 hK2 => ?_)
 refine wlv Y (cz rfl rfl) fun a Y => wla Y rfl fun a Y => ab (hK2 _ _ <| au ?_)
 refine ar Y results81 (ae rfl ah) ?_
 exact ⟨w0.hz, rfl, trivial, U.ext, St.out (H := []) U⟩
theorem lI {M : Nat → Prop} {wb : World} {H : List Ent} {sv : Value} {els : List (List Value)} {caps : List Value} {g : FuncId} (p : Nat → Bool) (ev_ : Nat → Value) (J : Nat → Ent → Prop) (e0 : Ent) (w0 : World)
  (hen : ∀ args w, (callFunc g args).run Tryd.prog w = .ok (.enter g args) w) (hs : ∀ e w, St M wb (e :: H) w → SlAt w sv 1 els)
  (hev : ∀ k (h : k < els.length), (els[k])[0]? = some (ev_ k)) (hJ0 : J 0 e0) (U : St M wb (e0 :: H) w0)
  (hcl : ∀ k e w, k < els.length → J k e → e.ok w → (∀ b, e.foot b → b < w.hz) → Ret Tryd.prog g ([ev_ k] ++ caps).toArray w fun v w' => v = .bool (p k) ∧ ∃ e', Ext e.foot w w' ∧ e'.ok w' ∧ (∀ b, e'.foot b → b < w'.heap.size ∧ (e.foot b ∨ w.hz ≤ b)) ∧ J (k + 1) e') :
  Ret Tryd.prog 112 #[sv, .func (.func g) #[] caps.toArray] w0 fun v w => v = iv (fstIdx p els.length) ∧ ∃ k e', J k e' ∧ St M wb (e' :: H) w := by
 have hsl := (hs _ _ U).le
 refine aI func112 rfl ntmps112 (lb rfl) fun a Y => ?_
 replace Y := Y.p2 0 1 rfl
 refine aa fun K1 hK1 => wla Y rfl fun a Y => ab (hK1 _ _ <| ac fun K2 hK2 => ?_)
 refine aa fun K3 hK3 => wlm Y rfl fun a Y => wlv Y (aK (sT := 45) (hs _ _ U) rfl rfl (runUnderlying45 _)) fun a Y => wlm Y rfl fun a Y => ab (hK3 _ _ <| ap ?_)
 refine aV (fun m a w => ∃ (k : Nat) (e : Ent), m = els.length - k ∧ (k ≤ els.length) ∧ (∀ j, j < k → p j = false) ∧ (J k e) ∧ Fr 19 [(0, sv), (1, .func (.func g) #[] caps.toArray), (6, sv), (7, iv els.length), (8, iv (k : Int))] [] a ∧ St M wb (e :: H) w) _ ⟨0, e0, rfl, Nat.zero_le _, (by intro j hj; omega), hJ0, Y.pick [0, 1, 6, 7, 8], U⟩ ?_
 rintro _ a w1 ⟨k, e, rfl, hk, hp, hJ, Y, U⟩
 refine aa fun K4 hK4 => wlv Y (v_lt rfl rfl) fun a Y => ab (hK4 _ _ <| ac fun K5 hK5 => ?_)
 refine az Y rfl (fun hc1 => ?_) (fun hc1 => ?_)
 ·rw [hc1] at Y
  try simp only [qz] at hc1
  refine aq <| hK5 _ _ <| ac fun K6 hK6 => ap <| aa fun K7 hK7 => wlm Y rfl fun a Y => wla Y rfl fun a Y => ab (hK7 _ _ <| aa fun K8 hK8 => ?_)
  refine wlm Y rfl fun a Y => wlm Y rfl fun a Y => wlm Y rfl fun a Y => wlv Y ((ak (i := (k : Int)) (sT := 45) (hs _ _ U) rfl rfl (runUnderlying45 _) (sizeOf9 _) om om).as (v' := slAddr sv (k * 1)) rfl) fun a Y => wlv Y ((ax (u := ev_ k) (i := k) (j := 0) (hs _ _ U) om rfl (isAgg9 _) (hev k om))) fun a Y => wl_r (iH (cap := caps) rfl hen rfl (hcl k _ _ om hJ (U.g 0 rfl) (fun b hb => U.lt (k := 0) rfl hb))) rfl rfl Y fun a v w2 hR Y => ?_
  obtain ⟨rfl, e1, hx, hok, hft, hJ1⟩ := hR
  have U := U.exchange (k := 0) rfl hx hok hft
  have U : St M wb (e1 :: H) w2 := U
  refine ab (hK8 _ _ ?_)
  refine az Y rfl (fun hc2 => ?_) (fun hc2 => ?_)
  ·rw [hc2] at Y
   try simp only [qz] at hc2
   refine aa fun K9 hK9 => wlm Y rfl fun a Y => wla Y rfl fun a Y => ab (hK9 _ _ <| au ?_)
   refine ar Y results112 (ae rfl ah) ?_
   exact ⟨by rw [jw (k := k) om hp (by assumption)]; rfl, _, _, hJ1, U⟩
  rw [hc2] at Y
  try simp only [qz] at hc2
  refine aq <| hK6 _ _ <| ao <| wlv Y (aM rfl rfl ⟨om, om⟩) fun a Y => wlm Y rfl fun a Y => ab ?_
  refine ⟨_, ?_, k + 1, e1, rfl, om, (by intro j hj; by_cases h : j = k; (subst h; assumption); exact hp j om), hJ1, Y.pick [0, 1, 6, 7, 8], U⟩
  omega
 rw [hc1] at Y
 try simp only [qz] at hc1
 refine aL <| hK2 _ _ <| aa fun K10 hK10 => wla Y rfl fun a Y => ab (hK10 _ _ <| au ?_)
 refine ar Y results112 (ae rfl ah) ?_
 have hkl : k = els.length := by omega
 subst hkl
 exact ⟨by rw [jS hp]; rfl, _, _, hJ, U⟩
theorem iX {M : Nat → Prop} {wb : World} {H : List Ent} {sv : Value} {els : List (List Value)} {caps : List Value} {g : FuncId} (p : Nat → Bool) (ev_ : Nat → Value) (J : Nat → Ent → Prop) (e0 : Ent) (w0 : World)
  (hen : ∀ args w, (callFunc g args).run Tryd.prog w = .ok (.enter g args) w) (hs : ∀ e w, St M wb (e :: H) w → SlAt w sv 1 els)
  (hev : ∀ k (h : k < els.length), (els[k])[0]? = some (ev_ k)) (hJ0 : J 0 e0) (U : St M wb (e0 :: H) w0)
  (hcl : ∀ k e w, k < els.length → J k e → e.ok w → (∀ b, e.foot b → b < w.hz) → Ret Tryd.prog g ([ev_ k] ++ caps).toArray w fun v w' => v = .bool (p k) ∧ ∃ e', Ext e.foot w w' ∧ e'.ok w' ∧ (∀ b, e'.foot b → b < w'.heap.size ∧ (e.foot b ∨ w.hz ≤ b)) ∧ J (k + 1) e') :
  Ret Tryd.prog 100 #[sv, .func (.func g) #[] caps.toArray] w0 fun v w => v = .bool ((List.range els.length).any p) ∧ ∃ k e', J k e' ∧ St M wb (e' :: H) w := by
 refine aI func100 rfl ntmps100 (lb rfl) fun a Y => ?_
 replace Y := Y.p2 0 1 rfl
 refine aa fun K1 hK1 => wla Y rfl fun a Y => ab (hK1 _ _ <| aa fun K2 hK2 => ?_)
 refine wlm Y rfl fun a Y => wlm Y rfl fun a Y => wl_r (dT call112 rfl (lI p ev_ J e0 _ hen hs hev hJ0 U hcl)) rfl rfl Y fun a v w1 hR Y => ?_
 obtain ⟨rfl, kk, e1, hJ1, U⟩ := hR
 refine wlv Y (v_ge rfl rfl) fun a Y => wla Y rfl fun a Y => ab (hK2 _ _ <| au ?_)
 refine ar Y results100 (ae rfl ah) ?_
 exact ⟨by rw [kF]; rfl, _, _, hJ1, U⟩
theorem oX (s : List UInt8) (w0 : World) :
  Ret Tryd.prog 99 #[sv s] w0 fun v w => v = .bool (!decide ((s.length : Int) = 32)) ∧ Ext No w0 w := by
 refine aI func99 rfl ntmps99 (lb rfl) fun a Y => ?_
 replace Y := Y.p1 0 rfl
 replace U : St No w0 [] w0 := St.init w0
 refine aa fun K1 hK1 => wla Y rfl fun a Y => ab (hK1 _ _ <| aa fun K2 hK2 => ?_)
 refine wlm Y rfl fun a Y => am Y U de call90 rfl (ed s _) ?_
 clear Y U
 intro a w1 Y U
 refine wlv Y (bn rfl) fun a Y => wla Y rfl fun a Y => ab (hK2 _ _ <| au ?_)
 refine ar Y results99 (ae rfl ah) ?_
 exact ⟨by rfl, U.ext⟩
theorem lj {w0 : World} : St No w0 [PW.join []] w0 := by
 have := St.joinTail (M := No) (w0 := w0) (w := w0) [] [] (St.init w0)
 exact this
theorem mz (lv : Value) (xs : List By) (w0 : World) (h : SlAt w0 lv 1 (xs.map fun s => [sv s])) : Ret Tryd.prog 100 #[lv, .func (.func 99) #[] #[]] w0 fun v w => v = .bool ((List.range xs.length).any fun k => !decide (((xs.getD k []).length : Int) = 32)) ∧ Ext No w0 w := by
 refine (iX (M := No) (wb := w0) (H := []) (sv := lv) (els := xs.map fun s => [sv s]) (caps := []) (g := 99) (fun k => !decide (((xs.getD k []).length : Int) = 32)) (fun k => sv (xs.getD k [])) (fun _ e => e = PW.join []) (PW.join []) w0 call99 (fun e w U => h.grow U.ext) (fun k hk => ?_) rfl lj (fun k e w hk he hok hf => ?_)).mono ?_
 ·have hk' : k < xs.length := by simpa using hk
  simp [List.getD_eq_getElem?_getD, List.getElem?_eq_getElem hk']
 ·subst he
  refine (oX (xs.getD k []) w).mono ?_
  rintro v w' ⟨hv, hx⟩
  exact ⟨hv, PW.join [], hx.mono (fun b _ h => h.elim), (lj (w0 := w')).get (k := 0) rfl, fun b hb => by obtain ⟨e, he, _⟩ := hb; simp at he, rfl⟩
 ·rintro v w ⟨hv, k, e', hJ, U⟩
  exact ⟨by rw [hv, List.length_map], U.ext⟩
theorem oe (xs : List By) : (!(List.range xs.length).any fun k => !decide (((xs.getD k []).length : Int) = 32)) = xs.all fun s => decide (s.length = 32) := by
 rw [Bool.eq_iff_iff]
 simp only [Bool.not_eq_true', List.any_eq_false, List.mem_range, Bool.not_eq_true, Bool.not_eq_false', decide_eq_true_eq, List.all_eq_true]
 constructor
 ·intro h s hs
  obtain ⟨k, hk, rfl⟩ := List.getElem_of_mem hs
  have := h k hk
  rw [List.getD_eq_getElem?_getD, List.getElem?_eq_getElem hk] at this
  simp at this
  omega
 ·intro h k hk
  have := h xs[k] (List.getElem_mem hk)
  rw [List.getD_eq_getElem?_getD, List.getElem?_eq_getElem hk]
  simp [this]
theorem nl (lv : Value) (xs : List By) (w0 : World) (hlv : SlAt w0 lv 1 (xs.map fun s => [sv s])) :
  Ret Tryd.prog 84 #[lv] w0 fun v w => v = .bool (xs.all fun s => decide (s.length = 32)) ∧ Ext No w0 w := by
 refine aI func84 rfl ntmps84 (lb rfl) fun a Y => ?_
 replace Y := Y.p1 0 rfl
 replace U : St No w0 [] w0 := St.init w0
 refine aa fun K1 hK1 => wla Y rfl fun a Y => ab (hK1 _ _ <| aa fun K2 hK2 => ?_)
 refine wla Y rfl fun a Y => ab (hK2 _ _ <| aa fun K3 hK3 => ?_)
 refine wlm Y rfl fun a Y => wlm Y rfl fun a Y => am Y U de call100 rfl (mz lv xs _ (U.arg hlv)) ?_
 clear Y U
 intro a w1 Y U
 refine wlv Y (bn rfl) fun a Y => wla Y rfl fun a Y => ab (hK3 _ _ ?_)
 replace Y := Y.p1 2 rfl
 refine au ?_
 refine ar Y results84 (ae rfl ah) ?_
 exact ⟨by simp only [retv]; rw [← oe]; try rfl, U.ext⟩
theorem kQ (lv : Value) (xs : List By) (w0 : World) (hlv : SlAt w0 lv 1 (xs.map fun s => [sv s])) (h0 : 0 < xs.length) :
  Ret Tryd.prog 85 #[lv] w0 fun v w => v = .tuple #[sv (xs.getD (xs.length - 1) []), cut lv 1 0 (xs.length - 1) (slCap lv), .bool true] ∧ Ext No w0 w := by
 have hnb := hlv.le
 rw [List.length_map] at hnb
 refine aI func85 rfl ntmps85 (lb rfl) fun a Y => ?_
 replace Y := Y.p1 0 rfl
 replace U : St No w0 [] w0 := St.init w0
 refine aa fun K1 hK1 => wla Y rfl fun a Y => wla Y rfl fun a Y => wla Y rfl fun a Y => ab (hK1 _ _ <| ac fun K2 hK2 => ?_)
 refine aa fun K3 hK3 => wlm Y rfl fun a Y => wlv Y ((aK (sT := 45) (U.arg hlv) rfl rfl (runUnderlying45 _)).asi (m' := (xs.length : Int)) sm) fun a Y => wlv Y ((v_eq rfl rfl).asb (b' := false) (by rw [decide_eq_false_iff_not]; omega)) fun a Y => ab (hK3 _ _ <| aE Y rfl ?_)
 refine aq <| hK2 _ _ <| aa fun K4 hK4 => wlm Y rfl fun a Y => wlv Y ((aK (sT := 45) (U.arg hlv) rfl rfl (runUnderlying45 _)).asi (m' := (xs.length : Int)) sm) fun a Y => wlv Y (bq rfl rfl ⟨om, om⟩) fun a Y => wla Y rfl fun a Y => ab (hK4 _ _ ?_)
 replace Y := Y.p5 0 2 3 4 5 rfl
 refine ac fun K5 hK5 => aO kr (aP kr fun w1 hxz => ?_)
 replace U := U.grow hxz
 refine aS (k := 0) 8 [6, 7] Y kr kr kr rfx ?_
 replace Y := Y.p4 0 3 4 5 rfl
 refine aA [] (fun i => match i with | _ => fun _ _ => False) 8 [[], [], [0, 1], [2], [], [], [4, 5], [3]] [lv, iv ((xs.length : Int) - 1), slAddr lv ((xs.length - 1) * 1), sv (xs.getD (xs.length - 1) []), lv, iv ((xs.length : Int) - 1), (cut lv 1 0 (xs.length - 1) (slCap lv)), sv (xs.getD (xs.length - 1) [])] Y U kr kr kr ?_ ?_ ?_
 ·intro i hi hiq
  match i, hi, hiq with
  | 0, _, _ => exact fun w U => OpV.g (ai rfl)
  | 1, _, _ => exact fun w U => OpV.g (ai rfl)
  | 2, _, _ => exact fun w U => OpV.g ((ak (i := (xs.length : Int) - 1) (sT := 45) (U.arg hlv) rfl rfl (runUnderlying45 _) (sizeOf9 _) om (by simp; omega)).as (v' := slAddr lv ((xs.length - 1) * 1)) (by rw [show ((xs.length : Int) - 1).toNat = (xs.length - 1) from by omega]))
  | 3, _, _ => exact fun w U => OpV.g (ax (u := sv (xs.getD (xs.length - 1) [])) (i := (xs.length - 1)) (j := 0) (U.arg hlv) (by simp; omega) rfl (isAgg9 _) (by simp [List.getD_eq_getElem?_getD, List.getElem?_eq_getElem (show (xs.length - 1) < xs.length by omega)]))
  | 4, _, _ => exact fun w U => OpV.g (ai rfl)
  | 5, _, _ => exact fun w U => OpV.g (ai rfl)
  | 6, _, _ => exact fun w U => OpV.g (bW (l := 0) (h := (xs.length - 1)) (U.arg hlv) rfl rfl rfl underlying45 kr (.inl ⟨rfl, rfl⟩) (.inr (by rw [show ((xs.length : Int) - 1 : Int) = (((xs.length - 1) : Nat) : Int) from by omega] <;> rfl)) (Nat.zero_le _) (by first | (rw [List.length_map]; omega) | (simp <;> omega)))
  | 7, _, _ => exact fun w U => OpV.g (dG rfl)
 ·intro i hi
  exact absurd hi sm
 clear Y U
 intro  a w2 Y U
 replace Y : Fr 19 [(12, lv), (13, iv ((xs.length : Int) - 1)), (14, slAddr lv ((xs.length - 1) * 1)), (15, sv (xs.getD (xs.length - 1) [])), (16, lv), (17, iv ((xs.length : Int) - 1)), (18, (cut lv 1 0 (xs.length - 1) (slCap lv))), (2, sv (xs.getD (xs.length - 1) [])), (0, _), (3, _), (4, _), (5, _)] [] a := Y
 refine ab <| aQ (k := 8) 10 [9] kr kr kr ?_
 refine wla Y rfl fun a Y => wla Y rfl fun a Y => ab <| bd kr ?_
 refine hK5 _ _ ?_
 replace Y := Y.p3 2 3 4 rfl
 refine au ?_
 refine ar Y results85 (ae rfl (ae rfl (ae rfl ah))) ?_
 exact ⟨by rfl, U.ext⟩
theorem j9 (x : Wd) (n : Nat) (w0 : World) (hn : 0 < n) (hn2 : n < 32) :
  Ret Tryd.prog 102 #[wv x, iv (n : Int)] w0 fun v w => v = wv ((x >>> n) ||| (x <<< (32 - n))) ∧ Ext No w0 w := by
 refine aI func102 rfl ntmps102 (lb rfl) fun a Y => ?_
 replace Y := Y.p2 0 1 rfl
 replace U : St No w0 [] w0 := St.init w0
 refine aa fun K1 hK1 => wla Y rfl fun a Y => ab (hK1 _ _ <| ac fun K2 hK2 => ?_)
 refine aO kr (aP kr fun w1 hxz => ?_)
 replace U := U.grow hxz
 refine aS (k := 0) 7 [2, 6] Y kr kr kr rfx ?_
 replace Y := Y.p3 0 1 4 rfl
 refine aA [] (fun i => match i with | _ => fun _ _ => False) 7 [[], [], [0, 1], [], [], [4], [3, 5]] [wv x, iv (n : Int), wv (x >>> n), wv x, iv (n : Int), iv ((32 - n : Nat) : Int), wv (x <<< (32 - n))] Y U kr kr kr ?_ ?_ ?_
 ·intro i hi hiq
  match i, hi, hiq with
  | 0, _, _ => exact fun w U => OpV.g (ai rfl)
  | 1, _, _ => exact fun w U => OpV.g (ai rfl)
  | 2, _, _ => exact fun w U => OpV.g (dw (n := n) rfl rfl)
  | 3, _, _ => exact fun w U => OpV.g (ai rfl)
  | 4, _, _ => exact fun w U => OpV.g (ai rfl)
  | 5, _, _ => exact fun w U => OpV.g ((bq rfl rfl ⟨om, om⟩).asi (m' := ((32 - n : Nat) : Int)) om)
  | 6, _, _ => exact fun w U => OpV.g (dW (n := (32 - n)) rfl rfl)
 ·intro i hi
  exact absurd hi sm
 clear Y U
 intro  a w2 Y U
 replace Y : Fr 13 [(5, wv x), (6, iv (n : Int)), (7, wv (x >>> n)), (8, wv x), (9, iv (n : Int)), (10, iv ((32 - n : Nat) : Int)), (11, wv (x <<< (32 - n))), (0, _), (1, _), (4, _)] [] a := Y
 refine ab <| aQ (k := 7) 9 [8] kr kr kr ?_
 refine wlv Y (fC rfl rfl) fun a Y => wla Y rfl fun a Y => ab <| bd kr ?_
 refine hK2 _ _ ?_
 replace Y := Y.p1 4 rfl
 refine au ?_
 refine ar Y results102 (ae rfl ah) ?_
 exact ⟨by rfl, U.ext⟩
theorem kX {st : List (By × Nat)} (h : 2 ≤ st.length) : ∃ r2 s2 r1 s1 t, st = (r2, s2) :: (r1, s1) :: t ∧ st.reverse.getD (st.length - 2) ([], 0) = (r1, s1) ∧ st.reverse.getD (st.length - 1) ([], 0) = (r2, s2) ∧ st.reverse.take (st.length - 2) = t.reverse := by
 match st, h with
 | (r2, s2) :: (r1, s1) :: t, _ =>
  refine ⟨r2, s2, r1, s1, t, rfl, ?_, ?_, ?_⟩ <;> simp [List.getD_eq_getElem?_getD, List.getElem?_append]
theorem lL {st : List (By × Nat)} (hW : incrW st) (h2 : 2 ≤ st.length) (h : ¬ ((st.reverse.getD (st.length - 2) ([], 0)).2 : Int) = ((st.reverse.getD (st.length - 1) ([], 0)).2 : Int)) : incr st := by
 obtain ⟨r2, s2, r1, s1, t, e, e1, e2, _⟩ := kX h2
 rw [e1, e2] at h
 refine hW.strict fun x y t' e' he => h ?_
 rw [e] at e'
 injection e' with h3 h4
 injection h4 with h5 h6
 subst h3 h5
 exact congrArg Int.ofNat he.symm
theorem Stk.le : ∀ {st : List (By × Nat)} {l : List By}, Stk sha st l → st.length ≤ l.length ∧ ∀ x ∈ st, x.1.length = 32 ∧ x.2 ≤ l.length
 | [], l, h => ⟨Nat.zero_le _, fun x hx => by cases hx⟩
 | x :: st, l, h => by
  obtain ⟨l1, c, rfl, hc, ⟨a, ha⟩, hr, U⟩ := h
  have hp : 0 < c.length := by rw [hc, ha]; exact Nat.pow_pos de
  obtain ⟨i1, i2⟩ := Stk.le U
  refine ⟨by simp; omega, fun y hy => ?_⟩
  rcases List.mem_cons.1 hy with rfl | hy
  ·exact ⟨by rw [hr]; exact ct bY c, by rw [List.length_append]; omega⟩
  ·have := i2 y hy
   exact ⟨this.1, by rw [List.length_append]; omega⟩
theorem mZ {st : List (By × Nat)} {l : List By} (h : Stk sha st l) (hi : incr st) (h0 : 0 < st.length) : (backs ((st.drop 1).reverse.map Prod.fst).length ((st.drop 1).reverse.map Prod.fst).length).foldl (fun o k => nodeH sha (((st.drop 1).reverse.map Prod.fst).getD k []) o) (st.reverse.getD (st.length - 1) ([], 0)).1 = rootH sha l := by
 match st, h0 with
 | x :: st, _ =>
  rw [eD (fun o r => nodeH sha r o) [] _ _ _ (Nat.le_refl _)]
  have e : (x :: st).reverse.getD ((x :: st).length - 1) ([], 0) = x := by simp [List.getD_eq_getElem?_getD, List.getElem?_append]
  rw [e, Nat.sub_self, List.drop_zero, List.drop_one, List.tail_cons, ← List.map_reverse, List.reverse_reverse, List.foldl_map]
  exact kj sha h hi
theorem j6 (st : List (By × Nat)) : (st.reverse.map fun x : By × Nat => [sv x.1]).take (st.length - 1) = (((st.drop 1).reverse.map Prod.fst).map fun s => [sv s]) := by
 cases st with
 | nil => rfl
 | cons x st => simp [List.take_append, Function.comp_def]
theorem er (lv : Value) (ls : List By) (w0 : World) (hlv : SlAt w0 lv 1 (ls.map fun s => [sv s])) (hxn : ls.length ≤ 1000) (hxl : ∀ k, k < ls.length → (ls.getD k []).length ≤ 40000000) (hk0 : (blk 0 (kOf.map wv) 161).ok w0) :
  Ret Tryd.prog 63 #[lv] w0 fun v w => v = sv (rootH sha ls) ∧ Ext No w0 w := by
 have hnb := hlv.le
 rw [List.length_map] at hnb
 refine aI func63 rfl ntmps63 (lb rfl) fun a Y => ?_
 replace Y := Y.p1 0 rfl
 replace U : St (· = 0) w0 [blk 0 (kOf.map wv) 161] w0 := St.one hk0
 refine aa fun K1 hK1 => wla Y rfl fun a Y => ab (hK1 _ _ <| aa fun K2 hK2 => ?_)
 refine wla Y rfl fun a Y => ab (hK2 _ _ <| aa fun K3 hK3 => ?_)
 refine wla Y rfl fun a Y => ab (hK3 _ _ <| ac fun K4 hK4 => ?_)
 refine aa fun K5 hK5 => wlm Y rfl fun a Y => wlv Y ((aK (sT := 45) (hlv.grow (U.ext.const hk0 (U.g 0 rfl))) rfl rfl (runUnderlying45 _)).asi (m' := (ls.length : Int)) sm) fun a Y => wlm Y rfl fun a Y => ab (hK5 _ _ <| ap ?_)
 replace U : St (· = 0) w0 [own (.slice none 0 0) 9 1 (([] : List (By × Nat)).reverse.map fun x : By × Nat => [sv x.1]), own (.slice none 0 0) 3 1 (([] : List (By × Nat)).reverse.map fun x : By × Nat => [iv (x.2 : Int)]), blk 0 (kOf.map wv) 161] w0 := U.nil_own.nil_own
 refine aV (fun m a w => ∃ (k : Nat) (st : List (By × Nat)) (v : Value) (u : Value), m = ls.length - k ∧ (k ≤ ls.length) ∧ (Stk sha st (ls.take k)) ∧ (incr st) ∧ Fr 96 [(2, .string (⟨#[]⟩)), (11, lv), (12, iv (ls.length : Int)), (13, iv (k : Int)), (3, v), (4, u)] [] a ∧ St (· = 0) w0 [own v 9 1 (st.reverse.map fun x : By × Nat => [sv x.1]), own u 3 1 (st.reverse.map fun x : By × Nat => [iv (x.2 : Int)]), blk 0 (kOf.map wv) 161] w) _ ⟨0, [], .slice none 0 0, .slice none 0 0, rfl, Nat.zero_le _, rfl, trivial, Y.pick [2, 11, 12, 13, 3, 4], U.select [0, 1, 2] de⟩ ?_
 rintro _ a w1 ⟨k, st, v, u, rfl, hk, hS, hI, Y, U⟩
 refine aa fun K6 hK6 => wlv Y (v_lt rfl rfl) fun a Y => ab (hK6 _ _ <| ac fun K7 hK7 => ?_)
 refine az Y rfl (fun hc1 => ?_) (fun hc1 => ?_)
 ·rw [hc1] at Y
  try simp only [qz] at hc1
  refine aq <| hK7 _ _ <| ac fun K8 hK8 => ap <| aa fun K9 hK9 => wlv Y ((ak (i := (k : Int)) (sT := 45) (hlv.grow (U.ext.const hk0 (U.g 2 rfl))) rfl rfl (runUnderlying45 _) (sizeOf9 _) om (by first | (rw [List.length_map]; omega) | (rw [List.length_map, List.length_reverse]; omega))).as (v' := slAddr lv (k * 1)) rfl) fun a Y => ?_
  refine wlv Y (ax (u := sv (ls.getD k [])) (i := k) (j := 0) (hlv.grow (U.ext.const hk0 (U.g 2 rfl))) (by first | (rw [List.length_map]; omega) | (rw [List.length_map, List.length_reverse]; omega)) rfl (isAgg9 _) (by simp [List.getD_eq_getElem?_getD, List.getElem?_eq_getElem (show k < ls.length by omega)])) fun a Y => wla Y rfl fun a Y => ?_
  refine ab (hK9 _ _ <| aa fun K10 hK10 => ?_)
  refine wlm Y rfl fun a Y => wlm Y rfl fun a Y => am Y U de call78 rfl (iz (ls.getD k []) _ (hxl k om) (U.g 2 rfl)) ?_
  clear Y U
  intro a w2 Y U
  refine aG (E := 9) (sz := 1) rfl [[sv (leafH sha (ls.getD k []))]] kr sm rfl de de Y U ?_
  clear Y U
  intro a w3 Y U
  refine bf (i := 1) (sT := 45) (inf := Tryd.t9) (z := .string (⟨#[]⟩)) (b := 0) (off := 0) (m := 0) (c := 0) rfl rfl rfl (U.ow 0 rfl) sm underlying45 rfl rfl rfl rfl de (by simp [Value.oneCell', yv, wv, sv]) (by have hby : Tryd.t9.bytes = 16 := rfl; have hby3 : Tryd.t3.bytes = 8 := rfl; have hle0 := hS.le.1; rw [List.length_take] at hle0; simp only [big, hby, hby3, List.length_append, List.length_take, List.length_map, List.length_reverse, List.length_cons, List.length_nil]; omega) (by have hby : Tryd.t9.bytes = 16 := rfl; have hby3 : Tryd.t3.bytes = 8 := rfl; have hle0 := hS.le.1; rw [List.length_take] at hle0; simp only [big, hby, hby3, List.length_append, List.length_take, List.length_map, List.length_reverse, List.length_cons, List.length_nil]; omega) de Y U fun a w4 s2 Y U _ => ?_
  refine wlm Y rfl fun a Y => aG (E := 3) (sz := 1) rfl [[iv 1]] kr sm rfl de de Y U ?_
  clear Y U
  intro a w5 Y U
  refine bf (i := 3) (sT := 41) (inf := Tryd.t3) (z := iv 0) (b := 0) (off := 0) (m := 0) (c := 0) rfl rfl rfl (U.ow 0 rfl) sm underlying41 rfl rfl rfl rfl de (by simp [Value.oneCell', yv, wv, sv]) (by have hby : Tryd.t9.bytes = 16 := rfl; have hby3 : Tryd.t3.bytes = 8 := rfl; have hle0 := hS.le.1; rw [List.length_take] at hle0; simp only [big, hby, hby3, List.length_append, List.length_take, List.length_map, List.length_reverse, List.length_cons, List.length_nil]; omega) (by have hby : Tryd.t9.bytes = 16 := rfl; have hby3 : Tryd.t3.bytes = 8 := rfl; have hle0 := hS.le.1; rw [List.length_take] at hle0; simp only [big, hby, hby3, List.length_append, List.length_take, List.length_map, List.length_reverse, List.length_cons, List.length_nil]; omega) de Y U fun a w6 s3 Y U _ => ?_
  refine wla Y rfl fun a Y => wla Y rfl fun a Y => ab (hK10 _ _ ?_)
  replace Y := Y.p6 2 11 12 13 3 4 rfl
  replace U := U.k3 28 rfl
  refine aa fun K11 hK11 => wlm Y rfl fun a Y => wlv Y ((aK (sT := 41) (U.ow 1 rfl) rfl rfl (runUnderlying41 _)).asi (m' := ((st.length + 1 : Nat) : Int)) sm) fun a Y => wla Y rfl fun a Y => ab (hK11 _ _ <| ap ?_)
  rw [show (st.reverse.map fun x : By × Nat => [sv x.1]) ++ ([[sv (leafH sha (ls.getD k []))]]) = (((leafH sha (ls.getD k []), 1) :: st).reverse.map fun x : By × Nat => [sv x.1]) from by simp] at U
  rw [show (st.reverse.map fun x : By × Nat => [iv (x.2 : Int)]) ++ ([[iv 1]]) = (((leafH sha (ls.getD k []), 1) :: st).reverse.map fun x : By × Nat => [iv (x.2 : Int)]) from by simp] at U
  obtain ⟨hS1, hW1⟩ := Stk.push sha hS hI (ls.getD k [])
  rw [← cc [] om] at hS1
  refine aV (fun m a w => ∃ (st1 : List (By × Nat)) (v1 : Value) (u1 : Value), m = st1.length ∧ (Stk sha st1 (ls.take (k + 1))) ∧ (incrW st1) ∧ Fr 96 [(2, .string (⟨#[]⟩)), (11, lv), (12, iv (ls.length : Int)), (13, iv (k : Int)), (7, iv (st1.length : Int)), (3, v1), (4, u1)] [] a ∧ St (· = 0) w0 [own v1 9 1 (st1.reverse.map fun x : By × Nat => [sv x.1]), own u1 3 1 (st1.reverse.map fun x : By × Nat => [iv (x.2 : Int)]), blk 0 (kOf.map wv) 161] w) _ ⟨((leafH sha (ls.getD k []), 1) :: st), s2, s3, rfl, hS1, hW1, Y.pick [2, 11, 12, 13, 7, 3, 4], U.select [0, 1, 2] de⟩ ?_
  rintro _ a w7 ⟨st1, v1, u1, rfl, hS1, hW1, Y, U⟩
  have hle1 := hS1.le
  have hln1 : st1.length ≤ ls.length := Nat.le_trans hle1.1 (by rw [List.length_take]; omega)
  refine ac fun K12 hK12 => ac fun K13 hK13 => aO kr (aP kr fun w8 hxz => ?_)
  replace U : St (· = 0) w0 [own v1 9 1 (st1.reverse.map fun x : By × Nat => [sv x.1]), own u1 3 1 (st1.reverse.map fun x : By × Nat => [iv (x.2 : Int)]), blk 0 (kOf.map wv) 161] w8 := U.grow hxz
  refine aQ (k := 0) 3 [2] kr kr kr ?_
  refine wlm Y rfl fun a Y => wlv Y (v_gt rfl rfl) fun a Y => wlm Y rfl fun a Y => ab ?_
  rcases Bool.eq_false_or_eq_true (decide (1 < (st1.length : Int))) with hb4 | hb4
  ·rw [hb4] at Y
   try simp only [qz] at hb4
   obtain ⟨r2, s2, r1, s1, t, hst0, e1, e2, e3⟩ := kX (st := st1) om
   have hb1 := hle1.2 (st1.reverse.getD (st1.length - 2) ([], 0)) (List.mem_reverse.1 (bF (by rw [List.length_reverse]; omega)))
   have hb2 := hle1.2 (st1.reverse.getD (st1.length - 1) ([], 0)) (List.mem_reverse.1 (bF (by rw [List.length_reverse]; omega)))
   rw [List.length_take] at hb1 hb2
   refine aS (k := 3) 13 [7, 12] Y kr kr kr rfx ?_
   replace Y := Y.p10 2 11 12 13 7 3 4 27 28 29 rfl
   refine aA [] (fun i => match i with | _ => fun _ _ => False) 10 [[], [], [1], [0, 2], [3], [], [], [6], [5, 7], [8]] [u1, iv (st1.length : Int), iv ((st1.length : Int) - 2), slAddr u1 ((st1.length - 2) * 1), iv ((st1.reverse.getD (st1.length - 2) ([], 0)).2 : Int), u1, iv (st1.length : Int), iv ((st1.length : Int) - 1), slAddr u1 ((st1.length - 1) * 1), iv ((st1.reverse.getD (st1.length - 1) ([], 0)).2 : Int)] Y U kr kr kr ?_ ?_ ?_
   ·intro i hi hiq
    match i, hi, hiq with
    | 0, _, _ => exact fun w U => OpV.g (ai rfl)
    | 1, _, _ => exact fun w U => OpV.g (ai rfl)
    | 2, _, _ => exact fun w U => OpV.g (bq rfl rfl ⟨om, om⟩)
    | 3, _, _ => exact fun w U => OpV.g ((ak (i := (st1.length : Int) - 2) (sT := 41) (U.ow 1 rfl) rfl rfl (runUnderlying41 _) (sizeOf3 _) om (by first | (rw [List.length_map]; omega) | (rw [List.length_map, List.length_reverse]; omega))).as (v' := slAddr u1 ((st1.length - 2) * 1)) (by rw [show ((st1.length : Int) - 2).toNat = (st1.length - 2) from by omega]))
    | 4, _, _ => exact fun w U => OpV.g (ax (u := iv ((st1.reverse.getD (st1.length - 2) ([], 0)).2 : Int)) (i := (st1.length - 2)) (j := 0) (U.ow 1 rfl) (by first | (rw [List.length_map]; omega) | (rw [List.length_map, List.length_reverse]; omega)) rfl (isAgg3 _) (by rw [br ([], 0)]; rfl))
    | 5, _, _ => exact fun w U => OpV.g (ai rfl)
    | 6, _, _ => exact fun w U => OpV.g (ai rfl)
    | 7, _, _ => exact fun w U => OpV.g (bq rfl rfl ⟨om, om⟩)
    | 8, _, _ => exact fun w U => OpV.g ((ak (i := (st1.length : Int) - 1) (sT := 41) (U.ow 1 rfl) rfl rfl (runUnderlying41 _) (sizeOf3 _) om (by first | (rw [List.length_map]; omega) | (rw [List.length_map, List.length_reverse]; omega))).as (v' := slAddr u1 ((st1.length - 1) * 1)) (by rw [show ((st1.length : Int) - 1).toNat = (st1.length - 1) from by omega]))
    | 9, _, _ => exact fun w U => OpV.g (ax (u := iv ((st1.reverse.getD (st1.length - 1) ([], 0)).2 : Int)) (i := (st1.length - 1)) (j := 0) (U.ow 1 rfl) (by first | (rw [List.length_map]; omega) | (rw [List.length_map, List.length_reverse]; omega)) rfl (isAgg3 _) (by rw [br ([], 0)]; rfl))
   ·intro i hi
    exact absurd hi sm
   clear Y U
   intro  a w9 Y U
   replace Y : Fr 96 [(30, u1), (31, iv (st1.length : Int)), (32, iv ((st1.length : Int) - 2)), (33, slAddr u1 ((st1.length - 2) * 1)), (34, iv ((st1.reverse.getD (st1.length - 2) ([], 0)).2 : Int)), (35, u1), (36, iv (st1.length : Int)), (37, iv ((st1.length : Int) - 1)), (38, slAddr u1 ((st1.length - 1) * 1)), (39, iv ((st1.reverse.getD (st1.length - 1) ([], 0)).2 : Int)), (2, _), (11, _), (12, _), (13, _), (7, _), (3, _), (4, _), (27, _), (28, _), (29, _)] [] a := Y
   refine ab <| aQ (k := 13) 15 [14] kr kr kr ?_
   refine wly Y (v_eq rfl rfl) fun a Y => wlv Y (aB rfl rfl) fun a Y => ab <| bd kr ?_
   refine hK13 _ _ ?_
   replace Y := Y.p8 2 11 12 13 7 3 4 41 rfl
   refine az Y rfl (fun hc5 => ?_) (fun hc5 => ?_)
   ·rw [hc5] at Y
    try simp only [qz] at hc5
    obtain rfl : s1 = s2 := by rw [e1, e2] at hc5; simp only at hc5; omega
    refine aq <| hK12 _ _ <| ac fun K14 hK14 => ap <| ac fun K15 hK15 => aO kr (aP kr fun w10 hxz => ?_)
    replace U : St (· = 0) w0 [own v1 9 1 (st1.reverse.map fun x : By × Nat => [sv x.1]), own u1 3 1 (st1.reverse.map fun x : By × Nat => [iv (x.2 : Int)]), blk 0 (kOf.map wv) 161] w10 := U.grow hxz
    refine aS (k := 0) 16 [3, 15] Y kr kr kr rfx ?_
    replace Y := Y.p8 2 11 12 13 7 3 4 41 rfl
    refine aA [15] (fun i => match i with | 15 => pm (fun b : Nat => .slice (some ⟨b, 0, none⟩) 1 1) (fun b => [own (.slice (some ⟨b, 0, none⟩) 1 1) 9 1 [[sv (nodeH sha ((st1.reverse.getD (st1.length - 2) ([], 0)).1) ((st1.reverse.getD (st1.length - 1) ([], 0)).1))]]]) (fun _ => True) | _ => fun _ _ => False) 16 [[], [], [1], [0, 2], [], [], [5], [4, 6], [7], [], [], [10], [9, 11], [12], [8, 13], [14]] [v1, iv (st1.length : Int), iv ((st1.length : Int) - 2), (cut v1 1 0 (st1.length - 2) (slCap v1)), v1, iv (st1.length : Int), iv ((st1.length : Int) - 2), slAddr v1 ((st1.length - 2) * 1), sv ((st1.reverse.getD (st1.length - 2) ([], 0)).1), v1, iv (st1.length : Int), iv ((st1.length : Int) - 1), slAddr v1 ((st1.length - 1) * 1), sv ((st1.reverse.getD (st1.length - 1) ([], 0)).1), sv (nodeH sha ((st1.reverse.getD (st1.length - 2) ([], 0)).1) ((st1.reverse.getD (st1.length - 1) ([], 0)).1)), undef] Y U kr kr kr ?_ ?_ ?_
    ·intro i hi hiq
     match i, hi, hiq with
     | 0, _, _ => exact fun w U => OpV.g (ai rfl)
     | 1, _, _ => exact fun w U => OpV.g (ai rfl)
     | 2, _, _ => exact fun w U => OpV.g (bq rfl rfl ⟨om, om⟩)
     | 3, _, _ => exact fun w U => OpV.g (bW (l := 0) (h := (st1.length - 2)) (U.ow 0 rfl) rfl rfl rfl underlying45 kr (.inl ⟨rfl, rfl⟩) (.inr (by rw [show ((st1.length : Int) - 2 : Int) = (((st1.length - 2) : Nat) : Int) from by omega] <;> rfl)) (Nat.zero_le _) (by first | (rw [List.length_map]; omega) | (simp <;> omega)))
     | 4, _, _ => exact fun w U => OpV.g (ai rfl)
     | 5, _, _ => exact fun w U => OpV.g (ai rfl)
     | 6, _, _ => exact fun w U => OpV.g (bq rfl rfl ⟨om, om⟩)
     | 7, _, _ => exact fun w U => OpV.g ((ak (i := (st1.length : Int) - 2) (sT := 45) (U.ow 0 rfl) rfl rfl (runUnderlying45 _) (sizeOf9 _) om (by first | (rw [List.length_map]; omega) | (rw [List.length_map, List.length_reverse]; omega))).as (v' := slAddr v1 ((st1.length - 2) * 1)) (by rw [show ((st1.length : Int) - 2).toNat = (st1.length - 2) from by omega]))
     | 8, _, _ => exact fun w U => OpV.g (ax (u := sv ((st1.reverse.getD (st1.length - 2) ([], 0)).1)) (i := (st1.length - 2)) (j := 0) (U.ow 0 rfl) (by first | (rw [List.length_map]; omega) | (rw [List.length_map, List.length_reverse]; omega)) rfl (isAgg9 _) (by rw [br ([], 0)]; rfl))
     | 9, _, _ => exact fun w U => OpV.g (ai rfl)
     | 10, _, _ => exact fun w U => OpV.g (ai rfl)
     | 11, _, _ => exact fun w U => OpV.g (bq rfl rfl ⟨om, om⟩)
     | 12, _, _ => exact fun w U => OpV.g ((ak (i := (st1.length : Int) - 1) (sT := 45) (U.ow 0 rfl) rfl rfl (runUnderlying45 _) (sizeOf9 _) om (by first | (rw [List.length_map]; omega) | (rw [List.length_map, List.length_reverse]; omega))).as (v' := slAddr v1 ((st1.length - 1) * 1)) (by rw [show ((st1.length : Int) - 1).toNat = (st1.length - 1) from by omega]))
     | 13, _, _ => exact fun w U => OpV.g (ax (u := sv ((st1.reverse.getD (st1.length - 1) ([], 0)).1)) (i := (st1.length - 1)) (j := 0) (U.ow 0 rfl) (by first | (rw [List.length_map]; omega) | (rw [List.length_map, List.length_reverse]; omega)) rfl (isAgg9 _) (by rw [br ([], 0)]; rfl))
     | 14, _, _ => exact fun w U => aT call79 rfl (fh ((st1.reverse.getD (st1.length - 2) ([], 0)).1) ((st1.reverse.getD (st1.length - 1) ([], 0)).1) _ (by first | omega | (have := hy32 xs (by have h := hnx; unfold NxB at h; omega); omega)) (by first | omega | exact Nat.le_trans (Nat.le_of_eq hf32) de) (U.g 2 rfl))
     | 15, _, h => exact absurd sm h
     | i + 16, h, _ => exact absurd h om
    ·intro i hi
     simp only [List.mem_cons, List.not_mem_nil, or_false] at hi
     subst hi
     ·intro w U
      exact aY (E := 9) (sz := 1) rfl [[sv (nodeH sha ((st1.reverse.getD (st1.length - 2) ([], 0)).1) ((st1.reverse.getD (st1.length - 1) ([], 0)).1))]] (fun _ => by kernel_rfl) sm rfl de
    clear Y U
    rintro _ _ ⟨b6, rfl, -, rfl⟩ a w11 Y U
    replace Y : Fr 96 [(44, v1), (45, iv (st1.length : Int)), (46, iv ((st1.length : Int) - 2)), (47, (cut v1 1 0 (st1.length - 2) (slCap v1))), (48, v1), (49, iv (st1.length : Int)), (50, iv ((st1.length : Int) - 2)), (51, slAddr v1 ((st1.length - 2) * 1)), (52, sv ((st1.reverse.getD (st1.length - 2) ([], 0)).1)), (53, v1), (54, iv (st1.length : Int)), (55, iv ((st1.length : Int) - 1)), (56, slAddr v1 ((st1.length - 1) * 1)), (57, sv ((st1.reverse.getD (st1.length - 1) ([], 0)).1)), (58, sv (nodeH sha ((st1.reverse.getD (st1.length - 2) ([], 0)).1) ((st1.reverse.getD (st1.length - 1) ([], 0)).1))), (59, _), (2, _), (11, _), (12, _), (13, _), (7, _), (3, _), (4, _), (41, _)] [] a := Y
    replace U : St (· = 0) w0 [_, _, _, _] w11 := U
    refine ab <| aQ (k := 16) 18 [17] kr kr kr ?_
    replace U : St (· = 0) w0 [own (.slice (some ⟨b6, 0, none⟩) 1 1) 9 1 ([[sv (nodeH sha ((st1.reverse.getD (st1.length - 2) ([], 0)).1) ((st1.reverse.getD (st1.length - 1) ([], 0)).1))]]), own (cut v1 1 0 (st1.length - 2) (slCap v1)) 9 1 ((st1.reverse.map fun x : By × Nat => [sv x.1]).take (st1.length - 2)), own u1 3 1 (st1.reverse.map fun x : By × Nat => [iv (x.2 : Int)]), blk 0 (kOf.map wv) 161] w11 := U.take (i := 1) (k := (st1.length - 2)) rfl (by simp <;> omega)
    refine bf (i := 1) (sT := 45) (inf := Tryd.t9) (z := .string (⟨#[]⟩)) (b := 0) (off := 0) (m := 0) (c := 0) rfl rfl rfl (U.ow 0 rfl) sm underlying45 rfl rfl rfl rfl de (by simp [Value.oneCell', yv, wv, sv]) (by have hby : Tryd.t9.bytes = 16 := rfl; have hby3 : Tryd.t3.bytes = 8 := rfl; have hle0 := hS.le.1; rw [List.length_take] at hle0; simp only [big, hby, hby3, List.length_append, List.length_take, List.length_map, List.length_reverse, List.length_cons, List.length_nil]; omega) (by have hby : Tryd.t9.bytes = 16 := rfl; have hby3 : Tryd.t3.bytes = 8 := rfl; have hle0 := hS.le.1; rw [List.length_take] at hle0; simp only [big, hby, hby3, List.length_append, List.length_take, List.length_map, List.length_reverse, List.length_cons, List.length_nil]; omega) de Y U fun a w12 s7 Y U _ => ?_
    refine wla Y rfl fun a Y => ab <| bd kr ?_
    refine hK15 _ _ ?_
    replace Y := Y.p7 2 11 12 13 7 4 3 rfl
    replace U := U.k3 14 rfl
    refine aO kr (aP kr fun w13 hxz => ?_)
    replace U : St (· = 0) w0 [own s7 9 1 (((st1.reverse.map fun x : By × Nat => [sv x.1]).take (st1.length - 2)) ++ ([[sv (nodeH sha ((st1.reverse.getD (st1.length - 2) ([], 0)).1) ((st1.reverse.getD (st1.length - 1) ([], 0)).1))]])), own u1 3 1 (st1.reverse.map fun x : By × Nat => [iv (x.2 : Int)]), blk 0 (kOf.map wv) 161] w13 := U.grow hxz
    refine aS (k := 0) 11 [3, 10] Y kr kr kr rfx ?_
    replace Y := Y.p7 2 11 12 13 7 4 3 rfl
    refine aA [10] (fun i => match i with | 10 => pm (fun b : Nat => .slice (some ⟨b, 0, none⟩) 1 1) (fun b => [own (.slice (some ⟨b, 0, none⟩) 1 1) 3 1 [[iv (2 * ((st1.reverse.getD (st1.length - 1) ([], 0)).2 : Int))]]]) (fun _ => True) | _ => fun _ _ => False) 11 [[], [], [1], [0, 2], [], [], [5], [4, 6], [7], [8], [9]] [u1, iv (st1.length : Int), iv ((st1.length : Int) - 2), (cut u1 1 0 (st1.length - 2) (slCap u1)), u1, iv (st1.length : Int), iv ((st1.length : Int) - 1), slAddr u1 ((st1.length - 1) * 1), iv ((st1.reverse.getD (st1.length - 1) ([], 0)).2 : Int), iv (2 * ((st1.reverse.getD (st1.length - 1) ([], 0)).2 : Int)), undef] Y U kr kr kr ?_ ?_ ?_
    ·intro i hi hiq
     match i, hi, hiq with
     | 0, _, _ => exact fun w U => OpV.g (ai rfl)
     | 1, _, _ => exact fun w U => OpV.g (ai rfl)
     | 2, _, _ => exact fun w U => OpV.g (bq rfl rfl ⟨om, om⟩)
     | 3, _, _ => exact fun w U => OpV.g (bW (l := 0) (h := (st1.length - 2)) (U.ow 1 rfl) rfl rfl rfl underlying41 kr (.inl ⟨rfl, rfl⟩) (.inr (by rw [show ((st1.length : Int) - 2 : Int) = (((st1.length - 2) : Nat) : Int) from by omega] <;> rfl)) (Nat.zero_le _) (by first | (rw [List.length_map]; omega) | (simp <;> omega)))
     | 4, _, _ => exact fun w U => OpV.g (ai rfl)
     | 5, _, _ => exact fun w U => OpV.g (ai rfl)
     | 6, _, _ => exact fun w U => OpV.g (bq rfl rfl ⟨om, om⟩)
     | 7, _, _ => exact fun w U => OpV.g ((ak (i := (st1.length : Int) - 1) (sT := 41) (U.ow 1 rfl) rfl rfl (runUnderlying41 _) (sizeOf3 _) om (by first | (rw [List.length_map]; omega) | (rw [List.length_map, List.length_reverse]; omega))).as (v' := slAddr u1 ((st1.length - 1) * 1)) (by rw [show ((st1.length : Int) - 1).toNat = (st1.length - 1) from by omega]))
     | 8, _, _ => exact fun w U => OpV.g (ax (u := iv ((st1.reverse.getD (st1.length - 1) ([], 0)).2 : Int)) (i := (st1.length - 1)) (j := 0) (U.ow 1 rfl) (by first | (rw [List.length_map]; omega) | (rw [List.length_map, List.length_reverse]; omega)) rfl (isAgg3 _) (by rw [br ([], 0)]; rfl))
     | 9, _, _ => exact fun w U => OpV.g (cW rfl rfl ⟨om, om⟩)
     | 10, _, h => exact absurd sm h
    ·intro i hi
     simp only [List.mem_cons, List.not_mem_nil, or_false] at hi
     subst hi
     ·intro w U
      exact aY (E := 3) (sz := 1) rfl [[iv (2 * ((st1.reverse.getD (st1.length - 1) ([], 0)).2 : Int))]] (fun _ => by kernel_rfl) sm rfl de
    clear Y U
    rintro _ _ ⟨b8, rfl, -, rfl⟩ a w14 Y U
    replace Y : Fr 96 [(61, u1), (62, iv (st1.length : Int)), (63, iv ((st1.length : Int) - 2)), (64, (cut u1 1 0 (st1.length - 2) (slCap u1))), (65, u1), (66, iv (st1.length : Int)), (67, iv ((st1.length : Int) - 1)), (68, slAddr u1 ((st1.length - 1) * 1)), (69, iv ((st1.reverse.getD (st1.length - 1) ([], 0)).2 : Int)), (70, iv (2 * ((st1.reverse.getD (st1.length - 1) ([], 0)).2 : Int))), (71, _), (2, _), (11, _), (12, _), (13, _), (7, _), (4, _), (3, _)] [] a := Y
    replace U : St (· = 0) w0 [_, _, _, _] w14 := U
    refine ab <| aQ (k := 11) 13 [12] kr kr kr ?_
    replace U : St (· = 0) w0 [own (.slice (some ⟨b8, 0, none⟩) 1 1) 3 1 ([[iv (2 * ((st1.reverse.getD (st1.length - 1) ([], 0)).2 : Int))]]), own s7 9 1 (((st1.reverse.map fun x : By × Nat => [sv x.1]).take (st1.length - 2)) ++ ([[sv (nodeH sha ((st1.reverse.getD (st1.length - 2) ([], 0)).1) ((st1.reverse.getD (st1.length - 1) ([], 0)).1))]])), own (cut u1 1 0 (st1.length - 2) (slCap u1)) 3 1 ((st1.reverse.map fun x : By × Nat => [iv (x.2 : Int)]).take (st1.length - 2)), blk 0 (kOf.map wv) 161] w14 := U.take (i := 2) (k := (st1.length - 2)) rfl (by simp <;> omega)
    refine bf (i := 2) (sT := 41) (inf := Tryd.t3) (z := iv 0) (b := 0) (off := 0) (m := 0) (c := 0) rfl rfl rfl (U.ow 0 rfl) sm underlying41 rfl rfl rfl rfl de (by simp [Value.oneCell', yv, wv, sv]) (by have hby : Tryd.t9.bytes = 16 := rfl; have hby3 : Tryd.t3.bytes = 8 := rfl; have hle0 := hS.le.1; rw [List.length_take] at hle0; simp only [big, hby, hby3, List.length_append, List.length_take, List.length_map, List.length_reverse, List.length_cons, List.length_nil]; omega) (by have hby : Tryd.t9.bytes = 16 := rfl; have hby3 : Tryd.t3.bytes = 8 := rfl; have hle0 := hS.le.1; rw [List.length_take] at hle0; simp only [big, hby, hby3, List.length_append, List.length_take, List.length_map, List.length_reverse, List.length_cons, List.length_nil]; omega) de Y U fun a w15 s9 Y U _ => ?_
    refine wla Y rfl fun a Y => ab <| bd kr ?_
    refine hK14 _ _ ?_
    replace Y := Y.p7 2 11 12 13 7 3 4 rfl
    replace U := U.k3 14 rfl
    refine ao <| wlm Y rfl fun a Y => wlv Y (bq rfl rfl ⟨om, om⟩) fun a Y => wla Y rfl fun a Y => ab ?_
    rw [show ((st1.reverse.map fun x : By × Nat => [sv x.1]).take (st1.length - 2)) ++ ([[sv (nodeH sha ((st1.reverse.getD (st1.length - 2) ([], 0)).1) ((st1.reverse.getD (st1.length - 1) ([], 0)).1))]]) = (((nodeH sha r1 r2, 2 * s1) :: t).reverse.map fun x : By × Nat => [sv x.1]) from by rw [← List.map_take, e3, e1, e2]; simp] at U
    rw [show ((st1.reverse.map fun x : By × Nat => [iv (x.2 : Int)]).take (st1.length - 2)) ++ ([[iv (2 * ((st1.reverse.getD (st1.length - 1) ([], 0)).2 : Int))]]) = (((nodeH sha r1 r2, 2 * s1) :: t).reverse.map fun x : By × Nat => [iv (x.2 : Int)]) from by rw [← List.map_take, e3, e2]; simp] at U
    rw [show (st1.length : Int) - 1 = (((nodeH sha r1 r2, 2 * s1) :: t).length : Int) from by rw [hst0]; simp only [List.length_cons]; omega] at Y
    have hm1 : ((nodeH sha r1 r2, 2 * s1) :: t).length = t.length + 1 := rfl
    have hm2 : st1.length = t.length + 2 := by rw [hst0]; rfl
    rw [hst0] at hS1 hW1
    obtain ⟨hS2, hW2⟩ := Stk.merge sha hS1 hW1
    refine ⟨_, ?_, ((nodeH sha r1 r2, 2 * s1) :: t), s7, s9, rfl, hS2, hW2, Y.pick [2, 11, 12, 13, 7, 3, 4], U.select [0, 1, 2] de⟩
    omega
   rw [hc5] at Y
   try simp only [qz] at hc5
   have hI1 : incr st1 := lL hW1 om hc5
   refine aL <| hK8 _ _ <| ao <| wlv Y (aM rfl rfl ⟨om, om⟩) fun a Y => wlm Y rfl fun a Y => ab ?_
   refine ⟨_, ?_, k + 1, st1, v1, u1, rfl, om, hS1, hI1, Y.pick [2, 11, 12, 13, 3, 4], U.select [0, 1, 2] de⟩
   omega
  rw [hb4] at Y
  try simp only [qz] at hb4
  have hI1 : incr st1 := hW1.strict fun x y t e => absurd hb4 (by rw [e]; simp; omega)
  replace Y : Fr 96 [(2, .string (⟨#[]⟩)), (11, lv), (12, iv (ls.length : Int)), (13, iv (k : Int)), (7, iv (st1.length : Int)), (3, v1), (4, u1), (27, iv (st1.length : Int)), (28, .bool false), (29, .bool false)] [] a := Y.pick [2, 11, 12, 13, 7, 3, 4, 27, 28, 29]
  refine iL (k := 3) 13 [7, 12] Y kr kr kr rfx fun a Y => ?_
  replace Y : Fr 96 [(30, undef), (31, undef), (32, undef), (33, undef), (34, undef), (35, undef), (36, undef), (37, undef), (38, undef), (39, undef), (2, .string (⟨#[]⟩)), (11, lv), (12, iv (ls.length : Int)), (13, iv (k : Int)), (7, iv (st1.length : Int)), (3, v1), (4, u1), (27, iv (st1.length : Int)), (28, .bool false), (29, .bool false)] [] a := Y
  refine aQ (k := 13) 15 [14] kr kr kr ?_
  refine wln Y fun a Y => wlv Y (aw rfl rfl) fun a Y => ab <| bd kr ?_
  refine hK13 _ _ ?_
  replace Y := Y.p8 2 11 12 13 7 3 4 41 rfl
  refine aE Y rfl ?_
  refine aL <| hK8 _ _ <| ao <| wlv Y (aM rfl rfl ⟨om, om⟩) fun a Y => wlm Y rfl fun a Y => ab ?_
  refine ⟨_, ?_, k + 1, st1, v1, u1, rfl, om, hS1, hI1, Y.pick [2, 11, 12, 13, 3, 4], U.select [0, 1, 2] de⟩
  omega
 rw [hc1] at Y
 try simp only [qz] at hc1
 obtain rfl : k = ls.length := by omega
 rw [List.take_length] at hS
 have hle := hS.le
 refine aL <| hK4 _ _ <| ac fun K16 hK16 => aa fun K17 hK17 => wlm Y rfl fun a Y => wlv Y ((aK (sT := 45) (U.ow 0 rfl) rfl rfl (runUnderlying45 _)).asi (m' := (st.length : Int)) sm) fun a Y => wlv Y (v_eq rfl rfl) fun a Y => ab (hK17 _ _ ?_)
 replace Y := Y.p3 2 3 76 rfl
 refine az Y rfl (fun hc10 => ?_) (fun hc10 => ?_)
 ·rw [hc10] at Y
  try simp only [qz] at hc10
  refine aa fun K18 hK18 => am Y U de call80 rfl (kl [] _ (U.g 2 rfl) sm) ?_
  clear Y U
  intro a w16 Y U
  refine wla Y rfl fun a Y => ab (hK18 _ _ <| au ?_)
  refine ar Y results63 (ae rfl ah) ?_
  obtain rfl : st = [] := List.eq_nil_of_length_eq_zero om
  obtain rfl : ls = [] := hS
  exact ⟨rfl, U.ext.const hk0 (U.g 2 rfl)⟩
 rw [hc10] at Y
 try simp only [qz] at hc10
 have hlast := hle.2 (st.reverse.getD (st.length - 1) ([], 0)) (List.mem_reverse.1 (bF (by rw [List.length_reverse]; omega)))
 refine aq <| hK16 _ _ <| aa fun K19 hK19 => wlm Y rfl fun a Y => wlm Y rfl fun a Y => wlv Y ((aK (sT := 45) (U.ow 0 rfl) rfl rfl (runUnderlying45 _)).asi (m' := (st.length : Int)) sm) fun a Y => wlv Y (bq rfl rfl ⟨om, om⟩) fun a Y => wlv Y ((ak (i := (st.length : Int) - 1) (sT := 45) (U.ow 0 rfl) rfl rfl (runUnderlying45 _) (sizeOf9 _) om (by first | (rw [List.length_map]; omega) | (rw [List.length_map, List.length_reverse]; omega))).as (v' := slAddr v ((st.length - 1) * 1)) (by rw [show ((st.length : Int) - 1).toNat = (st.length - 1) from by omega])) fun a Y => wlv Y (ax (u := sv ((st.reverse.getD (st.length - 1) ([], 0)).1)) (i := (st.length - 1)) (j := 0) (U.ow 0 rfl) (by first | (rw [List.length_map]; omega) | (rw [List.length_map, List.length_reverse]; omega)) rfl (isAgg9 _) (by rw [br ([], 0)]; rfl)) fun a Y => aC Y U de (zeroValue9 _) (cs := [.string (⟨#[]⟩)]) rfl ?_
 clear Y U
 intro a w17 Y U
 refine ay 0 Y U rfl rfl rfl (sizeOf9 _) rfl (lb rfl) (ds := [sv ((st.reverse.getD (st.length - 1) ([], 0)).1)]) rfl rfl ?_
 clear Y U
 intro a w18 Y U
 refine ab (hK19 _ _ ?_)
 replace Y := Y.p3 2 3 8 rfl
 refine ac fun K20 hK20 => aa fun K21 hK21 => wlm Y rfl fun a Y => wlm Y rfl fun a Y => wlv Y ((aK (sT := 45) (U.ow 1 rfl) rfl rfl (runUnderlying45 _)).asi (m' := (st.length : Int)) sm) fun a Y => wlv Y (bq rfl rfl ⟨om, om⟩) fun a Y => wlv Y (bW (l := 0) (h := (st.length - 1)) (U.ow 1 rfl) rfl rfl rfl underlying45 kr (.inl ⟨rfl, rfl⟩) (.inr (by rw [show ((st.length : Int) - 1 : Int) = (((st.length - 1) : Nat) : Int) from by omega] <;> rfl)) (Nat.zero_le _) (by first | (rw [List.length_map]; omega) | (simp <;> omega))) fun a Y => aX Y U de call81 rfl (oA (cut v 1 0 (st.length - 1) (slCap v)) _ _ ((U.ow 1 rfl).cut0 (h := (st.length - 1)) (by first | omega | (rw [List.length_reverse]; omega) | simp | (simp; omega)))) ?_
 clear Y U
 intro a w19 x11 hp Y U
 revert x11 hp Y U; rintro z1 hp Y U
 clear hp
 replace U : St (· = 0) w0 [_, _, _, _, _] w19 := U
 refine ab (hK21 _ _ ?_)
 replace Y := Y.p3 2 8 89 rfl
 refine ap ?_
 replace U : St (· = 0) w0 [blk z1 [(cut v 1 0 (st.length - 1) (slCap v))] 45, blk w1.hz [sv ((st.reverse.getD (st.length - 1) ([], 0)).1)] 9, own (cut v 1 0 (st.length - 1) (slCap v)) 9 1 (((st.drop 1).reverse.map Prod.fst).map fun s => [sv s]), own u 3 1 (st.reverse.map fun x : By × Nat => [iv (x.2 : Int)]), blk 0 (kOf.map wv) 161] w19 := by
  have h9 := U.take (i := 2) (k := st.length - 1) rfl sm
  rw [j6] at h9
  exact h9
 have hyl : ((st.drop 1).reverse.map Prod.fst).length ≤ 1000 := by simp; omega
 have hy32 : ∀ k, k < ((st.drop 1).reverse.map Prod.fst).length → (((st.drop 1).reverse.map Prod.fst).getD k []).length = 32 := fun k hk => by
  obtain ⟨z, hz, e⟩ := List.mem_map.1 (bF (d := []) hk)
  rw [← e]; exact (hle.2 z (List.mem_of_mem_drop (List.mem_reverse.1 hz))).1
 replace U : St (· = 0) w0 [_, _, _, _, _] w19 := U
 replace U : St (· = 0) w0 [blk 0 (kOf.map wv) 161, blk w1.hz [sv (([] : List Nat).foldl (fun o k => nodeH sha (((st.drop 1).reverse.map Prod.fst).getD k []) o) ((st.reverse.getD (st.length - 1) ([], 0)).1))] 9, blk z1 [(cut v 1 0 (st.length - 1) (slCap v))] 45, own (cut v 1 0 (st.length - 1) (slCap v)) 9 1 (((st.drop 1).reverse.map Prod.fst).map fun s => [sv s])] w19 := U.select [4, 1, 0, 2] de
 replace Y : Fr 96 [(2, .string (⟨#[]⟩)), (8, pq w1.hz), (89, .func (.func 97) #[] #[pq z1])] [] a := Y.pick [2, 8, 89]
 refine cT (M := (· = 0)) (w0 := w0) (encs := (encB ((st.drop 1).reverse.map Prod.fst))) (Hi := [blk z1 [(cut v 1 0 (st.length - 1) (slCap v))] 45, own (cut v 1 0 (st.length - 1) (slCap v)) 9 1 (((st.drop 1).reverse.map Prod.fst).map fun s => [sv s])]) (Hc := [blk 0 (kOf.map wv) 161, blk w1.hz [sv (([] : List Nat).foldl (fun o k => nodeH sha (((st.drop 1).reverse.map Prod.fst).getD k []) o) ((st.reverse.getD (st.length - 1) ([], 0)).1))] 9]) (fun pre H => ((pre.foldl (fun o k => nodeH sha (((st.drop 1).reverse.map Prod.fst).getD k []) o) ((st.reverse.getD (st.length - 1) ([], 0)).1)).length = 32) ∧ H = [blk 0 (kOf.map wv) 161, blk w1.hz [sv (pre.foldl (fun o k => nodeH sha (((st.drop 1).reverse.map Prod.fst).getD k []) o) ((st.reverse.getD (st.length - 1) ([], 0)).1))] 9]) (fun _ _ _ => False) (fun pre xs H a => Fr 96 [(2, .string (⟨#[]⟩)), (8, pq w1.hz), (89, .func (.func 97) #[] #[pq z1]), (10, sv (((st.drop 1).reverse.map Prod.fst).getD xs []))] [] a ∧ ((pre.foldl (fun o k => nodeH sha (((st.drop 1).reverse.map Prod.fst).getD k []) o) ((st.reverse.getD (st.length - 1) ([], 0)).1)).length = 32) ∧ H = [blk 0 (kOf.map wv) 161, blk w1.hz [sv (pre.foldl (fun o k => nodeH sha (((st.drop 1).reverse.map Prod.fst).getD k []) o) ((st.reverse.getD (st.length - 1) ([], 0)).1))] 9]) rfl call97 Y U (lC (cut v 1 0 (st.length - 1) (slCap v)) ((st.drop 1).reverse.map Prod.fst) z1 om) de (fun _ => rfl) ⟨hlast.1, rfl⟩ ?_ ?_ ?_ ?_
 ·clear Y U
  rintro lp pre xs _ a w20 hnx ⟨hf32, rfl⟩ Y U
  generalize (join [blk 0 (kOf.map wv) 161, blk w1.hz [sv (pre.foldl (fun o k => nodeH sha (((st.drop 1).reverse.map Prod.fst).getD k []) o) ((st.reverse.getD (st.length - 1) ([], 0)).1))] 9]).foot = M1 at U ⊢
  replace Y : Fr 96 [(91, sv (((st.drop 1).reverse.map Prod.fst).getD xs [])), (90, iv (xs : Int)), (2, .string (⟨#[]⟩)), (8, pq w1.hz), (89, .func (.func 97) #[] #[pq z1])] [] a := Y
  refine ao <| wla Y rfl fun a Y => ab ?_
  exact ⟨_, ⟨Y.pick [2, 8, 89, 10], hf32, rfl⟩, U⟩
 ·rintro lp pre xs _ a w21 hnx ⟨Y, hf32, rfl⟩ hout hrec hnl U
  clear hrec hnl
  generalize (join [blk 0 (kOf.map wv) 161, blk w1.hz [sv (pre.foldl (fun o k => nodeH sha (((st.drop 1).reverse.map Prod.fst).getD k []) o) ((st.reverse.getD (st.length - 1) ([], 0)).1))] 9]).foot = M1 at U hout ⊢
  refine ap <| ao <| wlm Y rfl fun a Y => wlv Y (ld U 1 rfl rfl (isAgg9 _) rfl) fun a Y => am Y U de call79 rfl (fh (((st.drop 1).reverse.map Prod.fst).getD xs []) (pre.foldl (fun o k => nodeH sha (((st.drop 1).reverse.map Prod.fst).getD k []) o) ((st.reverse.getD (st.length - 1) ([], 0)).1)) _ (by first | omega | (have := hy32 xs (by have h := hnx; unfold NxB at h; omega); omega)) (by first | omega | exact Nat.le_trans (Nat.le_of_eq hf32) de) (U.g 0 rfl)) ?_
  clear Y U
  intro a w22 Y U
  refine ay 1 Y U rfl rfl rfl (sizeOf9 _) rfl (lb rfl) (ds := [sv (nodeH sha (((st.drop 1).reverse.map Prod.fst).getD xs []) (pre.foldl (fun o k => nodeH sha (((st.drop 1).reverse.map Prod.fst).getD k []) o) ((st.reverse.getD (st.length - 1) ([], 0)).1)))]) rfl rfl ?_
  clear Y U
  intro a w23 Y U
  refine ab ?_
  rw [show nodeH sha (((st.drop 1).reverse.map Prod.fst).getD xs []) (pre.foldl (fun o k => nodeH sha (((st.drop 1).reverse.map Prod.fst).getD k []) o) ((st.reverse.getD (st.length - 1) ([], 0)).1)) = (pre ++ [xs]).foldl (fun o k => nodeH sha (((st.drop 1).reverse.map Prod.fst).getD k []) o) ((st.reverse.getD (st.length - 1) ([], 0)).1) from by rw [List.foldl_append]; rfl] at U
  exact ⟨_, ⟨(by rw [List.foldl_append]; exact jJ bY _ _), rfl⟩, U.select [0, 1] de⟩
 ·rintro D pre _ _ a w24 ⟨rfl, rfl⟩ ⟨hf32, rfl⟩ U Y
  replace Y : Fr 96 [(2, .string (⟨#[]⟩)), (8, pq w1.hz), (89, .func (.func 97) #[] #[pq z1])] [{ target := .collected D, args := #[] }] a := Y
  replace U : St (· = 0) w0 [_, _, _, _, _] w24 := U
  refine hK20 _ _ <| aa fun K22 hK22 => wlv Y (ld U 2 rfl rfl (isAgg9 _) rfl) fun a Y => wla Y rfl fun a Y => ab (hK22 _ _ <| au ?_)
  have hD := U.g 0 rfl
  replace U := U.unmark (i := 0) (o' := .deferred none) rfl
  replace U : St (· = 0) w0 [_, _, _, _] _ := U
  refine bR Y hD results63 (ae rfl ah) ?_
  exact ⟨by simp only [retv]; rw [mZ hS hI om], U.ext.const hk0 (U.g 0 rfl)⟩
 ·rintro D c pre _ _ a w25 _ h
  exact h.elim
end Go.Proofs.YtddfkkdanpmnaaaDoor
namespace Go.Proofs.YtddfkkdanpmnaaaDoor
open Go.RowKit Go.PW Go.Sort
theorem iA (xs : List (List UInt8)) : (xs.map fun s => [sv s]).flatten = xs.map sv := by
 induction xs with
 | nil => rfl
 | cons x xs ih => rw [List.map_cons, List.flatten_cons, ih]; rfl
theorem ir (s : List UInt8) : encStr s = sv s := rfl
theorem nB (cur : Array Value) (n : Nat) (ys : List (List UInt8)) (hn : n ≤ cur.size) (hy : ys.length = n) : (putCells encStr 0 ys.toArray cur).toList.take n = ys.map sv := by
 subst hy
 refine List.ext_getElem? fun i => ?_
 by_cases hi : i < ys.length
 ·have hc : i < cur.size := by omega
  rw [List.getElem?_take_of_lt hi, List.getElem?_map, List.getElem?_eq_getElem hi]
  simp [putCells, hc, hi, ir]
 ·rw [List.getElem?_eq_none (by rw [List.length_take]; omega), List.getElem?_eq_none (by rw [List.length_map]; omega)]
theorem eJ (v : Value) (xs : List (List UInt8)) (E : TypeId) (w : World) (h : (own v E 1 (xs.map fun s => [sv s])).ok w) :
  Ret Tryd.prog 83 #[v] w fun u w' => u = .tuple #[] ∧ Ext (own v E 1 (xs.map fun s => [sv s])).foot w w' ∧ (own v E 1 (xs.reverse.map fun s => [sv s])).ok w' := by
 obtain ⟨h1, h2, h3, h4⟩ := h
 rcases h4 with ⟨rfl, h0⟩ | ⟨g, cap, cur, fz, rfl, hg, hfz, hnc, hcm, hcs, htk⟩
 ·obtain rfl : xs = [] := by simpa using h0
  refine (Tryd.slices_Reverse_string_empty none 0 w).mono fun e w' ⟨he, hw⟩ => ⟨_, he, rfl, by rw [hw]; exact Ext.refl _ _, ?_⟩
  rw [hw]; exact iN w E 1
 ·rw [List.length_map] at *
  rw [iA] at htk
  have hsz : xs.length ≤ cur.size := by omega
  have hcell : ∀ j, j < xs.length → cur[j]? = some (sv (xs.getD j [])) := by
   intro j hj
   have : (cur.toList.take (xs.length * 1))[j]? = (xs.map sv)[j]? := by rw [htk]
   rw [List.getElem?_take_of_lt om, List.getElem?_map, List.getElem?_eq_getElem hj] at this
   simpa [List.getD_eq_getElem?_getD, hj] using this
  have hH : Holds encStr w g 0 xs.toArray := by
   intro j hj
   have hj' : j < xs.length := by simpa using hj
   refine ⟨?_, ?_⟩
   ·rw [Nat.zero_add]
    simp only [World.cell?, hg]
    have := hcell j hj'
    simp [hj', ir, List.getD_eq_getElem?_getD] at this ⊢
    exact this
   ·obtain ⟨lo, hi'⟩ := fz
    simp only [World.frozen?, hg, Bool.and_eq_false_iff, decide_eq_false_iff_not]
    unfold rowFz at hfz
    simp only at hfz
    omega
  refine (Tryd.slices_Reverse_string g 0 cap xs w hH (by simp only [big] at h2; omega)).mono fun e w' ⟨he, n, hw⟩ => ⟨_, he, rfl, ?_, ?_⟩
  ·rw [hw]
   refine ⟨rfl, rfl, rfl, by simp, fun k hk hn => ?_⟩
   have hne : g ≠ k := fun e => hn (by show Value.ownBlock _ = some k; rw [← e]; rfl)
   simp [putRow, mapBlock, Array.getElem?_modify, hne]
  ·rw [hw]
   refine ⟨fun e he => by obtain ⟨s, _, rfl⟩ := List.mem_map.1 he; rfl, by simpa using h2, by rw [iA]; simp, .inr ⟨g, cap, putCells encStr 0 xs.reverse.toArray cur, fz, by simp, ?_, hfz, by simpa using hnc, hcm, by simpa [putCells] using hcs, ?_⟩⟩
   ·simp [putRow, mapBlock, Array.getElem?_modify, hg, onCells]
   ·rw [iA, List.length_map, List.length_reverse, Nat.mul_one]
    exact nB cur xs.length xs.reverse hsz sm
end Go.Proofs.YtddfkkdanpmnaaaDoor
namespace Go.PW
open Go.RowKit
section
variable {P : Program} {r : Option Nat} {ops : Array Oper} {K : Act → World → Prop} {rest : List Oper} {a : Act} {w w0 : World} {M : Nat → Prop} {H : List Ent}
variable {N : Nat} {L : List (Nat × Value)} {df : List Deferred} {d : Nat} {ty : TypeId} {pos : String} {af : Array Edge} {v : Value}
theorem gF {f : FuncId} {xs : List Operand} {vs : List Value} {ats : Array TypeId} {e e' : Ent} {H' : List Ent} (i : Nat) (Y : Fr N L df a) (U : St M w0 H w) (hd : d < N) (hen : ∀ args w, (callFunc f args).run P w = .ok (.enter f args) w) (hx : evs L xs = some vs)
  (hi : H[i]? = some e) (hf : ∀ b, e'.foot b → e.foot b) (hc : Ret P f vs.toArray w fun v' w' => v' = v ∧ Ext e.foot w w' ∧ e'.ok w') (hH : H.set i e' = H')
  (k : ∀ a w', Fr N ((d, v) :: L) df a → St M w0 H' w' → WL P r ops K rest a w') :
  WL P r ops K (⟨some d, .call { callee := .value (.func f), args := xs.toArray, argTypes := ats }, ty, pos, af, none⟩ :: rest) a w :=
 wl_r (dT hen hx hc) rfl (decide_eq_true hd) Y fun a v' w' ⟨hv, hw, ho⟩ h => by
  subst hv; subst hH
  exact k _ _ h (U.exchange hi hw ho fun b' hb' => ⟨Nat.lt_of_lt_of_le (U.lt hi (hf _ hb')) hw.size, .inl (hf _ hb')⟩)
end
end Go.PW
namespace Go.Proofs.YtddfkkdanpmnaaaDoor
open Go.RowKit Go.PW _root_.Go.Proofs.Tryd
theorem mG (lv : Value) (ls : List By) (i : Nat) (w0 : World) (hlv : SlAt w0 lv 1 (ls.map fun s => [sv s])) (hi : i < ls.length) (hln : ls.length ≤ 1000) (hls : ∀ s ∈ ls, s.length ≤ 40000000) (hk0 : (blk 0 (kOf.map wv) 161).ok w0) :
  Ret Tryd.prog 65 #[lv, iv (i : Int)] w0 (MemR w0 (fun v : Value => .tuple #[v, iv 0]) (fun v => [own v 9 1 ((proofH sha ls i).map fun s => [sv s])]) (fun _ => True)) := by
 refine aI func65 rfl ntmps65 (lb rfl) fun a Y => ?_
 replace Y := Y.p2 0 1 rfl
 replace U : St No w0 [] w0 := St.init w0
 refine aa fun K1 hK1 => wla Y rfl fun a Y => wla Y rfl fun a Y => ab (hK1 _ _ <| no ?_)
 refine ac fun K2 hK2 => aa fun K3 hK3 => wlm Y rfl fun a Y => wlv Y (v_lt rfl rfl) fun a Y => wlm Y rfl fun a Y => ?_
 rcases Bool.eq_false_or_eq_true (decide ((i : Int) < 0)) with hb1 | hb1
 ·rw [hb1] at Y
  try simp only [qz] at hb1
  omega
 rw [hb1] at Y
 try simp only [qz] at hb1
 refine wly Y (ai rfl) fun a Y => wly Y (ai rfl) fun a Y => wly Y ((aK (sT := 45) (U.arg hlv) rfl rfl (runUnderlying45 _)).asi (m' := (ls.length : Int)) sm) fun a Y => wly Y (v_ge rfl rfl) fun a Y => wlv Y (aw rfl rfl) fun a Y => ab (hK3 _ _ ?_)
 replace Y := Y.p5 0 1 4 5 17 rfl
 refine az Y rfl (fun hc2 => ?_) (fun hc2 => ?_)
 ·rw [hc2] at Y
  try simp only [qz] at hc2
  omega
 rw [hc2] at Y
 try simp only [qz] at hc2
 refine aq <| hK2 _ _ <| aa fun K4 hK4 => wla Y rfl fun a Y => ab (hK4 _ _ <| ac fun K5 hK5 => ?_)
 refine na ?_
 refine hK5 _ _ <| ac fun K6 hK6 => ap ?_
 replace U : St No w0 [own (.slice none 0 0) 9 1 (([] : List By).map fun s => [sv s])] w0 := U.nil_own
 refine aV (fun m a w => ∃ (v : Value) (cl : List By) (ci : Nat) (ou : List By) (o : Value), m = cl.length ∧ (SlAt w0 v 1 (cl.map fun s => [sv s])) ∧ (ci < cl.length) ∧ (cl.length ≤ 1000) ∧ (cl.length + ou.length ≤ 2000) ∧ (∀ s ∈ cl, s.length ≤ 40000000) ∧ (proofH sha ls i = proofH sha cl ci ++ ou.reverse) ∧ Fr 47 [(4, .slice none 0 0), (5, iv 0), (0, v), (1, iv (ci : Int)), (6, o)] [] a ∧ St No w0 [own o 9 1 (ou.map fun s => [sv s])] w) _ ⟨lv, ls, i, [], .slice none 0 0, rfl, hlv, hi, hln, (by simp; omega), hls, sm, Y.pick [4, 5, 0, 1, 6], U.select [0] de⟩ ?_
 rintro _ a w1 ⟨v, cl, ci, ou, o, rfl, hv, hc1, hc2, hc3, hcl, hpr, Y, U⟩
 refine ap <| ac fun K7 hK7 => aa fun K8 hK8 => wlm Y rfl fun a Y => wlv Y ((aK (sT := 45) (U.arg hv) rfl rfl (runUnderlying45 _)).asi (m' := (cl.length : Int)) sm) fun a Y => wlv Y (v_eq rfl rfl) fun a Y => ab (hK8 _ _ ?_)
 refine az Y rfl (fun hc3 => ?_) (fun hc3 => ?_)
 ·rw [hc3] at Y
  try simp only [qz] at hc3
  refine aL <| hK6 _ _ <| aa fun K9 hK9 => wlm Y rfl fun a Y => gF (e' := own o 9 1 (ou.reverse.map fun s => [sv s])) 0 Y U de call83 rfl rfl (fun _ h => h) (eJ _ _ _ _ (U.g 0 rfl)) rfl ?_
  clear Y U
  intro a w2 Y U
  refine ab (hK9 _ _ ?_)
  replace Y := Y.p3 4 5 6 rfl
  refine aa fun K10 hK10 => wlm Y rfl fun a Y => wla Y rfl fun a Y => wla Y rfl fun a Y => ab (hK10 _ _ <| au ?_)
  refine ar Y results65 (ae rfl (ae rfl ah)) ?_
  rw [eC sha (l := cl) om, List.nil_append] at hpr
  refine ⟨o, rfl, trivial, U.ext, St.out (E := [own o 9 1 ((proofH sha ls i).map fun s => [sv s])]) (H := []) ?_⟩
  rw [hpr]; exact U
 rw [hc3] at Y
 try simp only [qz] at hc3
 have hlt := cA (n := cl.length) om
 have hlp := cd cl.length
 refine aq <| hK7 _ _ <| aa fun K11 hK11 => wlm Y rfl fun a Y => wlv Y ((aK (sT := 45) (U.arg hv) rfl rfl (runUnderlying45 _)).asi (m' := (cl.length : Int)) sm) fun a Y => am Y U de call82 rfl (fJ cl.length _ om om) ?_
 clear Y U
 intro a w3 Y U
 refine wla Y rfl fun a Y => ab (hK11 _ _ ?_)
 replace Y := Y.p6 4 5 0 1 6 7 rfl
 refine ac fun K12 hK12 => aO kr (aP kr fun w4 hxz => ?_)
 replace U := U.grow hxz
 refine aS (k := 0) 7 [5, 6] Y kr kr kr rfx ?_
 replace Y := Y.p6 4 5 0 1 6 7 rfl
 refine aA [] (fun i => match i with | _ => fun _ _ => False) 7 [[], [], [0, 1], [], [], [3, 4], [2]] [v, iv (lft cl.length : Int), (cut v 1 0 (lft cl.length) (slCap v)), v, iv (lft cl.length : Int), (cut v 1 (lft cl.length) cl.length (slCap v)), (cut v 1 0 (lft cl.length) (slCap v))] Y U kr kr kr ?_ ?_ ?_
 ·intro i hi hiq
  match i, hi, hiq with
  | 0, _, _ => exact fun w U => OpV.g (ai rfl)
  | 1, _, _ => exact fun w U => OpV.g (ai rfl)
  | 2, _, _ => exact fun w U => OpV.g (bW (l := 0) (h := (lft cl.length)) (U.arg hv) rfl rfl rfl underlying45 kr (.inl ⟨rfl, rfl⟩) (.inr (by rw [show ((lft cl.length : Int) : Int) = (((lft cl.length) : Nat) : Int) from by omega] <;> rfl)) (Nat.zero_le _) (by first | (rw [List.length_map]; omega) | (simp <;> omega)))
  | 3, _, _ => exact fun w U => OpV.g (ai rfl)
  | 4, _, _ => exact fun w U => OpV.g (ai rfl)
  | 5, _, _ => exact fun w U => OpV.g (bW (l := (lft cl.length)) (h := cl.length) (U.arg hv) rfl rfl rfl underlying45 kr (.inr (by rw [show ((lft cl.length : Int) : Int) = (((lft cl.length) : Nat) : Int) from by omega] <;> rfl)) (.inl ⟨rfl, by simp⟩) om sm)
  | 6, _, _ => exact fun w U => OpV.g (dG rfl)
 ·intro i hi
  exact absurd hi sm
 clear Y U
 intro  a w5 Y U
 replace Y : Fr 47 [(24, v), (25, iv (lft cl.length : Int)), (26, (cut v 1 0 (lft cl.length) (slCap v))), (27, v), (28, iv (lft cl.length : Int)), (29, (cut v 1 (lft cl.length) cl.length (slCap v))), (8, (cut v 1 0 (lft cl.length) (slCap v))), (4, _), (5, _), (0, _), (1, _), (6, _), (7, _)] [] a := Y
 refine ab <| aQ (k := 7) 8 [7] kr kr kr ?_
 refine wla Y rfl fun a Y => ab <| bd kr ?_
 refine hK12 _ _ ?_
 replace Y := Y.p7 4 5 1 6 7 8 9 rfl
 refine ac fun K13 hK13 => aa fun K14 hK14 => wlm Y rfl fun a Y => wlm Y rfl fun a Y => wlv Y (v_ge rfl rfl) fun a Y => ab (hK14 _ _ ?_)
 refine az Y rfl (fun hc4 => ?_) (fun hc4 => ?_)
 ·rw [hc4] at Y
  try simp only [qz] at hc4
  refine ao <| wlm Y rfl fun a Y => wlm Y rfl fun a Y => wlm Y rfl fun a Y => wlm Y rfl fun a Y => wlv Y ((bq rfl rfl ⟨om, om⟩).asi (m' := ((ci - lft cl.length : Nat) : Int)) om) fun a Y => wla Y rfl fun a Y => wla Y rfl fun a Y => wla Y rfl fun a Y => ab <| hK13 _ _ ?_
  replace Y := Y.p6 4 5 6 8 9 1 rfl
  refine aa fun K15 hK15 => wlm Y rfl fun a Y => wlm Y rfl fun a Y => am Y U de call63 rfl (er (cut v 1 0 (lft cl.length) (slCap v)) (cl.take (lft cl.length)) _ ((U.arg hv).cut0 (h := (lft cl.length)) (by first | omega | (rw [List.length_reverse]; omega) | simp | (simp; omega))) (by first | omega | (simp only [List.length_take, List.length_drop]; omega)) (by intro k hk; have h := bF (d := []) hk; first | exact hcl _ h | exact hcl _ (List.mem_of_mem_take h) | exact hcl _ (List.mem_of_mem_drop h)) (U.keepb hk0)) ?_
  clear Y U
  intro a w6 Y U
  refine aG (E := 9) (sz := 1) rfl [[sv (rootH sha (cl.take (lft cl.length)))]] kr sm rfl de de Y U ?_
  clear Y U
  intro a w7 Y U
  refine bf (i := 1) (sT := 45) (inf := Tryd.t9) (z := .string (⟨#[]⟩)) (b := 0) (off := 0) (m := 0) (c := 0) rfl rfl rfl (U.ow 0 rfl) sm underlying45 rfl rfl rfl rfl de (by simp [Value.oneCell', yv, wv, sv]) (by have hby : Tryd.t9.bytes = 16 := rfl; simp only [big, hby, List.length_append, List.length_map, List.length_cons, List.length_nil]; omega) (by have hby : Tryd.t9.bytes = 16 := rfl; simp only [big, hby, List.length_append, List.length_map, List.length_cons, List.length_nil]; omega) de Y U fun a w8 s5 Y U _ => wla Y rfl fun a Y => ab (hK15 _ _ ?_)
  replace Y := Y.p5 4 5 8 1 6 rfl
  replace U := U.k1 2 rfl
  refine ao <| wlm Y rfl fun a Y => wla Y rfl fun a Y => ab ?_
  rw [show (ou.map fun s => [sv s]) ++ ([[sv (rootH sha (cl.take (lft cl.length)))]]) = ((ou ++ [rootH sha (cl.take (lft cl.length))]).map fun s => [sv s]) from by simp] at U
  have hm1 : (cl.drop (lft cl.length)).length < cl.length := by simp only [List.length_take, List.length_drop]; omega
  refine ⟨_, ?_, (cut v 1 (lft cl.length) cl.length (slCap v)), (cl.drop (lft cl.length)), (ci - lft cl.length), (ou ++ [rootH sha (cl.take (lft cl.length))]), s5, rfl, hv.cutd (l := lft cl.length) om, (by simp only [List.length_take, List.length_drop]; omega), (by simp only [List.length_take, List.length_drop]; omega), (by simp only [List.length_append, List.length_take, List.length_drop, List.length_cons, List.length_nil]; omega), (fun s h => hcl s (List.mem_of_mem_drop h)), (by rw [hpr, dR sha om, if_neg om]; simp), Y.pick [4, 5, 0, 1, 6], U.select [0] de⟩
  omega
 rw [hc4] at Y
 try simp only [qz] at hc4
 refine aq <| hK13 _ _ <| aa fun K16 hK16 => wlm Y rfl fun a Y => wlm Y rfl fun a Y => am Y U de call63 rfl (er (cut v 1 (lft cl.length) cl.length (slCap v)) (cl.drop (lft cl.length)) _ ((U.arg hv).cutd (l := (lft cl.length)) (by first | omega | (rw [List.length_reverse]; omega) | simp | (simp; omega))) (by first | omega | (simp only [List.length_take, List.length_drop]; omega)) (by intro k hk; have h := bF (d := []) hk; first | exact hcl _ h | exact hcl _ (List.mem_of_mem_take h) | exact hcl _ (List.mem_of_mem_drop h)) (U.keepb hk0)) ?_
 clear Y U
 intro a w9 Y U
 refine aG (E := 9) (sz := 1) rfl [[sv (rootH sha (cl.drop (lft cl.length)))]] kr sm rfl de de Y U ?_
 clear Y U
 intro a w10 Y U
 refine bf (i := 1) (sT := 45) (inf := Tryd.t9) (z := .string (⟨#[]⟩)) (b := 0) (off := 0) (m := 0) (c := 0) rfl rfl rfl (U.ow 0 rfl) sm underlying45 rfl rfl rfl rfl de (by simp [Value.oneCell', yv, wv, sv]) (by have hby : Tryd.t9.bytes = 16 := rfl; simp only [big, hby, List.length_append, List.length_map, List.length_cons, List.length_nil]; omega) (by have hby : Tryd.t9.bytes = 16 := rfl; simp only [big, hby, List.length_append, List.length_map, List.length_cons, List.length_nil]; omega) de Y U fun a w11 s6 Y U _ => wla Y rfl fun a Y => ab (hK16 _ _ ?_)
 replace Y := Y.p5 4 5 1 8 6 rfl
 replace U := U.k1 2 rfl
 refine ao <| wlm Y rfl fun a Y => wla Y rfl fun a Y => ab ?_
 rw [show (ou.map fun s => [sv s]) ++ ([[sv (rootH sha (cl.drop (lft cl.length)))]]) = ((ou ++ [rootH sha (cl.drop (lft cl.length))]).map fun s => [sv s]) from by simp] at U
 have hm1 : (cl.take (lft cl.length)).length < cl.length := by simp only [List.length_take, List.length_drop]; omega
 refine ⟨_, ?_, (cut v 1 0 (lft cl.length) (slCap v)), (cl.take (lft cl.length)), ci, (ou ++ [rootH sha (cl.drop (lft cl.length))]), s6, rfl, hv.cut0 (h := lft cl.length) om, (by simp only [List.length_take, List.length_drop]; omega), (by simp only [List.length_take, List.length_drop]; omega), (by simp only [List.length_append, List.length_take, List.length_drop, List.length_cons, List.length_nil]; omega), (fun s h => hcl s (List.mem_of_mem_take h)), (by rw [hpr, dR sha om, if_pos om]; simp), Y.pick [4, 5, 0, 1, 6], U.select [0] de⟩
 omega
theorem ny (lv : Value) (ls : List By) (w0 : World) (hlv : SlAt w0 lv 1 (ls.map fun s => [sv s])) :
  Ret Tryd.prog 72 #[lv, iv 0] w0 fun v w => v = .tuple #[.slice none 0 0, iv 0] ∧ Ext No w0 w := by
 refine aI func72 rfl ntmps72 (lb rfl) fun a Y => ?_
 replace Y := Y.p2 0 1 rfl
 replace U : St No w0 [] w0 := St.init w0
 refine aa fun K1 hK1 => wla Y rfl fun a Y => wla Y rfl fun a Y => ab (hK1 _ _ <| ac fun K2 hK2 => ?_)
 refine ap <| aa fun K3 hK3 => wlm Y rfl fun a Y => wlv Y ((v_lt rfl rfl).asb (b' := false) rfl) fun a Y => wlm Y rfl fun a Y => wly Y (ai rfl) fun a Y => wly Y (ai rfl) fun a Y => wly Y ((aK (sT := 45) (U.arg hlv) rfl rfl (runUnderlying45 _)).asi (m' := (ls.length : Int)) sm) fun a Y => wly Y (v_gt rfl rfl) fun a Y => wlv Y (aw rfl rfl) fun a Y => wla Y rfl fun a Y => ab (hK3 _ _ ?_)
 replace Y := Y.p5 0 1 4 5 11 rfl
 refine az Y rfl (fun hc1 => ?_) (fun hc1 => ?_)
 ·rw [hc1] at Y
  try simp only [qz] at hc1
  omega
 rw [hc1] at Y
 try simp only [qz] at hc1
 refine aa fun K4 hK4 => wlm Y rfl fun a Y => wlv Y ((v_eq rfl rfl).asb (b' := true) rfl) fun a Y => wla Y rfl fun a Y => ab (hK4 _ _ <| aD Y rfl ?_)
 refine aa fun K5 hK5 => wla Y rfl fun a Y => wla Y rfl fun a Y => ab (hK5 _ _ <| au ?_)
 refine ar Y results72 (ae rfl (ae rfl ah)) ?_
 exact ⟨by rfl, U.ext⟩
theorem pb (lv : Value) (ls : List By) (i : Nat) (w0 : World) (hlv : SlAt w0 lv 1 (ls.map fun s => [sv s])) (hi0 : 1 ≤ i) (hi : i ≤ ls.length) (hln : ls.length ≤ 1000) (hls : ∀ s ∈ ls, s.length ≤ 40000000) (hk0 : (blk 0 (kOf.map wv) 161).ok w0) :
  Ret Tryd.prog 72 #[lv, iv (i : Int)] w0 (MemR w0 (fun v : Value => .tuple #[v, iv 0]) (fun v => [own v 9 1 ((partH sha ls i true).map fun s => [sv s])]) (fun _ => True)) := by
 refine aI func72 rfl ntmps72 (lb rfl) fun a Y => ?_
 replace Y := Y.p2 0 1 rfl
 replace U : St No w0 [] w0 := St.init w0
 refine aa fun K1 hK1 => wla Y rfl fun a Y => wla Y rfl fun a Y => ab (hK1 _ _ <| ac fun K2 hK2 => ?_)
 refine ap <| aa fun K3 hK3 => wlm Y rfl fun a Y => wlv Y (v_lt rfl rfl) fun a Y => wlm Y rfl fun a Y => ?_
 rcases Bool.eq_false_or_eq_true (decide ((i : Int) < 0)) with hb1 | hb1
 ·rw [hb1] at Y
  try simp only [qz] at hb1
  omega
 rw [hb1] at Y
 try simp only [qz] at hb1
 refine wly Y (ai rfl) fun a Y => wly Y (ai rfl) fun a Y => wly Y ((aK (sT := 45) (U.arg hlv) rfl rfl (runUnderlying45 _)).asi (m' := (ls.length : Int)) sm) fun a Y => wly Y (v_gt rfl rfl) fun a Y => wlv Y (aw rfl rfl) fun a Y => wla Y rfl fun a Y => ab (hK3 _ _ ?_)
 replace Y := Y.p5 0 1 4 5 11 rfl
 refine az Y rfl (fun hc2 => ?_) (fun hc2 => ?_)
 ·rw [hc2] at Y
  try simp only [qz] at hc2
  omega
 rw [hc2] at Y
 try simp only [qz] at hc2
 refine aa fun K4 hK4 => wlm Y rfl fun a Y => wlv Y (v_eq rfl rfl) fun a Y => wla Y rfl fun a Y => ab (hK4 _ _ ?_)
 refine az Y rfl (fun hc3 => ?_) (fun hc3 => ?_)
 ·rw [hc3] at Y
  try simp only [qz] at hc3
  omega
 rw [hc3] at Y
 try simp only [qz] at hc3
 refine aq <| hK2 _ _ <| aa fun K5 hK5 => wla Y rfl fun a Y => ab (hK5 _ _ <| aa fun K6 hK6 => ?_)
 refine wla Y rfl fun a Y => ab (hK6 _ _ <| ac fun K7 hK7 => ?_)
 refine ap ?_
 replace U : St No w0 [own (.slice none 0 0) 9 1 (([] : List By).map fun s => [sv s])] w0 := U.nil_own
 refine aV (fun m a w => ∃ (v : Value) (cl : List By) (ci : Nat) (wh : Bool) (ou : List By) (o : Value), m = cl.length ∧ (SlAt w0 v 1 (cl.map fun s => [sv s])) ∧ (1 ≤ ci) ∧ (ci ≤ cl.length) ∧ (cl.length ≤ 1000) ∧ (cl.length + ou.length ≤ 2000) ∧ (∀ s ∈ cl, s.length ≤ 40000000) ∧ (partH sha ls i true = partH sha cl ci wh ++ ou.reverse) ∧ Fr 60 [(4, .slice none 0 0), (5, iv 0), (0, v), (1, iv (ci : Int)), (6, o), (7, .bool wh)] [] a ∧ St No w0 [own o 9 1 (ou.map fun s => [sv s])] w) _ ⟨lv, ls, i, true, [], .slice none 0 0, rfl, hlv, hi0, hi, hln, (by simp; omega), hls, sm, Y.pick [4, 5, 0, 1, 6, 7], U.select [0] de⟩ ?_
 rintro _ a w1 ⟨v, cl, ci, wh, ou, o, rfl, hv, hc0, hc1, hc2, hc3, hcl, hpr, Y, U⟩
 refine ac fun K8 hK8 => aa fun K9 hK9 => wlm Y rfl fun a Y => wlm Y rfl fun a Y => wlv Y ((aK (sT := 45) (U.arg hv) rfl rfl (runUnderlying45 _)).asi (m' := (cl.length : Int)) sm) fun a Y => wlv Y (v_lt rfl rfl) fun a Y => ab (hK9 _ _ ?_)
 refine az Y rfl (fun hc4 => ?_) (fun hc4 => ?_)
 ·rw [hc4] at Y
  try simp only [qz] at hc4
  have hlt := cA (n := cl.length) om
  have hlp := cd cl.length
  refine aq <| hK8 _ _ <| ap <| aa fun K10 hK10 => wlm Y rfl fun a Y => wlv Y ((aK (sT := 45) (U.arg hv) rfl rfl (runUnderlying45 _)).asi (m' := (cl.length : Int)) sm) fun a Y => am Y U de call82 rfl (fJ cl.length _ om om) ?_
  clear Y U
  intro a w2 Y U
  refine wla Y rfl fun a Y => ab (hK10 _ _ ?_)
  replace Y := Y.p7 4 5 0 1 6 7 8 rfl
  refine ac fun K11 hK11 => aO kr (aP kr fun w3 hxz => ?_)
  replace U := U.grow hxz
  refine aS (k := 0) 7 [5, 6] Y kr kr kr rfx ?_
  replace Y := Y.p7 4 5 0 1 6 7 8 rfl
  refine aA [] (fun i => match i with | _ => fun _ _ => False) 7 [[], [], [0, 1], [], [], [3, 4], [2]] [v, iv (lft cl.length : Int), (cut v 1 0 (lft cl.length) (slCap v)), v, iv (lft cl.length : Int), (cut v 1 (lft cl.length) cl.length (slCap v)), (cut v 1 0 (lft cl.length) (slCap v))] Y U kr kr kr ?_ ?_ ?_
  ·intro i hi hiq
   match i, hi, hiq with
   | 0, _, _ => exact fun w U => OpV.g (ai rfl)
   | 1, _, _ => exact fun w U => OpV.g (ai rfl)
   | 2, _, _ => exact fun w U => OpV.g (bW (l := 0) (h := (lft cl.length)) (U.arg hv) rfl rfl rfl underlying45 kr (.inl ⟨rfl, rfl⟩) (.inr (by rw [show ((lft cl.length : Int) : Int) = (((lft cl.length) : Nat) : Int) from by omega] <;> rfl)) (Nat.zero_le _) (by first | (rw [List.length_map]; omega) | (simp <;> omega)))
   | 3, _, _ => exact fun w U => OpV.g (ai rfl)
   | 4, _, _ => exact fun w U => OpV.g (ai rfl)
   | 5, _, _ => exact fun w U => OpV.g (bW (l := (lft cl.length)) (h := cl.length) (U.arg hv) rfl rfl rfl underlying45 kr (.inr (by rw [show ((lft cl.length : Int) : Int) = (((lft cl.length) : Nat) : Int) from by omega] <;> rfl)) (.inl ⟨rfl, by simp⟩) om sm)
   | 6, _, _ => exact fun w U => OpV.g (dG rfl)
  ·intro i hi
   exact absurd hi sm
  clear Y U
  intro  a w4 Y U
  replace Y : Fr 60 [(30, v), (31, iv (lft cl.length : Int)), (32, (cut v 1 0 (lft cl.length) (slCap v))), (33, v), (34, iv (lft cl.length : Int)), (35, (cut v 1 (lft cl.length) cl.length (slCap v))), (9, (cut v 1 0 (lft cl.length) (slCap v))), (4, _), (5, _), (0, _), (1, _), (6, _), (7, _), (8, _)] [] a := Y
  refine ab <| aQ (k := 7) 8 [7] kr kr kr ?_
  refine wla Y rfl fun a Y => ab <| bd kr ?_
  refine hK11 _ _ ?_
  replace Y := Y.p8 4 5 1 6 7 8 9 10 rfl
  refine ac fun K12 hK12 => aa fun K13 hK13 => wlm Y rfl fun a Y => wlm Y rfl fun a Y => wlv Y (v_gt rfl rfl) fun a Y => ab (hK13 _ _ ?_)
  refine az Y rfl (fun hc5 => ?_) (fun hc5 => ?_)
  ·rw [hc5] at Y
   try simp only [qz] at hc5
   refine ao <| wlm Y rfl fun a Y => wlm Y rfl fun a Y => wlm Y rfl fun a Y => wlm Y rfl fun a Y => wlv Y ((bq rfl rfl ⟨om, om⟩).asi (m' := ((ci - lft cl.length : Nat) : Int)) om) fun a Y => wla Y rfl fun a Y => wla Y rfl fun a Y => wla Y rfl fun a Y => wla Y rfl fun a Y => ab <| hK12 _ _ ?_
   replace Y := Y.p7 4 5 6 9 10 1 7 rfl
   refine aa fun K14 hK14 => wlm Y rfl fun a Y => wlm Y rfl fun a Y => am Y U de call63 rfl (er (cut v 1 0 (lft cl.length) (slCap v)) (cl.take (lft cl.length)) _ ((U.arg hv).cut0 (h := (lft cl.length)) (by first | omega | (rw [List.length_reverse]; omega) | simp | (simp; omega))) (by first | omega | (simp only [List.length_take, List.length_drop]; omega)) (by intro k hk; have h := bF (d := []) hk; first | exact hcl _ h | exact hcl _ (List.mem_of_mem_take h) | exact hcl _ (List.mem_of_mem_drop h)) (U.keepb hk0)) ?_
   clear Y U
   intro a w5 Y U
   refine aG (E := 9) (sz := 1) rfl [[sv (rootH sha (cl.take (lft cl.length)))]] kr sm rfl de de Y U ?_
   clear Y U
   intro a w6 Y U
   refine bf (i := 1) (sT := 45) (inf := Tryd.t9) (z := .string (⟨#[]⟩)) (b := 0) (off := 0) (m := 0) (c := 0) rfl rfl rfl (U.ow 0 rfl) sm underlying45 rfl rfl rfl rfl de (by simp [Value.oneCell', yv, wv, sv]) (by have hby : Tryd.t9.bytes = 16 := rfl; simp only [big, hby, List.length_append, List.length_map, List.length_cons, List.length_nil]; omega) (by have hby : Tryd.t9.bytes = 16 := rfl; simp only [big, hby, List.length_append, List.length_map, List.length_cons, List.length_nil]; omega) de Y U fun a w7 s6 Y U _ => wla Y rfl fun a Y => ab (hK14 _ _ ?_)
   replace Y := Y.p6 4 5 9 1 7 6 rfl
   replace U := U.k1 2 rfl
   refine ao <| wlm Y rfl fun a Y => wla Y rfl fun a Y => ab ?_
   rw [show (ou.map fun s => [sv s]) ++ ([[sv (rootH sha (cl.take (lft cl.length)))]]) = ((ou ++ [rootH sha (cl.take (lft cl.length))]).map fun s => [sv s]) from by simp] at U
   have hm1 : (cl.drop (lft cl.length)).length < cl.length := by simp only [List.length_take, List.length_drop]; omega
   refine ⟨_, ?_, (cut v 1 (lft cl.length) cl.length (slCap v)), (cl.drop (lft cl.length)), (ci - lft cl.length), false, (ou ++ [rootH sha (cl.take (lft cl.length))]), s6, rfl, hv.cutd (l := lft cl.length) om, om, (by simp only [List.length_take, List.length_drop]; omega), (by simp only [List.length_take, List.length_drop]; omega), (by simp only [List.length_append, List.length_take, List.length_drop, List.length_cons, List.length_nil]; omega), (fun s h => hcl s (List.mem_of_mem_drop h)), (by rw [hpr, fg sha om om, if_neg om]; simp), Y.pick [4, 5, 0, 1, 6, 7], U.select [0] de⟩
   omega
  rw [hc5] at Y
  try simp only [qz] at hc5
  refine aq <| hK12 _ _ <| aa fun K15 hK15 => wlm Y rfl fun a Y => wlm Y rfl fun a Y => am Y U de call63 rfl (er (cut v 1 (lft cl.length) cl.length (slCap v)) (cl.drop (lft cl.length)) _ ((U.arg hv).cutd (l := (lft cl.length)) (by first | omega | (rw [List.length_reverse]; omega) | simp | (simp; omega))) (by first | omega | (simp only [List.length_take, List.length_drop]; omega)) (by intro k hk; have h := bF (d := []) hk; first | exact hcl _ h | exact hcl _ (List.mem_of_mem_take h) | exact hcl _ (List.mem_of_mem_drop h)) (U.keepb hk0)) ?_
  clear Y U
  intro a w8 Y U
  refine aG (E := 9) (sz := 1) rfl [[sv (rootH sha (cl.drop (lft cl.length)))]] kr sm rfl de de Y U ?_
  clear Y U
  intro a w9 Y U
  refine bf (i := 1) (sT := 45) (inf := Tryd.t9) (z := .string (⟨#[]⟩)) (b := 0) (off := 0) (m := 0) (c := 0) rfl rfl rfl (U.ow 0 rfl) sm underlying45 rfl rfl rfl rfl de (by simp [Value.oneCell', yv, wv, sv]) (by have hby : Tryd.t9.bytes = 16 := rfl; simp only [big, hby, List.length_append, List.length_map, List.length_cons, List.length_nil]; omega) (by have hby : Tryd.t9.bytes = 16 := rfl; simp only [big, hby, List.length_append, List.length_map, List.length_cons, List.length_nil]; omega) de Y U fun a w10 s7 Y U _ => wla Y rfl fun a Y => ab (hK15 _ _ ?_)
  replace Y := Y.p6 4 5 1 7 9 6 rfl
  replace U := U.k1 2 rfl
  refine ao <| wlm Y rfl fun a Y => wla Y rfl fun a Y => ab ?_
  rw [show (ou.map fun s => [sv s]) ++ ([[sv (rootH sha (cl.drop (lft cl.length)))]]) = ((ou ++ [rootH sha (cl.drop (lft cl.length))]).map fun s => [sv s]) from by simp] at U
  have hm1 : (cl.take (lft cl.length)).length < cl.length := by simp only [List.length_take, List.length_drop]; omega
  refine ⟨_, ?_, (cut v 1 0 (lft cl.length) (slCap v)), (cl.take (lft cl.length)), ci, wh, (ou ++ [rootH sha (cl.drop (lft cl.length))]), s7, rfl, hv.cut0 (h := lft cl.length) om, om, (by simp only [List.length_take, List.length_drop]; omega), (by simp only [List.length_take, List.length_drop]; omega), (by simp only [List.length_append, List.length_take, List.length_drop, List.length_cons, List.length_nil]; omega), (fun s h => hcl s (List.mem_of_mem_take h)), (by rw [hpr, fg sha om om, if_pos om]; simp), Y.pick [4, 5, 0, 1, 6, 7], U.select [0] de⟩
  omega
 rw [hc4] at Y
 try simp only [qz] at hc4
 obtain rfl : ci = cl.length := by omega
 rw [ef] at hpr
 refine aL <| hK7 _ _ <| ac fun K16 hK16 => aa fun K17 hK17 => wlm Y rfl fun a Y => wlv Y (bn rfl) fun a Y => ab (hK17 _ _ ?_)
 replace Y := Y.p5 4 5 0 6 51 rfl
 refine az Y rfl (fun hc8 => ?_) (fun hc8 => ?_)
 ·rw [hc8] at Y
  try simp only [qz] at hc8
  refine ao <| wlm Y rfl fun a Y => wlm Y rfl fun a Y => am Y U de call63 rfl (er v cl _ (U.arg hv) (by first | omega | (simp only [List.length_take, List.length_drop]; omega)) (by intro k hk; have h := bF (d := []) hk; first | exact hcl _ h | exact hcl _ (List.mem_of_mem_take h) | exact hcl _ (List.mem_of_mem_drop h)) (U.keepb hk0)) ?_
  clear Y U
  intro a w11 Y U
  refine aG (E := 9) (sz := 1) rfl [[sv (rootH sha cl)]] kr sm rfl de de Y U ?_
  clear Y U
  intro a w12 Y U
  refine bf (i := 1) (sT := 45) (inf := Tryd.t9) (z := .string (⟨#[]⟩)) (b := 0) (off := 0) (m := 0) (c := 0) rfl rfl rfl (U.ow 0 rfl) sm underlying45 rfl rfl rfl rfl de (by simp [Value.oneCell', yv, wv, sv]) (by have hby : Tryd.t9.bytes = 16 := rfl; simp only [big, hby, List.length_append, List.length_map, List.length_cons, List.length_nil]; omega) (by have hby : Tryd.t9.bytes = 16 := rfl; simp only [big, hby, List.length_append, List.length_map, List.length_cons, List.length_nil]; omega) de Y U fun a w13 s9 Y U _ => wla Y rfl fun a Y => ab <| hK16 _ _ ?_
  replace Y := Y.p3 4 5 6 rfl
  replace U := U.k1 2 rfl
  refine aa fun K18 hK18 => wlm Y rfl fun a Y => ?_
  rw [show (ou.map fun s => [sv s]) ++ ([[sv (rootH sha cl)]]) = ((ou ++ [rootH sha cl]).map fun s => [sv s]) from by simp] at U
  refine gF (e' := own s9 9 1 ((ou ++ [rootH sha cl]).reverse.map fun s => [sv s])) 0 Y U de call83 rfl rfl (fun _ h => h) (eJ _ _ _ _ (U.g 0 rfl)) rfl ?_
  clear Y U
  intro a w14 Y U
  refine ab (hK18 _ _ <| aa fun K19 hK19 => ?_)
  refine wlm Y rfl fun a Y => wla Y rfl fun a Y => wla Y rfl fun a Y => ab (hK19 _ _ <| au ?_)
  refine ar Y results72 (ae rfl (ae rfl ah)) ?_
  have hwh : wh = false := by assumption
  rw [hwh] at hpr
  simp only [if_true, if_false, Bool.false_eq_true, List.nil_append] at hpr
  refine ⟨s9, rfl, trivial, U.ext, St.out (E := [own s9 9 1 ((partH sha ls i true).map fun s => [sv s])]) (H := []) ?_⟩
  rw [hpr]; rw [List.reverse_append] at U; exact U
 rw [hc8] at Y
 try simp only [qz] at hc8
 refine aq <| hK16 _ _ <| aa fun K20 hK20 => wlm Y rfl fun a Y => gF (e' := own o 9 1 (ou.reverse.map fun s => [sv s])) 0 Y U de call83 rfl rfl (fun _ h => h) (eJ _ _ _ _ (U.g 0 rfl)) rfl ?_
 clear Y U
 intro a w15 Y U
 refine ab (hK20 _ _ <| aa fun K21 hK21 => ?_)
 refine wlm Y rfl fun a Y => wla Y rfl fun a Y => wla Y rfl fun a Y => ab (hK21 _ _ ?_)
 replace Y := Y.p2 4 5 rfl
 refine au ?_
 refine ar Y results72 (ae rfl (ae rfl ah)) ?_
 have hwh : wh = true := by assumption
 rw [hwh] at hpr
 simp only [if_true, if_false, Bool.false_eq_true, List.nil_append] at hpr
 refine ⟨o, rfl, trivial, U.ext, St.out (E := [own o 9 1 ((partH sha ls i true).map fun s => [sv s])]) (H := []) ?_⟩
 rw [hpr]; exact U
def encD (xs : List (By × Bool)) (k : Nat) : List Value := [iv (k : Int), .agg #[sv (xs.getD k ([], false)).1, .bool (xs.getD k ([], false)).2]]
theorem l3 {M : Nat → Prop} {w0 : World} (v : Value) (xs : List (By × Bool)) (lp b1 : Nat) (J Jx : List Nat → Ent → Prop) (hY : Rounds Tryd.prog M w0 lp (encD xs) (NxB xs.length) J Jx) (e0 : Ent) (ws : World) (hn : xs.length ≤ 1000000) (hJ : J [] e0) (U : St M w0 [e0, blk b1 [v] 125, own v 129 2 (xs.map fun x : By × Bool => [sv x.1, .bool x.2])] ws) :
  Ret Tryd.prog 101 #[.func (.yield lp) #[] #[], pq b1] ws fun _ w => ∃ e1 Hi1, St M w0 (e1 :: Hi1) w ∧ ((∃ ys, (ys = backs xs.length xs.length ∧ Hi1 = [blk b1 [v] 125, own v 129 2 (xs.map fun x : By × Bool => [sv x.1, .bool x.2])]) ∧ J ys e1) ∨ (∃ pre, Hi1 = [blk b1 [v] 125, own v 129 2 (xs.map fun x : By × Bool => [sv x.1, .bool x.2])] ∧ Jx pre e1)) := by
 refine aI func101 rfl ntmps101 (lb rfl) fun a Y => ?_
 replace Y := Y.p2 0 1 rfl
 skip
 refine aa fun K1 hK1 => wlv Y (ld U 1 rfl rfl (isAgg125 _) rfl) fun a Y => wlv Y ((aK (sT := 125) (U.ow 2 rfl) rfl rfl (runUnderlying125 _)).asi (m' := (xs.length : Int)) sm) fun a Y => wlv Y (bq rfl rfl ⟨om, om⟩) fun a Y => wla Y rfl fun a Y => ab (hK1 _ _ <| ap ?_)
 rw [show (xs.length : Int) - 1 = (xs.length : Int) - 1 - ((0 : Nat) : Int) from by omega] at Y
 refine aV (fun m a w => ∃ (j : Nat) (e : Ent), m = xs.length - j ∧ (j ≤ xs.length) ∧ (J (backs xs.length j) e) ∧ Fr 19 [(0, .func (.yield lp) #[] #[]), (1, pq b1), (3, iv ((xs.length : Int) - 1 - (j : Int)))] [] a ∧ St M w0 [e, blk b1 [v] 125, own v 129 2 (xs.map fun x : By × Bool => [sv x.1, .bool x.2])] w) _ ⟨0, e0, rfl, Nat.zero_le _, hJ, Y.pick [0, 1, 3], U⟩ ?_
 rintro _ a w1 ⟨j, e, rfl, hj, hJ, Y, U⟩
 refine ac fun K2 hK2 => aa fun K3 hK3 => wlm Y rfl fun a Y => wlv Y (v_ge rfl rfl) fun a Y => ab (hK3 _ _ ?_)
 refine az Y rfl (fun hc1 => ?_) (fun hc1 => ?_)
 ·rw [hc1] at Y
  try simp only [qz] at hc1
  have hjl : j < xs.length := by omega
  refine aq <| hK2 _ _ <| ac fun K4 hK4 => ap ?_
  have hidx : (xs.length : Int) - 1 - (j : Int) = ((xs.length - 1 - j : Nat) : Int) := by omega
  refine aa fun K5 hK5 => wlm Y rfl fun a Y => wlm Y rfl fun a Y => wlv Y (ld U 1 rfl rfl (isAgg125 _) rfl) fun a Y => wlm Y rfl fun a Y => wlv Y ((ak (i := (xs.length : Int) - 1 - (j : Int)) (sT := 125) (U.ow 2 rfl) rfl rfl (runUnderlying125 _) (sizeOf129 _) om (by simp; omega)).as (v' := slAddr v ((xs.length - 1 - j) * 2)) (by rw [show ((xs.length : Int) - 1 - (j : Int)).toNat = (xs.length - 1 - j) from by omega])) fun a Y => wlv Y ((bt (U.ow 2 rfl) (i := (xs.length - 1 - j)) (by simp; omega) rfl (isAgg129 _) (sizeOf129 _)).as (v' := .agg #[sv ((xs.getD (xs.length - 1 - j) ([], false)).1), .bool ((xs.getD (xs.length - 1 - j) ([], false)).2)]) (by rw [br ([], false)])) fun a Y => ?_
  rw [hidx] at Y
  refine wl_r (eZ rfl rfl (hY.yield (pre := backs xs.length j) (x := xs.length - 1 - j) (by show xs.length - 1 - j + 1 + (backs xs.length j).length = xs.length; rw [dC]; omega) hJ (U.only (i := 0) rfl))) rfl rfl Y ?_
  clear Y
  intro a v w2 hR Y
  obtain ⟨y2, e3, rfl, hx, hok, hft, hJt, hJf⟩ := hR
  replace U := U.exchange (k := 0) rfl hx hok hft
  replace U : St M w0 [_, _, _] w2 := U
  clear hx hok hft
  refine wlv Y (bn rfl) fun a Y => ab (hK5 _ _ ?_)
  replace Y := Y.p4 0 1 3 18 rfl
  refine az Y rfl (fun hc4 => ?_) (fun hc4 => ?_)
  ·rw [hc4] at Y
   try simp only [qz] at hc4
   have hJ := hJf hc4
   refine au ?_
   refine ar Y results101 ah ?_
   exact ⟨_, _, U, .inr ⟨_, rfl, hJ⟩⟩
  rw [hc4] at Y
  try simp only [qz] at hc4
  have hJ := hJt hc4
  refine aq <| hK4 _ _ <| ao <| wlm Y rfl fun a Y => wlv Y (bq rfl rfl ⟨om, om⟩) fun a Y => wla Y rfl fun a Y => ab ?_
  rw [show ((xs.length - 1 - j : Nat) : Int) - 1 = (xs.length : Int) - 1 - ((j + 1 : Nat) : Int) from by omega] at Y
  refine ⟨_, ?_, j + 1, e3, rfl, om, hJ, Y.pick [0, 1, 3], U⟩
  omega
 rw [hc1] at Y
 try simp only [qz] at hc1
 obtain rfl : j = xs.length := by omega
 refine aL ?_
 refine dv Y results101 ah ?_
 exact ⟨_, _, U, .inl ⟨_, ⟨rfl, rfl⟩, hJ⟩⟩
theorem eI {M : Nat → Prop} {w0 : World} (v : Value) (xs : List (By × Bool)) (b1 : Nat) (hn : xs.length ≤ 1000000) :
  Iter Tryd.prog 101 [pq b1] (encD xs) (NxB xs.length) (fun ys Hi => ys = backs xs.length xs.length ∧ Hi = [blk b1 [v] 125, own v 129 2 (xs.map fun x : By × Bool => [sv x.1, .bool x.2])]) (fun pre Hi => Hi = [blk b1 [v] 125, own v 129 2 (xs.map fun x : By × Bool => [sv x.1, .bool x.2])]) M w0 [blk b1 [v] 125, own v 129 2 (xs.map fun x : By × Bool => [sv x.1, .bool x.2])] :=
 fun lp J Jx w e hY hJ U => l3 v xs lp b1 J Jx hY e w hn hJ U
theorem fT (v : Value) (els : List (List Value)) (w0 : World) (hv : SlAt w0 v 2 els) :
  Ret Tryd.prog 86 #[v] w0 (MemR w0 (fun z : Nat => .func (.func 101) #[] #[pq z]) (fun z => [blk z [v] 125]) (fun _ => True)) := by
 refine aI func86 rfl ntmps86 (lb rfl) fun a Y => ?_
 replace Y := Y.p1 0 rfl
 replace U : St No w0 [] w0 := St.init w0
 refine aa fun K1 hK1 => bh Y U de rfl (cs := [v]) (by rw [(U.arg hv).cells]) ?_
 clear Y U
 intro a w1 Y U
 refine wla Y rfl fun a Y => ab (hK1 _ _ <| aa fun K2 hK2 => ?_)
 refine wlv Y (cz rfl rfl) fun a Y => wla Y rfl fun a Y => ab (hK2 _ _ <| au ?_)
 refine ar Y results86 (ae rfl ah) ?_
 exact ⟨w0.hz, rfl, trivial, U.ext, St.out (H := []) U⟩
def joinH (x : By × Bool) (o : By) : By := sha (1 :: (if x.2 then x.1 ++ o else o ++ x.1))
theorem ce {α : Type} (f : By × Bool → α → α) (l : List (By × Bool)) (r : α) : (backs l.length l.length).foldl (fun o k => f (l.getD k ([], false)) o) r = l.foldr f r := by
 rw [eD (fun o x => f x o) ([], false) _ _ _ (Nat.le_refl _), Nat.sub_self, List.drop_zero, List.foldl_reverse]
theorem es {p : List By} (h : 0 < p.length) : p = p.take (p.length - 1) ++ [p.getD (p.length - 1) []] := by
 conv => lhs; rw [← List.take_length (l := p), show p.length = p.length - 1 + 1 from by omega, cc [] om]
theorem kb {n i : Nat} {s : By} {p : List By} (h : 2 ≤ n) (hp : 0 < p.length) (hi : i < lft n) : valueH sha n i s p = (joinH (p.getD (p.length - 1) [], false) (valueH sha (lft n) i s (p.take (p.length - 1))).1, (valueH sha (lft n) i s (p.take (p.length - 1))).2) := by
 conv => lhs; rw [es hp, dm sha h, if_pos hi]
 rfl
theorem jx {n i : Nat} {s : By} {p : List By} (h : 2 ≤ n) (hp : 0 < p.length) (hi : lft n ≤ i) : valueH sha n i s p = (joinH (p.getD (p.length - 1) [], true) (valueH sha (n - lft n) (i - lft n) s (p.take (p.length - 1))).1, (valueH sha (n - lft n) (i - lft n) s (p.take (p.length - 1))).2) := by
 conv => lhs; rw [es hp, dm sha h, if_neg om]
 rfl
theorem eF {root : By} {n i : Int} {s : By} {p : List By} (h : ¬ (0 ≤ i ∧ i < n ∧ (p.all fun x => decide (x.length = 32)) = true)) : cF sha root n i s p = false := by
 cases hv : cF sha root n i s p with
 | false => rfl
 | true =>
  unfold cF at hv
  simp only [Bool.and_eq_true, decide_eq_true_eq] at hv
  exact absurd ⟨hv.1.1.1.1, hv.1.1.1.2, hv.1.1.2⟩ h
theorem mF {root : By} {n i cn ci : Nat} {s : By} {p cp : List By} {way : List (By × Bool)} (hval : valueH sha n i s p = (way.foldr joinH (valueH sha cn ci s cp).1, (valueH sha cn ci s cp).2)) (hc : cp.length = 0) (h2 : 2 ≤ cn) : cF sha root n i s p = false := by
 obtain rfl : cp = [] := List.eq_nil_of_length_eq_zero hc
 rw [ky sha h2] at hval
 unfold cF
 rw [Int.toNat_natCast, Int.toNat_natCast, hval]
 simp
theorem lm {root : By} {n i cn ci : Nat} {s : By} {p cp : List By} {way : List (By × Bool)} (hval : valueH sha n i s p = (way.foldr joinH (valueH sha cn ci s cp).1, (valueH sha cn ci s cp).2)) (h1 : i < n) (hall : (p.all fun x => decide (x.length = 32)) = true) (h2 : cn ≤ 1) : cF sha root n i s p = (decide (cp.length = 0) && decide (way.foldr joinH (leafH sha s) = root)) := by
 rw [f5 sha h2] at hval
 unfold cF
 rw [Int.toNat_natCast, Int.toNat_natCast, hval, hall]
 have : cp.isEmpty = decide (cp.length = 0) := by cases cp <;> simp
 simp [this, h1]
theorem all32 {p : List By} (h : (p.all fun x => decide (x.length = 32)) = true) : ∀ x ∈ p, x.length = 32 := by
 intro x hx; simpa using List.all_eq_true.1 h x hx
theorem jM (lv : Value) (xs : List By) (w0 : World) (hlv : SlAt w0 lv 1 (xs.map fun s => [sv s])) (h0 : xs.length = 0) :
  Ret Tryd.prog 85 #[lv] w0 fun v w => v = .tuple #[sv [], .slice none 0 0, .bool false] ∧ Ext No w0 w := by
 refine aI func85 rfl ntmps85 (lb rfl) fun a Y => ?_
 replace Y := Y.p1 0 rfl
 replace U : St No w0 [] w0 := St.init w0
 refine aa fun K1 hK1 => wla Y rfl fun a Y => wla Y rfl fun a Y => wla Y rfl fun a Y => ab (hK1 _ _ <| ac fun K2 hK2 => ?_)
 refine aa fun K3 hK3 => wlm Y rfl fun a Y => wlv Y ((aK (sT := 45) (U.arg hlv) rfl rfl (runUnderlying45 _)).asi (m' := (xs.length : Int)) sm) fun a Y => wlv Y (v_eq rfl rfl) fun a Y => ab (hK3 _ _ ?_)
 refine az Y rfl (fun hc1 => ?_) (fun hc1 => ?_)
 ·rw [hc1] at Y
  try simp only [qz] at hc1
  refine aa fun K4 hK4 => wla Y rfl fun a Y => wla Y rfl fun a Y => wla Y rfl fun a Y => ab (hK4 _ _ <| au ?_)
  refine ar Y results85 (ae rfl (ae rfl (ae rfl ah))) ?_
  exact ⟨by rfl, U.ext⟩
 rw [hc1] at Y
 try simp only [qz] at hc1
 omega
theorem lJ (root s : By) (n i : Int) (lv : Value) (ls : List By) (w0 : World) (hlv : SlAt w0 lv 1 (ls.map fun s => [sv s])) (hln : ls.length ≤ 1000) (hs : s.length ≤ 40000000) (hn : n ≤ 9223372036854775807) (hk0 : (blk 0 (kOf.map wv) 161).ok w0) :
  Ret Tryd.prog 66 #[sv root, iv n, iv i, sv s, lv] w0 fun v w => v = .bool (cF sha root n i s ls) ∧ Ext No w0 w := by
 refine aI func66 rfl ntmps66 (lb rfl) fun a Y => ?_
 replace Y := Y.p5 0 1 2 3 4 rfl
 replace U : St (· = 0) w0 [blk 0 (kOf.map wv) 161] w0 := St.one hk0
 refine aa fun K1 hK1 => wla Y rfl fun a Y => ab (hK1 _ _ <| ac fun K2 hK2 => ?_)
 refine aa fun K3 hK3 => wlm Y rfl fun a Y => wlv Y (v_lt rfl rfl) fun a Y => wlm Y rfl fun a Y => ?_
 rcases Bool.eq_false_or_eq_true (decide (i < 0)) with hb1 | hb1
 ·rw [hb1] at Y
  try simp only [qz] at hb1
  refine wln Y fun a Y => wln Y fun a Y => wln Y fun a Y => wlv Y (aB rfl rfl) fun a Y => wlm Y rfl fun a Y => wln Y fun a Y => wln Y fun a Y => wln Y fun a Y => wlv Y (aB rfl rfl) fun a Y => ab (hK3 _ _ ?_)
  replace Y := Y.p7 0 1 2 3 4 10 30 rfl
  refine aD Y rfl ?_
  refine aa fun K4 hK4 => wla Y rfl fun a Y => ab (hK4 _ _ <| au ?_)
  refine ar Y results66 (ae rfl ah) ?_
  exact ⟨by simp only [retv]; rw [eF (by rintro ⟨h1, h2, h3⟩; first | omega | simp_all)], U.ext.const hk0 (U.g 0 rfl)⟩
 rw [hb1] at Y
 try simp only [qz] at hb1
 refine wly Y (ai rfl) fun a Y => wly Y (ai rfl) fun a Y => wly Y (v_ge rfl rfl) fun a Y => wlv Y (aw rfl rfl) fun a Y => wlm Y rfl fun a Y => ?_
 rcases Bool.eq_false_or_eq_true (decide (n ≤ i)) with hb2 | hb2
 ·rw [hb2] at Y
  try simp only [qz] at hb2
  refine wln Y fun a Y => wln Y fun a Y => wln Y fun a Y => wlv Y (aB rfl rfl) fun a Y => ab (hK3 _ _ ?_)
  replace Y := Y.p7 0 1 2 3 4 10 30 rfl
  refine aD Y rfl ?_
  refine aa fun K5 hK5 => wla Y rfl fun a Y => ab (hK5 _ _ <| au ?_)
  refine ar Y results66 (ae rfl ah) ?_
  exact ⟨by simp only [retv]; rw [eF (by rintro ⟨h1, h2, h3⟩; first | omega | simp_all)], U.ext.const hk0 (U.g 0 rfl)⟩
 rw [hb2] at Y
 try simp only [qz] at hb2
 refine wly Y (ai rfl) fun a Y => aR Y U de rfl de rfl call84 rfl (nl lv ls _ (hlv.grow (U.ext.const hk0 (U.g 0 rfl)))) ?_
 clear Y U
 intro a w1 Y U
 refine wly Y (bn rfl) fun a Y => wlv Y (aw rfl rfl) fun a Y => ab (hK3 _ _ ?_)
 replace Y := Y.p7 0 1 2 3 4 10 30 rfl
 refine az Y rfl (fun hc3 => ?_) (fun hc3 => ?_)
 ·rw [hc3] at Y
  try simp only [qz] at hc3
  have hall := hc3
  refine aa fun K6 hK6 => wla Y rfl fun a Y => ab (hK6 _ _ <| au ?_)
  refine ar Y results66 (ae rfl ah) ?_
  exact ⟨by simp only [retv]; rw [eF (by rintro ⟨h1, h2, h3⟩; first | omega | simp_all)], U.ext.const hk0 (U.g 0 rfl)⟩
 rw [hc3] at Y
 try simp only [qz] at hc3
 have hall := hc3
 refine aq <| hK2 _ _ <| aa fun K7 hK7 => wla Y rfl fun a Y => ab (hK7 _ _ <| ac fun K8 hK8 => ?_)
 refine ap ?_
 obtain ⟨nn, rfl⟩ := Int.eq_ofNat_of_zero_le (show 0 ≤ n by omega)
 obtain ⟨ii, rfl⟩ := Int.eq_ofNat_of_zero_le (show 0 ≤ i by omega)
 have hl32 := all32 hall
 replace U : St (· = 0) w0 [own (.slice none 0 0) 129 2 (([] : List (By × Bool)).map fun x : By × Bool => [sv x.1, .bool x.2]), blk 0 (kOf.map wv) 161] w1 := U.nil_own
 refine aV (fun m a w => ∃ (cn : Nat) (ci : Nat) (pz : Value) (cp : List By) (way : List (By × Bool)) (u : Value), m = cp.length ∧ (SlAt w0 pz 1 (cp.map fun s => [sv s])) ∧ (ci < cn) ∧ (cn ≤ 9223372036854775807) ∧ (way.length + cp.length ≤ 1000) ∧ (∀ x ∈ cp, x.length = 32) ∧ (∀ x ∈ way, x.1.length = 32) ∧ (valueH sha nn ii s ls = (way.foldr joinH (valueH sha cn ci s cp).1, (valueH sha cn ci s cp).2)) ∧ Fr 79 [(0, sv root), (3, sv s), (1, iv (cn : Int)), (2, iv (ci : Int)), (4, pz), (11, u)] [] a ∧ St (· = 0) w0 [own u 129 2 (way.map fun x : By × Bool => [sv x.1, .bool x.2]), blk 0 (kOf.map wv) 161] w) _ ⟨nn, ii, lv, ls, [], .slice none 0 0, rfl, hlv, om, om, (by simp; omega), hl32, sm, rfl, Y.pick [0, 3, 1, 2, 4, 11], U.select [0, 1] de⟩ ?_
 rintro _ a w2 ⟨cn, ci, pz, cp, way, u, rfl, hpv, hc1, hc2, hc3, hcp, hway, hval, Y, U⟩
 refine ac fun K9 hK9 => aa fun K10 hK10 => wlm Y rfl fun a Y => wlv Y (v_gt rfl rfl) fun a Y => ab (hK10 _ _ ?_)
 refine az Y rfl (fun hc4 => ?_) (fun hc4 => ?_)
 ·rw [hc4] at Y
  try simp only [qz] at hc4
  refine aq <| hK9 _ _ <| ap <| aa fun K11 hK11 => wlm Y rfl fun a Y => ?_
  rcases Bool.eq_false_or_eq_true (decide (cp.length = 0)) with hb5 | hb5
  ·try simp only [qz] at hb5
   refine am Y U de call85 rfl (jM pz cp _ (hpv.grow (U.ext.const hk0 (U.g 1 rfl))) om) ?_
   clear Y U
   intro a w3 Y U
   refine wlm Y rfl fun a Y => wlv Y (ag rfl rfl) fun a Y => wlv Y (ag rfl rfl) fun a Y => wlv Y (ag rfl rfl) fun a Y => wla Y rfl fun a Y => wla Y rfl fun a Y => wla Y rfl fun a Y => ab (hK11 _ _ ?_)
   replace Y := Y.p9 0 3 1 2 4 11 12 13 14 rfl
   refine ac fun K12 hK12 => aa fun K13 hK13 => wlm Y rfl fun a Y => wlv Y ((bn rfl).asb (b' := true) rfl) fun a Y => ab (hK13 _ _ <| aD Y rfl ?_)
   refine aa fun K14 hK14 => wla Y rfl fun a Y => ab (hK14 _ _ <| au ?_)
   refine ar Y results66 (ae rfl ah) ?_
   exact ⟨by simp only [retv]; rw [mF hval om om], U.ext.const hk0 (U.g 1 rfl)⟩
  try simp only [qz] at hb5
  have hlt := cA (n := cn) om
  have hlp := cd cn
  have hx32 : (cp.getD (cp.length - 1) []).length = 32 := hcp _ (bF om)
  refine am Y U de call85 rfl (kQ pz cp _ (hpv.grow (U.ext.const hk0 (U.g 1 rfl))) om) ?_
  clear Y U
  intro a w4 Y U
  refine wlm Y rfl fun a Y => wlv Y (ag rfl rfl) fun a Y => wlv Y (ag rfl rfl) fun a Y => wlv Y (ag rfl rfl) fun a Y => wla Y rfl fun a Y => wla Y rfl fun a Y => wla Y rfl fun a Y => ab (hK11 _ _ ?_)
  replace Y := Y.p9 0 3 1 2 4 11 12 13 14 rfl
  refine ac fun K15 hK15 => aa fun K16 hK16 => wlm Y rfl fun a Y => wlv Y ((bn rfl).asb (b' := false) rfl) fun a Y => ab (hK16 _ _ <| aE Y rfl ?_)
  refine aq <| hK15 _ _ <| aa fun K17 hK17 => wlm Y rfl fun a Y => wla Y rfl fun a Y => ab (hK17 _ _ <| aa fun K18 hK18 => ?_)
  refine wlm Y rfl fun a Y => am Y U de call82 rfl (fJ cn _ om om) ?_
  clear Y U
  intro a w5 Y U
  refine wla Y rfl fun a Y => ab (hK18 _ _ ?_)
  replace Y := Y.p8 0 3 1 2 11 12 4 15 rfl
  refine aa fun K19 hK19 => wlm Y rfl fun a Y => wlm Y rfl fun a Y => wlm Y rfl fun a Y => wlm Y rfl fun a Y => wlv Y (v_ge rfl rfl) fun a Y => wlv Y (aZ (v := .agg #[sv (cp.getD (cp.length - 1) []), .bool (decide ((lft cn : Int) ≤ (ci : Int)))]) rfl kr) fun a Y => aG (E := 129) (sz := 2) rfl [[sv (cp.getD (cp.length - 1) []), .bool (decide ((lft cn : Int) ≤ (ci : Int)))]] kr sm rfl de de Y U ?_
  clear Y U
  intro a w6 Y U
  refine bf (i := 1) (sT := 125) (inf := Tryd.t129) (z := .agg #[.string (⟨#[]⟩), .bool false]) (b := 0) (off := 0) (m := 0) (c := 0) rfl rfl rfl (U.ow 0 rfl) sm underlying125 rfl rfl rfl rfl de (by simp [Value.oneCell', yv, wv, sv]) (by have hby : Tryd.t129.bytes = 24 := rfl; simp only [big, hby, List.length_append, List.length_map, List.length_cons, List.length_nil]; omega) (by have hby : Tryd.t129.bytes = 24 := rfl; simp only [big, hby, List.length_append, List.length_map, List.length_cons, List.length_nil]; omega) de Y U fun a w7 s6 Y U _ => wla Y rfl fun a Y => ab (hK19 _ _ ?_)
  replace Y := Y.p7 0 3 1 2 4 15 11 rfl
  replace U := U.k2 6 rfl
  refine aa fun K20 hK20 => wlm Y rfl fun a Y => wlm Y rfl fun a Y => wlv Y (v_ge rfl rfl) fun a Y => ab (hK20 _ _ ?_)
  refine az Y rfl (fun hc7 => ?_) (fun hc7 => ?_)
  ·rw [hc7] at Y
   try simp only [qz] at hc7
   refine ao <| wlm Y rfl fun a Y => wlm Y rfl fun a Y => wlv Y ((bq rfl rfl ⟨om, om⟩).asi (m' := ((cn - lft cn : Nat) : Int)) om) fun a Y => wlm Y rfl fun a Y => wlm Y rfl fun a Y => wlv Y ((bq rfl rfl ⟨om, om⟩).asi (m' := ((ci - lft cn : Nat) : Int)) om) fun a Y => wla Y rfl fun a Y => wla Y rfl fun a Y => ab ?_
   rw [show (way.map fun x : By × Bool => [sv x.1, .bool x.2]) ++ ([[sv (cp.getD (cp.length - 1) []), .bool (decide ((lft cn : Int) ≤ (ci : Int)))]]) = ((way ++ [(cp.getD (cp.length - 1) [], true)]).map fun x : By × Bool => [sv x.1, .bool x.2]) from by rw [decide_eq_true om]; simp] at U
   have hm1 : (cp.take (cp.length - 1)).length < cp.length := by rw [List.length_take]; omega
   refine ⟨_, ?_, (cn - lft cn), (ci - lft cn), (cut pz 1 0 (cp.length - 1) (slCap pz)), (cp.take (cp.length - 1)), (way ++ [(cp.getD (cp.length - 1) [], true)]), s6, rfl, hpv.cut0 (h := cp.length - 1) om, om, om, (by rw [List.length_append, List.length_take, List.length_singleton]; omega), (fun x h => hcp x (List.mem_of_mem_take h)), (by intro x h; rcases List.mem_append.1 h with h | h; exact hway x h; rw [List.mem_singleton.1 h]; exact hx32), (by rw [hval, jx om om om]; simp), Y.pick [0, 3, 1, 2, 4, 11], U.select [0, 1] de⟩
   omega
  rw [hc7] at Y
  try simp only [qz] at hc7
  refine ao <| wlm Y rfl fun a Y => wla Y rfl fun a Y => ab ?_
  rw [show (way.map fun x : By × Bool => [sv x.1, .bool x.2]) ++ ([[sv (cp.getD (cp.length - 1) []), .bool (decide ((lft cn : Int) ≤ (ci : Int)))]]) = ((way ++ [(cp.getD (cp.length - 1) [], false)]).map fun x : By × Bool => [sv x.1, .bool x.2]) from by rw [decide_eq_false om]; simp] at U
  have hm1 : (cp.take (cp.length - 1)).length < cp.length := by rw [List.length_take]; omega
  refine ⟨_, ?_, (lft cn), ci, (cut pz 1 0 (cp.length - 1) (slCap pz)), (cp.take (cp.length - 1)), (way ++ [(cp.getD (cp.length - 1) [], false)]), s6, rfl, hpv.cut0 (h := cp.length - 1) om, om, om, (by rw [List.length_append, List.length_take, List.length_singleton]; omega), (fun x h => hcp x (List.mem_of_mem_take h)), (by intro x h; rcases List.mem_append.1 h with h | h; exact hway x h; rw [List.mem_singleton.1 h]; exact hx32), (by rw [hval, kb om om om]; simp), Y.pick [0, 3, 1, 2, 4, 11], U.select [0, 1] de⟩
  omega
 rw [hc4] at Y
 try simp only [qz] at hc4
 refine aL <| hK8 _ _ <| aa fun K21 hK21 => wlm Y rfl fun a Y => am Y U de call78 rfl (iz s _ om (U.g 1 rfl)) ?_
 clear Y U
 intro a w8 Y U
 refine aC Y U de (zeroValue9 _) (cs := [.string (⟨#[]⟩)]) rfl ?_
 clear Y U
 intro a w9 Y U
 refine ay 0 Y U rfl rfl rfl (sizeOf9 _) rfl (lb rfl) (ds := [sv (leafH sha s)]) rfl rfl ?_
 clear Y U
 intro a w10 Y U
 refine ab (hK21 _ _ ?_)
 replace Y := Y.p4 0 4 11 16 rfl
 refine ac fun K22 hK22 => aa fun K23 hK23 => wlm Y rfl fun a Y => aX Y U de call86 rfl (fT u _ _ (U.ow 1 rfl)) ?_
 clear Y U
 intro a w11 x8 hp Y U
 revert x8 hp Y U; rintro z1 hp Y U
 clear hp
 replace U : St (· = 0) w0 [_, _, _, _] w11 := U
 refine ab (hK23 _ _ <| ap ?_)
 have hy32 : ∀ k, k < way.length → (way.getD k ([], false)).1.length = 32 := fun k hk => hway _ (bF hk)
 replace U : St (· = 0) w0 [_, _, _, _] w11 := U
 replace U : St (· = 0) w0 [blk 0 (kOf.map wv) 161, blk w8.hz [sv (([] : List Nat).foldl (fun o k => joinH (way.getD k ([], false)) o) (leafH sha s))] 9, blk z1 [u] 125, own u 129 2 (way.map fun x : By × Bool => [sv x.1, .bool x.2])] w11 := U.select [3, 1, 0, 2] de
 replace Y : Fr 79 [(0, sv root), (4, pz), (11, u), (16, pq w8.hz), (64, u), (65, .func (.func 101) #[] #[pq z1])] [] a := Y.pick [0, 4, 11, 16, 64, 65]
 refine cT (M := (· = 0)) (w0 := w0) (encs := (encD way)) (Hi := [blk z1 [u] 125, own u 129 2 (way.map fun x : By × Bool => [sv x.1, .bool x.2])]) (Hc := [blk 0 (kOf.map wv) 161, blk w8.hz [sv (([] : List Nat).foldl (fun o k => joinH (way.getD k ([], false)) o) (leafH sha s))] 9]) (fun pre H => ((pre.foldl (fun o k => joinH (way.getD k ([], false)) o) (leafH sha s)).length = 32) ∧ H = [blk 0 (kOf.map wv) 161, blk w8.hz [sv (pre.foldl (fun o k => joinH (way.getD k ([], false)) o) (leafH sha s))] 9]) (fun _ _ _ => False) (fun pre xs H a => ∃ (bA0 : Nat), Fr 79 [(0, sv root), (4, pz), (11, u), (16, pq w8.hz), (64, u), (65, .func (.func 101) #[] #[pq z1]), (18, pq bA0)] [] a ∧ ((pre.foldl (fun o k => joinH (way.getD k ([], false)) o) (leafH sha s)).length = 32) ∧ H = [blk bA0 [sv ((way.getD xs ([], false)).1), .bool ((way.getD xs ([], false)).2)] 129, blk 0 (kOf.map wv) 161, blk w8.hz [sv (pre.foldl (fun o k => joinH (way.getD k ([], false)) o) (leafH sha s))] 9]) rfl call101 Y U (eI u way z1 om) de (fun _ => rfl) ⟨jt bY s, rfl⟩ ?_ ?_ ?_ ?_
 ·clear Y U
  rintro lp pre xs _ a w12 hnx ⟨hf32, rfl⟩ Y U
  generalize (join [blk 0 (kOf.map wv) 161, blk w8.hz [sv (pre.foldl (fun o k => joinH (way.getD k ([], false)) o) (leafH sha s))] 9]).foot = M1 at U ⊢
  replace Y : Fr 79 [(67, .agg #[sv ((way.getD xs ([], false)).1), .bool ((way.getD xs ([], false)).2)]), (66, iv (xs : Int)), (0, sv root), (4, pz), (11, u), (16, pq w8.hz), (64, u), (65, .func (.func 101) #[] #[pq z1])] [] a := Y
  refine ao <| aC Y U de (zeroValue129 _) (cs := [.string (⟨#[]⟩), .bool false]) rfl ?_
  clear Y U
  intro a w13 Y U
  refine ay 0 Y U rfl rfl rfl (sizeOf129 _) rfl (lb rfl) (ds := [sv ((way.getD xs ([], false)).1), .bool ((way.getD xs ([], false)).2)]) rfl rfl ?_
  clear Y U
  intro a w14 Y U
  refine ab ?_
  exact ⟨_, ⟨w12.hz, Y.pick [0, 4, 11, 16, 64, 65, 18], hf32, rfl⟩, U⟩
 ·rintro lp pre xs _ a w15 hnx ⟨bA0, Y, hf32, rfl⟩ hout hrec hnl U
  clear hrec hnl
  generalize (join [blk bA0 [sv ((way.getD xs ([], false)).1), .bool ((way.getD xs ([], false)).2)] 129, blk 0 (kOf.map wv) 161, blk w8.hz [sv (pre.foldl (fun o k => joinH (way.getD k ([], false)) o) (leafH sha s))] 9]).foot = M1 at U hout ⊢
  refine ap <| ao <| wlv Y (aj (U.g 0 rfl) rfl (isAgg129 _) (sizeOf129 _)) fun a Y => wlv Y (ld U 2 rfl rfl (isAgg9 _) rfl) fun a Y => am Y U de call87 rfl (dk ((way.getD xs ([], false)).1) ((way.getD xs ([], false)).2) (pre.foldl (fun o k => joinH (way.getD k ([], false)) o) (leafH sha s)) _ (by have := hy32 xs (by have h := hnx; unfold NxB at h; omega); omega) (by first | omega | exact Nat.le_trans (Nat.le_of_eq hf32) de) (U.g 1 rfl)) ?_
  clear Y U
  intro a w16 Y U
  refine ay 2 Y U rfl rfl rfl (sizeOf9 _) rfl (lb rfl) (ds := [sv (joinH ((way.getD xs ([], false)).1, (way.getD xs ([], false)).2) (pre.foldl (fun o k => joinH (way.getD k ([], false)) o) (leafH sha s)))]) rfl rfl ?_
  clear Y U
  intro a w17 Y U
  refine ab ?_
  rw [show joinH ((way.getD xs ([], false)).1, (way.getD xs ([], false)).2) (pre.foldl (fun o k => joinH (way.getD k ([], false)) o) (leafH sha s)) = (pre ++ [xs]).foldl (fun o k => joinH (way.getD k ([], false)) o) (leafH sha s) from by rw [List.foldl_append]; rfl] at U
  exact ⟨_, ⟨(by rw [List.foldl_append]; exact bY _), rfl⟩, U.select [1, 2] de⟩
 ·rintro D pre _ _ a w18 ⟨rfl, rfl⟩ ⟨hf32, rfl⟩ U Y
  replace Y : Fr 79 [(0, sv root), (4, pz), (11, u), (16, pq w8.hz), (64, u), (65, .func (.func 101) #[] #[pq z1])] [{ target := .collected D, args := #[] }] a := Y
  replace U : St (· = 0) w0 [_, _, _, _, _] w18 := U
  refine hK22 _ _ <| aa fun K24 hK24 => wlm Y rfl fun a Y => wlv Y ((aK (sT := 45) (hpv.grow (U.ext.const hk0 (U.g 1 rfl))) rfl rfl (runUnderlying45 _)).asi (m' := (cp.length : Int)) sm) fun a Y => wlv Y (v_eq rfl rfl) fun a Y => wlm Y rfl fun a Y => ?_
  rcases Bool.eq_false_or_eq_true (decide ((cp.length : Int) = 0)) with hb9 | hb9
  ·rw [hb9] at Y
   try simp only [qz] at hb9
   refine wly Y (ld U 2 rfl rfl (isAgg9 _) rfl) fun a Y => wly Y (ai rfl) fun a Y => wly Y (eu rfl rfl) fun a Y => wlv Y (aB rfl rfl) fun a Y => wla Y rfl fun a Y => ab (hK24 _ _ ?_)
   replace Y := Y.p1 10 rfl
   replace U := U.k3 19 rfl
   refine au ?_
   have hD := U.g 0 rfl
   replace U := U.unmark (i := 0) (o' := .deferred none) rfl
   replace U : St (· = 0) w0 [_, _] _ := U
   refine bR Y hD results66 (ae rfl ah) ?_
   exact ⟨by simp only [retv]; rw [ce, lm hval om hall om, decide_eq_true (show cp.length = 0 by omega), Bool.true_and], U.ext.const hk0 (U.g 0 rfl)⟩
  rw [hb9] at Y
  try simp only [qz] at hb9
  refine wln Y fun a Y => wln Y fun a Y => wln Y fun a Y => wlv Y (aw rfl rfl) fun a Y => wla Y rfl fun a Y => ab (hK24 _ _ ?_)
  replace Y := Y.p1 10 rfl
  replace U := U.k3 19 rfl
  refine au ?_
  have hD := U.g 0 rfl
  replace U := U.unmark (i := 0) (o' := .deferred none) rfl
  replace U : St (· = 0) w0 [_, _] _ := U
  refine bR Y hD results66 (ae rfl ah) ?_
  exact ⟨by simp only [retv]; rw [lm hval om hall om, decide_eq_false (show ¬ cp.length = 0 by omega), Bool.false_and], U.ext.const hk0 (U.g 0 rfl)⟩
 ·rintro D c pre _ _ a w19 _ h
  exact h.elim
def fstH (x : By × Bool) (o : By) : By := if x.2 then joinH x o else o
theorem fM {x : By × Bool} {o : By} (h : o.length = 32) : (fstH x o).length = 32 := by
 unfold fstH; split
 ·exact bY _
 ·exact h
theorem lQ {old : By} {m n : Nat} {p : List By} {w : Bool} (h : m ≠ n) (hp : 0 < p.length) (hi : m ≤ lft n) : bothH sha old m n p w = (fstH (p.getD (p.length - 1) [], false) (bothH sha old m (lft n) (p.take (p.length - 1)) w).1, joinH (p.getD (p.length - 1) [], false) (bothH sha old m (lft n) (p.take (p.length - 1)) w).2.1, (bothH sha old m (lft n) (p.take (p.length - 1)) w).2.2) := by
 conv => lhs; rw [es hp, dO sha h, if_pos hi]
 rfl
theorem kM {old : By} {m n : Nat} {p : List By} {w : Bool} (h : m ≠ n) (hp : 0 < p.length) (hi : ¬ m ≤ lft n) : bothH sha old m n p w = (fstH (p.getD (p.length - 1) [], true) (bothH sha old (m - lft n) (n - lft n) (p.take (p.length - 1)) false).1, joinH (p.getD (p.length - 1) [], true) (bothH sha old (m - lft n) (n - lft n) (p.take (p.length - 1)) false).2.1, (bothH sha old (m - lft n) (n - lft n) (p.take (p.length - 1)) false).2.2) := by
 conv => lhs; rw [es hp, dO sha h, if_neg hi]
 rfl
theorem gE {old root : By} {m n : Int} {p : List By} (h : ¬ (0 ≤ m ∧ m ≤ n ∧ (p.all fun x => decide (x.length = 32)) = true ∧ old.length = 32 ∧ root.length = 32)) : bA sha old m root n p = false := by
 unfold bA
 rw [if_pos]
 refine Classical.byContradiction fun hc => h ?_
 simp only [not_or, Int.not_lt, Bool.not_eq_false, Classical.not_not, ne_eq] at hc
 exact hc
theorem dZ (p : List By) : p.isEmpty = decide (p.length = 0) := by cases p <;> simp
section
variable {old root : By} {p : List By} (hall : (p.all fun x => decide (x.length = 32)) = true) (ho : old.length = 32) (hr : root.length = 32)
include hall ho hr
theorem gT {m n : Int} (h0 : 0 ≤ m) (hmn : m ≤ n) : bA sha old m root n p = (if m = 0 then p.isEmpty && decide (old = sha []) else if m = n then p.isEmpty && decide (old = root) else (bothH sha old m.toNat n.toNat p true).2.2 && decide ((bothH sha old m.toNat n.toNat p true).1 = old) && decide ((bothH sha old m.toNat n.toNat p true).2.1 = root)) := by
 unfold bA
 rw [if_neg (by simp [hall, ho, hr]; omega)]
theorem lc {n : Int} (hmn : 0 ≤ n) : bA sha old 0 root n p = (decide (p.length = 0) && decide (old = sha [])) := by
 rw [gT hall ho hr (Int.le_refl _) hmn, if_pos rfl, dZ]
theorem ll {m : Int} (h0 : 0 < m) : bA sha old m root m p = (decide (p.length = 0) && decide (old = root)) := by
 rw [gT hall ho hr om (Int.le_refl _), if_neg om, if_pos rfl, dZ]
variable {m n cm cn : Nat} {cp : List By} {wh : Bool} {way : List (By × Bool)} (hm : 1 ≤ m) (hmn : m < n) (hval : bothH sha old m n p true = (way.foldr fstH (bothH sha old cm cn cp wh).1, way.foldr joinH (bothH sha old cm cn cp wh).2.1, (bothH sha old cm cn cp wh).2.2))
include hm hmn hval
theorem nY (hc : cp.length = 0) (h2 : cm ≠ cn) : bA sha old m root n p = false := by
 obtain rfl : cp = [] := List.eq_nil_of_length_eq_zero hc
 rw [lq sha h2] at hval
 rw [gT hall ho hr om om, if_neg om, if_neg om, Int.toNat_natCast, Int.toNat_natCast, hval]; simp
theorem o7 (hw : wh = false) (hc : cm = cn) (h1 : cp.length ≠ 1) : bA sha old m root n p = false := by
 subst hw; subst hc
 rw [et] at hval
 have : (endH cp).2.2 = false := by
  match cp, h1 with
  | [], _ => rfl
  | _ :: _ :: _, _ => rfl
  | [_], h => exact absurd rfl h
 simp only [Bool.false_eq_true, if_false] at hval
 rw [gT hall ho hr om om, if_neg om, if_neg om, Int.toNat_natCast, Int.toNat_natCast, hval]
 simp only [this, Bool.false_and]
theorem gl (hw : wh = true) (hc : cm = cn) : bA sha old m root n p = (decide (cp.length = 0) && decide (way.foldr fstH old = old) && decide (way.foldr joinH old = root)) := by
 subst hw; subst hc
 rw [et] at hval
 simp only [if_true] at hval
 rw [gT hall ho hr om om, if_neg om, if_neg om, Int.toNat_natCast, Int.toNat_natCast, hval, dZ]
theorem kZ (hw : wh = false) (hc : cm = cn) (h1 : cp.length = 1) : bA sha old m root n p = (decide (way.foldr fstH (cp.getD 0 []) = old) && decide (way.foldr joinH (cp.getD 0 []) = root)) := by
 subst hw; subst hc
 rw [et] at hval
 simp only [Bool.false_eq_true, if_false] at hval
 obtain ⟨x, rfl⟩ : ∃ x, cp = [x] := by
  match cp, h1 with
  | [x], _ => exact ⟨x, rfl⟩
 rw [gT hall ho hr om om, if_neg om, if_neg om, Int.toNat_natCast, Int.toNat_natCast, hval]
 simp only [endH, Bool.true_and]; rfl
end
theorem kv (old root : By) (m n : Int) (lv : Value) (ls : List By) (w0 : World) (hlv : SlAt w0 lv 1 (ls.map fun s => [sv s])) (hln : ls.length ≤ 1000) (hn : n ≤ 9223372036854775807) (hk0 : (blk 0 (kOf.map wv) 161).ok w0) :
  Ret Tryd.prog 73 #[sv old, iv m, sv root, iv n, lv] w0 fun v w => v = .bool (bA sha old m root n ls) ∧ Ext No w0 w := by
 refine aI func73 rfl ntmps73 (lb rfl) fun a Y => ?_
 replace Y := Y.p5 0 1 2 3 4 rfl
 replace U : St (· = 0) w0 [blk 0 (kOf.map wv) 161] w0 := St.one hk0
 refine aa fun K1 hK1 => wla Y rfl fun a Y => ab (hK1 _ _ <| ac fun K2 hK2 => ?_)
 refine ap <| aa fun K3 hK3 => wlm Y rfl fun a Y => wlv Y (v_lt rfl rfl) fun a Y => wlm Y rfl fun a Y => ?_
 rcases Bool.eq_false_or_eq_true (decide (m < 0)) with hb1 | hb1
 ·rw [hb1] at Y
  try simp only [qz] at hb1
  refine wln Y fun a Y => wln Y fun a Y => wln Y fun a Y => wlv Y (aB rfl rfl) fun a Y => wlm Y rfl fun a Y => wln Y fun a Y => wln Y fun a Y => wln Y fun a Y => wlv Y (aB rfl rfl) fun a Y => wlm Y rfl fun a Y => wln Y fun a Y => wln Y fun a Y => ?_
  refine wln Y fun a Y => wlv Y (aB rfl rfl) fun a Y => wlm Y rfl fun a Y => wln Y fun a Y => wln Y fun a Y => wln Y fun a Y => wlv Y (aB rfl rfl) fun a Y => wla Y rfl fun a Y => ab (hK3 _ _ ?_)
  replace Y := Y.p7 0 1 2 3 4 10 21 rfl
  refine aD Y rfl ?_
  refine aa fun K4 hK4 => wla Y rfl fun a Y => ab (hK4 _ _ <| au ?_)
  refine ar Y results73 (ae rfl ah) ?_
  exact ⟨by simp only [retv]; rw [gE (by rintro ⟨h1, h2, h3, h4, h5⟩; first | omega | simp_all)], U.ext.const hk0 (U.g 0 rfl)⟩
 rw [hb1] at Y
 try simp only [qz] at hb1
 refine wly Y (ai rfl) fun a Y => wly Y (ai rfl) fun a Y => wly Y (v_gt rfl rfl) fun a Y => wlv Y (aw rfl rfl) fun a Y => wlm Y rfl fun a Y => ?_
 rcases Bool.eq_false_or_eq_true (decide (n < m)) with hb2 | hb2
 ·rw [hb2] at Y
  try simp only [qz] at hb2
  refine wln Y fun a Y => wln Y fun a Y => wln Y fun a Y => wlv Y (aB rfl rfl) fun a Y => wlm Y rfl fun a Y => wln Y fun a Y => wln Y fun a Y => wln Y fun a Y => wlv Y (aB rfl rfl) fun a Y => wlm Y rfl fun a Y => wln Y fun a Y => wln Y fun a Y => ?_
  refine wln Y fun a Y => wlv Y (aB rfl rfl) fun a Y => wla Y rfl fun a Y => ab (hK3 _ _ ?_)
  replace Y := Y.p7 0 1 2 3 4 10 21 rfl
  refine aD Y rfl ?_
  refine aa fun K5 hK5 => wla Y rfl fun a Y => ab (hK5 _ _ <| au ?_)
  refine ar Y results73 (ae rfl ah) ?_
  exact ⟨by simp only [retv]; rw [gE (by rintro ⟨h1, h2, h3, h4, h5⟩; first | omega | simp_all)], U.ext.const hk0 (U.g 0 rfl)⟩
 rw [hb2] at Y
 try simp only [qz] at hb2
 refine wly Y (ai rfl) fun a Y => aR Y U de rfl de rfl call84 rfl (nl lv ls _ (hlv.grow (U.ext.const hk0 (U.g 0 rfl)))) ?_
 clear Y U
 intro a w1 Y U
 refine wly Y (bn rfl) fun a Y => wlv Y (aw rfl rfl) fun a Y => wlm Y rfl fun a Y => ?_
 rcases Bool.eq_false_or_eq_true (!(ls.all fun s => decide (s.length = 32))) with hb3 | hb3
 ·rw [hb3] at Y
  try simp only [qz] at hb3
  have hall := hb3
  refine wln Y fun a Y => wln Y fun a Y => wln Y fun a Y => wlv Y (aB rfl rfl) fun a Y => wlm Y rfl fun a Y => wln Y fun a Y => wln Y fun a Y => wln Y fun a Y => wlv Y (aB rfl rfl) fun a Y => wla Y rfl fun a Y => ab (hK3 _ _ ?_)
  replace Y := Y.p7 0 1 2 3 4 10 21 rfl
  refine aD Y rfl ?_
  refine aa fun K6 hK6 => wla Y rfl fun a Y => ab (hK6 _ _ <| au ?_)
  refine ar Y results73 (ae rfl ah) ?_
  exact ⟨by simp only [retv]; rw [gE (by rintro ⟨h1, h2, h3, h4, h5⟩; first | omega | simp_all)], U.ext.const hk0 (U.g 0 rfl)⟩
 rw [hb3] at Y
 try simp only [qz] at hb3
 have hall := hb3
 refine wly Y (ai rfl) fun a Y => aR Y U de rfl de rfl call90 rfl (ed old _) ?_
 clear Y U
 intro a w2 Y U
 refine wly Y (bn rfl) fun a Y => wlv Y (aw rfl rfl) fun a Y => wlm Y rfl fun a Y => ?_
 rcases Bool.eq_false_or_eq_true (!(decide ((old.length : Int) = 32))) with hb4 | hb4
 ·rw [hb4] at Y
  try simp only [qz] at hb4
  refine wln Y fun a Y => wln Y fun a Y => wln Y fun a Y => wlv Y (aB rfl rfl) fun a Y => wla Y rfl fun a Y => ab (hK3 _ _ ?_)
  replace Y := Y.p7 0 1 2 3 4 10 21 rfl
  refine aD Y rfl ?_
  refine aa fun K7 hK7 => wla Y rfl fun a Y => ab (hK7 _ _ <| au ?_)
  refine ar Y results73 (ae rfl ah) ?_
  exact ⟨by simp only [retv]; rw [gE (by rintro ⟨h1, h2, h3, h4, h5⟩; first | omega | simp_all)], U.ext.const hk0 (U.g 0 rfl)⟩
 rw [hb4] at Y
 try simp only [qz] at hb4
 refine wly Y (ai rfl) fun a Y => aR Y U de rfl de rfl call90 rfl (ed root _) ?_
 clear Y U
 intro a w3 Y U
 refine wly Y (bn rfl) fun a Y => wlv Y (aw rfl rfl) fun a Y => wla Y rfl fun a Y => ab (hK3 _ _ ?_)
 replace Y := Y.p7 0 1 2 3 4 10 21 rfl
 refine az Y rfl (fun hc5 => ?_) (fun hc5 => ?_)
 ·rw [hc5] at Y
  try simp only [qz] at hc5
  refine aa fun K8 hK8 => wla Y rfl fun a Y => ab (hK8 _ _ <| au ?_)
  refine ar Y results73 (ae rfl ah) ?_
  exact ⟨by simp only [retv]; rw [gE (by rintro ⟨h1, h2, h3, h4, h5⟩; first | omega | simp_all)], U.ext.const hk0 (U.g 0 rfl)⟩
 rw [hc5] at Y
 try simp only [qz] at hc5
 refine aa fun K9 hK9 => wlm Y rfl fun a Y => wlv Y (v_eq rfl rfl) fun a Y => wla Y rfl fun a Y => ab (hK9 _ _ ?_)
 refine az Y rfl (fun hc6 => ?_) (fun hc6 => ?_)
 ·rw [hc6] at Y
  try simp only [qz] at hc6
  obtain rfl : m = 0 := by omega
  refine aa fun K10 hK10 => wlm Y rfl fun a Y => wlv Y ((aK (sT := 45) (hlv.grow (U.ext.const hk0 (U.g 0 rfl))) rfl rfl (runUnderlying45 _)).asi (m' := (ls.length : Int)) sm) fun a Y => wlv Y (v_eq rfl rfl) fun a Y => wlm Y rfl fun a Y => ?_
  rcases Bool.eq_false_or_eq_true (decide ((ls.length : Int) = 0)) with hb7 | hb7
  ·rw [hb7] at Y
   try simp only [qz] at hb7
   refine wly Y (ai rfl) fun a Y => aR Y U de rfl de rfl call80 rfl (kl [] _ (U.g 0 rfl) sm) ?_
   clear Y U
   intro a w4 Y U
   refine wly Y (eu rfl rfl) fun a Y => wlv Y (aB rfl rfl) fun a Y => wla Y rfl fun a Y => ab (hK10 _ _ ?_)
   replace Y := Y.p6 0 1 2 3 4 10 rfl
   refine au ?_
   refine ar Y results73 (ae rfl ah) ?_
   exact ⟨by simp only [retv]; rw [lc hall om om om]; rw [decide_eq_true (show ls.length = 0 by omega), Bool.true_and], U.ext.const hk0 (U.g 0 rfl)⟩
  rw [hb7] at Y
  try simp only [qz] at hb7
  refine wln Y fun a Y => wln Y fun a Y => wln Y fun a Y => wlv Y (aw rfl rfl) fun a Y => wla Y rfl fun a Y => ab (hK10 _ _ ?_)
  replace Y := Y.p6 0 1 2 3 4 10 rfl
  refine au ?_
  refine ar Y results73 (ae rfl ah) ?_
  exact ⟨by simp only [retv]; rw [lc hall om om om]; rw [decide_eq_false (show ¬ ls.length = 0 by omega), Bool.false_and], U.ext.const hk0 (U.g 0 rfl)⟩
 rw [hc6] at Y
 try simp only [qz] at hc6
 refine aa fun K11 hK11 => wlm Y rfl fun a Y => wlm Y rfl fun a Y => wlv Y (v_eq rfl rfl) fun a Y => wla Y rfl fun a Y => ab (hK11 _ _ ?_)
 replace Y := Y.p7 0 1 2 3 4 10 55 rfl
 refine az Y rfl (fun hc8 => ?_) (fun hc8 => ?_)
 ·rw [hc8] at Y
  try simp only [qz] at hc8
  obtain rfl : m = n := by omega
  refine aa fun K12 hK12 => wlm Y rfl fun a Y => wlv Y ((aK (sT := 45) (hlv.grow (U.ext.const hk0 (U.g 0 rfl))) rfl rfl (runUnderlying45 _)).asi (m' := (ls.length : Int)) sm) fun a Y => wlv Y (v_eq rfl rfl) fun a Y => wlm Y rfl fun a Y => ?_
  rcases Bool.eq_false_or_eq_true (decide ((ls.length : Int) = 0)) with hb9 | hb9
  ·rw [hb9] at Y
   try simp only [qz] at hb9
   refine wly Y (ai rfl) fun a Y => wly Y (ai rfl) fun a Y => wly Y (eu rfl rfl) fun a Y => wlv Y (aB rfl rfl) fun a Y => wla Y rfl fun a Y => ab (hK12 _ _ ?_)
   replace Y := Y.p6 0 1 2 3 4 10 rfl
   refine au ?_
   refine ar Y results73 (ae rfl ah) ?_
   exact ⟨by simp only [retv]; rw [ll hall om om om]; rw [decide_eq_true (show ls.length = 0 by omega), Bool.true_and], U.ext.const hk0 (U.g 0 rfl)⟩
  rw [hb9] at Y
  try simp only [qz] at hb9
  refine wln Y fun a Y => wln Y fun a Y => wln Y fun a Y => wlv Y (aw rfl rfl) fun a Y => wla Y rfl fun a Y => ab (hK12 _ _ ?_)
  replace Y := Y.p6 0 1 2 3 4 10 rfl
  refine au ?_
  refine ar Y results73 (ae rfl ah) ?_
  exact ⟨by simp only [retv]; rw [ll hall om om om]; rw [decide_eq_false (show ¬ ls.length = 0 by omega), Bool.false_and], U.ext.const hk0 (U.g 0 rfl)⟩
 rw [hc8] at Y
 try simp only [qz] at hc8
 refine aq <| hK2 _ _ <| aa fun K13 hK13 => wla Y rfl fun a Y => ab (hK13 _ _ <| aa fun K14 hK14 => ?_)
 refine wla Y rfl fun a Y => ab (hK14 _ _ <| ac fun K15 hK15 => ?_)
 refine ap ?_
 obtain ⟨mm, rfl⟩ := Int.eq_ofNat_of_zero_le (show 0 ≤ m by omega)
 obtain ⟨nn, rfl⟩ := Int.eq_ofNat_of_zero_le (show 0 ≤ n by omega)
 have hl32 := all32 hall
 have hold : old.length = 32 := by omega
 have hroot : root.length = 32 := by omega
 replace U : St (· = 0) w0 [own (.slice none 0 0) 129 2 (([] : List (By × Bool)).map fun x : By × Bool => [sv x.1, .bool x.2]), blk 0 (kOf.map wv) 161] w3 := U.nil_own
 refine aV (fun m a w => ∃ (cm : Nat) (cn : Nat) (pz : Value) (cp : List By) (wh : Bool) (way : List (By × Bool)) (u : Value), m = cp.length ∧ (SlAt w0 pz 1 (cp.map fun s => [sv s])) ∧ (1 ≤ cm) ∧ (cm ≤ cn) ∧ (cn ≤ 9223372036854775807) ∧ (way.length + cp.length ≤ 1000) ∧ (∀ x ∈ cp, x.length = 32) ∧ (∀ x ∈ way, x.1.length = 32) ∧ (bothH sha old mm nn ls true = (way.foldr fstH (bothH sha old cm cn cp wh).1, way.foldr joinH (bothH sha old cm cn cp wh).2.1, (bothH sha old cm cn cp wh).2.2)) ∧ Fr 137 [(0, sv old), (2, sv root), (1, iv (cm : Int)), (3, iv (cn : Int)), (4, pz), (11, u), (12, .bool wh)] [] a ∧ St (· = 0) w0 [own u 129 2 (way.map fun x : By × Bool => [sv x.1, .bool x.2]), blk 0 (kOf.map wv) 161] w) _ ⟨mm, nn, lv, ls, true, [], .slice none 0 0, rfl, hlv, om, om, om, (by simp; omega), hl32, sm, rfl, Y.pick [0, 2, 1, 3, 4, 11, 12], U.select [0, 1] de⟩ ?_
 rintro _ a w5 ⟨cm, cn, pz, cp, wh, way, u, rfl, hpv, hc0, hc1, hc2, hc3, hcp, hway, hval, Y, U⟩
 refine ac fun K16 hK16 => aa fun K17 hK17 => wlm Y rfl fun a Y => wlm Y rfl fun a Y => wlv Y (v_lt rfl rfl) fun a Y => ab (hK17 _ _ ?_)
 refine az Y rfl (fun hc10 => ?_) (fun hc10 => ?_)
 ·rw [hc10] at Y
  try simp only [qz] at hc10
  refine aq <| hK16 _ _ <| ap <| aa fun K18 hK18 => wlm Y rfl fun a Y => ?_
  rcases Bool.eq_false_or_eq_true (decide (cp.length = 0)) with hb11 | hb11
  ·try simp only [qz] at hb11
   refine am Y U de call85 rfl (jM pz cp _ (hpv.grow (U.ext.const hk0 (U.g 1 rfl))) om) ?_
   clear Y U
   intro a w6 Y U
   refine wlm Y rfl fun a Y => wlv Y (ag rfl rfl) fun a Y => wlv Y (ag rfl rfl) fun a Y => wlv Y (ag rfl rfl) fun a Y => wla Y rfl fun a Y => wla Y rfl fun a Y => wla Y rfl fun a Y => ab (hK18 _ _ ?_)
   replace Y := Y.p10 0 2 1 3 4 11 12 13 14 15 rfl
   refine ac fun K19 hK19 => aa fun K20 hK20 => wlm Y rfl fun a Y => wlv Y ((bn rfl).asb (b' := true) rfl) fun a Y => ab (hK20 _ _ <| aD Y rfl ?_)
   refine aa fun K21 hK21 => wla Y rfl fun a Y => ab (hK21 _ _ <| au ?_)
   refine ar Y results73 (ae rfl ah) ?_
   exact ⟨by simp only [retv]; rw [nY hall hold hroot om om hval om om], U.ext.const hk0 (U.g 1 rfl)⟩
  try simp only [qz] at hb11
  have hlt := cA (n := cn) om
  have hlp := cd cn
  have hx32 : (cp.getD (cp.length - 1) []).length = 32 := hcp _ (bF om)
  refine am Y U de call85 rfl (kQ pz cp _ (hpv.grow (U.ext.const hk0 (U.g 1 rfl))) om) ?_
  clear Y U
  intro a w7 Y U
  refine wlm Y rfl fun a Y => wlv Y (ag rfl rfl) fun a Y => wlv Y (ag rfl rfl) fun a Y => wlv Y (ag rfl rfl) fun a Y => wla Y rfl fun a Y => wla Y rfl fun a Y => wla Y rfl fun a Y => ab (hK18 _ _ ?_)
  replace Y := Y.p10 0 2 1 3 4 11 12 13 14 15 rfl
  refine ac fun K22 hK22 => aa fun K23 hK23 => wlm Y rfl fun a Y => wlv Y ((bn rfl).asb (b' := false) rfl) fun a Y => ab (hK23 _ _ <| aE Y rfl ?_)
  refine aq <| hK22 _ _ <| aa fun K24 hK24 => wlm Y rfl fun a Y => wla Y rfl fun a Y => ab (hK24 _ _ <| aa fun K25 hK25 => ?_)
  refine wlm Y rfl fun a Y => am Y U de call82 rfl (fJ cn _ om om) ?_
  clear Y U
  intro a w8 Y U
  refine wla Y rfl fun a Y => ab (hK25 _ _ ?_)
  replace Y := Y.p9 0 2 1 3 11 12 13 4 16 rfl
  refine aa fun K26 hK26 => wlm Y rfl fun a Y => wlm Y rfl fun a Y => wlm Y rfl fun a Y => wlm Y rfl fun a Y => wlv Y (v_gt rfl rfl) fun a Y => wlv Y (aZ (v := .agg #[sv (cp.getD (cp.length - 1) []), .bool (decide ((lft cn : Int) < (cm : Int)))]) rfl kr) fun a Y => aG (E := 129) (sz := 2) rfl [[sv (cp.getD (cp.length - 1) []), .bool (decide ((lft cn : Int) < (cm : Int)))]] kr sm rfl de de Y U ?_
  clear Y U
  intro a w9 Y U
  refine bf (i := 1) (sT := 125) (inf := Tryd.t129) (z := .agg #[.string (⟨#[]⟩), .bool false]) (b := 0) (off := 0) (m := 0) (c := 0) rfl rfl rfl (U.ow 0 rfl) sm underlying125 rfl rfl rfl rfl de (by simp [Value.oneCell', yv, wv, sv]) (by have hby : Tryd.t129.bytes = 24 := rfl; simp only [big, hby, List.length_append, List.length_map, List.length_cons, List.length_nil]; omega) (by have hby : Tryd.t129.bytes = 24 := rfl; simp only [big, hby, List.length_append, List.length_map, List.length_cons, List.length_nil]; omega) de Y U fun a w10 s12 Y U _ => wla Y rfl fun a Y => ab (hK26 _ _ ?_)
  replace Y := Y.p8 0 2 1 3 12 4 16 11 rfl
  replace U := U.k2 6 rfl
  refine aa fun K27 hK27 => wlm Y rfl fun a Y => wlm Y rfl fun a Y => wlv Y (v_gt rfl rfl) fun a Y => ab (hK27 _ _ ?_)
  refine az Y rfl (fun hc13 => ?_) (fun hc13 => ?_)
  ·rw [hc13] at Y
   try simp only [qz] at hc13
   refine ao <| wlm Y rfl fun a Y => wlm Y rfl fun a Y => wlv Y ((bq rfl rfl ⟨om, om⟩).asi (m' := ((cm - lft cn : Nat) : Int)) om) fun a Y => wlm Y rfl fun a Y => wlm Y rfl fun a Y => wlv Y ((bq rfl rfl ⟨om, om⟩).asi (m' := ((cn - lft cn : Nat) : Int)) om) fun a Y => wla Y rfl fun a Y => wla Y rfl fun a Y => wla Y rfl fun a Y => ab ?_
   rw [show (way.map fun x : By × Bool => [sv x.1, .bool x.2]) ++ ([[sv (cp.getD (cp.length - 1) []), .bool (decide ((lft cn : Int) < (cm : Int)))]]) = ((way ++ [(cp.getD (cp.length - 1) [], true)]).map fun x : By × Bool => [sv x.1, .bool x.2]) from by rw [decide_eq_true om]; simp] at U
   have hm1 : (cp.take (cp.length - 1)).length < cp.length := by rw [List.length_take]; omega
   refine ⟨_, ?_, (cm - lft cn), (cn - lft cn), (cut pz 1 0 (cp.length - 1) (slCap pz)), (cp.take (cp.length - 1)), false, (way ++ [(cp.getD (cp.length - 1) [], true)]), s12, rfl, hpv.cut0 (h := cp.length - 1) om, om, om, om, (by rw [List.length_append, List.length_take, List.length_singleton]; omega), (fun x h => hcp x (List.mem_of_mem_take h)), (by intro x h; rcases List.mem_append.1 h with h | h; exact hway x h; rw [List.mem_singleton.1 h]; exact hx32), (by rw [hval, kM om om om]; simp), Y.pick [0, 2, 1, 3, 4, 11, 12], U.select [0, 1] de⟩
   omega
  rw [hc13] at Y
  try simp only [qz] at hc13
  refine ao <| wlm Y rfl fun a Y => wla Y rfl fun a Y => ab ?_
  rw [show (way.map fun x : By × Bool => [sv x.1, .bool x.2]) ++ ([[sv (cp.getD (cp.length - 1) []), .bool (decide ((lft cn : Int) < (cm : Int)))]]) = ((way ++ [(cp.getD (cp.length - 1) [], false)]).map fun x : By × Bool => [sv x.1, .bool x.2]) from by rw [decide_eq_false om]; simp] at U
  have hm1 : (cp.take (cp.length - 1)).length < cp.length := by rw [List.length_take]; omega
  refine ⟨_, ?_, cm, (lft cn), (cut pz 1 0 (cp.length - 1) (slCap pz)), (cp.take (cp.length - 1)), wh, (way ++ [(cp.getD (cp.length - 1) [], false)]), s12, rfl, hpv.cut0 (h := cp.length - 1) om, om, om, om, (by rw [List.length_append, List.length_take, List.length_singleton]; omega), (fun x h => hcp x (List.mem_of_mem_take h)), (by intro x h; rcases List.mem_append.1 h with h | h; exact hway x h; rw [List.mem_singleton.1 h]; exact hx32), (by rw [hval, lQ om om om]; simp), Y.pick [0, 2, 1, 3, 4, 11, 12], U.select [0, 1] de⟩
  omega
 rw [hc10] at Y
 try simp only [qz] at hc10
 refine aL <| hK15 _ _ <| aa fun K28 hK28 => wlm Y rfl fun a Y => wlm Y rfl fun a Y => aC Y U de (zeroValue9 _) (cs := [.string (⟨#[]⟩)]) rfl ?_
 clear Y U
 intro a w11 Y U
 refine aC Y U de (zeroValue9 _) (cs := [.string (⟨#[]⟩)]) rfl ?_
 clear Y U
 intro a w12 Y U
 refine ay 1 Y U rfl rfl rfl (sizeOf9 _) rfl (lb rfl) (ds := [sv old]) rfl rfl ?_
 clear Y U
 intro a w13 Y U
 refine ay 0 Y U rfl rfl rfl (sizeOf9 _) rfl (lb rfl) (ds := [sv old]) rfl rfl ?_
 clear Y U
 intro a w14 Y U
 refine ab (hK28 _ _ ?_)
 replace Y := Y.p7 0 2 4 11 12 17 18 rfl
 refine ac fun K29 hK29 => aa fun K30 hK30 => wlm Y rfl fun a Y => wlv Y (bn rfl) fun a Y => ab (hK30 _ _ ?_)
 refine az Y rfl (fun hc14 => ?_) (fun hc14 => ?_)
 ·rw [hc14] at Y
  try simp only [qz] at hc14
  have hwh := hc14
  refine ac fun K31 hK31 => aa fun K32 hK32 => wlm Y rfl fun a Y => wlv Y ((aK (sT := 45) (hpv.grow (U.ext.const hk0 (U.g 3 rfl))) rfl rfl (runUnderlying45 _)).asi (m' := (cp.length : Int)) sm) fun a Y => wlv Y (v_ne rfl rfl) fun a Y => ab (hK32 _ _ ?_)
  refine az Y rfl (fun hc15 => ?_) (fun hc15 => ?_)
  ·rw [hc15] at Y
   try simp only [qz] at hc15
   refine aa fun K33 hK33 => wla Y rfl fun a Y => ab (hK33 _ _ ?_)
   replace Y := Y.p7 0 2 4 11 17 18 10 rfl
   refine au ?_
   refine ar Y results73 (ae rfl ah) ?_
   exact ⟨by simp only [retv]; rw [o7 hall hold hroot om om hval hwh om om], U.ext.const hk0 (U.g 3 rfl)⟩
  rw [hc15] at Y
  try simp only [qz] at hc15
  refine aq <| hK31 _ _ <| aO kr (aP kr fun w15 hxz => ?_)
  replace U : St (· = 0) w0 [blk w11.hz [sv old] 9, blk w5.hz [sv old] 9, own u 129 2 (way.map fun x : By × Bool => [sv x.1, .bool x.2]), blk 0 (kOf.map wv) 161] w15 := U.grow hxz
  refine aS (k := 0) 7 [5, 6] Y kr kr kr rfx ?_
  replace Y := Y.p12 0 2 4 11 12 17 18 101 102 103 104 105 rfl
  replace U : St (· = 0) w0 [blk w5.hz [sv old] 9, blk w11.hz [sv old] 9, own u 129 2 (way.map fun x : By × Bool => [sv x.1, .bool x.2]), blk 0 (kOf.map wv) 161] w15 := U.select [1, 0, 2, 3] de
  refine ez [6] (fun q => if q = 6 then blk w5.hz [sv old] 9 else join []) (fun q => if q = 6 then blk w5.hz [sv (cp.getD 0 [])] 9 else join []) 7 [[], [0], [1], [], [3], [4], [2]] (fun i => match i with | 0 => pv (pz) | 1 => pv (slAddr pz (0 * 1)) | 2 => pv (sv (cp.getD 0 [])) | 3 => pv (pz) | 4 => pv (slAddr pz (0 * 1)) | 5 => pv (sv (cp.getD 0 [])) | 6 => fun v E => v = undef ∧ E = [] | _ => fun _ _ => False) (by intro q; by_cases h6 : q = 6; (subst h6; rfl); simp only [h6, if_false]) Y (H := [blk w11.hz [sv old] 9, own u 129 2 (way.map fun x : By × Bool => [sv x.1, .bool x.2]), blk 0 (kOf.map wv) 161]) U kr kr kr kr de de ?_ ?_ ?_ ?_ ?_ ?_
  ·intro i v E h
   match i, h with
   | 0, _ => exact by decide
   | 1, _ => exact by decide
   | 2, _ => exact by decide
   | 3, _ => exact by decide
   | 4, _ => exact by decide
   | 5, _ => exact by decide
   | 6, _ => exact by decide
   | i + 7, h => exact h.elim
  ·intro q v E hq h
   simp only [List.mem_cons, List.not_mem_nil, or_false] at hq
   rcases hq with rfl <;> exact h
  ·intro q hq
   simp only [List.mem_cons, List.not_mem_nil, or_false] at hq
   rcases hq with rfl <;> exact ⟨rfl, rfl⟩
  ·intro i hi hiq e
   match i, hi, hiq with
   | 0, _, _ => exact fun w U => OpV.g (ai rfl)
   | 1, _, _ =>
    rintro _ _ ⟨rfl, rfl⟩
    intro w U
    exact OpV.g ((ak (i := 0) (sT := 45) (hpv.grow (U.ext.const hk0 (U.g 3 rfl))) rfl rfl (runUnderlying45 _) (sizeOf9 _) om (by rw [List.length_map]; omega)).as (v' := slAddr pz (0 * 1)) rfl)
   | 2, _, _ =>
    rintro _ _ ⟨rfl, rfl⟩
    intro w U
    exact OpV.g (ax (u := sv (cp.getD 0 [])) (i := 0) (j := 0) (hpv.grow (U.ext.const hk0 (U.g 3 rfl))) (by rw [List.length_map]; omega) rfl (isAgg9 _) (by simp [List.getD_eq_getElem?_getD, List.getElem?_eq_getElem (show 0 < cp.length by omega)]))
   | 3, _, _ => exact fun w U => OpV.g (ai rfl)
   | 4, _, _ =>
    rintro _ _ ⟨rfl, rfl⟩
    intro w U
    exact OpV.g ((ak (i := 0) (sT := 45) (hpv.grow (U.ext.const hk0 (U.g 3 rfl))) rfl rfl (runUnderlying45 _) (sizeOf9 _) om (by rw [List.length_map]; omega)).as (v' := slAddr pz (0 * 1)) rfl)
   | 5, _, _ =>
    rintro _ _ ⟨rfl, rfl⟩
    intro w U
    exact OpV.g (ax (u := sv (cp.getD 0 [])) (i := 0) (j := 0) (hpv.grow (U.ext.const hk0 (U.g 3 rfl))) (by rw [List.length_map]; omega) rfl (isAgg9 _) (by simp [List.getD_eq_getElem?_getD, List.getElem?_eq_getElem (show 0 < cp.length by omega)]))
   | 6, _, h => exact absurd de h
  ·intro q hq
   simp only [List.mem_cons, List.not_mem_nil, or_false] at hq
   rcases hq with rfl
   ·rintro _ _ ⟨rfl, rfl⟩
    intro w h
    exact mX (cs := [sv old]) (ds := [sv (cp.getD 0 [])]) rfl rfl h (sizeOf9 _) rfl (lb rfl) rfl
  clear Y U
  rintro _ _ ⟨rfl, rfl⟩ _ _ ⟨rfl, rfl⟩ _ _ ⟨rfl, rfl⟩ _ _ ⟨rfl, rfl⟩ _ _ ⟨rfl, rfl⟩ _ _ ⟨rfl, rfl⟩ a w16 Y U
  replace Y := Y.p18 106 107 108 109 110 111 0 2 4 11 12 17 18 101 102 103 104 105 rfl
  replace U : St (· = 0) w0 [_, _, _, _] w16 := U
  refine ab <| aQ (k := 7) 9 [8] kr kr kr ?_
  refine ay 1 Y U rfl rfl rfl (sizeOf9 _) rfl (lb rfl) (ds := [sv (cp.getD 0 [])]) rfl rfl ?_
  clear Y U
  intro a w17 Y U
  refine wla Y rfl fun a Y => ab <| bd kr ?_
  refine hK29 _ _ ?_
  replace Y := Y.p6 0 2 11 17 18 4 rfl
  refine ac fun K34 hK34 => aa fun K35 hK35 => wlm Y rfl fun a Y => aX Y U de call86 rfl (fT u _ _ (U.ow 2 rfl)) ?_
  clear Y U
  intro a w18 x16 hp Y U
  revert x16 hp Y U; rintro z1 hp Y U
  clear hp
  replace U : St (· = 0) w0 [_, _, _, _, _] w18 := U
  refine ab (hK35 _ _ <| ap ?_)
  have hy32 : ∀ k, k < way.length → (way.getD k ([], false)).1.length = 32 := fun k hk => hway _ (bF hk)
  have hr0 : (cp.getD 0 []).length = 32 := hcp _ (bF om)
  replace U : St (· = 0) w0 [_, _, _, _, _] w18 := U
  replace U : St (· = 0) w0 [blk 0 (kOf.map wv) 161, blk w5.hz [sv (([] : List Nat).foldl (fun o k => fstH (way.getD k ([], false)) o) (cp.getD 0 []))] 9, blk w11.hz [sv (([] : List Nat).foldl (fun o k => joinH (way.getD k ([], false)) o) (cp.getD 0 []))] 9, blk z1 [u] 125, own u 129 2 (way.map fun x : By × Bool => [sv x.1, .bool x.2])] w18 := U.select [4, 1, 2, 0, 3] de
  replace Y : Fr 137 [(0, sv old), (2, sv root), (11, u), (17, pq w5.hz), (18, pq w11.hz), (4, .slice none 0 0), (112, u), (113, .func (.func 101) #[] #[pq z1])] [] a := Y.pick [0, 2, 11, 17, 18, 4, 112, 113]
  refine cT (M := (· = 0)) (w0 := w0) (encs := (encD way)) (Hi := [blk z1 [u] 125, own u 129 2 (way.map fun x : By × Bool => [sv x.1, .bool x.2])]) (Hc := [blk 0 (kOf.map wv) 161, blk w5.hz [sv (([] : List Nat).foldl (fun o k => fstH (way.getD k ([], false)) o) (cp.getD 0 []))] 9, blk w11.hz [sv (([] : List Nat).foldl (fun o k => joinH (way.getD k ([], false)) o) (cp.getD 0 []))] 9]) (fun pre H => ((pre.foldl (fun o k => fstH (way.getD k ([], false)) o) (cp.getD 0 [])).length = 32 ∧ (pre.foldl (fun o k => joinH (way.getD k ([], false)) o) (cp.getD 0 [])).length = 32) ∧ H = [blk 0 (kOf.map wv) 161, blk w5.hz [sv (pre.foldl (fun o k => fstH (way.getD k ([], false)) o) (cp.getD 0 []))] 9, blk w11.hz [sv (pre.foldl (fun o k => joinH (way.getD k ([], false)) o) (cp.getD 0 []))] 9]) (fun _ _ _ => False) (fun pre xs H a => ∃ (bA0 : Nat), Fr 137 [(0, sv old), (2, sv root), (11, u), (17, pq w5.hz), (18, pq w11.hz), (4, .slice none 0 0), (112, u), (113, .func (.func 101) #[] #[pq z1]), (20, pq bA0)] [] a ∧ ((pre.foldl (fun o k => fstH (way.getD k ([], false)) o) (cp.getD 0 [])).length = 32 ∧ (pre.foldl (fun o k => joinH (way.getD k ([], false)) o) (cp.getD 0 [])).length = 32) ∧ H = [blk bA0 [sv ((way.getD xs ([], false)).1), .bool ((way.getD xs ([], false)).2)] 129, blk 0 (kOf.map wv) 161, blk w5.hz [sv (pre.foldl (fun o k => fstH (way.getD k ([], false)) o) (cp.getD 0 []))] 9, blk w11.hz [sv (pre.foldl (fun o k => joinH (way.getD k ([], false)) o) (cp.getD 0 []))] 9]) rfl call101 Y U (eI u way z1 om) de (fun _ => rfl) ⟨⟨hr0, hr0⟩, rfl⟩ ?_ ?_ ?_ ?_
  ·clear Y U
   rintro lp pre xs _ a w19 hnx ⟨hf32, rfl⟩ Y U
   generalize (join [blk 0 (kOf.map wv) 161, blk w5.hz [sv (pre.foldl (fun o k => fstH (way.getD k ([], false)) o) (cp.getD 0 []))] 9, blk w11.hz [sv (pre.foldl (fun o k => joinH (way.getD k ([], false)) o) (cp.getD 0 []))] 9]).foot = M1 at U ⊢
   replace Y : Fr 137 [(115, .agg #[sv ((way.getD xs ([], false)).1), .bool ((way.getD xs ([], false)).2)]), (114, iv (xs : Int)), (0, sv old), (2, sv root), (11, u), (17, pq w5.hz), (18, pq w11.hz), (4, .slice none 0 0), (112, u), (113, .func (.func 101) #[] #[pq z1])] [] a := Y
   refine ao <| aC Y U de (zeroValue129 _) (cs := [.string (⟨#[]⟩), .bool false]) rfl ?_
   clear Y U
   intro a w20 Y U
   refine ay 0 Y U rfl rfl rfl (sizeOf129 _) rfl (lb rfl) (ds := [sv ((way.getD xs ([], false)).1), .bool ((way.getD xs ([], false)).2)]) rfl rfl ?_
   clear Y U
   intro a w21 Y U
   refine ab ?_
   exact ⟨_, ⟨w19.hz, Y.pick [0, 2, 11, 17, 18, 4, 112, 113, 20], hf32, rfl⟩, U⟩
  ·rintro lp pre xs _ a w22 hnx ⟨bA0, Y, hf32, rfl⟩ hout hrec hnl U
   clear hrec hnl
   generalize (join [blk bA0 [sv ((way.getD xs ([], false)).1), .bool ((way.getD xs ([], false)).2)] 129, blk 0 (kOf.map wv) 161, blk w5.hz [sv (pre.foldl (fun o k => fstH (way.getD k ([], false)) o) (cp.getD 0 []))] 9, blk w11.hz [sv (pre.foldl (fun o k => joinH (way.getD k ([], false)) o) (cp.getD 0 []))] 9]).foot = M1 at U hout ⊢
   refine ap <| ac fun K36 hK36 => aa fun K37 hK37 => wlv Y (al (v := po bA0 1) rfl kr) fun a Y => wlv Y (ld U 0 rfl rfl (isAgg4 _) rfl) fun a Y => ab (hK37 _ _ ?_)
   replace Y := Y.p4 17 18 20 117 rfl
   refine az Y rfl (fun hc17 => ?_) (fun hc17 => ?_)
   ·rw [hc17] at Y
    try simp only [qz] at hc17
    refine ao <| wlv Y (aj (U.g 0 rfl) rfl (isAgg129 _) (sizeOf129 _)) fun a Y => wlv Y (ld U 2 rfl rfl (isAgg9 _) rfl) fun a Y => am Y U de call87 rfl (dk ((way.getD xs ([], false)).1) ((way.getD xs ([], false)).2) (pre.foldl (fun o k => fstH (way.getD k ([], false)) o) (cp.getD 0 [])) _ (by have := hy32 xs (by have h := hnx; unfold NxB at h; omega); omega) (by first | omega | exact Nat.le_trans (Nat.le_of_eq hf32.1) de | exact Nat.le_trans (Nat.le_of_eq hf32.2) de) (U.g 1 rfl)) ?_
    clear Y U
    intro a w23 Y U
    refine ay 2 Y U rfl rfl rfl (sizeOf9 _) rfl (lb rfl) (ds := [sv (joinH ((way.getD xs ([], false)).1, (way.getD xs ([], false)).2) (pre.foldl (fun o k => fstH (way.getD k ([], false)) o) (cp.getD 0 [])))]) rfl rfl ?_
    clear Y U
    intro a w24 Y U
    refine ab <| hK36 _ _ <| ao <| wlv Y (aj (U.g 0 rfl) rfl (isAgg129 _) (sizeOf129 _)) fun a Y => wlv Y (ld U 3 rfl rfl (isAgg9 _) rfl) fun a Y => am Y U de call87 rfl (dk ((way.getD xs ([], false)).1) ((way.getD xs ([], false)).2) (pre.foldl (fun o k => joinH (way.getD k ([], false)) o) (cp.getD 0 [])) _ (by have := hy32 xs (by have h := hnx; unfold NxB at h; omega); omega) (by first | omega | exact Nat.le_trans (Nat.le_of_eq hf32.1) de | exact Nat.le_trans (Nat.le_of_eq hf32.2) de) (U.g 1 rfl)) ?_
    clear Y U
    intro a w25 Y U
    refine ay 3 Y U rfl rfl rfl (sizeOf9 _) rfl (lb rfl) (ds := [sv (joinH ((way.getD xs ([], false)).1, (way.getD xs ([], false)).2) (pre.foldl (fun o k => joinH (way.getD k ([], false)) o) (cp.getD 0 [])))]) rfl rfl ?_
    clear Y U
    intro a w26 Y U
    refine ab ?_
    have hF : joinH ((way.getD xs ([], false)).1, (way.getD xs ([], false)).2) (pre.foldl (fun o k => fstH (way.getD k ([], false)) o) (cp.getD 0 [])) = (pre ++ [xs]).foldl (fun o k => fstH (way.getD k ([], false)) o) (cp.getD 0 []) := by rw [List.foldl_append]; exact ((if_pos (c := (way.getD xs ([], false)).2 = true) hc17)).symm
    have hJ : joinH ((way.getD xs ([], false)).1, (way.getD xs ([], false)).2) (pre.foldl (fun o k => joinH (way.getD k ([], false)) o) (cp.getD 0 [])) = (pre ++ [xs]).foldl (fun o k => joinH (way.getD k ([], false)) o) (cp.getD 0 []) := by rw [List.foldl_append]; rfl
    rw [hF, hJ] at U
    exact ⟨_, ⟨⟨by rw [List.foldl_append]; exact fM hf32.1, by rw [List.foldl_append]; exact bY _⟩, rfl⟩, U.select [1, 2, 3] de⟩
   rw [hc17] at Y
   try simp only [qz] at hc17
   refine aq <| hK36 _ _ <| ao <| wlv Y (aj (U.g 0 rfl) rfl (isAgg129 _) (sizeOf129 _)) fun a Y => wlv Y (ld U 3 rfl rfl (isAgg9 _) rfl) fun a Y => am Y U de call87 rfl (dk ((way.getD xs ([], false)).1) ((way.getD xs ([], false)).2) (pre.foldl (fun o k => joinH (way.getD k ([], false)) o) (cp.getD 0 [])) _ (by have := hy32 xs (by have h := hnx; unfold NxB at h; omega); omega) (by first | omega | exact Nat.le_trans (Nat.le_of_eq hf32.1) de | exact Nat.le_trans (Nat.le_of_eq hf32.2) de) (U.g 1 rfl)) ?_
   clear Y U
   intro a w27 Y U
   refine ay 3 Y U rfl rfl rfl (sizeOf9 _) rfl (lb rfl) (ds := [sv (joinH ((way.getD xs ([], false)).1, (way.getD xs ([], false)).2) (pre.foldl (fun o k => joinH (way.getD k ([], false)) o) (cp.getD 0 [])))]) rfl rfl ?_
   clear Y U
   intro a w28 Y U
   refine ab ?_
   have hF : pre.foldl (fun o k => fstH (way.getD k ([], false)) o) (cp.getD 0 []) = (pre ++ [xs]).foldl (fun o k => fstH (way.getD k ([], false)) o) (cp.getD 0 []) := by rw [List.foldl_append]; exact ((if_neg (c := (way.getD xs ([], false)).2 = true) (by rw [hc17]; decide))).symm
   have hJ : joinH ((way.getD xs ([], false)).1, (way.getD xs ([], false)).2) (pre.foldl (fun o k => joinH (way.getD k ([], false)) o) (cp.getD 0 [])) = (pre ++ [xs]).foldl (fun o k => joinH (way.getD k ([], false)) o) (cp.getD 0 []) := by rw [List.foldl_append]; rfl
   rw [hF, hJ] at U
   exact ⟨_, ⟨⟨by rw [List.foldl_append]; exact fM hf32.1, by rw [List.foldl_append]; exact bY _⟩, rfl⟩, U.select [1, 2, 3] de⟩
  ·rintro D pre _ _ a w29 ⟨rfl, rfl⟩ ⟨hf32, rfl⟩ U Y
   replace Y : Fr 137 [(0, sv old), (2, sv root), (11, u), (17, pq w5.hz), (18, pq w11.hz), (4, .slice none 0 0), (112, u), (113, .func (.func 101) #[] #[pq z1])] [{ target := .collected D, args := #[] }] a := Y
   replace U : St (· = 0) w0 [_, _, _, _, _, _] w29 := U
   refine hK34 _ _ <| aa fun K38 hK38 => wlm Y rfl fun a Y => wlv Y (cE (v := iv 0) rfl kr) fun a Y => wlv Y ((v_eq rfl rfl).asb (b' := true) rfl) fun a Y => wlm Y rfl fun a Y => wly Y (ld U 2 rfl rfl (isAgg9 _) rfl) fun a Y => wly Y (ai rfl) fun a Y => wly Y (eu rfl rfl) fun a Y => wlv Y (aB rfl rfl) fun a Y => wlm Y rfl fun a Y => ?_
   rcases Bool.eq_false_or_eq_true (decide ((backs way.length way.length).foldl (fun o k => fstH (way.getD k ([], false)) o) (cp.getD 0 []) = old)) with hb18 | hb18
   ·rw [hb18] at Y
    try simp only [qz] at hb18
    refine wly Y (ld U 3 rfl rfl (isAgg9 _) rfl) fun a Y => wly Y (ai rfl) fun a Y => wly Y (eu rfl rfl) fun a Y => wlv Y (aB rfl rfl) fun a Y => wla Y rfl fun a Y => ab (hK38 _ _ ?_)
    replace Y := Y.p1 10 rfl
    replace U := U.k3 35 rfl
    refine au ?_
    have hD := U.g 0 rfl
    replace U := U.unmark (i := 0) (o' := .deferred none) rfl
    replace U : St (· = 0) w0 [_, _] _ := U
    refine bR Y hD results73 (ae rfl ah) ?_
    have hkey := kZ hall hold hroot om om hval hwh om om
    rw [← ce fstH, ← ce joinH] at hkey
    exact ⟨by simp only [retv]; rw [hkey, decide_eq_true (show (backs way.length way.length).foldl (fun o k => fstH (way.getD k ([], false)) o) (cp.getD 0 []) = old by assumption)]; rfl, U.ext.const hk0 (U.g 0 rfl)⟩
   rw [hb18] at Y
   try simp only [qz] at hb18
   refine wln Y fun a Y => wln Y fun a Y => wln Y fun a Y => wlv Y (aw rfl rfl) fun a Y => wla Y rfl fun a Y => ab (hK38 _ _ ?_)
   replace Y := Y.p1 10 rfl
   replace U := U.k3 35 rfl
   refine au ?_
   have hD := U.g 0 rfl
   replace U := U.unmark (i := 0) (o' := .deferred none) rfl
   replace U : St (· = 0) w0 [_, _] _ := U
   refine bR Y hD results73 (ae rfl ah) ?_
   have hkey := kZ hall hold hroot om om hval hwh om om
   rw [← ce fstH, ← ce joinH] at hkey
   exact ⟨by simp only [retv]; rw [hkey, decide_eq_false (show ¬ (backs way.length way.length).foldl (fun o k => fstH (way.getD k ([], false)) o) (cp.getD 0 []) = old by assumption)]; rfl, U.ext.const hk0 (U.g 0 rfl)⟩
  ·rintro D c pre _ _ a w30 _ h
   exact h.elim
 rw [hc14] at Y
 try simp only [qz] at hc14
 have hwh := hc14
 refine aq <| hK29 _ _ <| ac fun K39 hK39 => aa fun K40 hK40 => wlm Y rfl fun a Y => aX Y U de call86 rfl (fT u _ _ (U.ow 2 rfl)) ?_
 clear Y U
 intro a w31 x19 hp Y U
 revert x19 hp Y U; rintro z1 hp Y U
 clear hp
 replace U : St (· = 0) w0 [_, _, _, _, _] w31 := U
 refine ab (hK40 _ _ <| ap ?_)
 have hy32 : ∀ k, k < way.length → (way.getD k ([], false)).1.length = 32 := fun k hk => hway _ (bF hk)
 have hr0 : (old).length = 32 := hold
 replace U : St (· = 0) w0 [_, _, _, _, _] w31 := U
 replace U : St (· = 0) w0 [blk 0 (kOf.map wv) 161, blk w5.hz [sv (([] : List Nat).foldl (fun o k => fstH (way.getD k ([], false)) o) old)] 9, blk w11.hz [sv (([] : List Nat).foldl (fun o k => joinH (way.getD k ([], false)) o) old)] 9, blk z1 [u] 125, own u 129 2 (way.map fun x : By × Bool => [sv x.1, .bool x.2])] w31 := U.select [4, 2, 1, 0, 3] de
 replace Y : Fr 137 [(0, sv old), (2, sv root), (4, pz), (11, u), (12, .bool wh), (17, pq w5.hz), (18, pq w11.hz), (101, .bool wh), (102, .bool false), (112, u), (113, .func (.func 101) #[] #[pq z1])] [] a := Y.pick [0, 2, 4, 11, 12, 17, 18, 101, 102, 112, 113]
 refine cT (M := (· = 0)) (w0 := w0) (encs := (encD way)) (Hi := [blk z1 [u] 125, own u 129 2 (way.map fun x : By × Bool => [sv x.1, .bool x.2])]) (Hc := [blk 0 (kOf.map wv) 161, blk w5.hz [sv (([] : List Nat).foldl (fun o k => fstH (way.getD k ([], false)) o) old)] 9, blk w11.hz [sv (([] : List Nat).foldl (fun o k => joinH (way.getD k ([], false)) o) old)] 9]) (fun pre H => ((pre.foldl (fun o k => fstH (way.getD k ([], false)) o) old).length = 32 ∧ (pre.foldl (fun o k => joinH (way.getD k ([], false)) o) old).length = 32) ∧ H = [blk 0 (kOf.map wv) 161, blk w5.hz [sv (pre.foldl (fun o k => fstH (way.getD k ([], false)) o) old)] 9, blk w11.hz [sv (pre.foldl (fun o k => joinH (way.getD k ([], false)) o) old)] 9]) (fun _ _ _ => False) (fun pre xs H a => ∃ (bA0 : Nat), Fr 137 [(0, sv old), (2, sv root), (4, pz), (11, u), (12, .bool wh), (17, pq w5.hz), (18, pq w11.hz), (101, .bool wh), (102, .bool false), (112, u), (113, .func (.func 101) #[] #[pq z1]), (20, pq bA0)] [] a ∧ ((pre.foldl (fun o k => fstH (way.getD k ([], false)) o) old).length = 32 ∧ (pre.foldl (fun o k => joinH (way.getD k ([], false)) o) old).length = 32) ∧ H = [blk bA0 [sv ((way.getD xs ([], false)).1), .bool ((way.getD xs ([], false)).2)] 129, blk 0 (kOf.map wv) 161, blk w5.hz [sv (pre.foldl (fun o k => fstH (way.getD k ([], false)) o) old)] 9, blk w11.hz [sv (pre.foldl (fun o k => joinH (way.getD k ([], false)) o) old)] 9]) rfl call101 Y U (eI u way z1 om) de (fun _ => rfl) ⟨⟨hr0, hr0⟩, rfl⟩ ?_ ?_ ?_ ?_
 ·clear Y U
  rintro lp pre xs _ a w32 hnx ⟨hf32, rfl⟩ Y U
  generalize (join [blk 0 (kOf.map wv) 161, blk w5.hz [sv (pre.foldl (fun o k => fstH (way.getD k ([], false)) o) old)] 9, blk w11.hz [sv (pre.foldl (fun o k => joinH (way.getD k ([], false)) o) old)] 9]).foot = M1 at U ⊢
  replace Y : Fr 137 [(115, .agg #[sv ((way.getD xs ([], false)).1), .bool ((way.getD xs ([], false)).2)]), (114, iv (xs : Int)), (0, sv old), (2, sv root), (4, pz), (11, u), (12, .bool wh), (17, pq w5.hz), (18, pq w11.hz), (101, .bool wh), (102, .bool false), (112, u), (113, .func (.func 101) #[] #[pq z1])] [] a := Y
  refine ao <| aC Y U de (zeroValue129 _) (cs := [.string (⟨#[]⟩), .bool false]) rfl ?_
  clear Y U
  intro a w33 Y U
  refine ay 0 Y U rfl rfl rfl (sizeOf129 _) rfl (lb rfl) (ds := [sv ((way.getD xs ([], false)).1), .bool ((way.getD xs ([], false)).2)]) rfl rfl ?_
  clear Y U
  intro a w34 Y U
  refine ab ?_
  exact ⟨_, ⟨w32.hz, Y.pick [0, 2, 4, 11, 12, 17, 18, 101, 102, 112, 113, 20], hf32, rfl⟩, U⟩
 ·rintro lp pre xs _ a w35 hnx ⟨bA0, Y, hf32, rfl⟩ hout hrec hnl U
  clear hrec hnl
  generalize (join [blk bA0 [sv ((way.getD xs ([], false)).1), .bool ((way.getD xs ([], false)).2)] 129, blk 0 (kOf.map wv) 161, blk w5.hz [sv (pre.foldl (fun o k => fstH (way.getD k ([], false)) o) old)] 9, blk w11.hz [sv (pre.foldl (fun o k => joinH (way.getD k ([], false)) o) old)] 9]).foot = M1 at U hout ⊢
  refine ap <| ac fun K41 hK41 => aa fun K42 hK42 => wlv Y (al (v := po bA0 1) rfl kr) fun a Y => wlv Y (ld U 0 rfl rfl (isAgg4 _) rfl) fun a Y => ab (hK42 _ _ ?_)
  replace Y := Y.p4 17 18 20 117 rfl
  refine az Y rfl (fun hc20 => ?_) (fun hc20 => ?_)
  ·rw [hc20] at Y
   try simp only [qz] at hc20
   refine ao <| wlv Y (aj (U.g 0 rfl) rfl (isAgg129 _) (sizeOf129 _)) fun a Y => wlv Y (ld U 2 rfl rfl (isAgg9 _) rfl) fun a Y => am Y U de call87 rfl (dk ((way.getD xs ([], false)).1) ((way.getD xs ([], false)).2) (pre.foldl (fun o k => fstH (way.getD k ([], false)) o) old) _ (by have := hy32 xs (by have h := hnx; unfold NxB at h; omega); omega) (by first | omega | exact Nat.le_trans (Nat.le_of_eq hf32.1) de | exact Nat.le_trans (Nat.le_of_eq hf32.2) de) (U.g 1 rfl)) ?_
   clear Y U
   intro a w36 Y U
   refine ay 2 Y U rfl rfl rfl (sizeOf9 _) rfl (lb rfl) (ds := [sv (joinH ((way.getD xs ([], false)).1, (way.getD xs ([], false)).2) (pre.foldl (fun o k => fstH (way.getD k ([], false)) o) old))]) rfl rfl ?_
   clear Y U
   intro a w37 Y U
   refine ab <| hK41 _ _ <| ao <| wlv Y (aj (U.g 0 rfl) rfl (isAgg129 _) (sizeOf129 _)) fun a Y => wlv Y (ld U 3 rfl rfl (isAgg9 _) rfl) fun a Y => am Y U de call87 rfl (dk ((way.getD xs ([], false)).1) ((way.getD xs ([], false)).2) (pre.foldl (fun o k => joinH (way.getD k ([], false)) o) old) _ (by have := hy32 xs (by have h := hnx; unfold NxB at h; omega); omega) (by first | omega | exact Nat.le_trans (Nat.le_of_eq hf32.1) de | exact Nat.le_trans (Nat.le_of_eq hf32.2) de) (U.g 1 rfl)) ?_
   clear Y U
   intro a w38 Y U
   refine ay 3 Y U rfl rfl rfl (sizeOf9 _) rfl (lb rfl) (ds := [sv (joinH ((way.getD xs ([], false)).1, (way.getD xs ([], false)).2) (pre.foldl (fun o k => joinH (way.getD k ([], false)) o) old))]) rfl rfl ?_
   clear Y U
   intro a w39 Y U
   refine ab ?_
   have hF : joinH ((way.getD xs ([], false)).1, (way.getD xs ([], false)).2) (pre.foldl (fun o k => fstH (way.getD k ([], false)) o) old) = (pre ++ [xs]).foldl (fun o k => fstH (way.getD k ([], false)) o) old := by rw [List.foldl_append]; exact ((if_pos (c := (way.getD xs ([], false)).2 = true) hc20)).symm
   have hJ : joinH ((way.getD xs ([], false)).1, (way.getD xs ([], false)).2) (pre.foldl (fun o k => joinH (way.getD k ([], false)) o) old) = (pre ++ [xs]).foldl (fun o k => joinH (way.getD k ([], false)) o) old := by rw [List.foldl_append]; rfl
   rw [hF, hJ] at U
   exact ⟨_, ⟨⟨by rw [List.foldl_append]; exact fM hf32.1, by rw [List.foldl_append]; exact bY _⟩, rfl⟩, U.select [1, 2, 3] de⟩
  rw [hc20] at Y
  try simp only [qz] at hc20
  refine aq <| hK41 _ _ <| ao <| wlv Y (aj (U.g 0 rfl) rfl (isAgg129 _) (sizeOf129 _)) fun a Y => wlv Y (ld U 3 rfl rfl (isAgg9 _) rfl) fun a Y => am Y U de call87 rfl (dk ((way.getD xs ([], false)).1) ((way.getD xs ([], false)).2) (pre.foldl (fun o k => joinH (way.getD k ([], false)) o) old) _ (by have := hy32 xs (by have h := hnx; unfold NxB at h; omega); omega) (by first | omega | exact Nat.le_trans (Nat.le_of_eq hf32.1) de | exact Nat.le_trans (Nat.le_of_eq hf32.2) de) (U.g 1 rfl)) ?_
  clear Y U
  intro a w40 Y U
  refine ay 3 Y U rfl rfl rfl (sizeOf9 _) rfl (lb rfl) (ds := [sv (joinH ((way.getD xs ([], false)).1, (way.getD xs ([], false)).2) (pre.foldl (fun o k => joinH (way.getD k ([], false)) o) old))]) rfl rfl ?_
  clear Y U
  intro a w41 Y U
  refine ab ?_
  have hF : pre.foldl (fun o k => fstH (way.getD k ([], false)) o) old = (pre ++ [xs]).foldl (fun o k => fstH (way.getD k ([], false)) o) old := by rw [List.foldl_append]; exact ((if_neg (c := (way.getD xs ([], false)).2 = true) (by rw [hc20]; decide))).symm
  have hJ : joinH ((way.getD xs ([], false)).1, (way.getD xs ([], false)).2) (pre.foldl (fun o k => joinH (way.getD k ([], false)) o) old) = (pre ++ [xs]).foldl (fun o k => joinH (way.getD k ([], false)) o) old := by rw [List.foldl_append]; rfl
  rw [hF, hJ] at U
  exact ⟨_, ⟨⟨by rw [List.foldl_append]; exact fM hf32.1, by rw [List.foldl_append]; exact bY _⟩, rfl⟩, U.select [1, 2, 3] de⟩
 ·rintro D pre _ _ a w42 ⟨rfl, rfl⟩ ⟨hf32, rfl⟩ U Y
  replace Y : Fr 137 [(0, sv old), (2, sv root), (4, pz), (11, u), (12, .bool wh), (17, pq w5.hz), (18, pq w11.hz), (101, .bool wh), (102, .bool false), (112, u), (113, .func (.func 101) #[] #[pq z1])] [{ target := .collected D, args := #[] }] a := Y
  replace U : St (· = 0) w0 [_, _, _, _, _, _] w42 := U
  refine hK39 _ _ <| aa fun K43 hK43 => wlm Y rfl fun a Y => wlv Y ((aK (sT := 45) (hpv.grow (U.ext.const hk0 (U.g 1 rfl))) rfl rfl (runUnderlying45 _)).asi (m' := (cp.length : Int)) sm) fun a Y => wlv Y (v_eq rfl rfl) fun a Y => wlm Y rfl fun a Y => ?_
  rcases Bool.eq_false_or_eq_true (decide ((cp.length : Int) = 0)) with hb21 | hb21
  ·rw [hb21] at Y
   try simp only [qz] at hb21
   refine wly Y (ld U 2 rfl rfl (isAgg9 _) rfl) fun a Y => wly Y (ai rfl) fun a Y => wly Y (eu rfl rfl) fun a Y => wlv Y (aB rfl rfl) fun a Y => wlm Y rfl fun a Y => ?_
   rcases Bool.eq_false_or_eq_true (decide ((backs way.length way.length).foldl (fun o k => fstH (way.getD k ([], false)) o) old = old)) with hb22 | hb22
   ·rw [hb22] at Y
    try simp only [qz] at hb22
    refine wly Y (ld U 3 rfl rfl (isAgg9 _) rfl) fun a Y => wly Y (ai rfl) fun a Y => wly Y (eu rfl rfl) fun a Y => wlv Y (aB rfl rfl) fun a Y => wla Y rfl fun a Y => ab (hK43 _ _ ?_)
    replace Y := Y.p1 10 rfl
    replace U := U.k3 35 rfl
    refine au ?_
    have hD := U.g 0 rfl
    replace U := U.unmark (i := 0) (o' := .deferred none) rfl
    replace U : St (· = 0) w0 [_, _] _ := U
    refine bR Y hD results73 (ae rfl ah) ?_
    have hkey := gl hall hold hroot om om hval hwh om
    rw [← ce fstH, ← ce joinH] at hkey
    exact ⟨by simp only [retv]; rw [hkey, decide_eq_true (show cp.length = 0 by omega), decide_eq_true (show (backs way.length way.length).foldl (fun o k => fstH (way.getD k ([], false)) o) old = old by assumption)]; rfl, U.ext.const hk0 (U.g 0 rfl)⟩
   rw [hb22] at Y
   try simp only [qz] at hb22
   refine wln Y fun a Y => wln Y fun a Y => wln Y fun a Y => wlv Y (aw rfl rfl) fun a Y => wla Y rfl fun a Y => ab (hK43 _ _ ?_)
   replace Y := Y.p1 10 rfl
   replace U := U.k3 35 rfl
   refine au ?_
   have hD := U.g 0 rfl
   replace U := U.unmark (i := 0) (o' := .deferred none) rfl
   replace U : St (· = 0) w0 [_, _] _ := U
   refine bR Y hD results73 (ae rfl ah) ?_
   have hkey := gl hall hold hroot om om hval hwh om
   rw [← ce fstH, ← ce joinH] at hkey
   exact ⟨by simp only [retv]; rw [hkey]; first | rw [decide_eq_false (show ¬ cp.length = 0 by omega)]; rfl | rw [decide_eq_false (show ¬ (backs way.length way.length).foldl (fun o k => fstH (way.getD k ([], false)) o) old = old by assumption), Bool.and_false]; rfl, U.ext.const hk0 (U.g 0 rfl)⟩
  rw [hb21] at Y
  try simp only [qz] at hb21
  refine wln Y fun a Y => wln Y fun a Y => wln Y fun a Y => wlv Y (aw rfl rfl) fun a Y => wlm Y rfl fun a Y => wln Y fun a Y => wln Y fun a Y => wln Y fun a Y => wlv Y (aw rfl rfl) fun a Y => wla Y rfl fun a Y => ab (hK43 _ _ ?_)
  replace Y := Y.p1 10 rfl
  replace U := U.k3 35 rfl
  refine au ?_
  have hD := U.g 0 rfl
  replace U := U.unmark (i := 0) (o' := .deferred none) rfl
  replace U : St (· = 0) w0 [_, _] _ := U
  refine bR Y hD results73 (ae rfl ah) ?_
  have hkey := gl hall hold hroot om om hval hwh om
  rw [← ce fstH, ← ce joinH] at hkey
  exact ⟨by simp only [retv]; rw [hkey]; first | rw [decide_eq_false (show ¬ cp.length = 0 by omega)]; rfl | rw [decide_eq_false (show ¬ (backs way.length way.length).foldl (fun o k => fstH (way.getD k ([], false)) o) old = old by assumption), Bool.and_false]; rfl, U.ext.const hk0 (U.g 0 rfl)⟩
 ·rintro D c pre _ _ a w43 _ h
  exact h.elim
end Go.Proofs.YtddfkkdanpmnaaaDoor
namespace Go.Proofs.YtddfkkdanpmnaaaDoor
open Go.RowKit Go.PW _root_.Go.Proofs.Tryd
theorem jc (w0 : World) :
  Ret Tryd.prog 103 #[] w0 (MemR w0 (fun v : Value => v) (fun v => [own v 133 1 ((kOf).map fun x => [wv x])]) (fun _ => True)) := by
 refine aI func103 rfl ntmps103 (lb rfl) fun a Y => ?_
 replace Y : Fr 2 [] [] a := Y
 replace U : St No w0 [] w0 := St.init w0
 refine aa fun K1 hK1 => wla Y rfl fun a Y => ab (hK1 _ _ <| aa fun K2 hK2 => ?_)
 refine aG (E := 133) (sz := 1) rfl [[wv (1116352408#32)], [wv (1899447441#32)], [wv (3049323471#32)], [wv (3921009573#32)], [wv (961987163#32)], [wv (1508970993#32)], [wv (2453635748#32)], [wv (2870763221#32)], [wv (3624381080#32)], [wv (310598401#32)], [wv (607225278#32)], [wv (1426881987#32)], [wv (1925078388#32)], [wv (2162078206#32)], [wv (2614888103#32)], [wv (3248222580#32)], [wv (3835390401#32)], [wv (4022224774#32)], [wv (264347078#32)], [wv (604807628#32)], [wv (770255983#32)], [wv (1249150122#32)], [wv (1555081692#32)], [wv (1996064986#32)], [wv (2554220882#32)], [wv (2821834349#32)], [wv (2952996808#32)], [wv (3210313671#32)], [wv (3336571891#32)], [wv (3584528711#32)], [wv (113926993#32)], [wv (338241895#32)], [wv (666307205#32)], [wv (773529912#32)], [wv (1294757372#32)], [wv (1396182291#32)], [wv (1695183700#32)], [wv (1986661051#32)], [wv (2177026350#32)], [wv (2456956037#32)], [wv (2730485921#32)], [wv (2820302411#32)], [wv (3259730800#32)], [wv (3345764771#32)], [wv (3516065817#32)], [wv (3600352804#32)], [wv (4094571909#32)], [wv (275423344#32)], [wv (430227734#32)], [wv (506948616#32)], [wv (659060556#32)], [wv (883997877#32)], [wv (958139571#32)], [wv (1322822218#32)], [wv (1537002063#32)], [wv (1747873779#32)], [wv (1955562222#32)], [wv (2024104815#32)], [wv (2227730452#32)], [wv (2361852424#32)], [wv (2428436474#32)], [wv (2756734187#32)], [wv (3204031479#32)], [wv (3329325298#32)]] kr sm rfl de de Y U ?_
 clear Y U
 intro a w1 Y U
 refine wla Y rfl fun a Y => ab (hK2 _ _ <| au ?_)
 refine ar Y results103 (ae rfl ah) ?_
 exact ⟨(.slice (some ⟨w0.hz, 0, none⟩) 64 64), rfl, trivial, U.ext, St.out (E := [own (.slice (some ⟨w0.hz, 0, none⟩) 64 64) 133 1 ((kOf).map fun x => [wv x])]) (H := []) U⟩
theorem em {α : Type} {l : List α} {i k : Nat} (d : α) (h : i < k) : (l.take k).getD i d = l.getD i d := by
 rw [List.getD_eq_getElem?_getD, List.getElem?_take_of_lt h, ← List.getD_eq_getElem?_getD]
theorem jW (s : By) (w0 : World) (hs : s.length ≤ 100000000) :
  Ret Tryd.prog 88 #[sv s] w0 (MemR w0 (fun v : Value => v) (fun v => [own v 5 1 ((padded s).map fun b => [yv b])]) (fun _ => True)) := by
 refine aI func88 rfl ntmps88 (lb rfl) fun a Y => ?_
 replace Y := Y.p1 0 rfl
 replace U : St No w0 [] w0 := St.init w0
 refine aa fun K1 hK1 => wla Y rfl fun a Y => ab (hK1 _ _ <| aa fun K2 hK2 => ?_)
 refine wla Y rfl fun a Y => ab (hK2 _ _ <| ac fun K3 hK3 => ?_)
 refine aa fun K4 hK4 => wla Y rfl fun a Y => ab (hK4 _ _ <| ap ?_)
 replace U : St No w0 [own (.slice none 0 0) 5 1 ((s.take 0).map fun b => [yv b])] w0 := U.nil_own
 refine aV (fun m a w => ∃ (k : Nat) (v : Value), m = s.length - k ∧ (k ≤ s.length) ∧ Fr 43 [(0, sv s), (2, .slice none 0 0), (3, v), (4, iv (k : Int))] [] a ∧ St No w0 [own v 5 1 ((s.take k).map fun b => [yv b])] w) _ ⟨0, .slice none 0 0, rfl, Nat.zero_le _, Y.pick [0, 2, 3, 4], U.select [0] de⟩ ?_
 rintro _ a w1 ⟨k, v, rfl, hk, Y, U⟩
 refine ac fun K5 hK5 => aa fun K6 hK6 => wlm Y rfl fun a Y => wlm Y rfl fun a Y => wlv Y (aW rfl rfl (runUnderlying9 _)) fun a Y => wlv Y (v_lt rfl rfl) fun a Y => ab (hK6 _ _ ?_)
 refine az Y rfl (fun hc1 => ?_) (fun hc1 => ?_)
 ·rw [hc1] at Y
  try simp only [qz] at hc1
  refine aq <| hK5 _ _ <| ac fun K7 hK7 => ap <| ao <| wlm Y rfl fun a Y => wlm Y rfl fun a Y => wlm Y rfl fun a Y => wlv Y (ec (k := k) rfl rfl (runUnderlying9 _) om om) fun a Y => aG (E := 5) (sz := 1) rfl [[yv (s.getD k 0)]] kr sm rfl de de Y U ?_
  clear Y U
  intro a w2 Y U
  refine bf (i := 1) (sT := 71) (inf := Tryd.t5) (z := yv (0 : UInt8)) (b := 0) (off := 0) (m := 0) (c := 0) rfl rfl rfl (U.ow 0 rfl) sm underlying71 rfl rfl rfl rfl de (by simp [Value.oneCell', yv, wv, sv]) (by have hby : Tryd.t5.bytes = 1 := rfl; have hz6 : zeros s.length < 64 := (by unfold zeros; omega); simp [big, hby, sum1, sum2, bx] <;> omega) (by have hby : Tryd.t5.bytes = 1 := rfl; have hz6 : zeros s.length < 64 := (by unfold zeros; omega); simp [big, hby, sum1, sum2, bx] <;> omega) de Y U fun a w3 s2 Y U _ => wla Y rfl fun a Y => ab <| hK7 _ _ ?_
  replace Y := Y.p4 0 2 4 3 rfl
  replace U := U.k1 2 rfl
  refine ao <| wlm Y rfl fun a Y => wlv Y (aM rfl rfl ⟨om, om⟩) fun a Y => wla Y rfl fun a Y => ab ?_
  rw [show ((s.take k).map fun b => [yv b]) ++ ([[yv (s.getD k 0)]]) = ((s.take (k + 1)).map fun b => [yv b]) from by rw [cc 0 om]; simp] at U
  refine ⟨_, ?_, k + 1, s2, rfl, om, Y.pick [0, 2, 3, 4], U.select [0] de⟩
  omega
 rw [hc1] at Y
 try simp only [qz] at hc1
 obtain rfl : k = s.length := by omega
 rw [List.take_length] at U
 refine aL <| hK3 _ _ <| aa fun K8 hK8 => wlm Y rfl fun a Y => aG (E := 5) (sz := 1) rfl [[yv (128 : UInt8)]] kr sm rfl de de Y U ?_
 clear Y U
 intro a w4 Y U
 refine bf (i := 1) (sT := 71) (inf := Tryd.t5) (z := yv (0 : UInt8)) (b := 0) (off := 0) (m := 0) (c := 0) rfl rfl rfl (U.ow 0 rfl) sm underlying71 rfl rfl rfl rfl de (by simp [Value.oneCell', yv, wv, sv]) (by have hby : Tryd.t5.bytes = 1 := rfl; have hz6 : zeros s.length < 64 := (by unfold zeros; omega); simp [big, hby, sum1, sum2, bx] <;> omega) (by have hby : Tryd.t5.bytes = 1 := rfl; have hz6 : zeros s.length < 64 := (by unfold zeros; omega); simp [big, hby, sum1, sum2, bx] <;> omega) de Y U fun a w5 s3 Y U _ => wla Y rfl fun a Y => ab (hK8 _ _ ?_)
 replace Y := Y.p3 0 2 3 rfl
 replace U := U.k1 2 rfl
 refine ac fun K9 hK9 => ap ?_
 rw [show ((s).map fun b => [yv b]) ++ ([[yv (128 : UInt8)]]) = ((sum1 s 0).map fun b => [yv b]) from by simp [sum1]] at U
 refine aV (fun m a w => ∃ (z : Nat) (v : Value), m = 64 - z ∧ (z ≤ zeros s.length) ∧ Fr 43 [(0, sv s), (2, .slice none 0 0), (3, v)] [] a ∧ St No w0 [own v 5 1 ((sum1 s z).map fun b => [yv b])] w) _ ⟨0, s3, rfl, Nat.zero_le _, Y.pick [0, 2, 3], U.select [0] de⟩ ?_
 rintro _ a w6 ⟨z, v, rfl, hz, Y, U⟩
 refine ac fun K10 hK10 => aa fun K11 hK11 => wlm Y rfl fun a Y => wlv Y ((aK (sT := 71) (U.ow 0 rfl) rfl rfl (runUnderlying71 _)).asi (m' := ((s.length + 1 + z : Nat) : Int)) (by rw [List.length_map, jT])) fun a Y => wlv Y (ij rfl rfl om om) fun a Y => wlv Y (v_ne rfl rfl) fun a Y => ab (hK11 _ _ ?_)
 refine az Y rfl (fun hc4 => ?_) (fun hc4 => ?_)
 ·rw [hc4] at Y
  try simp only [qz] at hc4
  have hz2 : z + 1 ≤ zeros s.length := by unfold zeros at hz ⊢; omega
  have hz3 : zeros s.length < 64 := by unfold zeros; omega
  refine aq <| hK10 _ _ <| ap <| ao <| wlm Y rfl fun a Y => aG (E := 5) (sz := 1) rfl [[yv (0 : UInt8)]] kr sm rfl de de Y U ?_
  clear Y U
  intro a w7 Y U
  refine bf (i := 1) (sT := 71) (inf := Tryd.t5) (z := yv (0 : UInt8)) (b := 0) (off := 0) (m := 0) (c := 0) rfl rfl rfl (U.ow 0 rfl) sm underlying71 rfl rfl rfl rfl de (by simp [Value.oneCell', yv, wv, sv]) (by have hby : Tryd.t5.bytes = 1 := rfl; have hz6 : zeros s.length < 64 := (by unfold zeros; omega); simp [big, hby, sum1, sum2, bx] <;> omega) (by have hby : Tryd.t5.bytes = 1 := rfl; have hz6 : zeros s.length < 64 := (by unfold zeros; omega); simp [big, hby, sum1, sum2, bx] <;> omega) de Y U fun a w8 s5 Y U _ => wla Y rfl fun a Y => ab ?_
  rw [show ((sum1 s z).map fun b => [yv b]) ++ ([[yv (0 : UInt8)]]) = ((sum1 s (z + 1)).map fun b => [yv b]) from by simp [sum1, List.replicate_succ']] at U
  refine ⟨_, ?_, z + 1, s5, rfl, hz2, Y.pick [0, 2, 3], U.select [1] de⟩
  omega
 rw [hc4] at Y
 try simp only [qz] at hc4
 obtain rfl : z = zeros s.length := by unfold zeros at hz ⊢; omega
 refine aL <| hK9 _ _ <| ac fun K12 hK12 => aa fun K13 hK13 => wla Y rfl fun a Y => ab (hK13 _ _ <| ap ?_)
 rw [show ((sum1 s (zeros s.length)).map fun b => [yv b]) = ((sum2 s 0).map fun b => [yv b]) from by simp [sum1, sum2]] at U
 rw [show (7 : Int) = 7 - ((0 : Nat) : Int) from by omega] at Y
 refine aV (fun m a w => ∃ (r : Nat) (v : Value), m = 8 - r ∧ (r ≤ 8) ∧ Fr 43 [(0, sv s), (2, .slice none 0 0), (3, v), (5, iv (7 - (r : Int)))] [] a ∧ St No w0 [own v 5 1 ((sum2 s r).map fun b => [yv b])] w) _ ⟨0, v, rfl, Nat.zero_le _, Y.pick [0, 2, 3, 5], U.select [0] de⟩ ?_
 rintro _ a w9 ⟨r, v, rfl, hr, Y, U⟩
 refine ac fun K14 hK14 => aa fun K15 hK15 => wlm Y rfl fun a Y => wlv Y (v_ge rfl rfl) fun a Y => ab (hK15 _ _ ?_)
 refine az Y rfl (fun hc6 => ?_) (fun hc6 => ?_)
 ·rw [hc6] at Y
  try simp only [qz] at hc6
  refine aq <| hK14 _ _ <| ac fun K16 hK16 => ap <| ao <| wlm Y rfl fun a Y => wlm Y rfl fun a Y => wlv Y (aW rfl rfl (runUnderlying9 _)) fun a Y => wlv Y ((cW rfl rfl ⟨om, om⟩).asi (m' := ((8 * s.length : Nat) : Int)) om) fun a Y => wlm Y rfl fun a Y => wlv Y ((cW rfl rfl ⟨om, om⟩).asi (m' := ((8 * (7 - r) : Nat) : Int)) om) fun a Y => wlv Y (nd (m := (8 * s.length)) (n := (8 * (7 - r))) rfl rfl om) fun a Y => ?_
  refine wlv Y (hC (n := 8 * s.length / 2 ^ (8 * (7 - r))) rfl kr underlying5) fun a Y => aG (E := 5) (sz := 1) rfl [[yv (UInt8.ofNat (8 * s.length / 2 ^ (8 * (7 - r))))]] kr sm rfl de de Y U ?_
  clear Y U
  intro a w10 Y U
  refine bf (i := 1) (sT := 71) (inf := Tryd.t5) (z := yv (0 : UInt8)) (b := 0) (off := 0) (m := 0) (c := 0) rfl rfl rfl (U.ow 0 rfl) sm underlying71 rfl rfl rfl rfl de (by simp [Value.oneCell', yv, wv, sv]) (by have hby : Tryd.t5.bytes = 1 := rfl; have hz6 : zeros s.length < 64 := (by unfold zeros; omega); simp [big, hby, sum1, sum2, bx] <;> omega) (by have hby : Tryd.t5.bytes = 1 := rfl; have hz6 : zeros s.length < 64 := (by unfold zeros; omega); simp [big, hby, sum1, sum2, bx] <;> omega) de Y U fun a w11 s7 Y U _ => wla Y rfl fun a Y => ab <| hK16 _ _ ?_
  replace Y := Y.p4 0 2 5 3 rfl
  replace U := U.k1 2 rfl
  refine ao <| wlm Y rfl fun a Y => wlv Y (bq rfl rfl ⟨om, om⟩) fun a Y => wla Y rfl fun a Y => ab ?_
  rw [show ((sum2 s r).map fun b => [yv b]) ++ ([[yv (UInt8.ofNat (8 * s.length / 2 ^ (8 * (7 - r))))]]) = ((sum2 s (r + 1)).map fun b => [yv b]) from by unfold sum2; rw [ew om]; simp] at U
  rw [show 7 - (r : Int) - 1 = 7 - ((r + 1 : Nat) : Int) from by omega] at Y
  refine ⟨_, ?_, r + 1, s7, rfl, om, Y.pick [0, 2, 3, 5], U.select [0] de⟩
  omega
 rw [hc6] at Y
 try simp only [qz] at hc6
 obtain rfl : r = 8 := by omega
 rw [show sum2 s 8 = padded s from rfl] at U
 refine aL <| hK12 _ _ <| aa fun K17 hK17 => wlm Y rfl fun a Y => wla Y rfl fun a Y => ab (hK17 _ _ ?_)
 replace Y := Y.p1 2 rfl
 refine au ?_
 refine ar Y results88 (ae rfl ah) ?_
 exact ⟨v, rfl, trivial, U.ext, St.out (E := [own v 5 1 ((padded s).map fun b => [yv b])]) (H := []) U⟩
end Go.Proofs.YtddfkkdanpmnaaaDoor
