/- Texts joined: DigB, DigC, DigD, DigE, DigF, DigG, DigH, DigI, DigJ, DigK, DigL, DigM, DigN, Rev, DigO, DigP2, DigV. -/
import Derived.Test.YtddfkkdanpmnaaaGreatDoorPGB
import Derived.Test.YtddfkkdanpmnaaaGreatDoorPGA
set_option linter.unusedVariables false
set_option linter.unusedSimpArgs false
set_option maxRecDepth 4000
set_option maxHeartbeats 4000000
namespace Go.Proofs.YtddfkkdanpmnaaaGreatDoor
open Go.RowKit Go.PW _root_.Go.Proofs.Tryz
def encC (v : Value) (k : Nat) : List Value := [cut v 1 (64 * k) (64 * k + 64) (64 * k + 64)]
def NxC (q : Nat) (pre : List Nat) (x : Nat) : Prop := x = pre.length ∧ x < q
theorem my {M : Nat → Prop} {w0 : World} (vB : Value) (n q lp b2 b3 : Nat) (J Jx : List Nat → Ent → Prop) (hY : Rounds Tryz.prog M w0 lp (encC vB) (NxC q) J Jx) (e0 : Ent) (ws : World) (hsh : Shp vB n) (hn : n = 64 * q) (hnb : n ≤ 1000000000) (hJ : J [] e0) (Y : St M w0 [e0, blk b2 [vB] 68, blk b3 [iv 64] 3] ws) :
  Ret Tryz.prog 114 #[.func (.yield lp) #[] #[], pt b2, pt b3] ws fun _ w => ∃ e1 Hi1, St M w0 (e1 :: Hi1) w ∧ ((∃ xs, (xs = List.range q ∧ Hi1 = [blk b2 [vB] 68, blk b3 [iv 64] 3]) ∧ J xs e1) ∨ (∃ pre, Hi1 = [blk b2 [vB] 68, blk b3 [iv 64] 3] ∧ Jx pre e1)) := by
 refine aD func114 rfl ntmps114 (lb rfl) fun a Z => ?_
 replace Z := Z.p3 0 1 2 rfl
 skip
 refine aa fun K1 hK1 => wla Z rfl fun a Z => ab (hK1 _ _ <| aq ?_)
 refine aR (fun m a w => ∃ (k : Nat) (e : Ent), m = q - k ∧ (k ≤ q) ∧ (J (List.range k) e) ∧ Fr 31 [(0, .func (.yield lp) #[] #[]), (1, pt b2), (2, pt b3), (4, iv ((64 * k : Nat) : Int))] [] a ∧ St M w0 [e, blk b2 [vB] 68, blk b3 [iv 64] 3] w) _ ⟨0, e0, rfl, Nat.zero_le _, hJ, Z.pick [0, 1, 2, 4], Y⟩ ?_
 rintro _ a w1 ⟨k, e, rfl, hk, hJ, Z, Y⟩
 refine ae fun K2 hK2 => aa fun K3 hK3 => wlm Z rfl fun a Z => wlv Z (ld Y 1 rfl rfl (isAgg68 _) rfl) fun a Z => wlv Z (lF hsh rfl rfl (runUnderlying68 _)) fun a Z => wlv Z (v_lt rfl rfl) fun a Z => ab (hK3 _ _ ?_)
 refine ax Z rfl (fun hc1 => ?_) (fun hc1 => ?_)
 ·rw [hc1] at Z
  try simp only [qz] at hc1
  have hkq : k < q := by omega
  refine ar <| hK2 _ _ <| ae fun K4 hK4 => aq <| ae fun K5 hK5 => aF kr (aG kr fun w2 hxz => ?_)
  replace Y := Y.grow hxz
  refine aT (k := 0) 5 [0, 4] Z kr kr kr rfx ?_
  replace Z := Z.p8 0 1 2 4 6 7 8 9 rfl
  refine aA [] (fun i => match i with | _ => fun _ _ => False) 5 [[], [], [], [1, 2], [3]] [iv 64, vB, iv ((64 * k : Nat) : Int), (cut vB 1 (64 * k) n (slCap vB)), iv ((n - 64 * k : Nat) : Int)] Z Y kr kr kr ?_ ?_ ?_
  ·intro i hi hiq
   match i, hi, hiq with
   | 0, _, _ => exact fun w Y => OpV.g (ld Y 2 rfl rfl (isAgg3 _) rfl)
   | 1, _, _ => exact fun w Y => OpV.g (ld Y 1 rfl rfl (isAgg68 _) rfl)
   | 2, _, _ => exact fun w Y => OpV.g (ah rfl)
   | 3, _, _ => exact fun w Y => OpV.g (eo (sz := 1) (n := n) (l := 64 * k) (h := n) (m := slCap vB) hsh rfl rfl rfl rfl underlying68 kr (.inr rfl) (.inl ⟨rfl, rfl, rfl⟩) (.inl ⟨rfl, rfl⟩) om hsh.cap (Nat.le_refl _))
   | 4, _, _ => exact fun w Y => OpV.g (lF (hsh.cut hsh.cap) rfl rfl (runUnderlying68 _))
  ·intro i hi
   exact absurd hi sm
  clear Z Y
  intro  a w3 Z Y
  replace Z : Fr 31 [(13, iv 64), (14, vB), (15, iv ((64 * k : Nat) : Int)), (16, (cut vB 1 (64 * k) n (slCap vB))), (17, iv ((n - 64 * k : Nat) : Int)), (0, _), (1, _), (2, _), (4, _), (6, _), (7, _), (8, _), (9, _)] [] a := Z
  refine ab <| aP (k := 5) 7 [6] kr kr kr ?_
  refine wlv Z (nh rfl rfl) fun a Z => wla Z rfl fun a Z => ab <| aS kr ?_
  refine hK5 _ _ ?_
  replace Z := Z.p5 0 1 2 4 5 rfl
  rw [show min (64 : Int) ((n - 64 * k : Nat) : Int) = 64 from by omega] at Z
  refine aa fun K6 hK6 => wlm Z rfl fun a Z => wlv Z (ld Y 1 rfl rfl (isAgg68 _) rfl) fun a Z => wlm Z rfl fun a Z => wlm Z rfl fun a Z => wlm Z rfl fun a Z => wlv Z (aV rfl rfl ⟨om, om⟩) fun a Z => wlm Z rfl fun a Z => wlm Z rfl fun a Z => wlv Z (aV rfl rfl ⟨om, om⟩) fun a Z => wlv Z (eo (sz := 1) (n := n) (l := 64 * k) (h := 64 * k + 64) (m := 64 * k + 64) hsh rfl rfl rfl rfl underlying68 kr (.inr rfl) (.inr rfl) (.inr rfl) om om (by have := hsh.cap; omega)) fun a Z => wl_r (fh rfl rfl (hY.yield (pre := List.range k) (x := k) ⟨by simp, hkq⟩ hJ (Y.only (i := 0) rfl))) rfl rfl Z ?_
  clear Z
  intro a v w4 hR Z
  obtain ⟨y2, e3, rfl, hx, hok, hft, hJt, hJf⟩ := hR
  replace Y := Y.exchange (k := 0) rfl hx hok hft
  replace Y : St M w0 [_, _, _] w4 := Y
  clear hx hok hft
  refine wlv Z (bq rfl) fun a Z => ab (hK6 _ _ ?_)
  replace Z := Z.p5 0 1 2 4 30 rfl
  refine ax Z rfl (fun hc4 => ?_) (fun hc4 => ?_)
  ·rw [hc4] at Z
   try simp only [qz] at hc4
   have hJ := hJf hc4
   refine ap ?_
   refine al Z results114 ag ?_
   exact ⟨_, _, Y, .inr ⟨_, rfl, hJ⟩⟩
  rw [hc4] at Z
  try simp only [qz] at hc4
  have hJ := hJt hc4
  rw [← List.range_succ] at hJ
  refine ar <| hK4 _ _ <| ao <| wlm Z rfl fun a Z => wlv Z (ld Y 2 rfl rfl (isAgg3 _) rfl) fun a Z => wlv Z (aV rfl rfl ⟨om, om⟩) fun a Z => wla Z rfl fun a Z => ab ?_
  rw [show ((64 * k : Nat) : Int) + 64 = ((64 * (k + 1) : Nat) : Int) from by omega] at Z
  refine ⟨_, ?_, k + 1, e3, rfl, om, hJ, Z.pick [0, 1, 2, 4], Y⟩
  omega
 rw [hc1] at Z
 try simp only [qz] at hc1
 obtain rfl : k = q := by omega
 refine aJ ?_
 refine dt Z results114 ag ?_
 exact ⟨_, _, Y, .inl ⟨_, ⟨rfl, rfl⟩, hJ⟩⟩
theorem kX {M : Nat → Prop} {w0 : World} (vB : Value) (n q b2 b3 : Nat) (hsh : Shp vB n) (hn : n = 64 * q) (hnb : n ≤ 1000000000) :
  Iter Tryz.prog 114 [pt b2, pt b3] (encC vB) (NxC q) (fun xs Hi => xs = List.range q ∧ Hi = [blk b2 [vB] 68, blk b3 [iv 64] 3]) (fun pre Hi => Hi = [blk b2 [vB] 68, blk b3 [iv 64] 3]) M w0 [blk b2 [vB] 68, blk b3 [iv 64] 3] :=
 fun lp J Jx w e hY hJ Y => my vB n q lp b2 b3 J Jx hY e w hsh hn hnb hJ Y
theorem m6 (vB : Value) (els : List (List Value)) (w0 : World) (hv : SlAt w0 vB 1 els) :
  Ret Tryz.prog 100 #[vB, iv 64] w0 (MemR w0 (fun z : Nat × Nat => .func (.func 114) #[] #[pt z.1, pt z.2]) (fun z => [blk z.2 [iv 64] 3, blk z.1 [vB] 68]) (fun _ => True)) := by
 refine aD func100 rfl ntmps100 (lb rfl) fun a Z => ?_
 replace Z := Z.p2 0 1 rfl
 replace Y : St No w0 [] w0 := St.init w0
 refine aa fun K1 hK1 => bj Z Y de rfl (cs := [vB]) (by rw [(Y.arg hv).cells]) ?_
 clear Z Y
 intro a w1 Z Y
 refine bj Z Y de rfl (cs := [iv 64]) rfl ?_
 clear Z Y
 intro a w2 Z Y
 refine wla Z rfl fun a Z => ab (hK1 _ _ <| ae fun K2 hK2 => ?_)
 refine aa fun K3 hK3 => wlv Z (ld Y 0 rfl rfl (isAgg3 _) rfl) fun a Z => wlv Z ((v_lt rfl rfl).asb (b' := false) rfl) fun a Z => ab (hK3 _ _ <| aL Z rfl ?_)
 refine ar <| hK2 _ _ <| aa fun K4 hK4 => wlv Z (cy rfl rfl) fun a Z => wla Z rfl fun a Z => ab (hK4 _ _ ?_)
 replace Z := Z.p1 4 rfl
 refine ap ?_
 refine al Z results100 (ac rfl ag) ?_
 exact ⟨(w0.hz, w1.hz), rfl, trivial, Y.ext, St.out (H := []) Y⟩
theorem bo {P : Program} {w : World} {L : List (Nat × Value)} {dst : Option Tmp} {ty sT : TypeId} {pos : String} {af : Array Edge} {gd : Option (Nat × Bool)} {x : Operand} {ats : Array TypeId} {xs : List UInt8} (hx : ev L x = some (sv xs)) (hat : ats[0]? = some sT) (hu : (underlying sT).run P w = .ok .string w) :
  OpV P ⟨dst, .call { callee := .builtin .len, args := #[x], argTypes := ats }, ty, pos, af, gd⟩ L w (iv (xs.length : Int)) := by
 refine cN (xs := [x]) (vs := [sv xs]) (by simp [evs, hx]) ?_
 have hsz : (ByteArray.mk xs.toArray).size = xs.length := by simp [ByteArray.size]
 unfold sv
 simp [builtin, Builtin.len_, hat, hu, goInt, hsz]
theorem ey {n r : Nat} (h : r < 8) : (bx n).take (r + 1) = (bx n).take r ++ [UInt8.ofNat (8 * n / 2 ^ (8 * (7 - r)))] := by
 rw [List.take_succ_eq_append_getElem (by simp [bx]; omega)]
 simp only [bx, List.getElem_map, List.getElem_range]
theorem nz {w : World} {v : Value} {bs : List UInt8} {k : Nat} (h : SlAt w v 1 (bs.map fun b => [yv b])) (hk : 64 * k + 64 ≤ bs.length) : SlAt w (cut v 1 (64 * k) (64 * k + 64) (64 * k + 64)) 1 (((bs.drop (64 * k)).take 64).map fun b => [yv b]) := by
 have hc := h.shp.cap
 rw [List.length_map] at hc
 have := h.cut (l := 64 * k) (h := 64 * k + 64) (m := 64 * k + 64) om (by simpa using hk) (Nat.le_refl _) om
 rw [show 64 * k + 64 - 64 * k = 64 from by omega] at this
 rw [List.map_take, List.map_drop]; exact this
theorem pl {w : World} {v : Value} {E : TypeId} {sz : Nat} {els : List (List Value)} {l h m j : Nat} (ho : (own v E sz els).ok w) (hj : slBlk (cut v sz l h m) = some j) : (own v E sz els).foot j := by
 obtain ⟨_, _, h3⟩ := ho
 rcases h3.2 with ⟨rfl, _⟩ | ⟨g, cap, cur, fz, rfl, _⟩
 ·exfalso; revert hj; unfold cut; simp only; split <;> simp [slBlk]
 ·have : g = j := by
   revert hj; unfold cut; simp only
   split <;> simp [slBlk, Addr.add] <;> split <;> simp
  subst this; rfl
theorem nI {M : Nat → Prop} {w0 w : World} {H : List Ent} {i j : Nat} {e e' : Ent} (Y : St M w0 H w) (hij : i < j) (hi : H[i]? = some e) (hj : H[j]? = some e') : Ent.disj e e' := by
 have := Y.dis
 rw [List.pairwise_iff_getElem] at this
 obtain ⟨h1, rfl⟩ := List.getElem?_eq_some_iff.1 hi
 obtain ⟨h2, rfl⟩ := List.getElem?_eq_some_iff.1 hj
 exact this i j h1 h2 hij
theorem qk {M : Nat → Prop} {w0 w : World} {b k : Nat} {hv : W8} {v : Value} {bs : List UInt8} (Y : St M w0 [blk 0 (kOf.map wv) 161, blk b (hv.l.map wv) 142, own v 5 1 (bs.map fun b => [yv b])] w) (hk : 64 * k + 64 ≤ bs.length) :
  Ret Tryz.prog 101 #[pt b, cut v 1 (64 * k) (64 * k + 64) (64 * k + 64)] w fun v w' => v = .tuple #[] ∧ Ext (· = b) w w' ∧ (blk b ((block hv ((bs.drop (64 * k)).take 64)).l.map wv) 142).ok w' :=
 pW b hv _ ((bs.drop (64 * k)).take 64) w (Y.g 1 rfl) (Y.g 0 rfl) (fun h => nI Y (i := 0) (j := 1) de rfl rfl 0 rfl h)
  (nz (Y.ow 2 rfl) hk) (by simp; omega) (fun j hj h => nI Y (i := 1) (j := 2) de rfl rfl j h (pl (Y.g 2 rfl) hj))
def sum1 (s : List UInt8) (z : Nat) : List UInt8 := s ++ [128] ++ List.replicate z 0
def sum2 (s : List UInt8) (r : Nat) : List UInt8 := s ++ [128] ++ List.replicate (zeros s.length) 0 ++ (bx s.length).take r
theorem jp (s : List UInt8) (z : Nat) : (sum1 s z).length = s.length + 1 + z := by simp [sum1]; omega
theorem fb (s : List UInt8) : (padded s).length ≤ s.length + 72 := by
 simp only [padded, bx, zeros, List.length_append, List.length_replicate, List.length_map, List.length_range, List.length_cons, List.length_nil]
 omega
theorem kG (s : List UInt8) (w0 : World) (hk0 : (blk 0 (kOf.map wv) 161).ok w0) (hs : s.length ≤ 100000000) :
  Ret Tryz.prog 77 #[sv s] w0 fun v w => v = sv (sha s) ∧ Ext No w0 w := by
 refine aD func77 rfl ntmps77 (lb rfl) fun a Z => ?_
 replace Z := Z.p1 0 rfl
 replace Y : St (· = 0) w0 [blk 0 (kOf.map wv) 161] w0 := St.one hk0
 refine aa fun K1 hK1 => wla Z rfl fun a Z => ab (hK1 _ _ <| aa fun K2 hK2 => ?_)
 refine wlv Z (bA (v := .agg #[wv (1779033703#32), wv (3144134277#32), wv (1013904242#32), wv (2773480762#32), wv (1359893119#32), wv (2600822924#32), wv (528734635#32), wv (1541459225#32)]) rfl kr) fun a Z => aU Z Y de (zeroValue142 _) (cs := [wv (0#32), wv (0#32), wv (0#32), wv (0#32), wv (0#32), wv (0#32), wv (0#32), wv (0#32)]) rfl ?_
 clear Z Y
 intro a w1 Z Y
 refine aH 0 Z Y rfl rfl rfl (sizeOf142 _) rfl (lb rfl) (ds := [wv (1779033703#32), wv (3144134277#32), wv (1013904242#32), wv (2773480762#32), wv (1359893119#32), wv (2600822924#32), wv (528734635#32), wv (1541459225#32)]) rfl rfl ?_
 clear Z Y
 intro a w2 Z Y
 refine ab (hK2 _ _ <| aa fun K3 hK3 => ?_)
 refine wlm Z rfl fun a Z => gW rfl underlying9 underlying68 underlying5 (by simp only [big]; omega) de Z Y ?_
 clear Z Y
 intro a w3 s1 Z Y
 refine aC (E := 5) (sz := 1) rfl [[yv (128 : UInt8)]] kr sm rfl de de Z Y ?_
 clear Z Y
 intro a w4 Z Y
 refine aN (i := 1) (sT := 68) (inf := Tryz.t5) (z := yv (0 : UInt8)) (b := 0) (off := 0) (m := 0) (c := 0) rfl rfl rfl (Y.ow 0 rfl) sm underlying68 rfl rfl rfl rfl de (by simp [Value.oneCell', yv, wv, sv]) (by have hby : Tryz.t5.bytes = 1 := rfl; have hz6 : zeros s.length < 64 := (by unfold zeros; omega); simp [big, hby, sum1, sum2, bx] <;> omega) (by have hby : Tryz.t5.bytes = 1 := rfl; have hz6 : zeros s.length < 64 := (by unfold zeros; omega); simp [big, hby, sum1, sum2, bx] <;> omega) de Z Y fun a w5 s2 Z Y _ => wla Z rfl fun a Z => ab (hK3 _ _ <| ae fun K4 hK4 => ?_)
 refine aq ?_
 rw [show (s.map fun b => [yv b]) ++ ([[yv (128 : UInt8)]]) = ((sum1 s 0).map fun b => [yv b]) from by simp [sum1]] at Y
 refine aR (fun m a w => ∃ (z : Nat) (v : Value), m = 64 - z ∧ (z ≤ zeros s.length) ∧ Fr 40 [(0, sv s), (2, .string (⟨#[]⟩)), (3, pt w0.hz), (4, v)] [] a ∧ St (· = 0) w0 [own v 5 1 ((sum1 s z).map fun b => [yv b]), blk w0.hz [wv (1779033703#32), wv (3144134277#32), wv (1013904242#32), wv (2773480762#32), wv (1359893119#32), wv (2600822924#32), wv (528734635#32), wv (1541459225#32)] 142, blk 0 (kOf.map wv) 161] w) _ ⟨0, s2, rfl, Nat.zero_le _, Z.pick [0, 2, 3, 4], Y.select [1, 2, 3] de⟩ ?_
 rintro _ a w6 ⟨z, v, rfl, hz, Z, Y⟩
 refine ae fun K5 hK5 => aa fun K6 hK6 => wlm Z rfl fun a Z => wlv Z ((aE (sT := 68) (Y.ow 0 rfl) rfl rfl (runUnderlying68 _)).asi (m' := ((s.length + 1 + z : Nat) : Int)) (by rw [List.length_map, jp])) fun a Z => wlv Z (ik rfl rfl om om) fun a Z => wlv Z (v_ne rfl rfl) fun a Z => ab (hK6 _ _ ?_)
 refine ax Z rfl (fun hc3 => ?_) (fun hc3 => ?_)
 ·rw [hc3] at Z
  try simp only [qz] at hc3
  have hz2 : z + 1 ≤ zeros s.length := by unfold zeros at hz ⊢; omega
  have hz3 : zeros s.length < 64 := by unfold zeros; omega
  refine ar <| hK5 _ _ <| aq <| ao <| wlm Z rfl fun a Z => aC (E := 5) (sz := 1) rfl [[yv (0 : UInt8)]] kr sm rfl de de Z Y ?_
  clear Z Y
  intro a w7 Z Y
  refine aN (i := 1) (sT := 68) (inf := Tryz.t5) (z := yv (0 : UInt8)) (b := 0) (off := 0) (m := 0) (c := 0) rfl rfl rfl (Y.ow 0 rfl) sm underlying68 rfl rfl rfl rfl de (by simp [Value.oneCell', yv, wv, sv]) (by have hby : Tryz.t5.bytes = 1 := rfl; have hz6 : zeros s.length < 64 := (by unfold zeros; omega); simp [big, hby, sum1, sum2, bx] <;> omega) (by have hby : Tryz.t5.bytes = 1 := rfl; have hz6 : zeros s.length < 64 := (by unfold zeros; omega); simp [big, hby, sum1, sum2, bx] <;> omega) de Z Y fun a w8 s4 Z Y _ => wla Z rfl fun a Z => ab ?_
  rw [show ((sum1 s z).map fun b => [yv b]) ++ ([[yv (0 : UInt8)]]) = ((sum1 s (z + 1)).map fun b => [yv b]) from by simp [sum1, List.replicate_succ']] at Y
  refine ⟨_, ?_, z + 1, s4, rfl, hz2, Z.pick [0, 2, 3, 4], Y.select [1, 2, 3] de⟩
  omega
 rw [hc3] at Z
 try simp only [qz] at hc3
 obtain rfl : z = zeros s.length := by unfold zeros at hz ⊢; omega
 refine aJ <| hK4 _ _ <| ae fun K7 hK7 => aa fun K8 hK8 => wla Z rfl fun a Z => ab (hK8 _ _ <| aq ?_)
 rw [show ((sum1 s (zeros s.length)).map fun b => [yv b]) = ((sum2 s 0).map fun b => [yv b]) from by simp [sum1, sum2]] at Y
 rw [show (7 : Int) = 7 - ((0 : Nat) : Int) from by omega] at Z
 refine aR (fun m a w => ∃ (r : Nat) (v : Value), m = 8 - r ∧ (r ≤ 8) ∧ Fr 40 [(0, sv s), (2, .string (⟨#[]⟩)), (3, pt w0.hz), (4, v), (5, iv (7 - (r : Int)))] [] a ∧ St (· = 0) w0 [own v 5 1 ((sum2 s r).map fun b => [yv b]), blk w0.hz [wv (1779033703#32), wv (3144134277#32), wv (1013904242#32), wv (2773480762#32), wv (1359893119#32), wv (2600822924#32), wv (528734635#32), wv (1541459225#32)] 142, blk 0 (kOf.map wv) 161] w) _ ⟨0, v, rfl, Nat.zero_le _, Z.pick [0, 2, 3, 4, 5], Y.select [0, 1, 2] de⟩ ?_
 rintro _ a w9 ⟨r, v, rfl, hr, Z, Y⟩
 refine ae fun K9 hK9 => aa fun K10 hK10 => wlm Z rfl fun a Z => wlv Z (v_ge rfl rfl) fun a Z => ab (hK10 _ _ ?_)
 refine ax Z rfl (fun hc5 => ?_) (fun hc5 => ?_)
 ·rw [hc5] at Z
  try simp only [qz] at hc5
  refine ar <| hK9 _ _ <| ae fun K11 hK11 => aq <| ao <| wlm Z rfl fun a Z => wlm Z rfl fun a Z => wlv Z (bo rfl rfl (runUnderlying9 _)) fun a Z => wlv Z ((cW rfl rfl ⟨om, om⟩).asi (m' := ((8 * s.length : Nat) : Int)) om) fun a Z => wlm Z rfl fun a Z => wlv Z ((cW rfl rfl ⟨om, om⟩).asi (m' := ((8 * (7 - r) : Nat) : Int)) om) fun a Z => wlv Z (nO (m := (8 * s.length)) (n := (8 * (7 - r))) rfl rfl om) fun a Z => ?_
  refine wlv Z (ir (n := 8 * s.length / 2 ^ (8 * (7 - r))) rfl kr underlying5) fun a Z => aC (E := 5) (sz := 1) rfl [[yv (UInt8.ofNat (8 * s.length / 2 ^ (8 * (7 - r))))]] kr sm rfl de de Z Y ?_
  clear Z Y
  intro a w10 Z Y
  refine aN (i := 1) (sT := 68) (inf := Tryz.t5) (z := yv (0 : UInt8)) (b := 0) (off := 0) (m := 0) (c := 0) rfl rfl rfl (Y.ow 0 rfl) sm underlying68 rfl rfl rfl rfl de (by simp [Value.oneCell', yv, wv, sv]) (by have hby : Tryz.t5.bytes = 1 := rfl; have hz6 : zeros s.length < 64 := (by unfold zeros; omega); simp [big, hby, sum1, sum2, bx] <;> omega) (by have hby : Tryz.t5.bytes = 1 := rfl; have hz6 : zeros s.length < 64 := (by unfold zeros; omega); simp [big, hby, sum1, sum2, bx] <;> omega) de Z Y fun a w11 s6 Z Y _ => wla Z rfl fun a Z => ab <| hK11 _ _ ?_
  replace Z := Z.p5 0 2 3 5 4 rfl
  replace Y := Y.k3 14 rfl
  refine ao <| wlm Z rfl fun a Z => wlv Z (bh rfl rfl ⟨om, om⟩) fun a Z => wla Z rfl fun a Z => ab ?_
  rw [show ((sum2 s r).map fun b => [yv b]) ++ ([[yv (UInt8.ofNat (8 * s.length / 2 ^ (8 * (7 - r))))]]) = ((sum2 s (r + 1)).map fun b => [yv b]) from by unfold sum2; rw [ey om]; simp] at Y
  rw [show 7 - (r : Int) - 1 = 7 - ((r + 1 : Nat) : Int) from by omega] at Z
  refine ⟨_, ?_, r + 1, s6, rfl, om, Z.pick [0, 2, 3, 4, 5], Y.select [0, 1, 2] de⟩
  omega
 rw [hc5] at Z
 try simp only [qz] at hc5
 obtain rfl : r = 8 := by omega
 rw [show sum2 s 8 = padded s from rfl] at Y
 refine aJ <| hK7 _ _ <| ae fun K12 hK12 => aa fun K13 hK13 => wlm Z rfl fun a Z => aK Z Y de call100 rfl (m6 v _ _ (Y.ow 0 rfl)) ?_
 clear Z Y
 intro a w12 x7 hp Z Y
 obtain ⟨z1, z2⟩ := x7
 clear hp
 replace Y : St (· = 0) w0 [_, _, _, _, _] w12 := Y
 refine ab (hK13 _ _ ?_)
 replace Z := Z.p3 2 3 34 rfl
 refine aq ?_
 have hpl := eN s
 have hsh : Shp v (padded s).length := by have := ((Y.ow 2 rfl)).shp; rwa [List.length_map] at this
 replace Y : St (· = 0) w0 [_, _, _, _, _] w12 := Y
 replace Y : St (· = 0) w0 [blk 0 (kOf.map wv) 161, blk w0.hz (((blocks h0 (padded s) ([] : List Nat).length).l).map wv) 142, own v 5 1 ((padded s).map fun b => [yv b]), blk z1 [v] 68, blk z2 [iv 64] 3] w12 := Y.select [4, 3, 2, 1, 0] de
 replace Z : Fr 40 [(2, .string (⟨#[]⟩)), (3, pt w0.hz), (34, .func (.func 114) #[] #[pt z1, pt z2])] [] a := Z.pick [2, 3, 34]
 refine cU (M := (· = 0)) (w0 := w0) (encs := (encC v)) (Hi := [blk z1 [v] 68, blk z2 [iv 64] 3]) (Hc := [blk 0 (kOf.map wv) 161, blk w0.hz (((blocks h0 (padded s) ([] : List Nat).length).l).map wv) 142, own v 5 1 ((padded s).map fun b => [yv b])]) (fun pre H => (True) ∧ H = [blk 0 (kOf.map wv) 161, blk w0.hz (((blocks h0 (padded s) pre.length).l).map wv) 142, own v 5 1 ((padded s).map fun b => [yv b])]) (fun _ _ _ => False) (fun pre xs H a => Fr 40 [(2, .string (⟨#[]⟩)), (3, pt w0.hz), (34, .func (.func 114) #[] #[pt z1, pt z2]), (6, (cut v 1 (64 * xs) (64 * xs + 64) (64 * xs + 64)))] [] a ∧ (True) ∧ H = [blk 0 (kOf.map wv) 161, blk w0.hz (((blocks h0 (padded s) pre.length).l).map wv) 142, own v 5 1 ((padded s).map fun b => [yv b])]) rfl call114 Z Y (kX v (padded s).length ((padded s).length / 64) z1 z2 hsh om (by have := fb s; omega)) de (fun _ => rfl) ⟨trivial, rfl⟩ ?_ ?_ ?_ ?_
 ·clear Z Y
  rintro lp pre xs _ a w13 hnx ⟨htr, rfl⟩ Z Y
  generalize (join [blk 0 (kOf.map wv) 161, blk w0.hz (((blocks h0 (padded s) pre.length).l).map wv) 142, own v 5 1 ((padded s).map fun b => [yv b])]).foot = M1 at Y ⊢
  replace Z : Fr 40 [(35, (cut v 1 (64 * xs) (64 * xs + 64) (64 * xs + 64))), (2, .string (⟨#[]⟩)), (3, pt w0.hz), (34, .func (.func 114) #[] #[pt z1, pt z2])] [] a := Z
  refine ao <| wla Z rfl fun a Z => ab ?_
  exact ⟨_, ⟨Z.pick [2, 3, 34, 6], htr, rfl⟩, Y⟩
 ·rintro lp pre xs _ a w14 hnx ⟨Z, htr, rfl⟩ hout hrec hnl Y
  clear hrec hnl
  generalize (join [blk 0 (kOf.map wv) 161, blk w0.hz (((blocks h0 (padded s) pre.length).l).map wv) 142, own v 5 1 ((padded s).map fun b => [yv b])]).foot = M1 at Y hout ⊢
  refine aq <| ao <| wlm Z rfl fun a Z => ge 1 Z Y de call101 rfl rfl (qk Y (by have := hnx.2; omega)) rfl ?_
  clear Z Y
  intro a w15 Z Y
  refine ab ?_
  rw [show block (blocks h0 (padded s) pre.length) (((padded s).drop (64 * xs)).take 64) = blocks h0 (padded s) (pre ++ [xs]).length from by rw [List.length_append, List.length_singleton, blocks, hnx.1]] at Y
  exact ⟨_, ⟨trivial, rfl⟩, Y.select [0, 1, 2] de⟩
 ·rintro D pre _ _ a w16 ⟨rfl, rfl⟩ ⟨htr, rfl⟩ Y Z
  replace Z : Fr 40 [(2, .string (⟨#[]⟩)), (3, pt w0.hz), (34, .func (.func 114) #[] #[pt z1, pt z2])] [{ target := .collected D, args := #[] }] a := Z
  replace Y : St (· = 0) w0 [_, _, _, _, _, _] w16 := Y
  refine hK12 _ _ ?_
  rw [List.length_range] at Y
  refine aa fun K14 hK14 => wlv Z (aw (Y.g 2 rfl) rfl (isAgg142 _) (by rw [List.length_map, (W8.l_len _)]; exact sizeOf142 _)) fun a Z => am Z Y de call102 rfl (mq (blocks h0 (padded s) ((padded s).length / 64)) _) ?_
  clear Z Y
  intro a w17 Z Y
  refine wla Z rfl fun a Z => ab (hK14 _ _ <| ap ?_)
  have hD := Y.g 0 rfl
  replace Y := Y.unmark (i := 0) (o' := .deferred none) rfl
  replace Y : St (· = 0) w0 [_, _, _, _, _] _ := Y
  refine bV Z hD results77 (ac rfl ag) ?_
  exact ⟨by simp only [retv, sha], Y.ext.const hk0 (Y.g 0 rfl)⟩
 ·rintro D c pre _ _ a w18 _ h
  exact h.elim
theorem mH (xs : List (List UInt8)) : Lib.join xs [] = xs.flatten := by
 cases xs with
 | nil => rfl
 | cons x r => rw [Lib.join_cons, Lib.joinTail]; simp
theorem oV (lv : Value) (xs : List (List UInt8)) (w0 : World) (h : SlAt w0 lv 1 (xs.map fun s => [sv s])) (hn : xs.length ≤ 1000) (hlen : xs.flatten.length ≤ 140737488355328) :
  Ret Tryz.prog 113 #[lv, sv []] w0 fun v w => v = sv xs.flatten ∧ Ext No w0 w := by
 have hbig := h.le
 rw [List.length_map] at hbig
 rcases h.2.2 with ⟨rfl, h0⟩ | ⟨b, off, cap, rfl, hc, hb, hcells⟩
 ·obtain rfl : xs = [] := by simpa using h0
  exact (Tryz.strings_Join_none none 0 ⟨#[]⟩ w0).mono fun e w ⟨he, hw⟩ => ⟨_, he, rfl, by rw [hw]; exact Ext.refl _ _⟩
 ·have hm : ((xs.map fun s => (⟨s.toArray⟩ : ByteArray)).map (·.data.toList)) = xs := by simp [Function.comp_def]
  have hf : (xs.map fun s => [sv s]).flatten = xs.map sv := by
   clear hcells hc hb h hlen hbig hm hn
   induction xs with
   | nil => rfl
   | cons x xs ih => rw [List.map_cons, List.flatten_cons, ih]; rfl
  have hj : Lib.join ((xs.map fun s => (⟨s.toArray⟩ : ByteArray)).map (·.data.toList)) (ByteArray.mk #[]).data.toList = xs.flatten := by rw [hm]; exact mH xs
  rw [hf] at hcells
  have := Tryz.strings_Join b off cap (xs.map fun s => ⟨s.toArray⟩) ⟨#[]⟩ w0 (fun j x hx => by
   refine hcells j _ ?_
   rw [List.getElem?_map] at hx ⊢
   cases hq : xs[j]? with
   | none => rw [hq] at hx; cases hx
   | some z => rw [hq] at hx; cases hx; rfl) hb (by simp; omega) (by simpa using hc) (by rw [hj]; exact hlen)
  rw [hj] at this
  simp only [List.length_map] at this ⊢
  exact this.mono fun e w ⟨he, hw⟩ => ⟨_, he, rfl, Ext.of_below hw⟩
theorem mQ (s t : List UInt8) : ((⟨s.toArray⟩ : ByteArray) ++ (⟨t.toArray⟩ : ByteArray)) = ⟨(s ++ t).toArray⟩ := by
 apply ByteArray.ext
 simp [ByteArray.data_append]
theorem bS {P : Program} {w : World} {L : List (Nat × Value)} {dst : Option Tmp} {T T' ty : TypeId} {pos : String} {af : Array Edge} {gd : Option (Nat × Bool)} {x y : Operand} {s t : List UInt8} (hx : ev L x = some (sv s)) (hy : ev L y = some (sv t)) (hl : s.length + t.length ≤ 9223372036854775807) : OpV P ⟨dst, .binOp .add T x y T', ty, pos, af, gd⟩ L w (sv (s ++ t)) :=
 cH hx hy rfl (by
  show (Op.stringOp .add ⟨s.toArray⟩ ⟨t.toArray⟩).run P w = _
  rw [run_string_add_sum w _ _ (by simpa [ByteArray.size] using hl), mQ]; rfl)
theorem gM (mark : List UInt8) (xs : List (List UInt8)) (lv : Value) (b : Nat) (w0 : World) (hb : (blk b [sv mark] 9).ok w0) (hlv : SlAt w0 lv 1 (xs.map fun s => [sv s])) (hxn : xs.length ≤ 1000) (hml : mark.length ≤ 1000) (hlen0 : xs.flatten.length ≤ 90000000) (hk0 : (blk 0 (kOf.map wv) 161).ok w0) :
  Ret Tryz.prog 112 #[lv, pt b] w0 fun v w => v = sv (sha (mark ++ xs.flatten)) ∧ Ext No w0 w := by
 have hlen : xs.flatten.length ≤ 140737488355328 := by omega
 refine aD func112 rfl ntmps112 (lb rfl) fun a Z => ?_
 replace Z := Z.p2 0 1 rfl
 replace Y : St No w0 [] w0 := St.init w0
 refine aa fun K1 hK1 => wla Z rfl fun a Z => ab (hK1 _ _ <| ae fun K2 hK2 => ?_)
 refine aF kr (aG kr fun w1 hxz => ?_)
 replace Y := Y.grow hxz
 refine aT (k := 0) 3 [0, 2] Z kr kr kr rfx ?_
 replace Z := Z.p3 0 1 3 rfl
 refine aA [] (fun i => match i with | _ => fun _ _ => False) 3 [[], [], [1]] [sv mark, lv, sv xs.flatten] Z Y kr kr kr ?_ ?_ ?_
 ·intro i hi hiq
  match i, hi, hiq with
  | 0, _, _ => exact fun w Y => OpV.g (bP (Y.keepb hb) rfl (isAgg9 _) rfl)
  | 1, _, _ => exact fun w Y => OpV.g (ah rfl)
  | 2, _, _ => exact fun w Y => bw call113 rfl (oV lv xs _ (Y.arg hlv) (by simpa using hxn) (by simpa using hlen))
 ·intro i hi
  exact absurd hi sm
 clear Z Y
 intro  a w2 Z Y
 replace Z : Fr 9 [(4, sv mark), (5, lv), (6, sv xs.flatten), (0, _), (1, _), (3, _)] [] a := Z
 refine ab <| aP (k := 3) 6 [5] kr kr kr ?_
 refine wlv Z (bS rfl rfl (by (try simp only [List.length_append]); omega)) fun a Z => am Z Y de call77 rfl (kG (mark ++ xs.flatten) _ (Y.keepb hk0) (by simp only [List.length_append]; omega)) ?_
 clear Z Y
 intro a w3 Z Y
 refine wla Z rfl fun a Z => ab <| aS kr ?_
 refine hK2 _ _ ?_
 replace Z := Z.p1 3 rfl
 refine ap ?_
 refine al Z results112 (ac rfl ag) ?_
 exact ⟨by rfl, Y.ext⟩
theorem hU (mark : List UInt8) (w0 : World) :
  Ret Tryz.prog 99 #[sv mark] w0 (MemR w0 (fun b : Nat => .func (.func 112) #[] #[pt b]) (fun b => [blk b [sv mark] 9]) (fun _ => True)) := by
 refine aD func99 rfl ntmps99 (lb rfl) fun a Z => ?_
 replace Z := Z.p1 0 rfl
 replace Y : St No w0 [] w0 := St.init w0
 refine aa fun K1 hK1 => bj Z Y de rfl (cs := [sv mark]) rfl ?_
 clear Z Y
 intro a w1 Z Y
 refine wla Z rfl fun a Z => ab (hK1 _ _ <| aa fun K2 hK2 => ?_)
 refine wlv Z (cy rfl rfl) fun a Z => wla Z rfl fun a Z => ab (hK2 _ _ <| ap ?_)
 refine al Z results99 (ac rfl ag) ?_
 exact ⟨w0.hz, rfl, trivial, Y.ext, St.out (H := []) Y⟩
theorem iE (s : List UInt8) (w0 : World) (hs : s.length ≤ 40000000) (hk0 : (blk 0 (kOf.map wv) 161).ok w0) :
  Ret Tryz.prog 75 #[sv s] w0 fun v w => v = sv (sha (0 :: s)) ∧ Ext No w0 w := by
 refine aD func75 rfl ntmps75 (lb rfl) fun a Z => ?_
 replace Z := Z.p1 0 rfl
 replace Y : St No w0 [] w0 := St.init w0
 refine aa fun K1 hK1 => wla Z rfl fun a Z => ab (hK1 _ _ <| aa fun K2 hK2 => ?_)
 refine aK Z Y de call99 rfl (hU [0] _) ?_
 clear Z Y
 intro a w1 x1 hp Z Y
 revert x1 hp Z Y; rintro bm hp Z Y
 clear hp
 replace Y : St No w0 [_] w1 := Y
 refine wlm Z rfl fun a Z => aC (E := 9) (sz := 1) rfl [[sv s]] kr sm rfl de de Z Y ?_
 clear Z Y
 intro a w2 Z Y
 refine iB Z Y de rfl call112 rfl (gM [0] [s] (.slice (some ⟨w1.hz, 0, none⟩) 1 1) bm _ (Y.g 1 rfl) (Y.ow 0 rfl) sm sm (by simp; omega) (Y.keepb hk0)) ?_
 clear Z Y
 intro a w3 Z Y
 refine wla Z rfl fun a Z => ab (hK2 _ _ <| ap ?_)
 refine al Z results75 (ac rfl ag) ?_
 exact ⟨by simp [retv], Y.ext⟩
theorem eV (s t : List UInt8) (w0 : World) (hs : s.length ≤ 40000000) (ht : t.length ≤ 40000000) (hk0 : (blk 0 (kOf.map wv) 161).ok w0) :
  Ret Tryz.prog 76 #[sv s, sv t] w0 fun v w => v = sv (sha (1 :: (s ++ t))) ∧ Ext No w0 w := by
 refine aD func76 rfl ntmps76 (lb rfl) fun a Z => ?_
 replace Z := Z.p2 0 1 rfl
 replace Y : St No w0 [] w0 := St.init w0
 refine aa fun K1 hK1 => wla Z rfl fun a Z => ab (hK1 _ _ <| aa fun K2 hK2 => ?_)
 refine aK Z Y de call99 rfl (hU [1] _) ?_
 clear Z Y
 intro a w1 x1 hp Z Y
 revert x1 hp Z Y; rintro bm hp Z Y
 clear hp
 replace Y : St No w0 [_] w1 := Y
 refine wlm Z rfl fun a Z => wlm Z rfl fun a Z => aC (E := 9) (sz := 1) rfl [[sv s], [sv t]] kr sm rfl de de Z Y ?_
 clear Z Y
 intro a w2 Z Y
 refine iB Z Y de rfl call112 rfl (gM [1] [s, t] (.slice (some ⟨w1.hz, 0, none⟩) 2 2) bm _ (Y.g 1 rfl) (Y.ow 0 rfl) sm sm (by simp; omega) (Y.keepb hk0)) ?_
 clear Z Y
 intro a w3 Z Y
 refine wla Z rfl fun a Z => ab (hK2 _ _ ?_)
 replace Z := Z.p1 4 rfl
 replace Y : St No w0 [] w3 := Y.mask [false, false]
 refine ap ?_
 refine al Z results76 (ac rfl ag) ?_
 exact ⟨by simp [retv], Y.ext⟩
theorem gF : ∀ (f x : Nat), 0 < x → x < 2 ^ f → Lib.bitLenAux f x = Nat.log2 x + 1
 | 0, x, h0, h => by simp at h; omega
 | f + 1, x, h0, h => by
  rw [Lib.bitLenAux, if_neg om, Nat.log2_def]
  by_cases h2 : 2 ≤ x
  ·rw [if_pos h2, gF f (x / 2) om (by rw [Nat.pow_succ] at h; omega)]; omega
  ·rw [if_neg h2]
   have : x / 2 = 0 := by omega
   rw [this]
   cases f <;> simp [Lib.bitLenAux]
theorem kJ {x : Nat} (h0 : 0 < x) (h : x < 18446744073709551616) : Lib.bitLen x = Nat.log2 x + 1 := gF 64 x h0 (by simpa using h)
theorem oP (x : Int) (m : Nat) (w0 : World) (h0 : 0 ≤ x) (h1 : x ≤ 18446744073709551615) (hm : x.toNat = m) (hp : 0 < m) : Ret Tryz.prog 106 #[.int .u64 x] w0 fun v w => v = iv ((Nat.log2 m + 1 : Nat) : Int) ∧ Ext No w0 w :=
 (Tryz.bits_Len x w0 h0 h1).mono fun e w ⟨he, hw⟩ => ⟨_, he, by rw [hm, kJ hp om], by rw [hw]; exact Ext.refl _ _⟩
theorem pA {P : Program} {w : World} {L : List (Nat × Value)} {dst : Option Tmp} {T T' ty : TypeId} {pos : String} {af : Array Edge} {gd : Option (Nat × Bool)} {x y : Operand} {k : IntKind} {n : Nat} (hn : n ≤ 62) (hx : ev L x = some (iv 1)) (hy : ev L y = some (.int k (n : Int))) : OpV P ⟨dst, .binOp .shl T x y T', ty, pos, af, gd⟩ L w (iv ((2 ^ n : Nat) : Int)) :=
 cH hx hy rfl (by
  have h0 : ¬ ((n : Int) < 0) := by omega
  show (Op.shift .shl .i64 1 k (n : Int)).run P w = _
  simp only [Op.shift, if_neg h0, Int.toNat_natCast]
  show Result.ok (iv (IntKind.i64.wrap (1 * 2 ^ (min n 64)))) w = _
  have hle : 2 ^ n ≤ 2 ^ 62 := Nat.pow_le_pow_right de hn
  have : (1 : Int) * 2 ^ (min n 64) = ((2 ^ n : Nat) : Int) := by rw [Nat.min_eq_left om, Int.one_mul]; push_cast; rfl
  rw [this]
  clear this
  generalize 2 ^ n = q at hle ⊢
  rw [IntWalk.i64_in (q : Int) (by constructor <;> omega)])
theorem nb {n j q : Nat} (h2 : 2 ≤ n) (hq : 2 ^ j = q) (hp : 0 < q) (h : ¬ (q : Int) < (n : Int) - q) (hj : q < n) : q = lft n := by
 subst hq
 unfold lft
 congr 1
 have : 2 ^ j ≤ n - 1 := by omega
 have h3 : n - 1 < 2 * 2 ^ j := by omega
 exact ((Nat.log2_eq_iff om).2 ⟨this, by rw [Nat.pow_succ, Nat.mul_comm]; exact h3⟩).symm
theorem mB {n : Nat} (h2 : 2 ≤ n) (hn : n ≤ 9223372036854775807) : Nat.log2 (n - 1) ≤ 62 := by
 have := (Nat.log2_lt (n := n - 1) (k := 63) om).2 om
 omega
theorem fU (n : Nat) (w0 : World) (h2 : 2 ≤ n) (hn : n ≤ 9223372036854775807) :
  Ret Tryz.prog 84 #[iv (n : Int)] w0 fun v w => v = iv (lft n : Int) ∧ Ext No w0 w := by
 have hlb := mB h2 hn
 refine aD func84 rfl ntmps84 (lb rfl) fun a Z => ?_
 replace Z := Z.p1 0 rfl
 replace Y : St No w0 [] w0 := St.init w0
 refine aa fun K1 hK1 => wla Z rfl fun a Z => ab (hK1 _ _ <| aa fun K2 hK2 => ?_)
 refine wlm Z rfl fun a Z => wlv Z (bh rfl rfl ⟨om, om⟩) fun a Z => wlv Z (c8 rfl kr underlying120) fun a Z => am Z Y de call106 rfl (oP _ (n - 1) _ om om om om) ?_
 clear Z Y
 intro a w1 Z Y
 refine wlv Z ((bh rfl rfl ⟨om, om⟩).asi (m' := ((Nat.log2 (n - 1) : Nat) : Int)) om) fun a Z => wlv Z (pA (n := (Nat.log2 (n - 1))) om rfl rfl) fun a Z => wla Z rfl fun a Z => ab (hK2 _ _ ?_)
 replace Z := Z.p1 2 rfl
 refine ap ?_
 refine al Z results84 (ac rfl ag) ?_
 exact ⟨by rfl, Y.ext⟩
theorem eZ (n : Nat) (w0 : World) (h2 : 2 ≤ n) (hn : n ≤ 9223372036854775807) :
  Ret Tryz.prog 61 #[iv (n : Int)] w0 fun v w => v = iv (lft n : Int) ∧ Ext No w0 w := by
 refine aD func61 rfl ntmps61 (lb rfl) fun a Z => ?_
 replace Z := Z.p1 0 rfl
 replace Y : St No w0 [] w0 := St.init w0
 refine aa fun K1 hK1 => wla Z rfl fun a Z => ab (hK1 _ _ <| aa fun K2 hK2 => ?_)
 refine wla Z rfl fun a Z => ab (hK2 _ _ <| ae fun K3 hK3 => ?_)
 refine aq <| aR (fun m a w => ∃ (j : Nat) (q : Nat), m = n - q ∧ (2 ^ j = q) ∧ (0 < q) ∧ (q < n) ∧ Fr 12 [(0, iv (n : Int)), (2, iv 0), (3, iv (q : Int))] [] a ∧ St No w0 [] w) _ ⟨0, 1, rfl, rfl, om, om, Z.pick [0, 2, 3], Y.select [] de⟩ ?_
 rintro _ a w1 ⟨j, q, rfl, hq, hp, hj, Z, Y⟩
 refine ae fun K4 hK4 => aa fun K5 hK5 => wlm Z rfl fun a Z => wlm Z rfl fun a Z => wlm Z rfl fun a Z => wlv Z (bh rfl rfl ⟨om, om⟩) fun a Z => wlv Z (v_lt rfl rfl) fun a Z => ab (hK5 _ _ ?_)
 refine ax Z rfl (fun hc1 => ?_) (fun hc1 => ?_)
 ·rw [hc1] at Z
  try simp only [qz] at hc1
  refine ar <| hK4 _ _ <| aq <| ao <| wlm Z rfl fun a Z => wlv Z ((cW rfl rfl ⟨om, om⟩).asi (m' := ((2 * q : Nat) : Int)) om) fun a Z => wla Z rfl fun a Z => ab ?_
  refine ⟨_, ?_, j + 1, 2 * q, rfl, (by rw [Nat.pow_succ, hq, Nat.mul_comm]), om, om, Z.pick [0, 2, 3], Y.select [] de⟩
  omega
 rw [hc1] at Z
 try simp only [qz] at hc1
 have hfin := nb h2 hq hp om hj
 refine aJ <| hK3 _ _ <| aa fun K6 hK6 => wlm Z rfl fun a Z => wla Z rfl fun a Z => ab (hK6 _ _ ?_)
 replace Z := Z.p1 2 rfl
 refine ap ?_
 refine al Z results61 (ac rfl ag) ?_
 exact ⟨by simp only [retv]; rw [hfin]; try rfl, Y.ext⟩
theorem dV (s : List UInt8) (w0 : World) :
  Ret Tryz.prog 88 #[sv s] w0 fun v w => v = .bool (decide ((s.length : Int) = 32)) ∧ Ext No w0 w := by
 refine aD func88 rfl ntmps88 (lb rfl) fun a Z => ?_
 replace Z := Z.p1 0 rfl
 replace Y : St No w0 [] w0 := St.init w0
 refine aa fun K1 hK1 => wla Z rfl fun a Z => ab (hK1 _ _ <| aa fun K2 hK2 => ?_)
 refine wlm Z rfl fun a Z => wlv Z (bo rfl rfl (runUnderlying9 _)) fun a Z => wlv Z (v_eq rfl rfl) fun a Z => wla Z rfl fun a Z => ab (hK2 _ _ <| ap ?_)
 refine al Z results88 (ac rfl ag) ?_
 exact ⟨by rfl, Y.ext⟩
theorem dh (r : List UInt8) (first : Bool) (s : List UInt8) (w0 : World) (hr : r.length ≤ 40000000) (hs : s.length ≤ 40000000) (hk0 : (blk 0 (kOf.map wv) 161).ok w0) :
  Ret Tryz.prog 91 #[.agg #[sv r, .bool first], sv s] w0 fun v w => v = sv (sha (1 :: (if first then r ++ s else s ++ r))) ∧ Ext No w0 w := by
 refine aD func91 rfl ntmps91 (lb rfl) fun a Z => ?_
 replace Z := Z.p2 0 1 rfl
 replace Y : St No w0 [] w0 := St.init w0
 refine aa fun K1 hK1 => bj Z Y de rfl (cs := [sv r, .bool first]) rfl ?_
 clear Z Y
 intro a w1 Z Y
 refine wla Z rfl fun a Z => ab (hK1 _ _ <| ae fun K2 hK2 => ?_)
 refine aa fun K3 hK3 => wlv Z (ak (v := po w0.hz 1) rfl kr) fun a Z => wlv Z (ld Y 0 rfl rfl (isAgg4 _) rfl) fun a Z => ab (hK3 _ _ ?_)
 refine ax Z rfl (fun hc1 => ?_) (fun hc1 => ?_)
 ·rw [hc1] at Z
  try simp only [qz] at hc1
  refine aa fun K4 hK4 => wlv Z (ak (v := pt w0.hz) rfl kr) fun a Z => wlv Z (ld Y 0 rfl rfl (isAgg9 _) rfl) fun a Z => wlm Z rfl fun a Z => am Z Y de call76 rfl (eV r s _ om om (Y.keepb hk0)) ?_
  clear Z Y
  intro a w2 Z Y
  refine wla Z rfl fun a Z => ab (hK4 _ _ ?_)
  replace Z := Z.p3 1 2 4 rfl
  refine ap ?_
  refine al Z results91 (ac rfl ag) ?_
  exact ⟨by simp_all [retv], Y.ext⟩
 rw [hc1] at Z
 try simp only [qz] at hc1
 refine ar <| hK2 _ _ <| aa fun K5 hK5 => wlm Z rfl fun a Z => wlv Z (ak (v := pt w0.hz) rfl kr) fun a Z => wlv Z (ld Y 0 rfl rfl (isAgg9 _) rfl) fun a Z => am Z Y de call76 rfl (eV s r _ om om (Y.keepb hk0)) ?_
 clear Z Y
 intro a w3 Z Y
 refine wla Z rfl fun a Z => ab (hK5 _ _ ?_)
 replace Z := Z.p1 4 rfl
 replace Y : St No w0 [] w3 := Y.mask [false]
 refine ap ?_
 refine al Z results91 (ac rfl ag) ?_
 exact ⟨by simp_all [retv], Y.ext⟩
def encB (xs : List By) (k : Nat) : List Value := [iv (k : Int), sv (xs.getD k [])]
def NxB (n : Nat) (pre : List Nat) (x : Nat) : Prop := x + 1 + pre.length = n
def backs (n : Nat) : Nat → List Nat
 | 0 => []
 | j + 1 => backs n j ++ [n - 1 - j]
theorem dy (n j : Nat) : (backs n j).length = j := by
 induction j with
 | zero => rfl
 | succ j ih => rw [backs, List.length_append, ih]; rfl
theorem eH {α β : Type} (f : β → α → β) (d : α) (xs : List α) : ∀ (j : Nat) (r : β), j ≤ xs.length → (backs xs.length j).foldl (fun o k => f o (xs.getD k d)) r = ((xs.drop (xs.length - j)).reverse).foldl f r
 | 0, r, h => by rw [Nat.sub_zero, List.drop_length]; rfl
 | j + 1, r, h => by
  rw [backs, List.foldl_append, eH f d xs j r om]
  have hd : xs.drop (xs.length - (j + 1)) = xs.getD (xs.length - 1 - j) d :: xs.drop (xs.length - j) := by
   have hk : xs.length - (j + 1) < xs.length := by omega
   rw [List.drop_eq_getElem_cons hk, show xs.length - (j + 1) + 1 = xs.length - j from by omega, List.getD_eq_getElem?_getD, show xs.length - 1 - j = xs.length - (j + 1) from by omega, List.getElem?_eq_getElem hk]
   rfl
  rw [hd, List.reverse_cons, List.foldl_append]; rfl
theorem nk {M : Nat → Prop} {w0 : World} (v : Value) (xs : List By) (lp b1 : Nat) (J Jx : List Nat → Ent → Prop) (hY : Rounds Tryz.prog M w0 lp (encB xs) (NxB xs.length) J Jx) (e0 : Ent) (ws : World) (hn : xs.length ≤ 1000000) (hJ : J [] e0) (Y : St M w0 [e0, blk b1 [v] 26, own v 9 1 (xs.map fun s => [sv s])] ws) :
  Ret Tryz.prog 103 #[.func (.yield lp) #[] #[], pt b1] ws fun _ w => ∃ e1 Hi1, St M w0 (e1 :: Hi1) w ∧ ((∃ ys, (ys = backs xs.length xs.length ∧ Hi1 = [blk b1 [v] 26, own v 9 1 (xs.map fun s => [sv s])]) ∧ J ys e1) ∨ (∃ pre, Hi1 = [blk b1 [v] 26, own v 9 1 (xs.map fun s => [sv s])] ∧ Jx pre e1)) := by
 refine aD func103 rfl ntmps103 (lb rfl) fun a Z => ?_
 replace Z := Z.p2 0 1 rfl
 skip
 refine aa fun K1 hK1 => wlv Z (ld Y 1 rfl rfl (isAgg26 _) rfl) fun a Z => wlv Z ((aE (sT := 26) (Y.ow 2 rfl) rfl rfl (runUnderlying26 _)).asi (m' := (xs.length : Int)) sm) fun a Z => wlv Z (bh rfl rfl ⟨om, om⟩) fun a Z => wla Z rfl fun a Z => ab (hK1 _ _ <| aq ?_)
 rw [show (xs.length : Int) - 1 = (xs.length : Int) - 1 - ((0 : Nat) : Int) from by omega] at Z
 refine aR (fun m a w => ∃ (j : Nat) (e : Ent), m = xs.length - j ∧ (j ≤ xs.length) ∧ (J (backs xs.length j) e) ∧ Fr 19 [(0, .func (.yield lp) #[] #[]), (1, pt b1), (3, iv ((xs.length : Int) - 1 - (j : Int)))] [] a ∧ St M w0 [e, blk b1 [v] 26, own v 9 1 (xs.map fun s => [sv s])] w) _ ⟨0, e0, rfl, Nat.zero_le _, hJ, Z.pick [0, 1, 3], Y⟩ ?_
 rintro _ a w1 ⟨j, e, rfl, hj, hJ, Z, Y⟩
 refine ae fun K2 hK2 => aa fun K3 hK3 => wlm Z rfl fun a Z => wlv Z (v_ge rfl rfl) fun a Z => ab (hK3 _ _ ?_)
 refine ax Z rfl (fun hc1 => ?_) (fun hc1 => ?_)
 ·rw [hc1] at Z
  try simp only [qz] at hc1
  have hjl : j < xs.length := by omega
  refine ar <| hK2 _ _ <| ae fun K4 hK4 => aq ?_
  have hidx : (xs.length : Int) - 1 - (j : Int) = ((xs.length - 1 - j : Nat) : Int) := by omega
  refine aa fun K5 hK5 => wlm Z rfl fun a Z => wlm Z rfl fun a Z => wlv Z (ld Y 1 rfl rfl (isAgg26 _) rfl) fun a Z => wlm Z rfl fun a Z => wlv Z ((aj (i := (xs.length : Int) - 1 - (j : Int)) (sT := 26) (Y.ow 2 rfl) rfl rfl (runUnderlying26 _) (sizeOf9 _) om (by simp; omega)).as (v' := slAddr v ((xs.length - 1 - j) * 1)) (by rw [show ((xs.length : Int) - 1 - (j : Int)).toNat = (xs.length - 1 - j) from by omega])) fun a Z => ?_
  refine wlv Z (au (u := sv (xs.getD (xs.length - 1 - j) [])) (i := (xs.length - 1 - j)) (j := 0) (Y.ow 2 rfl) (by simp; omega) rfl (isAgg9 _) (by simp [List.getD_eq_getElem?_getD, List.getElem?_eq_getElem (show (xs.length - 1 - j) < xs.length by omega)])) fun a Z => ?_
  rw [hidx] at Z
  refine wl_r (fh rfl rfl (hY.yield (pre := backs xs.length j) (x := xs.length - 1 - j) (by show xs.length - 1 - j + 1 + (backs xs.length j).length = xs.length; rw [dy]; omega) hJ (Y.only (i := 0) rfl))) rfl rfl Z ?_
  clear Z
  intro a v w2 hR Z
  obtain ⟨y2, e3, rfl, hx, hok, hft, hJt, hJf⟩ := hR
  replace Y := Y.exchange (k := 0) rfl hx hok hft
  replace Y : St M w0 [_, _, _] w2 := Y
  clear hx hok hft
  refine wlv Z (bq rfl) fun a Z => ab (hK5 _ _ ?_)
  replace Z := Z.p4 0 1 3 18 rfl
  refine ax Z rfl (fun hc4 => ?_) (fun hc4 => ?_)
  ·rw [hc4] at Z
   try simp only [qz] at hc4
   have hJ := hJf hc4
   refine ap ?_
   refine al Z results103 ag ?_
   exact ⟨_, _, Y, .inr ⟨_, rfl, hJ⟩⟩
  rw [hc4] at Z
  try simp only [qz] at hc4
  have hJ := hJt hc4
  refine ar <| hK4 _ _ <| ao <| wlm Z rfl fun a Z => wlv Z (bh rfl rfl ⟨om, om⟩) fun a Z => wla Z rfl fun a Z => ab ?_
  rw [show ((xs.length - 1 - j : Nat) : Int) - 1 = (xs.length : Int) - 1 - ((j + 1 : Nat) : Int) from by omega] at Z
  refine ⟨_, ?_, j + 1, e3, rfl, om, hJ, Z.pick [0, 1, 3], Y⟩
  omega
 rw [hc1] at Z
 try simp only [qz] at hc1
 obtain rfl : j = xs.length := by omega
 refine aJ ?_
 refine dt Z results103 ag ?_
 exact ⟨_, _, Y, .inl ⟨_, ⟨rfl, rfl⟩, hJ⟩⟩
theorem lZ {M : Nat → Prop} {w0 : World} (v : Value) (xs : List By) (b1 : Nat) (hn : xs.length ≤ 1000000) :
  Iter Tryz.prog 103 [pt b1] (encB xs) (NxB xs.length) (fun ys Hi => ys = backs xs.length xs.length ∧ Hi = [blk b1 [v] 26, own v 9 1 (xs.map fun s => [sv s])]) (fun pre Hi => Hi = [blk b1 [v] 26, own v 9 1 (xs.map fun s => [sv s])]) M w0 [blk b1 [v] 26, own v 9 1 (xs.map fun s => [sv s])] :=
 fun lp J Jx w e hY hJ Y => nk v xs lp b1 J Jx hY e w hn hJ Y
theorem pF (v : Value) (els : List (List Value)) (w0 : World) (hv : SlAt w0 v 1 els) :
  Ret Tryz.prog 78 #[v] w0 (MemR w0 (fun z : Nat => .func (.func 103) #[] #[pt z]) (fun z => [blk z [v] 26]) (fun _ => True)) := by
 refine aD func78 rfl ntmps78 (lb rfl) fun a Z => ?_
 replace Z := Z.p1 0 rfl
 replace Y : St No w0 [] w0 := St.init w0
 refine aa fun K1 hK1 => bj Z Y de rfl (cs := [v]) (by rw [(Y.arg hv).cells]) ?_
 clear Z Y
 intro a w1 Z Y
 refine wla Z rfl fun a Z => ab (hK1 _ _ <| aa fun K2 hK2 => ?_)
 refine wlv Z (cy rfl rfl) fun a Z => wla Z rfl fun a Z => ab (hK2 _ _ <| ap ?_)
 refine al Z results78 (ac rfl ag) ?_
 exact ⟨w0.hz, rfl, trivial, Y.ext, St.out (H := []) Y⟩
theorem me {M : Nat → Prop} {wb : World} {H : List Ent} {sv : Value} {els : List (List Value)} {caps : List Value} {g : FuncId} (p : Nat → Bool) (ev_ : Nat → Value) (J : Nat → Ent → Prop) (e0 : Ent) (w0 : World)
  (hen : ∀ args w, (callFunc g args).run Tryz.prog w = .ok (.enter g args) w) (hs : ∀ e w, St M wb (e :: H) w → SlAt w sv 1 els)
  (hev : ∀ k (h : k < els.length), (els[k])[0]? = some (ev_ k)) (hJ0 : J 0 e0) (Y : St M wb (e0 :: H) w0)
  (hcl : ∀ k e w, k < els.length → J k e → e.ok w → (∀ b, e.foot b → b < w.hz) → Ret Tryz.prog g ([ev_ k] ++ caps).toArray w fun v w' => v = .bool (p k) ∧ ∃ e', Ext e.foot w w' ∧ e'.ok w' ∧ (∀ b, e'.foot b → b < w'.heap.size ∧ (e.foot b ∨ w.hz ≤ b)) ∧ J (k + 1) e') :
  Ret Tryz.prog 119 #[sv, .func (.func g) #[] caps.toArray] w0 fun v w => v = iv (fstIdx p els.length) ∧ ∃ k e', J k e' ∧ St M wb (e' :: H) w := by
 have hsl := (hs _ _ Y).le
 refine aD func119 rfl ntmps119 (lb rfl) fun a Z => ?_
 replace Z := Z.p2 0 1 rfl
 refine aa fun K1 hK1 => wla Z rfl fun a Z => ab (hK1 _ _ <| ae fun K2 hK2 => ?_)
 refine aa fun K3 hK3 => wlm Z rfl fun a Z => wlv Z (aE (sT := 26) (hs _ _ Y) rfl rfl (runUnderlying26 _)) fun a Z => wlm Z rfl fun a Z => ab (hK3 _ _ <| aq ?_)
 refine aR (fun m a w => ∃ (k : Nat) (e : Ent), m = els.length - k ∧ (k ≤ els.length) ∧ (∀ j, j < k → p j = false) ∧ (J k e) ∧ Fr 19 [(0, sv), (1, .func (.func g) #[] caps.toArray), (6, sv), (7, iv els.length), (8, iv (k : Int))] [] a ∧ St M wb (e :: H) w) _ ⟨0, e0, rfl, Nat.zero_le _, (by intro j hj; omega), hJ0, Z.pick [0, 1, 6, 7, 8], Y⟩ ?_
 rintro _ a w1 ⟨k, e, rfl, hk, hp, hJ, Z, Y⟩
 refine aa fun K4 hK4 => wlv Z (v_lt rfl rfl) fun a Z => ab (hK4 _ _ <| ae fun K5 hK5 => ?_)
 refine ax Z rfl (fun hc1 => ?_) (fun hc1 => ?_)
 ·rw [hc1] at Z
  try simp only [qz] at hc1
  refine ar <| hK5 _ _ <| ae fun K6 hK6 => aq <| aa fun K7 hK7 => wlm Z rfl fun a Z => wla Z rfl fun a Z => ab (hK7 _ _ <| aa fun K8 hK8 => ?_)
  refine wlm Z rfl fun a Z => wlm Z rfl fun a Z => wlm Z rfl fun a Z => wlv Z ((aj (i := (k : Int)) (sT := 26) (hs _ _ Y) rfl rfl (runUnderlying26 _) (sizeOf9 _) om om).as (v' := slAddr sv (k * 1)) rfl) fun a Z => wlv Z ((au (u := ev_ k) (i := k) (j := 0) (hs _ _ Y) om rfl (isAgg9 _) (hev k om))) fun a Z => wl_r (iK (cap := caps) rfl hen rfl (hcl k _ _ om hJ (Y.g 0 rfl) (fun b hb => Y.lt (k := 0) rfl hb))) rfl rfl Z fun a v w2 hR Z => ?_
  obtain ⟨rfl, e1, hx, hok, hft, hJ1⟩ := hR
  have Y := Y.exchange (k := 0) rfl hx hok hft
  have Y : St M wb (e1 :: H) w2 := Y
  refine ab (hK8 _ _ ?_)
  refine ax Z rfl (fun hc2 => ?_) (fun hc2 => ?_)
  ·rw [hc2] at Z
   try simp only [qz] at hc2
   refine aa fun K9 hK9 => wlm Z rfl fun a Z => wla Z rfl fun a Z => ab (hK9 _ _ <| ap ?_)
   refine al Z results119 (ac rfl ag) ?_
   exact ⟨by rw [jU (k := k) om hp (by assumption)]; rfl, _, _, hJ1, Y⟩
  rw [hc2] at Z
  try simp only [qz] at hc2
  refine ar <| hK6 _ _ <| ao <| wlv Z (aV rfl rfl ⟨om, om⟩) fun a Z => wlm Z rfl fun a Z => ab ?_
  refine ⟨_, ?_, k + 1, e1, rfl, om, (by intro j hj; by_cases h : j = k; (subst h; assumption); exact hp j om), hJ1, Z.pick [0, 1, 6, 7, 8], Y⟩
  omega
 rw [hc1] at Z
 try simp only [qz] at hc1
 refine aJ <| hK2 _ _ <| aa fun K10 hK10 => wla Z rfl fun a Z => ab (hK10 _ _ <| ap ?_)
 refine al Z results119 (ac rfl ag) ?_
 have hkl : k = els.length := by omega
 subst hkl
 exact ⟨by rw [jZ hp]; rfl, _, _, hJ, Y⟩
theorem iH {M : Nat → Prop} {wb : World} {H : List Ent} {sv : Value} {els : List (List Value)} {caps : List Value} {g : FuncId} (p : Nat → Bool) (ev_ : Nat → Value) (J : Nat → Ent → Prop) (e0 : Ent) (w0 : World)
  (hen : ∀ args w, (callFunc g args).run Tryz.prog w = .ok (.enter g args) w) (hs : ∀ e w, St M wb (e :: H) w → SlAt w sv 1 els)
  (hev : ∀ k (h : k < els.length), (els[k])[0]? = some (ev_ k)) (hJ0 : J 0 e0) (Y : St M wb (e0 :: H) w0)
  (hcl : ∀ k e w, k < els.length → J k e → e.ok w → (∀ b, e.foot b → b < w.hz) → Ret Tryz.prog g ([ev_ k] ++ caps).toArray w fun v w' => v = .bool (p k) ∧ ∃ e', Ext e.foot w w' ∧ e'.ok w' ∧ (∀ b, e'.foot b → b < w'.heap.size ∧ (e.foot b ∨ w.hz ≤ b)) ∧ J (k + 1) e') :
  Ret Tryz.prog 108 #[sv, .func (.func g) #[] caps.toArray] w0 fun v w => v = .bool ((List.range els.length).any p) ∧ ∃ k e', J k e' ∧ St M wb (e' :: H) w := by
 refine aD func108 rfl ntmps108 (lb rfl) fun a Z => ?_
 replace Z := Z.p2 0 1 rfl
 refine aa fun K1 hK1 => wla Z rfl fun a Z => ab (hK1 _ _ <| aa fun K2 hK2 => ?_)
 refine wlm Z rfl fun a Z => wlm Z rfl fun a Z => wl_r (dN call119 rfl (me p ev_ J e0 _ hen hs hev hJ0 Y hcl)) rfl rfl Z fun a v w1 hR Z => ?_
 obtain ⟨rfl, kk, e1, hJ1, Y⟩ := hR
 refine wlv Z (v_ge rfl rfl) fun a Z => wla Z rfl fun a Z => ab (hK2 _ _ <| ap ?_)
 refine al Z results108 (ac rfl ag) ?_
 exact ⟨by rw [kZ]; rfl, _, _, hJ1, Y⟩
theorem qy (s : List UInt8) (w0 : World) :
  Ret Tryz.prog 107 #[sv s] w0 fun v w => v = .bool (!decide ((s.length : Int) = 32)) ∧ Ext No w0 w := by
 refine aD func107 rfl ntmps107 (lb rfl) fun a Z => ?_
 replace Z := Z.p1 0 rfl
 replace Y : St No w0 [] w0 := St.init w0
 refine aa fun K1 hK1 => wla Z rfl fun a Z => ab (hK1 _ _ <| aa fun K2 hK2 => ?_)
 refine wlm Z rfl fun a Z => am Z Y de call88 rfl (dV s _) ?_
 clear Z Y
 intro a w1 Z Y
 refine wlv Z (bq rfl) fun a Z => wla Z rfl fun a Z => ab (hK2 _ _ <| ap ?_)
 refine al Z results107 (ac rfl ag) ?_
 exact ⟨by rfl, Y.ext⟩
theorem lu {w0 : World} : St No w0 [PW.join []] w0 := by
 have := St.joinTail (M := No) (w0 := w0) (w := w0) [] [] (St.init w0)
 exact this
theorem nA (lv : Value) (xs : List By) (w0 : World) (h : SlAt w0 lv 1 (xs.map fun s => [sv s])) : Ret Tryz.prog 108 #[lv, .func (.func 107) #[] #[]] w0 fun v w => v = .bool ((List.range xs.length).any fun k => !decide (((xs.getD k []).length : Int) = 32)) ∧ Ext No w0 w := by
 refine (iH (M := No) (wb := w0) (H := []) (sv := lv) (els := xs.map fun s => [sv s]) (caps := []) (g := 107) (fun k => !decide (((xs.getD k []).length : Int) = 32)) (fun k => sv (xs.getD k [])) (fun _ e => e = PW.join []) (PW.join []) w0 call107 (fun e w Y => h.grow Y.ext) (fun k hk => ?_) rfl lu (fun k e w hk he hok hf => ?_)).mono ?_
 ·have hk' : k < xs.length := by simpa using hk
  simp [List.getD_eq_getElem?_getD, List.getElem?_eq_getElem hk']
 ·subst he
  refine (qy (xs.getD k []) w).mono ?_
  rintro v w' ⟨hv, hx⟩
  exact ⟨hv, PW.join [], hx.mono (fun b _ h => h.elim), (lu (w0 := w')).get (k := 0) rfl, fun b hb => by obtain ⟨e, he, _⟩ := hb; simp at he, rfl⟩
 ·rintro v w ⟨hv, k, e', hJ, Y⟩
  exact ⟨by rw [hv, List.length_map], Y.ext⟩
theorem o8 (xs : List By) : (!(List.range xs.length).any fun k => !decide (((xs.getD k []).length : Int) = 32)) = xs.all fun s => decide (s.length = 32) := by
 rw [Bool.eq_iff_iff]
 simp only [Bool.not_eq_true', List.any_eq_false, List.mem_range, Bool.not_eq_true, Bool.not_eq_false', decide_eq_true_eq, List.all_eq_true]
 constructor
 ·intro h s hs
  obtain ⟨k, hk, rfl⟩ := List.getElem_of_mem hs
  have := h k hk
  rw [List.getD_eq_getElem?_getD, List.getElem?_eq_getElem hk] at this
  simp at this
  omega
 ·intro h k hk
  have := h xs[k] (List.getElem_mem hk)
  rw [List.getD_eq_getElem?_getD, List.getElem?_eq_getElem hk]
  simp [this]
theorem nV (lv : Value) (xs : List By) (w0 : World) (hlv : SlAt w0 lv 1 (xs.map fun s => [sv s])) :
  Ret Tryz.prog 87 #[lv] w0 fun v w => v = .bool (xs.all fun s => decide (s.length = 32)) ∧ Ext No w0 w := by
 refine aD func87 rfl ntmps87 (lb rfl) fun a Z => ?_
 replace Z := Z.p1 0 rfl
 replace Y : St No w0 [] w0 := St.init w0
 refine aa fun K1 hK1 => wla Z rfl fun a Z => ab (hK1 _ _ <| aa fun K2 hK2 => ?_)
 refine wla Z rfl fun a Z => ab (hK2 _ _ <| aa fun K3 hK3 => ?_)
 refine wlm Z rfl fun a Z => wlm Z rfl fun a Z => am Z Y de call108 rfl (nA lv xs _ (Y.arg hlv)) ?_
 clear Z Y
 intro a w1 Z Y
 refine wlv Z (bq rfl) fun a Z => wla Z rfl fun a Z => ab (hK3 _ _ ?_)
 replace Z := Z.p1 2 rfl
 refine ap ?_
 refine al Z results87 (ac rfl ag) ?_
 exact ⟨by simp only [retv]; rw [← o8]; try rfl, Y.ext⟩
theorem lE (lv : Value) (xs : List By) (w0 : World) (hlv : SlAt w0 lv 1 (xs.map fun s => [sv s])) (h0 : 0 < xs.length) :
  Ret Tryz.prog 89 #[lv] w0 fun v w => v = .tuple #[sv (xs.getD (xs.length - 1) []), cut lv 1 0 (xs.length - 1) (slCap lv), .bool true] ∧ Ext No w0 w := by
 have hnb := hlv.le
 rw [List.length_map] at hnb
 refine aD func89 rfl ntmps89 (lb rfl) fun a Z => ?_
 replace Z := Z.p1 0 rfl
 replace Y : St No w0 [] w0 := St.init w0
 refine aa fun K1 hK1 => wla Z rfl fun a Z => wla Z rfl fun a Z => wla Z rfl fun a Z => ab (hK1 _ _ <| ae fun K2 hK2 => ?_)
 refine aa fun K3 hK3 => wlm Z rfl fun a Z => wlv Z ((aE (sT := 26) (Y.arg hlv) rfl rfl (runUnderlying26 _)).asi (m' := (xs.length : Int)) sm) fun a Z => wlv Z ((v_eq rfl rfl).asb (b' := false) (by rw [decide_eq_false_iff_not]; omega)) fun a Z => ab (hK3 _ _ <| aL Z rfl ?_)
 refine ar <| hK2 _ _ <| aa fun K4 hK4 => wlm Z rfl fun a Z => wlv Z ((aE (sT := 26) (Y.arg hlv) rfl rfl (runUnderlying26 _)).asi (m' := (xs.length : Int)) sm) fun a Z => wlv Z (bh rfl rfl ⟨om, om⟩) fun a Z => wla Z rfl fun a Z => ab (hK4 _ _ ?_)
 replace Z := Z.p5 0 2 3 4 5 rfl
 refine ae fun K5 hK5 => aF kr (aG kr fun w1 hxz => ?_)
 replace Y := Y.grow hxz
 refine aT (k := 0) 8 [6, 7] Z kr kr kr rfx ?_
 replace Z := Z.p4 0 3 4 5 rfl
 refine aA [] (fun i => match i with | _ => fun _ _ => False) 8 [[], [], [0, 1], [2], [], [], [4, 5], [3]] [lv, iv ((xs.length : Int) - 1), slAddr lv ((xs.length - 1) * 1), sv (xs.getD (xs.length - 1) []), lv, iv ((xs.length : Int) - 1), (cut lv 1 0 (xs.length - 1) (slCap lv)), sv (xs.getD (xs.length - 1) [])] Z Y kr kr kr ?_ ?_ ?_
 ·intro i hi hiq
  match i, hi, hiq with
  | 0, _, _ => exact fun w Y => OpV.g (ah rfl)
  | 1, _, _ => exact fun w Y => OpV.g (ah rfl)
  | 2, _, _ => exact fun w Y => OpV.g ((aj (i := (xs.length : Int) - 1) (sT := 26) (Y.arg hlv) rfl rfl (runUnderlying26 _) (sizeOf9 _) om (by simp; omega)).as (v' := slAddr lv ((xs.length - 1) * 1)) (by rw [show ((xs.length : Int) - 1).toNat = (xs.length - 1) from by omega]))
  | 3, _, _ => exact fun w Y => OpV.g (au (u := sv (xs.getD (xs.length - 1) [])) (i := (xs.length - 1)) (j := 0) (Y.arg hlv) (by simp; omega) rfl (isAgg9 _) (by simp [List.getD_eq_getElem?_getD, List.getElem?_eq_getElem (show (xs.length - 1) < xs.length by omega)]))
  | 4, _, _ => exact fun w Y => OpV.g (ah rfl)
  | 5, _, _ => exact fun w Y => OpV.g (ah rfl)
  | 6, _, _ => exact fun w Y => OpV.g (bd (l := 0) (h := (xs.length - 1)) (Y.arg hlv) rfl rfl rfl underlying26 kr (.inl ⟨rfl, rfl⟩) (.inr (by rw [show ((xs.length : Int) - 1 : Int) = (((xs.length - 1) : Nat) : Int) from by omega] <;> rfl)) (Nat.zero_le _) (by first | (rw [List.length_map]; omega) | (simp <;> omega)))
  | 7, _, _ => exact fun w Y => OpV.g (cw rfl)
 ·intro i hi
  exact absurd hi sm
 clear Z Y
 intro  a w2 Z Y
 replace Z : Fr 19 [(12, lv), (13, iv ((xs.length : Int) - 1)), (14, slAddr lv ((xs.length - 1) * 1)), (15, sv (xs.getD (xs.length - 1) [])), (16, lv), (17, iv ((xs.length : Int) - 1)), (18, (cut lv 1 0 (xs.length - 1) (slCap lv))), (2, sv (xs.getD (xs.length - 1) [])), (0, _), (3, _), (4, _), (5, _)] [] a := Z
 refine ab <| aP (k := 8) 10 [9] kr kr kr ?_
 refine wla Z rfl fun a Z => wla Z rfl fun a Z => ab <| aS kr ?_
 refine hK5 _ _ ?_
 replace Z := Z.p3 2 3 4 rfl
 refine ap ?_
 refine al Z results89 (ac rfl (ac rfl (ac rfl ag))) ?_
 exact ⟨by rfl, Y.ext⟩
theorem kI (x : Wd) (n : Nat) (w0 : World) (hn : 0 < n) (hn2 : n < 32) :
  Ret Tryz.prog 104 #[wv x, iv (n : Int)] w0 fun v w => v = wv ((x >>> n) ||| (x <<< (32 - n))) ∧ Ext No w0 w := by
 refine aD func104 rfl ntmps104 (lb rfl) fun a Z => ?_
 replace Z := Z.p2 0 1 rfl
 replace Y : St No w0 [] w0 := St.init w0
 refine aa fun K1 hK1 => wla Z rfl fun a Z => ab (hK1 _ _ <| ae fun K2 hK2 => ?_)
 refine aF kr (aG kr fun w1 hxz => ?_)
 replace Y := Y.grow hxz
 refine aT (k := 0) 7 [2, 6] Z kr kr kr rfx ?_
 replace Z := Z.p3 0 1 4 rfl
 refine aA [] (fun i => match i with | _ => fun _ _ => False) 7 [[], [], [0, 1], [], [], [4], [3, 5]] [wv x, iv (n : Int), wv (x >>> n), wv x, iv (n : Int), iv ((32 - n : Nat) : Int), wv (x <<< (32 - n))] Z Y kr kr kr ?_ ?_ ?_
 ·intro i hi hiq
  match i, hi, hiq with
  | 0, _, _ => exact fun w Y => OpV.g (ah rfl)
  | 1, _, _ => exact fun w Y => OpV.g (ah rfl)
  | 2, _, _ => exact fun w Y => OpV.g (dv (n := n) rfl rfl)
  | 3, _, _ => exact fun w Y => OpV.g (ah rfl)
  | 4, _, _ => exact fun w Y => OpV.g (ah rfl)
  | 5, _, _ => exact fun w Y => OpV.g ((bh rfl rfl ⟨om, om⟩).asi (m' := ((32 - n : Nat) : Int)) om)
  | 6, _, _ => exact fun w Y => OpV.g (dU (n := (32 - n)) rfl rfl)
 ·intro i hi
  exact absurd hi sm
 clear Z Y
 intro  a w2 Z Y
 replace Z : Fr 13 [(5, wv x), (6, iv (n : Int)), (7, wv (x >>> n)), (8, wv x), (9, iv (n : Int)), (10, iv ((32 - n : Nat) : Int)), (11, wv (x <<< (32 - n))), (0, _), (1, _), (4, _)] [] a := Z
 refine ab <| aP (k := 7) 9 [8] kr kr kr ?_
 refine wlv Z (fG rfl rfl) fun a Z => wla Z rfl fun a Z => ab <| aS kr ?_
 refine hK2 _ _ ?_
 replace Z := Z.p1 4 rfl
 refine ap ?_
 refine al Z results104 (ac rfl ag) ?_
 exact ⟨by rfl, Y.ext⟩
theorem lB {st : List (By × Nat)} (h : 2 ≤ st.length) : ∃ r2 s2 r1 s1 t, st = (r2, s2) :: (r1, s1) :: t ∧ st.reverse.getD (st.length - 2) ([], 0) = (r1, s1) ∧ st.reverse.getD (st.length - 1) ([], 0) = (r2, s2) ∧ st.reverse.take (st.length - 2) = t.reverse := by
 match st, h with
 | (r2, s2) :: (r1, s1) :: t, _ =>
  refine ⟨r2, s2, r1, s1, t, rfl, ?_, ?_, ?_⟩ <;> simp [List.getD_eq_getElem?_getD, List.getElem?_append]
theorem l4 {st : List (By × Nat)} (hW : incrW st) (h2 : 2 ≤ st.length) (h : ¬ ((st.reverse.getD (st.length - 2) ([], 0)).2 : Int) = ((st.reverse.getD (st.length - 1) ([], 0)).2 : Int)) : incr st := by
 obtain ⟨r2, s2, r1, s1, t, e, e1, e2, _⟩ := lB h2
 rw [e1, e2] at h
 refine hW.strict fun x y t' e' he => h ?_
 rw [e] at e'
 injection e' with h3 h4
 injection h4 with h5 h6
 subst h3 h5
 exact congrArg Int.ofNat he.symm
theorem Stk.le : ∀ {st : List (By × Nat)} {l : List By}, Stk sha st l → st.length ≤ l.length ∧ ∀ x ∈ st, x.1.length = 32 ∧ x.2 ≤ l.length
 | [], l, h => ⟨Nat.zero_le _, fun x hx => by cases hx⟩
 | x :: st, l, h => by
  obtain ⟨l1, c, rfl, hc, ⟨a, ha⟩, hr, Y⟩ := h
  have hp : 0 < c.length := by rw [hc, ha]; exact Nat.pow_pos de
  obtain ⟨i1, i2⟩ := Stk.le Y
  refine ⟨by simp; omega, fun y hy => ?_⟩
  rcases List.mem_cons.1 hy with rfl | hy
  ·exact ⟨by rw [hr]; exact bc aZ c, by rw [List.length_append]; omega⟩
  ·have := i2 y hy
   exact ⟨this.1, by rw [List.length_append]; omega⟩
theorem ox {st : List (By × Nat)} {l : List By} (h : Stk sha st l) (hi : incr st) (h0 : 0 < st.length) : (backs ((st.drop 1).reverse.map Prod.fst).length ((st.drop 1).reverse.map Prod.fst).length).foldl (fun o k => nodeH sha (((st.drop 1).reverse.map Prod.fst).getD k []) o) (st.reverse.getD (st.length - 1) ([], 0)).1 = rootH sha l := by
 match st, h0 with
 | x :: st, _ =>
  rw [eH (fun o r => nodeH sha r o) [] _ _ _ (Nat.le_refl _)]
  have e : (x :: st).reverse.getD ((x :: st).length - 1) ([], 0) = x := by simp [List.getD_eq_getElem?_getD, List.getElem?_append]
  rw [e, Nat.sub_self, List.drop_zero, List.drop_one, List.tail_cons, ← List.map_reverse, List.reverse_reverse, List.foldl_map]
  exact kY sha h hi
theorem ky (st : List (By × Nat)) : (st.reverse.map fun x : By × Nat => [sv x.1]).take (st.length - 1) = (((st.drop 1).reverse.map Prod.fst).map fun s => [sv s]) := by
 cases st with
 | nil => rfl
 | cons x st => simp [List.take_append, Function.comp_def]
theorem ef (lv : Value) (ls : List By) (w0 : World) (hlv : SlAt w0 lv 1 (ls.map fun s => [sv s])) (hxn : ls.length ≤ 1000) (hxl : ∀ k, k < ls.length → (ls.getD k []).length ≤ 40000000) (hk0 : (blk 0 (kOf.map wv) 161).ok w0) :
  Ret Tryz.prog 41 #[lv] w0 fun v w => v = sv (rootH sha ls) ∧ Ext No w0 w := by
 have hnb := hlv.le
 rw [List.length_map] at hnb
 refine aD func41 rfl ntmps41 (lb rfl) fun a Z => ?_
 replace Z := Z.p1 0 rfl
 replace Y : St (· = 0) w0 [blk 0 (kOf.map wv) 161] w0 := St.one hk0
 refine aa fun K1 hK1 => wla Z rfl fun a Z => ab (hK1 _ _ <| aa fun K2 hK2 => ?_)
 refine wla Z rfl fun a Z => ab (hK2 _ _ <| aa fun K3 hK3 => ?_)
 refine wla Z rfl fun a Z => ab (hK3 _ _ <| ae fun K4 hK4 => ?_)
 refine aa fun K5 hK5 => wlm Z rfl fun a Z => wlv Z ((aE (sT := 26) (hlv.grow (Y.ext.const hk0 (Y.g 0 rfl))) rfl rfl (runUnderlying26 _)).asi (m' := (ls.length : Int)) sm) fun a Z => wlm Z rfl fun a Z => ab (hK5 _ _ <| aq ?_)
 replace Y : St (· = 0) w0 [own (.slice none 0 0) 9 1 (([] : List (By × Nat)).reverse.map fun x : By × Nat => [sv x.1]), own (.slice none 0 0) 3 1 (([] : List (By × Nat)).reverse.map fun x : By × Nat => [iv (x.2 : Int)]), blk 0 (kOf.map wv) 161] w0 := Y.nil_own.nil_own
 refine aR (fun m a w => ∃ (k : Nat) (st : List (By × Nat)) (v : Value) (u : Value), m = ls.length - k ∧ (k ≤ ls.length) ∧ (Stk sha st (ls.take k)) ∧ (incr st) ∧ Fr 96 [(2, .string (⟨#[]⟩)), (11, lv), (12, iv (ls.length : Int)), (13, iv (k : Int)), (3, v), (4, u)] [] a ∧ St (· = 0) w0 [own v 9 1 (st.reverse.map fun x : By × Nat => [sv x.1]), own u 3 1 (st.reverse.map fun x : By × Nat => [iv (x.2 : Int)]), blk 0 (kOf.map wv) 161] w) _ ⟨0, [], .slice none 0 0, .slice none 0 0, rfl, Nat.zero_le _, rfl, trivial, Z.pick [2, 11, 12, 13, 3, 4], Y.select [0, 1, 2] de⟩ ?_
 rintro _ a w1 ⟨k, st, v, u, rfl, hk, hS, hI, Z, Y⟩
 refine aa fun K6 hK6 => wlv Z (v_lt rfl rfl) fun a Z => ab (hK6 _ _ <| ae fun K7 hK7 => ?_)
 refine ax Z rfl (fun hc1 => ?_) (fun hc1 => ?_)
 ·rw [hc1] at Z
  try simp only [qz] at hc1
  refine ar <| hK7 _ _ <| ae fun K8 hK8 => aq <| aa fun K9 hK9 => wlv Z ((aj (i := (k : Int)) (sT := 26) (hlv.grow (Y.ext.const hk0 (Y.g 2 rfl))) rfl rfl (runUnderlying26 _) (sizeOf9 _) om (by first | (rw [List.length_map]; omega) | (rw [List.length_map, List.length_reverse]; omega))).as (v' := slAddr lv (k * 1)) rfl) fun a Z => ?_
  refine wlv Z (au (u := sv (ls.getD k [])) (i := k) (j := 0) (hlv.grow (Y.ext.const hk0 (Y.g 2 rfl))) (by first | (rw [List.length_map]; omega) | (rw [List.length_map, List.length_reverse]; omega)) rfl (isAgg9 _) (by simp [List.getD_eq_getElem?_getD, List.getElem?_eq_getElem (show k < ls.length by omega)])) fun a Z => wla Z rfl fun a Z => ?_
  refine ab (hK9 _ _ <| aa fun K10 hK10 => ?_)
  refine wlm Z rfl fun a Z => wlm Z rfl fun a Z => am Z Y de call75 rfl (iE (ls.getD k []) _ (hxl k om) (Y.g 2 rfl)) ?_
  clear Z Y
  intro a w2 Z Y
  refine aC (E := 9) (sz := 1) rfl [[sv (leafH sha (ls.getD k []))]] kr sm rfl de de Z Y ?_
  clear Z Y
  intro a w3 Z Y
  refine aN (i := 1) (sT := 26) (inf := Tryz.t9) (z := .string (⟨#[]⟩)) (b := 0) (off := 0) (m := 0) (c := 0) rfl rfl rfl (Y.ow 0 rfl) sm underlying26 rfl rfl rfl rfl de (by simp [Value.oneCell', yv, wv, sv]) (by have hby : Tryz.t9.bytes = 16 := rfl; have hby3 : Tryz.t3.bytes = 8 := rfl; have hle0 := hS.le.1; rw [List.length_take] at hle0; simp only [big, hby, hby3, List.length_append, List.length_take, List.length_map, List.length_reverse, List.length_cons, List.length_nil]; omega) (by have hby : Tryz.t9.bytes = 16 := rfl; have hby3 : Tryz.t3.bytes = 8 := rfl; have hle0 := hS.le.1; rw [List.length_take] at hle0; simp only [big, hby, hby3, List.length_append, List.length_take, List.length_map, List.length_reverse, List.length_cons, List.length_nil]; omega) de Z Y fun a w4 s2 Z Y _ => ?_
  refine wlm Z rfl fun a Z => aC (E := 3) (sz := 1) rfl [[iv 1]] kr sm rfl de de Z Y ?_
  clear Z Y
  intro a w5 Z Y
  refine aN (i := 3) (sT := 40) (inf := Tryz.t3) (z := iv 0) (b := 0) (off := 0) (m := 0) (c := 0) rfl rfl rfl (Y.ow 0 rfl) sm underlying40 rfl rfl rfl rfl de (by simp [Value.oneCell', yv, wv, sv]) (by have hby : Tryz.t9.bytes = 16 := rfl; have hby3 : Tryz.t3.bytes = 8 := rfl; have hle0 := hS.le.1; rw [List.length_take] at hle0; simp only [big, hby, hby3, List.length_append, List.length_take, List.length_map, List.length_reverse, List.length_cons, List.length_nil]; omega) (by have hby : Tryz.t9.bytes = 16 := rfl; have hby3 : Tryz.t3.bytes = 8 := rfl; have hle0 := hS.le.1; rw [List.length_take] at hle0; simp only [big, hby, hby3, List.length_append, List.length_take, List.length_map, List.length_reverse, List.length_cons, List.length_nil]; omega) de Z Y fun a w6 s3 Z Y _ => ?_
  refine wla Z rfl fun a Z => wla Z rfl fun a Z => ab (hK10 _ _ ?_)
  replace Z := Z.p6 2 11 12 13 3 4 rfl
  replace Y := Y.k3 28 rfl
  refine aa fun K11 hK11 => wlm Z rfl fun a Z => wlv Z ((aE (sT := 40) (Y.ow 1 rfl) rfl rfl (runUnderlying40 _)).asi (m' := ((st.length + 1 : Nat) : Int)) sm) fun a Z => wla Z rfl fun a Z => ab (hK11 _ _ <| aq ?_)
  rw [show (st.reverse.map fun x : By × Nat => [sv x.1]) ++ ([[sv (leafH sha (ls.getD k []))]]) = (((leafH sha (ls.getD k []), 1) :: st).reverse.map fun x : By × Nat => [sv x.1]) from by simp] at Y
  rw [show (st.reverse.map fun x : By × Nat => [iv (x.2 : Int)]) ++ ([[iv 1]]) = (((leafH sha (ls.getD k []), 1) :: st).reverse.map fun x : By × Nat => [iv (x.2 : Int)]) from by simp] at Y
  obtain ⟨hS1, hW1⟩ := Stk.push sha hS hI (ls.getD k [])
  rw [← bO [] om] at hS1
  refine aR (fun m a w => ∃ (st1 : List (By × Nat)) (v1 : Value) (u1 : Value), m = st1.length ∧ (Stk sha st1 (ls.take (k + 1))) ∧ (incrW st1) ∧ Fr 96 [(2, .string (⟨#[]⟩)), (11, lv), (12, iv (ls.length : Int)), (13, iv (k : Int)), (7, iv (st1.length : Int)), (3, v1), (4, u1)] [] a ∧ St (· = 0) w0 [own v1 9 1 (st1.reverse.map fun x : By × Nat => [sv x.1]), own u1 3 1 (st1.reverse.map fun x : By × Nat => [iv (x.2 : Int)]), blk 0 (kOf.map wv) 161] w) _ ⟨((leafH sha (ls.getD k []), 1) :: st), s2, s3, rfl, hS1, hW1, Z.pick [2, 11, 12, 13, 7, 3, 4], Y.select [0, 1, 2] de⟩ ?_
  rintro _ a w7 ⟨st1, v1, u1, rfl, hS1, hW1, Z, Y⟩
  have hle1 := hS1.le
  have hln1 : st1.length ≤ ls.length := Nat.le_trans hle1.1 (by rw [List.length_take]; omega)
  refine ae fun K12 hK12 => ae fun K13 hK13 => aF kr (aG kr fun w8 hxz => ?_)
  replace Y : St (· = 0) w0 [own v1 9 1 (st1.reverse.map fun x : By × Nat => [sv x.1]), own u1 3 1 (st1.reverse.map fun x : By × Nat => [iv (x.2 : Int)]), blk 0 (kOf.map wv) 161] w8 := Y.grow hxz
  refine aP (k := 0) 3 [2] kr kr kr ?_
  refine wlm Z rfl fun a Z => wlv Z (v_gt rfl rfl) fun a Z => wlm Z rfl fun a Z => ab ?_
  rcases Bool.eq_false_or_eq_true (decide (1 < (st1.length : Int))) with hb4 | hb4
  ·rw [hb4] at Z
   try simp only [qz] at hb4
   obtain ⟨r2, s2, r1, s1, t, hst0, e1, e2, e3⟩ := lB (st := st1) om
   have hb1 := hle1.2 (st1.reverse.getD (st1.length - 2) ([], 0)) (List.mem_reverse.1 (aW (by rw [List.length_reverse]; omega)))
   have hb2 := hle1.2 (st1.reverse.getD (st1.length - 1) ([], 0)) (List.mem_reverse.1 (aW (by rw [List.length_reverse]; omega)))
   rw [List.length_take] at hb1 hb2
   refine aT (k := 3) 13 [7, 12] Z kr kr kr rfx ?_
   replace Z := Z.p10 2 11 12 13 7 3 4 27 28 29 rfl
   refine aA [] (fun i => match i with | _ => fun _ _ => False) 10 [[], [], [1], [0, 2], [3], [], [], [6], [5, 7], [8]] [u1, iv (st1.length : Int), iv ((st1.length : Int) - 2), slAddr u1 ((st1.length - 2) * 1), iv ((st1.reverse.getD (st1.length - 2) ([], 0)).2 : Int), u1, iv (st1.length : Int), iv ((st1.length : Int) - 1), slAddr u1 ((st1.length - 1) * 1), iv ((st1.reverse.getD (st1.length - 1) ([], 0)).2 : Int)] Z Y kr kr kr ?_ ?_ ?_
   ·intro i hi hiq
    match i, hi, hiq with
    | 0, _, _ => exact fun w Y => OpV.g (ah rfl)
    | 1, _, _ => exact fun w Y => OpV.g (ah rfl)
    | 2, _, _ => exact fun w Y => OpV.g (bh rfl rfl ⟨om, om⟩)
    | 3, _, _ => exact fun w Y => OpV.g ((aj (i := (st1.length : Int) - 2) (sT := 40) (Y.ow 1 rfl) rfl rfl (runUnderlying40 _) (sizeOf3 _) om (by first | (rw [List.length_map]; omega) | (rw [List.length_map, List.length_reverse]; omega))).as (v' := slAddr u1 ((st1.length - 2) * 1)) (by rw [show ((st1.length : Int) - 2).toNat = (st1.length - 2) from by omega]))
    | 4, _, _ => exact fun w Y => OpV.g (au (u := iv ((st1.reverse.getD (st1.length - 2) ([], 0)).2 : Int)) (i := (st1.length - 2)) (j := 0) (Y.ow 1 rfl) (by first | (rw [List.length_map]; omega) | (rw [List.length_map, List.length_reverse]; omega)) rfl (isAgg3 _) (by rw [br ([], 0)]; rfl))
    | 5, _, _ => exact fun w Y => OpV.g (ah rfl)
    | 6, _, _ => exact fun w Y => OpV.g (ah rfl)
    | 7, _, _ => exact fun w Y => OpV.g (bh rfl rfl ⟨om, om⟩)
    | 8, _, _ => exact fun w Y => OpV.g ((aj (i := (st1.length : Int) - 1) (sT := 40) (Y.ow 1 rfl) rfl rfl (runUnderlying40 _) (sizeOf3 _) om (by first | (rw [List.length_map]; omega) | (rw [List.length_map, List.length_reverse]; omega))).as (v' := slAddr u1 ((st1.length - 1) * 1)) (by rw [show ((st1.length : Int) - 1).toNat = (st1.length - 1) from by omega]))
    | 9, _, _ => exact fun w Y => OpV.g (au (u := iv ((st1.reverse.getD (st1.length - 1) ([], 0)).2 : Int)) (i := (st1.length - 1)) (j := 0) (Y.ow 1 rfl) (by first | (rw [List.length_map]; omega) | (rw [List.length_map, List.length_reverse]; omega)) rfl (isAgg3 _) (by rw [br ([], 0)]; rfl))
   ·intro i hi
    exact absurd hi sm
   clear Z Y
   intro  a w9 Z Y
   replace Z : Fr 96 [(30, u1), (31, iv (st1.length : Int)), (32, iv ((st1.length : Int) - 2)), (33, slAddr u1 ((st1.length - 2) * 1)), (34, iv ((st1.reverse.getD (st1.length - 2) ([], 0)).2 : Int)), (35, u1), (36, iv (st1.length : Int)), (37, iv ((st1.length : Int) - 1)), (38, slAddr u1 ((st1.length - 1) * 1)), (39, iv ((st1.reverse.getD (st1.length - 1) ([], 0)).2 : Int)), (2, _), (11, _), (12, _), (13, _), (7, _), (3, _), (4, _), (27, _), (28, _), (29, _)] [] a := Z
   refine ab <| aP (k := 13) 15 [14] kr kr kr ?_
   refine wly Z (v_eq rfl rfl) fun a Z => wlv Z (az rfl rfl) fun a Z => ab <| aS kr ?_
   refine hK13 _ _ ?_
   replace Z := Z.p8 2 11 12 13 7 3 4 41 rfl
   refine ax Z rfl (fun hc5 => ?_) (fun hc5 => ?_)
   ·rw [hc5] at Z
    try simp only [qz] at hc5
    obtain rfl : s1 = s2 := by rw [e1, e2] at hc5; simp only at hc5; omega
    refine ar <| hK12 _ _ <| ae fun K14 hK14 => aq <| ae fun K15 hK15 => aF kr (aG kr fun w10 hxz => ?_)
    replace Y : St (· = 0) w0 [own v1 9 1 (st1.reverse.map fun x : By × Nat => [sv x.1]), own u1 3 1 (st1.reverse.map fun x : By × Nat => [iv (x.2 : Int)]), blk 0 (kOf.map wv) 161] w10 := Y.grow hxz
    refine aT (k := 0) 16 [3, 15] Z kr kr kr rfx ?_
    replace Z := Z.p8 2 11 12 13 7 3 4 41 rfl
    refine aA [15] (fun i => match i with | 15 => pm (fun b : Nat => .slice (some ⟨b, 0, none⟩) 1 1) (fun b => [own (.slice (some ⟨b, 0, none⟩) 1 1) 9 1 [[sv (nodeH sha ((st1.reverse.getD (st1.length - 2) ([], 0)).1) ((st1.reverse.getD (st1.length - 1) ([], 0)).1))]]]) (fun _ => True) | _ => fun _ _ => False) 16 [[], [], [1], [0, 2], [], [], [5], [4, 6], [7], [], [], [10], [9, 11], [12], [8, 13], [14]] [v1, iv (st1.length : Int), iv ((st1.length : Int) - 2), (cut v1 1 0 (st1.length - 2) (slCap v1)), v1, iv (st1.length : Int), iv ((st1.length : Int) - 2), slAddr v1 ((st1.length - 2) * 1), sv ((st1.reverse.getD (st1.length - 2) ([], 0)).1), v1, iv (st1.length : Int), iv ((st1.length : Int) - 1), slAddr v1 ((st1.length - 1) * 1), sv ((st1.reverse.getD (st1.length - 1) ([], 0)).1), sv (nodeH sha ((st1.reverse.getD (st1.length - 2) ([], 0)).1) ((st1.reverse.getD (st1.length - 1) ([], 0)).1)), undef] Z Y kr kr kr ?_ ?_ ?_
    ·intro i hi hiq
     match i, hi, hiq with
     | 0, _, _ => exact fun w Y => OpV.g (ah rfl)
     | 1, _, _ => exact fun w Y => OpV.g (ah rfl)
     | 2, _, _ => exact fun w Y => OpV.g (bh rfl rfl ⟨om, om⟩)
     | 3, _, _ => exact fun w Y => OpV.g (bd (l := 0) (h := (st1.length - 2)) (Y.ow 0 rfl) rfl rfl rfl underlying26 kr (.inl ⟨rfl, rfl⟩) (.inr (by rw [show ((st1.length : Int) - 2 : Int) = (((st1.length - 2) : Nat) : Int) from by omega] <;> rfl)) (Nat.zero_le _) (by first | (rw [List.length_map]; omega) | (simp <;> omega)))
     | 4, _, _ => exact fun w Y => OpV.g (ah rfl)
     | 5, _, _ => exact fun w Y => OpV.g (ah rfl)
     | 6, _, _ => exact fun w Y => OpV.g (bh rfl rfl ⟨om, om⟩)
     | 7, _, _ => exact fun w Y => OpV.g ((aj (i := (st1.length : Int) - 2) (sT := 26) (Y.ow 0 rfl) rfl rfl (runUnderlying26 _) (sizeOf9 _) om (by first | (rw [List.length_map]; omega) | (rw [List.length_map, List.length_reverse]; omega))).as (v' := slAddr v1 ((st1.length - 2) * 1)) (by rw [show ((st1.length : Int) - 2).toNat = (st1.length - 2) from by omega]))
     | 8, _, _ => exact fun w Y => OpV.g (au (u := sv ((st1.reverse.getD (st1.length - 2) ([], 0)).1)) (i := (st1.length - 2)) (j := 0) (Y.ow 0 rfl) (by first | (rw [List.length_map]; omega) | (rw [List.length_map, List.length_reverse]; omega)) rfl (isAgg9 _) (by rw [br ([], 0)]; rfl))
     | 9, _, _ => exact fun w Y => OpV.g (ah rfl)
     | 10, _, _ => exact fun w Y => OpV.g (ah rfl)
     | 11, _, _ => exact fun w Y => OpV.g (bh rfl rfl ⟨om, om⟩)
     | 12, _, _ => exact fun w Y => OpV.g ((aj (i := (st1.length : Int) - 1) (sT := 26) (Y.ow 0 rfl) rfl rfl (runUnderlying26 _) (sizeOf9 _) om (by first | (rw [List.length_map]; omega) | (rw [List.length_map, List.length_reverse]; omega))).as (v' := slAddr v1 ((st1.length - 1) * 1)) (by rw [show ((st1.length : Int) - 1).toNat = (st1.length - 1) from by omega]))
     | 13, _, _ => exact fun w Y => OpV.g (au (u := sv ((st1.reverse.getD (st1.length - 1) ([], 0)).1)) (i := (st1.length - 1)) (j := 0) (Y.ow 0 rfl) (by first | (rw [List.length_map]; omega) | (rw [List.length_map, List.length_reverse]; omega)) rfl (isAgg9 _) (by rw [br ([], 0)]; rfl))
     | 14, _, _ => exact fun w Y => bw call76 rfl (eV ((st1.reverse.getD (st1.length - 2) ([], 0)).1) ((st1.reverse.getD (st1.length - 1) ([], 0)).1) _ (by first | omega | (have := hy32 xs (by have h := hnx; unfold NxB at h; omega); omega)) (by first | omega | exact Nat.le_trans (Nat.le_of_eq hf32) de) (Y.g 2 rfl))
     | 15, _, h => exact absurd sm h
     | i + 16, h, _ => exact absurd h om
    ·intro i hi
     simp only [List.mem_cons, List.not_mem_nil, or_false] at hi
     subst hi
     ·intro w Y
      exact aX (E := 9) (sz := 1) rfl [[sv (nodeH sha ((st1.reverse.getD (st1.length - 2) ([], 0)).1) ((st1.reverse.getD (st1.length - 1) ([], 0)).1))]] (fun _ => by kernel_rfl) sm rfl de
    clear Z Y
    rintro _ _ ⟨b6, rfl, -, rfl⟩ a w11 Z Y
    replace Z : Fr 96 [(44, v1), (45, iv (st1.length : Int)), (46, iv ((st1.length : Int) - 2)), (47, (cut v1 1 0 (st1.length - 2) (slCap v1))), (48, v1), (49, iv (st1.length : Int)), (50, iv ((st1.length : Int) - 2)), (51, slAddr v1 ((st1.length - 2) * 1)), (52, sv ((st1.reverse.getD (st1.length - 2) ([], 0)).1)), (53, v1), (54, iv (st1.length : Int)), (55, iv ((st1.length : Int) - 1)), (56, slAddr v1 ((st1.length - 1) * 1)), (57, sv ((st1.reverse.getD (st1.length - 1) ([], 0)).1)), (58, sv (nodeH sha ((st1.reverse.getD (st1.length - 2) ([], 0)).1) ((st1.reverse.getD (st1.length - 1) ([], 0)).1))), (59, _), (2, _), (11, _), (12, _), (13, _), (7, _), (3, _), (4, _), (41, _)] [] a := Z
    replace Y : St (· = 0) w0 [_, _, _, _] w11 := Y
    refine ab <| aP (k := 16) 18 [17] kr kr kr ?_
    replace Y : St (· = 0) w0 [own (.slice (some ⟨b6, 0, none⟩) 1 1) 9 1 ([[sv (nodeH sha ((st1.reverse.getD (st1.length - 2) ([], 0)).1) ((st1.reverse.getD (st1.length - 1) ([], 0)).1))]]), own (cut v1 1 0 (st1.length - 2) (slCap v1)) 9 1 ((st1.reverse.map fun x : By × Nat => [sv x.1]).take (st1.length - 2)), own u1 3 1 (st1.reverse.map fun x : By × Nat => [iv (x.2 : Int)]), blk 0 (kOf.map wv) 161] w11 := Y.take (i := 1) (k := (st1.length - 2)) rfl (by simp <;> omega)
    refine aN (i := 1) (sT := 26) (inf := Tryz.t9) (z := .string (⟨#[]⟩)) (b := 0) (off := 0) (m := 0) (c := 0) rfl rfl rfl (Y.ow 0 rfl) sm underlying26 rfl rfl rfl rfl de (by simp [Value.oneCell', yv, wv, sv]) (by have hby : Tryz.t9.bytes = 16 := rfl; have hby3 : Tryz.t3.bytes = 8 := rfl; have hle0 := hS.le.1; rw [List.length_take] at hle0; simp only [big, hby, hby3, List.length_append, List.length_take, List.length_map, List.length_reverse, List.length_cons, List.length_nil]; omega) (by have hby : Tryz.t9.bytes = 16 := rfl; have hby3 : Tryz.t3.bytes = 8 := rfl; have hle0 := hS.le.1; rw [List.length_take] at hle0; simp only [big, hby, hby3, List.length_append, List.length_take, List.length_map, List.length_reverse, List.length_cons, List.length_nil]; omega) de Z Y fun a w12 s7 Z Y _ => ?_
    refine wla Z rfl fun a Z => ab <| aS kr ?_
    refine hK15 _ _ ?_
    replace Z := Z.p7 2 11 12 13 7 4 3 rfl
    replace Y := Y.k3 14 rfl
    refine aF kr (aG kr fun w13 hxz => ?_)
    replace Y : St (· = 0) w0 [own s7 9 1 (((st1.reverse.map fun x : By × Nat => [sv x.1]).take (st1.length - 2)) ++ ([[sv (nodeH sha ((st1.reverse.getD (st1.length - 2) ([], 0)).1) ((st1.reverse.getD (st1.length - 1) ([], 0)).1))]])), own u1 3 1 (st1.reverse.map fun x : By × Nat => [iv (x.2 : Int)]), blk 0 (kOf.map wv) 161] w13 := Y.grow hxz
    refine aT (k := 0) 11 [3, 10] Z kr kr kr rfx ?_
    replace Z := Z.p7 2 11 12 13 7 4 3 rfl
    refine aA [10] (fun i => match i with | 10 => pm (fun b : Nat => .slice (some ⟨b, 0, none⟩) 1 1) (fun b => [own (.slice (some ⟨b, 0, none⟩) 1 1) 3 1 [[iv (2 * ((st1.reverse.getD (st1.length - 1) ([], 0)).2 : Int))]]]) (fun _ => True) | _ => fun _ _ => False) 11 [[], [], [1], [0, 2], [], [], [5], [4, 6], [7], [8], [9]] [u1, iv (st1.length : Int), iv ((st1.length : Int) - 2), (cut u1 1 0 (st1.length - 2) (slCap u1)), u1, iv (st1.length : Int), iv ((st1.length : Int) - 1), slAddr u1 ((st1.length - 1) * 1), iv ((st1.reverse.getD (st1.length - 1) ([], 0)).2 : Int), iv (2 * ((st1.reverse.getD (st1.length - 1) ([], 0)).2 : Int)), undef] Z Y kr kr kr ?_ ?_ ?_
    ·intro i hi hiq
     match i, hi, hiq with
     | 0, _, _ => exact fun w Y => OpV.g (ah rfl)
     | 1, _, _ => exact fun w Y => OpV.g (ah rfl)
     | 2, _, _ => exact fun w Y => OpV.g (bh rfl rfl ⟨om, om⟩)
     | 3, _, _ => exact fun w Y => OpV.g (bd (l := 0) (h := (st1.length - 2)) (Y.ow 1 rfl) rfl rfl rfl underlying40 kr (.inl ⟨rfl, rfl⟩) (.inr (by rw [show ((st1.length : Int) - 2 : Int) = (((st1.length - 2) : Nat) : Int) from by omega] <;> rfl)) (Nat.zero_le _) (by first | (rw [List.length_map]; omega) | (simp <;> omega)))
     | 4, _, _ => exact fun w Y => OpV.g (ah rfl)
     | 5, _, _ => exact fun w Y => OpV.g (ah rfl)
     | 6, _, _ => exact fun w Y => OpV.g (bh rfl rfl ⟨om, om⟩)
     | 7, _, _ => exact fun w Y => OpV.g ((aj (i := (st1.length : Int) - 1) (sT := 40) (Y.ow 1 rfl) rfl rfl (runUnderlying40 _) (sizeOf3 _) om (by first | (rw [List.length_map]; omega) | (rw [List.length_map, List.length_reverse]; omega))).as (v' := slAddr u1 ((st1.length - 1) * 1)) (by rw [show ((st1.length : Int) - 1).toNat = (st1.length - 1) from by omega]))
     | 8, _, _ => exact fun w Y => OpV.g (au (u := iv ((st1.reverse.getD (st1.length - 1) ([], 0)).2 : Int)) (i := (st1.length - 1)) (j := 0) (Y.ow 1 rfl) (by first | (rw [List.length_map]; omega) | (rw [List.length_map, List.length_reverse]; omega)) rfl (isAgg3 _) (by rw [br ([], 0)]; rfl))
     | 9, _, _ => exact fun w Y => OpV.g (cW rfl rfl ⟨om, om⟩)
     | 10, _, h => exact absurd sm h
    ·intro i hi
     simp only [List.mem_cons, List.not_mem_nil, or_false] at hi
     subst hi
     ·intro w Y
      exact aX (E := 3) (sz := 1) rfl [[iv (2 * ((st1.reverse.getD (st1.length - 1) ([], 0)).2 : Int))]] (fun _ => by kernel_rfl) sm rfl de
    clear Z Y
    rintro _ _ ⟨b8, rfl, -, rfl⟩ a w14 Z Y
    replace Z : Fr 96 [(61, u1), (62, iv (st1.length : Int)), (63, iv ((st1.length : Int) - 2)), (64, (cut u1 1 0 (st1.length - 2) (slCap u1))), (65, u1), (66, iv (st1.length : Int)), (67, iv ((st1.length : Int) - 1)), (68, slAddr u1 ((st1.length - 1) * 1)), (69, iv ((st1.reverse.getD (st1.length - 1) ([], 0)).2 : Int)), (70, iv (2 * ((st1.reverse.getD (st1.length - 1) ([], 0)).2 : Int))), (71, _), (2, _), (11, _), (12, _), (13, _), (7, _), (4, _), (3, _)] [] a := Z
    replace Y : St (· = 0) w0 [_, _, _, _] w14 := Y
    refine ab <| aP (k := 11) 13 [12] kr kr kr ?_
    replace Y : St (· = 0) w0 [own (.slice (some ⟨b8, 0, none⟩) 1 1) 3 1 ([[iv (2 * ((st1.reverse.getD (st1.length - 1) ([], 0)).2 : Int))]]), own s7 9 1 (((st1.reverse.map fun x : By × Nat => [sv x.1]).take (st1.length - 2)) ++ ([[sv (nodeH sha ((st1.reverse.getD (st1.length - 2) ([], 0)).1) ((st1.reverse.getD (st1.length - 1) ([], 0)).1))]])), own (cut u1 1 0 (st1.length - 2) (slCap u1)) 3 1 ((st1.reverse.map fun x : By × Nat => [iv (x.2 : Int)]).take (st1.length - 2)), blk 0 (kOf.map wv) 161] w14 := Y.take (i := 2) (k := (st1.length - 2)) rfl (by simp <;> omega)
    refine aN (i := 2) (sT := 40) (inf := Tryz.t3) (z := iv 0) (b := 0) (off := 0) (m := 0) (c := 0) rfl rfl rfl (Y.ow 0 rfl) sm underlying40 rfl rfl rfl rfl de (by simp [Value.oneCell', yv, wv, sv]) (by have hby : Tryz.t9.bytes = 16 := rfl; have hby3 : Tryz.t3.bytes = 8 := rfl; have hle0 := hS.le.1; rw [List.length_take] at hle0; simp only [big, hby, hby3, List.length_append, List.length_take, List.length_map, List.length_reverse, List.length_cons, List.length_nil]; omega) (by have hby : Tryz.t9.bytes = 16 := rfl; have hby3 : Tryz.t3.bytes = 8 := rfl; have hle0 := hS.le.1; rw [List.length_take] at hle0; simp only [big, hby, hby3, List.length_append, List.length_take, List.length_map, List.length_reverse, List.length_cons, List.length_nil]; omega) de Z Y fun a w15 s9 Z Y _ => ?_
    refine wla Z rfl fun a Z => ab <| aS kr ?_
    refine hK14 _ _ ?_
    replace Z := Z.p7 2 11 12 13 7 3 4 rfl
    replace Y := Y.k3 14 rfl
    refine ao <| wlm Z rfl fun a Z => wlv Z (bh rfl rfl ⟨om, om⟩) fun a Z => wla Z rfl fun a Z => ab ?_
    rw [show ((st1.reverse.map fun x : By × Nat => [sv x.1]).take (st1.length - 2)) ++ ([[sv (nodeH sha ((st1.reverse.getD (st1.length - 2) ([], 0)).1) ((st1.reverse.getD (st1.length - 1) ([], 0)).1))]]) = (((nodeH sha r1 r2, 2 * s1) :: t).reverse.map fun x : By × Nat => [sv x.1]) from by rw [← List.map_take, e3, e1, e2]; simp] at Y
    rw [show ((st1.reverse.map fun x : By × Nat => [iv (x.2 : Int)]).take (st1.length - 2)) ++ ([[iv (2 * ((st1.reverse.getD (st1.length - 1) ([], 0)).2 : Int))]]) = (((nodeH sha r1 r2, 2 * s1) :: t).reverse.map fun x : By × Nat => [iv (x.2 : Int)]) from by rw [← List.map_take, e3, e2]; simp] at Y
    rw [show (st1.length : Int) - 1 = (((nodeH sha r1 r2, 2 * s1) :: t).length : Int) from by rw [hst0]; simp only [List.length_cons]; omega] at Z
    have hm1 : ((nodeH sha r1 r2, 2 * s1) :: t).length = t.length + 1 := rfl
    have hm2 : st1.length = t.length + 2 := by rw [hst0]; rfl
    rw [hst0] at hS1 hW1
    obtain ⟨hS2, hW2⟩ := Stk.merge sha hS1 hW1
    refine ⟨_, ?_, ((nodeH sha r1 r2, 2 * s1) :: t), s7, s9, rfl, hS2, hW2, Z.pick [2, 11, 12, 13, 7, 3, 4], Y.select [0, 1, 2] de⟩
    omega
   rw [hc5] at Z
   try simp only [qz] at hc5
   have hI1 : incr st1 := l4 hW1 om hc5
   refine aJ <| hK8 _ _ <| ao <| wlv Z (aV rfl rfl ⟨om, om⟩) fun a Z => wlm Z rfl fun a Z => ab ?_
   refine ⟨_, ?_, k + 1, st1, v1, u1, rfl, om, hS1, hI1, Z.pick [2, 11, 12, 13, 3, 4], Y.select [0, 1, 2] de⟩
   omega
  rw [hb4] at Z
  try simp only [qz] at hb4
  have hI1 : incr st1 := hW1.strict fun x y t e => absurd hb4 (by rw [e]; simp; omega)
  replace Z : Fr 96 [(2, .string (⟨#[]⟩)), (11, lv), (12, iv (ls.length : Int)), (13, iv (k : Int)), (7, iv (st1.length : Int)), (3, v1), (4, u1), (27, iv (st1.length : Int)), (28, .bool false), (29, .bool false)] [] a := Z.pick [2, 11, 12, 13, 7, 3, 4, 27, 28, 29]
  refine fQ (k := 3) 13 [7, 12] Z kr kr kr rfx fun a Z => ?_
  replace Z : Fr 96 [(30, undef), (31, undef), (32, undef), (33, undef), (34, undef), (35, undef), (36, undef), (37, undef), (38, undef), (39, undef), (2, .string (⟨#[]⟩)), (11, lv), (12, iv (ls.length : Int)), (13, iv (k : Int)), (7, iv (st1.length : Int)), (3, v1), (4, u1), (27, iv (st1.length : Int)), (28, .bool false), (29, .bool false)] [] a := Z
  refine aP (k := 13) 15 [14] kr kr kr ?_
  refine wln Z fun a Z => wlv Z (ay rfl rfl) fun a Z => ab <| aS kr ?_
  refine hK13 _ _ ?_
  replace Z := Z.p8 2 11 12 13 7 3 4 41 rfl
  refine aL Z rfl ?_
  refine aJ <| hK8 _ _ <| ao <| wlv Z (aV rfl rfl ⟨om, om⟩) fun a Z => wlm Z rfl fun a Z => ab ?_
  refine ⟨_, ?_, k + 1, st1, v1, u1, rfl, om, hS1, hI1, Z.pick [2, 11, 12, 13, 3, 4], Y.select [0, 1, 2] de⟩
  omega
 rw [hc1] at Z
 try simp only [qz] at hc1
 obtain rfl : k = ls.length := by omega
 rw [List.take_length] at hS
 have hle := hS.le
 refine aJ <| hK4 _ _ <| ae fun K16 hK16 => aa fun K17 hK17 => wlm Z rfl fun a Z => wlv Z ((aE (sT := 26) (Y.ow 0 rfl) rfl rfl (runUnderlying26 _)).asi (m' := (st.length : Int)) sm) fun a Z => wlv Z (v_eq rfl rfl) fun a Z => ab (hK17 _ _ ?_)
 replace Z := Z.p3 2 3 76 rfl
 refine ax Z rfl (fun hc10 => ?_) (fun hc10 => ?_)
 ·rw [hc10] at Z
  try simp only [qz] at hc10
  refine aa fun K18 hK18 => am Z Y de call77 rfl (kG [] _ (Y.g 2 rfl) sm) ?_
  clear Z Y
  intro a w16 Z Y
  refine wla Z rfl fun a Z => ab (hK18 _ _ <| ap ?_)
  refine al Z results41 (ac rfl ag) ?_
  obtain rfl : st = [] := List.eq_nil_of_length_eq_zero om
  obtain rfl : ls = [] := hS
  exact ⟨rfl, Y.ext.const hk0 (Y.g 2 rfl)⟩
 rw [hc10] at Z
 try simp only [qz] at hc10
 have hlast := hle.2 (st.reverse.getD (st.length - 1) ([], 0)) (List.mem_reverse.1 (aW (by rw [List.length_reverse]; omega)))
 refine ar <| hK16 _ _ <| aa fun K19 hK19 => wlm Z rfl fun a Z => wlm Z rfl fun a Z => wlv Z ((aE (sT := 26) (Y.ow 0 rfl) rfl rfl (runUnderlying26 _)).asi (m' := (st.length : Int)) sm) fun a Z => wlv Z (bh rfl rfl ⟨om, om⟩) fun a Z => wlv Z ((aj (i := (st.length : Int) - 1) (sT := 26) (Y.ow 0 rfl) rfl rfl (runUnderlying26 _) (sizeOf9 _) om (by first | (rw [List.length_map]; omega) | (rw [List.length_map, List.length_reverse]; omega))).as (v' := slAddr v ((st.length - 1) * 1)) (by rw [show ((st.length : Int) - 1).toNat = (st.length - 1) from by omega])) fun a Z => wlv Z (au (u := sv ((st.reverse.getD (st.length - 1) ([], 0)).1)) (i := (st.length - 1)) (j := 0) (Y.ow 0 rfl) (by first | (rw [List.length_map]; omega) | (rw [List.length_map, List.length_reverse]; omega)) rfl (isAgg9 _) (by rw [br ([], 0)]; rfl)) fun a Z => aU Z Y de (zeroValue9 _) (cs := [.string (⟨#[]⟩)]) rfl ?_
 clear Z Y
 intro a w17 Z Y
 refine aH 0 Z Y rfl rfl rfl (sizeOf9 _) rfl (lb rfl) (ds := [sv ((st.reverse.getD (st.length - 1) ([], 0)).1)]) rfl rfl ?_
 clear Z Y
 intro a w18 Z Y
 refine ab (hK19 _ _ ?_)
 replace Z := Z.p3 2 3 8 rfl
 refine ae fun K20 hK20 => aa fun K21 hK21 => wlm Z rfl fun a Z => wlm Z rfl fun a Z => wlv Z ((aE (sT := 26) (Y.ow 1 rfl) rfl rfl (runUnderlying26 _)).asi (m' := (st.length : Int)) sm) fun a Z => wlv Z (bh rfl rfl ⟨om, om⟩) fun a Z => wlv Z (bd (l := 0) (h := (st.length - 1)) (Y.ow 1 rfl) rfl rfl rfl underlying26 kr (.inl ⟨rfl, rfl⟩) (.inr (by rw [show ((st.length : Int) - 1 : Int) = (((st.length - 1) : Nat) : Int) from by omega] <;> rfl)) (Nat.zero_le _) (by first | (rw [List.length_map]; omega) | (simp <;> omega))) fun a Z => aK Z Y de call78 rfl (pF (cut v 1 0 (st.length - 1) (slCap v)) _ _ ((Y.ow 1 rfl).cut0 (h := (st.length - 1)) (by first | omega | (rw [List.length_reverse]; omega) | simp | (simp; omega)))) ?_
 clear Z Y
 intro a w19 x11 hp Z Y
 revert x11 hp Z Y; rintro z1 hp Z Y
 clear hp
 replace Y : St (· = 0) w0 [_, _, _, _, _] w19 := Y
 refine ab (hK21 _ _ ?_)
 replace Z := Z.p3 2 8 89 rfl
 refine aq ?_
 replace Y : St (· = 0) w0 [blk z1 [(cut v 1 0 (st.length - 1) (slCap v))] 26, blk w1.hz [sv ((st.reverse.getD (st.length - 1) ([], 0)).1)] 9, own (cut v 1 0 (st.length - 1) (slCap v)) 9 1 (((st.drop 1).reverse.map Prod.fst).map fun s => [sv s]), own u 3 1 (st.reverse.map fun x : By × Nat => [iv (x.2 : Int)]), blk 0 (kOf.map wv) 161] w19 := by
  have h9 := Y.take (i := 2) (k := st.length - 1) rfl sm
  rw [ky] at h9
  exact h9
 have hyl : ((st.drop 1).reverse.map Prod.fst).length ≤ 1000 := by simp; omega
 have hy32 : ∀ k, k < ((st.drop 1).reverse.map Prod.fst).length → (((st.drop 1).reverse.map Prod.fst).getD k []).length = 32 := fun k hk => by
  obtain ⟨z, hz, e⟩ := List.mem_map.1 (aW (d := []) hk)
  rw [← e]; exact (hle.2 z (List.mem_of_mem_drop (List.mem_reverse.1 hz))).1
 replace Y : St (· = 0) w0 [_, _, _, _, _] w19 := Y
 replace Y : St (· = 0) w0 [blk 0 (kOf.map wv) 161, blk w1.hz [sv (([] : List Nat).foldl (fun o k => nodeH sha (((st.drop 1).reverse.map Prod.fst).getD k []) o) ((st.reverse.getD (st.length - 1) ([], 0)).1))] 9, blk z1 [(cut v 1 0 (st.length - 1) (slCap v))] 26, own (cut v 1 0 (st.length - 1) (slCap v)) 9 1 (((st.drop 1).reverse.map Prod.fst).map fun s => [sv s])] w19 := Y.select [4, 1, 0, 2] de
 replace Z : Fr 96 [(2, .string (⟨#[]⟩)), (8, pt w1.hz), (89, .func (.func 103) #[] #[pt z1])] [] a := Z.pick [2, 8, 89]
 refine cU (M := (· = 0)) (w0 := w0) (encs := (encB ((st.drop 1).reverse.map Prod.fst))) (Hi := [blk z1 [(cut v 1 0 (st.length - 1) (slCap v))] 26, own (cut v 1 0 (st.length - 1) (slCap v)) 9 1 (((st.drop 1).reverse.map Prod.fst).map fun s => [sv s])]) (Hc := [blk 0 (kOf.map wv) 161, blk w1.hz [sv (([] : List Nat).foldl (fun o k => nodeH sha (((st.drop 1).reverse.map Prod.fst).getD k []) o) ((st.reverse.getD (st.length - 1) ([], 0)).1))] 9]) (fun pre H => ((pre.foldl (fun o k => nodeH sha (((st.drop 1).reverse.map Prod.fst).getD k []) o) ((st.reverse.getD (st.length - 1) ([], 0)).1)).length = 32) ∧ H = [blk 0 (kOf.map wv) 161, blk w1.hz [sv (pre.foldl (fun o k => nodeH sha (((st.drop 1).reverse.map Prod.fst).getD k []) o) ((st.reverse.getD (st.length - 1) ([], 0)).1))] 9]) (fun _ _ _ => False) (fun pre xs H a => Fr 96 [(2, .string (⟨#[]⟩)), (8, pt w1.hz), (89, .func (.func 103) #[] #[pt z1]), (10, sv (((st.drop 1).reverse.map Prod.fst).getD xs []))] [] a ∧ ((pre.foldl (fun o k => nodeH sha (((st.drop 1).reverse.map Prod.fst).getD k []) o) ((st.reverse.getD (st.length - 1) ([], 0)).1)).length = 32) ∧ H = [blk 0 (kOf.map wv) 161, blk w1.hz [sv (pre.foldl (fun o k => nodeH sha (((st.drop 1).reverse.map Prod.fst).getD k []) o) ((st.reverse.getD (st.length - 1) ([], 0)).1))] 9]) rfl call103 Z Y (lZ (cut v 1 0 (st.length - 1) (slCap v)) ((st.drop 1).reverse.map Prod.fst) z1 om) de (fun _ => rfl) ⟨hlast.1, rfl⟩ ?_ ?_ ?_ ?_
 ·clear Z Y
  rintro lp pre xs _ a w20 hnx ⟨hf32, rfl⟩ Z Y
  generalize (join [blk 0 (kOf.map wv) 161, blk w1.hz [sv (pre.foldl (fun o k => nodeH sha (((st.drop 1).reverse.map Prod.fst).getD k []) o) ((st.reverse.getD (st.length - 1) ([], 0)).1))] 9]).foot = M1 at Y ⊢
  replace Z : Fr 96 [(91, sv (((st.drop 1).reverse.map Prod.fst).getD xs [])), (90, iv (xs : Int)), (2, .string (⟨#[]⟩)), (8, pt w1.hz), (89, .func (.func 103) #[] #[pt z1])] [] a := Z
  refine ao <| wla Z rfl fun a Z => ab ?_
  exact ⟨_, ⟨Z.pick [2, 8, 89, 10], hf32, rfl⟩, Y⟩
 ·rintro lp pre xs _ a w21 hnx ⟨Z, hf32, rfl⟩ hout hrec hnl Y
  clear hrec hnl
  generalize (join [blk 0 (kOf.map wv) 161, blk w1.hz [sv (pre.foldl (fun o k => nodeH sha (((st.drop 1).reverse.map Prod.fst).getD k []) o) ((st.reverse.getD (st.length - 1) ([], 0)).1))] 9]).foot = M1 at Y hout ⊢
  refine aq <| ao <| wlm Z rfl fun a Z => wlv Z (ld Y 1 rfl rfl (isAgg9 _) rfl) fun a Z => am Z Y de call76 rfl (eV (((st.drop 1).reverse.map Prod.fst).getD xs []) (pre.foldl (fun o k => nodeH sha (((st.drop 1).reverse.map Prod.fst).getD k []) o) ((st.reverse.getD (st.length - 1) ([], 0)).1)) _ (by first | omega | (have := hy32 xs (by have h := hnx; unfold NxB at h; omega); omega)) (by first | omega | exact Nat.le_trans (Nat.le_of_eq hf32) de) (Y.g 0 rfl)) ?_
  clear Z Y
  intro a w22 Z Y
  refine aH 1 Z Y rfl rfl rfl (sizeOf9 _) rfl (lb rfl) (ds := [sv (nodeH sha (((st.drop 1).reverse.map Prod.fst).getD xs []) (pre.foldl (fun o k => nodeH sha (((st.drop 1).reverse.map Prod.fst).getD k []) o) ((st.reverse.getD (st.length - 1) ([], 0)).1)))]) rfl rfl ?_
  clear Z Y
  intro a w23 Z Y
  refine ab ?_
  rw [show nodeH sha (((st.drop 1).reverse.map Prod.fst).getD xs []) (pre.foldl (fun o k => nodeH sha (((st.drop 1).reverse.map Prod.fst).getD k []) o) ((st.reverse.getD (st.length - 1) ([], 0)).1)) = (pre ++ [xs]).foldl (fun o k => nodeH sha (((st.drop 1).reverse.map Prod.fst).getD k []) o) ((st.reverse.getD (st.length - 1) ([], 0)).1) from by rw [List.foldl_append]; rfl] at Y
  exact ⟨_, ⟨(by rw [List.foldl_append]; exact j1 aZ _ _), rfl⟩, Y.select [0, 1] de⟩
 ·rintro D pre _ _ a w24 ⟨rfl, rfl⟩ ⟨hf32, rfl⟩ Y Z
  replace Z : Fr 96 [(2, .string (⟨#[]⟩)), (8, pt w1.hz), (89, .func (.func 103) #[] #[pt z1])] [{ target := .collected D, args := #[] }] a := Z
  replace Y : St (· = 0) w0 [_, _, _, _, _] w24 := Y
  refine hK20 _ _ <| aa fun K22 hK22 => wlv Z (ld Y 2 rfl rfl (isAgg9 _) rfl) fun a Z => wla Z rfl fun a Z => ab (hK22 _ _ <| ap ?_)
  have hD := Y.g 0 rfl
  replace Y := Y.unmark (i := 0) (o' := .deferred none) rfl
  replace Y : St (· = 0) w0 [_, _, _, _] _ := Y
  refine bV Z hD results41 (ac rfl ag) ?_
  exact ⟨by simp only [retv]; rw [ox hS hI om], Y.ext.const hk0 (Y.g 0 rfl)⟩
 ·rintro D c pre _ _ a w25 _ h
  exact h.elim
end Go.Proofs.YtddfkkdanpmnaaaGreatDoor
namespace Go.Proofs.YtddfkkdanpmnaaaGreatDoor
open Go.RowKit Go.PW Go.Sort
theorem jg (xs : List (List UInt8)) : (xs.map fun s => [sv s]).flatten = xs.map sv := by
 induction xs with
 | nil => rfl
 | cons x xs ih => rw [List.map_cons, List.flatten_cons, ih]; rfl
theorem ib (s : List UInt8) : encStr s = sv s := rfl
theorem nK (cur : Array Value) (n : Nat) (ys : List (List UInt8)) (hn : n ≤ cur.size) (hy : ys.length = n) : (putCells encStr 0 ys.toArray cur).toList.take n = ys.map sv := by
 subst hy
 refine List.ext_getElem? fun i => ?_
 by_cases hi : i < ys.length
 ·have hc : i < cur.size := by omega
  rw [List.getElem?_take_of_lt hi, List.getElem?_map, List.getElem?_eq_getElem hi]
  simp [putCells, hc, hi, ib]
 ·rw [List.getElem?_eq_none (by rw [List.length_take]; omega), List.getElem?_eq_none (by rw [List.length_map]; omega)]
theorem eK (v : Value) (xs : List (List UInt8)) (E : TypeId) (w : World) (h : (own v E 1 (xs.map fun s => [sv s])).ok w) :
  Ret Tryz.prog 85 #[v] w fun u w' => u = .tuple #[] ∧ Ext (own v E 1 (xs.map fun s => [sv s])).foot w w' ∧ (own v E 1 (xs.reverse.map fun s => [sv s])).ok w' := by
 obtain ⟨h1, h2, h3, h4⟩ := h
 rcases h4 with ⟨rfl, h0⟩ | ⟨g, cap, cur, fz, rfl, hg, hfz, hnc, hcm, hcs, htk⟩
 ·obtain rfl : xs = [] := by simpa using h0
  refine (Tryz.slices_Reverse_string_empty none 0 w).mono fun e w' ⟨he, hw⟩ => ⟨_, he, rfl, by rw [hw]; exact Ext.refl _ _, ?_⟩
  rw [hw]; exact iW w E 1
 ·rw [List.length_map] at *
  rw [jg] at htk
  have hsz : xs.length ≤ cur.size := by omega
  have hcell : ∀ j, j < xs.length → cur[j]? = some (sv (xs.getD j [])) := by
   intro j hj
   have : (cur.toList.take (xs.length * 1))[j]? = (xs.map sv)[j]? := by rw [htk]
   rw [List.getElem?_take_of_lt om, List.getElem?_map, List.getElem?_eq_getElem hj] at this
   simpa [List.getD_eq_getElem?_getD, hj] using this
  have hH : Holds encStr w g 0 xs.toArray := by
   intro j hj
   have hj' : j < xs.length := by simpa using hj
   refine ⟨?_, ?_⟩
   ·rw [Nat.zero_add]
    simp only [World.cell?, hg]
    have := hcell j hj'
    simp [hj', ib, List.getD_eq_getElem?_getD] at this ⊢
    exact this
   ·obtain ⟨lo, hi'⟩ := fz
    simp only [World.frozen?, hg, Bool.and_eq_false_iff, decide_eq_false_iff_not]
    unfold rowFz at hfz
    simp only at hfz
    omega
  refine (Tryz.slices_Reverse_string g 0 cap xs w hH (by simp only [big] at h2; omega)).mono fun e w' ⟨he, n, hw⟩ => ⟨_, he, rfl, ?_, ?_⟩
  ·rw [hw]
   refine ⟨rfl, rfl, rfl, by simp, fun k hk hn => ?_⟩
   have hne : g ≠ k := fun e => hn (by show Value.ownBlock _ = some k; rw [← e]; rfl)
   simp [putRow, mapBlock, Array.getElem?_modify, hne]
  ·rw [hw]
   refine ⟨fun e he => by obtain ⟨s, _, rfl⟩ := List.mem_map.1 he; rfl, by simpa using h2, by rw [jg]; simp, .inr ⟨g, cap, putCells encStr 0 xs.reverse.toArray cur, fz, by simp, ?_, hfz, by simpa using hnc, hcm, by simpa [putCells] using hcs, ?_⟩⟩
   ·simp [putRow, mapBlock, Array.getElem?_modify, hg, onCells]
   ·rw [jg, List.length_map, List.length_reverse, Nat.mul_one]
    exact nK cur xs.length xs.reverse hsz sm
end Go.Proofs.YtddfkkdanpmnaaaGreatDoor
namespace Go.PW
open Go.RowKit
section
variable {P : Program} {r : Option Nat} {ops : Array Oper} {K : Act → World → Prop} {rest : List Oper} {a : Act} {w w0 : World} {M : Nat → Prop} {H : List Ent}
variable {N : Nat} {L : List (Nat × Value)} {df : List Deferred} {d : Nat} {ty : TypeId} {pos : String} {af : Array Edge} {v : Value}
theorem gN {f : FuncId} {xs : List Operand} {vs : List Value} {ats : Array TypeId} {e e' : Ent} {H' : List Ent} (i : Nat) (Z : Fr N L df a) (Y : St M w0 H w) (hd : d < N) (hen : ∀ args w, (callFunc f args).run P w = .ok (.enter f args) w) (hx : evs L xs = some vs)
  (hi : H[i]? = some e) (hf : ∀ b, e'.foot b → e.foot b) (hc : Ret P f vs.toArray w fun v' w' => v' = v ∧ Ext e.foot w w' ∧ e'.ok w') (hH : H.set i e' = H')
  (k : ∀ a w', Fr N ((d, v) :: L) df a → St M w0 H' w' → WL P r ops K rest a w') :
  WL P r ops K (⟨some d, .call { callee := .value (.func f), args := xs.toArray, argTypes := ats }, ty, pos, af, none⟩ :: rest) a w :=
 wl_r (dN hen hx hc) rfl (decide_eq_true hd) Z fun a v' w' ⟨hv, hw, ho⟩ h => by
  subst hv; subst hH
  exact k _ _ h (Y.exchange hi hw ho fun b' hb' => ⟨Nat.lt_of_lt_of_le (Y.lt hi (hf _ hb')) hw.size, .inl (hf _ hb')⟩)
end
end Go.PW
namespace Go.Proofs.YtddfkkdanpmnaaaGreatDoor
open Go.RowKit Go.PW _root_.Go.Proofs.Tryz
theorem oy (lv : Value) (ls : List By) (i : Nat) (w0 : World) (hlv : SlAt w0 lv 1 (ls.map fun s => [sv s])) (hi : i < ls.length) (hln : ls.length ≤ 1000) (hls : ∀ s ∈ ls, s.length ≤ 40000000) (hk0 : (blk 0 (kOf.map wv) 161).ok w0) :
  Ret Tryz.prog 51 #[lv, iv (i : Int)] w0 (MemR w0 (fun v : Value => .tuple #[v, iv 0]) (fun v => [own v 9 1 ((proofH sha ls i).map fun s => [sv s])]) (fun _ => True)) := by
 refine aD func51 rfl ntmps51 (lb rfl) fun a Z => ?_
 replace Z := Z.p2 0 1 rfl
 replace Y : St No w0 [] w0 := St.init w0
 refine aa fun K1 hK1 => wla Z rfl fun a Z => wla Z rfl fun a Z => ab (hK1 _ _ <| og ?_)
 refine ae fun K2 hK2 => aa fun K3 hK3 => wlm Z rfl fun a Z => wlv Z (v_lt rfl rfl) fun a Z => wlm Z rfl fun a Z => ?_
 rcases Bool.eq_false_or_eq_true (decide ((i : Int) < 0)) with hb1 | hb1
 ·rw [hb1] at Z
  try simp only [qz] at hb1
  omega
 rw [hb1] at Z
 try simp only [qz] at hb1
 refine wly Z (ah rfl) fun a Z => wly Z (ah rfl) fun a Z => wly Z ((aE (sT := 26) (Y.arg hlv) rfl rfl (runUnderlying26 _)).asi (m' := (ls.length : Int)) sm) fun a Z => wly Z (v_ge rfl rfl) fun a Z => wlv Z (ay rfl rfl) fun a Z => ab (hK3 _ _ ?_)
 replace Z := Z.p5 0 1 4 5 17 rfl
 refine ax Z rfl (fun hc2 => ?_) (fun hc2 => ?_)
 ·rw [hc2] at Z
  try simp only [qz] at hc2
  omega
 rw [hc2] at Z
 try simp only [qz] at hc2
 refine ar <| hK2 _ _ <| aa fun K4 hK4 => wla Z rfl fun a Z => ab (hK4 _ _ <| ae fun K5 hK5 => ?_)
 refine m1 ?_
 refine hK5 _ _ <| ae fun K6 hK6 => aq ?_
 replace Y : St No w0 [own (.slice none 0 0) 9 1 (([] : List By).map fun s => [sv s])] w0 := Y.nil_own
 refine aR (fun m a w => ∃ (v : Value) (cl : List By) (ci : Nat) (ou : List By) (o : Value), m = cl.length ∧ (SlAt w0 v 1 (cl.map fun s => [sv s])) ∧ (ci < cl.length) ∧ (cl.length ≤ 1000) ∧ (cl.length + ou.length ≤ 2000) ∧ (∀ s ∈ cl, s.length ≤ 40000000) ∧ (proofH sha ls i = proofH sha cl ci ++ ou.reverse) ∧ Fr 47 [(4, .slice none 0 0), (5, iv 0), (0, v), (1, iv (ci : Int)), (6, o)] [] a ∧ St No w0 [own o 9 1 (ou.map fun s => [sv s])] w) _ ⟨lv, ls, i, [], .slice none 0 0, rfl, hlv, hi, hln, (by simp; omega), hls, sm, Z.pick [4, 5, 0, 1, 6], Y.select [0] de⟩ ?_
 rintro _ a w1 ⟨v, cl, ci, ou, o, rfl, hv, hc1, hc2, hc3, hcl, hpr, Z, Y⟩
 refine aq <| ae fun K7 hK7 => aa fun K8 hK8 => wlm Z rfl fun a Z => wlv Z ((aE (sT := 26) (Y.arg hv) rfl rfl (runUnderlying26 _)).asi (m' := (cl.length : Int)) sm) fun a Z => wlv Z (v_eq rfl rfl) fun a Z => ab (hK8 _ _ ?_)
 refine ax Z rfl (fun hc3 => ?_) (fun hc3 => ?_)
 ·rw [hc3] at Z
  try simp only [qz] at hc3
  refine aJ <| hK6 _ _ <| aa fun K9 hK9 => wlm Z rfl fun a Z => gN (e' := own o 9 1 (ou.reverse.map fun s => [sv s])) 0 Z Y de call85 rfl rfl (fun _ h => h) (eK _ _ _ _ (Y.g 0 rfl)) rfl ?_
  clear Z Y
  intro a w2 Z Y
  refine ab (hK9 _ _ ?_)
  replace Z := Z.p3 4 5 6 rfl
  refine aa fun K10 hK10 => wlm Z rfl fun a Z => wla Z rfl fun a Z => wla Z rfl fun a Z => ab (hK10 _ _ <| ap ?_)
  refine al Z results51 (ac rfl (ac rfl ag)) ?_
  rw [eG sha (l := cl) om, List.nil_append] at hpr
  refine ⟨o, rfl, trivial, Y.ext, St.out (E := [own o 9 1 ((proofH sha ls i).map fun s => [sv s])]) (H := []) ?_⟩
  rw [hpr]; exact Y
 rw [hc3] at Z
 try simp only [qz] at hc3
 have hlt := bG (n := cl.length) om
 have hlp := bB cl.length
 refine ar <| hK7 _ _ <| aa fun K11 hK11 => wlm Z rfl fun a Z => wlv Z ((aE (sT := 26) (Y.arg hv) rfl rfl (runUnderlying26 _)).asi (m' := (cl.length : Int)) sm) fun a Z => am Z Y de call84 rfl (fU cl.length _ om om) ?_
 clear Z Y
 intro a w3 Z Y
 refine wla Z rfl fun a Z => ab (hK11 _ _ ?_)
 replace Z := Z.p6 4 5 0 1 6 7 rfl
 refine ae fun K12 hK12 => aF kr (aG kr fun w4 hxz => ?_)
 replace Y := Y.grow hxz
 refine aT (k := 0) 7 [5, 6] Z kr kr kr rfx ?_
 replace Z := Z.p6 4 5 0 1 6 7 rfl
 refine aA [] (fun i => match i with | _ => fun _ _ => False) 7 [[], [], [0, 1], [], [], [3, 4], [2]] [v, iv (lft cl.length : Int), (cut v 1 0 (lft cl.length) (slCap v)), v, iv (lft cl.length : Int), (cut v 1 (lft cl.length) cl.length (slCap v)), (cut v 1 0 (lft cl.length) (slCap v))] Z Y kr kr kr ?_ ?_ ?_
 ·intro i hi hiq
  match i, hi, hiq with
  | 0, _, _ => exact fun w Y => OpV.g (ah rfl)
  | 1, _, _ => exact fun w Y => OpV.g (ah rfl)
  | 2, _, _ => exact fun w Y => OpV.g (bd (l := 0) (h := (lft cl.length)) (Y.arg hv) rfl rfl rfl underlying26 kr (.inl ⟨rfl, rfl⟩) (.inr (by rw [show ((lft cl.length : Int) : Int) = (((lft cl.length) : Nat) : Int) from by omega] <;> rfl)) (Nat.zero_le _) (by first | (rw [List.length_map]; omega) | (simp <;> omega)))
  | 3, _, _ => exact fun w Y => OpV.g (ah rfl)
  | 4, _, _ => exact fun w Y => OpV.g (ah rfl)
  | 5, _, _ => exact fun w Y => OpV.g (bd (l := (lft cl.length)) (h := cl.length) (Y.arg hv) rfl rfl rfl underlying26 kr (.inr (by rw [show ((lft cl.length : Int) : Int) = (((lft cl.length) : Nat) : Int) from by omega] <;> rfl)) (.inl ⟨rfl, by simp⟩) om sm)
  | 6, _, _ => exact fun w Y => OpV.g (cw rfl)
 ·intro i hi
  exact absurd hi sm
 clear Z Y
 intro  a w5 Z Y
 replace Z : Fr 47 [(24, v), (25, iv (lft cl.length : Int)), (26, (cut v 1 0 (lft cl.length) (slCap v))), (27, v), (28, iv (lft cl.length : Int)), (29, (cut v 1 (lft cl.length) cl.length (slCap v))), (8, (cut v 1 0 (lft cl.length) (slCap v))), (4, _), (5, _), (0, _), (1, _), (6, _), (7, _)] [] a := Z
 refine ab <| aP (k := 7) 8 [7] kr kr kr ?_
 refine wla Z rfl fun a Z => ab <| aS kr ?_
 refine hK12 _ _ ?_
 replace Z := Z.p7 4 5 1 6 7 8 9 rfl
 refine ae fun K13 hK13 => aa fun K14 hK14 => wlm Z rfl fun a Z => wlm Z rfl fun a Z => wlv Z (v_ge rfl rfl) fun a Z => ab (hK14 _ _ ?_)
 refine ax Z rfl (fun hc4 => ?_) (fun hc4 => ?_)
 ·rw [hc4] at Z
  try simp only [qz] at hc4
  refine ao <| wlm Z rfl fun a Z => wlm Z rfl fun a Z => wlm Z rfl fun a Z => wlm Z rfl fun a Z => wlv Z ((bh rfl rfl ⟨om, om⟩).asi (m' := ((ci - lft cl.length : Nat) : Int)) om) fun a Z => wla Z rfl fun a Z => wla Z rfl fun a Z => wla Z rfl fun a Z => ab <| hK13 _ _ ?_
  replace Z := Z.p6 4 5 6 8 9 1 rfl
  refine aa fun K15 hK15 => wlm Z rfl fun a Z => wlm Z rfl fun a Z => am Z Y de call41 rfl (ef (cut v 1 0 (lft cl.length) (slCap v)) (cl.take (lft cl.length)) _ ((Y.arg hv).cut0 (h := (lft cl.length)) (by first | omega | (rw [List.length_reverse]; omega) | simp | (simp; omega))) (by first | omega | (simp only [List.length_take, List.length_drop]; omega)) (by intro k hk; have h := aW (d := []) hk; first | exact hcl _ h | exact hcl _ (List.mem_of_mem_take h) | exact hcl _ (List.mem_of_mem_drop h)) (Y.keepb hk0)) ?_
  clear Z Y
  intro a w6 Z Y
  refine aC (E := 9) (sz := 1) rfl [[sv (rootH sha (cl.take (lft cl.length)))]] kr sm rfl de de Z Y ?_
  clear Z Y
  intro a w7 Z Y
  refine aN (i := 1) (sT := 26) (inf := Tryz.t9) (z := .string (⟨#[]⟩)) (b := 0) (off := 0) (m := 0) (c := 0) rfl rfl rfl (Y.ow 0 rfl) sm underlying26 rfl rfl rfl rfl de (by simp [Value.oneCell', yv, wv, sv]) (by have hby : Tryz.t9.bytes = 16 := rfl; simp only [big, hby, List.length_append, List.length_map, List.length_cons, List.length_nil]; omega) (by have hby : Tryz.t9.bytes = 16 := rfl; simp only [big, hby, List.length_append, List.length_map, List.length_cons, List.length_nil]; omega) de Z Y fun a w8 s5 Z Y _ => wla Z rfl fun a Z => ab (hK15 _ _ ?_)
  replace Z := Z.p5 4 5 8 1 6 rfl
  replace Y := Y.k1 2 rfl
  refine ao <| wlm Z rfl fun a Z => wla Z rfl fun a Z => ab ?_
  rw [show (ou.map fun s => [sv s]) ++ ([[sv (rootH sha (cl.take (lft cl.length)))]]) = ((ou ++ [rootH sha (cl.take (lft cl.length))]).map fun s => [sv s]) from by simp] at Y
  have hm1 : (cl.drop (lft cl.length)).length < cl.length := by simp only [List.length_take, List.length_drop]; omega
  refine ⟨_, ?_, (cut v 1 (lft cl.length) cl.length (slCap v)), (cl.drop (lft cl.length)), (ci - lft cl.length), (ou ++ [rootH sha (cl.take (lft cl.length))]), s5, rfl, hv.cutd (l := lft cl.length) om, (by simp only [List.length_take, List.length_drop]; omega), (by simp only [List.length_take, List.length_drop]; omega), (by simp only [List.length_append, List.length_take, List.length_drop, List.length_cons, List.length_nil]; omega), (fun s h => hcl s (List.mem_of_mem_drop h)), (by rw [hpr, dR sha om, if_neg om]; simp), Z.pick [4, 5, 0, 1, 6], Y.select [0] de⟩
  omega
 rw [hc4] at Z
 try simp only [qz] at hc4
 refine ar <| hK13 _ _ <| aa fun K16 hK16 => wlm Z rfl fun a Z => wlm Z rfl fun a Z => am Z Y de call41 rfl (ef (cut v 1 (lft cl.length) cl.length (slCap v)) (cl.drop (lft cl.length)) _ ((Y.arg hv).cutd (l := (lft cl.length)) (by first | omega | (rw [List.length_reverse]; omega) | simp | (simp; omega))) (by first | omega | (simp only [List.length_take, List.length_drop]; omega)) (by intro k hk; have h := aW (d := []) hk; first | exact hcl _ h | exact hcl _ (List.mem_of_mem_take h) | exact hcl _ (List.mem_of_mem_drop h)) (Y.keepb hk0)) ?_
 clear Z Y
 intro a w9 Z Y
 refine aC (E := 9) (sz := 1) rfl [[sv (rootH sha (cl.drop (lft cl.length)))]] kr sm rfl de de Z Y ?_
 clear Z Y
 intro a w10 Z Y
 refine aN (i := 1) (sT := 26) (inf := Tryz.t9) (z := .string (⟨#[]⟩)) (b := 0) (off := 0) (m := 0) (c := 0) rfl rfl rfl (Y.ow 0 rfl) sm underlying26 rfl rfl rfl rfl de (by simp [Value.oneCell', yv, wv, sv]) (by have hby : Tryz.t9.bytes = 16 := rfl; simp only [big, hby, List.length_append, List.length_map, List.length_cons, List.length_nil]; omega) (by have hby : Tryz.t9.bytes = 16 := rfl; simp only [big, hby, List.length_append, List.length_map, List.length_cons, List.length_nil]; omega) de Z Y fun a w11 s6 Z Y _ => wla Z rfl fun a Z => ab (hK16 _ _ ?_)
 replace Z := Z.p5 4 5 1 8 6 rfl
 replace Y := Y.k1 2 rfl
 refine ao <| wlm Z rfl fun a Z => wla Z rfl fun a Z => ab ?_
 rw [show (ou.map fun s => [sv s]) ++ ([[sv (rootH sha (cl.drop (lft cl.length)))]]) = ((ou ++ [rootH sha (cl.drop (lft cl.length))]).map fun s => [sv s]) from by simp] at Y
 have hm1 : (cl.take (lft cl.length)).length < cl.length := by simp only [List.length_take, List.length_drop]; omega
 refine ⟨_, ?_, (cut v 1 0 (lft cl.length) (slCap v)), (cl.take (lft cl.length)), ci, (ou ++ [rootH sha (cl.drop (lft cl.length))]), s6, rfl, hv.cut0 (h := lft cl.length) om, (by simp only [List.length_take, List.length_drop]; omega), (by simp only [List.length_take, List.length_drop]; omega), (by simp only [List.length_append, List.length_take, List.length_drop, List.length_cons, List.length_nil]; omega), (fun s h => hcl s (List.mem_of_mem_take h)), (by rw [hpr, dR sha om, if_pos om]; simp), Z.pick [4, 5, 0, 1, 6], Y.select [0] de⟩
 omega
theorem m9 (lv : Value) (ls : List By) (w0 : World) (hlv : SlAt w0 lv 1 (ls.map fun s => [sv s])) :
  Ret Tryz.prog 53 #[lv, iv 0] w0 fun v w => v = .tuple #[.slice none 0 0, iv 0] ∧ Ext No w0 w := by
 refine aD func53 rfl ntmps53 (lb rfl) fun a Z => ?_
 replace Z := Z.p2 0 1 rfl
 replace Y : St No w0 [] w0 := St.init w0
 refine aa fun K1 hK1 => wla Z rfl fun a Z => wla Z rfl fun a Z => ab (hK1 _ _ <| ae fun K2 hK2 => ?_)
 refine aq <| aa fun K3 hK3 => wlm Z rfl fun a Z => wlv Z ((v_lt rfl rfl).asb (b' := false) rfl) fun a Z => wlm Z rfl fun a Z => wly Z (ah rfl) fun a Z => wly Z (ah rfl) fun a Z => wly Z ((aE (sT := 26) (Y.arg hlv) rfl rfl (runUnderlying26 _)).asi (m' := (ls.length : Int)) sm) fun a Z => wly Z (v_gt rfl rfl) fun a Z => wlv Z (ay rfl rfl) fun a Z => wla Z rfl fun a Z => ab (hK3 _ _ ?_)
 replace Z := Z.p5 0 1 4 5 11 rfl
 refine ax Z rfl (fun hc1 => ?_) (fun hc1 => ?_)
 ·rw [hc1] at Z
  try simp only [qz] at hc1
  omega
 rw [hc1] at Z
 try simp only [qz] at hc1
 refine aa fun K4 hK4 => wlm Z rfl fun a Z => wlv Z ((v_eq rfl rfl).asb (b' := true) rfl) fun a Z => wla Z rfl fun a Z => ab (hK4 _ _ <| aI Z rfl ?_)
 refine aa fun K5 hK5 => wla Z rfl fun a Z => wla Z rfl fun a Z => ab (hK5 _ _ <| ap ?_)
 refine al Z results53 (ac rfl (ac rfl ag)) ?_
 exact ⟨by rfl, Y.ext⟩
theorem pX (lv : Value) (ls : List By) (i : Nat) (w0 : World) (hlv : SlAt w0 lv 1 (ls.map fun s => [sv s])) (hi0 : 1 ≤ i) (hi : i ≤ ls.length) (hln : ls.length ≤ 1000) (hls : ∀ s ∈ ls, s.length ≤ 40000000) (hk0 : (blk 0 (kOf.map wv) 161).ok w0) :
  Ret Tryz.prog 53 #[lv, iv (i : Int)] w0 (MemR w0 (fun v : Value => .tuple #[v, iv 0]) (fun v => [own v 9 1 ((partH sha ls i true).map fun s => [sv s])]) (fun _ => True)) := by
 refine aD func53 rfl ntmps53 (lb rfl) fun a Z => ?_
 replace Z := Z.p2 0 1 rfl
 replace Y : St No w0 [] w0 := St.init w0
 refine aa fun K1 hK1 => wla Z rfl fun a Z => wla Z rfl fun a Z => ab (hK1 _ _ <| ae fun K2 hK2 => ?_)
 refine aq <| aa fun K3 hK3 => wlm Z rfl fun a Z => wlv Z (v_lt rfl rfl) fun a Z => wlm Z rfl fun a Z => ?_
 rcases Bool.eq_false_or_eq_true (decide ((i : Int) < 0)) with hb1 | hb1
 ·rw [hb1] at Z
  try simp only [qz] at hb1
  omega
 rw [hb1] at Z
 try simp only [qz] at hb1
 refine wly Z (ah rfl) fun a Z => wly Z (ah rfl) fun a Z => wly Z ((aE (sT := 26) (Y.arg hlv) rfl rfl (runUnderlying26 _)).asi (m' := (ls.length : Int)) sm) fun a Z => wly Z (v_gt rfl rfl) fun a Z => wlv Z (ay rfl rfl) fun a Z => wla Z rfl fun a Z => ab (hK3 _ _ ?_)
 replace Z := Z.p5 0 1 4 5 11 rfl
 refine ax Z rfl (fun hc2 => ?_) (fun hc2 => ?_)
 ·rw [hc2] at Z
  try simp only [qz] at hc2
  omega
 rw [hc2] at Z
 try simp only [qz] at hc2
 refine aa fun K4 hK4 => wlm Z rfl fun a Z => wlv Z (v_eq rfl rfl) fun a Z => wla Z rfl fun a Z => ab (hK4 _ _ ?_)
 refine ax Z rfl (fun hc3 => ?_) (fun hc3 => ?_)
 ·rw [hc3] at Z
  try simp only [qz] at hc3
  omega
 rw [hc3] at Z
 try simp only [qz] at hc3
 refine ar <| hK2 _ _ <| aa fun K5 hK5 => wla Z rfl fun a Z => ab (hK5 _ _ <| aa fun K6 hK6 => ?_)
 refine wla Z rfl fun a Z => ab (hK6 _ _ <| ae fun K7 hK7 => ?_)
 refine aq ?_
 replace Y : St No w0 [own (.slice none 0 0) 9 1 (([] : List By).map fun s => [sv s])] w0 := Y.nil_own
 refine aR (fun m a w => ∃ (v : Value) (cl : List By) (ci : Nat) (wh : Bool) (ou : List By) (o : Value), m = cl.length ∧ (SlAt w0 v 1 (cl.map fun s => [sv s])) ∧ (1 ≤ ci) ∧ (ci ≤ cl.length) ∧ (cl.length ≤ 1000) ∧ (cl.length + ou.length ≤ 2000) ∧ (∀ s ∈ cl, s.length ≤ 40000000) ∧ (partH sha ls i true = partH sha cl ci wh ++ ou.reverse) ∧ Fr 60 [(4, .slice none 0 0), (5, iv 0), (0, v), (1, iv (ci : Int)), (6, o), (7, .bool wh)] [] a ∧ St No w0 [own o 9 1 (ou.map fun s => [sv s])] w) _ ⟨lv, ls, i, true, [], .slice none 0 0, rfl, hlv, hi0, hi, hln, (by simp; omega), hls, sm, Z.pick [4, 5, 0, 1, 6, 7], Y.select [0] de⟩ ?_
 rintro _ a w1 ⟨v, cl, ci, wh, ou, o, rfl, hv, hc0, hc1, hc2, hc3, hcl, hpr, Z, Y⟩
 refine ae fun K8 hK8 => aa fun K9 hK9 => wlm Z rfl fun a Z => wlm Z rfl fun a Z => wlv Z ((aE (sT := 26) (Y.arg hv) rfl rfl (runUnderlying26 _)).asi (m' := (cl.length : Int)) sm) fun a Z => wlv Z (v_lt rfl rfl) fun a Z => ab (hK9 _ _ ?_)
 refine ax Z rfl (fun hc4 => ?_) (fun hc4 => ?_)
 ·rw [hc4] at Z
  try simp only [qz] at hc4
  have hlt := bG (n := cl.length) om
  have hlp := bB cl.length
  refine ar <| hK8 _ _ <| aq <| aa fun K10 hK10 => wlm Z rfl fun a Z => wlv Z ((aE (sT := 26) (Y.arg hv) rfl rfl (runUnderlying26 _)).asi (m' := (cl.length : Int)) sm) fun a Z => am Z Y de call84 rfl (fU cl.length _ om om) ?_
  clear Z Y
  intro a w2 Z Y
  refine wla Z rfl fun a Z => ab (hK10 _ _ ?_)
  replace Z := Z.p7 4 5 0 1 6 7 8 rfl
  refine ae fun K11 hK11 => aF kr (aG kr fun w3 hxz => ?_)
  replace Y := Y.grow hxz
  refine aT (k := 0) 7 [5, 6] Z kr kr kr rfx ?_
  replace Z := Z.p7 4 5 0 1 6 7 8 rfl
  refine aA [] (fun i => match i with | _ => fun _ _ => False) 7 [[], [], [0, 1], [], [], [3, 4], [2]] [v, iv (lft cl.length : Int), (cut v 1 0 (lft cl.length) (slCap v)), v, iv (lft cl.length : Int), (cut v 1 (lft cl.length) cl.length (slCap v)), (cut v 1 0 (lft cl.length) (slCap v))] Z Y kr kr kr ?_ ?_ ?_
  ·intro i hi hiq
   match i, hi, hiq with
   | 0, _, _ => exact fun w Y => OpV.g (ah rfl)
   | 1, _, _ => exact fun w Y => OpV.g (ah rfl)
   | 2, _, _ => exact fun w Y => OpV.g (bd (l := 0) (h := (lft cl.length)) (Y.arg hv) rfl rfl rfl underlying26 kr (.inl ⟨rfl, rfl⟩) (.inr (by rw [show ((lft cl.length : Int) : Int) = (((lft cl.length) : Nat) : Int) from by omega] <;> rfl)) (Nat.zero_le _) (by first | (rw [List.length_map]; omega) | (simp <;> omega)))
   | 3, _, _ => exact fun w Y => OpV.g (ah rfl)
   | 4, _, _ => exact fun w Y => OpV.g (ah rfl)
   | 5, _, _ => exact fun w Y => OpV.g (bd (l := (lft cl.length)) (h := cl.length) (Y.arg hv) rfl rfl rfl underlying26 kr (.inr (by rw [show ((lft cl.length : Int) : Int) = (((lft cl.length) : Nat) : Int) from by omega] <;> rfl)) (.inl ⟨rfl, by simp⟩) om sm)
   | 6, _, _ => exact fun w Y => OpV.g (cw rfl)
  ·intro i hi
   exact absurd hi sm
  clear Z Y
  intro  a w4 Z Y
  replace Z : Fr 60 [(30, v), (31, iv (lft cl.length : Int)), (32, (cut v 1 0 (lft cl.length) (slCap v))), (33, v), (34, iv (lft cl.length : Int)), (35, (cut v 1 (lft cl.length) cl.length (slCap v))), (9, (cut v 1 0 (lft cl.length) (slCap v))), (4, _), (5, _), (0, _), (1, _), (6, _), (7, _), (8, _)] [] a := Z
  refine ab <| aP (k := 7) 8 [7] kr kr kr ?_
  refine wla Z rfl fun a Z => ab <| aS kr ?_
  refine hK11 _ _ ?_
  replace Z := Z.p8 4 5 1 6 7 8 9 10 rfl
  refine ae fun K12 hK12 => aa fun K13 hK13 => wlm Z rfl fun a Z => wlm Z rfl fun a Z => wlv Z (v_gt rfl rfl) fun a Z => ab (hK13 _ _ ?_)
  refine ax Z rfl (fun hc5 => ?_) (fun hc5 => ?_)
  ·rw [hc5] at Z
   try simp only [qz] at hc5
   refine ao <| wlm Z rfl fun a Z => wlm Z rfl fun a Z => wlm Z rfl fun a Z => wlm Z rfl fun a Z => wlv Z ((bh rfl rfl ⟨om, om⟩).asi (m' := ((ci - lft cl.length : Nat) : Int)) om) fun a Z => wla Z rfl fun a Z => wla Z rfl fun a Z => wla Z rfl fun a Z => wla Z rfl fun a Z => ab <| hK12 _ _ ?_
   replace Z := Z.p7 4 5 6 9 10 1 7 rfl
   refine aa fun K14 hK14 => wlm Z rfl fun a Z => wlm Z rfl fun a Z => am Z Y de call41 rfl (ef (cut v 1 0 (lft cl.length) (slCap v)) (cl.take (lft cl.length)) _ ((Y.arg hv).cut0 (h := (lft cl.length)) (by first | omega | (rw [List.length_reverse]; omega) | simp | (simp; omega))) (by first | omega | (simp only [List.length_take, List.length_drop]; omega)) (by intro k hk; have h := aW (d := []) hk; first | exact hcl _ h | exact hcl _ (List.mem_of_mem_take h) | exact hcl _ (List.mem_of_mem_drop h)) (Y.keepb hk0)) ?_
   clear Z Y
   intro a w5 Z Y
   refine aC (E := 9) (sz := 1) rfl [[sv (rootH sha (cl.take (lft cl.length)))]] kr sm rfl de de Z Y ?_
   clear Z Y
   intro a w6 Z Y
   refine aN (i := 1) (sT := 26) (inf := Tryz.t9) (z := .string (⟨#[]⟩)) (b := 0) (off := 0) (m := 0) (c := 0) rfl rfl rfl (Y.ow 0 rfl) sm underlying26 rfl rfl rfl rfl de (by simp [Value.oneCell', yv, wv, sv]) (by have hby : Tryz.t9.bytes = 16 := rfl; simp only [big, hby, List.length_append, List.length_map, List.length_cons, List.length_nil]; omega) (by have hby : Tryz.t9.bytes = 16 := rfl; simp only [big, hby, List.length_append, List.length_map, List.length_cons, List.length_nil]; omega) de Z Y fun a w7 s6 Z Y _ => wla Z rfl fun a Z => ab (hK14 _ _ ?_)
   replace Z := Z.p6 4 5 9 1 7 6 rfl
   replace Y := Y.k1 2 rfl
   refine ao <| wlm Z rfl fun a Z => wla Z rfl fun a Z => ab ?_
   rw [show (ou.map fun s => [sv s]) ++ ([[sv (rootH sha (cl.take (lft cl.length)))]]) = ((ou ++ [rootH sha (cl.take (lft cl.length))]).map fun s => [sv s]) from by simp] at Y
   have hm1 : (cl.drop (lft cl.length)).length < cl.length := by simp only [List.length_take, List.length_drop]; omega
   refine ⟨_, ?_, (cut v 1 (lft cl.length) cl.length (slCap v)), (cl.drop (lft cl.length)), (ci - lft cl.length), false, (ou ++ [rootH sha (cl.take (lft cl.length))]), s6, rfl, hv.cutd (l := lft cl.length) om, om, (by simp only [List.length_take, List.length_drop]; omega), (by simp only [List.length_take, List.length_drop]; omega), (by simp only [List.length_append, List.length_take, List.length_drop, List.length_cons, List.length_nil]; omega), (fun s h => hcl s (List.mem_of_mem_drop h)), (by rw [hpr, dj sha om om, if_neg om]; simp), Z.pick [4, 5, 0, 1, 6, 7], Y.select [0] de⟩
   omega
  rw [hc5] at Z
  try simp only [qz] at hc5
  refine ar <| hK12 _ _ <| aa fun K15 hK15 => wlm Z rfl fun a Z => wlm Z rfl fun a Z => am Z Y de call41 rfl (ef (cut v 1 (lft cl.length) cl.length (slCap v)) (cl.drop (lft cl.length)) _ ((Y.arg hv).cutd (l := (lft cl.length)) (by first | omega | (rw [List.length_reverse]; omega) | simp | (simp; omega))) (by first | omega | (simp only [List.length_take, List.length_drop]; omega)) (by intro k hk; have h := aW (d := []) hk; first | exact hcl _ h | exact hcl _ (List.mem_of_mem_take h) | exact hcl _ (List.mem_of_mem_drop h)) (Y.keepb hk0)) ?_
  clear Z Y
  intro a w8 Z Y
  refine aC (E := 9) (sz := 1) rfl [[sv (rootH sha (cl.drop (lft cl.length)))]] kr sm rfl de de Z Y ?_
  clear Z Y
  intro a w9 Z Y
  refine aN (i := 1) (sT := 26) (inf := Tryz.t9) (z := .string (⟨#[]⟩)) (b := 0) (off := 0) (m := 0) (c := 0) rfl rfl rfl (Y.ow 0 rfl) sm underlying26 rfl rfl rfl rfl de (by simp [Value.oneCell', yv, wv, sv]) (by have hby : Tryz.t9.bytes = 16 := rfl; simp only [big, hby, List.length_append, List.length_map, List.length_cons, List.length_nil]; omega) (by have hby : Tryz.t9.bytes = 16 := rfl; simp only [big, hby, List.length_append, List.length_map, List.length_cons, List.length_nil]; omega) de Z Y fun a w10 s7 Z Y _ => wla Z rfl fun a Z => ab (hK15 _ _ ?_)
  replace Z := Z.p6 4 5 1 7 9 6 rfl
  replace Y := Y.k1 2 rfl
  refine ao <| wlm Z rfl fun a Z => wla Z rfl fun a Z => ab ?_
  rw [show (ou.map fun s => [sv s]) ++ ([[sv (rootH sha (cl.drop (lft cl.length)))]]) = ((ou ++ [rootH sha (cl.drop (lft cl.length))]).map fun s => [sv s]) from by simp] at Y
  have hm1 : (cl.take (lft cl.length)).length < cl.length := by simp only [List.length_take, List.length_drop]; omega
  refine ⟨_, ?_, (cut v 1 0 (lft cl.length) (slCap v)), (cl.take (lft cl.length)), ci, wh, (ou ++ [rootH sha (cl.drop (lft cl.length))]), s7, rfl, hv.cut0 (h := lft cl.length) om, om, (by simp only [List.length_take, List.length_drop]; omega), (by simp only [List.length_take, List.length_drop]; omega), (by simp only [List.length_append, List.length_take, List.length_drop, List.length_cons, List.length_nil]; omega), (fun s h => hcl s (List.mem_of_mem_take h)), (by rw [hpr, dj sha om om, if_pos om]; simp), Z.pick [4, 5, 0, 1, 6, 7], Y.select [0] de⟩
  omega
 rw [hc4] at Z
 try simp only [qz] at hc4
 obtain rfl : ci = cl.length := by omega
 rw [cM] at hpr
 refine aJ <| hK7 _ _ <| ae fun K16 hK16 => aa fun K17 hK17 => wlm Z rfl fun a Z => wlv Z (bq rfl) fun a Z => ab (hK17 _ _ ?_)
 replace Z := Z.p5 4 5 0 6 51 rfl
 refine ax Z rfl (fun hc8 => ?_) (fun hc8 => ?_)
 ·rw [hc8] at Z
  try simp only [qz] at hc8
  refine ao <| wlm Z rfl fun a Z => wlm Z rfl fun a Z => am Z Y de call41 rfl (ef v cl _ (Y.arg hv) (by first | omega | (simp only [List.length_take, List.length_drop]; omega)) (by intro k hk; have h := aW (d := []) hk; first | exact hcl _ h | exact hcl _ (List.mem_of_mem_take h) | exact hcl _ (List.mem_of_mem_drop h)) (Y.keepb hk0)) ?_
  clear Z Y
  intro a w11 Z Y
  refine aC (E := 9) (sz := 1) rfl [[sv (rootH sha cl)]] kr sm rfl de de Z Y ?_
  clear Z Y
  intro a w12 Z Y
  refine aN (i := 1) (sT := 26) (inf := Tryz.t9) (z := .string (⟨#[]⟩)) (b := 0) (off := 0) (m := 0) (c := 0) rfl rfl rfl (Y.ow 0 rfl) sm underlying26 rfl rfl rfl rfl de (by simp [Value.oneCell', yv, wv, sv]) (by have hby : Tryz.t9.bytes = 16 := rfl; simp only [big, hby, List.length_append, List.length_map, List.length_cons, List.length_nil]; omega) (by have hby : Tryz.t9.bytes = 16 := rfl; simp only [big, hby, List.length_append, List.length_map, List.length_cons, List.length_nil]; omega) de Z Y fun a w13 s9 Z Y _ => wla Z rfl fun a Z => ab <| hK16 _ _ ?_
  replace Z := Z.p3 4 5 6 rfl
  replace Y := Y.k1 2 rfl
  refine aa fun K18 hK18 => wlm Z rfl fun a Z => ?_
  rw [show (ou.map fun s => [sv s]) ++ ([[sv (rootH sha cl)]]) = ((ou ++ [rootH sha cl]).map fun s => [sv s]) from by simp] at Y
  refine gN (e' := own s9 9 1 ((ou ++ [rootH sha cl]).reverse.map fun s => [sv s])) 0 Z Y de call85 rfl rfl (fun _ h => h) (eK _ _ _ _ (Y.g 0 rfl)) rfl ?_
  clear Z Y
  intro a w14 Z Y
  refine ab (hK18 _ _ <| aa fun K19 hK19 => ?_)
  refine wlm Z rfl fun a Z => wla Z rfl fun a Z => wla Z rfl fun a Z => ab (hK19 _ _ <| ap ?_)
  refine al Z results53 (ac rfl (ac rfl ag)) ?_
  have hwh : wh = false := by assumption
  rw [hwh] at hpr
  simp only [if_true, if_false, Bool.false_eq_true, List.nil_append] at hpr
  refine ⟨s9, rfl, trivial, Y.ext, St.out (E := [own s9 9 1 ((partH sha ls i true).map fun s => [sv s])]) (H := []) ?_⟩
  rw [hpr]; rw [List.reverse_append] at Y; exact Y
 rw [hc8] at Z
 try simp only [qz] at hc8
 refine ar <| hK16 _ _ <| aa fun K20 hK20 => wlm Z rfl fun a Z => gN (e' := own o 9 1 (ou.reverse.map fun s => [sv s])) 0 Z Y de call85 rfl rfl (fun _ h => h) (eK _ _ _ _ (Y.g 0 rfl)) rfl ?_
 clear Z Y
 intro a w15 Z Y
 refine ab (hK20 _ _ <| aa fun K21 hK21 => ?_)
 refine wlm Z rfl fun a Z => wla Z rfl fun a Z => wla Z rfl fun a Z => ab (hK21 _ _ ?_)
 replace Z := Z.p2 4 5 rfl
 refine ap ?_
 refine al Z results53 (ac rfl (ac rfl ag)) ?_
 have hwh : wh = true := by assumption
 rw [hwh] at hpr
 simp only [if_true, if_false, Bool.false_eq_true, List.nil_append] at hpr
 refine ⟨o, rfl, trivial, Y.ext, St.out (E := [own o 9 1 ((partH sha ls i true).map fun s => [sv s])]) (H := []) ?_⟩
 rw [hpr]; exact Y
def encD (xs : List (By × Bool)) (k : Nat) : List Value := [iv (k : Int), .agg #[sv (xs.getD k ([], false)).1, .bool (xs.getD k ([], false)).2]]
theorem lU {M : Nat → Prop} {w0 : World} (v : Value) (xs : List (By × Bool)) (lp b1 : Nat) (J Jx : List Nat → Ent → Prop) (hY : Rounds Tryz.prog M w0 lp (encD xs) (NxB xs.length) J Jx) (e0 : Ent) (ws : World) (hn : xs.length ≤ 1000000) (hJ : J [] e0) (Y : St M w0 [e0, blk b1 [v] 124, own v 128 2 (xs.map fun x : By × Bool => [sv x.1, .bool x.2])] ws) :
  Ret Tryz.prog 109 #[.func (.yield lp) #[] #[], pt b1] ws fun _ w => ∃ e1 Hi1, St M w0 (e1 :: Hi1) w ∧ ((∃ ys, (ys = backs xs.length xs.length ∧ Hi1 = [blk b1 [v] 124, own v 128 2 (xs.map fun x : By × Bool => [sv x.1, .bool x.2])]) ∧ J ys e1) ∨ (∃ pre, Hi1 = [blk b1 [v] 124, own v 128 2 (xs.map fun x : By × Bool => [sv x.1, .bool x.2])] ∧ Jx pre e1)) := by
 refine aD func109 rfl ntmps109 (lb rfl) fun a Z => ?_
 replace Z := Z.p2 0 1 rfl
 skip
 refine aa fun K1 hK1 => wlv Z (ld Y 1 rfl rfl (isAgg124 _) rfl) fun a Z => wlv Z ((aE (sT := 124) (Y.ow 2 rfl) rfl rfl (runUnderlying124 _)).asi (m' := (xs.length : Int)) sm) fun a Z => wlv Z (bh rfl rfl ⟨om, om⟩) fun a Z => wla Z rfl fun a Z => ab (hK1 _ _ <| aq ?_)
 rw [show (xs.length : Int) - 1 = (xs.length : Int) - 1 - ((0 : Nat) : Int) from by omega] at Z
 refine aR (fun m a w => ∃ (j : Nat) (e : Ent), m = xs.length - j ∧ (j ≤ xs.length) ∧ (J (backs xs.length j) e) ∧ Fr 19 [(0, .func (.yield lp) #[] #[]), (1, pt b1), (3, iv ((xs.length : Int) - 1 - (j : Int)))] [] a ∧ St M w0 [e, blk b1 [v] 124, own v 128 2 (xs.map fun x : By × Bool => [sv x.1, .bool x.2])] w) _ ⟨0, e0, rfl, Nat.zero_le _, hJ, Z.pick [0, 1, 3], Y⟩ ?_
 rintro _ a w1 ⟨j, e, rfl, hj, hJ, Z, Y⟩
 refine ae fun K2 hK2 => aa fun K3 hK3 => wlm Z rfl fun a Z => wlv Z (v_ge rfl rfl) fun a Z => ab (hK3 _ _ ?_)
 refine ax Z rfl (fun hc1 => ?_) (fun hc1 => ?_)
 ·rw [hc1] at Z
  try simp only [qz] at hc1
  have hjl : j < xs.length := by omega
  refine ar <| hK2 _ _ <| ae fun K4 hK4 => aq ?_
  have hidx : (xs.length : Int) - 1 - (j : Int) = ((xs.length - 1 - j : Nat) : Int) := by omega
  refine aa fun K5 hK5 => wlm Z rfl fun a Z => wlm Z rfl fun a Z => wlv Z (ld Y 1 rfl rfl (isAgg124 _) rfl) fun a Z => wlm Z rfl fun a Z => wlv Z ((aj (i := (xs.length : Int) - 1 - (j : Int)) (sT := 124) (Y.ow 2 rfl) rfl rfl (runUnderlying124 _) (sizeOf128 _) om (by simp; omega)).as (v' := slAddr v ((xs.length - 1 - j) * 2)) (by rw [show ((xs.length : Int) - 1 - (j : Int)).toNat = (xs.length - 1 - j) from by omega])) fun a Z => wlv Z ((bX (Y.ow 2 rfl) (i := (xs.length - 1 - j)) (by simp; omega) rfl (isAgg128 _) (sizeOf128 _)).as (v' := .agg #[sv ((xs.getD (xs.length - 1 - j) ([], false)).1), .bool ((xs.getD (xs.length - 1 - j) ([], false)).2)]) (by rw [br ([], false)])) fun a Z => ?_
  rw [hidx] at Z
  refine wl_r (fh rfl rfl (hY.yield (pre := backs xs.length j) (x := xs.length - 1 - j) (by show xs.length - 1 - j + 1 + (backs xs.length j).length = xs.length; rw [dy]; omega) hJ (Y.only (i := 0) rfl))) rfl rfl Z ?_
  clear Z
  intro a v w2 hR Z
  obtain ⟨y2, e3, rfl, hx, hok, hft, hJt, hJf⟩ := hR
  replace Y := Y.exchange (k := 0) rfl hx hok hft
  replace Y : St M w0 [_, _, _] w2 := Y
  clear hx hok hft
  refine wlv Z (bq rfl) fun a Z => ab (hK5 _ _ ?_)
  replace Z := Z.p4 0 1 3 18 rfl
  refine ax Z rfl (fun hc4 => ?_) (fun hc4 => ?_)
  ·rw [hc4] at Z
   try simp only [qz] at hc4
   have hJ := hJf hc4
   refine ap ?_
   refine al Z results109 ag ?_
   exact ⟨_, _, Y, .inr ⟨_, rfl, hJ⟩⟩
  rw [hc4] at Z
  try simp only [qz] at hc4
  have hJ := hJt hc4
  refine ar <| hK4 _ _ <| ao <| wlm Z rfl fun a Z => wlv Z (bh rfl rfl ⟨om, om⟩) fun a Z => wla Z rfl fun a Z => ab ?_
  rw [show ((xs.length - 1 - j : Nat) : Int) - 1 = (xs.length : Int) - 1 - ((j + 1 : Nat) : Int) from by omega] at Z
  refine ⟨_, ?_, j + 1, e3, rfl, om, hJ, Z.pick [0, 1, 3], Y⟩
  omega
 rw [hc1] at Z
 try simp only [qz] at hc1
 obtain rfl : j = xs.length := by omega
 refine aJ ?_
 refine dt Z results109 ag ?_
 exact ⟨_, _, Y, .inl ⟨_, ⟨rfl, rfl⟩, hJ⟩⟩
theorem eF {M : Nat → Prop} {w0 : World} (v : Value) (xs : List (By × Bool)) (b1 : Nat) (hn : xs.length ≤ 1000000) :
  Iter Tryz.prog 109 [pt b1] (encD xs) (NxB xs.length) (fun ys Hi => ys = backs xs.length xs.length ∧ Hi = [blk b1 [v] 124, own v 128 2 (xs.map fun x : By × Bool => [sv x.1, .bool x.2])]) (fun pre Hi => Hi = [blk b1 [v] 124, own v 128 2 (xs.map fun x : By × Bool => [sv x.1, .bool x.2])]) M w0 [blk b1 [v] 124, own v 128 2 (xs.map fun x : By × Bool => [sv x.1, .bool x.2])] :=
 fun lp J Jx w e hY hJ Y => lU v xs lp b1 J Jx hY e w hn hJ Y
theorem gC (v : Value) (els : List (List Value)) (w0 : World) (hv : SlAt w0 v 2 els) :
  Ret Tryz.prog 90 #[v] w0 (MemR w0 (fun z : Nat => .func (.func 109) #[] #[pt z]) (fun z => [blk z [v] 124]) (fun _ => True)) := by
 refine aD func90 rfl ntmps90 (lb rfl) fun a Z => ?_
 replace Z := Z.p1 0 rfl
 replace Y : St No w0 [] w0 := St.init w0
 refine aa fun K1 hK1 => bj Z Y de rfl (cs := [v]) (by rw [(Y.arg hv).cells]) ?_
 clear Z Y
 intro a w1 Z Y
 refine wla Z rfl fun a Z => ab (hK1 _ _ <| aa fun K2 hK2 => ?_)
 refine wlv Z (cy rfl rfl) fun a Z => wla Z rfl fun a Z => ab (hK2 _ _ <| ap ?_)
 refine al Z results90 (ac rfl ag) ?_
 exact ⟨w0.hz, rfl, trivial, Y.ext, St.out (H := []) Y⟩
def joinH (x : By × Bool) (o : By) : By := sha (1 :: (if x.2 then x.1 ++ o else o ++ x.1))
theorem ce {α : Type} (f : By × Bool → α → α) (l : List (By × Bool)) (r : α) : (backs l.length l.length).foldl (fun o k => f (l.getD k ([], false)) o) r = l.foldr f r := by
 rw [eH (fun o x => f x o) ([], false) _ _ _ (Nat.le_refl _), Nat.sub_self, List.drop_zero, List.foldl_reverse]
theorem eu {p : List By} (h : 0 < p.length) : p = p.take (p.length - 1) ++ [p.getD (p.length - 1) []] := by
 conv => lhs; rw [← List.take_length (l := p), show p.length = p.length - 1 + 1 from by omega, bO [] om]
theorem kO {n i : Nat} {s : By} {p : List By} (h : 2 ≤ n) (hp : 0 < p.length) (hi : i < lft n) : valueH sha n i s p = (joinH (p.getD (p.length - 1) [], false) (valueH sha (lft n) i s (p.take (p.length - 1))).1, (valueH sha (lft n) i s (p.take (p.length - 1))).2) := by
 conv => lhs; rw [eu hp, dl sha h, if_pos hi]
 rfl
theorem jI {n i : Nat} {s : By} {p : List By} (h : 2 ≤ n) (hp : 0 < p.length) (hi : lft n ≤ i) : valueH sha n i s p = (joinH (p.getD (p.length - 1) [], true) (valueH sha (n - lft n) (i - lft n) s (p.take (p.length - 1))).1, (valueH sha (n - lft n) (i - lft n) s (p.take (p.length - 1))).2) := by
 conv => lhs; rw [eu hp, dl sha h, if_neg om]
 rfl
theorem eJ {root : By} {n i : Int} {s : By} {p : List By} (h : ¬ (0 ≤ i ∧ i < n ∧ (p.all fun x => decide (x.length = 32)) = true)) : cE sha root n i s p = false := by
 cases hv : cE sha root n i s p with
 | false => rfl
 | true =>
  unfold cE at hv
  simp only [Bool.and_eq_true, decide_eq_true_eq] at hv
  exact absurd ⟨hv.1.1.1.1, hv.1.1.1.2, hv.1.1.2⟩ h
theorem nl {root : By} {n i cn ci : Nat} {s : By} {p cp : List By} {way : List (By × Bool)} (hval : valueH sha n i s p = (way.foldr joinH (valueH sha cn ci s cp).1, (valueH sha cn ci s cp).2)) (hc : cp.length = 0) (h2 : 2 ≤ cn) : cE sha root n i s p = false := by
 obtain rfl : cp = [] := List.eq_nil_of_length_eq_zero hc
 rw [lg sha h2] at hval
 unfold cE
 rw [Int.toNat_natCast, Int.toNat_natCast, hval]
 simp
theorem lN {root : By} {n i cn ci : Nat} {s : By} {p cp : List By} {way : List (By × Bool)} (hval : valueH sha n i s p = (way.foldr joinH (valueH sha cn ci s cp).1, (valueH sha cn ci s cp).2)) (h1 : i < n) (hall : (p.all fun x => decide (x.length = 32)) = true) (h2 : cn ≤ 1) : cE sha root n i s p = (decide (cp.length = 0) && decide (way.foldr joinH (leafH sha s) = root)) := by
 rw [gO sha h2] at hval
 unfold cE
 rw [Int.toNat_natCast, Int.toNat_natCast, hval, hall]
 have : cp.isEmpty = decide (cp.length = 0) := by cases cp <;> simp
 simp [this, h1]
theorem all32 {p : List By} (h : (p.all fun x => decide (x.length = 32)) = true) : ∀ x ∈ p, x.length = 32 := by
 intro x hx; simpa using List.all_eq_true.1 h x hx
theorem js (lv : Value) (xs : List By) (w0 : World) (hlv : SlAt w0 lv 1 (xs.map fun s => [sv s])) (h0 : xs.length = 0) :
  Ret Tryz.prog 89 #[lv] w0 fun v w => v = .tuple #[sv [], .slice none 0 0, .bool false] ∧ Ext No w0 w := by
 refine aD func89 rfl ntmps89 (lb rfl) fun a Z => ?_
 replace Z := Z.p1 0 rfl
 replace Y : St No w0 [] w0 := St.init w0
 refine aa fun K1 hK1 => wla Z rfl fun a Z => wla Z rfl fun a Z => wla Z rfl fun a Z => ab (hK1 _ _ <| ae fun K2 hK2 => ?_)
 refine aa fun K3 hK3 => wlm Z rfl fun a Z => wlv Z ((aE (sT := 26) (Y.arg hlv) rfl rfl (runUnderlying26 _)).asi (m' := (xs.length : Int)) sm) fun a Z => wlv Z (v_eq rfl rfl) fun a Z => ab (hK3 _ _ ?_)
 refine ax Z rfl (fun hc1 => ?_) (fun hc1 => ?_)
 ·rw [hc1] at Z
  try simp only [qz] at hc1
  refine aa fun K4 hK4 => wla Z rfl fun a Z => wla Z rfl fun a Z => wla Z rfl fun a Z => ab (hK4 _ _ <| ap ?_)
  refine al Z results89 (ac rfl (ac rfl (ac rfl ag))) ?_
  exact ⟨by rfl, Y.ext⟩
 rw [hc1] at Z
 try simp only [qz] at hc1
 omega
theorem mK (root s : By) (n i : Int) (lv : Value) (ls : List By) (w0 : World) (hlv : SlAt w0 lv 1 (ls.map fun s => [sv s])) (hln : ls.length ≤ 1000) (hs : s.length ≤ 40000000) (hn : n ≤ 9223372036854775807) (hk0 : (blk 0 (kOf.map wv) 161).ok w0) :
  Ret Tryz.prog 57 #[sv root, iv n, iv i, sv s, lv] w0 fun v w => v = .bool (cE sha root n i s ls) ∧ Ext No w0 w := by
 refine aD func57 rfl ntmps57 (lb rfl) fun a Z => ?_
 replace Z := Z.p5 0 1 2 3 4 rfl
 replace Y : St (· = 0) w0 [blk 0 (kOf.map wv) 161] w0 := St.one hk0
 refine aa fun K1 hK1 => wla Z rfl fun a Z => ab (hK1 _ _ <| ae fun K2 hK2 => ?_)
 refine aa fun K3 hK3 => wlm Z rfl fun a Z => wlv Z (v_lt rfl rfl) fun a Z => wlm Z rfl fun a Z => ?_
 rcases Bool.eq_false_or_eq_true (decide (i < 0)) with hb1 | hb1
 ·rw [hb1] at Z
  try simp only [qz] at hb1
  refine wln Z fun a Z => wln Z fun a Z => wln Z fun a Z => wlv Z (az rfl rfl) fun a Z => wlm Z rfl fun a Z => wln Z fun a Z => wln Z fun a Z => wln Z fun a Z => wlv Z (az rfl rfl) fun a Z => ab (hK3 _ _ ?_)
  replace Z := Z.p7 0 1 2 3 4 10 30 rfl
  refine aI Z rfl ?_
  refine aa fun K4 hK4 => wla Z rfl fun a Z => ab (hK4 _ _ <| ap ?_)
  refine al Z results57 (ac rfl ag) ?_
  exact ⟨by simp only [retv]; rw [eJ (by rintro ⟨h1, h2, h3⟩; first | omega | simp_all)], Y.ext.const hk0 (Y.g 0 rfl)⟩
 rw [hb1] at Z
 try simp only [qz] at hb1
 refine wly Z (ah rfl) fun a Z => wly Z (ah rfl) fun a Z => wly Z (v_ge rfl rfl) fun a Z => wlv Z (ay rfl rfl) fun a Z => wlm Z rfl fun a Z => ?_
 rcases Bool.eq_false_or_eq_true (decide (n ≤ i)) with hb2 | hb2
 ·rw [hb2] at Z
  try simp only [qz] at hb2
  refine wln Z fun a Z => wln Z fun a Z => wln Z fun a Z => wlv Z (az rfl rfl) fun a Z => ab (hK3 _ _ ?_)
  replace Z := Z.p7 0 1 2 3 4 10 30 rfl
  refine aI Z rfl ?_
  refine aa fun K5 hK5 => wla Z rfl fun a Z => ab (hK5 _ _ <| ap ?_)
  refine al Z results57 (ac rfl ag) ?_
  exact ⟨by simp only [retv]; rw [eJ (by rintro ⟨h1, h2, h3⟩; first | omega | simp_all)], Y.ext.const hk0 (Y.g 0 rfl)⟩
 rw [hb2] at Z
 try simp only [qz] at hb2
 refine wly Z (ah rfl) fun a Z => ba Z Y de rfl de rfl call87 rfl (nV lv ls _ (hlv.grow (Y.ext.const hk0 (Y.g 0 rfl)))) ?_
 clear Z Y
 intro a w1 Z Y
 refine wly Z (bq rfl) fun a Z => wlv Z (ay rfl rfl) fun a Z => ab (hK3 _ _ ?_)
 replace Z := Z.p7 0 1 2 3 4 10 30 rfl
 refine ax Z rfl (fun hc3 => ?_) (fun hc3 => ?_)
 ·rw [hc3] at Z
  try simp only [qz] at hc3
  have hall := hc3
  refine aa fun K6 hK6 => wla Z rfl fun a Z => ab (hK6 _ _ <| ap ?_)
  refine al Z results57 (ac rfl ag) ?_
  exact ⟨by simp only [retv]; rw [eJ (by rintro ⟨h1, h2, h3⟩; first | omega | simp_all)], Y.ext.const hk0 (Y.g 0 rfl)⟩
 rw [hc3] at Z
 try simp only [qz] at hc3
 have hall := hc3
 refine ar <| hK2 _ _ <| aa fun K7 hK7 => wla Z rfl fun a Z => ab (hK7 _ _ <| ae fun K8 hK8 => ?_)
 refine aq ?_
 obtain ⟨nn, rfl⟩ := Int.eq_ofNat_of_zero_le (show 0 ≤ n by omega)
 obtain ⟨ii, rfl⟩ := Int.eq_ofNat_of_zero_le (show 0 ≤ i by omega)
 have hl32 := all32 hall
 replace Y : St (· = 0) w0 [own (.slice none 0 0) 128 2 (([] : List (By × Bool)).map fun x : By × Bool => [sv x.1, .bool x.2]), blk 0 (kOf.map wv) 161] w1 := Y.nil_own
 refine aR (fun m a w => ∃ (cn : Nat) (ci : Nat) (pz : Value) (cp : List By) (way : List (By × Bool)) (u : Value), m = cp.length ∧ (SlAt w0 pz 1 (cp.map fun s => [sv s])) ∧ (ci < cn) ∧ (cn ≤ 9223372036854775807) ∧ (way.length + cp.length ≤ 1000) ∧ (∀ x ∈ cp, x.length = 32) ∧ (∀ x ∈ way, x.1.length = 32) ∧ (valueH sha nn ii s ls = (way.foldr joinH (valueH sha cn ci s cp).1, (valueH sha cn ci s cp).2)) ∧ Fr 79 [(0, sv root), (3, sv s), (1, iv (cn : Int)), (2, iv (ci : Int)), (4, pz), (11, u)] [] a ∧ St (· = 0) w0 [own u 128 2 (way.map fun x : By × Bool => [sv x.1, .bool x.2]), blk 0 (kOf.map wv) 161] w) _ ⟨nn, ii, lv, ls, [], .slice none 0 0, rfl, hlv, om, om, (by simp; omega), hl32, sm, rfl, Z.pick [0, 3, 1, 2, 4, 11], Y.select [0, 1] de⟩ ?_
 rintro _ a w2 ⟨cn, ci, pz, cp, way, u, rfl, hpv, hc1, hc2, hc3, hcp, hway, hval, Z, Y⟩
 refine ae fun K9 hK9 => aa fun K10 hK10 => wlm Z rfl fun a Z => wlv Z (v_gt rfl rfl) fun a Z => ab (hK10 _ _ ?_)
 refine ax Z rfl (fun hc4 => ?_) (fun hc4 => ?_)
 ·rw [hc4] at Z
  try simp only [qz] at hc4
  refine ar <| hK9 _ _ <| aq <| aa fun K11 hK11 => wlm Z rfl fun a Z => ?_
  rcases Bool.eq_false_or_eq_true (decide (cp.length = 0)) with hb5 | hb5
  ·try simp only [qz] at hb5
   refine am Z Y de call89 rfl (js pz cp _ (hpv.grow (Y.ext.const hk0 (Y.g 1 rfl))) om) ?_
   clear Z Y
   intro a w3 Z Y
   refine wlm Z rfl fun a Z => wlv Z (ai rfl rfl) fun a Z => wlv Z (ai rfl rfl) fun a Z => wlv Z (ai rfl rfl) fun a Z => wla Z rfl fun a Z => wla Z rfl fun a Z => wla Z rfl fun a Z => ab (hK11 _ _ ?_)
   replace Z := Z.p9 0 3 1 2 4 11 12 13 14 rfl
   refine ae fun K12 hK12 => aa fun K13 hK13 => wlm Z rfl fun a Z => wlv Z ((bq rfl).asb (b' := true) rfl) fun a Z => ab (hK13 _ _ <| aI Z rfl ?_)
   refine aa fun K14 hK14 => wla Z rfl fun a Z => ab (hK14 _ _ <| ap ?_)
   refine al Z results57 (ac rfl ag) ?_
   exact ⟨by simp only [retv]; rw [nl hval om om], Y.ext.const hk0 (Y.g 1 rfl)⟩
  try simp only [qz] at hb5
  have hlt := bG (n := cn) om
  have hlp := bB cn
  have hx32 : (cp.getD (cp.length - 1) []).length = 32 := hcp _ (aW om)
  refine am Z Y de call89 rfl (lE pz cp _ (hpv.grow (Y.ext.const hk0 (Y.g 1 rfl))) om) ?_
  clear Z Y
  intro a w4 Z Y
  refine wlm Z rfl fun a Z => wlv Z (ai rfl rfl) fun a Z => wlv Z (ai rfl rfl) fun a Z => wlv Z (ai rfl rfl) fun a Z => wla Z rfl fun a Z => wla Z rfl fun a Z => wla Z rfl fun a Z => ab (hK11 _ _ ?_)
  replace Z := Z.p9 0 3 1 2 4 11 12 13 14 rfl
  refine ae fun K15 hK15 => aa fun K16 hK16 => wlm Z rfl fun a Z => wlv Z ((bq rfl).asb (b' := false) rfl) fun a Z => ab (hK16 _ _ <| aL Z rfl ?_)
  refine ar <| hK15 _ _ <| aa fun K17 hK17 => wlm Z rfl fun a Z => wla Z rfl fun a Z => ab (hK17 _ _ <| aa fun K18 hK18 => ?_)
  refine wlm Z rfl fun a Z => am Z Y de call84 rfl (fU cn _ om om) ?_
  clear Z Y
  intro a w5 Z Y
  refine wla Z rfl fun a Z => ab (hK18 _ _ ?_)
  replace Z := Z.p8 0 3 1 2 11 12 4 15 rfl
  refine aa fun K19 hK19 => wlm Z rfl fun a Z => wlm Z rfl fun a Z => wlm Z rfl fun a Z => wlm Z rfl fun a Z => wlv Z (v_ge rfl rfl) fun a Z => wlv Z (bA (v := .agg #[sv (cp.getD (cp.length - 1) []), .bool (decide ((lft cn : Int) ≤ (ci : Int)))]) rfl kr) fun a Z => aC (E := 128) (sz := 2) rfl [[sv (cp.getD (cp.length - 1) []), .bool (decide ((lft cn : Int) ≤ (ci : Int)))]] kr sm rfl de de Z Y ?_
  clear Z Y
  intro a w6 Z Y
  refine aN (i := 1) (sT := 124) (inf := Tryz.t128) (z := .agg #[.string (⟨#[]⟩), .bool false]) (b := 0) (off := 0) (m := 0) (c := 0) rfl rfl rfl (Y.ow 0 rfl) sm underlying124 rfl rfl rfl rfl de (by simp [Value.oneCell', yv, wv, sv]) (by have hby : Tryz.t128.bytes = 24 := rfl; simp only [big, hby, List.length_append, List.length_map, List.length_cons, List.length_nil]; omega) (by have hby : Tryz.t128.bytes = 24 := rfl; simp only [big, hby, List.length_append, List.length_map, List.length_cons, List.length_nil]; omega) de Z Y fun a w7 s6 Z Y _ => wla Z rfl fun a Z => ab (hK19 _ _ ?_)
  replace Z := Z.p7 0 3 1 2 4 15 11 rfl
  replace Y := Y.k2 6 rfl
  refine aa fun K20 hK20 => wlm Z rfl fun a Z => wlm Z rfl fun a Z => wlv Z (v_ge rfl rfl) fun a Z => ab (hK20 _ _ ?_)
  refine ax Z rfl (fun hc7 => ?_) (fun hc7 => ?_)
  ·rw [hc7] at Z
   try simp only [qz] at hc7
   refine ao <| wlm Z rfl fun a Z => wlm Z rfl fun a Z => wlv Z ((bh rfl rfl ⟨om, om⟩).asi (m' := ((cn - lft cn : Nat) : Int)) om) fun a Z => wlm Z rfl fun a Z => wlm Z rfl fun a Z => wlv Z ((bh rfl rfl ⟨om, om⟩).asi (m' := ((ci - lft cn : Nat) : Int)) om) fun a Z => wla Z rfl fun a Z => wla Z rfl fun a Z => ab ?_
   rw [show (way.map fun x : By × Bool => [sv x.1, .bool x.2]) ++ ([[sv (cp.getD (cp.length - 1) []), .bool (decide ((lft cn : Int) ≤ (ci : Int)))]]) = ((way ++ [(cp.getD (cp.length - 1) [], true)]).map fun x : By × Bool => [sv x.1, .bool x.2]) from by rw [decide_eq_true om]; simp] at Y
   have hm1 : (cp.take (cp.length - 1)).length < cp.length := by rw [List.length_take]; omega
   refine ⟨_, ?_, (cn - lft cn), (ci - lft cn), (cut pz 1 0 (cp.length - 1) (slCap pz)), (cp.take (cp.length - 1)), (way ++ [(cp.getD (cp.length - 1) [], true)]), s6, rfl, hpv.cut0 (h := cp.length - 1) om, om, om, (by rw [List.length_append, List.length_take, List.length_singleton]; omega), (fun x h => hcp x (List.mem_of_mem_take h)), (by intro x h; rcases List.mem_append.1 h with h | h; exact hway x h; rw [List.mem_singleton.1 h]; exact hx32), (by rw [hval, jI om om om]; simp), Z.pick [0, 3, 1, 2, 4, 11], Y.select [0, 1] de⟩
   omega
  rw [hc7] at Z
  try simp only [qz] at hc7
  refine ao <| wlm Z rfl fun a Z => wla Z rfl fun a Z => ab ?_
  rw [show (way.map fun x : By × Bool => [sv x.1, .bool x.2]) ++ ([[sv (cp.getD (cp.length - 1) []), .bool (decide ((lft cn : Int) ≤ (ci : Int)))]]) = ((way ++ [(cp.getD (cp.length - 1) [], false)]).map fun x : By × Bool => [sv x.1, .bool x.2]) from by rw [decide_eq_false om]; simp] at Y
  have hm1 : (cp.take (cp.length - 1)).length < cp.length := by rw [List.length_take]; omega
  refine ⟨_, ?_, (lft cn), ci, (cut pz 1 0 (cp.length - 1) (slCap pz)), (cp.take (cp.length - 1)), (way ++ [(cp.getD (cp.length - 1) [], false)]), s6, rfl, hpv.cut0 (h := cp.length - 1) om, om, om, (by rw [List.length_append, List.length_take, List.length_singleton]; omega), (fun x h => hcp x (List.mem_of_mem_take h)), (by intro x h; rcases List.mem_append.1 h with h | h; exact hway x h; rw [List.mem_singleton.1 h]; exact hx32), (by rw [hval, kO om om om]; simp), Z.pick [0, 3, 1, 2, 4, 11], Y.select [0, 1] de⟩
  omega
 rw [hc4] at Z
 try simp only [qz] at hc4
 refine aJ <| hK8 _ _ <| aa fun K21 hK21 => wlm Z rfl fun a Z => am Z Y de call75 rfl (iE s _ om (Y.g 1 rfl)) ?_
 clear Z Y
 intro a w8 Z Y
 refine aU Z Y de (zeroValue9 _) (cs := [.string (⟨#[]⟩)]) rfl ?_
 clear Z Y
 intro a w9 Z Y
 refine aH 0 Z Y rfl rfl rfl (sizeOf9 _) rfl (lb rfl) (ds := [sv (leafH sha s)]) rfl rfl ?_
 clear Z Y
 intro a w10 Z Y
 refine ab (hK21 _ _ ?_)
 replace Z := Z.p4 0 4 11 16 rfl
 refine ae fun K22 hK22 => aa fun K23 hK23 => wlm Z rfl fun a Z => aK Z Y de call90 rfl (gC u _ _ (Y.ow 1 rfl)) ?_
 clear Z Y
 intro a w11 x8 hp Z Y
 revert x8 hp Z Y; rintro z1 hp Z Y
 clear hp
 replace Y : St (· = 0) w0 [_, _, _, _] w11 := Y
 refine ab (hK23 _ _ <| aq ?_)
 have hy32 : ∀ k, k < way.length → (way.getD k ([], false)).1.length = 32 := fun k hk => hway _ (aW hk)
 replace Y : St (· = 0) w0 [_, _, _, _] w11 := Y
 replace Y : St (· = 0) w0 [blk 0 (kOf.map wv) 161, blk w8.hz [sv (([] : List Nat).foldl (fun o k => joinH (way.getD k ([], false)) o) (leafH sha s))] 9, blk z1 [u] 124, own u 128 2 (way.map fun x : By × Bool => [sv x.1, .bool x.2])] w11 := Y.select [3, 1, 0, 2] de
 replace Z : Fr 79 [(0, sv root), (4, pz), (11, u), (16, pt w8.hz), (64, u), (65, .func (.func 109) #[] #[pt z1])] [] a := Z.pick [0, 4, 11, 16, 64, 65]
 refine cU (M := (· = 0)) (w0 := w0) (encs := (encD way)) (Hi := [blk z1 [u] 124, own u 128 2 (way.map fun x : By × Bool => [sv x.1, .bool x.2])]) (Hc := [blk 0 (kOf.map wv) 161, blk w8.hz [sv (([] : List Nat).foldl (fun o k => joinH (way.getD k ([], false)) o) (leafH sha s))] 9]) (fun pre H => ((pre.foldl (fun o k => joinH (way.getD k ([], false)) o) (leafH sha s)).length = 32) ∧ H = [blk 0 (kOf.map wv) 161, blk w8.hz [sv (pre.foldl (fun o k => joinH (way.getD k ([], false)) o) (leafH sha s))] 9]) (fun _ _ _ => False) (fun pre xs H a => ∃ (bA0 : Nat), Fr 79 [(0, sv root), (4, pz), (11, u), (16, pt w8.hz), (64, u), (65, .func (.func 109) #[] #[pt z1]), (18, pt bA0)] [] a ∧ ((pre.foldl (fun o k => joinH (way.getD k ([], false)) o) (leafH sha s)).length = 32) ∧ H = [blk bA0 [sv ((way.getD xs ([], false)).1), .bool ((way.getD xs ([], false)).2)] 128, blk 0 (kOf.map wv) 161, blk w8.hz [sv (pre.foldl (fun o k => joinH (way.getD k ([], false)) o) (leafH sha s))] 9]) rfl call109 Z Y (eF u way z1 om) de (fun _ => rfl) ⟨jD aZ s, rfl⟩ ?_ ?_ ?_ ?_
 ·clear Z Y
  rintro lp pre xs _ a w12 hnx ⟨hf32, rfl⟩ Z Y
  generalize (join [blk 0 (kOf.map wv) 161, blk w8.hz [sv (pre.foldl (fun o k => joinH (way.getD k ([], false)) o) (leafH sha s))] 9]).foot = M1 at Y ⊢
  replace Z : Fr 79 [(67, .agg #[sv ((way.getD xs ([], false)).1), .bool ((way.getD xs ([], false)).2)]), (66, iv (xs : Int)), (0, sv root), (4, pz), (11, u), (16, pt w8.hz), (64, u), (65, .func (.func 109) #[] #[pt z1])] [] a := Z
  refine ao <| aU Z Y de (zeroValue128 _) (cs := [.string (⟨#[]⟩), .bool false]) rfl ?_
  clear Z Y
  intro a w13 Z Y
  refine aH 0 Z Y rfl rfl rfl (sizeOf128 _) rfl (lb rfl) (ds := [sv ((way.getD xs ([], false)).1), .bool ((way.getD xs ([], false)).2)]) rfl rfl ?_
  clear Z Y
  intro a w14 Z Y
  refine ab ?_
  exact ⟨_, ⟨w12.hz, Z.pick [0, 4, 11, 16, 64, 65, 18], hf32, rfl⟩, Y⟩
 ·rintro lp pre xs _ a w15 hnx ⟨bA0, Z, hf32, rfl⟩ hout hrec hnl Y
  clear hrec hnl
  generalize (join [blk bA0 [sv ((way.getD xs ([], false)).1), .bool ((way.getD xs ([], false)).2)] 128, blk 0 (kOf.map wv) 161, blk w8.hz [sv (pre.foldl (fun o k => joinH (way.getD k ([], false)) o) (leafH sha s))] 9]).foot = M1 at Y hout ⊢
  refine aq <| ao <| wlv Z (aw (Y.g 0 rfl) rfl (isAgg128 _) (sizeOf128 _)) fun a Z => wlv Z (ld Y 2 rfl rfl (isAgg9 _) rfl) fun a Z => am Z Y de call91 rfl (dh ((way.getD xs ([], false)).1) ((way.getD xs ([], false)).2) (pre.foldl (fun o k => joinH (way.getD k ([], false)) o) (leafH sha s)) _ (by have := hy32 xs (by have h := hnx; unfold NxB at h; omega); omega) (by first | omega | exact Nat.le_trans (Nat.le_of_eq hf32) de) (Y.g 1 rfl)) ?_
  clear Z Y
  intro a w16 Z Y
  refine aH 2 Z Y rfl rfl rfl (sizeOf9 _) rfl (lb rfl) (ds := [sv (joinH ((way.getD xs ([], false)).1, (way.getD xs ([], false)).2) (pre.foldl (fun o k => joinH (way.getD k ([], false)) o) (leafH sha s)))]) rfl rfl ?_
  clear Z Y
  intro a w17 Z Y
  refine ab ?_
  rw [show joinH ((way.getD xs ([], false)).1, (way.getD xs ([], false)).2) (pre.foldl (fun o k => joinH (way.getD k ([], false)) o) (leafH sha s)) = (pre ++ [xs]).foldl (fun o k => joinH (way.getD k ([], false)) o) (leafH sha s) from by rw [List.foldl_append]; rfl] at Y
  exact ⟨_, ⟨(by rw [List.foldl_append]; exact aZ _), rfl⟩, Y.select [1, 2] de⟩
 ·rintro D pre _ _ a w18 ⟨rfl, rfl⟩ ⟨hf32, rfl⟩ Y Z
  replace Z : Fr 79 [(0, sv root), (4, pz), (11, u), (16, pt w8.hz), (64, u), (65, .func (.func 109) #[] #[pt z1])] [{ target := .collected D, args := #[] }] a := Z
  replace Y : St (· = 0) w0 [_, _, _, _, _] w18 := Y
  refine hK22 _ _ <| aa fun K24 hK24 => wlm Z rfl fun a Z => wlv Z ((aE (sT := 26) (hpv.grow (Y.ext.const hk0 (Y.g 1 rfl))) rfl rfl (runUnderlying26 _)).asi (m' := (cp.length : Int)) sm) fun a Z => wlv Z (v_eq rfl rfl) fun a Z => wlm Z rfl fun a Z => ?_
  rcases Bool.eq_false_or_eq_true (decide ((cp.length : Int) = 0)) with hb9 | hb9
  ·rw [hb9] at Z
   try simp only [qz] at hb9
   refine wly Z (ld Y 2 rfl rfl (isAgg9 _) rfl) fun a Z => wly Z (ah rfl) fun a Z => wly Z (dX rfl rfl) fun a Z => wlv Z (az rfl rfl) fun a Z => wla Z rfl fun a Z => ab (hK24 _ _ ?_)
   replace Z := Z.p1 10 rfl
   replace Y := Y.k3 19 rfl
   refine ap ?_
   have hD := Y.g 0 rfl
   replace Y := Y.unmark (i := 0) (o' := .deferred none) rfl
   replace Y : St (· = 0) w0 [_, _] _ := Y
   refine bV Z hD results57 (ac rfl ag) ?_
   exact ⟨by simp only [retv]; rw [ce, lN hval om hall om, decide_eq_true (show cp.length = 0 by omega), Bool.true_and], Y.ext.const hk0 (Y.g 0 rfl)⟩
  rw [hb9] at Z
  try simp only [qz] at hb9
  refine wln Z fun a Z => wln Z fun a Z => wln Z fun a Z => wlv Z (ay rfl rfl) fun a Z => wla Z rfl fun a Z => ab (hK24 _ _ ?_)
  replace Z := Z.p1 10 rfl
  replace Y := Y.k3 19 rfl
  refine ap ?_
  have hD := Y.g 0 rfl
  replace Y := Y.unmark (i := 0) (o' := .deferred none) rfl
  replace Y : St (· = 0) w0 [_, _] _ := Y
  refine bV Z hD results57 (ac rfl ag) ?_
  exact ⟨by simp only [retv]; rw [lN hval om hall om, decide_eq_false (show ¬ cp.length = 0 by omega), Bool.false_and], Y.ext.const hk0 (Y.g 0 rfl)⟩
 ·rintro D c pre _ _ a w19 _ h
  exact h.elim
end Go.Proofs.YtddfkkdanpmnaaaGreatDoor
