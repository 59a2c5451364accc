/- Texts joined: LgH, LgI, LgJ, LgK, Laid, Door, OpenL, LawS. -/
import Derived.Test.YtddfkkdanpmnaaaDoorPSD
import Derived.Test.YtddfkkdanpmnaaaDoorPSB
import Derived.Test.YtddfkkdanpmnaaaDoorPSA
import Derived.LaidMore
import Derived.OpenShut
import Derived.Stop.Joined
import Derived.SevenTiedAt
import Derived.ChangeMaps5
import Derived.Test.YtddfkkdanpmnaaaDoorRows
namespace Go.Proofs.YtddfkkdanpmnaaaDoor
open Go.RowKit Go.PW
set_option linter.unusedVariables false
set_option linter.unusedSimpArgs false
set_option maxRecDepth 4000
section
variable {f : Rec → Bool} {l : List Rec} {pre : List Nat} {x : Nat}
theorem no (hnx : NxB l.length pre x) (h : findF f l l.length = findF f l (l.length - pre.length)) (hf : f (l.getD x Rec.z) = false) : findF f l l.length = findF f l (l.length - (pre ++ [x]).length) := by
 unfold NxB at hnx
 rw [h, show l.length - pre.length = x + 1 from by omega, findF, if_neg (by rw [hf]; decide), List.length_append, List.length_singleton, show l.length - (pre.length + 1) = x from by omega]
theorem mY (hnx : NxB l.length pre x) (h : findF f l l.length = findF f l (l.length - pre.length)) (hf : f (l.getD x Rec.z) = true) : findF f l l.length = (x : Int) := by
 unfold NxB at hnx
 rw [h, show l.length - pre.length = x + 1 from by omega, findF, if_pos hf]
theorem mE (h : findF f l l.length = findF f l (l.length - (backs l.length l.length).length)) : findF f l l.length = -1 := by
 rw [h, dk, Nat.sub_self]; rfl
end
def outR (l : List Rec) (n : Nat) : List By := List.replicate (l.length - n) [] ++ codesB (l.drop (l.length - n))
theorem ic (l : List Rec) (n : Nat) (h : n ≤ l.length) : (outR l n).length = l.length := by
 rw [outR, List.length_append, List.length_replicate, fQ, List.length_drop]; omega
theorem nH (l : List Rec) : outR l 0 = List.replicate l.length [] := by
 rw [outR, Nat.sub_zero, List.drop_length]; simp [codesB]
theorem ml (l : List Rec) : outR l (backs l.length l.length).length = codesB l := by
 rw [dk, outR, Nat.sub_self]; simp
theorem l7 {l : List Rec} {pre : List Nat} {x : Nat} (hnx : NxB l.length pre x) : (outR l pre.length).set x (eB (l.getD x Rec.z)) = outR l (pre ++ [x]).length := by
 unfold NxB at hnx
 have e1 : l.length - pre.length = x + 1 := by omega
 have e2 : l.length - (pre ++ [x]).length = x := by rw [List.length_append, List.length_singleton]; omega
 unfold outR
 rw [e1, e2, List.replicate_succ', List.append_assoc, List.set_append_right _ _ (by rw [List.length_replicate]; exact Nat.le_refl _), List.length_replicate, Nat.sub_self, es (show x < l.length by omega)]
 rfl
theorem mu {l : List Rec} {pre : List Nat} {x : Nat} (hnx : NxB l.length pre x) : ((outR l pre.length).map fun s => [sv s]).set x [sv (eB (l.getD x Rec.z))] = (outR l (pre ++ [x]).length).map fun s => [sv s] := by
 rw [← l7 hnx, List.map_set]
theorem my {l : List Rec} {pre : List Nat} {x : Nat} (hnx : NxB l.length pre x) (hk : x < ((outR l pre.length).map fun s => [sv s]).length) : ((outR l pre.length).map fun s => [sv s]).set x (splice ((outR l pre.length).map fun s => [sv s])[x] 0 [sv (eB (l.getD x Rec.z))]) = (outR l (pre ++ [x]).length).map fun s => [sv s] := by
 rw [← mu hnx]; congr 1; rw [List.getElem_map]; rfl
theorem ep (x : Int) (n : Int) (w0 : World) :
  Ret Tryd.prog 56 #[iv x, iv n, iv 0] w0 fun v w => v = .tuple #[iv x, iv n] ∧ Ext No w0 w := by
 refine aE Tryd.func56 rfl Tryd.ntmps56 (lb rfl) fun a Z => ?_
 replace Z : Fr 14 [(0, _), (1, _), (2, _)] [] a := Z
 replace Y : St No w0 [] w0 := St.init w0
 refine aa fun K1 hK1 => wla Z rfl fun a Z => wla Z rfl fun a Z => ab (hK1 _ _ <| ae fun K2 hK2 => ?_)
 refine aa fun K3 hK3 => wlm Z rfl fun a Z => wlv Z ((v_ne rfl rfl).asb (b' := false) rfl) fun a Z => ab (hK3 _ _ <| aL Z rfl ?_)
 refine ar <| hK2 _ _ <| aa fun K4 hK4 => wlm Z rfl fun a Z => wlm Z rfl fun a Z => wla Z rfl fun a Z => wla Z rfl fun a Z => ab (hK4 _ _ ?_)
 replace Z : Fr 14 [(6, _), (7, _)] [] a := Z.pick [6, 7]
 refine au ?_
 refine ap Z Tryd.results56 (ac rfl (ac rfl ag)) ?_
 exact ⟨by rfl, Y.ext⟩
theorem dQ (x : Int) (n : Int) (w0 : World) :
  Pan Tryd.prog 56 #[iv x, iv n, iv 10] w0 fun c w => c = [{ v := .iface 95 (.agg #[]), recovered := false }] ∧ Ext No w0 w := by
 refine lR Tryd.func56 rfl Tryd.ntmps56 (lb rfl) fun a Z => ?_
 replace Z : Fr 14 [(0, _), (1, _), (2, _)] [] a := Z
 replace Y : St No w0 [] w0 := St.init w0
 refine aa fun K1 hK1 => wla Z rfl fun a Z => wla Z rfl fun a Z => ab (hK1 _ _ <| ae fun K2 hK2 => ?_)
 refine aa fun K3 hK3 => wlm Z rfl fun a Z => wlv Z ((v_ne rfl rfl).asb (b' := true) rfl) fun a Z => ab (hK3 _ _ <| aQ Z rfl ?_)
 refine bO ?_
 refine bJ 2 ?_
 refine wlv Z (bA (v := .agg #[]) rfl (by kernel_rfl)) fun a Z => wlv Z (cY rfl Tryd.underlying95) fun a Z => ab <| er Z rfl ?_
 exact fB (X := fun c w => c = [{ v := .iface 95 (.agg #[]), recovered := false }] ∧ Ext No w0 w) Z ⟨rfl, Y.ext⟩
theorem l5 (x : By) (n : Int) (w0 : World) :
  Ret Tryd.prog 58 #[sv x, iv n, iv 0] w0 fun v w => v = .tuple #[sv x, iv n] ∧ Ext No w0 w := by
 refine aE Tryd.func58 rfl Tryd.ntmps58 (lb rfl) fun a Z => ?_
 replace Z : Fr 14 [(0, _), (1, _), (2, _)] [] a := Z
 replace Y : St No w0 [] w0 := St.init w0
 refine aa fun K1 hK1 => wla Z rfl fun a Z => wla Z rfl fun a Z => ab (hK1 _ _ <| ae fun K2 hK2 => ?_)
 refine aa fun K3 hK3 => wlm Z rfl fun a Z => wlv Z ((v_ne rfl rfl).asb (b' := false) rfl) fun a Z => ab (hK3 _ _ <| aL Z rfl ?_)
 refine ar <| hK2 _ _ <| aa fun K4 hK4 => wlm Z rfl fun a Z => wlm Z rfl fun a Z => wla Z rfl fun a Z => wla Z rfl fun a Z => ab (hK4 _ _ ?_)
 replace Z : Fr 14 [(6, _), (7, _)] [] a := Z.pick [6, 7]
 refine au ?_
 refine ap Z Tryd.results58 (ac rfl (ac rfl ag)) ?_
 exact ⟨by rfl, Y.ext⟩
theorem ke (x : By) (n : Int) (w0 : World) :
  Pan Tryd.prog 58 #[sv x, iv n, iv 10] w0 fun c w => c = [{ v := .iface 95 (.agg #[]), recovered := false }] ∧ Ext No w0 w := by
 refine lR Tryd.func58 rfl Tryd.ntmps58 (lb rfl) fun a Z => ?_
 replace Z : Fr 14 [(0, _), (1, _), (2, _)] [] a := Z
 replace Y : St No w0 [] w0 := St.init w0
 refine aa fun K1 hK1 => wla Z rfl fun a Z => wla Z rfl fun a Z => ab (hK1 _ _ <| ae fun K2 hK2 => ?_)
 refine aa fun K3 hK3 => wlm Z rfl fun a Z => wlv Z ((v_ne rfl rfl).asb (b' := true) rfl) fun a Z => ab (hK3 _ _ <| aQ Z rfl ?_)
 refine bO ?_
 refine bJ 2 ?_
 refine wlv Z (bA (v := .agg #[]) rfl (by kernel_rfl)) fun a Z => wlv Z (cY rfl Tryd.underlying95) fun a Z => ab <| er Z rfl ?_
 exact fB (X := fun c w => c = [{ v := .iface 95 (.agg #[]), recovered := false }] ∧ Ext No w0 w) Z ⟨rfl, Y.ext⟩
theorem kP {P : Program} {w : World} {L : List (Nat × Value)} {dst : Option Tmp} {T T' ty : TypeId} {pos : String} {af : Array Edge} {x y : Operand} (hx : ev L x = some .nilIface) (hy : ev L y = some .nilIface) (hr : (binOp .eql T .nilIface .nilIface).run P w = .ok (.bool true) w) (hg : (eqGuard .eql T x y .nilIface .nilIface).run P w = .ok () w) : OpV P ⟨dst, .binOp .eql T x y T', ty, pos, af, none⟩ L w (.bool true) :=
 ⟨rfl, fun N df a h => by
  simp only [execOp, h.eval hx, h.eval hy, Sem.run_bind, hg, hr, Result.andThen_ok]; rfl⟩
theorem cQ {M : Nat → Prop} {w0 : World} (b2 b3 : Nat) (c0 c1 c2 c3 c4 c5 : Value) (ws : World) (Y : St M w0 [blk b2 [c0, c1, c2, c3, c4] 27, blk b3 [c5] 33] ws) :
  CallsDIn Fence.wide 0 Tryd.prog 55 #[pt b2, pt b3] (.panicking [{ v := .iface 95 (.agg #[]), recovered := false }]) ws fun e u' w => u' = (.panicking [{ v := .iface 95 (.agg #[]), recovered := true }]) ∧ ∃ x, e = .returned x ∧ St M w0 [blk b2 [iv 0, iv 0, iv 0, iv 0, sv ([] : By)] 27, blk b3 [iv 110] 33] w  := by
 refine l9 (args := [pt b2, pt b3]) Tryd.func55 rfl Tryd.ntmps55 (lb rfl) rfl rfl (by decide) (fun _ _ => rfl) (.inr ⟨rfl, rfl⟩) fun a Z => ?_
 replace Z : Fr 12 [(5, _), (0, _), (1, _)] [] a := Z
 skip
 refine ao <| aa fun K1 hK1 => wlv Z (jo rfl rfl (by kernel_rfl) (by kernel_rfl)) fun a Z => ab (hK1 _ _ <| aL Z rfl ?_)
 refine aa fun K2 hK2 => wlv Z (gN rfl Tryd.underlying95) fun a Z => wlv Z (ak rfl rfl) fun a Z => wlv Z (ak rfl rfl) fun a Z => ab (hK2 _ _ <| aQ Z rfl ?_)
 refine aa fun K3 hK3 => aO Z Y (by decide) (Tryd.zeroValue95 _) (cs := []) rfl ?_
 clear Z Y
 intro a w1 Z Y
 refine aG 0 Z Y rfl rfl rfl (Tryd.sizeOf95 _) rfl (lb rfl) (ds := []) rfl rfl ?_
 clear Z Y
 intro a w2 Z Y
 refine ab (hK3 _ _ ?_)
 replace Z : Fr 12 [(0, _), (1, _)] [] a := Z.pick [0, 1]
 replace Y : St M w0 [_, _] w2 := Y.mask [false, true, true]
 refine am <| wlv Z (bA (v := .agg #[iv 0, iv 0, iv 0, iv 0, .string (⟨#[]⟩)]) rfl (by kernel_rfl)) fun a Z => aG 0 Z Y rfl rfl rfl (Tryd.sizeOf27 _) rfl (lb rfl) (ds := [iv 0, iv 0, iv 0, iv 0, .string (⟨#[]⟩)]) rfl rfl ?_
 clear Z Y
 intro a w3 Z Y
 refine aG 1 Z Y rfl rfl rfl (Tryd.sizeOf33 _) rfl (lb rfl) (ds := [iv 110]) rfl rfl ?_
 clear Z Y
 intro a w4 Z Y
 refine ab ?_
 refine ie Z Tryd.results55 ag ?_
 exact Y.select [0, 1] (by decide)
theorem lZ (b2 b3 : Nat) (ws : World) :
  CallsDIn Fence.wide 0 Tryd.prog 55 #[pt b2, pt b3] .returning ws fun e u' w => u' = .returning ∧ ∃ x, e = .returned x ∧ Ext No ws w  := by
 refine l9 (args := [pt b2, pt b3]) Tryd.func55 rfl Tryd.ntmps55 (lb rfl) rfl rfl (by decide) (fun _ _ => rfl) (.inl ⟨rfl, rfl, rfl⟩) fun a Z => ?_
 replace Z : Fr 12 [(5, _), (0, _), (1, _)] [] a := Z
 replace Y : St No ws [] ws := St.init ws
 refine ao <| aa fun K1 hK1 => wlv Z (kP rfl rfl (by kernel_rfl) (by kernel_rfl)) fun a Z => ab (hK1 _ _ <| aQ Z rfl ?_)
 refine am <| wla Z rfl fun a Z => ab ?_
 refine ie Z Tryd.results55 ag ?_
 exact Y.ext
set_option maxHeartbeats 4000000 in
theorem nv (s : By) (w0 : World) (hsl : s.length ≤ 1000000) :
  Ret Tryd.prog 24 #[sv s] w0 fun v w => v = .tuple #[.agg (decX s).cells.toArray, iv (decE s)] ∧ Ext No w0 w := by
 refine mR Tryd.func24 rfl Tryd.ntmps24 (lb rfl) fun a Z => ?_
 replace Z : Fr 52 [(0, _)] [] a := Z
 replace Y : St No w0 [] w0 := St.init w0
 refine aa fun K1 hK1 => aO Z Y (by decide) (Tryd.zeroValue27 _) (cs := [iv 0, iv 0, iv 0, iv 0, .string (⟨#[]⟩)]) rfl ?_
 clear Z Y
 intro a w1 Z Y
 refine aO Z Y (by decide) (Tryd.zeroValue33 _) (cs := [iv 0]) rfl ?_
 clear Z Y
 intro a w2 Z Y
 refine ab (hK1 _ _ <| aa fun K2 hK2 => ?_)
 refine wlv Z (cf rfl rfl) fun a Z => la Z rfl fun a Z => ab (hK2 _ _ <| aa fun K3 hK3 => ?_)
 refine wla Z rfl fun a Z => ab (hK3 _ _ <| ae fun K4 hK4 => ?_)
 refine aa fun K5 hK5 => wlv Z (aq (v := pt w0.heap.size) rfl (by kernel_rfl)) fun a Z => wlv Z (aq (v := .pointer (some ⟨w0.heap.size, 1, none⟩)) rfl (by kernel_rfl)) fun a Z => wlv Z (aq (v := .pointer (some ⟨w0.heap.size, 2, none⟩)) rfl (by kernel_rfl)) fun a Z => wlv Z (aq (v := .pointer (some ⟨w0.heap.size, 3, none⟩)) rfl (by kernel_rfl)) fun a Z => wlv Z (bA (v := .agg #[pt w0.heap.size, .pointer (some ⟨w0.heap.size, 1, none⟩), .pointer (some ⟨w0.heap.size, 2, none⟩), .pointer (some ⟨w0.heap.size, 3, none⟩)]) rfl (by kernel_rfl)) fun a Z => wlm Z rfl fun a Z => ab (hK5 _ _ ?_)
 refine ao <| kT 6 ?_
 refine eu ?_
 refine aa fun K6 hK6 => wlv Z ((v_lt rfl rfl).asb (b' := true) rfl) fun a Z => ab (hK6 _ _ <| ae fun K7 hK7 => ?_)
 refine aQ Z rfl ?_
 refine ar <| hK7 _ _ <| ae fun K8 hK8 => ao <| aa fun K9 hK9 => wlv Z (dU (v := pt w0.heap.size) rfl rfl (by kernel_rfl)) fun a Z => wla Z rfl fun a Z => ab (hK9 _ _ ?_)
 replace Z : Fr 52 [(0, _), (2, _), (3, _), (4, _), (12, _), (13, _), (6, _)] [{ target := .fn (.func 55) #[pt w0.heap.size, pt w1.heap.size], args := #[] }] a := Z.pick [0, 2, 3, 4, 12, 13, 6]
 refine bO ?_
 refine bJ 7 ?_
 refine wlm Z rfl fun a Z => wlm Z rfl fun a Z => wlm Z rfl fun a Z => ?_
 rcases Bool.eq_false_or_eq_true ((rdI s).isSome) with hb1 | hb1
 ·try simp only [qz] at hb1
  obtain ⟨⟨n1, r1⟩, hq1⟩ := Option.isSome_iff_exists.1 hb1
  have hd1 := mr.trans (fd hq1)
  have hsf1 := (dl hq1).trans (List.suffix_refl s)
  refine al Z Y (by decide) Tryd.call57 rfl (dP (by simp) (List.suffix_refl s) hsl hq1) ?_
  clear Z Y
  intro a w3 Z Y
  refine wlv Z (ak rfl rfl) fun a Z => wlv Z (ak rfl rfl) fun a Z => wlv Z (ak rfl rfl) fun a Z => ab <| bJ 1 ?_
  refine al Z Y (by decide) Tryd.call56 rfl (ep n1 ((s.length - r1.length : Nat) : Int) _) ?_
  clear Z Y
  intro a w4 Z Y
  refine ab <| iQ ?_
  refine wlm Z rfl fun a Z => wlv Z (ak rfl rfl) fun a Z => wlv Z (ak rfl rfl) fun a Z => wlv Z (bc rfl) fun a Z => aG 1 Z Y rfl rfl rfl (Tryd.sizeOf3 _) rfl (lb rfl) (ds := [iv n1, iv 0, iv 0, iv 0, .string (⟨#[]⟩)]) rfl rfl ?_
  clear Z Y
  intro a w5 Z Y
  refine wla Z rfl fun a Z => ab <| hK8 _ _ ?_
  replace Z : Fr 52 [(0, _), (2, _), (3, _), (12, _), (13, _), (4, _)] [{ target := .fn (.func 55) #[pt w0.heap.size, pt w1.heap.size], args := #[] }] a := Z.pick [0, 2, 3, 12, 13, 4]
  refine am <| wlv Z ((aU rfl rfl (by decide)).asi (m' := 1) rfl) fun a Z => wlm Z rfl fun a Z => ab <| eu ?_
  refine aa fun K10 hK10 => wlv Z ((v_lt rfl rfl).asb (b' := true) rfl) fun a Z => ab (hK10 _ _ <| ae fun K11 hK11 => ?_)
  refine aQ Z rfl ?_
  refine ar <| hK11 _ _ <| ae fun K12 hK12 => ao <| aa fun K13 hK13 => wlv Z (dU (v := .pointer (some ⟨w0.heap.size, 1, none⟩)) rfl rfl (by kernel_rfl)) fun a Z => wla Z rfl fun a Z => ab (hK13 _ _ ?_)
  refine bO ?_
  refine bJ 7 ?_
  refine wlm Z rfl fun a Z => wlm Z rfl fun a Z => wlm Z rfl fun a Z => ?_
  rcases Bool.eq_false_or_eq_true ((rdI r1).isSome) with hb2 | hb2
  ·try simp only [qz] at hb2
   obtain ⟨⟨n2, r2⟩, hq2⟩ := Option.isSome_iff_exists.1 hb2
   have hd2 := hd1.trans (fd hq2)
   have hsf2 := (dl hq2).trans hsf1
   refine al Z Y (by decide) Tryd.call57 rfl (dP rfl hsf1 hsl hq2) ?_
   clear Z Y
   intro a w6 Z Y
   refine wlv Z (ak rfl rfl) fun a Z => wlv Z (ak rfl rfl) fun a Z => wlv Z (ak rfl rfl) fun a Z => ab <| bJ 1 ?_
   refine al Z Y (by decide) Tryd.call56 rfl (ep n2 ((s.length - r2.length : Nat) : Int) _) ?_
   clear Z Y
   intro a w7 Z Y
   refine ab <| iQ ?_
   refine wlm Z rfl fun a Z => wlv Z (ak rfl rfl) fun a Z => wlv Z (ak rfl rfl) fun a Z => wlv Z (bc rfl) fun a Z => aG 1 Z Y rfl rfl rfl (Tryd.sizeOf3 _) rfl (lb rfl) (ds := [iv n1, iv n2, iv 0, iv 0, .string (⟨#[]⟩)]) rfl rfl ?_
   clear Z Y
   intro a w8 Z Y
   refine wla Z rfl fun a Z => ab <| hK12 _ _ ?_
   replace Z : Fr 52 [(0, _), (2, _), (3, _), (12, _), (13, _), (4, _)] [{ target := .fn (.func 55) #[pt w0.heap.size, pt w1.heap.size], args := #[] }] a := Z.pick [0, 2, 3, 12, 13, 4]
   refine am <| wlv Z ((aU rfl rfl (by decide)).asi (m' := 2) rfl) fun a Z => wlm Z rfl fun a Z => ab <| eu ?_
   refine aa fun K14 hK14 => wlv Z ((v_lt rfl rfl).asb (b' := true) rfl) fun a Z => ab (hK14 _ _ <| ae fun K15 hK15 => ?_)
   refine aQ Z rfl ?_
   refine ar <| hK15 _ _ <| ae fun K16 hK16 => ao <| aa fun K17 hK17 => wlv Z (dU (v := .pointer (some ⟨w0.heap.size, 2, none⟩)) rfl rfl (by kernel_rfl)) fun a Z => wla Z rfl fun a Z => ab (hK17 _ _ ?_)
   refine bO ?_
   refine bJ 7 ?_
   refine wlm Z rfl fun a Z => wlm Z rfl fun a Z => wlm Z rfl fun a Z => ?_
   rcases Bool.eq_false_or_eq_true ((rdI r2).isSome) with hb3 | hb3
   ·try simp only [qz] at hb3
    obtain ⟨⟨n3, r3⟩, hq3⟩ := Option.isSome_iff_exists.1 hb3
    have hd3 := hd2.trans (fd hq3)
    have hsf3 := (dl hq3).trans hsf2
    refine al Z Y (by decide) Tryd.call57 rfl (dP rfl hsf2 hsl hq3) ?_
    clear Z Y
    intro a w9 Z Y
    refine wlv Z (ak rfl rfl) fun a Z => wlv Z (ak rfl rfl) fun a Z => wlv Z (ak rfl rfl) fun a Z => ab <| bJ 1 ?_
    refine al Z Y (by decide) Tryd.call56 rfl (ep n3 ((s.length - r3.length : Nat) : Int) _) ?_
    clear Z Y
    intro a w10 Z Y
    refine ab <| iQ ?_
    refine wlm Z rfl fun a Z => wlv Z (ak rfl rfl) fun a Z => wlv Z (ak rfl rfl) fun a Z => wlv Z (bc rfl) fun a Z => aG 1 Z Y rfl rfl rfl (Tryd.sizeOf3 _) rfl (lb rfl) (ds := [iv n1, iv n2, iv n3, iv 0, .string (⟨#[]⟩)]) rfl rfl ?_
    clear Z Y
    intro a w11 Z Y
    refine wla Z rfl fun a Z => ab <| hK16 _ _ ?_
    replace Z : Fr 52 [(0, _), (2, _), (3, _), (12, _), (13, _), (4, _)] [{ target := .fn (.func 55) #[pt w0.heap.size, pt w1.heap.size], args := #[] }] a := Z.pick [0, 2, 3, 12, 13, 4]
    refine am <| wlv Z ((aU rfl rfl (by decide)).asi (m' := 3) rfl) fun a Z => wlm Z rfl fun a Z => ab <| eu ?_
    refine aa fun K18 hK18 => wlv Z ((v_lt rfl rfl).asb (b' := true) rfl) fun a Z => ab (hK18 _ _ <| ae fun K19 hK19 => ?_)
    refine aQ Z rfl ?_
    refine ar <| hK19 _ _ <| ae fun K20 hK20 => ao <| aa fun K21 hK21 => wlv Z (dU (v := .pointer (some ⟨w0.heap.size, 3, none⟩)) rfl rfl (by kernel_rfl)) fun a Z => wla Z rfl fun a Z => ab (hK21 _ _ ?_)
    refine bO ?_
    refine bJ 7 ?_
    refine wlm Z rfl fun a Z => wlm Z rfl fun a Z => wlm Z rfl fun a Z => ?_
    rcases Bool.eq_false_or_eq_true ((rdI r3).isSome) with hb4 | hb4
    ·try simp only [qz] at hb4
     obtain ⟨⟨n4, r4⟩, hq4⟩ := Option.isSome_iff_exists.1 hb4
     have hd4 := hd3.trans (fd hq4)
     have hsf4 := (dl hq4).trans hsf3
     refine al Z Y (by decide) Tryd.call57 rfl (dP rfl hsf3 hsl hq4) ?_
     clear Z Y
     intro a w12 Z Y
     refine wlv Z (ak rfl rfl) fun a Z => wlv Z (ak rfl rfl) fun a Z => wlv Z (ak rfl rfl) fun a Z => ab <| bJ 1 ?_
     refine al Z Y (by decide) Tryd.call56 rfl (ep n4 ((s.length - r4.length : Nat) : Int) _) ?_
     clear Z Y
     intro a w13 Z Y
     refine ab <| iQ ?_
     refine wlm Z rfl fun a Z => wlv Z (ak rfl rfl) fun a Z => wlv Z (ak rfl rfl) fun a Z => wlv Z (bc rfl) fun a Z => aG 1 Z Y rfl rfl rfl (Tryd.sizeOf3 _) rfl (lb rfl) (ds := [iv n1, iv n2, iv n3, iv n4, .string (⟨#[]⟩)]) rfl rfl ?_
     clear Z Y
     intro a w14 Z Y
     refine wla Z rfl fun a Z => ab <| hK20 _ _ ?_
     replace Z : Fr 52 [(0, _), (2, _), (3, _), (12, _), (13, _), (4, _)] [{ target := .fn (.func 55) #[pt w0.heap.size, pt w1.heap.size], args := #[] }] a := Z.pick [0, 2, 3, 12, 13, 4]
     refine am <| wlv Z ((aU rfl rfl (by decide)).asi (m' := 4) rfl) fun a Z => wlm Z rfl fun a Z => ab <| eu ?_
     refine aa fun K22 hK22 => wlv Z ((v_lt rfl rfl).asb (b' := false) rfl) fun a Z => ab (hK22 _ _ <| ae fun K23 hK23 => ?_)
     refine aL Z rfl ?_
     refine aI <| hK4 _ _ <| fM fun K24 hK24 hP24 => bJ 6 ?_
     refine wlm Z rfl fun a Z => wlm Z rfl fun a Z => ?_
     rcases Bool.eq_false_or_eq_true ((rdS r4).isSome) with hb5 | hb5
     ·try simp only [qz] at hb5
      obtain ⟨⟨x9, r5⟩, hq5⟩ := Option.isSome_iff_exists.1 hb5
      have hd5 := hd4.trans (k7.trans (lw hq5))
      have hsf5 := (mS hq5).trans hsf4
      refine al Z Y (by decide) Tryd.call59 rfl (kw s r4 x9 r5 _ _ rfl hsf4 hsl hq5) ?_
      clear Z Y
      intro a w15 Z Y
      refine wlv Z (ak rfl rfl) fun a Z => wlv Z (ak rfl rfl) fun a Z => wlv Z (ak rfl rfl) fun a Z => ab <| bJ 1 ?_
      refine al Z Y (by decide) Tryd.call58 rfl (l5 x9 ((s.length - r5.length : Nat) : Int) _) ?_
      clear Z Y
      intro a w16 Z Y
      refine ab <| iQ ?_
      refine wlm Z rfl fun a Z => wlv Z (ak rfl rfl) fun a Z => wlv Z (ak rfl rfl) fun a Z => wlv Z (aq (v := .pointer (some ⟨w0.heap.size, 4, none⟩)) rfl (by kernel_rfl)) fun a Z => aG 1 Z Y rfl rfl rfl (Tryd.sizeOf9 _) rfl (lb rfl) (ds := [iv n1, iv n2, iv n3, iv n4, sv x9]) rfl rfl ?_
      clear Z Y
      intro a w17 Z Y
      refine wla Z rfl fun a Z => ab (hK24 _ _ ?_)
      replace Z : Fr 52 [(0, _), (2, _), (3, _), (4, _)] [{ target := .fn (.func 55) #[pt w0.heap.size, pt w1.heap.size], args := #[] }] a := Z.pick [0, 2, 3, 4]
      refine ae fun K25 hK25 => aa fun K26 hK26 => wlm Z rfl fun a Z => wlm Z rfl fun a Z => wlv Z (bt rfl rfl (Tryd.runUnderlying9 _)) fun a Z => wlv Z (v_lt rfl rfl) fun a Z => wlm Z rfl fun a Z => ?_
      rcases Bool.eq_false_or_eq_true (decide (((s.length - r5.length : Nat) : Int) < (s.length : Int))) with hb6 | hb6
      ·rw [hb6] at Z
       try simp only [qz] at hb6
       have hdn := hd5.trans (kI (by intro h0; have h1 := congrArg List.length h0; rw [List.length_nil] at h1; omega))
       refine wln Z fun a Z => wln Z fun a Z => wln Z fun a Z => wlv Z (aC rfl rfl) fun a Z => ab (hK26 _ _ ?_)
       replace Z : Fr 52 [(2, _), (3, _), (48, _)] [{ target := .fn (.func 55) #[pt w0.heap.size, pt w1.heap.size], args := #[] }] a := Z.pick [2, 3, 48]
       refine aQ Z rfl ?_
       refine bO ?_
       refine bJ 2 ?_
       refine wlv Z (bA (v := .agg #[]) rfl (by kernel_rfl)) fun a Z => wlv Z (cY rfl Tryd.underlying95) fun a Z => ab <| er Z rfl ?_
       replace Y : St No w0 [blk w0.heap.size [iv n1, iv n2, iv n3, iv n4, sv x9] 27, blk w1.heap.size [iv 0] 33] w17 := Y.select [1, 0] (by decide)
       exact ch Z Tryd.call55 (cQ _ _ _ _ _ _ _ _ _ Y) Tryd.results24 (fun w9 Y => ⟨(aJ rfl (bM (Y.get (k := 0) rfl) (Tryd.isAgg27 _) (Tryd.sizeOf27 _)) (aJ rfl (co (Y.get (k := 1) rfl) (Tryd.isAgg33 _)) ag)), by simp only [retv]; unfold decX decE; rw [hdn]; rfl, Y.ext⟩)
      rw [hb6] at Z
      try simp only [qz] at hb6
      have hqn : r5 = [] := List.eq_nil_of_length_eq_zero (by have := hsf5.length_le; omega)
      refine wly Z (aA (Y.get (k := 1) rfl) rfl (Tryd.isAgg27 _) (Tryd.sizeOf27 _)) fun a Z => aT Z Y (by decide) rfl (by decide) rfl Tryd.call45 rfl (em (⟨n1, n2, n3, n4, x9⟩ : Rec) _) ?_
      clear Z Y
      intro a w18 Z Y
      refine wly Z (bh rfl) fun a Z => wlv Z (ax rfl rfl) fun a Z => ab (hK26 _ _ ?_)
      replace Z : Fr 52 [(2, _), (3, _), (48, _)] [{ target := .fn (.func 55) #[pt w0.heap.size, pt w1.heap.size], args := #[] }] a := Z.pick [2, 3, 48]
      refine ay Z rfl (fun hc7 => ?_) (fun hc7 => ?_)
      ·rw [hc7] at Z
       try simp only [qz] at hc7
       have hdn := hd5.trans (kn (by exact hc7))
       refine bO ?_
       refine bJ 2 ?_
       refine wlv Z (bA (v := .agg #[]) rfl (by kernel_rfl)) fun a Z => wlv Z (cY rfl Tryd.underlying95) fun a Z => ab <| er Z rfl ?_
       replace Y : St No w0 [blk w0.heap.size [iv n1, iv n2, iv n3, iv n4, sv x9] 27, blk w1.heap.size [iv 0] 33] w18 := Y.select [1, 0] (by decide)
       exact ch Z Tryd.call55 (cQ _ _ _ _ _ _ _ _ _ Y) Tryd.results24 (fun w9 Y => ⟨(aJ rfl (bM (Y.get (k := 0) rfl) (Tryd.isAgg27 _) (Tryd.sizeOf27 _)) (aJ rfl (co (Y.get (k := 1) rfl) (Tryd.isAgg33 _)) ag)), by simp only [retv]; unfold decX decE; rw [hdn]; rfl, Y.ext⟩)
      rw [hc7] at Z
      try simp only [qz] at hc7
      have hds := hd5.trans (kL hqn (by exact hc7))
      refine ar <| hK25 _ _ <| aa fun K27 hK27 => wlv Z (aA (Y.get (k := 1) rfl) rfl (Tryd.isAgg27 _) (Tryd.sizeOf27 _)) fun a Z => aG 1 Z Y rfl rfl rfl (Tryd.sizeOf27 _) rfl (lb rfl) (ds := [iv n1, iv n2, iv n3, iv n4, sv x9]) rfl rfl ?_
      clear Z Y
      intro a w19 Z Y
      refine aG 0 Z Y rfl rfl rfl (Tryd.sizeOf33 _) rfl (lb rfl) (ds := [iv 0]) rfl rfl ?_
      clear Z Y
      intro a w20 Z Y
      refine ab (hK27 _ _ <| au ?_)
      refine mw (vs := [.agg #[iv n1, iv n2, iv n3, iv n4, sv x9], iv 0]) Z Tryd.call55 (lZ _ _ _) Tryd.results24 (fun w9 hx => ?_)
      have Y := Y.grow hx
      exact ⟨(aJ rfl (bM (Y.get (k := 1) rfl) (Tryd.isAgg27 _) (Tryd.sizeOf27 _)) (aJ rfl (co (Y.get (k := 0) rfl) (Tryd.isAgg33 _)) ag)), by simp only [retv]; unfold decX decE; rw [hds]; rfl, Y.ext⟩
     try simp only [qz] at hb5
     have hq5 : rdS r4 = none := by
      cases h : rdS r4 with
      | none => rfl
      | some z => rw [h] at hb5; cases hb5
     have hdn := hd4.trans (k7.trans (j8 hq5))
     refine al Z Y (by decide) Tryd.call59 rfl (jF rfl hsf4 hsl hq5) ?_
     clear Z Y
     intro a w21 Z Y
     refine wlv Z (ak rfl rfl) fun a Z => wlv Z (ak rfl rfl) fun a Z => wlv Z (ak rfl rfl) fun a Z => ab <| fZ (X := fun c w2 => c = [{ v := .iface 95 (.agg #[]), recovered := false }] ∧ Ext No w21 w2) Z Tryd.call58 rfl (ke ([]) 0 _) ?_
     rintro _ w22 ⟨rfl, hx⟩
     have Y := Y.grow hx
     refine hP24 _ _ _ ?_
     replace Y : St No w0 [blk w0.heap.size [iv n1, iv n2, iv n3, iv n4, .string (⟨#[]⟩)] 27, blk w1.heap.size [iv 0] 33] w22 := Y.select [1, 0] (by decide)
     exact ch Z Tryd.call55 (cQ _ _ _ _ _ _ _ _ _ Y) Tryd.results24 (fun w9 Y => ⟨(aJ rfl (bM (Y.get (k := 0) rfl) (Tryd.isAgg27 _) (Tryd.sizeOf27 _)) (aJ rfl (co (Y.get (k := 1) rfl) (Tryd.isAgg33 _)) ag)), by simp only [retv]; unfold decX decE; rw [hdn]; rfl, Y.ext⟩)
    try simp only [qz] at hb4
    have hq4 : rdI r3 = none := by
     cases h : rdI r3 with
     | none => rfl
     | some z => rw [h] at hb4; cases hb4
    have hdn := hd3.trans (ey hq4)
    refine al Z Y (by decide) Tryd.call57 rfl (dD rfl hsf3 hsl hq4) ?_
    clear Z Y
    intro a w23 Z Y
    refine wlv Z (ak rfl rfl) fun a Z => wlv Z (ak rfl rfl) fun a Z => wlv Z (ak rfl rfl) fun a Z => ab <| fZ (X := fun c w2 => c = [{ v := .iface 95 (.agg #[]), recovered := false }] ∧ Ext No w23 w2) Z Tryd.call56 rfl (dQ 0 0 _) ?_
    rintro _ w24 ⟨rfl, hx⟩
    have Y := Y.grow hx
    replace Y : St No w0 [blk w0.heap.size [iv n1, iv n2, iv n3, iv 0, .string (⟨#[]⟩)] 27, blk w1.heap.size [iv 0] 33] w24 := Y.select [1, 0] (by decide)
    exact ch Z Tryd.call55 (cQ _ _ _ _ _ _ _ _ _ Y) Tryd.results24 (fun w9 Y => ⟨(aJ rfl (bM (Y.get (k := 0) rfl) (Tryd.isAgg27 _) (Tryd.sizeOf27 _)) (aJ rfl (co (Y.get (k := 1) rfl) (Tryd.isAgg33 _)) ag)), by simp only [retv]; unfold decX decE; rw [hdn]; rfl, Y.ext⟩)
   try simp only [qz] at hb3
   have hq3 : rdI r2 = none := by
    cases h : rdI r2 with
    | none => rfl
    | some z => rw [h] at hb3; cases hb3
   have hdn := hd2.trans (ey hq3)
   refine al Z Y (by decide) Tryd.call57 rfl (dD rfl hsf2 hsl hq3) ?_
   clear Z Y
   intro a w25 Z Y
   refine wlv Z (ak rfl rfl) fun a Z => wlv Z (ak rfl rfl) fun a Z => wlv Z (ak rfl rfl) fun a Z => ab <| fZ (X := fun c w2 => c = [{ v := .iface 95 (.agg #[]), recovered := false }] ∧ Ext No w25 w2) Z Tryd.call56 rfl (dQ 0 0 _) ?_
   rintro _ w26 ⟨rfl, hx⟩
   have Y := Y.grow hx
   replace Y : St No w0 [blk w0.heap.size [iv n1, iv n2, iv 0, iv 0, .string (⟨#[]⟩)] 27, blk w1.heap.size [iv 0] 33] w26 := Y.select [1, 0] (by decide)
   exact ch Z Tryd.call55 (cQ _ _ _ _ _ _ _ _ _ Y) Tryd.results24 (fun w9 Y => ⟨(aJ rfl (bM (Y.get (k := 0) rfl) (Tryd.isAgg27 _) (Tryd.sizeOf27 _)) (aJ rfl (co (Y.get (k := 1) rfl) (Tryd.isAgg33 _)) ag)), by simp only [retv]; unfold decX decE; rw [hdn]; rfl, Y.ext⟩)
  try simp only [qz] at hb2
  have hq2 : rdI r1 = none := by
   cases h : rdI r1 with
   | none => rfl
   | some z => rw [h] at hb2; cases hb2
  have hdn := hd1.trans (ey hq2)
  refine al Z Y (by decide) Tryd.call57 rfl (dD rfl hsf1 hsl hq2) ?_
  clear Z Y
  intro a w27 Z Y
  refine wlv Z (ak rfl rfl) fun a Z => wlv Z (ak rfl rfl) fun a Z => wlv Z (ak rfl rfl) fun a Z => ab <| fZ (X := fun c w2 => c = [{ v := .iface 95 (.agg #[]), recovered := false }] ∧ Ext No w27 w2) Z Tryd.call56 rfl (dQ 0 0 _) ?_
  rintro _ w28 ⟨rfl, hx⟩
  have Y := Y.grow hx
  replace Y : St No w0 [blk w0.heap.size [iv n1, iv 0, iv 0, iv 0, .string (⟨#[]⟩)] 27, blk w1.heap.size [iv 0] 33] w28 := Y.select [1, 0] (by decide)
  exact ch Z Tryd.call55 (cQ _ _ _ _ _ _ _ _ _ Y) Tryd.results24 (fun w9 Y => ⟨(aJ rfl (bM (Y.get (k := 0) rfl) (Tryd.isAgg27 _) (Tryd.sizeOf27 _)) (aJ rfl (co (Y.get (k := 1) rfl) (Tryd.isAgg33 _)) ag)), by simp only [retv]; unfold decX decE; rw [hdn]; rfl, Y.ext⟩)
 try simp only [qz] at hb1
 have hq1 : rdI s = none := by
  cases h : rdI s with
  | none => rfl
  | some z => rw [h] at hb1; cases hb1
 have hdn := mr.trans (ey hq1)
 refine al Z Y (by decide) Tryd.call57 rfl (dD (by simp) (List.suffix_refl s) hsl hq1) ?_
 clear Z Y
 intro a w29 Z Y
 refine wlv Z (ak rfl rfl) fun a Z => wlv Z (ak rfl rfl) fun a Z => wlv Z (ak rfl rfl) fun a Z => ab <| fZ (X := fun c w2 => c = [{ v := .iface 95 (.agg #[]), recovered := false }] ∧ Ext No w29 w2) Z Tryd.call56 rfl (dQ 0 0 _) ?_
 rintro _ w30 ⟨rfl, hx⟩
 have Y := Y.grow hx
 replace Y : St No w0 [blk w0.heap.size [iv 0, iv 0, iv 0, iv 0, .string (⟨#[]⟩)] 27, blk w1.heap.size [iv 0] 33] w30 := Y.select [1, 0] (by decide)
 exact ch Z Tryd.call55 (cQ _ _ _ _ _ _ _ _ _ Y) Tryd.results24 (fun w9 Y => ⟨(aJ rfl (bM (Y.get (k := 0) rfl) (Tryd.isAgg27 _) (Tryd.sizeOf27 _)) (aJ rfl (co (Y.get (k := 1) rfl) (Tryd.isAgg33 _)) ag)), by simp only [retv]; unfold decX decE; rw [hdn]; rfl, Y.ext⟩)
theorem md (o : Int) (lv : Value) (l : List Rec) (x : Rec) (w0 : World) (hlv : SlAt w0 lv 5 (l.map Rec.cells)) (hll : l.length ≤ 1000) (hok : addOk o l x = true) :
  Ret Tryd.prog 13 #[.agg #[iv o, lv], .agg #[iv x.t, iv x.kind, iv x.a, iv x.b, sv x.text]] w0 (MemR w0 (fun v : Value => .tuple #[.agg #[iv o, v], iv 0]) (fun v => [own v 27 5 ((l ++ [x]).map Rec.cells)]) (fun _ => True)) := by
 refine aE Tryd.func13 rfl Tryd.ntmps13 (lb rfl) fun a Z => ?_
 replace Z : Fr 27 [(0, _), (1, _)] [] a := Z
 replace Y : St No w0 [] w0 := St.init w0
 refine aa fun K1 hK1 => bx Z Y (by decide) rfl (cs := [iv o, lv]) rfl ?_
 clear Z Y
 intro a w1 Z Y
 refine bx Z Y (by decide) rfl (cs := [iv x.t, iv x.kind, iv x.a, iv x.b, sv x.text]) rfl ?_
 clear Z Y
 intro a w2 Z Y
 refine aO Z Y (by decide) (Tryd.zeroValue25 _) (cs := [iv 0, .slice none 0 0]) rfl ?_
 clear Z Y
 intro a w3 Z Y
 refine wla Z rfl fun a Z => ab (hK1 _ _ <| ae fun K2 hK2 => ?_)
 refine aM (by kernel_rfl) (aR (by kernel_rfl) fun w4 hxz => ?_)
 replace Y := Y.grow hxz
 refine bj (k := 0) 11 [9, 10] Z (by kernel_rfl) (by kernel_rfl) (by kernel_rfl) (by rfl) ?_
 replace Z : Fr 27 [(0, _), (1, _), (2, _), (3, _), (4, _), (5, _)] [] a := Z.pick [0, 1, 2, 3, 4, 5]
 refine dh 2 5 8 9 (fun v => own v 27 5 ([])) (fun v => own v 27 5 (([]) ++ ((l).map Rec.cells))) (fun v => own v 27 5 ((([]) ++ ((l).map Rec.cells)) ++ ([[iv x.t, iv x.kind, iv x.a, iv x.b, sv x.text]]))) (fun u => .agg #[iv o, u]) 11 [[], [0], [], [], [3], [2, 4], [], [6], [5, 7], [1, 8], []] (fun i => match i with | 0 => pv (pt w0.heap.size) | 1 => pv (iv o) | 2 => fun v E => E = [] | 3 => pv (.pointer (some ⟨w0.heap.size, 1, none⟩)) | 4 => pv (lv) | 5 => fun v E => E = [] | 6 => pv (.agg #[iv x.t, iv x.kind, iv x.a, iv x.b, sv x.text]) | 7 => pm (fun b : Nat => .slice (some ⟨b, 0, none⟩) 1 1) (fun b => [own (.slice (some ⟨b, 0, none⟩) 1 1) 27 5 [[iv x.t, iv x.kind, iv x.a, iv x.b, sv x.text]]]) (fun _ => True) | 8 => fun v E => E = [] | 9 => fun v E => E = [] | 10 => pm (fun b : Nat => pt b) (fun b => [blk b [iv 0, .slice none 0 0] 25]) (fun _ => True) | _ => fun _ _ => False) Z Y (by kernel_rfl) (by kernel_rfl) (by kernel_rfl) (by decide) (by decide) (by decide) (by decide) (by decide) ?_ ?_ ?_ ?_ ?_ ?_ ?_
 ·intro i v E h
  match i, h with
  | 0, _ => exact by decide
  | 1, _ => exact by decide
  | 2, _ => exact by decide
  | 3, _ => exact by decide
  | 4, _ => exact by decide
  | 5, _ => exact by decide
  | 6, _ => exact by decide
  | 7, _ => exact by decide
  | 8, _ => exact by decide
  | 9, _ => exact by decide
  | 10, _ => exact by decide
  | i + 11, h => exact h.elim
 ·intro i hi h0 h1 h2 h3 e
  match i, hi, h0, h1, h2, h3 with
  | 0, _, _, _, _, _ =>
   intro w Y
   exact OpV.g (aq (v := pt w0.heap.size) rfl (by kernel_rfl))
  | 1, _, _, _, _, _ =>
   rintro _ _ ⟨rfl, rfl⟩
   intro w Y
   exact OpV.g (ai (Y.get (k := 3) rfl) rfl (Tryd.isAgg3 _) rfl)
  | 2, _, h, _, _, _ => exact absurd rfl h
  | 3, _, _, _, _, _ =>
   intro w Y
   exact OpV.g (aq (v := .pointer (some ⟨w0.heap.size, 1, none⟩)) rfl (by kernel_rfl))
  | 4, _, _, _, _, _ =>
   rintro _ _ ⟨rfl, rfl⟩
   intro w Y
   exact OpV.g (ai (Y.get (k := 3) rfl) rfl (Tryd.isAgg23 _) rfl)
  | 5, _, _, h, _, _ => exact absurd rfl h
  | 6, _, _, _, _, _ =>
   intro w Y
   exact OpV.g (aA (Y.get (k := 2) rfl) rfl (Tryd.isAgg27 _) (Tryd.sizeOf27 _))
  | 7, _, _, _, _, _ =>
   rintro _ _ ⟨rfl, rfl⟩
   intro w Y
   exact aW (E := 27) (sz := 5) rfl [[iv x.t, iv x.kind, iv x.a, iv x.b, sv x.text]] (fun _ => by kernel_rfl) (by simp) rfl (by decide)
  | 8, _, _, _, h, _ => exact absurd rfl h
  | 9, _, _, _, _, h => exact absurd rfl h
  | 10, _, _, _, _, _ =>
   intro w Y
   exact hC (Tryd.zeroValue25 _) (cs := [iv 0, .slice none 0 0]) rfl
 ·intro w Y
  exact OpR.to_own (f := fun b : Nat => .slice (some ⟨b, 0, none⟩) 0 0) (e := fun v => own v 27 5 []) (aW (E := 27) (sz := 5) rfl [] (fun _ => by kernel_rfl) (by simp) rfl (by decide)) (fun v => rfl)
 ·rintro s1 _ rfl _ _ ⟨rfl, rfl⟩
  intro w Y
  replace Y : St No w0 (own s1 27 5 ([]) :: _) w := Y
  exact (cq (Y.get (k := 0) rfl) rfl rfl (Y.arg hlv) Tryd.underlying23 (inf := Tryd.t27) (z := .agg #[iv 0, iv 0, iv 0, iv 0, .string (⟨#[]⟩)]) rfl rfl rfl rfl (by decide) (by first | (simp [Value.oneCell', yv, wv, sv]; done) | exact et (by intro e he; obtain ⟨p, _, rfl⟩ := List.mem_map.1 he; exact ⟨p, rfl⟩)) (by have hby : Tryd.t27.bytes = 48 := rfl; simp only [big, hby, List.length_append, List.length_map, List.length_cons, List.length_nil]; omega) (by have hby : Tryd.t27.bytes = 48 := rfl; simp only [big, hby, List.length_append, List.length_map, List.length_cons, List.length_nil]; omega)).mono fun v w' ⟨h1, h2, h3⟩ => ⟨h1, h2, h3, rfl⟩
 ·rintro s2 _ rfl _ _ ⟨b3, rfl, -, rfl⟩
  intro w Y
  replace Y : St No w0 (own s2 27 5 (([]) ++ ((l).map Rec.cells)) :: _) w := Y
  exact (cq (Y.get (k := 0) rfl) rfl rfl (Y.ownAt (i := 1) rfl) Tryd.underlying23 (inf := Tryd.t27) (z := .agg #[iv 0, iv 0, iv 0, iv 0, .string (⟨#[]⟩)]) rfl rfl rfl rfl (by decide) (by first | (simp [Value.oneCell', yv, wv, sv]; done) | exact et (by intro e he; obtain ⟨p, _, rfl⟩ := List.mem_map.1 he; exact ⟨p, rfl⟩)) (by have hby : Tryd.t27.bytes = 48 := rfl; simp only [big, hby, List.length_append, List.length_map, List.length_cons, List.length_nil]; omega) (by have hby : Tryd.t27.bytes = 48 := rfl; simp only [big, hby, List.length_append, List.length_map, List.length_cons, List.length_nil]; omega)).mono fun v w' ⟨h1, h2, h3⟩ => ⟨h1, h2, h3, rfl⟩
 ·rintro _ _ ⟨rfl, rfl⟩ s4 _ rfl
  intro w Y
  have Y : St No w0 (own s4 27 5 ((([]) ++ ((l).map Rec.cells)) ++ ([[iv x.t, iv x.kind, iv x.a, iv x.b, sv x.text]])) :: _) w := Y
  obtain ⟨_, _, _, esl⟩ := jO (Y.ownAt (i := 0) rfl)
  exact OpV.hopv (OpV.g (bA (v := .agg #[iv o, s4]) rfl (by rw [esl]; kernel_rfl))) rfl
 clear Z Y
 rintro vq _ _ ⟨⟨rfl, rfl⟩, -⟩ _ _ ⟨⟨rfl, rfl⟩, -⟩ s1 _ ⟨rfl, -, -⟩ _ _ ⟨⟨rfl, rfl⟩, -⟩ _ _ ⟨⟨rfl, rfl⟩, -⟩ s2 _ ⟨rfl, -, -⟩ _ _ ⟨⟨rfl, rfl⟩, -⟩ _ _ ⟨⟨b3, rfl, -, rfl⟩, -⟩ s4 _ ⟨rfl, hvq, -⟩ _ _ ⟨rfl, -, hv3⟩ _ _ ⟨⟨b5, rfl, -, rfl⟩, -⟩ a w5 Z Y
 obtain rfl := hvq rfl
 obtain rfl := hv3 rfl
 replace Z : Fr 27 [(7, _), (8, _), (9, _), (10, _), (11, _), (12, _), (13, _), (14, _), (15, _), (16, _), (6, _), (0, _), (1, _), (2, _), (3, _), (4, _), (5, _)] [] a := Z
 replace Y : St No w0 [own (.slice (some ⟨b3, 0, none⟩) 1 1) 27 5 ([[iv x.t, iv x.kind, iv x.a, iv x.b, sv x.text]]), blk b5 [iv 0, .slice none 0 0] 25, own s4 27 5 ((([]) ++ ((l).map Rec.cells)) ++ ([[iv x.t, iv x.kind, iv x.a, iv x.b, sv x.text]])), blk w2.heap.size [iv 0, .slice none 0 0] 25, blk w1.heap.size [iv x.t, iv x.kind, iv x.a, iv x.b, sv x.text] 27, blk w0.heap.size [iv o, lv] 25] w5 := Y
 replace Y : St No w0 [own (.slice (some ⟨b3, 0, none⟩) 1 1) 27 5 ([[iv x.t, iv x.kind, iv x.a, iv x.b, sv x.text]]), blk b5 [iv 0, .slice none 0 0] 25, own s4 27 5 ((l ++ [x]).map Rec.cells), blk w2.heap.size [iv 0, .slice none 0 0] 25, blk w1.heap.size [iv x.t, iv x.kind, iv x.a, iv x.b, sv x.text] 27, blk w0.heap.size [iv o, lv] 25] w5 := by rw [List.map_append]; exact Y
 refine ab <| aY (k := 11) 12 [11] (by kernel_rfl) (by kernel_rfl) (by kernel_rfl) ?_
 refine bB (us := [iv o, s4]) 1 Z Y rfl rfl rfl (Tryd.sizeOf25 _) (by intro z hz; simp only [List.mem_cons, List.not_mem_nil, or_false] at hz; rcases hz with rfl | rfl <;> first | rfl | exact SlAt.one (Y.ownAt (i := 2) rfl)) (lb rfl) (ds := [iv o, s4]) rfl rfl ?_
 clear Z Y
 intro a w6 Z Y
 refine ab <| bf (by kernel_rfl) ?_
 refine hK2 _ _ ?_
 replace Z : Fr 27 [(2, _), (4, _), (5, _), (6, _)] [] a := Z.pick [2, 4, 5, 6]
 replace Y : St No w0 [_, _, _, _] w6 := Y.mask [false, true, true, true, false, true]
 refine ae fun K3 hK3 => aa fun K4 hK4 => wlv Z (aA (Y.get (k := 3) rfl) rfl (Tryd.isAgg25 _) (Tryd.sizeOf25 _)) fun a Z => al Z Y (by decide) Tryd.call16 rfl (dr o lv l _ (Y.arg hlv)) ?_
 clear Z Y
 intro a w7 Z Y
 refine wlv Z (bh rfl) fun a Z => wlm Z rfl fun a Z => ?_
 rcases Bool.eq_false_or_eq_true (!(logOk o l)) with hb6 | hb6
 ·rw [hb6] at Z
  try simp only [qz] at hb6
  exfalso; obtain ⟨h1, h2⟩ := go hok; simp [h1, h2] at hb6
 rw [hb6] at Z
 try simp only [qz] at hb6
 refine wly Z (aA (Y.get (k := 0) rfl) rfl (Tryd.isAgg25 _) (Tryd.sizeOf25 _)) fun a Z => aT Z Y (by decide) rfl (by decide) rfl Tryd.call16 rfl (dr o s4 (l ++ [x]) _ (Y.ownAt (i := 1) rfl)) ?_
 clear Z Y
 intro a w8 Z Y
 refine wly Z (bh rfl) fun a Z => wlv Z (ax rfl rfl) fun a Z => ab (hK4 _ _ ?_)
 replace Z : Fr 27 [(4, _), (5, _), (6, _), (24, _)] [] a := Z.pick [4, 5, 6, 24]
 replace Y : St No w0 [_, _, _] w8 := Y.mask [true, true, true, false]
 refine ay Z rfl (fun hc7 => ?_) (fun hc7 => ?_)
 ·rw [hc7] at Z
  try simp only [qz] at hc7
  exfalso; obtain ⟨h1, h2⟩ := go hok; simp [h1, h2] at hc7
 rw [hc7] at Z
 try simp only [qz] at hc7
 refine ar <| hK3 _ _ <| aa fun K5 hK5 => wlv Z (aA (Y.get (k := 0) rfl) rfl (Tryd.isAgg25 _) (Tryd.sizeOf25 _)) fun a Z => bB (us := [iv o, s4]) 2 Z Y rfl rfl rfl (Tryd.sizeOf25 _) (by intro z hz; simp only [List.mem_cons, List.not_mem_nil, or_false] at hz; rcases hz with rfl | rfl <;> first | rfl | exact SlAt.one (Y.ownAt (i := 1) rfl)) (lb rfl) (ds := [iv o, s4]) rfl rfl ?_
 clear Z Y
 intro a w9 Z Y
 refine wla Z rfl fun a Z => ab (hK5 _ _ <| au ?_)
 refine ap Z Tryd.results13 (aJ rfl (bM (Y.get (k := 2) rfl) (Tryd.isAgg25 _) (Tryd.sizeOf25 _)) (ac rfl ag)) ?_
 exact ⟨_, rfl, trivial, Y.ext, St.out (E := [own _ 27 5 ((l ++ [x]).map Rec.cells)]) (H := []) (Y.select [1] (by decide))⟩
theorem na (o : Int) (lv : Value) (l : List Rec) (x : Rec) (w0 : World) (hlv : SlAt w0 lv 5 (l.map Rec.cells)) (hll : l.length ≤ 1000) (hok : addOk o l x = false) :
  Ret Tryd.prog 13 #[.agg #[iv o, lv], .agg #[iv x.t, iv x.kind, iv x.a, iv x.b, sv x.text]] w0 (MemR w0 (fun v : Value => .tuple #[.agg #[iv 0, v], iv 110]) (fun v => [own v 27 5 (([] : List Rec).map Rec.cells)]) (fun _ => True)) := by
 refine aE Tryd.func13 rfl Tryd.ntmps13 (lb rfl) fun a Z => ?_
 replace Z : Fr 27 [(0, _), (1, _)] [] a := Z
 replace Y : St No w0 [] w0 := St.init w0
 refine aa fun K1 hK1 => bx Z Y (by decide) rfl (cs := [iv o, lv]) rfl ?_
 clear Z Y
 intro a w1 Z Y
 refine bx Z Y (by decide) rfl (cs := [iv x.t, iv x.kind, iv x.a, iv x.b, sv x.text]) rfl ?_
 clear Z Y
 intro a w2 Z Y
 refine aO Z Y (by decide) (Tryd.zeroValue25 _) (cs := [iv 0, .slice none 0 0]) rfl ?_
 clear Z Y
 intro a w3 Z Y
 refine wla Z rfl fun a Z => ab (hK1 _ _ <| ae fun K2 hK2 => ?_)
 refine aM (by kernel_rfl) (aR (by kernel_rfl) fun w4 hxz => ?_)
 replace Y := Y.grow hxz
 refine bj (k := 0) 11 [9, 10] Z (by kernel_rfl) (by kernel_rfl) (by kernel_rfl) (by rfl) ?_
 replace Z : Fr 27 [(0, _), (1, _), (2, _), (3, _), (4, _), (5, _)] [] a := Z.pick [0, 1, 2, 3, 4, 5]
 refine dh 2 5 8 9 (fun v => own v 27 5 ([])) (fun v => own v 27 5 (([]) ++ ((l).map Rec.cells))) (fun v => own v 27 5 ((([]) ++ ((l).map Rec.cells)) ++ ([[iv x.t, iv x.kind, iv x.a, iv x.b, sv x.text]]))) (fun u => .agg #[iv o, u]) 11 [[], [0], [], [], [3], [2, 4], [], [6], [5, 7], [1, 8], []] (fun i => match i with | 0 => pv (pt w0.heap.size) | 1 => pv (iv o) | 2 => fun v E => E = [] | 3 => pv (.pointer (some ⟨w0.heap.size, 1, none⟩)) | 4 => pv (lv) | 5 => fun v E => E = [] | 6 => pv (.agg #[iv x.t, iv x.kind, iv x.a, iv x.b, sv x.text]) | 7 => pm (fun b : Nat => .slice (some ⟨b, 0, none⟩) 1 1) (fun b => [own (.slice (some ⟨b, 0, none⟩) 1 1) 27 5 [[iv x.t, iv x.kind, iv x.a, iv x.b, sv x.text]]]) (fun _ => True) | 8 => fun v E => E = [] | 9 => fun v E => E = [] | 10 => pm (fun b : Nat => pt b) (fun b => [blk b [iv 0, .slice none 0 0] 25]) (fun _ => True) | _ => fun _ _ => False) Z Y (by kernel_rfl) (by kernel_rfl) (by kernel_rfl) (by decide) (by decide) (by decide) (by decide) (by decide) ?_ ?_ ?_ ?_ ?_ ?_ ?_
 ·intro i v E h
  match i, h with
  | 0, _ => exact by decide
  | 1, _ => exact by decide
  | 2, _ => exact by decide
  | 3, _ => exact by decide
  | 4, _ => exact by decide
  | 5, _ => exact by decide
  | 6, _ => exact by decide
  | 7, _ => exact by decide
  | 8, _ => exact by decide
  | 9, _ => exact by decide
  | 10, _ => exact by decide
  | i + 11, h => exact h.elim
 ·intro i hi h0 h1 h2 h3 e
  match i, hi, h0, h1, h2, h3 with
  | 0, _, _, _, _, _ =>
   intro w Y
   exact OpV.g (aq (v := pt w0.heap.size) rfl (by kernel_rfl))
  | 1, _, _, _, _, _ =>
   rintro _ _ ⟨rfl, rfl⟩
   intro w Y
   exact OpV.g (ai (Y.get (k := 3) rfl) rfl (Tryd.isAgg3 _) rfl)
  | 2, _, h, _, _, _ => exact absurd rfl h
  | 3, _, _, _, _, _ =>
   intro w Y
   exact OpV.g (aq (v := .pointer (some ⟨w0.heap.size, 1, none⟩)) rfl (by kernel_rfl))
  | 4, _, _, _, _, _ =>
   rintro _ _ ⟨rfl, rfl⟩
   intro w Y
   exact OpV.g (ai (Y.get (k := 3) rfl) rfl (Tryd.isAgg23 _) rfl)
  | 5, _, _, h, _, _ => exact absurd rfl h
  | 6, _, _, _, _, _ =>
   intro w Y
   exact OpV.g (aA (Y.get (k := 2) rfl) rfl (Tryd.isAgg27 _) (Tryd.sizeOf27 _))
  | 7, _, _, _, _, _ =>
   rintro _ _ ⟨rfl, rfl⟩
   intro w Y
   exact aW (E := 27) (sz := 5) rfl [[iv x.t, iv x.kind, iv x.a, iv x.b, sv x.text]] (fun _ => by kernel_rfl) (by simp) rfl (by decide)
  | 8, _, _, _, h, _ => exact absurd rfl h
  | 9, _, _, _, _, h => exact absurd rfl h
  | 10, _, _, _, _, _ =>
   intro w Y
   exact hC (Tryd.zeroValue25 _) (cs := [iv 0, .slice none 0 0]) rfl
 ·intro w Y
  exact OpR.to_own (f := fun b : Nat => .slice (some ⟨b, 0, none⟩) 0 0) (e := fun v => own v 27 5 []) (aW (E := 27) (sz := 5) rfl [] (fun _ => by kernel_rfl) (by simp) rfl (by decide)) (fun v => rfl)
 ·rintro s1 _ rfl _ _ ⟨rfl, rfl⟩
  intro w Y
  replace Y : St No w0 (own s1 27 5 ([]) :: _) w := Y
  exact (cq (Y.get (k := 0) rfl) rfl rfl (Y.arg hlv) Tryd.underlying23 (inf := Tryd.t27) (z := .agg #[iv 0, iv 0, iv 0, iv 0, .string (⟨#[]⟩)]) rfl rfl rfl rfl (by decide) (by first | (simp [Value.oneCell', yv, wv, sv]; done) | exact et (by intro e he; obtain ⟨p, _, rfl⟩ := List.mem_map.1 he; exact ⟨p, rfl⟩)) (by have hby : Tryd.t27.bytes = 48 := rfl; simp only [big, hby, List.length_append, List.length_map, List.length_cons, List.length_nil]; omega) (by have hby : Tryd.t27.bytes = 48 := rfl; simp only [big, hby, List.length_append, List.length_map, List.length_cons, List.length_nil]; omega)).mono fun v w' ⟨h1, h2, h3⟩ => ⟨h1, h2, h3, rfl⟩
 ·rintro s2 _ rfl _ _ ⟨b3, rfl, -, rfl⟩
  intro w Y
  replace Y : St No w0 (own s2 27 5 (([]) ++ ((l).map Rec.cells)) :: _) w := Y
  exact (cq (Y.get (k := 0) rfl) rfl rfl (Y.ownAt (i := 1) rfl) Tryd.underlying23 (inf := Tryd.t27) (z := .agg #[iv 0, iv 0, iv 0, iv 0, .string (⟨#[]⟩)]) rfl rfl rfl rfl (by decide) (by first | (simp [Value.oneCell', yv, wv, sv]; done) | exact et (by intro e he; obtain ⟨p, _, rfl⟩ := List.mem_map.1 he; exact ⟨p, rfl⟩)) (by have hby : Tryd.t27.bytes = 48 := rfl; simp only [big, hby, List.length_append, List.length_map, List.length_cons, List.length_nil]; omega) (by have hby : Tryd.t27.bytes = 48 := rfl; simp only [big, hby, List.length_append, List.length_map, List.length_cons, List.length_nil]; omega)).mono fun v w' ⟨h1, h2, h3⟩ => ⟨h1, h2, h3, rfl⟩
 ·rintro _ _ ⟨rfl, rfl⟩ s4 _ rfl
  intro w Y
  have Y : St No w0 (own s4 27 5 ((([]) ++ ((l).map Rec.cells)) ++ ([[iv x.t, iv x.kind, iv x.a, iv x.b, sv x.text]])) :: _) w := Y
  obtain ⟨_, _, _, esl⟩ := jO (Y.ownAt (i := 0) rfl)
  exact OpV.hopv (OpV.g (bA (v := .agg #[iv o, s4]) rfl (by rw [esl]; kernel_rfl))) rfl
 clear Z Y
 rintro vq _ _ ⟨⟨rfl, rfl⟩, -⟩ _ _ ⟨⟨rfl, rfl⟩, -⟩ s1 _ ⟨rfl, -, -⟩ _ _ ⟨⟨rfl, rfl⟩, -⟩ _ _ ⟨⟨rfl, rfl⟩, -⟩ s2 _ ⟨rfl, -, -⟩ _ _ ⟨⟨rfl, rfl⟩, -⟩ _ _ ⟨⟨b3, rfl, -, rfl⟩, -⟩ s4 _ ⟨rfl, hvq, -⟩ _ _ ⟨rfl, -, hv3⟩ _ _ ⟨⟨b5, rfl, -, rfl⟩, -⟩ a w5 Z Y
 obtain rfl := hvq rfl
 obtain rfl := hv3 rfl
 replace Z : Fr 27 [(7, _), (8, _), (9, _), (10, _), (11, _), (12, _), (13, _), (14, _), (15, _), (16, _), (6, _), (0, _), (1, _), (2, _), (3, _), (4, _), (5, _)] [] a := Z
 replace Y : St No w0 [own (.slice (some ⟨b3, 0, none⟩) 1 1) 27 5 ([[iv x.t, iv x.kind, iv x.a, iv x.b, sv x.text]]), blk b5 [iv 0, .slice none 0 0] 25, own s4 27 5 ((([]) ++ ((l).map Rec.cells)) ++ ([[iv x.t, iv x.kind, iv x.a, iv x.b, sv x.text]])), blk w2.heap.size [iv 0, .slice none 0 0] 25, blk w1.heap.size [iv x.t, iv x.kind, iv x.a, iv x.b, sv x.text] 27, blk w0.heap.size [iv o, lv] 25] w5 := Y
 replace Y : St No w0 [own (.slice (some ⟨b3, 0, none⟩) 1 1) 27 5 ([[iv x.t, iv x.kind, iv x.a, iv x.b, sv x.text]]), blk b5 [iv 0, .slice none 0 0] 25, own s4 27 5 ((l ++ [x]).map Rec.cells), blk w2.heap.size [iv 0, .slice none 0 0] 25, blk w1.heap.size [iv x.t, iv x.kind, iv x.a, iv x.b, sv x.text] 27, blk w0.heap.size [iv o, lv] 25] w5 := by rw [List.map_append]; exact Y
 refine ab <| aY (k := 11) 12 [11] (by kernel_rfl) (by kernel_rfl) (by kernel_rfl) ?_
 refine bB (us := [iv o, s4]) 1 Z Y rfl rfl rfl (Tryd.sizeOf25 _) (by intro z hz; simp only [List.mem_cons, List.not_mem_nil, or_false] at hz; rcases hz with rfl | rfl <;> first | rfl | exact SlAt.one (Y.ownAt (i := 2) rfl)) (lb rfl) (ds := [iv o, s4]) rfl rfl ?_
 clear Z Y
 intro a w6 Z Y
 refine ab <| bf (by kernel_rfl) ?_
 refine hK2 _ _ ?_
 replace Z : Fr 27 [(2, _), (4, _), (5, _), (6, _)] [] a := Z.pick [2, 4, 5, 6]
 replace Y : St No w0 [_, _, _, _] w6 := Y.mask [false, true, true, true, false, true]
 refine ae fun K3 hK3 => aa fun K4 hK4 => wlv Z (aA (Y.get (k := 3) rfl) rfl (Tryd.isAgg25 _) (Tryd.sizeOf25 _)) fun a Z => al Z Y (by decide) Tryd.call16 rfl (dr o lv l _ (Y.arg hlv)) ?_
 clear Z Y
 intro a w7 Z Y
 refine wlv Z (bh rfl) fun a Z => wlm Z rfl fun a Z => ?_
 rcases Bool.eq_false_or_eq_true (!(logOk o l)) with hb6 | hb6
 ·rw [hb6] at Z
  try simp only [qz] at hb6
  refine wln Z fun a Z => wln Z fun a Z => wln Z fun a Z => wlv Z (aC rfl rfl) fun a Z => ab (hK4 _ _ ?_)
  replace Z : Fr 27 [(4, _), (5, _), (6, _), (24, _)] [] a := Z.pick [4, 5, 6, 24]
  replace Y : St No w0 [_, _, _] w7 := Y.mask [true, true, true, false]
  refine aQ Z rfl ?_
  refine aa fun K5 hK5 => wlv Z (bA (v := .agg #[iv 0, .slice none 0 0]) rfl (by kernel_rfl)) fun a Z => aG 2 Z Y rfl rfl rfl (Tryd.sizeOf25 _) rfl (lb rfl) (ds := [iv 0, .slice none 0 0]) rfl rfl ?_
  clear Z Y
  intro a w8 Z Y
  refine wla Z rfl fun a Z => ab (hK5 _ _ <| au ?_)
  refine ap Z Tryd.results13 (aJ rfl (bM (Y.get (k := 2) rfl) (Tryd.isAgg25 _) (Tryd.sizeOf25 _)) (ac rfl ag)) ?_
  replace Y : St No w0 [own (.slice none 0 0) 27 5 ((([] : List Rec)).map Rec.cells), blk b5 [iv o, s4] 25, own s4 27 5 ((l ++ [x]).map Rec.cells), blk w2.heap.size [iv 0, .slice none 0 0] 25] w8 := Y.nil_own
  exact ⟨.slice none 0 0, rfl, trivial, Y.ext, St.out (E := [own (.slice none 0 0) 27 5 ((([] : List Rec)).map Rec.cells)]) (H := []) (Y.select [0] (by decide))⟩
 rw [hb6] at Z
 try simp only [qz] at hb6
 refine wly Z (aA (Y.get (k := 0) rfl) rfl (Tryd.isAgg25 _) (Tryd.sizeOf25 _)) fun a Z => aT Z Y (by decide) rfl (by decide) rfl Tryd.call16 rfl (dr o s4 (l ++ [x]) _ (Y.ownAt (i := 1) rfl)) ?_
 clear Z Y
 intro a w9 Z Y
 refine wly Z (bh rfl) fun a Z => wlv Z (ax rfl rfl) fun a Z => ab (hK4 _ _ ?_)
 replace Z : Fr 27 [(4, _), (5, _), (6, _), (24, _)] [] a := Z.pick [4, 5, 6, 24]
 replace Y : St No w0 [_, _, _] w9 := Y.mask [true, true, true, false]
 refine ay Z rfl (fun hc7 => ?_) (fun hc7 => ?_)
 ·rw [hc7] at Z
  try simp only [qz] at hc7
  refine aa fun K6 hK6 => wlv Z (bA (v := .agg #[iv 0, .slice none 0 0]) rfl (by kernel_rfl)) fun a Z => aG 2 Z Y rfl rfl rfl (Tryd.sizeOf25 _) rfl (lb rfl) (ds := [iv 0, .slice none 0 0]) rfl rfl ?_
  clear Z Y
  intro a w10 Z Y
  refine wla Z rfl fun a Z => ab (hK6 _ _ <| au ?_)
  refine ap Z Tryd.results13 (aJ rfl (bM (Y.get (k := 2) rfl) (Tryd.isAgg25 _) (Tryd.sizeOf25 _)) (ac rfl ag)) ?_
  replace Y : St No w0 [own (.slice none 0 0) 27 5 ((([] : List Rec)).map Rec.cells), blk b5 [iv o, s4] 25, own s4 27 5 ((l ++ [x]).map Rec.cells), blk w2.heap.size [iv 0, .slice none 0 0] 25] w10 := Y.nil_own
  exact ⟨.slice none 0 0, rfl, trivial, Y.ext, St.out (E := [own (.slice none 0 0) 27 5 ((([] : List Rec)).map Rec.cells)]) (H := []) (Y.select [0] (by decide))⟩
 rw [hc7] at Z
 try simp only [qz] at hc7
 exfalso; unfold addOk at hok; simp only [hb6, hc7] at hok; simp at hok
theorem gU (o : Int) (lv : Value) (l : List Rec) (kind at_ : Int) (w0 : World) (hlv : SlAt w0 lv 5 (l.map Rec.cells)) :
  Ret Tryd.prog 20 #[.agg #[iv o, lv], iv kind, iv at_] w0 fun v w => v = iv (findH o l kind at_) ∧ Ext No w0 w := by
 have hxb := hlv.2.1
 simp only [List.length_map, big] at hxb
 refine aE Tryd.func20 rfl Tryd.ntmps20 (lb rfl) fun a Z => ?_
 replace Z : Fr 27 [(0, _), (1, _), (2, _)] [] a := Z
 replace Y : St No w0 [] w0 := St.init w0
 refine aa fun K1 hK1 => bx Z Y (by decide) rfl (cs := [iv o, lv]) rfl ?_
 clear Z Y
 intro a w1 Z Y
 refine bx Z Y (by decide) rfl (cs := [iv kind]) rfl ?_
 clear Z Y
 intro a w2 Z Y
 refine bx Z Y (by decide) rfl (cs := [iv at_]) rfl ?_
 clear Z Y
 intro a w3 Z Y
 refine aO Z Y (by decide) (Tryd.zeroValue3 _) (cs := [iv 0]) rfl ?_
 clear Z Y
 intro a w4 Z Y
 refine ab (hK1 _ _ <| ae fun K2 hK2 => ?_)
 refine aa fun K3 hK3 => wlv Z (aA (Y.get (k := 3) rfl) rfl (Tryd.isAgg25 _) (Tryd.sizeOf25 _)) fun a Z => al Z Y (by decide) Tryd.call16 rfl (dr o lv l _ (Y.arg hlv)) ?_
 clear Z Y
 intro a w5 Z Y
 refine wlv Z (bh rfl) fun a Z => ab (hK3 _ _ ?_)
 refine ay Z rfl (fun hc1 => ?_) (fun hc1 => ?_)
 ·rw [hc1] at Z
  try simp only [qz, Bool.and_eq_true, Bool.or_eq_true, Bool.and_eq_false_iff, Bool.or_eq_false_iff] at hc1
  have hlo : logOk o l = false := by simpa using hc1
  refine aa fun K4 hK4 => aG 0 Z Y rfl rfl rfl (Tryd.sizeOf3 _) rfl (lb rfl) (ds := [iv (-1)]) rfl rfl ?_
  clear Z Y
  intro a w6 Z Y
  refine ab (hK4 _ _ ?_)
  replace Z : Fr 27 [(3, _), (4, _), (5, _), (6, _)] [] a := Z.pick [3, 4, 5, 6]
  refine au ?_
  refine ap Z Tryd.results20 (aJ rfl (co (Y.get (k := 0) rfl) (Tryd.isAgg3 _)) ag) ?_
  exact ⟨by simp only [retv]; rw [findH, if_neg (by rw [hlo]; decide)]; try rfl, Y.ext⟩
 rw [hc1] at Z
 try simp only [qz, Bool.and_eq_true, Bool.or_eq_true, Bool.and_eq_false_iff, Bool.or_eq_false_iff] at hc1
 have hlo : logOk o l = true := by simpa using hc1
 refine ar <| hK2 _ _ <| ae fun K5 hK5 => aa fun K6 hK6 => wlv Z (aA (Y.get (k := 3) rfl) rfl (Tryd.isAgg25 _) (Tryd.sizeOf25 _)) fun a Z => ba Z Y (by decide) Tryd.call48 rfl (i6 o lv _ l (Y.arg hlv)) ?_
 clear Z Y
 intro a w7 x2 hp Z Y
 revert x2 hp Z Y; rintro z1 hp Z Y
 clear hp
 replace Y : St No w0 [blk z1 [iv o, lv] 25, blk w3.heap.size [iv 0] 3, blk w2.heap.size [iv at_] 3, blk w1.heap.size [iv kind] 3, blk w0.heap.size [iv o, lv] 25] w7 := Y
 refine ab (hK6 _ _ ?_)
 replace Z : Fr 27 [(4, _), (5, _), (6, _), (13, _)] [] a := Z.pick [4, 5, 6, 13]
 replace Y : St No w0 [_, _, _, _] w7 := Y.mask [true, true, true, true, false]
 refine ao ?_
 replace Y : St No w0 [blk w1.heap.size [iv kind] 3, blk w2.heap.size [iv at_] 3, blk w3.heap.size [iv 0] 3, blk z1 [iv o, lv] 25] w7 := Y.select [3, 2, 1, 0] (by decide)
 replace Z : Fr 27 [(4, pt w1.heap.size), (5, pt w2.heap.size), (6, pt w3.heap.size), (13, .func (.func 74) #[] #[pt z1])] [] a := Z.pick [4, 5, 6, 13]
 refine cB (M := No) (w0 := w0) (encs := (encRb l)) (Hi := [blk z1 [iv o, lv] 25]) (Hc := [blk w1.heap.size [iv kind] 3, blk w2.heap.size [iv at_] 3, blk w3.heap.size [iv 0] 3]) (fun pre H => (findF (hitR kind at_) l l.length = findF (hitR kind at_) l (l.length - (pre : List Nat).length)) ∧ H = [blk w1.heap.size [iv kind] 3, blk w2.heap.size [iv at_] 3, blk w3.heap.size [iv 0] 3]) (fun c pre H => c = .ret ∧ ∃ (i : Nat), (findF (hitR kind at_) l l.length = (i : Int)) ∧ H = [blk w1.heap.size [iv kind] 3, blk w2.heap.size [iv at_] 3, blk w3.heap.size [iv (i : Int)] 3]) (fun pre xs H a => ∃ (bA0 : Nat), Fr 27 [(4, pt w1.heap.size), (5, pt w2.heap.size), (6, pt w3.heap.size), (13, .func (.func 74) #[] #[pt z1]), (7, iv (xs : Int)), (8, pt bA0)] [] a ∧ (findF (hitR kind at_) l l.length = findF (hitR kind at_) l (l.length - (pre : List Nat).length)) ∧ H = [blk bA0 [iv ((l.getD xs Rec.z).t), iv ((l.getD xs Rec.z).kind), iv ((l.getD xs Rec.z).a), iv ((l.getD xs Rec.z).b), sv ((l.getD xs Rec.z).text)] 27, blk w1.heap.size [iv kind] 3, blk w2.heap.size [iv at_] 3, blk w3.heap.size [iv 0] 3]) rfl Tryd.call74 Z Y (fR o lv l z1 (by have := ca hlo; omega) (fun H w h => h.arg hlv)) (by decide) (fun _ => rfl) ⟨(by simp), rfl⟩ ?_ ?_ ?_ ?_
 ·clear Z Y
  rintro lp pre xs _ a w8 hnx ⟨hfi, rfl⟩ Z Y
  generalize (join [blk w1.heap.size [iv kind] 3, blk w2.heap.size [iv at_] 3, blk w3.heap.size [iv 0] 3]).foot = M1 at Y ⊢
  replace Z : Fr 27 [(15, .agg #[iv ((l.getD xs Rec.z).t), iv ((l.getD xs Rec.z).kind), iv ((l.getD xs Rec.z).a), iv ((l.getD xs Rec.z).b), sv ((l.getD xs Rec.z).text)]), (14, iv (xs : Int)), (4, pt w1.heap.size), (5, pt w2.heap.size), (6, pt w3.heap.size), (13, .func (.func 74) #[] #[pt z1])] [] a := Z
  refine aa fun K7 hK7 => wla Z rfl fun a Z => ab (hK7 _ _ <| am ?_)
  refine aO Z Y (by decide) (Tryd.zeroValue27 _) (cs := [iv 0, iv 0, iv 0, iv 0, .string (⟨#[]⟩)]) rfl ?_
  clear Z Y
  intro a w9 Z Y
  refine aG 0 Z Y rfl rfl rfl (Tryd.sizeOf27 _) rfl (lb rfl) (ds := [iv ((l.getD xs Rec.z).t), iv ((l.getD xs Rec.z).kind), iv ((l.getD xs Rec.z).a), iv ((l.getD xs Rec.z).b), sv ((l.getD xs Rec.z).text)]) rfl rfl ?_
  clear Z Y
  intro a w10 Z Y
  refine ab ?_
  exact ⟨_, ⟨w8.heap.size, Z.pick [4, 5, 6, 13, 7, 8], hfi, rfl⟩, Y⟩
 ·rintro lp pre xs _ a w11 hnx ⟨bA0, Z, hfi, rfl⟩ hout hrec hnl Y
  clear hrec hnl
  generalize (join [blk bA0 [iv ((l.getD xs Rec.z).t), iv ((l.getD xs Rec.z).kind), iv ((l.getD xs Rec.z).a), iv ((l.getD xs Rec.z).b), sv ((l.getD xs Rec.z).text)] 27, blk w1.heap.size [iv kind] 3, blk w2.heap.size [iv at_] 3, blk w3.heap.size [iv 0] 3]).foot = M1 at Y hout ⊢
  refine ao <| aa fun K8 hK8 => wlv Z (aq (v := .pointer (some ⟨bA0, 1, none⟩)) rfl (by kernel_rfl)) fun a Z => wlv Z (ai (Y.get (k := 0) rfl) rfl (Tryd.isAgg3 _) rfl) fun a Z => wlv Z (ai (Y.get (k := 1) rfl) rfl (Tryd.isAgg3 _) rfl) fun a Z => wlv Z (v_eq rfl rfl) fun a Z => wlm Z rfl fun a Z => ?_
  refine jZ (N := 27) (df := []) 5 [(25, .bool ((decide ((l.getD xs Rec.z).kind = kind)) && (decide ((l.getD xs Rec.z).t ≤ at_)))), (4, pt w1.heap.size), (5, pt w2.heap.size), (6, pt w3.heap.size), (13, .func (.func 74) #[] #[pt z1]), (7, iv (xs : Int)), (8, pt bA0)] ?_ (fun hj => ?_)
  rotate_left
  ·rcases Bool.eq_false_or_eq_true (decide ((l.getD xs Rec.z).kind = kind)) with hb3 | hb3
   ·rw [hb3] at Z
    have hb3b := hb3
    try simp only [qz, Bool.and_eq_true, Bool.or_eq_true, Bool.and_eq_false_iff, Bool.or_eq_false_iff] at hb3
    refine wly Z (aq (v := pt bA0) rfl (by kernel_rfl)) fun a Z => wly Z (ai (Y.get (k := 0) rfl) rfl (Tryd.isAgg3 _) rfl) fun a Z => wly Z (ai (Y.get (k := 2) rfl) rfl (Tryd.isAgg3 _) rfl) fun a Z => wly Z (v_le rfl rfl) fun a Z => wlv Z (aC rfl rfl) fun a Z => ?_
    refine hj _ ?_
    try rw [hb3b]
    exact Z.pick [25, 4, 5, 6, 13, 7, 8]
   rw [hb3] at Z
   have hb3b := hb3
   try simp only [qz, Bool.and_eq_true, Bool.or_eq_true, Bool.and_eq_false_iff, Bool.or_eq_false_iff] at hb3
   refine wln Z fun a Z => wln Z fun a Z => wln Z fun a Z => wln Z fun a Z => wlv Z (ax rfl rfl) fun a Z => ?_
   refine hj _ ?_
   try rw [hb3b]
   exact Z.pick [25, 4, 5, 6, 13, 7, 8]
  intro a Z
  refine ab (hK8 _ _ ?_)
  refine ay Z rfl (fun hc4 => ?_) (fun hc4 => ?_)
  ·rw [hc4] at Z
   try simp only [qz, Bool.and_eq_true, Bool.or_eq_true, Bool.and_eq_false_iff, Bool.or_eq_false_iff] at hc4
   refine aa fun K9 hK9 => wlm Z rfl fun a Z => aG 3 Z Y rfl rfl rfl (Tryd.sizeOf3 _) rfl (lb rfl) (ds := [iv (xs : Int)]) rfl rfl ?_
   clear Z Y
   intro a w12 Z Y
   refine ab (hK9 _ _ ?_)
   replace Z : Fr 27 [(6, _)] [] a := Z.pick [6]
   replace Y : St M1 w11 [_, _, _] w12 := Y.mask [false, true, true, true]
   refine au ?_
   exact ⟨_, ⟨rfl, xs, mY hnx hfi (by unfold hitR; simp only [Bool.and_eq_true, decide_eq_true_eq]; omega), rfl⟩, Y.select [0, 1, 2] (by decide)⟩
  rw [hc4] at Z
  try simp only [qz, Bool.and_eq_true, Bool.or_eq_true, Bool.and_eq_false_iff, Bool.or_eq_false_iff] at hc4
  refine ar ?_
  exact ⟨_, ⟨no hnx hfi (by unfold hitR; simp only [Bool.and_eq_false_iff, decide_eq_false_iff_not]; omega), rfl⟩, Y.select [1, 2, 3] (by decide)⟩
 ·rintro D pre _ _ a w13 ⟨rfl, rfl⟩ ⟨hfi, rfl⟩ Y Z
  replace Z : Fr 27 [(4, pt w1.heap.size), (5, pt w2.heap.size), (6, pt w3.heap.size), (13, .func (.func 74) #[] #[pt z1])] [{ target := .collected D, args := #[] }] a := Z
  replace Y : St No w0 [obj D (.deferred (some [])), blk w1.heap.size [iv kind] 3, blk w2.heap.size [iv at_] 3, blk w3.heap.size [iv 0] 3, blk z1 [iv o, lv] 25] w13 := Y
  refine hK5 _ _ <| aa fun K10 hK10 => aG 3 Z Y rfl rfl rfl (Tryd.sizeOf3 _) rfl (lb rfl) (ds := [iv (-1)]) rfl rfl ?_
  clear Z Y
  intro a w14 Z Y
  refine ab (hK10 _ _ <| au ?_)
  have hD := Y.get (k := 0) rfl
  replace Y := Y.unmark (i := 0) (o' := .deferred none) rfl
  replace Y : St No w0 [blk w1.heap.size [iv kind] 3, blk w2.heap.size [iv at_] 3, blk w3.heap.size [iv (-1)] 3, blk z1 [iv o, lv] 25] _ := Y
  refine bN Z hD Tryd.results20 (aJ rfl (co (Y.get (k := 2) rfl) (Tryd.isAgg3 _)) ag) ?_
  exact ⟨by simp only [retv]; rw [findH, if_pos hlo, mE hfi]; try rfl, Y.ext⟩
 ·rintro D _ pre _ _ a w15 rfl ⟨rfl, i, hfh, rfl⟩ Y Z
  replace Z : Fr 27 [(4, pt w1.heap.size), (5, pt w2.heap.size), (6, pt w3.heap.size), (13, .func (.func 74) #[] #[pt z1])] [{ target := .collected D, args := #[] }] a := Z
  replace Y : St No w0 [obj D (.deferred (some [])), blk w1.heap.size [iv kind] 3, blk w2.heap.size [iv at_] 3, blk w3.heap.size [iv (i : Int)] 3, blk z1 [iv o, lv] 25] w15 := Y
  refine au ?_
  have hD := Y.get (k := 0) rfl
  replace Y := Y.unmark (i := 0) (o' := .deferred none) rfl
  replace Y : St No w0 [blk w1.heap.size [iv kind] 3, blk w2.heap.size [iv at_] 3, blk w3.heap.size [iv (i : Int)] 3, blk z1 [iv o, lv] 25] _ := Y
  refine bN Z hD Tryd.results20 (aJ rfl (co (Y.get (k := 2) rfl) (Tryd.isAgg3 _)) ag) ?_
  exact ⟨by simp only [retv]; rw [findH, if_pos hlo, hfh]; try rfl, Y.ext⟩
theorem eP (o : Int) (lv : Value) (l : List Rec) (w0 : World) (hlv : SlAt w0 lv 5 (l.map Rec.cells)) (hlo : logOk o l = true) :
  Ret Tryd.prog 62 #[.agg #[iv o, lv]] w0 (MemR w0 (fun v : Value => .tuple #[v, .bool true]) (fun v => [own v 9 1 ((codesB l).map fun s => [sv s])]) (fun _ => True)) := by
 have hxb := hlv.2.1
 simp only [List.length_map, big] at hxb
 have hl60 := ca hlo
 refine aE Tryd.func62 rfl Tryd.ntmps62 (lb rfl) fun a Z => ?_
 replace Z : Fr 27 [(0, _)] [] a := Z
 replace Y : St No w0 [] w0 := St.init w0
 refine aa fun K1 hK1 => bx Z Y (by decide) rfl (cs := [iv o, lv]) rfl ?_
 clear Z Y
 intro a w1 Z Y
 refine wla Z rfl fun a Z => wla Z rfl fun a Z => ab (hK1 _ _ <| ae fun K2 hK2 => ?_)
 refine aa fun K3 hK3 => wlv Z (aA (Y.get (k := 0) rfl) rfl (Tryd.isAgg25 _) (Tryd.sizeOf25 _)) fun a Z => al Z Y (by decide) Tryd.call16 rfl (dr o lv l _ (Y.arg hlv)) ?_
 clear Z Y
 intro a w2 Z Y
 refine wlv Z (bh rfl) fun a Z => ab (hK3 _ _ ?_)
 refine ay Z rfl (fun hc1 => ?_) (fun hc1 => ?_)
 ·rw [hc1] at Z
  try simp only [qz] at hc1
  exfalso; simp [hlo] at hc1
 rw [hc1] at Z
 try simp only [qz] at hc1
 refine ar <| hK2 _ _ <| aa fun K4 hK4 => wlv Z (aq (v := .pointer (some ⟨w0.heap.size, 1, none⟩)) rfl (by kernel_rfl)) fun a Z => wlv Z (ai (Y.get (k := 0) rfl) rfl (Tryd.isAgg23 _) rfl) fun a Z => wlv Z ((aH (sT := 23) (Y.arg hlv) rfl rfl (Tryd.runUnderlying23 _)).asi (m' := (l.length : Int)) (by rw [List.length_map])) fun a Z => gZ (n := l.length) (E := 9) (sz := 1) rfl rfl ((List.replicate l.length ([] : By)).map fun s => [sv s]) (kf Tryd.underlying45 (inf := Tryd.t9) rfl rfl rfl rfl (by decide) l.length (by rw [List.map_replicate]; rfl) (by omega) _) (by intro e he; obtain ⟨_, _, rfl⟩ := List.mem_map.1 he; rfl) (by simp) (by simp only [big]; omega) (by decide) Z Y ?_
 clear Z Y
 intro a w3 Z Y
 refine aO Z Y (by decide) (Tryd.zeroValue45 _) (cs := [.slice none 0 0]) rfl ?_
 clear Z Y
 intro a w4 Z Y
 refine aG 0 Z Y rfl rfl rfl (Tryd.sizeOf45 _) rfl (lb rfl) (ds := [(.slice (some ⟨w2.heap.size, 0, none⟩) l.length l.length)]) rfl rfl ?_
 clear Z Y
 intro a w5 Z Y
 refine ab (hK4 _ _ ?_)
 replace Z : Fr 27 [(1, _), (2, _), (3, _), (4, _)] [] a := Z.pick [1, 2, 3, 4]
 refine ae fun K5 hK5 => aa fun K6 hK6 => wlv Z (aA (Y.get (k := 2) rfl) rfl (Tryd.isAgg25 _) (Tryd.sizeOf25 _)) fun a Z => ba Z Y (by decide) Tryd.call48 rfl (i6 o lv _ l (Y.arg hlv)) ?_
 clear Z Y
 intro a w6 x2 hp Z Y
 revert x2 hp Z Y; rintro z1 hp Z Y
 clear hp
 replace Y : St No w0 [blk z1 [iv o, lv] 25, blk w3.heap.size [(.slice (some ⟨w2.heap.size, 0, none⟩) l.length l.length)] 45, own (.slice (some ⟨w2.heap.size, 0, none⟩) l.length l.length) 9 1 ((List.replicate l.length ([] : By)).map fun s => [sv s]), blk w0.heap.size [iv o, lv] 25] w6 := Y
 refine ab (hK6 _ _ <| ao ?_)
 replace Y : St No w0 [blk z1 [iv o, lv] 25, blk w3.heap.size [(.slice (some ⟨w2.heap.size, 0, none⟩) l.length l.length)] 45, own (.slice (some ⟨w2.heap.size, 0, none⟩) l.length l.length) 9 1 ((outR l ([] : List Nat).length).map fun s => [sv s]), blk w0.heap.size [iv o, lv] 25] w6 := by rw [show outR l ([] : List Nat).length = _ from nH l]; exact Y
 replace Y : St No w0 [blk w3.heap.size [(.slice (some ⟨w2.heap.size, 0, none⟩) l.length l.length)] 45, own (.slice (some ⟨w2.heap.size, 0, none⟩) l.length l.length) 9 1 ((outR l ([] : List Nat).length).map fun s => [sv s]), blk z1 [iv o, lv] 25] w6 := Y.select [1, 2, 0] (by decide)
 replace Z : Fr 27 [(1, pt w0.heap.size), (2, .slice none 0 0), (3, .bool false), (4, pt w3.heap.size), (14, .agg #[iv o, lv]), (15, .func (.func 74) #[] #[pt z1])] [] a := Z.pick [1, 2, 3, 4, 14, 15]
 refine cB (M := No) (w0 := w0) (encs := (encRb l)) (Hi := [blk z1 [iv o, lv] 25]) (Hc := [blk w3.heap.size [(.slice (some ⟨w2.heap.size, 0, none⟩) l.length l.length)] 45, own (.slice (some ⟨w2.heap.size, 0, none⟩) l.length l.length) 9 1 ((outR l ([] : List Nat).length).map fun s => [sv s])]) (fun pre H => (True) ∧ H = [blk w3.heap.size [(.slice (some ⟨w2.heap.size, 0, none⟩) l.length l.length)] 45, own (.slice (some ⟨w2.heap.size, 0, none⟩) l.length l.length) 9 1 ((outR l (pre : List Nat).length).map fun s => [sv s])]) (fun _ _ _ => False) (fun pre xs H a => ∃ (bA0 : Nat), Fr 27 [(1, pt w0.heap.size), (2, .slice none 0 0), (3, .bool false), (4, pt w3.heap.size), (14, .agg #[iv o, lv]), (15, .func (.func 74) #[] #[pt z1]), (5, iv (xs : Int)), (6, pt bA0)] [] a ∧ (True) ∧ H = [blk bA0 [iv ((l.getD xs Rec.z).t), iv ((l.getD xs Rec.z).kind), iv ((l.getD xs Rec.z).a), iv ((l.getD xs Rec.z).b), sv ((l.getD xs Rec.z).text)] 27, blk w3.heap.size [(.slice (some ⟨w2.heap.size, 0, none⟩) l.length l.length)] 45, own (.slice (some ⟨w2.heap.size, 0, none⟩) l.length l.length) 9 1 ((outR l (pre : List Nat).length).map fun s => [sv s])]) rfl Tryd.call74 Z Y (fR o lv l z1 (by have := ca hlo; omega) (fun H w h => h.arg hlv)) (by decide) (fun _ => rfl) ⟨trivial, rfl⟩ ?_ ?_ ?_ ?_
 ·clear Z Y
  rintro lp pre xs _ a w7 hnx ⟨htr, rfl⟩ Z Y
  generalize (join [blk w3.heap.size [(.slice (some ⟨w2.heap.size, 0, none⟩) l.length l.length)] 45, own (.slice (some ⟨w2.heap.size, 0, none⟩) l.length l.length) 9 1 ((outR l (pre : List Nat).length).map fun s => [sv s])]).foot = M1 at Y ⊢
  replace Z : Fr 27 [(17, .agg #[iv ((l.getD xs Rec.z).t), iv ((l.getD xs Rec.z).kind), iv ((l.getD xs Rec.z).a), iv ((l.getD xs Rec.z).b), sv ((l.getD xs Rec.z).text)]), (16, iv (xs : Int)), (1, pt w0.heap.size), (2, .slice none 0 0), (3, .bool false), (4, pt w3.heap.size), (14, .agg #[iv o, lv]), (15, .func (.func 74) #[] #[pt z1])] [] a := Z
  refine aa fun K7 hK7 => wla Z rfl fun a Z => ab (hK7 _ _ <| am ?_)
  refine aO Z Y (by decide) (Tryd.zeroValue27 _) (cs := [iv 0, iv 0, iv 0, iv 0, .string (⟨#[]⟩)]) rfl ?_
  clear Z Y
  intro a w8 Z Y
  refine aG 0 Z Y rfl rfl rfl (Tryd.sizeOf27 _) rfl (lb rfl) (ds := [iv ((l.getD xs Rec.z).t), iv ((l.getD xs Rec.z).kind), iv ((l.getD xs Rec.z).a), iv ((l.getD xs Rec.z).b), sv ((l.getD xs Rec.z).text)]) rfl rfl ?_
  clear Z Y
  intro a w9 Z Y
  refine ab ?_
  exact ⟨_, ⟨w7.heap.size, Z.pick [1, 2, 3, 4, 14, 15, 5, 6], htr, rfl⟩, Y⟩
 ·rintro lp pre xs _ a w10 hnx ⟨bA0, Z, htr, rfl⟩ hout hrec hnl Y
  clear hrec hnl
  generalize (join [blk bA0 [iv ((l.getD xs Rec.z).t), iv ((l.getD xs Rec.z).kind), iv ((l.getD xs Rec.z).a), iv ((l.getD xs Rec.z).b), sv ((l.getD xs Rec.z).text)] 27, blk w3.heap.size [(.slice (some ⟨w2.heap.size, 0, none⟩) l.length l.length)] 45, own (.slice (some ⟨w2.heap.size, 0, none⟩) l.length l.length) 9 1 ((outR l (pre : List Nat).length).map fun s => [sv s])]).foot = M1 at Y hout ⊢
  refine ao <| aM (by kernel_rfl) ?_
  replace Z : Fr 27 [(1, _), (2, _), (3, _), (4, _), (14, _), (15, _), (5, _), (6, _)] [] a := Z.pick [1, 2, 3, 4, 14, 15, 5, 6]
  replace Y : St M1 w10 [own (.slice (some ⟨w2.heap.size, 0, none⟩) l.length l.length) 9 1 ((outR l (pre : List Nat).length).map fun s => [sv s]), blk bA0 [iv ((l.getD xs Rec.z).t), iv ((l.getD xs Rec.z).kind), iv ((l.getD xs Rec.z).a), iv ((l.getD xs Rec.z).b), sv ((l.getD xs Rec.z).text)] 27, blk w3.heap.size [(.slice (some ⟨w2.heap.size, 0, none⟩) l.length l.length)] 45] w10 := Y.select [2, 0, 1] (by decide)
  have hso3 := Y.ownAt (i := 0) rfl
  refine dX [8] (fun q => if q = 8 then own (.slice (some ⟨w2.heap.size, 0, none⟩) l.length l.length) 9 1 ((outR l (pre : List Nat).length).map fun s => [sv s]) else join []) (fun q => if q = 8 then own (.slice (some ⟨w2.heap.size, 0, none⟩) l.length l.length) 9 1 ((outR l ((pre ++ [xs]) : List Nat).length).map fun s => [sv s]) else join []) 9 [[], [], [], [2], [3], [4], [4], [0, 1], [5, 7]] (fun i => match i with | 0 => pv ((.slice (some ⟨w2.heap.size, 0, none⟩) l.length l.length)) | 1 => pv (iv (xs : Int)) | 2 => pv (.agg #[iv ((l.getD xs Rec.z).t), iv ((l.getD xs Rec.z).kind), iv ((l.getD xs Rec.z).a), iv ((l.getD xs Rec.z).b), sv ((l.getD xs Rec.z).text)]) | 3 => pv (.tuple #[sv (eB (l.getD xs Rec.z)), iv (eE (l.getD xs Rec.z))]) | 4 => pv (.tuple #[sv (eB (l.getD xs Rec.z)), iv (eE (l.getD xs Rec.z))]) | 5 => pv (sv (eB (l.getD xs Rec.z))) | 6 => pv (iv (eE (l.getD xs Rec.z))) | 7 => pv (slAddr (.slice (some ⟨w2.heap.size, 0, none⟩) l.length l.length) (xs * 1)) | 8 => fun v E => v = undef ∧ E = [] | _ => fun _ _ => False) (by intro q; by_cases h8 : q = 8; (subst h8; rfl); simp only [h8, if_false]) Z (H := [blk bA0 [iv ((l.getD xs Rec.z).t), iv ((l.getD xs Rec.z).kind), iv ((l.getD xs Rec.z).a), iv ((l.getD xs Rec.z).b), sv ((l.getD xs Rec.z).text)] 27, blk w3.heap.size [(.slice (some ⟨w2.heap.size, 0, none⟩) l.length l.length)] 45]) Y (by kernel_rfl) (by kernel_rfl) (by kernel_rfl) (by kernel_rfl) (by decide) (by decide) ?_ ?_ ?_ ?_ ?_ ?_
  ·intro i v E h
   match i, h with
   | 0, _ => exact by decide
   | 1, _ => exact by decide
   | 2, _ => exact by decide
   | 3, _ => exact by decide
   | 4, _ => exact by decide
   | 5, _ => exact by decide
   | 6, _ => exact by decide
   | 7, _ => exact by decide
   | 8, _ => exact by decide
   | i + 9, h => exact h.elim
  ·intro q v E hq h
   simp only [List.mem_cons, List.not_mem_nil, or_false] at hq
   rcases hq with rfl <;> exact h
  ·intro q hq
   simp only [List.mem_cons, List.not_mem_nil, or_false] at hq
   rcases hq with rfl <;> exact ⟨rfl, rfl⟩
  ·intro i hi hiq e
   match i, hi, hiq with
   | 0, _, _ =>
    intro w Y
    exact OpV.g (ai (Y.get (k := 2) rfl) rfl (Tryd.isAgg45 _) rfl)
   | 1, _, _ =>
    intro w Y
    exact OpV.g (ah rfl)
   | 2, _, _ =>
    intro w Y
    exact OpV.g (aA (Y.get (k := 1) rfl) rfl (Tryd.isAgg27 _) (Tryd.sizeOf27 _))
   | 3, _, _ =>
    rintro _ _ ⟨rfl, rfl⟩
    intro w Y
    exact bu Tryd.call22 rfl (gG (l.getD xs Rec.z) _)
   | 4, _, _ =>
    rintro _ _ ⟨rfl, rfl⟩
    intro w Y
    exact OpV.g (ah rfl)
   | 5, _, _ =>
    rintro _ _ ⟨rfl, rfl⟩
    intro w Y
    exact OpV.g (ak rfl rfl)
   | 6, _, _ =>
    rintro _ _ ⟨rfl, rfl⟩
    intro w Y
    exact OpV.g (ak rfl rfl)
   | 7, _, _ =>
    rintro _ _ ⟨rfl, rfl⟩ _ _ ⟨rfl, rfl⟩
    intro w Y
    exact OpV.g ((eY (i := (xs : Int)) hso3 rfl rfl (Tryd.runUnderlying45 _) (Tryd.sizeOf9 _) (by omega) (by have h9 : xs + 1 + pre.length = l.length := hnx; rw [List.length_map, ic _ _ (by omega)]; omega)).as (v' := slAddr (.slice (some ⟨w2.heap.size, 0, none⟩) l.length l.length) (xs * 1)) rfl)
   | 8, _, h => exact absurd (by decide) h
  ·intro q hq
   simp only [List.mem_cons, List.not_mem_nil, or_false] at hq
   rcases hq with rfl
   ·rintro _ _ ⟨rfl, rfl⟩ _ _ ⟨rfl, rfl⟩
    intro w h
    exact jz (k := xs) (j := 0) rfl rfl h (by have h9 : xs + 1 + pre.length = l.length := hnx; rw [List.length_map, ic _ _ (by omega)]; omega) (by omega) (Tryd.sizeOf9 _) (by simp [Value.oneCell', yv, wv, sv, Value.cells]) (lb rfl) (els' := ((outR l ((pre ++ [xs]) : List Nat).length).map fun s => [sv s])) (my hnx _)
  clear Z Y
  rintro _ _ ⟨rfl, rfl⟩ _ _ ⟨rfl, rfl⟩ _ _ ⟨rfl, rfl⟩ _ _ ⟨rfl, rfl⟩ _ _ ⟨rfl, rfl⟩ _ _ ⟨rfl, rfl⟩ _ _ ⟨rfl, rfl⟩ _ _ ⟨rfl, rfl⟩ a w11 Z Y
  replace Z : Fr 27 [(19, _), (20, _), (21, _), (22, _), (18, _), (23, _), (24, _), (25, _), (1, _), (2, _), (3, _), (4, _), (14, _), (15, _), (5, _), (6, _)] [] a := Z
  replace Y : St M1 w10 [own (.slice (some ⟨w2.heap.size, 0, none⟩) l.length l.length) 9 1 ((outR l ((pre ++ [xs]) : List Nat).length).map fun s => [sv s]), blk bA0 [iv ((l.getD xs Rec.z).t), iv ((l.getD xs Rec.z).kind), iv ((l.getD xs Rec.z).a), iv ((l.getD xs Rec.z).b), sv ((l.getD xs Rec.z).text)] 27, blk w3.heap.size [(.slice (some ⟨w2.heap.size, 0, none⟩) l.length l.length)] 45] w11 := Y
  refine ab ?_
  exact ⟨_, ⟨trivial, rfl⟩, Y.select [2, 0] (by decide)⟩
 ·rintro D pre _ _ a w12 ⟨rfl, rfl⟩ ⟨htr, rfl⟩ Y Z
  replace Z : Fr 27 [(1, pt w0.heap.size), (2, .slice none 0 0), (3, .bool false), (4, pt w3.heap.size), (14, .agg #[iv o, lv]), (15, .func (.func 74) #[] #[pt z1])] [{ target := .collected D, args := #[] }] a := Z
  replace Y : St No w0 [obj D (.deferred (some [])), blk w3.heap.size [(.slice (some ⟨w2.heap.size, 0, none⟩) l.length l.length)] 45, own (.slice (some ⟨w2.heap.size, 0, none⟩) l.length l.length) 9 1 ((outR l ((backs l.length l.length) : List Nat).length).map fun s => [sv s]), blk z1 [iv o, lv] 25] w12 := Y
  refine hK5 _ _ <| aa fun K8 hK8 => wlv Z (ai (Y.get (k := 1) rfl) rfl (Tryd.isAgg45 _) rfl) fun a Z => wla Z rfl fun a Z => wla Z rfl fun a Z => ab (hK8 _ _ <| au ?_)
  have hD := Y.get (k := 0) rfl
  replace Y := Y.unmark (i := 0) (o' := .deferred none) rfl
  replace Y : St No w0 [blk w3.heap.size [(.slice (some ⟨w2.heap.size, 0, none⟩) l.length l.length)] 45, own (.slice (some ⟨w2.heap.size, 0, none⟩) l.length l.length) 9 1 ((outR l ((backs l.length l.length) : List Nat).length).map fun s => [sv s]), blk z1 [iv o, lv] 25] _ := Y
  refine bN Z hD Tryd.results62 (ac rfl (ac rfl ag)) ?_
  rw [ml] at Y
  exact ⟨(.slice (some ⟨w2.heap.size, 0, none⟩) l.length l.length), rfl, trivial, Y.ext, St.out (E := [own (.slice (some ⟨w2.heap.size, 0, none⟩) l.length l.length) 9 1 ((codesB l).map fun s => [sv s])]) (H := []) (Y.select [1] (by decide))⟩
 ·rintro D c pre _ _ a w13 _ h
  exact h.elim
theorem ma (o : Int) (lv : Value) (l : List Rec) (w0 : World) (hlv : SlAt w0 lv 5 (l.map Rec.cells)) (hlo : logOk o l = false) :
  Ret Tryd.prog 62 #[.agg #[iv o, lv]] w0 fun v w => v = .tuple #[.slice none 0 0, .bool false] ∧ Ext No w0 w := by
 refine aE Tryd.func62 rfl Tryd.ntmps62 (lb rfl) fun a Z => ?_
 replace Z : Fr 27 [(0, _)] [] a := Z
 replace Y : St No w0 [] w0 := St.init w0
 refine aa fun K1 hK1 => bx Z Y (by decide) rfl (cs := [iv o, lv]) rfl ?_
 clear Z Y
 intro a w1 Z Y
 refine wla Z rfl fun a Z => wla Z rfl fun a Z => ab (hK1 _ _ <| ae fun K2 hK2 => ?_)
 refine aa fun K3 hK3 => wlv Z (aA (Y.get (k := 0) rfl) rfl (Tryd.isAgg25 _) (Tryd.sizeOf25 _)) fun a Z => al Z Y (by decide) Tryd.call16 rfl (dr o lv l _ (Y.arg hlv)) ?_
 clear Z Y
 intro a w2 Z Y
 refine wlv Z (bh rfl) fun a Z => ab (hK3 _ _ ?_)
 refine ay Z rfl (fun hc1 => ?_) (fun hc1 => ?_)
 ·rw [hc1] at Z
  try simp only [qz] at hc1
  refine aa fun K4 hK4 => wla Z rfl fun a Z => wla Z rfl fun a Z => ab (hK4 _ _ <| au ?_)
  refine ap Z Tryd.results62 (ac rfl (ac rfl ag)) ?_
  exact ⟨by rfl, Y.ext⟩
 rw [hc1] at Z
 try simp only [qz] at hc1
 exfalso; simp [hlo] at hc1
end Go.Proofs.YtddfkkdanpmnaaaDoor
namespace Go.Proofs.YtddfkkdanpmnaaaDoor
open Go.RowKit Go.PW
set_option linter.unusedVariables false
set_option linter.unusedSimpArgs false
set_option maxRecDepth 4000
theorem fh (o : Int) (lv : Value) (l : List Rec) (w0 : World) (hlv : SlAt w0 lv 5 (l.map Rec.cells)) (hk0 : (blk 0 (kOf.map wv) 161).ok w0) :
  Ret Tryd.prog 27 #[.agg #[iv o, lv]] w0 fun v w => v = .tuple #[sv (headB o l), iv (headE o l)] ∧ Ext No w0 w := by
 refine aE Tryd.func27 rfl Tryd.ntmps27 (lb rfl) fun a Z => ?_
 replace Z : Fr 15 [(0, _)] [] a := Z
 replace Y : St No w0 [] w0 := St.init w0
 refine aa fun K1 hK1 => bx Z Y (by decide) rfl (cs := [iv o, lv]) rfl ?_
 clear Z Y
 intro a w1 Z Y
 refine wla Z rfl fun a Z => wla Z rfl fun a Z => ab (hK1 _ _ <| aa fun K2 hK2 => ?_)
 refine wlv Z (aA (Y.get (k := 0) rfl) rfl (Tryd.isAgg25 _) (Tryd.sizeOf25 _)) fun a Z => ?_
 rcases Bool.eq_false_or_eq_true (logOk o l) with hb1 | hb1
 ·try simp only [qz] at hb1
  have hlo : logOk o l = true := hb1
  have hll : l.length ≤ 60 := ca hlo
  refine ba Z Y (by decide) Tryd.call62 rfl (eP o lv l _ (Y.arg hlv) hlo) ?_
  clear Z Y
  intro a w2 x3 hp Z Y
  revert x3 hp Z Y; rintro v2 hp Z Y
  clear hp
  replace Y : St No w0 [own v2 9 1 ((codesB l).map fun s => [sv s]), blk w0.heap.size [iv o, lv] 25] w2 := Y
  refine wlm Z rfl fun a Z => wlv Z (ak rfl rfl) fun a Z => wlv Z (ak rfl rfl) fun a Z => wla Z rfl fun a Z => wla Z rfl fun a Z => ab (hK2 _ _ ?_)
  replace Z : Fr 15 [(2, _), (3, _), (4, _), (5, _)] [] a := Z.pick [2, 3, 4, 5]
  replace Y : St No w0 [_] w2 := Y.mask [true, false]
  refine ae fun K3 hK3 => aa fun K4 hK4 => wlm Z rfl fun a Z => wlv Z ((bh rfl).asb (b' := false) rfl) fun a Z => ab (hK4 _ _ <| aL Z rfl ?_)
  refine ar <| hK3 _ _ <| aa fun K5 hK5 => wlm Z rfl fun a Z => al Z Y (by decide) Tryd.call63 rfl (dM v2 (codesB l) _ (Y.ownAt (i := 0) rfl) (by rw [fQ]; omega) (fun k hk => Nat.le_trans (fK l _ (bd hk)) (by decide)) (Y.keepb hk0)) ?_
  clear Z Y
  intro a w3 Z Y
  refine wla Z rfl fun a Z => wla Z rfl fun a Z => ab (hK5 _ _ ?_)
  replace Z : Fr 15 [(2, _), (3, _)] [] a := Z.pick [2, 3]
  replace Y : St No w0 [] w3 := Y.mask [false]
  refine au ?_
  refine ap Z Tryd.results27 (ac rfl (ac rfl ag)) ?_
  exact ⟨by simp only [retv]; unfold headB headE; rw [if_pos hlo, if_pos hlo, dR (di hlo)], Y.ext⟩
 try simp only [qz] at hb1
 have hlo : logOk o l = false := hb1
 have hll : l.length ≤ l.length := Nat.le_refl _
 refine al Z Y (by decide) Tryd.call62 rfl (ma o lv l _ (Y.arg hlv) hlo) ?_
 clear Z Y
 intro a w4 Z Y
 refine wlm Z rfl fun a Z => wlv Z (ak rfl rfl) fun a Z => wlv Z (ak rfl rfl) fun a Z => wla Z rfl fun a Z => wla Z rfl fun a Z => ab (hK2 _ _ ?_)
 replace Z : Fr 15 [(2, _), (3, _), (4, _), (5, _)] [] a := Z.pick [2, 3, 4, 5]
 replace Y : St No w0 [] w4 := Y.mask [false]
 refine ae fun K6 hK6 => aa fun K7 hK7 => wlm Z rfl fun a Z => wlv Z ((bh rfl).asb (b' := true) rfl) fun a Z => ab (hK7 _ _ <| aQ Z rfl ?_)
 refine aa fun K8 hK8 => wla Z rfl fun a Z => wla Z rfl fun a Z => ab (hK8 _ _ <| au ?_)
 refine ap Z Tryd.results27 (ac rfl (ac rfl ag)) ?_
 exact ⟨by simp only [retv]; unfold headB headE; rw [hlo]; rfl, Y.ext⟩
theorem jU (key : By) (o : Int) (lv : Value) (l : List Rec) (w0 : World) (hlv : SlAt w0 lv 5 (l.map Rec.cells)) (hk0 : (blk 0 (kOf.map wv) 161).ok w0) :
  Ret Tryd.prog 36 #[sv key, .agg #[iv o, lv]] w0 fun v w => v = .tuple #[sv (signB key o l), iv (signE key o l)] ∧ Ext No w0 w := by
 refine aE Tryd.func36 rfl Tryd.ntmps36 (lb rfl) fun a Z => ?_
 replace Z : Fr 28 [(0, _), (1, _)] [] a := Z
 replace Y : St No w0 [] w0 := St.init w0
 refine aa fun K1 hK1 => bx Z Y (by decide) rfl (cs := [iv o, lv]) rfl ?_
 clear Z Y
 intro a w1 Z Y
 refine wla Z rfl fun a Z => wla Z rfl fun a Z => ab (hK1 _ _ <| aa fun K2 hK2 => ?_)
 refine wlv Z (aA (Y.get (k := 0) rfl) rfl (Tryd.isAgg25 _) (Tryd.sizeOf25 _)) fun a Z => al Z Y (by decide) Tryd.call27 rfl (fh o lv l _ (Y.arg hlv) (Y.keepb hk0)) ?_
 clear Z Y
 intro a w2 Z Y
 refine wlm Z rfl fun a Z => wlv Z (ak rfl rfl) fun a Z => wlv Z (ak rfl rfl) fun a Z => wla Z rfl fun a Z => wla Z rfl fun a Z => ab (hK2 _ _ ?_)
 replace Z : Fr 28 [(0, _), (3, _), (4, _), (5, _), (6, _), (7, _)] [] a := Z.pick [0, 3, 4, 5, 6, 7]
 refine ae fun K3 hK3 => aa fun K4 hK4 => wlm Z rfl fun a Z => wlv Z (v_ne rfl rfl) fun a Z => wlm Z rfl fun a Z => ?_
 rcases Bool.eq_false_or_eq_true (!decide (headE o l = 0)) with hb1 | hb1
 ·rw [hb1] at Z
  try simp only [qz] at hb1
  have hlo : logOk o l = false := by
   cases h : logOk o l with
   | false => rfl
   | true => exact absurd (dz.2 h) (by omega)
  have hsg : signOk key o l = false := by unfold signOk; rw [hlo]; rfl
  refine wln Z fun a Z => wln Z fun a Z => wln Z fun a Z => wlv Z (aC rfl rfl) fun a Z => ab (hK4 _ _ ?_)
  replace Z : Fr 28 [(0, _), (3, _), (4, _), (5, _), (6, _), (19, _)] [] a := Z.pick [0, 3, 4, 5, 6, 19]
  refine aQ Z rfl ?_
  refine aa fun K5 hK5 => wla Z rfl fun a Z => wla Z rfl fun a Z => ab (hK5 _ _ <| au ?_)
  refine ap Z Tryd.results36 (ac rfl (ac rfl ag)) ?_
  exact ⟨by simp only [retv]; unfold signB signE; rw [hsg]; rfl, Y.ext⟩
 rw [hb1] at Z
 try simp only [qz] at hb1
 have hlo : logOk o l = true := dz.1 (by omega)
 have hob := eJ hlo
 have hlb := ca hlo
 have hs0 : small o := by unfold small; omega
 have hs1 : small (l.length : Int) := by unfold small; omega
 have hr32 : (headB o l).length = 32 := by rw [dB hlo]; exact bT aK _
 refine wly Z (ah rfl) fun a Z => wly Z (bt rfl rfl (Tryd.runUnderlying9 _)) fun a Z => wly Z (v_ne rfl rfl) fun a Z => wlv Z (ax rfl rfl) fun a Z => ab (hK4 _ _ ?_)
 replace Z : Fr 28 [(0, _), (3, _), (4, _), (5, _), (6, _), (19, _)] [] a := Z.pick [0, 3, 4, 5, 6, 19]
 refine ay Z rfl (fun hc2 => ?_) (fun hc2 => ?_)
 ·rw [hc2] at Z
  try simp only [qz] at hc2
  have hsg : signOk key o l = false := by unfold signOk; rw [hlo, decide_eq_false (by omega)]; rfl
  refine aa fun K6 hK6 => wla Z rfl fun a Z => wla Z rfl fun a Z => ab (hK6 _ _ <| au ?_)
  refine ap Z Tryd.results36 (ac rfl (ac rfl ag)) ?_
  exact ⟨by simp only [retv]; unfold signB signE; rw [hsg]; rfl, Y.ext⟩
 rw [hc2] at Z
 try simp only [qz] at hc2
 have hsg : signOk key o l = true := by unfold signOk; rw [hlo, decide_eq_true (by omega)]; rfl
 refine ar <| hK3 _ _ <| aa fun K7 hK7 => wlm Z rfl fun a Z => wlv Z (aq (v := pt w0.heap.size) rfl (by kernel_rfl)) fun a Z => wlv Z (ai (Y.get (k := 0) rfl) rfl (Tryd.isAgg3 _) rfl) fun a Z => wlv Z (aq (v := .pointer (some ⟨w0.heap.size, 1, none⟩)) rfl (by kernel_rfl)) fun a Z => ?_
 refine wlv Z (ai (Y.get (k := 0) rfl) rfl (Tryd.isAgg23 _) rfl) fun a Z => wlv Z ((aH (sT := 23) (Y.arg hlv) rfl rfl (Tryd.runUnderlying23 _)).asi (m' := (l.length : Int)) (by rw [List.length_map])) fun a Z => wlm Z rfl fun a Z => al Z Y (by decide) Tryd.call71 rfl (l0 key o (l.length : Int) (headB o l) _ hs0 hs1 (by omega) (by omega) (Y.keepb hk0)) ?_
 clear Z Y
 intro a w3 Z Y
 refine wla Z rfl fun a Z => wla Z rfl fun a Z => ab (hK7 _ _ ?_)
 replace Z : Fr 28 [(4, _), (5, _)] [] a := Z.pick [4, 5]
 replace Y : St No w0 [] w3 := Y.mask [false]
 refine au ?_
 refine ap Z Tryd.results36 (ac rfl (ac rfl ag)) ?_
 exact ⟨by simp only [retv]; unfold signB signE; rw [if_pos hsg, if_pos hsg, dB hlo], Y.ext⟩
theorem hP {n a b : Int} (h : inB n a b = true) : a ≤ n ∧ n ≤ b := by simpa [inB] using h
set_option maxHeartbeats 4000000 in
theorem bZ (key : By) (owner n : Int) (root t : By) (w0 : World) (hk0 : (blk 0 (kOf.map wv) 161).ok w0) :
  Ret Tryd.prog 37 #[sv key, iv owner, iv n, sv root, sv t] w0 fun v w => v = .bool (genR sha key owner n root t) ∧ Ext No w0 w := by
 refine aE Tryd.func37 rfl Tryd.ntmps37 (lb rfl) fun a Z => ?_
 replace Z : Fr 38 [(0, _), (1, _), (2, _), (3, _), (4, _)] [] a := Z
 replace Y : St No w0 [] w0 := St.init w0
 refine aa fun K1 hK1 => wla Z rfl fun a Z => ab (hK1 _ _ <| aa fun K2 hK2 => ?_)
 refine wlm Z rfl fun a Z => al Z Y (by decide) Tryd.call46 rfl (du owner 0 99 _) ?_
 clear Z Y
 intro a w1 Z Y
 refine wlm Z rfl fun a Z => ?_
 rcases Bool.eq_false_or_eq_true (inB owner 0 99) with hb1 | hb1
 ·rw [hb1] at Z
  try simp only [qz] at hb1
  have hs0 : small owner := by have h9 := hP hb1; unfold small; omega
  refine wly Z (ah rfl) fun a Z => aT Z Y (by decide) rfl (by decide) rfl Tryd.call46 rfl (du n 0 60 _) ?_
  clear Z Y
  intro a w2 Z Y
  refine wlv Z (aC rfl rfl) fun a Z => wla Z rfl fun a Z => ab (hK2 _ _ ?_)
  replace Z : Fr 38 [(0, _), (1, _), (2, _), (3, _), (4, _), (10, _), (11, _)] [] a := Z.pick [0, 1, 2, 3, 4, 10, 11]
  refine aa fun K3 hK3 => wlm Z rfl fun a Z => wlm Z rfl fun a Z => ?_
  rcases Bool.eq_false_or_eq_true (inB n 0 60) with hb2 | hb2
  ·rw [hb2] at Z
   try simp only [qz] at hb2
   have hs1 : small n := by have h9 := hP hb2; unfold small; omega
   refine wly Z (ah rfl) fun a Z => wly Z (bt rfl rfl (Tryd.runUnderlying9 _)) fun a Z => wly Z (v_eq rfl rfl) fun a Z => wlv Z (aC rfl rfl) fun a Z => wlm Z rfl fun a Z => ?_
   rcases Bool.eq_false_or_eq_true (decide ((key.length : Int) = 32)) with hb3 | hb3
   ·rw [hb3] at Z
    try simp only [qz] at hb3
    refine wly Z (ah rfl) fun a Z => wly Z (bt rfl rfl (Tryd.runUnderlying9 _)) fun a Z => wly Z (v_eq rfl rfl) fun a Z => wlv Z (aC rfl rfl) fun a Z => wlm Z rfl fun a Z => ?_
    rcases Bool.eq_false_or_eq_true (decide ((root.length : Int) = 32)) with hb4 | hb4
    ·rw [hb4] at Z
     try simp only [qz] at hb4
     refine wly Z (ah rfl) fun a Z => wly Z (ah rfl) fun a Z => wly Z (ah rfl) fun a Z => wly Z (ah rfl) fun a Z => wly Z (ah rfl) fun a Z => aT Z Y (by decide) rfl (by decide) rfl Tryd.call71 rfl (l0 key owner n root _ hs0 hs1 (by omega) (by omega) (Y.keepb hk0)) ?_
     clear Z Y
     intro a w3 Z Y
     refine wly Z (dx rfl rfl) fun a Z => wlv Z (aC rfl rfl) fun a Z => wla Z rfl fun a Z => ab (hK3 _ _ ?_)
     replace Z : Fr 38 [(10, _)] [] a := Z.pick [10]
     refine au ?_
     refine ap Z Tryd.results37 (ac rfl ag) ?_
     refine ⟨?_, Y.ext⟩
     simp only [retv]
     refine congrArg Value.bool ?_
     unfold genR; rw [decide_eq_true (by omega : key.length = 32), decide_eq_true (by omega : root.length = 32), hb1, hb2]; rfl
    rw [hb4] at Z
    try simp only [qz] at hb4
    refine wln Z fun a Z => wln Z fun a Z => wln Z fun a Z => wln Z fun a Z => wln Z fun a Z => wln Z fun a Z => wln Z fun a Z => ?_
    refine wlv Z (ax rfl rfl) fun a Z => wla Z rfl fun a Z => ab (hK3 _ _ ?_)
    replace Z : Fr 38 [(10, _)] [] a := Z.pick [10]
    refine au ?_
    refine ap Z Tryd.results37 (ac rfl ag) ?_
    refine ⟨?_, Y.ext⟩
    simp only [retv]
    refine congrArg Value.bool ?_
    rw [eq_comm, Bool.eq_false_iff]; intro h; simp only [genR, Bool.and_eq_true, decide_eq_true_eq] at h
    first | (obtain ⟨⟨⟨⟨h1, h2⟩, h3⟩, h4⟩, h5⟩ := h; first | omega | (rw [h2] at hb4; cases hb4) | (rw [h3] at hb4; cases hb4))
   rw [hb3] at Z
   try simp only [qz] at hb3
   refine wln Z fun a Z => wln Z fun a Z => wln Z fun a Z => wlv Z (ax rfl rfl) fun a Z => wlm Z rfl fun a Z => wln Z fun a Z => wln Z fun a Z => wln Z fun a Z => ?_
   refine wln Z fun a Z => wln Z fun a Z => wln Z fun a Z => wln Z fun a Z => wlv Z (ax rfl rfl) fun a Z => wla Z rfl fun a Z => ab (hK3 _ _ ?_)
   replace Z : Fr 38 [(10, _)] [] a := Z.pick [10]
   refine au ?_
   refine ap Z Tryd.results37 (ac rfl ag) ?_
   refine ⟨?_, Y.ext⟩
   simp only [retv]
   refine congrArg Value.bool ?_
   rw [eq_comm, Bool.eq_false_iff]; intro h; simp only [genR, Bool.and_eq_true, decide_eq_true_eq] at h
   first | (obtain ⟨⟨⟨⟨h1, h2⟩, h3⟩, h4⟩, h5⟩ := h; first | omega | (rw [h2] at hb3; cases hb3) | (rw [h3] at hb3; cases hb3))
  rw [hb2] at Z
  try simp only [qz] at hb2
  refine wln Z fun a Z => wln Z fun a Z => wln Z fun a Z => wlv Z (ax rfl rfl) fun a Z => wlm Z rfl fun a Z => wln Z fun a Z => wln Z fun a Z => wln Z fun a Z => ?_
  refine wlv Z (ax rfl rfl) fun a Z => wlm Z rfl fun a Z => wln Z fun a Z => wln Z fun a Z => wln Z fun a Z => wln Z fun a Z => wln Z fun a Z => wln Z fun a Z => ?_
  refine wln Z fun a Z => wlv Z (ax rfl rfl) fun a Z => wla Z rfl fun a Z => ab (hK3 _ _ ?_)
  replace Z : Fr 38 [(10, _)] [] a := Z.pick [10]
  refine au ?_
  refine ap Z Tryd.results37 (ac rfl ag) ?_
  refine ⟨?_, Y.ext⟩
  simp only [retv]
  refine congrArg Value.bool ?_
  rw [eq_comm, Bool.eq_false_iff]; intro h; simp only [genR, Bool.and_eq_true, decide_eq_true_eq] at h
  first | (obtain ⟨⟨⟨⟨h1, h2⟩, h3⟩, h4⟩, h5⟩ := h; first | omega | (rw [h2] at hb2; cases hb2) | (rw [h3] at hb2; cases hb2))
 rw [hb1] at Z
 try simp only [qz] at hb1
 refine wln Z fun a Z => wln Z fun a Z => wlv Z (ax rfl rfl) fun a Z => wla Z rfl fun a Z => ab (hK2 _ _ ?_)
 replace Z : Fr 38 [(0, _), (1, _), (2, _), (3, _), (4, _), (10, _), (11, _)] [] a := Z.pick [0, 1, 2, 3, 4, 10, 11]
 refine aa fun K4 hK4 => wlm Z rfl fun a Z => wlm Z rfl fun a Z => wln Z fun a Z => wln Z fun a Z => wln Z fun a Z => wlv Z (ax rfl rfl) fun a Z => wlm Z rfl fun a Z => wln Z fun a Z => ?_
 refine wln Z fun a Z => wln Z fun a Z => wlv Z (ax rfl rfl) fun a Z => wlm Z rfl fun a Z => wln Z fun a Z => wln Z fun a Z => wln Z fun a Z => wln Z fun a Z => ?_
 refine wln Z fun a Z => wln Z fun a Z => wln Z fun a Z => wlv Z (ax rfl rfl) fun a Z => wla Z rfl fun a Z => ab (hK4 _ _ ?_)
 replace Z : Fr 38 [(10, _)] [] a := Z.pick [10]
 refine au ?_
 refine ap Z Tryd.results37 (ac rfl ag) ?_
 refine ⟨?_, Y.ext⟩
 simp only [retv]
 refine congrArg Value.bool ?_
 rw [eq_comm, Bool.eq_false_iff]; intro h; simp only [genR, Bool.and_eq_true, decide_eq_true_eq] at h
 first | (obtain ⟨⟨⟨⟨h1, h2⟩, h3⟩, h4⟩, h5⟩ := h; first | omega | (rw [h2] at hb1; cases hb1) | (rw [h3] at hb1; cases hb1))
theorem iX (root : By) (n i : Int) (x : Rec) (pv_ : Value) (ps : List By) (w0 : World) (hpv : SlAt w0 pv_ 1 (ps.map fun s => [sv s])) (hpl : ps.length ≤ 1000) (hn : i64 n) (hk0 : (blk 0 (kOf.map wv) 161).ok w0) :
  Ret Tryd.prog 29 #[sv root, iv n, iv i, .agg #[iv x.t, iv x.kind, iv x.a, iv x.b, sv x.text], pv_] w0 fun v w => v = .bool (checkB root n i x ps) ∧ Ext No w0 w := by
 refine aE Tryd.func29 rfl Tryd.ntmps29 (lb rfl) fun a Z => ?_
 replace Z : Fr 28 [(0, _), (1, _), (2, _), (3, _), (4, _)] [] a := Z
 replace Y : St No w0 [] w0 := St.init w0
 refine aa fun K1 hK1 => bx Z Y (by decide) rfl (cs := [iv x.t, iv x.kind, iv x.a, iv x.b, sv x.text]) rfl ?_
 clear Z Y
 intro a w1 Z Y
 refine wla Z rfl fun a Z => ab (hK1 _ _ <| aa fun K2 hK2 => ?_)
 refine wlv Z (aA (Y.get (k := 0) rfl) rfl (Tryd.isAgg27 _) (Tryd.sizeOf27 _)) fun a Z => al Z Y (by decide) Tryd.call22 rfl (gG x _) ?_
 clear Z Y
 intro a w2 Z Y
 refine wlm Z rfl fun a Z => wlv Z (ak rfl rfl) fun a Z => wlv Z (ak rfl rfl) fun a Z => wla Z rfl fun a Z => wla Z rfl fun a Z => ab (hK2 _ _ ?_)
 replace Z : Fr 28 [(0, _), (1, _), (2, _), (4, _), (10, _), (11, _), (12, _)] [] a := Z.pick [0, 1, 2, 4, 10, 11, 12]
 replace Y : St No w0 [] w2 := Y.mask [false]
 refine aa fun K3 hK3 => wlm Z rfl fun a Z => wlv Z (v_eq rfl rfl) fun a Z => wlm Z rfl fun a Z => ?_
 rcases Bool.eq_false_or_eq_true (decide (eE x = 0)) with hb1 | hb1
 ·rw [hb1] at Z
  try simp only [qz] at hb1
  have hxo : x.ok = true := by unfold eE at hb1; cases h : x.ok <;> simp_all
  refine wly Z (ah rfl) fun a Z => wly Z (ah rfl) fun a Z => wly Z (ah rfl) fun a Z => wly Z (ah rfl) fun a Z => wly Z (ah rfl) fun a Z => aT Z Y (by decide) rfl (by decide) rfl Tryd.call66 rfl (kF root (eB x) n i pv_ ps _ (Y.arg hpv) (by omega) (by have := lj x; omega) (by unfold i64 at hn; omega) (Y.keepb hk0)) ?_
  clear Z Y
  intro a w3 Z Y
  refine wlv Z (aC rfl rfl) fun a Z => wla Z rfl fun a Z => ab (hK3 _ _ ?_)
  replace Z : Fr 28 [(10, _)] [] a := Z.pick [10]
  refine au ?_
  refine ap Z Tryd.results29 (ac rfl ag) ?_
  exact ⟨by simp only [retv]; unfold checkB; rw [hxo, show eB x = x.enc from if_pos hxo]; rfl, Y.ext⟩
 rw [hb1] at Z
 try simp only [qz] at hb1
 have hxo : x.ok = false := by unfold eE at hb1; cases h : x.ok <;> simp_all
 refine wln Z fun a Z => wln Z fun a Z => wln Z fun a Z => wln Z fun a Z => wln Z fun a Z => wln Z fun a Z => wlv Z (ax rfl rfl) fun a Z => wla Z rfl fun a Z => ?_
 refine ab (hK3 _ _ ?_)
 replace Z : Fr 28 [(10, _)] [] a := Z.pick [10]
 refine au ?_
 refine ap Z Tryd.results29 (ac rfl ag) ?_
 exact ⟨by simp only [retv]; unfold checkB; rw [hxo]; rfl, Y.ext⟩
theorem gw (old : By) (n : Int) (root : By) (m : Int) (pv_ : Value) (ps : List By) (w0 : World) (hpv : SlAt w0 pv_ 1 (ps.map fun s => [sv s])) (hpl : ps.length ≤ 1000) (hm : i64 m) (hk0 : (blk 0 (kOf.map wv) 161).ok w0) :
  Ret Tryd.prog 43 #[sv old, iv n, sv root, iv m, pv_] w0 fun v w => v = .bool (bp sha old n root m ps) ∧ Ext No w0 w := by
 refine aE Tryd.func43 rfl Tryd.ntmps43 (lb rfl) fun a Z => ?_
 replace Z : Fr 17 [(0, _), (1, _), (2, _), (3, _), (4, _)] [] a := Z
 replace Y : St No w0 [] w0 := St.init w0
 refine aa fun K1 hK1 => wla Z rfl fun a Z => ab (hK1 _ _ <| aa fun K2 hK2 => ?_)
 refine wlm Z rfl fun a Z => wlm Z rfl fun a Z => wlm Z rfl fun a Z => wlm Z rfl fun a Z => wlm Z rfl fun a Z => al Z Y (by decide) Tryd.call73 rfl (ju old root n m pv_ ps _ (Y.arg hpv) (by omega) (by unfold i64 at hm; omega) (Y.keepb hk0)) ?_
 clear Z Y
 intro a w1 Z Y
 refine wla Z rfl fun a Z => ab (hK2 _ _ ?_)
 replace Z : Fr 17 [(10, _)] [] a := Z.pick [10]
 refine au ?_
 refine ap Z Tryd.results43 (ac rfl ag) ?_
 exact ⟨by rfl, Y.ext⟩
theorem kK {o : Int} {l : List Rec} {v : Value} {i : Nat} {w0 : World} (hlo : logOk o l = true) (hv : SlAt w0 v 1 ((codesB l).map fun s => [sv s])) (hi : i < l.length) (hk0 : (blk 0 (kOf.map wv) 161).ok w0) : Ret Tryd.prog 65 #[v, iv (i : Int)] w0 (MemR w0 (fun v : Value => .tuple #[v, iv 0]) (fun v => [own v 9 1 ((proofH sha (codesR l) i).map fun s => [sv s])]) (fun _ => True)) := by
 rw [dR (di hlo)] at hv
 have h60 := ca hlo
 exact lJ v (codesR l) i w0 hv (by rw [dV]; exact hi) (by rw [dV]; omega) (fun s h => Nat.le_trans (fO (di hlo) s h) (by decide)) hk0
theorem gi (o : Int) (lv : Value) (l : List Rec) (i : Nat) (w0 : World) (hlv : SlAt w0 lv 5 (l.map Rec.cells)) (hlo : logOk o l = true) (hi : i < l.length) (hk0 : (blk 0 (kOf.map wv) 161).ok w0) :
  Ret Tryd.prog 64 #[.agg #[iv o, lv], iv (i : Int), .func (.func 65) #[] #[]] w0 (MemR w0 (fun v : Value => .tuple #[v, iv 0]) (fun v => [own v 9 1 ((proofH sha (codesR l) i).map fun s => [sv s])]) (fun _ => True)) := by
 have hll := ca hlo
 refine aE Tryd.func64 rfl Tryd.ntmps64 (lb rfl) fun a Z => ?_
 replace Z : Fr 29 [(0, _), (1, _), (2, _)] [] a := Z
 replace Y : St No w0 [] w0 := St.init w0
 refine aa fun K1 hK1 => bx Z Y (by decide) rfl (cs := [iv o, lv]) rfl ?_
 clear Z Y
 intro a w1 Z Y
 refine wla Z rfl fun a Z => wla Z rfl fun a Z => ab (hK1 _ _ <| aa fun K2 hK2 => ?_)
 refine wlv Z (aA (Y.get (k := 0) rfl) rfl (Tryd.isAgg25 _) (Tryd.sizeOf25 _)) fun a Z => ba Z Y (by decide) Tryd.call62 rfl (eP o lv l _ (Y.arg hlv) hlo) ?_
 clear Z Y
 intro a w2 x2 hp Z Y
 revert x2 hp Z Y; rintro v1 hp Z Y
 clear hp
 replace Y : St No w0 [own v1 9 1 ((codesB l).map fun s => [sv s]), blk w0.heap.size [iv o, lv] 25] w2 := Y
 refine wlm Z rfl fun a Z => wlv Z (ak rfl rfl) fun a Z => wlv Z (ak rfl rfl) fun a Z => wla Z rfl fun a Z => wla Z rfl fun a Z => ab (hK2 _ _ ?_)
 replace Z : Fr 29 [(1, _), (2, _), (6, _), (7, _), (8, _), (9, _)] [] a := Z.pick [1, 2, 6, 7, 8, 9]
 replace Y : St No w0 [_] w2 := Y.mask [true, false]
 refine ae fun K3 hK3 => aa fun K4 hK4 => wlm Z rfl fun a Z => wlv Z ((bh rfl).asb (b' := false) rfl) fun a Z => ab (hK4 _ _ <| aL Z rfl ?_)
 refine ar <| hK3 _ _ <| aa fun K5 hK5 => wlm Z rfl fun a Z => wlm Z rfl fun a Z => wlm Z rfl fun a Z => gr Z Y (by decide) rfl Tryd.call65 rfl (kK hlo (Y.ownAt (i := 0) rfl) hi (Y.keepb hk0)) ?_
 clear Z Y
 intro a w3 x4 hp Z Y
 revert x4 hp Z Y; rintro v3 - Z Y
 replace Y : St No w0 [own v3 9 1 ((proofH sha (codesR l) i).map fun s => [sv s]), own v1 9 1 ((codesB l).map fun s => [sv s])] w3 := Y
 refine wlm Z rfl fun a Z => wlv Z (ak rfl rfl) fun a Z => wlv Z (ak rfl rfl) fun a Z => wla Z rfl fun a Z => wla Z rfl fun a Z => ab (hK5 _ _ ?_)
 replace Z : Fr 29 [(6, _), (7, _), (10, _), (11, _)] [] a := Z.pick [6, 7, 10, 11]
 replace Y : St No w0 [_] w3 := Y.mask [true, false]
 refine ae fun K6 hK6 => aa fun K7 hK7 => wlm Z rfl fun a Z => wlv Z ((v_ne rfl rfl).asb (b' := false) rfl) fun a Z => ab (hK7 _ _ <| aL Z rfl ?_)
 refine ar <| hK6 _ _ <| aa fun K8 hK8 => wlm Z rfl fun a Z => wla Z rfl fun a Z => wla Z rfl fun a Z => ab (hK8 _ _ <| au ?_)
 refine ap Z Tryd.results64 (ac rfl (ac rfl ag)) ?_
 exact ⟨v3, rfl, trivial, Y.ext, St.out (E := [own v3 9 1 ((proofH sha (codesR l) i).map fun s => [sv s])]) (H := []) (Y.select [0] (by decide))⟩
theorem jw (o : Int) (lv : Value) (l : List Rec) (i : Nat) (w0 : World) (hlv : SlAt w0 lv 5 (l.map Rec.cells)) (hll : l.length ≤ 1000) (hlo : logOk o l = true) (hi : i < l.length) (hk0 : (blk 0 (kOf.map wv) 161).ok w0) :
  Ret Tryd.prog 28 #[.agg #[iv o, lv], iv (i : Int)] w0 (MemR w0 (fun v : Value => .tuple #[v, iv 0]) (fun v => [own v 9 1 ((proofH sha (codesR l) i).map fun s => [sv s])]) (fun _ => True)) := by
 refine aE Tryd.func28 rfl Tryd.ntmps28 (lb rfl) fun a Z => ?_
 replace Z : Fr 11 [(0, _), (1, _)] [] a := Z
 replace Y : St No w0 [] w0 := St.init w0
 refine aa fun K1 hK1 => bx Z Y (by decide) rfl (cs := [iv o, lv]) rfl ?_
 clear Z Y
 intro a w1 Z Y
 refine wla Z rfl fun a Z => wla Z rfl fun a Z => ab (hK1 _ _ <| aa fun K2 hK2 => ?_)
 refine wlv Z (aA (Y.get (k := 0) rfl) rfl (Tryd.isAgg25 _) (Tryd.sizeOf25 _)) fun a Z => wlm Z rfl fun a Z => ba Z Y (by decide) Tryd.call64 rfl (gi o lv l i _ (Y.arg hlv) hlo hi (Y.keepb hk0)) ?_
 clear Z Y
 intro a w2 x2 hp Z Y
 revert x2 hp Z Y; rintro v1 hp Z Y
 clear hp
 replace Y : St No w0 [own v1 9 1 ((proofH sha (codesR l) i).map fun s => [sv s]), blk w0.heap.size [iv o, lv] 25] w2 := Y
 refine wlv Z (ak rfl rfl) fun a Z => wlv Z (ak rfl rfl) fun a Z => wla Z rfl fun a Z => wla Z rfl fun a Z => ab (hK2 _ _ ?_)
 replace Z : Fr 11 [(4, _), (5, _)] [] a := Z.pick [4, 5]
 replace Y : St No w0 [_] w2 := Y.mask [true, false]
 refine au ?_
 refine ap Z Tryd.results28 (ac rfl (ac rfl ag)) ?_
 exact ⟨v1, rfl, trivial, Y.ext, St.out (E := [own v1 9 1 ((proofH sha (codesR l) i).map fun s => [sv s])]) (H := []) (Y.select [0] (by decide))⟩
theorem m9 (lv : Value) (ls : List By) (i : Nat) (w0 : World) (hlv : SlAt w0 lv 1 (ls.map fun s => [sv s])) (hi : i ≤ ls.length) (hln : ls.length ≤ 1000) (hls : ∀ s ∈ ls, s.length ≤ 40000000) (hk0 : (blk 0 (kOf.map wv) 161).ok w0) :
  Ret Tryd.prog 72 #[lv, iv (i : Int)] w0 (MemR w0 (fun v : Value => .tuple #[v, iv 0]) (fun v => [own v 9 1 ((extH sha ls i).map fun s => [sv s])]) (fun _ => True)) := by
 by_cases h : i = 0
 ·subst h
  refine (lT lv ls w0 hlv).mono ?_
  rintro v w ⟨rfl, hx⟩
  exact ⟨.slice none 0 0, rfl, trivial, hx, ec (gQ _ _ _) (fun k hk => by cases hk)⟩
 ·have := nl lv ls i w0 hlv (by omega) hi hln hls hk0
  rw [extH, if_neg h]; exact this
theorem ky {o : Int} {l : List Rec} {v : Value} {i : Nat} {w0 : World} (hlo : logOk o l = true) (hv : SlAt w0 v 1 ((codesB l).map fun s => [sv s])) (hi : i ≤ l.length) (hk0 : (blk 0 (kOf.map wv) 161).ok w0) : Ret Tryd.prog 72 #[v, iv (i : Int)] w0 (MemR w0 (fun v : Value => .tuple #[v, iv 0]) (fun v => [own v 9 1 ((extH sha (codesR l) i).map fun s => [sv s])]) (fun _ => True)) := by
 rw [dR (di hlo)] at hv
 have h60 := ca hlo
 exact m9 v (codesR l) i w0 hv (by rw [dV]; exact hi) (by rw [dV]; omega) (fun s h => Nat.le_trans (fO (di hlo) s h) (by decide)) hk0
theorem gc (o : Int) (lv : Value) (l : List Rec) (i : Nat) (w0 : World) (hlv : SlAt w0 lv 5 (l.map Rec.cells)) (hlo : logOk o l = true) (hi : i ≤ l.length) (hk0 : (blk 0 (kOf.map wv) 161).ok w0) :
  Ret Tryd.prog 64 #[.agg #[iv o, lv], iv (i : Int), .func (.func 72) #[] #[]] w0 (MemR w0 (fun v : Value => .tuple #[v, iv 0]) (fun v => [own v 9 1 ((extH sha (codesR l) i).map fun s => [sv s])]) (fun _ => True)) := by
 have hll := ca hlo
 refine aE Tryd.func64 rfl Tryd.ntmps64 (lb rfl) fun a Z => ?_
 replace Z : Fr 29 [(0, _), (1, _), (2, _)] [] a := Z
 replace Y : St No w0 [] w0 := St.init w0
 refine aa fun K1 hK1 => bx Z Y (by decide) rfl (cs := [iv o, lv]) rfl ?_
 clear Z Y
 intro a w1 Z Y
 refine wla Z rfl fun a Z => wla Z rfl fun a Z => ab (hK1 _ _ <| aa fun K2 hK2 => ?_)
 refine wlv Z (aA (Y.get (k := 0) rfl) rfl (Tryd.isAgg25 _) (Tryd.sizeOf25 _)) fun a Z => ba Z Y (by decide) Tryd.call62 rfl (eP o lv l _ (Y.arg hlv) hlo) ?_
 clear Z Y
 intro a w2 x2 hp Z Y
 revert x2 hp Z Y; rintro v1 hp Z Y
 clear hp
 replace Y : St No w0 [own v1 9 1 ((codesB l).map fun s => [sv s]), blk w0.heap.size [iv o, lv] 25] w2 := Y
 refine wlm Z rfl fun a Z => wlv Z (ak rfl rfl) fun a Z => wlv Z (ak rfl rfl) fun a Z => wla Z rfl fun a Z => wla Z rfl fun a Z => ab (hK2 _ _ ?_)
 replace Z : Fr 29 [(1, _), (2, _), (6, _), (7, _), (8, _), (9, _)] [] a := Z.pick [1, 2, 6, 7, 8, 9]
 replace Y : St No w0 [_] w2 := Y.mask [true, false]
 refine ae fun K3 hK3 => aa fun K4 hK4 => wlm Z rfl fun a Z => wlv Z ((bh rfl).asb (b' := false) rfl) fun a Z => ab (hK4 _ _ <| aL Z rfl ?_)
 refine ar <| hK3 _ _ <| aa fun K5 hK5 => wlm Z rfl fun a Z => wlm Z rfl fun a Z => wlm Z rfl fun a Z => gr Z Y (by decide) rfl Tryd.call72 rfl (ky hlo (Y.ownAt (i := 0) rfl) hi (Y.keepb hk0)) ?_
 clear Z Y
 intro a w3 x4 hp Z Y
 revert x4 hp Z Y; rintro v3 - Z Y
 replace Y : St No w0 [own v3 9 1 ((extH sha (codesR l) i).map fun s => [sv s]), own v1 9 1 ((codesB l).map fun s => [sv s])] w3 := Y
 refine wlm Z rfl fun a Z => wlv Z (ak rfl rfl) fun a Z => wlv Z (ak rfl rfl) fun a Z => wla Z rfl fun a Z => wla Z rfl fun a Z => ab (hK5 _ _ ?_)
 replace Z : Fr 29 [(6, _), (7, _), (10, _), (11, _)] [] a := Z.pick [6, 7, 10, 11]
 replace Y : St No w0 [_] w3 := Y.mask [true, false]
 refine ae fun K6 hK6 => aa fun K7 hK7 => wlm Z rfl fun a Z => wlv Z ((v_ne rfl rfl).asb (b' := false) rfl) fun a Z => ab (hK7 _ _ <| aL Z rfl ?_)
 refine ar <| hK6 _ _ <| aa fun K8 hK8 => wlm Z rfl fun a Z => wla Z rfl fun a Z => wla Z rfl fun a Z => ab (hK8 _ _ <| au ?_)
 refine ap Z Tryd.results64 (ac rfl (ac rfl ag)) ?_
 exact ⟨v3, rfl, trivial, Y.ext, St.out (E := [own v3 9 1 ((extH sha (codesR l) i).map fun s => [sv s])]) (H := []) (Y.select [0] (by decide))⟩
theorem i9 (o : Int) (lv : Value) (l : List Rec) (i : Nat) (w0 : World) (hlv : SlAt w0 lv 5 (l.map Rec.cells)) (hll : l.length ≤ 1000) (hlo : logOk o l = true) (hi : i ≤ l.length) (hk0 : (blk 0 (kOf.map wv) 161).ok w0) :
  Ret Tryd.prog 42 #[.agg #[iv o, lv], iv (i : Int)] w0 (MemR w0 (fun v : Value => .tuple #[v, iv 0]) (fun v => [own v 9 1 ((extH sha (codesR l) i).map fun s => [sv s])]) (fun _ => True)) := by
 refine aE Tryd.func42 rfl Tryd.ntmps42 (lb rfl) fun a Z => ?_
 replace Z : Fr 11 [(0, _), (1, _)] [] a := Z
 replace Y : St No w0 [] w0 := St.init w0
 refine aa fun K1 hK1 => bx Z Y (by decide) rfl (cs := [iv o, lv]) rfl ?_
 clear Z Y
 intro a w1 Z Y
 refine wla Z rfl fun a Z => wla Z rfl fun a Z => ab (hK1 _ _ <| aa fun K2 hK2 => ?_)
 refine wlv Z (aA (Y.get (k := 0) rfl) rfl (Tryd.isAgg25 _) (Tryd.sizeOf25 _)) fun a Z => wlm Z rfl fun a Z => ba Z Y (by decide) Tryd.call64 rfl (gc o lv l i _ (Y.arg hlv) hlo hi (Y.keepb hk0)) ?_
 clear Z Y
 intro a w2 x2 hp Z Y
 revert x2 hp Z Y; rintro v1 hp Z Y
 clear hp
 replace Y : St No w0 [own v1 9 1 ((extH sha (codesR l) i).map fun s => [sv s]), blk w0.heap.size [iv o, lv] 25] w2 := Y
 refine wlv Z (ak rfl rfl) fun a Z => wlv Z (ak rfl rfl) fun a Z => wla Z rfl fun a Z => wla Z rfl fun a Z => ab (hK2 _ _ ?_)
 replace Z : Fr 11 [(4, _), (5, _)] [] a := Z.pick [4, 5]
 replace Y : St No w0 [_] w2 := Y.mask [true, false]
 refine au ?_
 refine ap Z Tryd.results42 (ac rfl (ac rfl ag)) ?_
 exact ⟨v1, rfl, trivial, Y.ext, St.out (E := [own v1 9 1 ((extH sha (codesR l) i).map fun s => [sv s])]) (H := []) (Y.select [0] (by decide))⟩
end Go.Proofs.YtddfkkdanpmnaaaDoor
namespace Go.Proofs.YtddfkkdanpmnaaaDoor
open Go.RowKit Go.PW
set_option linter.unusedVariables false
set_option linter.unusedSimpArgs false
set_option maxRecDepth 4000
def exE : By := [20, 2, 14, 1, 8, 110, 101, 119, 115]
def exM : List Rec := exR ++ [⟨20, 3, 0, 0, []⟩]
def exRoot : By := rootH sha (codesR exR)
def exNext : By := rootH sha (codesR exM)
def exPf : List By := proofH sha (codesR exR) 1
def exQ : List By := extH sha (codesR exM) 3
def exTag : By := tagR sha (keyR 1) 4 3 exRoot
theorem ek {f : FuncId} {args : Array Value} {w : World} {a b : Value} (h : a = b) (hr : Ret Tryd.prog f args w fun v w' => v = a ∧ Ext No w w') : Ret Tryd.prog f args w fun v w' => v = b ∧ Ext No w w' := by subst h; exact hr
theorem bK {f : FuncId} {args : Array Value} {w : World} {b c : Bool} (h : b = c) (hr : Ret Tryd.prog f args w fun v w' => v = .bool b ∧ Ext No w w') : Ret Tryd.prog f args w fun v w' => v = .bool c ∧ Ext No w w' := by subst h; exact hr
theorem g7 {f : FuncId} {args : Array Value} {w : World} {b c : Int} (h : b = c) (hr : Ret Tryd.prog f args w fun v w' => v = iv b ∧ Ext No w w') : Ret Tryd.prog f args w fun v w' => v = iv c ∧ Ext No w w' := by subst h; exact hr
theorem ex_eB : eB (exR.getD 0 Rec.z) = exE := by decide +kernel
theorem ex_eE : eE (exR.getD 0 Rec.z) = 0 := by decide +kernel
theorem ex_dX : decX exE = exR.getD 0 Rec.z := by decide +kernel
theorem ex_dE : decE exE = 0 := by decide +kernel
theorem f5 : logOk 4 exR = true := by decide +kernel
theorem gP : logOk 4 exM = true := by decide +kernel
theorem m0 : logOk 100 [] = false := by decide +kernel
theorem ex_hB : headB 4 exR = exRoot := dB f5
theorem ex_hE : headE 4 exR = 0 := dz.2 f5
theorem ni : headB 4 exM = exNext := dB gP
theorem nF : headE 4 exM = 0 := dz.2 gP
theorem fV (n : Int) : (keyR n).length = 32 := aK _
theorem ne : signOk (keyR 1) 4 exR = true := by unfold signOk; rw [f5, fV]; rfl
theorem ex_sB : signB (keyR 1) 4 exR = exTag := if_pos ne
theorem ex_sE : signE (keyR 1) 4 exR = 0 := if_pos ne
theorem nE : addOk 4 exR ⟨19, 1, 0, 0, []⟩ = false := by decide +kernel
theorem nD : addOk 4 exR ⟨20, 3, 0, 0, []⟩ = true := by decide +kernel
theorem ex_f1 : findH 4 exR 1 9 = -1 := by decide +kernel
theorem ex_f2 : findH 4 exR 1 19 = 0 := by decide +kernel
theorem ex_f3 : findH 4 exR 1 20 = 2 := by decide +kernel
theorem fa : exRoot = [21, 112, 33, 172, 240, 109, 75, 130, 191, 249, 217, 221, 50, 198, 0, 231, 116, 242, 6, 54, 79, 38, 84, 56, 148, 132, 237, 35, 98, 124, 34, 181] := by decide +kernel
theorem jQ : exNext = [195, 244, 205, 59, 182, 231, 47, 220, 108, 75, 52, 189, 34, 70, 131, 114, 76, 87, 137, 243, 75, 37, 231, 109, 74, 49, 79, 149, 141, 24, 151, 82] := by decide +kernel
theorem jt : keyR 1 = [219, 193, 180, 201, 0, 255, 228, 141, 87, 91, 93, 165, 198, 56, 4, 1, 37, 246, 93, 176, 254, 62, 36, 73, 75, 118, 234, 152, 100, 87, 217, 134] := by decide +kernel
theorem kY : exTag = [75, 183, 243, 190, 88, 89, 30, 0, 212, 159, 241, 14, 211, 216, 181, 111, 180, 45, 128, 188, 226, 87, 91, 67, 48, 251, 122, 74, 0, 4, 207, 40] := by unfold exTag; rw [jt, fa]; decide +kernel
theorem ex_c1 : checkB exRoot 3 1 (exR.getD 1 Rec.z) exPf = true := by
 have h := gT (S := sha) aK (l := codesR exR) (i := 1) (by decide)
 unfold checkB
 rw [show (exR.getD 1 Rec.z).ok = true from by decide, show (exR.getD 1 Rec.z).enc = (codesR exR).getD 1 [] from (l3 (by decide)).symm, Bool.true_and]
 exact h
theorem ex_c2 : checkB exRoot 3 0 (exR.getD 1 Rec.z) exPf = false := by rw [fa]; decide +kernel
theorem ex_g1 : bp sha exRoot 3 exNext 4 exQ = true := jd (S := sha) aK (l := codesR exM) (m := 3) (by decide)
theorem ex_g2 : bp sha exNext 3 exRoot 4 exQ = false := by rw [fa, jQ]; decide +kernel
theorem ex_n1 : genR sha (keyR 1) 4 3 exRoot exTag = true := by
 unfold genR exTag
 rw [show exRoot.length = 32 from bT aK _, fV, decide_eq_true rfl, decide_eq_true rfl]; rfl
theorem ex_n2 : genR sha (keyR 1) 5 3 exRoot exTag = false := by rw [kY, jt, fa]; decide +kernel
theorem ex_n3 : genR sha (keyR 1) 4 3 exNext exTag = false := by rw [kY, jt, jQ]; decide +kernel
theorem nd : exPf.length ≤ 8 := by decide +kernel
theorem nh : exQ.length ≤ 8 := by decide +kernel
set_option maxHeartbeats 4000000 in
theorem mK (w0 : World) (hk0 : (blk 0 (kOf.map wv) 161).ok w0) :
  Ret Tryd.prog 9 #[] w0 fun v w => v = .bool true ∧ Ext No w0 w := by
 refine aE Tryd.func9 rfl Tryd.ntmps9 (lb rfl) fun a Z => ?_
 replace Z : Fr 206 [] [] a := Z
 replace Y : St No w0 [] w0 := St.init w0
 refine aa fun K1 hK1 => wla Z rfl fun a Z => ab (hK1 _ _ <| aa fun K2 hK2 => ?_)
 refine ba Z Y (by decide) Tryd.call41 rfl (jc _) ?_
 clear Z Y
 intro a w1 x2 hp Z Y
 revert x2 hp Z Y; rintro lv1 hp Z Y
 clear hp
 replace Y : St No w0 [own lv1 27 5 ((exR).map Rec.cells)] w1 := Y
 refine aO Z Y (by decide) (Tryd.zeroValue25 _) (cs := [iv 0, .slice none 0 0]) rfl ?_
 clear Z Y
 intro a w2 Z Y
 refine bB (us := [iv 4, lv1]) 0 Z Y rfl rfl rfl (Tryd.sizeOf25 _) (by intro z hz; simp only [List.mem_cons, List.not_mem_nil, or_false] at hz; rcases hz with rfl | rfl <;> first | rfl | exact SlAt.one (Y.ownAt (i := 1) rfl)) (lb rfl) (ds := [iv 4, lv1]) rfl rfl ?_
 clear Z Y
 intro a w3 Z Y
 refine ab (hK2 _ _ <| aa fun K3 hK3 => ?_)
 refine wlv Z (aq (v := .pointer (some ⟨w1.heap.size, 1, none⟩)) rfl (by kernel_rfl)) fun a Z => wlv Z (ai (Y.get (k := 0) rfl) rfl (Tryd.isAgg23 _) rfl) fun a Z => wlv Z ((aj (i := 0) (sT := 23) (Y.ownAt (i := 1) rfl) rfl rfl (Tryd.runUnderlying23 _) (Tryd.sizeOf27 _) (by omega) (by decide)).as (v' := slAddr lv1 (0 * 5)) rfl) fun a Z => wlv Z ((cy (Y.ownAt (i := 1) rfl) (i := 0) (by decide) rfl (Tryd.isAgg27 _) (Tryd.sizeOf27 _)).as (v' := .agg #[iv ((exR.getD 0 Rec.z).t), iv ((exR.getD 0 Rec.z).kind), iv ((exR.getD 0 Rec.z).a), iv ((exR.getD 0 Rec.z).b), sv ((exR.getD 0 Rec.z).text)]) (by rw [bq Rec.z]; rfl)) fun a Z => al Z Y (by decide) Tryd.call22 rfl (ek (by rw [ex_eB, ex_eE]) (gG (exR.getD 0 Rec.z) _)) ?_
 clear Z Y
 intro a w4 Z Y
 refine wlm Z rfl fun a Z => wlv Z (ak rfl rfl) fun a Z => wlv Z (ak rfl rfl) fun a Z => wla Z rfl fun a Z => wla Z rfl fun a Z => ab (hK3 _ _ ?_)
 replace Z : Fr 206 [(0, _), (1, _), (2, _), (3, _)] [] a := Z.pick [0, 1, 2, 3]
 refine aa fun K4 hK4 => wlm Z rfl fun a Z => al Z Y (by decide) Tryd.call24 rfl (ek (by rw [ex_dX, ex_dE]) (nv exE _ (by decide))) ?_
 clear Z Y
 intro a w5 Z Y
 refine wlm Z rfl fun a Z => wlv Z (ak rfl rfl) fun a Z => wlv Z (ak rfl rfl) fun a Z => aO Z Y (by decide) (Tryd.zeroValue27 _) (cs := [iv 0, iv 0, iv 0, iv 0, .string (⟨#[]⟩)]) rfl ?_
 clear Z Y
 intro a w6 Z Y
 refine aG 0 Z Y rfl rfl rfl (Tryd.sizeOf27 _) rfl (lb rfl) (ds := [iv ((exR.getD 0 Rec.z).t), iv ((exR.getD 0 Rec.z).kind), iv ((exR.getD 0 Rec.z).a), iv ((exR.getD 0 Rec.z).b), sv ((exR.getD 0 Rec.z).text)]) rfl rfl ?_
 clear Z Y
 intro a w7 Z Y
 refine wla Z rfl fun a Z => ab (hK4 _ _ <| aa fun K5 hK5 => ?_)
 refine wlv Z (aA (Y.get (k := 1) rfl) rfl (Tryd.isAgg25 _) (Tryd.sizeOf25 _)) fun a Z => al Z Y (by decide) Tryd.call27 rfl (ek (by rw [ex_hB, ex_hE]) (fh 4 lv1 exR _ (Y.ownAt (i := 2) rfl) (Y.keepb hk0))) ?_
 clear Z Y
 intro a w8 Z Y
 refine wlm Z rfl fun a Z => wlv Z (ak rfl rfl) fun a Z => wlv Z (ak rfl rfl) fun a Z => wla Z rfl fun a Z => wla Z rfl fun a Z => ab (hK5 _ _ ?_)
 replace Z : Fr 206 [(0, _), (1, _), (2, _), (3, _), (4, _), (5, _), (6, _), (7, _)] [] a := Z.pick [0, 1, 2, 3, 4, 5, 6, 7]
 refine aa fun K6 hK6 => wlv Z (aA (Y.get (k := 1) rfl) rfl (Tryd.isAgg25 _) (Tryd.sizeOf25 _)) fun a Z => ba Z Y (by decide) Tryd.call28 rfl (jw 4 lv1 exR 1 _ (Y.ownAt (i := 2) rfl) (by decide) f5 (by decide) (Y.keepb hk0)) ?_
 clear Z Y
 intro a w9 x4 hp Z Y
 revert x4 hp Z Y; rintro v3 hp Z Y
 clear hp
 replace Y : St No w0 [own v3 9 1 (exPf.map fun s => [sv s]), blk w5.heap.size [iv ((exR.getD 0 Rec.z).t), iv ((exR.getD 0 Rec.z).kind), iv ((exR.getD 0 Rec.z).a), iv ((exR.getD 0 Rec.z).b), sv ((exR.getD 0 Rec.z).text)] 27, blk w1.heap.size [iv 4, lv1] 25, own lv1 27 5 ((exR).map Rec.cells)] w9 := Y
 refine wlm Z rfl fun a Z => wlv Z (ak rfl rfl) fun a Z => wlv Z (ak rfl rfl) fun a Z => wla Z rfl fun a Z => wla Z rfl fun a Z => ab (hK6 _ _ <| aa fun K7 hK7 => ?_)
 refine wlv Z (aA (Y.get (k := 2) rfl) rfl (Tryd.isAgg25 _) (Tryd.sizeOf25 _)) fun a Z => wlv Z (bA (v := .agg #[iv 19, iv 1, iv 0, iv 0, sv ([] : By)]) rfl (by kernel_rfl)) fun a Z => ba Z Y (by decide) Tryd.call13 rfl (na 4 lv1 exR ⟨19, 1, 0, 0, []⟩ _ (Y.ownAt (i := 3) rfl) (by decide) nE) ?_
 clear Z Y
 intro a w10 x6 hp Z Y
 revert x6 hp Z Y; rintro lv5 hp Z Y
 clear hp
 replace Y : St No w0 [own lv5 27 5 ((([] : List Rec)).map Rec.cells), own v3 9 1 (exPf.map fun s => [sv s]), blk w5.heap.size [iv ((exR.getD 0 Rec.z).t), iv ((exR.getD 0 Rec.z).kind), iv ((exR.getD 0 Rec.z).a), iv ((exR.getD 0 Rec.z).b), sv ((exR.getD 0 Rec.z).text)] 27, blk w1.heap.size [iv 4, lv1] 25, own lv1 27 5 ((exR).map Rec.cells)] w10 := Y
 refine wlm Z rfl fun a Z => wlv Z (ak rfl rfl) fun a Z => wlv Z (ak rfl rfl) fun a Z => aO Z Y (by decide) (Tryd.zeroValue25 _) (cs := [iv 0, .slice none 0 0]) rfl ?_
 clear Z Y
 intro a w11 Z Y
 refine bB (us := [iv 0, lv5]) 0 Z Y rfl rfl rfl (Tryd.sizeOf25 _) (by intro z hz; simp only [List.mem_cons, List.not_mem_nil, or_false] at hz; rcases hz with rfl | rfl <;> first | rfl | exact SlAt.one (Y.ownAt (i := 1) rfl)) (lb rfl) (ds := [iv 0, lv5]) rfl rfl ?_
 clear Z Y
 intro a w12 Z Y
 refine wla Z rfl fun a Z => ab (hK7 _ _ ?_)
 replace Z : Fr 206 [(0, _), (1, _), (2, _), (3, _), (4, _), (5, _), (6, _), (7, _), (8, _), (9, _), (11, _)] [] a := Z.pick [0, 1, 2, 3, 4, 5, 6, 7, 8, 9, 11]
 replace Y : St No w0 [_, _, _, _, _] w12 := Y.mask [false, true, true, true, true, true]
 refine aa fun K8 hK8 => wlv Z (aA (Y.get (k := 3) rfl) rfl (Tryd.isAgg25 _) (Tryd.sizeOf25 _)) fun a Z => wlv Z (bA (v := .agg #[iv 20, iv 3, iv 0, iv 0, sv ([] : By)]) rfl (by kernel_rfl)) fun a Z => ba Z Y (by decide) Tryd.call13 rfl (md 4 lv1 exR ⟨20, 3, 0, 0, []⟩ _ (Y.ownAt (i := 4) rfl) (by decide) nD) ?_
 clear Z Y
 intro a w13 x8 hp Z Y
 revert x8 hp Z Y; rintro lv7 hp Z Y
 clear hp
 replace Y : St No w0 [own lv7 27 5 ((exM).map Rec.cells), own lv5 27 5 ((([] : List Rec)).map Rec.cells), own v3 9 1 (exPf.map fun s => [sv s]), blk w5.heap.size [iv ((exR.getD 0 Rec.z).t), iv ((exR.getD 0 Rec.z).kind), iv ((exR.getD 0 Rec.z).a), iv ((exR.getD 0 Rec.z).b), sv ((exR.getD 0 Rec.z).text)] 27, blk w1.heap.size [iv 4, lv1] 25, own lv1 27 5 ((exR).map Rec.cells)] w13 := Y
 refine wlm Z rfl fun a Z => wlv Z (ak rfl rfl) fun a Z => wlv Z (ak rfl rfl) fun a Z => aO Z Y (by decide) (Tryd.zeroValue25 _) (cs := [iv 0, .slice none 0 0]) rfl ?_
 clear Z Y
 intro a w14 Z Y
 refine bB (us := [iv 4, lv7]) 0 Z Y rfl rfl rfl (Tryd.sizeOf25 _) (by intro z hz; simp only [List.mem_cons, List.not_mem_nil, or_false] at hz; rcases hz with rfl | rfl <;> first | rfl | exact SlAt.one (Y.ownAt (i := 1) rfl)) (lb rfl) (ds := [iv 4, lv7]) rfl rfl ?_
 clear Z Y
 intro a w15 Z Y
 refine wla Z rfl fun a Z => ab (hK8 _ _ ?_)
 replace Z : Fr 206 [(0, _), (1, _), (2, _), (3, _), (4, _), (5, _), (6, _), (7, _), (8, _), (9, _), (11, _), (12, _), (13, _)] [] a := Z.pick [0, 1, 2, 3, 4, 5, 6, 7, 8, 9, 11, 12, 13]
 replace Y : St No w0 [_, _, _, _, _, _] w15 := Y.mask [true, true, false, true, true, true, true]
 refine aa fun K9 hK9 => wlv Z (aA (Y.get (k := 0) rfl) rfl (Tryd.isAgg25 _) (Tryd.sizeOf25 _)) fun a Z => ba Z Y (by decide) Tryd.call42 rfl (i9 4 lv7 exM 3 _ (Y.ownAt (i := 1) rfl) (by decide) gP (by decide) (Y.keepb hk0)) ?_
 clear Z Y
 intro a w16 x10 hp Z Y
 revert x10 hp Z Y; rintro v9 hp Z Y
 clear hp
 replace Y : St No w0 [own v9 9 1 (exQ.map fun s => [sv s]), blk w13.heap.size [iv 4, lv7] 25, own lv7 27 5 ((exM).map Rec.cells), own v3 9 1 (exPf.map fun s => [sv s]), blk w5.heap.size [iv ((exR.getD 0 Rec.z).t), iv ((exR.getD 0 Rec.z).kind), iv ((exR.getD 0 Rec.z).a), iv ((exR.getD 0 Rec.z).b), sv ((exR.getD 0 Rec.z).text)] 27, blk w1.heap.size [iv 4, lv1] 25, own lv1 27 5 ((exR).map Rec.cells)] w16 := Y
 refine wlm Z rfl fun a Z => wlv Z (ak rfl rfl) fun a Z => wlv Z (ak rfl rfl) fun a Z => wla Z rfl fun a Z => wla Z rfl fun a Z => ab (hK9 _ _ <| aa fun K10 hK10 => ?_)
 refine wlv Z (aA (Y.get (k := 1) rfl) rfl (Tryd.isAgg25 _) (Tryd.sizeOf25 _)) fun a Z => al Z Y (by decide) Tryd.call27 rfl (ek (by rw [ni, nF]) (fh 4 lv7 exM _ (Y.ownAt (i := 2) rfl) (Y.keepb hk0))) ?_
 clear Z Y
 intro a w17 Z Y
 refine wlm Z rfl fun a Z => wlv Z (ak rfl rfl) fun a Z => wlv Z (ak rfl rfl) fun a Z => wla Z rfl fun a Z => wla Z rfl fun a Z => ab (hK10 _ _ ?_)
 replace Z : Fr 206 [(0, _), (1, _), (2, _), (3, _), (4, _), (5, _), (6, _), (7, _), (8, _), (9, _), (11, _), (12, _), (13, _), (14, _), (15, _), (16, _), (17, _)] [] a := Z.pick [0, 1, 2, 3, 4, 5, 6, 7, 8, 9, 11, 12, 13, 14, 15, 16, 17]
 refine aa fun K11 hK11 => al Z Y (by decide) Tryd.call35 rfl (hO 1 _ (by unfold i64; omega)) ?_
 clear Z Y
 intro a w18 Z Y
 refine wla Z rfl fun a Z => ab (hK11 _ _ <| aa fun K12 hK12 => ?_)
 refine wlm Z rfl fun a Z => wlv Z (aA (Y.get (k := 5) rfl) rfl (Tryd.isAgg25 _) (Tryd.sizeOf25 _)) fun a Z => al Z Y (by decide) Tryd.call36 rfl (ek (by rw [ex_sB, ex_sE]) (jU (keyR 1) 4 lv1 exR _ (Y.ownAt (i := 6) rfl) (Y.keepb hk0))) ?_
 clear Z Y
 intro a w19 Z Y
 refine wlm Z rfl fun a Z => wlv Z (ak rfl rfl) fun a Z => wlv Z (ak rfl rfl) fun a Z => wla Z rfl fun a Z => wla Z rfl fun a Z => ab (hK12 _ _ ?_)
 replace Z : Fr 206 [(0, _), (1, _), (2, _), (3, _), (4, _), (5, _), (6, _), (7, _), (8, _), (9, _), (11, _), (12, _), (13, _), (14, _), (15, _), (16, _), (17, _), (18, _), (19, _), (20, _)] [] a := Z.pick [0, 1, 2, 3, 4, 5, 6, 7, 8, 9, 11, 12, 13, 14, 15, 16, 17, 18, 19, 20]
 refine ae fun K13 hK13 => aa fun K14 hK14 => wlm Z rfl fun a Z => wlv Z ((v_ne rfl rfl).asb (b' := false) rfl) fun a Z => wlm Z rfl fun a Z => wly Z (ah rfl) fun a Z => wly Z ((v_ne rfl rfl).asb (b' := false) rfl) fun a Z => wlv Z (ax rfl rfl) fun a Z => wlm Z rfl fun a Z => wly Z (ah rfl) fun a Z => wly Z ((v_ne rfl rfl).asb (b' := false) rfl) fun a Z => wlv Z (ax rfl rfl) fun a Z => wlm Z rfl fun a Z => wly Z (ah rfl) fun a Z => wly Z ((v_ne rfl rfl).asb (b' := false) rfl) fun a Z => wlv Z (ax rfl rfl) fun a Z => wlm Z rfl fun a Z => wly Z (ah rfl) fun a Z => wly Z ((v_ne rfl rfl).asb (b' := false) rfl) fun a Z => ?_
 refine wlv Z (ax rfl rfl) fun a Z => wlm Z rfl fun a Z => wly Z (ah rfl) fun a Z => wly Z ((v_ne rfl rfl).asb (b' := false) rfl) fun a Z => wlv Z (ax rfl rfl) fun a Z => wlm Z rfl fun a Z => wly Z (ah rfl) fun a Z => wly Z ((v_ne rfl rfl).asb (b' := false) rfl) fun a Z => wlv Z (ax rfl rfl) fun a Z => wlm Z rfl fun a Z => wly Z (ah rfl) fun a Z => wly Z ((v_ne rfl rfl).asb (b' := false) rfl) fun a Z => wlv Z (ax rfl rfl) fun a Z => wlm Z rfl fun a Z => wly Z (ah rfl) fun a Z => wly Z ((v_ne rfl rfl).asb (b' := false) rfl) fun a Z => wlv Z (ax rfl rfl) fun a Z => ab (hK14 _ _ ?_)
 replace Z : Fr 206 [(0, _), (1, _), (2, _), (4, _), (6, _), (8, _), (12, _), (14, _), (16, _), (18, _), (19, _), (110, _)] [] a := Z.pick [0, 1, 2, 4, 6, 8, 12, 14, 16, 18, 19, 110]
 refine aL Z rfl ?_
 refine ar <| hK13 _ _ <| aa fun K15 hK15 => wlm Z rfl fun a Z => wlv Z (aq (v := .pointer (some ⟨w1.heap.size, 1, none⟩)) rfl (by kernel_rfl)) fun a Z => wlv Z (ai (Y.get (k := 5) rfl) rfl (Tryd.isAgg23 _) rfl) fun a Z => wlv Z ((aj (i := 1) (sT := 23) (Y.ownAt (i := 6) rfl) rfl rfl (Tryd.runUnderlying23 _) (Tryd.sizeOf27 _) (by omega) (by decide)).as (v' := slAddr lv1 (1 * 5)) rfl) fun a Z => ?_
 refine wlv Z ((cy (Y.ownAt (i := 6) rfl) (i := 1) (by decide) rfl (Tryd.isAgg27 _) (Tryd.sizeOf27 _)).as (v' := .agg #[iv ((exR.getD 1 Rec.z).t), iv ((exR.getD 1 Rec.z).kind), iv ((exR.getD 1 Rec.z).a), iv ((exR.getD 1 Rec.z).b), sv ((exR.getD 1 Rec.z).text)]) (by rw [bq Rec.z]; rfl)) fun a Z => wlm Z rfl fun a Z => al Z Y (by decide) Tryd.call29 rfl (bK ex_c1 (iX exRoot 3 1 (exR.getD 1 Rec.z) v3 exPf _ (Y.ownAt (i := 3) rfl) (by have := nd; omega) (by unfold i64; omega) (Y.keepb hk0))) ?_
 clear Z Y
 intro a w20 Z Y
 refine wlm Z rfl fun a Z => wly Z (ah rfl) fun a Z => wly Z (aq (v := .pointer (some ⟨w1.heap.size, 1, none⟩)) rfl (by kernel_rfl)) fun a Z => wly Z (ai (Y.get (k := 5) rfl) rfl (Tryd.isAgg23 _) rfl) fun a Z => wly Z ((aj (i := 1) (sT := 23) (Y.ownAt (i := 6) rfl) rfl rfl (Tryd.runUnderlying23 _) (Tryd.sizeOf27 _) (by omega) (by decide)).as (v' := slAddr lv1 (1 * 5)) rfl) fun a Z => wly Z ((cy (Y.ownAt (i := 6) rfl) (i := 1) (by decide) rfl (Tryd.isAgg27 _) (Tryd.sizeOf27 _)).as (v' := .agg #[iv ((exR.getD 1 Rec.z).t), iv ((exR.getD 1 Rec.z).kind), iv ((exR.getD 1 Rec.z).a), iv ((exR.getD 1 Rec.z).b), sv ((exR.getD 1 Rec.z).text)]) (by rw [bq Rec.z]; rfl)) fun a Z => wly Z (ah rfl) fun a Z => aT Z Y (by decide) rfl (by decide) rfl Tryd.call29 rfl (bK ex_c2 (iX exRoot 3 0 (exR.getD 1 Rec.z) v3 exPf _ (Y.ownAt (i := 3) rfl) (by have := nd; omega) (by unfold i64; omega) (Y.keepb hk0))) ?_
 clear Z Y
 intro a w21 Z Y
 refine wly Z ((bh rfl).asb (b' := true) rfl) fun a Z => wlv Z (aC rfl rfl) fun a Z => wlm Z rfl fun a Z => wly Z (ah rfl) fun a Z => wly Z (ah rfl) fun a Z => wly Z (ah rfl) fun a Z => aT Z Y (by decide) rfl (by decide) rfl Tryd.call43 rfl (bK ex_g1 (gw exRoot 3 exNext 4 v9 exQ _ (Y.ownAt (i := 0) rfl) (by have := nh; omega) (by unfold i64; omega) (Y.keepb hk0))) ?_
 clear Z Y
 intro a w22 Z Y
 refine wlv Z (aC rfl rfl) fun a Z => wlm Z rfl fun a Z => wly Z (ah rfl) fun a Z => wly Z (ah rfl) fun a Z => wly Z (ah rfl) fun a Z => aT Z Y (by decide) rfl (by decide) rfl Tryd.call43 rfl (bK ex_g2 (gw exNext 3 exRoot 4 v9 exQ _ (Y.ownAt (i := 0) rfl) (by have := nh; omega) (by unfold i64; omega) (Y.keepb hk0))) ?_
 clear Z Y
 intro a w23 Z Y
 refine wly Z ((bh rfl).asb (b' := true) rfl) fun a Z => wlv Z (aC rfl rfl) fun a Z => wla Z rfl fun a Z => ab (hK15 _ _ ?_)
 replace Z : Fr 206 [(0, _), (1, _), (2, _), (4, _), (6, _), (12, _), (16, _), (18, _), (19, _), (21, _)] [] a := Z.pick [0, 1, 2, 4, 6, 12, 16, 18, 19, 21]
 replace Y : St No w0 [_, _, _, _, _] w23 := Y.mask [false, true, true, false, true, true, true]
 refine aa fun K16 hK16 => wlm Z rfl fun a Z => wlm Z rfl fun a Z => wlm Z rfl fun a Z => al Z Y (by decide) Tryd.call37 rfl (bK ex_n1 (bZ (keyR 1) 4 3 exRoot exTag _ (Y.keepb hk0))) ?_
 clear Z Y
 intro a w24 Z Y
 refine wlm Z rfl fun a Z => wly Z (ah rfl) fun a Z => wly Z (ah rfl) fun a Z => wly Z (ah rfl) fun a Z => aT Z Y (by decide) rfl (by decide) rfl Tryd.call37 rfl (bK ex_n2 (bZ (keyR 1) 5 3 exRoot exTag _ (Y.keepb hk0))) ?_
 clear Z Y
 intro a w25 Z Y
 refine wly Z ((bh rfl).asb (b' := true) rfl) fun a Z => wlv Z (aC rfl rfl) fun a Z => wlm Z rfl fun a Z => wly Z (ah rfl) fun a Z => wly Z (ah rfl) fun a Z => wly Z (ah rfl) fun a Z => aT Z Y (by decide) rfl (by decide) rfl Tryd.call37 rfl (bK ex_n3 (bZ (keyR 1) 4 3 exNext exTag _ (Y.keepb hk0))) ?_
 clear Z Y
 intro a w26 Z Y
 refine wly Z ((bh rfl).asb (b' := true) rfl) fun a Z => wlv Z (aC rfl rfl) fun a Z => wla Z rfl fun a Z => ab (hK16 _ _ ?_)
 replace Z : Fr 206 [(0, _), (1, _), (2, _), (4, _), (12, _), (21, _), (22, _)] [] a := Z.pick [0, 1, 2, 4, 12, 21, 22]
 refine aa fun K17 hK17 => wlv Z (aA (Y.get (k := 3) rfl) rfl (Tryd.isAgg25 _) (Tryd.sizeOf25 _)) fun a Z => al Z Y (by decide) Tryd.call20 rfl (g7 ex_f1 (gU 4 lv1 exR 1 9 _ (Y.ownAt (i := 4) rfl))) ?_
 clear Z Y
 intro a w27 Z Y
 refine wlv Z ((v_eq rfl rfl).asb (b' := true) rfl) fun a Z => wlm Z rfl fun a Z => wly Z (aA (Y.get (k := 3) rfl) rfl (Tryd.isAgg25 _) (Tryd.sizeOf25 _)) fun a Z => aT Z Y (by decide) rfl (by decide) rfl Tryd.call20 rfl (g7 ex_f2 (gU 4 lv1 exR 1 19 _ (Y.ownAt (i := 4) rfl))) ?_
 clear Z Y
 intro a w28 Z Y
 refine wly Z ((v_eq rfl rfl).asb (b' := true) rfl) fun a Z => wlv Z (aC rfl rfl) fun a Z => wlm Z rfl fun a Z => wly Z (aA (Y.get (k := 3) rfl) rfl (Tryd.isAgg25 _) (Tryd.sizeOf25 _)) fun a Z => aT Z Y (by decide) rfl (by decide) rfl Tryd.call20 rfl (g7 ex_f3 (gU 4 lv1 exR 1 20 _ (Y.ownAt (i := 4) rfl))) ?_
 clear Z Y
 intro a w29 Z Y
 refine wly Z ((v_eq rfl rfl).asb (b' := true) rfl) fun a Z => wlv Z (aC rfl rfl) fun a Z => wla Z rfl fun a Z => ab (hK17 _ _ ?_)
 replace Z : Fr 206 [(0, _), (1, _), (2, _), (4, _), (12, _), (21, _), (22, _), (23, _)] [] a := Z.pick [0, 1, 2, 4, 12, 21, 22, 23]
 refine ae fun K18 hK18 => aM (by kernel_rfl) (aR (by kernel_rfl) fun w30 hxz => ?_)
 replace Y := Y.grow hxz
 refine aY (k := 0) 3 [2] (by kernel_rfl) (by kernel_rfl) (by kernel_rfl) ?_
 refine wlm Z rfl fun a Z => wlv Z ((dx rfl rfl).asb (b' := true) (by exact decide_eq_true rfl)) fun a Z => wlm Z rfl fun a Z => ab <| bj (k := 3) 8 [3, 7] Z (by kernel_rfl) (by kernel_rfl) (by kernel_rfl) (by rfl) ?_
 replace Z : Fr 206 [(0, _), (1, _), (2, _), (4, _), (12, _), (21, _), (22, _), (23, _), (172, _), (173, _), (174, _)] [] a := Z.pick [0, 1, 2, 4, 12, 21, 22, 23, 172, 173, 174]
 refine aF [] (fun i => match i with | _ => fun _ _ => False) 5 [[], [], [1], [2], [3]] [.agg #[iv ((exR.getD 0 Rec.z).t), iv ((exR.getD 0 Rec.z).kind), iv ((exR.getD 0 Rec.z).a), iv ((exR.getD 0 Rec.z).b), sv ((exR.getD 0 Rec.z).text)], .pointer (some ⟨w1.heap.size, 1, none⟩), lv1, slAddr lv1 (0 * 5), .agg #[iv ((exR.getD 0 Rec.z).t), iv ((exR.getD 0 Rec.z).kind), iv ((exR.getD 0 Rec.z).a), iv ((exR.getD 0 Rec.z).b), sv ((exR.getD 0 Rec.z).text)]] Z Y (by kernel_rfl) (by kernel_rfl) (by kernel_rfl) ?_ ?_ ?_
 ·intro i hi hiq
  match i, hi, hiq with
  | 0, _, _ =>
   intro w Y
   exact OpV.g (aA (Y.get (k := 2) rfl) rfl (Tryd.isAgg27 _) (Tryd.sizeOf27 _))
  | 1, _, _ =>
   intro w Y
   exact OpV.g (aq (v := .pointer (some ⟨w1.heap.size, 1, none⟩)) rfl (by kernel_rfl))
  | 2, _, _ =>
   intro w Y
   exact OpV.g (ai (Y.get (k := 3) rfl) rfl (Tryd.isAgg23 _) rfl)
  | 3, _, _ =>
   intro w Y
   exact OpV.g ((aj (i := 0) (sT := 23) (Y.ownAt (i := 4) rfl) rfl rfl (Tryd.runUnderlying23 _) (Tryd.sizeOf27 _) (by omega) (by decide)).as (v' := slAddr lv1 (0 * 5)) rfl)
  | 4, _, _ =>
   intro w Y
   exact OpV.g ((cy (Y.ownAt (i := 4) rfl) (i := 0) (by decide) rfl (Tryd.isAgg27 _) (Tryd.sizeOf27 _)).as (v' := .agg #[iv ((exR.getD 0 Rec.z).t), iv ((exR.getD 0 Rec.z).kind), iv ((exR.getD 0 Rec.z).a), iv ((exR.getD 0 Rec.z).b), sv ((exR.getD 0 Rec.z).text)]) (by rw [bq Rec.z]; rfl))
 ·intro i hi
  exact absurd hi (by simp)
 clear Z Y
 intro  a w31 Z Y
 replace Z : Fr 206 [(175, .agg #[iv ((exR.getD 0 Rec.z).t), iv ((exR.getD 0 Rec.z).kind), iv ((exR.getD 0 Rec.z).a), iv ((exR.getD 0 Rec.z).b), sv ((exR.getD 0 Rec.z).text)]), (176, .pointer (some ⟨w1.heap.size, 1, none⟩)), (177, lv1), (178, slAddr lv1 (0 * 5)), (179, .agg #[iv ((exR.getD 0 Rec.z).t), iv ((exR.getD 0 Rec.z).kind), iv ((exR.getD 0 Rec.z).a), iv ((exR.getD 0 Rec.z).b), sv ((exR.getD 0 Rec.z).text)]), (0, _), (1, _), (2, _), (4, _), (12, _), (21, _), (22, _), (23, _), (172, _), (173, _), (174, _)] [] a := Z
 refine ab <| aY (k := 8) 35 [34] (by kernel_rfl) (by kernel_rfl) (by kernel_rfl) ?_
 refine wly Z ((lE rfl rfl (by kernel_rfl) (eqRec ((exR.getD 0 Rec.z).t) ((exR.getD 0 Rec.z).kind) ((exR.getD 0 Rec.z).a) ((exR.getD 0 Rec.z).b) ((exR.getD 0 Rec.z).text) ((exR.getD 0 Rec.z).t) ((exR.getD 0 Rec.z).kind) ((exR.getD 0 Rec.z).a) ((exR.getD 0 Rec.z).b) ((exR.getD 0 Rec.z).text) _)).asb (b' := true) (by exact decide_eq_true rfl)) fun a Z => wlv Z (aC rfl rfl) fun a Z => wlm Z rfl fun a Z => wly Z (ah rfl) fun a Z => wlv Z (aC rfl rfl) fun a Z => wlm Z rfl fun a Z => wly Z (ah rfl) fun a Z => wlv Z (aC rfl rfl) fun a Z => wlm Z rfl fun a Z => wly Z (ah rfl) fun a Z => wlv Z (aC rfl rfl) fun a Z => wlm Z rfl fun a Z => wly Z (aq (v := .pointer (some ⟨w13.heap.size, 1, none⟩)) rfl (by kernel_rfl)) fun a Z => wly Z (ai (Y.get (k := 0) rfl) rfl (Tryd.isAgg23 _) rfl) fun a Z => wly Z ((aH (sT := 23) (Y.ownAt (i := 1) rfl) rfl rfl (Tryd.runUnderlying23 _)).asi (m' := (exM.length : Int)) (by rw [List.length_map])) fun a Z => wly Z ((v_eq rfl rfl).asb (b' := true) (by decide)) fun a Z => wlv Z (aC rfl rfl) fun a Z => wlm Z rfl fun a Z => wly Z (aA (Y.get (k := 3) rfl) rfl (Tryd.isAgg25 _) (Tryd.sizeOf25 _)) fun a Z => aT Z Y (by decide) rfl (by decide) rfl Tryd.call16 rfl (bK f5 (dr 4 lv1 exR _ (Y.ownAt (i := 4) rfl))) ?_
 clear Z Y
 intro a w32 Z Y
 refine wlv Z (aC rfl rfl) fun a Z => wlm Z rfl fun a Z => wly Z (bA (v := .agg #[iv 100, .slice none 0 0]) rfl (by kernel_rfl)) fun a Z => aT Z Y (by decide) rfl (by decide) rfl Tryd.call16 rfl (bK m0 (dr 100 (.slice none 0 0) ([] : List Rec) _ (iC _ _))) ?_
 clear Z Y
 intro a w33 Z Y
 refine wly Z ((bh rfl).asb (b' := true) rfl) fun a Z => wlv Z (aC rfl rfl) fun a Z => wla Z rfl fun a Z => ab <| bf (by kernel_rfl) ?_
 refine hK18 _ _ ?_
 replace Z : Fr 206 [(0, _)] [] a := Z.pick [0]
 replace Y : St No w0 [_, _] w33 := Y.mask [false, true, false, false, true]
 refine au ?_
 refine ap Z Tryd.results9 (ac rfl ag) ?_
 exact ⟨by rfl, Y.ext⟩
end Go.Proofs.YtddfkkdanpmnaaaDoor
namespace Go.Proofs.YtddfkkdanpmnaaaDoor
open Go.RowKit Go.PW
set_option linter.unusedVariables false
set_option linter.unusedSimpArgs false
set_option maxRecDepth 4000
theorem jT : ∀ {l : List Rin} {t : Int}, 0 ≤ t → t + 30 * l.length ≤ 10000000 → ∀ x ∈ recsR t l, x.t ≤ t + 30 * l.length
 | [], t, h, hb, x, hx => by cases hx
 | y :: l, t, h, hb, x, hx => by
  have h0 := bC y.x0 (n := 30) (by omega)
  rw [List.length_cons] at hb ⊢
  have e : (entR (t + pickI y.x0 30) y.x1 y.x2 y.x3 y.x4).t = t + pickI y.x0 30 := by
   show pickI (t + pickI y.x0 30) 10000001 = _
   generalize pickI y.x0 30 = z at *
   unfold pickI
   rw [if_neg (by omega)]
   exact Int.emod_eq_of_lt (by omega) (by omega)
  rw [recsR] at hx
  rcases List.mem_cons.1 hx with rfl | hx
  ·rw [e]; omega
  ·have := jT (l := l) (t := t + pickI y.x0 30) (by omega) (by omega) x hx
   omega
theorem jP (l : List Rin) : ∀ x ∈ madeR l, x.t ≤ 360 := by
 intro x hx
 have := jT (Int.le_refl 0) (by rw [List.length_take]; omega) x hx
 rw [List.length_take] at this; omega
theorem l6 {owner o : Int} {xv : Value} {ys : List Rin} {l : List Rec} {w0 : World} (ho : pickI owner 100 = o) (hl : madeR ys = l) (hxv : SlAt w0 xv 5 (ys.map Rin.cells)) (hys : ∀ y ∈ ys, y.wt) (how : i64 owner) : Ret Tryd.prog 10 #[iv owner, xv] w0 (MemR w0 (fun v : Value => .agg #[iv o, v]) (fun v => [own v 27 5 (l.map Rec.cells)]) (fun _ => True)) := by
 subst ho; subst hl
 exact lX owner xv ys w0 hxv hys how
end Go.Proofs.YtddfkkdanpmnaaaDoor
namespace Go.PW
open Go.RowKit Go.ChangeShapes Go.WideShapes Go.ChangeAt
set_option linter.unusedVariables false
set_option linter.unusedSimpArgs false
section
variable {H : Type} {enc : TypeId × Value → H}
theorem ig {a : Assume} {C : Checked} {os : Os} {f : FuncId} {fn : Func} {s : ChangeSpec} {conds : List PathCond} {apart fresh handsOn again : Bool} {X : World → Array Value → Prop}
  (hX : ∀ (w w' : World) (args : Array Value), w.heap = w'.heap → X w args → X w' args)
  (own : ownKnob C.prog.godebug = none) (started : os.Started) (noInit : C.prog.inits.idxOf? f = none) (hfn : C.prog.funcs[f]? = some fn)
  (witness : ∃ (w : World) (tape : Tape) (i : Input), w.os = os ∧ (w.forCall tape i).Shaped C.prog ∧ i.vars = [] ∧ Input.okWide C.prog (w.forCall tape i) .any w.heap.size f i ∧
   ((s.pre enc C.prog fn conds apart (w.forCall tape i).memory i.args ∧ X (w.forCall tape i).memory i.args) ∧ sizedMet enc C.prog fn (OpenSpec.ofChange s) apart (w.forCall tape i).memory i.args) ∧ a.holds C.prog (lone (Frame.enter C.prog f i.args .normal) [] (w.forCall tape i)))
  (contract : ∀ (W : World) (base : Nat) (args : Array Value) (ds gs : List (DataW H)) (before : List MemPlace),
   (∀ (j : Nat) t v, fn.params[j]? = some t → args[j]? = some v → Value.okWide C.prog W .any base t v) →
   DataW.Whole enc C.prog fn.params.toList s.vars apart W args.toList ds gs before →
   conds.all (PathCond.test C.prog ⟨fn.params.toList, ds, s.plain.varTypes C.prog, gs⟩) = true →
   (DataW.weightsEach C.prog (fn.params.toList ++ s.plain.varTypes C.prog) (ds ++ gs)).all (· ≤ reachBytes) = true → X W args → W.ShapedOpen C.prog →
   Calls C.prog f args W fun e W' => ∃ v, e = .returned v ∧ s.post enc C.prog fn apart fresh handsOn again W args v W') :
  ReturnsInHanded a C os f .any (fun w args => (s.pre enc C.prog fn conds apart w args ∧ X w args) ∧ sizedMet enc C.prog fn (OpenSpec.ofChange s) apart w args) (s.post enc C.prog fn apart fresh handsOn again) := by
 refine returnsInHanded_of_calls own started noInit witness ?_
 intro w tape i _ hsh _ hok hpre _
 obtain ⟨_, _, _, fn', hfn', _, _, _, _, hval⟩ := hok
 have e : fn' = fn := Option.some.inj (hfn'.symm.trans hfn)
 subst e
 obtain ⟨⟨⟨ds, gs, before, hw, hc⟩, hx⟩, hz⟩ := hpre
 have hw' := DataW.Whole.of_heap (w' := w.forCall tape i) (by rfl) hw
 refine (contract (w.forCall tape i) w.heap.size i.args ds gs before hval hw' hc (hz.weights hw) (hX _ _ _ (by rfl) hx) hsh).mono fun e W' ⟨v, he, hp⟩ => ?_
 subst he
 exact ChangeSpec.post_blind hp
end
section
variable {H : Type} {enc : TypeId × Value → H} {P : Program} {w : World} {base : Nat} {spare : Nat → Bool} {held : Bool} {fuel : Nat} {t e : TypeId} {cs : List Value} {x : DataW H × List MemPlace}
theorem js {n : Nat} {ks : List Int} (ht : P.underlying t = some (.array n e)) (he : P.underlying e = some (.int .u32)) (hc : P.cellsOf e = 1) (hct : P.cellsOf t = n) (h : DataW.trod enc P w base spare held fuel t cs = some x) (hx : x.1 = .agg (ks.map fun k => .lit (.int .u32 k))) : cs = ks.map (fun k => .int .u32 k) := by
 obtain ⟨xs, m, rfl, rfl, hlen, hxs, hel⟩ := DataW.trod_array ht h
 simp only [DataW.agg.injEq] at hx
 have hl : ks.length = n := by
  have h := congrArg List.length hx
  rw [List.length_map, List.length_map] at h
  omega
 refine List.ext_getElem (by rw [hlen, hct, List.length_map, hl]) fun i h1 h2 => ?_
 have hi : i < n := by rw [← hct, ← hlen]; exact h1
 have hi2 : i < ks.length := by omega
 have h3 := hel i hi
 rw [hc, Nat.mul_one, List.getElem?_eq_getElem (by omega)] at h3
 obtain ⟨k, e1, e2, _⟩ := DataW.trod_int he h3
 rw [List.drop_eq_getElem_cons h1, List.take_succ_cons] at e1
 injection e1 with e1 _
 have h4 : (xs.map (·.1))[i]? = (ks.map fun k => DataW.lit (H := H) (.int .u32 k))[i]? := by rw [hx]
 rw [List.getElem?_map, List.getElem?_map, List.getElem?_eq_getElem (by omega), List.getElem?_eq_getElem hi2, Option.map_some, Option.map_some, e2] at h4
 simp only [Option.some.injEq, DataW.lit.injEq, Lit.int.injEq, true_and] at h4
 rw [e1, List.getElem_map, h4]
end
end Go.PW
namespace Go.Proofs.YtddfkkdanpmnaaaDoor
open Go.RowKit Go.PW
set_option linter.unusedVariables false
set_option linter.unusedSimpArgs false
set_option maxRecDepth 4000
open Go.ChangeShapes Go.WideShapes Go.ChangeAt Go.RowKit Go.PW
theorem ownD : ownKnob Tryd.prog.godebug = none := by kernel_rfl
theorem cR : laidOutB Tryd.prog = true := by kernel_rfl
def laid1 : List (String × DataW Unit) := [("dialtone/digest.round", Rows.laid_dialtone_digest_round)]
theorem gRound : Tryd.prog.globalNamed "dialtone/digest.round" = some 0 := by kernel_rfl
theorem tRound : (Tryd.prog.globals[0]?).map (·.type) = some 161 := by kernel_rfl
theorem nb : (Rows.laid_dialtone_digest_round : DataW Unit) = .agg ((kOf.map fun k => (k.toNat : Int)).map fun k => .lit (.int .u32 k)) := by kernel_rfl
theorem me (os : Os) (args : Array Value) : laidMetH Tryd.prog laid1 ((World.doorLaid Tryd.prog 4000 os).forCall (fun _ _ => 0) ⟨#[], args, []⟩).memory :=
 laidMetH_of_parts3 (fuel := 8) (laidMet_of_run' 8 (by kernel_rfl) (by kernel_rfl)) (by kernel_rfl) (by kernel_rfl)
theorem jE (os : Os) (args : Array Value) : ((World.doorLaid Tryd.prog 4000 os).forCall (fun _ _ => 0) ⟨#[], args, []⟩).Shaped Tryd.prog := World.shaped_of_RefB (by kernel_rfl) (by kernel_rfl)
theorem nK {W : World} (h : laidMetH Tryd.prog laid1 W) (hs : W.ShapedOpen Tryd.prog) : (blk 0 (kOf.map wv) 161).ok W := by
 rw [MakeChecks.laidMetH_plain _ _ _ (by kernel_rfl)] at h
 obtain ⟨ps, ⟨g0, t0, cs0, f0, p0, q0, hg0, ht0, hv0, hd0, _, _⟩, _, _⟩ := h
 obtain rfl := Option.some.inj (gRound.symm.trans hg0)
 obtain rfl := Option.some.inj (tRound.symm.trans ht0)
 obtain ⟨cs, hcs, _, _⟩ := hs.1 0 (List.replicate 64 (.int .u32 0)).toArray 161 (of_decide_eq_true (by kernel_rfl)) (by kernel_rfl)
 have e : cs0 = cs := by
  have := hv0
  simp only [World.var?, gRound, Option.bind_some, hcs, Option.some.injEq] at this
  exact this.symm
 subst e
 have hw := js (ks := kOf.map fun k => (k.toNat : Int)) Tryd.underlying161 Tryd.underlying133 (by kernel_rfl) (by kernel_rfl) hd0 nb
 have hl : cs0 = (kOf.map wv).toArray := by
  apply Array.toList_inj.1
  rw [hw, List.map_map]; rfl
 show W.heap[0]? = some (.cells (kOf.map wv).toArray 161)
 rw [← hl]; exact hcs
end Go.Proofs.YtddfkkdanpmnaaaDoor
namespace Go.Proofs.YtddfkkdanpmnaaaDoor
open Go.RowKit Go.PW
set_option linter.unusedVariables false
set_option linter.unusedSimpArgs false
set_option maxRecDepth 4000
open Go.ChangeShapes Go.WideShapes Go.ChangeAt
section
variable {H : Type} {enc : TypeId × Value → H} {W : World} {base b0 : Nat} {sp : Nat → Bool} {hd : Bool} {v : Value} {d : DataW H} {ps : List MemPlace} {r : Reach}
theorem fx {n : Int} (h : Go.PW.i64 n) : i64 n := h
theorem len5 {α : Type} {l : List α} (h : l.length = 5) : ∃ a0 a1 a2 a3 a4, l = [a0, a1, a2, a3, a4] := by
 match l, h with
 | [a0, a1, a2, a3, a4], _ => exact ⟨_, _, _, _, _, rfl⟩
theorem mc {fuel : Nat} {cs : List Value} {x : DataW H × List MemPlace} (hl : cs.length = 5) (hw : Wt Tryd.prog 75 x.1) (h : DataW.trod enc Tryd.prog W base sp hd fuel 75 cs = some x) :
  ∃ (n0 : Int) (n1 : Int) (n2 : Int) (n3 : Int) (n4 : Int), cs = [iv n0, iv n1, iv n2, iv n3, iv n4] ∧ (i64 n0) ∧ (i64 n1) ∧ (i64 n2) ∧ (i64 n3) ∧ (i64 n4) := by
 obtain ⟨zs, hz, he, hy⟩ := kA 5 Tryd.underlying75 Tryd.underlying3 (by kernel_rfl) h hl
 obtain ⟨n0, n1, n2, n3, n4, rfl⟩ := len5 hz
 exact ⟨n0, n1, n2, n3, n4, he, hy n0 (by simp), hy n1 (by simp), hy n2 (by simp), hy n3 (by simp), hy n4 (by simp)⟩
theorem kb {fuel : Nat} {v : Value} {x : DataW H × List MemPlace} (hok : Cell.okWide Tryd.prog W r b0 22 v) (hw : Wt Tryd.prog 22 x.1) (h : DataW.trod enc Tryd.prog W base sp hd fuel 22 [v] = some x) :
  ∃ xs : List Rin, SlAt W v 5 (xs.map Rin.cells) ∧ ∀ a ∈ xs, a.wt := by
 obtain ⟨els, h1, h2⟩ := mV 5 Tryd.underlying22 (by kernel_rfl) (by decide) (of_decide_eq_true (by kernel_rfl)) hok hw h
 exact nu (f := Rin.cells) (q := fun a => a.wt) h1 fun i hi => by
  obtain ⟨n, y, hy, hwy⟩ := h2 i hi
  obtain ⟨n0, n1, n2, n3, n4, he, hf⟩ := mc (h1.1 _ (List.getElem_mem hi)) hwy hy
  exact ⟨⟨n0, n1, n2, n3, n4⟩, he, hf⟩
theorem fE (hval : Value.okWide Tryd.prog W r b0 22 v) (hw : Wt Tryd.prog 22 d) (hd0 : DataW.Trod enc Tryd.prog W base sp hd 22 v d ps) :
  ∃ xs : List Rin, SlAt W v 5 (xs.map Rin.cells) ∧ ∀ a ∈ xs, a.wt := by
 obtain ⟨fuel, hf⟩ := hd0
 have hcs : v.cells.toList = [v] := by
  rcases fT (by rw [Tryd.underlying22]) hval with h
  have : ∃ a n c, v = .slice a n c := by
   unfold Cell.okWide Cell.ok at h
   rw [Tryd.underlying22] at h
   cases v <;> simp_all
  obtain ⟨a, n, c, rfl⟩ := this
  rfl
 rw [hcs] at hf
 exact kb (fT (by rw [Tryd.underlying22]) hval) hw hf
end
end Go.Proofs.YtddfkkdanpmnaaaDoor
namespace Go.Proofs.YtddfkkdanpmnaaaDoor
open Go.RowKit Go.PW
set_option linter.unusedVariables false
set_option linter.unusedSimpArgs false
set_option maxRecDepth 4000
theorem dj {key root t : By} {o n : Int} (h : genR sha key o n root t = true) : key.length = 32 ∧ (0 ≤ o ∧ o ≤ 99) ∧ (0 ≤ n ∧ n ≤ 60) ∧ root.length = 32 ∧ t = tagR sha key o n root := by
 unfold genR inB at h
 simp only [Bool.and_eq_true, decide_eq_true_eq] at h
 exact ⟨h.1.1.1.1, h.1.1.1.2, h.1.1.2, h.1.2, h.2⟩
theorem ln {key root : By} {o n : Int} (hk : key.length = 32) (ho : 0 ≤ o ∧ o ≤ 99) (hn : 0 ≤ n ∧ n ≤ 60) (hr : root.length = 32) : genR sha key o n root (tagR sha key o n root) = true := by
 unfold genR inB
 rw [decide_eq_true hk, decide_eq_true ho.1, decide_eq_true ho.2, decide_eq_true hn.1, decide_eq_true hn.2, decide_eq_true hr, decide_eq_true rfl]; rfl
theorem dt {key c root r t : By} {o n s m : Int} (hk : key.length = 32) (ho : 0 ≤ o ∧ o ≤ 99) (hn : 0 ≤ n ∧ n ≤ 60) (hr : root.length = 32) (ht : tagR sha key o n root = t) (h : genR sha c s m r t = true) (hne : ¬ (c = key ∧ s = o ∧ m = n ∧ r = root)) :
  colxH [[0] ++ aD o n root, [1] ++ key ++ leafH sha (aD o n root)] [[0] ++ aD s m r, [1] ++ c ++ leafH sha (aD s m r)] = true := by
 show colxH (fc sha key o n root) (fc sha c s m r) = true
 obtain ⟨h1, h2, h3, h4, h5⟩ := dj h
 subst ht
 exact lD (mA hk h1 hr h4 ⟨by unfold small; omega, by unfold small; omega, by unfold small; omega, by unfold small; omega⟩ h5 hne)
theorem lS {o : Int} {lv : Value} {l : List Rec} {root : By} {w0 : World} (hlv : SlAt w0 lv 5 (l.map Rec.cells)) (hk0 : (blk 0 (kOf.map wv) 161).ok w0) (hlo : logOk o l = true) (hr : rootH sha (codesR l) = root) : Ret Tryd.prog 27 #[.agg #[iv o, lv]] w0 fun v w => v = .tuple #[sv root, iv 0] ∧ Ext No w0 w := by
 have := fh o lv l w0 hlv hk0
 rw [dB hlo, dz.2 hlo, hr] at this
 exact this
theorem nI {key : By} {o : Int} {lv : Value} {l : List Rec} {tag root : By} {w0 : World} (hlv : SlAt w0 lv 5 (l.map Rec.cells)) (hk0 : (blk 0 (kOf.map wv) 161).ok w0) (hlo : logOk o l = true) (hk : key.length = 32) (hr : rootH sha (codesR l) = root) (ht : tagR sha key o (l.length : Int) root = tag) : Ret Tryd.prog 36 #[sv key, .agg #[iv o, lv]] w0 fun v w => v = .tuple #[sv tag, iv 0] ∧ Ext No w0 w := by
 have := jU key o lv l w0 hlv hk0
 have hs : signOk key o l = true := by unfold signOk; rw [hlo, hk]; rfl
 rw [show signB key o l = tag from by unfold signB; rw [if_pos hs, hr]; exact ht, show signE key o l = 0 from if_pos hs] at this
 exact this
set_option maxHeartbeats 4000000 in
theorem iR (owner : Int) (xv : Value) (ys : List Rin) (owner2 : Int) (xv2 : Value) (ys2 : List Rin) (key other n : Int) (w0 : World) (hxv : SlAt w0 xv 5 (ys.map Rin.cells)) (hys : ∀ y ∈ ys, y.wt) (hown : i64 owner) (hxv2 : SlAt w0 xv2 5 (ys2.map Rin.cells)) (hys2 : ∀ y ∈ ys2, y.wt) (hown2 : i64 owner2) (h_key : i64 key) (h_other : i64 other) (h_n : i64 n) (hk0 : (blk 0 (kOf.map wv) 161).ok w0) :
  Ret Tryd.prog 7 #[iv owner, xv, xv2, iv key, iv other, iv owner2, iv n] w0 fun v w => v = .bool true ∧ Ext No w0 w := by
 obtain ⟨o, ho⟩ : ∃ o, pickI owner 100 = o := ⟨_, rfl⟩
 obtain ⟨l, hl⟩ : ∃ l, madeR ys = l := ⟨_, rfl⟩
 have hlo : logOk o l = true := by rw [← ho, ← hl]; exact ir _ _
 have hll : l.length ≤ 12 := by rw [← hl, eL]; omega
 have hob := eJ hlo
 have hmt : ∀ x ∈ l, x.t ≤ 360 := by rw [← hl]; exact jP _
 have hwna := hown.1
 have hwnb := hown.2
 obtain ⟨o2, ho2⟩ : ∃ o, pickI owner2 100 = o := ⟨_, rfl⟩
 obtain ⟨l2, hl2⟩ : ∃ l, madeR ys2 = l := ⟨_, rfl⟩
 have hlo2 : logOk o2 l2 = true := by rw [← ho2, ← hl2]; exact ir _ _
 have hll2 : l2.length ≤ 12 := by rw [← hl2, eL]; omega
 have hob2 := eJ hlo2
 have hmt2 : ∀ x ∈ l2, x.t ≤ 360 := by rw [← hl2]; exact jP _
 have hwna2 := hown2.1
 have hwnb2 := hown2.2
 obtain ⟨root, hroot⟩ : ∃ z, rootH sha (codesR l) = z := ⟨_, rfl⟩
 have hr32 : root.length = 32 := by rw [← hroot]; exact bT aK _
 obtain ⟨root2, hroot2⟩ : ∃ z, rootH sha (codesR l2) = z := ⟨_, rfl⟩
 have hr322 : root2.length = 32 := by rw [← hroot2]; exact bT aK _
 obtain ⟨kk, hkk⟩ : ∃ z, keyR key = z := ⟨_, rfl⟩
 obtain ⟨oo, hoo⟩ : ∃ z, keyR other = z := ⟨_, rfl⟩
 have hk32 : kk.length = 32 := by rw [← hkk]; exact fV _
 obtain ⟨tag, htag⟩ : ∃ z, tagR sha kk o (l.length : Int) root = z := ⟨_, rfl⟩
 have hln60 : 0 ≤ (l.length : Int) ∧ (l.length : Int) ≤ 60 := by omega
 have hself : genR sha kk o (l.length : Int) root tag = true := by rw [← htag]; exact ln hk32 hob hln60 hr32
 have hcl1 := cG o (l.length : Int) root
 have h_n1 := h_n.1
 have h_n2 := h_n.2
 refine aE Tryd.func7 rfl Tryd.ntmps7 (lb rfl) fun a Z => ?_
 replace Z : Fr 189 [(0, _), (1, _), (2, _), (3, _), (4, _), (5, _), (6, _)] [] a := Z
 replace Y : St No w0 [] w0 := St.init w0
 refine aa fun K1 hK1 => wla Z rfl fun a Z => ab (hK1 _ _ <| ae fun K2 hK2 => ?_)
 refine aa fun K3 hK3 => al Z Y (by decide) Tryd.call9 rfl (mK _ (Y.keepb hk0)) ?_
 clear Z Y
 intro a w1 Z Y
 refine wlv Z ((bh rfl).asb (b' := false) rfl) fun a Z => ab (hK3 _ _ <| aL Z rfl ?_)
 refine ar <| hK2 _ _ <| aa fun K4 hK4 => wlm Z rfl fun a Z => wlm Z rfl fun a Z => ba Z Y (by decide) Tryd.call10 rfl (l6 ho hl (Y.arg hxv) hys hown) ?_
 clear Z Y
 intro a w2 x2 hp Z Y
 revert x2 hp Z Y; rintro lv1 hp Z Y
 clear hp
 replace Y : St No w0 [own lv1 27 5 ((l).map Rec.cells)] w2 := Y
 refine aO Z Y (by decide) (Tryd.zeroValue25 _) (cs := [iv 0, .slice none 0 0]) rfl ?_
 clear Z Y
 intro a w3 Z Y
 refine bB (us := [iv o, lv1]) 0 Z Y rfl rfl rfl (Tryd.sizeOf25 _) (by intro z hz; simp only [List.mem_cons, List.not_mem_nil, or_false] at hz; rcases hz with rfl | rfl <;> first | rfl | exact SlAt.one (Y.ownAt (i := 1) rfl)) (lb rfl) (ds := [iv o, lv1]) rfl rfl ?_
 clear Z Y
 intro a w4 Z Y
 refine ab (hK4 _ _ ?_)
 replace Z : Fr 189 [(2, _), (3, _), (4, _), (5, _), (6, _), (14, _), (15, _)] [] a := Z.pick [2, 3, 4, 5, 6, 14, 15]
 refine aa fun K5 hK5 => wlm Z rfl fun a Z => wlm Z rfl fun a Z => ba Z Y (by decide) Tryd.call10 rfl (l6 ho2 hl2 (Y.arg hxv2) hys2 hown2) ?_
 clear Z Y
 intro a w5 x4 hp Z Y
 revert x4 hp Z Y; rintro lv3 hp Z Y
 clear hp
 replace Y : St No w0 [own lv3 27 5 ((l2).map Rec.cells), blk w2.heap.size [iv o, lv1] 25, own lv1 27 5 ((l).map Rec.cells)] w5 := Y
 refine aO Z Y (by decide) (Tryd.zeroValue25 _) (cs := [iv 0, .slice none 0 0]) rfl ?_
 clear Z Y
 intro a w6 Z Y
 refine bB (us := [iv o2, lv3]) 0 Z Y rfl rfl rfl (Tryd.sizeOf25 _) (by intro z hz; simp only [List.mem_cons, List.not_mem_nil, or_false] at hz; rcases hz with rfl | rfl <;> first | rfl | exact SlAt.one (Y.ownAt (i := 1) rfl)) (lb rfl) (ds := [iv o2, lv3]) rfl rfl ?_
 clear Z Y
 intro a w7 Z Y
 refine ab (hK5 _ _ <| aa fun K6 hK6 => ?_)
 refine wlm Z rfl fun a Z => al Z Y (by decide) Tryd.call35 rfl (ek (by rw [hkk]) (hO key _ (by assumption))) ?_
 clear Z Y
 intro a w8 Z Y
 refine wla Z rfl fun a Z => ab (hK6 _ _ ?_)
 replace Z : Fr 189 [(4, _), (6, _), (14, _), (15, _), (16, _), (17, _)] [] a := Z.pick [4, 6, 14, 15, 16, 17]
 refine aa fun K7 hK7 => wlm Z rfl fun a Z => al Z Y (by decide) Tryd.call35 rfl (ek (by rw [hoo]) (hO other _ (by assumption))) ?_
 clear Z Y
 intro a w9 Z Y
 refine wla Z rfl fun a Z => ab (hK7 _ _ <| aa fun K8 hK8 => ?_)
 refine wlm Z rfl fun a Z => wlv Z (aA (Y.get (k := 2) rfl) rfl (Tryd.isAgg25 _) (Tryd.sizeOf25 _)) fun a Z => al Z Y (by decide) Tryd.call36 rfl (nI (Y.ownAt (i := 3) rfl) (Y.keepb hk0) hlo hk32 hroot htag) ?_
 clear Z Y
 intro a w10 Z Y
 refine wlm Z rfl fun a Z => wlv Z (ak rfl rfl) fun a Z => wlv Z (ak rfl rfl) fun a Z => wla Z rfl fun a Z => wla Z rfl fun a Z => ab (hK8 _ _ ?_)
 replace Z : Fr 189 [(6, _), (14, _), (15, _), (16, _), (17, _), (18, _), (19, _), (20, _)] [] a := Z.pick [6, 14, 15, 16, 17, 18, 19, 20]
 refine aa fun K9 hK9 => wlv Z (aA (Y.get (k := 2) rfl) rfl (Tryd.isAgg25 _) (Tryd.sizeOf25 _)) fun a Z => al Z Y (by decide) Tryd.call27 rfl (lS (Y.ownAt (i := 3) rfl) (Y.keepb hk0) hlo hroot) ?_
 clear Z Y
 intro a w11 Z Y
 refine wlm Z rfl fun a Z => wlv Z (ak rfl rfl) fun a Z => wlv Z (ak rfl rfl) fun a Z => wla Z rfl fun a Z => wla Z rfl fun a Z => ab (hK9 _ _ <| aa fun K10 hK10 => ?_)
 refine wlv Z (aA (Y.get (k := 0) rfl) rfl (Tryd.isAgg25 _) (Tryd.sizeOf25 _)) fun a Z => al Z Y (by decide) Tryd.call27 rfl (lS (Y.ownAt (i := 1) rfl) (Y.keepb hk0) hlo2 hroot2) ?_
 clear Z Y
 intro a w12 Z Y
 refine wlm Z rfl fun a Z => wlv Z (ak rfl rfl) fun a Z => wlv Z (ak rfl rfl) fun a Z => wla Z rfl fun a Z => wla Z rfl fun a Z => ab (hK10 _ _ ?_)
 replace Z : Fr 189 [(6, _), (14, _), (15, _), (16, _), (17, _), (18, _), (19, _), (20, _), (21, _), (22, _), (23, _), (24, _)] [] a := Z.pick [6, 14, 15, 16, 17, 18, 19, 20, 21, 22, 23, 24]
 refine ae fun K11 hK11 => aa fun K12 hK12 => wlm Z rfl fun a Z => wlv Z ((v_ne rfl rfl).asb (b' := false) rfl) fun a Z => wlm Z rfl fun a Z => wly Z (ah rfl) fun a Z => wly Z ((v_ne rfl rfl).asb (b' := false) rfl) fun a Z => wlv Z (ax rfl rfl) fun a Z => wlm Z rfl fun a Z => wly Z (ah rfl) fun a Z => wly Z ((v_ne rfl rfl).asb (b' := false) rfl) fun a Z => wlv Z (ax rfl rfl) fun a Z => wlm Z rfl fun a Z => wly Z (ah rfl) fun a Z => wly Z (aq (v := pt w2.heap.size) rfl (by kernel_rfl)) fun a Z => wly Z (ai (Y.get (k := 2) rfl) rfl (Tryd.isAgg3 _) rfl) fun a Z => wly Z (aq (v := .pointer (some ⟨w2.heap.size, 1, none⟩)) rfl (by kernel_rfl)) fun a Z => wly Z (ai (Y.get (k := 2) rfl) rfl (Tryd.isAgg23 _) rfl) fun a Z => wly Z ((aH (sT := 23) (Y.ownAt (i := 3) rfl) rfl rfl (Tryd.runUnderlying23 _)).asi (m' := (l.length : Int)) (by rw [List.length_map])) fun a Z => wly Z (ah rfl) fun a Z => wly Z (ah rfl) fun a Z => ?_
 refine aT Z Y (by decide) rfl (by decide) rfl Tryd.call37 rfl (bK hself (bZ kk o (l.length : Int) root tag _ (Y.keepb hk0))) ?_
 clear Z Y
 intro a w13 Z Y
 refine wly Z ((bh rfl).asb (b' := false) rfl) fun a Z => wlv Z (ax rfl rfl) fun a Z => ab (hK12 _ _ ?_)
 replace Z : Fr 189 [(6, _), (14, _), (15, _), (16, _), (17, _), (18, _), (19, _), (21, _), (23, _), (86, _)] [] a := Z.pick [6, 14, 15, 16, 17, 18, 19, 21, 23, 86]
 refine aL Z rfl ?_
 refine ar <| hK11 _ _ <| aa fun K13 hK13 => wlv Z (aq (v := pt w2.heap.size) rfl (by kernel_rfl)) fun a Z => wlv Z (ai (Y.get (k := 2) rfl) rfl (Tryd.isAgg3 _) rfl) fun a Z => wlv Z (aq (v := .pointer (some ⟨w2.heap.size, 1, none⟩)) rfl (by kernel_rfl)) fun a Z => wlv Z (ai (Y.get (k := 2) rfl) rfl (Tryd.isAgg23 _) rfl) fun a Z => ?_
 refine wlv Z ((aH (sT := 23) (Y.ownAt (i := 3) rfl) rfl rfl (Tryd.runUnderlying23 _)).asi (m' := (l.length : Int)) (by rw [List.length_map])) fun a Z => wlm Z rfl fun a Z => al Z Y (by decide) Tryd.call38 rfl (cD o (l.length : Int) root _ (by unfold small; omega) (by unfold small; omega) (by omega)) ?_
 clear Z Y
 intro a w14 Z Y
 refine wla Z rfl fun a Z => ab (hK13 _ _ ?_)
 replace Z : Fr 189 [(6, _), (14, _), (15, _), (16, _), (17, _), (18, _), (19, _), (21, _), (23, _), (25, _)] [] a := Z.pick [6, 14, 15, 16, 17, 18, 19, 21, 23, 25]
 refine ae fun K14 hK14 => aa fun K15 hK15 => wlm Z rfl fun a Z => wlm Z rfl fun a Z => az (E := 9) (sz := 1) rfl [[sv kk], [sv oo]] (by kernel_rfl) (by simp) rfl (by decide) (by decide) Z Y ?_
 clear Z Y
 intro a w15 Z Y
 refine wlv Z ((aH (sT := 45) (Y.ownAt (i := 0) rfl) rfl rfl (Tryd.runUnderlying45 _)).asi (m' := 2) (by rfl)) fun a Z => wlm Z rfl fun a Z => ab (hK15 _ _ <| ao ?_)
 obtain ⟨cs, hcs⟩ : ∃ z : List By, z = [kk, oo] := ⟨_, rfl⟩
 have hcs2 : cs.length = 2 := by rw [hcs]; rfl
 have Y : St No w0 [own (.slice (some ⟨w14.heap.size, 0, none⟩) 2 2) 9 1 (cs.map fun s => [sv s]), blk w5.heap.size [iv o2, lv3] 25, own lv3 27 5 ((l2).map Rec.cells), blk w2.heap.size [iv o, lv1] 25, own lv1 27 5 ((l).map Rec.cells)] w15 := by rw [hcs]; exact Y
 refine aN (fun m a w => ∃ (i1 : Nat), m = 2 - i1 ∧ (i1 ≤ 2) ∧ Fr 189 [(6, iv n), (15, pt w2.heap.size), (16, pt w5.heap.size), (17, sv kk), (19, sv tag), (21, sv root), (23, sv root2), (25, sv (aD o (l.length : Int) root)), (96, (.slice (some ⟨w14.heap.size, 0, none⟩) 2 2)), (97, iv 2), (98, iv (i1 : Int))] [] a ∧ St No w0 [own (.slice (some ⟨w14.heap.size, 0, none⟩) 2 2) 9 1 (cs.map fun s => [sv s]), blk w5.heap.size [iv o2, lv3] 25, own lv3 27 5 ((l2).map Rec.cells), blk w2.heap.size [iv o, lv1] 25, own lv1 27 5 ((l).map Rec.cells)] w) _ ⟨0, rfl, Nat.zero_le _, Z.pick [6, 15, 16, 17, 19, 21, 23, 25, 96, 97, 98], Y.select [0, 1, 2, 3, 4] (by decide)⟩ ?_
 rintro _ a w16 ⟨i1, rfl, hi1, Z, Y⟩
 refine aa fun K16 hK16 => wlv Z (v_lt rfl rfl) fun a Z => ab (hK16 _ _ <| ae fun K17 hK17 => ?_)
 refine ay Z rfl (fun hc5 => ?_) (fun hc5 => ?_)
 ·rw [hc5] at Z
  try simp only [qz] at hc5
  refine ar <| hK17 _ _ <| ae fun K18 hK18 => ao <| aa fun K19 hK19 => wlv Z ((aj (i := (i1 : Int)) (sT := 45) (Y.ownAt (i := 0) rfl) rfl rfl (Tryd.runUnderlying45 _) (Tryd.sizeOf9 _) (by omega) (by rw [List.length_map]; omega)).as (v' := slAddr (.slice (some ⟨w14.heap.size, 0, none⟩) 2 2) (i1 * 1)) rfl) fun a Z => wlv Z (aw (u := sv (cs.getD i1 [])) (i := i1) (j := 0) (Y.ownAt (i := 0) rfl) (by rw [List.length_map]; omega) rfl (Tryd.isAgg9 _) (by rw [bq ([] : By)]; rfl)) fun a Z => wla Z rfl fun a Z => ?_
  refine ab (hK19 _ _ <| aa fun K20 hK20 => ?_)
  refine wlv Z (aq (v := pt w2.heap.size) rfl (by kernel_rfl)) fun a Z => wlv Z (ai (Y.get (k := 3) rfl) rfl (Tryd.isAgg3 _) rfl) fun a Z => wlv Z (aq (v := pt w5.heap.size) rfl (by kernel_rfl)) fun a Z => wlv Z (ai (Y.get (k := 1) rfl) rfl (Tryd.isAgg3 _) rfl) fun a Z => az (E := 3) (sz := 1) rfl [[iv o], [iv o2]] (by kernel_rfl) (by simp) rfl (by decide) (by decide) Z Y ?_
  clear Z Y
  intro a w17 Z Y
  refine wlv Z ((aH (sT := 41) (Y.ownAt (i := 0) rfl) rfl rfl (Tryd.runUnderlying41 _)).asi (m' := 2) (by rfl)) fun a Z => wlm Z rfl fun a Z => ab (hK20 _ _ ?_)
  replace Z : Fr 189 [(6, _), (15, _), (16, _), (17, _), (19, _), (21, _), (23, _), (25, _), (96, _), (97, _), (98, _), (27, _), (106, _), (107, _), (108, _)] [] a := Z.pick [6, 15, 16, 17, 19, 21, 23, 25, 96, 97, 98, 27, 106, 107, 108]
  refine ao ?_
  obtain ⟨os, hos⟩ : ∃ z : List Int, z = [o, o2] := ⟨_, rfl⟩
  have hos2 : os.length = 2 := by rw [hos]; rfl
  have Y : St No w0 [own (.slice (some ⟨w16.heap.size, 0, none⟩) 2 2) 3 1 ((os).map fun n => [iv n]), own (.slice (some ⟨w14.heap.size, 0, none⟩) 2 2) 9 1 (cs.map fun s => [sv s]), blk w5.heap.size [iv o2, lv3] 25, own lv3 27 5 ((l2).map Rec.cells), blk w2.heap.size [iv o, lv1] 25, own lv1 27 5 ((l).map Rec.cells)] w17 := by rw [hos]; exact Y
  refine aN (fun m a w => ∃ (i2 : Nat), m = 2 - i2 ∧ (i2 ≤ 2) ∧ Fr 189 [(6, iv n), (15, pt w2.heap.size), (16, pt w5.heap.size), (17, sv kk), (19, sv tag), (21, sv root), (23, sv root2), (25, sv (aD o (l.length : Int) root)), (96, (.slice (some ⟨w14.heap.size, 0, none⟩) 2 2)), (97, iv 2), (98, iv (i1 : Int)), (27, sv (cs.getD i1 [])), (106, (.slice (some ⟨w16.heap.size, 0, none⟩) 2 2)), (107, iv 2), (108, iv (i2 : Int))] [] a ∧ St No w0 [own (.slice (some ⟨w16.heap.size, 0, none⟩) 2 2) 3 1 ((os).map fun n => [iv n]), own (.slice (some ⟨w14.heap.size, 0, none⟩) 2 2) 9 1 (cs.map fun s => [sv s]), blk w5.heap.size [iv o2, lv3] 25, own lv3 27 5 ((l2).map Rec.cells), blk w2.heap.size [iv o, lv1] 25, own lv1 27 5 ((l).map Rec.cells)] w) _ ⟨0, rfl, Nat.zero_le _, Z.pick [6, 15, 16, 17, 19, 21, 23, 25, 96, 97, 98, 27, 106, 107, 108], Y.select [0, 1, 2, 3, 4, 5] (by decide)⟩ ?_
  rintro _ a w18 ⟨i2, rfl, hi2, Z, Y⟩
  refine aa fun K21 hK21 => wlv Z (v_lt rfl rfl) fun a Z => ab (hK21 _ _ <| ae fun K22 hK22 => ?_)
  refine ay Z rfl (fun hc6 => ?_) (fun hc6 => ?_)
  ·rw [hc6] at Z
   try simp only [qz] at hc6
   refine ar <| hK22 _ _ <| ae fun K23 hK23 => ao <| aa fun K24 hK24 => wlv Z ((aj (i := (i2 : Int)) (sT := 41) (Y.ownAt (i := 0) rfl) rfl rfl (Tryd.runUnderlying41 _) (Tryd.sizeOf3 _) (by omega) (by rw [List.length_map]; omega)).as (v' := slAddr (.slice (some ⟨w16.heap.size, 0, none⟩) 2 2) (i2 * 1)) rfl) fun a Z => wlv Z (aw (u := iv (os.getD i2 0)) (i := i2) (j := 0) (Y.ownAt (i := 0) rfl) (by rw [List.length_map]; omega) rfl (Tryd.isAgg3 _) (by rw [bq (0 : Int)]; rfl)) fun a Z => wla Z rfl fun a Z => ?_
   refine ab (hK24 _ _ <| ae fun K25 hK25 => ?_)
   refine aM (by kernel_rfl) ?_
   replace Z : Fr 189 [(6, _), (15, _), (16, _), (17, _), (19, _), (21, _), (23, _), (25, _), (96, _), (97, _), (98, _), (27, _), (106, _), (107, _), (108, _), (109, _), (110, _), (111, _), (29, _)] [] a := Z.pick [6, 15, 16, 17, 19, 21, 23, 25, 96, 97, 98, 27, 106, 107, 108, 109, 110, 111, 29]
   refine aF [5] (fun i => match i with | 5 => pm (fun b : Nat => .slice (some ⟨b, 0, none⟩) 2 2) (fun b => [own (.slice (some ⟨b, 0, none⟩) 2 2) 3 1 [[iv (l.length : Int)], [iv (pickI n 61)]]]) (fun _ => True) | _ => fun _ _ => False) 8 [[], [0], [1], [], [3], [2, 4], [5], []] [.pointer (some ⟨w2.heap.size, 1, none⟩), lv1, iv (l.length : Int), iv n, iv (pickI n 61), undef, iv 2, iv 0] Z Y (by kernel_rfl) (by kernel_rfl) (by kernel_rfl) ?_ ?_ ?_
   ·intro i hi hiq
    match i, hi, hiq with
    | 0, _, _ =>
     intro w Y
     exact OpV.g (aq (v := .pointer (some ⟨w2.heap.size, 1, none⟩)) rfl (by kernel_rfl))
    | 1, _, _ =>
     intro w Y
     exact OpV.g (ai (Y.get (k := 4) rfl) rfl (Tryd.isAgg23 _) rfl)
    | 2, _, _ =>
     intro w Y
     exact OpV.g ((aH (sT := 23) (Y.ownAt (i := 5) rfl) rfl rfl (Tryd.runUnderlying23 _)).asi (m' := (l.length : Int)) (by rw [List.length_map]))
    | 3, _, _ =>
     intro w Y
     exact OpV.g (ah rfl)
    | 4, _, _ =>
     intro w Y
     exact bu Tryd.call19 rfl (lz n 61 _ (by first | assumption | (unfold i64 at *; omega) | omega) (by omega))
    | 5, _, h => exact absurd (by simp) h
    | 6, _, _ =>
     rintro _ _ ⟨b7, rfl, -, rfl⟩
     intro w Y
     exact OpV.g ((aH (sT := 41) (Y.ownAt (i := 0) rfl) rfl rfl (Tryd.runUnderlying41 _)).asi (m' := 2) (by rfl))
    | 7, _, _ =>
     intro w Y
     exact OpV.g (ah rfl)
   ·intro i hi
    simp only [List.mem_cons, List.not_mem_nil, or_false] at hi
    subst hi
    ·intro w Y
     exact aW (E := 3) (sz := 1) rfl [[iv (l.length : Int)], [iv (pickI n 61)]] (fun _ => by kernel_rfl) (by simp) rfl (by decide)
   clear Z Y
   rintro _ _ ⟨b7, rfl, -, rfl⟩ a w19 Z Y
   replace Z : Fr 189 [(112, .pointer (some ⟨w2.heap.size, 1, none⟩)), (113, lv1), (114, iv (l.length : Int)), (115, iv n), (116, iv (pickI n 61)), (117, _), (118, iv 2), (119, iv 0), (6, _), (15, _), (16, _), (17, _), (19, _), (21, _), (23, _), (25, _), (96, _), (97, _), (98, _), (27, _), (106, _), (107, _), (108, _), (109, _), (110, _), (111, _), (29, _)] [] a := Z
   replace Y : St No w0 [_, _, _, _, _, _, _] w19 := Y
   refine ab <| hK25 _ _ ?_
   replace Z : Fr 189 [(6, _), (15, _), (16, _), (17, _), (19, _), (21, _), (23, _), (25, _), (96, _), (97, _), (98, _), (27, _), (106, _), (107, _), (108, _), (29, _), (117, _), (118, _), (119, _)] [] a := Z.pick [6, 15, 16, 17, 19, 21, 23, 25, 96, 97, 98, 27, 106, 107, 108, 29, 117, 118, 119]
   refine ao ?_
   obtain ⟨ms, hms⟩ : ∃ z : List Int, z = [(l.length : Int), pickI n 61] := ⟨_, rfl⟩
   have hms2 : ms.length = 2 := by rw [hms]; rfl
   have Y : St No w0 [own (.slice (some ⟨b7, 0, none⟩) 2 2) 3 1 ((ms).map fun n => [iv n]), own (.slice (some ⟨w16.heap.size, 0, none⟩) 2 2) 3 1 ((os).map fun n => [iv n]), own (.slice (some ⟨w14.heap.size, 0, none⟩) 2 2) 9 1 (cs.map fun s => [sv s]), blk w5.heap.size [iv o2, lv3] 25, own lv3 27 5 ((l2).map Rec.cells), blk w2.heap.size [iv o, lv1] 25, own lv1 27 5 ((l).map Rec.cells)] w19 := by rw [hms]; exact Y
   refine aN (fun m a w => ∃ (i3 : Nat), m = 2 - i3 ∧ (i3 ≤ 2) ∧ Fr 189 [(6, iv n), (15, pt w2.heap.size), (16, pt w5.heap.size), (17, sv kk), (19, sv tag), (21, sv root), (23, sv root2), (25, sv (aD o (l.length : Int) root)), (96, (.slice (some ⟨w14.heap.size, 0, none⟩) 2 2)), (97, iv 2), (98, iv (i1 : Int)), (27, sv (cs.getD i1 [])), (106, (.slice (some ⟨w16.heap.size, 0, none⟩) 2 2)), (107, iv 2), (108, iv (i2 : Int)), (29, iv (os.getD i2 0)), (117, (.slice (some ⟨b7, 0, none⟩) 2 2)), (118, iv 2), (119, iv (i3 : Int))] [] a ∧ St No w0 [own (.slice (some ⟨b7, 0, none⟩) 2 2) 3 1 ((ms).map fun n => [iv n]), own (.slice (some ⟨w16.heap.size, 0, none⟩) 2 2) 3 1 ((os).map fun n => [iv n]), own (.slice (some ⟨w14.heap.size, 0, none⟩) 2 2) 9 1 (cs.map fun s => [sv s]), blk w5.heap.size [iv o2, lv3] 25, own lv3 27 5 ((l2).map Rec.cells), blk w2.heap.size [iv o, lv1] 25, own lv1 27 5 ((l).map Rec.cells)] w) _ ⟨0, rfl, Nat.zero_le _, Z.pick [6, 15, 16, 17, 19, 21, 23, 25, 96, 97, 98, 27, 106, 107, 108, 29, 117, 118, 119], Y.select [0, 1, 2, 3, 4, 5, 6] (by decide)⟩ ?_
   rintro _ a w20 ⟨i3, rfl, hi3, Z, Y⟩
   refine aa fun K26 hK26 => wlv Z (v_lt rfl rfl) fun a Z => ab (hK26 _ _ <| ae fun K27 hK27 => ?_)
   refine ay Z rfl (fun hc8 => ?_) (fun hc8 => ?_)
   ·rw [hc8] at Z
    try simp only [qz] at hc8
    refine ar <| hK27 _ _ <| ae fun K28 hK28 => ao <| aa fun K29 hK29 => wlv Z ((aj (i := (i3 : Int)) (sT := 41) (Y.ownAt (i := 0) rfl) rfl rfl (Tryd.runUnderlying41 _) (Tryd.sizeOf3 _) (by omega) (by rw [List.length_map]; omega)).as (v' := slAddr (.slice (some ⟨b7, 0, none⟩) 2 2) (i3 * 1)) rfl) fun a Z => wlv Z (aw (u := iv (ms.getD i3 0)) (i := i3) (j := 0) (Y.ownAt (i := 0) rfl) (by rw [List.length_map]; omega) rfl (Tryd.isAgg3 _) (by rw [bq (0 : Int)]; rfl)) fun a Z => wla Z rfl fun a Z => ?_
    refine ab (hK29 _ _ <| aa fun K30 hK30 => ?_)
    refine wlm Z rfl fun a Z => wlm Z rfl fun a Z => az (E := 9) (sz := 1) rfl [[sv root], [sv root2]] (by kernel_rfl) (by simp) rfl (by decide) (by decide) Z Y ?_
    clear Z Y
    intro a w21 Z Y
    refine wlv Z ((aH (sT := 45) (Y.ownAt (i := 0) rfl) rfl rfl (Tryd.runUnderlying45 _)).asi (m' := 2) (by rfl)) fun a Z => wlm Z rfl fun a Z => ab (hK30 _ _ <| ao ?_)
    obtain ⟨rs, hrs⟩ : ∃ z : List By, z = [root, root2] := ⟨_, rfl⟩
    have hrs2 : rs.length = 2 := by rw [hrs]; rfl
    have Y : St No w0 [own (.slice (some ⟨w20.heap.size, 0, none⟩) 2 2) 9 1 (rs.map fun s => [sv s]), own (.slice (some ⟨b7, 0, none⟩) 2 2) 3 1 ((ms).map fun n => [iv n]), own (.slice (some ⟨w16.heap.size, 0, none⟩) 2 2) 3 1 ((os).map fun n => [iv n]), own (.slice (some ⟨w14.heap.size, 0, none⟩) 2 2) 9 1 (cs.map fun s => [sv s]), blk w5.heap.size [iv o2, lv3] 25, own lv3 27 5 ((l2).map Rec.cells), blk w2.heap.size [iv o, lv1] 25, own lv1 27 5 ((l).map Rec.cells)] w21 := by rw [hrs]; exact Y
    refine aN (fun m a w => ∃ (i4 : Nat), m = 2 - i4 ∧ (i4 ≤ 2) ∧ Fr 189 [(6, iv n), (15, pt w2.heap.size), (16, pt w5.heap.size), (17, sv kk), (19, sv tag), (21, sv root), (23, sv root2), (25, sv (aD o (l.length : Int) root)), (96, (.slice (some ⟨w14.heap.size, 0, none⟩) 2 2)), (97, iv 2), (98, iv (i1 : Int)), (27, sv (cs.getD i1 [])), (106, (.slice (some ⟨w16.heap.size, 0, none⟩) 2 2)), (107, iv 2), (108, iv (i2 : Int)), (29, iv (os.getD i2 0)), (117, (.slice (some ⟨b7, 0, none⟩) 2 2)), (118, iv 2), (119, iv (i3 : Int)), (31, iv (ms.getD i3 0)), (125, (.slice (some ⟨w20.heap.size, 0, none⟩) 2 2)), (126, iv 2), (127, iv (i4 : Int))] [] a ∧ St No w0 [own (.slice (some ⟨w20.heap.size, 0, none⟩) 2 2) 9 1 (rs.map fun s => [sv s]), own (.slice (some ⟨b7, 0, none⟩) 2 2) 3 1 ((ms).map fun n => [iv n]), own (.slice (some ⟨w16.heap.size, 0, none⟩) 2 2) 3 1 ((os).map fun n => [iv n]), own (.slice (some ⟨w14.heap.size, 0, none⟩) 2 2) 9 1 (cs.map fun s => [sv s]), blk w5.heap.size [iv o2, lv3] 25, own lv3 27 5 ((l2).map Rec.cells), blk w2.heap.size [iv o, lv1] 25, own lv1 27 5 ((l).map Rec.cells)] w) _ ⟨0, rfl, Nat.zero_le _, Z.pick [6, 15, 16, 17, 19, 21, 23, 25, 96, 97, 98, 27, 106, 107, 108, 29, 117, 118, 119, 31, 125, 126, 127], Y.select [0, 1, 2, 3, 4, 5, 6, 7] (by decide)⟩ ?_
    rintro _ a w22 ⟨i4, rfl, hi4, Z, Y⟩
    refine aa fun K31 hK31 => wlv Z (v_lt rfl rfl) fun a Z => ab (hK31 _ _ <| ae fun K32 hK32 => ?_)
    refine ay Z rfl (fun hc9 => ?_) (fun hc9 => ?_)
    ·rw [hc9] at Z
     try simp only [qz] at hc9
     refine ar <| hK32 _ _ <| ae fun K33 hK33 => ao <| aa fun K34 hK34 => wlv Z ((aj (i := (i4 : Int)) (sT := 45) (Y.ownAt (i := 0) rfl) rfl rfl (Tryd.runUnderlying45 _) (Tryd.sizeOf9 _) (by omega) (by rw [List.length_map]; omega)).as (v' := slAddr (.slice (some ⟨w20.heap.size, 0, none⟩) 2 2) (i4 * 1)) rfl) fun a Z => wlv Z (aw (u := sv (rs.getD i4 [])) (i := i4) (j := 0) (Y.ownAt (i := 0) rfl) (by rw [List.length_map]; omega) rfl (Tryd.isAgg9 _) (by rw [bq ([] : By)]; rfl)) fun a Z => wla Z rfl fun a Z => ?_
     refine ab (hK34 _ _ <| ae fun K35 hK35 => ?_)
     refine aa fun K36 hK36 => wlm Z rfl fun a Z => wlm Z rfl fun a Z => wlv Z (dx rfl rfl) fun a Z => wlm Z rfl fun a Z => ?_
     rcases Bool.eq_false_or_eq_true (decide (cs.getD i1 [] = kk)) with hb10 | hb10
     ·rw [hb10] at Z
      try simp only [qz] at hb10
      refine wly Z (ah rfl) fun a Z => wly Z (aq (v := pt w2.heap.size) rfl (by kernel_rfl)) fun a Z => wly Z (ai (Y.get (k := 6) rfl) rfl (Tryd.isAgg3 _) rfl) fun a Z => wly Z (v_eq rfl rfl) fun a Z => wlv Z (aC rfl rfl) fun a Z => wlm Z rfl fun a Z => ?_
      rcases Bool.eq_false_or_eq_true (decide (os.getD i2 0 = o)) with hb11 | hb11
      ·rw [hb11] at Z
       try simp only [qz] at hb11
       refine wly Z (ah rfl) fun a Z => wly Z (aq (v := .pointer (some ⟨w2.heap.size, 1, none⟩)) rfl (by kernel_rfl)) fun a Z => wly Z (ai (Y.get (k := 6) rfl) rfl (Tryd.isAgg23 _) rfl) fun a Z => wly Z ((aH (sT := 23) (Y.ownAt (i := 7) rfl) rfl rfl (Tryd.runUnderlying23 _)).asi (m' := (l.length : Int)) (by rw [List.length_map])) fun a Z => wly Z (v_eq rfl rfl) fun a Z => wlv Z (aC rfl rfl) fun a Z => wlm Z rfl fun a Z => ?_
       rcases Bool.eq_false_or_eq_true (decide (ms.getD i3 0 = (l.length : Int))) with hb12 | hb12
       ·rw [hb12] at Z
        try simp only [qz] at hb12
        refine wly Z (ah rfl) fun a Z => wly Z (ah rfl) fun a Z => wly Z (dx rfl rfl) fun a Z => wlv Z (aC rfl rfl) fun a Z => wlm Z rfl fun a Z => ?_
        rcases Bool.eq_false_or_eq_true (decide (rs.getD i4 [] = root)) with hb13 | hb13
        ·rw [hb13] at Z
         try simp only [qz] at hb13
         refine wln Z fun a Z => wln Z fun a Z => wln Z fun a Z => wln Z fun a Z => wln Z fun a Z => wln Z fun a Z => wln Z fun a Z => ?_
         refine wlv Z (aC rfl rfl) fun a Z => ab (hK36 _ _ ?_)
         replace Z : Fr 189 [(6, _), (15, _), (16, _), (17, _), (19, _), (21, _), (23, _), (25, _), (96, _), (97, _), (98, _), (27, _), (106, _), (107, _), (108, _), (29, _), (117, _), (118, _), (119, _), (31, _), (125, _), (126, _), (127, _), (33, _), (160, _)] [] a := Z.pick [6, 15, 16, 17, 19, 21, 23, 25, 96, 97, 98, 27, 106, 107, 108, 29, 117, 118, 119, 31, 125, 126, 127, 33, 160]
         refine aQ Z rfl ?_
         refine aI <| hK33 _ _ <| am <| wlv Z (aU rfl rfl ⟨by omega, by omega⟩) fun a Z => wlm Z rfl fun a Z => ab ?_
         refine ⟨_, ?_, i4 + 1, rfl, (by omega), Z.pick [6, 15, 16, 17, 19, 21, 23, 25, 96, 97, 98, 27, 106, 107, 108, 29, 117, 118, 119, 31, 125, 126, 127], Y.select [0, 1, 2, 3, 4, 5, 6, 7] (by decide)⟩
         omega
        rw [hb13] at Z
        try simp only [qz] at hb13
        refine wly Z (ah rfl) fun a Z => wly Z (ah rfl) fun a Z => wly Z (ah rfl) fun a Z => wly Z (ah rfl) fun a Z => wly Z (ah rfl) fun a Z => aT Z Y (by decide) rfl (by decide) rfl Tryd.call37 rfl (bZ (cs.getD i1 []) (os.getD i2 0) (ms.getD i3 0) (rs.getD i4 []) tag _ (Y.keepb hk0)) ?_
        clear Z Y
        intro a w23 Z Y
        refine wly Z (bh rfl) fun a Z => wlv Z (ax rfl rfl) fun a Z => ab (hK36 _ _ ?_)
        replace Z : Fr 189 [(6, _), (15, _), (16, _), (17, _), (19, _), (21, _), (23, _), (25, _), (96, _), (97, _), (98, _), (27, _), (106, _), (107, _), (108, _), (29, _), (117, _), (118, _), (119, _), (31, _), (125, _), (126, _), (127, _), (33, _), (160, _)] [] a := Z.pick [6, 15, 16, 17, 19, 21, 23, 25, 96, 97, 98, 27, 106, 107, 108, 29, 117, 118, 119, 31, 125, 126, 127, 33, 160]
        refine ay Z rfl (fun hc14 => ?_) (fun hc14 => ?_)
        ·rw [hc14] at Z
         try simp only [qz] at hc14
         refine aI <| hK33 _ _ <| am <| wlv Z (aU rfl rfl ⟨by omega, by omega⟩) fun a Z => wlm Z rfl fun a Z => ab ?_
         refine ⟨_, ?_, i4 + 1, rfl, (by omega), Z.pick [6, 15, 16, 17, 19, 21, 23, 25, 96, 97, 98, 27, 106, 107, 108, 29, 117, 118, 119, 31, 125, 126, 127], Y.select [0, 1, 2, 3, 4, 5, 6, 7] (by decide)⟩
         omega
        rw [hc14] at Z
        try simp only [qz] at hc14
        have hgen : genR sha (cs.getD i1 []) (os.getD i2 0) (ms.getD i3 0) (rs.getD i4 []) tag = true := by simpa using hc14
        obtain ⟨hg1, hg2, hg3, hg4, hg5⟩ := dj hgen
        have hcl2 := cG (os.getD i2 0) (ms.getD i3 0) (rs.getD i4 [])
        refine ar <| hK35 _ _ <| aa fun K37 hK37 => wlm Z rfl fun a Z => wlm Z rfl fun a Z => wlm Z rfl fun a Z => al Z Y (by decide) Tryd.call38 rfl (cD (os.getD i2 0) (ms.getD i3 0) (rs.getD i4 []) _ (by unfold small; omega) (by unfold small; omega) (by omega)) ?_
        clear Z Y
        intro a w24 Z Y
        refine wla Z rfl fun a Z => ab (hK37 _ _ ?_)
        replace Z : Fr 189 [(6, _), (15, _), (16, _), (17, _), (19, _), (21, _), (23, _), (25, _), (96, _), (97, _), (98, _), (27, _), (106, _), (107, _), (108, _), (29, _), (117, _), (118, _), (119, _), (31, _), (125, _), (126, _), (127, _), (34, _)] [] a := Z.pick [6, 15, 16, 17, 19, 21, 23, 25, 96, 97, 98, 27, 106, 107, 108, 29, 117, 118, 119, 31, 125, 126, 127, 34]
        refine aa fun K38 hK38 => wlm Z rfl fun a Z => wlv Z (bw rfl rfl (by simp only [List.length_append, List.length_cons, List.length_nil, aP aK]; omega)) fun a Z => wlm Z rfl fun a Z => wlv Z (bw rfl rfl (by simp only [List.length_append, List.length_cons, List.length_nil, aP aK]; omega)) fun a Z => wlm Z rfl fun a Z => al Z Y (by decide) Tryd.call39 rfl (cC (aD o (l.length : Int) root) _ (by omega)) ?_
        clear Z Y
        intro a w25 Z Y
        refine wlv Z (bw rfl rfl (by simp only [List.length_append, List.length_cons, List.length_nil, aP aK]; omega)) fun a Z => az (E := 9) (sz := 1) rfl [[sv (([0]) ++ (aD o (l.length : Int) root))], [sv ((([1]) ++ kk) ++ (leafH sha (aD o (l.length : Int) root)))]] (by kernel_rfl) (by simp) rfl (by decide) (by decide) Z Y ?_
        clear Z Y
        intro a w26 Z Y
        refine wla Z rfl fun a Z => ab (hK38 _ _ ?_)
        replace Z : Fr 189 [(6, _), (15, _), (16, _), (17, _), (19, _), (21, _), (23, _), (25, _), (96, _), (97, _), (98, _), (27, _), (106, _), (107, _), (108, _), (29, _), (117, _), (118, _), (119, _), (31, _), (125, _), (126, _), (127, _), (34, _), (35, _)] [] a := Z.pick [6, 15, 16, 17, 19, 21, 23, 25, 96, 97, 98, 27, 106, 107, 108, 29, 117, 118, 119, 31, 125, 126, 127, 34, 35]
        refine aa fun K39 hK39 => wlm Z rfl fun a Z => wlv Z (bw rfl rfl (by simp only [List.length_append, List.length_cons, List.length_nil, aP aK]; omega)) fun a Z => wlm Z rfl fun a Z => wlv Z (bw rfl rfl (by simp only [List.length_append, List.length_cons, List.length_nil, aP aK]; omega)) fun a Z => wlm Z rfl fun a Z => al Z Y (by decide) Tryd.call39 rfl (cC (aD (os.getD i2 0) (ms.getD i3 0) (rs.getD i4 [])) _ (by omega)) ?_
        clear Z Y
        intro a w27 Z Y
        refine wlv Z (bw rfl rfl (by simp only [List.length_append, List.length_cons, List.length_nil, aP aK]; omega)) fun a Z => az (E := 9) (sz := 1) rfl [[sv (([0]) ++ (aD (os.getD i2 0) (ms.getD i3 0) (rs.getD i4 [])))], [sv ((([1]) ++ (cs.getD i1 [])) ++ (leafH sha (aD (os.getD i2 0) (ms.getD i3 0) (rs.getD i4 []))))]] (by kernel_rfl) (by simp) rfl (by decide) (by decide) Z Y ?_
        clear Z Y
        intro a w28 Z Y
        refine wla Z rfl fun a Z => ab (hK39 _ _ ?_)
        replace Z : Fr 189 [(6, _), (15, _), (16, _), (17, _), (19, _), (21, _), (23, _), (25, _), (96, _), (97, _), (98, _), (27, _), (106, _), (107, _), (108, _), (29, _), (117, _), (118, _), (119, _), (31, _), (125, _), (126, _), (127, _), (35, _), (36, _)] [] a := Z.pick [6, 15, 16, 17, 19, 21, 23, 25, 96, 97, 98, 27, 106, 107, 108, 29, 117, 118, 119, 31, 125, 126, 127, 35, 36]
        refine aa fun K40 hK40 => wlm Z rfl fun a Z => wlm Z rfl fun a Z => al Z Y (by decide) Tryd.call40 rfl (bK (b := colxH [([0]) ++ (aD o (l.length : Int) root), (([1]) ++ kk) ++ (leafH sha (aD o (l.length : Int) root))] [([0]) ++ (aD (os.getD i2 0) (ms.getD i3 0) (rs.getD i4 [])), (([1]) ++ (cs.getD i1 [])) ++ (leafH sha (aD (os.getD i2 0) (ms.getD i3 0) (rs.getD i4 [])))]) (dt hk32 hob hln60 hr32 htag hgen (by rintro ⟨e1, e2, e3, e4⟩; first | exact hb13 e1 | exact hb13 e2 | exact hb13 e3 | exact hb13 e4)) (cZ (.slice (some ⟨w25.heap.size, 0, none⟩) 2 2) (.slice (some ⟨w27.heap.size, 0, none⟩) 2 2) _ _ _ (Y.ownAt (i := 1) rfl) (Y.ownAt (i := 0) rfl) (by intro z hz; simp only [List.mem_cons, List.not_mem_nil, or_false] at hz; rcases hz with rfl | rfl <;> (simp only [List.length_append, List.length_cons, List.length_nil, aP aK]; omega)) (by intro z hz; simp only [List.mem_cons, List.not_mem_nil, or_false] at hz; rcases hz with rfl | rfl <;> (simp only [List.length_append, List.length_cons, List.length_nil, aP aK]; omega)) (by simp))) ?_
        clear Z Y
        intro a w29 Z Y
        refine wlv Z ((bh rfl).asb (b' := false) rfl) fun a Z => ab (hK40 _ _ <| aL Z rfl ?_)
        refine ar <| hK33 _ _ <| am <| wlv Z (aU rfl rfl ⟨by omega, by omega⟩) fun a Z => wlm Z rfl fun a Z => ab ?_
        refine ⟨_, ?_, i4 + 1, rfl, (by omega), Z.pick [6, 15, 16, 17, 19, 21, 23, 25, 96, 97, 98, 27, 106, 107, 108, 29, 117, 118, 119, 31, 125, 126, 127], Y.select [2, 3, 4, 5, 6, 7, 8, 9] (by decide)⟩
        omega
       rw [hb12] at Z
       try simp only [qz] at hb12
       refine wln Z fun a Z => wln Z fun a Z => wln Z fun a Z => wlv Z (ax rfl rfl) fun a Z => wlm Z rfl fun a Z => wly Z (ah rfl) fun a Z => wly Z (ah rfl) fun a Z => wly Z (ah rfl) fun a Z => wly Z (ah rfl) fun a Z => wly Z (ah rfl) fun a Z => aT Z Y (by decide) rfl (by decide) rfl Tryd.call37 rfl (bZ (cs.getD i1 []) (os.getD i2 0) (ms.getD i3 0) (rs.getD i4 []) tag _ (Y.keepb hk0)) ?_
       clear Z Y
       intro a w30 Z Y
       refine wly Z (bh rfl) fun a Z => wlv Z (ax rfl rfl) fun a Z => ab (hK36 _ _ ?_)
       replace Z : Fr 189 [(6, _), (15, _), (16, _), (17, _), (19, _), (21, _), (23, _), (25, _), (96, _), (97, _), (98, _), (27, _), (106, _), (107, _), (108, _), (29, _), (117, _), (118, _), (119, _), (31, _), (125, _), (126, _), (127, _), (33, _), (160, _)] [] a := Z.pick [6, 15, 16, 17, 19, 21, 23, 25, 96, 97, 98, 27, 106, 107, 108, 29, 117, 118, 119, 31, 125, 126, 127, 33, 160]
       refine ay Z rfl (fun hc15 => ?_) (fun hc15 => ?_)
       ·rw [hc15] at Z
        try simp only [qz] at hc15
        refine aI <| hK33 _ _ <| am <| wlv Z (aU rfl rfl ⟨by omega, by omega⟩) fun a Z => wlm Z rfl fun a Z => ab ?_
        refine ⟨_, ?_, i4 + 1, rfl, (by omega), Z.pick [6, 15, 16, 17, 19, 21, 23, 25, 96, 97, 98, 27, 106, 107, 108, 29, 117, 118, 119, 31, 125, 126, 127], Y.select [0, 1, 2, 3, 4, 5, 6, 7] (by decide)⟩
        omega
       rw [hc15] at Z
       try simp only [qz] at hc15
       have hgen : genR sha (cs.getD i1 []) (os.getD i2 0) (ms.getD i3 0) (rs.getD i4 []) tag = true := by simpa using hc15
       obtain ⟨hg1, hg2, hg3, hg4, hg5⟩ := dj hgen
       have hcl2 := cG (os.getD i2 0) (ms.getD i3 0) (rs.getD i4 [])
       refine ar <| hK35 _ _ <| aa fun K41 hK41 => wlm Z rfl fun a Z => wlm Z rfl fun a Z => wlm Z rfl fun a Z => al Z Y (by decide) Tryd.call38 rfl (cD (os.getD i2 0) (ms.getD i3 0) (rs.getD i4 []) _ (by unfold small; omega) (by unfold small; omega) (by omega)) ?_
       clear Z Y
       intro a w31 Z Y
       refine wla Z rfl fun a Z => ab (hK41 _ _ ?_)
       replace Z : Fr 189 [(6, _), (15, _), (16, _), (17, _), (19, _), (21, _), (23, _), (25, _), (96, _), (97, _), (98, _), (27, _), (106, _), (107, _), (108, _), (29, _), (117, _), (118, _), (119, _), (31, _), (125, _), (126, _), (127, _), (34, _)] [] a := Z.pick [6, 15, 16, 17, 19, 21, 23, 25, 96, 97, 98, 27, 106, 107, 108, 29, 117, 118, 119, 31, 125, 126, 127, 34]
       refine aa fun K42 hK42 => wlm Z rfl fun a Z => wlv Z (bw rfl rfl (by simp only [List.length_append, List.length_cons, List.length_nil, aP aK]; omega)) fun a Z => wlm Z rfl fun a Z => wlv Z (bw rfl rfl (by simp only [List.length_append, List.length_cons, List.length_nil, aP aK]; omega)) fun a Z => wlm Z rfl fun a Z => al Z Y (by decide) Tryd.call39 rfl (cC (aD o (l.length : Int) root) _ (by omega)) ?_
       clear Z Y
       intro a w32 Z Y
       refine wlv Z (bw rfl rfl (by simp only [List.length_append, List.length_cons, List.length_nil, aP aK]; omega)) fun a Z => az (E := 9) (sz := 1) rfl [[sv (([0]) ++ (aD o (l.length : Int) root))], [sv ((([1]) ++ kk) ++ (leafH sha (aD o (l.length : Int) root)))]] (by kernel_rfl) (by simp) rfl (by decide) (by decide) Z Y ?_
       clear Z Y
       intro a w33 Z Y
       refine wla Z rfl fun a Z => ab (hK42 _ _ ?_)
       replace Z : Fr 189 [(6, _), (15, _), (16, _), (17, _), (19, _), (21, _), (23, _), (25, _), (96, _), (97, _), (98, _), (27, _), (106, _), (107, _), (108, _), (29, _), (117, _), (118, _), (119, _), (31, _), (125, _), (126, _), (127, _), (34, _), (35, _)] [] a := Z.pick [6, 15, 16, 17, 19, 21, 23, 25, 96, 97, 98, 27, 106, 107, 108, 29, 117, 118, 119, 31, 125, 126, 127, 34, 35]
       refine aa fun K43 hK43 => wlm Z rfl fun a Z => wlv Z (bw rfl rfl (by simp only [List.length_append, List.length_cons, List.length_nil, aP aK]; omega)) fun a Z => wlm Z rfl fun a Z => wlv Z (bw rfl rfl (by simp only [List.length_append, List.length_cons, List.length_nil, aP aK]; omega)) fun a Z => wlm Z rfl fun a Z => al Z Y (by decide) Tryd.call39 rfl (cC (aD (os.getD i2 0) (ms.getD i3 0) (rs.getD i4 [])) _ (by omega)) ?_
       clear Z Y
       intro a w34 Z Y
       refine wlv Z (bw rfl rfl (by simp only [List.length_append, List.length_cons, List.length_nil, aP aK]; omega)) fun a Z => az (E := 9) (sz := 1) rfl [[sv (([0]) ++ (aD (os.getD i2 0) (ms.getD i3 0) (rs.getD i4 [])))], [sv ((([1]) ++ (cs.getD i1 [])) ++ (leafH sha (aD (os.getD i2 0) (ms.getD i3 0) (rs.getD i4 []))))]] (by kernel_rfl) (by simp) rfl (by decide) (by decide) Z Y ?_
       clear Z Y
       intro a w35 Z Y
       refine wla Z rfl fun a Z => ab (hK43 _ _ ?_)
       replace Z : Fr 189 [(6, _), (15, _), (16, _), (17, _), (19, _), (21, _), (23, _), (25, _), (96, _), (97, _), (98, _), (27, _), (106, _), (107, _), (108, _), (29, _), (117, _), (118, _), (119, _), (31, _), (125, _), (126, _), (127, _), (35, _), (36, _)] [] a := Z.pick [6, 15, 16, 17, 19, 21, 23, 25, 96, 97, 98, 27, 106, 107, 108, 29, 117, 118, 119, 31, 125, 126, 127, 35, 36]
       refine aa fun K44 hK44 => wlm Z rfl fun a Z => wlm Z rfl fun a Z => al Z Y (by decide) Tryd.call40 rfl (bK (b := colxH [([0]) ++ (aD o (l.length : Int) root), (([1]) ++ kk) ++ (leafH sha (aD o (l.length : Int) root))] [([0]) ++ (aD (os.getD i2 0) (ms.getD i3 0) (rs.getD i4 [])), (([1]) ++ (cs.getD i1 [])) ++ (leafH sha (aD (os.getD i2 0) (ms.getD i3 0) (rs.getD i4 [])))]) (dt hk32 hob hln60 hr32 htag hgen (by rintro ⟨e1, e2, e3, e4⟩; first | exact hb12 e1 | exact hb12 e2 | exact hb12 e3 | exact hb12 e4)) (cZ (.slice (some ⟨w32.heap.size, 0, none⟩) 2 2) (.slice (some ⟨w34.heap.size, 0, none⟩) 2 2) _ _ _ (Y.ownAt (i := 1) rfl) (Y.ownAt (i := 0) rfl) (by intro z hz; simp only [List.mem_cons, List.not_mem_nil, or_false] at hz; rcases hz with rfl | rfl <;> (simp only [List.length_append, List.length_cons, List.length_nil, aP aK]; omega)) (by intro z hz; simp only [List.mem_cons, List.not_mem_nil, or_false] at hz; rcases hz with rfl | rfl <;> (simp only [List.length_append, List.length_cons, List.length_nil, aP aK]; omega)) (by simp))) ?_
       clear Z Y
       intro a w36 Z Y
       refine wlv Z ((bh rfl).asb (b' := false) rfl) fun a Z => ab (hK44 _ _ <| aL Z rfl ?_)
       refine ar <| hK33 _ _ <| am <| wlv Z (aU rfl rfl ⟨by omega, by omega⟩) fun a Z => wlm Z rfl fun a Z => ab ?_
       refine ⟨_, ?_, i4 + 1, rfl, (by omega), Z.pick [6, 15, 16, 17, 19, 21, 23, 25, 96, 97, 98, 27, 106, 107, 108, 29, 117, 118, 119, 31, 125, 126, 127], Y.select [2, 3, 4, 5, 6, 7, 8, 9] (by decide)⟩
       omega
      rw [hb11] at Z
      try simp only [qz] at hb11
      refine wln Z fun a Z => wln Z fun a Z => wln Z fun a Z => wln Z fun a Z => wln Z fun a Z => wlv Z (ax rfl rfl) fun a Z => wlm Z rfl fun a Z => wln Z fun a Z => ?_
      refine wln Z fun a Z => wln Z fun a Z => wlv Z (ax rfl rfl) fun a Z => wlm Z rfl fun a Z => wly Z (ah rfl) fun a Z => wly Z (ah rfl) fun a Z => wly Z (ah rfl) fun a Z => wly Z (ah rfl) fun a Z => wly Z (ah rfl) fun a Z => aT Z Y (by decide) rfl (by decide) rfl Tryd.call37 rfl (bZ (cs.getD i1 []) (os.getD i2 0) (ms.getD i3 0) (rs.getD i4 []) tag _ (Y.keepb hk0)) ?_
      clear Z Y
      intro a w37 Z Y
      refine wly Z (bh rfl) fun a Z => wlv Z (ax rfl rfl) fun a Z => ab (hK36 _ _ ?_)
      replace Z : Fr 189 [(6, _), (15, _), (16, _), (17, _), (19, _), (21, _), (23, _), (25, _), (96, _), (97, _), (98, _), (27, _), (106, _), (107, _), (108, _), (29, _), (117, _), (118, _), (119, _), (31, _), (125, _), (126, _), (127, _), (33, _), (160, _)] [] a := Z.pick [6, 15, 16, 17, 19, 21, 23, 25, 96, 97, 98, 27, 106, 107, 108, 29, 117, 118, 119, 31, 125, 126, 127, 33, 160]
      refine ay Z rfl (fun hc16 => ?_) (fun hc16 => ?_)
      ·rw [hc16] at Z
       try simp only [qz] at hc16
       refine aI <| hK33 _ _ <| am <| wlv Z (aU rfl rfl ⟨by omega, by omega⟩) fun a Z => wlm Z rfl fun a Z => ab ?_
       refine ⟨_, ?_, i4 + 1, rfl, (by omega), Z.pick [6, 15, 16, 17, 19, 21, 23, 25, 96, 97, 98, 27, 106, 107, 108, 29, 117, 118, 119, 31, 125, 126, 127], Y.select [0, 1, 2, 3, 4, 5, 6, 7] (by decide)⟩
       omega
      rw [hc16] at Z
      try simp only [qz] at hc16
      have hgen : genR sha (cs.getD i1 []) (os.getD i2 0) (ms.getD i3 0) (rs.getD i4 []) tag = true := by simpa using hc16
      obtain ⟨hg1, hg2, hg3, hg4, hg5⟩ := dj hgen
      have hcl2 := cG (os.getD i2 0) (ms.getD i3 0) (rs.getD i4 [])
      refine ar <| hK35 _ _ <| aa fun K45 hK45 => wlm Z rfl fun a Z => wlm Z rfl fun a Z => wlm Z rfl fun a Z => al Z Y (by decide) Tryd.call38 rfl (cD (os.getD i2 0) (ms.getD i3 0) (rs.getD i4 []) _ (by unfold small; omega) (by unfold small; omega) (by omega)) ?_
      clear Z Y
      intro a w38 Z Y
      refine wla Z rfl fun a Z => ab (hK45 _ _ ?_)
      replace Z : Fr 189 [(6, _), (15, _), (16, _), (17, _), (19, _), (21, _), (23, _), (25, _), (96, _), (97, _), (98, _), (27, _), (106, _), (107, _), (108, _), (29, _), (117, _), (118, _), (119, _), (31, _), (125, _), (126, _), (127, _), (34, _)] [] a := Z.pick [6, 15, 16, 17, 19, 21, 23, 25, 96, 97, 98, 27, 106, 107, 108, 29, 117, 118, 119, 31, 125, 126, 127, 34]
      refine aa fun K46 hK46 => wlm Z rfl fun a Z => wlv Z (bw rfl rfl (by simp only [List.length_append, List.length_cons, List.length_nil, aP aK]; omega)) fun a Z => wlm Z rfl fun a Z => wlv Z (bw rfl rfl (by simp only [List.length_append, List.length_cons, List.length_nil, aP aK]; omega)) fun a Z => wlm Z rfl fun a Z => al Z Y (by decide) Tryd.call39 rfl (cC (aD o (l.length : Int) root) _ (by omega)) ?_
      clear Z Y
      intro a w39 Z Y
      refine wlv Z (bw rfl rfl (by simp only [List.length_append, List.length_cons, List.length_nil, aP aK]; omega)) fun a Z => az (E := 9) (sz := 1) rfl [[sv (([0]) ++ (aD o (l.length : Int) root))], [sv ((([1]) ++ kk) ++ (leafH sha (aD o (l.length : Int) root)))]] (by kernel_rfl) (by simp) rfl (by decide) (by decide) Z Y ?_
      clear Z Y
      intro a w40 Z Y
      refine wla Z rfl fun a Z => ab (hK46 _ _ ?_)
      replace Z : Fr 189 [(6, _), (15, _), (16, _), (17, _), (19, _), (21, _), (23, _), (25, _), (96, _), (97, _), (98, _), (27, _), (106, _), (107, _), (108, _), (29, _), (117, _), (118, _), (119, _), (31, _), (125, _), (126, _), (127, _), (34, _), (35, _)] [] a := Z.pick [6, 15, 16, 17, 19, 21, 23, 25, 96, 97, 98, 27, 106, 107, 108, 29, 117, 118, 119, 31, 125, 126, 127, 34, 35]
      refine aa fun K47 hK47 => wlm Z rfl fun a Z => wlv Z (bw rfl rfl (by simp only [List.length_append, List.length_cons, List.length_nil, aP aK]; omega)) fun a Z => wlm Z rfl fun a Z => wlv Z (bw rfl rfl (by simp only [List.length_append, List.length_cons, List.length_nil, aP aK]; omega)) fun a Z => wlm Z rfl fun a Z => al Z Y (by decide) Tryd.call39 rfl (cC (aD (os.getD i2 0) (ms.getD i3 0) (rs.getD i4 [])) _ (by omega)) ?_
      clear Z Y
      intro a w41 Z Y
      refine wlv Z (bw rfl rfl (by simp only [List.length_append, List.length_cons, List.length_nil, aP aK]; omega)) fun a Z => az (E := 9) (sz := 1) rfl [[sv (([0]) ++ (aD (os.getD i2 0) (ms.getD i3 0) (rs.getD i4 [])))], [sv ((([1]) ++ (cs.getD i1 [])) ++ (leafH sha (aD (os.getD i2 0) (ms.getD i3 0) (rs.getD i4 []))))]] (by kernel_rfl) (by simp) rfl (by decide) (by decide) Z Y ?_
      clear Z Y
      intro a w42 Z Y
      refine wla Z rfl fun a Z => ab (hK47 _ _ ?_)
      replace Z : Fr 189 [(6, _), (15, _), (16, _), (17, _), (19, _), (21, _), (23, _), (25, _), (96, _), (97, _), (98, _), (27, _), (106, _), (107, _), (108, _), (29, _), (117, _), (118, _), (119, _), (31, _), (125, _), (126, _), (127, _), (35, _), (36, _)] [] a := Z.pick [6, 15, 16, 17, 19, 21, 23, 25, 96, 97, 98, 27, 106, 107, 108, 29, 117, 118, 119, 31, 125, 126, 127, 35, 36]
      refine aa fun K48 hK48 => wlm Z rfl fun a Z => wlm Z rfl fun a Z => al Z Y (by decide) Tryd.call40 rfl (bK (b := colxH [([0]) ++ (aD o (l.length : Int) root), (([1]) ++ kk) ++ (leafH sha (aD o (l.length : Int) root))] [([0]) ++ (aD (os.getD i2 0) (ms.getD i3 0) (rs.getD i4 [])), (([1]) ++ (cs.getD i1 [])) ++ (leafH sha (aD (os.getD i2 0) (ms.getD i3 0) (rs.getD i4 [])))]) (dt hk32 hob hln60 hr32 htag hgen (by rintro ⟨e1, e2, e3, e4⟩; first | exact hb11 e1 | exact hb11 e2 | exact hb11 e3 | exact hb11 e4)) (cZ (.slice (some ⟨w39.heap.size, 0, none⟩) 2 2) (.slice (some ⟨w41.heap.size, 0, none⟩) 2 2) _ _ _ (Y.ownAt (i := 1) rfl) (Y.ownAt (i := 0) rfl) (by intro z hz; simp only [List.mem_cons, List.not_mem_nil, or_false] at hz; rcases hz with rfl | rfl <;> (simp only [List.length_append, List.length_cons, List.length_nil, aP aK]; omega)) (by intro z hz; simp only [List.mem_cons, List.not_mem_nil, or_false] at hz; rcases hz with rfl | rfl <;> (simp only [List.length_append, List.length_cons, List.length_nil, aP aK]; omega)) (by simp))) ?_
      clear Z Y
      intro a w43 Z Y
      refine wlv Z ((bh rfl).asb (b' := false) rfl) fun a Z => ab (hK48 _ _ <| aL Z rfl ?_)
      refine ar <| hK33 _ _ <| am <| wlv Z (aU rfl rfl ⟨by omega, by omega⟩) fun a Z => wlm Z rfl fun a Z => ab ?_
      refine ⟨_, ?_, i4 + 1, rfl, (by omega), Z.pick [6, 15, 16, 17, 19, 21, 23, 25, 96, 97, 98, 27, 106, 107, 108, 29, 117, 118, 119, 31, 125, 126, 127], Y.select [2, 3, 4, 5, 6, 7, 8, 9] (by decide)⟩
      omega
     rw [hb10] at Z
     try simp only [qz] at hb10
     refine wln Z fun a Z => wln Z fun a Z => wln Z fun a Z => wln Z fun a Z => wlv Z (ax rfl rfl) fun a Z => wlm Z rfl fun a Z => wln Z fun a Z => wln Z fun a Z => ?_
     refine wln Z fun a Z => wln Z fun a Z => wln Z fun a Z => wlv Z (ax rfl rfl) fun a Z => wlm Z rfl fun a Z => wln Z fun a Z => wln Z fun a Z => wln Z fun a Z => ?_
     refine wlv Z (ax rfl rfl) fun a Z => wlm Z rfl fun a Z => wly Z (ah rfl) fun a Z => wly Z (ah rfl) fun a Z => wly Z (ah rfl) fun a Z => wly Z (ah rfl) fun a Z => wly Z (ah rfl) fun a Z => aT Z Y (by decide) rfl (by decide) rfl Tryd.call37 rfl (bZ (cs.getD i1 []) (os.getD i2 0) (ms.getD i3 0) (rs.getD i4 []) tag _ (Y.keepb hk0)) ?_
     clear Z Y
     intro a w44 Z Y
     refine wly Z (bh rfl) fun a Z => wlv Z (ax rfl rfl) fun a Z => ab (hK36 _ _ ?_)
     replace Z : Fr 189 [(6, _), (15, _), (16, _), (17, _), (19, _), (21, _), (23, _), (25, _), (96, _), (97, _), (98, _), (27, _), (106, _), (107, _), (108, _), (29, _), (117, _), (118, _), (119, _), (31, _), (125, _), (126, _), (127, _), (33, _), (160, _)] [] a := Z.pick [6, 15, 16, 17, 19, 21, 23, 25, 96, 97, 98, 27, 106, 107, 108, 29, 117, 118, 119, 31, 125, 126, 127, 33, 160]
     refine ay Z rfl (fun hc17 => ?_) (fun hc17 => ?_)
     ·rw [hc17] at Z
      try simp only [qz] at hc17
      refine aI <| hK33 _ _ <| am <| wlv Z (aU rfl rfl ⟨by omega, by omega⟩) fun a Z => wlm Z rfl fun a Z => ab ?_
      refine ⟨_, ?_, i4 + 1, rfl, (by omega), Z.pick [6, 15, 16, 17, 19, 21, 23, 25, 96, 97, 98, 27, 106, 107, 108, 29, 117, 118, 119, 31, 125, 126, 127], Y.select [0, 1, 2, 3, 4, 5, 6, 7] (by decide)⟩
      omega
     rw [hc17] at Z
     try simp only [qz] at hc17
     have hgen : genR sha (cs.getD i1 []) (os.getD i2 0) (ms.getD i3 0) (rs.getD i4 []) tag = true := by simpa using hc17
     obtain ⟨hg1, hg2, hg3, hg4, hg5⟩ := dj hgen
     have hcl2 := cG (os.getD i2 0) (ms.getD i3 0) (rs.getD i4 [])
     refine ar <| hK35 _ _ <| aa fun K49 hK49 => wlm Z rfl fun a Z => wlm Z rfl fun a Z => wlm Z rfl fun a Z => al Z Y (by decide) Tryd.call38 rfl (cD (os.getD i2 0) (ms.getD i3 0) (rs.getD i4 []) _ (by unfold small; omega) (by unfold small; omega) (by omega)) ?_
     clear Z Y
     intro a w45 Z Y
     refine wla Z rfl fun a Z => ab (hK49 _ _ ?_)
     replace Z : Fr 189 [(6, _), (15, _), (16, _), (17, _), (19, _), (21, _), (23, _), (25, _), (96, _), (97, _), (98, _), (27, _), (106, _), (107, _), (108, _), (29, _), (117, _), (118, _), (119, _), (31, _), (125, _), (126, _), (127, _), (34, _)] [] a := Z.pick [6, 15, 16, 17, 19, 21, 23, 25, 96, 97, 98, 27, 106, 107, 108, 29, 117, 118, 119, 31, 125, 126, 127, 34]
     refine aa fun K50 hK50 => wlm Z rfl fun a Z => wlv Z (bw rfl rfl (by simp only [List.length_append, List.length_cons, List.length_nil, aP aK]; omega)) fun a Z => wlm Z rfl fun a Z => wlv Z (bw rfl rfl (by simp only [List.length_append, List.length_cons, List.length_nil, aP aK]; omega)) fun a Z => wlm Z rfl fun a Z => al Z Y (by decide) Tryd.call39 rfl (cC (aD o (l.length : Int) root) _ (by omega)) ?_
     clear Z Y
     intro a w46 Z Y
     refine wlv Z (bw rfl rfl (by simp only [List.length_append, List.length_cons, List.length_nil, aP aK]; omega)) fun a Z => az (E := 9) (sz := 1) rfl [[sv (([0]) ++ (aD o (l.length : Int) root))], [sv ((([1]) ++ kk) ++ (leafH sha (aD o (l.length : Int) root)))]] (by kernel_rfl) (by simp) rfl (by decide) (by decide) Z Y ?_
     clear Z Y
     intro a w47 Z Y
     refine wla Z rfl fun a Z => ab (hK50 _ _ ?_)
     replace Z : Fr 189 [(6, _), (15, _), (16, _), (17, _), (19, _), (21, _), (23, _), (25, _), (96, _), (97, _), (98, _), (27, _), (106, _), (107, _), (108, _), (29, _), (117, _), (118, _), (119, _), (31, _), (125, _), (126, _), (127, _), (34, _), (35, _)] [] a := Z.pick [6, 15, 16, 17, 19, 21, 23, 25, 96, 97, 98, 27, 106, 107, 108, 29, 117, 118, 119, 31, 125, 126, 127, 34, 35]
     refine aa fun K51 hK51 => wlm Z rfl fun a Z => wlv Z (bw rfl rfl (by simp only [List.length_append, List.length_cons, List.length_nil, aP aK]; omega)) fun a Z => wlm Z rfl fun a Z => wlv Z (bw rfl rfl (by simp only [List.length_append, List.length_cons, List.length_nil, aP aK]; omega)) fun a Z => wlm Z rfl fun a Z => al Z Y (by decide) Tryd.call39 rfl (cC (aD (os.getD i2 0) (ms.getD i3 0) (rs.getD i4 [])) _ (by omega)) ?_
     clear Z Y
     intro a w48 Z Y
     refine wlv Z (bw rfl rfl (by simp only [List.length_append, List.length_cons, List.length_nil, aP aK]; omega)) fun a Z => az (E := 9) (sz := 1) rfl [[sv (([0]) ++ (aD (os.getD i2 0) (ms.getD i3 0) (rs.getD i4 [])))], [sv ((([1]) ++ (cs.getD i1 [])) ++ (leafH sha (aD (os.getD i2 0) (ms.getD i3 0) (rs.getD i4 []))))]] (by kernel_rfl) (by simp) rfl (by decide) (by decide) Z Y ?_
     clear Z Y
     intro a w49 Z Y
     refine wla Z rfl fun a Z => ab (hK51 _ _ ?_)
     replace Z : Fr 189 [(6, _), (15, _), (16, _), (17, _), (19, _), (21, _), (23, _), (25, _), (96, _), (97, _), (98, _), (27, _), (106, _), (107, _), (108, _), (29, _), (117, _), (118, _), (119, _), (31, _), (125, _), (126, _), (127, _), (35, _), (36, _)] [] a := Z.pick [6, 15, 16, 17, 19, 21, 23, 25, 96, 97, 98, 27, 106, 107, 108, 29, 117, 118, 119, 31, 125, 126, 127, 35, 36]
     refine aa fun K52 hK52 => wlm Z rfl fun a Z => wlm Z rfl fun a Z => al Z Y (by decide) Tryd.call40 rfl (bK (b := colxH [([0]) ++ (aD o (l.length : Int) root), (([1]) ++ kk) ++ (leafH sha (aD o (l.length : Int) root))] [([0]) ++ (aD (os.getD i2 0) (ms.getD i3 0) (rs.getD i4 [])), (([1]) ++ (cs.getD i1 [])) ++ (leafH sha (aD (os.getD i2 0) (ms.getD i3 0) (rs.getD i4 [])))]) (dt hk32 hob hln60 hr32 htag hgen (by rintro ⟨e1, e2, e3, e4⟩; first | exact hb10 e1 | exact hb10 e2 | exact hb10 e3 | exact hb10 e4)) (cZ (.slice (some ⟨w46.heap.size, 0, none⟩) 2 2) (.slice (some ⟨w48.heap.size, 0, none⟩) 2 2) _ _ _ (Y.ownAt (i := 1) rfl) (Y.ownAt (i := 0) rfl) (by intro z hz; simp only [List.mem_cons, List.not_mem_nil, or_false] at hz; rcases hz with rfl | rfl <;> (simp only [List.length_append, List.length_cons, List.length_nil, aP aK]; omega)) (by intro z hz; simp only [List.mem_cons, List.not_mem_nil, or_false] at hz; rcases hz with rfl | rfl <;> (simp only [List.length_append, List.length_cons, List.length_nil, aP aK]; omega)) (by simp))) ?_
     clear Z Y
     intro a w50 Z Y
     refine wlv Z ((bh rfl).asb (b' := false) rfl) fun a Z => ab (hK52 _ _ <| aL Z rfl ?_)
     refine ar <| hK33 _ _ <| am <| wlv Z (aU rfl rfl ⟨by omega, by omega⟩) fun a Z => wlm Z rfl fun a Z => ab ?_
     refine ⟨_, ?_, i4 + 1, rfl, (by omega), Z.pick [6, 15, 16, 17, 19, 21, 23, 25, 96, 97, 98, 27, 106, 107, 108, 29, 117, 118, 119, 31, 125, 126, 127], Y.select [2, 3, 4, 5, 6, 7, 8, 9] (by decide)⟩
     omega
    rw [hc9] at Z
    try simp only [qz] at hc9
    refine aI <| hK28 _ _ <| am <| wlv Z (aU rfl rfl ⟨by omega, by omega⟩) fun a Z => wlm Z rfl fun a Z => ab ?_
    refine ⟨_, ?_, i3 + 1, rfl, (by omega), Z.pick [6, 15, 16, 17, 19, 21, 23, 25, 96, 97, 98, 27, 106, 107, 108, 29, 117, 118, 119], Y.select [1, 2, 3, 4, 5, 6, 7] (by decide)⟩
    omega
   rw [hc8] at Z
   try simp only [qz] at hc8
   refine aI <| hK23 _ _ <| am <| wlv Z (aU rfl rfl ⟨by omega, by omega⟩) fun a Z => wlm Z rfl fun a Z => ab ?_
   refine ⟨_, ?_, i2 + 1, rfl, (by omega), Z.pick [6, 15, 16, 17, 19, 21, 23, 25, 96, 97, 98, 27, 106, 107, 108], Y.select [1, 2, 3, 4, 5, 6] (by decide)⟩
   omega
  rw [hc6] at Z
  try simp only [qz] at hc6
  refine aI <| hK18 _ _ <| am <| wlv Z (aU rfl rfl ⟨by omega, by omega⟩) fun a Z => wlm Z rfl fun a Z => ab ?_
  refine ⟨_, ?_, i1 + 1, rfl, (by omega), Z.pick [6, 15, 16, 17, 19, 21, 23, 25, 96, 97, 98], Y.select [1, 2, 3, 4, 5] (by decide)⟩
  omega
 rw [hc5] at Z
 try simp only [qz] at hc5
 refine aI <| hK14 _ _ <| aa fun K53 hK53 => wla Z rfl fun a Z => ab (hK53 _ _ ?_)
 replace Z : Fr 189 [(14, _)] [] a := Z.pick [14]
 replace Y : St No w0 [_, _] w16 := Y.mask [false, false, true, false, true]
 refine au ?_
 refine ap Z Tryd.results7 (ac rfl ag) ?_
 exact ⟨by rfl, Y.ext⟩
end Go.Proofs.YtddfkkdanpmnaaaDoor
