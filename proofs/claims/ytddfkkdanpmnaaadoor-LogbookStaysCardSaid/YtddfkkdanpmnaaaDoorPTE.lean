/- Texts joined: LgH, LgI, LgJ, LgK, Laid, Door, OpenL, LawT. -/
import Derived.Test.YtddfkkdanpmnaaaDoorPTD
import Derived.Test.YtddfkkdanpmnaaaDoorPTB
import Derived.Test.YtddfkkdanpmnaaaDoorPTA
import Derived.LaidMore
import Derived.OpenShut
import Derived.Stop.Joined
import Derived.SevenTiedAt
import Derived.ChangeMaps5
import Derived.Test.YtddfkkdanpmnaaaDoorRows
namespace Go.Proofs.YtddfkkdanpmnaaaDoor
open Go.RowKit Go.PW
set_option linter.unusedVariables false
set_option linter.unusedSimpArgs false
set_option maxRecDepth 4000
section
variable {f : Rec → Bool} {l : List Rec} {pre : List Nat} {x : Nat}
theorem ni (hnx : NxB l.length pre x) (h : findF f l l.length = findF f l (l.length - pre.length)) (hf : f (l.getD x Rec.z) = false) : findF f l l.length = findF f l (l.length - (pre ++ [x]).length) := by
 unfold NxB at hnx
 rw [h, show l.length - pre.length = x + 1 from by omega, findF, if_neg (by rw [hf]; decide), List.length_append, List.length_singleton, show l.length - (pre.length + 1) = x from by omega]
theorem mn (hnx : NxB l.length pre x) (h : findF f l l.length = findF f l (l.length - pre.length)) (hf : f (l.getD x Rec.z) = true) : findF f l l.length = (x : Int) := by
 unfold NxB at hnx
 rw [h, show l.length - pre.length = x + 1 from by omega, findF, if_pos hf]
theorem mE (h : findF f l l.length = findF f l (l.length - (backs l.length l.length).length)) : findF f l l.length = -1 := by
 rw [h, cZ, Nat.sub_self]; rfl
end
def outR (l : List Rec) (n : Nat) : List By := List.replicate (l.length - n) [] ++ codesB (l.drop (l.length - n))
theorem g7 (l : List Rec) (n : Nat) (h : n ≤ l.length) : (outR l n).length = l.length := by
 rw [outR, List.length_append, List.length_replicate, fb, List.length_drop]; omega
theorem nE (l : List Rec) : outR l 0 = List.replicate l.length [] := by
 rw [outR, Nat.sub_zero, List.drop_length]; simp [codesB]
theorem lh (l : List Rec) : outR l (backs l.length l.length).length = codesB l := by
 rw [cZ, outR, Nat.sub_self]; simp
theorem lf {l : List Rec} {pre : List Nat} {x : Nat} (hnx : NxB l.length pre x) : (outR l pre.length).set x (eB (l.getD x Rec.z)) = outR l (pre ++ [x]).length := by
 unfold NxB at hnx
 have e1 : l.length - pre.length = x + 1 := by omega
 have e2 : l.length - (pre ++ [x]).length = x := by rw [List.length_append, List.length_singleton]; omega
 unfold outR
 rw [e1, e2, List.replicate_succ', List.append_assoc, List.set_append_right _ _ (by rw [List.length_replicate]; exact Nat.le_refl _), List.length_replicate, Nat.sub_self, ek (show x < l.length by omega)]
 rfl
theorem lM {l : List Rec} {pre : List Nat} {x : Nat} (hnx : NxB l.length pre x) : ((outR l pre.length).map fun s => [sv s]).set x [sv (eB (l.getD x Rec.z))] = (outR l (pre ++ [x]).length).map fun s => [sv s] := by
 rw [← lf hnx, List.map_set]
theorem lK {l : List Rec} {pre : List Nat} {x : Nat} (hnx : NxB l.length pre x) (hk : x < ((outR l pre.length).map fun s => [sv s]).length) : ((outR l pre.length).map fun s => [sv s]).set x (splice ((outR l pre.length).map fun s => [sv s])[x] 0 [sv (eB (l.getD x Rec.z))]) = (outR l (pre ++ [x]).length).map fun s => [sv s] := by
 rw [← lM hnx]; congr 1; rw [List.getElem_map]; rfl
theorem er (x : Int) (n : Int) (w0 : World) :
  Ret Tryd.prog 56 #[iv x, iv n, iv 0] w0 fun v w => v = .tuple #[iv x, iv n] ∧ Ext No w0 w := by
 refine aC Tryd.func56 rfl Tryd.ntmps56 (lb rfl) fun a Z => ?_
 replace Z : Fr 14 [(0, _), (1, _), (2, _)] [] a := Z
 replace Y : St No w0 [] w0 := St.init w0
 refine aa fun K1 hK1 => wla Z rfl fun a Z => wla Z rfl fun a Z => ab (hK1 _ _ <| ag fun K2 hK2 => ?_)
 refine aa fun K3 hK3 => wlm Z rfl fun a Z => wlv Z ((v_ne rfl rfl).asb (b' := false) rfl) fun a Z => ab (hK3 _ _ <| aP Z rfl ?_)
 refine au <| hK2 _ _ <| aa fun K4 hK4 => wlm Z rfl fun a Z => wlm Z rfl fun a Z => wla Z rfl fun a Z => wla Z rfl fun a Z => ab (hK4 _ _ ?_)
 replace Z : Fr 14 [(6, _), (7, _)] [] a := Z.pick [6, 7]
 refine ar ?_
 refine am Z Tryd.results56 (ac rfl (ac rfl ae)) ?_
 exact ⟨by rfl, Y.ext⟩
theorem dy (x : Int) (n : Int) (w0 : World) :
  Pan Tryd.prog 56 #[iv x, iv n, iv 10] w0 fun c w => c = [{ v := .iface 95 (.agg #[]), recovered := false }] ∧ Ext No w0 w := by
 refine lq Tryd.func56 rfl Tryd.ntmps56 (lb rfl) fun a Z => ?_
 replace Z : Fr 14 [(0, _), (1, _), (2, _)] [] a := Z
 replace Y : St No w0 [] w0 := St.init w0
 refine aa fun K1 hK1 => wla Z rfl fun a Z => wla Z rfl fun a Z => ab (hK1 _ _ <| ag fun K2 hK2 => ?_)
 refine aa fun K3 hK3 => wlm Z rfl fun a Z => wlv Z ((v_ne rfl rfl).asb (b' := true) rfl) fun a Z => ab (hK3 _ _ <| aM Z rfl ?_)
 refine bK ?_
 refine bE 2 ?_
 refine wlv Z (bu (v := .agg #[]) rfl (by kernel_rfl)) fun a Z => wlv Z (cN rfl Tryd.underlying95) fun a Z => ab <| ef Z rfl ?_
 exact fK (X := fun c w => c = [{ v := .iface 95 (.agg #[]), recovered := false }] ∧ Ext No w0 w) Z ⟨rfl, Y.ext⟩
theorem lm (x : By) (n : Int) (w0 : World) :
  Ret Tryd.prog 58 #[sv x, iv n, iv 0] w0 fun v w => v = .tuple #[sv x, iv n] ∧ Ext No w0 w := by
 refine aC Tryd.func58 rfl Tryd.ntmps58 (lb rfl) fun a Z => ?_
 replace Z : Fr 14 [(0, _), (1, _), (2, _)] [] a := Z
 replace Y : St No w0 [] w0 := St.init w0
 refine aa fun K1 hK1 => wla Z rfl fun a Z => wla Z rfl fun a Z => ab (hK1 _ _ <| ag fun K2 hK2 => ?_)
 refine aa fun K3 hK3 => wlm Z rfl fun a Z => wlv Z ((v_ne rfl rfl).asb (b' := false) rfl) fun a Z => ab (hK3 _ _ <| aP Z rfl ?_)
 refine au <| hK2 _ _ <| aa fun K4 hK4 => wlm Z rfl fun a Z => wlm Z rfl fun a Z => wla Z rfl fun a Z => wla Z rfl fun a Z => ab (hK4 _ _ ?_)
 replace Z : Fr 14 [(6, _), (7, _)] [] a := Z.pick [6, 7]
 refine ar ?_
 refine am Z Tryd.results58 (ac rfl (ac rfl ae)) ?_
 exact ⟨by rfl, Y.ext⟩
theorem kG (x : By) (n : Int) (w0 : World) :
  Pan Tryd.prog 58 #[sv x, iv n, iv 10] w0 fun c w => c = [{ v := .iface 95 (.agg #[]), recovered := false }] ∧ Ext No w0 w := by
 refine lq Tryd.func58 rfl Tryd.ntmps58 (lb rfl) fun a Z => ?_
 replace Z : Fr 14 [(0, _), (1, _), (2, _)] [] a := Z
 replace Y : St No w0 [] w0 := St.init w0
 refine aa fun K1 hK1 => wla Z rfl fun a Z => wla Z rfl fun a Z => ab (hK1 _ _ <| ag fun K2 hK2 => ?_)
 refine aa fun K3 hK3 => wlm Z rfl fun a Z => wlv Z ((v_ne rfl rfl).asb (b' := true) rfl) fun a Z => ab (hK3 _ _ <| aM Z rfl ?_)
 refine bK ?_
 refine bE 2 ?_
 refine wlv Z (bu (v := .agg #[]) rfl (by kernel_rfl)) fun a Z => wlv Z (cN rfl Tryd.underlying95) fun a Z => ab <| ef Z rfl ?_
 exact fK (X := fun c w => c = [{ v := .iface 95 (.agg #[]), recovered := false }] ∧ Ext No w0 w) Z ⟨rfl, Y.ext⟩
theorem ki {P : Program} {w : World} {L : List (Nat × Value)} {dst : Option Tmp} {T T' ty : TypeId} {pos : String} {af : Array Edge} {x y : Operand} (hx : ev L x = some .nilIface) (hy : ev L y = some .nilIface) (hr : (binOp .eql T .nilIface .nilIface).run P w = .ok (.bool true) w) (hg : (eqGuard .eql T x y .nilIface .nilIface).run P w = .ok () w) : OpV P ⟨dst, .binOp .eql T x y T', ty, pos, af, none⟩ L w (.bool true) :=
 ⟨rfl, fun N df a h => by
  simp only [execOp, h.eval hx, h.eval hy, Sem.run_bind, hg, hr, Result.andThen_ok]; rfl⟩
theorem cM {M : Nat → Prop} {w0 : World} (b2 b3 : Nat) (c0 c1 c2 c3 c4 c5 : Value) (ws : World) (Y : St M w0 [blk b2 [c0, c1, c2, c3, c4] 27, blk b3 [c5] 33] ws) :
  CallsDIn Fence.wide 0 Tryd.prog 55 #[pt b2, pt b3] (.panicking [{ v := .iface 95 (.agg #[]), recovered := false }]) ws fun e u' w => u' = (.panicking [{ v := .iface 95 (.agg #[]), recovered := true }]) ∧ ∃ x, e = .returned x ∧ St M w0 [blk b2 [iv 0, iv 0, iv 0, iv 0, sv ([] : By)] 27, blk b3 [iv 110] 33] w  := by
 refine lg (args := [pt b2, pt b3]) Tryd.func55 rfl Tryd.ntmps55 (lb rfl) rfl rfl (by decide) (fun _ _ => rfl) (.inr ⟨rfl, rfl⟩) fun a Z => ?_
 replace Z : Fr 12 [(5, _), (0, _), (1, _)] [] a := Z
 skip
 refine ao <| aa fun K1 hK1 => wlv Z (jC rfl rfl (by kernel_rfl) (by kernel_rfl)) fun a Z => ab (hK1 _ _ <| aP Z rfl ?_)
 refine aa fun K2 hK2 => wlv Z (gC rfl Tryd.underlying95) fun a Z => wlv Z (ak rfl rfl) fun a Z => wlv Z (ak rfl rfl) fun a Z => ab (hK2 _ _ <| aM Z rfl ?_)
 refine aa fun K3 hK3 => aK Z Y (by decide) (Tryd.zeroValue95 _) (cs := []) rfl ?_
 clear Z Y
 intro a w1 Z Y
 refine aF 0 Z Y rfl rfl rfl (Tryd.sizeOf95 _) rfl (lb rfl) (ds := []) rfl rfl ?_
 clear Z Y
 intro a w2 Z Y
 refine ab (hK3 _ _ ?_)
 replace Z : Fr 12 [(0, _), (1, _)] [] a := Z.pick [0, 1]
 replace Y : St M w0 [_, _] w2 := Y.mask [false, true, true]
 refine ap <| wlv Z (bu (v := .agg #[iv 0, iv 0, iv 0, iv 0, .string (⟨#[]⟩)]) rfl (by kernel_rfl)) fun a Z => aF 0 Z Y rfl rfl rfl (Tryd.sizeOf27 _) rfl (lb rfl) (ds := [iv 0, iv 0, iv 0, iv 0, .string (⟨#[]⟩)]) rfl rfl ?_
 clear Z Y
 intro a w3 Z Y
 refine aF 1 Z Y rfl rfl rfl (Tryd.sizeOf33 _) rfl (lb rfl) (ds := [iv 110]) rfl rfl ?_
 clear Z Y
 intro a w4 Z Y
 refine ab ?_
 refine g8 Z Tryd.results55 ae ?_
 exact Y.select [0, 1] (by decide)
theorem l6 (b2 b3 : Nat) (ws : World) :
  CallsDIn Fence.wide 0 Tryd.prog 55 #[pt b2, pt b3] .returning ws fun e u' w => u' = .returning ∧ ∃ x, e = .returned x ∧ Ext No ws w  := by
 refine lg (args := [pt b2, pt b3]) Tryd.func55 rfl Tryd.ntmps55 (lb rfl) rfl rfl (by decide) (fun _ _ => rfl) (.inl ⟨rfl, rfl, rfl⟩) fun a Z => ?_
 replace Z : Fr 12 [(5, _), (0, _), (1, _)] [] a := Z
 replace Y : St No ws [] ws := St.init ws
 refine ao <| aa fun K1 hK1 => wlv Z (ki rfl rfl (by kernel_rfl) (by kernel_rfl)) fun a Z => ab (hK1 _ _ <| aM Z rfl ?_)
 refine ap <| wla Z rfl fun a Z => ab ?_
 refine g8 Z Tryd.results55 ae ?_
 exact Y.ext
set_option maxHeartbeats 4000000 in
theorem nA (s : By) (w0 : World) (hsl : s.length ≤ 1000000) :
  Ret Tryd.prog 24 #[sv s] w0 fun v w => v = .tuple #[.agg (decX s).cells.toArray, iv (decE s)] ∧ Ext No w0 w := by
 refine mS Tryd.func24 rfl Tryd.ntmps24 (lb rfl) fun a Z => ?_
 replace Z : Fr 52 [(0, _)] [] a := Z
 replace Y : St No w0 [] w0 := St.init w0
 refine aa fun K1 hK1 => aK Z Y (by decide) (Tryd.zeroValue27 _) (cs := [iv 0, iv 0, iv 0, iv 0, .string (⟨#[]⟩)]) rfl ?_
 clear Z Y
 intro a w1 Z Y
 refine aK Z Y (by decide) (Tryd.zeroValue33 _) (cs := [iv 0]) rfl ?_
 clear Z Y
 intro a w2 Z Y
 refine ab (hK1 _ _ <| aa fun K2 hK2 => ?_)
 refine wlv Z (cb rfl rfl) fun a Z => lV Z rfl fun a Z => ab (hK2 _ _ <| aa fun K3 hK3 => ?_)
 refine wla Z rfl fun a Z => ab (hK3 _ _ <| ag fun K4 hK4 => ?_)
 refine aa fun K5 hK5 => wlv Z (al (v := pt w0.heap.size) rfl (by kernel_rfl)) fun a Z => wlv Z (al (v := .pointer (some ⟨w0.heap.size, 1, none⟩)) rfl (by kernel_rfl)) fun a Z => wlv Z (al (v := .pointer (some ⟨w0.heap.size, 2, none⟩)) rfl (by kernel_rfl)) fun a Z => wlv Z (al (v := .pointer (some ⟨w0.heap.size, 3, none⟩)) rfl (by kernel_rfl)) fun a Z => wlv Z (bu (v := .agg #[pt w0.heap.size, .pointer (some ⟨w0.heap.size, 1, none⟩), .pointer (some ⟨w0.heap.size, 2, none⟩), .pointer (some ⟨w0.heap.size, 3, none⟩)]) rfl (by kernel_rfl)) fun a Z => wlm Z rfl fun a Z => ab (hK5 _ _ ?_)
 refine ao <| j7 6 ?_
 refine eo ?_
 refine aa fun K6 hK6 => wlv Z ((v_lt rfl rfl).asb (b' := true) rfl) fun a Z => ab (hK6 _ _ <| ag fun K7 hK7 => ?_)
 refine aM Z rfl ?_
 refine au <| hK7 _ _ <| ag fun K8 hK8 => ao <| aa fun K9 hK9 => wlv Z (dG (v := pt w0.heap.size) rfl rfl (by kernel_rfl)) fun a Z => wla Z rfl fun a Z => ab (hK9 _ _ ?_)
 replace Z : Fr 52 [(0, _), (2, _), (3, _), (4, _), (12, _), (13, _), (6, _)] [{ target := .fn (.func 55) #[pt w0.heap.size, pt w1.heap.size], args := #[] }] a := Z.pick [0, 2, 3, 4, 12, 13, 6]
 refine bK ?_
 refine bE 7 ?_
 refine wlm Z rfl fun a Z => wlm Z rfl fun a Z => wlm Z rfl fun a Z => ?_
 rcases Bool.eq_false_or_eq_true ((rdI s).isSome) with hb1 | hb1
 ·try simp only [qz] at hb1
  obtain ⟨⟨n1, r1⟩, hq1⟩ := Option.isSome_iff_exists.1 hb1
  have hd1 := kZ.trans (eV hq1)
  have hsf1 := (dh hq1).trans (List.suffix_refl s)
  refine aq Z Y (by decide) Tryd.call57 rfl (dH (by simp) (List.suffix_refl s) hsl hq1) ?_
  clear Z Y
  intro a w3 Z Y
  refine wlv Z (ak rfl rfl) fun a Z => wlv Z (ak rfl rfl) fun a Z => wlv Z (ak rfl rfl) fun a Z => ab <| bE 1 ?_
  refine aq Z Y (by decide) Tryd.call56 rfl (er n1 ((s.length - r1.length : Nat) : Int) _) ?_
  clear Z Y
  intro a w4 Z Y
  refine ab <| g5 ?_
  refine wlm Z rfl fun a Z => wlv Z (ak rfl rfl) fun a Z => wlv Z (ak rfl rfl) fun a Z => wlv Z (aZ rfl) fun a Z => aF 1 Z Y rfl rfl rfl (Tryd.sizeOf3 _) rfl (lb rfl) (ds := [iv n1, iv 0, iv 0, iv 0, .string (⟨#[]⟩)]) rfl rfl ?_
  clear Z Y
  intro a w5 Z Y
  refine wla Z rfl fun a Z => ab <| hK8 _ _ ?_
  replace Z : Fr 52 [(0, _), (2, _), (3, _), (12, _), (13, _), (4, _)] [{ target := .fn (.func 55) #[pt w0.heap.size, pt w1.heap.size], args := #[] }] a := Z.pick [0, 2, 3, 12, 13, 4]
  refine ap <| wlv Z ((aV rfl rfl (by decide)).asi (m' := 1) rfl) fun a Z => wlm Z rfl fun a Z => ab <| eo ?_
  refine aa fun K10 hK10 => wlv Z ((v_lt rfl rfl).asb (b' := true) rfl) fun a Z => ab (hK10 _ _ <| ag fun K11 hK11 => ?_)
  refine aM Z rfl ?_
  refine au <| hK11 _ _ <| ag fun K12 hK12 => ao <| aa fun K13 hK13 => wlv Z (dG (v := .pointer (some ⟨w0.heap.size, 1, none⟩)) rfl rfl (by kernel_rfl)) fun a Z => wla Z rfl fun a Z => ab (hK13 _ _ ?_)
  refine bK ?_
  refine bE 7 ?_
  refine wlm Z rfl fun a Z => wlm Z rfl fun a Z => wlm Z rfl fun a Z => ?_
  rcases Bool.eq_false_or_eq_true ((rdI r1).isSome) with hb2 | hb2
  ·try simp only [qz] at hb2
   obtain ⟨⟨n2, r2⟩, hq2⟩ := Option.isSome_iff_exists.1 hb2
   have hd2 := hd1.trans (eV hq2)
   have hsf2 := (dh hq2).trans hsf1
   refine aq Z Y (by decide) Tryd.call57 rfl (dH rfl hsf1 hsl hq2) ?_
   clear Z Y
   intro a w6 Z Y
   refine wlv Z (ak rfl rfl) fun a Z => wlv Z (ak rfl rfl) fun a Z => wlv Z (ak rfl rfl) fun a Z => ab <| bE 1 ?_
   refine aq Z Y (by decide) Tryd.call56 rfl (er n2 ((s.length - r2.length : Nat) : Int) _) ?_
   clear Z Y
   intro a w7 Z Y
   refine ab <| g5 ?_
   refine wlm Z rfl fun a Z => wlv Z (ak rfl rfl) fun a Z => wlv Z (ak rfl rfl) fun a Z => wlv Z (aZ rfl) fun a Z => aF 1 Z Y rfl rfl rfl (Tryd.sizeOf3 _) rfl (lb rfl) (ds := [iv n1, iv n2, iv 0, iv 0, .string (⟨#[]⟩)]) rfl rfl ?_
   clear Z Y
   intro a w8 Z Y
   refine wla Z rfl fun a Z => ab <| hK12 _ _ ?_
   replace Z : Fr 52 [(0, _), (2, _), (3, _), (12, _), (13, _), (4, _)] [{ target := .fn (.func 55) #[pt w0.heap.size, pt w1.heap.size], args := #[] }] a := Z.pick [0, 2, 3, 12, 13, 4]
   refine ap <| wlv Z ((aV rfl rfl (by decide)).asi (m' := 2) rfl) fun a Z => wlm Z rfl fun a Z => ab <| eo ?_
   refine aa fun K14 hK14 => wlv Z ((v_lt rfl rfl).asb (b' := true) rfl) fun a Z => ab (hK14 _ _ <| ag fun K15 hK15 => ?_)
   refine aM Z rfl ?_
   refine au <| hK15 _ _ <| ag fun K16 hK16 => ao <| aa fun K17 hK17 => wlv Z (dG (v := .pointer (some ⟨w0.heap.size, 2, none⟩)) rfl rfl (by kernel_rfl)) fun a Z => wla Z rfl fun a Z => ab (hK17 _ _ ?_)
   refine bK ?_
   refine bE 7 ?_
   refine wlm Z rfl fun a Z => wlm Z rfl fun a Z => wlm Z rfl fun a Z => ?_
   rcases Bool.eq_false_or_eq_true ((rdI r2).isSome) with hb3 | hb3
   ·try simp only [qz] at hb3
    obtain ⟨⟨n3, r3⟩, hq3⟩ := Option.isSome_iff_exists.1 hb3
    have hd3 := hd2.trans (eV hq3)
    have hsf3 := (dh hq3).trans hsf2
    refine aq Z Y (by decide) Tryd.call57 rfl (dH rfl hsf2 hsl hq3) ?_
    clear Z Y
    intro a w9 Z Y
    refine wlv Z (ak rfl rfl) fun a Z => wlv Z (ak rfl rfl) fun a Z => wlv Z (ak rfl rfl) fun a Z => ab <| bE 1 ?_
    refine aq Z Y (by decide) Tryd.call56 rfl (er n3 ((s.length - r3.length : Nat) : Int) _) ?_
    clear Z Y
    intro a w10 Z Y
    refine ab <| g5 ?_
    refine wlm Z rfl fun a Z => wlv Z (ak rfl rfl) fun a Z => wlv Z (ak rfl rfl) fun a Z => wlv Z (aZ rfl) fun a Z => aF 1 Z Y rfl rfl rfl (Tryd.sizeOf3 _) rfl (lb rfl) (ds := [iv n1, iv n2, iv n3, iv 0, .string (⟨#[]⟩)]) rfl rfl ?_
    clear Z Y
    intro a w11 Z Y
    refine wla Z rfl fun a Z => ab <| hK16 _ _ ?_
    replace Z : Fr 52 [(0, _), (2, _), (3, _), (12, _), (13, _), (4, _)] [{ target := .fn (.func 55) #[pt w0.heap.size, pt w1.heap.size], args := #[] }] a := Z.pick [0, 2, 3, 12, 13, 4]
    refine ap <| wlv Z ((aV rfl rfl (by decide)).asi (m' := 3) rfl) fun a Z => wlm Z rfl fun a Z => ab <| eo ?_
    refine aa fun K18 hK18 => wlv Z ((v_lt rfl rfl).asb (b' := true) rfl) fun a Z => ab (hK18 _ _ <| ag fun K19 hK19 => ?_)
    refine aM Z rfl ?_
    refine au <| hK19 _ _ <| ag fun K20 hK20 => ao <| aa fun K21 hK21 => wlv Z (dG (v := .pointer (some ⟨w0.heap.size, 3, none⟩)) rfl rfl (by kernel_rfl)) fun a Z => wla Z rfl fun a Z => ab (hK21 _ _ ?_)
    refine bK ?_
    refine bE 7 ?_
    refine wlm Z rfl fun a Z => wlm Z rfl fun a Z => wlm Z rfl fun a Z => ?_
    rcases Bool.eq_false_or_eq_true ((rdI r3).isSome) with hb4 | hb4
    ·try simp only [qz] at hb4
     obtain ⟨⟨n4, r4⟩, hq4⟩ := Option.isSome_iff_exists.1 hb4
     have hd4 := hd3.trans (eV hq4)
     have hsf4 := (dh hq4).trans hsf3
     refine aq Z Y (by decide) Tryd.call57 rfl (dH rfl hsf3 hsl hq4) ?_
     clear Z Y
     intro a w12 Z Y
     refine wlv Z (ak rfl rfl) fun a Z => wlv Z (ak rfl rfl) fun a Z => wlv Z (ak rfl rfl) fun a Z => ab <| bE 1 ?_
     refine aq Z Y (by decide) Tryd.call56 rfl (er n4 ((s.length - r4.length : Nat) : Int) _) ?_
     clear Z Y
     intro a w13 Z Y
     refine ab <| g5 ?_
     refine wlm Z rfl fun a Z => wlv Z (ak rfl rfl) fun a Z => wlv Z (ak rfl rfl) fun a Z => wlv Z (aZ rfl) fun a Z => aF 1 Z Y rfl rfl rfl (Tryd.sizeOf3 _) rfl (lb rfl) (ds := [iv n1, iv n2, iv n3, iv n4, .string (⟨#[]⟩)]) rfl rfl ?_
     clear Z Y
     intro a w14 Z Y
     refine wla Z rfl fun a Z => ab <| hK20 _ _ ?_
     replace Z : Fr 52 [(0, _), (2, _), (3, _), (12, _), (13, _), (4, _)] [{ target := .fn (.func 55) #[pt w0.heap.size, pt w1.heap.size], args := #[] }] a := Z.pick [0, 2, 3, 12, 13, 4]
     refine ap <| wlv Z ((aV rfl rfl (by decide)).asi (m' := 4) rfl) fun a Z => wlm Z rfl fun a Z => ab <| eo ?_
     refine aa fun K22 hK22 => wlv Z ((v_lt rfl rfl).asb (b' := false) rfl) fun a Z => ab (hK22 _ _ <| ag fun K23 hK23 => ?_)
     refine aP Z rfl ?_
     refine aJ <| hK4 _ _ <| fF fun K24 hK24 hP24 => bE 6 ?_
     refine wlm Z rfl fun a Z => wlm Z rfl fun a Z => ?_
     rcases Bool.eq_false_or_eq_true ((rdS r4).isSome) with hb5 | hb5
     ·try simp only [qz] at hb5
      obtain ⟨⟨x9, r5⟩, hq5⟩ := Option.isSome_iff_exists.1 hb5
      have hd5 := hd4.trans (mb.trans (lG hq5))
      have hsf5 := (mr hq5).trans hsf4
      refine aq Z Y (by decide) Tryd.call59 rfl (kK s r4 x9 r5 _ _ rfl hsf4 hsl hq5) ?_
      clear Z Y
      intro a w15 Z Y
      refine wlv Z (ak rfl rfl) fun a Z => wlv Z (ak rfl rfl) fun a Z => wlv Z (ak rfl rfl) fun a Z => ab <| bE 1 ?_
      refine aq Z Y (by decide) Tryd.call58 rfl (lm x9 ((s.length - r5.length : Nat) : Int) _) ?_
      clear Z Y
      intro a w16 Z Y
      refine ab <| g5 ?_
      refine wlm Z rfl fun a Z => wlv Z (ak rfl rfl) fun a Z => wlv Z (ak rfl rfl) fun a Z => wlv Z (al (v := .pointer (some ⟨w0.heap.size, 4, none⟩)) rfl (by kernel_rfl)) fun a Z => aF 1 Z Y rfl rfl rfl (Tryd.sizeOf9 _) rfl (lb rfl) (ds := [iv n1, iv n2, iv n3, iv n4, sv x9]) rfl rfl ?_
      clear Z Y
      intro a w17 Z Y
      refine wla Z rfl fun a Z => ab (hK24 _ _ ?_)
      replace Z : Fr 52 [(0, _), (2, _), (3, _), (4, _)] [{ target := .fn (.func 55) #[pt w0.heap.size, pt w1.heap.size], args := #[] }] a := Z.pick [0, 2, 3, 4]
      refine ag fun K25 hK25 => aa fun K26 hK26 => wlm Z rfl fun a Z => wlm Z rfl fun a Z => wlv Z (bo rfl rfl (Tryd.runUnderlying9 _)) fun a Z => wlv Z (v_lt rfl rfl) fun a Z => wlm Z rfl fun a Z => ?_
      rcases Bool.eq_false_or_eq_true (decide (((s.length - r5.length : Nat) : Int) < (s.length : Int))) with hb6 | hb6
      ·rw [hb6] at Z
       try simp only [qz] at hb6
       have hdn := hd5.trans (kP (by intro h0; have h1 := congrArg List.length h0; rw [List.length_nil] at h1; omega))
       refine wln Z fun a Z => wln Z fun a Z => wln Z fun a Z => wlv Z (aB rfl rfl) fun a Z => ab (hK26 _ _ ?_)
       replace Z : Fr 52 [(2, _), (3, _), (48, _)] [{ target := .fn (.func 55) #[pt w0.heap.size, pt w1.heap.size], args := #[] }] a := Z.pick [2, 3, 48]
       refine aM Z rfl ?_
       refine bK ?_
       refine bE 2 ?_
       refine wlv Z (bu (v := .agg #[]) rfl (by kernel_rfl)) fun a Z => wlv Z (cN rfl Tryd.underlying95) fun a Z => ab <| ef Z rfl ?_
       replace Y : St No w0 [blk w0.heap.size [iv n1, iv n2, iv n3, iv n4, sv x9] 27, blk w1.heap.size [iv 0] 33] w17 := Y.select [1, 0] (by decide)
       exact cc Z Tryd.call55 (cM _ _ _ _ _ _ _ _ _ Y) Tryd.results24 (fun w9 Y => ⟨(aH rfl (bH (Y.get (k := 0) rfl) (Tryd.isAgg27 _) (Tryd.sizeOf27 _)) (aH rfl (ch (Y.get (k := 1) rfl) (Tryd.isAgg33 _)) ae)), by simp only [retv]; unfold decX decE; rw [hdn]; rfl, Y.ext⟩)
      rw [hb6] at Z
      try simp only [qz] at hb6
      have hqn : r5 = [] := List.eq_nil_of_length_eq_zero (by have := hsf5.length_le; omega)
      refine wly Z (aw (Y.get (k := 1) rfl) rfl (Tryd.isAgg27 _) (Tryd.sizeOf27 _)) fun a Z => aR Z Y (by decide) rfl (by decide) rfl Tryd.call45 rfl (eq (⟨n1, n2, n3, n4, x9⟩ : Rec) _) ?_
      clear Z Y
      intro a w18 Z Y
      refine wly Z (bq rfl) fun a Z => wlv Z (aA rfl rfl) fun a Z => ab (hK26 _ _ ?_)
      replace Z : Fr 52 [(2, _), (3, _), (48, _)] [{ target := .fn (.func 55) #[pt w0.heap.size, pt w1.heap.size], args := #[] }] a := Z.pick [2, 3, 48]
      refine az Z rfl (fun hc7 => ?_) (fun hc7 => ?_)
      ·rw [hc7] at Z
       try simp only [qz] at hc7
       have hdn := hd5.trans (kL (by exact hc7))
       refine bK ?_
       refine bE 2 ?_
       refine wlv Z (bu (v := .agg #[]) rfl (by kernel_rfl)) fun a Z => wlv Z (cN rfl Tryd.underlying95) fun a Z => ab <| ef Z rfl ?_
       replace Y : St No w0 [blk w0.heap.size [iv n1, iv n2, iv n3, iv n4, sv x9] 27, blk w1.heap.size [iv 0] 33] w18 := Y.select [1, 0] (by decide)
       exact cc Z Tryd.call55 (cM _ _ _ _ _ _ _ _ _ Y) Tryd.results24 (fun w9 Y => ⟨(aH rfl (bH (Y.get (k := 0) rfl) (Tryd.isAgg27 _) (Tryd.sizeOf27 _)) (aH rfl (ch (Y.get (k := 1) rfl) (Tryd.isAgg33 _)) ae)), by simp only [retv]; unfold decX decE; rw [hdn]; rfl, Y.ext⟩)
      rw [hc7] at Z
      try simp only [qz] at hc7
      have hds := hd5.trans (kI hqn (by exact hc7))
      refine au <| hK25 _ _ <| aa fun K27 hK27 => wlv Z (aw (Y.get (k := 1) rfl) rfl (Tryd.isAgg27 _) (Tryd.sizeOf27 _)) fun a Z => aF 1 Z Y rfl rfl rfl (Tryd.sizeOf27 _) rfl (lb rfl) (ds := [iv n1, iv n2, iv n3, iv n4, sv x9]) rfl rfl ?_
      clear Z Y
      intro a w19 Z Y
      refine aF 0 Z Y rfl rfl rfl (Tryd.sizeOf33 _) rfl (lb rfl) (ds := [iv 0]) rfl rfl ?_
      clear Z Y
      intro a w20 Z Y
      refine ab (hK27 _ _ <| ar ?_)
      refine li (vs := [.agg #[iv n1, iv n2, iv n3, iv n4, sv x9], iv 0]) Z Tryd.call55 (l6 _ _ _) Tryd.results24 (fun w9 hx => ?_)
      have Y := Y.grow hx
      exact ⟨(aH rfl (bH (Y.get (k := 1) rfl) (Tryd.isAgg27 _) (Tryd.sizeOf27 _)) (aH rfl (ch (Y.get (k := 0) rfl) (Tryd.isAgg33 _)) ae)), by simp only [retv]; unfold decX decE; rw [hds]; rfl, Y.ext⟩
     try simp only [qz] at hb5
     have hq5 : rdS r4 = none := by
      cases h : rdS r4 with
      | none => rfl
      | some z => rw [h] at hb5; cases hb5
     have hdn := hd4.trans (mb.trans (kE hq5))
     refine aq Z Y (by decide) Tryd.call59 rfl (jB rfl hsf4 hsl hq5) ?_
     clear Z Y
     intro a w21 Z Y
     refine wlv Z (ak rfl rfl) fun a Z => wlv Z (ak rfl rfl) fun a Z => wlv Z (ak rfl rfl) fun a Z => ab <| fx (X := fun c w2 => c = [{ v := .iface 95 (.agg #[]), recovered := false }] ∧ Ext No w21 w2) Z Tryd.call58 rfl (kG ([]) 0 _) ?_
     rintro _ w22 ⟨rfl, hx⟩
     have Y := Y.grow hx
     refine hP24 _ _ _ ?_
     replace Y : St No w0 [blk w0.heap.size [iv n1, iv n2, iv n3, iv n4, .string (⟨#[]⟩)] 27, blk w1.heap.size [iv 0] 33] w22 := Y.select [1, 0] (by decide)
     exact cc Z Tryd.call55 (cM _ _ _ _ _ _ _ _ _ Y) Tryd.results24 (fun w9 Y => ⟨(aH rfl (bH (Y.get (k := 0) rfl) (Tryd.isAgg27 _) (Tryd.sizeOf27 _)) (aH rfl (ch (Y.get (k := 1) rfl) (Tryd.isAgg33 _)) ae)), by simp only [retv]; unfold decX decE; rw [hdn]; rfl, Y.ext⟩)
    try simp only [qz] at hb4
    have hq4 : rdI r3 = none := by
     cases h : rdI r3 with
     | none => rfl
     | some z => rw [h] at hb4; cases hb4
    have hdn := hd3.trans (el hq4)
    refine aq Z Y (by decide) Tryd.call57 rfl (dk rfl hsf3 hsl hq4) ?_
    clear Z Y
    intro a w23 Z Y
    refine wlv Z (ak rfl rfl) fun a Z => wlv Z (ak rfl rfl) fun a Z => wlv Z (ak rfl rfl) fun a Z => ab <| fx (X := fun c w2 => c = [{ v := .iface 95 (.agg #[]), recovered := false }] ∧ Ext No w23 w2) Z Tryd.call56 rfl (dy 0 0 _) ?_
    rintro _ w24 ⟨rfl, hx⟩
    have Y := Y.grow hx
    replace Y : St No w0 [blk w0.heap.size [iv n1, iv n2, iv n3, iv 0, .string (⟨#[]⟩)] 27, blk w1.heap.size [iv 0] 33] w24 := Y.select [1, 0] (by decide)
    exact cc Z Tryd.call55 (cM _ _ _ _ _ _ _ _ _ Y) Tryd.results24 (fun w9 Y => ⟨(aH rfl (bH (Y.get (k := 0) rfl) (Tryd.isAgg27 _) (Tryd.sizeOf27 _)) (aH rfl (ch (Y.get (k := 1) rfl) (Tryd.isAgg33 _)) ae)), by simp only [retv]; unfold decX decE; rw [hdn]; rfl, Y.ext⟩)
   try simp only [qz] at hb3
   have hq3 : rdI r2 = none := by
    cases h : rdI r2 with
    | none => rfl
    | some z => rw [h] at hb3; cases hb3
   have hdn := hd2.trans (el hq3)
   refine aq Z Y (by decide) Tryd.call57 rfl (dk rfl hsf2 hsl hq3) ?_
   clear Z Y
   intro a w25 Z Y
   refine wlv Z (ak rfl rfl) fun a Z => wlv Z (ak rfl rfl) fun a Z => wlv Z (ak rfl rfl) fun a Z => ab <| fx (X := fun c w2 => c = [{ v := .iface 95 (.agg #[]), recovered := false }] ∧ Ext No w25 w2) Z Tryd.call56 rfl (dy 0 0 _) ?_
   rintro _ w26 ⟨rfl, hx⟩
   have Y := Y.grow hx
   replace Y : St No w0 [blk w0.heap.size [iv n1, iv n2, iv 0, iv 0, .string (⟨#[]⟩)] 27, blk w1.heap.size [iv 0] 33] w26 := Y.select [1, 0] (by decide)
   exact cc Z Tryd.call55 (cM _ _ _ _ _ _ _ _ _ Y) Tryd.results24 (fun w9 Y => ⟨(aH rfl (bH (Y.get (k := 0) rfl) (Tryd.isAgg27 _) (Tryd.sizeOf27 _)) (aH rfl (ch (Y.get (k := 1) rfl) (Tryd.isAgg33 _)) ae)), by simp only [retv]; unfold decX decE; rw [hdn]; rfl, Y.ext⟩)
  try simp only [qz] at hb2
  have hq2 : rdI r1 = none := by
   cases h : rdI r1 with
   | none => rfl
   | some z => rw [h] at hb2; cases hb2
  have hdn := hd1.trans (el hq2)
  refine aq Z Y (by decide) Tryd.call57 rfl (dk rfl hsf1 hsl hq2) ?_
  clear Z Y
  intro a w27 Z Y
  refine wlv Z (ak rfl rfl) fun a Z => wlv Z (ak rfl rfl) fun a Z => wlv Z (ak rfl rfl) fun a Z => ab <| fx (X := fun c w2 => c = [{ v := .iface 95 (.agg #[]), recovered := false }] ∧ Ext No w27 w2) Z Tryd.call56 rfl (dy 0 0 _) ?_
  rintro _ w28 ⟨rfl, hx⟩
  have Y := Y.grow hx
  replace Y : St No w0 [blk w0.heap.size [iv n1, iv 0, iv 0, iv 0, .string (⟨#[]⟩)] 27, blk w1.heap.size [iv 0] 33] w28 := Y.select [1, 0] (by decide)
  exact cc Z Tryd.call55 (cM _ _ _ _ _ _ _ _ _ Y) Tryd.results24 (fun w9 Y => ⟨(aH rfl (bH (Y.get (k := 0) rfl) (Tryd.isAgg27 _) (Tryd.sizeOf27 _)) (aH rfl (ch (Y.get (k := 1) rfl) (Tryd.isAgg33 _)) ae)), by simp only [retv]; unfold decX decE; rw [hdn]; rfl, Y.ext⟩)
 try simp only [qz] at hb1
 have hq1 : rdI s = none := by
  cases h : rdI s with
  | none => rfl
  | some z => rw [h] at hb1; cases hb1
 have hdn := kZ.trans (el hq1)
 refine aq Z Y (by decide) Tryd.call57 rfl (dk (by simp) (List.suffix_refl s) hsl hq1) ?_
 clear Z Y
 intro a w29 Z Y
 refine wlv Z (ak rfl rfl) fun a Z => wlv Z (ak rfl rfl) fun a Z => wlv Z (ak rfl rfl) fun a Z => ab <| fx (X := fun c w2 => c = [{ v := .iface 95 (.agg #[]), recovered := false }] ∧ Ext No w29 w2) Z Tryd.call56 rfl (dy 0 0 _) ?_
 rintro _ w30 ⟨rfl, hx⟩
 have Y := Y.grow hx
 replace Y : St No w0 [blk w0.heap.size [iv 0, iv 0, iv 0, iv 0, .string (⟨#[]⟩)] 27, blk w1.heap.size [iv 0] 33] w30 := Y.select [1, 0] (by decide)
 exact cc Z Tryd.call55 (cM _ _ _ _ _ _ _ _ _ Y) Tryd.results24 (fun w9 Y => ⟨(aH rfl (bH (Y.get (k := 0) rfl) (Tryd.isAgg27 _) (Tryd.sizeOf27 _)) (aH rfl (ch (Y.get (k := 1) rfl) (Tryd.isAgg33 _)) ae)), by simp only [retv]; unfold decX decE; rw [hdn]; rfl, Y.ext⟩)
theorem iB (o : Int) (lv : Value) (l : List Rec) (x : Rec) (w0 : World) (hlv : SlAt w0 lv 5 (l.map Rec.cells)) (hll : l.length ≤ 1000) (hok : addOk o l x = true) :
  Ret Tryd.prog 13 #[.agg #[iv o, lv], .agg #[iv x.t, iv x.kind, iv x.a, iv x.b, sv x.text]] w0 (MemR w0 (fun v : Value => .tuple #[.agg #[iv o, v], iv 0]) (fun v => [own v 27 5 ((l ++ [x]).map Rec.cells)]) (fun _ => True)) := by
 refine aC Tryd.func13 rfl Tryd.ntmps13 (lb rfl) fun a Z => ?_
 replace Z : Fr 27 [(0, _), (1, _)] [] a := Z
 replace Y : St No w0 [] w0 := St.init w0
 refine aa fun K1 hK1 => bl Z Y (by decide) rfl (cs := [iv o, lv]) rfl ?_
 clear Z Y
 intro a w1 Z Y
 refine bl Z Y (by decide) rfl (cs := [iv x.t, iv x.kind, iv x.a, iv x.b, sv x.text]) rfl ?_
 clear Z Y
 intro a w2 Z Y
 refine aK Z Y (by decide) (Tryd.zeroValue25 _) (cs := [iv 0, .slice none 0 0]) rfl ?_
 clear Z Y
 intro a w3 Z Y
 refine wla Z rfl fun a Z => ab (hK1 _ _ <| ag fun K2 hK2 => ?_)
 refine aI (by kernel_rfl) (aL (by kernel_rfl) fun w4 hxz => ?_)
 replace Y := Y.grow hxz
 refine aX (k := 0) 11 [9, 10] Z (by kernel_rfl) (by kernel_rfl) (by kernel_rfl) (by rfl) ?_
 replace Z : Fr 27 [(0, _), (1, _), (2, _), (3, _), (4, _), (5, _)] [] a := Z.pick [0, 1, 2, 3, 4, 5]
 refine cY 2 5 8 9 (fun v => own v 27 5 ([])) (fun v => own v 27 5 (([]) ++ ((l).map Rec.cells))) (fun v => own v 27 5 ((([]) ++ ((l).map Rec.cells)) ++ ([[iv x.t, iv x.kind, iv x.a, iv x.b, sv x.text]]))) (fun u => .agg #[iv o, u]) 11 [[], [0], [], [], [3], [2, 4], [], [6], [5, 7], [1, 8], []] (fun i => match i with | 0 => pv (pt w0.heap.size) | 1 => pv (iv o) | 2 => fun v E => E = [] | 3 => pv (.pointer (some ⟨w0.heap.size, 1, none⟩)) | 4 => pv (lv) | 5 => fun v E => E = [] | 6 => pv (.agg #[iv x.t, iv x.kind, iv x.a, iv x.b, sv x.text]) | 7 => pm (fun b : Nat => .slice (some ⟨b, 0, none⟩) 1 1) (fun b => [own (.slice (some ⟨b, 0, none⟩) 1 1) 27 5 [[iv x.t, iv x.kind, iv x.a, iv x.b, sv x.text]]]) (fun _ => True) | 8 => fun v E => E = [] | 9 => fun v E => E = [] | 10 => pm (fun b : Nat => pt b) (fun b => [blk b [iv 0, .slice none 0 0] 25]) (fun _ => True) | _ => fun _ _ => False) Z Y (by kernel_rfl) (by kernel_rfl) (by kernel_rfl) (by decide) (by decide) (by decide) (by decide) (by decide) ?_ ?_ ?_ ?_ ?_ ?_ ?_
 ·intro i v E h
  match i, h with
  | 0, _ => exact by decide
  | 1, _ => exact by decide
  | 2, _ => exact by decide
  | 3, _ => exact by decide
  | 4, _ => exact by decide
  | 5, _ => exact by decide
  | 6, _ => exact by decide
  | 7, _ => exact by decide
  | 8, _ => exact by decide
  | 9, _ => exact by decide
  | 10, _ => exact by decide
  | i + 11, h => exact h.elim
 ·intro i hi h0 h1 h2 h3 e
  match i, hi, h0, h1, h2, h3 with
  | 0, _, _, _, _, _ =>
   intro w Y
   exact OpV.g (al (v := pt w0.heap.size) rfl (by kernel_rfl))
  | 1, _, _, _, _, _ =>
   rintro _ _ ⟨rfl, rfl⟩
   intro w Y
   exact OpV.g (ah (Y.get (k := 3) rfl) rfl (Tryd.isAgg3 _) rfl)
  | 2, _, h, _, _, _ => exact absurd rfl h
  | 3, _, _, _, _, _ =>
   intro w Y
   exact OpV.g (al (v := .pointer (some ⟨w0.heap.size, 1, none⟩)) rfl (by kernel_rfl))
  | 4, _, _, _, _, _ =>
   rintro _ _ ⟨rfl, rfl⟩
   intro w Y
   exact OpV.g (ah (Y.get (k := 3) rfl) rfl (Tryd.isAgg23 _) rfl)
  | 5, _, _, h, _, _ => exact absurd rfl h
  | 6, _, _, _, _, _ =>
   intro w Y
   exact OpV.g (aw (Y.get (k := 2) rfl) rfl (Tryd.isAgg27 _) (Tryd.sizeOf27 _))
  | 7, _, _, _, _, _ =>
   rintro _ _ ⟨rfl, rfl⟩
   intro w Y
   exact aU (E := 27) (sz := 5) rfl [[iv x.t, iv x.kind, iv x.a, iv x.b, sv x.text]] (fun _ => by kernel_rfl) (by simp) rfl (by decide)
  | 8, _, _, _, h, _ => exact absurd rfl h
  | 9, _, _, _, _, h => exact absurd rfl h
  | 10, _, _, _, _, _ =>
   intro w Y
   exact gM (Tryd.zeroValue25 _) (cs := [iv 0, .slice none 0 0]) rfl
 ·intro w Y
  exact OpR.to_own (f := fun b : Nat => .slice (some ⟨b, 0, none⟩) 0 0) (e := fun v => own v 27 5 []) (aU (E := 27) (sz := 5) rfl [] (fun _ => by kernel_rfl) (by simp) rfl (by decide)) (fun v => rfl)
 ·rintro s1 _ rfl _ _ ⟨rfl, rfl⟩
  intro w Y
  replace Y : St No w0 (own s1 27 5 ([]) :: _) w := Y
  exact (cg (Y.get (k := 0) rfl) rfl rfl (Y.arg hlv) Tryd.underlying23 (inf := Tryd.t27) (z := .agg #[iv 0, iv 0, iv 0, iv 0, .string (⟨#[]⟩)]) rfl rfl rfl rfl (by decide) (by first | (simp [Value.oneCell', yv, wv, sv]; done) | exact eh (by intro e he; obtain ⟨p, _, rfl⟩ := List.mem_map.1 he; exact ⟨p, rfl⟩)) (by have hby : Tryd.t27.bytes = 48 := rfl; simp only [big, hby, List.length_append, List.length_map, List.length_cons, List.length_nil]; omega) (by have hby : Tryd.t27.bytes = 48 := rfl; simp only [big, hby, List.length_append, List.length_map, List.length_cons, List.length_nil]; omega)).mono fun v w' ⟨h1, h2, h3⟩ => ⟨h1, h2, h3, rfl⟩
 ·rintro s2 _ rfl _ _ ⟨b3, rfl, -, rfl⟩
  intro w Y
  replace Y : St No w0 (own s2 27 5 (([]) ++ ((l).map Rec.cells)) :: _) w := Y
  exact (cg (Y.get (k := 0) rfl) rfl rfl (Y.ownAt (i := 1) rfl) Tryd.underlying23 (inf := Tryd.t27) (z := .agg #[iv 0, iv 0, iv 0, iv 0, .string (⟨#[]⟩)]) rfl rfl rfl rfl (by decide) (by first | (simp [Value.oneCell', yv, wv, sv]; done) | exact eh (by intro e he; obtain ⟨p, _, rfl⟩ := List.mem_map.1 he; exact ⟨p, rfl⟩)) (by have hby : Tryd.t27.bytes = 48 := rfl; simp only [big, hby, List.length_append, List.length_map, List.length_cons, List.length_nil]; omega) (by have hby : Tryd.t27.bytes = 48 := rfl; simp only [big, hby, List.length_append, List.length_map, List.length_cons, List.length_nil]; omega)).mono fun v w' ⟨h1, h2, h3⟩ => ⟨h1, h2, h3, rfl⟩
 ·rintro _ _ ⟨rfl, rfl⟩ s4 _ rfl
  intro w Y
  have Y : St No w0 (own s4 27 5 ((([]) ++ ((l).map Rec.cells)) ++ ([[iv x.t, iv x.kind, iv x.a, iv x.b, sv x.text]])) :: _) w := Y
  obtain ⟨_, _, _, esl⟩ := jN (Y.ownAt (i := 0) rfl)
  exact OpV.hopv (OpV.g (bu (v := .agg #[iv o, s4]) rfl (by rw [esl]; kernel_rfl))) rfl
 clear Z Y
 rintro vq _ _ ⟨⟨rfl, rfl⟩, -⟩ _ _ ⟨⟨rfl, rfl⟩, -⟩ s1 _ ⟨rfl, -, -⟩ _ _ ⟨⟨rfl, rfl⟩, -⟩ _ _ ⟨⟨rfl, rfl⟩, -⟩ s2 _ ⟨rfl, -, -⟩ _ _ ⟨⟨rfl, rfl⟩, -⟩ _ _ ⟨⟨b3, rfl, -, rfl⟩, -⟩ s4 _ ⟨rfl, hvq, -⟩ _ _ ⟨rfl, -, hv3⟩ _ _ ⟨⟨b5, rfl, -, rfl⟩, -⟩ a w5 Z Y
 obtain rfl := hvq rfl
 obtain rfl := hv3 rfl
 replace Z : Fr 27 [(7, _), (8, _), (9, _), (10, _), (11, _), (12, _), (13, _), (14, _), (15, _), (16, _), (6, _), (0, _), (1, _), (2, _), (3, _), (4, _), (5, _)] [] a := Z
 replace Y : St No w0 [own (.slice (some ⟨b3, 0, none⟩) 1 1) 27 5 ([[iv x.t, iv x.kind, iv x.a, iv x.b, sv x.text]]), blk b5 [iv 0, .slice none 0 0] 25, own s4 27 5 ((([]) ++ ((l).map Rec.cells)) ++ ([[iv x.t, iv x.kind, iv x.a, iv x.b, sv x.text]])), blk w2.heap.size [iv 0, .slice none 0 0] 25, blk w1.heap.size [iv x.t, iv x.kind, iv x.a, iv x.b, sv x.text] 27, blk w0.heap.size [iv o, lv] 25] w5 := Y
 replace Y : St No w0 [own (.slice (some ⟨b3, 0, none⟩) 1 1) 27 5 ([[iv x.t, iv x.kind, iv x.a, iv x.b, sv x.text]]), blk b5 [iv 0, .slice none 0 0] 25, own s4 27 5 ((l ++ [x]).map Rec.cells), blk w2.heap.size [iv 0, .slice none 0 0] 25, blk w1.heap.size [iv x.t, iv x.kind, iv x.a, iv x.b, sv x.text] 27, blk w0.heap.size [iv o, lv] 25] w5 := by rw [List.map_append]; exact Y
 refine ab <| aT (k := 11) 12 [11] (by kernel_rfl) (by kernel_rfl) (by kernel_rfl) ?_
 refine bw (us := [iv o, s4]) 1 Z Y rfl rfl rfl (Tryd.sizeOf25 _) (by intro z hz; simp only [List.mem_cons, List.not_mem_nil, or_false] at hz; rcases hz with rfl | rfl <;> first | rfl | exact SlAt.one (Y.ownAt (i := 2) rfl)) (lb rfl) (ds := [iv o, s4]) rfl rfl ?_
 clear Z Y
 intro a w6 Z Y
 refine ab <| ba (by kernel_rfl) ?_
 refine hK2 _ _ ?_
 replace Z : Fr 27 [(2, _), (4, _), (5, _), (6, _)] [] a := Z.pick [2, 4, 5, 6]
 replace Y : St No w0 [_, _, _, _] w6 := Y.mask [false, true, true, true, false, true]
 refine ag fun K3 hK3 => aa fun K4 hK4 => wlv Z (aw (Y.get (k := 3) rfl) rfl (Tryd.isAgg25 _) (Tryd.sizeOf25 _)) fun a Z => aq Z Y (by decide) Tryd.call16 rfl (da o lv l _ (Y.arg hlv)) ?_
 clear Z Y
 intro a w7 Z Y
 refine wlv Z (bq rfl) fun a Z => wlm Z rfl fun a Z => ?_
 rcases Bool.eq_false_or_eq_true (!(logOk o l)) with hb6 | hb6
 ·rw [hb6] at Z
  try simp only [qz] at hb6
  exfalso; obtain ⟨h1, h2⟩ := dJ hok; simp [h1, h2] at hb6
 rw [hb6] at Z
 try simp only [qz] at hb6
 refine wly Z (aw (Y.get (k := 0) rfl) rfl (Tryd.isAgg25 _) (Tryd.sizeOf25 _)) fun a Z => aR Z Y (by decide) rfl (by decide) rfl Tryd.call16 rfl (da o s4 (l ++ [x]) _ (Y.ownAt (i := 1) rfl)) ?_
 clear Z Y
 intro a w8 Z Y
 refine wly Z (bq rfl) fun a Z => wlv Z (aA rfl rfl) fun a Z => ab (hK4 _ _ ?_)
 replace Z : Fr 27 [(4, _), (5, _), (6, _), (24, _)] [] a := Z.pick [4, 5, 6, 24]
 replace Y : St No w0 [_, _, _] w8 := Y.mask [true, true, true, false]
 refine az Z rfl (fun hc7 => ?_) (fun hc7 => ?_)
 ·rw [hc7] at Z
  try simp only [qz] at hc7
  exfalso; obtain ⟨h1, h2⟩ := dJ hok; simp [h1, h2] at hc7
 rw [hc7] at Z
 try simp only [qz] at hc7
 refine au <| hK3 _ _ <| aa fun K5 hK5 => wlv Z (aw (Y.get (k := 0) rfl) rfl (Tryd.isAgg25 _) (Tryd.sizeOf25 _)) fun a Z => bw (us := [iv o, s4]) 2 Z Y rfl rfl rfl (Tryd.sizeOf25 _) (by intro z hz; simp only [List.mem_cons, List.not_mem_nil, or_false] at hz; rcases hz with rfl | rfl <;> first | rfl | exact SlAt.one (Y.ownAt (i := 1) rfl)) (lb rfl) (ds := [iv o, s4]) rfl rfl ?_
 clear Z Y
 intro a w9 Z Y
 refine wla Z rfl fun a Z => ab (hK5 _ _ <| ar ?_)
 refine am Z Tryd.results13 (aH rfl (bH (Y.get (k := 2) rfl) (Tryd.isAgg25 _) (Tryd.sizeOf25 _)) (ac rfl ae)) ?_
 exact ⟨_, rfl, trivial, Y.ext, St.out (E := [own _ 27 5 ((l ++ [x]).map Rec.cells)]) (H := []) (Y.select [1] (by decide))⟩
theorem m6 (o : Int) (lv : Value) (l : List Rec) (x : Rec) (w0 : World) (hlv : SlAt w0 lv 5 (l.map Rec.cells)) (hll : l.length ≤ 1000) (hok : addOk o l x = false) :
  Ret Tryd.prog 13 #[.agg #[iv o, lv], .agg #[iv x.t, iv x.kind, iv x.a, iv x.b, sv x.text]] w0 (MemR w0 (fun v : Value => .tuple #[.agg #[iv 0, v], iv 110]) (fun v => [own v 27 5 (([] : List Rec).map Rec.cells)]) (fun _ => True)) := by
 refine aC Tryd.func13 rfl Tryd.ntmps13 (lb rfl) fun a Z => ?_
 replace Z : Fr 27 [(0, _), (1, _)] [] a := Z
 replace Y : St No w0 [] w0 := St.init w0
 refine aa fun K1 hK1 => bl Z Y (by decide) rfl (cs := [iv o, lv]) rfl ?_
 clear Z Y
 intro a w1 Z Y
 refine bl Z Y (by decide) rfl (cs := [iv x.t, iv x.kind, iv x.a, iv x.b, sv x.text]) rfl ?_
 clear Z Y
 intro a w2 Z Y
 refine aK Z Y (by decide) (Tryd.zeroValue25 _) (cs := [iv 0, .slice none 0 0]) rfl ?_
 clear Z Y
 intro a w3 Z Y
 refine wla Z rfl fun a Z => ab (hK1 _ _ <| ag fun K2 hK2 => ?_)
 refine aI (by kernel_rfl) (aL (by kernel_rfl) fun w4 hxz => ?_)
 replace Y := Y.grow hxz
 refine aX (k := 0) 11 [9, 10] Z (by kernel_rfl) (by kernel_rfl) (by kernel_rfl) (by rfl) ?_
 replace Z : Fr 27 [(0, _), (1, _), (2, _), (3, _), (4, _), (5, _)] [] a := Z.pick [0, 1, 2, 3, 4, 5]
 refine cY 2 5 8 9 (fun v => own v 27 5 ([])) (fun v => own v 27 5 (([]) ++ ((l).map Rec.cells))) (fun v => own v 27 5 ((([]) ++ ((l).map Rec.cells)) ++ ([[iv x.t, iv x.kind, iv x.a, iv x.b, sv x.text]]))) (fun u => .agg #[iv o, u]) 11 [[], [0], [], [], [3], [2, 4], [], [6], [5, 7], [1, 8], []] (fun i => match i with | 0 => pv (pt w0.heap.size) | 1 => pv (iv o) | 2 => fun v E => E = [] | 3 => pv (.pointer (some ⟨w0.heap.size, 1, none⟩)) | 4 => pv (lv) | 5 => fun v E => E = [] | 6 => pv (.agg #[iv x.t, iv x.kind, iv x.a, iv x.b, sv x.text]) | 7 => pm (fun b : Nat => .slice (some ⟨b, 0, none⟩) 1 1) (fun b => [own (.slice (some ⟨b, 0, none⟩) 1 1) 27 5 [[iv x.t, iv x.kind, iv x.a, iv x.b, sv x.text]]]) (fun _ => True) | 8 => fun v E => E = [] | 9 => fun v E => E = [] | 10 => pm (fun b : Nat => pt b) (fun b => [blk b [iv 0, .slice none 0 0] 25]) (fun _ => True) | _ => fun _ _ => False) Z Y (by kernel_rfl) (by kernel_rfl) (by kernel_rfl) (by decide) (by decide) (by decide) (by decide) (by decide) ?_ ?_ ?_ ?_ ?_ ?_ ?_
 ·intro i v E h
  match i, h with
  | 0, _ => exact by decide
  | 1, _ => exact by decide
  | 2, _ => exact by decide
  | 3, _ => exact by decide
  | 4, _ => exact by decide
  | 5, _ => exact by decide
  | 6, _ => exact by decide
  | 7, _ => exact by decide
  | 8, _ => exact by decide
  | 9, _ => exact by decide
  | 10, _ => exact by decide
  | i + 11, h => exact h.elim
 ·intro i hi h0 h1 h2 h3 e
  match i, hi, h0, h1, h2, h3 with
  | 0, _, _, _, _, _ =>
   intro w Y
   exact OpV.g (al (v := pt w0.heap.size) rfl (by kernel_rfl))
  | 1, _, _, _, _, _ =>
   rintro _ _ ⟨rfl, rfl⟩
   intro w Y
   exact OpV.g (ah (Y.get (k := 3) rfl) rfl (Tryd.isAgg3 _) rfl)
  | 2, _, h, _, _, _ => exact absurd rfl h
  | 3, _, _, _, _, _ =>
   intro w Y
   exact OpV.g (al (v := .pointer (some ⟨w0.heap.size, 1, none⟩)) rfl (by kernel_rfl))
  | 4, _, _, _, _, _ =>
   rintro _ _ ⟨rfl, rfl⟩
   intro w Y
   exact OpV.g (ah (Y.get (k := 3) rfl) rfl (Tryd.isAgg23 _) rfl)
  | 5, _, _, h, _, _ => exact absurd rfl h
  | 6, _, _, _, _, _ =>
   intro w Y
   exact OpV.g (aw (Y.get (k := 2) rfl) rfl (Tryd.isAgg27 _) (Tryd.sizeOf27 _))
  | 7, _, _, _, _, _ =>
   rintro _ _ ⟨rfl, rfl⟩
   intro w Y
   exact aU (E := 27) (sz := 5) rfl [[iv x.t, iv x.kind, iv x.a, iv x.b, sv x.text]] (fun _ => by kernel_rfl) (by simp) rfl (by decide)
  | 8, _, _, _, h, _ => exact absurd rfl h
  | 9, _, _, _, _, h => exact absurd rfl h
  | 10, _, _, _, _, _ =>
   intro w Y
   exact gM (Tryd.zeroValue25 _) (cs := [iv 0, .slice none 0 0]) rfl
 ·intro w Y
  exact OpR.to_own (f := fun b : Nat => .slice (some ⟨b, 0, none⟩) 0 0) (e := fun v => own v 27 5 []) (aU (E := 27) (sz := 5) rfl [] (fun _ => by kernel_rfl) (by simp) rfl (by decide)) (fun v => rfl)
 ·rintro s1 _ rfl _ _ ⟨rfl, rfl⟩
  intro w Y
  replace Y : St No w0 (own s1 27 5 ([]) :: _) w := Y
  exact (cg (Y.get (k := 0) rfl) rfl rfl (Y.arg hlv) Tryd.underlying23 (inf := Tryd.t27) (z := .agg #[iv 0, iv 0, iv 0, iv 0, .string (⟨#[]⟩)]) rfl rfl rfl rfl (by decide) (by first | (simp [Value.oneCell', yv, wv, sv]; done) | exact eh (by intro e he; obtain ⟨p, _, rfl⟩ := List.mem_map.1 he; exact ⟨p, rfl⟩)) (by have hby : Tryd.t27.bytes = 48 := rfl; simp only [big, hby, List.length_append, List.length_map, List.length_cons, List.length_nil]; omega) (by have hby : Tryd.t27.bytes = 48 := rfl; simp only [big, hby, List.length_append, List.length_map, List.length_cons, List.length_nil]; omega)).mono fun v w' ⟨h1, h2, h3⟩ => ⟨h1, h2, h3, rfl⟩
 ·rintro s2 _ rfl _ _ ⟨b3, rfl, -, rfl⟩
  intro w Y
  replace Y : St No w0 (own s2 27 5 (([]) ++ ((l).map Rec.cells)) :: _) w := Y
  exact (cg (Y.get (k := 0) rfl) rfl rfl (Y.ownAt (i := 1) rfl) Tryd.underlying23 (inf := Tryd.t27) (z := .agg #[iv 0, iv 0, iv 0, iv 0, .string (⟨#[]⟩)]) rfl rfl rfl rfl (by decide) (by first | (simp [Value.oneCell', yv, wv, sv]; done) | exact eh (by intro e he; obtain ⟨p, _, rfl⟩ := List.mem_map.1 he; exact ⟨p, rfl⟩)) (by have hby : Tryd.t27.bytes = 48 := rfl; simp only [big, hby, List.length_append, List.length_map, List.length_cons, List.length_nil]; omega) (by have hby : Tryd.t27.bytes = 48 := rfl; simp only [big, hby, List.length_append, List.length_map, List.length_cons, List.length_nil]; omega)).mono fun v w' ⟨h1, h2, h3⟩ => ⟨h1, h2, h3, rfl⟩
 ·rintro _ _ ⟨rfl, rfl⟩ s4 _ rfl
  intro w Y
  have Y : St No w0 (own s4 27 5 ((([]) ++ ((l).map Rec.cells)) ++ ([[iv x.t, iv x.kind, iv x.a, iv x.b, sv x.text]])) :: _) w := Y
  obtain ⟨_, _, _, esl⟩ := jN (Y.ownAt (i := 0) rfl)
  exact OpV.hopv (OpV.g (bu (v := .agg #[iv o, s4]) rfl (by rw [esl]; kernel_rfl))) rfl
 clear Z Y
 rintro vq _ _ ⟨⟨rfl, rfl⟩, -⟩ _ _ ⟨⟨rfl, rfl⟩, -⟩ s1 _ ⟨rfl, -, -⟩ _ _ ⟨⟨rfl, rfl⟩, -⟩ _ _ ⟨⟨rfl, rfl⟩, -⟩ s2 _ ⟨rfl, -, -⟩ _ _ ⟨⟨rfl, rfl⟩, -⟩ _ _ ⟨⟨b3, rfl, -, rfl⟩, -⟩ s4 _ ⟨rfl, hvq, -⟩ _ _ ⟨rfl, -, hv3⟩ _ _ ⟨⟨b5, rfl, -, rfl⟩, -⟩ a w5 Z Y
 obtain rfl := hvq rfl
 obtain rfl := hv3 rfl
 replace Z : Fr 27 [(7, _), (8, _), (9, _), (10, _), (11, _), (12, _), (13, _), (14, _), (15, _), (16, _), (6, _), (0, _), (1, _), (2, _), (3, _), (4, _), (5, _)] [] a := Z
 replace Y : St No w0 [own (.slice (some ⟨b3, 0, none⟩) 1 1) 27 5 ([[iv x.t, iv x.kind, iv x.a, iv x.b, sv x.text]]), blk b5 [iv 0, .slice none 0 0] 25, own s4 27 5 ((([]) ++ ((l).map Rec.cells)) ++ ([[iv x.t, iv x.kind, iv x.a, iv x.b, sv x.text]])), blk w2.heap.size [iv 0, .slice none 0 0] 25, blk w1.heap.size [iv x.t, iv x.kind, iv x.a, iv x.b, sv x.text] 27, blk w0.heap.size [iv o, lv] 25] w5 := Y
 replace Y : St No w0 [own (.slice (some ⟨b3, 0, none⟩) 1 1) 27 5 ([[iv x.t, iv x.kind, iv x.a, iv x.b, sv x.text]]), blk b5 [iv 0, .slice none 0 0] 25, own s4 27 5 ((l ++ [x]).map Rec.cells), blk w2.heap.size [iv 0, .slice none 0 0] 25, blk w1.heap.size [iv x.t, iv x.kind, iv x.a, iv x.b, sv x.text] 27, blk w0.heap.size [iv o, lv] 25] w5 := by rw [List.map_append]; exact Y
 refine ab <| aT (k := 11) 12 [11] (by kernel_rfl) (by kernel_rfl) (by kernel_rfl) ?_
 refine bw (us := [iv o, s4]) 1 Z Y rfl rfl rfl (Tryd.sizeOf25 _) (by intro z hz; simp only [List.mem_cons, List.not_mem_nil, or_false] at hz; rcases hz with rfl | rfl <;> first | rfl | exact SlAt.one (Y.ownAt (i := 2) rfl)) (lb rfl) (ds := [iv o, s4]) rfl rfl ?_
 clear Z Y
 intro a w6 Z Y
 refine ab <| ba (by kernel_rfl) ?_
 refine hK2 _ _ ?_
 replace Z : Fr 27 [(2, _), (4, _), (5, _), (6, _)] [] a := Z.pick [2, 4, 5, 6]
 replace Y : St No w0 [_, _, _, _] w6 := Y.mask [false, true, true, true, false, true]
 refine ag fun K3 hK3 => aa fun K4 hK4 => wlv Z (aw (Y.get (k := 3) rfl) rfl (Tryd.isAgg25 _) (Tryd.sizeOf25 _)) fun a Z => aq Z Y (by decide) Tryd.call16 rfl (da o lv l _ (Y.arg hlv)) ?_
 clear Z Y
 intro a w7 Z Y
 refine wlv Z (bq rfl) fun a Z => wlm Z rfl fun a Z => ?_
 rcases Bool.eq_false_or_eq_true (!(logOk o l)) with hb6 | hb6
 ·rw [hb6] at Z
  try simp only [qz] at hb6
  refine wln Z fun a Z => wln Z fun a Z => wln Z fun a Z => wlv Z (aB rfl rfl) fun a Z => ab (hK4 _ _ ?_)
  replace Z : Fr 27 [(4, _), (5, _), (6, _), (24, _)] [] a := Z.pick [4, 5, 6, 24]
  replace Y : St No w0 [_, _, _] w7 := Y.mask [true, true, true, false]
  refine aM Z rfl ?_
  refine aa fun K5 hK5 => wlv Z (bu (v := .agg #[iv 0, .slice none 0 0]) rfl (by kernel_rfl)) fun a Z => aF 2 Z Y rfl rfl rfl (Tryd.sizeOf25 _) rfl (lb rfl) (ds := [iv 0, .slice none 0 0]) rfl rfl ?_
  clear Z Y
  intro a w8 Z Y
  refine wla Z rfl fun a Z => ab (hK5 _ _ <| ar ?_)
  refine am Z Tryd.results13 (aH rfl (bH (Y.get (k := 2) rfl) (Tryd.isAgg25 _) (Tryd.sizeOf25 _)) (ac rfl ae)) ?_
  replace Y : St No w0 [own (.slice none 0 0) 27 5 ((([] : List Rec)).map Rec.cells), blk b5 [iv o, s4] 25, own s4 27 5 ((l ++ [x]).map Rec.cells), blk w2.heap.size [iv 0, .slice none 0 0] 25] w8 := Y.nil_own
  exact ⟨.slice none 0 0, rfl, trivial, Y.ext, St.out (E := [own (.slice none 0 0) 27 5 ((([] : List Rec)).map Rec.cells)]) (H := []) (Y.select [0] (by decide))⟩
 rw [hb6] at Z
 try simp only [qz] at hb6
 refine wly Z (aw (Y.get (k := 0) rfl) rfl (Tryd.isAgg25 _) (Tryd.sizeOf25 _)) fun a Z => aR Z Y (by decide) rfl (by decide) rfl Tryd.call16 rfl (da o s4 (l ++ [x]) _ (Y.ownAt (i := 1) rfl)) ?_
 clear Z Y
 intro a w9 Z Y
 refine wly Z (bq rfl) fun a Z => wlv Z (aA rfl rfl) fun a Z => ab (hK4 _ _ ?_)
 replace Z : Fr 27 [(4, _), (5, _), (6, _), (24, _)] [] a := Z.pick [4, 5, 6, 24]
 replace Y : St No w0 [_, _, _] w9 := Y.mask [true, true, true, false]
 refine az Z rfl (fun hc7 => ?_) (fun hc7 => ?_)
 ·rw [hc7] at Z
  try simp only [qz] at hc7
  refine aa fun K6 hK6 => wlv Z (bu (v := .agg #[iv 0, .slice none 0 0]) rfl (by kernel_rfl)) fun a Z => aF 2 Z Y rfl rfl rfl (Tryd.sizeOf25 _) rfl (lb rfl) (ds := [iv 0, .slice none 0 0]) rfl rfl ?_
  clear Z Y
  intro a w10 Z Y
  refine wla Z rfl fun a Z => ab (hK6 _ _ <| ar ?_)
  refine am Z Tryd.results13 (aH rfl (bH (Y.get (k := 2) rfl) (Tryd.isAgg25 _) (Tryd.sizeOf25 _)) (ac rfl ae)) ?_
  replace Y : St No w0 [own (.slice none 0 0) 27 5 ((([] : List Rec)).map Rec.cells), blk b5 [iv o, s4] 25, own s4 27 5 ((l ++ [x]).map Rec.cells), blk w2.heap.size [iv 0, .slice none 0 0] 25] w10 := Y.nil_own
  exact ⟨.slice none 0 0, rfl, trivial, Y.ext, St.out (E := [own (.slice none 0 0) 27 5 ((([] : List Rec)).map Rec.cells)]) (H := []) (Y.select [0] (by decide))⟩
 rw [hc7] at Z
 try simp only [qz] at hc7
 exfalso; unfold addOk at hok; simp only [hb6, hc7] at hok; simp at hok
theorem em (o : Int) (lv : Value) (l : List Rec) (kind at_ : Int) (w0 : World) (hlv : SlAt w0 lv 5 (l.map Rec.cells)) :
  Ret Tryd.prog 20 #[.agg #[iv o, lv], iv kind, iv at_] w0 fun v w => v = iv (findH o l kind at_) ∧ Ext No w0 w := by
 have hxb := hlv.2.1
 simp only [List.length_map, big] at hxb
 refine aC Tryd.func20 rfl Tryd.ntmps20 (lb rfl) fun a Z => ?_
 replace Z : Fr 27 [(0, _), (1, _), (2, _)] [] a := Z
 replace Y : St No w0 [] w0 := St.init w0
 refine aa fun K1 hK1 => bl Z Y (by decide) rfl (cs := [iv o, lv]) rfl ?_
 clear Z Y
 intro a w1 Z Y
 refine bl Z Y (by decide) rfl (cs := [iv kind]) rfl ?_
 clear Z Y
 intro a w2 Z Y
 refine bl Z Y (by decide) rfl (cs := [iv at_]) rfl ?_
 clear Z Y
 intro a w3 Z Y
 refine aK Z Y (by decide) (Tryd.zeroValue3 _) (cs := [iv 0]) rfl ?_
 clear Z Y
 intro a w4 Z Y
 refine ab (hK1 _ _ <| ag fun K2 hK2 => ?_)
 refine aa fun K3 hK3 => wlv Z (aw (Y.get (k := 3) rfl) rfl (Tryd.isAgg25 _) (Tryd.sizeOf25 _)) fun a Z => aq Z Y (by decide) Tryd.call16 rfl (da o lv l _ (Y.arg hlv)) ?_
 clear Z Y
 intro a w5 Z Y
 refine wlv Z (bq rfl) fun a Z => ab (hK3 _ _ ?_)
 refine az Z rfl (fun hc1 => ?_) (fun hc1 => ?_)
 ·rw [hc1] at Z
  try simp only [qz, Bool.and_eq_true, Bool.or_eq_true, Bool.and_eq_false_iff, Bool.or_eq_false_iff] at hc1
  have hlo : logOk o l = false := by simpa using hc1
  refine aa fun K4 hK4 => aF 0 Z Y rfl rfl rfl (Tryd.sizeOf3 _) rfl (lb rfl) (ds := [iv (-1)]) rfl rfl ?_
  clear Z Y
  intro a w6 Z Y
  refine ab (hK4 _ _ ?_)
  replace Z : Fr 27 [(3, _), (4, _), (5, _), (6, _)] [] a := Z.pick [3, 4, 5, 6]
  refine ar ?_
  refine am Z Tryd.results20 (aH rfl (ch (Y.get (k := 0) rfl) (Tryd.isAgg3 _)) ae) ?_
  exact ⟨by simp only [retv]; rw [findH, if_neg (by rw [hlo]; decide)]; try rfl, Y.ext⟩
 rw [hc1] at Z
 try simp only [qz, Bool.and_eq_true, Bool.or_eq_true, Bool.and_eq_false_iff, Bool.or_eq_false_iff] at hc1
 have hlo : logOk o l = true := by simpa using hc1
 refine au <| hK2 _ _ <| ag fun K5 hK5 => aa fun K6 hK6 => wlv Z (aw (Y.get (k := 3) rfl) rfl (Tryd.isAgg25 _) (Tryd.sizeOf25 _)) fun a Z => aW Z Y (by decide) Tryd.call48 rfl (iE o lv _ l (Y.arg hlv)) ?_
 clear Z Y
 intro a w7 x2 hp Z Y
 revert x2 hp Z Y; rintro z1 hp Z Y
 clear hp
 replace Y : St No w0 [blk z1 [iv o, lv] 25, blk w3.heap.size [iv 0] 3, blk w2.heap.size [iv at_] 3, blk w1.heap.size [iv kind] 3, blk w0.heap.size [iv o, lv] 25] w7 := Y
 refine ab (hK6 _ _ ?_)
 replace Z : Fr 27 [(4, _), (5, _), (6, _), (13, _)] [] a := Z.pick [4, 5, 6, 13]
 replace Y : St No w0 [_, _, _, _] w7 := Y.mask [true, true, true, true, false]
 refine ao ?_
 replace Y : St No w0 [blk w1.heap.size [iv kind] 3, blk w2.heap.size [iv at_] 3, blk w3.heap.size [iv 0] 3, blk z1 [iv o, lv] 25] w7 := Y.select [3, 2, 1, 0] (by decide)
 replace Z : Fr 27 [(4, pt w1.heap.size), (5, pt w2.heap.size), (6, pt w3.heap.size), (13, .func (.func 74) #[] #[pt z1])] [] a := Z.pick [4, 5, 6, 13]
 refine cy (M := No) (w0 := w0) (encs := (encRb l)) (Hi := [blk z1 [iv o, lv] 25]) (Hc := [blk w1.heap.size [iv kind] 3, blk w2.heap.size [iv at_] 3, blk w3.heap.size [iv 0] 3]) (fun pre H => (findF (hitR kind at_) l l.length = findF (hitR kind at_) l (l.length - (pre : List Nat).length)) ∧ H = [blk w1.heap.size [iv kind] 3, blk w2.heap.size [iv at_] 3, blk w3.heap.size [iv 0] 3]) (fun c pre H => c = .ret ∧ ∃ (i : Nat), (findF (hitR kind at_) l l.length = (i : Int)) ∧ H = [blk w1.heap.size [iv kind] 3, blk w2.heap.size [iv at_] 3, blk w3.heap.size [iv (i : Int)] 3]) (fun pre xs H a => ∃ (bA0 : Nat), Fr 27 [(4, pt w1.heap.size), (5, pt w2.heap.size), (6, pt w3.heap.size), (13, .func (.func 74) #[] #[pt z1]), (7, iv (xs : Int)), (8, pt bA0)] [] a ∧ (findF (hitR kind at_) l l.length = findF (hitR kind at_) l (l.length - (pre : List Nat).length)) ∧ H = [blk bA0 [iv ((l.getD xs Rec.z).t), iv ((l.getD xs Rec.z).kind), iv ((l.getD xs Rec.z).a), iv ((l.getD xs Rec.z).b), sv ((l.getD xs Rec.z).text)] 27, blk w1.heap.size [iv kind] 3, blk w2.heap.size [iv at_] 3, blk w3.heap.size [iv 0] 3]) rfl Tryd.call74 Z Y (fM o lv l z1 (by have := bU hlo; omega) (fun H w h => h.arg hlv)) (by decide) (fun _ => rfl) ⟨(by simp), rfl⟩ ?_ ?_ ?_ ?_
 ·clear Z Y
  rintro lp pre xs _ a w8 hnx ⟨hfi, rfl⟩ Z Y
  generalize (join [blk w1.heap.size [iv kind] 3, blk w2.heap.size [iv at_] 3, blk w3.heap.size [iv 0] 3]).foot = M1 at Y ⊢
  replace Z : Fr 27 [(15, .agg #[iv ((l.getD xs Rec.z).t), iv ((l.getD xs Rec.z).kind), iv ((l.getD xs Rec.z).a), iv ((l.getD xs Rec.z).b), sv ((l.getD xs Rec.z).text)]), (14, iv (xs : Int)), (4, pt w1.heap.size), (5, pt w2.heap.size), (6, pt w3.heap.size), (13, .func (.func 74) #[] #[pt z1])] [] a := Z
  refine aa fun K7 hK7 => wla Z rfl fun a Z => ab (hK7 _ _ <| ap ?_)
  refine aK Z Y (by decide) (Tryd.zeroValue27 _) (cs := [iv 0, iv 0, iv 0, iv 0, .string (⟨#[]⟩)]) rfl ?_
  clear Z Y
  intro a w9 Z Y
  refine aF 0 Z Y rfl rfl rfl (Tryd.sizeOf27 _) rfl (lb rfl) (ds := [iv ((l.getD xs Rec.z).t), iv ((l.getD xs Rec.z).kind), iv ((l.getD xs Rec.z).a), iv ((l.getD xs Rec.z).b), sv ((l.getD xs Rec.z).text)]) rfl rfl ?_
  clear Z Y
  intro a w10 Z Y
  refine ab ?_
  exact ⟨_, ⟨w8.heap.size, Z.pick [4, 5, 6, 13, 7, 8], hfi, rfl⟩, Y⟩
 ·rintro lp pre xs _ a w11 hnx ⟨bA0, Z, hfi, rfl⟩ hout hrec hnl Y
  clear hrec hnl
  generalize (join [blk bA0 [iv ((l.getD xs Rec.z).t), iv ((l.getD xs Rec.z).kind), iv ((l.getD xs Rec.z).a), iv ((l.getD xs Rec.z).b), sv ((l.getD xs Rec.z).text)] 27, blk w1.heap.size [iv kind] 3, blk w2.heap.size [iv at_] 3, blk w3.heap.size [iv 0] 3]).foot = M1 at Y hout ⊢
  refine ao <| aa fun K8 hK8 => wlv Z (al (v := .pointer (some ⟨bA0, 1, none⟩)) rfl (by kernel_rfl)) fun a Z => wlv Z (ah (Y.get (k := 0) rfl) rfl (Tryd.isAgg3 _) rfl) fun a Z => wlv Z (ah (Y.get (k := 1) rfl) rfl (Tryd.isAgg3 _) rfl) fun a Z => wlv Z (v_eq rfl rfl) fun a Z => wlm Z rfl fun a Z => ?_
  refine jG (N := 27) (df := []) 5 [(25, .bool ((decide ((l.getD xs Rec.z).kind = kind)) && (decide ((l.getD xs Rec.z).t ≤ at_)))), (4, pt w1.heap.size), (5, pt w2.heap.size), (6, pt w3.heap.size), (13, .func (.func 74) #[] #[pt z1]), (7, iv (xs : Int)), (8, pt bA0)] ?_ (fun hj => ?_)
  rotate_left
  ·rcases Bool.eq_false_or_eq_true (decide ((l.getD xs Rec.z).kind = kind)) with hb3 | hb3
   ·rw [hb3] at Z
    have hb3b := hb3
    try simp only [qz, Bool.and_eq_true, Bool.or_eq_true, Bool.and_eq_false_iff, Bool.or_eq_false_iff] at hb3
    refine wly Z (al (v := pt bA0) rfl (by kernel_rfl)) fun a Z => wly Z (ah (Y.get (k := 0) rfl) rfl (Tryd.isAgg3 _) rfl) fun a Z => wly Z (ah (Y.get (k := 2) rfl) rfl (Tryd.isAgg3 _) rfl) fun a Z => wly Z (v_le rfl rfl) fun a Z => wlv Z (aB rfl rfl) fun a Z => ?_
    refine hj _ ?_
    try rw [hb3b]
    exact Z.pick [25, 4, 5, 6, 13, 7, 8]
   rw [hb3] at Z
   have hb3b := hb3
   try simp only [qz, Bool.and_eq_true, Bool.or_eq_true, Bool.and_eq_false_iff, Bool.or_eq_false_iff] at hb3
   refine wln Z fun a Z => wln Z fun a Z => wln Z fun a Z => wln Z fun a Z => wlv Z (aA rfl rfl) fun a Z => ?_
   refine hj _ ?_
   try rw [hb3b]
   exact Z.pick [25, 4, 5, 6, 13, 7, 8]
  intro a Z
  refine ab (hK8 _ _ ?_)
  refine az Z rfl (fun hc4 => ?_) (fun hc4 => ?_)
  ·rw [hc4] at Z
   try simp only [qz, Bool.and_eq_true, Bool.or_eq_true, Bool.and_eq_false_iff, Bool.or_eq_false_iff] at hc4
   refine aa fun K9 hK9 => wlm Z rfl fun a Z => aF 3 Z Y rfl rfl rfl (Tryd.sizeOf3 _) rfl (lb rfl) (ds := [iv (xs : Int)]) rfl rfl ?_
   clear Z Y
   intro a w12 Z Y
   refine ab (hK9 _ _ ?_)
   replace Z : Fr 27 [(6, _)] [] a := Z.pick [6]
   replace Y : St M1 w11 [_, _, _] w12 := Y.mask [false, true, true, true]
   refine ar ?_
   exact ⟨_, ⟨rfl, xs, mn hnx hfi (by unfold hitR; simp only [Bool.and_eq_true, decide_eq_true_eq]; omega), rfl⟩, Y.select [0, 1, 2] (by decide)⟩
  rw [hc4] at Z
  try simp only [qz, Bool.and_eq_true, Bool.or_eq_true, Bool.and_eq_false_iff, Bool.or_eq_false_iff] at hc4
  refine au ?_
  exact ⟨_, ⟨ni hnx hfi (by unfold hitR; simp only [Bool.and_eq_false_iff, decide_eq_false_iff_not]; omega), rfl⟩, Y.select [1, 2, 3] (by decide)⟩
 ·rintro D pre _ _ a w13 ⟨rfl, rfl⟩ ⟨hfi, rfl⟩ Y Z
  replace Z : Fr 27 [(4, pt w1.heap.size), (5, pt w2.heap.size), (6, pt w3.heap.size), (13, .func (.func 74) #[] #[pt z1])] [{ target := .collected D, args := #[] }] a := Z
  replace Y : St No w0 [obj D (.deferred (some [])), blk w1.heap.size [iv kind] 3, blk w2.heap.size [iv at_] 3, blk w3.heap.size [iv 0] 3, blk z1 [iv o, lv] 25] w13 := Y
  refine hK5 _ _ <| aa fun K10 hK10 => aF 3 Z Y rfl rfl rfl (Tryd.sizeOf3 _) rfl (lb rfl) (ds := [iv (-1)]) rfl rfl ?_
  clear Z Y
  intro a w14 Z Y
  refine ab (hK10 _ _ <| ar ?_)
  have hD := Y.get (k := 0) rfl
  replace Y := Y.unmark (i := 0) (o' := .deferred none) rfl
  replace Y : St No w0 [blk w1.heap.size [iv kind] 3, blk w2.heap.size [iv at_] 3, blk w3.heap.size [iv (-1)] 3, blk z1 [iv o, lv] 25] _ := Y
  refine bI Z hD Tryd.results20 (aH rfl (ch (Y.get (k := 2) rfl) (Tryd.isAgg3 _)) ae) ?_
  exact ⟨by simp only [retv]; rw [findH, if_pos hlo, mE hfi]; try rfl, Y.ext⟩
 ·rintro D _ pre _ _ a w15 rfl ⟨rfl, i, hfh, rfl⟩ Y Z
  replace Z : Fr 27 [(4, pt w1.heap.size), (5, pt w2.heap.size), (6, pt w3.heap.size), (13, .func (.func 74) #[] #[pt z1])] [{ target := .collected D, args := #[] }] a := Z
  replace Y : St No w0 [obj D (.deferred (some [])), blk w1.heap.size [iv kind] 3, blk w2.heap.size [iv at_] 3, blk w3.heap.size [iv (i : Int)] 3, blk z1 [iv o, lv] 25] w15 := Y
  refine ar ?_
  have hD := Y.get (k := 0) rfl
  replace Y := Y.unmark (i := 0) (o' := .deferred none) rfl
  replace Y : St No w0 [blk w1.heap.size [iv kind] 3, blk w2.heap.size [iv at_] 3, blk w3.heap.size [iv (i : Int)] 3, blk z1 [iv o, lv] 25] _ := Y
  refine bI Z hD Tryd.results20 (aH rfl (ch (Y.get (k := 2) rfl) (Tryd.isAgg3 _)) ae) ?_
  exact ⟨by simp only [retv]; rw [findH, if_pos hlo, hfh]; try rfl, Y.ext⟩
theorem ex (o : Int) (lv : Value) (l : List Rec) (w0 : World) (hlv : SlAt w0 lv 5 (l.map Rec.cells)) (hlo : logOk o l = true) :
  Ret Tryd.prog 62 #[.agg #[iv o, lv]] w0 (MemR w0 (fun v : Value => .tuple #[v, .bool true]) (fun v => [own v 9 1 ((codesB l).map fun s => [sv s])]) (fun _ => True)) := by
 have hxb := hlv.2.1
 simp only [List.length_map, big] at hxb
 have hl60 := bU hlo
 refine aC Tryd.func62 rfl Tryd.ntmps62 (lb rfl) fun a Z => ?_
 replace Z : Fr 27 [(0, _)] [] a := Z
 replace Y : St No w0 [] w0 := St.init w0
 refine aa fun K1 hK1 => bl Z Y (by decide) rfl (cs := [iv o, lv]) rfl ?_
 clear Z Y
 intro a w1 Z Y
 refine wla Z rfl fun a Z => wla Z rfl fun a Z => ab (hK1 _ _ <| ag fun K2 hK2 => ?_)
 refine aa fun K3 hK3 => wlv Z (aw (Y.get (k := 0) rfl) rfl (Tryd.isAgg25 _) (Tryd.sizeOf25 _)) fun a Z => aq Z Y (by decide) Tryd.call16 rfl (da o lv l _ (Y.arg hlv)) ?_
 clear Z Y
 intro a w2 Z Y
 refine wlv Z (bq rfl) fun a Z => ab (hK3 _ _ ?_)
 refine az Z rfl (fun hc1 => ?_) (fun hc1 => ?_)
 ·rw [hc1] at Z
  try simp only [qz] at hc1
  exfalso; simp [hlo] at hc1
 rw [hc1] at Z
 try simp only [qz] at hc1
 refine au <| hK2 _ _ <| aa fun K4 hK4 => wlv Z (al (v := .pointer (some ⟨w0.heap.size, 1, none⟩)) rfl (by kernel_rfl)) fun a Z => wlv Z (ah (Y.get (k := 0) rfl) rfl (Tryd.isAgg23 _) rfl) fun a Z => wlv Z ((aG (sT := 23) (Y.arg hlv) rfl rfl (Tryd.runUnderlying23 _)).asi (m' := (l.length : Int)) (by rw [List.length_map])) fun a Z => gJ (n := l.length) (E := 9) (sz := 1) rfl rfl ((List.replicate l.length ([] : By)).map fun s => [sv s]) (ka Tryd.underlying45 (inf := Tryd.t9) rfl rfl rfl rfl (by decide) l.length (by rw [List.map_replicate]; rfl) (by omega) _) (by intro e he; obtain ⟨_, _, rfl⟩ := List.mem_map.1 he; rfl) (by simp) (by simp only [big]; omega) (by decide) Z Y ?_
 clear Z Y
 intro a w3 Z Y
 refine aK Z Y (by decide) (Tryd.zeroValue45 _) (cs := [.slice none 0 0]) rfl ?_
 clear Z Y
 intro a w4 Z Y
 refine aF 0 Z Y rfl rfl rfl (Tryd.sizeOf45 _) rfl (lb rfl) (ds := [(.slice (some ⟨w2.heap.size, 0, none⟩) l.length l.length)]) rfl rfl ?_
 clear Z Y
 intro a w5 Z Y
 refine ab (hK4 _ _ ?_)
 replace Z : Fr 27 [(1, _), (2, _), (3, _), (4, _)] [] a := Z.pick [1, 2, 3, 4]
 refine ag fun K5 hK5 => aa fun K6 hK6 => wlv Z (aw (Y.get (k := 2) rfl) rfl (Tryd.isAgg25 _) (Tryd.sizeOf25 _)) fun a Z => aW Z Y (by decide) Tryd.call48 rfl (iE o lv _ l (Y.arg hlv)) ?_
 clear Z Y
 intro a w6 x2 hp Z Y
 revert x2 hp Z Y; rintro z1 hp Z Y
 clear hp
 replace Y : St No w0 [blk z1 [iv o, lv] 25, blk w3.heap.size [(.slice (some ⟨w2.heap.size, 0, none⟩) l.length l.length)] 45, own (.slice (some ⟨w2.heap.size, 0, none⟩) l.length l.length) 9 1 ((List.replicate l.length ([] : By)).map fun s => [sv s]), blk w0.heap.size [iv o, lv] 25] w6 := Y
 refine ab (hK6 _ _ <| ao ?_)
 replace Y : St No w0 [blk z1 [iv o, lv] 25, blk w3.heap.size [(.slice (some ⟨w2.heap.size, 0, none⟩) l.length l.length)] 45, own (.slice (some ⟨w2.heap.size, 0, none⟩) l.length l.length) 9 1 ((outR l ([] : List Nat).length).map fun s => [sv s]), blk w0.heap.size [iv o, lv] 25] w6 := by rw [show outR l ([] : List Nat).length = _ from nE l]; exact Y
 replace Y : St No w0 [blk w3.heap.size [(.slice (some ⟨w2.heap.size, 0, none⟩) l.length l.length)] 45, own (.slice (some ⟨w2.heap.size, 0, none⟩) l.length l.length) 9 1 ((outR l ([] : List Nat).length).map fun s => [sv s]), blk z1 [iv o, lv] 25] w6 := Y.select [1, 2, 0] (by decide)
 replace Z : Fr 27 [(1, pt w0.heap.size), (2, .slice none 0 0), (3, .bool false), (4, pt w3.heap.size), (14, .agg #[iv o, lv]), (15, .func (.func 74) #[] #[pt z1])] [] a := Z.pick [1, 2, 3, 4, 14, 15]
 refine cy (M := No) (w0 := w0) (encs := (encRb l)) (Hi := [blk z1 [iv o, lv] 25]) (Hc := [blk w3.heap.size [(.slice (some ⟨w2.heap.size, 0, none⟩) l.length l.length)] 45, own (.slice (some ⟨w2.heap.size, 0, none⟩) l.length l.length) 9 1 ((outR l ([] : List Nat).length).map fun s => [sv s])]) (fun pre H => (True) ∧ H = [blk w3.heap.size [(.slice (some ⟨w2.heap.size, 0, none⟩) l.length l.length)] 45, own (.slice (some ⟨w2.heap.size, 0, none⟩) l.length l.length) 9 1 ((outR l (pre : List Nat).length).map fun s => [sv s])]) (fun _ _ _ => False) (fun pre xs H a => ∃ (bA0 : Nat), Fr 27 [(1, pt w0.heap.size), (2, .slice none 0 0), (3, .bool false), (4, pt w3.heap.size), (14, .agg #[iv o, lv]), (15, .func (.func 74) #[] #[pt z1]), (5, iv (xs : Int)), (6, pt bA0)] [] a ∧ (True) ∧ H = [blk bA0 [iv ((l.getD xs Rec.z).t), iv ((l.getD xs Rec.z).kind), iv ((l.getD xs Rec.z).a), iv ((l.getD xs Rec.z).b), sv ((l.getD xs Rec.z).text)] 27, blk w3.heap.size [(.slice (some ⟨w2.heap.size, 0, none⟩) l.length l.length)] 45, own (.slice (some ⟨w2.heap.size, 0, none⟩) l.length l.length) 9 1 ((outR l (pre : List Nat).length).map fun s => [sv s])]) rfl Tryd.call74 Z Y (fM o lv l z1 (by have := bU hlo; omega) (fun H w h => h.arg hlv)) (by decide) (fun _ => rfl) ⟨trivial, rfl⟩ ?_ ?_ ?_ ?_
 ·clear Z Y
  rintro lp pre xs _ a w7 hnx ⟨htr, rfl⟩ Z Y
  generalize (join [blk w3.heap.size [(.slice (some ⟨w2.heap.size, 0, none⟩) l.length l.length)] 45, own (.slice (some ⟨w2.heap.size, 0, none⟩) l.length l.length) 9 1 ((outR l (pre : List Nat).length).map fun s => [sv s])]).foot = M1 at Y ⊢
  replace Z : Fr 27 [(17, .agg #[iv ((l.getD xs Rec.z).t), iv ((l.getD xs Rec.z).kind), iv ((l.getD xs Rec.z).a), iv ((l.getD xs Rec.z).b), sv ((l.getD xs Rec.z).text)]), (16, iv (xs : Int)), (1, pt w0.heap.size), (2, .slice none 0 0), (3, .bool false), (4, pt w3.heap.size), (14, .agg #[iv o, lv]), (15, .func (.func 74) #[] #[pt z1])] [] a := Z
  refine aa fun K7 hK7 => wla Z rfl fun a Z => ab (hK7 _ _ <| ap ?_)
  refine aK Z Y (by decide) (Tryd.zeroValue27 _) (cs := [iv 0, iv 0, iv 0, iv 0, .string (⟨#[]⟩)]) rfl ?_
  clear Z Y
  intro a w8 Z Y
  refine aF 0 Z Y rfl rfl rfl (Tryd.sizeOf27 _) rfl (lb rfl) (ds := [iv ((l.getD xs Rec.z).t), iv ((l.getD xs Rec.z).kind), iv ((l.getD xs Rec.z).a), iv ((l.getD xs Rec.z).b), sv ((l.getD xs Rec.z).text)]) rfl rfl ?_
  clear Z Y
  intro a w9 Z Y
  refine ab ?_
  exact ⟨_, ⟨w7.heap.size, Z.pick [1, 2, 3, 4, 14, 15, 5, 6], htr, rfl⟩, Y⟩
 ·rintro lp pre xs _ a w10 hnx ⟨bA0, Z, htr, rfl⟩ hout hrec hnl Y
  clear hrec hnl
  generalize (join [blk bA0 [iv ((l.getD xs Rec.z).t), iv ((l.getD xs Rec.z).kind), iv ((l.getD xs Rec.z).a), iv ((l.getD xs Rec.z).b), sv ((l.getD xs Rec.z).text)] 27, blk w3.heap.size [(.slice (some ⟨w2.heap.size, 0, none⟩) l.length l.length)] 45, own (.slice (some ⟨w2.heap.size, 0, none⟩) l.length l.length) 9 1 ((outR l (pre : List Nat).length).map fun s => [sv s])]).foot = M1 at Y hout ⊢
  refine ao <| aI (by kernel_rfl) ?_
  replace Z : Fr 27 [(1, _), (2, _), (3, _), (4, _), (14, _), (15, _), (5, _), (6, _)] [] a := Z.pick [1, 2, 3, 4, 14, 15, 5, 6]
  replace Y : St M1 w10 [own (.slice (some ⟨w2.heap.size, 0, none⟩) l.length l.length) 9 1 ((outR l (pre : List Nat).length).map fun s => [sv s]), blk bA0 [iv ((l.getD xs Rec.z).t), iv ((l.getD xs Rec.z).kind), iv ((l.getD xs Rec.z).a), iv ((l.getD xs Rec.z).b), sv ((l.getD xs Rec.z).text)] 27, blk w3.heap.size [(.slice (some ⟨w2.heap.size, 0, none⟩) l.length l.length)] 45] w10 := Y.select [2, 0, 1] (by decide)
  have hso3 := Y.ownAt (i := 0) rfl
  refine dN [8] (fun q => if q = 8 then own (.slice (some ⟨w2.heap.size, 0, none⟩) l.length l.length) 9 1 ((outR l (pre : List Nat).length).map fun s => [sv s]) else join []) (fun q => if q = 8 then own (.slice (some ⟨w2.heap.size, 0, none⟩) l.length l.length) 9 1 ((outR l ((pre ++ [xs]) : List Nat).length).map fun s => [sv s]) else join []) 9 [[], [], [], [2], [3], [4], [4], [0, 1], [5, 7]] (fun i => match i with | 0 => pv ((.slice (some ⟨w2.heap.size, 0, none⟩) l.length l.length)) | 1 => pv (iv (xs : Int)) | 2 => pv (.agg #[iv ((l.getD xs Rec.z).t), iv ((l.getD xs Rec.z).kind), iv ((l.getD xs Rec.z).a), iv ((l.getD xs Rec.z).b), sv ((l.getD xs Rec.z).text)]) | 3 => pv (.tuple #[sv (eB (l.getD xs Rec.z)), iv (eE (l.getD xs Rec.z))]) | 4 => pv (.tuple #[sv (eB (l.getD xs Rec.z)), iv (eE (l.getD xs Rec.z))]) | 5 => pv (sv (eB (l.getD xs Rec.z))) | 6 => pv (iv (eE (l.getD xs Rec.z))) | 7 => pv (slAddr (.slice (some ⟨w2.heap.size, 0, none⟩) l.length l.length) (xs * 1)) | 8 => fun v E => v = undef ∧ E = [] | _ => fun _ _ => False) (by intro q; by_cases h8 : q = 8; (subst h8; rfl); simp only [h8, if_false]) Z (H := [blk bA0 [iv ((l.getD xs Rec.z).t), iv ((l.getD xs Rec.z).kind), iv ((l.getD xs Rec.z).a), iv ((l.getD xs Rec.z).b), sv ((l.getD xs Rec.z).text)] 27, blk w3.heap.size [(.slice (some ⟨w2.heap.size, 0, none⟩) l.length l.length)] 45]) Y (by kernel_rfl) (by kernel_rfl) (by kernel_rfl) (by kernel_rfl) (by decide) (by decide) ?_ ?_ ?_ ?_ ?_ ?_
  ·intro i v E h
   match i, h with
   | 0, _ => exact by decide
   | 1, _ => exact by decide
   | 2, _ => exact by decide
   | 3, _ => exact by decide
   | 4, _ => exact by decide
   | 5, _ => exact by decide
   | 6, _ => exact by decide
   | 7, _ => exact by decide
   | 8, _ => exact by decide
   | i + 9, h => exact h.elim
  ·intro q v E hq h
   simp only [List.mem_cons, List.not_mem_nil, or_false] at hq
   rcases hq with rfl <;> exact h
  ·intro q hq
   simp only [List.mem_cons, List.not_mem_nil, or_false] at hq
   rcases hq with rfl <;> exact ⟨rfl, rfl⟩
  ·intro i hi hiq e
   match i, hi, hiq with
   | 0, _, _ =>
    intro w Y
    exact OpV.g (ah (Y.get (k := 2) rfl) rfl (Tryd.isAgg45 _) rfl)
   | 1, _, _ =>
    intro w Y
    exact OpV.g (ai rfl)
   | 2, _, _ =>
    intro w Y
    exact OpV.g (aw (Y.get (k := 1) rfl) rfl (Tryd.isAgg27 _) (Tryd.sizeOf27 _))
   | 3, _, _ =>
    rintro _ _ ⟨rfl, rfl⟩
    intro w Y
    exact bt Tryd.call22 rfl (gr (l.getD xs Rec.z) _)
   | 4, _, _ =>
    rintro _ _ ⟨rfl, rfl⟩
    intro w Y
    exact OpV.g (ai rfl)
   | 5, _, _ =>
    rintro _ _ ⟨rfl, rfl⟩
    intro w Y
    exact OpV.g (ak rfl rfl)
   | 6, _, _ =>
    rintro _ _ ⟨rfl, rfl⟩
    intro w Y
    exact OpV.g (ak rfl rfl)
   | 7, _, _ =>
    rintro _ _ ⟨rfl, rfl⟩ _ _ ⟨rfl, rfl⟩
    intro w Y
    exact OpV.g ((eM (i := (xs : Int)) hso3 rfl rfl (Tryd.runUnderlying45 _) (Tryd.sizeOf9 _) (by omega) (by have h9 : xs + 1 + pre.length = l.length := hnx; rw [List.length_map, g7 _ _ (by omega)]; omega)).as (v' := slAddr (.slice (some ⟨w2.heap.size, 0, none⟩) l.length l.length) (xs * 1)) rfl)
   | 8, _, h => exact absurd (by decide) h
  ·intro q hq
   simp only [List.mem_cons, List.not_mem_nil, or_false] at hq
   rcases hq with rfl
   ·rintro _ _ ⟨rfl, rfl⟩ _ _ ⟨rfl, rfl⟩
    intro w h
    exact iW (k := xs) (j := 0) rfl rfl h (by have h9 : xs + 1 + pre.length = l.length := hnx; rw [List.length_map, g7 _ _ (by omega)]; omega) (by omega) (Tryd.sizeOf9 _) (by simp [Value.oneCell', yv, wv, sv, Value.cells]) (lb rfl) (els' := ((outR l ((pre ++ [xs]) : List Nat).length).map fun s => [sv s])) (lK hnx _)
  clear Z Y
  rintro _ _ ⟨rfl, rfl⟩ _ _ ⟨rfl, rfl⟩ _ _ ⟨rfl, rfl⟩ _ _ ⟨rfl, rfl⟩ _ _ ⟨rfl, rfl⟩ _ _ ⟨rfl, rfl⟩ _ _ ⟨rfl, rfl⟩ _ _ ⟨rfl, rfl⟩ a w11 Z Y
  replace Z : Fr 27 [(19, _), (20, _), (21, _), (22, _), (18, _), (23, _), (24, _), (25, _), (1, _), (2, _), (3, _), (4, _), (14, _), (15, _), (5, _), (6, _)] [] a := Z
  replace Y : St M1 w10 [own (.slice (some ⟨w2.heap.size, 0, none⟩) l.length l.length) 9 1 ((outR l ((pre ++ [xs]) : List Nat).length).map fun s => [sv s]), blk bA0 [iv ((l.getD xs Rec.z).t), iv ((l.getD xs Rec.z).kind), iv ((l.getD xs Rec.z).a), iv ((l.getD xs Rec.z).b), sv ((l.getD xs Rec.z).text)] 27, blk w3.heap.size [(.slice (some ⟨w2.heap.size, 0, none⟩) l.length l.length)] 45] w11 := Y
  refine ab ?_
  exact ⟨_, ⟨trivial, rfl⟩, Y.select [2, 0] (by decide)⟩
 ·rintro D pre _ _ a w12 ⟨rfl, rfl⟩ ⟨htr, rfl⟩ Y Z
  replace Z : Fr 27 [(1, pt w0.heap.size), (2, .slice none 0 0), (3, .bool false), (4, pt w3.heap.size), (14, .agg #[iv o, lv]), (15, .func (.func 74) #[] #[pt z1])] [{ target := .collected D, args := #[] }] a := Z
  replace Y : St No w0 [obj D (.deferred (some [])), blk w3.heap.size [(.slice (some ⟨w2.heap.size, 0, none⟩) l.length l.length)] 45, own (.slice (some ⟨w2.heap.size, 0, none⟩) l.length l.length) 9 1 ((outR l ((backs l.length l.length) : List Nat).length).map fun s => [sv s]), blk z1 [iv o, lv] 25] w12 := Y
  refine hK5 _ _ <| aa fun K8 hK8 => wlv Z (ah (Y.get (k := 1) rfl) rfl (Tryd.isAgg45 _) rfl) fun a Z => wla Z rfl fun a Z => wla Z rfl fun a Z => ab (hK8 _ _ <| ar ?_)
  have hD := Y.get (k := 0) rfl
  replace Y := Y.unmark (i := 0) (o' := .deferred none) rfl
  replace Y : St No w0 [blk w3.heap.size [(.slice (some ⟨w2.heap.size, 0, none⟩) l.length l.length)] 45, own (.slice (some ⟨w2.heap.size, 0, none⟩) l.length l.length) 9 1 ((outR l ((backs l.length l.length) : List Nat).length).map fun s => [sv s]), blk z1 [iv o, lv] 25] _ := Y
  refine bI Z hD Tryd.results62 (ac rfl (ac rfl ae)) ?_
  rw [lh] at Y
  exact ⟨(.slice (some ⟨w2.heap.size, 0, none⟩) l.length l.length), rfl, trivial, Y.ext, St.out (E := [own (.slice (some ⟨w2.heap.size, 0, none⟩) l.length l.length) 9 1 ((codesB l).map fun s => [sv s])]) (H := []) (Y.select [1] (by decide))⟩
 ·rintro D c pre _ _ a w13 _ h
  exact h.elim
theorem lH (o : Int) (lv : Value) (l : List Rec) (w0 : World) (hlv : SlAt w0 lv 5 (l.map Rec.cells)) (hlo : logOk o l = false) :
  Ret Tryd.prog 62 #[.agg #[iv o, lv]] w0 fun v w => v = .tuple #[.slice none 0 0, .bool false] ∧ Ext No w0 w := by
 refine aC Tryd.func62 rfl Tryd.ntmps62 (lb rfl) fun a Z => ?_
 replace Z : Fr 27 [(0, _)] [] a := Z
 replace Y : St No w0 [] w0 := St.init w0
 refine aa fun K1 hK1 => bl Z Y (by decide) rfl (cs := [iv o, lv]) rfl ?_
 clear Z Y
 intro a w1 Z Y
 refine wla Z rfl fun a Z => wla Z rfl fun a Z => ab (hK1 _ _ <| ag fun K2 hK2 => ?_)
 refine aa fun K3 hK3 => wlv Z (aw (Y.get (k := 0) rfl) rfl (Tryd.isAgg25 _) (Tryd.sizeOf25 _)) fun a Z => aq Z Y (by decide) Tryd.call16 rfl (da o lv l _ (Y.arg hlv)) ?_
 clear Z Y
 intro a w2 Z Y
 refine wlv Z (bq rfl) fun a Z => ab (hK3 _ _ ?_)
 refine az Z rfl (fun hc1 => ?_) (fun hc1 => ?_)
 ·rw [hc1] at Z
  try simp only [qz] at hc1
  refine aa fun K4 hK4 => wla Z rfl fun a Z => wla Z rfl fun a Z => ab (hK4 _ _ <| ar ?_)
  refine am Z Tryd.results62 (ac rfl (ac rfl ae)) ?_
  exact ⟨by rfl, Y.ext⟩
 rw [hc1] at Z
 try simp only [qz] at hc1
 exfalso; simp [hlo] at hc1
end Go.Proofs.YtddfkkdanpmnaaaDoor
namespace Go.Proofs.YtddfkkdanpmnaaaDoor
open Go.RowKit Go.PW
set_option linter.unusedVariables false
set_option linter.unusedSimpArgs false
set_option maxRecDepth 4000
theorem gT (o : Int) (lv : Value) (l : List Rec) (w0 : World) (hlv : SlAt w0 lv 5 (l.map Rec.cells)) (hk0 : (blk 0 (kOf.map wv) 161).ok w0) :
  Ret Tryd.prog 27 #[.agg #[iv o, lv]] w0 fun v w => v = .tuple #[sv (headB o l), iv (headE o l)] ∧ Ext No w0 w := by
 refine aC Tryd.func27 rfl Tryd.ntmps27 (lb rfl) fun a Z => ?_
 replace Z : Fr 15 [(0, _)] [] a := Z
 replace Y : St No w0 [] w0 := St.init w0
 refine aa fun K1 hK1 => bl Z Y (by decide) rfl (cs := [iv o, lv]) rfl ?_
 clear Z Y
 intro a w1 Z Y
 refine wla Z rfl fun a Z => wla Z rfl fun a Z => ab (hK1 _ _ <| aa fun K2 hK2 => ?_)
 refine wlv Z (aw (Y.get (k := 0) rfl) rfl (Tryd.isAgg25 _) (Tryd.sizeOf25 _)) fun a Z => ?_
 rcases Bool.eq_false_or_eq_true (logOk o l) with hb1 | hb1
 ·try simp only [qz] at hb1
  have hlo : logOk o l = true := hb1
  have hll : l.length ≤ 60 := bU hlo
  refine aW Z Y (by decide) Tryd.call62 rfl (ex o lv l _ (Y.arg hlv) hlo) ?_
  clear Z Y
  intro a w2 x3 hp Z Y
  revert x3 hp Z Y; rintro v2 hp Z Y
  clear hp
  replace Y : St No w0 [own v2 9 1 ((codesB l).map fun s => [sv s]), blk w0.heap.size [iv o, lv] 25] w2 := Y
  refine wlm Z rfl fun a Z => wlv Z (ak rfl rfl) fun a Z => wlv Z (ak rfl rfl) fun a Z => wla Z rfl fun a Z => wla Z rfl fun a Z => ab (hK2 _ _ ?_)
  replace Z : Fr 15 [(2, _), (3, _), (4, _), (5, _)] [] a := Z.pick [2, 3, 4, 5]
  replace Y : St No w0 [_] w2 := Y.mask [true, false]
  refine ag fun K3 hK3 => aa fun K4 hK4 => wlm Z rfl fun a Z => wlv Z ((bq rfl).asb (b' := false) rfl) fun a Z => ab (hK4 _ _ <| aP Z rfl ?_)
  refine au <| hK3 _ _ <| aa fun K5 hK5 => wlm Z rfl fun a Z => aq Z Y (by decide) Tryd.call63 rfl (dA v2 (codesB l) _ (Y.ownAt (i := 0) rfl) (by rw [fb]; omega) (fun k hk => Nat.le_trans (fj l _ (bn hk)) (by decide)) (Y.keepb hk0)) ?_
  clear Z Y
  intro a w3 Z Y
  refine wla Z rfl fun a Z => wla Z rfl fun a Z => ab (hK5 _ _ ?_)
  replace Z : Fr 15 [(2, _), (3, _)] [] a := Z.pick [2, 3]
  replace Y : St No w0 [] w3 := Y.mask [false]
  refine ar ?_
  refine am Z Tryd.results27 (ac rfl (ac rfl ae)) ?_
  exact ⟨by simp only [retv]; unfold headB headE; rw [if_pos hlo, if_pos hlo, dC (cH hlo)], Y.ext⟩
 try simp only [qz] at hb1
 have hlo : logOk o l = false := hb1
 have hll : l.length ≤ l.length := Nat.le_refl _
 refine aq Z Y (by decide) Tryd.call62 rfl (lH o lv l _ (Y.arg hlv) hlo) ?_
 clear Z Y
 intro a w4 Z Y
 refine wlm Z rfl fun a Z => wlv Z (ak rfl rfl) fun a Z => wlv Z (ak rfl rfl) fun a Z => wla Z rfl fun a Z => wla Z rfl fun a Z => ab (hK2 _ _ ?_)
 replace Z : Fr 15 [(2, _), (3, _), (4, _), (5, _)] [] a := Z.pick [2, 3, 4, 5]
 replace Y : St No w0 [] w4 := Y.mask [false]
 refine ag fun K6 hK6 => aa fun K7 hK7 => wlm Z rfl fun a Z => wlv Z ((bq rfl).asb (b' := true) rfl) fun a Z => ab (hK7 _ _ <| aM Z rfl ?_)
 refine aa fun K8 hK8 => wla Z rfl fun a Z => wla Z rfl fun a Z => ab (hK8 _ _ <| ar ?_)
 refine am Z Tryd.results27 (ac rfl (ac rfl ae)) ?_
 exact ⟨by simp only [retv]; unfold headB headE; rw [hlo]; rfl, Y.ext⟩
theorem m3 (key : By) (o : Int) (lv : Value) (l : List Rec) (w0 : World) (hlv : SlAt w0 lv 5 (l.map Rec.cells)) (hk0 : (blk 0 (kOf.map wv) 161).ok w0) :
  Ret Tryd.prog 36 #[sv key, .agg #[iv o, lv]] w0 fun v w => v = .tuple #[sv (signB key o l), iv (signE key o l)] ∧ Ext No w0 w := by
 refine aC Tryd.func36 rfl Tryd.ntmps36 (lb rfl) fun a Z => ?_
 replace Z : Fr 28 [(0, _), (1, _)] [] a := Z
 replace Y : St No w0 [] w0 := St.init w0
 refine aa fun K1 hK1 => bl Z Y (by decide) rfl (cs := [iv o, lv]) rfl ?_
 clear Z Y
 intro a w1 Z Y
 refine wla Z rfl fun a Z => wla Z rfl fun a Z => ab (hK1 _ _ <| aa fun K2 hK2 => ?_)
 refine wlv Z (aw (Y.get (k := 0) rfl) rfl (Tryd.isAgg25 _) (Tryd.sizeOf25 _)) fun a Z => aq Z Y (by decide) Tryd.call27 rfl (gT o lv l _ (Y.arg hlv) (Y.keepb hk0)) ?_
 clear Z Y
 intro a w2 Z Y
 refine wlm Z rfl fun a Z => wlv Z (ak rfl rfl) fun a Z => wlv Z (ak rfl rfl) fun a Z => wla Z rfl fun a Z => wla Z rfl fun a Z => ab (hK2 _ _ ?_)
 replace Z : Fr 28 [(0, _), (3, _), (4, _), (5, _), (6, _), (7, _)] [] a := Z.pick [0, 3, 4, 5, 6, 7]
 refine ag fun K3 hK3 => aa fun K4 hK4 => wlm Z rfl fun a Z => wlv Z (v_ne rfl rfl) fun a Z => wlm Z rfl fun a Z => ?_
 rcases Bool.eq_false_or_eq_true (!decide (headE o l = 0)) with hb1 | hb1
 ·rw [hb1] at Z
  try simp only [qz] at hb1
  have hlo : logOk o l = false := by
   cases h : logOk o l with
   | false => rfl
   | true => exact absurd (et.2 h) (by omega)
  have hsg : signOk key o l = false := by unfold signOk; rw [hlo]; rfl
  refine wln Z fun a Z => wln Z fun a Z => wln Z fun a Z => wlv Z (aB rfl rfl) fun a Z => ab (hK4 _ _ ?_)
  replace Z : Fr 28 [(0, _), (3, _), (4, _), (5, _), (6, _), (19, _)] [] a := Z.pick [0, 3, 4, 5, 6, 19]
  refine aM Z rfl ?_
  refine aa fun K5 hK5 => wla Z rfl fun a Z => wla Z rfl fun a Z => ab (hK5 _ _ <| ar ?_)
  refine am Z Tryd.results36 (ac rfl (ac rfl ae)) ?_
  exact ⟨by simp only [retv]; unfold signB signE; rw [hsg]; rfl, Y.ext⟩
 rw [hb1] at Z
 try simp only [qz] at hb1
 have hlo : logOk o l = true := et.1 (by omega)
 have hob := gb hlo
 have hlb := bU hlo
 have hs0 : small o := by unfold small; omega
 have hs1 : small (l.length : Int) := by unfold small; omega
 have hr32 : (headB o l).length = 32 := by rw [dZ hlo]; exact ca bJ _
 refine wly Z (ai rfl) fun a Z => wly Z (bo rfl rfl (Tryd.runUnderlying9 _)) fun a Z => wly Z (v_ne rfl rfl) fun a Z => wlv Z (aA rfl rfl) fun a Z => ab (hK4 _ _ ?_)
 replace Z : Fr 28 [(0, _), (3, _), (4, _), (5, _), (6, _), (19, _)] [] a := Z.pick [0, 3, 4, 5, 6, 19]
 refine az Z rfl (fun hc2 => ?_) (fun hc2 => ?_)
 ·rw [hc2] at Z
  try simp only [qz] at hc2
  have hsg : signOk key o l = false := by unfold signOk; rw [hlo, decide_eq_false (by omega)]; rfl
  refine aa fun K6 hK6 => wla Z rfl fun a Z => wla Z rfl fun a Z => ab (hK6 _ _ <| ar ?_)
  refine am Z Tryd.results36 (ac rfl (ac rfl ae)) ?_
  exact ⟨by simp only [retv]; unfold signB signE; rw [hsg]; rfl, Y.ext⟩
 rw [hc2] at Z
 try simp only [qz] at hc2
 have hsg : signOk key o l = true := by unfold signOk; rw [hlo, decide_eq_true (by omega)]; rfl
 refine au <| hK3 _ _ <| aa fun K7 hK7 => wlm Z rfl fun a Z => wlv Z (al (v := pt w0.heap.size) rfl (by kernel_rfl)) fun a Z => wlv Z (ah (Y.get (k := 0) rfl) rfl (Tryd.isAgg3 _) rfl) fun a Z => wlv Z (al (v := .pointer (some ⟨w0.heap.size, 1, none⟩)) rfl (by kernel_rfl)) fun a Z => ?_
 refine wlv Z (ah (Y.get (k := 0) rfl) rfl (Tryd.isAgg23 _) rfl) fun a Z => wlv Z ((aG (sT := 23) (Y.arg hlv) rfl rfl (Tryd.runUnderlying23 _)).asi (m' := (l.length : Int)) (by rw [List.length_map])) fun a Z => wlm Z rfl fun a Z => aq Z Y (by decide) Tryd.call71 rfl (lZ key o (l.length : Int) (headB o l) _ hs0 hs1 (by omega) (by omega) (Y.keepb hk0)) ?_
 clear Z Y
 intro a w3 Z Y
 refine wla Z rfl fun a Z => wla Z rfl fun a Z => ab (hK7 _ _ ?_)
 replace Z : Fr 28 [(4, _), (5, _)] [] a := Z.pick [4, 5]
 replace Y : St No w0 [] w3 := Y.mask [false]
 refine ar ?_
 refine am Z Tryd.results36 (ac rfl (ac rfl ae)) ?_
 exact ⟨by simp only [retv]; unfold signB signE; rw [if_pos hsg, if_pos hsg, dZ hlo], Y.ext⟩
theorem iu {n a b : Int} (h : inB n a b = true) : a ≤ n ∧ n ≤ b := by simpa [inB] using h
set_option maxHeartbeats 4000000 in
theorem dO (key : By) (owner n : Int) (root t : By) (w0 : World) (hk0 : (blk 0 (kOf.map wv) 161).ok w0) :
  Ret Tryd.prog 37 #[sv key, iv owner, iv n, sv root, sv t] w0 fun v w => v = .bool (genR sha key owner n root t) ∧ Ext No w0 w := by
 refine aC Tryd.func37 rfl Tryd.ntmps37 (lb rfl) fun a Z => ?_
 replace Z : Fr 38 [(0, _), (1, _), (2, _), (3, _), (4, _)] [] a := Z
 replace Y : St No w0 [] w0 := St.init w0
 refine aa fun K1 hK1 => wla Z rfl fun a Z => ab (hK1 _ _ <| aa fun K2 hK2 => ?_)
 refine wlm Z rfl fun a Z => aq Z Y (by decide) Tryd.call46 rfl (de owner 0 99 _) ?_
 clear Z Y
 intro a w1 Z Y
 refine wlm Z rfl fun a Z => ?_
 rcases Bool.eq_false_or_eq_true (inB owner 0 99) with hb1 | hb1
 ·rw [hb1] at Z
  try simp only [qz] at hb1
  have hs0 : small owner := by have h9 := iu hb1; unfold small; omega
  refine wly Z (ai rfl) fun a Z => aR Z Y (by decide) rfl (by decide) rfl Tryd.call46 rfl (de n 0 60 _) ?_
  clear Z Y
  intro a w2 Z Y
  refine wlv Z (aB rfl rfl) fun a Z => wla Z rfl fun a Z => ab (hK2 _ _ ?_)
  replace Z : Fr 38 [(0, _), (1, _), (2, _), (3, _), (4, _), (10, _), (11, _)] [] a := Z.pick [0, 1, 2, 3, 4, 10, 11]
  refine aa fun K3 hK3 => wlm Z rfl fun a Z => wlm Z rfl fun a Z => ?_
  rcases Bool.eq_false_or_eq_true (inB n 0 60) with hb2 | hb2
  ·rw [hb2] at Z
   try simp only [qz] at hb2
   have hs1 : small n := by have h9 := iu hb2; unfold small; omega
   refine wly Z (ai rfl) fun a Z => wly Z (bo rfl rfl (Tryd.runUnderlying9 _)) fun a Z => wly Z (v_eq rfl rfl) fun a Z => wlv Z (aB rfl rfl) fun a Z => wlm Z rfl fun a Z => ?_
   rcases Bool.eq_false_or_eq_true (decide ((key.length : Int) = 32)) with hb3 | hb3
   ·rw [hb3] at Z
    try simp only [qz] at hb3
    refine wly Z (ai rfl) fun a Z => wly Z (bo rfl rfl (Tryd.runUnderlying9 _)) fun a Z => wly Z (v_eq rfl rfl) fun a Z => wlv Z (aB rfl rfl) fun a Z => wlm Z rfl fun a Z => ?_
    rcases Bool.eq_false_or_eq_true (decide ((root.length : Int) = 32)) with hb4 | hb4
    ·rw [hb4] at Z
     try simp only [qz] at hb4
     refine wly Z (ai rfl) fun a Z => wly Z (ai rfl) fun a Z => wly Z (ai rfl) fun a Z => wly Z (ai rfl) fun a Z => wly Z (ai rfl) fun a Z => aR Z Y (by decide) rfl (by decide) rfl Tryd.call71 rfl (lZ key owner n root _ hs0 hs1 (by omega) (by omega) (Y.keepb hk0)) ?_
     clear Z Y
     intro a w3 Z Y
     refine wly Z (ee rfl rfl) fun a Z => wlv Z (aB rfl rfl) fun a Z => wla Z rfl fun a Z => ab (hK3 _ _ ?_)
     replace Z : Fr 38 [(10, _)] [] a := Z.pick [10]
     refine ar ?_
     refine am Z Tryd.results37 (ac rfl ae) ?_
     refine ⟨?_, Y.ext⟩
     simp only [retv]
     refine congrArg Value.bool ?_
     unfold genR; rw [decide_eq_true (by omega : key.length = 32), decide_eq_true (by omega : root.length = 32), hb1, hb2]; rfl
    rw [hb4] at Z
    try simp only [qz] at hb4
    refine wln Z fun a Z => wln Z fun a Z => wln Z fun a Z => wln Z fun a Z => wln Z fun a Z => wln Z fun a Z => wln Z fun a Z => ?_
    refine wlv Z (aA rfl rfl) fun a Z => wla Z rfl fun a Z => ab (hK3 _ _ ?_)
    replace Z : Fr 38 [(10, _)] [] a := Z.pick [10]
    refine ar ?_
    refine am Z Tryd.results37 (ac rfl ae) ?_
    refine ⟨?_, Y.ext⟩
    simp only [retv]
    refine congrArg Value.bool ?_
    rw [eq_comm, Bool.eq_false_iff]; intro h; simp only [genR, Bool.and_eq_true, decide_eq_true_eq] at h
    first | (obtain ⟨⟨⟨⟨h1, h2⟩, h3⟩, h4⟩, h5⟩ := h; first | omega | (rw [h2] at hb4; cases hb4) | (rw [h3] at hb4; cases hb4))
   rw [hb3] at Z
   try simp only [qz] at hb3
   refine wln Z fun a Z => wln Z fun a Z => wln Z fun a Z => wlv Z (aA rfl rfl) fun a Z => wlm Z rfl fun a Z => wln Z fun a Z => wln Z fun a Z => wln Z fun a Z => ?_
   refine wln Z fun a Z => wln Z fun a Z => wln Z fun a Z => wln Z fun a Z => wlv Z (aA rfl rfl) fun a Z => wla Z rfl fun a Z => ab (hK3 _ _ ?_)
   replace Z : Fr 38 [(10, _)] [] a := Z.pick [10]
   refine ar ?_
   refine am Z Tryd.results37 (ac rfl ae) ?_
   refine ⟨?_, Y.ext⟩
   simp only [retv]
   refine congrArg Value.bool ?_
   rw [eq_comm, Bool.eq_false_iff]; intro h; simp only [genR, Bool.and_eq_true, decide_eq_true_eq] at h
   first | (obtain ⟨⟨⟨⟨h1, h2⟩, h3⟩, h4⟩, h5⟩ := h; first | omega | (rw [h2] at hb3; cases hb3) | (rw [h3] at hb3; cases hb3))
  rw [hb2] at Z
  try simp only [qz] at hb2
  refine wln Z fun a Z => wln Z fun a Z => wln Z fun a Z => wlv Z (aA rfl rfl) fun a Z => wlm Z rfl fun a Z => wln Z fun a Z => wln Z fun a Z => wln Z fun a Z => ?_
  refine wlv Z (aA rfl rfl) fun a Z => wlm Z rfl fun a Z => wln Z fun a Z => wln Z fun a Z => wln Z fun a Z => wln Z fun a Z => wln Z fun a Z => wln Z fun a Z => ?_
  refine wln Z fun a Z => wlv Z (aA rfl rfl) fun a Z => wla Z rfl fun a Z => ab (hK3 _ _ ?_)
  replace Z : Fr 38 [(10, _)] [] a := Z.pick [10]
  refine ar ?_
  refine am Z Tryd.results37 (ac rfl ae) ?_
  refine ⟨?_, Y.ext⟩
  simp only [retv]
  refine congrArg Value.bool ?_
  rw [eq_comm, Bool.eq_false_iff]; intro h; simp only [genR, Bool.and_eq_true, decide_eq_true_eq] at h
  first | (obtain ⟨⟨⟨⟨h1, h2⟩, h3⟩, h4⟩, h5⟩ := h; first | omega | (rw [h2] at hb2; cases hb2) | (rw [h3] at hb2; cases hb2))
 rw [hb1] at Z
 try simp only [qz] at hb1
 refine wln Z fun a Z => wln Z fun a Z => wlv Z (aA rfl rfl) fun a Z => wla Z rfl fun a Z => ab (hK2 _ _ ?_)
 replace Z : Fr 38 [(0, _), (1, _), (2, _), (3, _), (4, _), (10, _), (11, _)] [] a := Z.pick [0, 1, 2, 3, 4, 10, 11]
 refine aa fun K4 hK4 => wlm Z rfl fun a Z => wlm Z rfl fun a Z => wln Z fun a Z => wln Z fun a Z => wln Z fun a Z => wlv Z (aA rfl rfl) fun a Z => wlm Z rfl fun a Z => wln Z fun a Z => ?_
 refine wln Z fun a Z => wln Z fun a Z => wlv Z (aA rfl rfl) fun a Z => wlm Z rfl fun a Z => wln Z fun a Z => wln Z fun a Z => wln Z fun a Z => wln Z fun a Z => ?_
 refine wln Z fun a Z => wln Z fun a Z => wln Z fun a Z => wlv Z (aA rfl rfl) fun a Z => wla Z rfl fun a Z => ab (hK4 _ _ ?_)
 replace Z : Fr 38 [(10, _)] [] a := Z.pick [10]
 refine ar ?_
 refine am Z Tryd.results37 (ac rfl ae) ?_
 refine ⟨?_, Y.ext⟩
 simp only [retv]
 refine congrArg Value.bool ?_
 rw [eq_comm, Bool.eq_false_iff]; intro h; simp only [genR, Bool.and_eq_true, decide_eq_true_eq] at h
 first | (obtain ⟨⟨⟨⟨h1, h2⟩, h3⟩, h4⟩, h5⟩ := h; first | omega | (rw [h2] at hb1; cases hb1) | (rw [h3] at hb1; cases hb1))
theorem im (root : By) (n i : Int) (x : Rec) (pv_ : Value) (ps : List By) (w0 : World) (hpv : SlAt w0 pv_ 1 (ps.map fun s => [sv s])) (hpl : ps.length ≤ 1000) (hn : i64 n) (hk0 : (blk 0 (kOf.map wv) 161).ok w0) :
  Ret Tryd.prog 29 #[sv root, iv n, iv i, .agg #[iv x.t, iv x.kind, iv x.a, iv x.b, sv x.text], pv_] w0 fun v w => v = .bool (checkB root n i x ps) ∧ Ext No w0 w := by
 refine aC Tryd.func29 rfl Tryd.ntmps29 (lb rfl) fun a Z => ?_
 replace Z : Fr 28 [(0, _), (1, _), (2, _), (3, _), (4, _)] [] a := Z
 replace Y : St No w0 [] w0 := St.init w0
 refine aa fun K1 hK1 => bl Z Y (by decide) rfl (cs := [iv x.t, iv x.kind, iv x.a, iv x.b, sv x.text]) rfl ?_
 clear Z Y
 intro a w1 Z Y
 refine wla Z rfl fun a Z => ab (hK1 _ _ <| aa fun K2 hK2 => ?_)
 refine wlv Z (aw (Y.get (k := 0) rfl) rfl (Tryd.isAgg27 _) (Tryd.sizeOf27 _)) fun a Z => aq Z Y (by decide) Tryd.call22 rfl (gr x _) ?_
 clear Z Y
 intro a w2 Z Y
 refine wlm Z rfl fun a Z => wlv Z (ak rfl rfl) fun a Z => wlv Z (ak rfl rfl) fun a Z => wla Z rfl fun a Z => wla Z rfl fun a Z => ab (hK2 _ _ ?_)
 replace Z : Fr 28 [(0, _), (1, _), (2, _), (4, _), (10, _), (11, _), (12, _)] [] a := Z.pick [0, 1, 2, 4, 10, 11, 12]
 replace Y : St No w0 [] w2 := Y.mask [false]
 refine aa fun K3 hK3 => wlm Z rfl fun a Z => wlv Z (v_eq rfl rfl) fun a Z => wlm Z rfl fun a Z => ?_
 rcases Bool.eq_false_or_eq_true (decide (eE x = 0)) with hb1 | hb1
 ·rw [hb1] at Z
  try simp only [qz] at hb1
  have hxo : x.ok = true := by unfold eE at hb1; cases h : x.ok <;> simp_all
  refine wly Z (ai rfl) fun a Z => wly Z (ai rfl) fun a Z => wly Z (ai rfl) fun a Z => wly Z (ai rfl) fun a Z => wly Z (ai rfl) fun a Z => aR Z Y (by decide) rfl (by decide) rfl Tryd.call66 rfl (kD root (eB x) n i pv_ ps _ (Y.arg hpv) (by omega) (by have := kR x; omega) (by unfold i64 at hn; omega) (Y.keepb hk0)) ?_
  clear Z Y
  intro a w3 Z Y
  refine wlv Z (aB rfl rfl) fun a Z => wla Z rfl fun a Z => ab (hK3 _ _ ?_)
  replace Z : Fr 28 [(10, _)] [] a := Z.pick [10]
  refine ar ?_
  refine am Z Tryd.results29 (ac rfl ae) ?_
  exact ⟨by simp only [retv]; unfold checkB; rw [hxo, show eB x = x.enc from if_pos hxo]; rfl, Y.ext⟩
 rw [hb1] at Z
 try simp only [qz] at hb1
 have hxo : x.ok = false := by unfold eE at hb1; cases h : x.ok <;> simp_all
 refine wln Z fun a Z => wln Z fun a Z => wln Z fun a Z => wln Z fun a Z => wln Z fun a Z => wln Z fun a Z => wlv Z (aA rfl rfl) fun a Z => wla Z rfl fun a Z => ?_
 refine ab (hK3 _ _ ?_)
 replace Z : Fr 28 [(10, _)] [] a := Z.pick [10]
 refine ar ?_
 refine am Z Tryd.results29 (ac rfl ae) ?_
 exact ⟨by simp only [retv]; unfold checkB; rw [hxo]; rfl, Y.ext⟩
theorem f6 (old : By) (n : Int) (root : By) (m : Int) (pv_ : Value) (ps : List By) (w0 : World) (hpv : SlAt w0 pv_ 1 (ps.map fun s => [sv s])) (hpl : ps.length ≤ 1000) (hm : i64 m) (hk0 : (blk 0 (kOf.map wv) 161).ok w0) :
  Ret Tryd.prog 43 #[sv old, iv n, sv root, iv m, pv_] w0 fun v w => v = .bool (bh sha old n root m ps) ∧ Ext No w0 w := by
 refine aC Tryd.func43 rfl Tryd.ntmps43 (lb rfl) fun a Z => ?_
 replace Z : Fr 17 [(0, _), (1, _), (2, _), (3, _), (4, _)] [] a := Z
 replace Y : St No w0 [] w0 := St.init w0
 refine aa fun K1 hK1 => wla Z rfl fun a Z => ab (hK1 _ _ <| aa fun K2 hK2 => ?_)
 refine wlm Z rfl fun a Z => wlm Z rfl fun a Z => wlm Z rfl fun a Z => wlm Z rfl fun a Z => wlm Z rfl fun a Z => aq Z Y (by decide) Tryd.call73 rfl (jp old root n m pv_ ps _ (Y.arg hpv) (by omega) (by unfold i64 at hm; omega) (Y.keepb hk0)) ?_
 clear Z Y
 intro a w1 Z Y
 refine wla Z rfl fun a Z => ab (hK2 _ _ ?_)
 replace Z : Fr 17 [(10, _)] [] a := Z.pick [10]
 refine ar ?_
 refine am Z Tryd.results43 (ac rfl ae) ?_
 exact ⟨by rfl, Y.ext⟩
theorem kn {o : Int} {l : List Rec} {v : Value} {i : Nat} {w0 : World} (hlo : logOk o l = true) (hv : SlAt w0 v 1 ((codesB l).map fun s => [sv s])) (hi : i < l.length) (hk0 : (blk 0 (kOf.map wv) 161).ok w0) : Ret Tryd.prog 65 #[v, iv (i : Int)] w0 (MemR w0 (fun v : Value => .tuple #[v, iv 0]) (fun v => [own v 9 1 ((proofH sha (codesR l) i).map fun s => [sv s])]) (fun _ => True)) := by
 rw [dC (cH hlo)] at hv
 have h60 := bU hlo
 exact ma v (codesR l) i w0 hv (by rw [dF]; exact hi) (by rw [dF]; omega) (fun s h => Nat.le_trans (fe (cH hlo) s h) (by decide)) hk0
theorem fY (o : Int) (lv : Value) (l : List Rec) (i : Nat) (w0 : World) (hlv : SlAt w0 lv 5 (l.map Rec.cells)) (hlo : logOk o l = true) (hi : i < l.length) (hk0 : (blk 0 (kOf.map wv) 161).ok w0) :
  Ret Tryd.prog 64 #[.agg #[iv o, lv], iv (i : Int), .func (.func 65) #[] #[]] w0 (MemR w0 (fun v : Value => .tuple #[v, iv 0]) (fun v => [own v 9 1 ((proofH sha (codesR l) i).map fun s => [sv s])]) (fun _ => True)) := by
 have hll := bU hlo
 refine aC Tryd.func64 rfl Tryd.ntmps64 (lb rfl) fun a Z => ?_
 replace Z : Fr 29 [(0, _), (1, _), (2, _)] [] a := Z
 replace Y : St No w0 [] w0 := St.init w0
 refine aa fun K1 hK1 => bl Z Y (by decide) rfl (cs := [iv o, lv]) rfl ?_
 clear Z Y
 intro a w1 Z Y
 refine wla Z rfl fun a Z => wla Z rfl fun a Z => ab (hK1 _ _ <| aa fun K2 hK2 => ?_)
 refine wlv Z (aw (Y.get (k := 0) rfl) rfl (Tryd.isAgg25 _) (Tryd.sizeOf25 _)) fun a Z => aW Z Y (by decide) Tryd.call62 rfl (ex o lv l _ (Y.arg hlv) hlo) ?_
 clear Z Y
 intro a w2 x2 hp Z Y
 revert x2 hp Z Y; rintro v1 hp Z Y
 clear hp
 replace Y : St No w0 [own v1 9 1 ((codesB l).map fun s => [sv s]), blk w0.heap.size [iv o, lv] 25] w2 := Y
 refine wlm Z rfl fun a Z => wlv Z (ak rfl rfl) fun a Z => wlv Z (ak rfl rfl) fun a Z => wla Z rfl fun a Z => wla Z rfl fun a Z => ab (hK2 _ _ ?_)
 replace Z : Fr 29 [(1, _), (2, _), (6, _), (7, _), (8, _), (9, _)] [] a := Z.pick [1, 2, 6, 7, 8, 9]
 replace Y : St No w0 [_] w2 := Y.mask [true, false]
 refine ag fun K3 hK3 => aa fun K4 hK4 => wlm Z rfl fun a Z => wlv Z ((bq rfl).asb (b' := false) rfl) fun a Z => ab (hK4 _ _ <| aP Z rfl ?_)
 refine au <| hK3 _ _ <| aa fun K5 hK5 => wlm Z rfl fun a Z => wlm Z rfl fun a Z => wlm Z rfl fun a Z => f8 Z Y (by decide) rfl Tryd.call65 rfl (kn hlo (Y.ownAt (i := 0) rfl) hi (Y.keepb hk0)) ?_
 clear Z Y
 intro a w3 x4 hp Z Y
 revert x4 hp Z Y; rintro v3 - Z Y
 replace Y : St No w0 [own v3 9 1 ((proofH sha (codesR l) i).map fun s => [sv s]), own v1 9 1 ((codesB l).map fun s => [sv s])] w3 := Y
 refine wlm Z rfl fun a Z => wlv Z (ak rfl rfl) fun a Z => wlv Z (ak rfl rfl) fun a Z => wla Z rfl fun a Z => wla Z rfl fun a Z => ab (hK5 _ _ ?_)
 replace Z : Fr 29 [(6, _), (7, _), (10, _), (11, _)] [] a := Z.pick [6, 7, 10, 11]
 replace Y : St No w0 [_] w3 := Y.mask [true, false]
 refine ag fun K6 hK6 => aa fun K7 hK7 => wlm Z rfl fun a Z => wlv Z ((v_ne rfl rfl).asb (b' := false) rfl) fun a Z => ab (hK7 _ _ <| aP Z rfl ?_)
 refine au <| hK6 _ _ <| aa fun K8 hK8 => wlm Z rfl fun a Z => wla Z rfl fun a Z => wla Z rfl fun a Z => ab (hK8 _ _ <| ar ?_)
 refine am Z Tryd.results64 (ac rfl (ac rfl ae)) ?_
 exact ⟨v3, rfl, trivial, Y.ext, St.out (E := [own v3 9 1 ((proofH sha (codesR l) i).map fun s => [sv s])]) (H := []) (Y.select [0] (by decide))⟩
theorem jg (o : Int) (lv : Value) (l : List Rec) (i : Nat) (w0 : World) (hlv : SlAt w0 lv 5 (l.map Rec.cells)) (hll : l.length ≤ 1000) (hlo : logOk o l = true) (hi : i < l.length) (hk0 : (blk 0 (kOf.map wv) 161).ok w0) :
  Ret Tryd.prog 28 #[.agg #[iv o, lv], iv (i : Int)] w0 (MemR w0 (fun v : Value => .tuple #[v, iv 0]) (fun v => [own v 9 1 ((proofH sha (codesR l) i).map fun s => [sv s])]) (fun _ => True)) := by
 refine aC Tryd.func28 rfl Tryd.ntmps28 (lb rfl) fun a Z => ?_
 replace Z : Fr 11 [(0, _), (1, _)] [] a := Z
 replace Y : St No w0 [] w0 := St.init w0
 refine aa fun K1 hK1 => bl Z Y (by decide) rfl (cs := [iv o, lv]) rfl ?_
 clear Z Y
 intro a w1 Z Y
 refine wla Z rfl fun a Z => wla Z rfl fun a Z => ab (hK1 _ _ <| aa fun K2 hK2 => ?_)
 refine wlv Z (aw (Y.get (k := 0) rfl) rfl (Tryd.isAgg25 _) (Tryd.sizeOf25 _)) fun a Z => wlm Z rfl fun a Z => aW Z Y (by decide) Tryd.call64 rfl (fY o lv l i _ (Y.arg hlv) hlo hi (Y.keepb hk0)) ?_
 clear Z Y
 intro a w2 x2 hp Z Y
 revert x2 hp Z Y; rintro v1 hp Z Y
 clear hp
 replace Y : St No w0 [own v1 9 1 ((proofH sha (codesR l) i).map fun s => [sv s]), blk w0.heap.size [iv o, lv] 25] w2 := Y
 refine wlv Z (ak rfl rfl) fun a Z => wlv Z (ak rfl rfl) fun a Z => wla Z rfl fun a Z => wla Z rfl fun a Z => ab (hK2 _ _ ?_)
 replace Z : Fr 11 [(4, _), (5, _)] [] a := Z.pick [4, 5]
 replace Y : St No w0 [_] w2 := Y.mask [true, false]
 refine ar ?_
 refine am Z Tryd.results28 (ac rfl (ac rfl ae)) ?_
 exact ⟨v1, rfl, trivial, Y.ext, St.out (E := [own v1 9 1 ((proofH sha (codesR l) i).map fun s => [sv s])]) (H := []) (Y.select [0] (by decide))⟩
theorem m4 (lv : Value) (ls : List By) (i : Nat) (w0 : World) (hlv : SlAt w0 lv 1 (ls.map fun s => [sv s])) (hi : i ≤ ls.length) (hln : ls.length ≤ 1000) (hls : ∀ s ∈ ls, s.length ≤ 40000000) (hk0 : (blk 0 (kOf.map wv) 161).ok w0) :
  Ret Tryd.prog 72 #[lv, iv (i : Int)] w0 (MemR w0 (fun v : Value => .tuple #[v, iv 0]) (fun v => [own v 9 1 ((extH sha ls i).map fun s => [sv s])]) (fun _ => True)) := by
 by_cases h : i = 0
 ·subst h
  refine (kS lv ls w0 hlv).mono ?_
  rintro v w ⟨rfl, hx⟩
  exact ⟨.slice none 0 0, rfl, trivial, hx, dP (gQ _ _ _) (fun k hk => by cases hk)⟩
 ·have := ny lv ls i w0 hlv (by omega) hi hln hls hk0
  rw [extH, if_neg h]; exact this
theorem kx {o : Int} {l : List Rec} {v : Value} {i : Nat} {w0 : World} (hlo : logOk o l = true) (hv : SlAt w0 v 1 ((codesB l).map fun s => [sv s])) (hi : i ≤ l.length) (hk0 : (blk 0 (kOf.map wv) 161).ok w0) : Ret Tryd.prog 72 #[v, iv (i : Int)] w0 (MemR w0 (fun v : Value => .tuple #[v, iv 0]) (fun v => [own v 9 1 ((extH sha (codesR l) i).map fun s => [sv s])]) (fun _ => True)) := by
 rw [dC (cH hlo)] at hv
 have h60 := bU hlo
 exact m4 v (codesR l) i w0 hv (by rw [dF]; exact hi) (by rw [dF]; omega) (fun s h => Nat.le_trans (fe (cH hlo) s h) (by decide)) hk0
theorem fV (o : Int) (lv : Value) (l : List Rec) (i : Nat) (w0 : World) (hlv : SlAt w0 lv 5 (l.map Rec.cells)) (hlo : logOk o l = true) (hi : i ≤ l.length) (hk0 : (blk 0 (kOf.map wv) 161).ok w0) :
  Ret Tryd.prog 64 #[.agg #[iv o, lv], iv (i : Int), .func (.func 72) #[] #[]] w0 (MemR w0 (fun v : Value => .tuple #[v, iv 0]) (fun v => [own v 9 1 ((extH sha (codesR l) i).map fun s => [sv s])]) (fun _ => True)) := by
 have hll := bU hlo
 refine aC Tryd.func64 rfl Tryd.ntmps64 (lb rfl) fun a Z => ?_
 replace Z : Fr 29 [(0, _), (1, _), (2, _)] [] a := Z
 replace Y : St No w0 [] w0 := St.init w0
 refine aa fun K1 hK1 => bl Z Y (by decide) rfl (cs := [iv o, lv]) rfl ?_
 clear Z Y
 intro a w1 Z Y
 refine wla Z rfl fun a Z => wla Z rfl fun a Z => ab (hK1 _ _ <| aa fun K2 hK2 => ?_)
 refine wlv Z (aw (Y.get (k := 0) rfl) rfl (Tryd.isAgg25 _) (Tryd.sizeOf25 _)) fun a Z => aW Z Y (by decide) Tryd.call62 rfl (ex o lv l _ (Y.arg hlv) hlo) ?_
 clear Z Y
 intro a w2 x2 hp Z Y
 revert x2 hp Z Y; rintro v1 hp Z Y
 clear hp
 replace Y : St No w0 [own v1 9 1 ((codesB l).map fun s => [sv s]), blk w0.heap.size [iv o, lv] 25] w2 := Y
 refine wlm Z rfl fun a Z => wlv Z (ak rfl rfl) fun a Z => wlv Z (ak rfl rfl) fun a Z => wla Z rfl fun a Z => wla Z rfl fun a Z => ab (hK2 _ _ ?_)
 replace Z : Fr 29 [(1, _), (2, _), (6, _), (7, _), (8, _), (9, _)] [] a := Z.pick [1, 2, 6, 7, 8, 9]
 replace Y : St No w0 [_] w2 := Y.mask [true, false]
 refine ag fun K3 hK3 => aa fun K4 hK4 => wlm Z rfl fun a Z => wlv Z ((bq rfl).asb (b' := false) rfl) fun a Z => ab (hK4 _ _ <| aP Z rfl ?_)
 refine au <| hK3 _ _ <| aa fun K5 hK5 => wlm Z rfl fun a Z => wlm Z rfl fun a Z => wlm Z rfl fun a Z => f8 Z Y (by decide) rfl Tryd.call72 rfl (kx hlo (Y.ownAt (i := 0) rfl) hi (Y.keepb hk0)) ?_
 clear Z Y
 intro a w3 x4 hp Z Y
 revert x4 hp Z Y; rintro v3 - Z Y
 replace Y : St No w0 [own v3 9 1 ((extH sha (codesR l) i).map fun s => [sv s]), own v1 9 1 ((codesB l).map fun s => [sv s])] w3 := Y
 refine wlm Z rfl fun a Z => wlv Z (ak rfl rfl) fun a Z => wlv Z (ak rfl rfl) fun a Z => wla Z rfl fun a Z => wla Z rfl fun a Z => ab (hK5 _ _ ?_)
 replace Z : Fr 29 [(6, _), (7, _), (10, _), (11, _)] [] a := Z.pick [6, 7, 10, 11]
 replace Y : St No w0 [_] w3 := Y.mask [true, false]
 refine ag fun K6 hK6 => aa fun K7 hK7 => wlm Z rfl fun a Z => wlv Z ((v_ne rfl rfl).asb (b' := false) rfl) fun a Z => ab (hK7 _ _ <| aP Z rfl ?_)
 refine au <| hK6 _ _ <| aa fun K8 hK8 => wlm Z rfl fun a Z => wla Z rfl fun a Z => wla Z rfl fun a Z => ab (hK8 _ _ <| ar ?_)
 refine am Z Tryd.results64 (ac rfl (ac rfl ae)) ?_
 exact ⟨v3, rfl, trivial, Y.ext, St.out (E := [own v3 9 1 ((extH sha (codesR l) i).map fun s => [sv s])]) (H := []) (Y.select [0] (by decide))⟩
theorem jj (o : Int) (lv : Value) (l : List Rec) (i : Nat) (w0 : World) (hlv : SlAt w0 lv 5 (l.map Rec.cells)) (hll : l.length ≤ 1000) (hlo : logOk o l = true) (hi : i ≤ l.length) (hk0 : (blk 0 (kOf.map wv) 161).ok w0) :
  Ret Tryd.prog 42 #[.agg #[iv o, lv], iv (i : Int)] w0 (MemR w0 (fun v : Value => .tuple #[v, iv 0]) (fun v => [own v 9 1 ((extH sha (codesR l) i).map fun s => [sv s])]) (fun _ => True)) := by
 refine aC Tryd.func42 rfl Tryd.ntmps42 (lb rfl) fun a Z => ?_
 replace Z : Fr 11 [(0, _), (1, _)] [] a := Z
 replace Y : St No w0 [] w0 := St.init w0
 refine aa fun K1 hK1 => bl Z Y (by decide) rfl (cs := [iv o, lv]) rfl ?_
 clear Z Y
 intro a w1 Z Y
 refine wla Z rfl fun a Z => wla Z rfl fun a Z => ab (hK1 _ _ <| aa fun K2 hK2 => ?_)
 refine wlv Z (aw (Y.get (k := 0) rfl) rfl (Tryd.isAgg25 _) (Tryd.sizeOf25 _)) fun a Z => wlm Z rfl fun a Z => aW Z Y (by decide) Tryd.call64 rfl (fV o lv l i _ (Y.arg hlv) hlo hi (Y.keepb hk0)) ?_
 clear Z Y
 intro a w2 x2 hp Z Y
 revert x2 hp Z Y; rintro v1 hp Z Y
 clear hp
 replace Y : St No w0 [own v1 9 1 ((extH sha (codesR l) i).map fun s => [sv s]), blk w0.heap.size [iv o, lv] 25] w2 := Y
 refine wlv Z (ak rfl rfl) fun a Z => wlv Z (ak rfl rfl) fun a Z => wla Z rfl fun a Z => wla Z rfl fun a Z => ab (hK2 _ _ ?_)
 replace Z : Fr 11 [(4, _), (5, _)] [] a := Z.pick [4, 5]
 replace Y : St No w0 [_] w2 := Y.mask [true, false]
 refine ar ?_
 refine am Z Tryd.results42 (ac rfl (ac rfl ae)) ?_
 exact ⟨v1, rfl, trivial, Y.ext, St.out (E := [own v1 9 1 ((extH sha (codesR l) i).map fun s => [sv s])]) (H := []) (Y.select [0] (by decide))⟩
end Go.Proofs.YtddfkkdanpmnaaaDoor
namespace Go.Proofs.YtddfkkdanpmnaaaDoor
open Go.RowKit Go.PW
set_option linter.unusedVariables false
set_option linter.unusedSimpArgs false
set_option maxRecDepth 4000
def exE : By := [20, 2, 14, 1, 8, 110, 101, 119, 115]
def exM : List Rec := exR ++ [⟨20, 3, 0, 0, []⟩]
def exRoot : By := rootH sha (codesR exR)
def exNext : By := rootH sha (codesR exM)
def exPf : List By := proofH sha (codesR exR) 1
def exQ : List By := extH sha (codesR exM) 3
def exTag : By := tagR sha (keyR 1) 4 3 exRoot
theorem fg {f : FuncId} {args : Array Value} {w : World} {a b : Value} (h : a = b) (hr : Ret Tryd.prog f args w fun v w' => v = a ∧ Ext No w w') : Ret Tryd.prog f args w fun v w' => v = b ∧ Ext No w w' := by subst h; exact hr
theorem bZ {f : FuncId} {args : Array Value} {w : World} {b c : Bool} (h : b = c) (hr : Ret Tryd.prog f args w fun v w' => v = .bool b ∧ Ext No w w') : Ret Tryd.prog f args w fun v w' => v = .bool c ∧ Ext No w w' := by subst h; exact hr
theorem gF {f : FuncId} {args : Array Value} {w : World} {b c : Int} (h : b = c) (hr : Ret Tryd.prog f args w fun v w' => v = iv b ∧ Ext No w w') : Ret Tryd.prog f args w fun v w' => v = iv c ∧ Ext No w w' := by subst h; exact hr
theorem ex_eB : eB (exR.getD 0 Rec.z) = exE := by decide +kernel
theorem ex_eE : eE (exR.getD 0 Rec.z) = 0 := by decide +kernel
theorem ex_dX : decX exE = exR.getD 0 Rec.z := by decide +kernel
theorem ex_dE : decE exE = 0 := by decide +kernel
theorem fD : logOk 4 exR = true := by decide +kernel
theorem gS : logOk 4 exM = true := by decide +kernel
theorem mB : logOk 100 [] = false := by decide +kernel
theorem ex_hB : headB 4 exR = exRoot := dZ fD
theorem ex_hE : headE 4 exR = 0 := et.2 fD
theorem nf : headB 4 exM = exNext := dZ gS
theorem nI : headE 4 exM = 0 := et.2 gS
theorem hZ (n : Int) : (keyR n).length = 32 := bJ _
theorem na : signOk (keyR 1) 4 exR = true := by unfold signOk; rw [fD, hZ]; rfl
theorem ex_sB : signB (keyR 1) 4 exR = exTag := if_pos na
theorem ex_sE : signE (keyR 1) 4 exR = 0 := if_pos na
theorem nv : addOk 4 exR ⟨19, 1, 0, 0, []⟩ = false := by decide +kernel
theorem nD : addOk 4 exR ⟨20, 3, 0, 0, []⟩ = true := by decide +kernel
theorem ex_f1 : findH 4 exR 1 9 = -1 := by decide +kernel
theorem ex_f2 : findH 4 exR 1 19 = 0 := by decide +kernel
theorem ex_f3 : findH 4 exR 1 20 = 2 := by decide +kernel
theorem eS : exRoot = [21, 112, 33, 172, 240, 109, 75, 130, 191, 249, 217, 221, 50, 198, 0, 231, 116, 242, 6, 54, 79, 38, 84, 56, 148, 132, 237, 35, 98, 124, 34, 181] := by decide +kernel
theorem jM : exNext = [195, 244, 205, 59, 182, 231, 47, 220, 108, 75, 52, 189, 34, 70, 131, 114, 76, 87, 137, 243, 75, 37, 231, 109, 74, 49, 79, 149, 141, 24, 151, 82] := by decide +kernel
theorem jy : keyR 1 = [219, 193, 180, 201, 0, 255, 228, 141, 87, 91, 93, 165, 198, 56, 4, 1, 37, 246, 93, 176, 254, 62, 36, 73, 75, 118, 234, 152, 100, 87, 217, 134] := by decide +kernel
theorem kW : exTag = [75, 183, 243, 190, 88, 89, 30, 0, 212, 159, 241, 14, 211, 216, 181, 111, 180, 45, 128, 188, 226, 87, 91, 67, 48, 251, 122, 74, 0, 4, 207, 40] := by unfold exTag; rw [jy, eS]; decide +kernel
theorem ex_c1 : checkB exRoot 3 1 (exR.getD 1 Rec.z) exPf = true := by
 have h := gW (S := sha) bJ (l := codesR exR) (i := 1) (by decide)
 unfold checkB
 rw [show (exR.getD 1 Rec.z).ok = true from by decide, show (exR.getD 1 Rec.z).enc = (codesR exR).getD 1 [] from (mf (by decide)).symm, Bool.true_and]
 exact h
theorem ex_c2 : checkB exRoot 3 0 (exR.getD 1 Rec.z) exPf = false := by rw [eS]; decide +kernel
theorem ex_g1 : bh sha exRoot 3 exNext 4 exQ = true := jx (S := sha) bJ (l := codesR exM) (m := 3) (by decide)
theorem ex_g2 : bh sha exNext 3 exRoot 4 exQ = false := by rw [eS, jM]; decide +kernel
theorem ex_n1 : genR sha (keyR 1) 4 3 exRoot exTag = true := by
 unfold genR exTag
 rw [show exRoot.length = 32 from ca bJ _, hZ, decide_eq_true rfl, decide_eq_true rfl]; rfl
theorem ex_n2 : genR sha (keyR 1) 5 3 exRoot exTag = false := by rw [kW, jy, eS]; decide +kernel
theorem ex_n3 : genR sha (keyR 1) 4 3 exNext exTag = false := by rw [kW, jy, jM]; decide +kernel
theorem nb : exPf.length ≤ 8 := by decide +kernel
theorem m8 : exQ.length ≤ 8 := by decide +kernel
set_option maxHeartbeats 4000000 in
theorem mU (w0 : World) (hk0 : (blk 0 (kOf.map wv) 161).ok w0) :
  Ret Tryd.prog 9 #[] w0 fun v w => v = .bool true ∧ Ext No w0 w := by
 refine aC Tryd.func9 rfl Tryd.ntmps9 (lb rfl) fun a Z => ?_
 replace Z : Fr 206 [] [] a := Z
 replace Y : St No w0 [] w0 := St.init w0
 refine aa fun K1 hK1 => wla Z rfl fun a Z => ab (hK1 _ _ <| aa fun K2 hK2 => ?_)
 refine aW Z Y (by decide) Tryd.call41 rfl (jw _) ?_
 clear Z Y
 intro a w1 x2 hp Z Y
 revert x2 hp Z Y; rintro lv1 hp Z Y
 clear hp
 replace Y : St No w0 [own lv1 27 5 ((exR).map Rec.cells)] w1 := Y
 refine aK Z Y (by decide) (Tryd.zeroValue25 _) (cs := [iv 0, .slice none 0 0]) rfl ?_
 clear Z Y
 intro a w2 Z Y
 refine bw (us := [iv 4, lv1]) 0 Z Y rfl rfl rfl (Tryd.sizeOf25 _) (by intro z hz; simp only [List.mem_cons, List.not_mem_nil, or_false] at hz; rcases hz with rfl | rfl <;> first | rfl | exact SlAt.one (Y.ownAt (i := 1) rfl)) (lb rfl) (ds := [iv 4, lv1]) rfl rfl ?_
 clear Z Y
 intro a w3 Z Y
 refine ab (hK2 _ _ <| aa fun K3 hK3 => ?_)
 refine wlv Z (al (v := .pointer (some ⟨w1.heap.size, 1, none⟩)) rfl (by kernel_rfl)) fun a Z => wlv Z (ah (Y.get (k := 0) rfl) rfl (Tryd.isAgg23 _) rfl) fun a Z => wlv Z ((aj (i := 0) (sT := 23) (Y.ownAt (i := 1) rfl) rfl rfl (Tryd.runUnderlying23 _) (Tryd.sizeOf27 _) (by omega) (by decide)).as (v' := slAddr lv1 (0 * 5)) rfl) fun a Z => wlv Z ((bP (Y.ownAt (i := 1) rfl) (i := 0) (by decide) rfl (Tryd.isAgg27 _) (Tryd.sizeOf27 _)).as (v' := .agg #[iv ((exR.getD 0 Rec.z).t), iv ((exR.getD 0 Rec.z).kind), iv ((exR.getD 0 Rec.z).a), iv ((exR.getD 0 Rec.z).b), sv ((exR.getD 0 Rec.z).text)]) (by rw [br Rec.z]; rfl)) fun a Z => aq Z Y (by decide) Tryd.call22 rfl (fg (by rw [ex_eB, ex_eE]) (gr (exR.getD 0 Rec.z) _)) ?_
 clear Z Y
 intro a w4 Z Y
 refine wlm Z rfl fun a Z => wlv Z (ak rfl rfl) fun a Z => wlv Z (ak rfl rfl) fun a Z => wla Z rfl fun a Z => wla Z rfl fun a Z => ab (hK3 _ _ ?_)
 replace Z : Fr 206 [(0, _), (1, _), (2, _), (3, _)] [] a := Z.pick [0, 1, 2, 3]
 refine aa fun K4 hK4 => wlm Z rfl fun a Z => aq Z Y (by decide) Tryd.call24 rfl (fg (by rw [ex_dX, ex_dE]) (nA exE _ (by decide))) ?_
 clear Z Y
 intro a w5 Z Y
 refine wlm Z rfl fun a Z => wlv Z (ak rfl rfl) fun a Z => wlv Z (ak rfl rfl) fun a Z => aK Z Y (by decide) (Tryd.zeroValue27 _) (cs := [iv 0, iv 0, iv 0, iv 0, .string (⟨#[]⟩)]) rfl ?_
 clear Z Y
 intro a w6 Z Y
 refine aF 0 Z Y rfl rfl rfl (Tryd.sizeOf27 _) rfl (lb rfl) (ds := [iv ((exR.getD 0 Rec.z).t), iv ((exR.getD 0 Rec.z).kind), iv ((exR.getD 0 Rec.z).a), iv ((exR.getD 0 Rec.z).b), sv ((exR.getD 0 Rec.z).text)]) rfl rfl ?_
 clear Z Y
 intro a w7 Z Y
 refine wla Z rfl fun a Z => ab (hK4 _ _ <| aa fun K5 hK5 => ?_)
 refine wlv Z (aw (Y.get (k := 1) rfl) rfl (Tryd.isAgg25 _) (Tryd.sizeOf25 _)) fun a Z => aq Z Y (by decide) Tryd.call27 rfl (fg (by rw [ex_hB, ex_hE]) (gT 4 lv1 exR _ (Y.ownAt (i := 2) rfl) (Y.keepb hk0))) ?_
 clear Z Y
 intro a w8 Z Y
 refine wlm Z rfl fun a Z => wlv Z (ak rfl rfl) fun a Z => wlv Z (ak rfl rfl) fun a Z => wla Z rfl fun a Z => wla Z rfl fun a Z => ab (hK5 _ _ ?_)
 replace Z : Fr 206 [(0, _), (1, _), (2, _), (3, _), (4, _), (5, _), (6, _), (7, _)] [] a := Z.pick [0, 1, 2, 3, 4, 5, 6, 7]
 refine aa fun K6 hK6 => wlv Z (aw (Y.get (k := 1) rfl) rfl (Tryd.isAgg25 _) (Tryd.sizeOf25 _)) fun a Z => aW Z Y (by decide) Tryd.call28 rfl (jg 4 lv1 exR 1 _ (Y.ownAt (i := 2) rfl) (by decide) fD (by decide) (Y.keepb hk0)) ?_
 clear Z Y
 intro a w9 x4 hp Z Y
 revert x4 hp Z Y; rintro v3 hp Z Y
 clear hp
 replace Y : St No w0 [own v3 9 1 (exPf.map fun s => [sv s]), blk w5.heap.size [iv ((exR.getD 0 Rec.z).t), iv ((exR.getD 0 Rec.z).kind), iv ((exR.getD 0 Rec.z).a), iv ((exR.getD 0 Rec.z).b), sv ((exR.getD 0 Rec.z).text)] 27, blk w1.heap.size [iv 4, lv1] 25, own lv1 27 5 ((exR).map Rec.cells)] w9 := Y
 refine wlm Z rfl fun a Z => wlv Z (ak rfl rfl) fun a Z => wlv Z (ak rfl rfl) fun a Z => wla Z rfl fun a Z => wla Z rfl fun a Z => ab (hK6 _ _ <| aa fun K7 hK7 => ?_)
 refine wlv Z (aw (Y.get (k := 2) rfl) rfl (Tryd.isAgg25 _) (Tryd.sizeOf25 _)) fun a Z => wlv Z (bu (v := .agg #[iv 19, iv 1, iv 0, iv 0, sv ([] : By)]) rfl (by kernel_rfl)) fun a Z => aW Z Y (by decide) Tryd.call13 rfl (m6 4 lv1 exR ⟨19, 1, 0, 0, []⟩ _ (Y.ownAt (i := 3) rfl) (by decide) nv) ?_
 clear Z Y
 intro a w10 x6 hp Z Y
 revert x6 hp Z Y; rintro lv5 hp Z Y
 clear hp
 replace Y : St No w0 [own lv5 27 5 ((([] : List Rec)).map Rec.cells), own v3 9 1 (exPf.map fun s => [sv s]), blk w5.heap.size [iv ((exR.getD 0 Rec.z).t), iv ((exR.getD 0 Rec.z).kind), iv ((exR.getD 0 Rec.z).a), iv ((exR.getD 0 Rec.z).b), sv ((exR.getD 0 Rec.z).text)] 27, blk w1.heap.size [iv 4, lv1] 25, own lv1 27 5 ((exR).map Rec.cells)] w10 := Y
 refine wlm Z rfl fun a Z => wlv Z (ak rfl rfl) fun a Z => wlv Z (ak rfl rfl) fun a Z => aK Z Y (by decide) (Tryd.zeroValue25 _) (cs := [iv 0, .slice none 0 0]) rfl ?_
 clear Z Y
 intro a w11 Z Y
 refine bw (us := [iv 0, lv5]) 0 Z Y rfl rfl rfl (Tryd.sizeOf25 _) (by intro z hz; simp only [List.mem_cons, List.not_mem_nil, or_false] at hz; rcases hz with rfl | rfl <;> first | rfl | exact SlAt.one (Y.ownAt (i := 1) rfl)) (lb rfl) (ds := [iv 0, lv5]) rfl rfl ?_
 clear Z Y
 intro a w12 Z Y
 refine wla Z rfl fun a Z => ab (hK7 _ _ ?_)
 replace Z : Fr 206 [(0, _), (1, _), (2, _), (3, _), (4, _), (5, _), (6, _), (7, _), (8, _), (9, _), (11, _)] [] a := Z.pick [0, 1, 2, 3, 4, 5, 6, 7, 8, 9, 11]
 replace Y : St No w0 [_, _, _, _, _] w12 := Y.mask [false, true, true, true, true, true]
 refine aa fun K8 hK8 => wlv Z (aw (Y.get (k := 3) rfl) rfl (Tryd.isAgg25 _) (Tryd.sizeOf25 _)) fun a Z => wlv Z (bu (v := .agg #[iv 20, iv 3, iv 0, iv 0, sv ([] : By)]) rfl (by kernel_rfl)) fun a Z => aW Z Y (by decide) Tryd.call13 rfl (iB 4 lv1 exR ⟨20, 3, 0, 0, []⟩ _ (Y.ownAt (i := 4) rfl) (by decide) nD) ?_
 clear Z Y
 intro a w13 x8 hp Z Y
 revert x8 hp Z Y; rintro lv7 hp Z Y
 clear hp
 replace Y : St No w0 [own lv7 27 5 ((exM).map Rec.cells), own lv5 27 5 ((([] : List Rec)).map Rec.cells), own v3 9 1 (exPf.map fun s => [sv s]), blk w5.heap.size [iv ((exR.getD 0 Rec.z).t), iv ((exR.getD 0 Rec.z).kind), iv ((exR.getD 0 Rec.z).a), iv ((exR.getD 0 Rec.z).b), sv ((exR.getD 0 Rec.z).text)] 27, blk w1.heap.size [iv 4, lv1] 25, own lv1 27 5 ((exR).map Rec.cells)] w13 := Y
 refine wlm Z rfl fun a Z => wlv Z (ak rfl rfl) fun a Z => wlv Z (ak rfl rfl) fun a Z => aK Z Y (by decide) (Tryd.zeroValue25 _) (cs := [iv 0, .slice none 0 0]) rfl ?_
 clear Z Y
 intro a w14 Z Y
 refine bw (us := [iv 4, lv7]) 0 Z Y rfl rfl rfl (Tryd.sizeOf25 _) (by intro z hz; simp only [List.mem_cons, List.not_mem_nil, or_false] at hz; rcases hz with rfl | rfl <;> first | rfl | exact SlAt.one (Y.ownAt (i := 1) rfl)) (lb rfl) (ds := [iv 4, lv7]) rfl rfl ?_
 clear Z Y
 intro a w15 Z Y
 refine wla Z rfl fun a Z => ab (hK8 _ _ ?_)
 replace Z : Fr 206 [(0, _), (1, _), (2, _), (3, _), (4, _), (5, _), (6, _), (7, _), (8, _), (9, _), (11, _), (12, _), (13, _)] [] a := Z.pick [0, 1, 2, 3, 4, 5, 6, 7, 8, 9, 11, 12, 13]
 replace Y : St No w0 [_, _, _, _, _, _] w15 := Y.mask [true, true, false, true, true, true, true]
 refine aa fun K9 hK9 => wlv Z (aw (Y.get (k := 0) rfl) rfl (Tryd.isAgg25 _) (Tryd.sizeOf25 _)) fun a Z => aW Z Y (by decide) Tryd.call42 rfl (jj 4 lv7 exM 3 _ (Y.ownAt (i := 1) rfl) (by decide) gS (by decide) (Y.keepb hk0)) ?_
 clear Z Y
 intro a w16 x10 hp Z Y
 revert x10 hp Z Y; rintro v9 hp Z Y
 clear hp
 replace Y : St No w0 [own v9 9 1 (exQ.map fun s => [sv s]), blk w13.heap.size [iv 4, lv7] 25, own lv7 27 5 ((exM).map Rec.cells), own v3 9 1 (exPf.map fun s => [sv s]), blk w5.heap.size [iv ((exR.getD 0 Rec.z).t), iv ((exR.getD 0 Rec.z).kind), iv ((exR.getD 0 Rec.z).a), iv ((exR.getD 0 Rec.z).b), sv ((exR.getD 0 Rec.z).text)] 27, blk w1.heap.size [iv 4, lv1] 25, own lv1 27 5 ((exR).map Rec.cells)] w16 := Y
 refine wlm Z rfl fun a Z => wlv Z (ak rfl rfl) fun a Z => wlv Z (ak rfl rfl) fun a Z => wla Z rfl fun a Z => wla Z rfl fun a Z => ab (hK9 _ _ <| aa fun K10 hK10 => ?_)
 refine wlv Z (aw (Y.get (k := 1) rfl) rfl (Tryd.isAgg25 _) (Tryd.sizeOf25 _)) fun a Z => aq Z Y (by decide) Tryd.call27 rfl (fg (by rw [nf, nI]) (gT 4 lv7 exM _ (Y.ownAt (i := 2) rfl) (Y.keepb hk0))) ?_
 clear Z Y
 intro a w17 Z Y
 refine wlm Z rfl fun a Z => wlv Z (ak rfl rfl) fun a Z => wlv Z (ak rfl rfl) fun a Z => wla Z rfl fun a Z => wla Z rfl fun a Z => ab (hK10 _ _ ?_)
 replace Z : Fr 206 [(0, _), (1, _), (2, _), (3, _), (4, _), (5, _), (6, _), (7, _), (8, _), (9, _), (11, _), (12, _), (13, _), (14, _), (15, _), (16, _), (17, _)] [] a := Z.pick [0, 1, 2, 3, 4, 5, 6, 7, 8, 9, 11, 12, 13, 14, 15, 16, 17]
 refine aa fun K11 hK11 => aq Z Y (by decide) Tryd.call35 rfl (mR 1 _ (by unfold i64; omega)) ?_
 clear Z Y
 intro a w18 Z Y
 refine wla Z rfl fun a Z => ab (hK11 _ _ <| aa fun K12 hK12 => ?_)
 refine wlm Z rfl fun a Z => wlv Z (aw (Y.get (k := 5) rfl) rfl (Tryd.isAgg25 _) (Tryd.sizeOf25 _)) fun a Z => aq Z Y (by decide) Tryd.call36 rfl (fg (by rw [ex_sB, ex_sE]) (m3 (keyR 1) 4 lv1 exR _ (Y.ownAt (i := 6) rfl) (Y.keepb hk0))) ?_
 clear Z Y
 intro a w19 Z Y
 refine wlm Z rfl fun a Z => wlv Z (ak rfl rfl) fun a Z => wlv Z (ak rfl rfl) fun a Z => wla Z rfl fun a Z => wla Z rfl fun a Z => ab (hK12 _ _ ?_)
 replace Z : Fr 206 [(0, _), (1, _), (2, _), (3, _), (4, _), (5, _), (6, _), (7, _), (8, _), (9, _), (11, _), (12, _), (13, _), (14, _), (15, _), (16, _), (17, _), (18, _), (19, _), (20, _)] [] a := Z.pick [0, 1, 2, 3, 4, 5, 6, 7, 8, 9, 11, 12, 13, 14, 15, 16, 17, 18, 19, 20]
 refine ag fun K13 hK13 => aa fun K14 hK14 => wlm Z rfl fun a Z => wlv Z ((v_ne rfl rfl).asb (b' := false) rfl) fun a Z => wlm Z rfl fun a Z => wly Z (ai rfl) fun a Z => wly Z ((v_ne rfl rfl).asb (b' := false) rfl) fun a Z => wlv Z (aA rfl rfl) fun a Z => wlm Z rfl fun a Z => wly Z (ai rfl) fun a Z => wly Z ((v_ne rfl rfl).asb (b' := false) rfl) fun a Z => wlv Z (aA rfl rfl) fun a Z => wlm Z rfl fun a Z => wly Z (ai rfl) fun a Z => wly Z ((v_ne rfl rfl).asb (b' := false) rfl) fun a Z => wlv Z (aA rfl rfl) fun a Z => wlm Z rfl fun a Z => wly Z (ai rfl) fun a Z => wly Z ((v_ne rfl rfl).asb (b' := false) rfl) fun a Z => ?_
 refine wlv Z (aA rfl rfl) fun a Z => wlm Z rfl fun a Z => wly Z (ai rfl) fun a Z => wly Z ((v_ne rfl rfl).asb (b' := false) rfl) fun a Z => wlv Z (aA rfl rfl) fun a Z => wlm Z rfl fun a Z => wly Z (ai rfl) fun a Z => wly Z ((v_ne rfl rfl).asb (b' := false) rfl) fun a Z => wlv Z (aA rfl rfl) fun a Z => wlm Z rfl fun a Z => wly Z (ai rfl) fun a Z => wly Z ((v_ne rfl rfl).asb (b' := false) rfl) fun a Z => wlv Z (aA rfl rfl) fun a Z => wlm Z rfl fun a Z => wly Z (ai rfl) fun a Z => wly Z ((v_ne rfl rfl).asb (b' := false) rfl) fun a Z => wlv Z (aA rfl rfl) fun a Z => ab (hK14 _ _ ?_)
 replace Z : Fr 206 [(0, _), (1, _), (2, _), (4, _), (6, _), (8, _), (12, _), (14, _), (16, _), (18, _), (19, _), (110, _)] [] a := Z.pick [0, 1, 2, 4, 6, 8, 12, 14, 16, 18, 19, 110]
 refine aP Z rfl ?_
 refine au <| hK13 _ _ <| aa fun K15 hK15 => wlm Z rfl fun a Z => wlv Z (al (v := .pointer (some ⟨w1.heap.size, 1, none⟩)) rfl (by kernel_rfl)) fun a Z => wlv Z (ah (Y.get (k := 5) rfl) rfl (Tryd.isAgg23 _) rfl) fun a Z => wlv Z ((aj (i := 1) (sT := 23) (Y.ownAt (i := 6) rfl) rfl rfl (Tryd.runUnderlying23 _) (Tryd.sizeOf27 _) (by omega) (by decide)).as (v' := slAddr lv1 (1 * 5)) rfl) fun a Z => ?_
 refine wlv Z ((bP (Y.ownAt (i := 6) rfl) (i := 1) (by decide) rfl (Tryd.isAgg27 _) (Tryd.sizeOf27 _)).as (v' := .agg #[iv ((exR.getD 1 Rec.z).t), iv ((exR.getD 1 Rec.z).kind), iv ((exR.getD 1 Rec.z).a), iv ((exR.getD 1 Rec.z).b), sv ((exR.getD 1 Rec.z).text)]) (by rw [br Rec.z]; rfl)) fun a Z => wlm Z rfl fun a Z => aq Z Y (by decide) Tryd.call29 rfl (bZ ex_c1 (im exRoot 3 1 (exR.getD 1 Rec.z) v3 exPf _ (Y.ownAt (i := 3) rfl) (by have := nb; omega) (by unfold i64; omega) (Y.keepb hk0))) ?_
 clear Z Y
 intro a w20 Z Y
 refine wlm Z rfl fun a Z => wly Z (ai rfl) fun a Z => wly Z (al (v := .pointer (some ⟨w1.heap.size, 1, none⟩)) rfl (by kernel_rfl)) fun a Z => wly Z (ah (Y.get (k := 5) rfl) rfl (Tryd.isAgg23 _) rfl) fun a Z => wly Z ((aj (i := 1) (sT := 23) (Y.ownAt (i := 6) rfl) rfl rfl (Tryd.runUnderlying23 _) (Tryd.sizeOf27 _) (by omega) (by decide)).as (v' := slAddr lv1 (1 * 5)) rfl) fun a Z => wly Z ((bP (Y.ownAt (i := 6) rfl) (i := 1) (by decide) rfl (Tryd.isAgg27 _) (Tryd.sizeOf27 _)).as (v' := .agg #[iv ((exR.getD 1 Rec.z).t), iv ((exR.getD 1 Rec.z).kind), iv ((exR.getD 1 Rec.z).a), iv ((exR.getD 1 Rec.z).b), sv ((exR.getD 1 Rec.z).text)]) (by rw [br Rec.z]; rfl)) fun a Z => wly Z (ai rfl) fun a Z => aR Z Y (by decide) rfl (by decide) rfl Tryd.call29 rfl (bZ ex_c2 (im exRoot 3 0 (exR.getD 1 Rec.z) v3 exPf _ (Y.ownAt (i := 3) rfl) (by have := nb; omega) (by unfold i64; omega) (Y.keepb hk0))) ?_
 clear Z Y
 intro a w21 Z Y
 refine wly Z ((bq rfl).asb (b' := true) rfl) fun a Z => wlv Z (aB rfl rfl) fun a Z => wlm Z rfl fun a Z => wly Z (ai rfl) fun a Z => wly Z (ai rfl) fun a Z => wly Z (ai rfl) fun a Z => aR Z Y (by decide) rfl (by decide) rfl Tryd.call43 rfl (bZ ex_g1 (f6 exRoot 3 exNext 4 v9 exQ _ (Y.ownAt (i := 0) rfl) (by have := m8; omega) (by unfold i64; omega) (Y.keepb hk0))) ?_
 clear Z Y
 intro a w22 Z Y
 refine wlv Z (aB rfl rfl) fun a Z => wlm Z rfl fun a Z => wly Z (ai rfl) fun a Z => wly Z (ai rfl) fun a Z => wly Z (ai rfl) fun a Z => aR Z Y (by decide) rfl (by decide) rfl Tryd.call43 rfl (bZ ex_g2 (f6 exNext 3 exRoot 4 v9 exQ _ (Y.ownAt (i := 0) rfl) (by have := m8; omega) (by unfold i64; omega) (Y.keepb hk0))) ?_
 clear Z Y
 intro a w23 Z Y
 refine wly Z ((bq rfl).asb (b' := true) rfl) fun a Z => wlv Z (aB rfl rfl) fun a Z => wla Z rfl fun a Z => ab (hK15 _ _ ?_)
 replace Z : Fr 206 [(0, _), (1, _), (2, _), (4, _), (6, _), (12, _), (16, _), (18, _), (19, _), (21, _)] [] a := Z.pick [0, 1, 2, 4, 6, 12, 16, 18, 19, 21]
 replace Y : St No w0 [_, _, _, _, _] w23 := Y.mask [false, true, true, false, true, true, true]
 refine aa fun K16 hK16 => wlm Z rfl fun a Z => wlm Z rfl fun a Z => wlm Z rfl fun a Z => aq Z Y (by decide) Tryd.call37 rfl (bZ ex_n1 (dO (keyR 1) 4 3 exRoot exTag _ (Y.keepb hk0))) ?_
 clear Z Y
 intro a w24 Z Y
 refine wlm Z rfl fun a Z => wly Z (ai rfl) fun a Z => wly Z (ai rfl) fun a Z => wly Z (ai rfl) fun a Z => aR Z Y (by decide) rfl (by decide) rfl Tryd.call37 rfl (bZ ex_n2 (dO (keyR 1) 5 3 exRoot exTag _ (Y.keepb hk0))) ?_
 clear Z Y
 intro a w25 Z Y
 refine wly Z ((bq rfl).asb (b' := true) rfl) fun a Z => wlv Z (aB rfl rfl) fun a Z => wlm Z rfl fun a Z => wly Z (ai rfl) fun a Z => wly Z (ai rfl) fun a Z => wly Z (ai rfl) fun a Z => aR Z Y (by decide) rfl (by decide) rfl Tryd.call37 rfl (bZ ex_n3 (dO (keyR 1) 4 3 exNext exTag _ (Y.keepb hk0))) ?_
 clear Z Y
 intro a w26 Z Y
 refine wly Z ((bq rfl).asb (b' := true) rfl) fun a Z => wlv Z (aB rfl rfl) fun a Z => wla Z rfl fun a Z => ab (hK16 _ _ ?_)
 replace Z : Fr 206 [(0, _), (1, _), (2, _), (4, _), (12, _), (21, _), (22, _)] [] a := Z.pick [0, 1, 2, 4, 12, 21, 22]
 refine aa fun K17 hK17 => wlv Z (aw (Y.get (k := 3) rfl) rfl (Tryd.isAgg25 _) (Tryd.sizeOf25 _)) fun a Z => aq Z Y (by decide) Tryd.call20 rfl (gF ex_f1 (em 4 lv1 exR 1 9 _ (Y.ownAt (i := 4) rfl))) ?_
 clear Z Y
 intro a w27 Z Y
 refine wlv Z ((v_eq rfl rfl).asb (b' := true) rfl) fun a Z => wlm Z rfl fun a Z => wly Z (aw (Y.get (k := 3) rfl) rfl (Tryd.isAgg25 _) (Tryd.sizeOf25 _)) fun a Z => aR Z Y (by decide) rfl (by decide) rfl Tryd.call20 rfl (gF ex_f2 (em 4 lv1 exR 1 19 _ (Y.ownAt (i := 4) rfl))) ?_
 clear Z Y
 intro a w28 Z Y
 refine wly Z ((v_eq rfl rfl).asb (b' := true) rfl) fun a Z => wlv Z (aB rfl rfl) fun a Z => wlm Z rfl fun a Z => wly Z (aw (Y.get (k := 3) rfl) rfl (Tryd.isAgg25 _) (Tryd.sizeOf25 _)) fun a Z => aR Z Y (by decide) rfl (by decide) rfl Tryd.call20 rfl (gF ex_f3 (em 4 lv1 exR 1 20 _ (Y.ownAt (i := 4) rfl))) ?_
 clear Z Y
 intro a w29 Z Y
 refine wly Z ((v_eq rfl rfl).asb (b' := true) rfl) fun a Z => wlv Z (aB rfl rfl) fun a Z => wla Z rfl fun a Z => ab (hK17 _ _ ?_)
 replace Z : Fr 206 [(0, _), (1, _), (2, _), (4, _), (12, _), (21, _), (22, _), (23, _)] [] a := Z.pick [0, 1, 2, 4, 12, 21, 22, 23]
 refine ag fun K18 hK18 => aI (by kernel_rfl) (aL (by kernel_rfl) fun w30 hxz => ?_)
 replace Y := Y.grow hxz
 refine aT (k := 0) 3 [2] (by kernel_rfl) (by kernel_rfl) (by kernel_rfl) ?_
 refine wlm Z rfl fun a Z => wlv Z ((ee rfl rfl).asb (b' := true) (by exact decide_eq_true rfl)) fun a Z => wlm Z rfl fun a Z => ab <| aX (k := 3) 8 [3, 7] Z (by kernel_rfl) (by kernel_rfl) (by kernel_rfl) (by rfl) ?_
 replace Z : Fr 206 [(0, _), (1, _), (2, _), (4, _), (12, _), (21, _), (22, _), (23, _), (172, _), (173, _), (174, _)] [] a := Z.pick [0, 1, 2, 4, 12, 21, 22, 23, 172, 173, 174]
 refine aD [] (fun i => match i with | _ => fun _ _ => False) 5 [[], [], [1], [2], [3]] [.agg #[iv ((exR.getD 0 Rec.z).t), iv ((exR.getD 0 Rec.z).kind), iv ((exR.getD 0 Rec.z).a), iv ((exR.getD 0 Rec.z).b), sv ((exR.getD 0 Rec.z).text)], .pointer (some ⟨w1.heap.size, 1, none⟩), lv1, slAddr lv1 (0 * 5), .agg #[iv ((exR.getD 0 Rec.z).t), iv ((exR.getD 0 Rec.z).kind), iv ((exR.getD 0 Rec.z).a), iv ((exR.getD 0 Rec.z).b), sv ((exR.getD 0 Rec.z).text)]] Z Y (by kernel_rfl) (by kernel_rfl) (by kernel_rfl) ?_ ?_ ?_
 ·intro i hi hiq
  match i, hi, hiq with
  | 0, _, _ =>
   intro w Y
   exact OpV.g (aw (Y.get (k := 2) rfl) rfl (Tryd.isAgg27 _) (Tryd.sizeOf27 _))
  | 1, _, _ =>
   intro w Y
   exact OpV.g (al (v := .pointer (some ⟨w1.heap.size, 1, none⟩)) rfl (by kernel_rfl))
  | 2, _, _ =>
   intro w Y
   exact OpV.g (ah (Y.get (k := 3) rfl) rfl (Tryd.isAgg23 _) rfl)
  | 3, _, _ =>
   intro w Y
   exact OpV.g ((aj (i := 0) (sT := 23) (Y.ownAt (i := 4) rfl) rfl rfl (Tryd.runUnderlying23 _) (Tryd.sizeOf27 _) (by omega) (by decide)).as (v' := slAddr lv1 (0 * 5)) rfl)
  | 4, _, _ =>
   intro w Y
   exact OpV.g ((bP (Y.ownAt (i := 4) rfl) (i := 0) (by decide) rfl (Tryd.isAgg27 _) (Tryd.sizeOf27 _)).as (v' := .agg #[iv ((exR.getD 0 Rec.z).t), iv ((exR.getD 0 Rec.z).kind), iv ((exR.getD 0 Rec.z).a), iv ((exR.getD 0 Rec.z).b), sv ((exR.getD 0 Rec.z).text)]) (by rw [br Rec.z]; rfl))
 ·intro i hi
  exact absurd hi (by simp)
 clear Z Y
 intro  a w31 Z Y
 replace Z : Fr 206 [(175, .agg #[iv ((exR.getD 0 Rec.z).t), iv ((exR.getD 0 Rec.z).kind), iv ((exR.getD 0 Rec.z).a), iv ((exR.getD 0 Rec.z).b), sv ((exR.getD 0 Rec.z).text)]), (176, .pointer (some ⟨w1.heap.size, 1, none⟩)), (177, lv1), (178, slAddr lv1 (0 * 5)), (179, .agg #[iv ((exR.getD 0 Rec.z).t), iv ((exR.getD 0 Rec.z).kind), iv ((exR.getD 0 Rec.z).a), iv ((exR.getD 0 Rec.z).b), sv ((exR.getD 0 Rec.z).text)]), (0, _), (1, _), (2, _), (4, _), (12, _), (21, _), (22, _), (23, _), (172, _), (173, _), (174, _)] [] a := Z
 refine ab <| aT (k := 8) 35 [34] (by kernel_rfl) (by kernel_rfl) (by kernel_rfl) ?_
 refine wly Z ((lC rfl rfl (by kernel_rfl) (eqRec ((exR.getD 0 Rec.z).t) ((exR.getD 0 Rec.z).kind) ((exR.getD 0 Rec.z).a) ((exR.getD 0 Rec.z).b) ((exR.getD 0 Rec.z).text) ((exR.getD 0 Rec.z).t) ((exR.getD 0 Rec.z).kind) ((exR.getD 0 Rec.z).a) ((exR.getD 0 Rec.z).b) ((exR.getD 0 Rec.z).text) _)).asb (b' := true) (by exact decide_eq_true rfl)) fun a Z => wlv Z (aB rfl rfl) fun a Z => wlm Z rfl fun a Z => wly Z (ai rfl) fun a Z => wlv Z (aB rfl rfl) fun a Z => wlm Z rfl fun a Z => wly Z (ai rfl) fun a Z => wlv Z (aB rfl rfl) fun a Z => wlm Z rfl fun a Z => wly Z (ai rfl) fun a Z => wlv Z (aB rfl rfl) fun a Z => wlm Z rfl fun a Z => wly Z (al (v := .pointer (some ⟨w13.heap.size, 1, none⟩)) rfl (by kernel_rfl)) fun a Z => wly Z (ah (Y.get (k := 0) rfl) rfl (Tryd.isAgg23 _) rfl) fun a Z => wly Z ((aG (sT := 23) (Y.ownAt (i := 1) rfl) rfl rfl (Tryd.runUnderlying23 _)).asi (m' := (exM.length : Int)) (by rw [List.length_map])) fun a Z => wly Z ((v_eq rfl rfl).asb (b' := true) (by decide)) fun a Z => wlv Z (aB rfl rfl) fun a Z => wlm Z rfl fun a Z => wly Z (aw (Y.get (k := 3) rfl) rfl (Tryd.isAgg25 _) (Tryd.sizeOf25 _)) fun a Z => aR Z Y (by decide) rfl (by decide) rfl Tryd.call16 rfl (bZ fD (da 4 lv1 exR _ (Y.ownAt (i := 4) rfl))) ?_
 clear Z Y
 intro a w32 Z Y
 refine wlv Z (aB rfl rfl) fun a Z => wlm Z rfl fun a Z => wly Z (bu (v := .agg #[iv 100, .slice none 0 0]) rfl (by kernel_rfl)) fun a Z => aR Z Y (by decide) rfl (by decide) rfl Tryd.call16 rfl (bZ mB (da 100 (.slice none 0 0) ([] : List Rec) _ (ij _ _))) ?_
 clear Z Y
 intro a w33 Z Y
 refine wly Z ((bq rfl).asb (b' := true) rfl) fun a Z => wlv Z (aB rfl rfl) fun a Z => wla Z rfl fun a Z => ab <| ba (by kernel_rfl) ?_
 refine hK18 _ _ ?_
 replace Z : Fr 206 [(0, _)] [] a := Z.pick [0]
 replace Y : St No w0 [_, _] w33 := Y.mask [false, true, false, false, true]
 refine ar ?_
 refine am Z Tryd.results9 (ac rfl ae) ?_
 exact ⟨by rfl, Y.ext⟩
end Go.Proofs.YtddfkkdanpmnaaaDoor
namespace Go.Proofs.YtddfkkdanpmnaaaDoor
open Go.RowKit Go.PW
set_option linter.unusedVariables false
set_option linter.unusedSimpArgs false
set_option maxRecDepth 4000
theorem jE : ∀ {l : List Rin} {t : Int}, 0 ≤ t → t + 30 * l.length ≤ 10000000 → ∀ x ∈ recsR t l, x.t ≤ t + 30 * l.length
 | [], t, h, hb, x, hx => by cases hx
 | y :: l, t, h, hb, x, hx => by
  have h0 := bp y.x0 (n := 30) (by omega)
  rw [List.length_cons] at hb ⊢
  have e : (entR (t + pickI y.x0 30) y.x1 y.x2 y.x3 y.x4).t = t + pickI y.x0 30 := by
   show pickI (t + pickI y.x0 30) 10000001 = _
   generalize pickI y.x0 30 = z at *
   unfold pickI
   rw [if_neg (by omega)]
   exact Int.emod_eq_of_lt (by omega) (by omega)
  rw [recsR] at hx
  rcases List.mem_cons.1 hx with rfl | hx
  ·rw [e]; omega
  ·have := jE (l := l) (t := t + pickI y.x0 30) (by omega) (by omega) x hx
   omega
theorem mw (l : List Rin) : ∀ x ∈ madeR l, x.t ≤ 360 := by
 intro x hx
 have := jE (Int.le_refl 0) (by rw [List.length_take]; omega) x hx
 rw [List.length_take] at this; omega
theorem nh {t : Int} (h : 0 ≤ t) (h2 : t ≤ 10000000) (a b c d : Int) : (entR t a b c d).t = t := by
 show pickI t 10000001 = t
 unfold pickI
 rw [if_neg (by omega)]
 exact Int.emod_eq_of_lt (by omega) (by omega)
theorem jL : ∀ {l : List Rec} {t : Int}, 0 < l.length → lastT t l = (l.getD (l.length - 1) Rec.z).t
 | [], _, h => absurd h (Nat.lt_irrefl 0)
 | [x], _, _ => rfl
 | x :: y :: l, t, _ => by
  rw [lastT, jL (l := y :: l) (t := x.t) (by simp)]
  rfl
theorem j4 {o : Int} {l : List Rec} (h : logOk o l = true) {k : Nat} (hk : k < l.length) : 0 ≤ (l.getD k Rec.z).t ∧ (l.getD k Rec.z).t ≤ 10000000 := by
 have := cH h _ (bn (d := Rec.z) hk)
 simp only [Rec.ok, inB, Bool.and_eq_true, decide_eq_true_eq] at this; omega
theorem mX {o : Int} {l : List Rec} {r : Rec} (h : logOk o l = true) (hl : l.length < 60) (hr : r.ok = true) (ht : lastT 0 l ≤ r.t) : addOk o l r = true := by
 unfold addOk
 rw [h]
 unfold logOk at h ⊢
 simp only [Bool.and_eq_true, Bool.true_and] at h ⊢
 refine ⟨⟨?_, h.1.2⟩, decide_eq_true (by simp; omega)⟩
 rw [eD, h.1.1, hr, decide_eq_true ht]; rfl
theorem fB {o k s : Int} {l : List Rec} {r : Rec} (h : addOk o l r = true) : findH o (l ++ [r]) k s = if r.kind = k ∧ r.t ≤ s then (l.length : Int) else findH o l k s := by
 obtain ⟨h1, h2⟩ := dJ h
 unfold findH
 rw [if_pos h1, if_pos h2, jf]
 by_cases e : r.kind = k ∧ r.t ≤ s
 ·rw [if_pos e, if_pos (by simp [hitR, e.1, e.2])]
 ·rw [if_neg e, if_neg (by simpa [hitR] using e)]
theorem no {owner o : Int} {xv : Value} {ys : List Rin} {l : List Rec} {w0 : World} (ho : pickI owner 100 = o) (hl : madeR ys = l) (hxv : SlAt w0 xv 5 (ys.map Rin.cells)) (hys : ∀ y ∈ ys, y.wt) (how : i64 owner) : Ret Tryd.prog 10 #[iv owner, xv] w0 (MemR w0 (fun v : Value => .agg #[iv o, v]) (fun v => [own v 27 5 (l.map Rec.cells)]) (fun _ => True)) := by
 subst ho; subst hl
 exact lB owner xv ys w0 hxv hys how
theorem m2 {t x0 x1 x2 x3 : Int} {r : Rec} {w0 : World} (hr : entR t x0 x1 x2 x3 = r) (ht : i64 t) (h0 : i64 x0) (h1 : i64 x1) (h2 : i64 x2) (h3 : i64 x3) : Ret Tryd.prog 15 #[iv t, .agg #[iv x0, iv x1, iv x2, iv x3]] w0 fun v w => v = .agg #[iv r.t, iv r.kind, iv r.a, iv r.b, sv r.text] ∧ Ext No w0 w := by
 subst hr
 exact ge t x0 x1 x2 x3 w0 ht h0 h1 h2 h3
end Go.Proofs.YtddfkkdanpmnaaaDoor
namespace Go.PW
open Go.RowKit Go.ChangeShapes Go.WideShapes Go.ChangeAt
set_option linter.unusedVariables false
set_option linter.unusedSimpArgs false
section
variable {H : Type} {enc : TypeId × Value → H}
theorem ik {a : Assume} {C : Checked} {os : Os} {f : FuncId} {fn : Func} {s : ChangeSpec} {conds : List PathCond} {apart fresh handsOn again : Bool} {X : World → Array Value → Prop}
  (hX : ∀ (w w' : World) (args : Array Value), w.heap = w'.heap → X w args → X w' args)
  (own : ownKnob C.prog.godebug = none) (started : os.Started) (noInit : C.prog.inits.idxOf? f = none) (hfn : C.prog.funcs[f]? = some fn)
  (witness : ∃ (w : World) (tape : Tape) (i : Input), w.os = os ∧ (w.forCall tape i).Shaped C.prog ∧ i.vars = [] ∧ Input.okWide C.prog (w.forCall tape i) .any w.heap.size f i ∧
   ((s.pre enc C.prog fn conds apart (w.forCall tape i).memory i.args ∧ X (w.forCall tape i).memory i.args) ∧ sizedMet enc C.prog fn (OpenSpec.ofChange s) apart (w.forCall tape i).memory i.args) ∧ a.holds C.prog (lone (Frame.enter C.prog f i.args .normal) [] (w.forCall tape i)))
  (contract : ∀ (W : World) (base : Nat) (args : Array Value) (ds gs : List (DataW H)) (before : List MemPlace),
   (∀ (j : Nat) t v, fn.params[j]? = some t → args[j]? = some v → Value.okWide C.prog W .any base t v) →
   DataW.Whole enc C.prog fn.params.toList s.vars apart W args.toList ds gs before →
   conds.all (PathCond.test C.prog ⟨fn.params.toList, ds, s.plain.varTypes C.prog, gs⟩) = true →
   (DataW.weightsEach C.prog (fn.params.toList ++ s.plain.varTypes C.prog) (ds ++ gs)).all (· ≤ reachBytes) = true → X W args → W.ShapedOpen C.prog →
   Calls C.prog f args W fun e W' => ∃ v, e = .returned v ∧ s.post enc C.prog fn apart fresh handsOn again W args v W') :
  ReturnsInHanded a C os f .any (fun w args => (s.pre enc C.prog fn conds apart w args ∧ X w args) ∧ sizedMet enc C.prog fn (OpenSpec.ofChange s) apart w args) (s.post enc C.prog fn apart fresh handsOn again) := by
 refine returnsInHanded_of_calls own started noInit witness ?_
 intro w tape i _ hsh _ hok hpre _
 obtain ⟨_, _, _, fn', hfn', _, _, _, _, hval⟩ := hok
 have e : fn' = fn := Option.some.inj (hfn'.symm.trans hfn)
 subst e
 obtain ⟨⟨⟨ds, gs, before, hw, hc⟩, hx⟩, hz⟩ := hpre
 have hw' := DataW.Whole.of_heap (w' := w.forCall tape i) (by rfl) hw
 refine (contract (w.forCall tape i) w.heap.size i.args ds gs before hval hw' hc (hz.weights hw) (hX _ _ _ (by rfl) hx) hsh).mono fun e W' ⟨v, he, hp⟩ => ?_
 subst he
 exact ChangeSpec.post_blind hp
end
section
variable {H : Type} {enc : TypeId × Value → H} {P : Program} {w : World} {base : Nat} {spare : Nat → Bool} {held : Bool} {fuel : Nat} {t e : TypeId} {cs : List Value} {x : DataW H × List MemPlace}
theorem i8 {n : Nat} {ks : List Int} (ht : P.underlying t = some (.array n e)) (he : P.underlying e = some (.int .u32)) (hc : P.cellsOf e = 1) (hct : P.cellsOf t = n) (h : DataW.trod enc P w base spare held fuel t cs = some x) (hx : x.1 = .agg (ks.map fun k => .lit (.int .u32 k))) : cs = ks.map (fun k => .int .u32 k) := by
 obtain ⟨xs, m, rfl, rfl, hlen, hxs, hel⟩ := DataW.trod_array ht h
 simp only [DataW.agg.injEq] at hx
 have hl : ks.length = n := by
  have h := congrArg List.length hx
  rw [List.length_map, List.length_map] at h
  omega
 refine List.ext_getElem (by rw [hlen, hct, List.length_map, hl]) fun i h1 h2 => ?_
 have hi : i < n := by rw [← hct, ← hlen]; exact h1
 have hi2 : i < ks.length := by omega
 have h3 := hel i hi
 rw [hc, Nat.mul_one, List.getElem?_eq_getElem (by omega)] at h3
 obtain ⟨k, e1, e2, _⟩ := DataW.trod_int he h3
 rw [List.drop_eq_getElem_cons h1, List.take_succ_cons] at e1
 injection e1 with e1 _
 have h4 : (xs.map (·.1))[i]? = (ks.map fun k => DataW.lit (H := H) (.int .u32 k))[i]? := by rw [hx]
 rw [List.getElem?_map, List.getElem?_map, List.getElem?_eq_getElem (by omega), List.getElem?_eq_getElem hi2, Option.map_some, Option.map_some, e2] at h4
 simp only [Option.some.injEq, DataW.lit.injEq, Lit.int.injEq, true_and] at h4
 rw [e1, List.getElem_map, h4]
end
end Go.PW
namespace Go.Proofs.YtddfkkdanpmnaaaDoor
open Go.RowKit Go.PW
set_option linter.unusedVariables false
set_option linter.unusedSimpArgs false
set_option maxRecDepth 4000
open Go.ChangeShapes Go.WideShapes Go.ChangeAt Go.RowKit Go.PW
theorem ownD : ownKnob Tryd.prog.godebug = none := by kernel_rfl
theorem c7 : laidOutB Tryd.prog = true := by kernel_rfl
def laid1 : List (String × DataW Unit) := [("dialtone/digest.round", Rows.laid_dialtone_digest_round)]
theorem gRound : Tryd.prog.globalNamed "dialtone/digest.round" = some 0 := by kernel_rfl
theorem tRound : (Tryd.prog.globals[0]?).map (·.type) = some 161 := by kernel_rfl
theorem mC : (Rows.laid_dialtone_digest_round : DataW Unit) = .agg ((kOf.map fun k => (k.toNat : Int)).map fun k => .lit (.int .u32 k)) := by kernel_rfl
theorem ly (os : Os) (args : Array Value) : laidMetH Tryd.prog laid1 ((World.doorLaid Tryd.prog 4000 os).forCall (fun _ _ => 0) ⟨#[], args, []⟩).memory :=
 laidMetH_of_parts3 (fuel := 8) (laidMet_of_run' 8 (by kernel_rfl) (by kernel_rfl)) (by kernel_rfl) (by kernel_rfl)
theorem jc (os : Os) (args : Array Value) : ((World.doorLaid Tryd.prog 4000 os).forCall (fun _ _ => 0) ⟨#[], args, []⟩).Shaped Tryd.prog := World.shaped_of_RefB (by kernel_rfl) (by kernel_rfl)
theorem nJ {W : World} (h : laidMetH Tryd.prog laid1 W) (hs : W.ShapedOpen Tryd.prog) : (blk 0 (kOf.map wv) 161).ok W := by
 rw [MakeChecks.laidMetH_plain _ _ _ (by kernel_rfl)] at h
 obtain ⟨ps, ⟨g0, t0, cs0, f0, p0, q0, hg0, ht0, hv0, hd0, _, _⟩, _, _⟩ := h
 obtain rfl := Option.some.inj (gRound.symm.trans hg0)
 obtain rfl := Option.some.inj (tRound.symm.trans ht0)
 obtain ⟨cs, hcs, _, _⟩ := hs.1 0 (List.replicate 64 (.int .u32 0)).toArray 161 (of_decide_eq_true (by kernel_rfl)) (by kernel_rfl)
 have e : cs0 = cs := by
  have := hv0
  simp only [World.var?, gRound, Option.bind_some, hcs, Option.some.injEq] at this
  exact this.symm
 subst e
 have hw := i8 (ks := kOf.map fun k => (k.toNat : Int)) Tryd.underlying161 Tryd.underlying133 (by kernel_rfl) (by kernel_rfl) hd0 mC
 have hl : cs0 = (kOf.map wv).toArray := by
  apply Array.toList_inj.1
  rw [hw, List.map_map]; rfl
 show W.heap[0]? = some (.cells (kOf.map wv).toArray 161)
 rw [← hl]; exact hcs
end Go.Proofs.YtddfkkdanpmnaaaDoor
namespace Go.Proofs.YtddfkkdanpmnaaaDoor
open Go.RowKit Go.PW
set_option linter.unusedVariables false
set_option linter.unusedSimpArgs false
set_option maxRecDepth 4000
open Go.ChangeShapes Go.WideShapes Go.ChangeAt
section
variable {H : Type} {enc : TypeId × Value → H} {W : World} {base b0 : Nat} {sp : Nat → Bool} {hd : Bool} {v : Value} {d : DataW H} {ps : List MemPlace} {r : Reach}
theorem gE {n : Int} (h : Go.PW.i64 n) : i64 n := h
theorem len5 {α : Type} {l : List α} (h : l.length = 5) : ∃ a0 a1 a2 a3 a4, l = [a0, a1, a2, a3, a4] := by
 match l, h with
 | [a0, a1, a2, a3, a4], _ => exact ⟨_, _, _, _, _, rfl⟩
theorem mc {fuel : Nat} {cs : List Value} {x : DataW H × List MemPlace} (hl : cs.length = 5) (hw : Wt Tryd.prog 75 x.1) (h : DataW.trod enc Tryd.prog W base sp hd fuel 75 cs = some x) :
  ∃ (n0 : Int) (n1 : Int) (n2 : Int) (n3 : Int) (n4 : Int), cs = [iv n0, iv n1, iv n2, iv n3, iv n4] ∧ (i64 n0) ∧ (i64 n1) ∧ (i64 n2) ∧ (i64 n3) ∧ (i64 n4) := by
 obtain ⟨zs, hz, he, hy⟩ := gj 5 Tryd.underlying75 Tryd.underlying3 (by kernel_rfl) h hl
 obtain ⟨n0, n1, n2, n3, n4, rfl⟩ := len5 hz
 exact ⟨n0, n1, n2, n3, n4, he, hy n0 (by simp), hy n1 (by simp), hy n2 (by simp), hy n3 (by simp), hy n4 (by simp)⟩
theorem kB {fuel : Nat} {v : Value} {x : DataW H × List MemPlace} (hok : Cell.okWide Tryd.prog W r b0 22 v) (hw : Wt Tryd.prog 22 x.1) (h : DataW.trod enc Tryd.prog W base sp hd fuel 22 [v] = some x) :
  ∃ xs : List Rin, SlAt W v 5 (xs.map Rin.cells) ∧ ∀ a ∈ xs, a.wt := by
 obtain ⟨els, h1, h2⟩ := mO 5 Tryd.underlying22 (by kernel_rfl) (by decide) (of_decide_eq_true (by kernel_rfl)) hok hw h
 exact ng (f := Rin.cells) (q := fun a => a.wt) h1 fun i hi => by
  obtain ⟨n, y, hy, hwy⟩ := h2 i hi
  obtain ⟨n0, n1, n2, n3, n4, he, hf⟩ := mc (h1.1 _ (List.getElem_mem hi)) hwy hy
  exact ⟨⟨n0, n1, n2, n3, n4⟩, he, hf⟩
theorem jz (hval : Value.okWide Tryd.prog W r b0 22 v) (hw : Wt Tryd.prog 22 d) (hd0 : DataW.Trod enc Tryd.prog W base sp hd 22 v d ps) :
  ∃ xs : List Rin, SlAt W v 5 (xs.map Rin.cells) ∧ ∀ a ∈ xs, a.wt := by
 obtain ⟨fuel, hf⟩ := hd0
 have hcs : v.cells.toList = [v] := by
  rcases fA (by rw [Tryd.underlying22]) hval with h
  have : ∃ a n c, v = .slice a n c := by
   unfold Cell.okWide Cell.ok at h
   rw [Tryd.underlying22] at h
   cases v <;> simp_all
  obtain ⟨a, n, c, rfl⟩ := this
  rfl
 rw [hcs] at hf
 exact kB (fA (by rw [Tryd.underlying22]) hval) hw hf
theorem len4 {α : Type} {l : List α} (h : l.length = 4) : ∃ a0 a1 a2 a3, l = [a0, a1, a2, a3] := by
 match l, h with
 | [a0, a1, a2, a3], _ => exact ⟨_, _, _, _, rfl⟩
theorem mg {fuel : Nat} {cs : List Value} {x : DataW H × List MemPlace} (hl : cs.length = 4) (hw : Wt Tryd.prog 37 x.1) (h : DataW.trod enc Tryd.prog W base sp hd fuel 37 cs = some x) :
  ∃ (n0 : Int) (n1 : Int) (n2 : Int) (n3 : Int), cs = [iv n0, iv n1, iv n2, iv n3] ∧ (i64 n0) ∧ (i64 n1) ∧ (i64 n2) ∧ (i64 n3) := by
 obtain ⟨zs, hz, he, hy⟩ := gj 4 Tryd.underlying37 Tryd.underlying3 (by kernel_rfl) h hl
 obtain ⟨n0, n1, n2, n3, rfl⟩ := len4 hz
 exact ⟨n0, n1, n2, n3, he, hy n0 (by simp), hy n1 (by simp), hy n2 (by simp), hy n3 (by simp)⟩
theorem iY (hval : Value.okWide Tryd.prog W r b0 37 v) (hw : Wt Tryd.prog 37 d) (hd0 : DataW.Trod enc Tryd.prog W base sp hd 37 v d ps) :
  ∃ (n0 : Int) (n1 : Int) (n2 : Int) (n3 : Int), v = .agg #[iv n0, iv n1, iv n2, iv n3] ∧ (i64 n0) ∧ (i64 n1) ∧ (i64 n2) ∧ (i64 n3) := by
 obtain ⟨csA, rfl, hsz, hrow⟩ := iF (by kernel_rfl) hval
 obtain ⟨fuel, hf⟩ := hd0
 have hc : Tryd.prog.cellsOf 37 = 4 := by kernel_rfl
 obtain ⟨n0, n1, n2, n3, he, g0, g1, g2, g3⟩ := mg (cs := csA.toList) (by rw [Array.length_toList, hsz, hc]) hw hf
 obtain rfl : csA = #[iv n0, iv n1, iv n2, iv n3] := by
  have he2 : csA.toList = [iv n0, iv n1, iv n2, iv n3] := he
  cases csA; simp only at he2; rw [he2]
 exact ⟨n0, n1, n2, n3, rfl, g0, g1, g2, g3⟩
end
end Go.Proofs.YtddfkkdanpmnaaaDoor
namespace Go.Proofs.YtddfkkdanpmnaaaDoor
open Go.RowKit Go.PW
set_option linter.unusedVariables false
set_option linter.unusedSimpArgs false
set_option maxRecDepth 4000
set_option maxHeartbeats 4000000 in
theorem iX (owner : Int) (xv : Value) (ys : List Rin) (later x0 x1 x2 x3 kind at_ : Int) (w0 : World) (hxv : SlAt w0 xv 5 (ys.map Rin.cells)) (hys : ∀ y ∈ ys, y.wt) (hown : i64 owner) (h_later : i64 later) (h_x0 : i64 x0) (h_x1 : i64 x1) (h_x2 : i64 x2) (h_x3 : i64 x3) (h_kind : i64 kind) (h_at_ : i64 at_) (hk0 : (blk 0 (kOf.map wv) 161).ok w0) :
  Ret Tryd.prog 4 #[iv owner, xv, iv later, .agg #[iv x0, iv x1, iv x2, iv x3], iv kind, iv at_] w0 fun v w => v = .bool true ∧ Ext No w0 w := by
 obtain ⟨o, ho⟩ : ∃ o, pickI owner 100 = o := ⟨_, rfl⟩
 obtain ⟨l, hl⟩ : ∃ l, madeR ys = l := ⟨_, rfl⟩
 have hlo : logOk o l = true := by rw [← ho, ← hl]; exact lD _ _
 have hll : l.length ≤ 12 := by rw [← hl, gi]; omega
 have hob := gb hlo
 have hmt : ∀ x ∈ l, x.t ≤ 360 := by rw [← hl]; exact mw _
 have hwna := hown.1
 have hwnb := hown.2
 have h_later1 := h_later.1
 have h_later2 := h_later.2
 have h_kind1 := h_kind.1
 have h_kind2 := h_kind.2
 have h_at_1 := h_at_.1
 have h_at_2 := h_at_.2
 have hpk := bp kind (n := 3) (by decide)
 have hpa := bp at_ (n := 450) (by decide)
 have hpn := bp later (n := 50) (by decide)
 refine aC Tryd.func4 rfl Tryd.ntmps4 (lb rfl) fun a Z => ?_
 replace Z : Fr 126 [(0, _), (1, _), (2, _), (3, _), (4, _), (5, _)] [] a := Z
 replace Y : St No w0 [] w0 := St.init w0
 refine aa fun K1 hK1 => bl Z Y (by decide) rfl (cs := [iv x0, iv x1, iv x2, iv x3]) rfl ?_
 clear Z Y
 intro a w1 Z Y
 refine wla Z rfl fun a Z => ab (hK1 _ _ <| ag fun K2 hK2 => ?_)
 refine aa fun K3 hK3 => aq Z Y (by decide) Tryd.call9 rfl (mU _ (Y.keepb hk0)) ?_
 clear Z Y
 intro a w2 Z Y
 refine wlv Z ((bq rfl).asb (b' := false) rfl) fun a Z => ab (hK3 _ _ <| aP Z rfl ?_)
 refine au <| hK2 _ _ <| aa fun K4 hK4 => wlm Z rfl fun a Z => wlm Z rfl fun a Z => aW Z Y (by decide) Tryd.call10 rfl (no ho hl (Y.arg hxv) hys hown) ?_
 clear Z Y
 intro a w3 x2 hp Z Y
 revert x2 hp Z Y; rintro lv1 hp Z Y
 clear hp
 replace Y : St No w0 [own lv1 27 5 ((l).map Rec.cells), blk w0.heap.size [iv x0, iv x1, iv x2, iv x3] 37] w3 := Y
 refine aK Z Y (by decide) (Tryd.zeroValue25 _) (cs := [iv 0, .slice none 0 0]) rfl ?_
 clear Z Y
 intro a w4 Z Y
 refine bw (us := [iv o, lv1]) 0 Z Y rfl rfl rfl (Tryd.sizeOf25 _) (by intro z hz; simp only [List.mem_cons, List.not_mem_nil, or_false] at hz; rcases hz with rfl | rfl <;> first | rfl | exact SlAt.one (Y.ownAt (i := 1) rfl)) (lb rfl) (ds := [iv o, lv1]) rfl rfl ?_
 clear Z Y
 intro a w5 Z Y
 refine ab (hK4 _ _ ?_)
 replace Z : Fr 126 [(2, _), (4, _), (5, _), (9, _), (12, _), (13, _)] [] a := Z.pick [2, 4, 5, 9, 12, 13]
 refine aa fun K5 hK5 => wlm Z rfl fun a Z => aq Z Y (by decide) Tryd.call19 rfl (fh later 50 _ (by first | assumption | (unfold i64 at *; omega) | omega) (by omega)) ?_
 clear Z Y
 intro a w6 Z Y
 refine wla Z rfl fun a Z => ab (hK5 _ _ <| ag fun K6 hK6 => ?_)
 refine aa fun K7 hK7 => wlv Z (al (v := .pointer (some ⟨w3.heap.size, 1, none⟩)) rfl (by kernel_rfl)) fun a Z => wlv Z (ah (Y.get (k := 0) rfl) rfl (Tryd.isAgg23 _) rfl) fun a Z => wlv Z ((aG (sT := 23) (Y.ownAt (i := 1) rfl) rfl rfl (Tryd.runUnderlying23 _)).asi (m' := (l.length : Int)) (by rw [List.length_map])) fun a Z => wlv Z (v_gt rfl rfl) fun a Z => ab (hK7 _ _ ?_)
 replace Z : Fr 126 [(4, _), (5, _), (9, _), (12, _), (13, _), (14, _), (32, _)] [] a := Z.pick [4, 5, 9, 12, 13, 14, 32]
 refine mF (fun a w => ∃ (now : Int), (0 ≤ now) ∧ (lastT 0 l ≤ now) ∧ (now ≤ 420) ∧ Fr 126 [(4, iv kind), (5, iv at_), (9, pt w0.heap.size), (12, .bool false), (13, pt w3.heap.size), (14, iv now)] [] a ∧ St No w0 [blk w3.heap.size [iv o, lv1] 25, own lv1 27 5 ((l).map Rec.cells), blk w0.heap.size [iv x0, iv x1, iv x2, iv x3] 37] w) ?_ ?_
 ·refine az Z rfl (fun hc3 => ?_) (fun hc3 => ?_)
  ·rw [hc3] at Z
   try simp only [qz] at hc3
   have hrp := j4 hlo (k := l.length - 1) (by omega)
   have hmt1 := hmt _ (bn (d := Rec.z) (by omega : l.length - 1 < l.length))
   refine ap <| wlm Z rfl fun a Z => wlv Z (al (v := .pointer (some ⟨w3.heap.size, 1, none⟩)) rfl (by kernel_rfl)) fun a Z => wlv Z (ah (Y.get (k := 0) rfl) rfl (Tryd.isAgg23 _) rfl) fun a Z => wlv Z (al (v := .pointer (some ⟨w3.heap.size, 1, none⟩)) rfl (by kernel_rfl)) fun a Z => wlv Z (ah (Y.get (k := 0) rfl) rfl (Tryd.isAgg23 _) rfl) fun a Z => wlv Z ((aG (sT := 23) (Y.ownAt (i := 1) rfl) rfl rfl (Tryd.runUnderlying23 _)).asi (m' := (l.length : Int)) (by rw [List.length_map])) fun a Z => ?_
   refine wlv Z (bd rfl rfl ⟨by omega, by omega⟩) fun a Z => wlv Z ((aj (i := (l.length : Int) - 1) (sT := 23) (Y.ownAt (i := 1) rfl) rfl rfl (Tryd.runUnderlying23 _) (Tryd.sizeOf27 _) (by omega) (by first | (rw [List.length_map]; omega) | simp)).as (v' := slAddr lv1 ((l.length - 1) * 5)) (by rw [show ((l.length : Int) - 1).toNat = (l.length - 1) from by omega])) fun a Z => wlv Z (fa (k := (l.length - 1) * 5) (j := 0) (Y.ownAt (i := 1) rfl) (i := (l.length - 1)) (by first | (rw [List.length_map]; omega) | simp) rfl (fun _ _ => by kernel_rfl)) fun a Z => wlv Z (ax (u := iv ((l.getD (l.length - 1) Rec.z).t)) (i := (l.length - 1)) (j := 0) (Y.ownAt (i := 1) rfl) (by first | (rw [List.length_map]; omega) | simp) rfl (Tryd.isAgg3 _) (by rw [br Rec.z]; rfl)) fun a Z => wlv Z (aV rfl rfl ⟨by omega, by omega⟩) fun a Z => wla Z rfl fun a Z => ab ?_
   exact ⟨((pickI later 50) + ((l.getD (l.length - 1) Rec.z).t)), (by omega), (by rw [jL (by omega)]; omega), (by omega), Z.pick [4, 5, 9, 12, 13, 14], Y.select [0, 1, 2] (by decide)⟩
  rw [hc3] at Z
  try simp only [qz] at hc3
  refine au ?_
  exact ⟨(pickI later 50), (by omega), (by rw [show l = [] from List.eq_nil_of_length_eq_zero (by omega)]; exact hpn.1), (by omega), Z.pick [4, 5, 9, 12, 13, 14], Y.select [0, 1, 2] (by decide)⟩
 rintro a w7 ⟨now, hn0, hnl, hnb, Z, Y⟩
 refine hK6 _ _ ?_
 obtain ⟨r, hr⟩ : ∃ r, entR now x0 x1 x2 x3 = r := ⟨_, rfl⟩
 have hrt : r.t = now := by rw [← hr]; exact nh hn0 (by omega) _ _ _ _
 have hrok : r.ok = true := by rw [← hr]; exact jV _ _ _ _ _
 have hadd : addOk o l r = true := mX hlo (by omega) hrok (by omega)
 obtain ⟨-, hlm⟩ := dJ hadd
 refine aa fun K8 hK8 => wlm Z rfl fun a Z => wlv Z (aw (Y.get (k := 2) rfl) rfl (Tryd.isAgg37 _) (Tryd.sizeOf37 _)) fun a Z => aq Z Y (by decide) Tryd.call15 rfl (m2 hr (by unfold i64; omega) (by assumption) (by assumption) (by assumption) (by assumption)) ?_
 clear Z Y
 intro a w8 Z Y
 refine aK Z Y (by decide) (Tryd.zeroValue27 _) (cs := [iv 0, iv 0, iv 0, iv 0, .string (⟨#[]⟩)]) rfl ?_
 clear Z Y
 intro a w9 Z Y
 refine aF 0 Z Y rfl rfl rfl (Tryd.sizeOf27 _) rfl (lb rfl) (ds := [iv r.t, iv r.kind, iv r.a, iv r.b, sv r.text]) rfl rfl ?_
 clear Z Y
 intro a w10 Z Y
 refine ab (hK8 _ _ <| aa fun K9 hK9 => ?_)
 refine wlv Z (aw (Y.get (k := 1) rfl) rfl (Tryd.isAgg25 _) (Tryd.sizeOf25 _)) fun a Z => wlv Z (aw (Y.get (k := 0) rfl) rfl (Tryd.isAgg27 _) (Tryd.sizeOf27 _)) fun a Z => aW Z Y (by decide) Tryd.call13 rfl (iB o lv1 l r _ (Y.ownAt (i := 2) rfl) (by omega) hadd) ?_
 clear Z Y
 intro a w11 x5 hp Z Y
 revert x5 hp Z Y; rintro mv4 hp Z Y
 clear hp
 replace Y : St No w0 [own mv4 27 5 ((l ++ [r]).map Rec.cells), blk w8.heap.size [iv r.t, iv r.kind, iv r.a, iv r.b, sv r.text] 27, blk w3.heap.size [iv o, lv1] 25, own lv1 27 5 ((l).map Rec.cells), blk w0.heap.size [iv x0, iv x1, iv x2, iv x3] 37] w11 := Y
 refine wlm Z rfl fun a Z => wlv Z (ak rfl rfl) fun a Z => wlv Z (ak rfl rfl) fun a Z => aK Z Y (by decide) (Tryd.zeroValue25 _) (cs := [iv 0, .slice none 0 0]) rfl ?_
 clear Z Y
 intro a w12 Z Y
 refine bw (us := [iv o, mv4]) 0 Z Y rfl rfl rfl (Tryd.sizeOf25 _) (by intro z hz; simp only [List.mem_cons, List.not_mem_nil, or_false] at hz; rcases hz with rfl | rfl <;> first | rfl | exact SlAt.one (Y.ownAt (i := 1) rfl)) (lb rfl) (ds := [iv o, mv4]) rfl rfl ?_
 clear Z Y
 intro a w13 Z Y
 refine wla Z rfl fun a Z => ab (hK9 _ _ ?_)
 replace Z : Fr 126 [(4, _), (5, _), (12, _), (13, _), (15, _), (16, _), (17, _)] [] a := Z.pick [4, 5, 12, 13, 15, 16, 17]
 replace Y : St No w0 [_, _, _, _, _] w13 := Y.mask [true, true, true, true, true, false]
 refine ag fun K10 hK10 => ag fun K11 hK11 => aI (by kernel_rfl) (aL (by kernel_rfl) fun w14 hxz => ?_)
 replace Y := Y.grow hxz
 refine aT (k := 0) 3 [2] (by kernel_rfl) (by kernel_rfl) (by kernel_rfl) ?_
 refine wlm Z rfl fun a Z => wlv Z ((v_ne rfl rfl).asb (b' := false) rfl) fun a Z => wlm Z rfl fun a Z => ab <| aX (k := 3) 10 [5, 9] Z (by kernel_rfl) (by kernel_rfl) (by kernel_rfl) (by rfl) ?_
 replace Z : Fr 126 [(4, _), (5, _), (12, _), (13, _), (15, _), (16, _), (17, _), (53, _), (54, _), (55, _)] [] a := Z.pick [4, 5, 12, 13, 15, 16, 17, 53, 54, 55]
 refine aD [] (fun i => match i with | _ => fun _ _ => False) 7 [[], [0], [1], [], [3], [4], [5]] [.pointer (some ⟨w11.heap.size, 1, none⟩), mv4, iv ((l ++ [r]).length : Int), .pointer (some ⟨w3.heap.size, 1, none⟩), lv1, iv (l.length : Int), iv ((l.length : Int) + 1)] Z Y (by kernel_rfl) (by kernel_rfl) (by kernel_rfl) ?_ ?_ ?_
 ·intro i hi hiq
  match i, hi, hiq with
  | 0, _, _ =>
   intro w Y
   exact OpV.g (al (v := .pointer (some ⟨w11.heap.size, 1, none⟩)) rfl (by kernel_rfl))
  | 1, _, _ =>
   intro w Y
   exact OpV.g (ah (Y.get (k := 0) rfl) rfl (Tryd.isAgg23 _) rfl)
  | 2, _, _ =>
   intro w Y
   exact OpV.g ((aG (sT := 23) (Y.ownAt (i := 1) rfl) rfl rfl (Tryd.runUnderlying23 _)).asi (m' := ((l ++ [r]).length : Int)) (by rw [List.length_map]))
  | 3, _, _ =>
   intro w Y
   exact OpV.g (al (v := .pointer (some ⟨w3.heap.size, 1, none⟩)) rfl (by kernel_rfl))
  | 4, _, _ =>
   intro w Y
   exact OpV.g (ah (Y.get (k := 3) rfl) rfl (Tryd.isAgg23 _) rfl)
  | 5, _, _ =>
   intro w Y
   exact OpV.g ((aG (sT := 23) (Y.ownAt (i := 4) rfl) rfl rfl (Tryd.runUnderlying23 _)).asi (m' := (l.length : Int)) (by rw [List.length_map]))
  | 6, _, _ =>
   intro w Y
   exact OpV.g (aV rfl rfl ⟨by omega, by omega⟩)
 ·intro i hi
  exact absurd hi (by simp)
 clear Z Y
 intro  a w15 Z Y
 replace Z : Fr 126 [(56, .pointer (some ⟨w11.heap.size, 1, none⟩)), (57, mv4), (58, iv ((l ++ [r]).length : Int)), (59, .pointer (some ⟨w3.heap.size, 1, none⟩)), (60, lv1), (61, iv (l.length : Int)), (62, iv ((l.length : Int) + 1)), (4, _), (5, _), (12, _), (13, _), (15, _), (16, _), (17, _), (53, _), (54, _), (55, _)] [] a := Z
 refine ab <| aT (k := 10) 13 [12] (by kernel_rfl) (by kernel_rfl) (by kernel_rfl) ?_
 refine wly Z ((v_ne rfl rfl).asb (b' := false) (by simp)) fun a Z => wlv Z (aA rfl rfl) fun a Z => wlm Z rfl fun a Z => ab <| aX (k := 13) 17 [14, 16] Z (by kernel_rfl) (by kernel_rfl) (by kernel_rfl) (by rfl) ?_
 replace Z : Fr 126 [(4, _), (5, _), (12, _), (13, _), (15, _), (16, _), (17, _), (53, _), (54, _), (55, _), (56, _), (57, _), (58, _), (59, _), (60, _), (61, _), (62, _), (63, _), (64, _), (65, _)] [] a := Z.pick [4, 5, 12, 13, 15, 16, 17, 53, 54, 55, 56, 57, 58, 59, 60, 61, 62, 63, 64, 65]
 refine aD [] (fun i => match i with | _ => fun _ _ => False) 4 [[], [0], [], [2]] [pt w11.heap.size, iv o, pt w3.heap.size, iv o] Z Y (by kernel_rfl) (by kernel_rfl) (by kernel_rfl) ?_ ?_ ?_
 ·intro i hi hiq
  match i, hi, hiq with
  | 0, _, _ =>
   intro w Y
   exact OpV.g (al (v := pt w11.heap.size) rfl (by kernel_rfl))
  | 1, _, _ =>
   intro w Y
   exact OpV.g (ah (Y.get (k := 0) rfl) rfl (Tryd.isAgg3 _) rfl)
  | 2, _, _ =>
   intro w Y
   exact OpV.g (al (v := pt w3.heap.size) rfl (by kernel_rfl))
  | 3, _, _ =>
   intro w Y
   exact OpV.g (ah (Y.get (k := 3) rfl) rfl (Tryd.isAgg3 _) rfl)
 ·intro i hi
  exact absurd hi (by simp)
 clear Z Y
 intro  a w16 Z Y
 replace Z : Fr 126 [(66, pt w11.heap.size), (67, iv o), (68, pt w3.heap.size), (69, iv o), (4, _), (5, _), (12, _), (13, _), (15, _), (16, _), (17, _), (53, _), (54, _), (55, _), (56, _), (57, _), (58, _), (59, _), (60, _), (61, _), (62, _), (63, _), (64, _), (65, _)] [] a := Z
 refine ab <| aT (k := 17) 20 [19] (by kernel_rfl) (by kernel_rfl) (by kernel_rfl) ?_
 refine wly Z ((v_ne rfl rfl).asb (b' := false) (by simp)) fun a Z => wlv Z (aA rfl rfl) fun a Z => wlm Z rfl fun a Z => ab <| aX (k := 20) 28 [25, 27] Z (by kernel_rfl) (by kernel_rfl) (by kernel_rfl) (by rfl) ?_
 replace Z : Fr 126 [(4, _), (5, _), (12, _), (13, _), (15, _), (16, _), (17, _), (53, _), (54, _), (55, _), (56, _), (57, _), (58, _), (59, _), (60, _), (61, _), (62, _), (63, _), (64, _), (65, _), (66, _), (67, _), (68, _), (69, _), (70, _), (71, _), (72, _)] [] a := Z.pick [4, 5, 12, 13, 15, 16, 17, 53, 54, 55, 56, 57, 58, 59, 60, 61, 62, 63, 64, 65, 66, 67, 68, 69, 70, 71, 72]
 refine aD [] (fun i => match i with | _ => fun _ _ => False) 8 [[], [0], [], [2], [3], [1, 4], [], [6]] [.pointer (some ⟨w11.heap.size, 1, none⟩), mv4, .pointer (some ⟨w3.heap.size, 1, none⟩), lv1, iv (l.length : Int), (cut mv4 5 0 l.length (slCap mv4)), .pointer (some ⟨w3.heap.size, 1, none⟩), lv1] Z Y (by kernel_rfl) (by kernel_rfl) (by kernel_rfl) ?_ ?_ ?_
 ·intro i hi hiq
  match i, hi, hiq with
  | 0, _, _ =>
   intro w Y
   exact OpV.g (al (v := .pointer (some ⟨w11.heap.size, 1, none⟩)) rfl (by kernel_rfl))
  | 1, _, _ =>
   intro w Y
   exact OpV.g (ah (Y.get (k := 0) rfl) rfl (Tryd.isAgg23 _) rfl)
  | 2, _, _ =>
   intro w Y
   exact OpV.g (al (v := .pointer (some ⟨w3.heap.size, 1, none⟩)) rfl (by kernel_rfl))
  | 3, _, _ =>
   intro w Y
   exact OpV.g (ah (Y.get (k := 3) rfl) rfl (Tryd.isAgg23 _) rfl)
  | 4, _, _ =>
   intro w Y
   exact OpV.g ((aG (sT := 23) (Y.ownAt (i := 4) rfl) rfl rfl (Tryd.runUnderlying23 _)).asi (m' := (l.length : Int)) (by rw [List.length_map]))
  | 5, _, _ =>
   intro w Y
   exact OpV.g (bF (l := 0) (h := l.length) (Y.ownAt (i := 1) rfl) rfl rfl rfl Tryd.underlying23 (by kernel_rfl) (.inl ⟨rfl, rfl⟩) (.inr rfl) (Nat.zero_le _) (by first | (rw [List.length_map]; omega) | (simp <;> omega)))
  | 6, _, _ =>
   intro w Y
   exact OpV.g (al (v := .pointer (some ⟨w3.heap.size, 1, none⟩)) rfl (by kernel_rfl))
  | 7, _, _ =>
   intro w Y
   exact OpV.g (ah (Y.get (k := 3) rfl) rfl (Tryd.isAgg23 _) rfl)
 ·intro i hi
  exact absurd hi (by simp)
 clear Z Y
 intro  a w17 Z Y
 replace Z : Fr 126 [(73, .pointer (some ⟨w11.heap.size, 1, none⟩)), (74, mv4), (75, .pointer (some ⟨w3.heap.size, 1, none⟩)), (76, lv1), (77, iv (l.length : Int)), (78, (cut mv4 5 0 l.length (slCap mv4))), (79, .pointer (some ⟨w3.heap.size, 1, none⟩)), (80, lv1), (4, _), (5, _), (12, _), (13, _), (15, _), (16, _), (17, _), (53, _), (54, _), (55, _), (56, _), (57, _), (58, _), (59, _), (60, _), (61, _), (62, _), (63, _), (64, _), (65, _), (66, _), (67, _), (68, _), (69, _), (70, _), (71, _), (72, _)] [] a := Z
 refine ab <| aT (k := 28) 32 [31] (by kernel_rfl) (by kernel_rfl) (by kernel_rfl) ?_
 refine aR Z Y (by decide) rfl (by decide) rfl Tryd.call26 rfl (bZ (decide_eq_true (by simp)) (lI (cut mv4 5 0 l.length (slCap mv4)) lv1 ((l ++ [r]).take l.length) l _ ((Y.ownAt (i := 1) rfl).cut0 (h := l.length) (by first | omega | (rw [List.length_reverse]; omega) | simp | (simp; omega))) (Y.ownAt (i := 4) rfl))) ?_
 clear Z Y
 intro a w18 Z Y
 refine wly Z ((bq rfl).asb (b' := false) rfl) fun a Z => wlv Z (aA rfl rfl) fun a Z => wlm Z rfl fun a Z => ab <| aX (k := 32) 40 [38, 39] Z (by kernel_rfl) (by kernel_rfl) (by kernel_rfl) (by rfl) ?_
 replace Z : Fr 126 [(4, _), (5, _), (12, _), (13, _), (15, _), (16, _), (17, _), (53, _), (54, _), (55, _), (56, _), (57, _), (58, _), (59, _), (60, _), (61, _), (62, _), (63, _), (64, _), (65, _), (66, _), (67, _), (68, _), (69, _), (70, _), (71, _), (72, _), (73, _), (74, _), (75, _), (76, _), (77, _), (78, _), (79, _), (80, _), (81, _), (82, _), (83, _), (84, _)] [] a := Z.pick [4, 5, 12, 13, 15, 16, 17, 53, 54, 55, 56, 57, 58, 59, 60, 61, 62, 63, 64, 65, 66, 67, 68, 69, 70, 71, 72, 73, 74, 75, 76, 77, 78, 79, 80, 81, 82, 83, 84]
 refine aD [] (fun i => match i with | _ => fun _ _ => False) 8 [[], [0], [], [2], [3], [1, 4], [5], []] [.pointer (some ⟨w11.heap.size, 1, none⟩), mv4, .pointer (some ⟨w3.heap.size, 1, none⟩), lv1, iv (l.length : Int), slAddr mv4 (l.length * 5), .agg #[iv (((l ++ [r]).getD l.length Rec.z).t), iv (((l ++ [r]).getD l.length Rec.z).kind), iv (((l ++ [r]).getD l.length Rec.z).a), iv (((l ++ [r]).getD l.length Rec.z).b), sv (((l ++ [r]).getD l.length Rec.z).text)], .agg #[iv r.t, iv r.kind, iv r.a, iv r.b, sv r.text]] Z Y (by kernel_rfl) (by kernel_rfl) (by kernel_rfl) ?_ ?_ ?_
 ·intro i hi hiq
  match i, hi, hiq with
  | 0, _, _ =>
   intro w Y
   exact OpV.g (al (v := .pointer (some ⟨w11.heap.size, 1, none⟩)) rfl (by kernel_rfl))
  | 1, _, _ =>
   intro w Y
   exact OpV.g (ah (Y.get (k := 0) rfl) rfl (Tryd.isAgg23 _) rfl)
  | 2, _, _ =>
   intro w Y
   exact OpV.g (al (v := .pointer (some ⟨w3.heap.size, 1, none⟩)) rfl (by kernel_rfl))
  | 3, _, _ =>
   intro w Y
   exact OpV.g (ah (Y.get (k := 3) rfl) rfl (Tryd.isAgg23 _) rfl)
  | 4, _, _ =>
   intro w Y
   exact OpV.g ((aG (sT := 23) (Y.ownAt (i := 4) rfl) rfl rfl (Tryd.runUnderlying23 _)).asi (m' := (l.length : Int)) (by rw [List.length_map]))
  | 5, _, _ =>
   intro w Y
   exact OpV.g ((aj (i := (l.length : Int)) (sT := 23) (Y.ownAt (i := 1) rfl) rfl rfl (Tryd.runUnderlying23 _) (Tryd.sizeOf27 _) (by omega) (by first | (rw [List.length_map]; omega) | simp)).as (v' := slAddr mv4 (l.length * 5)) (by rw [show ((l.length : Int)).toNat = l.length from by omega]))
  | 6, _, _ =>
   intro w Y
   exact OpV.g ((bP (Y.ownAt (i := 1) rfl) (i := l.length) (by first | (rw [List.length_map]; omega) | simp) rfl (Tryd.isAgg27 _) (Tryd.sizeOf27 _)).as (v' := .agg #[iv (((l ++ [r]).getD l.length Rec.z).t), iv (((l ++ [r]).getD l.length Rec.z).kind), iv (((l ++ [r]).getD l.length Rec.z).a), iv (((l ++ [r]).getD l.length Rec.z).b), sv (((l ++ [r]).getD l.length Rec.z).text)]) (by rw [br Rec.z]; rfl))
  | 7, _, _ =>
   intro w Y
   exact OpV.g (aw (Y.get (k := 2) rfl) rfl (Tryd.isAgg27 _) (Tryd.sizeOf27 _))
 ·intro i hi
  exact absurd hi (by simp)
 clear Z Y
 intro  a w19 Z Y
 replace Z : Fr 126 [(85, .pointer (some ⟨w11.heap.size, 1, none⟩)), (86, mv4), (87, .pointer (some ⟨w3.heap.size, 1, none⟩)), (88, lv1), (89, iv (l.length : Int)), (90, slAddr mv4 (l.length * 5)), (91, .agg #[iv (((l ++ [r]).getD l.length Rec.z).t), iv (((l ++ [r]).getD l.length Rec.z).kind), iv (((l ++ [r]).getD l.length Rec.z).a), iv (((l ++ [r]).getD l.length Rec.z).b), sv (((l ++ [r]).getD l.length Rec.z).text)]), (92, .agg #[iv r.t, iv r.kind, iv r.a, iv r.b, sv r.text]), (4, _), (5, _), (12, _), (13, _), (15, _), (16, _), (17, _), (53, _), (54, _), (55, _), (56, _), (57, _), (58, _), (59, _), (60, _), (61, _), (62, _), (63, _), (64, _), (65, _), (66, _), (67, _), (68, _), (69, _), (70, _), (71, _), (72, _), (73, _), (74, _), (75, _), (76, _), (77, _), (78, _), (79, _), (80, _), (81, _), (82, _), (83, _), (84, _)] [] a := Z
 refine ab <| aT (k := 40) 42 [41] (by kernel_rfl) (by kernel_rfl) (by kernel_rfl) ?_
 refine wly Z ((g6 rfl rfl (by kernel_rfl) (eqRec (((l ++ [r]).getD l.length Rec.z).t) (((l ++ [r]).getD l.length Rec.z).kind) (((l ++ [r]).getD l.length Rec.z).a) (((l ++ [r]).getD l.length Rec.z).b) (((l ++ [r]).getD l.length Rec.z).text) r.t r.kind r.a r.b r.text _)).asb (b' := false) (by simp)) fun a Z => wlv Z (aA rfl rfl) fun a Z => ab <| ba (by kernel_rfl) ?_
 refine hK11 _ _ ?_
 replace Z : Fr 126 [(4, _), (5, _), (12, _), (13, _), (15, _), (16, _), (94, _)] [] a := Z.pick [4, 5, 12, 13, 15, 16, 94]
 refine aP Z rfl ?_
 refine au <| hK10 _ _ <| aa fun K12 hK12 => wlm Z rfl fun a Z => aq Z Y (by decide) Tryd.call19 rfl (fh kind 3 _ (by first | assumption | (unfold i64 at *; omega) | omega) (by omega)) ?_
 clear Z Y
 intro a w20 Z Y
 refine wlv Z (aV rfl rfl ⟨by omega, by omega⟩) fun a Z => wla Z rfl fun a Z => ab (hK12 _ _ <| aa fun K13 hK13 => ?_)
 refine wlm Z rfl fun a Z => aq Z Y (by decide) Tryd.call19 rfl (fh at_ 450 _ (by first | assumption | (unfold i64 at *; omega) | omega) (by omega)) ?_
 clear Z Y
 intro a w21 Z Y
 refine wla Z rfl fun a Z => ab (hK13 _ _ ?_)
 replace Z : Fr 126 [(12, _), (13, _), (15, _), (16, _), (18, _), (19, _)] [] a := Z.pick [12, 13, 15, 16, 18, 19]
 refine aa fun K14 hK14 => wlv Z (aw (Y.get (k := 3) rfl) rfl (Tryd.isAgg25 _) (Tryd.sizeOf25 _)) fun a Z => wlm Z rfl fun a Z => wlm Z rfl fun a Z => aq Z Y (by decide) Tryd.call20 rfl (em o lv1 l (1 + (pickI kind 3)) (pickI at_ 450) _ (Y.ownAt (i := 4) rfl)) ?_
 clear Z Y
 intro a w22 Z Y
 refine wla Z rfl fun a Z => ab (hK14 _ _ <| aa fun K15 hK15 => ?_)
 refine wlv Z (aw (Y.get (k := 0) rfl) rfl (Tryd.isAgg25 _) (Tryd.sizeOf25 _)) fun a Z => wlm Z rfl fun a Z => wlm Z rfl fun a Z => aq Z Y (by decide) Tryd.call20 rfl (em o mv4 (l ++ [r]) (1 + (pickI kind 3)) (pickI at_ 450) _ (Y.ownAt (i := 1) rfl)) ?_
 clear Z Y
 intro a w23 Z Y
 refine wla Z rfl fun a Z => ab (hK15 _ _ ?_)
 replace Z : Fr 126 [(12, _), (13, _), (15, _), (18, _), (19, _), (20, _), (21, _)] [] a := Z.pick [12, 13, 15, 18, 19, 20, 21]
 replace Y : St No w0 [_, _, _, _] w23 := Y.mask [false, true, true, true, true]
 refine ag fun K16 hK16 => aa fun K17 hK17 => wlm Z rfl fun a Z => wlv Z (al (v := pt w8.heap.size) rfl (by kernel_rfl)) fun a Z => wlv Z (ah (Y.get (k := 1) rfl) rfl (Tryd.isAgg3 _) rfl) fun a Z => wlv Z (v_lt rfl rfl) fun a Z => wlm Z rfl fun a Z => ?_
 rcases Bool.eq_false_or_eq_true (decide (pickI at_ 450 < r.t)) with hb6 | hb6
 ·rw [hb6] at Z
  try simp only [qz] at hb6
  refine wln Z fun a Z => wln Z fun a Z => wln Z fun a Z => wln Z fun a Z => wlv Z (aB rfl rfl) fun a Z => ab (hK17 _ _ ?_)
  replace Z : Fr 126 [(12, _), (13, _), (20, _), (21, _), (117, _)] [] a := Z.pick [12, 13, 20, 21, 117]
  replace Y : St No w0 [_, _] w23 := Y.mask [false, false, true, true]
  refine aM Z rfl ?_
  refine aa fun K18 hK18 => wlm Z rfl fun a Z => wlm Z rfl fun a Z => wlv Z (v_eq rfl rfl) fun a Z => wla Z rfl fun a Z => ab (hK18 _ _ <| ar ?_)
  refine am Z Tryd.results4 (ac rfl ae) ?_
  exact ⟨by simp only [retv]; congr 1; exact decide_eq_true (by rw [fB hadd]; first | rw [if_neg (by omega)] | rw [if_pos (by omega)]), Y.ext⟩
 rw [hb6] at Z
 try simp only [qz] at hb6
 refine wly Z (ai rfl) fun a Z => wly Z (al (v := .pointer (some ⟨w8.heap.size, 1, none⟩)) rfl (by kernel_rfl)) fun a Z => wly Z (ah (Y.get (k := 1) rfl) rfl (Tryd.isAgg3 _) rfl) fun a Z => wly Z (v_ne rfl rfl) fun a Z => wlv Z (aA rfl rfl) fun a Z => ab (hK17 _ _ ?_)
 replace Z : Fr 126 [(12, _), (13, _), (20, _), (21, _), (117, _)] [] a := Z.pick [12, 13, 20, 21, 117]
 replace Y : St No w0 [_, _] w23 := Y.mask [false, false, true, true]
 refine az Z rfl (fun hc7 => ?_) (fun hc7 => ?_)
 ·rw [hc7] at Z
  try simp only [qz] at hc7
  refine aa fun K19 hK19 => wlm Z rfl fun a Z => wlm Z rfl fun a Z => wlv Z (v_eq rfl rfl) fun a Z => wla Z rfl fun a Z => ab (hK19 _ _ <| ar ?_)
  refine am Z Tryd.results4 (ac rfl ae) ?_
  exact ⟨by simp only [retv]; congr 1; exact decide_eq_true (by rw [fB hadd]; first | rw [if_neg (by omega)] | rw [if_pos (by omega)]), Y.ext⟩
 rw [hc7] at Z
 try simp only [qz] at hc7
 refine au <| hK16 _ _ <| aa fun K20 hK20 => wlm Z rfl fun a Z => wlv Z (al (v := .pointer (some ⟨w3.heap.size, 1, none⟩)) rfl (by kernel_rfl)) fun a Z => wlv Z (ah (Y.get (k := 0) rfl) rfl (Tryd.isAgg23 _) rfl) fun a Z => wlv Z ((aG (sT := 23) (Y.ownAt (i := 1) rfl) rfl rfl (Tryd.runUnderlying23 _)).asi (m' := (l.length : Int)) (by rw [List.length_map])) fun a Z => ?_
 refine wlv Z (v_eq rfl rfl) fun a Z => wla Z rfl fun a Z => ab (hK20 _ _ ?_)
 replace Z : Fr 126 [(12, _)] [] a := Z.pick [12]
 replace Y : St No w0 [_] w23 := Y.mask [false, true]
 refine ar ?_
 refine am Z Tryd.results4 (ac rfl ae) ?_
 exact ⟨by simp only [retv]; congr 1; exact decide_eq_true (by rw [fB hadd]; first | rw [if_neg (by omega)] | rw [if_pos (by omega)]), Y.ext⟩
end Go.Proofs.YtddfkkdanpmnaaaDoor
