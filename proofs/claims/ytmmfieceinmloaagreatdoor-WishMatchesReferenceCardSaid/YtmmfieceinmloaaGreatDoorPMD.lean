/- Texts joined: BldA, BldB, WshE, WshF, WshG, WshH, WshI, WshJ, WshR, WshK, Rdr, WshL. -/
import Derived.Test.YtmmfieceinmloaaGreatDoorPMC
import Derived.Test.YtmmfieceinmloaaGreatDoorPMB
import Derived.Test.YtmmfieceinmloaaGreatDoorPMA
namespace Go.Proofs.YtmmfieceinmloaaGreatDoor
open Go.RowKit Go.PW
set_option linter.unusedVariables false
set_option linter.unusedSimpArgs false
set_option maxRecDepth 4000
def bld (T : TypeId) (b : Nat) (ad v : Value) (bs : By) : Ent := join [blk b [ad, v] T, own v 5 1 ((bs).map fun b => [yv b])]
theorem ej {M : Nat → Prop} {w0 w : World} {T : TypeId} {b : Nat} {ad v : Value} {bs : By} {H : List Ent} (h : St M w0 (bld T b ad v bs :: H) w) : St M w0 ([blk b [ad, v] T, own v 5 1 ((bs).map fun b => [yv b])] ++ H) w := St.unjoin _ _ h
theorem fG (T : TypeId) (b : Nat) (v : Value) (w0 : World) (hlie : liesAt Tryz.prog Tryz.prog.depth T (2 / Tryz.prog.cellsOf T) 0 131 1 = true) (hb : (blk b [.pointer none, v] T).ok w0) :
  Ret Tryz.prog 126 #[pt b] w0 fun u w => u = .tuple #[] ∧ Ext (· = b) w0 w ∧ (blk b [pt b, v] T).ok w := by
 refine aF Tryz.func126 rfl Tryz.ntmps126 (lb rfl) fun a Z => ?_
 replace Z : Fr 20 [(0, _)] [] a := Z
 replace Y : St (· = b) w0 [blk b [.pointer none, v] T] w0 := St.one hb
 refine aa fun K1 hK1 => wlm Z rfl fun a Z => wlv Z (aH rfl) fun a Z => wlv Z (ac (v := pt b) rfl (by kernel_rfl)) fun a Z => wlv Z (ae (Y.get (k := 0) rfl) rfl (Tryz.isAgg129 _) rfl) fun a Z => wlv Z (qh rfl rfl Tryz.underlying129) fun a Z => ab (hK1 _ _ ?_)
 refine aL Z rfl ?_
 refine am <| wlm Z rfl fun a Z => wlm Z rfl fun a Z => wlv Z (kR (j := Tryz.t131) (Y.get (k := 0) rfl) rfl Tryz.underlying129 Tryz.underlying216 rfl rfl (by simp)) fun a Z => wlv Z (kL Tryz.func147 (by kernel_rfl) (by kernel_rfl) (by kernel_rfl) (by kernel_rfl) rfl) fun a Z => wlv Z (jh (j := Tryz.t131) (Y.get (k := 0) rfl) rfl Tryz.underlying216 Tryz.underlying129 rfl hlie) fun a Z => wlv Z (aH rfl) fun a Z => wlv Z (ac (v := pt b) rfl (by kernel_rfl)) fun a Z => ?_
 refine ap 0 Z Y rfl rfl rfl (Tryz.sizeOf129 _) rfl (lb rfl) (ds := [pt b, v]) rfl rfl ?_
 clear Z Y
 intro a w2 Z Y
 refine ab ?_
 refine cA Z Tryz.results126 ag ?_
 exact ⟨rfl, Y.ext, Y.get (k := 0) rfl⟩
theorem gO (T : TypeId) (b : Nat) (v : Value) (w0 : World) (hlie : liesAt Tryz.prog Tryz.prog.depth T (2 / Tryz.prog.cellsOf T) 0 131 1 = true) (hb : (blk b [pt b, v] T).ok w0) :
  Ret Tryz.prog 126 #[pt b] w0 fun u w => u = .tuple #[] ∧ Ext (· = b) w0 w ∧ (blk b [pt b, v] T).ok w := by
 refine aF Tryz.func126 rfl Tryz.ntmps126 (lb rfl) fun a Z => ?_
 replace Z : Fr 20 [(0, _)] [] a := Z
 replace Y : St (· = b) w0 [blk b [pt b, v] T] w0 := St.one hb
 refine aa fun K1 hK1 => wlm Z rfl fun a Z => wlv Z (aH rfl) fun a Z => wlv Z (ac (v := pt b) rfl (by kernel_rfl)) fun a Z => wlv Z (ae (Y.get (k := 0) rfl) rfl (Tryz.isAgg129 _) rfl) fun a Z => wlv Z (oh rfl rfl Tryz.underlying129) fun a Z => ab (hK1 _ _ ?_)
 refine bE Z rfl ?_
 refine aa fun K2 hK2 => wlm Z rfl fun a Z => wlv Z (aH rfl) fun a Z => wlv Z (ac (v := pt b) rfl (by kernel_rfl)) fun a Z => wlv Z (ae (Y.get (k := 0) rfl) rfl (Tryz.isAgg129 _) rfl) fun a Z => wlm Z rfl fun a Z => wlv Z (oG (j := Tryz.t131) rfl rfl Tryz.underlying129 rfl) fun a Z => ab (hK2 _ _ ?_)
 replace Z : Fr 20 [(19, _)] [] a := Z.pick [19]
 refine bE Z rfl ?_
 refine ax ?_
 refine cA Z Tryz.results126 ag ?_
 exact ⟨rfl, Y.ext, Y.get (k := 0) rfl⟩
theorem kA {M : Nat → Prop} {w0 : World} (T : TypeId) (b : Nat) (v : Value) (bs : By) (s : By) (ws : World) (hlie : liesAt Tryz.prog Tryz.prog.depth T (2 / Tryz.prog.cellsOf T) 0 131 1 = true) (hne : s ≠ []) (hbn : bs.length + s.length ≤ 1000000000) (Y : St M w0 [bld T b (.pointer none) v bs] ws) :
  Ret Tryz.prog 78 #[pt b, sv s] ws fun u w => u = .tuple #[iv (s.length : Int), .nilIface] ∧ ∃ v2, St M w0 [bld T b (pt b) v2 (bs ++ s)] w := by
 refine aF Tryz.func78 rfl Tryz.ntmps78 (lb rfl) fun a Z => ?_
 replace Z : Fr 19 [(0, _), (1, _)] [] a := Z
 replace Y : St M w0 [blk b [.pointer none, v] T, own v 5 1 ((bs).map fun b => [yv b])] ws := ej Y
 refine aa fun K1 hK1 => wla Z rfl fun a Z => wla Z rfl fun a Z => ab (hK1 _ _ ?_)
 refine aa fun K2 hK2 => wlm Z rfl fun a Z => dY 0 Z Y (by decide) Tryz.call126 rfl rfl (fG T b _ _ hlie (Y.get (k := 0) rfl)) rfl ?_
 clear Z Y
 intro a w1 Z Y
 refine ab (hK2 _ _ ?_)
 refine aa fun K3 hK3 => wlm Z rfl fun a Z => wlm Z rfl fun a Z => wlv Z (aH rfl) fun a Z => wlv Z (ac (v := .pointer (some ⟨b, 1, none⟩)) rfl (by kernel_rfl)) fun a Z => wlv Z (ae (Y.get (k := 0) rfl) rfl (Tryz.isAgg62 _) rfl) fun a Z => wlm Z rfl fun a Z => ey (i := 1) (sT := 62) (uT := 9) (inf := Tryz.t5) (bs := bs) (s := s) rfl rfl rfl hne Tryz.underlying62 Tryz.underlying9 rfl rfl rfl rfl (by omega) (by decide) Z Y ?_
 clear Z Y
 intro a w2 s1 Z Y
 refine wlv Z (aH rfl) fun a Z => wlv Z (ac (v := .pointer (some ⟨b, 1, none⟩)) rfl (by kernel_rfl)) fun a Z => cw 0 Z Y (Y.ownAt (i := 1) rfl) rfl rfl rfl (Tryz.sizeOf62 _) (lb rfl) (ds := [pt b, s1]) rfl rfl ?_
 clear Z Y
 intro a w3 Z Y
 refine ab (hK3 _ _ ?_)
 replace Z : Fr 19 [(1, _), (4, _), (5, _)] [] a := Z.pick [1, 4, 5]
 refine aa fun K4 hK4 => wlm Z rfl fun a Z => wlv Z (bD rfl rfl (Tryz.runUnderlying9 _)) fun a Z => wla Z rfl fun a Z => wla Z rfl fun a Z => ab (hK4 _ _ ?_)
 refine aw ?_
 refine ao Z Tryz.results78 (ah rfl (ah rfl ag)) ?_
 replace Y : St M w0 [blk b [pt b, s1] T, own s1 5 1 ((bs ++ s).map fun b => [yv b])] _ := Y.select [0, 1] (by decide)
 exact ⟨rfl, s1, St.join [blk b [pt b, s1] T, own s1 5 1 ((bs ++ s).map fun b => [yv b])] [] Y⟩
theorem kf {M : Nat → Prop} {w0 : World} (T : TypeId) (b : Nat) (v : Value) (bs : By) (z : UInt8) (ws : World) (hlie : liesAt Tryz.prog Tryz.prog.depth T (2 / Tryz.prog.cellsOf T) 0 131 1 = true) (hbn : bs.length + 1 ≤ 1000000000) (Y : St M w0 [bld T b (.pointer none) v bs] ws) :
  Ret Tryz.prog 88 #[pt b, yv z] ws fun u w => u = .nilIface ∧ ∃ v2, St M w0 [bld T b (pt b) v2 (bs ++ [z])] w := by
 refine aF Tryz.func88 rfl Tryz.ntmps88 (lb rfl) fun a Z => ?_
 replace Z : Fr 17 [(0, _), (1, _)] [] a := Z
 replace Y : St M w0 [blk b [.pointer none, v] T, own v 5 1 ((bs).map fun b => [yv b])] ws := ej Y
 refine aa fun K1 hK1 => wla Z rfl fun a Z => ab (hK1 _ _ ?_)
 refine aa fun K2 hK2 => wlm Z rfl fun a Z => dY 0 Z Y (by decide) Tryz.call126 rfl rfl (fG T b _ _ hlie (Y.get (k := 0) rfl)) rfl ?_
 clear Z Y
 intro a w1 Z Y
 refine ab (hK2 _ _ ?_)
 refine aa fun K3 hK3 => wlm Z rfl fun a Z => wlm Z rfl fun a Z => wlv Z (aH rfl) fun a Z => wlv Z (ac (v := .pointer (some ⟨b, 1, none⟩)) rfl (by kernel_rfl)) fun a Z => wlv Z (ae (Y.get (k := 0) rfl) rfl (Tryz.isAgg62 _) rfl) fun a Z => wlm Z rfl fun a Z => aG (E := 5) (sz := 1) rfl [[yv z]] (by kernel_rfl) (by simp) rfl (by decide) (by decide) Z Y ?_
 clear Z Y
 intro a w2 Z Y
 refine bF (i := 2) (sT := 62) (inf := Tryz.t5) (z := yv (0 : UInt8)) (b := 0) (off := 0) (m := 0) (c := 0) rfl rfl rfl (Y.ownAt (i := 0) rfl) (by simp) Tryz.underlying62 rfl rfl rfl rfl (by decide) (by simp [Value.oneCell', yv, wv, sv]) (by have hby : Tryz.t5.bytes = 1 := rfl; simp [big, hby] <;> omega) (by have hby : Tryz.t5.bytes = 1 := rfl; simp [big, hby] <;> omega) (by decide) Z Y fun a w3 s1 Z Y _ => ?_
 rw [show ((bs).map fun b => [yv b]) ++ ([[yv z]]) = ((bs ++ [z]).map fun b => [yv b]) from by simp] at Y
 refine wlv Z (aH rfl) fun a Z => wlv Z (ac (v := .pointer (some ⟨b, 1, none⟩)) rfl (by kernel_rfl)) fun a Z => cw 1 Z Y (Y.ownAt (i := 2) rfl) rfl rfl rfl (Tryz.sizeOf62 _) (lb rfl) (ds := [pt b, s1]) rfl rfl ?_
 clear Z Y
 intro a w4 Z Y
 refine ab (hK3 _ _ ?_)
 replace Z : Fr 17 [(4, _)] [] a := Z.pick [4]
 replace Y : St M w0 [_, _] w4 := Y.mask [false, true, true]
 refine aa fun K4 hK4 => wla Z rfl fun a Z => ab (hK4 _ _ ?_)
 refine aw ?_
 refine ao Z Tryz.results88 (ah rfl ag) ?_
 replace Y : St M w0 [blk b [pt b, s1] T, own s1 5 1 ((bs ++ [z]).map fun b => [yv b])] _ := Y.select [0, 1] (by decide)
 exact ⟨rfl, s1, St.join [blk b [pt b, s1] T, own s1 5 1 ((bs ++ [z]).map fun b => [yv b])] [] Y⟩
theorem mW {M : Nat → Prop} {w0 : World} (T : TypeId) (b : Nat) (v : Value) (bs : By) (s : By) (ws : World) (hlie : liesAt Tryz.prog Tryz.prog.depth T (2 / Tryz.prog.cellsOf T) 0 131 1 = true) (hne : s ≠ []) (hbn : bs.length + s.length ≤ 1000000000) (Y : St M w0 [bld T b (pt b) v bs] ws) :
  Ret Tryz.prog 78 #[pt b, sv s] ws fun u w => u = .tuple #[iv (s.length : Int), .nilIface] ∧ ∃ v2, St M w0 [bld T b (pt b) v2 (bs ++ s)] w := by
 refine aF Tryz.func78 rfl Tryz.ntmps78 (lb rfl) fun a Z => ?_
 replace Z : Fr 19 [(0, _), (1, _)] [] a := Z
 replace Y : St M w0 [blk b [pt b, v] T, own v 5 1 ((bs).map fun b => [yv b])] ws := ej Y
 refine aa fun K1 hK1 => wla Z rfl fun a Z => wla Z rfl fun a Z => ab (hK1 _ _ ?_)
 refine aa fun K2 hK2 => wlm Z rfl fun a Z => dY 0 Z Y (by decide) Tryz.call126 rfl rfl (gO T b _ _ hlie (Y.get (k := 0) rfl)) rfl ?_
 clear Z Y
 intro a w1 Z Y
 refine ab (hK2 _ _ ?_)
 refine aa fun K3 hK3 => wlm Z rfl fun a Z => wlm Z rfl fun a Z => wlv Z (aH rfl) fun a Z => wlv Z (ac (v := .pointer (some ⟨b, 1, none⟩)) rfl (by kernel_rfl)) fun a Z => wlv Z (ae (Y.get (k := 0) rfl) rfl (Tryz.isAgg62 _) rfl) fun a Z => wlm Z rfl fun a Z => ey (i := 1) (sT := 62) (uT := 9) (inf := Tryz.t5) (bs := bs) (s := s) rfl rfl rfl hne Tryz.underlying62 Tryz.underlying9 rfl rfl rfl rfl (by omega) (by decide) Z Y ?_
 clear Z Y
 intro a w2 s1 Z Y
 refine wlv Z (aH rfl) fun a Z => wlv Z (ac (v := .pointer (some ⟨b, 1, none⟩)) rfl (by kernel_rfl)) fun a Z => cw 0 Z Y (Y.ownAt (i := 1) rfl) rfl rfl rfl (Tryz.sizeOf62 _) (lb rfl) (ds := [pt b, s1]) rfl rfl ?_
 clear Z Y
 intro a w3 Z Y
 refine ab (hK3 _ _ ?_)
 replace Z : Fr 19 [(1, _), (4, _), (5, _)] [] a := Z.pick [1, 4, 5]
 refine aa fun K4 hK4 => wlm Z rfl fun a Z => wlv Z (bD rfl rfl (Tryz.runUnderlying9 _)) fun a Z => wla Z rfl fun a Z => wla Z rfl fun a Z => ab (hK4 _ _ ?_)
 refine aw ?_
 refine ao Z Tryz.results78 (ah rfl (ah rfl ag)) ?_
 replace Y : St M w0 [blk b [pt b, s1] T, own s1 5 1 ((bs ++ s).map fun b => [yv b])] _ := Y.select [0, 1] (by decide)
 exact ⟨rfl, s1, St.join [blk b [pt b, s1] T, own s1 5 1 ((bs ++ s).map fun b => [yv b])] [] Y⟩
theorem la {M : Nat → Prop} {w0 : World} (T : TypeId) (b : Nat) (v : Value) (bs : By) (z : UInt8) (ws : World) (hlie : liesAt Tryz.prog Tryz.prog.depth T (2 / Tryz.prog.cellsOf T) 0 131 1 = true) (hbn : bs.length + 1 ≤ 1000000000) (Y : St M w0 [bld T b (pt b) v bs] ws) :
  Ret Tryz.prog 88 #[pt b, yv z] ws fun u w => u = .nilIface ∧ ∃ v2, St M w0 [bld T b (pt b) v2 (bs ++ [z])] w := by
 refine aF Tryz.func88 rfl Tryz.ntmps88 (lb rfl) fun a Z => ?_
 replace Z : Fr 17 [(0, _), (1, _)] [] a := Z
 replace Y : St M w0 [blk b [pt b, v] T, own v 5 1 ((bs).map fun b => [yv b])] ws := ej Y
 refine aa fun K1 hK1 => wla Z rfl fun a Z => ab (hK1 _ _ ?_)
 refine aa fun K2 hK2 => wlm Z rfl fun a Z => dY 0 Z Y (by decide) Tryz.call126 rfl rfl (gO T b _ _ hlie (Y.get (k := 0) rfl)) rfl ?_
 clear Z Y
 intro a w1 Z Y
 refine ab (hK2 _ _ ?_)
 refine aa fun K3 hK3 => wlm Z rfl fun a Z => wlm Z rfl fun a Z => wlv Z (aH rfl) fun a Z => wlv Z (ac (v := .pointer (some ⟨b, 1, none⟩)) rfl (by kernel_rfl)) fun a Z => wlv Z (ae (Y.get (k := 0) rfl) rfl (Tryz.isAgg62 _) rfl) fun a Z => wlm Z rfl fun a Z => aG (E := 5) (sz := 1) rfl [[yv z]] (by kernel_rfl) (by simp) rfl (by decide) (by decide) Z Y ?_
 clear Z Y
 intro a w2 Z Y
 refine bF (i := 2) (sT := 62) (inf := Tryz.t5) (z := yv (0 : UInt8)) (b := 0) (off := 0) (m := 0) (c := 0) rfl rfl rfl (Y.ownAt (i := 0) rfl) (by simp) Tryz.underlying62 rfl rfl rfl rfl (by decide) (by simp [Value.oneCell', yv, wv, sv]) (by have hby : Tryz.t5.bytes = 1 := rfl; simp [big, hby] <;> omega) (by have hby : Tryz.t5.bytes = 1 := rfl; simp [big, hby] <;> omega) (by decide) Z Y fun a w3 s1 Z Y _ => ?_
 rw [show ((bs).map fun b => [yv b]) ++ ([[yv z]]) = ((bs ++ [z]).map fun b => [yv b]) from by simp] at Y
 refine wlv Z (aH rfl) fun a Z => wlv Z (ac (v := .pointer (some ⟨b, 1, none⟩)) rfl (by kernel_rfl)) fun a Z => cw 1 Z Y (Y.ownAt (i := 2) rfl) rfl rfl rfl (Tryz.sizeOf62 _) (lb rfl) (ds := [pt b, s1]) rfl rfl ?_
 clear Z Y
 intro a w4 Z Y
 refine ab (hK3 _ _ ?_)
 replace Z : Fr 17 [(4, _)] [] a := Z.pick [4]
 replace Y : St M w0 [_, _] w4 := Y.mask [false, true, true]
 refine aa fun K4 hK4 => wla Z rfl fun a Z => ab (hK4 _ _ ?_)
 refine aw ?_
 refine ao Z Tryz.results88 (ah rfl ag) ?_
 replace Y : St M w0 [blk b [pt b, s1] T, own s1 5 1 ((bs ++ [z]).map fun b => [yv b])] _ := Y.select [0, 1] (by decide)
 exact ⟨rfl, s1, St.join [blk b [pt b, s1] T, own s1 5 1 ((bs ++ [z]).map fun b => [yv b])] [] Y⟩
theorem po {w : World} {E : TypeId} {v : Value} {bs : By} (h : (own v E 1 ((bs).map fun b => [yv b])).ok w) (hne : bs ≠ []) : ∃ g cap, v = .slice (some ⟨g, 0, none⟩) bs.length cap ∧ cap ≠ 0 := by
 obtain ⟨h1, h2, h3, h4⟩ := h
 have hn : bs.length ≠ 0 := by simpa using hne
 rcases h4 with ⟨_, h0⟩ | ⟨g, cap, cur, fz, hv, _, _, hnc, _⟩
 ·rw [List.length_map] at h0; exact absurd h0 hn
 ·rw [List.length_map] at hv hnc; exact ⟨g, cap, hv, by omega⟩
theorem km {M : Nat → Prop} {w0 : World} (T : TypeId) (b g cap : Nat) (bs : By) (ws : World) (hne : bs ≠ []) (hcap : cap ≠ 0) (Y : St M w0 [blk b [pt b, .slice (some ⟨g, 0, none⟩) bs.length cap] T, own (.slice (some ⟨g, 0, none⟩) bs.length cap) 5 1 ((bs).map fun b => [yv b])] ws) :
  Ret Tryz.prog 79 #[pt b] ws fun u w => u = sv bs ∧ St M w0 [blk b [pt b, .slice (some ⟨g, 0, none⟩) bs.length cap] T] w := by
 refine aF Tryz.func79 rfl Tryz.ntmps79 (lb rfl) fun a Z => ?_
 replace Z : Fr 14 [(0, _)] [] a := Z
 skip
 refine aa fun K1 hK1 => wla Z rfl fun a Z => ab (hK1 _ _ ?_)
 refine ai fun K2 hK2 => aM (by kernel_rfl) ?_
 replace Z : Fr 14 [(0, _), (2, _)] [] a := Z.pick [0, 2]
 replace Y : St M w0 (own (.slice (some ⟨g, 0, none⟩) bs.length cap) 5 1 ((bs).map fun b => [yv b]) :: [blk b [pt b, .slice (some ⟨g, 0, none⟩) bs.length cap] T]) ws := Y.front (i := 1) rfl
 refine ic 10 (own (.slice (some ⟨g, 0, none⟩) bs.length cap) 5 1 ((bs).map fun b => [yv b])) (fun _ => sl (.slice (some ⟨g, 0, none⟩) bs.length cap) 1 ((bs).map fun b => [yv b])) 11 [[], [0], [1], [2], [3], [], [5], [6], [7], [8], [4, 9]] (fun i => match i with | 0 => pv (pt b) | 1 => pv (pt b) | 2 => pv (.pointer (some ⟨b, 1, none⟩)) | 3 => pv (.slice (some ⟨g, 0, none⟩) bs.length cap) | 4 => pv (pt g) | 5 => pv (pt b) | 6 => pv (pt b) | 7 => pv (.pointer (some ⟨b, 1, none⟩)) | 8 => pv (.slice (some ⟨g, 0, none⟩) bs.length cap) | 9 => pv (iv (bs.length : Int)) | 10 => fun v E => v = sv bs ∧ E = [] | _ => fun _ _ => False) Z Y (by kernel_rfl) (by kernel_rfl) (by kernel_rfl) (by decide) ?_ ?_ ?_ ?_
 ·intro i v E h
  match i, h with
  | 0, _ => exact by decide
  | 1, _ => exact by decide
  | 2, _ => exact by decide
  | 3, _ => exact by decide
  | 4, _ => exact by decide
  | 5, _ => exact by decide
  | 6, _ => exact by decide
  | 7, _ => exact by decide
  | 8, _ => exact by decide
  | 9, _ => exact by decide
  | 10, _ => exact by decide
  | i + 11, h => exact h.elim
 ·intro i hi hiq e
  match i, hi, hiq with
  | 0, _, _ =>
   intro w Y
   exact OpV.g (al rfl)
  | 1, _, _ =>
   rintro _ _ ⟨rfl, rfl⟩
   intro w Y
   exact OpV.g (aH rfl)
  | 2, _, _ =>
   rintro _ _ ⟨rfl, rfl⟩
   intro w Y
   exact OpV.g (ac (v := .pointer (some ⟨b, 1, none⟩)) rfl (by kernel_rfl))
  | 3, _, _ =>
   rintro _ _ ⟨rfl, rfl⟩
   intro w Y
   exact OpV.g (ae (Y.get (k := 1) rfl) rfl (Tryz.isAgg62 _) rfl)
  | 4, _, _ =>
   rintro _ _ ⟨rfl, rfl⟩
   intro w Y
   exact OpV.g (jQ rfl hcap)
  | 5, _, _ =>
   intro w Y
   exact OpV.g (al rfl)
  | 6, _, _ =>
   rintro _ _ ⟨rfl, rfl⟩
   intro w Y
   exact OpV.g (aH rfl)
  | 7, _, _ =>
   rintro _ _ ⟨rfl, rfl⟩
   intro w Y
   exact OpV.g (ac (v := .pointer (some ⟨b, 1, none⟩)) rfl (by kernel_rfl))
  | 8, _, _ =>
   rintro _ _ ⟨rfl, rfl⟩
   intro w Y
   exact OpV.g (ae (Y.get (k := 1) rfl) rfl (Tryz.isAgg62 _) rfl)
  | 9, _, _ =>
   rintro _ _ ⟨rfl, rfl⟩
   intro w Y
   exact OpV.g ((dm (v := iv (bs.length : Int)) (vs := [.slice (some ⟨g, 0, none⟩) bs.length cap]) (by simp [evs]; rfl) (by simp [builtin, Builtin.len_, Tryz.runUnderlying62]; rfl)).as rfl)
  | 10, _, h => exact absurd rfl h
 ·rintro _ _ ⟨rfl, rfl⟩ _ _ ⟨rfl, rfl⟩
  intro w Y
  exact (gp (Y.get (k := 0) rfl) hne rfl rfl Tryz.underlying188 (by kernel_rfl)).mono fun v w' ⟨h1, h2, h3, h4⟩ => ⟨h2, h3, h4, ⟨h1, rfl⟩⟩
 clear Z Y
 rintro vq _ _ ⟨⟨rfl, rfl⟩, -⟩ _ _ ⟨⟨rfl, rfl⟩, -⟩ _ _ ⟨⟨rfl, rfl⟩, -⟩ _ _ ⟨⟨rfl, rfl⟩, -⟩ _ _ ⟨⟨rfl, rfl⟩, -⟩ _ _ ⟨⟨rfl, rfl⟩, -⟩ _ _ ⟨⟨rfl, rfl⟩, -⟩ _ _ ⟨⟨rfl, rfl⟩, -⟩ _ _ ⟨⟨rfl, rfl⟩, -⟩ _ _ ⟨⟨rfl, rfl⟩, -⟩ _ _ ⟨⟨rfl, rfl⟩, -⟩ a w1 Z Y
 replace Z : Fr 14 [(3, _), (4, _), (5, _), (6, _), (7, _), (8, _), (9, _), (10, _), (11, _), (12, _), (13, _), (0, _), (2, _)] [] a := Z
 replace Y : St M w0 [(fun _ => sl (.slice (some ⟨g, 0, none⟩) bs.length cap) 1 ((bs).map fun b => [yv b])) vq, blk b [pt b, .slice (some ⟨g, 0, none⟩) bs.length cap] T] w1 := Y
 refine wla Z rfl fun a Z => ab ?_
 refine hK2 _ _ ?_
 replace Z : Fr 14 [(2, _)] [] a := Z.pick [2]
 refine aw ?_
 refine ao Z Tryz.results79 (ah rfl ag) ?_
 exact ⟨rfl, Y.select [1] (by decide)⟩
theorem eL {M : Nat → Prop} {w0 : World} (T : TypeId) (b : Nat) (v : Value) (bs : By) (ws : World) (hne : bs ≠ []) (Y : St M w0 [bld T b (pt b) v bs] ws) :
  Ret Tryz.prog 79 #[pt b] ws fun u w => u = sv bs ∧ St M w0 [blk b [pt b, v] T] w := by
 have Y : St M w0 [blk b [pt b, v] T, own v 5 1 ((bs).map fun b => [yv b])] ws := ej Y
 obtain ⟨g, cap, rfl, hcap⟩ := po (Y.get (k := 1) rfl) hne
 exact km T b g cap bs ws hne hcap Y
end Go.Proofs.YtmmfieceinmloaaGreatDoor
namespace Go.Proofs.YtmmfieceinmloaaGreatDoor
open Go.RowKit Go.PW
set_option linter.unusedVariables false
set_option linter.unusedSimpArgs false
set_option maxRecDepth 4000
theorem gy {M : Nat → Prop} {w0 : World} (T : TypeId) (b : Nat) (ad v : Value) (bs s : By) (ws : World) (hlie : liesAt Tryz.prog Tryz.prog.depth T (2 / Tryz.prog.cellsOf T) 0 131 1 = true) (had : ad = .pointer none ∨ ad = pt b) (hne : s ≠ []) (hbn : bs.length + s.length ≤ 1000000000) (Y : St M w0 [bld T b ad v bs] ws) :
  Ret Tryz.prog 78 #[pt b, sv s] ws fun u w => u = .tuple #[iv (s.length : Int), .nilIface] ∧ ∃ v2, St M w0 [bld T b (pt b) v2 (bs ++ s)] w := by
 rcases had with rfl | rfl
 ·exact kA T b v bs s ws hlie hne hbn Y
 ·exact mW T b v bs s ws hlie hne hbn Y
theorem oZ (n : Int) : putI n ≠ [] := fun h => by have := (dr n).1; rw [h] at this; simp at this
theorem dO {M : Nat → Prop} {w0 : World} (T : TypeId) (b : Nat) (ad v lv : Value) (bs : By) (ns : List Int) (ws : World) (hlie : liesAt Tryz.prog Tryz.prog.depth T (2 / Tryz.prog.cellsOf T) 0 131 1 = true) (had : ad = .pointer none ∨ ad = pt b) (hns : smalls ns) (hnn : ns ≠ []) (hbn : bs.length + 9 * ns.length ≤ 1000000000) (Y : St M w0 [bld T b (ad) v bs, own lv 3 1 ((ns).map fun n => [iv n])] ws) :
  Ret Tryz.prog 77 #[pt b, lv] ws fun u w => u = .tuple #[] ∧ ∃ v2, St M w0 [bld T b (pt b) v2 (bs ++ puts ns)] w := by
 refine aF Tryz.func77 rfl Tryz.ntmps77 (lb rfl) fun a Z => ?_
 replace Z : Fr 25 [(0, _), (1, _)] [] a := Z
 skip
 refine aa fun K1 hK1 => wlm Z rfl fun a Z => wlv Z ((aN (sT := 88) (Y.ownAt (i := 1) rfl) rfl rfl (Tryz.runUnderlying88 _)).asi (m' := (ns.length : Int)) (by rw [List.length_map])) fun a Z => wlm Z rfl fun a Z => ab (hK1 _ _ ?_)
 refine aq ?_
 replace Y : St M w0 [bld T b ad v (bs ++ puts (ns.take 0)), own lv 3 1 ((ns).map fun n => [iv n])] ws := by rw [show bs ++ puts (ns.take 0) = bs from by simp [puts]]; exact Y
 refine aW (fun m a w => ∃ (k : Nat) (ad : Value) (v : Value), m = ns.length - k ∧ (k ≤ ns.length) ∧ (ad = .pointer none ∨ ad = pt b) ∧ (0 < k → ad = pt b) ∧ Fr 25 [(0, pt b), (8, lv), (9, iv (ns.length : Int)), (10, iv (k : Int))] [] a ∧ St M w0 [bld T b (ad) v (bs ++ puts (ns.take k)), own lv 3 1 ((ns).map fun n => [iv n])] w) _ ⟨0, ad, v, rfl, Nat.zero_le _, had, (fun h => absurd h (Nat.lt_irrefl 0)), Z.pick [0, 8, 9, 10], Y⟩ ?_
 rintro _ a w1 ⟨k, ad, v, rfl, hk, had, hak, Z, Y⟩
 refine aa fun K2 hK2 => wlv Z (v_lt rfl rfl) fun a Z => ab (hK2 _ _ ?_)
 refine ai fun K3 hK3 => ?_
 refine ay Z rfl (fun hc1 => ?_) (fun hc1 => ?_)
 ·rw [hc1] at Z
  try simp only [qz] at hc1
  refine ax ?_
  refine hK3 _ _ ?_
  refine ai fun K4 hK4 => aq ?_
  refine aa fun K5 hK5 => wlv Z ((ak (i := (k : Int)) (sT := 88) (Y.ownAt (i := 1) rfl) rfl rfl (Tryz.runUnderlying88 _) (Tryz.sizeOf3 _) (by omega) (by rw [List.length_map]; omega)).as (v' := slAddr lv (k * 1)) rfl) fun a Z => wlv Z (aC (u := iv (ns.getD k 0)) (i := k) (j := 0) (Y.ownAt (i := 1) rfl) (by rw [List.length_map]; omega) rfl (Tryz.isAgg3 _) (by rw [bp (0 : Int)]; rfl)) fun a Z => wla Z rfl fun a Z => ab (hK5 _ _ ?_)
  refine aa fun K6 hK6 => wlm Z rfl fun a Z => aA Z Y (by decide) Tryz.call125 rfl (mQ (ns.getD k 0) _ (hns _ (bR (by omega)))) ?_
  clear Z Y
  intro a w2 Z Y
  refine wlm Z rfl fun a Z => wlv Z (aD rfl rfl) fun a Z => wlv Z (aD rfl rfl) fun a Z => wla Z rfl fun a Z => wla Z rfl fun a Z => ab (hK6 _ _ ?_)
  replace Z : Fr 25 [(0, _), (8, _), (9, _), (10, _), (6, _)] [] a := Z.pick [0, 8, 9, 10, 6]
  refine am <| wlm Z rfl fun a Z => wlv Z (aH rfl) fun a Z => wlv Z (ac (v := pt b) rfl (by kernel_rfl)) fun a Z => wlm Z rfl fun a Z => aV (R := fun u e' => u = .tuple #[iv ((putI (ns.getD k 0)).length : Int), .nilIface] ∧ ∃ v2, e' = bld T b (pt b) v2 ((bs ++ puts (ns.take k)) ++ (putI (ns.getD k 0)))) 0 Z Y rfl (by decide) Tryz.call78 rfl (fun h => (gy T b _ _ _ _ _ hlie (had) (oZ _) (by have h1 := cR (ns.take k); have h2 := (dr (ns.getD k 0)).2; rw [List.length_take] at h1; rw [List.length_append]; omega) h).mono fun u w ⟨h1, v2, h2⟩ => ⟨_, ⟨h1, v2, rfl⟩, h2⟩) ?_
  clear Z Y
  rintro a w3 _ _ ⟨rfl, v2, rfl⟩ Z Y
  replace Y : St M w0 [bld T b (pt b) v2 ((bs ++ puts (ns.take k)) ++ (putI (ns.getD k 0))), own lv 3 1 ((ns).map fun n => [iv n])] w3 := Y
  refine ab ?_
  refine hK4 _ _ ?_
  replace Z : Fr 25 [(0, _), (8, _), (9, _), (10, _)] [] a := Z.pick [0, 8, 9, 10]
  refine am <| wlv Z (aT rfl rfl ⟨by omega, by omega⟩) fun a Z => wlm Z rfl fun a Z => ab ?_
  replace Y : St M w0 [bld T b (pt b) v2 (bs ++ puts (ns.take (k + 1))), own lv 3 1 ((ns).map fun n => [iv n])] w3 := by rw [show bs ++ puts (ns.take (k + 1)) = (bs ++ puts (ns.take k)) ++ (putI (ns.getD k 0)) from by rw [cD 0 (by omega), iy, List.append_assoc]]; exact Y
  refine ⟨_, ?_, k + 1, pt b, v2, rfl, (by omega), (.inr rfl), (fun _ => rfl), Z.pick [0, 8, 9, 10], Y⟩
  omega
 rw [hc1] at Z
 try simp only [qz] at hc1
 obtain rfl : k = ns.length := by omega
 rw [List.take_length] at Y
 obtain rfl := hak (List.length_pos_iff.2 hnn)
 refine aP ?_
 refine cA Z Tryz.results77 ag ?_
 exact ⟨rfl, _, Y.select [0] (by decide)⟩
theorem gQ {M : Nat → Prop} {w0 : World} (T : TypeId) (b : Nat) (ad v : Value) (bs : By) (x : Wsh) (ws : World) (hlie : liesAt Tryz.prog Tryz.prog.depth T (2 / Tryz.prog.cellsOf T) 0 131 1 = true) (had : ad = .pointer none ∨ ad = pt b) (hx : smalls x.nums) (hbn : bs.length ≤ 1000000) (Y : St M w0 [bld T b (ad) v bs] ws) :
  Ret Tryz.prog 67 #[pt b, .agg #[iv x.signer, iv x.holder, iv x.rf, iv x.rt, iv x.carrier, iv x.serial, iv x.sf, iv x.st, sv x.sig]] ws fun u w => u = .tuple #[] ∧ ∃ v2, St M w0 [bld T b (pt b) v2 (bs ++ x.content)] w := by
 refine aF Tryz.func67 rfl Tryz.ntmps67 (lb rfl) fun a Z => ?_
 replace Z : Fr 27 [(0, _), (1, _)] [] a := Z
 skip
 refine aa fun K1 hK1 => aY Z Y (by decide) rfl (cs := [iv x.signer, iv x.holder, iv x.rf, iv x.rt, iv x.carrier, iv x.serial, iv x.sf, iv x.st, sv x.sig]) rfl ?_
 clear Z Y
 intro a w1 Z Y
 refine ab (hK1 _ _ ?_)
 refine am <| wlm Z rfl fun a Z => wlv Z (ac (v := pt ws.heap.size) rfl (by kernel_rfl)) fun a Z => wlv Z (ae (Y.get (k := 0) rfl) rfl (Tryz.isAgg3 _) rfl) fun a Z => wlv Z (ac (v := .pointer (some ⟨ws.heap.size, 1, none⟩)) rfl (by kernel_rfl)) fun a Z => wlv Z (ae (Y.get (k := 0) rfl) rfl (Tryz.isAgg3 _) rfl) fun a Z => wlv Z (ac (v := .pointer (some ⟨ws.heap.size, 2, none⟩)) rfl (by kernel_rfl)) fun a Z => ?_
 refine wlv Z (ac (v := .pointer (some ⟨ws.heap.size, 2, none⟩)) rfl (by kernel_rfl)) fun a Z => wlv Z (ae (Y.get (k := 0) rfl) rfl (Tryz.isAgg3 _) rfl) fun a Z => wlv Z (ac (v := .pointer (some ⟨ws.heap.size, 2, none⟩)) rfl (by kernel_rfl)) fun a Z => wlv Z (ac (v := .pointer (some ⟨ws.heap.size, 3, none⟩)) rfl (by kernel_rfl)) fun a Z => wlv Z (ae (Y.get (k := 0) rfl) rfl (Tryz.isAgg3 _) rfl) fun a Z => wlv Z (ac (v := .pointer (some ⟨ws.heap.size, 4, none⟩)) rfl (by kernel_rfl)) fun a Z => wlv Z (ae (Y.get (k := 0) rfl) rfl (Tryz.isAgg3 _) rfl) fun a Z => ?_
 refine wlv Z (ac (v := .pointer (some ⟨ws.heap.size, 5, none⟩)) rfl (by kernel_rfl)) fun a Z => wlv Z (ae (Y.get (k := 0) rfl) rfl (Tryz.isAgg3 _) rfl) fun a Z => wlv Z (ac (v := .pointer (some ⟨ws.heap.size, 6, none⟩)) rfl (by kernel_rfl)) fun a Z => wlv Z (ac (v := .pointer (some ⟨ws.heap.size, 6, none⟩)) rfl (by kernel_rfl)) fun a Z => wlv Z (ae (Y.get (k := 0) rfl) rfl (Tryz.isAgg3 _) rfl) fun a Z => wlv Z (ac (v := .pointer (some ⟨ws.heap.size, 6, none⟩)) rfl (by kernel_rfl)) fun a Z => wlv Z (ac (v := .pointer (some ⟨ws.heap.size, 7, none⟩)) rfl (by kernel_rfl)) fun a Z => ?_
 refine wlv Z (ae (Y.get (k := 0) rfl) rfl (Tryz.isAgg3 _) rfl) fun a Z => aG (E := 3) (sz := 1) rfl [[iv 1], [iv x.signer], [iv x.holder], [iv x.rf], [iv x.rt], [iv x.carrier], [iv x.serial], [iv x.sf], [iv x.st]] (by kernel_rfl) (by simp) rfl (by decide) (by decide) Z Y ?_
 clear Z Y
 intro a w2 Z Y
 replace Y : St M w0 [bld T b (ad) v bs, own (.slice (some ⟨w1.heap.size, 0, none⟩) 9 9) 3 1 ([[iv 1], [iv x.signer], [iv x.holder], [iv x.rf], [iv x.rt], [iv x.carrier], [iv x.serial], [iv x.sf], [iv x.st]]), blk ws.heap.size [iv x.signer, iv x.holder, iv x.rf, iv x.rt, iv x.carrier, iv x.serial, iv x.sf, iv x.st, sv x.sig] 30] w2 := Y.select [2, 0, 1] (by decide)
 replace Y := St.join [bld T b (ad) v bs, own (.slice (some ⟨w1.heap.size, 0, none⟩) 9 9) 3 1 ([[iv 1], [iv x.signer], [iv x.holder], [iv x.rf], [iv x.rt], [iv x.carrier], [iv x.serial], [iv x.sf], [iv x.st]])] [blk ws.heap.size [iv x.signer, iv x.holder, iv x.rf, iv x.rt, iv x.carrier, iv x.serial, iv x.sf, iv x.st, sv x.sig] 30] Y
 refine aV (R := fun u e' => u = .tuple #[] ∧ ∃ v2, e' = bld T b (pt b) v2 (bs ++ puts [1, x.signer, x.holder, x.rf, x.rt, x.carrier, x.serial, x.sf, x.st])) 0 Z Y rfl (by decide) Tryz.call77 rfl (fun h => (dO T b _ _ _ _ [1, x.signer, x.holder, x.rf, x.rt, x.carrier, x.serial, x.sf, x.st] _ hlie (had) (hx) (by simp) (by simp <;> omega) (St.unjoin [bld T b (ad) v bs, own (.slice (some ⟨w1.heap.size, 0, none⟩) 9 9) 3 1 ([[iv 1], [iv x.signer], [iv x.holder], [iv x.rf], [iv x.rt], [iv x.carrier], [iv x.serial], [iv x.sf], [iv x.st]])] [] h)).mono fun u w ⟨h1, v2, h2⟩ => ⟨_, ⟨h1, v2, rfl⟩, h2⟩) ?_
 clear Z Y
 rintro a w3 _ _ ⟨rfl, v1, rfl⟩ Z Y
 replace Y : St M w0 [bld T b (pt b) v1 (bs ++ puts [1, x.signer, x.holder, x.rf, x.rt, x.carrier, x.serial, x.sf, x.st]), blk ws.heap.size [iv x.signer, iv x.holder, iv x.rf, iv x.rt, iv x.carrier, iv x.serial, iv x.sf, iv x.st, sv x.sig] 30] w3 := Y
 refine ab ?_
 refine cA Z Tryz.results67 ag ?_
 exact ⟨rfl, _, Y.select [0] (by decide)⟩
theorem fy {M : Nat → Prop} {w0 : World} (T : TypeId) (b : Nat) (ad v : Value) (bs : By) (x : Pxy) (ws : World) (hlie : liesAt Tryz.prog Tryz.prog.depth T (2 / Tryz.prog.cellsOf T) 0 131 1 = true) (had : ad = .pointer none ∨ ad = pt b) (hx : smalls x.nums) (hbn : bs.length ≤ 1000000) (Y : St M w0 [bld T b (ad) v bs] ws) :
  Ret Tryz.prog 65 #[pt b, .agg #[iv x.frm, iv x.to, iv x.rf, iv x.rt, iv x.sf, iv x.st, sv x.sig]] ws fun u w => u = .tuple #[] ∧ ∃ v2, St M w0 [bld T b (pt b) v2 (bs ++ x.content)] w := by
 refine aF Tryz.func65 rfl Tryz.ntmps65 (lb rfl) fun a Z => ?_
 replace Z : Fr 23 [(0, _), (1, _)] [] a := Z
 skip
 refine aa fun K1 hK1 => aY Z Y (by decide) rfl (cs := [iv x.frm, iv x.to, iv x.rf, iv x.rt, iv x.sf, iv x.st, sv x.sig]) rfl ?_
 clear Z Y
 intro a w1 Z Y
 refine ab (hK1 _ _ ?_)
 refine am <| wlm Z rfl fun a Z => wlv Z (ac (v := pt ws.heap.size) rfl (by kernel_rfl)) fun a Z => wlv Z (ae (Y.get (k := 0) rfl) rfl (Tryz.isAgg3 _) rfl) fun a Z => wlv Z (ac (v := .pointer (some ⟨ws.heap.size, 1, none⟩)) rfl (by kernel_rfl)) fun a Z => wlv Z (ae (Y.get (k := 0) rfl) rfl (Tryz.isAgg3 _) rfl) fun a Z => wlv Z (ac (v := .pointer (some ⟨ws.heap.size, 2, none⟩)) rfl (by kernel_rfl)) fun a Z => ?_
 refine wlv Z (ac (v := .pointer (some ⟨ws.heap.size, 2, none⟩)) rfl (by kernel_rfl)) fun a Z => wlv Z (ae (Y.get (k := 0) rfl) rfl (Tryz.isAgg3 _) rfl) fun a Z => wlv Z (ac (v := .pointer (some ⟨ws.heap.size, 2, none⟩)) rfl (by kernel_rfl)) fun a Z => wlv Z (ac (v := .pointer (some ⟨ws.heap.size, 3, none⟩)) rfl (by kernel_rfl)) fun a Z => wlv Z (ae (Y.get (k := 0) rfl) rfl (Tryz.isAgg3 _) rfl) fun a Z => wlv Z (ac (v := .pointer (some ⟨ws.heap.size, 4, none⟩)) rfl (by kernel_rfl)) fun a Z => wlv Z (ac (v := .pointer (some ⟨ws.heap.size, 4, none⟩)) rfl (by kernel_rfl)) fun a Z => ?_
 refine wlv Z (ae (Y.get (k := 0) rfl) rfl (Tryz.isAgg3 _) rfl) fun a Z => wlv Z (ac (v := .pointer (some ⟨ws.heap.size, 4, none⟩)) rfl (by kernel_rfl)) fun a Z => wlv Z (ac (v := .pointer (some ⟨ws.heap.size, 5, none⟩)) rfl (by kernel_rfl)) fun a Z => wlv Z (ae (Y.get (k := 0) rfl) rfl (Tryz.isAgg3 _) rfl) fun a Z => aG (E := 3) (sz := 1) rfl [[iv 2], [iv x.frm], [iv x.to], [iv x.rf], [iv x.rt], [iv x.sf], [iv x.st]] (by kernel_rfl) (by simp) rfl (by decide) (by decide) Z Y ?_
 clear Z Y
 intro a w2 Z Y
 replace Y : St M w0 [bld T b (ad) v bs, own (.slice (some ⟨w1.heap.size, 0, none⟩) 7 7) 3 1 ([[iv 2], [iv x.frm], [iv x.to], [iv x.rf], [iv x.rt], [iv x.sf], [iv x.st]]), blk ws.heap.size [iv x.frm, iv x.to, iv x.rf, iv x.rt, iv x.sf, iv x.st, sv x.sig] 40] w2 := Y.select [2, 0, 1] (by decide)
 replace Y := St.join [bld T b (ad) v bs, own (.slice (some ⟨w1.heap.size, 0, none⟩) 7 7) 3 1 ([[iv 2], [iv x.frm], [iv x.to], [iv x.rf], [iv x.rt], [iv x.sf], [iv x.st]])] [blk ws.heap.size [iv x.frm, iv x.to, iv x.rf, iv x.rt, iv x.sf, iv x.st, sv x.sig] 40] Y
 refine aV (R := fun u e' => u = .tuple #[] ∧ ∃ v2, e' = bld T b (pt b) v2 (bs ++ puts [2, x.frm, x.to, x.rf, x.rt, x.sf, x.st])) 0 Z Y rfl (by decide) Tryz.call77 rfl (fun h => (dO T b _ _ _ _ [2, x.frm, x.to, x.rf, x.rt, x.sf, x.st] _ hlie (had) (hx) (by simp) (by simp <;> omega) (St.unjoin [bld T b (ad) v bs, own (.slice (some ⟨w1.heap.size, 0, none⟩) 7 7) 3 1 ([[iv 2], [iv x.frm], [iv x.to], [iv x.rf], [iv x.rt], [iv x.sf], [iv x.st]])] [] h)).mono fun u w ⟨h1, v2, h2⟩ => ⟨_, ⟨h1, v2, rfl⟩, h2⟩) ?_
 clear Z Y
 rintro a w3 _ _ ⟨rfl, v1, rfl⟩ Z Y
 replace Y : St M w0 [bld T b (pt b) v1 (bs ++ puts [2, x.frm, x.to, x.rf, x.rt, x.sf, x.st]), blk ws.heap.size [iv x.frm, iv x.to, iv x.rf, iv x.rt, iv x.sf, iv x.st, sv x.sig] 40] w3 := Y
 refine ab ?_
 refine cA Z Tryz.results65 ag ?_
 exact ⟨rfl, _, Y.select [0] (by decide)⟩
theorem fY {M : Nat → Prop} {w0 : World} (key content : By) (g : FuncId) (caps : List Value) (ec : Ent) (ws : World) (hen : ∀ args w, (callFunc g args).run Tryz.prog w = .ok (.enter g args) w)
  (hc : ∀ {M : Nat → Prop} {w0 : World} (b : Nat) (v : Value) (ws : World), St M w0 [bld 133 b (.pointer none) v [], ec] ws → Ret Tryz.prog g ([pt b] ++ caps).toArray ws fun u w => u = .tuple #[] ∧ ∃ v2, St M w0 [bld 133 b (pt b) v2 content, ec] w)
  (hne : content ≠ []) (hkl : key.length ≤ 40000000) (hcl : content.length ≤ 40000000) (Y : St M w0 [blk 0 (kOf.map wv) 239, ec] ws) :
  Ret Tryz.prog 63 #[sv key, .func (.func g) #[] caps.toArray] ws fun u w => u = sv (sealH key content) ∧ St M w0 [blk 0 (kOf.map wv) 239, ec] w := by
 refine aF Tryz.func63 rfl Tryz.ntmps63 (lb rfl) fun a Z => ?_
 replace Z : Fr 13 [(0, _), (1, _)] [] a := Z
 skip
 refine aa fun K1 hK1 => wla Z rfl fun a Z => ab (hK1 _ _ ?_)
 refine aa fun K2 hK2 => aK Z Y (by decide) (Tryz.zeroValue133 _) (cs := [.pointer none, .slice none 0 0]) rfl ?_
 clear Z Y
 intro a w1 Z Y
 refine ab (hK2 _ _ ?_)
 refine aa fun K3 hK3 => wlm Z rfl fun a Z => ?_
 replace Y : St M w0 (own (.slice none 0 0) 5 1 [] :: [blk ws.heap.size [.pointer none, .slice none 0 0] 133, blk 0 (kOf.map wv) 239, ec]) w1 := Y.nil_own
 replace Y : St M w0 [blk ws.heap.size [.pointer none, .slice none 0 0] 133, own (.slice none 0 0) 5 1 ([]), ec, blk 0 (kOf.map wv) 239] w1 := Y.select [1, 0, 3, 2] (by decide)
 replace Y : St M w0 ([bld 133 (ws.heap.size) (.pointer none) (.slice none 0 0) [], ec] ++ [blk 0 (kOf.map wv) 239]) w1 := St.join [blk ws.heap.size [.pointer none, .slice none 0 0] 133, own (.slice none 0 0) 5 1 ([])] [ec, blk 0 (kOf.map wv) 239] Y
 replace Y := St.join _ _ Y
 refine mR (R := fun u e' => u = .tuple #[] ∧ ∃ v2, e' = join [bld 133 (ws.heap.size) (pt ws.heap.size) v2 content, ec]) 0 Z Y rfl (by decide) rfl hen rfl (fun h => (hc (ws.heap.size) _ _ (St.unjoin [bld 133 (ws.heap.size) (.pointer none) (.slice none 0 0) [], ec] [] h)).mono fun u w ⟨h1, v2, h2⟩ => ⟨_, ⟨h1, v2, rfl⟩, St.join _ [] h2⟩) ?_
 clear Z Y
 rintro a w2 _ _ ⟨rfl, v1, rfl⟩ Z Y
 replace Y : St M w0 [bld 133 (ws.heap.size) (pt ws.heap.size) v1 content, ec, blk 0 (kOf.map wv) 239] w2 := St.unjoin [bld 133 (ws.heap.size) (pt ws.heap.size) v1 content, ec] [blk 0 (kOf.map wv) 239] Y
 refine ab (hK3 _ _ ?_)
 refine aa fun K4 hK4 => wlm Z rfl fun a Z => wlv Z (ac (v := pt ws.heap.size) rfl (by kernel_rfl)) fun a Z => aV (R := fun u e' => u = sv (content) ∧ e' = blk (ws.heap.size) [pt ws.heap.size, v1] 133) 0 Z Y rfl (by decide) Tryz.call79 rfl (fun h => (eL 133 (ws.heap.size) _ _ _ hne h).mono fun u w ⟨h1, h2⟩ => ⟨_, ⟨h1, rfl⟩, h2⟩) ?_
 clear Z Y
 rintro a w3 _ _ ⟨rfl, rfl⟩ Z Y
 replace Y : St M w0 [blk (ws.heap.size) [pt ws.heap.size, v1] 133, ec, blk 0 (kOf.map wv) 239] w3 := Y
 refine aA Z Y (by decide) Tryz.call121 rfl (oQ content _ (by omega) (Y.get (k := 2) rfl)) ?_
 clear Z Y
 intro a w4 Z Y
 refine aA Z Y (by decide) Tryz.call120 rfl (pw key (leafH sha content) _ (by omega) (by rw [kg jv]; decide) (Y.get (k := 2) rfl)) ?_
 clear Z Y
 intro a w5 Z Y
 refine wla Z rfl fun a Z => ab (hK4 _ _ ?_)
 replace Z : Fr 13 [(4, _)] [] a := Z.pick [4]
 refine aw ?_
 refine ao Z Tryz.results63 (ah rfl ag) ?_
 exact ⟨rfl, Y.select [2, 1] (by decide)⟩
end Go.Proofs.YtmmfieceinmloaaGreatDoor
namespace Go.Proofs.YtmmfieceinmloaaGreatDoor
open Go.RowKit Go.PW
set_option linter.unusedVariables false
set_option linter.unusedSimpArgs false
set_option maxRecDepth 4000
theorem dh (s : By) (w0 : World) :
  Ret Tryz.prog 56 #[sv s] w0 fun v w => v = .bool (decide ((s.length : Int) = 32)) ∧ Ext No w0 w := by
 refine aF Tryz.func56 rfl Tryz.ntmps56 (lb rfl) fun a Z => ?_
 replace Z : Fr 6 [(0, _)] [] a := Z
 replace Y : St No w0 [] w0 := St.init w0
 refine aa fun K1 hK1 => wla Z rfl fun a Z => ab (hK1 _ _ ?_)
 refine aa fun K2 hK2 => wlm Z rfl fun a Z => wlv Z (bD rfl rfl (Tryz.runUnderlying9 _)) fun a Z => wlv Z (v_eq rfl rfl) fun a Z => wla Z rfl fun a Z => ab (hK2 _ _ ?_)
 refine aw ?_
 refine ao Z Tryz.results56 (ah rfl ag) ?_
 exact ⟨by rfl, Y.ext⟩
theorem bW (n lo hi : Int) (w0 : World) :
  Ret Tryz.prog 60 #[iv n, iv lo, iv hi] w0 fun v w => v = .bool (inB n lo hi) ∧ Ext No w0 w := by
 refine aF Tryz.func60 rfl Tryz.ntmps60 (lb rfl) fun a Z => ?_
 replace Z : Fr 15 [(0, _), (1, _), (2, _)] [] a := Z
 replace Y : St No w0 [] w0 := St.init w0
 refine aa fun K1 hK1 => wla Z rfl fun a Z => ab (hK1 _ _ ?_)
 refine aa fun K2 hK2 => wlm Z rfl fun a Z => wlm Z rfl fun a Z => wlv Z (v_le rfl rfl) fun a Z => wlm Z rfl fun a Z => ?_
 refine cp (N := 15) (df := []) 4 [(14, .bool ((decide (lo ≤ n)) && (decide (n ≤ hi)))), (0, iv n), (1, iv lo), (2, iv hi), (6, .bool false)] ?_ (fun hj => ?_)
 rotate_left
 ·rcases Bool.eq_false_or_eq_true (decide (lo ≤ n)) with hb1 | hb1
  ·rw [hb1] at Z
   have hb1b := hb1
   try simp only [qz, Bool.and_eq_true, Bool.or_eq_true, Bool.and_eq_false_iff, Bool.or_eq_false_iff] at hb1
   refine wly Z (al rfl) fun a Z => wly Z (al rfl) fun a Z => wly Z (v_le rfl rfl) fun a Z => wlv Z (az rfl rfl) fun a Z => ?_
   refine hj _ ?_
   try rw [hb1b]
   exact Z.pick [14, 0, 1, 2, 6]
  rw [hb1] at Z
  have hb1b := hb1
  try simp only [qz, Bool.and_eq_true, Bool.or_eq_true, Bool.and_eq_false_iff, Bool.or_eq_false_iff] at hb1
  refine wln Z fun a Z => wln Z fun a Z => wln Z fun a Z => wlv Z (au rfl rfl) fun a Z => ?_
  refine hj _ ?_
  try rw [hb1b]
  exact Z.pick [14, 0, 1, 2, 6]
 intro a Z
 refine wla Z rfl fun a Z => ab (hK2 _ _ ?_)
 refine aw ?_
 refine ao Z Tryz.results60 (ah rfl ag) ?_
 exact ⟨by rfl, Y.ext⟩
theorem gU (b d : Int) (w0 : World) :
  Ret Tryz.prog 114 #[.agg #[iv b, iv d]] w0 fun v w => v = .bool (bP b d) ∧ Ext No w0 w := by
 refine aF Tryz.func114 rfl Tryz.ntmps114 (lb rfl) fun a Z => ?_
 replace Z : Fr 18 [(0, _)] [] a := Z
 replace Y : St No w0 [] w0 := St.init w0
 refine aa fun K1 hK1 => aY Z Y (by decide) rfl (cs := [iv b, iv d]) rfl ?_
 clear Z Y
 intro a w1 Z Y
 refine wla Z rfl fun a Z => ab (hK1 _ _ ?_)
 refine aa fun K2 hK2 => wlv Z (ac (v := pt w0.heap.size) rfl (by kernel_rfl)) fun a Z => wlv Z (ae (Y.get (k := 0) rfl) rfl (Tryz.isAgg3 _) rfl) fun a Z => wlv Z (v_le rfl rfl) fun a Z => wlm Z rfl fun a Z => ?_
 refine cp (N := 18) (df := []) 6 [(12, .bool ((decide (0 ≤ b)) && (decide (b < d)))), (0, .agg #[iv b, iv d]), (1, pt w0.heap.size), (2, .bool false)] ?_ (fun hj => ?_)
 rotate_left
 ·rcases Bool.eq_false_or_eq_true (decide (0 ≤ b)) with hb1 | hb1
  ·rw [hb1] at Z
   have hb1b := hb1
   try simp only [qz, Bool.and_eq_true, Bool.or_eq_true, Bool.and_eq_false_iff, Bool.or_eq_false_iff] at hb1
   refine wly Z (ac (v := pt w0.heap.size) rfl (by kernel_rfl)) fun a Z => wly Z (ae (Y.get (k := 0) rfl) rfl (Tryz.isAgg3 _) rfl) fun a Z => wly Z (ac (v := .pointer (some ⟨w0.heap.size, 1, none⟩)) rfl (by kernel_rfl)) fun a Z => wly Z (ae (Y.get (k := 0) rfl) rfl (Tryz.isAgg3 _) rfl) fun a Z => wly Z (v_lt rfl rfl) fun a Z => wlv Z (az rfl rfl) fun a Z => ?_
   refine hj _ ?_
   try rw [hb1b]
   exact Z.pick [12, 0, 1, 2]
  rw [hb1] at Z
  have hb1b := hb1
  try simp only [qz, Bool.and_eq_true, Bool.or_eq_true, Bool.and_eq_false_iff, Bool.or_eq_false_iff] at hb1
  refine wln Z fun a Z => wln Z fun a Z => wln Z fun a Z => wln Z fun a Z => wln Z fun a Z => wlv Z (au rfl rfl) fun a Z => ?_
  refine hj _ ?_
  try rw [hb1b]
  exact Z.pick [12, 0, 1, 2]
 intro a Z
 refine wlm Z rfl fun a Z => ?_
 refine cp (N := 18) (df := []) 4 [(17, .bool (((decide (0 ≤ b)) && (decide (b < d))) && (decide (d ≤ 100000000)))), (0, .agg #[iv b, iv d]), (1, pt w0.heap.size), (2, .bool false)] ?_ (fun hj => ?_)
 rotate_left
 ·rcases Bool.eq_false_or_eq_true ((decide (0 ≤ b)) && (decide (b < d))) with hb2 | hb2
  ·rw [hb2] at Z
   have hb2b := hb2
   try simp only [qz, Bool.and_eq_true, Bool.or_eq_true, Bool.and_eq_false_iff, Bool.or_eq_false_iff] at hb2
   refine wly Z (ac (v := .pointer (some ⟨w0.heap.size, 1, none⟩)) rfl (by kernel_rfl)) fun a Z => wly Z (ae (Y.get (k := 0) rfl) rfl (Tryz.isAgg3 _) rfl) fun a Z => wly Z (v_le rfl rfl) fun a Z => wlv Z (az rfl rfl) fun a Z => ?_
   refine hj _ ?_
   try rw [hb2b]
   exact Z.pick [17, 0, 1, 2]
  rw [hb2] at Z
  have hb2b := hb2
  try simp only [qz, Bool.and_eq_true, Bool.or_eq_true, Bool.and_eq_false_iff, Bool.or_eq_false_iff] at hb2
  refine wln Z fun a Z => wln Z fun a Z => wln Z fun a Z => wlv Z (au rfl rfl) fun a Z => ?_
  refine hj _ ?_
  try rw [hb2b]
  exact Z.pick [17, 0, 1, 2]
 intro a Z
 refine wla Z rfl fun a Z => ab (hK2 _ _ ?_)
 refine aw ?_
 refine ao Z Tryz.results114 (ah rfl ag) ?_
 exact ⟨by rfl, Y.ext⟩
theorem gD (b d : Int) (w0 : World) :
  Ret Tryz.prog 115 #[.agg #[iv b, iv d]] w0 fun v w => v = .bool (ca b d) ∧ Ext No w0 w := by
 refine aF Tryz.func115 rfl Tryz.ntmps115 (lb rfl) fun a Z => ?_
 replace Z : Fr 18 [(0, _)] [] a := Z
 replace Y : St No w0 [] w0 := St.init w0
 refine aa fun K1 hK1 => aY Z Y (by decide) rfl (cs := [iv b, iv d]) rfl ?_
 clear Z Y
 intro a w1 Z Y
 refine wla Z rfl fun a Z => ab (hK1 _ _ ?_)
 refine aa fun K2 hK2 => wlv Z (ac (v := pt w0.heap.size) rfl (by kernel_rfl)) fun a Z => wlv Z (ae (Y.get (k := 0) rfl) rfl (Tryz.isAgg3 _) rfl) fun a Z => wlv Z (v_le rfl rfl) fun a Z => wlm Z rfl fun a Z => ?_
 refine cp (N := 18) (df := []) 6 [(12, .bool ((decide (0 ≤ b)) && (decide (b < d)))), (0, .agg #[iv b, iv d]), (1, pt w0.heap.size), (2, .bool false)] ?_ (fun hj => ?_)
 rotate_left
 ·rcases Bool.eq_false_or_eq_true (decide (0 ≤ b)) with hb1 | hb1
  ·rw [hb1] at Z
   have hb1b := hb1
   try simp only [qz, Bool.and_eq_true, Bool.or_eq_true, Bool.and_eq_false_iff, Bool.or_eq_false_iff] at hb1
   refine wly Z (ac (v := pt w0.heap.size) rfl (by kernel_rfl)) fun a Z => wly Z (ae (Y.get (k := 0) rfl) rfl (Tryz.isAgg3 _) rfl) fun a Z => wly Z (ac (v := .pointer (some ⟨w0.heap.size, 1, none⟩)) rfl (by kernel_rfl)) fun a Z => wly Z (ae (Y.get (k := 0) rfl) rfl (Tryz.isAgg3 _) rfl) fun a Z => wly Z (v_lt rfl rfl) fun a Z => wlv Z (az rfl rfl) fun a Z => ?_
   refine hj _ ?_
   try rw [hb1b]
   exact Z.pick [12, 0, 1, 2]
  rw [hb1] at Z
  have hb1b := hb1
  try simp only [qz, Bool.and_eq_true, Bool.or_eq_true, Bool.and_eq_false_iff, Bool.or_eq_false_iff] at hb1
  refine wln Z fun a Z => wln Z fun a Z => wln Z fun a Z => wln Z fun a Z => wln Z fun a Z => wlv Z (au rfl rfl) fun a Z => ?_
  refine hj _ ?_
  try rw [hb1b]
  exact Z.pick [12, 0, 1, 2]
 intro a Z
 refine wlm Z rfl fun a Z => ?_
 refine cp (N := 18) (df := []) 4 [(17, .bool (((decide (0 ≤ b)) && (decide (b < d))) && (decide (d ≤ 10000001)))), (0, .agg #[iv b, iv d]), (1, pt w0.heap.size), (2, .bool false)] ?_ (fun hj => ?_)
 rotate_left
 ·rcases Bool.eq_false_or_eq_true ((decide (0 ≤ b)) && (decide (b < d))) with hb2 | hb2
  ·rw [hb2] at Z
   have hb2b := hb2
   try simp only [qz, Bool.and_eq_true, Bool.or_eq_true, Bool.and_eq_false_iff, Bool.or_eq_false_iff] at hb2
   refine wly Z (ac (v := .pointer (some ⟨w0.heap.size, 1, none⟩)) rfl (by kernel_rfl)) fun a Z => wly Z (ae (Y.get (k := 0) rfl) rfl (Tryz.isAgg3 _) rfl) fun a Z => wly Z (v_le rfl rfl) fun a Z => wlv Z (az rfl rfl) fun a Z => ?_
   refine hj _ ?_
   try rw [hb2b]
   exact Z.pick [17, 0, 1, 2]
  rw [hb2] at Z
  have hb2b := hb2
  try simp only [qz, Bool.and_eq_true, Bool.or_eq_true, Bool.and_eq_false_iff, Bool.or_eq_false_iff] at hb2
  refine wln Z fun a Z => wln Z fun a Z => wln Z fun a Z => wlv Z (au rfl rfl) fun a Z => ?_
  refine hj _ ?_
  try rw [hb2b]
  exact Z.pick [17, 0, 1, 2]
 intro a Z
 refine wla Z rfl fun a Z => ab (hK2 _ _ ?_)
 refine aw ?_
 refine ao Z Tryz.results115 (ah rfl ag) ?_
 exact ⟨by rfl, Y.ext⟩
set_option maxHeartbeats 4000000 in
theorem ep (x : Wsh) (w0 : World) :
  Ret Tryz.prog 58 #[.agg #[iv x.signer, iv x.holder, iv x.rf, iv x.rt, iv x.carrier, iv x.serial, iv x.sf, iv x.st, sv x.sig]] w0 fun v w => v = .bool x.ok ∧ Ext No w0 w := by
 refine aF Tryz.func58 rfl Tryz.ntmps58 (lb rfl) fun a Z => ?_
 replace Z : Fr 33 [(0, _)] [] a := Z
 replace Y : St No w0 [] w0 := St.init w0
 refine aa fun K1 hK1 => aY Z Y (by decide) rfl (cs := [iv x.signer, iv x.holder, iv x.rf, iv x.rt, iv x.carrier, iv x.serial, iv x.sf, iv x.st, sv x.sig]) rfl ?_
 clear Z Y
 intro a w1 Z Y
 refine wla Z rfl fun a Z => ab (hK1 _ _ ?_)
 refine aa fun K2 hK2 => wlv Z (ac (v := pt w0.heap.size) rfl (by kernel_rfl)) fun a Z => wlv Z (ae (Y.get (k := 0) rfl) rfl (Tryz.isAgg3 _) rfl) fun a Z => aA Z Y (by decide) Tryz.call60 rfl (bW x.signer 0 63 _) ?_
 clear Z Y
 intro a w2 Z Y
 refine wlm Z rfl fun a Z => ?_
 rcases Bool.eq_false_or_eq_true (inB x.signer 0 63) with hb1 | hb1
 ·rw [hb1] at Z
  try simp only [qz] at hb1
  refine wly Z (ac (v := .pointer (some ⟨w0.heap.size, 1, none⟩)) rfl (by kernel_rfl)) fun a Z => wly Z (ae (Y.get (k := 0) rfl) rfl (Tryz.isAgg3 _) rfl) fun a Z => aJ Z Y (by decide) rfl (by decide) rfl Tryz.call60 rfl (bW x.holder 0 63 _) ?_
  clear Z Y
  intro a w3 Z Y
  refine wlv Z (az rfl rfl) fun a Z => wla Z rfl fun a Z => ab (hK2 _ _ ?_)
  replace Z : Fr 33 [(1, _), (2, _), (3, _)] [] a := Z.pick [1, 2, 3]
  refine aa fun K3 hK3 => wlm Z rfl fun a Z => wlm Z rfl fun a Z => ?_
  rcases Bool.eq_false_or_eq_true (inB x.holder 0 63) with hb2 | hb2
  ·rw [hb2] at Z
   try simp only [qz] at hb2
   refine wly Z (ac (v := .pointer (some ⟨w0.heap.size, 2, none⟩)) rfl (by kernel_rfl)) fun a Z => wly Z (bT (ds := [iv x.rf, iv x.rt]) (Y.get (k := 0) rfl) rfl (Tryz.isAgg27 _) (Tryz.sizeOf27 _) rfl) fun a Z => aJ Z Y (by decide) rfl (by decide) rfl Tryz.call114 rfl (gU x.rf x.rt _) ?_
   clear Z Y
   intro a w4 Z Y
   refine wlv Z (az rfl rfl) fun a Z => wlm Z rfl fun a Z => ?_
   rcases Bool.eq_false_or_eq_true (bP x.rf x.rt) with hb3 | hb3
   ·rw [hb3] at Z
    try simp only [qz] at hb3
    refine wly Z (ac (v := .pointer (some ⟨w0.heap.size, 4, none⟩)) rfl (by kernel_rfl)) fun a Z => wly Z (ae (Y.get (k := 0) rfl) rfl (Tryz.isAgg3 _) rfl) fun a Z => aJ Z Y (by decide) rfl (by decide) rfl Tryz.call60 rfl (bW x.carrier 0 7 _) ?_
    clear Z Y
    intro a w5 Z Y
    refine wlv Z (az rfl rfl) fun a Z => wlm Z rfl fun a Z => ?_
    rcases Bool.eq_false_or_eq_true (inB x.carrier 0 7) with hb4 | hb4
    ·rw [hb4] at Z
     try simp only [qz] at hb4
     refine wly Z (ac (v := .pointer (some ⟨w0.heap.size, 5, none⟩)) rfl (by kernel_rfl)) fun a Z => wly Z (ae (Y.get (k := 0) rfl) rfl (Tryz.isAgg3 _) rfl) fun a Z => aJ Z Y (by decide) rfl (by decide) rfl Tryz.call60 rfl (bW x.serial 0 1000000 _) ?_
     clear Z Y
     intro a w6 Z Y
     refine wlv Z (az rfl rfl) fun a Z => wlm Z rfl fun a Z => ?_
     rcases Bool.eq_false_or_eq_true (inB x.serial 0 1000000) with hb5 | hb5
     ·rw [hb5] at Z
      try simp only [qz] at hb5
      refine wly Z (ac (v := .pointer (some ⟨w0.heap.size, 6, none⟩)) rfl (by kernel_rfl)) fun a Z => wly Z (bT (ds := [iv x.sf, iv x.st]) (Y.get (k := 0) rfl) rfl (Tryz.isAgg28 _) (Tryz.sizeOf28 _) rfl) fun a Z => aJ Z Y (by decide) rfl (by decide) rfl Tryz.call115 rfl (gD x.sf x.st _) ?_
      clear Z Y
      intro a w7 Z Y
      refine wlv Z (az rfl rfl) fun a Z => wla Z rfl fun a Z => ab (hK3 _ _ ?_)
      replace Z : Fr 33 [(2, _)] [] a := Z.pick [2]
      replace Y : St No w0 [] w7 := Y.mask [false]
      refine aw ?_
      refine ao Z Tryz.results58 (ah rfl ag) ?_
      exact ⟨by simp only [retv]; unfold Wsh.ok; simp [hb1, hb2, hb3, hb4, hb5], Y.ext⟩
     rw [hb5] at Z
     try simp only [qz] at hb5
     refine wln Z fun a Z => wln Z fun a Z => wln Z fun a Z => wlv Z (au rfl rfl) fun a Z => wla Z rfl fun a Z => ab (hK3 _ _ ?_)
     replace Z : Fr 33 [(2, _)] [] a := Z.pick [2]
     replace Y : St No w0 [] w6 := Y.mask [false]
     refine aw ?_
     refine ao Z Tryz.results58 (ah rfl ag) ?_
     exact ⟨by simp only [retv]; unfold Wsh.ok; simp [hb1, hb2, hb3, hb4, hb5], Y.ext⟩
    rw [hb4] at Z
    try simp only [qz] at hb4
    refine wln Z fun a Z => wln Z fun a Z => wln Z fun a Z => wlv Z (au rfl rfl) fun a Z => wlm Z rfl fun a Z => wln Z fun a Z => wln Z fun a Z => wln Z fun a Z => ?_
    refine wlv Z (au rfl rfl) fun a Z => wla Z rfl fun a Z => ab (hK3 _ _ ?_)
    replace Z : Fr 33 [(2, _)] [] a := Z.pick [2]
    replace Y : St No w0 [] w5 := Y.mask [false]
    refine aw ?_
    refine ao Z Tryz.results58 (ah rfl ag) ?_
    exact ⟨by simp only [retv]; unfold Wsh.ok; simp [hb1, hb2, hb3, hb4], Y.ext⟩
   rw [hb3] at Z
   try simp only [qz] at hb3
   refine wln Z fun a Z => wln Z fun a Z => wln Z fun a Z => wlv Z (au rfl rfl) fun a Z => wlm Z rfl fun a Z => wln Z fun a Z => wln Z fun a Z => wln Z fun a Z => ?_
   refine wlv Z (au rfl rfl) fun a Z => wlm Z rfl fun a Z => wln Z fun a Z => wln Z fun a Z => wln Z fun a Z => wlv Z (au rfl rfl) fun a Z => wla Z rfl fun a Z => ab (hK3 _ _ ?_)
   replace Z : Fr 33 [(2, _)] [] a := Z.pick [2]
   replace Y : St No w0 [] w4 := Y.mask [false]
   refine aw ?_
   refine ao Z Tryz.results58 (ah rfl ag) ?_
   exact ⟨by simp only [retv]; unfold Wsh.ok; simp [hb1, hb2, hb3], Y.ext⟩
  rw [hb2] at Z
  try simp only [qz] at hb2
  refine wln Z fun a Z => wln Z fun a Z => wln Z fun a Z => wlv Z (au rfl rfl) fun a Z => wlm Z rfl fun a Z => wln Z fun a Z => wln Z fun a Z => wln Z fun a Z => ?_
  refine wlv Z (au rfl rfl) fun a Z => wlm Z rfl fun a Z => wln Z fun a Z => wln Z fun a Z => wln Z fun a Z => wlv Z (au rfl rfl) fun a Z => wlm Z rfl fun a Z => wln Z fun a Z => wln Z fun a Z => ?_
  refine wln Z fun a Z => wlv Z (au rfl rfl) fun a Z => wla Z rfl fun a Z => ab (hK3 _ _ ?_)
  replace Z : Fr 33 [(2, _)] [] a := Z.pick [2]
  replace Y : St No w0 [] w3 := Y.mask [false]
  refine aw ?_
  refine ao Z Tryz.results58 (ah rfl ag) ?_
  exact ⟨by simp only [retv]; unfold Wsh.ok; simp [hb1, hb2], Y.ext⟩
 rw [hb1] at Z
 try simp only [qz] at hb1
 refine wln Z fun a Z => wln Z fun a Z => wln Z fun a Z => wlv Z (au rfl rfl) fun a Z => wla Z rfl fun a Z => ab (hK2 _ _ ?_)
 replace Z : Fr 33 [(1, _), (2, _), (3, _)] [] a := Z.pick [1, 2, 3]
 refine aa fun K4 hK4 => wlm Z rfl fun a Z => wlm Z rfl fun a Z => wln Z fun a Z => wln Z fun a Z => wln Z fun a Z => wlv Z (au rfl rfl) fun a Z => wlm Z rfl fun a Z => wln Z fun a Z => ?_
 refine wln Z fun a Z => wln Z fun a Z => wlv Z (au rfl rfl) fun a Z => wlm Z rfl fun a Z => wln Z fun a Z => wln Z fun a Z => wln Z fun a Z => wlv Z (au rfl rfl) fun a Z => wlm Z rfl fun a Z => ?_
 refine wln Z fun a Z => wln Z fun a Z => wln Z fun a Z => wlv Z (au rfl rfl) fun a Z => wla Z rfl fun a Z => ab (hK4 _ _ ?_)
 replace Z : Fr 33 [(2, _)] [] a := Z.pick [2]
 replace Y : St No w0 [] w2 := Y.mask [false]
 refine aw ?_
 refine ao Z Tryz.results58 (ah rfl ag) ?_
 exact ⟨by simp only [retv]; unfold Wsh.ok; simp [hb1], Y.ext⟩
set_option maxHeartbeats 4000000 in
theorem eF (x : Pxy) (w0 : World) :
  Ret Tryz.prog 73 #[.agg #[iv x.frm, iv x.to, iv x.rf, iv x.rt, iv x.sf, iv x.st, sv x.sig]] w0 fun v w => v = .bool x.ok ∧ Ext No w0 w := by
 refine aF Tryz.func73 rfl Tryz.ntmps73 (lb rfl) fun a Z => ?_
 replace Z : Fr 30 [(0, _)] [] a := Z
 replace Y : St No w0 [] w0 := St.init w0
 refine aa fun K1 hK1 => aY Z Y (by decide) rfl (cs := [iv x.frm, iv x.to, iv x.rf, iv x.rt, iv x.sf, iv x.st, sv x.sig]) rfl ?_
 clear Z Y
 intro a w1 Z Y
 refine wla Z rfl fun a Z => ab (hK1 _ _ ?_)
 refine aa fun K2 hK2 => wlv Z (ac (v := pt w0.heap.size) rfl (by kernel_rfl)) fun a Z => wlv Z (ae (Y.get (k := 0) rfl) rfl (Tryz.isAgg3 _) rfl) fun a Z => aA Z Y (by decide) Tryz.call60 rfl (bW x.frm 0 63 _) ?_
 clear Z Y
 intro a w2 Z Y
 refine wlm Z rfl fun a Z => ?_
 rcases Bool.eq_false_or_eq_true (inB x.frm 0 63) with hb1 | hb1
 ·rw [hb1] at Z
  try simp only [qz] at hb1
  refine wly Z (ac (v := .pointer (some ⟨w0.heap.size, 1, none⟩)) rfl (by kernel_rfl)) fun a Z => wly Z (ae (Y.get (k := 0) rfl) rfl (Tryz.isAgg3 _) rfl) fun a Z => aJ Z Y (by decide) rfl (by decide) rfl Tryz.call60 rfl (bW x.to 0 63 _) ?_
  clear Z Y
  intro a w3 Z Y
  refine wlv Z (az rfl rfl) fun a Z => wlm Z rfl fun a Z => ?_
  rcases Bool.eq_false_or_eq_true (inB x.to 0 63) with hb2 | hb2
  ·rw [hb2] at Z
   try simp only [qz] at hb2
   refine wly Z (ac (v := pt w0.heap.size) rfl (by kernel_rfl)) fun a Z => wly Z (ae (Y.get (k := 0) rfl) rfl (Tryz.isAgg3 _) rfl) fun a Z => wly Z (ac (v := .pointer (some ⟨w0.heap.size, 1, none⟩)) rfl (by kernel_rfl)) fun a Z => wly Z (ae (Y.get (k := 0) rfl) rfl (Tryz.isAgg3 _) rfl) fun a Z => wly Z (v_ne rfl rfl) fun a Z => wlv Z (az rfl rfl) fun a Z => wla Z rfl fun a Z => ab (hK2 _ _ ?_)
   replace Z : Fr 30 [(1, _), (2, _), (3, _)] [] a := Z.pick [1, 2, 3]
   refine aa fun K3 hK3 => wlm Z rfl fun a Z => wlm Z rfl fun a Z => ?_
   rcases Bool.eq_false_or_eq_true (!decide (x.frm = x.to)) with hb3 | hb3
   ·rw [hb3] at Z
    try simp only [qz] at hb3
    refine wly Z (ac (v := .pointer (some ⟨w0.heap.size, 2, none⟩)) rfl (by kernel_rfl)) fun a Z => wly Z (bT (ds := [iv x.rf, iv x.rt]) (Y.get (k := 0) rfl) rfl (Tryz.isAgg27 _) (Tryz.sizeOf27 _) rfl) fun a Z => aJ Z Y (by decide) rfl (by decide) rfl Tryz.call114 rfl (gU x.rf x.rt _) ?_
    clear Z Y
    intro a w4 Z Y
    refine wlv Z (az rfl rfl) fun a Z => wlm Z rfl fun a Z => ?_
    rcases Bool.eq_false_or_eq_true (bP x.rf x.rt) with hb4 | hb4
    ·rw [hb4] at Z
     try simp only [qz] at hb4
     refine wly Z (ac (v := .pointer (some ⟨w0.heap.size, 4, none⟩)) rfl (by kernel_rfl)) fun a Z => wly Z (bT (ds := [iv x.sf, iv x.st]) (Y.get (k := 0) rfl) rfl (Tryz.isAgg28 _) (Tryz.sizeOf28 _) rfl) fun a Z => aJ Z Y (by decide) rfl (by decide) rfl Tryz.call115 rfl (gD x.sf x.st _) ?_
     clear Z Y
     intro a w5 Z Y
     refine wlv Z (az rfl rfl) fun a Z => wla Z rfl fun a Z => ab (hK3 _ _ ?_)
     replace Z : Fr 30 [(2, _)] [] a := Z.pick [2]
     replace Y : St No w0 [] w5 := Y.mask [false]
     refine aw ?_
     refine ao Z Tryz.results73 (ah rfl ag) ?_
     exact ⟨by simp only [retv]; unfold Pxy.ok; simp [hb1, hb2, hb3, hb4], Y.ext⟩
    rw [hb4] at Z
    try simp only [qz] at hb4
    refine wln Z fun a Z => wln Z fun a Z => wln Z fun a Z => wlv Z (au rfl rfl) fun a Z => wla Z rfl fun a Z => ab (hK3 _ _ ?_)
    replace Z : Fr 30 [(2, _)] [] a := Z.pick [2]
    replace Y : St No w0 [] w4 := Y.mask [false]
    refine aw ?_
    refine ao Z Tryz.results73 (ah rfl ag) ?_
    exact ⟨by simp only [retv]; unfold Pxy.ok; simp [hb1, hb2, hb3, hb4], Y.ext⟩
   rw [hb3] at Z
   try simp only [qz] at hb3
   refine wln Z fun a Z => wln Z fun a Z => wln Z fun a Z => wlv Z (au rfl rfl) fun a Z => wlm Z rfl fun a Z => wln Z fun a Z => wln Z fun a Z => wln Z fun a Z => ?_
   refine wlv Z (au rfl rfl) fun a Z => wla Z rfl fun a Z => ab (hK3 _ _ ?_)
   replace Z : Fr 30 [(2, _)] [] a := Z.pick [2]
   replace Y : St No w0 [] w3 := Y.mask [false]
   refine aw ?_
   refine ao Z Tryz.results73 (ah rfl ag) ?_
   exact ⟨by simp only [retv]; unfold Pxy.ok; simp [hb1, hb2, hb3], Y.ext⟩
  rw [hb2] at Z
  try simp only [qz] at hb2
  refine wln Z fun a Z => wln Z fun a Z => wln Z fun a Z => wln Z fun a Z => wln Z fun a Z => wlv Z (au rfl rfl) fun a Z => wla Z rfl fun a Z => ab (hK2 _ _ ?_)
  replace Z : Fr 30 [(1, _), (2, _), (3, _)] [] a := Z.pick [1, 2, 3]
  refine aa fun K4 hK4 => wlm Z rfl fun a Z => wlm Z rfl fun a Z => wln Z fun a Z => wln Z fun a Z => wln Z fun a Z => wlv Z (au rfl rfl) fun a Z => wlm Z rfl fun a Z => wln Z fun a Z => ?_
  refine wln Z fun a Z => wln Z fun a Z => wlv Z (au rfl rfl) fun a Z => wla Z rfl fun a Z => ab (hK4 _ _ ?_)
  replace Z : Fr 30 [(2, _)] [] a := Z.pick [2]
  replace Y : St No w0 [] w3 := Y.mask [false]
  refine aw ?_
  refine ao Z Tryz.results73 (ah rfl ag) ?_
  exact ⟨by simp only [retv]; unfold Pxy.ok; simp [hb1, hb2], Y.ext⟩
 rw [hb1] at Z
 try simp only [qz] at hb1
 refine wln Z fun a Z => wln Z fun a Z => wln Z fun a Z => wlv Z (au rfl rfl) fun a Z => wlm Z rfl fun a Z => wln Z fun a Z => wln Z fun a Z => wln Z fun a Z => ?_
 refine wln Z fun a Z => wln Z fun a Z => wlv Z (au rfl rfl) fun a Z => wla Z rfl fun a Z => ab (hK2 _ _ ?_)
 replace Z : Fr 30 [(1, _), (2, _), (3, _)] [] a := Z.pick [1, 2, 3]
 refine aa fun K5 hK5 => wlm Z rfl fun a Z => wlm Z rfl fun a Z => wln Z fun a Z => wln Z fun a Z => wln Z fun a Z => wlv Z (au rfl rfl) fun a Z => wlm Z rfl fun a Z => wln Z fun a Z => ?_
 refine wln Z fun a Z => wln Z fun a Z => wlv Z (au rfl rfl) fun a Z => wla Z rfl fun a Z => ab (hK5 _ _ ?_)
 replace Z : Fr 30 [(2, _)] [] a := Z.pick [2]
 replace Y : St No w0 [] w2 := Y.mask [false]
 refine aw ?_
 refine ao Z Tryz.results73 (ah rfl ag) ?_
 exact ⟨by simp only [retv]; unfold Pxy.ok; simp [hb1], Y.ext⟩
theorem oL {M : Nat → Prop} {w0 : World} (b bx : Nat) (v : Value) (x : Wsh) (ws : World) (hx : smalls x.nums) (Y : St M w0 [bld 133 b (.pointer none) v ([] : By), blk bx [iv x.signer, iv x.holder, iv x.rf, iv x.rt, iv x.carrier, iv x.serial, iv x.sf, iv x.st, sv x.sig] 30] ws) :
  Ret Tryz.prog 72 #[pt b, pt bx] ws fun u w => u = .tuple #[] ∧ ∃ v2, St M w0 [bld 133 b (pt b) v2 x.content, blk bx [iv x.signer, iv x.holder, iv x.rf, iv x.rt, iv x.carrier, iv x.serial, iv x.sf, iv x.st, sv x.sig] 30] w := by
 refine aF Tryz.func72 rfl Tryz.ntmps72 (lb rfl) fun a Z => ?_
 replace Z : Fr 6 [(0, _), (1, _)] [] a := Z
 skip
 refine am <| wlm Z rfl fun a Z => wlv Z (ar (Y.get (k := 1) rfl) rfl (Tryz.isAgg30 _) (Tryz.sizeOf30 _)) fun a Z => aV (R := fun u e' => u = .tuple #[] ∧ ∃ v2, e' = bld 133 b (pt b) v2 (([] : By) ++ x.content)) 0 Z Y rfl (by decide) Tryz.call67 rfl (fun h => (gQ 133 b _ _ _ x _ (by kernel_rfl) (.inl rfl) hx (by simp) h).mono fun u w ⟨h1, v2, h2⟩ => ⟨_, ⟨h1, v2, rfl⟩, h2⟩) ?_
 clear Z Y
 rintro a w1 _ _ ⟨rfl, v1, rfl⟩ Z Y
 replace Y : St M w0 [bld 133 b (pt b) v1 (([] : By) ++ x.content), blk bx [iv x.signer, iv x.holder, iv x.rf, iv x.rt, iv x.carrier, iv x.serial, iv x.sf, iv x.st, sv x.sig] 30] w1 := Y
 refine ab ?_
 refine cA Z Tryz.results72 ag ?_
 exact ⟨rfl, _, Y.select [0, 1] (by decide)⟩
theorem oF {M : Nat → Prop} {w0 : World} (b bx : Nat) (v : Value) (x : Pxy) (ws : World) (hx : smalls x.nums) (Y : St M w0 [bld 133 b (.pointer none) v ([] : By), blk bx [iv x.frm, iv x.to, iv x.rf, iv x.rt, iv x.sf, iv x.st, sv x.sig] 40] ws) :
  Ret Tryz.prog 74 #[pt b, pt bx] ws fun u w => u = .tuple #[] ∧ ∃ v2, St M w0 [bld 133 b (pt b) v2 x.content, blk bx [iv x.frm, iv x.to, iv x.rf, iv x.rt, iv x.sf, iv x.st, sv x.sig] 40] w := by
 refine aF Tryz.func74 rfl Tryz.ntmps74 (lb rfl) fun a Z => ?_
 replace Z : Fr 6 [(0, _), (1, _)] [] a := Z
 skip
 refine am <| wlm Z rfl fun a Z => wlv Z (ar (Y.get (k := 1) rfl) rfl (Tryz.isAgg40 _) (Tryz.sizeOf40 _)) fun a Z => aV (R := fun u e' => u = .tuple #[] ∧ ∃ v2, e' = bld 133 b (pt b) v2 (([] : By) ++ x.content)) 0 Z Y rfl (by decide) Tryz.call65 rfl (fun h => (fy 133 b _ _ _ x _ (by kernel_rfl) (.inl rfl) hx (by simp) h).mono fun u w ⟨h1, v2, h2⟩ => ⟨_, ⟨h1, v2, rfl⟩, h2⟩) ?_
 clear Z Y
 rintro a w1 _ _ ⟨rfl, v1, rfl⟩ Z Y
 replace Y : St M w0 [bld 133 b (pt b) v1 (([] : By) ++ x.content), blk bx [iv x.frm, iv x.to, iv x.rf, iv x.rt, iv x.sf, iv x.st, sv x.sig] 40] w1 := Y
 refine ab ?_
 refine cA Z Tryz.results74 ag ?_
 exact ⟨rfl, _, Y.select [0, 1] (by decide)⟩
theorem pr {M : Nat → Prop} {w0 : World} (b bx : Nat) (v : Value) (x : Pxy) (ws : World) (hx : smalls x.nums) (Y : St M w0 [bld 133 b (.pointer none) v ([] : By), blk bx [iv x.frm, iv x.to, iv x.rf, iv x.rt, iv x.sf, iv x.st, sv x.sig] 40] ws) :
  Ret Tryz.prog 64 #[pt b, pt bx] ws fun u w => u = .tuple #[] ∧ ∃ v2, St M w0 [bld 133 b (pt b) v2 x.content, blk bx [iv x.frm, iv x.to, iv x.rf, iv x.rt, iv x.sf, iv x.st, sv x.sig] 40] w := by
 refine aF Tryz.func64 rfl Tryz.ntmps64 (lb rfl) fun a Z => ?_
 replace Z : Fr 6 [(0, _), (1, _)] [] a := Z
 skip
 refine am <| wlm Z rfl fun a Z => wlv Z (ar (Y.get (k := 1) rfl) rfl (Tryz.isAgg40 _) (Tryz.sizeOf40 _)) fun a Z => aV (R := fun u e' => u = .tuple #[] ∧ ∃ v2, e' = bld 133 b (pt b) v2 (([] : By) ++ x.content)) 0 Z Y rfl (by decide) Tryz.call65 rfl (fun h => (fy 133 b _ _ _ x _ (by kernel_rfl) (.inl rfl) hx (by simp) h).mono fun u w ⟨h1, v2, h2⟩ => ⟨_, ⟨h1, v2, rfl⟩, h2⟩) ?_
 clear Z Y
 rintro a w1 _ _ ⟨rfl, v1, rfl⟩ Z Y
 replace Y : St M w0 [bld 133 b (pt b) v1 (([] : By) ++ x.content), blk bx [iv x.frm, iv x.to, iv x.rf, iv x.rt, iv x.sf, iv x.st, sv x.sig] 40] w1 := Y
 refine ab ?_
 refine cA Z Tryz.results64 ag ?_
 exact ⟨rfl, _, Y.select [0, 1] (by decide)⟩
theorem pg {M : Nat → Prop} {w0 : World} (b bx : Nat) (v : Value) (x : Wsh) (ws : World) (hx : smalls x.nums) (Y : St M w0 [bld 133 b (.pointer none) v ([] : By), blk bx [iv x.signer, iv x.holder, iv x.rf, iv x.rt, iv x.carrier, iv x.serial, iv x.sf, iv x.st, sv x.sig] 30] ws) :
  Ret Tryz.prog 66 #[pt b, pt bx] ws fun u w => u = .tuple #[] ∧ ∃ v2, St M w0 [bld 133 b (pt b) v2 x.content, blk bx [iv x.signer, iv x.holder, iv x.rf, iv x.rt, iv x.carrier, iv x.serial, iv x.sf, iv x.st, sv x.sig] 30] w := by
 refine aF Tryz.func66 rfl Tryz.ntmps66 (lb rfl) fun a Z => ?_
 replace Z : Fr 6 [(0, _), (1, _)] [] a := Z
 skip
 refine am <| wlm Z rfl fun a Z => wlv Z (ar (Y.get (k := 1) rfl) rfl (Tryz.isAgg30 _) (Tryz.sizeOf30 _)) fun a Z => aV (R := fun u e' => u = .tuple #[] ∧ ∃ v2, e' = bld 133 b (pt b) v2 (([] : By) ++ x.content)) 0 Z Y rfl (by decide) Tryz.call67 rfl (fun h => (gQ 133 b _ _ _ x _ (by kernel_rfl) (.inl rfl) hx (by simp) h).mono fun u w ⟨h1, v2, h2⟩ => ⟨_, ⟨h1, v2, rfl⟩, h2⟩) ?_
 clear Z Y
 rintro a w1 _ _ ⟨rfl, v1, rfl⟩ Z Y
 replace Y : St M w0 [bld 133 b (pt b) v1 (([] : By) ++ x.content), blk bx [iv x.signer, iv x.holder, iv x.rf, iv x.rt, iv x.carrier, iv x.serial, iv x.sf, iv x.st, sv x.sig] 30] w1 := Y
 refine ab ?_
 refine cA Z Tryz.results66 ag ?_
 exact ⟨rfl, _, Y.select [0, 1] (by decide)⟩
theorem ew {n : Int} {l : List Int} : puts (n :: l) ≠ [] := fun h => by
 have := (dr n).1
 simp only [puts, List.flatMap_cons, List.append_eq_nil_iff] at h
 rw [h.1] at this; simp at this
theorem fK (key : By) (x : Wsh) (w0 : World) (hk : key.length = 32) (hok : x.ok = true) (hk0 : (blk 0 (kOf.map wv) 239).ok w0) :
  Ret Tryz.prog 22 #[sv key, .agg #[iv x.signer, iv x.holder, iv x.rf, iv x.rt, iv x.carrier, iv x.serial, iv x.sf, iv x.st, sv x.sig]] w0 fun v w => v = .tuple #[.agg (x.sealed key).cells.toArray, iv 0] ∧ Ext No w0 w := by
 refine aF Tryz.func22 rfl Tryz.ntmps22 (lb rfl) fun a Z => ?_
 replace Z : Fr 20 [(0, _), (1, _)] [] a := Z
 replace Y : St (· = 0) w0 [blk 0 (kOf.map wv) 239] w0 := St.one hk0
 refine aa fun K1 hK1 => aY Z Y (by decide) rfl (cs := [iv x.signer, iv x.holder, iv x.rf, iv x.rt, iv x.carrier, iv x.serial, iv x.sf, iv x.st, sv x.sig]) rfl ?_
 clear Z Y
 intro a w1 Z Y
 refine aK Z Y (by decide) (Tryz.zeroValue30 _) (cs := [iv 0, iv 0, iv 0, iv 0, iv 0, iv 0, iv 0, iv 0, .string (⟨#[]⟩)]) rfl ?_
 clear Z Y
 intro a w2 Z Y
 refine wla Z rfl fun a Z => ab (hK1 _ _ ?_)
 refine ai fun K2 hK2 => aa fun K3 hK3 => wlm Z rfl fun a Z => aA Z Y (by decide) Tryz.call56 rfl (dh key _) ?_
 clear Z Y
 intro a w3 Z Y
 refine wlv Z (bS rfl) fun a Z => wlm Z rfl fun a Z => ?_
 rcases Bool.eq_false_or_eq_true (!(decide ((key.length : Int) = 32))) with hb1 | hb1
 ·rw [hb1] at Z
  try simp only [qz] at hb1
  exfalso; omega
 rw [hb1] at Z
 try simp only [qz] at hb1
 refine wly Z (ar (Y.get (k := 1) rfl) rfl (Tryz.isAgg30 _) (Tryz.sizeOf30 _)) fun a Z => aJ Z Y (by decide) rfl (by decide) rfl Tryz.call58 rfl (ep x _) ?_
 clear Z Y
 intro a w4 Z Y
 refine wly Z (bS rfl) fun a Z => wlv Z (au rfl rfl) fun a Z => ab (hK3 _ _ ?_)
 replace Z : Fr 20 [(0, _), (3, _), (4, _), (5, _), (13, _)] [] a := Z.pick [0, 3, 4, 5, 13]
 refine ay Z rfl (fun hc2 => ?_) (fun hc2 => ?_)
 ·rw [hc2] at Z
  try simp only [qz] at hc2
  simp [hok] at hc2
 rw [hc2] at Z
 try simp only [qz] at hc2
 refine ax ?_
 refine hK2 _ _ ?_
 refine aa fun K4 hK4 => wlm Z rfl fun a Z => wlv Z (cl rfl rfl) fun a Z => ?_
 replace Y : St (· = 0) w0 [blk 0 (kOf.map wv) 239, blk w0.heap.size [iv x.signer, iv x.holder, iv x.rf, iv x.rt, iv x.carrier, iv x.serial, iv x.sf, iv x.st, sv x.sig] 30, blk w1.heap.size [iv 0, iv 0, iv 0, iv 0, iv 0, iv 0, iv 0, iv 0, .string (⟨#[]⟩)] 30] w4 := Y.select [2, 1, 0] (by decide)
 replace Y := St.join [blk 0 (kOf.map wv) 239, blk w0.heap.size [iv x.signer, iv x.holder, iv x.rf, iv x.rt, iv x.carrier, iv x.serial, iv x.sf, iv x.st, sv x.sig] 30] [blk w1.heap.size [iv 0, iv 0, iv 0, iv 0, iv 0, iv 0, iv 0, iv 0, .string (⟨#[]⟩)] 30] Y
 refine aV (R := fun u e' => u = sv (sealH key x.content) ∧ e' = join [blk 0 (kOf.map wv) 239, blk w0.heap.size [iv x.signer, iv x.holder, iv x.rf, iv x.rt, iv x.carrier, iv x.serial, iv x.sf, iv x.st, sv x.sig] 30]) 0 Z Y rfl (by decide) Tryz.call63 rfl (fun h => (fY key x.content 72 [pt w0.heap.size] (blk w0.heap.size [iv x.signer, iv x.holder, iv x.rf, iv x.rt, iv x.carrier, iv x.serial, iv x.sf, iv x.st, sv x.sig] 30) _ Tryz.call72 (fun b v ws h => oL b _ v x ws (Wsh.smalls_of hok) h) ew (by omega) (Nat.le_trans x.content_len (by decide)) (St.unjoin [blk 0 (kOf.map wv) 239, blk w0.heap.size [iv x.signer, iv x.holder, iv x.rf, iv x.rt, iv x.carrier, iv x.serial, iv x.sf, iv x.st, sv x.sig] 30] [] h)).mono fun u w ⟨h1, h2⟩ => ⟨_, ⟨h1, rfl⟩, St.join _ [] h2⟩) ?_
 clear Z Y
 rintro a w5 _ _ ⟨rfl, rfl⟩ Z Y
 replace Y : St (· = 0) w0 [blk 0 (kOf.map wv) 239, blk w0.heap.size [iv x.signer, iv x.holder, iv x.rf, iv x.rt, iv x.carrier, iv x.serial, iv x.sf, iv x.st, sv x.sig] 30, blk w1.heap.size [iv 0, iv 0, iv 0, iv 0, iv 0, iv 0, iv 0, iv 0, .string (⟨#[]⟩)] 30] w5 := St.unjoin [blk 0 (kOf.map wv) 239, blk w0.heap.size [iv x.signer, iv x.holder, iv x.rf, iv x.rt, iv x.carrier, iv x.serial, iv x.sf, iv x.st, sv x.sig] 30] [blk w1.heap.size [iv 0, iv 0, iv 0, iv 0, iv 0, iv 0, iv 0, iv 0, .string (⟨#[]⟩)] 30] Y
 refine wlv Z (ac (v := .pointer (some ⟨w0.heap.size, 8, none⟩)) rfl (by kernel_rfl)) fun a Z => ap 1 Z Y rfl rfl rfl (Tryz.sizeOf9 _) rfl (lb rfl) (ds := [iv x.signer, iv x.holder, iv x.rf, iv x.rt, iv x.carrier, iv x.serial, iv x.sf, iv x.st, sv (sealH key x.content)]) rfl rfl ?_
 clear Z Y
 intro a w6 Z Y
 refine ab (hK4 _ _ ?_)
 replace Z : Fr 20 [(3, _), (4, _), (5, _)] [] a := Z.pick [3, 4, 5]
 refine aa fun K5 hK5 => wlv Z (ar (Y.get (k := 1) rfl) rfl (Tryz.isAgg30 _) (Tryz.sizeOf30 _)) fun a Z => ap 2 Z Y rfl rfl rfl (Tryz.sizeOf30 _) rfl (lb rfl) (ds := [iv x.signer, iv x.holder, iv x.rf, iv x.rt, iv x.carrier, iv x.serial, iv x.sf, iv x.st, sv (sealH key x.content)]) rfl rfl ?_
 clear Z Y
 intro a w7 Z Y
 refine wla Z rfl fun a Z => ab (hK5 _ _ ?_)
 refine aw ?_
 refine ao Z Tryz.results22 (aj rfl (ba (Y.get (k := 2) rfl) (Tryz.isAgg30 _) (Tryz.sizeOf30 _)) (ah rfl ag)) ?_
 exact ⟨rfl, Y.ext.const hk0 (Y.get (k := 0) rfl)⟩
theorem jj (key : By) (x : Wsh) (w0 : World) (hk : key.length = 32) (hok : x.ok = false) (hk0 : (blk 0 (kOf.map wv) 239).ok w0) :
  Ret Tryz.prog 22 #[sv key, .agg #[iv x.signer, iv x.holder, iv x.rf, iv x.rt, iv x.carrier, iv x.serial, iv x.sf, iv x.st, sv x.sig]] w0 fun v w => v = .tuple #[.agg #[iv 0, iv 0, iv 0, iv 0, iv 0, iv 0, iv 0, iv 0, .string (⟨#[]⟩)], iv 150] ∧ Ext No w0 w := by
 refine aF Tryz.func22 rfl Tryz.ntmps22 (lb rfl) fun a Z => ?_
 replace Z : Fr 20 [(0, _), (1, _)] [] a := Z
 replace Y : St (· = 0) w0 [blk 0 (kOf.map wv) 239] w0 := St.one hk0
 refine aa fun K1 hK1 => aY Z Y (by decide) rfl (cs := [iv x.signer, iv x.holder, iv x.rf, iv x.rt, iv x.carrier, iv x.serial, iv x.sf, iv x.st, sv x.sig]) rfl ?_
 clear Z Y
 intro a w1 Z Y
 refine aK Z Y (by decide) (Tryz.zeroValue30 _) (cs := [iv 0, iv 0, iv 0, iv 0, iv 0, iv 0, iv 0, iv 0, .string (⟨#[]⟩)]) rfl ?_
 clear Z Y
 intro a w2 Z Y
 refine wla Z rfl fun a Z => ab (hK1 _ _ ?_)
 refine ai fun K2 hK2 => aa fun K3 hK3 => wlm Z rfl fun a Z => aA Z Y (by decide) Tryz.call56 rfl (dh key _) ?_
 clear Z Y
 intro a w3 Z Y
 refine wlv Z (bS rfl) fun a Z => wlm Z rfl fun a Z => ?_
 rcases Bool.eq_false_or_eq_true (!(decide ((key.length : Int) = 32))) with hb1 | hb1
 ·rw [hb1] at Z
  try simp only [qz] at hb1
  exfalso; omega
 rw [hb1] at Z
 try simp only [qz] at hb1
 refine wly Z (ar (Y.get (k := 1) rfl) rfl (Tryz.isAgg30 _) (Tryz.sizeOf30 _)) fun a Z => aJ Z Y (by decide) rfl (by decide) rfl Tryz.call58 rfl (ep x _) ?_
 clear Z Y
 intro a w4 Z Y
 refine wly Z (bS rfl) fun a Z => wlv Z (au rfl rfl) fun a Z => ab (hK3 _ _ ?_)
 replace Z : Fr 20 [(0, _), (3, _), (4, _), (5, _), (13, _)] [] a := Z.pick [0, 3, 4, 5, 13]
 refine ay Z rfl (fun hc2 => ?_) (fun hc2 => ?_)
 ·rw [hc2] at Z
  try simp only [qz] at hc2
  refine aa fun K4 hK4 => wlv Z (bC (v := .agg #[iv 0, iv 0, iv 0, iv 0, iv 0, iv 0, iv 0, iv 0, .string (⟨#[]⟩)]) rfl (by kernel_rfl)) fun a Z => ap 0 Z Y rfl rfl rfl (Tryz.sizeOf30 _) rfl (lb rfl) (ds := [iv 0, iv 0, iv 0, iv 0, iv 0, iv 0, iv 0, iv 0, .string (⟨#[]⟩)]) rfl rfl ?_
  clear Z Y
  intro a w5 Z Y
  refine wla Z rfl fun a Z => ab (hK4 _ _ ?_)
  refine aw ?_
  refine ao Z Tryz.results22 (aj rfl (ba (Y.get (k := 0) rfl) (Tryz.isAgg30 _) (Tryz.sizeOf30 _)) (ah rfl ag)) ?_
  exact ⟨rfl, Y.ext.const hk0 (Y.get (k := 2) rfl)⟩
 rw [hc2] at Z
 try simp only [qz] at hc2
 simp [hok] at hc2
theorem fo (key : By) (x : Pxy) (w0 : World) (hk : key.length = 32) (hok : x.ok = true) (hk0 : (blk 0 (kOf.map wv) 239).ok w0) :
  Ret Tryz.prog 24 #[sv key, .agg #[iv x.frm, iv x.to, iv x.rf, iv x.rt, iv x.sf, iv x.st, sv x.sig]] w0 fun v w => v = .tuple #[.agg (x.sealed key).cells.toArray, iv 0] ∧ Ext No w0 w := by
 refine aF Tryz.func24 rfl Tryz.ntmps24 (lb rfl) fun a Z => ?_
 replace Z : Fr 20 [(0, _), (1, _)] [] a := Z
 replace Y : St (· = 0) w0 [blk 0 (kOf.map wv) 239] w0 := St.one hk0
 refine aa fun K1 hK1 => aY Z Y (by decide) rfl (cs := [iv x.frm, iv x.to, iv x.rf, iv x.rt, iv x.sf, iv x.st, sv x.sig]) rfl ?_
 clear Z Y
 intro a w1 Z Y
 refine aK Z Y (by decide) (Tryz.zeroValue40 _) (cs := [iv 0, iv 0, iv 0, iv 0, iv 0, iv 0, .string (⟨#[]⟩)]) rfl ?_
 clear Z Y
 intro a w2 Z Y
 refine wla Z rfl fun a Z => ab (hK1 _ _ ?_)
 refine ai fun K2 hK2 => aa fun K3 hK3 => wlm Z rfl fun a Z => aA Z Y (by decide) Tryz.call56 rfl (dh key _) ?_
 clear Z Y
 intro a w3 Z Y
 refine wlv Z (bS rfl) fun a Z => wlm Z rfl fun a Z => ?_
 rcases Bool.eq_false_or_eq_true (!(decide ((key.length : Int) = 32))) with hb1 | hb1
 ·rw [hb1] at Z
  try simp only [qz] at hb1
  exfalso; omega
 rw [hb1] at Z
 try simp only [qz] at hb1
 refine wly Z (ar (Y.get (k := 1) rfl) rfl (Tryz.isAgg40 _) (Tryz.sizeOf40 _)) fun a Z => aJ Z Y (by decide) rfl (by decide) rfl Tryz.call73 rfl (eF x _) ?_
 clear Z Y
 intro a w4 Z Y
 refine wly Z (bS rfl) fun a Z => wlv Z (au rfl rfl) fun a Z => ab (hK3 _ _ ?_)
 replace Z : Fr 20 [(0, _), (3, _), (4, _), (5, _), (13, _)] [] a := Z.pick [0, 3, 4, 5, 13]
 refine ay Z rfl (fun hc2 => ?_) (fun hc2 => ?_)
 ·rw [hc2] at Z
  try simp only [qz] at hc2
  simp [hok] at hc2
 rw [hc2] at Z
 try simp only [qz] at hc2
 refine ax ?_
 refine hK2 _ _ ?_
 refine aa fun K4 hK4 => wlm Z rfl fun a Z => wlv Z (cl rfl rfl) fun a Z => ?_
 replace Y : St (· = 0) w0 [blk 0 (kOf.map wv) 239, blk w0.heap.size [iv x.frm, iv x.to, iv x.rf, iv x.rt, iv x.sf, iv x.st, sv x.sig] 40, blk w1.heap.size [iv 0, iv 0, iv 0, iv 0, iv 0, iv 0, .string (⟨#[]⟩)] 40] w4 := Y.select [2, 1, 0] (by decide)
 replace Y := St.join [blk 0 (kOf.map wv) 239, blk w0.heap.size [iv x.frm, iv x.to, iv x.rf, iv x.rt, iv x.sf, iv x.st, sv x.sig] 40] [blk w1.heap.size [iv 0, iv 0, iv 0, iv 0, iv 0, iv 0, .string (⟨#[]⟩)] 40] Y
 refine aV (R := fun u e' => u = sv (sealH key x.content) ∧ e' = join [blk 0 (kOf.map wv) 239, blk w0.heap.size [iv x.frm, iv x.to, iv x.rf, iv x.rt, iv x.sf, iv x.st, sv x.sig] 40]) 0 Z Y rfl (by decide) Tryz.call63 rfl (fun h => (fY key x.content 74 [pt w0.heap.size] (blk w0.heap.size [iv x.frm, iv x.to, iv x.rf, iv x.rt, iv x.sf, iv x.st, sv x.sig] 40) _ Tryz.call74 (fun b v ws h => oF b _ v x ws (Pxy.smalls_of hok) h) ew (by omega) (Nat.le_trans x.content_len (by decide)) (St.unjoin [blk 0 (kOf.map wv) 239, blk w0.heap.size [iv x.frm, iv x.to, iv x.rf, iv x.rt, iv x.sf, iv x.st, sv x.sig] 40] [] h)).mono fun u w ⟨h1, h2⟩ => ⟨_, ⟨h1, rfl⟩, St.join _ [] h2⟩) ?_
 clear Z Y
 rintro a w5 _ _ ⟨rfl, rfl⟩ Z Y
 replace Y : St (· = 0) w0 [blk 0 (kOf.map wv) 239, blk w0.heap.size [iv x.frm, iv x.to, iv x.rf, iv x.rt, iv x.sf, iv x.st, sv x.sig] 40, blk w1.heap.size [iv 0, iv 0, iv 0, iv 0, iv 0, iv 0, .string (⟨#[]⟩)] 40] w5 := St.unjoin [blk 0 (kOf.map wv) 239, blk w0.heap.size [iv x.frm, iv x.to, iv x.rf, iv x.rt, iv x.sf, iv x.st, sv x.sig] 40] [blk w1.heap.size [iv 0, iv 0, iv 0, iv 0, iv 0, iv 0, .string (⟨#[]⟩)] 40] Y
 refine wlv Z (ac (v := .pointer (some ⟨w0.heap.size, 6, none⟩)) rfl (by kernel_rfl)) fun a Z => ap 1 Z Y rfl rfl rfl (Tryz.sizeOf9 _) rfl (lb rfl) (ds := [iv x.frm, iv x.to, iv x.rf, iv x.rt, iv x.sf, iv x.st, sv (sealH key x.content)]) rfl rfl ?_
 clear Z Y
 intro a w6 Z Y
 refine ab (hK4 _ _ ?_)
 replace Z : Fr 20 [(3, _), (4, _), (5, _)] [] a := Z.pick [3, 4, 5]
 refine aa fun K5 hK5 => wlv Z (ar (Y.get (k := 1) rfl) rfl (Tryz.isAgg40 _) (Tryz.sizeOf40 _)) fun a Z => ap 2 Z Y rfl rfl rfl (Tryz.sizeOf40 _) rfl (lb rfl) (ds := [iv x.frm, iv x.to, iv x.rf, iv x.rt, iv x.sf, iv x.st, sv (sealH key x.content)]) rfl rfl ?_
 clear Z Y
 intro a w7 Z Y
 refine wla Z rfl fun a Z => ab (hK5 _ _ ?_)
 refine aw ?_
 refine ao Z Tryz.results24 (aj rfl (ba (Y.get (k := 2) rfl) (Tryz.isAgg40 _) (Tryz.sizeOf40 _)) (ah rfl ag)) ?_
 exact ⟨rfl, Y.ext.const hk0 (Y.get (k := 0) rfl)⟩
theorem ii (key : By) (x : Pxy) (w0 : World) (hk : key.length = 32) (hok : x.ok = false) (hk0 : (blk 0 (kOf.map wv) 239).ok w0) :
  Ret Tryz.prog 24 #[sv key, .agg #[iv x.frm, iv x.to, iv x.rf, iv x.rt, iv x.sf, iv x.st, sv x.sig]] w0 fun v w => v = .tuple #[.agg #[iv 0, iv 0, iv 0, iv 0, iv 0, iv 0, .string (⟨#[]⟩)], iv 150] ∧ Ext No w0 w := by
 refine aF Tryz.func24 rfl Tryz.ntmps24 (lb rfl) fun a Z => ?_
 replace Z : Fr 20 [(0, _), (1, _)] [] a := Z
 replace Y : St (· = 0) w0 [blk 0 (kOf.map wv) 239] w0 := St.one hk0
 refine aa fun K1 hK1 => aY Z Y (by decide) rfl (cs := [iv x.frm, iv x.to, iv x.rf, iv x.rt, iv x.sf, iv x.st, sv x.sig]) rfl ?_
 clear Z Y
 intro a w1 Z Y
 refine aK Z Y (by decide) (Tryz.zeroValue40 _) (cs := [iv 0, iv 0, iv 0, iv 0, iv 0, iv 0, .string (⟨#[]⟩)]) rfl ?_
 clear Z Y
 intro a w2 Z Y
 refine wla Z rfl fun a Z => ab (hK1 _ _ ?_)
 refine ai fun K2 hK2 => aa fun K3 hK3 => wlm Z rfl fun a Z => aA Z Y (by decide) Tryz.call56 rfl (dh key _) ?_
 clear Z Y
 intro a w3 Z Y
 refine wlv Z (bS rfl) fun a Z => wlm Z rfl fun a Z => ?_
 rcases Bool.eq_false_or_eq_true (!(decide ((key.length : Int) = 32))) with hb1 | hb1
 ·rw [hb1] at Z
  try simp only [qz] at hb1
  exfalso; omega
 rw [hb1] at Z
 try simp only [qz] at hb1
 refine wly Z (ar (Y.get (k := 1) rfl) rfl (Tryz.isAgg40 _) (Tryz.sizeOf40 _)) fun a Z => aJ Z Y (by decide) rfl (by decide) rfl Tryz.call73 rfl (eF x _) ?_
 clear Z Y
 intro a w4 Z Y
 refine wly Z (bS rfl) fun a Z => wlv Z (au rfl rfl) fun a Z => ab (hK3 _ _ ?_)
 replace Z : Fr 20 [(0, _), (3, _), (4, _), (5, _), (13, _)] [] a := Z.pick [0, 3, 4, 5, 13]
 refine ay Z rfl (fun hc2 => ?_) (fun hc2 => ?_)
 ·rw [hc2] at Z
  try simp only [qz] at hc2
  refine aa fun K4 hK4 => wlv Z (bC (v := .agg #[iv 0, iv 0, iv 0, iv 0, iv 0, iv 0, .string (⟨#[]⟩)]) rfl (by kernel_rfl)) fun a Z => ap 0 Z Y rfl rfl rfl (Tryz.sizeOf40 _) rfl (lb rfl) (ds := [iv 0, iv 0, iv 0, iv 0, iv 0, iv 0, .string (⟨#[]⟩)]) rfl rfl ?_
  clear Z Y
  intro a w5 Z Y
  refine wla Z rfl fun a Z => ab (hK4 _ _ ?_)
  refine aw ?_
  refine ao Z Tryz.results24 (aj rfl (ba (Y.get (k := 0) rfl) (Tryz.isAgg40 _) (Tryz.sizeOf40 _)) (ah rfl ag)) ?_
  exact ⟨rfl, Y.ext.const hk0 (Y.get (k := 2) rfl)⟩
 rw [hc2] at Z
 try simp only [qz] at hc2
 simp [hok] at hc2
end Go.Proofs.YtmmfieceinmloaaGreatDoor
namespace Go.Proofs.YtmmfieceinmloaaGreatDoor
open Go.RowKit Go.PW
set_option linter.unusedVariables false
set_option linter.unusedSimpArgs false
set_option maxRecDepth 4000
theorem iE {M : Nat → Prop} {wb : World} {H : List Ent} {sv : Value} {els : List (List Value)} {caps : List Value} {g : FuncId} (p : Nat → Bool) (ev_ : Nat → Value) (J : Nat → Ent → Prop) (e0 : Ent) (w0 : World)
  (hen : ∀ args w, (callFunc g args).run Tryz.prog w = .ok (.enter g args) w) (hs : ∀ e w, St M wb (e :: H) w → SlAt w sv 7 els)
  (hev : ∀ k (h : k < els.length), .agg (els[k]).toArray = ev_ k) (hJ0 : J 0 e0) (Y : St M wb (e0 :: H) w0)
  (hcl : ∀ k e w, k < els.length → J k e → e.ok w → (∀ b, e.foot b → b < w.heap.size) → Ret Tryz.prog g ([ev_ k] ++ caps).toArray w fun v w' => v = .bool (p k) ∧ ∃ e', Ext e.foot w w' ∧ e'.ok w' ∧ (∀ b, e'.foot b → b < w'.heap.size ∧ (e.foot b ∨ w.heap.size ≤ b)) ∧ J (k + 1) e') :
  Ret Tryz.prog 116 #[sv, .func (.func g) #[] caps.toArray] w0 fun v w => v = iv (fstIdx p els.length) ∧ ∃ k e', J k e' ∧ St M wb (e' :: H) w := by
 have hsl := (hs _ _ Y).le
 refine aF Tryz.func116 rfl Tryz.ntmps116 (lb rfl) fun a Z => ?_
 have Z : Fr 19 [(0, _), (1, _)] [] a := Z
 refine aa fun K1 hK1 => wla Z rfl fun a Z => ab (hK1 _ _ ?_)
 refine ai fun K2 hK2 => aa fun K3 hK3 => wlm Z rfl fun a Z => wlv Z (aN (sT := 31) (hs _ _ Y) rfl rfl (Tryz.runUnderlying31 _)) fun a Z => wlm Z rfl fun a Z => ab (hK3 _ _ ?_)
 refine aq <| aW (fun m a w => ∃ (k : Nat) (e : Ent), m = els.length - k ∧ (k ≤ els.length) ∧ (∀ j, j < k → p j = false) ∧ (J k e) ∧ Fr 19 [(0, sv), (1, .func (.func g) #[] caps.toArray), (6, sv), (7, iv els.length), (8, iv (k : Int))] [] a ∧ St M wb (e :: H) w) _ ⟨0, e0, rfl, Nat.zero_le _, (by intro j hj; omega), hJ0, Z.pick [0, 1, 6, 7, 8], Y⟩ ?_
 rintro _ a w1 ⟨k, e, rfl, hk, hp, hJ, Z, Y⟩
 refine aa fun K4 hK4 => wlv Z (v_lt rfl rfl) fun a Z => ab (hK4 _ _ ?_)
 refine ai fun K5 hK5 => ?_
 refine ay Z rfl (fun hc1 => ?_) (fun hc1 => ?_)
 ·rw [hc1] at Z
  try simp only [qz] at hc1
  refine ax ?_
  refine hK5 _ _ ?_
  refine ai fun K6 hK6 => aq ?_
  refine aa fun K7 hK7 => wlm Z rfl fun a Z => wla Z rfl fun a Z => ab (hK7 _ _ ?_)
  refine aa fun K8 hK8 => wlm Z rfl fun a Z => wlm Z rfl fun a Z => wlm Z rfl fun a Z => wlv Z ((ak (i := (k : Int)) (sT := 31) (hs _ _ Y) rfl rfl (Tryz.runUnderlying31 _) (Tryz.sizeOf40 _) (by omega) (by omega)).as (v' := slAddr sv (k * 7)) rfl) fun a Z => wlv Z ((bO (hs _ _ Y) (i := k) (by omega) rfl (Tryz.isAgg40 _) (Tryz.sizeOf40 _)).as (v' := ev_ k) (hev k (by omega))) fun a Z => wl_r (ge (cap := caps) rfl hen rfl (hcl k _ _ (by omega) hJ (Y.get (k := 0) rfl) (fun b hb => Y.lt (k := 0) rfl hb))) rfl rfl Z fun a v w2 hR Z => ?_
  obtain ⟨rfl, e1, hx, hok, hft, hJ1⟩ := hR
  have Y := Y.exchange (k := 0) rfl hx hok hft
  have Y : St M wb (e1 :: H) w2 := Y
  refine ab (hK8 _ _ ?_)
  refine ay Z rfl (fun hc2 => ?_) (fun hc2 => ?_)
  ·rw [hc2] at Z
   try simp only [qz] at hc2
   refine aa fun K9 hK9 => wlm Z rfl fun a Z => wla Z rfl fun a Z => ab (hK9 _ _ ?_)
   refine aw ?_
   refine ao Z Tryz.results116 (ah rfl ag) ?_
   exact ⟨by rw [ei (k := k) (by omega) hp (by assumption)]; rfl, _, _, hJ1, Y⟩
  rw [hc2] at Z
  try simp only [qz] at hc2
  refine ax ?_
  refine hK6 _ _ ?_
  refine am <| wlv Z (aT rfl rfl ⟨by omega, by omega⟩) fun a Z => wlm Z rfl fun a Z => ab ?_
  refine ⟨_, ?_, k + 1, e1, rfl, (by omega), (by intro j hj; by_cases h : j = k; (subst h; assumption); exact hp j (by omega)), hJ1, Z.pick [0, 1, 6, 7, 8], Y⟩
  omega
 rw [hc1] at Z
 try simp only [qz] at hc1
 refine aP ?_
 refine hK2 _ _ ?_
 refine aa fun K10 hK10 => wla Z rfl fun a Z => ab (hK10 _ _ ?_)
 refine aw ?_
 refine ao Z Tryz.results116 (ah rfl ag) ?_
 have hkl : k = els.length := by omega
 subst hkl
 exact ⟨by rw [dZ hp]; rfl, _, _, hJ, Y⟩
theorem mj {sv : Value} {xs : List Pxy} {g : FuncId} (p : Pxy → Bool) (w0 : World) (hen : ∀ args w, (callFunc g args).run Tryz.prog w = .ok (.enter g args) w) (hs : SlAt w0 sv 7 (xs.map Pxy.cells))
  (hcl : ∀ (x : Pxy) (w : World), Ret Tryz.prog g #[.agg x.cells.toArray] w fun v w' => v = .bool (p x) ∧ Ext No w w') :
  Ret Tryz.prog 116 #[sv, .func (.func g) #[] #[]] w0 fun v w => v = iv (fstIdx (fun k => p (xs.getD k Pxy.z)) xs.length) ∧ Ext No w0 w := by
 have Y : St No w0 [join []] w0 := St.join [] [] (St.init w0)
 have h := iE (M := No) (wb := w0) (H := []) (sv := sv) (els := xs.map Pxy.cells) (caps := []) (g := g) (fun k => p (xs.getD k Pxy.z)) (fun k => .agg (xs.getD k Pxy.z).cells.toArray) (fun _ e => e = join []) (join []) w0 hen
  (fun e w h => h.arg hs) (fun k h => by rw [bp Pxy.z]) rfl Y (fun k e w hk he hok hlt => by
   subst he
   refine (hcl _ w).mono fun v w' ⟨h1, h2⟩ => ⟨h1, join [], h2.mono (fun k _ hk => hk.elim), ?_, ?_, rfl⟩
   ·exact ⟨fun e he => (by cases he), List.Pairwise.nil⟩
   ·rintro b ⟨e, he, _⟩
    cases he)
 refine h.mono fun v w ⟨h1, k, e, he, Y⟩ => ⟨by rw [h1, List.length_map], Y.ext⟩
theorem nV (x : Pxy) (w0 : World) :
  Ret Tryz.prog 117 #[.agg #[iv x.frm, iv x.to, iv x.rf, iv x.rt, iv x.sf, iv x.st, sv x.sig]] w0 fun v w => v = .bool (!x.ok) ∧ Ext No w0 w := by
 refine aF Tryz.func117 rfl Tryz.ntmps117 (lb rfl) fun a Z => ?_
 have Z : Fr 6 [(0, _)] [] a := Z
 have Y : St No w0 [] w0 := St.init w0
 refine aa fun K1 hK1 => aY Z Y (by decide) rfl (cs := [iv x.frm, iv x.to, iv x.rf, iv x.rt, iv x.sf, iv x.st, sv x.sig]) rfl fun a w1 Z Y => wla Z rfl fun a Z => ab (hK1 _ _ ?_)
 refine aa fun K2 hK2 => wlv Z (ar (Y.get (k := 0) rfl) rfl (Tryz.isAgg40 _) (Tryz.sizeOf40 _)) fun a Z => aA Z Y (by decide) Tryz.call73 rfl (eF x _) fun a w2 Z Y => wlv Z (bS rfl) fun a Z => wla Z rfl fun a Z => ab (hK2 _ _ ?_)
 refine aw ?_
 refine ao Z Tryz.results117 (ah rfl ag) ?_
 exact ⟨by rfl, Y.ext⟩
def badN (xs : List Pxy) : Int := fstIdx (fun k => !(xs.getD k Pxy.z).ok) xs.length
theorem mf (v : Value) (xs : List Pxy) (w0 : World) (hv : SlAt w0 v 7 (xs.map Pxy.cells)) : Ret Tryz.prog 116 #[v, .func (.func 117) #[] #[]] w0 fun v w => v = iv (badN xs) ∧ Ext No w0 w :=
 mj (fun x => !x.ok) w0 Tryz.call117 hv (fun x w => nV x w)
theorem fO (lv : Value) (xs : List Pxy) (w0 : World) (hlv : SlAt w0 lv 7 (xs.map Pxy.cells)) :
  Ret Tryz.prog 59 #[lv] w0 fun v w => v = iv (badN xs) ∧ Ext No w0 w := by
 refine aF Tryz.func59 rfl Tryz.ntmps59 (lb rfl) fun a Z => ?_
 have Z : Fr 5 [(0, _)] [] a := Z
 have Y : St No w0 [] w0 := St.init w0
 refine aa fun K1 hK1 => wla Z rfl fun a Z => ab (hK1 _ _ ?_)
 refine aa fun K2 hK2 => wlm Z rfl fun a Z => aA Z Y (by decide) Tryz.call116 rfl (mf lv xs _ (Y.arg hlv)) fun a w1 Z Y => wla Z rfl fun a Z => ab (hK2 _ _ ?_)
 refine aw ?_
 refine ao Z Tryz.results59 (ah rfl ag) ?_
 exact ⟨by rfl, Y.ext⟩
theorem i4 (x : Wsh) (lv : Value) (xs : List Pxy) (w0 : World) (hlv : SlAt w0 lv 7 (xs.map Pxy.cells)) :
  Ret Tryz.prog 19 #[.agg #[iv x.signer, iv x.holder, iv x.rf, iv x.rt, iv x.carrier, iv x.serial, iv x.sf, iv x.st, sv x.sig], lv] w0 fun v w => v = .bool (x.ok && decide ((xs.length : Int) ≤ 4) && decide (badN xs < 0)) ∧ Ext No w0 w := by
 refine aF Tryz.func19 rfl Tryz.ntmps19 (lb rfl) fun a Z => ?_
 have Z : Fr 17 [(0, _), (1, _)] [] a := Z
 have Y : St No w0 [] w0 := St.init w0
 refine aa fun K1 hK1 => aY Z Y (by decide) rfl (cs := [iv x.signer, iv x.holder, iv x.rf, iv x.rt, iv x.carrier, iv x.serial, iv x.sf, iv x.st, sv x.sig]) rfl fun a w1 Z Y => wla Z rfl fun a Z => ab (hK1 _ _ ?_)
 refine aa fun K2 hK2 => wlv Z (ar (Y.get (k := 0) rfl) rfl (Tryz.isAgg30 _) (Tryz.sizeOf30 _)) fun a Z => aA Z Y (by decide) Tryz.call58 rfl (ep x _) fun a w2 Z Y => wlm Z rfl fun a Z => ?_
 rcases Bool.eq_false_or_eq_true (x.ok) with hb1 | hb1
 ·rw [hb1] at Z
  try simp only [qz] at hb1
  refine wly Z (al rfl) fun a Z => wly Z ((aN (sT := 31) (Y.arg hlv) rfl rfl (Tryz.runUnderlying31 _)).asi (m' := (xs.length : Int)) (by rw [List.length_map])) fun a Z => wly Z (v_le rfl rfl) fun a Z => wlv Z (az rfl rfl) fun a Z => wlm Z rfl fun a Z => ?_
  rcases Bool.eq_false_or_eq_true (decide ((xs.length : Int) ≤ 4)) with hb2 | hb2
  ·rw [hb2] at Z
   try simp only [qz] at hb2
   refine wly Z (al rfl) fun a Z => aJ Z Y (by decide) rfl (by decide) rfl Tryz.call59 rfl (fO lv xs _ (Y.arg hlv)) fun a w3 Z Y => wly Z (v_lt rfl rfl) fun a Z => wlv Z (az rfl rfl) fun a Z => wla Z rfl fun a Z => ab (hK2 _ _ ?_)
   have Z : Fr 17 [(0, _), (1, _), (2, _), (4, _)] [] a := Z.pick [0, 1, 2, 4]
   refine aw ?_
   refine ao Z Tryz.results19 (ah rfl ag) ?_
   exact ⟨by simp only [retv]; simp [hb1, hb2], Y.ext⟩
  rw [hb2] at Z
  try simp only [qz] at hb2
  refine wln Z fun a Z => wln Z fun a Z => wln Z fun a Z => wlv Z (au rfl rfl) fun a Z => wla Z rfl fun a Z => ab (hK2 _ _ ?_)
  have Z : Fr 17 [(0, _), (1, _), (2, _), (4, _)] [] a := Z.pick [0, 1, 2, 4]
  refine aw ?_
  refine ao Z Tryz.results19 (ah rfl ag) ?_
  exact ⟨by simp only [retv]; simp [hb1, hb2], Y.ext⟩
 rw [hb1] at Z
 try simp only [qz] at hb1
 refine wln Z fun a Z => wln Z fun a Z => wln Z fun a Z => wlv Z (au rfl rfl) fun a Z => wlm Z rfl fun a Z => wln Z fun a Z => wln Z fun a Z => wln Z fun a Z => ?_
 refine wlv Z (au rfl rfl) fun a Z => wla Z rfl fun a Z => ab (hK2 _ _ ?_)
 have Z : Fr 17 [(0, _), (1, _), (2, _), (4, _)] [] a := Z.pick [0, 1, 2, 4]
 refine aw ?_
 refine ao Z Tryz.results19 (ah rfl ag) ?_
 exact ⟨by simp only [retv]; simp [hb1], Y.ext⟩
end Go.Proofs.YtmmfieceinmloaaGreatDoor
namespace Go.Proofs.YtmmfieceinmloaaGreatDoor
open Go.RowKit Go.PW
set_option linter.unusedVariables false
set_option linter.unusedSimpArgs false
set_option maxRecDepth 4000
set_option maxHeartbeats 4000000 in
theorem lZ (rf rt sf st : Int) (x : Pxy) (w0 : World) :
  Ret Tryz.prog 119 #[.agg #[iv rf, iv rt], .agg #[iv sf, iv st], .agg #[iv x.frm, iv x.to, iv x.rf, iv x.rt, iv x.sf, iv x.st, sv x.sig]] w0 fun v w => v = .bool (isInH rf rt sf st x) ∧ Ext No w0 w := by
 refine aF Tryz.func119 rfl Tryz.ntmps119 (lb rfl) fun a Z => ?_
 replace Z : Fr 37 [(0, _), (1, _), (2, _)] [] a := Z
 replace Y : St No w0 [] w0 := St.init w0
 refine aa fun K1 hK1 => aY Z Y (by decide) rfl (cs := [iv rf, iv rt]) rfl ?_
 clear Z Y
 intro a w1 Z Y
 refine aY Z Y (by decide) rfl (cs := [iv sf, iv st]) rfl ?_
 clear Z Y
 intro a w2 Z Y
 refine aY Z Y (by decide) rfl (cs := [iv x.frm, iv x.to, iv x.rf, iv x.rt, iv x.sf, iv x.st, sv x.sig]) rfl ?_
 clear Z Y
 intro a w3 Z Y
 refine wla Z rfl fun a Z => ab (hK1 _ _ ?_)
 refine aa fun K2 hK2 => wlv Z (ac (v := .pointer (some ⟨w2.heap.size, 2, none⟩)) rfl (by kernel_rfl)) fun a Z => wlv Z (ac (v := .pointer (some ⟨w2.heap.size, 2, none⟩)) rfl (by kernel_rfl)) fun a Z => wlv Z (ae (Y.get (k := 0) rfl) rfl (Tryz.isAgg3 _) rfl) fun a Z => wlv Z (ac (v := pt w0.heap.size) rfl (by kernel_rfl)) fun a Z => wlv Z (ae (Y.get (k := 2) rfl) rfl (Tryz.isAgg3 _) rfl) fun a Z => wlv Z (v_le rfl rfl) fun a Z => wlm Z rfl fun a Z => ?_
 refine cp (N := 37) (df := []) 7 [(20, .bool ((decide (x.rf ≤ rf)) && (decide (rt ≤ x.rt)))), (0, .agg #[iv rf, iv rt]), (1, .agg #[iv sf, iv st]), (2, .agg #[iv x.frm, iv x.to, iv x.rf, iv x.rt, iv x.sf, iv x.st, sv x.sig]), (3, pt w0.heap.size), (4, pt w1.heap.size), (5, pt w2.heap.size), (6, .bool false)] ?_ (fun hj => ?_)
 rotate_left
 ·rcases Bool.eq_false_or_eq_true (decide (x.rf ≤ rf)) with hb1 | hb1
  ·rw [hb1] at Z
   have hb1b := hb1
   try simp only [qz, Bool.and_eq_true, Bool.or_eq_true, Bool.and_eq_false_iff, Bool.or_eq_false_iff] at hb1
   refine wly Z (ac (v := .pointer (some ⟨w0.heap.size, 1, none⟩)) rfl (by kernel_rfl)) fun a Z => wly Z (ae (Y.get (k := 2) rfl) rfl (Tryz.isAgg3 _) rfl) fun a Z => wly Z (ac (v := .pointer (some ⟨w2.heap.size, 2, none⟩)) rfl (by kernel_rfl)) fun a Z => wly Z (ac (v := .pointer (some ⟨w2.heap.size, 3, none⟩)) rfl (by kernel_rfl)) fun a Z => wly Z (ae (Y.get (k := 0) rfl) rfl (Tryz.isAgg3 _) rfl) fun a Z => wly Z (v_le rfl rfl) fun a Z => wlv Z (az rfl rfl) fun a Z => ?_
   refine hj _ ?_
   try rw [hb1b]
   exact Z.pick [20, 0, 1, 2, 3, 4, 5, 6]
  rw [hb1] at Z
  have hb1b := hb1
  try simp only [qz, Bool.and_eq_true, Bool.or_eq_true, Bool.and_eq_false_iff, Bool.or_eq_false_iff] at hb1
  refine wln Z fun a Z => wln Z fun a Z => wln Z fun a Z => wln Z fun a Z => wln Z fun a Z => wln Z fun a Z => wlv Z (au rfl rfl) fun a Z => ?_
  refine hj _ ?_
  try rw [hb1b]
  exact Z.pick [20, 0, 1, 2, 3, 4, 5, 6]
 intro a Z
 refine wlm Z rfl fun a Z => ?_
 refine cp (N := 37) (df := []) 7 [(28, .bool (((decide (x.rf ≤ rf)) && (decide (rt ≤ x.rt))) && (decide (x.sf ≤ sf)))), (0, .agg #[iv rf, iv rt]), (1, .agg #[iv sf, iv st]), (2, .agg #[iv x.frm, iv x.to, iv x.rf, iv x.rt, iv x.sf, iv x.st, sv x.sig]), (3, pt w0.heap.size), (4, pt w1.heap.size), (5, pt w2.heap.size), (6, .bool false)] ?_ (fun hj => ?_)
 rotate_left
 ·rcases Bool.eq_false_or_eq_true ((decide (x.rf ≤ rf)) && (decide (rt ≤ x.rt))) with hb2 | hb2
  ·rw [hb2] at Z
   have hb2b := hb2
   try simp only [qz, Bool.and_eq_true, Bool.or_eq_true, Bool.and_eq_false_iff, Bool.or_eq_false_iff] at hb2
   refine wly Z (ac (v := .pointer (some ⟨w2.heap.size, 4, none⟩)) rfl (by kernel_rfl)) fun a Z => wly Z (ac (v := .pointer (some ⟨w2.heap.size, 4, none⟩)) rfl (by kernel_rfl)) fun a Z => wly Z (ae (Y.get (k := 0) rfl) rfl (Tryz.isAgg3 _) rfl) fun a Z => wly Z (ac (v := pt w1.heap.size) rfl (by kernel_rfl)) fun a Z => wly Z (ae (Y.get (k := 1) rfl) rfl (Tryz.isAgg3 _) rfl) fun a Z => wly Z (v_le rfl rfl) fun a Z => wlv Z (az rfl rfl) fun a Z => ?_
   refine hj _ ?_
   try rw [hb2b]
   exact Z.pick [28, 0, 1, 2, 3, 4, 5, 6]
  rw [hb2] at Z
  have hb2b := hb2
  try simp only [qz, Bool.and_eq_true, Bool.or_eq_true, Bool.and_eq_false_iff, Bool.or_eq_false_iff] at hb2
  refine wln Z fun a Z => wln Z fun a Z => wln Z fun a Z => wln Z fun a Z => wln Z fun a Z => wln Z fun a Z => wlv Z (au rfl rfl) fun a Z => ?_
  refine hj _ ?_
  try rw [hb2b]
  exact Z.pick [28, 0, 1, 2, 3, 4, 5, 6]
 intro a Z
 refine wlm Z rfl fun a Z => ?_
 refine cp (N := 37) (df := []) 7 [(36, .bool ((((decide (x.rf ≤ rf)) && (decide (rt ≤ x.rt))) && (decide (x.sf ≤ sf))) && (decide (st ≤ x.st)))), (0, .agg #[iv rf, iv rt]), (1, .agg #[iv sf, iv st]), (2, .agg #[iv x.frm, iv x.to, iv x.rf, iv x.rt, iv x.sf, iv x.st, sv x.sig]), (3, pt w0.heap.size), (4, pt w1.heap.size), (5, pt w2.heap.size), (6, .bool false)] ?_ (fun hj => ?_)
 rotate_left
 ·rcases Bool.eq_false_or_eq_true (((decide (x.rf ≤ rf)) && (decide (rt ≤ x.rt))) && (decide (x.sf ≤ sf))) with hb3 | hb3
  ·rw [hb3] at Z
   have hb3b := hb3
   try simp only [qz, Bool.and_eq_true, Bool.or_eq_true, Bool.and_eq_false_iff, Bool.or_eq_false_iff] at hb3
   refine wly Z (ac (v := .pointer (some ⟨w1.heap.size, 1, none⟩)) rfl (by kernel_rfl)) fun a Z => wly Z (ae (Y.get (k := 1) rfl) rfl (Tryz.isAgg3 _) rfl) fun a Z => wly Z (ac (v := .pointer (some ⟨w2.heap.size, 4, none⟩)) rfl (by kernel_rfl)) fun a Z => wly Z (ac (v := .pointer (some ⟨w2.heap.size, 5, none⟩)) rfl (by kernel_rfl)) fun a Z => wly Z (ae (Y.get (k := 0) rfl) rfl (Tryz.isAgg3 _) rfl) fun a Z => wly Z (v_le rfl rfl) fun a Z => wlv Z (az rfl rfl) fun a Z => ?_
   refine hj _ ?_
   try rw [hb3b]
   exact Z.pick [36, 0, 1, 2, 3, 4, 5, 6]
  rw [hb3] at Z
  have hb3b := hb3
  try simp only [qz, Bool.and_eq_true, Bool.or_eq_true, Bool.and_eq_false_iff, Bool.or_eq_false_iff] at hb3
  refine wln Z fun a Z => wln Z fun a Z => wln Z fun a Z => wln Z fun a Z => wln Z fun a Z => wln Z fun a Z => wlv Z (au rfl rfl) fun a Z => ?_
  refine hj _ ?_
  try rw [hb3b]
  exact Z.pick [36, 0, 1, 2, 3, 4, 5, 6]
 intro a Z
 refine wla Z rfl fun a Z => ab (hK2 _ _ ?_)
 replace Z : Fr 37 [(6, _)] [] a := Z.pick [6]
 replace Y : St No w0 [] w3 := Y.mask [false, false, false]
 refine aw ?_
 refine ao Z Tryz.results119 (ah rfl ag) ?_
 exact ⟨by rfl, Y.ext⟩
def prevP (xs : List Pxy) (k : Nat) : Option Pxy := if k = 0 then none else some (xs.getD (k - 1) Pxy.z)
theorem cr {α : Type} {xs : List α} {k : Nat} (d : α) (h : k < xs.length) : xs.drop k = xs.getD k d :: xs.drop (k + 1) := by
 rw [List.drop_eq_getElem_cons h, List.getD_eq_getElem?_getD, List.getElem?_eq_getElem h]; rfl
def scopeV (x : Wsh) (xs : List Pxy) : Int × Bool := match aU x none xs 0 with | some n => (n, true) | none => (-1, false)
theorem hU {x : Wsh} {xs : List Pxy} (h : aU x none xs 0 = none) : scopeV x xs = (-1, false) := by unfold scopeV; rw [h]
theorem gK {x : Wsh} {xs : List Pxy} {n : Int} (h : aU x none xs 0 = some n) : scopeV x xs = (n, true) := by unfold scopeV; rw [h]
theorem eH {x : Wsh} {xs : List Pxy} {k : Nat} (hk : k < xs.length) (h : k = 0 ∨ isInH (xs.getD k Pxy.z).rf (xs.getD k Pxy.z).rt (xs.getD k Pxy.z).sf (xs.getD k Pxy.z).st (xs.getD (k - 1) Pxy.z) = true) :
  aU x (prevP xs k) (xs.drop k) k = aU x (prevP xs (k + 1)) (xs.drop (k + 1)) (k + 1) := by
 rw [cr Pxy.z hk]
 by_cases h0 : k = 0
 ·subst h0; rfl
 ·unfold prevP
  rw [if_neg h0, if_neg (by omega), aU, if_pos (h.resolve_left h0)]; rfl
theorem iX {x : Wsh} {xs : List Pxy} {k : Nat} (hk : k < xs.length) (h0 : 0 < k) (h : isInH (xs.getD k Pxy.z).rf (xs.getD k Pxy.z).rt (xs.getD k Pxy.z).sf (xs.getD k Pxy.z).st (xs.getD (k - 1) Pxy.z) = false) :
  aU x (prevP xs k) (xs.drop k) k = some (k : Int) := by
 rw [cr Pxy.z hk]
 unfold prevP
 rw [if_neg (by omega), aU, if_neg (by rw [h]; simp)]
theorem io {x : Wsh} {xs : List Pxy} : aU x (prevP xs xs.length) (xs.drop xs.length) xs.length = if xs.length = 0 ∨ isInH x.rf x.rt x.sf x.st (xs.getD (xs.length - 1) Pxy.z) = true then none else some (-1) := by
 rw [List.drop_length]
 unfold prevP
 by_cases h0 : xs.length = 0
 ·rw [if_pos h0, if_pos (.inl h0)]; rfl
 ·rw [if_neg h0, aU]; simp [h0]
theorem ll {x : Wsh} {xs : List Pxy} (h : xs.length = 0) (hs : aU x none xs 0 = if xs.length = 0 ∨ isInH x.rf x.rt x.sf x.st (xs.getD (xs.length - 1) Pxy.z) = true then none else some (-1)) : scopeV x xs = (-1, false) := by
 rw [if_pos (.inl h)] at hs; exact hU hs
theorem kK {x : Wsh} {xs : List Pxy} (h : 0 < xs.length) (hs : aU x none xs 0 = if xs.length = 0 ∨ isInH x.rf x.rt x.sf x.st (xs.getD (xs.length - 1) Pxy.z) = true then none else some (-1)) : scopeV x xs = (-1, !isInH x.rf x.rt x.sf x.st (xs.getD (xs.length - 1) Pxy.z)) := by
 cases hc : isInH x.rf x.rt x.sf x.st (xs.getD (xs.length - 1) Pxy.z) with
 | true => rw [if_pos (.inr hc)] at hs; exact hU hs
 | false => rw [if_neg (fun hh => by rcases hh with hh | hh; omega; rw [hc] at hh; cases hh)] at hs; exact gK hs
set_option maxHeartbeats 4000000 in
theorem nP (x : Wsh) (lv : Value) (xs : List Pxy) (w0 : World) (hlv : SlAt w0 lv 7 (xs.map Pxy.cells)) :
  Ret Tryz.prog 62 #[.agg #[iv x.signer, iv x.holder, iv x.rf, iv x.rt, iv x.carrier, iv x.serial, iv x.sf, iv x.st, sv x.sig], lv] w0 fun v w => v = .tuple #[iv (scopeV x xs).1, .bool (scopeV x xs).2] ∧ Ext No w0 w := by
 have hxb := hlv.2.1
 simp only [List.length_map, big] at hxb
 refine aF Tryz.func62 rfl Tryz.ntmps62 (lb rfl) fun a Z => ?_
 replace Z : Fr 49 [(0, _), (1, _)] [] a := Z
 replace Y : St No w0 [] w0 := St.init w0
 refine aa fun K1 hK1 => aY Z Y (by decide) rfl (cs := [iv x.signer, iv x.holder, iv x.rf, iv x.rt, iv x.carrier, iv x.serial, iv x.sf, iv x.st, sv x.sig]) rfl ?_
 clear Z Y
 intro a w1 Z Y
 refine wla Z rfl fun a Z => wla Z rfl fun a Z => ab (hK1 _ _ ?_)
 refine ai fun K2 hK2 => aa fun K3 hK3 => wlm Z rfl fun a Z => wlv Z ((aN (sT := 31) (Y.arg hlv) rfl rfl (Tryz.runUnderlying31 _)).asi (m' := (xs.length : Int)) (by rw [List.length_map])) fun a Z => wlm Z rfl fun a Z => ab (hK3 _ _ ?_)
 refine aq <| aW (fun m a w => ∃ (k : Nat), m = xs.length - k ∧ (k ≤ xs.length) ∧ (aU x none xs 0 = aU x (prevP xs k) (xs.drop k) k) ∧ Fr 49 [(1, lv), (2, pt w0.heap.size), (8, lv), (9, iv (xs.length : Int)), (10, iv (k : Int))] [] a ∧ St No w0 [blk w0.heap.size [iv x.signer, iv x.holder, iv x.rf, iv x.rt, iv x.carrier, iv x.serial, iv x.sf, iv x.st, sv x.sig] 30] w) _ ⟨0, rfl, Nat.zero_le _, rfl, Z.pick [1, 2, 8, 9, 10], Y.select [0] (by decide)⟩ ?_
 rintro _ a w2 ⟨k, rfl, hk, hs, Z, Y⟩
 refine aa fun K4 hK4 => wlv Z (v_lt rfl rfl) fun a Z => ab (hK4 _ _ ?_)
 refine ai fun K5 hK5 => ?_
 refine ay Z rfl (fun hc1 => ?_) (fun hc1 => ?_)
 ·rw [hc1] at Z
  try simp only [qz] at hc1
  have hkx : k < xs.length := by omega
  refine ax ?_
  refine hK5 _ _ ?_
  refine ai fun K6 hK6 => aq ?_
  refine aa fun K7 hK7 => wlm Z rfl fun a Z => wlv Z ((ak (i := (k : Int)) (sT := 31) (Y.arg hlv) rfl rfl (Tryz.runUnderlying31 _) (Tryz.sizeOf40 _) (by omega) (by rw [List.length_map]; omega)).as (v' := slAddr lv (k * 7)) rfl) fun a Z => wlv Z ((bO (Y.arg hlv) (i := k) (by rw [List.length_map]; omega) rfl (Tryz.isAgg40 _) (Tryz.sizeOf40 _)).as (v' := .agg #[iv ((xs.getD k Pxy.z).frm), iv ((xs.getD k Pxy.z).to), iv ((xs.getD k Pxy.z).rf), iv ((xs.getD k Pxy.z).rt), iv ((xs.getD k Pxy.z).sf), iv ((xs.getD k Pxy.z).st), sv ((xs.getD k Pxy.z).sig)]) (by rw [bp Pxy.z]; rfl)) fun a Z => aK Z Y (by decide) (Tryz.zeroValue40 _) (cs := [iv 0, iv 0, iv 0, iv 0, iv 0, iv 0, .string (⟨#[]⟩)]) rfl ?_
  clear Z Y
  intro a w3 Z Y
  refine wla Z rfl fun a Z => ap 0 Z Y rfl rfl rfl (Tryz.sizeOf40 _) rfl (lb rfl) (ds := [iv ((xs.getD k Pxy.z).frm), iv ((xs.getD k Pxy.z).to), iv ((xs.getD k Pxy.z).rf), iv ((xs.getD k Pxy.z).rt), iv ((xs.getD k Pxy.z).sf), iv ((xs.getD k Pxy.z).st), sv ((xs.getD k Pxy.z).sig)]) rfl rfl ?_
  clear Z Y
  intro a w4 Z Y
  refine ab (hK7 _ _ ?_)
  refine ai fun K8 hK8 => aM (by kernel_rfl) (aO (by kernel_rfl) fun w5 hxz => ?_)
  replace Y := Y.grow hxz
  refine aQ (k := 0) 3 [2] (by kernel_rfl) (by kernel_rfl) (by kernel_rfl) ?_
  refine wlm Z rfl fun a Z => wlv Z (v_gt rfl rfl) fun a Z => wlm Z rfl fun a Z => ab ?_
  rcases Bool.eq_false_or_eq_true (decide (0 < (k : Int))) with hb2 | hb2
  ·rw [hb2] at Z
   try simp only [qz] at hb2
   refine aX (k := 3) 12 [4, 6, 11] Z (by kernel_rfl) (by kernel_rfl) (by kernel_rfl) (by rfl) ?_
   replace Z : Fr 49 [(1, _), (2, _), (8, _), (9, _), (10, _), (11, _), (12, _), (13, _), (14, _), (7, _), (6, _), (15, _), (16, _), (17, _)] [] a := Z.pick [1, 2, 8, 9, 10, 11, 12, 13, 14, 7, 6, 15, 16, 17]
   refine aB [] (fun i => match i with | _ => fun _ _ => False) 9 [[], [0], [], [2], [], [], [5], [4, 6], [7]] [.pointer (some ⟨w2.heap.size, 2, none⟩), .agg #[iv ((xs.getD k Pxy.z).rf), iv ((xs.getD k Pxy.z).rt)], .pointer (some ⟨w2.heap.size, 4, none⟩), .agg #[iv ((xs.getD k Pxy.z).sf), iv ((xs.getD k Pxy.z).st)], lv, iv (k : Int), iv ((k : Int) - 1), slAddr lv ((k - 1) * 7), .agg #[iv ((xs.getD (k - 1) Pxy.z).frm), iv ((xs.getD (k - 1) Pxy.z).to), iv ((xs.getD (k - 1) Pxy.z).rf), iv ((xs.getD (k - 1) Pxy.z).rt), iv ((xs.getD (k - 1) Pxy.z).sf), iv ((xs.getD (k - 1) Pxy.z).st), sv ((xs.getD (k - 1) Pxy.z).sig)]] Z Y (by kernel_rfl) (by kernel_rfl) (by kernel_rfl) ?_ ?_ ?_
   ·intro i hi hiq
    match i, hi, hiq with
    | 0, _, _ =>
     intro w Y
     exact OpV.g (ac (v := .pointer (some ⟨w2.heap.size, 2, none⟩)) rfl (by kernel_rfl))
    | 1, _, _ =>
     intro w Y
     exact OpV.g (bT (ds := [iv ((xs.getD k Pxy.z).rf), iv ((xs.getD k Pxy.z).rt)]) (Y.get (k := 0) rfl) rfl (Tryz.isAgg27 _) (Tryz.sizeOf27 _) rfl)
    | 2, _, _ =>
     intro w Y
     exact OpV.g (ac (v := .pointer (some ⟨w2.heap.size, 4, none⟩)) rfl (by kernel_rfl))
    | 3, _, _ =>
     intro w Y
     exact OpV.g (bT (ds := [iv ((xs.getD k Pxy.z).sf), iv ((xs.getD k Pxy.z).st)]) (Y.get (k := 0) rfl) rfl (Tryz.isAgg28 _) (Tryz.sizeOf28 _) rfl)
    | 4, _, _ =>
     intro w Y
     exact OpV.g (al rfl)
    | 5, _, _ =>
     intro w Y
     exact OpV.g (al rfl)
    | 6, _, _ =>
     intro w Y
     exact OpV.g (cc rfl rfl ⟨by omega, by omega⟩)
    | 7, _, _ =>
     intro w Y
     exact OpV.g ((ak (i := (k : Int) - 1) (sT := 31) (Y.arg hlv) rfl rfl (Tryz.runUnderlying31 _) (Tryz.sizeOf40 _) (by omega) (by rw [List.length_map]; omega)).as (v' := slAddr lv ((k - 1) * 7)) (by rw [show ((k : Int) - 1).toNat = (k - 1) from by omega]))
    | 8, _, _ =>
     intro w Y
     exact OpV.g ((bO (Y.arg hlv) (i := (k - 1)) (by rw [List.length_map]; omega) rfl (Tryz.isAgg40 _) (Tryz.sizeOf40 _)).as (v' := .agg #[iv ((xs.getD (k - 1) Pxy.z).frm), iv ((xs.getD (k - 1) Pxy.z).to), iv ((xs.getD (k - 1) Pxy.z).rf), iv ((xs.getD (k - 1) Pxy.z).rt), iv ((xs.getD (k - 1) Pxy.z).sf), iv ((xs.getD (k - 1) Pxy.z).st), sv ((xs.getD (k - 1) Pxy.z).sig)]) (by rw [bp Pxy.z]; rfl))
   ·intro i hi
    exact absurd hi (by simp)
   clear Z Y
   intro  a w6 Z Y
   replace Z : Fr 49 [(18, .pointer (some ⟨w2.heap.size, 2, none⟩)), (19, .agg #[iv ((xs.getD k Pxy.z).rf), iv ((xs.getD k Pxy.z).rt)]), (20, .pointer (some ⟨w2.heap.size, 4, none⟩)), (21, .agg #[iv ((xs.getD k Pxy.z).sf), iv ((xs.getD k Pxy.z).st)]), (22, lv), (23, iv (k : Int)), (24, iv ((k : Int) - 1)), (25, slAddr lv ((k - 1) * 7)), (26, .agg #[iv ((xs.getD (k - 1) Pxy.z).frm), iv ((xs.getD (k - 1) Pxy.z).to), iv ((xs.getD (k - 1) Pxy.z).rf), iv ((xs.getD (k - 1) Pxy.z).rt), iv ((xs.getD (k - 1) Pxy.z).sf), iv ((xs.getD (k - 1) Pxy.z).st), sv ((xs.getD (k - 1) Pxy.z).sig)]), (1, _), (2, _), (8, _), (9, _), (10, _), (11, _), (12, _), (13, _), (14, _), (7, _), (6, _), (15, _), (16, _), (17, _)] [] a := Z
   refine ab <| aQ (k := 12) 15 [14] (by kernel_rfl) (by kernel_rfl) (by kernel_rfl) ?_
   refine aJ Z Y (by decide) rfl (by decide) rfl Tryz.call119 rfl (lZ ((xs.getD k Pxy.z).rf) ((xs.getD k Pxy.z).rt) ((xs.getD k Pxy.z).sf) ((xs.getD k Pxy.z).st) (xs.getD (k - 1) Pxy.z) _) ?_
   clear Z Y
   intro a w7 Z Y
   refine wly Z (bS rfl) fun a Z => wlv Z (az rfl rfl) fun a Z => ab ?_
   refine aZ (by kernel_rfl) ?_
   refine hK8 _ _ ?_
   replace Z : Fr 49 [(1, _), (2, _), (8, _), (9, _), (10, _), (6, _), (29, _)] [] a := Z.pick [1, 2, 8, 9, 10, 6, 29]
   replace Y : St No w0 [_] w7 := Y.mask [false, true]
   refine ay Z rfl (fun hc3 => ?_) (fun hc3 => ?_)
   ·rw [hc3] at Z
    try simp only [qz] at hc3
    refine aa fun K9 hK9 => wlm Z rfl fun a Z => wla Z rfl fun a Z => wla Z rfl fun a Z => ab (hK9 _ _ ?_)
    refine aw ?_
    refine ao Z Tryz.results62 (ah rfl (ah rfl ag)) ?_
    exact ⟨by simp only [retv]; rw [gK (by rw [hs]; exact iX hkx (by omega) (by simpa using hc3))]; try rfl, Y.ext⟩
   rw [hc3] at Z
   try simp only [qz] at hc3
   refine ax ?_
   refine hK6 _ _ ?_
   refine am <| wlv Z (aT rfl rfl ⟨by omega, by omega⟩) fun a Z => wlm Z rfl fun a Z => ab ?_
   refine ⟨_, ?_, k + 1, rfl, (by omega), (by rw [hs]; exact eH hkx (by first | (left; omega) | (right; simpa using hc3))), Z.pick [1, 2, 8, 9, 10], Y.select [0] (by decide)⟩
   omega
  rw [hb2] at Z
  try simp only [qz] at hb2
  replace Z : Fr 49 [(1, lv), (2, pt w0.heap.size), (8, lv), (9, iv (xs.length : Int)), (10, iv (k : Int)), (11, .bool true), (12, iv (k : Int)), (13, slAddr lv (k * 7)), (14, .agg #[iv ((xs.getD k Pxy.z).frm), iv ((xs.getD k Pxy.z).to), iv ((xs.getD k Pxy.z).rf), iv ((xs.getD k Pxy.z).rt), iv ((xs.getD k Pxy.z).sf), iv ((xs.getD k Pxy.z).st), sv ((xs.getD k Pxy.z).sig)]), (7, pt w2.heap.size), (6, iv (k : Int)), (15, iv (k : Int)), (16, .bool false), (17, .bool false)] [] a := Z.pick [1, 2, 8, 9, 10, 11, 12, 13, 14, 7, 6, 15, 16, 17]
  refine dL (k := 3) 12 [4, 6, 11] Z (by kernel_rfl) (by kernel_rfl) (by kernel_rfl) (by rfl) fun a Z => ?_
  replace Z : Fr 49 [(18, undef), (19, undef), (20, undef), (21, undef), (22, undef), (23, undef), (24, undef), (25, undef), (26, undef), (1, lv), (2, pt w0.heap.size), (8, lv), (9, iv (xs.length : Int)), (10, iv (k : Int)), (11, .bool true), (12, iv (k : Int)), (13, slAddr lv (k * 7)), (14, .agg #[iv ((xs.getD k Pxy.z).frm), iv ((xs.getD k Pxy.z).to), iv ((xs.getD k Pxy.z).rf), iv ((xs.getD k Pxy.z).rt), iv ((xs.getD k Pxy.z).sf), iv ((xs.getD k Pxy.z).st), sv ((xs.getD k Pxy.z).sig)]), (7, pt w2.heap.size), (6, iv (k : Int)), (15, iv (k : Int)), (16, .bool false), (17, .bool false)] [] a := Z
  refine aQ (k := 12) 15 [14] (by kernel_rfl) (by kernel_rfl) (by kernel_rfl) ?_
  refine wln Z fun a Z => wln Z fun a Z => wlv Z (au rfl rfl) fun a Z => ab ?_
  refine aZ (by kernel_rfl) ?_
  refine hK8 _ _ ?_
  replace Z : Fr 49 [(1, _), (2, _), (8, _), (9, _), (10, _), (6, _), (29, _)] [] a := Z.pick [1, 2, 8, 9, 10, 6, 29]
  replace Y : St No w0 [_] w5 := Y.mask [false, true]
  refine bE Z rfl ?_
  refine ax ?_
  refine hK6 _ _ ?_
  refine am <| wlv Z (aT rfl rfl ⟨by omega, by omega⟩) fun a Z => wlm Z rfl fun a Z => ab ?_
  refine ⟨_, ?_, k + 1, rfl, (by omega), (by rw [hs]; exact eH hkx (by first | (left; omega) | (right; simpa using hb2))), Z.pick [1, 2, 8, 9, 10], Y.select [0] (by decide)⟩
  omega
 rw [hc1] at Z
 try simp only [qz] at hc1
 have hke : k = xs.length := by omega
 rw [hke, io] at hs
 refine aP ?_
 refine hK2 _ _ ?_
 refine ai fun K10 hK10 => aM (by kernel_rfl) (aO (by kernel_rfl) fun w8 hxz => ?_)
 replace Y := Y.grow hxz
 refine aQ (k := 0) 4 [3] (by kernel_rfl) (by kernel_rfl) (by kernel_rfl) ?_
 refine wlm Z rfl fun a Z => wlv Z ((aN (sT := 31) (Y.arg hlv) rfl rfl (Tryz.runUnderlying31 _)).asi (m' := (xs.length : Int)) (by rw [List.length_map])) fun a Z => wlv Z (v_gt rfl rfl) fun a Z => wlm Z rfl fun a Z => ab ?_
 rcases Bool.eq_false_or_eq_true (decide (0 < (xs.length : Int))) with hb4 | hb4
 ·rw [hb4] at Z
  try simp only [qz] at hb4
  refine aX (k := 4) 14 [5, 7, 13] Z (by kernel_rfl) (by kernel_rfl) (by kernel_rfl) (by rfl) ?_
  replace Z : Fr 49 [(1, _), (2, _), (8, _), (9, _), (10, _), (11, _), (32, _), (33, _), (34, _), (35, _)] [] a := Z.pick [1, 2, 8, 9, 10, 11, 32, 33, 34, 35]
  refine aB [] (fun i => match i with | _ => fun _ _ => False) 10 [[], [0], [], [2], [], [], [5], [6], [4, 7], [8]] [.pointer (some ⟨w0.heap.size, 2, none⟩), .agg #[iv x.rf, iv x.rt], .pointer (some ⟨w0.heap.size, 6, none⟩), .agg #[iv x.sf, iv x.st], lv, lv, iv (xs.length : Int), iv ((xs.length : Int) - 1), slAddr lv ((xs.length - 1) * 7), .agg #[iv ((xs.getD (xs.length - 1) Pxy.z).frm), iv ((xs.getD (xs.length - 1) Pxy.z).to), iv ((xs.getD (xs.length - 1) Pxy.z).rf), iv ((xs.getD (xs.length - 1) Pxy.z).rt), iv ((xs.getD (xs.length - 1) Pxy.z).sf), iv ((xs.getD (xs.length - 1) Pxy.z).st), sv ((xs.getD (xs.length - 1) Pxy.z).sig)]] Z Y (by kernel_rfl) (by kernel_rfl) (by kernel_rfl) ?_ ?_ ?_
  ·intro i hi hiq
   match i, hi, hiq with
   | 0, _, _ =>
    intro w Y
    exact OpV.g (ac (v := .pointer (some ⟨w0.heap.size, 2, none⟩)) rfl (by kernel_rfl))
   | 1, _, _ =>
    intro w Y
    exact OpV.g (bT (ds := [iv x.rf, iv x.rt]) (Y.get (k := 0) rfl) rfl (Tryz.isAgg27 _) (Tryz.sizeOf27 _) rfl)
   | 2, _, _ =>
    intro w Y
    exact OpV.g (ac (v := .pointer (some ⟨w0.heap.size, 6, none⟩)) rfl (by kernel_rfl))
   | 3, _, _ =>
    intro w Y
    exact OpV.g (bT (ds := [iv x.sf, iv x.st]) (Y.get (k := 0) rfl) rfl (Tryz.isAgg28 _) (Tryz.sizeOf28 _) rfl)
   | 4, _, _ =>
    intro w Y
    exact OpV.g (al rfl)
   | 5, _, _ =>
    intro w Y
    exact OpV.g (al rfl)
   | 6, _, _ =>
    intro w Y
    exact OpV.g ((aN (sT := 31) (Y.arg hlv) rfl rfl (Tryz.runUnderlying31 _)).asi (m' := (xs.length : Int)) (by rw [List.length_map]))
   | 7, _, _ =>
    intro w Y
    exact OpV.g (cc rfl rfl ⟨by omega, by omega⟩)
   | 8, _, _ =>
    intro w Y
    exact OpV.g ((ak (i := (xs.length : Int) - 1) (sT := 31) (Y.arg hlv) rfl rfl (Tryz.runUnderlying31 _) (Tryz.sizeOf40 _) (by omega) (by rw [List.length_map]; omega)).as (v' := slAddr lv ((xs.length - 1) * 7)) (by rw [show ((xs.length : Int) - 1).toNat = (xs.length - 1) from by omega]))
   | 9, _, _ =>
    intro w Y
    exact OpV.g ((bO (Y.arg hlv) (i := (xs.length - 1)) (by rw [List.length_map]; omega) rfl (Tryz.isAgg40 _) (Tryz.sizeOf40 _)).as (v' := .agg #[iv ((xs.getD (xs.length - 1) Pxy.z).frm), iv ((xs.getD (xs.length - 1) Pxy.z).to), iv ((xs.getD (xs.length - 1) Pxy.z).rf), iv ((xs.getD (xs.length - 1) Pxy.z).rt), iv ((xs.getD (xs.length - 1) Pxy.z).sf), iv ((xs.getD (xs.length - 1) Pxy.z).st), sv ((xs.getD (xs.length - 1) Pxy.z).sig)]) (by rw [bp Pxy.z]; rfl))
  ·intro i hi
   exact absurd hi (by simp)
  clear Z Y
  intro  a w9 Z Y
  replace Z : Fr 49 [(36, .pointer (some ⟨w0.heap.size, 2, none⟩)), (37, .agg #[iv x.rf, iv x.rt]), (38, .pointer (some ⟨w0.heap.size, 6, none⟩)), (39, .agg #[iv x.sf, iv x.st]), (40, lv), (41, lv), (42, iv (xs.length : Int)), (43, iv ((xs.length : Int) - 1)), (44, slAddr lv ((xs.length - 1) * 7)), (45, .agg #[iv ((xs.getD (xs.length - 1) Pxy.z).frm), iv ((xs.getD (xs.length - 1) Pxy.z).to), iv ((xs.getD (xs.length - 1) Pxy.z).rf), iv ((xs.getD (xs.length - 1) Pxy.z).rt), iv ((xs.getD (xs.length - 1) Pxy.z).sf), iv ((xs.getD (xs.length - 1) Pxy.z).st), sv ((xs.getD (xs.length - 1) Pxy.z).sig)]), (1, _), (2, _), (8, _), (9, _), (10, _), (11, _), (32, _), (33, _), (34, _), (35, _)] [] a := Z
  refine ab <| aQ (k := 14) 15 [14] (by kernel_rfl) (by kernel_rfl) (by kernel_rfl) ?_
  refine aJ Z Y (by decide) rfl (by decide) rfl Tryz.call119 rfl (lZ x.rf x.rt x.sf x.st (xs.getD (xs.length - 1) Pxy.z) _) ?_
  clear Z Y
  intro a w10 Z Y
  refine ab <| aX (k := 15) 18 [16, 17] Z (by kernel_rfl) (by kernel_rfl) (by kernel_rfl) (by rfl) ?_
  replace Z : Fr 49 [(1, _), (2, _), (8, _), (9, _), (10, _), (11, _), (32, _), (33, _), (34, _), (35, _), (36, _), (37, _), (38, _), (39, _), (40, _), (41, _), (42, _), (43, _), (44, _), (45, _), (46, _)] [] a := Z.pick [1, 2, 8, 9, 10, 11, 32, 33, 34, 35, 36, 37, 38, 39, 40, 41, 42, 43, 44, 45, 46]
  refine aB [] (fun i => match i with | _ => fun _ _ => False) 3 [[], [0], []] [.bool (!(isInH x.rf x.rt x.sf x.st (xs.getD (xs.length - 1) Pxy.z))), .bool (!(isInH x.rf x.rt x.sf x.st (xs.getD (xs.length - 1) Pxy.z))), iv (-1)] Z Y (by kernel_rfl) (by kernel_rfl) (by kernel_rfl) ?_ ?_ ?_
  ·intro i hi hiq
   match i, hi, hiq with
   | 0, _, _ =>
    intro w Y
    exact OpV.g (bS rfl)
   | 1, _, _ =>
    intro w Y
    exact OpV.g (az rfl rfl)
   | 2, _, _ =>
    intro w Y
    exact OpV.g (cG rfl)
  ·intro i hi
   exact absurd hi (by simp)
  clear Z Y
  intro  a w11 Z Y
  replace Z : Fr 49 [(47, .bool (!(isInH x.rf x.rt x.sf x.st (xs.getD (xs.length - 1) Pxy.z)))), (48, .bool (!(isInH x.rf x.rt x.sf x.st (xs.getD (xs.length - 1) Pxy.z)))), (4, iv (-1)), (1, _), (2, _), (8, _), (9, _), (10, _), (11, _), (32, _), (33, _), (34, _), (35, _), (36, _), (37, _), (38, _), (39, _), (40, _), (41, _), (42, _), (43, _), (44, _), (45, _), (46, _)] [] a := Z
  refine ab <| aQ (k := 18) 19 [18] (by kernel_rfl) (by kernel_rfl) (by kernel_rfl) ?_
  refine wla Z rfl fun a Z => ab ?_
  refine aZ (by kernel_rfl) ?_
  refine hK10 _ _ ?_
  replace Z : Fr 49 [(4, _), (5, _)] [] a := Z.pick [4, 5]
  replace Y : St No w0 [] w11 := Y.mask [false]
  refine aw ?_
  refine ao Z Tryz.results62 (ah rfl (ah rfl ag)) ?_
  exact ⟨by simp only [retv]; rw [kK (by omega) hs]; try rfl, Y.ext⟩
 rw [hb4] at Z
 try simp only [qz] at hb4
 replace Z : Fr 49 [(1, lv), (2, pt w0.heap.size), (8, lv), (9, iv (xs.length : Int)), (10, iv (k : Int)), (11, .bool false), (32, lv), (33, iv (xs.length : Int)), (34, .bool false), (35, .bool false)] [] a := Z.pick [1, 2, 8, 9, 10, 11, 32, 33, 34, 35]
 refine dL (k := 4) 14 [5, 7, 13] Z (by kernel_rfl) (by kernel_rfl) (by kernel_rfl) (by rfl) fun a Z => ?_
 replace Z : Fr 49 [(36, undef), (37, undef), (38, undef), (39, undef), (40, undef), (41, undef), (42, undef), (43, undef), (44, undef), (45, undef), (1, lv), (2, pt w0.heap.size), (8, lv), (9, iv (xs.length : Int)), (10, iv (k : Int)), (11, .bool false), (32, lv), (33, iv (xs.length : Int)), (34, .bool false), (35, .bool false)] [] a := Z
 refine aQ (k := 14) 15 [14] (by kernel_rfl) (by kernel_rfl) (by kernel_rfl) ?_
 refine wln Z fun a Z => ab ?_
 replace Z : Fr 49 [(36, undef), (37, undef), (38, undef), (39, undef), (40, undef), (41, undef), (42, undef), (43, undef), (44, undef), (45, undef), (1, lv), (2, pt w0.heap.size), (8, lv), (9, iv (xs.length : Int)), (10, iv (k : Int)), (11, .bool false), (32, lv), (33, iv (xs.length : Int)), (34, .bool false), (35, .bool false), (46, undef)] [] a := Z.pick [36, 37, 38, 39, 40, 41, 42, 43, 44, 45, 1, 2, 8, 9, 10, 11, 32, 33, 34, 35, 46]
 refine pQ (k := 15) 18 [16, 17] (fun i => match i with | 15 => undef | 16 => .bool false | 17 => iv (-1) | _ => undef) Z (by kernel_rfl) (by kernel_rfl) (by kernel_rfl) (by rfl) ?_ ?_
 ·intro i h1 h2
  have hi : i = 15 ∨ i = 16 ∨ i = 17 := by omega
  rcases hi with rfl | rfl | rfl
  ·exact ⟨fun _ => rfl, fun h => by cases h⟩
  ·exact ⟨fun h => (by cases h), fun _ => au rfl rfl⟩
  ·exact ⟨fun h => (by cases h), fun _ => cG rfl⟩
 intro a Z
 replace Z : Fr 49 [(47, undef), (48, .bool false), (4, iv (-1)), (36, undef), (37, undef), (38, undef), (39, undef), (40, undef), (41, undef), (42, undef), (43, undef), (44, undef), (45, undef), (1, lv), (2, pt w0.heap.size), (8, lv), (9, iv (xs.length : Int)), (10, iv (k : Int)), (11, .bool false), (32, lv), (33, iv (xs.length : Int)), (34, .bool false), (35, .bool false), (46, undef)] [] a := Z
 refine aQ (k := 18) 19 [18] (by kernel_rfl) (by kernel_rfl) (by kernel_rfl) ?_
 refine wla Z rfl fun a Z => ab ?_
 refine aZ (by kernel_rfl) ?_
 refine hK10 _ _ ?_
 replace Z : Fr 49 [(4, _), (5, _)] [] a := Z.pick [4, 5]
 replace Y : St No w0 [] w8 := Y.mask [false]
 refine aw ?_
 refine ao Z Tryz.results62 (ah rfl (ah rfl ag)) ?_
 exact ⟨by simp only [retv]; rw [ll (by omega) hs]; try rfl, Y.ext⟩
theorem nH (n m : Int) (w0 : World) (hn : -9223372036854775808 ≤ n ∧ n ≤ 9223372036854775807) (hm : 0 < m ∧ m ≤ 9223372036854775807) :
  Ret Tryz.prog 11 #[iv n, iv m] w0 fun v w => v = iv (pickI n m) ∧ Ext No w0 w := by
 refine aF Tryz.func11 rfl Tryz.ntmps11 (lb rfl) fun a Z => ?_
 replace Z : Fr 13 [(0, _), (1, _)] [] a := Z
 replace Y : St No w0 [] w0 := St.init w0
 refine aa fun K1 hK1 => wla Z rfl fun a Z => ab (hK1 _ _ ?_)
 refine ai fun K2 hK2 => aa fun K3 hK3 => wlm Z rfl fun a Z => wlv Z (v_lt rfl rfl) fun a Z => ab (hK3 _ _ ?_)
 refine ay Z rfl (fun hc1 => ?_) (fun hc1 => ?_)
 ·rw [hc1] at Z
  try simp only [qz] at hc1
  refine am <| wlm Z rfl fun a Z => wlv Z (aT rfl rfl ⟨by omega, by omega⟩) fun a Z => wlv Z (j3 rfl (by omega) (by omega)) fun a Z => wla Z rfl fun a Z => ab ?_
  refine hK2 _ _ ?_
  refine aa fun K4 hK4 => wlm Z rfl fun a Z => wlm Z rfl fun a Z => wlv Z (gN rfl rfl (by omega) (by omega)) fun a Z => wla Z rfl fun a Z => ab (hK4 _ _ ?_)
  replace Z : Fr 13 [(4, _)] [] a := Z.pick [4]
  refine aw ?_
  refine ao Z Tryz.results11 (ah rfl ag) ?_
  exact ⟨by simp only [retv, pickI]; simp [hc1], Y.ext⟩
 rw [hc1] at Z
 try simp only [qz] at hc1
 refine ax ?_
 refine hK2 _ _ ?_
 refine aa fun K5 hK5 => wlm Z rfl fun a Z => wlm Z rfl fun a Z => wlv Z (gN rfl rfl (by omega) (by omega)) fun a Z => wla Z rfl fun a Z => ab (hK5 _ _ ?_)
 replace Z : Fr 13 [(4, _)] [] a := Z.pick [4]
 refine aw ?_
 refine ao Z Tryz.results11 (ah rfl ag) ?_
 exact ⟨by simp only [retv, pickI]; simp [hc1], Y.ext⟩
def dF (to : Int) : Pxy := ⟨1, 2, 1000, 2000, 100, to, []⟩
def dW (to : Int) : Wsh := ⟨2, 1, 1100, 1200, 3, 7, 150, to, []⟩
theorem jT {to : Int} (h : 100 < to) (h2 : to ≤ 10000001) : (dF to).ok = true := by
 show (inB 1 0 63 && inB 2 0 63 && !decide ((1 : Int) = 2) && bP 1000 2000 && ca 100 to) = true
 simp [inB, bP, ca, h, h2]
theorem kY {to : Int} (h : 150 < to) (h2 : to ≤ 10000001) : (dW to).ok = true := by
 show ((inB 2 0 63 && inB 1 0 63) && bP 1100 1200 && inB 3 0 7 && inB 7 0 1000000 && ca 150 to) = true
 simp [inB, bP, ca, h, h2]
theorem go (to : Int) (w0 : World) (h1 : 100 < to) (h2 : to ≤ 10000001) (hk0 : (blk 0 (kOf.map wv) 239).ok w0) :
  Ret Tryz.prog 51 #[iv to] w0 fun v w => v = .agg (((dF to).sealed (keyH 1)).cells).toArray ∧ Ext No w0 w := by
 refine aF Tryz.func51 rfl Tryz.ntmps51 (lb rfl) fun a Z => ?_
 replace Z : Fr 15 [(0, _)] [] a := Z
 replace Y : St (· = 0) w0 [blk 0 (kOf.map wv) 239] w0 := St.one hk0
 refine aa fun K1 hK1 => aK Z Y (by decide) (Tryz.zeroValue40 _) (cs := [iv 0, iv 0, iv 0, iv 0, iv 0, iv 0, .string (⟨#[]⟩)]) rfl ?_
 clear Z Y
 intro a w1 Z Y
 refine ab (hK1 _ _ ?_)
 refine aa fun K2 hK2 => aA Z Y (by decide) Tryz.call21 rfl (dB 1 _) ?_
 clear Z Y
 intro a w2 Z Y
 refine wlv Z (bC (v := .agg #[iv 1000, iv 2000]) rfl (by kernel_rfl)) fun a Z => wlm Z rfl fun a Z => wlv Z (bC (v := .agg #[iv 100, iv to]) rfl (by kernel_rfl)) fun a Z => wlv Z (bC (v := .agg #[iv 1, iv 2, iv 1000, iv 2000, iv 100, iv to, .string (⟨#[]⟩)]) rfl (by kernel_rfl)) fun a Z => aA Z Y (by decide) Tryz.call24 rfl (fo (keyH 1) (dF to) _ (di _) (jT h1 h2) (Y.get (k := 1) rfl)) ?_
 clear Z Y
 intro a w3 Z Y
 refine wlm Z rfl fun a Z => wlv Z (aD rfl rfl) fun a Z => wlv Z (aD rfl rfl) fun a Z => aK Z Y (by decide) (Tryz.zeroValue40 _) (cs := [iv 0, iv 0, iv 0, iv 0, iv 0, iv 0, .string (⟨#[]⟩)]) rfl ?_
 clear Z Y
 intro a w4 Z Y
 refine ap 0 Z Y rfl rfl rfl (Tryz.sizeOf40 _) rfl (lb rfl) (ds := [iv 1, iv 2, iv 1000, iv 2000, iv 100, iv to, sv (sealH (keyH 1) (dF to).content)]) rfl rfl ?_
 clear Z Y
 intro a w5 Z Y
 refine wla Z rfl fun a Z => ab (hK2 _ _ ?_)
 replace Z : Fr 15 [(2, _), (3, _)] [] a := Z.pick [2, 3]
 refine aa fun K3 hK3 => wlv Z (ar (Y.get (k := 0) rfl) rfl (Tryz.isAgg40 _) (Tryz.sizeOf40 _)) fun a Z => ap 1 Z Y rfl rfl rfl (Tryz.sizeOf40 _) rfl (lb rfl) (ds := [iv 1, iv 2, iv 1000, iv 2000, iv 100, iv to, sv (sealH (keyH 1) (dF to).content)]) rfl rfl ?_
 clear Z Y
 intro a w6 Z Y
 refine ab (hK3 _ _ ?_)
 refine aw ?_
 refine ao Z Tryz.results51 (aj rfl (ba (Y.get (k := 1) rfl) (Tryz.isAgg40 _) (Tryz.sizeOf40 _)) ag) ?_
 exact ⟨rfl, Y.ext.const hk0 (Y.get (k := 2) rfl)⟩
theorem ir (to : Int) (w0 : World) (h1 : 150 < to) (h2 : to ≤ 10000001) (hk0 : (blk 0 (kOf.map wv) 239).ok w0) :
  Ret Tryz.prog 50 #[iv to] w0 fun v w => v = .agg (((dW to).sealed (keyH 2)).cells).toArray ∧ Ext No w0 w := by
 refine aF Tryz.func50 rfl Tryz.ntmps50 (lb rfl) fun a Z => ?_
 replace Z : Fr 15 [(0, _)] [] a := Z
 replace Y : St (· = 0) w0 [blk 0 (kOf.map wv) 239] w0 := St.one hk0
 refine aa fun K1 hK1 => aK Z Y (by decide) (Tryz.zeroValue30 _) (cs := [iv 0, iv 0, iv 0, iv 0, iv 0, iv 0, iv 0, iv 0, .string (⟨#[]⟩)]) rfl ?_
 clear Z Y
 intro a w1 Z Y
 refine ab (hK1 _ _ ?_)
 refine aa fun K2 hK2 => aA Z Y (by decide) Tryz.call21 rfl (dB 2 _) ?_
 clear Z Y
 intro a w2 Z Y
 refine wlv Z (bC (v := .agg #[iv 1100, iv 1200]) rfl (by kernel_rfl)) fun a Z => wlm Z rfl fun a Z => wlv Z (bC (v := .agg #[iv 150, iv to]) rfl (by kernel_rfl)) fun a Z => wlv Z (bC (v := .agg #[iv 2, iv 1, iv 1100, iv 1200, iv 3, iv 7, iv 150, iv to, .string (⟨#[]⟩)]) rfl (by kernel_rfl)) fun a Z => aA Z Y (by decide) Tryz.call22 rfl (fK (keyH 2) (dW to) _ (di _) (kY h1 h2) (Y.get (k := 1) rfl)) ?_
 clear Z Y
 intro a w3 Z Y
 refine wlm Z rfl fun a Z => wlv Z (aD rfl rfl) fun a Z => wlv Z (aD rfl rfl) fun a Z => aK Z Y (by decide) (Tryz.zeroValue30 _) (cs := [iv 0, iv 0, iv 0, iv 0, iv 0, iv 0, iv 0, iv 0, .string (⟨#[]⟩)]) rfl ?_
 clear Z Y
 intro a w4 Z Y
 refine ap 0 Z Y rfl rfl rfl (Tryz.sizeOf30 _) rfl (lb rfl) (ds := [iv 2, iv 1, iv 1100, iv 1200, iv 3, iv 7, iv 150, iv to, sv (sealH (keyH 2) (dW to).content)]) rfl rfl ?_
 clear Z Y
 intro a w5 Z Y
 refine wla Z rfl fun a Z => ab (hK2 _ _ ?_)
 replace Z : Fr 15 [(2, _), (3, _)] [] a := Z.pick [2, 3]
 refine aa fun K3 hK3 => wlv Z (ar (Y.get (k := 0) rfl) rfl (Tryz.isAgg30 _) (Tryz.sizeOf30 _)) fun a Z => ap 1 Z Y rfl rfl rfl (Tryz.sizeOf30 _) rfl (lb rfl) (ds := [iv 2, iv 1, iv 1100, iv 1200, iv 3, iv 7, iv 150, iv to, sv (sealH (keyH 2) (dW to).content)]) rfl rfl ?_
 clear Z Y
 intro a w6 Z Y
 refine ab (hK3 _ _ ?_)
 refine aw ?_
 refine ao Z Tryz.results50 (aj rfl (ba (Y.get (k := 1) rfl) (Tryz.isAgg30 _) (Tryz.sizeOf30 _)) ag) ?_
 exact ⟨rfl, Y.ext.const hk0 (Y.get (k := 2) rfl)⟩
end Go.Proofs.YtmmfieceinmloaaGreatDoor
namespace Go.Proofs.YtmmfieceinmloaaGreatDoor
open Go.RowKit Go.PW
set_option linter.unusedVariables false
set_option linter.unusedSimpArgs false
set_option maxRecDepth 4000
def pers : Int → List Pxy → Nat → List (Int × Int)
 | who, [], _ => [(-1, who)]
 | who, p :: l, k => ((k : Int), who) :: pers p.to l (k + 1)
def encQ (x : Int × Int) : List Value := [iv x.1, iv x.2]
def NxQ (h : Int) (xs : List Pxy) (pre : List (Int × Int)) (x : Int × Int) : Prop := ∃ suf, pers h xs 0 = pre ++ x :: suf
theorem jU {M : Nat → Prop} {w0 : World} (h : Int) (lv : Value) (xs : List Pxy) (lp bh bl : Nat) (J Jx : List (Int × Int) → Ent → Prop) (hY : Rounds Tryz.prog M w0 lp encQ (NxQ h xs) J Jx) (e0 : Ent) (ws : World) (hsv : ∀ H w, St M w0 H w → SlAt w lv 7 (xs.map Pxy.cells)) (hJ : J [] e0) (Y : St M w0 [e0, blk bh [iv h] 3, blk bl [lv] 31] ws) :
  Ret Tryz.prog 118 #[.func (.yield lp) #[] #[], pt bh, pt bl] ws fun _ w => ∃ e1 Hi1, St M w0 (e1 :: Hi1) w ∧ ((∃ zs, (zs = pers h xs 0 ∧ Hi1 = [blk bh [iv h] 3, blk bl [lv] 31]) ∧ J zs e1) ∨ (∃ pre, Hi1 = [blk bh [iv h] 3, blk bl [lv] 31] ∧ Jx pre e1)) := by
 refine aF Tryz.func118 rfl Tryz.ntmps118 (lb rfl) fun a Z => ?_
 replace Z : Fr 26 [(0, _), (1, _), (2, _)] [] a := Z
 have hlb := (hsv _ _ Y).2.1
 rw [List.length_map] at hlb
 unfold big at hlb
 refine aa fun K1 hK1 => wlv Z (ae (Y.get (k := 1) rfl) rfl (Tryz.isAgg3 _) rfl) fun a Z => wla Z rfl fun a Z => ab (hK1 _ _ ?_)
 refine ai fun K2 hK2 => aa fun K3 hK3 => wlv Z (ae (Y.get (k := 2) rfl) rfl (Tryz.isAgg31 _) rfl) fun a Z => wlv Z ((aN (sT := 31) (hsv _ _ Y) rfl rfl (Tryz.runUnderlying31 _)).asi (m' := (xs.length : Int)) (by rw [List.length_map])) fun a Z => wlm Z rfl fun a Z => ab (hK3 _ _ ?_)
 refine aq <| aW (fun m a w => ∃ (k : Nat) (who : Int) (e : Ent) (dn : List (Int × Int)), m = xs.length - k ∧ (k ≤ xs.length) ∧ (pers h xs 0 = dn ++ pers who (xs.drop k) k) ∧ (J dn e) ∧ Fr 26 [(0, .func (.yield lp) #[] #[]), (8, lv), (9, iv (xs.length : Int)), (4, iv who), (10, iv (k : Int))] [] a ∧ St M w0 [e, blk bh [iv h] 3, blk bl [lv] 31] w) _ ⟨0, h, e0, [], rfl, Nat.zero_le _, rfl, hJ, Z.pick [0, 8, 9, 4, 10], Y.select [0, 1, 2] (by decide)⟩ ?_
 rintro _ a w1 ⟨k, who, e, dn, rfl, hk, hp, hJ, Z, Y⟩
 refine aa fun K4 hK4 => wlv Z (v_lt rfl rfl) fun a Z => ab (hK4 _ _ ?_)
 refine ai fun K5 hK5 => ?_
 refine ay Z rfl (fun hc1 => ?_) (fun hc1 => ?_)
 ·rw [hc1] at Z
  try simp only [qz] at hc1
  have hkx : k < xs.length := by omega
  refine ax ?_
  refine hK5 _ _ ?_
  refine ai fun K6 hK6 => aq ?_
  refine aa fun K7 hK7 => wlm Z rfl fun a Z => wlv Z ((ak (i := (k : Int)) (sT := 31) (hsv _ _ Y) rfl rfl (Tryz.runUnderlying31 _) (Tryz.sizeOf40 _) (by omega) (by rw [List.length_map]; omega)).as (v' := slAddr lv (k * 7)) rfl) fun a Z => wlv Z ((bO (hsv _ _ Y) (i := k) (by rw [List.length_map]; omega) rfl (Tryz.isAgg40 _) (Tryz.sizeOf40 _)).as (v' := .agg #[iv ((xs.getD k Pxy.z).frm), iv ((xs.getD k Pxy.z).to), iv ((xs.getD k Pxy.z).rf), iv ((xs.getD k Pxy.z).rt), iv ((xs.getD k Pxy.z).sf), iv ((xs.getD k Pxy.z).st), sv ((xs.getD k Pxy.z).sig)]) (by rw [bp Pxy.z]; rfl)) fun a Z => aK Z Y (by decide) (Tryz.zeroValue40 _) (cs := [iv 0, iv 0, iv 0, iv 0, iv 0, iv 0, .string (⟨#[]⟩)]) rfl ?_
  clear Z Y
  intro a w2 Z Y
  refine wla Z rfl fun a Z => ap 0 Z Y rfl rfl rfl (Tryz.sizeOf40 _) rfl (lb rfl) (ds := [iv ((xs.getD k Pxy.z).frm), iv ((xs.getD k Pxy.z).to), iv ((xs.getD k Pxy.z).rf), iv ((xs.getD k Pxy.z).rt), iv ((xs.getD k Pxy.z).sf), iv ((xs.getD k Pxy.z).st), sv ((xs.getD k Pxy.z).sig)]) rfl rfl ?_
  clear Z Y
  intro a w3 Z Y
  refine ab (hK7 _ _ ?_)
  refine ai fun K8 hK8 => aa fun K9 hK9 => wlm Z rfl fun a Z => wlm Z rfl fun a Z => wlm Z rfl fun a Z => wl_r (f7 rfl rfl (hY.yield (pre := dn) (x := ((k : Int), who)) ⟨_, by rw [hp, cr Pxy.z hkx]; rfl⟩ hJ (Y.only (i := 1) rfl))) rfl rfl Z ?_
  clear Z
  intro a v w4 hR Z
  obtain ⟨y2, e3, rfl, hx, hok, hft, hJt, hJf⟩ := hR
  replace Y := Y.exchange (k := 1) rfl hx hok hft
  replace Y : St M w0 [blk w1.heap.size [iv ((xs.getD k Pxy.z).frm), iv ((xs.getD k Pxy.z).to), iv ((xs.getD k Pxy.z).rf), iv ((xs.getD k Pxy.z).rt), iv ((xs.getD k Pxy.z).sf), iv ((xs.getD k Pxy.z).st), sv ((xs.getD k Pxy.z).sig)] 40, e3, blk bh [iv h] 3, blk bl [lv] 31] w4 := Y
  clear hx hok hft
  refine wlv Z (bS rfl) fun a Z => ab (hK9 _ _ ?_)
  replace Z : Fr 26 [(0, _), (8, _), (9, _), (10, _), (6, _), (19, _)] [] a := Z.pick [0, 8, 9, 10, 6, 19]
  refine ay Z rfl (fun hc4 => ?_) (fun hc4 => ?_)
  ·rw [hc4] at Z
   try simp only [qz] at hc4
   have hJ := hJf hc4
   refine aw ?_
   refine ao Z Tryz.results118 ag ?_
   exact ⟨_, _, Y.select [1, 2, 3] (by decide), .inr ⟨_, rfl, hJ⟩⟩
  rw [hc4] at Z
  try simp only [qz] at hc4
  have hJ := hJt hc4
  refine ax ?_
  refine hK8 _ _ ?_
  refine am <| wlv Z (ac (v := .pointer (some ⟨w1.heap.size, 1, none⟩)) rfl (by kernel_rfl)) fun a Z => wlv Z (ae (Y.get (k := 0) rfl) rfl (Tryz.isAgg3 _) rfl) fun a Z => wla Z rfl fun a Z => ab ?_
  refine hK6 _ _ ?_
  refine am <| wlv Z (aT rfl rfl ⟨by omega, by omega⟩) fun a Z => wlm Z rfl fun a Z => ab ?_
  refine ⟨_, ?_, k + 1, (xs.getD k Pxy.z).to, e3, dn ++ [((k : Int), who)], rfl, (by omega), (by rw [hp, cr Pxy.z hkx, pers, List.append_assoc]; rfl), hJ, Z.pick [0, 8, 9, 4, 10], Y.select [1, 2, 3] (by decide)⟩
  omega
 rw [hc1] at Z
 try simp only [qz] at hc1
 obtain rfl : k = xs.length := by omega
 rw [List.drop_length] at hp
 refine aP ?_
 refine hK2 _ _ ?_
 refine am <| wlm Z rfl fun a Z => wlm Z rfl fun a Z => wl_r (f7 rfl rfl (hY.yield (pre := dn) (x := ((-1 : Int), who)) ⟨[], hp⟩ hJ (Y.only (i := 0) rfl))) rfl rfl Z ?_
 clear Z
 intro a v w5 hR Z
 obtain ⟨y5, e6, rfl, hx, hok, hft, hJt, hJf⟩ := hR
 replace Y := Y.exchange (k := 0) rfl hx hok hft
 replace Y : St M w0 [e6, blk bh [iv h] 3, blk bl [lv] 31] w5 := Y
 clear hx hok hft
 refine ab ?_
 refine cA Z Tryz.results118 ag ?_
 rcases Bool.eq_false_or_eq_true y5 with hyy | hyy
 ·exact ⟨_, _, Y.select [0, 1, 2] (by decide), .inl ⟨_, ⟨hp.symm.symm ▸ rfl, rfl⟩, hJt hyy⟩⟩
 ·exact ⟨_, _, Y.select [0, 1, 2] (by decide), .inr ⟨_, rfl, hJf hyy⟩⟩
theorem jr {M : Nat → Prop} {w0 : World} (h : Int) (lv : Value) (xs : List Pxy) (bh bl : Nat) (hsv : ∀ H w, St M w0 H w → SlAt w lv 7 (xs.map Pxy.cells)) :
  Iter Tryz.prog 118 [pt bh, pt bl] encQ (NxQ h xs) (fun zs Hi1 => zs = pers h xs 0 ∧ Hi1 = [blk bh [iv h] 3, blk bl [lv] 31]) (fun pre Hi1 => Hi1 = [blk bh [iv h] 3, blk bl [lv] 31]) M w0 [blk bh [iv h] 3, blk bl [lv] 31] :=
 fun lp J Jx w e hY hJ Y => jU h lv xs lp bh bl J Jx hY e w hsv hJ Y
theorem lx (h : Int) (lv : Value) (xs : List Pxy) (w0 : World) (hlv : SlAt w0 lv 7 (xs.map Pxy.cells)) :
  Ret Tryz.prog 61 #[iv h, lv] w0 (MemR w0 (fun z : Nat × Nat => .func (.func 118) #[] #[pt z.1, pt z.2]) (fun z => [blk z.2 [lv] 31, blk z.1 [iv h] 3]) (fun _ => True)) := by
 refine aF Tryz.func61 rfl Tryz.ntmps61 (lb rfl) fun a Z => ?_
 replace Z : Fr 6 [(0, _), (1, _)] [] a := Z
 replace Y : St No w0 [] w0 := St.init w0
 refine aa fun K1 hK1 => aY Z Y (by decide) rfl (cs := [iv h]) rfl ?_
 clear Z Y
 intro a w1 Z Y
 refine aY Z Y (by decide) rfl (cs := [lv]) (by rw [(Y.arg hlv).cells]) ?_
 clear Z Y
 intro a w2 Z Y
 refine wla Z rfl fun a Z => ab (hK1 _ _ ?_)
 refine aa fun K2 hK2 => wlv Z (cl rfl rfl) fun a Z => wla Z rfl fun a Z => ab (hK2 _ _ ?_)
 refine aw ?_
 refine ao Z Tryz.results61 (ah rfl ag) ?_
 exact ⟨(w0.heap.size, w1.heap.size), rfl, trivial, Y.ext, St.out (H := []) Y⟩
end Go.Proofs.YtmmfieceinmloaaGreatDoor
namespace Go.Proofs.YtmmfieceinmloaaGreatDoor
open Go.RowKit Go.PW
set_option linter.unusedVariables false
set_option linter.unusedSimpArgs false
set_option maxRecDepth 4000
theorem mh {M : Nat → Prop} {wb : World} {H : List Ent} {sv : Value} {els : List (List Value)} {caps : List Value} {g : FuncId} (p : Nat → Bool) (ev_ : Nat → Value) (J : Nat → Ent → Prop) (e0 : Ent) (w0 : World)
  (hen : ∀ args w, (callFunc g args).run Tryz.prog w = .ok (.enter g args) w) (hs : ∀ e w, St M wb (e :: H) w → SlAt w sv 1 els)
  (hev : ∀ k (h : k < els.length), (els[k])[0]? = some (ev_ k)) (hJ0 : J 0 e0) (Y : St M wb (e0 :: H) w0)
  (hcl : ∀ k e w, k < els.length → J k e → e.ok w → (∀ b, e.foot b → b < w.heap.size) → Ret Tryz.prog g ([ev_ k] ++ caps).toArray w fun v w' => v = .bool (p k) ∧ ∃ e', Ext e.foot w w' ∧ e'.ok w' ∧ (∀ b, e'.foot b → b < w'.heap.size ∧ (e.foot b ∨ w.heap.size ≤ b)) ∧ J (k + 1) e') :
  Ret Tryz.prog 113 #[sv, .func (.func g) #[] caps.toArray] w0 fun v w => v = iv (fstIdx p els.length) ∧ ∃ k e', J k e' ∧ St M wb (e' :: H) w := by
 have hsl := (hs _ _ Y).le
 refine aF Tryz.func113 rfl Tryz.ntmps113 (lb rfl) fun a Z => ?_
 have Z : Fr 19 [(0, _), (1, _)] [] a := Z
 refine aa fun K1 hK1 => wla Z rfl fun a Z => ab (hK1 _ _ ?_)
 refine ai fun K2 hK2 => aa fun K3 hK3 => wlm Z rfl fun a Z => wlv Z (aN (sT := 32) (hs _ _ Y) rfl rfl (Tryz.runUnderlying32 _)) fun a Z => wlm Z rfl fun a Z => ab (hK3 _ _ ?_)
 refine aq <| aW (fun m a w => ∃ (k : Nat) (e : Ent), m = els.length - k ∧ (k ≤ els.length) ∧ (∀ j, j < k → p j = false) ∧ (J k e) ∧ Fr 19 [(0, sv), (1, .func (.func g) #[] caps.toArray), (6, sv), (7, iv els.length), (8, iv (k : Int))] [] a ∧ St M wb (e :: H) w) _ ⟨0, e0, rfl, Nat.zero_le _, (by intro j hj; omega), hJ0, Z.pick [0, 1, 6, 7, 8], Y⟩ ?_
 rintro _ a w1 ⟨k, e, rfl, hk, hp, hJ, Z, Y⟩
 refine aa fun K4 hK4 => wlv Z (v_lt rfl rfl) fun a Z => ab (hK4 _ _ ?_)
 refine ai fun K5 hK5 => ?_
 refine ay Z rfl (fun hc1 => ?_) (fun hc1 => ?_)
 ·rw [hc1] at Z
  try simp only [qz] at hc1
  refine ax ?_
  refine hK5 _ _ ?_
  refine ai fun K6 hK6 => aq ?_
  refine aa fun K7 hK7 => wlm Z rfl fun a Z => wla Z rfl fun a Z => ab (hK7 _ _ ?_)
  refine aa fun K8 hK8 => wlm Z rfl fun a Z => wlm Z rfl fun a Z => wlm Z rfl fun a Z => wlv Z ((ak (i := (k : Int)) (sT := 32) (hs _ _ Y) rfl rfl (Tryz.runUnderlying32 _) (Tryz.sizeOf9 _) (by omega) (by omega)).as (v' := slAddr sv (k * 1)) rfl) fun a Z => wlv Z ((aC (u := ev_ k) (i := k) (j := 0) (hs _ _ Y) (by omega) rfl (Tryz.isAgg9 _) (hev k (by omega)))) fun a Z => wl_r (ge (cap := caps) rfl hen rfl (hcl k _ _ (by omega) hJ (Y.get (k := 0) rfl) (fun b hb => Y.lt (k := 0) rfl hb))) rfl rfl Z fun a v w2 hR Z => ?_
  obtain ⟨rfl, e1, hx, hok, hft, hJ1⟩ := hR
  have Y := Y.exchange (k := 0) rfl hx hok hft
  have Y : St M wb (e1 :: H) w2 := Y
  refine ab (hK8 _ _ ?_)
  refine ay Z rfl (fun hc2 => ?_) (fun hc2 => ?_)
  ·rw [hc2] at Z
   try simp only [qz] at hc2
   refine aa fun K9 hK9 => wlm Z rfl fun a Z => wla Z rfl fun a Z => ab (hK9 _ _ ?_)
   refine aw ?_
   refine ao Z Tryz.results113 (ah rfl ag) ?_
   exact ⟨by rw [ei (k := k) (by omega) hp (by assumption)]; rfl, _, _, hJ1, Y⟩
  rw [hc2] at Z
  try simp only [qz] at hc2
  refine ax ?_
  refine hK6 _ _ ?_
  refine am <| wlv Z (aT rfl rfl ⟨by omega, by omega⟩) fun a Z => wlm Z rfl fun a Z => ab ?_
  refine ⟨_, ?_, k + 1, e1, rfl, (by omega), (by intro j hj; by_cases h : j = k; (subst h; assumption); exact hp j (by omega)), hJ1, Z.pick [0, 1, 6, 7, 8], Y⟩
  omega
 rw [hc1] at Z
 try simp only [qz] at hc1
 refine aP ?_
 refine hK2 _ _ ?_
 refine aa fun K10 hK10 => wla Z rfl fun a Z => ab (hK10 _ _ ?_)
 refine aw ?_
 refine ao Z Tryz.results113 (ah rfl ag) ?_
 have hkl : k = els.length := by omega
 subst hkl
 exact ⟨by rw [dZ hp]; rfl, _, _, hJ, Y⟩
theorem jt {M : Nat → Prop} {wb : World} {H : List Ent} {sv : Value} {els : List (List Value)} {caps : List Value} {g : FuncId} (p : Nat → Bool) (ev_ : Nat → Value) (J : Nat → Ent → Prop) (e0 : Ent) (w0 : World)
  (hen : ∀ args w, (callFunc g args).run Tryz.prog w = .ok (.enter g args) w) (hs : ∀ e w, St M wb (e :: H) w → SlAt w sv 1 els)
  (hev : ∀ k (h : k < els.length), (els[k])[0]? = some (ev_ k)) (hJ0 : J 0 e0) (Y : St M wb (e0 :: H) w0)
  (hcl : ∀ k e w, k < els.length → J k e → e.ok w → (∀ b, e.foot b → b < w.heap.size) → Ret Tryz.prog g ([ev_ k] ++ caps).toArray w fun v w' => v = .bool (p k) ∧ ∃ e', Ext e.foot w w' ∧ e'.ok w' ∧ (∀ b, e'.foot b → b < w'.heap.size ∧ (e.foot b ∨ w.heap.size ≤ b)) ∧ J (k + 1) e') :
  Ret Tryz.prog 57 #[sv, .func (.func g) #[] caps.toArray] w0 fun v w => v = .bool ((List.range els.length).any p) ∧ ∃ k e', J k e' ∧ St M wb (e' :: H) w := by
 refine aF Tryz.func57 rfl Tryz.ntmps57 (lb rfl) fun a Z => ?_
 have Z : Fr 9 [(0, _), (1, _)] [] a := Z
 refine aa fun K1 hK1 => wla Z rfl fun a Z => ab (hK1 _ _ ?_)
 refine aa fun K2 hK2 => wlm Z rfl fun a Z => wlm Z rfl fun a Z => wl_r (dK Tryz.call113 rfl (mh p ev_ J e0 _ hen hs hev hJ0 Y hcl)) rfl rfl Z fun a v w1 hR Z => ?_
 obtain ⟨rfl, kk, e1, hJ1, Y⟩ := hR
 refine wlv Z (v_ge rfl rfl) fun a Z => wla Z rfl fun a Z => ab (hK2 _ _ ?_)
 refine aw ?_
 refine ao Z Tryz.results57 (ah rfl ag) ?_
 exact ⟨by rw [gC]; rfl, _, _, hJ1, Y⟩
theorem jo {M : Nat → Prop} {wb : World} {H : List Ent} {sv : Value} {els : List (List Value)} {caps : List Value} {g : FuncId} (p : Nat → Bool) (ev_ : Nat → Value) (J : Nat → Ent → Prop) (e0 : Ent) (w0 : World)
  (hen : ∀ args w, (callFunc g args).run Tryz.prog w = .ok (.enter g args) w) (hs : ∀ e w, St M wb (e :: H) w → SlAt w sv 7 els)
  (hev : ∀ k (h : k < els.length), .agg (els[k]).toArray = ev_ k) (hJ0 : J 0 e0) (Y : St M wb (e0 :: H) w0)
  (hcl : ∀ k e w, k < els.length → J k e → e.ok w → (∀ b, e.foot b → b < w.heap.size) → Ret Tryz.prog g ([ev_ k] ++ caps).toArray w fun v w' => v = .bool (p k) ∧ ∃ e', Ext e.foot w w' ∧ e'.ok w' ∧ (∀ b, e'.foot b → b < w'.heap.size ∧ (e.foot b ∨ w.heap.size ≤ b)) ∧ J (k + 1) e') :
  Ret Tryz.prog 76 #[sv, .func (.func g) #[] caps.toArray] w0 fun v w => v = .bool ((List.range els.length).any p) ∧ ∃ k e', J k e' ∧ St M wb (e' :: H) w := by
 refine aF Tryz.func76 rfl Tryz.ntmps76 (lb rfl) fun a Z => ?_
 have Z : Fr 9 [(0, _), (1, _)] [] a := Z
 refine aa fun K1 hK1 => wla Z rfl fun a Z => ab (hK1 _ _ ?_)
 refine aa fun K2 hK2 => wlm Z rfl fun a Z => wlm Z rfl fun a Z => wl_r (dK Tryz.call116 rfl (iE p ev_ J e0 _ hen hs hev hJ0 Y hcl)) rfl rfl Z fun a v w1 hR Z => ?_
 obtain ⟨rfl, kk, e1, hJ1, Y⟩ := hR
 refine wlv Z (v_ge rfl rfl) fun a Z => wla Z rfl fun a Z => ab (hK2 _ _ ?_)
 refine aw ?_
 refine ao Z Tryz.results76 (ah rfl ag) ?_
 exact ⟨by rw [gC]; rfl, _, _, hJ1, Y⟩
theorem oq {u : Value} {xs : List Pxy} {g : FuncId} (p : Pxy → Bool) (w0 : World) (hen : ∀ args w, (callFunc g args).run Tryz.prog w = .ok (.enter g args) w) (hs : SlAt w0 u 7 (xs.map Pxy.cells))
  (hcl : ∀ (x : Pxy) (w : World), x ∈ xs → Ret Tryz.prog g #[.agg x.cells.toArray] w fun v w' => v = .bool (p x) ∧ Ext No w w') :
  Ret Tryz.prog 76 #[u, .func (.func g) #[] #[]] w0 fun v w => v = .bool (xs.any p) ∧ Ext No w0 w := by
 have Y : St No w0 [join []] w0 := St.join [] [] (St.init w0)
 have h := jo (M := No) (wb := w0) (H := []) (sv := u) (els := xs.map Pxy.cells) (caps := []) (g := g) (fun k => p (xs.getD k Pxy.z)) (fun k => .agg (xs.getD k Pxy.z).cells.toArray) (fun _ e => e = join []) (join []) w0 hen
  (fun e w h => h.arg hs) (fun k h => by rw [bp Pxy.z]) rfl Y (fun k e w hk he hok hlt => by
   subst he
   refine (hcl _ w (bR (by simpa using hk))).mono fun v w' ⟨h1, h2⟩ => ⟨h1, join [], h2.mono (fun k _ hk => hk.elim), ?_, ?_, rfl⟩
   ·exact ⟨fun e he => (by cases he), List.Pairwise.nil⟩
   ·rintro b ⟨e, he, _⟩
    cases he)
 refine h.mono fun v w ⟨h1, k, e, he, Y⟩ => ⟨?_, Y.ext⟩
 rw [h1, List.length_map]
 congr 1
 rw [Bool.eq_iff_iff, List.any_eq_true, List.any_eq_true]
 constructor
 ·rintro ⟨k, hk, hp⟩
  exact ⟨_, bR (List.mem_range.1 hk), hp⟩
 ·rintro ⟨x, hx, hp⟩
  obtain ⟨k, hk, rfl⟩ := List.getElem_of_mem hx
  exact ⟨k, List.mem_range.2 hk, by rw [List.getD_eq_getElem?_getD, List.getElem?_eq_getElem hk]; exact hp⟩
theorem pl {u : Value} {xs : List By} {g : FuncId} (p : By → Bool) (w0 : World) (hen : ∀ args w, (callFunc g args).run Tryz.prog w = .ok (.enter g args) w) (hs : SlAt w0 u 1 (xs.map (fun s => [sv s])))
  (hcl : ∀ (x : By) (w : World), x ∈ xs → Ret Tryz.prog g #[sv x] w fun v w' => v = .bool (p x) ∧ Ext No w w') :
  Ret Tryz.prog 57 #[u, .func (.func g) #[] #[]] w0 fun v w => v = .bool (xs.any p) ∧ Ext No w0 w := by
 have Y : St No w0 [join []] w0 := St.join [] [] (St.init w0)
 have h := jt (M := No) (wb := w0) (H := []) (sv := u) (els := xs.map (fun s => [sv s])) (caps := []) (g := g) (fun k => p (xs.getD k [])) (fun k => sv (xs.getD k [])) (fun _ e => e = join []) (join []) w0 hen
  (fun e w h => h.arg hs) (fun k h => by rw [bp []]; rfl) rfl Y (fun k e w hk he hok hlt => by
   subst he
   refine (hcl _ w (bR (by simpa using hk))).mono fun v w' ⟨h1, h2⟩ => ⟨h1, join [], h2.mono (fun k _ hk => hk.elim), ?_, ?_, rfl⟩
   ·exact ⟨fun e he => (by cases he), List.Pairwise.nil⟩
   ·rintro b ⟨e, he, _⟩
    cases he)
 refine h.mono fun v w ⟨h1, k, e, he, Y⟩ => ⟨?_, Y.ext⟩
 rw [h1, List.length_map]
 congr 1
 rw [Bool.eq_iff_iff, List.any_eq_true, List.any_eq_true]
 constructor
 ·rintro ⟨k, hk, hp⟩
  exact ⟨_, bR (List.mem_range.1 hk), hp⟩
 ·rintro ⟨x, hx, hp⟩
  obtain ⟨k, hk, rfl⟩ := List.getElem_of_mem hx
  exact ⟨k, List.mem_range.2 hk, by rw [List.getD_eq_getElem?_getD, List.getElem?_eq_getElem hk]; exact hp⟩
theorem oP (s : By) (w0 : World) :
  Ret Tryz.prog 55 #[sv s] w0 fun v w => v = .bool (!decide ((s.length : Int) = 32)) ∧ Ext No w0 w := by
 refine aF Tryz.func55 rfl Tryz.ntmps55 (lb rfl) fun a Z => ?_
 replace Z : Fr 6 [(0, _)] [] a := Z
 replace Y : St No w0 [] w0 := St.init w0
 refine aa fun K1 hK1 => wla Z rfl fun a Z => ab (hK1 _ _ ?_)
 refine aa fun K2 hK2 => wlm Z rfl fun a Z => aA Z Y (by decide) Tryz.call56 rfl (dh s _) ?_
 clear Z Y
 intro a w1 Z Y
 refine wlv Z (bS rfl) fun a Z => wla Z rfl fun a Z => ab (hK2 _ _ ?_)
 refine aw ?_
 refine ao Z Tryz.results55 (ah rfl ag) ?_
 exact ⟨by rfl, Y.ext⟩
theorem oN (x : Pxy) (w0 : World) :
  Ret Tryz.prog 75 #[.agg #[iv x.frm, iv x.to, iv x.rf, iv x.rt, iv x.sf, iv x.st, sv x.sig]] w0 fun v w => v = .bool (!decide ((x.sig.length : Int) = 32)) ∧ Ext No w0 w := by
 refine aF Tryz.func75 rfl Tryz.ntmps75 (lb rfl) fun a Z => ?_
 replace Z : Fr 7 [(0, _)] [] a := Z
 replace Y : St No w0 [] w0 := St.init w0
 refine aa fun K1 hK1 => aY Z Y (by decide) rfl (cs := [iv x.frm, iv x.to, iv x.rf, iv x.rt, iv x.sf, iv x.st, sv x.sig]) rfl ?_
 clear Z Y
 intro a w1 Z Y
 refine wla Z rfl fun a Z => ab (hK1 _ _ ?_)
 refine aa fun K2 hK2 => wlv Z (ac (v := .pointer (some ⟨w0.heap.size, 6, none⟩)) rfl (by kernel_rfl)) fun a Z => wlv Z (ae (Y.get (k := 0) rfl) rfl (Tryz.isAgg9 _) rfl) fun a Z => wlv Z (bD rfl rfl (Tryz.runUnderlying9 _)) fun a Z => wlv Z (v_ne rfl rfl) fun a Z => wla Z rfl fun a Z => ab (hK2 _ _ ?_)
 replace Z : Fr 7 [(2, _)] [] a := Z.pick [2]
 replace Y : St No w0 [] w1 := Y.mask [false]
 refine aw ?_
 refine ao Z Tryz.results75 (ah rfl ag) ?_
 exact ⟨by rfl, Y.ext⟩
end Go.Proofs.YtmmfieceinmloaaGreatDoor
namespace Go.Proofs.YtmmfieceinmloaaGreatDoor
open Go.RowKit Go.PW
set_option linter.unusedVariables false
set_option linter.unusedSimpArgs false
set_option maxRecDepth 4000
theorem nR {M : Nat → Prop} {w0 : World} (b bx by_ : Nat) (v : Value) (n d : Int) (ws : World) (hx : smalls [3, n, d]) (Y : St M w0 [bld 133 b (.pointer none) v ([] : By), blk bx [iv n] 3, blk by_ [iv d] 3] ws) :
  Ret Tryz.prog 87 #[pt b, pt bx, pt by_] ws fun u w => u = .tuple #[] ∧ ∃ v2, St M w0 [bld 133 b (pt b) v2 (puts [3, n, d]), blk bx [iv n] 3, blk by_ [iv d] 3] w := by
 refine aF Tryz.func87 rfl Tryz.ntmps87 (lb rfl) fun a Z => ?_
 replace Z : Fr 9 [(0, _), (1, _), (2, _)] [] a := Z
 skip
 refine am <| wlm Z rfl fun a Z => wlv Z (ae (Y.get (k := 1) rfl) rfl (Tryz.isAgg3 _) rfl) fun a Z => wlv Z (ae (Y.get (k := 2) rfl) rfl (Tryz.isAgg3 _) rfl) fun a Z => aG (E := 3) (sz := 1) rfl [[iv 3], [iv n], [iv d]] (by kernel_rfl) (by simp) rfl (by decide) (by decide) Z Y ?_
 clear Z Y
 intro a w1 Z Y
 replace Y : St M w0 [bld 133 b (.pointer none) v ([] : By), own (.slice (some ⟨ws.heap.size, 0, none⟩) 3 3) 3 1 ([[iv 3], [iv n], [iv d]]), blk bx [iv n] 3, blk by_ [iv d] 3] w1 := Y.select [1, 0, 2, 3] (by decide)
 replace Y := St.join [bld 133 b (.pointer none) v ([] : By), own (.slice (some ⟨ws.heap.size, 0, none⟩) 3 3) 3 1 ([[iv 3], [iv n], [iv d]])] [blk bx [iv n] 3, blk by_ [iv d] 3] Y
 refine aV (R := fun u e' => u = .tuple #[] ∧ ∃ v2, e' = bld 133 b (pt b) v2 (([] : By) ++ puts [3, n, d])) 0 Z Y rfl (by decide) Tryz.call77 rfl (fun h => (dO 133 b _ _ _ _ [3, n, d] _ (by kernel_rfl) (.inl rfl) hx (by simp) (by simp) (St.unjoin [bld 133 b (.pointer none) v ([] : By), own (.slice (some ⟨ws.heap.size, 0, none⟩) 3 3) 3 1 ([[iv 3], [iv n], [iv d]])] [] h)).mono fun u w ⟨h1, v2, h2⟩ => ⟨_, ⟨h1, v2, rfl⟩, h2⟩) ?_
 clear Z Y
 rintro a w2 _ _ ⟨rfl, v1, rfl⟩ Z Y
 replace Y : St M w0 [bld 133 b (pt b) v1 (([] : By) ++ puts [3, n, d]), blk bx [iv n] 3, blk by_ [iv d] 3] w2 := Y
 refine ab ?_
 refine cA Z Tryz.results87 ag ?_
 exact ⟨rfl, _, Y.select [0, 1, 2] (by decide)⟩
end Go.Proofs.YtmmfieceinmloaaGreatDoor
namespace Go.Proofs.YtmmfieceinmloaaGreatDoor
set_option linter.unusedVariables false
set_option linter.unusedSimpArgs false
def gv : By → Nat
 | [] => 0
 | b :: l => b.toNat % 128 + 128 * gv l
def uz (z : Nat) : Int := if z % 2 = 0 then ((z / 2 : Nat) : Int) else -((z / 2 : Nat) : Int) - 1
theorem uz_zz (n : Int) : uz (zz n) = n := by
 unfold uz zz
 split <;> split <;> omega
theorem zz_uz (z : Nat) : zz (uz z) = z := by
 unfold uz zz
 split <;> split <;> omega
def rdG : Nat → By → Option (By × By)
 | 0, _ => none
 | _ + 1, [] => none
 | f + 1, b :: s => if b.toNat < 128 then some ([b], s) else (rdG f s).map fun p => (b :: p.1, p.2)
def rdI (s : By) : Option (Int × By) :=
 match rdG 9 s with
 | none => none
 | some (l, r) => if vb 8 (gv l) = l ∧ -4611686018427387903 ≤ uz (gv l) then some (uz (gv l), r) else none
theorem pK : ∀ l : By, gv l < 128 ^ l.length
 | [] => by simp [gv]
 | b :: l => by
  have h := pK l
  have := Nat.mod_lt b.toNat (y := 128) (by decide)
  rw [gv, List.length_cons, Nat.pow_succ]
  omega
theorem pH : ∀ (f z : Nat), z < 128 ^ (f + 1) → gv (vb f z) = z
 | 0, z, h => by
  have h : z < 128 := by simpa using h
  rw [vb, gv, dq (by omega), gv]; omega
 | f + 1, z, h => by
  unfold vb
  split
  ·rw [gv, dq (by omega), gv]; omega
  ·rw [gv, dq (by omega), pH f _ (by rw [Nat.pow_succ] at h; exact Nat.div_lt_of_lt_mul (by rw [Nat.mul_comm]; exact h))]
   omega
theorem nc : ∀ (f z : Nat) (r : By), z < 128 ^ (f + 1) → rdG (f + 1) (vb f z ++ r) = some (vb f z, r)
 | 0, z, r, h => by
  have h : z < 128 := by simpa using h
  rw [vb, List.cons_append, List.nil_append, rdG, dq (by omega), if_pos h]
 | f + 1, z, r, h => by
  unfold vb
  split
  ·rw [List.cons_append, List.nil_append, rdG, dq (by omega), if_pos (by assumption)]
  ·rw [List.cons_append, rdG, dq (by omega), if_neg (by omega), nc f _ r (by rw [Nat.pow_succ] at h; exact Nat.div_lt_of_lt_mul (by rw [Nat.mul_comm]; exact h))]
   rfl
theorem gW : ∀ {f : Nat} {s l r : By}, rdG f s = some (l, r) → s = l ++ r ∧ l.length ≤ f
 | 0, s, l, r, h => by cases h
 | f + 1, [], l, r, h => by cases h
 | f + 1, b :: s, l, r, h => by
  rw [rdG] at h
  split at h
  ·cases h; exact ⟨rfl, by simp⟩
  ·cases hq : rdG f s with
   | none => rw [hq] at h; cases h
   | some p =>
    rw [hq] at h
    obtain ⟨l1, r1⟩ := p
    cases h
    obtain ⟨h1, h2⟩ := gW hq
    exact ⟨by rw [h1]; rfl, by simp; omega⟩
theorem pow128 : (128 : Nat) ^ 9 = 9223372036854775808 := by decide
theorem oC {n : Int} (h : small n) (r : By) : rdI (putI n ++ r) = some (n, r) := by
 have hz := nG h.1 h.2
 unfold rdI putI
 rw [nc 8 _ r (by rw [pow128]; exact hz)]
 simp only
 rw [pH 8 _ (by rw [pow128]; exact hz), uz_zz, if_pos ⟨rfl, h.1⟩]
theorem kt {s r : By} {n : Int} (h : rdI s = some (n, r)) : small n ∧ s = putI n ++ r := by
 unfold rdI at h
 split at h
 ·cases h
 ·rename_i l r1 hq
  split at h
  ·rename_i hc
   cases h
   obtain ⟨h1, h2⟩ := gW hq
   refine ⟨⟨hc.2, ?_⟩, ?_⟩
   ·have h3 := pK l
    have h4 : (128 : Nat) ^ l.length ≤ 128 ^ 9 := Nat.pow_le_pow_right (by decide) h2
    rw [pow128] at h4
    unfold uz
    split <;> omega
   ·rw [h1]; unfold putI; rw [zz_uz, hc.1]
  ·cases h
theorem canon : ∀ (f : Nat) (l : By) (b : UInt8), l.length ≤ f → (∀ c ∈ l, 128 ≤ c.toNat) → b.toNat < 128 → (vb f (gv (l ++ [b])) = l ++ [b] ↔ (l = [] ∨ b ≠ 0))
 | f, [], b, hl, hc, hb => by
  have e : gv ([] ++ [b]) = b.toNat := by simp [gv]; omega
  rw [e]
  have h2 : UInt8.ofNat b.toNat = b := by simp
  cases f with
  | zero => simp [vb]
  | succ f => rw [vb, if_pos hb]; simp
 | 0, c :: l, b, hl, hc, hb => by simp at hl
 | f + 1, c :: l, b, hl, hc, hb => by
  have hcc := hc c (by simp)
  have hc2 : c.toNat < 256 := c.toNat_lt
  have ih := canon f l b (by simpa using hl) (fun c h => hc c (by simp [h])) hb
  have e : gv (c :: l ++ [b]) = c.toNat % 128 + 128 * gv (l ++ [b]) := rfl
  have hcb : UInt8.ofNat (c.toNat % 128 + 128) = c := by
   rw [show c.toNat % 128 + 128 = c.toNat from by omega]; simp
  constructor
  ·intro h
   right
   intro hb0
   rw [e, vb] at h
   split at h
   ·have := congrArg List.length h
    simp at this
   ·rename_i h128
    rw [List.cons_append] at h
    injection h with h1 h2
    rw [show (c.toNat % 128 + 128 * gv (l ++ [b])) / 128 = gv (l ++ [b]) from by omega] at h2
    rcases ih.1 h2 with rfl | h3
    ·subst hb0
     simp [gv] at h128; omega
    ·exact h3 hb0
  ·intro h
   have hb0 : b ≠ 0 := h.resolve_left (by simp)
   have hpos : ∀ l : By, 0 < gv (l ++ [b]) := by
    intro l
    induction l with
    | nil =>
     have : b.toNat ≠ 0 := fun h0 => hb0 (UInt8.toNat_inj.1 (by rw [h0]; rfl))
     simp [gv]; omega
    | cons d l ih => rw [List.cons_append, gv]; omega
   have hp := hpos l
   rw [e, vb, if_neg (by omega), show (c.toNat % 128 + 128 * gv (l ++ [b])) / 128 = gv (l ++ [b]) from by omega, show (c.toNat % 128 + 128 * gv (l ++ [b])) % 128 = c.toNat % 128 from by omega, hcb, ih.2 (.inr hb0)]
   rfl
theorem jA : ∀ (l : By) (b : UInt8), gv (l ++ [b]) = gv l + b.toNat % 128 * 128 ^ l.length
 | [], b => by simp [gv]
 | c :: l, b => by
  rw [List.cons_append, gv, jA l b, gv, List.length_cons, Nat.pow_succ, Nat.mul_add, Nat.add_assoc]
  congr 1
  congr 1
  rw [Nat.mul_comm, Nat.mul_assoc]
def wI : Nat → Nat → Nat → By → Option (Int × Nat)
 | 0, _, _, _ => none
 | _ + 1, _, _, [] => none
 | f + 1, i, z, b :: s =>
  if b.toNat < 128 then (if (b = 0 ∧ 0 < i) ∨ uz (z + b.toNat % 128 * 128 ^ i) < -4611686018427387903 then none else some (uz (z + b.toNat % 128 * 128 ^ i), i + 1))
  else wI f (i + 1) (z + b.toNat % 128 * 128 ^ i) s
theorem nl : ∀ (f : Nat) (l s : By), f + l.length = 9 → (∀ c ∈ l, 128 ≤ c.toNat) →
  wI f l.length (gv l) s = match rdG f s with
   | none => none
   | some (m, r) => if vb 8 (gv (l ++ m)) = l ++ m ∧ -4611686018427387903 ≤ uz (gv (l ++ m)) then some (uz (gv (l ++ m)), (l ++ m).length) else none
 | 0, l, s, hf, hl => rfl
 | f + 1, l, [], hf, hl => rfl
 | f + 1, l, b :: s, hf, hl => by
  rw [wI, rdG]
  by_cases hb : b.toNat < 128
  ·rw [if_pos hb, if_pos hb]
   simp only
   rw [← jA]
   have hc := canon 8 l b (by omega) hl hb
   have h0 : 0 < l.length ↔ l ≠ [] := by rw [List.length_pos_iff]
   by_cases h1 : vb 8 (gv (l ++ [b])) = l ++ [b]
   ·have h2 := hc.1 h1
    by_cases h3 : uz (gv (l ++ [b])) < -4611686018427387903
    ·rw [if_pos (.inr h3), if_neg (by omega)]
    ·rw [if_neg, if_pos ⟨h1, by omega⟩]
     ·simp
     ·rintro (⟨h4, h5⟩ | h4)
      ·rcases h2 with h2 | h2
       ·exact (h0.1 h5) h2
       ·exact h2 h4
      ·exact h3 h4
   ·have h2 : ¬ (l = [] ∨ b ≠ 0) := fun h => h1 (hc.2 h)
    rw [if_pos, if_neg (fun h => h1 h.1)]
    refine .inl ⟨?_, ?_⟩
    ·exact Classical.byContradiction fun h => h2 (.inr h)
    ·exact h0.2 fun h => h2 (.inl h)
  ·rw [if_neg hb, if_neg hb, ← jA]
   have := nl f (l ++ [b]) s (by simp; omega) (by
    intro c h
    rcases List.mem_append.1 h with h | h
    ·exact hl c h
    ·rw [List.mem_singleton.1 h]; omega)
   rw [List.length_append, List.length_cons, List.length_nil] at this
   rw [this]
   cases hq : rdG f s with
   | none => rfl
   | some p => simp [List.append_assoc]
theorem nw (s : By) : wI 9 0 0 s = (rdI s).map fun p => (p.1, s.length - p.2.length) := by
 have h := nl 9 [] s rfl (by simp)
 rw [show gv [] = 0 from rfl, show ([] : By).length = 0 from rfl] at h
 rw [h]
 unfold rdI
 cases hq : rdG 9 s with
 | none => rfl
 | some p =>
  obtain ⟨m, r⟩ := p
  obtain ⟨h1, h2⟩ := gW hq
  simp only [List.nil_append]
  split
  ·rw [h1]; simp
  ·rfl
section
variable {α : Type}
def getI (s : By) (k : Int → By → Option α) : Option α := match rdI s with
 | some (n, r) => k n r
 | none => none
def kindI (x : Int) (s : By) (k : By → Option α) : Option α := getI s fun n r => if n = x then k r else none
def getD32 (s : By) (k : By → By → Option α) : Option α := if 32 ≤ s.length then k (s.take 32) (s.drop 32) else none
def rdPxy (s : By) (k : Pxy → By → Option α) : Option α := kindI 2 s fun s => getI s fun a s => getI s fun b s => getI s fun c s => getI s fun d s => getI s fun e s => getI s fun f s => getD32 s fun g s => k ⟨a, b, c, d, e, f, g⟩ s
def rdWsh (s : By) (k : Wsh → By → Option α) : Option α := kindI 1 s fun s => getI s fun a s => getI s fun b s => getI s fun c s => getI s fun d s => getI s fun e s => getI s fun f s => getI s fun g s => getI s fun h s => getD32 s fun y s => k ⟨a, b, c, d, e, f, g, h, y⟩ s
def rdPxys : Nat → List Pxy → By → (List Pxy → By → Option α) → Option α
 | 0, acc, s, k => k acc s
 | n + 1, acc, s, k => rdPxy s fun p s => rdPxys n (acc ++ [p]) s k
theorem cd {s r : By} {n : Int} {k : Int → By → Option α} (h : rdI s = some (n, r)) : getI s k = k n r := by unfold getI; rw [h]
theorem bY {s : By} {k : Int → By → Option α} (h : rdI s = none) : getI s k = none := by unfold getI; rw [h]
theorem bZ {n : Int} (h : small n) (r : By) (k : Int → By → Option α) : getI (putI n ++ r) k = k n r := cd (oC h r)
theorem gx {g : By} (h : g.length = 32) (r : By) (k : By → By → Option α) : getD32 (g ++ r) k = k g r := by
 unfold getD32
 rw [if_pos (by rw [List.length_append]; omega), ← h, List.take_left, List.drop_left]
def Pxy.text (p : Pxy) : By := p.content ++ p.sig
def Wsh.text (w : Wsh) : By := w.content ++ w.sig
theorem iQ {n : Int} (h : small n) (r : By) (k : By → Option α) : kindI n (putI n ++ r) k = k r := by
 unfold kindI; rw [bZ h, if_pos rfl]
theorem mS {p : Pxy} (h : p.ok = true) (hs : p.sig.length = 32) (r : By) (k : Pxy → By → Option α) : rdPxy (p.text ++ r) k = k p r := by
 simp only [Pxy.ok, inB, bP, ca, Bool.and_eq_true, decide_eq_true_eq] at h
 unfold rdPxy Pxy.text Pxy.content
 simp only [puts, List.flatMap_cons, List.flatMap_nil, List.append_assoc, List.nil_append]
 rw [iQ (by unfold small; omega), bZ (by unfold small; omega), bZ (by unfold small; omega), bZ (by unfold small; omega), bZ (by unfold small; omega), bZ (by unfold small; omega), bZ (by unfold small; omega), gx hs]
theorem mT {w : Wsh} (h : w.ok = true) (hs : w.sig.length = 32) (r : By) (k : Wsh → By → Option α) : rdWsh (w.text ++ r) k = k w r := by
 simp only [Wsh.ok, inB, bP, ca, Bool.and_eq_true, decide_eq_true_eq] at h
 unfold rdWsh Wsh.text Wsh.content
 simp only [puts, List.flatMap_cons, List.flatMap_nil, List.append_assoc, List.nil_append]
 rw [iQ (by unfold small; omega), bZ (by unfold small; omega), bZ (by unfold small; omega), bZ (by unfold small; omega), bZ (by unfold small; omega), bZ (by unfold small; omega), bZ (by unfold small; omega), bZ (by unfold small; omega), bZ (by unfold small; omega), gx hs]
theorem gL : ∀ {l : List Pxy} {acc : List Pxy} (r : By) (k : List Pxy → By → Option α), (∀ p ∈ l, p.ok = true) → (∀ p ∈ l, p.sig.length = 32) → rdPxys l.length acc (l.flatMap Pxy.text ++ r) k = k (acc ++ l) r
 | [], acc, r, k, h1, h2 => by simp [rdPxys]
 | p :: l, acc, r, k, h1, h2 => by
  rw [List.length_cons, rdPxys, List.flatMap_cons, List.append_assoc, mS (h1 p (by simp)) (h2 p (by simp)), gL r k (fun p h => h1 p (by simp [h])) (fun p h => h2 p (by simp [h]))]
  simp
end
theorem cz : ∀ {l : List Pxy} {k : Nat}, badIdx l k = none → ∀ p ∈ l, p.ok = true
 | [], k, h => by simp
 | q :: l, k, h => by
  rw [badIdx] at h
  split at h
  ·rename_i hq
   intro p hp
   rcases List.mem_cons.1 hp with rfl | hp
   ·exact hq
   ·exact cz h p hp
  ·cases h
def shutH (l : List Pxy) (w : Wsh) (r : By) : Option (Wsh × List Pxy) := if r = [] ∧ bI w l = true then some (w, l) else none
def tailH (l : List Pxy) (s : By) : Option (Wsh × List Pxy) := rdWsh s (shutH l)
def db (s : By) : Option (Wsh × List Pxy) := getI s fun n r => if inB n 0 4 = true then rdPxys n.toNat [] r tailH else none
def lR (w : Wsh) (l : List Pxy) : Bool := decide (w.sig.length = 32) && l.all fun p => decide (p.sig.length = 32)
def cT (w : Wsh) (l : List Pxy) : Option By := if bI w l && lR w l then some (putI (l.length : Int) ++ (l.flatMap Pxy.text ++ w.text)) else none
theorem cL {w : Wsh} {l : List Pxy} {s : By} : cT w l = some s ↔ bI w l = true ∧ w.sig.length = 32 ∧ (∀ p ∈ l, p.sig.length = 32) ∧ s = putI (l.length : Int) ++ (l.flatMap Pxy.text ++ w.text) := by
 unfold cT lR
 constructor
 ·intro h
  split at h
  ·rename_i hc
   cases h
   simpa [and_assoc] using hc
  ·cases h
 ·rintro ⟨h1, h2, h3, rfl⟩
  rw [if_pos (by simp [h1, h2]; exact h3)]
theorem ig {w : Wsh} {l : List Pxy} {s : By} (h : cT w l = some s) : db s = some (w, l) := by
 obtain ⟨h1, h2, h3, rfl⟩ := cL.1 h
 have hf := h1
 simp only [bI, Bool.and_eq_true, decide_eq_true_eq, Option.isNone_iff_eq_none] at h1
 obtain ⟨⟨h4, h5⟩, h6⟩ := h1
 unfold db
 rw [bZ (by unfold small; omega), if_pos (by simp [inB]; omega), Int.toNat_natCast, gL _ _ (cz h6) h3]
 unfold tailH
 have := mT h4 h2 [] (shutH ([] ++ l))
 rw [List.append_nil] at this
 rw [this, List.nil_append]
 exact if_pos ⟨rfl, hf⟩
end Go.Proofs.YtmmfieceinmloaaGreatDoor
namespace Go.Proofs.YtmmfieceinmloaaGreatDoor
open Go.RowKit Go.PW
set_option linter.unusedVariables false
set_option linter.unusedSimpArgs false
set_option maxRecDepth 4000
theorem ly {w0 w : World} {b1 b2 : Nat} {c1 c2 : List Value} {T1 T2 : TypeId} (h : Ext (fun k => k = b1 ∨ k = b2) w0 w) (h1 : (blk b1 c1 T1).ok w0) (h1' : (blk b1 c1 T1).ok w) (h2 : (blk b2 c2 T2).ok w0) (h2' : (blk b2 c2 T2).ok w) : Ext No w0 w := by
 refine ⟨h.os, h.tape, h.output, h.size, fun k hk _ => ?_⟩
 by_cases e1 : k = b1
 ·subst e1; exact Eq.trans h1' (Eq.symm h1)
 ·by_cases e2 : k = b2
  ·subst e2; exact Eq.trans h2' (Eq.symm h2)
  ·exact h.same k hk fun hh => hh.elim e1 e2
theorem fa {w0 w : World} {H : List Ent} {i b g : Nat} {cs c1 : List Value} {T T1 : TypeId} (h : St No w0 H w) (hi : H[i]? = some (blk b cs T)) (hg : (blk g c1 T1).ok w0) : b ≠ g := by
 rintro rfl
 exact ((h.ok _ (List.mem_of_getElem? hi)).2 b rfl).2 (Array.getElem?_eq_some_iff.1 hg).1
theorem iH (key content : By) (g : FuncId) (bx : Nat) (cs : List Value) (T : TypeId) (w0 : World) (hen : ∀ args w, (callFunc g args).run Tryz.prog w = .ok (.enter g args) w)
  (hc : ∀ {M : Nat → Prop} {w0 : World} (b : Nat) (v : Value) (ws : World), St M w0 [bld 133 b (.pointer none) v [], blk bx cs T] ws → Ret Tryz.prog g ([pt b] ++ [pt bx]).toArray ws fun u w => u = .tuple #[] ∧ ∃ v2, St M w0 [bld 133 b (pt b) v2 content, blk bx cs T] w)
  (hne : content ≠ []) (hkl : key.length ≤ 40000000) (hcl : content.length ≤ 40000000) (hk0 : (blk 0 (kOf.map wv) 239).ok w0) (hbx : (blk bx cs T).ok w0) (hgb : bx ≠ 0) :
  Ret Tryz.prog 63 #[sv key, .func (.func g) #[] #[pt bx]] w0 fun v w => v = sv (sealH key content) ∧ Ext No w0 w := by
 have Y : St (fun k => k = 0 ∨ k = bx) w0 [(blk 0 (kOf.map wv) 239), blk bx cs T] w0 := by
  refine ⟨Ext.refl _ _, fun e he => ?_, ?_⟩
  ·simp only [List.mem_cons, List.not_mem_nil, or_false] at he
   rcases he with rfl | rfl
   ·exact ⟨hk0, fun k hk => by cases hk; exact ⟨(Array.getElem?_eq_some_iff.1 hk0).1, fun _ => .inl rfl⟩⟩
   ·exact ⟨hbx, fun k hk => by cases hk; exact ⟨(Array.getElem?_eq_some_iff.1 hbx).1, fun _ => .inr rfl⟩⟩
  ·refine List.Pairwise.cons (fun e he k hk hk' => ?_) (List.pairwise_singleton _ _)
   simp only [List.mem_cons, List.not_mem_nil, or_false] at he
   subst he
   cases hk
   exact hgb (Eq.symm hk')
 exact (fY key content g [pt bx] (blk bx cs T) w0 hen hc hne hkl hcl Y).mono fun v w ⟨h1, h2⟩ => ⟨h1, ly h2.ext hk0 (h2.get (k := 0) rfl) hbx (h2.get (k := 1) rfl)⟩
theorem kc : ∀ {l : List Pxy} {k i : Nat}, badIdx l k = some i → k ≤ i ∧ i - k < l.length ∧ (l.getD (i - k) Pxy.z).ok = false ∧ ∀ j, j < i - k → (l.getD j Pxy.z).ok = true
 | [], k, i, h => by cases h
 | p :: l, k, i, h => by
  rw [badIdx] at h
  split at h
  ·rename_i hp
   obtain ⟨h1, h2, h3, h4⟩ := kc h
   have e : i - k = (i - (k + 1)) + 1 := by omega
   refine ⟨by omega, by simp; omega, by rw [e]; exact h3, fun j hj => ?_⟩
   cases j with
   | zero => exact hp
   | succ j => exact h4 j (by omega)
  ·rename_i hp
   cases h
   refine ⟨Nat.le_refl _, by simp, by rw [Nat.sub_self]; simpa using hp, fun j hj => by omega⟩
theorem fZ (l : List Pxy) : badN l = match badIdx l 0 with | some i => (i : Int) | none => -1 := by
 cases h : badIdx l 0 with
 | none =>
  refine dZ fun j hj => ?_
  rw [cz h _ (bR hj)]; rfl
 | some i =>
  obtain ⟨_, h2, h3, h4⟩ := kc h
  rw [Nat.sub_zero] at h2 h3 h4
  exact ei h2 (fun j hj => by rw [h4 j hj]; rfl) (by rw [h3]; rfl)
theorem j9 {l : List Pxy} (h : badN l < 0) : badIdx l 0 = none := by
 rw [fZ] at h
 cases hb : badIdx l 0 with
 | none => rfl
 | some i => rw [hb] at h; simp only at h; omega
theorem gG (x : Wsh) (l : List Pxy) : (x.ok && decide ((l.length : Int) ≤ 4) && decide (badN l < 0)) = bI x l := by
 unfold bI
 rw [fZ]
 congr 1
 ·congr 1
  exact decide_eq_decide.2 (by omega)
 ·cases badIdx l 0 with
  | none => rfl
  | some i => exact decide_eq_false (by simp only; omega)
section
variable {ks : List By} {x : Wsh} {ps : List Pxy} {number t : Int}
abbrev formB (ks : List By) (x : Wsh) (ps : List Pxy) : Prop := 64 < ks.length ∨ (ks.all fun s => decide (s.length = 32)) = false ∨ x.ok = false ∨ 4 < ps.length
theorem el : (ks.any fun s => !decide ((s.length : Int) = 32)) = !(ks.all fun s => decide (s.length = 32)) := by
 rw [List.all_eq_not_any_not, Bool.not_not]
 congr 1
 funext s
 congr 1
 exact decide_eq_decide.2 (by omega)
theorem lH (h : ¬ formB ks x ps) : ∀ s ∈ ks, s.length = 32 := by
 have : (ks.all fun s => decide (s.length = 32)) = true := by
  cases hh : (ks.all fun s => decide (s.length = 32)) with
  | true => rfl
  | false => exact absurd (.inr (.inl hh)) h
 intro s hs
 exact of_decide_eq_true (List.all_eq_true.1 this s hs)
theorem cQ (h : formB ks x ps) : whyH ks x ps number t = (1, -1) := by unfold whyH; rw [if_pos h]
theorem lW (h : ¬ formB ks x ps) (hb : 0 ≤ badN ps) : whyH ks x ps number t = (1, badN ps) := by
 unfold whyH; rw [if_neg h]
 rw [fZ] at hb ⊢
 cases he : badIdx ps 0 with
 | none => rw [he] at hb; simp only at hb; omega
 | some i => rfl
def whyP (ks : List By) (x : Wsh) (ps : List Pxy) (number t : Int) : Prop := ¬ formB ks x ps ∧ badIdx ps 0 = none ∧ inB t x.sf (x.st - 1) = true ∧ inB number x.rf (x.rt - 1) = true
theorem eb (h : ¬ formB ks x ps) (hb : badIdx ps 0 = none) (ht : inB t x.sf (x.st - 1) = false) : whyH ks x ps number t = (2, -1) := by
 unfold whyH; rw [if_neg h, hb]; simp only; rw [if_pos ht]
theorem fe (h : ¬ formB ks x ps) (hb : badIdx ps 0 = none) (ht : inB t x.sf (x.st - 1) = true) (hn : inB number x.rf (x.rt - 1) = false) : whyH ks x ps number t = (3, -1) := by
 unfold whyH; rw [if_neg h, hb]; simp only; rw [if_neg (by rw [ht]; decide), if_pos hn]
theorem es {i : Int} (h : whyP ks x ps number t) (hc : bt x.signer x.holder ps 0 = some i) : whyH ks x ps number t = (4, i) := by
 obtain ⟨h, hb, ht, hn⟩ := h
 unfold whyH; rw [if_neg h, hb]; simp only; rw [if_neg (by rw [ht]; decide), if_neg (by rw [hn]; decide), hc]
theorem er {i : Int} (h : whyP ks x ps number t) (hc : bt x.signer x.holder ps 0 = none) (hs : aU x none ps 0 = some i) : whyH ks x ps number t = (5, i) := by
 obtain ⟨h, hb, ht, hn⟩ := h
 unfold whyH; rw [if_neg h, hb]; simp only; rw [if_neg (by rw [ht]; decide), if_neg (by rw [hn]; decide), hc]; simp only; rw [hs]
theorem cU {i : Int} (h : whyP ks x ps number t) (hc : bt x.signer x.holder ps 0 = none) (hs : aU x none ps 0 = none) (hl : bG ks x ps 0 = some i) : whyH ks x ps number t = (6, i) := by
 obtain ⟨h, hb, ht, hn⟩ := h
 unfold whyH; rw [if_neg h, hb]; simp only; rw [if_neg (by rw [ht]; decide), if_neg (by rw [hn]; decide), hc]; simp only; rw [hs]; simp only; rw [hl]
theorem e8 (h : whyP ks x ps number t) (hc : bt x.signer x.holder ps 0 = none) (hs : aU x none ps 0 = none) (hl : bG ks x ps 0 = none) : whyH ks x ps number t = (0, -1) := by
 obtain ⟨h, hb, ht, hn⟩ := h
 unfold whyH; rw [if_neg h, hb]; simp only; rw [if_neg (by rw [ht]; decide), if_neg (by rw [hn]; decide), hc]; simp only; rw [hs]; simp only; rw [hl]
def okQ (ps : List Pxy) (sg : Int) (z : Int × Int) : Bool := if 0 ≤ z.1 then decide ((ps.getD z.1.toNat Pxy.z).frm = z.2) else decide (sg = z.2)
theorem pD {sg : Int} {z : Int × Int} (h : 0 ≤ z.1) (h2 : (ps.getD z.1.toNat Pxy.z).frm = z.2) : okQ ps sg z = true := by unfold okQ; rw [if_pos h]; exact decide_eq_true h2
theorem ou {sg : Int} {z : Int × Int} (h : ¬ 0 ≤ z.1) (h2 : sg = z.2) : okQ ps sg z = true := by unfold okQ; rw [if_neg h]; exact decide_eq_true h2
theorem pb {sg : Int} {z : Int × Int} (h : 0 ≤ z.1) (h2 : ¬ (ps.getD z.1.toNat Pxy.z).frm = z.2) : okQ ps sg z = false := by unfold okQ; rw [if_pos h]; exact decide_eq_false h2
theorem pE {sg : Int} {z : Int × Int} (h : ¬ 0 ≤ z.1) (h2 : ¬ sg = z.2) : okQ ps sg z = false := by unfold okQ; rw [if_neg h]; exact decide_eq_false h2
theorem eI {sg : Int} : ∀ (l : List Pxy) (k : Nat) (who : Int), l = ps.drop k → bt sg who l k = ((pers who l k).find? fun z => !okQ ps sg z).map (·.1)
 | [], k, who, h => by
  rw [bt, pers, List.find?_cons, List.find?_nil]
  unfold okQ
  rw [if_neg (show ¬ (0 : Int) ≤ -1 by decide)]
  by_cases hs : sg = who
  ·rw [if_pos hs, decide_eq_true hs]; rfl
  ·rw [if_neg hs, decide_eq_false hs]; rfl
 | p :: l, k, who, h => by
  have hp : ps.getD k Pxy.z = p := by rw [List.getD_eq_getElem?_getD, show ps[k]? = some p from by rw [← List.head?_drop, ← h]; rfl]; rfl
  have hl : l = ps.drop (k + 1) := by rw [← List.drop_drop, ← h, List.drop_one]; rfl
  rw [bt, pers, List.find?_cons, eI l (k + 1) p.to hl]
  unfold okQ
  rw [if_pos (Int.natCast_nonneg k), Int.toNat_natCast, hp]
  by_cases hs : p.frm = who
  ·rw [if_pos hs, decide_eq_true hs]; rfl
  ·rw [if_neg hs, decide_eq_false hs]; rfl
theorem jB {who : Int} : ∀ {l : List Pxy} {k : Nat} {who : Int} {z : Int × Int}, z ∈ pers who l k → z.1 < ((k + l.length : Nat) : Int) ∧ -1 ≤ z.1
 | [], k, who, z, h => by
  rw [pers, List.mem_singleton] at h
  subst h
  exact ⟨by simp only; omega, by simp only; omega⟩
 | p :: l, k, who, z, h => by
  rw [pers] at h
  rcases List.mem_cons.1 h with rfl | h
  ·exact ⟨by simp only [List.length_cons]; omega, by simp only; omega⟩
  ·have := jB (who := who) h
   rw [List.length_cons]
   exact ⟨by omega, this.2⟩
theorem lO {who : Int} {pre : List (Int × Int)} {z : Int × Int} (h : NxQ who ps pre z) : z.1 < (ps.length : Int) := by
 obtain ⟨suf, h⟩ := h
 have := (jB (who := who) (l := ps) (k := 0) (z := z) (by rw [h]; simp)).1
 rwa [Nat.zero_add] at this
theorem lV {sg : Int} {pre : List (Int × Int)} {z : Int × Int} (h : ∀ y ∈ pre, okQ ps sg y = true) (hz : okQ ps sg z = true) : ∀ y ∈ pre ++ [z], okQ ps sg y = true := by
 intro y hy
 rcases List.mem_append.1 hy with h1 | h1
 ·exact h y h1
 ·rw [List.mem_singleton.1 h1]; exact hz
theorem iP {sg who : Int} {pre : List (Int × Int)} {z : Int × Int} (hn : NxQ who ps pre z) (h : ∀ y ∈ pre, okQ ps sg y = true) (hz : okQ ps sg z = false) : bt sg who ps 0 = some z.1 := by
 obtain ⟨suf, e⟩ := hn
 rw [eI ps 0 who rfl, e, List.find?_append, List.find?_eq_none.2 (fun y hy => by rw [h y hy]; simp), Option.none_or, List.find?_cons, hz]
 rfl
theorem mb {sg who : Int} (h : ∀ y ∈ pers who ps 0, okQ ps sg y = true) : bt sg who ps 0 = none := by
 rw [eI ps 0 who rfl, List.find?_eq_none.2 (fun y hy => by rw [h y hy]; simp)]
 rfl
theorem Pxy.ok_frm {p : Pxy} (h : p.ok = true) : 0 ≤ p.frm ∧ p.frm ≤ 63 := by
 simp only [Pxy.ok, inB, Bool.and_eq_true, decide_eq_true_eq] at h; omega
theorem Wsh.ok_signer {x : Wsh} (h : x.ok = true) : 0 ≤ x.signer ∧ x.signer ≤ 63 := by
 simp only [Wsh.ok, inB, Bool.and_eq_true, decide_eq_true_eq] at h; omega
theorem Wsh.ok_bnd {x : Wsh} (h : x.ok = true) : 0 ≤ x.rf ∧ x.rf < x.rt ∧ x.rt ≤ 100000000 ∧ 0 ≤ x.sf ∧ x.sf < x.st ∧ x.st ≤ 10000001 := by
 simp only [Wsh.ok, bP, ca, Bool.and_eq_true, decide_eq_true_eq] at h; omega
theorem eV {n : Int} (h0 : 0 ≤ n) (h1 : n.toNat < ks.length) : keyAt ks n = some (ks.getD n.toNat []) := by
 unfold keyAt; rw [if_neg (by omega), List.getD_eq_getElem?_getD, List.getElem?_eq_getElem h1]; rfl
theorem iz {n : Int} (h0 : 0 ≤ n) (h1 : ks.length ≤ n.toNat) : keyAt ks n = none := by
 unfold keyAt; rw [if_neg (by omega), List.getElem?_eq_none h1]
theorem iF {k : Nat} (hk : k < ps.length) (h0 : 0 ≤ (ps.getD k Pxy.z).frm) (h1 : (ps.getD k Pxy.z).frm.toNat < ks.length) (h2 : (ps.getD k Pxy.z).sig = sealH (ks.getD (ps.getD k Pxy.z).frm.toNat []) (ps.getD k Pxy.z).content) :
  bG ks x (ps.drop k) k = bG ks x (ps.drop (k + 1)) (k + 1) := by
 rw [cr Pxy.z hk, bG, eV h0 h1, if_pos]
 exact decide_eq_true h2
theorem eR {k : Nat} (hk : k < ps.length) (h0 : 0 ≤ (ps.getD k Pxy.z).frm) (h1 : ks.length ≤ (ps.getD k Pxy.z).frm.toNat) : bG ks x (ps.drop k) k = some (k : Int) := by
 rw [cr Pxy.z hk, bG, iz h0 h1, if_neg]; simp
theorem fl {k : Nat} (hk : k < ps.length) (h0 : 0 ≤ (ps.getD k Pxy.z).frm) (h1 : (ps.getD k Pxy.z).frm.toNat < ks.length) (h2 : ¬ (ps.getD k Pxy.z).sig = sealH (ks.getD (ps.getD k Pxy.z).frm.toNat []) (ps.getD k Pxy.z).content) :
  bG ks x (ps.drop k) k = some (k : Int) := by
 rw [cr Pxy.z hk, bG, eV h0 h1, if_neg]
 rw [Option.any_some, decide_eq_false h2]; simp
theorem eu {k : Nat} (h0 : 0 ≤ x.signer) (h1 : ks.length ≤ x.signer.toNat) : bG ks x [] k = some (-1) := by
 rw [bG, iz h0 h1, if_neg]; simp
theorem eo {k : Nat} (h0 : 0 ≤ x.signer) (h1 : x.signer.toNat < ks.length) (h2 : ¬ x.sig = sealH (ks.getD x.signer.toNat []) x.content) : bG ks x [] k = some (-1) := by
 rw [bG, eV h0 h1, if_neg]
 rw [Option.any_some, decide_eq_false h2]; simp
theorem iZ {k : Nat} (h0 : 0 ≤ x.signer) (h1 : x.signer.toNat < ks.length) (h2 : x.sig = sealH (ks.getD x.signer.toNat []) x.content) : bG ks x [] k = none := by
 rw [bG, eV h0 h1, if_pos]
 exact decide_eq_true h2
end
theorem nh {x : Wsh} {ps : List Pxy} (h : (scopeV x ps).2 = false) : aU x none ps 0 = none := by
 unfold scopeV at h
 cases hs : aU x none ps 0 with
 | none => rfl
 | some n => rw [hs] at h; cases h
theorem mM {x : Wsh} {ps : List Pxy} (h : (scopeV x ps).2 = true) : aU x none ps 0 = some (scopeV x ps).1 := by
 unfold scopeV at h ⊢
 cases hs : aU x none ps 0 with
 | none => rw [hs] at h; cases h
 | some n => rfl
set_option maxHeartbeats 4000000 in
theorem ng (kv lv : Value) (ks : List By) (x : Wsh) (ps : List Pxy) (number t : Int) (w0 : World) (hkv : SlAt w0 kv 1 (ks.map fun s => [sv s])) (hlv : SlAt w0 lv 7 (ps.map Pxy.cells)) (hk0 : (blk 0 (kOf.map wv) 239).ok w0) :
  Ret Tryz.prog 15 #[kv, .agg #[iv x.signer, iv x.holder, iv x.rf, iv x.rt, iv x.carrier, iv x.serial, iv x.sf, iv x.st, sv x.sig], lv, iv number, iv t] w0 fun v w => v = .tuple #[iv (whyH ks x ps number t).1, iv (whyH ks x ps number t).2] ∧ Ext No w0 w := by
 have hxb := hlv.2.1
 simp only [List.length_map, big] at hxb
 have hyb := hkv.2.1
 simp only [List.length_map, big] at hyb
 refine aF Tryz.func15 rfl Tryz.ntmps15 (lb rfl) fun a Z => ?_
 replace Z : Fr 142 [(0, _), (1, _), (2, _), (3, _), (4, _)] [] a := Z
 replace Y : St No w0 [] w0 := St.init w0
 refine aa fun K1 hK1 => aY Z Y (by decide) rfl (cs := [iv x.signer, iv x.holder, iv x.rf, iv x.rt, iv x.carrier, iv x.serial, iv x.sf, iv x.st, sv x.sig]) rfl ?_
 clear Z Y
 intro a w1 Z Y
 refine aY Z Y (by decide) rfl (cs := [lv]) (by rw [(Y.arg hlv).cells]) ?_
 clear Z Y
 intro a w2 Z Y
 refine aK Z Y (by decide) (Tryz.zeroValue3 _) (cs := [iv 0]) rfl ?_
 clear Z Y
 intro a w3 Z Y
 refine aK Z Y (by decide) (Tryz.zeroValue3 _) (cs := [iv 0]) rfl ?_
 clear Z Y
 intro a w4 Z Y
 refine ab (hK1 _ _ ?_)
 refine aa fun K2 hK2 => wla Z rfl fun a Z => ab (hK2 _ _ ?_)
 refine ai fun K3 hK3 => aa fun K4 hK4 => wlm Z rfl fun a Z => wlv Z ((aN (sT := 32) (Y.arg hkv) rfl rfl (Tryz.runUnderlying32 _)).asi (m' := (ks.length : Int)) (by rw [List.length_map])) fun a Z => wlv Z (v_gt rfl rfl) fun a Z => wlm Z rfl fun a Z => ?_
 rcases Bool.eq_false_or_eq_true (decide (64 < (ks.length : Int))) with hb1 | hb1
 ·rw [hb1] at Z
  try simp only [qz] at hb1
  refine wln Z fun a Z => wln Z fun a Z => wln Z fun a Z => wlv Z (az rfl rfl) fun a Z => wlm Z rfl fun a Z => wln Z fun a Z => wln Z fun a Z => wln Z fun a Z => ?_
  refine wlv Z (az rfl rfl) fun a Z => wlm Z rfl fun a Z => wln Z fun a Z => wln Z fun a Z => wln Z fun a Z => wlv Z (az rfl rfl) fun a Z => ab (hK4 _ _ ?_)
  replace Z : Fr 142 [(0, _), (3, _), (4, _), (6, _), (7, _), (10, _), (11, _), (37, _)] [] a := Z.pick [0, 3, 4, 6, 7, 10, 11, 37]
  refine aL Z rfl ?_
  refine aa fun K5 hK5 => ap 1 Z Y rfl rfl rfl (Tryz.sizeOf3 _) rfl (lb rfl) (ds := [iv 1]) rfl rfl ?_
  clear Z Y
  intro a w5 Z Y
  refine ap 0 Z Y rfl rfl rfl (Tryz.sizeOf3 _) rfl (lb rfl) (ds := [iv (-1)]) rfl rfl ?_
  clear Z Y
  intro a w6 Z Y
  refine ab (hK5 _ _ ?_)
  refine aw ?_
  refine ao Z Tryz.results15 (aj rfl (aI (Y.get (k := 1) rfl) (Tryz.isAgg3 _)) (aj rfl (aI (Y.get (k := 0) rfl) (Tryz.isAgg3 _)) ag)) ?_
  exact ⟨by rw [cQ (by unfold formB; first | exact .inl (by omega) | exact .inr (.inr (.inr (by omega))) | exact .inr (.inr (.inl hb1)) | exact .inr (.inl (by rw [el] at hb1; simpa using hb1)))]; rfl, Y.ext⟩
 rw [hb1] at Z
 try simp only [qz] at hb1
 refine wly Z (al rfl) fun a Z => wly Z (al rfl) fun a Z => aJ Z Y (by decide) rfl (by decide) rfl Tryz.call57 rfl (pl (fun s => !decide ((s.length : Int) = 32)) _ Tryz.call55 (Y.arg hkv) (fun x w _ => oP x w)) ?_
 clear Z Y
 intro a w7 Z Y
 refine wlv Z (au rfl rfl) fun a Z => wlm Z rfl fun a Z => ?_
 rcases Bool.eq_false_or_eq_true (ks.any fun s => !decide ((s.length : Int) = 32)) with hb2 | hb2
 ·rw [hb2] at Z
  try simp only [qz] at hb2
  refine wln Z fun a Z => wln Z fun a Z => wln Z fun a Z => wlv Z (az rfl rfl) fun a Z => wlm Z rfl fun a Z => wln Z fun a Z => wln Z fun a Z => wln Z fun a Z => ?_
  refine wlv Z (az rfl rfl) fun a Z => ab (hK4 _ _ ?_)
  replace Z : Fr 142 [(0, _), (3, _), (4, _), (6, _), (7, _), (10, _), (11, _), (37, _)] [] a := Z.pick [0, 3, 4, 6, 7, 10, 11, 37]
  refine aL Z rfl ?_
  refine aa fun K6 hK6 => ap 1 Z Y rfl rfl rfl (Tryz.sizeOf3 _) rfl (lb rfl) (ds := [iv 1]) rfl rfl ?_
  clear Z Y
  intro a w8 Z Y
  refine ap 0 Z Y rfl rfl rfl (Tryz.sizeOf3 _) rfl (lb rfl) (ds := [iv (-1)]) rfl rfl ?_
  clear Z Y
  intro a w9 Z Y
  refine ab (hK6 _ _ ?_)
  refine aw ?_
  refine ao Z Tryz.results15 (aj rfl (aI (Y.get (k := 1) rfl) (Tryz.isAgg3 _)) (aj rfl (aI (Y.get (k := 0) rfl) (Tryz.isAgg3 _)) ag)) ?_
  exact ⟨by rw [cQ (by unfold formB; first | exact .inl (by omega) | exact .inr (.inr (.inr (by omega))) | exact .inr (.inr (.inl hb2)) | exact .inr (.inl (by rw [el] at hb2; simpa using hb2)))]; rfl, Y.ext⟩
 rw [hb2] at Z
 try simp only [qz] at hb2
 refine wly Z (ar (Y.get (k := 3) rfl) rfl (Tryz.isAgg30 _) (Tryz.sizeOf30 _)) fun a Z => aJ Z Y (by decide) rfl (by decide) rfl Tryz.call58 rfl (ep x _) ?_
 clear Z Y
 intro a w10 Z Y
 refine wly Z (bS rfl) fun a Z => wlv Z (au rfl rfl) fun a Z => wlm Z rfl fun a Z => ?_
 rcases Bool.eq_false_or_eq_true (!x.ok) with hb3 | hb3
 ·rw [hb3] at Z
  try simp only [qz] at hb3
  refine wln Z fun a Z => wln Z fun a Z => wln Z fun a Z => wlv Z (az rfl rfl) fun a Z => ab (hK4 _ _ ?_)
  replace Z : Fr 142 [(0, _), (3, _), (4, _), (6, _), (7, _), (10, _), (11, _), (37, _)] [] a := Z.pick [0, 3, 4, 6, 7, 10, 11, 37]
  refine aL Z rfl ?_
  refine aa fun K7 hK7 => ap 1 Z Y rfl rfl rfl (Tryz.sizeOf3 _) rfl (lb rfl) (ds := [iv 1]) rfl rfl ?_
  clear Z Y
  intro a w11 Z Y
  refine ap 0 Z Y rfl rfl rfl (Tryz.sizeOf3 _) rfl (lb rfl) (ds := [iv (-1)]) rfl rfl ?_
  clear Z Y
  intro a w12 Z Y
  refine ab (hK7 _ _ ?_)
  refine aw ?_
  refine ao Z Tryz.results15 (aj rfl (aI (Y.get (k := 1) rfl) (Tryz.isAgg3 _)) (aj rfl (aI (Y.get (k := 0) rfl) (Tryz.isAgg3 _)) ag)) ?_
  exact ⟨by rw [cQ (by unfold formB; first | exact .inl (by omega) | exact .inr (.inr (.inr (by omega))) | exact .inr (.inr (.inl hb3)) | exact .inr (.inl (by rw [el] at hb3; simpa using hb3)))]; rfl, Y.ext⟩
 rw [hb3] at Z
 try simp only [qz] at hb3
 refine wly Z (ae (Y.get (k := 2) rfl) rfl (Tryz.isAgg31 _) rfl) fun a Z => wly Z ((aN (sT := 31) (Y.arg hlv) rfl rfl (Tryz.runUnderlying31 _)).asi (m' := (ps.length : Int)) (by rw [List.length_map])) fun a Z => wly Z (v_gt rfl rfl) fun a Z => wlv Z (au rfl rfl) fun a Z => ab (hK4 _ _ ?_)
 replace Z : Fr 142 [(0, _), (3, _), (4, _), (6, _), (7, _), (10, _), (11, _), (37, _)] [] a := Z.pick [0, 3, 4, 6, 7, 10, 11, 37]
 refine ay Z rfl (fun hc4 => ?_) (fun hc4 => ?_)
 ·rw [hc4] at Z
  try simp only [qz] at hc4
  refine aa fun K8 hK8 => ap 1 Z Y rfl rfl rfl (Tryz.sizeOf3 _) rfl (lb rfl) (ds := [iv 1]) rfl rfl ?_
  clear Z Y
  intro a w13 Z Y
  refine ap 0 Z Y rfl rfl rfl (Tryz.sizeOf3 _) rfl (lb rfl) (ds := [iv (-1)]) rfl rfl ?_
  clear Z Y
  intro a w14 Z Y
  refine ab (hK8 _ _ ?_)
  refine aw ?_
  refine ao Z Tryz.results15 (aj rfl (aI (Y.get (k := 1) rfl) (Tryz.isAgg3 _)) (aj rfl (aI (Y.get (k := 0) rfl) (Tryz.isAgg3 _)) ag)) ?_
  exact ⟨by rw [cQ (by unfold formB; first | exact .inl (by omega) | exact .inr (.inr (.inr (by omega))) | exact .inr (.inr (.inl hc4)) | exact .inr (.inl (by rw [el] at hc4; simpa using hc4)))]; rfl, Y.ext⟩
 rw [hc4] at Z
 try simp only [qz] at hc4
 refine ax ?_
 refine hK3 _ _ ?_
 refine ai fun K9 hK9 => ?_
 have hxo : x.ok = true := hb3
 have hnf : ¬ formB ks x ps := by
  rintro (h | h | h | h)
  ·omega
  ·rw [el, h] at hb2; simp at hb2
  ·rw [hxo] at h; cases h
  ·omega
 have hk32 := lH hnf
 have hxd := Wsh.ok_bnd hxo
 have hxg := Wsh.ok_signer hxo
 refine aa fun K10 hK10 => wlv Z (ae (Y.get (k := 2) rfl) rfl (Tryz.isAgg31 _) rfl) fun a Z => aA Z Y (by decide) Tryz.call59 rfl (fO lv ps _ (Y.arg hlv)) ?_
 clear Z Y
 intro a w15 Z Y
 refine wla Z rfl fun a Z => ab (hK10 _ _ ?_)
 refine aa fun K11 hK11 => wlm Z rfl fun a Z => wlv Z (v_ge rfl rfl) fun a Z => ab (hK11 _ _ ?_)
 refine ay Z rfl (fun hc5 => ?_) (fun hc5 => ?_)
 ·rw [hc5] at Z
  try simp only [qz] at hc5
  refine aa fun K12 hK12 => wlm Z rfl fun a Z => ap 1 Z Y rfl rfl rfl (Tryz.sizeOf3 _) rfl (lb rfl) (ds := [iv 1]) rfl rfl ?_
  clear Z Y
  intro a w16 Z Y
  refine ap 0 Z Y rfl rfl rfl (Tryz.sizeOf3 _) rfl (lb rfl) (ds := [iv (badN ps)]) rfl rfl ?_
  clear Z Y
  intro a w17 Z Y
  refine ab (hK12 _ _ ?_)
  replace Z : Fr 142 [(0, _), (3, _), (4, _), (6, _), (7, _), (10, _), (11, _)] [] a := Z.pick [0, 3, 4, 6, 7, 10, 11]
  refine aw ?_
  refine ao Z Tryz.results15 (aj rfl (aI (Y.get (k := 1) rfl) (Tryz.isAgg3 _)) (aj rfl (aI (Y.get (k := 0) rfl) (Tryz.isAgg3 _)) ag)) ?_
  exact ⟨by rw [lW hnf hc5]; rfl, Y.ext⟩
 rw [hc5] at Z
 try simp only [qz] at hc5
 refine ax ?_
 refine hK9 _ _ ?_
 refine ai fun K13 hK13 => ?_
 have hbn := j9 (l := ps) (by omega)
 refine aa fun K14 hK14 => wlm Z rfl fun a Z => wlv Z (ac (v := .pointer (some ⟨w0.heap.size, 6, none⟩)) rfl (by kernel_rfl)) fun a Z => wlv Z (ac (v := .pointer (some ⟨w0.heap.size, 6, none⟩)) rfl (by kernel_rfl)) fun a Z => wlv Z (ae (Y.get (k := 3) rfl) rfl (Tryz.isAgg3 _) rfl) fun a Z => wlv Z (ac (v := .pointer (some ⟨w0.heap.size, 6, none⟩)) rfl (by kernel_rfl)) fun a Z => wlv Z (ac (v := .pointer (some ⟨w0.heap.size, 7, none⟩)) rfl (by kernel_rfl)) fun a Z => ?_
 refine wlv Z (ae (Y.get (k := 3) rfl) rfl (Tryz.isAgg3 _) rfl) fun a Z => wlv Z (cc rfl rfl ⟨by omega, by omega⟩) fun a Z => aA Z Y (by decide) Tryz.call60 rfl (bW t x.sf (x.st - 1) _) ?_
 clear Z Y
 intro a w18 Z Y
 refine wlv Z (bS rfl) fun a Z => ab (hK14 _ _ ?_)
 replace Z : Fr 142 [(0, _), (3, _), (6, _), (7, _), (10, _), (11, _), (52, _)] [] a := Z.pick [0, 3, 6, 7, 10, 11, 52]
 refine ay Z rfl (fun hc6 => ?_) (fun hc6 => ?_)
 ·rw [hc6] at Z
  try simp only [qz] at hc6
  refine aa fun K15 hK15 => ap 1 Z Y rfl rfl rfl (Tryz.sizeOf3 _) rfl (lb rfl) (ds := [iv 2]) rfl rfl ?_
  clear Z Y
  intro a w19 Z Y
  refine ap 0 Z Y rfl rfl rfl (Tryz.sizeOf3 _) rfl (lb rfl) (ds := [iv (-1)]) rfl rfl ?_
  clear Z Y
  intro a w20 Z Y
  refine ab (hK15 _ _ ?_)
  refine aw ?_
  refine ao Z Tryz.results15 (aj rfl (aI (Y.get (k := 1) rfl) (Tryz.isAgg3 _)) (aj rfl (aI (Y.get (k := 0) rfl) (Tryz.isAgg3 _)) ag)) ?_
  exact ⟨by rw [eb hnf hbn hc6]; rfl, Y.ext⟩
 rw [hc6] at Z
 try simp only [qz] at hc6
 refine ax ?_
 refine hK13 _ _ ?_
 refine ai fun K16 hK16 => aa fun K17 hK17 => wlm Z rfl fun a Z => wlv Z (ac (v := .pointer (some ⟨w0.heap.size, 2, none⟩)) rfl (by kernel_rfl)) fun a Z => wlv Z (ac (v := .pointer (some ⟨w0.heap.size, 2, none⟩)) rfl (by kernel_rfl)) fun a Z => wlv Z (ae (Y.get (k := 3) rfl) rfl (Tryz.isAgg3 _) rfl) fun a Z => wlv Z (ac (v := .pointer (some ⟨w0.heap.size, 2, none⟩)) rfl (by kernel_rfl)) fun a Z => ?_
 refine wlv Z (ac (v := .pointer (some ⟨w0.heap.size, 3, none⟩)) rfl (by kernel_rfl)) fun a Z => wlv Z (ae (Y.get (k := 3) rfl) rfl (Tryz.isAgg3 _) rfl) fun a Z => wlv Z (cc rfl rfl ⟨by omega, by omega⟩) fun a Z => aA Z Y (by decide) Tryz.call60 rfl (bW number x.rf (x.rt - 1) _) ?_
 clear Z Y
 intro a w21 Z Y
 refine wlv Z (bS rfl) fun a Z => ab (hK17 _ _ ?_)
 replace Z : Fr 142 [(0, _), (6, _), (7, _), (10, _), (11, _), (62, _)] [] a := Z.pick [0, 6, 7, 10, 11, 62]
 refine ay Z rfl (fun hc7 => ?_) (fun hc7 => ?_)
 ·rw [hc7] at Z
  try simp only [qz] at hc7
  refine aa fun K18 hK18 => ap 1 Z Y rfl rfl rfl (Tryz.sizeOf3 _) rfl (lb rfl) (ds := [iv 3]) rfl rfl ?_
  clear Z Y
  intro a w22 Z Y
  refine ap 0 Z Y rfl rfl rfl (Tryz.sizeOf3 _) rfl (lb rfl) (ds := [iv (-1)]) rfl rfl ?_
  clear Z Y
  intro a w23 Z Y
  refine ab (hK18 _ _ ?_)
  refine aw ?_
  refine ao Z Tryz.results15 (aj rfl (aI (Y.get (k := 1) rfl) (Tryz.isAgg3 _)) (aj rfl (aI (Y.get (k := 0) rfl) (Tryz.isAgg3 _)) ag)) ?_
  exact ⟨by rw [fe hnf hbn hc6 hc7]; rfl, Y.ext⟩
 rw [hc7] at Z
 try simp only [qz] at hc7
 refine ax ?_
 refine hK16 _ _ ?_
 refine ai fun K19 hK19 => ?_
 have hwp : whyP ks x ps number t := ⟨hnf, hbn, hc6, hc7⟩
 refine aa fun K20 hK20 => wlv Z (ac (v := .pointer (some ⟨w0.heap.size, 1, none⟩)) rfl (by kernel_rfl)) fun a Z => wlv Z (ae (Y.get (k := 3) rfl) rfl (Tryz.isAgg3 _) rfl) fun a Z => wlv Z (ae (Y.get (k := 2) rfl) rfl (Tryz.isAgg31 _) rfl) fun a Z => ch Z Y (by decide) Tryz.call61 rfl (lx x.holder lv ps _ (Y.arg hlv)) ?_
 clear Z Y
 intro a w24 x8 hp Z Y
 obtain ⟨bh, bl⟩ := x8
 clear hp
 replace Y : St No w0 [blk bl [lv] 31, blk bh [iv x.holder] 3, blk w3.heap.size [iv 0] 3, blk w2.heap.size [iv 0] 3, blk w1.heap.size [lv] 31, blk w0.heap.size [iv x.signer, iv x.holder, iv x.rf, iv x.rt, iv x.carrier, iv x.serial, iv x.sf, iv x.st, sv x.sig] 30] w24 := Y
 refine ab (hK20 _ _ ?_)
 refine aq ?_
 replace Y : St No w0 [blk w0.heap.size [iv x.signer, iv x.holder, iv x.rf, iv x.rt, iv x.carrier, iv x.serial, iv x.sf, iv x.st, sv x.sig] 30, blk w1.heap.size [lv] 31, blk w2.heap.size [iv 0] 3, blk w3.heap.size [iv 0] 3, blk bh [iv x.holder] 3, blk bl [lv] 31] w24 := Y.select [5, 4, 3, 2, 1, 0] (by decide)
 replace Z : Fr 142 [(0, kv), (6, pt w0.heap.size), (7, pt w1.heap.size), (10, pt w2.heap.size), (11, pt w3.heap.size), (62, .bool false), (63, .pointer (some ⟨w0.heap.size, 1, none⟩)), (64, iv x.holder), (65, lv), (66, .func (.func 118) #[] #[pt bh, pt bl])] [] a := Z.pick [0, 6, 7, 10, 11, 62, 63, 64, 65, 66]
 refine gh (M := No) (w0 := w0) (encs := encQ) (Hi := [blk bh [iv x.holder] 3, blk bl [lv] 31]) (Hc := [blk w0.heap.size [iv x.signer, iv x.holder, iv x.rf, iv x.rt, iv x.carrier, iv x.serial, iv x.sf, iv x.st, sv x.sig] 30, blk w1.heap.size [lv] 31, blk w2.heap.size [iv 0] 3, blk w3.heap.size [iv 0] 3]) (fun pre H => (∀ z ∈ pre, okQ ps x.signer z = true) ∧ H = [blk w0.heap.size [iv x.signer, iv x.holder, iv x.rf, iv x.rt, iv x.carrier, iv x.serial, iv x.sf, iv x.st, sv x.sig] 30, blk w1.heap.size [lv] 31, blk w2.heap.size [iv 0] 3, blk w3.heap.size [iv 0] 3]) (fun c pre H => c = .ret ∧ ∃ (i : Int), (bt x.signer x.holder ps 0 = some i) ∧ H = [blk w0.heap.size [iv x.signer, iv x.holder, iv x.rf, iv x.rt, iv x.carrier, iv x.serial, iv x.sf, iv x.st, sv x.sig] 30, blk w1.heap.size [lv] 31, blk w2.heap.size [iv 4] 3, blk w3.heap.size [iv i] 3]) (fun pre xs H a => Fr 142 [(6, pt w0.heap.size), (7, pt w1.heap.size), (10, pt w2.heap.size), (11, pt w3.heap.size), (14, iv xs.1), (15, iv xs.2)] [] a ∧ (∀ z ∈ pre, okQ ps x.signer z = true) ∧ H = [blk w0.heap.size [iv x.signer, iv x.holder, iv x.rf, iv x.rt, iv x.carrier, iv x.serial, iv x.sf, iv x.st, sv x.sig] 30, blk w1.heap.size [lv] 31, blk w2.heap.size [iv 0] 3, blk w3.heap.size [iv 0] 3]) rfl Tryz.call118 Z Y (jr x.holder lv ps bh bl (fun H w h => h.arg hlv)) (by decide) (fun _ => rfl) ⟨(by simp), rfl⟩ ?_ ?_ ?_ ?_
 ·clear Z Y
  rintro lp pre xs _ a w25 hnx ⟨hpq, rfl⟩ Z Y
  generalize (join [blk w0.heap.size [iv x.signer, iv x.holder, iv x.rf, iv x.rt, iv x.carrier, iv x.serial, iv x.sf, iv x.st, sv x.sig] 30, blk w1.heap.size [lv] 31, blk w2.heap.size [iv 0] 3, blk w3.heap.size [iv 0] 3]).foot = M1 at Y ⊢
  replace Z : Fr 142 [(68, iv xs.2), (67, iv xs.1), (0, kv), (6, pt w0.heap.size), (7, pt w1.heap.size), (10, pt w2.heap.size), (11, pt w3.heap.size), (62, .bool false), (63, .pointer (some ⟨w0.heap.size, 1, none⟩)), (64, iv x.holder), (65, lv), (66, .func (.func 118) #[] #[pt bh, pt bl])] [] a := Z
  refine aa fun K21 hK21 => wla Z rfl fun a Z => ab (hK21 _ _ ?_)
  replace Z : Fr 142 [(68, _), (6, _), (7, _), (10, _), (11, _), (14, _)] [] a := Z.pick [68, 6, 7, 10, 11, 14]
  refine am <| wla Z rfl fun a Z => ab ?_
  exact ⟨_, ⟨Z.pick [6, 7, 10, 11, 14, 15], hpq, rfl⟩, Y⟩
 ·rintro lp pre xs _ a w26 hnx ⟨Z, hpq, rfl⟩ hout hrec hnl Y
  clear hrec hnl
  generalize (join [blk w0.heap.size [iv x.signer, iv x.holder, iv x.rf, iv x.rt, iv x.carrier, iv x.serial, iv x.sf, iv x.st, sv x.sig] 30, blk w1.heap.size [lv] 31, blk w2.heap.size [iv 0] 3, blk w3.heap.size [iv 0] 3]).foot = M1 at Y hout ⊢
  refine aq <| aa fun K22 hK22 => wlm Z rfl fun a Z => wlv Z (v_ge rfl rfl) fun a Z => wlm Z rfl fun a Z => ?_
  rcases Bool.eq_false_or_eq_true (decide (0 ≤ xs.1)) with hb9 | hb9
  ·rw [hb9] at Z
   try simp only [qz] at hb9
   have hqlt := lO hnx
   refine wly Z (ae (Y.get (k := 1) rfl) rfl (Tryz.isAgg31 _) rfl) fun a Z => wly Z (al rfl) fun a Z => wly Z ((ak (i := xs.1) (sT := 31) (hlv.grow (hout _ Y.ext)) rfl rfl (Tryz.runUnderlying31 _) (Tryz.sizeOf40 _) (by omega) (by rw [List.length_map]; omega)).as (v' := slAddr lv (xs.1.toNat * 7)) (by rw [show (xs.1).toNat = xs.1.toNat from by omega])) fun a Z => wly Z (bj (k := xs.1.toNat * 7) (j := 0) (hlv.grow (hout _ Y.ext)) (i := xs.1.toNat) (by rw [List.length_map]; omega) rfl (fun _ _ => by kernel_rfl)) fun a Z => wly Z (aC (u := iv ((ps.getD xs.1.toNat Pxy.z).frm)) (i := xs.1.toNat) (j := 0) (hlv.grow (hout _ Y.ext)) (by rw [List.length_map]; omega) rfl (Tryz.isAgg3 _) (by rw [bp Pxy.z]; rfl)) fun a Z => wly Z (al rfl) fun a Z => wly Z (v_ne rfl rfl) fun a Z => wlv Z (az rfl rfl) fun a Z => wlm Z rfl fun a Z => ?_
   rcases Bool.eq_false_or_eq_true (!decide ((ps.getD xs.1.toNat Pxy.z).frm = xs.2)) with hb10 | hb10
   ·rw [hb10] at Z
    try simp only [qz] at hb10
    refine wln Z fun a Z => wln Z fun a Z => wln Z fun a Z => lK Z (by decide) rfl (by decide) rfl fun a Z => lK Z (by decide) rfl (by decide) rfl fun a Z => lK Z (by decide) rfl (by decide) rfl fun a Z => lK Z (by decide) rfl (by decide) rfl fun a Z => ?_
    refine wln Z fun a Z => wlv Z (az rfl rfl) fun a Z => ab (hK22 _ _ ?_)
    replace Z : Fr 142 [(10, _), (11, _), (14, _), (89, _)] [] a := Z.pick [10, 11, 14, 89]
    refine aL Z rfl ?_
    refine aa fun K23 hK23 => wlm Z rfl fun a Z => ap 2 Z Y rfl rfl rfl (Tryz.sizeOf3 _) rfl (lb rfl) (ds := [iv 4]) rfl rfl ?_
    clear Z Y
    intro a w27 Z Y
    refine ap 3 Z Y rfl rfl rfl (Tryz.sizeOf3 _) rfl (lb rfl) (ds := [iv xs.1]) rfl rfl ?_
    clear Z Y
    intro a w28 Z Y
    refine ab (hK23 _ _ ?_)
    refine aw ?_
    exact ⟨_, ⟨rfl, xs.1, iP hnx hpq (pb hb9 hb10), rfl⟩, Y.select [0, 1, 2, 3] (by decide)⟩
   rw [hb10] at Z
   try simp only [qz] at hb10
   refine wly Z (al rfl) fun a Z => wly Z ((v_lt rfl rfl).asb (b' := false) (by exact decide_eq_false (by omega))) fun a Z => wly Z (al rfl) fun a Z => wln Z fun a Z => wln Z fun a Z => wln Z fun a Z => wln Z fun a Z => wly Z (au rfl rfl) fun a Z => wlv Z (au rfl rfl) fun a Z => ab (hK22 _ _ ?_)
   replace Z : Fr 142 [(10, _), (11, _), (14, _), (89, _)] [] a := Z.pick [10, 11, 14, 89]
   refine bE Z rfl ?_
   refine ax ?_
   exact ⟨_, ⟨lV hpq (pD hb9 hb10), rfl⟩, Y.select [0, 1, 2, 3] (by decide)⟩
  rw [hb9] at Z
  try simp only [qz] at hb9
  have hqlt := lO hnx
  refine wln Z fun a Z => wln Z fun a Z => wln Z fun a Z => wln Z fun a Z => wln Z fun a Z => wln Z fun a Z => wln Z fun a Z => ?_
  refine wlv Z (au rfl rfl) fun a Z => wlm Z rfl fun a Z => wly Z (al rfl) fun a Z => wly Z ((v_lt rfl rfl).asb (b' := true) (by exact decide_eq_true (by omega))) fun a Z => wly Z (al rfl) fun a Z => wly Z (ac (v := pt w0.heap.size) rfl (by kernel_rfl)) fun a Z => wly Z (ae (Y.get (k := 0) rfl) rfl (Tryz.isAgg3 _) rfl) fun a Z => wly Z (al rfl) fun a Z => wly Z (v_ne rfl rfl) fun a Z => wly Z (az rfl rfl) fun a Z => wlv Z (au rfl rfl) fun a Z => ab (hK22 _ _ ?_)
  replace Z : Fr 142 [(10, _), (11, _), (14, _), (89, _)] [] a := Z.pick [10, 11, 14, 89]
  refine ay Z rfl (fun hc11 => ?_) (fun hc11 => ?_)
  ·rw [hc11] at Z
   try simp only [qz] at hc11
   refine aa fun K24 hK24 => wlm Z rfl fun a Z => ap 2 Z Y rfl rfl rfl (Tryz.sizeOf3 _) rfl (lb rfl) (ds := [iv 4]) rfl rfl ?_
   clear Z Y
   intro a w29 Z Y
   refine ap 3 Z Y rfl rfl rfl (Tryz.sizeOf3 _) rfl (lb rfl) (ds := [iv xs.1]) rfl rfl ?_
   clear Z Y
   intro a w30 Z Y
   refine ab (hK24 _ _ ?_)
   refine aw ?_
   exact ⟨_, ⟨rfl, xs.1, iP hnx hpq (pE (by omega) hc11), rfl⟩, Y.select [0, 1, 2, 3] (by decide)⟩
  rw [hc11] at Z
  try simp only [qz] at hc11
  refine ax ?_
  exact ⟨_, ⟨lV hpq (ou (by omega) hc11), rfl⟩, Y.select [0, 1, 2, 3] (by decide)⟩
 ·rintro D pre _ _ a w31 ⟨rfl, rfl⟩ ⟨hpq, rfl⟩ Y Z
  replace Z : Fr 142 [(0, kv), (6, pt w0.heap.size), (7, pt w1.heap.size), (10, pt w2.heap.size), (11, pt w3.heap.size), (62, .bool false), (63, .pointer (some ⟨w0.heap.size, 1, none⟩)), (64, iv x.holder), (65, lv), (66, .func (.func 118) #[] #[pt bh, pt bl])] [{ target := .collected D, args := #[] }] a := Z
  replace Y : St No w0 [obj D (.deferred (some [])), blk w0.heap.size [iv x.signer, iv x.holder, iv x.rf, iv x.rt, iv x.carrier, iv x.serial, iv x.sf, iv x.st, sv x.sig] 30, blk w1.heap.size [lv] 31, blk w2.heap.size [iv 0] 3, blk w3.heap.size [iv 0] 3, blk bh [iv x.holder] 3, blk bl [lv] 31] w31 := Y
  refine hK19 _ _ ?_
  refine ai fun K25 hK25 => ?_
  have hch := mb hpq
  refine aa fun K26 hK26 => wlv Z (ar (Y.get (k := 1) rfl) rfl (Tryz.isAgg30 _) (Tryz.sizeOf30 _)) fun a Z => wlv Z (ae (Y.get (k := 2) rfl) rfl (Tryz.isAgg31 _) rfl) fun a Z => aA Z Y (by decide) Tryz.call62 rfl (nP x lv ps _ (Y.arg hlv)) ?_
  clear Z Y
  intro a w32 Z Y
  refine wlm Z rfl fun a Z => wlv Z (aD rfl rfl) fun a Z => wlv Z (aD rfl rfl) fun a Z => wla Z rfl fun a Z => wla Z rfl fun a Z => ab (hK26 _ _ ?_)
  replace Z : Fr 142 [(0, _), (6, _), (7, _), (10, _), (11, _), (16, _), (17, _)] [{ target := .collected D, args := #[] }] a := Z.pick [0, 6, 7, 10, 11, 16, 17]
  refine aa fun K27 hK27 => wlm Z rfl fun a Z => ab (hK27 _ _ ?_)
  refine ay Z rfl (fun hc12 => ?_) (fun hc12 => ?_)
  ·rw [hc12] at Z
   try simp only [qz] at hc12
   refine aa fun K28 hK28 => wlm Z rfl fun a Z => ap 3 Z Y rfl rfl rfl (Tryz.sizeOf3 _) rfl (lb rfl) (ds := [iv 5]) rfl rfl ?_
   clear Z Y
   intro a w33 Z Y
   refine ap 4 Z Y rfl rfl rfl (Tryz.sizeOf3 _) rfl (lb rfl) (ds := [iv ((scopeV x ps).1)]) rfl rfl ?_
   clear Z Y
   intro a w34 Z Y
   refine ab (hK28 _ _ ?_)
   refine aw ?_
   have hD := Y.get (k := 0) rfl
   replace Y := Y.unmark (i := 0) (o' := .deferred none) rfl
   replace Y : St No w0 [blk w0.heap.size [iv x.signer, iv x.holder, iv x.rf, iv x.rt, iv x.carrier, iv x.serial, iv x.sf, iv x.st, sv x.sig] 30, blk w1.heap.size [lv] 31, blk w2.heap.size [iv 5] 3, blk w3.heap.size [iv ((scopeV x ps).1)] 3, blk bh [iv x.holder] 3, blk bl [lv] 31] _ := Y
   refine cV Z hD Tryz.results15 (aj rfl (aI (Y.get (k := 2) rfl) (Tryz.isAgg3 _)) (aj rfl (aI (Y.get (k := 3) rfl) (Tryz.isAgg3 _)) ag)) ?_
   exact ⟨by rw [er hwp hch (mM hc12)]; rfl, Y.ext⟩
  rw [hc12] at Z
  try simp only [qz] at hc12
  refine ax ?_
  refine hK25 _ _ ?_
  refine ai fun K29 hK29 => ?_
  have hsc : aU x none ps 0 = none := nh hc12
  refine aa fun K30 hK30 => wlv Z (ae (Y.get (k := 2) rfl) rfl (Tryz.isAgg31 _) rfl) fun a Z => wlv Z ((aN (sT := 31) (Y.arg hlv) rfl rfl (Tryz.runUnderlying31 _)).asi (m' := (ps.length : Int)) (by rw [List.length_map])) fun a Z => wlm Z rfl fun a Z => ab (hK30 _ _ ?_)
  refine aq <| aW (fun m a w => ∃ (k : Nat), m = ps.length - k ∧ (k ≤ ps.length) ∧ (bG ks x ps 0 = bG ks x (ps.drop k) k) ∧ Fr 142 [(0, kv), (6, pt w0.heap.size), (10, pt w2.heap.size), (11, pt w3.heap.size), (99, lv), (100, iv (ps.length : Int)), (101, iv (k : Int))] [{ target := .collected D, args := #[] }] a ∧ St No w0 [obj D (.deferred (some [])), blk w0.heap.size [iv x.signer, iv x.holder, iv x.rf, iv x.rt, iv x.carrier, iv x.serial, iv x.sf, iv x.st, sv x.sig] 30, blk w1.heap.size [lv] 31, blk w2.heap.size [iv 0] 3, blk w3.heap.size [iv 0] 3, blk bh [iv x.holder] 3, blk bl [lv] 31] w) _ ⟨0, rfl, Nat.zero_le _, rfl, Z.pick [0, 6, 10, 11, 99, 100, 101], Y.select [0, 1, 2, 3, 4, 5, 6] (by decide)⟩ ?_
  rintro _ a w35 ⟨k, rfl, hk, hsb, Z, Y⟩
  refine aa fun K31 hK31 => wlv Z (v_lt rfl rfl) fun a Z => ab (hK31 _ _ ?_)
  refine ai fun K32 hK32 => ?_
  refine ay Z rfl (fun hc13 => ?_) (fun hc13 => ?_)
  ·rw [hc13] at Z
   try simp only [qz] at hc13
   have hkx : k < ps.length := by omega
   have hpk := cz hbn _ (bR (d := Pxy.z) hkx)
   have hp0 := Pxy.ok_frm hpk
   refine ax ?_
   refine hK32 _ _ ?_
   refine ai fun K33 hK33 => aq ?_
   refine aa fun K34 hK34 => wlm Z rfl fun a Z => wlv Z ((ak (i := (k : Int)) (sT := 31) (Y.arg hlv) rfl rfl (Tryz.runUnderlying31 _) (Tryz.sizeOf40 _) (by omega) (by rw [List.length_map]; omega)).as (v' := slAddr lv (k * 7)) rfl) fun a Z => wlv Z ((bO (Y.arg hlv) (i := k) (by rw [List.length_map]; omega) rfl (Tryz.isAgg40 _) (Tryz.sizeOf40 _)).as (v' := .agg #[iv ((ps.getD k Pxy.z).frm), iv ((ps.getD k Pxy.z).to), iv ((ps.getD k Pxy.z).rf), iv ((ps.getD k Pxy.z).rt), iv ((ps.getD k Pxy.z).sf), iv ((ps.getD k Pxy.z).st), sv ((ps.getD k Pxy.z).sig)]) (by rw [bp Pxy.z]; rfl)) fun a Z => aK Z Y (by decide) (Tryz.zeroValue40 _) (cs := [iv 0, iv 0, iv 0, iv 0, iv 0, iv 0, .string (⟨#[]⟩)]) rfl ?_
   clear Z Y
   intro a w36 Z Y
   refine wla Z rfl fun a Z => ap 0 Z Y rfl rfl rfl (Tryz.sizeOf40 _) rfl (lb rfl) (ds := [iv ((ps.getD k Pxy.z).frm), iv ((ps.getD k Pxy.z).to), iv ((ps.getD k Pxy.z).rf), iv ((ps.getD k Pxy.z).rt), iv ((ps.getD k Pxy.z).sf), iv ((ps.getD k Pxy.z).st), sv ((ps.getD k Pxy.z).sig)]) rfl rfl ?_
   clear Z Y
   intro a w37 Z Y
   refine ab (hK34 _ _ ?_)
   refine ai fun K35 hK35 => aM (by kernel_rfl) (aO (by kernel_rfl) fun w38 hxz => ?_)
   replace Y := Y.grow hxz
   refine aX (k := 0) 4 [1, 3] Z (by kernel_rfl) (by kernel_rfl) (by kernel_rfl) (by rfl) ?_
   replace Z : Fr 142 [(0, _), (6, _), (10, _), (11, _), (99, _), (100, _), (101, _), (102, _), (103, _), (104, _), (105, _), (19, _), (18, _)] [{ target := .collected D, args := #[] }] a := Z.pick [0, 6, 10, 11, 99, 100, 101, 102, 103, 104, 105, 19, 18]
   refine aB [] (fun i => match i with | _ => fun _ _ => False) 4 [[], [0], [], [2]] [pt w35.heap.size, iv ((ps.getD k Pxy.z).frm), kv, iv (ks.length : Int)] Z Y (by kernel_rfl) (by kernel_rfl) (by kernel_rfl) ?_ ?_ ?_
   ·intro i hi hiq
    match i, hi, hiq with
    | 0, _, _ =>
     intro w Y
     exact OpV.g (ac (v := pt w35.heap.size) rfl (by kernel_rfl))
    | 1, _, _ =>
     intro w Y
     exact OpV.g (ae (Y.get (k := 0) rfl) rfl (Tryz.isAgg3 _) rfl)
    | 2, _, _ =>
     intro w Y
     exact OpV.g (al rfl)
    | 3, _, _ =>
     intro w Y
     exact OpV.g ((aN (sT := 32) (Y.arg hkv) rfl rfl (Tryz.runUnderlying32 _)).asi (m' := (ks.length : Int)) (by rw [List.length_map]))
   ·intro i hi
    exact absurd hi (by simp)
   clear Z Y
   intro  a w39 Z Y
   replace Z : Fr 142 [(106, pt w35.heap.size), (107, iv ((ps.getD k Pxy.z).frm)), (108, kv), (109, iv (ks.length : Int)), (0, _), (6, _), (10, _), (11, _), (99, _), (100, _), (101, _), (102, _), (103, _), (104, _), (105, _), (19, _), (18, _)] [{ target := .collected D, args := #[] }] a := Z
   refine ab <| aQ (k := 4) 6 [5] (by kernel_rfl) (by kernel_rfl) (by kernel_rfl) ?_
   refine wlv Z (v_ge rfl rfl) fun a Z => wlm Z rfl fun a Z => ab ?_
   rcases Bool.eq_false_or_eq_true (decide ((ks.length : Int) ≤ (ps.getD k Pxy.z).frm)) with hb14 | hb14
   ·rw [hb14] at Z
    try simp only [qz] at hb14
    replace Z : Fr 142 [(0, kv), (6, pt w0.heap.size), (10, pt w2.heap.size), (11, pt w3.heap.size), (99, lv), (100, iv (ps.length : Int)), (101, iv (k : Int)), (102, .bool true), (103, iv (k : Int)), (104, slAddr lv (k * 7)), (105, .agg #[iv ((ps.getD k Pxy.z).frm), iv ((ps.getD k Pxy.z).to), iv ((ps.getD k Pxy.z).rf), iv ((ps.getD k Pxy.z).rt), iv ((ps.getD k Pxy.z).sf), iv ((ps.getD k Pxy.z).st), sv ((ps.getD k Pxy.z).sig)]), (19, pt w35.heap.size), (18, iv (k : Int)), (106, pt w35.heap.size), (107, iv ((ps.getD k Pxy.z).frm)), (108, kv), (109, iv (ks.length : Int)), (110, .bool true), (111, .bool true)] [{ target := .collected D, args := #[] }] a := Z.pick [0, 6, 10, 11, 99, 100, 101, 102, 103, 104, 105, 19, 18, 106, 107, 108, 109, 110, 111]
    refine dL (k := 6) 15 [7, 14] Z (by kernel_rfl) (by kernel_rfl) (by kernel_rfl) (by rfl) fun a Z => ?_
    replace Z : Fr 142 [(112, undef), (113, undef), (114, undef), (115, undef), (116, undef), (117, undef), (118, undef), (119, undef), (120, undef), (0, kv), (6, pt w0.heap.size), (10, pt w2.heap.size), (11, pt w3.heap.size), (99, lv), (100, iv (ps.length : Int)), (101, iv (k : Int)), (102, .bool true), (103, iv (k : Int)), (104, slAddr lv (k * 7)), (105, .agg #[iv ((ps.getD k Pxy.z).frm), iv ((ps.getD k Pxy.z).to), iv ((ps.getD k Pxy.z).rf), iv ((ps.getD k Pxy.z).rt), iv ((ps.getD k Pxy.z).sf), iv ((ps.getD k Pxy.z).st), sv ((ps.getD k Pxy.z).sig)]), (19, pt w35.heap.size), (18, iv (k : Int)), (106, pt w35.heap.size), (107, iv ((ps.getD k Pxy.z).frm)), (108, kv), (109, iv (ks.length : Int)), (110, .bool true), (111, .bool true)] [{ target := .collected D, args := #[] }] a := Z
    refine aQ (k := 15) 17 [16] (by kernel_rfl) (by kernel_rfl) (by kernel_rfl) ?_
    refine wln Z fun a Z => wlv Z (az rfl rfl) fun a Z => ab ?_
    refine aZ (by kernel_rfl) ?_
    refine hK35 _ _ ?_
    replace Z : Fr 142 [(0, _), (6, _), (10, _), (11, _), (99, _), (100, _), (101, _), (18, _), (122, _)] [{ target := .collected D, args := #[] }] a := Z.pick [0, 6, 10, 11, 99, 100, 101, 18, 122]
    replace Y : St No w0 [_, _, _, _, _, _, _] w39 := Y.mask [false, true, true, true, true, true, true, true]
    refine aL Z rfl ?_
    refine aa fun K36 hK36 => wlm Z rfl fun a Z => ap 3 Z Y rfl rfl rfl (Tryz.sizeOf3 _) rfl (lb rfl) (ds := [iv 6]) rfl rfl ?_
    clear Z Y
    intro a w40 Z Y
    refine ap 4 Z Y rfl rfl rfl (Tryz.sizeOf3 _) rfl (lb rfl) (ds := [iv (k : Int)]) rfl rfl ?_
    clear Z Y
    intro a w41 Z Y
    refine ab (hK36 _ _ ?_)
    refine aw ?_
    have hD := Y.get (k := 0) rfl
    replace Y := Y.unmark (i := 0) (o' := .deferred none) rfl
    replace Y : St No w0 [blk w0.heap.size [iv x.signer, iv x.holder, iv x.rf, iv x.rt, iv x.carrier, iv x.serial, iv x.sf, iv x.st, sv x.sig] 30, blk w1.heap.size [lv] 31, blk w2.heap.size [iv 6] 3, blk w3.heap.size [iv (k : Int)] 3, blk bh [iv x.holder] 3, blk bl [lv] 31] _ := Y
    refine cV Z hD Tryz.results15 (aj rfl (aI (Y.get (k := 2) rfl) (Tryz.isAgg3 _)) (aj rfl (aI (Y.get (k := 3) rfl) (Tryz.isAgg3 _)) ag)) ?_
    exact ⟨by rw [cU hwp hch hsc (by rw [hsb]; first | exact eR hkx hp0.1 (by omega) | exact fl hkx hp0.1 (by omega) hb14)]; rfl, Y.ext⟩
   rw [hb14] at Z
   try simp only [qz] at hb14
   refine aX (k := 6) 15 [7, 14] Z (by kernel_rfl) (by kernel_rfl) (by kernel_rfl) (by rfl) ?_
   replace Z : Fr 142 [(0, _), (6, _), (10, _), (11, _), (99, _), (100, _), (101, _), (102, _), (103, _), (104, _), (105, _), (19, _), (18, _), (106, _), (107, _), (108, _), (109, _), (110, _), (111, _)] [{ target := .collected D, args := #[] }] a := Z.pick [0, 6, 10, 11, 99, 100, 101, 102, 103, 104, 105, 19, 18, 106, 107, 108, 109, 110, 111]
   refine aB [] (fun i => match i with | _ => fun _ _ => False) 9 [[], [0], [], [], [3], [2, 4], [5], [], [6, 7]] [.pointer (some ⟨w35.heap.size, 6, none⟩), sv ((ps.getD k Pxy.z).sig), kv, pt w35.heap.size, iv ((ps.getD k Pxy.z).frm), slAddr kv (((ps.getD k Pxy.z).frm.toNat) * 1), sv (ks.getD ((ps.getD k Pxy.z).frm.toNat) []), .func (.func 64) #[] #[pt w35.heap.size], sv (sealH (ks.getD ((ps.getD k Pxy.z).frm.toNat) []) (ps.getD k Pxy.z).content)] Z Y (by kernel_rfl) (by kernel_rfl) (by kernel_rfl) ?_ ?_ ?_
   ·intro i hi hiq
    match i, hi, hiq with
    | 0, _, _ =>
     intro w Y
     exact OpV.g (ac (v := .pointer (some ⟨w35.heap.size, 6, none⟩)) rfl (by kernel_rfl))
    | 1, _, _ =>
     intro w Y
     exact OpV.g (ae (Y.get (k := 0) rfl) rfl (Tryz.isAgg9 _) rfl)
    | 2, _, _ =>
     intro w Y
     exact OpV.g (al rfl)
    | 3, _, _ =>
     intro w Y
     exact OpV.g (ac (v := pt w35.heap.size) rfl (by kernel_rfl))
    | 4, _, _ =>
     intro w Y
     exact OpV.g (ae (Y.get (k := 0) rfl) rfl (Tryz.isAgg3 _) rfl)
    | 5, _, _ =>
     intro w Y
     exact OpV.g ((ak (i := (ps.getD k Pxy.z).frm) (sT := 32) (Y.arg hkv) rfl rfl (Tryz.runUnderlying32 _) (Tryz.sizeOf9 _) (by omega) (by rw [List.length_map]; omega)).as (v' := slAddr kv (((ps.getD k Pxy.z).frm.toNat) * 1)) (by rw [show ((ps.getD k Pxy.z).frm).toNat = (ps.getD k Pxy.z).frm.toNat from by omega]))
    | 6, _, _ =>
     intro w Y
     exact OpV.g (aC (u := sv (ks.getD ((ps.getD k Pxy.z).frm.toNat) [])) (i := ((ps.getD k Pxy.z).frm.toNat)) (j := 0) (Y.arg hkv) (by rw [List.length_map]; omega) rfl (Tryz.isAgg9 _) (by rw [bp ([] : By)]; rfl))
    | 7, _, _ =>
     intro w Y
     exact OpV.g (cl rfl rfl)
    | 8, _, _ =>
     intro w Y
     exact br Tryz.call63 rfl (iH (ks.getD ((ps.getD k Pxy.z).frm.toNat) []) (ps.getD k Pxy.z).content 64 w35.heap.size [iv ((ps.getD k Pxy.z).frm), iv ((ps.getD k Pxy.z).to), iv ((ps.getD k Pxy.z).rf), iv ((ps.getD k Pxy.z).rt), iv ((ps.getD k Pxy.z).sf), iv ((ps.getD k Pxy.z).st), sv ((ps.getD k Pxy.z).sig)] 40 _ Tryz.call64 (fun b v ws h => pr b w35.heap.size v (ps.getD k Pxy.z) ws (Pxy.smalls_of hpk) h) ew (by have := hk32 _ (bR (d := []) (by omega : ((ps.getD k Pxy.z).frm.toNat) < ks.length)); omega) (Nat.le_trans ((ps.getD k Pxy.z).content_len) (by decide)) (Y.keepb hk0) (Y.get (k := 0) rfl) (fa Y (i := 0) rfl hk0))
   ·intro i hi
    exact absurd hi (by simp)
   clear Z Y
   intro  a w42 Z Y
   replace Z : Fr 142 [(112, .pointer (some ⟨w35.heap.size, 6, none⟩)), (113, sv ((ps.getD k Pxy.z).sig)), (114, kv), (115, pt w35.heap.size), (116, iv ((ps.getD k Pxy.z).frm)), (117, slAddr kv (((ps.getD k Pxy.z).frm.toNat) * 1)), (118, sv (ks.getD ((ps.getD k Pxy.z).frm.toNat) [])), (119, .func (.func 64) #[] #[pt w35.heap.size]), (120, sv (sealH (ks.getD ((ps.getD k Pxy.z).frm.toNat) []) (ps.getD k Pxy.z).content)), (0, _), (6, _), (10, _), (11, _), (99, _), (100, _), (101, _), (102, _), (103, _), (104, _), (105, _), (19, _), (18, _), (106, _), (107, _), (108, _), (109, _), (110, _), (111, _)] [{ target := .collected D, args := #[] }] a := Z
   refine ab <| aQ (k := 15) 17 [16] (by kernel_rfl) (by kernel_rfl) (by kernel_rfl) ?_
   refine wly Z (lQ rfl rfl) fun a Z => wlv Z (au rfl rfl) fun a Z => ab ?_
   refine aZ (by kernel_rfl) ?_
   refine hK35 _ _ ?_
   replace Z : Fr 142 [(0, _), (6, _), (10, _), (11, _), (99, _), (100, _), (101, _), (18, _), (122, _)] [{ target := .collected D, args := #[] }] a := Z.pick [0, 6, 10, 11, 99, 100, 101, 18, 122]
   replace Y : St No w0 [_, _, _, _, _, _, _] w42 := Y.mask [false, true, true, true, true, true, true, true]
   refine ay Z rfl (fun hc15 => ?_) (fun hc15 => ?_)
   ·rw [hc15] at Z
    try simp only [qz] at hc15
    refine aa fun K37 hK37 => wlm Z rfl fun a Z => ap 3 Z Y rfl rfl rfl (Tryz.sizeOf3 _) rfl (lb rfl) (ds := [iv 6]) rfl rfl ?_
    clear Z Y
    intro a w43 Z Y
    refine ap 4 Z Y rfl rfl rfl (Tryz.sizeOf3 _) rfl (lb rfl) (ds := [iv (k : Int)]) rfl rfl ?_
    clear Z Y
    intro a w44 Z Y
    refine ab (hK37 _ _ ?_)
    refine aw ?_
    have hD := Y.get (k := 0) rfl
    replace Y := Y.unmark (i := 0) (o' := .deferred none) rfl
    replace Y : St No w0 [blk w0.heap.size [iv x.signer, iv x.holder, iv x.rf, iv x.rt, iv x.carrier, iv x.serial, iv x.sf, iv x.st, sv x.sig] 30, blk w1.heap.size [lv] 31, blk w2.heap.size [iv 6] 3, blk w3.heap.size [iv (k : Int)] 3, blk bh [iv x.holder] 3, blk bl [lv] 31] _ := Y
    refine cV Z hD Tryz.results15 (aj rfl (aI (Y.get (k := 2) rfl) (Tryz.isAgg3 _)) (aj rfl (aI (Y.get (k := 3) rfl) (Tryz.isAgg3 _)) ag)) ?_
    exact ⟨by rw [cU hwp hch hsc (by rw [hsb]; first | exact eR hkx hp0.1 (by omega) | exact fl hkx hp0.1 (by omega) hc15)]; rfl, Y.ext⟩
   rw [hc15] at Z
   try simp only [qz] at hc15
   refine ax ?_
   refine hK33 _ _ ?_
   refine am <| wlv Z (aT rfl rfl ⟨by omega, by omega⟩) fun a Z => wlm Z rfl fun a Z => ab ?_
   refine ⟨_, ?_, k + 1, rfl, (by omega), (by rw [hsb]; exact iF hkx hp0.1 (by omega) hc15), Z.pick [0, 6, 10, 11, 99, 100, 101], Y.select [0, 1, 2, 3, 4, 5, 6] (by decide)⟩
   omega
  rw [hc13] at Z
  try simp only [qz] at hc13
  have hke : k = ps.length := by omega
  rw [hke, List.drop_length] at hsb
  refine aP ?_
  refine hK29 _ _ ?_
  refine ai fun K38 hK38 => ai fun K39 hK39 => aM (by kernel_rfl) (aO (by kernel_rfl) fun w45 hxz => ?_)
  replace Y := Y.grow hxz
  refine aX (k := 0) 4 [1, 3] Z (by kernel_rfl) (by kernel_rfl) (by kernel_rfl) (by rfl) ?_
  replace Z : Fr 142 [(0, _), (6, _), (10, _), (11, _), (99, _), (100, _), (101, _), (102, _)] [{ target := .collected D, args := #[] }] a := Z.pick [0, 6, 10, 11, 99, 100, 101, 102]
  refine aB [] (fun i => match i with | _ => fun _ _ => False) 4 [[], [0], [], [2]] [pt w0.heap.size, iv x.signer, kv, iv (ks.length : Int)] Z Y (by kernel_rfl) (by kernel_rfl) (by kernel_rfl) ?_ ?_ ?_
  ·intro i hi hiq
   match i, hi, hiq with
   | 0, _, _ =>
    intro w Y
    exact OpV.g (ac (v := pt w0.heap.size) rfl (by kernel_rfl))
   | 1, _, _ =>
    intro w Y
    exact OpV.g (ae (Y.get (k := 1) rfl) rfl (Tryz.isAgg3 _) rfl)
   | 2, _, _ =>
    intro w Y
    exact OpV.g (al rfl)
   | 3, _, _ =>
    intro w Y
    exact OpV.g ((aN (sT := 32) (Y.arg hkv) rfl rfl (Tryz.runUnderlying32 _)).asi (m' := (ks.length : Int)) (by rw [List.length_map]))
  ·intro i hi
   exact absurd hi (by simp)
  clear Z Y
  intro  a w46 Z Y
  replace Z : Fr 142 [(125, pt w0.heap.size), (126, iv x.signer), (127, kv), (128, iv (ks.length : Int)), (0, _), (6, _), (10, _), (11, _), (99, _), (100, _), (101, _), (102, _)] [{ target := .collected D, args := #[] }] a := Z
  refine ab <| aQ (k := 4) 6 [5] (by kernel_rfl) (by kernel_rfl) (by kernel_rfl) ?_
  refine wlv Z (v_ge rfl rfl) fun a Z => wlm Z rfl fun a Z => ab ?_
  rcases Bool.eq_false_or_eq_true (decide ((ks.length : Int) ≤ x.signer)) with hb16 | hb16
  ·rw [hb16] at Z
   try simp only [qz] at hb16
   replace Z : Fr 142 [(0, kv), (6, pt w0.heap.size), (10, pt w2.heap.size), (11, pt w3.heap.size), (99, lv), (100, iv (ps.length : Int)), (101, iv (k : Int)), (102, .bool false), (125, pt w0.heap.size), (126, iv x.signer), (127, kv), (128, iv (ks.length : Int)), (129, .bool true), (130, .bool true)] [{ target := .collected D, args := #[] }] a := Z.pick [0, 6, 10, 11, 99, 100, 101, 102, 125, 126, 127, 128, 129, 130]
   refine dL (k := 6) 15 [7, 14] Z (by kernel_rfl) (by kernel_rfl) (by kernel_rfl) (by rfl) fun a Z => ?_
   replace Z : Fr 142 [(131, undef), (132, undef), (133, undef), (134, undef), (135, undef), (136, undef), (137, undef), (138, undef), (139, undef), (0, kv), (6, pt w0.heap.size), (10, pt w2.heap.size), (11, pt w3.heap.size), (99, lv), (100, iv (ps.length : Int)), (101, iv (k : Int)), (102, .bool false), (125, pt w0.heap.size), (126, iv x.signer), (127, kv), (128, iv (ks.length : Int)), (129, .bool true), (130, .bool true)] [{ target := .collected D, args := #[] }] a := Z
   refine aQ (k := 15) 17 [16] (by kernel_rfl) (by kernel_rfl) (by kernel_rfl) ?_
   refine wln Z fun a Z => wlv Z (az rfl rfl) fun a Z => ab ?_
   refine aZ (by kernel_rfl) ?_
   refine hK39 _ _ ?_
   replace Z : Fr 142 [(10, _), (11, _), (141, _)] [{ target := .collected D, args := #[] }] a := Z.pick [10, 11, 141]
   refine aL Z rfl ?_
   refine aa fun K40 hK40 => ap 3 Z Y rfl rfl rfl (Tryz.sizeOf3 _) rfl (lb rfl) (ds := [iv 6]) rfl rfl ?_
   clear Z Y
   intro a w47 Z Y
   refine ap 4 Z Y rfl rfl rfl (Tryz.sizeOf3 _) rfl (lb rfl) (ds := [iv (-1)]) rfl rfl ?_
   clear Z Y
   intro a w48 Z Y
   refine ab (hK40 _ _ ?_)
   refine aw ?_
   have hD := Y.get (k := 0) rfl
   replace Y := Y.unmark (i := 0) (o' := .deferred none) rfl
   replace Y : St No w0 [blk w0.heap.size [iv x.signer, iv x.holder, iv x.rf, iv x.rt, iv x.carrier, iv x.serial, iv x.sf, iv x.st, sv x.sig] 30, blk w1.heap.size [lv] 31, blk w2.heap.size [iv 6] 3, blk w3.heap.size [iv (-1)] 3, blk bh [iv x.holder] 3, blk bl [lv] 31] _ := Y
   refine cV Z hD Tryz.results15 (aj rfl (aI (Y.get (k := 2) rfl) (Tryz.isAgg3 _)) (aj rfl (aI (Y.get (k := 3) rfl) (Tryz.isAgg3 _)) ag)) ?_
   exact ⟨by rw [cU hwp hch hsc (by rw [hsb]; first | exact eu (Wsh.ok_signer hxo).1 (by omega) | exact eo (Wsh.ok_signer hxo).1 (by omega) hb16)]; rfl, Y.ext⟩
  rw [hb16] at Z
  try simp only [qz] at hb16
  refine aX (k := 6) 15 [7, 14] Z (by kernel_rfl) (by kernel_rfl) (by kernel_rfl) (by rfl) ?_
  replace Z : Fr 142 [(0, _), (6, _), (10, _), (11, _), (99, _), (100, _), (101, _), (102, _), (125, _), (126, _), (127, _), (128, _), (129, _), (130, _)] [{ target := .collected D, args := #[] }] a := Z.pick [0, 6, 10, 11, 99, 100, 101, 102, 125, 126, 127, 128, 129, 130]
  refine aB [] (fun i => match i with | _ => fun _ _ => False) 9 [[], [0], [], [], [3], [2, 4], [5], [], [6, 7]] [.pointer (some ⟨w0.heap.size, 8, none⟩), sv x.sig, kv, pt w0.heap.size, iv x.signer, slAddr kv (x.signer.toNat * 1), sv (ks.getD x.signer.toNat []), .func (.func 66) #[] #[pt w0.heap.size], sv (sealH (ks.getD x.signer.toNat []) x.content)] Z Y (by kernel_rfl) (by kernel_rfl) (by kernel_rfl) ?_ ?_ ?_
  ·intro i hi hiq
   match i, hi, hiq with
   | 0, _, _ =>
    intro w Y
    exact OpV.g (ac (v := .pointer (some ⟨w0.heap.size, 8, none⟩)) rfl (by kernel_rfl))
   | 1, _, _ =>
    intro w Y
    exact OpV.g (ae (Y.get (k := 1) rfl) rfl (Tryz.isAgg9 _) rfl)
   | 2, _, _ =>
    intro w Y
    exact OpV.g (al rfl)
   | 3, _, _ =>
    intro w Y
    exact OpV.g (ac (v := pt w0.heap.size) rfl (by kernel_rfl))
   | 4, _, _ =>
    intro w Y
    exact OpV.g (ae (Y.get (k := 1) rfl) rfl (Tryz.isAgg3 _) rfl)
   | 5, _, _ =>
    intro w Y
    exact OpV.g ((ak (i := x.signer) (sT := 32) (Y.arg hkv) rfl rfl (Tryz.runUnderlying32 _) (Tryz.sizeOf9 _) (by omega) (by rw [List.length_map]; omega)).as (v' := slAddr kv (x.signer.toNat * 1)) (by rw [show (x.signer).toNat = x.signer.toNat from by omega]))
   | 6, _, _ =>
    intro w Y
    exact OpV.g (aC (u := sv (ks.getD x.signer.toNat [])) (i := x.signer.toNat) (j := 0) (Y.arg hkv) (by rw [List.length_map]; omega) rfl (Tryz.isAgg9 _) (by rw [bp ([] : By)]; rfl))
   | 7, _, _ =>
    intro w Y
    exact OpV.g (cl rfl rfl)
   | 8, _, _ =>
    intro w Y
    exact br Tryz.call63 rfl (iH (ks.getD x.signer.toNat []) x.content 66 w0.heap.size [iv x.signer, iv x.holder, iv x.rf, iv x.rt, iv x.carrier, iv x.serial, iv x.sf, iv x.st, sv x.sig] 30 _ Tryz.call66 (fun b v ws h => pg b w0.heap.size v x ws (Wsh.smalls_of hxo) h) ew (by have := hk32 _ (bR (d := []) (by omega : x.signer.toNat < ks.length)); omega) (Nat.le_trans (x.content_len) (by decide)) (Y.keepb hk0) (Y.get (k := 1) rfl) (fa Y (i := 1) rfl hk0))
  ·intro i hi
   exact absurd hi (by simp)
  clear Z Y
  intro  a w49 Z Y
  replace Z : Fr 142 [(131, .pointer (some ⟨w0.heap.size, 8, none⟩)), (132, sv x.sig), (133, kv), (134, pt w0.heap.size), (135, iv x.signer), (136, slAddr kv (x.signer.toNat * 1)), (137, sv (ks.getD x.signer.toNat [])), (138, .func (.func 66) #[] #[pt w0.heap.size]), (139, sv (sealH (ks.getD x.signer.toNat []) x.content)), (0, _), (6, _), (10, _), (11, _), (99, _), (100, _), (101, _), (102, _), (125, _), (126, _), (127, _), (128, _), (129, _), (130, _)] [{ target := .collected D, args := #[] }] a := Z
  refine ab <| aQ (k := 15) 17 [16] (by kernel_rfl) (by kernel_rfl) (by kernel_rfl) ?_
  refine wly Z (lQ rfl rfl) fun a Z => wlv Z (au rfl rfl) fun a Z => ab ?_
  refine aZ (by kernel_rfl) ?_
  refine hK39 _ _ ?_
  replace Z : Fr 142 [(10, _), (11, _), (141, _)] [{ target := .collected D, args := #[] }] a := Z.pick [10, 11, 141]
  refine ay Z rfl (fun hc17 => ?_) (fun hc17 => ?_)
  ·rw [hc17] at Z
   try simp only [qz] at hc17
   refine aa fun K41 hK41 => ap 3 Z Y rfl rfl rfl (Tryz.sizeOf3 _) rfl (lb rfl) (ds := [iv 6]) rfl rfl ?_
   clear Z Y
   intro a w50 Z Y
   refine ap 4 Z Y rfl rfl rfl (Tryz.sizeOf3 _) rfl (lb rfl) (ds := [iv (-1)]) rfl rfl ?_
   clear Z Y
   intro a w51 Z Y
   refine ab (hK41 _ _ ?_)
   refine aw ?_
   have hD := Y.get (k := 0) rfl
   replace Y := Y.unmark (i := 0) (o' := .deferred none) rfl
   replace Y : St No w0 [blk w0.heap.size [iv x.signer, iv x.holder, iv x.rf, iv x.rt, iv x.carrier, iv x.serial, iv x.sf, iv x.st, sv x.sig] 30, blk w1.heap.size [lv] 31, blk w2.heap.size [iv 6] 3, blk w3.heap.size [iv (-1)] 3, blk bh [iv x.holder] 3, blk bl [lv] 31] _ := Y
   refine cV Z hD Tryz.results15 (aj rfl (aI (Y.get (k := 2) rfl) (Tryz.isAgg3 _)) (aj rfl (aI (Y.get (k := 3) rfl) (Tryz.isAgg3 _)) ag)) ?_
   exact ⟨by rw [cU hwp hch hsc (by rw [hsb]; first | exact eu (Wsh.ok_signer hxo).1 (by omega) | exact eo (Wsh.ok_signer hxo).1 (by omega) hc17)]; rfl, Y.ext⟩
  rw [hc17] at Z
  try simp only [qz] at hc17
  refine ax ?_
  refine hK38 _ _ ?_
  refine aa fun K42 hK42 => ap 3 Z Y rfl rfl rfl (Tryz.sizeOf3 _) rfl (lb rfl) (ds := [iv 0]) rfl rfl ?_
  clear Z Y
  intro a w52 Z Y
  refine ap 4 Z Y rfl rfl rfl (Tryz.sizeOf3 _) rfl (lb rfl) (ds := [iv (-1)]) rfl rfl ?_
  clear Z Y
  intro a w53 Z Y
  refine ab (hK42 _ _ ?_)
  refine aw ?_
  have hD := Y.get (k := 0) rfl
  replace Y := Y.unmark (i := 0) (o' := .deferred none) rfl
  replace Y : St No w0 [blk w0.heap.size [iv x.signer, iv x.holder, iv x.rf, iv x.rt, iv x.carrier, iv x.serial, iv x.sf, iv x.st, sv x.sig] 30, blk w1.heap.size [lv] 31, blk w2.heap.size [iv 0] 3, blk w3.heap.size [iv (-1)] 3, blk bh [iv x.holder] 3, blk bl [lv] 31] _ := Y
  refine cV Z hD Tryz.results15 (aj rfl (aI (Y.get (k := 2) rfl) (Tryz.isAgg3 _)) (aj rfl (aI (Y.get (k := 3) rfl) (Tryz.isAgg3 _)) ag)) ?_
  exact ⟨by rw [e8 hwp hch hsc (by rw [hsb]; exact iZ (Wsh.ok_signer hxo).1 (by omega) hc17)]; rfl, Y.ext⟩
 ·rintro D _ pre _ _ a w54 rfl ⟨rfl, i, hci, rfl⟩ Y Z
  replace Z : Fr 142 [(0, kv), (6, pt w0.heap.size), (7, pt w1.heap.size), (10, pt w2.heap.size), (11, pt w3.heap.size), (62, .bool false), (63, .pointer (some ⟨w0.heap.size, 1, none⟩)), (64, iv x.holder), (65, lv), (66, .func (.func 118) #[] #[pt bh, pt bl])] [{ target := .collected D, args := #[] }] a := Z
  replace Y : St No w0 [obj D (.deferred (some [])), blk w0.heap.size [iv x.signer, iv x.holder, iv x.rf, iv x.rt, iv x.carrier, iv x.serial, iv x.sf, iv x.st, sv x.sig] 30, blk w1.heap.size [lv] 31, blk w2.heap.size [iv 4] 3, blk w3.heap.size [iv i] 3, blk bh [iv x.holder] 3, blk bl [lv] 31] w54 := Y
  refine aw ?_
  have hD := Y.get (k := 0) rfl
  replace Y := Y.unmark (i := 0) (o' := .deferred none) rfl
  replace Y : St No w0 [blk w0.heap.size [iv x.signer, iv x.holder, iv x.rf, iv x.rt, iv x.carrier, iv x.serial, iv x.sf, iv x.st, sv x.sig] 30, blk w1.heap.size [lv] 31, blk w2.heap.size [iv 4] 3, blk w3.heap.size [iv i] 3, blk bh [iv x.holder] 3, blk bl [lv] 31] _ := Y
  refine cV Z hD Tryz.results15 (aj rfl (aI (Y.get (k := 2) rfl) (Tryz.isAgg3 _)) (aj rfl (aI (Y.get (k := 3) rfl) (Tryz.isAgg3 _)) ag)) ?_
  exact ⟨by rw [es hwp hci]; rfl, Y.ext⟩
end Go.Proofs.YtmmfieceinmloaaGreatDoor
namespace Go.PW
open Go.RowKit
set_option linter.unusedVariables false
section
variable {P : Program} {w : World} {L : List (Nat × Value)} {dst : Option Tmp} {T T' ty : TypeId} {pos : String} {af : Array Edge} {gd : Option (Nat × Bool)} {x y : Operand}
theorem pV {b : UInt8} {n : Nat} {k : IntKind} (hn : n ≤ 8) (hx : ev L x = some (yv b)) (hy : ev L y = some (.int k (n : Int))) : OpV P ⟨dst, .binOp .shr T x y T', ty, pos, af, gd⟩ L w (yv (UInt8.ofNat (b.toNat / 2 ^ n))) :=
 cW (u := yv b) (v := .int k (n : Int)) hx hy rfl (by
  have h0 : ¬ ((n : Int) < 0) := by omega
  show (Op.shift .shr .u8 (b.toNat : Int) k (n : Int)).run P w = _
  simp only [Op.shift, if_neg h0, Int.toNat_natCast]
  show Result.ok (Value.int .u8 ((b.toNat : Int).fdiv (2 ^ (min n 8)))) w = _
  rw [Nat.min_eq_left hn]
  have : ((2 : Int) ^ n) = ((2 ^ n : Nat) : Int) := by push_cast; rfl
  rw [this, Int.fdiv_eq_ediv_of_nonneg _ (Int.natCast_nonneg _), ← Int.natCast_ediv]
  have hb := b.toNat_lt
  have hd : b.toNat / 2 ^ n < 256 := Nat.lt_of_le_of_lt (Nat.div_le_self _ _) hb
  unfold yv
  rw [UInt8.toNat_ofNat_of_lt' hd])
theorem eN {i : Nat} {kd : IntKind} {s : List UInt8} (hx : ev L x = some (sv s)) (hy : ev L y = some (.int kd (i : Int))) (hu : (underlying T).run P w = .ok .string w) (hl : i < s.length) : OpV P ⟨dst, .index T x y, ty, pos, af, gd⟩ L w (yv (s.getD i 0)) := by
 refine ck hx hy ?_
 have hsz : (ByteArray.mk s.toArray).size = s.length := by simp [ByteArray.size]
 have h2 : (i : Int) < (s.length : Int) := by omega
 simp only [sv, Instr.index, asIntOf, Sem.run_bind, Sem.run_pure, Result.andThen_ok, hu]
 have hg : s.getD i 0 = s[i] := by simp [List.getD_eq_getElem?_getD, hl]
 simp [hsz, hl, yv, -List.getD_eq_getElem?_getD, hg]
 rfl
theorem y15 (b : UInt8) : (b &&& 15).toNat = b.toNat % 16 := by rw [UInt8.toNat_and]; exact Nat.and_two_pow_sub_one_eq_mod b.toNat 4
theorem y127 (b : UInt8) : (b &&& 127).toNat = b.toNat % 128 := by rw [UInt8.toNat_and]; exact Nat.and_two_pow_sub_one_eq_mod b.toNat 7
end
end Go.PW
namespace Go.Proofs.YtmmfieceinmloaaGreatDoor
open Go.RowKit Go.PW
set_option linter.unusedVariables false
set_option linter.unusedSimpArgs false
set_option maxRecDepth 4000
theorem nK (kv lv : Value) (ks : List By) (x : Wsh) (ps : List Pxy) (number t : Int) (w0 : World) (hkv : SlAt w0 kv 1 (ks.map fun s => [sv s])) (hlv : SlAt w0 lv 7 (ps.map Pxy.cells)) (hk0 : (blk 0 (kOf.map wv) 239).ok w0) :
  Ret Tryz.prog 17 #[kv, .agg #[iv x.signer, iv x.holder, iv x.rf, iv x.rt, iv x.carrier, iv x.serial, iv x.sf, iv x.st, sv x.sig], lv, iv number, iv t] w0 fun v w => v = .bool (validH ks x ps number t) ∧ Ext No w0 w := by
 refine aF Tryz.func17 rfl Tryz.ntmps17 (lb rfl) fun a Z => ?_
 replace Z : Fr 24 [(0, _), (1, _), (2, _), (3, _), (4, _)] [] a := Z
 replace Y : St No w0 [] w0 := St.init w0
 refine aa fun K1 hK1 => aY Z Y (by decide) rfl (cs := [iv x.signer, iv x.holder, iv x.rf, iv x.rt, iv x.carrier, iv x.serial, iv x.sf, iv x.st, sv x.sig]) rfl ?_
 clear Z Y
 intro a w1 Z Y
 refine wla Z rfl fun a Z => ab (hK1 _ _ ?_)
 refine aa fun K2 hK2 => wlm Z rfl fun a Z => wlv Z (ar (Y.get (k := 0) rfl) rfl (Tryz.isAgg30 _) (Tryz.sizeOf30 _)) fun a Z => wlm Z rfl fun a Z => wlm Z rfl fun a Z => wlm Z rfl fun a Z => aA Z Y (by decide) Tryz.call15 rfl (ng kv lv ks x ps number t _ (Y.arg hkv) (Y.arg hlv) (Y.keepb hk0)) ?_
 clear Z Y
 intro a w2 Z Y
 refine wlm Z rfl fun a Z => wlv Z (aD rfl rfl) fun a Z => wlv Z (aD rfl rfl) fun a Z => wla Z rfl fun a Z => wla Z rfl fun a Z => ab (hK2 _ _ ?_)
 replace Z : Fr 24 [(10, _), (11, _)] [] a := Z.pick [10, 11]
 replace Y : St No w0 [] w2 := Y.mask [false]
 refine aa fun K3 hK3 => wlm Z rfl fun a Z => wlv Z (v_eq rfl rfl) fun a Z => wla Z rfl fun a Z => ab (hK3 _ _ ?_)
 refine aw ?_
 refine ao Z Tryz.results17 (ah rfl ag) ?_
 exact ⟨by rfl, Y.ext⟩
theorem iu {M : Nat → Prop} {w0 : World} (T : TypeId) (b : Nat) (ad v : Value) (bs : By) (z : UInt8) (ws : World) (hlie : liesAt Tryz.prog Tryz.prog.depth T (2 / Tryz.prog.cellsOf T) 0 131 1 = true) (had : ad = .pointer none ∨ ad = pt b) (hbn : bs.length + 1 ≤ 1000000000) (Y : St M w0 [bld T b ad v bs] ws) :
  Ret Tryz.prog 88 #[pt b, yv z] ws fun u w => u = .nilIface ∧ ∃ v2, St M w0 [bld T b (pt b) v2 (bs ++ [z])] w := by
 rcases had with rfl | rfl
 ·exact kf T b v bs z ws hlie hbn Y
 ·exact la T b v bs z ws hlie hbn Y
def hexD (n : Nat) : UInt8 := ([48, 49, 50, 51, 52, 53, 54, 55, 56, 57, 97, 98, 99, 100, 101, 102] : By).getD n 0
def hexs (l : By) : By := l.flatMap fun b => [hexD (b.toNat / 16), hexD (b.toNat % 16)]
theorem mG (l : By) (b : UInt8) : hexs (l ++ [b]) = hexs l ++ [hexD (b.toNat / 16)] ++ [hexD (b.toNat % 16)] := by simp [hexs]
theorem fg (l : By) : (hexs l).length = 2 * l.length := by
 induction l with
 | nil => rfl
 | cons b l ih => simp only [hexs, List.flatMap_cons, List.length_append, List.length_cons, List.length_nil] at *; omega
def accC (n d : Int) : By := puts [3, n, d]
def accH (key : By) (n d : Int) : By := hexs ((sealH key (accC n d)).take 8)
def accOk (key : By) (n d : Int) : Bool := decide (key.length = 32) && inB n 0 99999999 && inB d 0 1000000
theorem cN (key c : By) : (sealH key c).length = 32 := by unfold sealH nodeH; exact jv _
theorem j0 (key : By) (n d : Int) : (accH key n d).length = 16 := by unfold accH; rw [fg, List.length_take, cN]; rfl
theorem take_one {l : By} {k : Nat} (h : k < l.length) : l.take (k + 1) = l.take k ++ [l.getD k 0] := by
 rw [List.take_add_one, List.getElem?_eq_getElem h, List.getD_eq_getElem?_getD, List.getElem?_eq_getElem h]; rfl
theorem lg {n d : Int} (h1 : inB n 0 99999999 = true) (h2 : inB d 0 1000000 = true) : smalls [3, n, d] := by
 simp only [inB, Bool.and_eq_true, decide_eq_true_eq] at h1 h2
 intro z hz
 simp only [List.mem_cons, List.not_mem_nil, or_false] at hz
 unfold small
 rcases hz with rfl | rfl | rfl <;> omega
theorem ov (n d : Int) : (puts [3, n, d]).length ≤ 40000000 := Nat.le_trans (cR _) (by show 9 * 3 ≤ 40000000; decide)
theorem ln (key : By) (n d : Int) (bx by_ : Nat) (w0 : World) (hx : smalls [3, n, d]) (hkl : key.length ≤ 40000000) (hk0 : (blk 0 (kOf.map wv) 239).ok w0) (hbx : (blk bx [iv n] 3).ok w0) (hby : (blk by_ [iv d] 3).ok w0) (h1 : bx ≠ 0) (h2 : by_ ≠ 0) (h3 : bx ≠ by_) :
  Ret Tryz.prog 63 #[sv key, .func (.func 87) #[] #[pt bx, pt by_]] w0 fun v w => v = sv (sealH key (accC n d)) ∧ Ext No w0 w := by
 have Y : St (fun k => k = 0 ∨ k = bx ∨ k = by_) w0 [blk 0 (kOf.map wv) 239, join [blk bx [iv n] 3, blk by_ [iv d] 3]] w0 := by
  have l1 := (Array.getElem?_eq_some_iff.1 hk0).1
  have l2 := (Array.getElem?_eq_some_iff.1 hbx).1
  have l3 := (Array.getElem?_eq_some_iff.1 hby).1
  refine ⟨Ext.refl _ _, fun e he => ?_, ?_⟩
  ·simp only [List.mem_cons, List.not_mem_nil, or_false] at he
   rcases he with rfl | rfl
   ·exact ⟨hk0, fun k hk => by cases hk; exact ⟨l1, fun _ => .inl rfl⟩⟩
   ·refine ⟨⟨fun e he => ?_, ?_⟩, fun k ⟨e, he, hk⟩ => ?_⟩
    ·simp only [List.mem_cons, List.not_mem_nil, or_false] at he
     rcases he with rfl | rfl
     ·exact hbx
     ·exact hby
    ·refine List.Pairwise.cons (fun e he k hk hk' => ?_) (List.pairwise_singleton _ _)
     simp only [List.mem_cons, List.not_mem_nil, or_false] at he
     subst he; cases hk; exact h3 hk'
    ·simp only [List.mem_cons, List.not_mem_nil, or_false] at he
     rcases he with rfl | rfl
     ·cases hk; exact ⟨l2, fun _ => .inr (.inl rfl)⟩
     ·cases hk; exact ⟨l3, fun _ => .inr (.inr rfl)⟩
  ·refine List.Pairwise.cons (fun e he k hk hk' => ?_) (List.pairwise_singleton _ _)
   simp only [List.mem_cons, List.not_mem_nil, or_false] at he
   subst he
   cases hk
   obtain ⟨e, he, hk⟩ := hk'
   simp only [List.mem_cons, List.not_mem_nil, or_false] at he
   rcases he with rfl | rfl
   ·exact h1 (Eq.symm hk)
   ·exact h2 (Eq.symm hk)
 refine (fY key (accC n d) 87 [pt bx, pt by_] (join [blk bx [iv n] 3, blk by_ [iv d] 3]) w0 Tryz.call87 (fun b v ws h => ?_) ew hkl (ov n d) Y).mono fun v w ⟨e1, e2⟩ => ⟨e1, ?_⟩
 ·refine (nR b bx by_ v n d ws hx (St.unjoinTail [bld 133 b (.pointer none) v []] [blk bx [iv n] 3, blk by_ [iv d] 3] h)).mono fun u w ⟨g1, v2, g2⟩ => ⟨g1, v2, ?_⟩
  exact St.joinTail [bld 133 b (pt b) v2 (puts [3, n, d])] [blk bx [iv n] 3, blk by_ [iv d] 3] g2
 ·have e3 := St.unjoinTail [blk 0 (kOf.map wv) 239] [blk bx [iv n] 3, blk by_ [iv d] 3] e2
  refine ⟨e2.ext.os, e2.ext.tape, e2.ext.output, e2.ext.size, fun k hk _ => ?_⟩
  by_cases q1 : k = 0
  ·subst q1; exact Eq.trans (e3.get (k := 0) rfl) (Eq.symm hk0)
  ·by_cases q2 : k = bx
   ·subst q2; exact Eq.trans (e3.get (k := 1) rfl) (Eq.symm hbx)
   ·by_cases q3 : k = by_
    ·subst q3; exact Eq.trans (e3.get (k := 2) rfl) (Eq.symm hby)
    ·exact e2.ext.same k hk fun hh => hh.elim q1 (fun hh => hh.elim q2 q3)
theorem nf {M : Nat → Prop} {w0 w : World} {H : List Ent} {i j b g : Nat} {cs c1 : List Value} {T T1 : TypeId} (h : St M w0 H w) (hi : H[i]? = some (blk b cs T)) (hj : H[j]? = some (blk g c1 T1)) (hij : i ≠ j) : b ≠ g := by
 rintro rfl
 obtain ⟨a1, a2⟩ := List.getElem?_eq_some_iff.1 hi
 obtain ⟨b1, b2⟩ := List.getElem?_eq_some_iff.1 hj
 have hp := List.pairwise_iff_getElem.1 h.dis
 rcases Nat.lt_or_gt_of_ne hij with hlt | hlt
 ·exact hp i j a1 b1 hlt b (by rw [a2]; rfl) (by rw [b2]; rfl)
 ·exact hp j i b1 a1 hlt b (by rw [b2]; rfl) (by rw [a2]; rfl)
set_option maxHeartbeats 4000000 in
theorem hC (key : By) (n d : Int) (w0 : World) (hkl : key.length ≤ 40000000) (hk0 : (blk 0 (kOf.map wv) 239).ok w0) :
  Ret Tryz.prog 31 #[sv key, iv n, iv d] w0 fun v w => v = (if accOk key n d = true then .tuple #[sv (accH key n d), iv 0] else .tuple #[sv [], iv 150]) ∧ Ext No w0 w := by
 refine aF Tryz.func31 rfl Tryz.ntmps31 (lb rfl) fun a Z => ?_
 replace Z : Fr 44 [(0, _), (1, _), (2, _)] [] a := Z
 replace Y : St No w0 [] w0 := St.init w0
 refine aa fun K1 hK1 => aY Z Y (by decide) rfl (cs := [iv n]) rfl ?_
 clear Z Y
 intro a w1 Z Y
 refine aY Z Y (by decide) rfl (cs := [iv d]) rfl ?_
 clear Z Y
 intro a w2 Z Y
 refine wla Z rfl fun a Z => wla Z rfl fun a Z => ab (hK1 _ _ ?_)
 refine ai fun K2 hK2 => aa fun K3 hK3 => wlm Z rfl fun a Z => aA Z Y (by decide) Tryz.call56 rfl (dh key _) ?_
 clear Z Y
 intro a w3 Z Y
 refine wlv Z (bS rfl) fun a Z => wlm Z rfl fun a Z => ?_
 rcases Bool.eq_false_or_eq_true (!(decide ((key.length : Int) = 32))) with hb1 | hb1
 ·rw [hb1] at Z
  try simp only [qz] at hb1
  refine wln Z fun a Z => wln Z fun a Z => wln Z fun a Z => wlv Z (az rfl rfl) fun a Z => wlm Z rfl fun a Z => wln Z fun a Z => wln Z fun a Z => wln Z fun a Z => ?_
  refine wlv Z (az rfl rfl) fun a Z => ab (hK3 _ _ ?_)
  replace Z : Fr 44 [(0, _), (4, _), (5, _), (6, _), (7, _), (23, _)] [] a := Z.pick [0, 4, 5, 6, 7, 23]
  refine aL Z rfl ?_
  refine aa fun K4 hK4 => wla Z rfl fun a Z => wla Z rfl fun a Z => ab (hK4 _ _ ?_)
  refine aw ?_
  refine ao Z Tryz.results31 (ah rfl (ah rfl ag)) ?_
  exact ⟨by simp only [retv]; rw [if_neg (by unfold accOk; simp [hb1]; omega)]; rfl, Y.ext⟩
 rw [hb1] at Z
 try simp only [qz] at hb1
 refine wly Z (ae (Y.get (k := 1) rfl) rfl (Tryz.isAgg3 _) rfl) fun a Z => aJ Z Y (by decide) rfl (by decide) rfl Tryz.call60 rfl (bW n 0 99999999 _) ?_
 clear Z Y
 intro a w4 Z Y
 refine wly Z (bS rfl) fun a Z => wlv Z (au rfl rfl) fun a Z => wlm Z rfl fun a Z => ?_
 rcases Bool.eq_false_or_eq_true (!(inB n 0 99999999)) with hb2 | hb2
 ·rw [hb2] at Z
  try simp only [qz] at hb2
  refine wln Z fun a Z => wln Z fun a Z => wln Z fun a Z => wlv Z (az rfl rfl) fun a Z => ab (hK3 _ _ ?_)
  replace Z : Fr 44 [(0, _), (4, _), (5, _), (6, _), (7, _), (23, _)] [] a := Z.pick [0, 4, 5, 6, 7, 23]
  refine aL Z rfl ?_
  refine aa fun K5 hK5 => wla Z rfl fun a Z => wla Z rfl fun a Z => ab (hK5 _ _ ?_)
  refine aw ?_
  refine ao Z Tryz.results31 (ah rfl (ah rfl ag)) ?_
  exact ⟨by simp only [retv]; rw [if_neg (by unfold accOk; simp [hb2])]; rfl, Y.ext⟩
 rw [hb2] at Z
 try simp only [qz] at hb2
 refine wly Z (ae (Y.get (k := 0) rfl) rfl (Tryz.isAgg3 _) rfl) fun a Z => aJ Z Y (by decide) rfl (by decide) rfl Tryz.call60 rfl (bW d 0 1000000 _) ?_
 clear Z Y
 intro a w5 Z Y
 refine wly Z (bS rfl) fun a Z => wlv Z (au rfl rfl) fun a Z => ab (hK3 _ _ ?_)
 replace Z : Fr 44 [(0, _), (4, _), (5, _), (6, _), (7, _), (23, _)] [] a := Z.pick [0, 4, 5, 6, 7, 23]
 refine ay Z rfl (fun hc3 => ?_) (fun hc3 => ?_)
 ·rw [hc3] at Z
  try simp only [qz] at hc3
  refine aa fun K6 hK6 => wla Z rfl fun a Z => wla Z rfl fun a Z => ab (hK6 _ _ ?_)
  refine aw ?_
  refine ao Z Tryz.results31 (ah rfl (ah rfl ag)) ?_
  exact ⟨by simp only [retv]; rw [if_neg (by unfold accOk; simp [hc3])]; rfl, Y.ext⟩
 rw [hc3] at Z
 try simp only [qz] at hc3
 refine ax ?_
 refine hK2 _ _ ?_
 refine aa fun K7 hK7 => wlm Z rfl fun a Z => wlv Z (cl rfl rfl) fun a Z => aA Z Y (by decide) Tryz.call63 rfl (ln key n d w0.heap.size w1.heap.size _ (lg hb2 hc3) (by omega) (Y.keepb hk0) (Y.get (k := 1) rfl) (Y.get (k := 0) rfl) (fa Y (i := 1) rfl hk0) (fa Y (i := 0) rfl hk0) (nf Y (i := 1) (j := 0) rfl rfl (by decide))) ?_
 clear Z Y
 intro a w6 Z Y
 refine wla Z rfl fun a Z => ab (hK7 _ _ ?_)
 replace Z : Fr 44 [(6, _), (7, _), (8, _)] [] a := Z.pick [6, 7, 8]
 replace Y : St No w0 [] w6 := Y.mask [false, false]
 refine aa fun K8 hK8 => aK Z Y (by decide) (Tryz.zeroValue131 _) (cs := [.pointer none, .slice none 0 0]) rfl ?_
 clear Z Y
 intro a w7 Z Y
 refine ab (hK8 _ _ ?_)
 refine ai fun K9 hK9 => ?_
 replace Y : St No w0 (own (.slice none 0 0) 5 1 [] :: [blk w6.heap.size [.pointer none, .slice none 0 0] 131]) w7 := Y.nil_own
 replace Y : St No w0 [blk w6.heap.size [.pointer none, .slice none 0 0] 131, own (.slice none 0 0) 5 1 ([])] w7 := Y.select [1, 0] (by decide)
 replace Y : St No w0 [bld 131 w6.heap.size (.pointer none) (.slice none 0 0) ([] : By)] w7 := St.join [blk w6.heap.size [.pointer none, .slice none 0 0] 131, own (.slice none 0 0) 5 1 ([])] [] Y
 refine aa fun K10 hK10 => wlm Z rfl fun a Z => ab (hK10 _ _ ?_)
 refine aq <| aW (fun m a w => ∃ (k : Nat) (ad : Value) (v : Value), m = 8 - k ∧ (k ≤ 8) ∧ (ad = .pointer none ∨ ad = pt w6.heap.size) ∧ (0 < k → ad = pt w6.heap.size) ∧ Fr 44 [(6, sv ([])), (7, iv 0), (8, sv (sealH key (accC n d))), (9, pt w6.heap.size), (27, iv (k : Int))] [] a ∧ St No w0 [bld 131 w6.heap.size (ad) v (hexs ((sealH key (accC n d)).take k))] w) _ ⟨0, .pointer none, .slice none 0 0, rfl, (by decide), (.inl rfl), (fun h => absurd h (Nat.lt_irrefl 0)), Z.pick [6, 7, 8, 9, 27], Y.select [0] (by decide)⟩ ?_
 rintro _ a w8 ⟨k, ad, v, rfl, hk, had, hak, Z, Y⟩
 refine aa fun K11 hK11 => wlv Z (v_lt rfl rfl) fun a Z => ab (hK11 _ _ ?_)
 refine ai fun K12 hK12 => ?_
 refine ay Z rfl (fun hc4 => ?_) (fun hc4 => ?_)
 ·rw [hc4] at Z
  try simp only [qz] at hc4
  have hsl : (sealH key (accC n d)).length = 32 := cN _ _
  refine ax ?_
  refine hK12 _ _ ?_
  refine ai fun K13 hK13 => aq ?_
  refine aa fun K14 hK14 => wlm Z rfl fun a Z => wla Z rfl fun a Z => ab (hK14 _ _ ?_)
  refine aa fun K15 hK15 => wlm Z rfl fun a Z => wlm Z rfl fun a Z => wlv Z (dw (k := k) rfl rfl (Tryz.runUnderlying9 _) (by omega) (by omega)) fun a Z => wlv Z ((pV (n := 4) (by decide) rfl rfl).as (v' := .int .u8 ((((sealH key (accC n d)).getD k 0).toNat / 16 : Nat) : Int)) (by unfold yv; rw [UInt8.toNat_ofNat_of_lt' (by have := ((sealH key (accC n d)).getD k 0).toNat_lt; simp only [UInt8.size]; omega)])) fun a Z => wlv Z (eN (i := ((sealH key (accC n d)).getD k 0).toNat / 16) rfl rfl (Tryz.runUnderlying9 _) (by have := UInt8.toNat_lt ((sealH key (accC n d)).getD k 0); simp only [List.length_cons, List.length_nil]; omega)) fun a Z => aV (R := fun u e' => u = .nilIface ∧ ∃ v2, e' = bld 131 w6.heap.size (pt w6.heap.size) v2 ((hexs ((sealH key (accC n d)).take k)) ++ [hexD (((sealH key (accC n d)).getD k 0).toNat / 16)])) 0 Z Y rfl (by decide) Tryz.call88 rfl (fun h => (iu 131 w6.heap.size _ _ _ _ _ (by kernel_rfl) had (by simp only [List.length_append, fg, List.length_take, List.length_cons, List.length_nil]; omega) h).mono fun u w ⟨h1, v2, h2⟩ => ⟨_, ⟨h1, v2, rfl⟩, h2⟩) ?_
  clear Z Y
  rintro a w9 _ _ ⟨rfl, v5, rfl⟩ Z Y
  replace Y : St No w0 [bld 131 w6.heap.size (pt w6.heap.size) v5 ((hexs ((sealH key (accC n d)).take k)) ++ [hexD (((sealH key (accC n d)).getD k 0).toNat / 16)])] w9 := Y
  refine ab (hK15 _ _ ?_)
  replace Z : Fr 44 [(6, _), (7, _), (8, _), (9, _), (27, _), (10, _)] [] a := Z.pick [6, 7, 8, 9, 27, 10]
  refine am <| wlm Z rfl fun a Z => wlm Z rfl fun a Z => wlv Z (dw (k := k) rfl rfl (Tryz.runUnderlying9 _) (by omega) (by omega)) fun a Z => wlv Z ((nq rfl rfl).as (v' := .int .u8 ((((sealH key (accC n d)).getD k 0).toNat % 16 : Nat) : Int)) (by unfold yv; rw [y15])) fun a Z => wlv Z (eN (i := ((sealH key (accC n d)).getD k 0).toNat % 16) rfl rfl (Tryz.runUnderlying9 _) (by have := UInt8.toNat_lt ((sealH key (accC n d)).getD k 0); simp only [List.length_cons, List.length_nil]; omega)) fun a Z => aV (R := fun u e' => u = .nilIface ∧ ∃ v2, e' = bld 131 w6.heap.size (pt w6.heap.size) v2 (((hexs ((sealH key (accC n d)).take k)) ++ [hexD (((sealH key (accC n d)).getD k 0).toNat / 16)]) ++ [hexD (((sealH key (accC n d)).getD k 0).toNat % 16)])) 0 Z Y rfl (by decide) Tryz.call88 rfl (fun h => (iu 131 w6.heap.size _ _ _ _ _ (by kernel_rfl) (.inr rfl) (by simp only [List.length_append, fg, List.length_take, List.length_cons, List.length_nil]; omega) h).mono fun u w ⟨h1, v2, h2⟩ => ⟨_, ⟨h1, v2, rfl⟩, h2⟩) ?_
  clear Z Y
  rintro a w10 _ _ ⟨rfl, v6, rfl⟩ Z Y
  replace Y : St No w0 [bld 131 w6.heap.size (pt w6.heap.size) v6 (((hexs ((sealH key (accC n d)).take k)) ++ [hexD (((sealH key (accC n d)).getD k 0).toNat / 16)]) ++ [hexD (((sealH key (accC n d)).getD k 0).toNat % 16)])] w10 := Y
  refine ab ?_
  refine hK13 _ _ ?_
  replace Z : Fr 44 [(6, _), (7, _), (8, _), (9, _), (27, _)] [] a := Z.pick [6, 7, 8, 9, 27]
  refine am <| wlv Z (aT rfl rfl ⟨by omega, by omega⟩) fun a Z => wlm Z rfl fun a Z => ab ?_
  replace Y : St No w0 [bld 131 w6.heap.size (pt w6.heap.size) v6 (hexs ((sealH key (accC n d)).take (k + 1)))] w10 := by rw [show hexs ((sealH key (accC n d)).take (k + 1)) = ((hexs ((sealH key (accC n d)).take k)) ++ [hexD (((sealH key (accC n d)).getD k 0).toNat / 16)]) ++ [hexD (((sealH key (accC n d)).getD k 0).toNat % 16)] from by rw [take_one (by rw [cN]; omega), mG]]; exact Y
  refine ⟨_, ?_, k + 1, (pt w6.heap.size), v6, rfl, (by omega), (.inr rfl), (fun _ => rfl), Z.pick [6, 7, 8, 9, 27], Y.select [0] (by decide)⟩
  omega
 rw [hc4] at Z
 try simp only [qz] at hc4
 have hke : k = 8 := by omega
 subst hke
 obtain rfl := hak (by decide)
 refine aP ?_
 refine hK9 _ _ ?_
 refine aa fun K16 hK16 => aV (R := fun u e' => u = sv (hexs ((sealH key (accC n d)).take 8)) ∧ e' = blk w6.heap.size [pt w6.heap.size, v] 131) 0 Z Y rfl (by decide) Tryz.call79 rfl (fun h => (eL 131 w6.heap.size _ _ _ (by intro h; have := congrArg List.length h; rw [fg, List.length_take, cN] at this; simp at this) h).mono fun u w ⟨h1, h2⟩ => ⟨_, ⟨h1, rfl⟩, h2⟩) ?_
 clear Z Y
 rintro a w11 _ _ ⟨rfl, rfl⟩ Z Y
 replace Y : St No w0 [blk w6.heap.size [pt w6.heap.size, v] 131] w11 := Y
 refine wla Z rfl fun a Z => wla Z rfl fun a Z => ab (hK16 _ _ ?_)
 refine aw ?_
 refine ao Z Tryz.results31 (ah rfl (ah rfl ag)) ?_
 exact ⟨by simp only [retv]; rw [if_pos (by unfold accOk; simp [hb2, hc3]; omega)]; rfl, Y.ext⟩
end Go.Proofs.YtmmfieceinmloaaGreatDoor
