/- Texts joined: LgI, LgJ, LgK, Laid, Door, OpenL, LawF. -/
import Derived.Test.YtddfkkdanpmnaaaDoorPFD
import Derived.Test.YtddfkkdanpmnaaaDoorPFA
import Derived.LaidMore
import Derived.OpenShut
import Derived.Stop.Joined
import Derived.SevenTiedAt
import Derived.ChangeMaps5
import Derived.Test.YtddfkkdanpmnaaaDoorRows
namespace Go.Proofs.YtddfkkdanpmnaaaDoor
open Go.RowKit Go.PW
set_option linter.unusedVariables false
set_option linter.unusedSimpArgs false
set_option maxRecDepth 4000
theorem gz (o : Int) (lv : Value) (l : List Rec) (w0 : World) (hlv : SlAt w0 lv 5 (l.map Rec.cells)) (hk0 : (blk 0 (kOf.map wv) 161).ok w0) :
  Ret Tryd.prog 27 #[.agg #[iv o, lv]] w0 fun v w => v = .tuple #[sv (headB o l), iv (headE o l)] ∧ Ext No w0 w := by
 refine aB Tryd.func27 rfl Tryd.ntmps27 (lb rfl) fun a Z => ?_
 replace Z : Fr 15 [(0, _)] [] a := Z
 replace Y : St No w0 [] w0 := St.init w0
 refine aa fun K1 hK1 => bo Z Y (by decide) rfl (cs := [iv o, lv]) rfl ?_
 clear Z Y
 intro a w1 Z Y
 refine wla Z rfl fun a Z => wla Z rfl fun a Z => ab (hK1 _ _ <| aa fun K2 hK2 => ?_)
 refine wlv Z (az (Y.get (k := 0) rfl) rfl (Tryd.isAgg25 _) (Tryd.sizeOf25 _)) fun a Z => ?_
 rcases Bool.eq_false_or_eq_true (logOk o l) with hb1 | hb1
 ·try simp only [qz] at hb1
  have hlo : logOk o l = true := hb1
  have hll : l.length ≤ 60 := bX hlo
  refine aW Z Y (by decide) Tryd.call62 rfl (eu o lv l _ (Y.arg hlv) hlo) ?_
  clear Z Y
  intro a w2 x3 hp Z Y
  revert x3 hp Z Y; rintro v2 hp Z Y
  clear hp
  replace Y : St No w0 [own v2 9 1 ((codesB l).map fun s => [sv s]), blk w0.heap.size [iv o, lv] 25] w2 := Y
  refine wlm Z rfl fun a Z => wlv Z (ak rfl rfl) fun a Z => wlv Z (ak rfl rfl) fun a Z => wla Z rfl fun a Z => wla Z rfl fun a Z => ab (hK2 _ _ ?_)
  replace Z : Fr 15 [(2, _), (3, _), (4, _), (5, _)] [] a := Z.pick [2, 3, 4, 5]
  replace Y : St No w0 [_] w2 := Y.mask [true, false]
  refine ag fun K3 hK3 => aa fun K4 hK4 => wlm Z rfl fun a Z => wlv Z ((br rfl).asb (b' := false) rfl) fun a Z => ab (hK4 _ _ <| aK Z rfl ?_)
  refine au <| hK3 _ _ <| aa fun K5 hK5 => wlm Z rfl fun a Z => ar Z Y (by decide) Tryd.call63 rfl (dE v2 (codesB l) _ (Y.ownAt (i := 0) rfl) (by rw [fN]; omega) (fun k hk => Nat.le_trans (fi l _ (bu hk)) (by decide)) (Y.keepb hk0)) ?_
  clear Z Y
  intro a w3 Z Y
  refine wla Z rfl fun a Z => wla Z rfl fun a Z => ab (hK5 _ _ ?_)
  replace Z : Fr 15 [(2, _), (3, _)] [] a := Z.pick [2, 3]
  replace Y : St No w0 [] w3 := Y.mask [false]
  refine aq ?_
  refine al Z Tryd.results27 (ac rfl (ac rfl ae)) ?_
  exact ⟨by simp only [retv]; unfold headB headE; rw [if_pos hlo, if_pos hlo, dB (c8 hlo)], Y.ext⟩
 try simp only [qz] at hb1
 have hlo : logOk o l = false := hb1
 have hll : l.length ≤ l.length := Nat.le_refl _
 refine ar Z Y (by decide) Tryd.call62 rfl (lE o lv l _ (Y.arg hlv) hlo) ?_
 clear Z Y
 intro a w4 Z Y
 refine wlm Z rfl fun a Z => wlv Z (ak rfl rfl) fun a Z => wlv Z (ak rfl rfl) fun a Z => wla Z rfl fun a Z => wla Z rfl fun a Z => ab (hK2 _ _ ?_)
 replace Z : Fr 15 [(2, _), (3, _), (4, _), (5, _)] [] a := Z.pick [2, 3, 4, 5]
 replace Y : St No w0 [] w4 := Y.mask [false]
 refine ag fun K6 hK6 => aa fun K7 hK7 => wlm Z rfl fun a Z => wlv Z ((br rfl).asb (b' := true) rfl) fun a Z => ab (hK7 _ _ <| aI Z rfl ?_)
 refine aa fun K8 hK8 => wla Z rfl fun a Z => wla Z rfl fun a Z => ab (hK8 _ _ <| aq ?_)
 refine al Z Tryd.results27 (ac rfl (ac rfl ae)) ?_
 exact ⟨by simp only [retv]; unfold headB headE; rw [hlo]; rfl, Y.ext⟩
theorem mG (key : By) (o : Int) (lv : Value) (l : List Rec) (w0 : World) (hlv : SlAt w0 lv 5 (l.map Rec.cells)) (hk0 : (blk 0 (kOf.map wv) 161).ok w0) :
  Ret Tryd.prog 36 #[sv key, .agg #[iv o, lv]] w0 fun v w => v = .tuple #[sv (signB key o l), iv (signE key o l)] ∧ Ext No w0 w := by
 refine aB Tryd.func36 rfl Tryd.ntmps36 (lb rfl) fun a Z => ?_
 replace Z : Fr 28 [(0, _), (1, _)] [] a := Z
 replace Y : St No w0 [] w0 := St.init w0
 refine aa fun K1 hK1 => bo Z Y (by decide) rfl (cs := [iv o, lv]) rfl ?_
 clear Z Y
 intro a w1 Z Y
 refine wla Z rfl fun a Z => wla Z rfl fun a Z => ab (hK1 _ _ <| aa fun K2 hK2 => ?_)
 refine wlv Z (az (Y.get (k := 0) rfl) rfl (Tryd.isAgg25 _) (Tryd.sizeOf25 _)) fun a Z => ar Z Y (by decide) Tryd.call27 rfl (gz o lv l _ (Y.arg hlv) (Y.keepb hk0)) ?_
 clear Z Y
 intro a w2 Z Y
 refine wlm Z rfl fun a Z => wlv Z (ak rfl rfl) fun a Z => wlv Z (ak rfl rfl) fun a Z => wla Z rfl fun a Z => wla Z rfl fun a Z => ab (hK2 _ _ ?_)
 replace Z : Fr 28 [(0, _), (3, _), (4, _), (5, _), (6, _), (7, _)] [] a := Z.pick [0, 3, 4, 5, 6, 7]
 refine ag fun K3 hK3 => aa fun K4 hK4 => wlm Z rfl fun a Z => wlv Z (v_ne rfl rfl) fun a Z => wlm Z rfl fun a Z => ?_
 rcases Bool.eq_false_or_eq_true (!decide (headE o l = 0)) with hb1 | hb1
 ·rw [hb1] at Z
  try simp only [qz] at hb1
  have hlo : logOk o l = false := by
   cases h : logOk o l with
   | false => rfl
   | true => exact absurd (ep.2 h) (by omega)
  have hsg : signOk key o l = false := by unfold signOk; rw [hlo]; rfl
  refine wln Z fun a Z => wln Z fun a Z => wln Z fun a Z => wlv Z (aA rfl rfl) fun a Z => ab (hK4 _ _ ?_)
  replace Z : Fr 28 [(0, _), (3, _), (4, _), (5, _), (6, _), (19, _)] [] a := Z.pick [0, 3, 4, 5, 6, 19]
  refine aI Z rfl ?_
  refine aa fun K5 hK5 => wla Z rfl fun a Z => wla Z rfl fun a Z => ab (hK5 _ _ <| aq ?_)
  refine al Z Tryd.results36 (ac rfl (ac rfl ae)) ?_
  exact ⟨by simp only [retv]; unfold signB signE; rw [hsg]; rfl, Y.ext⟩
 rw [hb1] at Z
 try simp only [qz] at hb1
 have hlo : logOk o l = true := ep.1 (by omega)
 have hob := f6 hlo
 have hlb := bX hlo
 have hs0 : small o := by unfold small; omega
 have hs1 : small (l.length : Int) := by unfold small; omega
 have hr32 : (headB o l).length = 32 := by rw [ej hlo]; exact bZ bJ _
 refine wly Z (ai rfl) fun a Z => wly Z (bl rfl rfl (Tryd.runUnderlying9 _)) fun a Z => wly Z (v_ne rfl rfl) fun a Z => wlv Z (aw rfl rfl) fun a Z => ab (hK4 _ _ ?_)
 replace Z : Fr 28 [(0, _), (3, _), (4, _), (5, _), (6, _), (19, _)] [] a := Z.pick [0, 3, 4, 5, 6, 19]
 refine ay Z rfl (fun hc2 => ?_) (fun hc2 => ?_)
 ·rw [hc2] at Z
  try simp only [qz] at hc2
  have hsg : signOk key o l = false := by unfold signOk; rw [hlo, decide_eq_false (by omega)]; rfl
  refine aa fun K6 hK6 => wla Z rfl fun a Z => wla Z rfl fun a Z => ab (hK6 _ _ <| aq ?_)
  refine al Z Tryd.results36 (ac rfl (ac rfl ae)) ?_
  exact ⟨by simp only [retv]; unfold signB signE; rw [hsg]; rfl, Y.ext⟩
 rw [hc2] at Z
 try simp only [qz] at hc2
 have hsg : signOk key o l = true := by unfold signOk; rw [hlo, decide_eq_true (by omega)]; rfl
 refine au <| hK3 _ _ <| aa fun K7 hK7 => wlm Z rfl fun a Z => wlv Z (am (v := pt w0.heap.size) rfl (by kernel_rfl)) fun a Z => wlv Z (ah (Y.get (k := 0) rfl) rfl (Tryd.isAgg3 _) rfl) fun a Z => wlv Z (am (v := .pointer (some ⟨w0.heap.size, 1, none⟩)) rfl (by kernel_rfl)) fun a Z => ?_
 refine wlv Z (ah (Y.get (k := 0) rfl) rfl (Tryd.isAgg23 _) rfl) fun a Z => wlv Z ((aG (sT := 23) (Y.arg hlv) rfl rfl (Tryd.runUnderlying23 _)).asi (m' := (l.length : Int)) (by rw [List.length_map])) fun a Z => wlm Z rfl fun a Z => ar Z Y (by decide) Tryd.call71 rfl (lh key o (l.length : Int) (headB o l) _ hs0 hs1 (by omega) (by omega) (Y.keepb hk0)) ?_
 clear Z Y
 intro a w3 Z Y
 refine wla Z rfl fun a Z => wla Z rfl fun a Z => ab (hK7 _ _ ?_)
 replace Z : Fr 28 [(4, _), (5, _)] [] a := Z.pick [4, 5]
 replace Y : St No w0 [] w3 := Y.mask [false]
 refine aq ?_
 refine al Z Tryd.results36 (ac rfl (ac rfl ae)) ?_
 exact ⟨by simp only [retv]; unfold signB signE; rw [if_pos hsg, if_pos hsg, ej hlo], Y.ext⟩
theorem g4 {n a b : Int} (h : inB n a b = true) : a ≤ n ∧ n ≤ b := by simpa [inB] using h
set_option maxHeartbeats 4000000 in
theorem dV (key : By) (owner n : Int) (root t : By) (w0 : World) (hk0 : (blk 0 (kOf.map wv) 161).ok w0) :
  Ret Tryd.prog 37 #[sv key, iv owner, iv n, sv root, sv t] w0 fun v w => v = .bool (genR sha key owner n root t) ∧ Ext No w0 w := by
 refine aB Tryd.func37 rfl Tryd.ntmps37 (lb rfl) fun a Z => ?_
 replace Z : Fr 38 [(0, _), (1, _), (2, _), (3, _), (4, _)] [] a := Z
 replace Y : St No w0 [] w0 := St.init w0
 refine aa fun K1 hK1 => wla Z rfl fun a Z => ab (hK1 _ _ <| aa fun K2 hK2 => ?_)
 refine wlm Z rfl fun a Z => ar Z Y (by decide) Tryd.call46 rfl (c9 owner 0 99 _) ?_
 clear Z Y
 intro a w1 Z Y
 refine wlm Z rfl fun a Z => ?_
 rcases Bool.eq_false_or_eq_true (inB owner 0 99) with hb1 | hb1
 ·rw [hb1] at Z
  try simp only [qz] at hb1
  have hs0 : small owner := by have h9 := g4 hb1; unfold small; omega
  refine wly Z (ai rfl) fun a Z => aT Z Y (by decide) rfl (by decide) rfl Tryd.call46 rfl (c9 n 0 60 _) ?_
  clear Z Y
  intro a w2 Z Y
  refine wlv Z (aA rfl rfl) fun a Z => wla Z rfl fun a Z => ab (hK2 _ _ ?_)
  replace Z : Fr 38 [(0, _), (1, _), (2, _), (3, _), (4, _), (10, _), (11, _)] [] a := Z.pick [0, 1, 2, 3, 4, 10, 11]
  refine aa fun K3 hK3 => wlm Z rfl fun a Z => wlm Z rfl fun a Z => ?_
  rcases Bool.eq_false_or_eq_true (inB n 0 60) with hb2 | hb2
  ·rw [hb2] at Z
   try simp only [qz] at hb2
   have hs1 : small n := by have h9 := g4 hb2; unfold small; omega
   refine wly Z (ai rfl) fun a Z => wly Z (bl rfl rfl (Tryd.runUnderlying9 _)) fun a Z => wly Z (v_eq rfl rfl) fun a Z => wlv Z (aA rfl rfl) fun a Z => wlm Z rfl fun a Z => ?_
   rcases Bool.eq_false_or_eq_true (decide ((key.length : Int) = 32)) with hb3 | hb3
   ·rw [hb3] at Z
    try simp only [qz] at hb3
    refine wly Z (ai rfl) fun a Z => wly Z (bl rfl rfl (Tryd.runUnderlying9 _)) fun a Z => wly Z (v_eq rfl rfl) fun a Z => wlv Z (aA rfl rfl) fun a Z => wlm Z rfl fun a Z => ?_
    rcases Bool.eq_false_or_eq_true (decide ((root.length : Int) = 32)) with hb4 | hb4
    ·rw [hb4] at Z
     try simp only [qz] at hb4
     refine wly Z (ai rfl) fun a Z => wly Z (ai rfl) fun a Z => wly Z (ai rfl) fun a Z => wly Z (ai rfl) fun a Z => wly Z (ai rfl) fun a Z => aT Z Y (by decide) rfl (by decide) rfl Tryd.call71 rfl (lh key owner n root _ hs0 hs1 (by omega) (by omega) (Y.keepb hk0)) ?_
     clear Z Y
     intro a w3 Z Y
     refine wly Z (ea rfl rfl) fun a Z => wlv Z (aA rfl rfl) fun a Z => wla Z rfl fun a Z => ab (hK3 _ _ ?_)
     replace Z : Fr 38 [(10, _)] [] a := Z.pick [10]
     refine aq ?_
     refine al Z Tryd.results37 (ac rfl ae) ?_
     refine ⟨?_, Y.ext⟩
     simp only [retv]
     refine congrArg Value.bool ?_
     unfold genR; rw [decide_eq_true (by omega : key.length = 32), decide_eq_true (by omega : root.length = 32), hb1, hb2]; rfl
    rw [hb4] at Z
    try simp only [qz] at hb4
    refine wln Z fun a Z => wln Z fun a Z => wln Z fun a Z => wln Z fun a Z => wln Z fun a Z => wln Z fun a Z => wln Z fun a Z => ?_
    refine wlv Z (aw rfl rfl) fun a Z => wla Z rfl fun a Z => ab (hK3 _ _ ?_)
    replace Z : Fr 38 [(10, _)] [] a := Z.pick [10]
    refine aq ?_
    refine al Z Tryd.results37 (ac rfl ae) ?_
    refine ⟨?_, Y.ext⟩
    simp only [retv]
    refine congrArg Value.bool ?_
    rw [eq_comm, Bool.eq_false_iff]; intro h; simp only [genR, Bool.and_eq_true, decide_eq_true_eq] at h
    first | (obtain ⟨⟨⟨⟨h1, h2⟩, h3⟩, h4⟩, h5⟩ := h; first | omega | (rw [h2] at hb4; cases hb4) | (rw [h3] at hb4; cases hb4))
   rw [hb3] at Z
   try simp only [qz] at hb3
   refine wln Z fun a Z => wln Z fun a Z => wln Z fun a Z => wlv Z (aw rfl rfl) fun a Z => wlm Z rfl fun a Z => wln Z fun a Z => wln Z fun a Z => wln Z fun a Z => ?_
   refine wln Z fun a Z => wln Z fun a Z => wln Z fun a Z => wln Z fun a Z => wlv Z (aw rfl rfl) fun a Z => wla Z rfl fun a Z => ab (hK3 _ _ ?_)
   replace Z : Fr 38 [(10, _)] [] a := Z.pick [10]
   refine aq ?_
   refine al Z Tryd.results37 (ac rfl ae) ?_
   refine ⟨?_, Y.ext⟩
   simp only [retv]
   refine congrArg Value.bool ?_
   rw [eq_comm, Bool.eq_false_iff]; intro h; simp only [genR, Bool.and_eq_true, decide_eq_true_eq] at h
   first | (obtain ⟨⟨⟨⟨h1, h2⟩, h3⟩, h4⟩, h5⟩ := h; first | omega | (rw [h2] at hb3; cases hb3) | (rw [h3] at hb3; cases hb3))
  rw [hb2] at Z
  try simp only [qz] at hb2
  refine wln Z fun a Z => wln Z fun a Z => wln Z fun a Z => wlv Z (aw rfl rfl) fun a Z => wlm Z rfl fun a Z => wln Z fun a Z => wln Z fun a Z => wln Z fun a Z => ?_
  refine wlv Z (aw rfl rfl) fun a Z => wlm Z rfl fun a Z => wln Z fun a Z => wln Z fun a Z => wln Z fun a Z => wln Z fun a Z => wln Z fun a Z => wln Z fun a Z => ?_
  refine wln Z fun a Z => wlv Z (aw rfl rfl) fun a Z => wla Z rfl fun a Z => ab (hK3 _ _ ?_)
  replace Z : Fr 38 [(10, _)] [] a := Z.pick [10]
  refine aq ?_
  refine al Z Tryd.results37 (ac rfl ae) ?_
  refine ⟨?_, Y.ext⟩
  simp only [retv]
  refine congrArg Value.bool ?_
  rw [eq_comm, Bool.eq_false_iff]; intro h; simp only [genR, Bool.and_eq_true, decide_eq_true_eq] at h
  first | (obtain ⟨⟨⟨⟨h1, h2⟩, h3⟩, h4⟩, h5⟩ := h; first | omega | (rw [h2] at hb2; cases hb2) | (rw [h3] at hb2; cases hb2))
 rw [hb1] at Z
 try simp only [qz] at hb1
 refine wln Z fun a Z => wln Z fun a Z => wlv Z (aw rfl rfl) fun a Z => wla Z rfl fun a Z => ab (hK2 _ _ ?_)
 replace Z : Fr 38 [(0, _), (1, _), (2, _), (3, _), (4, _), (10, _), (11, _)] [] a := Z.pick [0, 1, 2, 3, 4, 10, 11]
 refine aa fun K4 hK4 => wlm Z rfl fun a Z => wlm Z rfl fun a Z => wln Z fun a Z => wln Z fun a Z => wln Z fun a Z => wlv Z (aw rfl rfl) fun a Z => wlm Z rfl fun a Z => wln Z fun a Z => ?_
 refine wln Z fun a Z => wln Z fun a Z => wlv Z (aw rfl rfl) fun a Z => wlm Z rfl fun a Z => wln Z fun a Z => wln Z fun a Z => wln Z fun a Z => wln Z fun a Z => ?_
 refine wln Z fun a Z => wln Z fun a Z => wln Z fun a Z => wlv Z (aw rfl rfl) fun a Z => wla Z rfl fun a Z => ab (hK4 _ _ ?_)
 replace Z : Fr 38 [(10, _)] [] a := Z.pick [10]
 refine aq ?_
 refine al Z Tryd.results37 (ac rfl ae) ?_
 refine ⟨?_, Y.ext⟩
 simp only [retv]
 refine congrArg Value.bool ?_
 rw [eq_comm, Bool.eq_false_iff]; intro h; simp only [genR, Bool.and_eq_true, decide_eq_true_eq] at h
 first | (obtain ⟨⟨⟨⟨h1, h2⟩, h3⟩, h4⟩, h5⟩ := h; first | omega | (rw [h2] at hb1; cases hb1) | (rw [h3] at hb1; cases hb1))
theorem iA (root : By) (n i : Int) (x : Rec) (pv_ : Value) (ps : List By) (w0 : World) (hpv : SlAt w0 pv_ 1 (ps.map fun s => [sv s])) (hpl : ps.length ≤ 1000) (hn : i64 n) (hk0 : (blk 0 (kOf.map wv) 161).ok w0) :
  Ret Tryd.prog 29 #[sv root, iv n, iv i, .agg #[iv x.t, iv x.kind, iv x.a, iv x.b, sv x.text], pv_] w0 fun v w => v = .bool (checkB root n i x ps) ∧ Ext No w0 w := by
 refine aB Tryd.func29 rfl Tryd.ntmps29 (lb rfl) fun a Z => ?_
 replace Z : Fr 28 [(0, _), (1, _), (2, _), (3, _), (4, _)] [] a := Z
 replace Y : St No w0 [] w0 := St.init w0
 refine aa fun K1 hK1 => bo Z Y (by decide) rfl (cs := [iv x.t, iv x.kind, iv x.a, iv x.b, sv x.text]) rfl ?_
 clear Z Y
 intro a w1 Z Y
 refine wla Z rfl fun a Z => ab (hK1 _ _ <| aa fun K2 hK2 => ?_)
 refine wlv Z (az (Y.get (k := 0) rfl) rfl (Tryd.isAgg27 _) (Tryd.sizeOf27 _)) fun a Z => ar Z Y (by decide) Tryd.call22 rfl (gI x _) ?_
 clear Z Y
 intro a w2 Z Y
 refine wlm Z rfl fun a Z => wlv Z (ak rfl rfl) fun a Z => wlv Z (ak rfl rfl) fun a Z => wla Z rfl fun a Z => wla Z rfl fun a Z => ab (hK2 _ _ ?_)
 replace Z : Fr 28 [(0, _), (1, _), (2, _), (4, _), (10, _), (11, _), (12, _)] [] a := Z.pick [0, 1, 2, 4, 10, 11, 12]
 replace Y : St No w0 [] w2 := Y.mask [false]
 refine aa fun K3 hK3 => wlm Z rfl fun a Z => wlv Z (v_eq rfl rfl) fun a Z => wlm Z rfl fun a Z => ?_
 rcases Bool.eq_false_or_eq_true (decide (eE x = 0)) with hb1 | hb1
 ·rw [hb1] at Z
  try simp only [qz] at hb1
  have hxo : x.ok = true := by unfold eE at hb1; cases h : x.ok <;> simp_all
  refine wly Z (ai rfl) fun a Z => wly Z (ai rfl) fun a Z => wly Z (ai rfl) fun a Z => wly Z (ai rfl) fun a Z => wly Z (ai rfl) fun a Z => aT Z Y (by decide) rfl (by decide) rfl Tryd.call66 rfl (j7 root (eB x) n i pv_ ps _ (Y.arg hpv) (by omega) (by have := ly x; omega) (by unfold i64 at hn; omega) (Y.keepb hk0)) ?_
  clear Z Y
  intro a w3 Z Y
  refine wlv Z (aA rfl rfl) fun a Z => wla Z rfl fun a Z => ab (hK3 _ _ ?_)
  replace Z : Fr 28 [(10, _)] [] a := Z.pick [10]
  refine aq ?_
  refine al Z Tryd.results29 (ac rfl ae) ?_
  exact ⟨by simp only [retv]; unfold checkB; rw [hxo, show eB x = x.enc from if_pos hxo]; rfl, Y.ext⟩
 rw [hb1] at Z
 try simp only [qz] at hb1
 have hxo : x.ok = false := by unfold eE at hb1; cases h : x.ok <;> simp_all
 refine wln Z fun a Z => wln Z fun a Z => wln Z fun a Z => wln Z fun a Z => wln Z fun a Z => wln Z fun a Z => wlv Z (aw rfl rfl) fun a Z => wla Z rfl fun a Z => ?_
 refine ab (hK3 _ _ ?_)
 replace Z : Fr 28 [(10, _)] [] a := Z.pick [10]
 refine aq ?_
 refine al Z Tryd.results29 (ac rfl ae) ?_
 exact ⟨by simp only [retv]; unfold checkB; rw [hxo]; rfl, Y.ext⟩
theorem gj (old : By) (n : Int) (root : By) (m : Int) (pv_ : Value) (ps : List By) (w0 : World) (hpv : SlAt w0 pv_ 1 (ps.map fun s => [sv s])) (hpl : ps.length ≤ 1000) (hm : i64 m) (hk0 : (blk 0 (kOf.map wv) 161).ok w0) :
  Ret Tryd.prog 43 #[sv old, iv n, sv root, iv m, pv_] w0 fun v w => v = .bool (bf sha old n root m ps) ∧ Ext No w0 w := by
 refine aB Tryd.func43 rfl Tryd.ntmps43 (lb rfl) fun a Z => ?_
 replace Z : Fr 17 [(0, _), (1, _), (2, _), (3, _), (4, _)] [] a := Z
 replace Y : St No w0 [] w0 := St.init w0
 refine aa fun K1 hK1 => wla Z rfl fun a Z => ab (hK1 _ _ <| aa fun K2 hK2 => ?_)
 refine wlm Z rfl fun a Z => wlm Z rfl fun a Z => wlm Z rfl fun a Z => wlm Z rfl fun a Z => wlm Z rfl fun a Z => ar Z Y (by decide) Tryd.call73 rfl (i9 old root n m pv_ ps _ (Y.arg hpv) (by omega) (by unfold i64 at hm; omega) (Y.keepb hk0)) ?_
 clear Z Y
 intro a w1 Z Y
 refine wla Z rfl fun a Z => ab (hK2 _ _ ?_)
 replace Z : Fr 17 [(10, _)] [] a := Z.pick [10]
 refine aq ?_
 refine al Z Tryd.results43 (ac rfl ae) ?_
 exact ⟨by rfl, Y.ext⟩
theorem jY {o : Int} {l : List Rec} {v : Value} {i : Nat} {w0 : World} (hlo : logOk o l = true) (hv : SlAt w0 v 1 ((codesB l).map fun s => [sv s])) (hi : i < l.length) (hk0 : (blk 0 (kOf.map wv) 161).ok w0) : Ret Tryd.prog 65 #[v, iv (i : Int)] w0 (MemR w0 (fun v : Value => .tuple #[v, iv 0]) (fun v => [own v 9 1 ((proofH sha (codesR l) i).map fun s => [sv s])]) (fun _ => True)) := by
 rw [dB (c8 hlo)] at hv
 have h60 := bX hlo
 exact kK v (codesR l) i w0 hv (by rw [dC]; exact hi) (by rw [dC]; omega) (fun s h => Nat.le_trans (fo (c8 hlo) s h) (by decide)) hk0
theorem fS (o : Int) (lv : Value) (l : List Rec) (i : Nat) (w0 : World) (hlv : SlAt w0 lv 5 (l.map Rec.cells)) (hlo : logOk o l = true) (hi : i < l.length) (hk0 : (blk 0 (kOf.map wv) 161).ok w0) :
  Ret Tryd.prog 64 #[.agg #[iv o, lv], iv (i : Int), .func (.func 65) #[] #[]] w0 (MemR w0 (fun v : Value => .tuple #[v, iv 0]) (fun v => [own v 9 1 ((proofH sha (codesR l) i).map fun s => [sv s])]) (fun _ => True)) := by
 have hll := bX hlo
 refine aB Tryd.func64 rfl Tryd.ntmps64 (lb rfl) fun a Z => ?_
 replace Z : Fr 29 [(0, _), (1, _), (2, _)] [] a := Z
 replace Y : St No w0 [] w0 := St.init w0
 refine aa fun K1 hK1 => bo Z Y (by decide) rfl (cs := [iv o, lv]) rfl ?_
 clear Z Y
 intro a w1 Z Y
 refine wla Z rfl fun a Z => wla Z rfl fun a Z => ab (hK1 _ _ <| aa fun K2 hK2 => ?_)
 refine wlv Z (az (Y.get (k := 0) rfl) rfl (Tryd.isAgg25 _) (Tryd.sizeOf25 _)) fun a Z => aW Z Y (by decide) Tryd.call62 rfl (eu o lv l _ (Y.arg hlv) hlo) ?_
 clear Z Y
 intro a w2 x2 hp Z Y
 revert x2 hp Z Y; rintro v1 hp Z Y
 clear hp
 replace Y : St No w0 [own v1 9 1 ((codesB l).map fun s => [sv s]), blk w0.heap.size [iv o, lv] 25] w2 := Y
 refine wlm Z rfl fun a Z => wlv Z (ak rfl rfl) fun a Z => wlv Z (ak rfl rfl) fun a Z => wla Z rfl fun a Z => wla Z rfl fun a Z => ab (hK2 _ _ ?_)
 replace Z : Fr 29 [(1, _), (2, _), (6, _), (7, _), (8, _), (9, _)] [] a := Z.pick [1, 2, 6, 7, 8, 9]
 replace Y : St No w0 [_] w2 := Y.mask [true, false]
 refine ag fun K3 hK3 => aa fun K4 hK4 => wlm Z rfl fun a Z => wlv Z ((br rfl).asb (b' := false) rfl) fun a Z => ab (hK4 _ _ <| aK Z rfl ?_)
 refine au <| hK3 _ _ <| aa fun K5 hK5 => wlm Z rfl fun a Z => wlm Z rfl fun a Z => wlm Z rfl fun a Z => gi Z Y (by decide) rfl Tryd.call65 rfl (jY hlo (Y.ownAt (i := 0) rfl) hi (Y.keepb hk0)) ?_
 clear Z Y
 intro a w3 x4 hp Z Y
 revert x4 hp Z Y; rintro v3 - Z Y
 replace Y : St No w0 [own v3 9 1 ((proofH sha (codesR l) i).map fun s => [sv s]), own v1 9 1 ((codesB l).map fun s => [sv s])] w3 := Y
 refine wlm Z rfl fun a Z => wlv Z (ak rfl rfl) fun a Z => wlv Z (ak rfl rfl) fun a Z => wla Z rfl fun a Z => wla Z rfl fun a Z => ab (hK5 _ _ ?_)
 replace Z : Fr 29 [(6, _), (7, _), (10, _), (11, _)] [] a := Z.pick [6, 7, 10, 11]
 replace Y : St No w0 [_] w3 := Y.mask [true, false]
 refine ag fun K6 hK6 => aa fun K7 hK7 => wlm Z rfl fun a Z => wlv Z ((v_ne rfl rfl).asb (b' := false) rfl) fun a Z => ab (hK7 _ _ <| aK Z rfl ?_)
 refine au <| hK6 _ _ <| aa fun K8 hK8 => wlm Z rfl fun a Z => wla Z rfl fun a Z => wla Z rfl fun a Z => ab (hK8 _ _ <| aq ?_)
 refine al Z Tryd.results64 (ac rfl (ac rfl ae)) ?_
 exact ⟨v3, rfl, trivial, Y.ext, St.out (E := [own v3 9 1 ((proofH sha (codesR l) i).map fun s => [sv s])]) (H := []) (Y.select [0] (by decide))⟩
theorem jf (o : Int) (lv : Value) (l : List Rec) (i : Nat) (w0 : World) (hlv : SlAt w0 lv 5 (l.map Rec.cells)) (hll : l.length ≤ 1000) (hlo : logOk o l = true) (hi : i < l.length) (hk0 : (blk 0 (kOf.map wv) 161).ok w0) :
  Ret Tryd.prog 28 #[.agg #[iv o, lv], iv (i : Int)] w0 (MemR w0 (fun v : Value => .tuple #[v, iv 0]) (fun v => [own v 9 1 ((proofH sha (codesR l) i).map fun s => [sv s])]) (fun _ => True)) := by
 refine aB Tryd.func28 rfl Tryd.ntmps28 (lb rfl) fun a Z => ?_
 replace Z : Fr 11 [(0, _), (1, _)] [] a := Z
 replace Y : St No w0 [] w0 := St.init w0
 refine aa fun K1 hK1 => bo Z Y (by decide) rfl (cs := [iv o, lv]) rfl ?_
 clear Z Y
 intro a w1 Z Y
 refine wla Z rfl fun a Z => wla Z rfl fun a Z => ab (hK1 _ _ <| aa fun K2 hK2 => ?_)
 refine wlv Z (az (Y.get (k := 0) rfl) rfl (Tryd.isAgg25 _) (Tryd.sizeOf25 _)) fun a Z => wlm Z rfl fun a Z => aW Z Y (by decide) Tryd.call64 rfl (fS o lv l i _ (Y.arg hlv) hlo hi (Y.keepb hk0)) ?_
 clear Z Y
 intro a w2 x2 hp Z Y
 revert x2 hp Z Y; rintro v1 hp Z Y
 clear hp
 replace Y : St No w0 [own v1 9 1 ((proofH sha (codesR l) i).map fun s => [sv s]), blk w0.heap.size [iv o, lv] 25] w2 := Y
 refine wlv Z (ak rfl rfl) fun a Z => wlv Z (ak rfl rfl) fun a Z => wla Z rfl fun a Z => wla Z rfl fun a Z => ab (hK2 _ _ ?_)
 replace Z : Fr 11 [(4, _), (5, _)] [] a := Z.pick [4, 5]
 replace Y : St No w0 [_] w2 := Y.mask [true, false]
 refine aq ?_
 refine al Z Tryd.results28 (ac rfl (ac rfl ae)) ?_
 exact ⟨v1, rfl, trivial, Y.ext, St.out (E := [own v1 9 1 ((proofH sha (codesR l) i).map fun s => [sv s])]) (H := []) (Y.select [0] (by decide))⟩
theorem l9 (lv : Value) (ls : List By) (i : Nat) (w0 : World) (hlv : SlAt w0 lv 1 (ls.map fun s => [sv s])) (hi : i ≤ ls.length) (hln : ls.length ≤ 1000) (hls : ∀ s ∈ ls, s.length ≤ 40000000) (hk0 : (blk 0 (kOf.map wv) 161).ok w0) :
  Ret Tryd.prog 72 #[lv, iv (i : Int)] w0 (MemR w0 (fun v : Value => .tuple #[v, iv 0]) (fun v => [own v 9 1 ((extH sha ls i).map fun s => [sv s])]) (fun _ => True)) := by
 by_cases h : i = 0
 ·subst h
  refine (kJ lv ls w0 hlv).mono ?_
  rintro v w ⟨rfl, hx⟩
  exact ⟨.slice none 0 0, rfl, trivial, hx, dM (gK _ _ _) (fun k hk => by cases hk)⟩
 ·have := ne lv ls i w0 hlv (by omega) hi hln hls hk0
  rw [extH, if_neg h]; exact this
theorem kf {o : Int} {l : List Rec} {v : Value} {i : Nat} {w0 : World} (hlo : logOk o l = true) (hv : SlAt w0 v 1 ((codesB l).map fun s => [sv s])) (hi : i ≤ l.length) (hk0 : (blk 0 (kOf.map wv) 161).ok w0) : Ret Tryd.prog 72 #[v, iv (i : Int)] w0 (MemR w0 (fun v : Value => .tuple #[v, iv 0]) (fun v => [own v 9 1 ((extH sha (codesR l) i).map fun s => [sv s])]) (fun _ => True)) := by
 rw [dB (c8 hlo)] at hv
 have h60 := bX hlo
 exact l9 v (codesR l) i w0 hv (by rw [dC]; exact hi) (by rw [dC]; omega) (fun s h => Nat.le_trans (fo (c8 hlo) s h) (by decide)) hk0
theorem fQ (o : Int) (lv : Value) (l : List Rec) (i : Nat) (w0 : World) (hlv : SlAt w0 lv 5 (l.map Rec.cells)) (hlo : logOk o l = true) (hi : i ≤ l.length) (hk0 : (blk 0 (kOf.map wv) 161).ok w0) :
  Ret Tryd.prog 64 #[.agg #[iv o, lv], iv (i : Int), .func (.func 72) #[] #[]] w0 (MemR w0 (fun v : Value => .tuple #[v, iv 0]) (fun v => [own v 9 1 ((extH sha (codesR l) i).map fun s => [sv s])]) (fun _ => True)) := by
 have hll := bX hlo
 refine aB Tryd.func64 rfl Tryd.ntmps64 (lb rfl) fun a Z => ?_
 replace Z : Fr 29 [(0, _), (1, _), (2, _)] [] a := Z
 replace Y : St No w0 [] w0 := St.init w0
 refine aa fun K1 hK1 => bo Z Y (by decide) rfl (cs := [iv o, lv]) rfl ?_
 clear Z Y
 intro a w1 Z Y
 refine wla Z rfl fun a Z => wla Z rfl fun a Z => ab (hK1 _ _ <| aa fun K2 hK2 => ?_)
 refine wlv Z (az (Y.get (k := 0) rfl) rfl (Tryd.isAgg25 _) (Tryd.sizeOf25 _)) fun a Z => aW Z Y (by decide) Tryd.call62 rfl (eu o lv l _ (Y.arg hlv) hlo) ?_
 clear Z Y
 intro a w2 x2 hp Z Y
 revert x2 hp Z Y; rintro v1 hp Z Y
 clear hp
 replace Y : St No w0 [own v1 9 1 ((codesB l).map fun s => [sv s]), blk w0.heap.size [iv o, lv] 25] w2 := Y
 refine wlm Z rfl fun a Z => wlv Z (ak rfl rfl) fun a Z => wlv Z (ak rfl rfl) fun a Z => wla Z rfl fun a Z => wla Z rfl fun a Z => ab (hK2 _ _ ?_)
 replace Z : Fr 29 [(1, _), (2, _), (6, _), (7, _), (8, _), (9, _)] [] a := Z.pick [1, 2, 6, 7, 8, 9]
 replace Y : St No w0 [_] w2 := Y.mask [true, false]
 refine ag fun K3 hK3 => aa fun K4 hK4 => wlm Z rfl fun a Z => wlv Z ((br rfl).asb (b' := false) rfl) fun a Z => ab (hK4 _ _ <| aK Z rfl ?_)
 refine au <| hK3 _ _ <| aa fun K5 hK5 => wlm Z rfl fun a Z => wlm Z rfl fun a Z => wlm Z rfl fun a Z => gi Z Y (by decide) rfl Tryd.call72 rfl (kf hlo (Y.ownAt (i := 0) rfl) hi (Y.keepb hk0)) ?_
 clear Z Y
 intro a w3 x4 hp Z Y
 revert x4 hp Z Y; rintro v3 - Z Y
 replace Y : St No w0 [own v3 9 1 ((extH sha (codesR l) i).map fun s => [sv s]), own v1 9 1 ((codesB l).map fun s => [sv s])] w3 := Y
 refine wlm Z rfl fun a Z => wlv Z (ak rfl rfl) fun a Z => wlv Z (ak rfl rfl) fun a Z => wla Z rfl fun a Z => wla Z rfl fun a Z => ab (hK5 _ _ ?_)
 replace Z : Fr 29 [(6, _), (7, _), (10, _), (11, _)] [] a := Z.pick [6, 7, 10, 11]
 replace Y : St No w0 [_] w3 := Y.mask [true, false]
 refine ag fun K6 hK6 => aa fun K7 hK7 => wlm Z rfl fun a Z => wlv Z ((v_ne rfl rfl).asb (b' := false) rfl) fun a Z => ab (hK7 _ _ <| aK Z rfl ?_)
 refine au <| hK6 _ _ <| aa fun K8 hK8 => wlm Z rfl fun a Z => wla Z rfl fun a Z => wla Z rfl fun a Z => ab (hK8 _ _ <| aq ?_)
 refine al Z Tryd.results64 (ac rfl (ac rfl ae)) ?_
 exact ⟨v3, rfl, trivial, Y.ext, St.out (E := [own v3 9 1 ((extH sha (codesR l) i).map fun s => [sv s])]) (H := []) (Y.select [0] (by decide))⟩
theorem jl (o : Int) (lv : Value) (l : List Rec) (i : Nat) (w0 : World) (hlv : SlAt w0 lv 5 (l.map Rec.cells)) (hll : l.length ≤ 1000) (hlo : logOk o l = true) (hi : i ≤ l.length) (hk0 : (blk 0 (kOf.map wv) 161).ok w0) :
  Ret Tryd.prog 42 #[.agg #[iv o, lv], iv (i : Int)] w0 (MemR w0 (fun v : Value => .tuple #[v, iv 0]) (fun v => [own v 9 1 ((extH sha (codesR l) i).map fun s => [sv s])]) (fun _ => True)) := by
 refine aB Tryd.func42 rfl Tryd.ntmps42 (lb rfl) fun a Z => ?_
 replace Z : Fr 11 [(0, _), (1, _)] [] a := Z
 replace Y : St No w0 [] w0 := St.init w0
 refine aa fun K1 hK1 => bo Z Y (by decide) rfl (cs := [iv o, lv]) rfl ?_
 clear Z Y
 intro a w1 Z Y
 refine wla Z rfl fun a Z => wla Z rfl fun a Z => ab (hK1 _ _ <| aa fun K2 hK2 => ?_)
 refine wlv Z (az (Y.get (k := 0) rfl) rfl (Tryd.isAgg25 _) (Tryd.sizeOf25 _)) fun a Z => wlm Z rfl fun a Z => aW Z Y (by decide) Tryd.call64 rfl (fQ o lv l i _ (Y.arg hlv) hlo hi (Y.keepb hk0)) ?_
 clear Z Y
 intro a w2 x2 hp Z Y
 revert x2 hp Z Y; rintro v1 hp Z Y
 clear hp
 replace Y : St No w0 [own v1 9 1 ((extH sha (codesR l) i).map fun s => [sv s]), blk w0.heap.size [iv o, lv] 25] w2 := Y
 refine wlv Z (ak rfl rfl) fun a Z => wlv Z (ak rfl rfl) fun a Z => wla Z rfl fun a Z => wla Z rfl fun a Z => ab (hK2 _ _ ?_)
 replace Z : Fr 11 [(4, _), (5, _)] [] a := Z.pick [4, 5]
 replace Y : St No w0 [_] w2 := Y.mask [true, false]
 refine aq ?_
 refine al Z Tryd.results42 (ac rfl (ac rfl ae)) ?_
 exact ⟨v1, rfl, trivial, Y.ext, St.out (E := [own v1 9 1 ((extH sha (codesR l) i).map fun s => [sv s])]) (H := []) (Y.select [0] (by decide))⟩
end Go.Proofs.YtddfkkdanpmnaaaDoor
namespace Go.Proofs.YtddfkkdanpmnaaaDoor
open Go.RowKit Go.PW
set_option linter.unusedVariables false
set_option linter.unusedSimpArgs false
set_option maxRecDepth 4000
def exE : By := [20, 2, 14, 1, 8, 110, 101, 119, 115]
def exM : List Rec := exR ++ [⟨20, 3, 0, 0, []⟩]
def exRoot : By := rootH sha (codesR exR)
def exNext : By := rootH sha (codesR exM)
def exPf : List By := proofH sha (codesR exR) 1
def exQ : List By := extH sha (codesR exM) 3
def exTag : By := tagR sha (keyR 1) 4 3 exRoot
theorem fp {f : FuncId} {args : Array Value} {w : World} {a b : Value} (h : a = b) (hr : Ret Tryd.prog f args w fun v w' => v = a ∧ Ext No w w') : Ret Tryd.prog f args w fun v w' => v = b ∧ Ext No w w' := by subst h; exact hr
theorem cj {f : FuncId} {args : Array Value} {w : World} {b c : Bool} (h : b = c) (hr : Ret Tryd.prog f args w fun v w' => v = .bool b ∧ Ext No w w') : Ret Tryd.prog f args w fun v w' => v = .bool c ∧ Ext No w w' := by subst h; exact hr
theorem eS {f : FuncId} {args : Array Value} {w : World} {b c : Int} (h : b = c) (hr : Ret Tryd.prog f args w fun v w' => v = iv b ∧ Ext No w w') : Ret Tryd.prog f args w fun v w' => v = iv c ∧ Ext No w w' := by subst h; exact hr
theorem ex_eB : eB (exR.getD 0 Rec.z) = exE := by decide +kernel
theorem ex_eE : eE (exR.getD 0 Rec.z) = 0 := by decide +kernel
theorem ex_dX : decX exE = exR.getD 0 Rec.z := by decide +kernel
theorem ex_dE : decE exE = 0 := by decide +kernel
theorem e6 : logOk 4 exR = true := by decide +kernel
theorem gJ : logOk 4 exM = true := by decide +kernel
theorem mO : logOk 100 [] = false := by decide +kernel
theorem ex_hB : headB 4 exR = exRoot := ej e6
theorem ex_hE : headE 4 exR = 0 := ep.2 e6
theorem nk : headB 4 exM = exNext := ej gJ
theorem m0 : headE 4 exM = 0 := ep.2 gJ
theorem iI (n : Int) : (keyR n).length = 32 := bJ _
theorem mT : signOk (keyR 1) 4 exR = true := by unfold signOk; rw [e6, iI]; rfl
theorem ex_sB : signB (keyR 1) 4 exR = exTag := if_pos mT
theorem ex_sE : signE (keyR 1) 4 exR = 0 := if_pos mT
theorem nj : addOk 4 exR ⟨19, 1, 0, 0, []⟩ = false := by decide +kernel
theorem m2 : addOk 4 exR ⟨20, 3, 0, 0, []⟩ = true := by decide +kernel
theorem ex_f1 : findH 4 exR 1 9 = -1 := by decide +kernel
theorem ex_f2 : findH 4 exR 1 19 = 0 := by decide +kernel
theorem ex_f3 : findH 4 exR 1 20 = 2 := by decide +kernel
theorem eM : exRoot = [21, 112, 33, 172, 240, 109, 75, 130, 191, 249, 217, 221, 50, 198, 0, 231, 116, 242, 6, 54, 79, 38, 84, 56, 148, 132, 237, 35, 98, 124, 34, 181] := by decide +kernel
theorem jD : exNext = [195, 244, 205, 59, 182, 231, 47, 220, 108, 75, 52, 189, 34, 70, 131, 114, 76, 87, 137, 243, 75, 37, 231, 109, 74, 49, 79, 149, 141, 24, 151, 82] := by decide +kernel
theorem jm : keyR 1 = [219, 193, 180, 201, 0, 255, 228, 141, 87, 91, 93, 165, 198, 56, 4, 1, 37, 246, 93, 176, 254, 62, 36, 73, 75, 118, 234, 152, 100, 87, 217, 134] := by decide +kernel
theorem kS : exTag = [75, 183, 243, 190, 88, 89, 30, 0, 212, 159, 241, 14, 211, 216, 181, 111, 180, 45, 128, 188, 226, 87, 91, 67, 48, 251, 122, 74, 0, 4, 207, 40] := by unfold exTag; rw [jm, eM]; decide +kernel
theorem ex_c1 : checkB exRoot 3 1 (exR.getD 1 Rec.z) exPf = true := by
 have h := gy (S := sha) bJ (l := codesR exR) (i := 1) (by decide)
 unfold checkB
 rw [show (exR.getD 1 Rec.z).ok = true from by decide, show (exR.getD 1 Rec.z).enc = (codesR exR).getD 1 [] from (lg (by decide)).symm, Bool.true_and]
 exact h
theorem ex_c2 : checkB exRoot 3 0 (exR.getD 1 Rec.z) exPf = false := by rw [eM]; decide +kernel
theorem ex_g1 : bf sha exRoot 3 exNext 4 exQ = true := i4 (S := sha) bJ (l := codesR exM) (m := 3) (by decide)
theorem ex_g2 : bf sha exNext 3 exRoot 4 exQ = false := by rw [eM, jD]; decide +kernel
theorem ex_n1 : genR sha (keyR 1) 4 3 exRoot exTag = true := by
 unfold genR exTag
 rw [show exRoot.length = 32 from bZ bJ _, iI, decide_eq_true rfl, decide_eq_true rfl]; rfl
theorem ex_n2 : genR sha (keyR 1) 5 3 exRoot exTag = false := by rw [kS, jm, eM]; decide +kernel
theorem ex_n3 : genR sha (keyR 1) 4 3 exNext exTag = false := by rw [kS, jm, jD]; decide +kernel
theorem mR : exPf.length ≤ 8 := by decide +kernel
theorem mU : exQ.length ≤ 8 := by decide +kernel
set_option maxHeartbeats 4000000 in
theorem l4 (w0 : World) (hk0 : (blk 0 (kOf.map wv) 161).ok w0) :
  Ret Tryd.prog 9 #[] w0 fun v w => v = .bool true ∧ Ext No w0 w := by
 refine aB Tryd.func9 rfl Tryd.ntmps9 (lb rfl) fun a Z => ?_
 replace Z : Fr 206 [] [] a := Z
 replace Y : St No w0 [] w0 := St.init w0
 refine aa fun K1 hK1 => wla Z rfl fun a Z => ab (hK1 _ _ <| aa fun K2 hK2 => ?_)
 refine aW Z Y (by decide) Tryd.call41 rfl (jr _) ?_
 clear Z Y
 intro a w1 x2 hp Z Y
 revert x2 hp Z Y; rintro lv1 hp Z Y
 clear hp
 replace Y : St No w0 [own lv1 27 5 ((exR).map Rec.cells)] w1 := Y
 refine aL Z Y (by decide) (Tryd.zeroValue25 _) (cs := [iv 0, .slice none 0 0]) rfl ?_
 clear Z Y
 intro a w2 Z Y
 refine bw (us := [iv 4, lv1]) 0 Z Y rfl rfl rfl (Tryd.sizeOf25 _) (by intro z hz; simp only [List.mem_cons, List.not_mem_nil, or_false] at hz; rcases hz with rfl | rfl <;> first | rfl | exact SlAt.one (Y.ownAt (i := 1) rfl)) (lb rfl) (ds := [iv 4, lv1]) rfl rfl ?_
 clear Z Y
 intro a w3 Z Y
 refine ab (hK2 _ _ <| aa fun K3 hK3 => ?_)
 refine wlv Z (am (v := .pointer (some ⟨w1.heap.size, 1, none⟩)) rfl (by kernel_rfl)) fun a Z => wlv Z (ah (Y.get (k := 0) rfl) rfl (Tryd.isAgg23 _) rfl) fun a Z => wlv Z ((aj (i := 0) (sT := 23) (Y.ownAt (i := 1) rfl) rfl rfl (Tryd.runUnderlying23 _) (Tryd.sizeOf27 _) (by omega) (by decide)).as (v' := slAddr lv1 (0 * 5)) rfl) fun a Z => wlv Z ((cq (Y.ownAt (i := 1) rfl) (i := 0) (by decide) rfl (Tryd.isAgg27 _) (Tryd.sizeOf27 _)).as (v' := .agg #[iv ((exR.getD 0 Rec.z).t), iv ((exR.getD 0 Rec.z).kind), iv ((exR.getD 0 Rec.z).a), iv ((exR.getD 0 Rec.z).b), sv ((exR.getD 0 Rec.z).text)]) (by rw [bn Rec.z]; rfl)) fun a Z => ar Z Y (by decide) Tryd.call22 rfl (fp (by rw [ex_eB, ex_eE]) (gI (exR.getD 0 Rec.z) _)) ?_
 clear Z Y
 intro a w4 Z Y
 refine wlm Z rfl fun a Z => wlv Z (ak rfl rfl) fun a Z => wlv Z (ak rfl rfl) fun a Z => wla Z rfl fun a Z => wla Z rfl fun a Z => ab (hK3 _ _ ?_)
 replace Z : Fr 206 [(0, _), (1, _), (2, _), (3, _)] [] a := Z.pick [0, 1, 2, 3]
 refine aa fun K4 hK4 => wlm Z rfl fun a Z => ar Z Y (by decide) Tryd.call24 rfl (fp (by rw [ex_dX, ex_dE]) (nf exE _ (by decide))) ?_
 clear Z Y
 intro a w5 Z Y
 refine wlm Z rfl fun a Z => wlv Z (ak rfl rfl) fun a Z => wlv Z (ak rfl rfl) fun a Z => aL Z Y (by decide) (Tryd.zeroValue27 _) (cs := [iv 0, iv 0, iv 0, iv 0, .string (⟨#[]⟩)]) rfl ?_
 clear Z Y
 intro a w6 Z Y
 refine aD 0 Z Y rfl rfl rfl (Tryd.sizeOf27 _) rfl (lb rfl) (ds := [iv ((exR.getD 0 Rec.z).t), iv ((exR.getD 0 Rec.z).kind), iv ((exR.getD 0 Rec.z).a), iv ((exR.getD 0 Rec.z).b), sv ((exR.getD 0 Rec.z).text)]) rfl rfl ?_
 clear Z Y
 intro a w7 Z Y
 refine wla Z rfl fun a Z => ab (hK4 _ _ <| aa fun K5 hK5 => ?_)
 refine wlv Z (az (Y.get (k := 1) rfl) rfl (Tryd.isAgg25 _) (Tryd.sizeOf25 _)) fun a Z => ar Z Y (by decide) Tryd.call27 rfl (fp (by rw [ex_hB, ex_hE]) (gz 4 lv1 exR _ (Y.ownAt (i := 2) rfl) (Y.keepb hk0))) ?_
 clear Z Y
 intro a w8 Z Y
 refine wlm Z rfl fun a Z => wlv Z (ak rfl rfl) fun a Z => wlv Z (ak rfl rfl) fun a Z => wla Z rfl fun a Z => wla Z rfl fun a Z => ab (hK5 _ _ ?_)
 replace Z : Fr 206 [(0, _), (1, _), (2, _), (3, _), (4, _), (5, _), (6, _), (7, _)] [] a := Z.pick [0, 1, 2, 3, 4, 5, 6, 7]
 refine aa fun K6 hK6 => wlv Z (az (Y.get (k := 1) rfl) rfl (Tryd.isAgg25 _) (Tryd.sizeOf25 _)) fun a Z => aW Z Y (by decide) Tryd.call28 rfl (jf 4 lv1 exR 1 _ (Y.ownAt (i := 2) rfl) (by decide) e6 (by decide) (Y.keepb hk0)) ?_
 clear Z Y
 intro a w9 x4 hp Z Y
 revert x4 hp Z Y; rintro v3 hp Z Y
 clear hp
 replace Y : St No w0 [own v3 9 1 (exPf.map fun s => [sv s]), blk w5.heap.size [iv ((exR.getD 0 Rec.z).t), iv ((exR.getD 0 Rec.z).kind), iv ((exR.getD 0 Rec.z).a), iv ((exR.getD 0 Rec.z).b), sv ((exR.getD 0 Rec.z).text)] 27, blk w1.heap.size [iv 4, lv1] 25, own lv1 27 5 ((exR).map Rec.cells)] w9 := Y
 refine wlm Z rfl fun a Z => wlv Z (ak rfl rfl) fun a Z => wlv Z (ak rfl rfl) fun a Z => wla Z rfl fun a Z => wla Z rfl fun a Z => ab (hK6 _ _ <| aa fun K7 hK7 => ?_)
 refine wlv Z (az (Y.get (k := 2) rfl) rfl (Tryd.isAgg25 _) (Tryd.sizeOf25 _)) fun a Z => wlv Z (bp (v := .agg #[iv 19, iv 1, iv 0, iv 0, sv ([] : By)]) rfl (by kernel_rfl)) fun a Z => aW Z Y (by decide) Tryd.call13 rfl (mo 4 lv1 exR ⟨19, 1, 0, 0, []⟩ _ (Y.ownAt (i := 3) rfl) (by decide) nj) ?_
 clear Z Y
 intro a w10 x6 hp Z Y
 revert x6 hp Z Y; rintro lv5 hp Z Y
 clear hp
 replace Y : St No w0 [own lv5 27 5 ((([] : List Rec)).map Rec.cells), own v3 9 1 (exPf.map fun s => [sv s]), blk w5.heap.size [iv ((exR.getD 0 Rec.z).t), iv ((exR.getD 0 Rec.z).kind), iv ((exR.getD 0 Rec.z).a), iv ((exR.getD 0 Rec.z).b), sv ((exR.getD 0 Rec.z).text)] 27, blk w1.heap.size [iv 4, lv1] 25, own lv1 27 5 ((exR).map Rec.cells)] w10 := Y
 refine wlm Z rfl fun a Z => wlv Z (ak rfl rfl) fun a Z => wlv Z (ak rfl rfl) fun a Z => aL Z Y (by decide) (Tryd.zeroValue25 _) (cs := [iv 0, .slice none 0 0]) rfl ?_
 clear Z Y
 intro a w11 Z Y
 refine bw (us := [iv 0, lv5]) 0 Z Y rfl rfl rfl (Tryd.sizeOf25 _) (by intro z hz; simp only [List.mem_cons, List.not_mem_nil, or_false] at hz; rcases hz with rfl | rfl <;> first | rfl | exact SlAt.one (Y.ownAt (i := 1) rfl)) (lb rfl) (ds := [iv 0, lv5]) rfl rfl ?_
 clear Z Y
 intro a w12 Z Y
 refine wla Z rfl fun a Z => ab (hK7 _ _ ?_)
 replace Z : Fr 206 [(0, _), (1, _), (2, _), (3, _), (4, _), (5, _), (6, _), (7, _), (8, _), (9, _), (11, _)] [] a := Z.pick [0, 1, 2, 3, 4, 5, 6, 7, 8, 9, 11]
 replace Y : St No w0 [_, _, _, _, _] w12 := Y.mask [false, true, true, true, true, true]
 refine aa fun K8 hK8 => wlv Z (az (Y.get (k := 3) rfl) rfl (Tryd.isAgg25 _) (Tryd.sizeOf25 _)) fun a Z => wlv Z (bp (v := .agg #[iv 20, iv 3, iv 0, iv 0, sv ([] : By)]) rfl (by kernel_rfl)) fun a Z => aW Z Y (by decide) Tryd.call13 rfl (lO 4 lv1 exR ⟨20, 3, 0, 0, []⟩ _ (Y.ownAt (i := 4) rfl) (by decide) m2) ?_
 clear Z Y
 intro a w13 x8 hp Z Y
 revert x8 hp Z Y; rintro lv7 hp Z Y
 clear hp
 replace Y : St No w0 [own lv7 27 5 ((exM).map Rec.cells), own lv5 27 5 ((([] : List Rec)).map Rec.cells), own v3 9 1 (exPf.map fun s => [sv s]), blk w5.heap.size [iv ((exR.getD 0 Rec.z).t), iv ((exR.getD 0 Rec.z).kind), iv ((exR.getD 0 Rec.z).a), iv ((exR.getD 0 Rec.z).b), sv ((exR.getD 0 Rec.z).text)] 27, blk w1.heap.size [iv 4, lv1] 25, own lv1 27 5 ((exR).map Rec.cells)] w13 := Y
 refine wlm Z rfl fun a Z => wlv Z (ak rfl rfl) fun a Z => wlv Z (ak rfl rfl) fun a Z => aL Z Y (by decide) (Tryd.zeroValue25 _) (cs := [iv 0, .slice none 0 0]) rfl ?_
 clear Z Y
 intro a w14 Z Y
 refine bw (us := [iv 4, lv7]) 0 Z Y rfl rfl rfl (Tryd.sizeOf25 _) (by intro z hz; simp only [List.mem_cons, List.not_mem_nil, or_false] at hz; rcases hz with rfl | rfl <;> first | rfl | exact SlAt.one (Y.ownAt (i := 1) rfl)) (lb rfl) (ds := [iv 4, lv7]) rfl rfl ?_
 clear Z Y
 intro a w15 Z Y
 refine wla Z rfl fun a Z => ab (hK8 _ _ ?_)
 replace Z : Fr 206 [(0, _), (1, _), (2, _), (3, _), (4, _), (5, _), (6, _), (7, _), (8, _), (9, _), (11, _), (12, _), (13, _)] [] a := Z.pick [0, 1, 2, 3, 4, 5, 6, 7, 8, 9, 11, 12, 13]
 replace Y : St No w0 [_, _, _, _, _, _] w15 := Y.mask [true, true, false, true, true, true, true]
 refine aa fun K9 hK9 => wlv Z (az (Y.get (k := 0) rfl) rfl (Tryd.isAgg25 _) (Tryd.sizeOf25 _)) fun a Z => aW Z Y (by decide) Tryd.call42 rfl (jl 4 lv7 exM 3 _ (Y.ownAt (i := 1) rfl) (by decide) gJ (by decide) (Y.keepb hk0)) ?_
 clear Z Y
 intro a w16 x10 hp Z Y
 revert x10 hp Z Y; rintro v9 hp Z Y
 clear hp
 replace Y : St No w0 [own v9 9 1 (exQ.map fun s => [sv s]), blk w13.heap.size [iv 4, lv7] 25, own lv7 27 5 ((exM).map Rec.cells), own v3 9 1 (exPf.map fun s => [sv s]), blk w5.heap.size [iv ((exR.getD 0 Rec.z).t), iv ((exR.getD 0 Rec.z).kind), iv ((exR.getD 0 Rec.z).a), iv ((exR.getD 0 Rec.z).b), sv ((exR.getD 0 Rec.z).text)] 27, blk w1.heap.size [iv 4, lv1] 25, own lv1 27 5 ((exR).map Rec.cells)] w16 := Y
 refine wlm Z rfl fun a Z => wlv Z (ak rfl rfl) fun a Z => wlv Z (ak rfl rfl) fun a Z => wla Z rfl fun a Z => wla Z rfl fun a Z => ab (hK9 _ _ <| aa fun K10 hK10 => ?_)
 refine wlv Z (az (Y.get (k := 1) rfl) rfl (Tryd.isAgg25 _) (Tryd.sizeOf25 _)) fun a Z => ar Z Y (by decide) Tryd.call27 rfl (fp (by rw [nk, m0]) (gz 4 lv7 exM _ (Y.ownAt (i := 2) rfl) (Y.keepb hk0))) ?_
 clear Z Y
 intro a w17 Z Y
 refine wlm Z rfl fun a Z => wlv Z (ak rfl rfl) fun a Z => wlv Z (ak rfl rfl) fun a Z => wla Z rfl fun a Z => wla Z rfl fun a Z => ab (hK10 _ _ ?_)
 replace Z : Fr 206 [(0, _), (1, _), (2, _), (3, _), (4, _), (5, _), (6, _), (7, _), (8, _), (9, _), (11, _), (12, _), (13, _), (14, _), (15, _), (16, _), (17, _)] [] a := Z.pick [0, 1, 2, 3, 4, 5, 6, 7, 8, 9, 11, 12, 13, 14, 15, 16, 17]
 refine aa fun K11 hK11 => ar Z Y (by decide) Tryd.call35 rfl (mb 1 _ (by unfold i64; omega)) ?_
 clear Z Y
 intro a w18 Z Y
 refine wla Z rfl fun a Z => ab (hK11 _ _ <| aa fun K12 hK12 => ?_)
 refine wlm Z rfl fun a Z => wlv Z (az (Y.get (k := 5) rfl) rfl (Tryd.isAgg25 _) (Tryd.sizeOf25 _)) fun a Z => ar Z Y (by decide) Tryd.call36 rfl (fp (by rw [ex_sB, ex_sE]) (mG (keyR 1) 4 lv1 exR _ (Y.ownAt (i := 6) rfl) (Y.keepb hk0))) ?_
 clear Z Y
 intro a w19 Z Y
 refine wlm Z rfl fun a Z => wlv Z (ak rfl rfl) fun a Z => wlv Z (ak rfl rfl) fun a Z => wla Z rfl fun a Z => wla Z rfl fun a Z => ab (hK12 _ _ ?_)
 replace Z : Fr 206 [(0, _), (1, _), (2, _), (3, _), (4, _), (5, _), (6, _), (7, _), (8, _), (9, _), (11, _), (12, _), (13, _), (14, _), (15, _), (16, _), (17, _), (18, _), (19, _), (20, _)] [] a := Z.pick [0, 1, 2, 3, 4, 5, 6, 7, 8, 9, 11, 12, 13, 14, 15, 16, 17, 18, 19, 20]
 refine ag fun K13 hK13 => aa fun K14 hK14 => wlm Z rfl fun a Z => wlv Z ((v_ne rfl rfl).asb (b' := false) rfl) fun a Z => wlm Z rfl fun a Z => wly Z (ai rfl) fun a Z => wly Z ((v_ne rfl rfl).asb (b' := false) rfl) fun a Z => wlv Z (aw rfl rfl) fun a Z => wlm Z rfl fun a Z => wly Z (ai rfl) fun a Z => wly Z ((v_ne rfl rfl).asb (b' := false) rfl) fun a Z => wlv Z (aw rfl rfl) fun a Z => wlm Z rfl fun a Z => wly Z (ai rfl) fun a Z => wly Z ((v_ne rfl rfl).asb (b' := false) rfl) fun a Z => wlv Z (aw rfl rfl) fun a Z => wlm Z rfl fun a Z => wly Z (ai rfl) fun a Z => wly Z ((v_ne rfl rfl).asb (b' := false) rfl) fun a Z => ?_
 refine wlv Z (aw rfl rfl) fun a Z => wlm Z rfl fun a Z => wly Z (ai rfl) fun a Z => wly Z ((v_ne rfl rfl).asb (b' := false) rfl) fun a Z => wlv Z (aw rfl rfl) fun a Z => wlm Z rfl fun a Z => wly Z (ai rfl) fun a Z => wly Z ((v_ne rfl rfl).asb (b' := false) rfl) fun a Z => wlv Z (aw rfl rfl) fun a Z => wlm Z rfl fun a Z => wly Z (ai rfl) fun a Z => wly Z ((v_ne rfl rfl).asb (b' := false) rfl) fun a Z => wlv Z (aw rfl rfl) fun a Z => wlm Z rfl fun a Z => wly Z (ai rfl) fun a Z => wly Z ((v_ne rfl rfl).asb (b' := false) rfl) fun a Z => wlv Z (aw rfl rfl) fun a Z => ab (hK14 _ _ ?_)
 replace Z : Fr 206 [(0, _), (1, _), (2, _), (4, _), (6, _), (8, _), (12, _), (14, _), (16, _), (18, _), (19, _), (110, _)] [] a := Z.pick [0, 1, 2, 4, 6, 8, 12, 14, 16, 18, 19, 110]
 refine aK Z rfl ?_
 refine au <| hK13 _ _ <| aa fun K15 hK15 => wlm Z rfl fun a Z => wlv Z (am (v := .pointer (some ⟨w1.heap.size, 1, none⟩)) rfl (by kernel_rfl)) fun a Z => wlv Z (ah (Y.get (k := 5) rfl) rfl (Tryd.isAgg23 _) rfl) fun a Z => wlv Z ((aj (i := 1) (sT := 23) (Y.ownAt (i := 6) rfl) rfl rfl (Tryd.runUnderlying23 _) (Tryd.sizeOf27 _) (by omega) (by decide)).as (v' := slAddr lv1 (1 * 5)) rfl) fun a Z => ?_
 refine wlv Z ((cq (Y.ownAt (i := 6) rfl) (i := 1) (by decide) rfl (Tryd.isAgg27 _) (Tryd.sizeOf27 _)).as (v' := .agg #[iv ((exR.getD 1 Rec.z).t), iv ((exR.getD 1 Rec.z).kind), iv ((exR.getD 1 Rec.z).a), iv ((exR.getD 1 Rec.z).b), sv ((exR.getD 1 Rec.z).text)]) (by rw [bn Rec.z]; rfl)) fun a Z => wlm Z rfl fun a Z => ar Z Y (by decide) Tryd.call29 rfl (cj ex_c1 (iA exRoot 3 1 (exR.getD 1 Rec.z) v3 exPf _ (Y.ownAt (i := 3) rfl) (by have := mR; omega) (by unfold i64; omega) (Y.keepb hk0))) ?_
 clear Z Y
 intro a w20 Z Y
 refine wlm Z rfl fun a Z => wly Z (ai rfl) fun a Z => wly Z (am (v := .pointer (some ⟨w1.heap.size, 1, none⟩)) rfl (by kernel_rfl)) fun a Z => wly Z (ah (Y.get (k := 5) rfl) rfl (Tryd.isAgg23 _) rfl) fun a Z => wly Z ((aj (i := 1) (sT := 23) (Y.ownAt (i := 6) rfl) rfl rfl (Tryd.runUnderlying23 _) (Tryd.sizeOf27 _) (by omega) (by decide)).as (v' := slAddr lv1 (1 * 5)) rfl) fun a Z => wly Z ((cq (Y.ownAt (i := 6) rfl) (i := 1) (by decide) rfl (Tryd.isAgg27 _) (Tryd.sizeOf27 _)).as (v' := .agg #[iv ((exR.getD 1 Rec.z).t), iv ((exR.getD 1 Rec.z).kind), iv ((exR.getD 1 Rec.z).a), iv ((exR.getD 1 Rec.z).b), sv ((exR.getD 1 Rec.z).text)]) (by rw [bn Rec.z]; rfl)) fun a Z => wly Z (ai rfl) fun a Z => aT Z Y (by decide) rfl (by decide) rfl Tryd.call29 rfl (cj ex_c2 (iA exRoot 3 0 (exR.getD 1 Rec.z) v3 exPf _ (Y.ownAt (i := 3) rfl) (by have := mR; omega) (by unfold i64; omega) (Y.keepb hk0))) ?_
 clear Z Y
 intro a w21 Z Y
 refine wly Z ((br rfl).asb (b' := true) rfl) fun a Z => wlv Z (aA rfl rfl) fun a Z => wlm Z rfl fun a Z => wly Z (ai rfl) fun a Z => wly Z (ai rfl) fun a Z => wly Z (ai rfl) fun a Z => aT Z Y (by decide) rfl (by decide) rfl Tryd.call43 rfl (cj ex_g1 (gj exRoot 3 exNext 4 v9 exQ _ (Y.ownAt (i := 0) rfl) (by have := mU; omega) (by unfold i64; omega) (Y.keepb hk0))) ?_
 clear Z Y
 intro a w22 Z Y
 refine wlv Z (aA rfl rfl) fun a Z => wlm Z rfl fun a Z => wly Z (ai rfl) fun a Z => wly Z (ai rfl) fun a Z => wly Z (ai rfl) fun a Z => aT Z Y (by decide) rfl (by decide) rfl Tryd.call43 rfl (cj ex_g2 (gj exNext 3 exRoot 4 v9 exQ _ (Y.ownAt (i := 0) rfl) (by have := mU; omega) (by unfold i64; omega) (Y.keepb hk0))) ?_
 clear Z Y
 intro a w23 Z Y
 refine wly Z ((br rfl).asb (b' := true) rfl) fun a Z => wlv Z (aA rfl rfl) fun a Z => wla Z rfl fun a Z => ab (hK15 _ _ ?_)
 replace Z : Fr 206 [(0, _), (1, _), (2, _), (4, _), (6, _), (12, _), (16, _), (18, _), (19, _), (21, _)] [] a := Z.pick [0, 1, 2, 4, 6, 12, 16, 18, 19, 21]
 replace Y : St No w0 [_, _, _, _, _] w23 := Y.mask [false, true, true, false, true, true, true]
 refine aa fun K16 hK16 => wlm Z rfl fun a Z => wlm Z rfl fun a Z => wlm Z rfl fun a Z => ar Z Y (by decide) Tryd.call37 rfl (cj ex_n1 (dV (keyR 1) 4 3 exRoot exTag _ (Y.keepb hk0))) ?_
 clear Z Y
 intro a w24 Z Y
 refine wlm Z rfl fun a Z => wly Z (ai rfl) fun a Z => wly Z (ai rfl) fun a Z => wly Z (ai rfl) fun a Z => aT Z Y (by decide) rfl (by decide) rfl Tryd.call37 rfl (cj ex_n2 (dV (keyR 1) 5 3 exRoot exTag _ (Y.keepb hk0))) ?_
 clear Z Y
 intro a w25 Z Y
 refine wly Z ((br rfl).asb (b' := true) rfl) fun a Z => wlv Z (aA rfl rfl) fun a Z => wlm Z rfl fun a Z => wly Z (ai rfl) fun a Z => wly Z (ai rfl) fun a Z => wly Z (ai rfl) fun a Z => aT Z Y (by decide) rfl (by decide) rfl Tryd.call37 rfl (cj ex_n3 (dV (keyR 1) 4 3 exNext exTag _ (Y.keepb hk0))) ?_
 clear Z Y
 intro a w26 Z Y
 refine wly Z ((br rfl).asb (b' := true) rfl) fun a Z => wlv Z (aA rfl rfl) fun a Z => wla Z rfl fun a Z => ab (hK16 _ _ ?_)
 replace Z : Fr 206 [(0, _), (1, _), (2, _), (4, _), (12, _), (21, _), (22, _)] [] a := Z.pick [0, 1, 2, 4, 12, 21, 22]
 refine aa fun K17 hK17 => wlv Z (az (Y.get (k := 3) rfl) rfl (Tryd.isAgg25 _) (Tryd.sizeOf25 _)) fun a Z => ar Z Y (by decide) Tryd.call20 rfl (eS ex_f1 (eU 4 lv1 exR 1 9 _ (Y.ownAt (i := 4) rfl))) ?_
 clear Z Y
 intro a w27 Z Y
 refine wlv Z ((v_eq rfl rfl).asb (b' := true) rfl) fun a Z => wlm Z rfl fun a Z => wly Z (az (Y.get (k := 3) rfl) rfl (Tryd.isAgg25 _) (Tryd.sizeOf25 _)) fun a Z => aT Z Y (by decide) rfl (by decide) rfl Tryd.call20 rfl (eS ex_f2 (eU 4 lv1 exR 1 19 _ (Y.ownAt (i := 4) rfl))) ?_
 clear Z Y
 intro a w28 Z Y
 refine wly Z ((v_eq rfl rfl).asb (b' := true) rfl) fun a Z => wlv Z (aA rfl rfl) fun a Z => wlm Z rfl fun a Z => wly Z (az (Y.get (k := 3) rfl) rfl (Tryd.isAgg25 _) (Tryd.sizeOf25 _)) fun a Z => aT Z Y (by decide) rfl (by decide) rfl Tryd.call20 rfl (eS ex_f3 (eU 4 lv1 exR 1 20 _ (Y.ownAt (i := 4) rfl))) ?_
 clear Z Y
 intro a w29 Z Y
 refine wly Z ((v_eq rfl rfl).asb (b' := true) rfl) fun a Z => wlv Z (aA rfl rfl) fun a Z => wla Z rfl fun a Z => ab (hK17 _ _ ?_)
 replace Z : Fr 206 [(0, _), (1, _), (2, _), (4, _), (12, _), (21, _), (22, _), (23, _)] [] a := Z.pick [0, 1, 2, 4, 12, 21, 22, 23]
 refine ag fun K18 hK18 => aJ (by kernel_rfl) (aM (by kernel_rfl) fun w30 hxz => ?_)
 replace Y := Y.grow hxz
 refine aX (k := 0) 3 [2] (by kernel_rfl) (by kernel_rfl) (by kernel_rfl) ?_
 refine wlm Z rfl fun a Z => wlv Z ((ea rfl rfl).asb (b' := true) (by exact decide_eq_true rfl)) fun a Z => wlm Z rfl fun a Z => ab <| bd (k := 3) 8 [3, 7] Z (by kernel_rfl) (by kernel_rfl) (by kernel_rfl) (by rfl) ?_
 replace Z : Fr 206 [(0, _), (1, _), (2, _), (4, _), (12, _), (21, _), (22, _), (23, _), (172, _), (173, _), (174, _)] [] a := Z.pick [0, 1, 2, 4, 12, 21, 22, 23, 172, 173, 174]
 refine aE [] (fun i => match i with | _ => fun _ _ => False) 5 [[], [], [1], [2], [3]] [.agg #[iv ((exR.getD 0 Rec.z).t), iv ((exR.getD 0 Rec.z).kind), iv ((exR.getD 0 Rec.z).a), iv ((exR.getD 0 Rec.z).b), sv ((exR.getD 0 Rec.z).text)], .pointer (some ⟨w1.heap.size, 1, none⟩), lv1, slAddr lv1 (0 * 5), .agg #[iv ((exR.getD 0 Rec.z).t), iv ((exR.getD 0 Rec.z).kind), iv ((exR.getD 0 Rec.z).a), iv ((exR.getD 0 Rec.z).b), sv ((exR.getD 0 Rec.z).text)]] Z Y (by kernel_rfl) (by kernel_rfl) (by kernel_rfl) ?_ ?_ ?_
 ·intro i hi hiq
  match i, hi, hiq with
  | 0, _, _ =>
   intro w Y
   exact OpV.g (az (Y.get (k := 2) rfl) rfl (Tryd.isAgg27 _) (Tryd.sizeOf27 _))
  | 1, _, _ =>
   intro w Y
   exact OpV.g (am (v := .pointer (some ⟨w1.heap.size, 1, none⟩)) rfl (by kernel_rfl))
  | 2, _, _ =>
   intro w Y
   exact OpV.g (ah (Y.get (k := 3) rfl) rfl (Tryd.isAgg23 _) rfl)
  | 3, _, _ =>
   intro w Y
   exact OpV.g ((aj (i := 0) (sT := 23) (Y.ownAt (i := 4) rfl) rfl rfl (Tryd.runUnderlying23 _) (Tryd.sizeOf27 _) (by omega) (by decide)).as (v' := slAddr lv1 (0 * 5)) rfl)
  | 4, _, _ =>
   intro w Y
   exact OpV.g ((cq (Y.ownAt (i := 4) rfl) (i := 0) (by decide) rfl (Tryd.isAgg27 _) (Tryd.sizeOf27 _)).as (v' := .agg #[iv ((exR.getD 0 Rec.z).t), iv ((exR.getD 0 Rec.z).kind), iv ((exR.getD 0 Rec.z).a), iv ((exR.getD 0 Rec.z).b), sv ((exR.getD 0 Rec.z).text)]) (by rw [bn Rec.z]; rfl))
 ·intro i hi
  exact absurd hi (by simp)
 clear Z Y
 intro  a w31 Z Y
 replace Z : Fr 206 [(175, .agg #[iv ((exR.getD 0 Rec.z).t), iv ((exR.getD 0 Rec.z).kind), iv ((exR.getD 0 Rec.z).a), iv ((exR.getD 0 Rec.z).b), sv ((exR.getD 0 Rec.z).text)]), (176, .pointer (some ⟨w1.heap.size, 1, none⟩)), (177, lv1), (178, slAddr lv1 (0 * 5)), (179, .agg #[iv ((exR.getD 0 Rec.z).t), iv ((exR.getD 0 Rec.z).kind), iv ((exR.getD 0 Rec.z).a), iv ((exR.getD 0 Rec.z).b), sv ((exR.getD 0 Rec.z).text)]), (0, _), (1, _), (2, _), (4, _), (12, _), (21, _), (22, _), (23, _), (172, _), (173, _), (174, _)] [] a := Z
 refine ab <| aX (k := 8) 35 [34] (by kernel_rfl) (by kernel_rfl) (by kernel_rfl) ?_
 refine wly Z ((lW rfl rfl (by kernel_rfl) (eqRec ((exR.getD 0 Rec.z).t) ((exR.getD 0 Rec.z).kind) ((exR.getD 0 Rec.z).a) ((exR.getD 0 Rec.z).b) ((exR.getD 0 Rec.z).text) ((exR.getD 0 Rec.z).t) ((exR.getD 0 Rec.z).kind) ((exR.getD 0 Rec.z).a) ((exR.getD 0 Rec.z).b) ((exR.getD 0 Rec.z).text) _)).asb (b' := true) (by exact decide_eq_true rfl)) fun a Z => wlv Z (aA rfl rfl) fun a Z => wlm Z rfl fun a Z => wly Z (ai rfl) fun a Z => wlv Z (aA rfl rfl) fun a Z => wlm Z rfl fun a Z => wly Z (ai rfl) fun a Z => wlv Z (aA rfl rfl) fun a Z => wlm Z rfl fun a Z => wly Z (ai rfl) fun a Z => wlv Z (aA rfl rfl) fun a Z => wlm Z rfl fun a Z => wly Z (am (v := .pointer (some ⟨w13.heap.size, 1, none⟩)) rfl (by kernel_rfl)) fun a Z => wly Z (ah (Y.get (k := 0) rfl) rfl (Tryd.isAgg23 _) rfl) fun a Z => wly Z ((aG (sT := 23) (Y.ownAt (i := 1) rfl) rfl rfl (Tryd.runUnderlying23 _)).asi (m' := (exM.length : Int)) (by rw [List.length_map])) fun a Z => wly Z ((v_eq rfl rfl).asb (b' := true) (by decide)) fun a Z => wlv Z (aA rfl rfl) fun a Z => wlm Z rfl fun a Z => wly Z (az (Y.get (k := 3) rfl) rfl (Tryd.isAgg25 _) (Tryd.sizeOf25 _)) fun a Z => aT Z Y (by decide) rfl (by decide) rfl Tryd.call16 rfl (cj e6 (di 4 lv1 exR _ (Y.ownAt (i := 4) rfl))) ?_
 clear Z Y
 intro a w32 Z Y
 refine wlv Z (aA rfl rfl) fun a Z => wlm Z rfl fun a Z => wly Z (bp (v := .agg #[iv 100, .slice none 0 0]) rfl (by kernel_rfl)) fun a Z => aT Z Y (by decide) rfl (by decide) rfl Tryd.call16 rfl (cj mO (di 100 (.slice none 0 0) ([] : List Rec) _ (gZ _ _))) ?_
 clear Z Y
 intro a w33 Z Y
 refine wly Z ((br rfl).asb (b' := true) rfl) fun a Z => wlv Z (aA rfl rfl) fun a Z => wla Z rfl fun a Z => ab <| aZ (by kernel_rfl) ?_
 refine hK18 _ _ ?_
 replace Z : Fr 206 [(0, _)] [] a := Z.pick [0]
 replace Y : St No w0 [_, _] w33 := Y.mask [false, true, false, false, true]
 refine aq ?_
 refine al Z Tryd.results9 (ac rfl ae) ?_
 exact ⟨by rfl, Y.ext⟩
end Go.Proofs.YtddfkkdanpmnaaaDoor
namespace Go.Proofs.YtddfkkdanpmnaaaDoor
open Go.RowKit Go.PW
set_option linter.unusedVariables false
set_option linter.unusedSimpArgs false
set_option maxRecDepth 4000
theorem jA : ∀ {l : List Rin} {t : Int}, 0 ≤ t → t + 30 * l.length ≤ 10000000 → ∀ x ∈ recsR t l, x.t ≤ t + 30 * l.length
 | [], t, h, hb, x, hx => by cases hx
 | y :: l, t, h, hb, x, hx => by
  have h0 := bt y.x0 (n := 30) (by omega)
  rw [List.length_cons] at hb ⊢
  have e : (entR (t + pickI y.x0 30) y.x1 y.x2 y.x3 y.x4).t = t + pickI y.x0 30 := by
   show pickI (t + pickI y.x0 30) 10000001 = _
   generalize pickI y.x0 30 = z at *
   unfold pickI
   rw [if_neg (by omega)]
   exact Int.emod_eq_of_lt (by omega) (by omega)
  rw [recsR] at hx
  rcases List.mem_cons.1 hx with rfl | hx
  ·rw [e]; omega
  ·have := jA (l := l) (t := t + pickI y.x0 30) (by omega) (by omega) x hx
   omega
theorem my (l : List Rin) : ∀ x ∈ madeR l, x.t ≤ 360 := by
 intro x hx
 have := jA (Int.le_refl 0) (by rw [List.length_take]; omega) x hx
 rw [List.length_take] at this; omega
theorem j0 {o n k s : Int} {l : List Rec} (h : logOk o l = true) (hn : findH o l k s = n) : -1 ≤ n ∧ n < (l.length : Int) ∧ (0 ≤ n → (l.getD n.toNat Rec.z).kind = k ∧ (l.getD n.toNat Rec.z).t ≤ s) ∧ ∀ i : Nat, n < i → i < l.length → ¬ ((l.getD i Rec.z).kind = k ∧ (l.getD i Rec.z).t ≤ s) := by
 subst hn
 unfold findH
 rw [if_pos h]
 obtain ⟨h1, h2, h3, h4⟩ := fg (hitR k s) l l.length
 refine ⟨h1, h2, fun hp => ?_, fun i hi hl => ?_⟩
 ·have := h3 hp
  simpa [hitR] using this
 ·have := h4 i hi hl
  intro hc
  rw [hitR, decide_eq_true hc.1, decide_eq_true hc.2] at this
  cases this
theorem nh {owner o : Int} {xv : Value} {ys : List Rin} {l : List Rec} {w0 : World} (ho : pickI owner 100 = o) (hl : madeR ys = l) (hxv : SlAt w0 xv 5 (ys.map Rin.cells)) (hys : ∀ y ∈ ys, y.wt) (how : i64 owner) : Ret Tryd.prog 10 #[iv owner, xv] w0 (MemR w0 (fun v : Value => .agg #[iv o, v]) (fun v => [own v 27 5 (l.map Rec.cells)]) (fun _ => True)) := by
 subst ho; subst hl
 exact kQ owner xv ys w0 hxv hys how
end Go.Proofs.YtddfkkdanpmnaaaDoor
namespace Go.PW
open Go.RowKit Go.ChangeShapes Go.WideShapes Go.ChangeAt
set_option linter.unusedVariables false
set_option linter.unusedSimpArgs false
section
variable {H : Type} {enc : TypeId × Value → H}
theorem gR {a : Assume} {C : Checked} {os : Os} {f : FuncId} {fn : Func} {s : ChangeSpec} {conds : List PathCond} {apart fresh handsOn again : Bool} {X : World → Array Value → Prop}
  (hX : ∀ (w w' : World) (args : Array Value), w.heap = w'.heap → X w args → X w' args)
  (own : ownKnob C.prog.godebug = none) (started : os.Started) (noInit : C.prog.inits.idxOf? f = none) (hfn : C.prog.funcs[f]? = some fn)
  (witness : ∃ (w : World) (tape : Tape) (i : Input), w.os = os ∧ (w.forCall tape i).Shaped C.prog ∧ i.vars = [] ∧ Input.okWide C.prog (w.forCall tape i) .any w.heap.size f i ∧
   ((s.pre enc C.prog fn conds apart (w.forCall tape i).memory i.args ∧ X (w.forCall tape i).memory i.args) ∧ sizedMet enc C.prog fn (OpenSpec.ofChange s) apart (w.forCall tape i).memory i.args) ∧ a.holds C.prog (lone (Frame.enter C.prog f i.args .normal) [] (w.forCall tape i)))
  (contract : ∀ (W : World) (base : Nat) (args : Array Value) (ds gs : List (DataW H)) (before : List MemPlace),
   (∀ (j : Nat) t v, fn.params[j]? = some t → args[j]? = some v → Value.okWide C.prog W .any base t v) →
   DataW.Whole enc C.prog fn.params.toList s.vars apart W args.toList ds gs before →
   conds.all (PathCond.test C.prog ⟨fn.params.toList, ds, s.plain.varTypes C.prog, gs⟩) = true →
   (DataW.weightsEach C.prog (fn.params.toList ++ s.plain.varTypes C.prog) (ds ++ gs)).all (· ≤ reachBytes) = true → X W args → W.ShapedOpen C.prog →
   Calls C.prog f args W fun e W' => ∃ v, e = .returned v ∧ s.post enc C.prog fn apart fresh handsOn again W args v W') :
  ReturnsInHanded a C os f .any (fun w args => (s.pre enc C.prog fn conds apart w args ∧ X w args) ∧ sizedMet enc C.prog fn (OpenSpec.ofChange s) apart w args) (s.post enc C.prog fn apart fresh handsOn again) := by
 refine returnsInHanded_of_calls own started noInit witness ?_
 intro w tape i _ hsh _ hok hpre _
 obtain ⟨_, _, _, fn', hfn', _, _, _, _, hval⟩ := hok
 have e : fn' = fn := Option.some.inj (hfn'.symm.trans hfn)
 subst e
 obtain ⟨⟨⟨ds, gs, before, hw, hc⟩, hx⟩, hz⟩ := hpre
 have hw' := DataW.Whole.of_heap (w' := w.forCall tape i) (by rfl) hw
 refine (contract (w.forCall tape i) w.heap.size i.args ds gs before hval hw' hc (hz.weights hw) (hX _ _ _ (by rfl) hx) hsh).mono fun e W' ⟨v, he, hp⟩ => ?_
 subst he
 exact ChangeSpec.post_blind hp
end
section
variable {H : Type} {enc : TypeId × Value → H} {P : Program} {w : World} {base : Nat} {spare : Nat → Bool} {held : Bool} {fuel : Nat} {t e : TypeId} {cs : List Value} {x : DataW H × List MemPlace}
theorem iQ {n : Nat} {ks : List Int} (ht : P.underlying t = some (.array n e)) (he : P.underlying e = some (.int .u32)) (hc : P.cellsOf e = 1) (hct : P.cellsOf t = n) (h : DataW.trod enc P w base spare held fuel t cs = some x) (hx : x.1 = .agg (ks.map fun k => .lit (.int .u32 k))) : cs = ks.map (fun k => .int .u32 k) := by
 obtain ⟨xs, m, rfl, rfl, hlen, hxs, hel⟩ := DataW.trod_array ht h
 simp only [DataW.agg.injEq] at hx
 have hl : ks.length = n := by
  have h := congrArg List.length hx
  rw [List.length_map, List.length_map] at h
  omega
 refine List.ext_getElem (by rw [hlen, hct, List.length_map, hl]) fun i h1 h2 => ?_
 have hi : i < n := by rw [← hct, ← hlen]; exact h1
 have hi2 : i < ks.length := by omega
 have h3 := hel i hi
 rw [hc, Nat.mul_one, List.getElem?_eq_getElem (by omega)] at h3
 obtain ⟨k, e1, e2, _⟩ := DataW.trod_int he h3
 rw [List.drop_eq_getElem_cons h1, List.take_succ_cons] at e1
 injection e1 with e1 _
 have h4 : (xs.map (·.1))[i]? = (ks.map fun k => DataW.lit (H := H) (.int .u32 k))[i]? := by rw [hx]
 rw [List.getElem?_map, List.getElem?_map, List.getElem?_eq_getElem (by omega), List.getElem?_eq_getElem hi2, Option.map_some, Option.map_some, e2] at h4
 simp only [Option.some.injEq, DataW.lit.injEq, Lit.int.injEq, true_and] at h4
 rw [e1, List.getElem_map, h4]
end
end Go.PW
namespace Go.Proofs.YtddfkkdanpmnaaaDoor
open Go.RowKit Go.PW
set_option linter.unusedVariables false
set_option linter.unusedSimpArgs false
set_option maxRecDepth 4000
open Go.ChangeShapes Go.WideShapes Go.ChangeAt Go.RowKit Go.PW
theorem ownD : ownKnob Tryd.prog.godebug = none := by kernel_rfl
theorem ek : laidOutB Tryd.prog = true := by kernel_rfl
def laid1 : List (String × DataW Unit) := [("dialtone/digest.round", Rows.laid_dialtone_digest_round)]
theorem gRound : Tryd.prog.globalNamed "dialtone/digest.round" = some 0 := by kernel_rfl
theorem tRound : (Tryd.prog.globals[0]?).map (·.type) = some 161 := by kernel_rfl
theorem mE : (Rows.laid_dialtone_digest_round : DataW Unit) = .agg ((kOf.map fun k => (k.toNat : Int)).map fun k => .lit (.int .u32 k)) := by kernel_rfl
theorem kL (os : Os) (args : Array Value) : laidMetH Tryd.prog laid1 ((World.doorLaid Tryd.prog 4000 os).forCall (fun _ _ => 0) ⟨#[], args, []⟩).memory :=
 laidMetH_of_parts3 (fuel := 8) (laidMet_of_run' 8 (by kernel_rfl) (by kernel_rfl)) (by kernel_rfl) (by kernel_rfl)
theorem i7 (os : Os) (args : Array Value) : ((World.doorLaid Tryd.prog 4000 os).forCall (fun _ _ => 0) ⟨#[], args, []⟩).Shaped Tryd.prog := World.shaped_of_RefB (by kernel_rfl) (by kernel_rfl)
theorem m5 {W : World} (h : laidMetH Tryd.prog laid1 W) (hs : W.ShapedOpen Tryd.prog) : (blk 0 (kOf.map wv) 161).ok W := by
 rw [MakeChecks.laidMetH_plain _ _ _ (by kernel_rfl)] at h
 obtain ⟨ps, ⟨g0, t0, cs0, f0, p0, q0, hg0, ht0, hv0, hd0, _, _⟩, _, _⟩ := h
 obtain rfl := Option.some.inj (gRound.symm.trans hg0)
 obtain rfl := Option.some.inj (tRound.symm.trans ht0)
 obtain ⟨cs, hcs, _, _⟩ := hs.1 0 (List.replicate 64 (.int .u32 0)).toArray 161 (of_decide_eq_true (by kernel_rfl)) (by kernel_rfl)
 have e : cs0 = cs := by
  have := hv0
  simp only [World.var?, gRound, Option.bind_some, hcs, Option.some.injEq] at this
  exact this.symm
 subst e
 have hw := iQ (ks := kOf.map fun k => (k.toNat : Int)) Tryd.underlying161 Tryd.underlying133 (by kernel_rfl) (by kernel_rfl) hd0 mE
 have hl : cs0 = (kOf.map wv).toArray := by
  apply Array.toList_inj.1
  rw [hw, List.map_map]; rfl
 show W.heap[0]? = some (.cells (kOf.map wv).toArray 161)
 rw [← hl]; exact hcs
end Go.Proofs.YtddfkkdanpmnaaaDoor
namespace Go.Proofs.YtddfkkdanpmnaaaDoor
open Go.RowKit Go.PW
set_option linter.unusedVariables false
set_option linter.unusedSimpArgs false
set_option maxRecDepth 4000
open Go.ChangeShapes Go.WideShapes Go.ChangeAt
section
variable {H : Type} {enc : TypeId × Value → H} {W : World} {base b0 : Nat} {sp : Nat → Bool} {hd : Bool} {v : Value} {d : DataW H} {ps : List MemPlace} {r : Reach}
theorem je {n : Int} (h : Go.PW.i64 n) : i64 n := h
theorem len5 {α : Type} {l : List α} (h : l.length = 5) : ∃ a0 a1 a2 a3 a4, l = [a0, a1, a2, a3, a4] := by
 match l, h with
 | [a0, a1, a2, a3, a4], _ => exact ⟨_, _, _, _, _, rfl⟩
theorem l3 {fuel : Nat} {cs : List Value} {x : DataW H × List MemPlace} (hl : cs.length = 5) (hw : Wt Tryd.prog 75 x.1) (h : DataW.trod enc Tryd.prog W base sp hd fuel 75 cs = some x) :
  ∃ (n0 : Int) (n1 : Int) (n2 : Int) (n3 : Int) (n4 : Int), cs = [iv n0, iv n1, iv n2, iv n3, iv n4] ∧ (i64 n0) ∧ (i64 n1) ∧ (i64 n2) ∧ (i64 n3) ∧ (i64 n4) := by
 obtain ⟨zs, hz, he, hy⟩ := kq 5 Tryd.underlying75 Tryd.underlying3 (by kernel_rfl) h hl
 obtain ⟨n0, n1, n2, n3, n4, rfl⟩ := len5 hz
 exact ⟨n0, n1, n2, n3, n4, he, hy n0 (by simp), hy n1 (by simp), hy n2 (by simp), hy n3 (by simp), hy n4 (by simp)⟩
theorem jU {fuel : Nat} {v : Value} {x : DataW H × List MemPlace} (hok : Cell.okWide Tryd.prog W r b0 22 v) (hw : Wt Tryd.prog 22 x.1) (h : DataW.trod enc Tryd.prog W base sp hd fuel 22 [v] = some x) :
  ∃ xs : List Rin, SlAt W v 5 (xs.map Rin.cells) ∧ ∀ a ∈ xs, a.wt := by
 obtain ⟨els, h1, h2⟩ := l6 5 Tryd.underlying22 (by kernel_rfl) (by decide) (of_decide_eq_true (by kernel_rfl)) hok hw h
 exact m3 (f := Rin.cells) (q := fun a => a.wt) h1 fun i hi => by
  obtain ⟨n, y, hy, hwy⟩ := h2 i hi
  obtain ⟨n0, n1, n2, n3, n4, he, hf⟩ := l3 (h1.1 _ (List.getElem_mem hi)) hwy hy
  exact ⟨⟨n0, n1, n2, n3, n4⟩, he, hf⟩
theorem jn (hval : Value.okWide Tryd.prog W r b0 22 v) (hw : Wt Tryd.prog 22 d) (hd0 : DataW.Trod enc Tryd.prog W base sp hd 22 v d ps) :
  ∃ xs : List Rin, SlAt W v 5 (xs.map Rin.cells) ∧ ∀ a ∈ xs, a.wt := by
 obtain ⟨fuel, hf⟩ := hd0
 have hcs : v.cells.toList = [v] := by
  rcases ft (by rw [Tryd.underlying22]) hval with h
  have : ∃ a n c, v = .slice a n c := by
   unfold Cell.okWide Cell.ok at h
   rw [Tryd.underlying22] at h
   cases v <;> simp_all
  obtain ⟨a, n, c, rfl⟩ := this
  rfl
 rw [hcs] at hf
 exact jU (ft (by rw [Tryd.underlying22]) hval) hw hf
end
end Go.Proofs.YtddfkkdanpmnaaaDoor
namespace Go.Proofs.YtddfkkdanpmnaaaDoor
open Go.RowKit Go.PW
set_option linter.unusedVariables false
set_option linter.unusedSimpArgs false
set_option maxRecDepth 4000
set_option maxHeartbeats 4000000 in
theorem iY (owner : Int) (xv : Value) (ys : List Rin) (kind at_ : Int) (w0 : World) (hxv : SlAt w0 xv 5 (ys.map Rin.cells)) (hys : ∀ y ∈ ys, y.wt) (hown : i64 owner) (h_kind : i64 kind) (h_at_ : i64 at_) (hk0 : (blk 0 (kOf.map wv) 161).ok w0) :
  Ret Tryd.prog 5 #[iv owner, xv, iv kind, iv at_] w0 fun v w => v = .bool true ∧ Ext No w0 w := by
 obtain ⟨o, ho⟩ : ∃ o, pickI owner 100 = o := ⟨_, rfl⟩
 obtain ⟨l, hl⟩ : ∃ l, madeR ys = l := ⟨_, rfl⟩
 have hlo : logOk o l = true := by rw [← ho, ← hl]; exact kY _ _
 have hll : l.length ≤ 12 := by rw [← hl, f9]; omega
 have hob := f6 hlo
 have hmt : ∀ x ∈ l, x.t ≤ 360 := by rw [← hl]; exact my _
 have hwna := hown.1
 have hwnb := hown.2
 have h_kind1 := h_kind.1
 have h_kind2 := h_kind.2
 have h_at_1 := h_at_.1
 have h_at_2 := h_at_.2
 obtain ⟨n, hn⟩ : ∃ n, findH o l (1 + pickI kind 3) (pickI at_ 450) = n := ⟨_, rfl⟩
 obtain ⟨hs1, hs2, hs3, hs4⟩ := j0 hlo hn
 have hpk := bt kind (n := 3) (by decide)
 have hpa := bt at_ (n := 450) (by decide)
 refine aB Tryd.func5 rfl Tryd.ntmps5 (lb rfl) fun a Z => ?_
 replace Z : Fr 88 [(0, _), (1, _), (2, _), (3, _)] [] a := Z
 replace Y : St No w0 [] w0 := St.init w0
 refine aa fun K1 hK1 => wla Z rfl fun a Z => ab (hK1 _ _ <| ag fun K2 hK2 => ?_)
 refine aa fun K3 hK3 => ar Z Y (by decide) Tryd.call9 rfl (l4 _ (Y.keepb hk0)) ?_
 clear Z Y
 intro a w1 Z Y
 refine wlv Z ((br rfl).asb (b' := false) rfl) fun a Z => ab (hK3 _ _ <| aK Z rfl ?_)
 refine au <| hK2 _ _ <| aa fun K4 hK4 => wlm Z rfl fun a Z => wlm Z rfl fun a Z => aW Z Y (by decide) Tryd.call10 rfl (nh ho hl (Y.arg hxv) hys hown) ?_
 clear Z Y
 intro a w2 x2 hp Z Y
 revert x2 hp Z Y; rintro lv1 hp Z Y
 clear hp
 replace Y : St No w0 [own lv1 27 5 ((l).map Rec.cells)] w2 := Y
 refine aL Z Y (by decide) (Tryd.zeroValue25 _) (cs := [iv 0, .slice none 0 0]) rfl ?_
 clear Z Y
 intro a w3 Z Y
 refine bw (us := [iv o, lv1]) 0 Z Y rfl rfl rfl (Tryd.sizeOf25 _) (by intro z hz; simp only [List.mem_cons, List.not_mem_nil, or_false] at hz; rcases hz with rfl | rfl <;> first | rfl | exact SlAt.one (Y.ownAt (i := 1) rfl)) (lb rfl) (ds := [iv o, lv1]) rfl rfl ?_
 clear Z Y
 intro a w4 Z Y
 refine ab (hK4 _ _ ?_)
 replace Z : Fr 88 [(2, _), (3, _), (8, _), (9, _)] [] a := Z.pick [2, 3, 8, 9]
 refine aa fun K5 hK5 => wlm Z rfl fun a Z => ar Z Y (by decide) Tryd.call19 rfl (iC kind 3 _ (by first | assumption | (unfold i64 at *; omega) | omega) (by omega)) ?_
 clear Z Y
 intro a w5 Z Y
 refine wlv Z (aR rfl rfl ⟨by omega, by omega⟩) fun a Z => wla Z rfl fun a Z => ab (hK5 _ _ <| aa fun K6 hK6 => ?_)
 refine wlm Z rfl fun a Z => ar Z Y (by decide) Tryd.call19 rfl (iC at_ 450 _ (by first | assumption | (unfold i64 at *; omega) | omega) (by omega)) ?_
 clear Z Y
 intro a w6 Z Y
 refine wla Z rfl fun a Z => ab (hK6 _ _ ?_)
 replace Z : Fr 88 [(8, _), (9, _), (10, _), (11, _)] [] a := Z.pick [8, 9, 10, 11]
 refine aa fun K7 hK7 => wlv Z (az (Y.get (k := 0) rfl) rfl (Tryd.isAgg25 _) (Tryd.sizeOf25 _)) fun a Z => wlm Z rfl fun a Z => wlm Z rfl fun a Z => ar Z Y (by decide) Tryd.call20 rfl (eS hn (eU o lv1 l (1 + pickI kind 3) (pickI at_ 450) _ (Y.ownAt (i := 1) rfl))) ?_
 clear Z Y
 intro a w7 Z Y
 refine wla Z rfl fun a Z => ab (hK7 _ _ <| ag fun K8 hK8 => ?_)
 refine aa fun K9 hK9 => wlm Z rfl fun a Z => wlv Z (v_lt rfl rfl) fun a Z => wlm Z rfl fun a Z => ?_
 rcases Bool.eq_false_or_eq_true (decide (n < -1)) with hb3 | hb3
 ·rw [hb3] at Z
  try simp only [qz] at hb3
  refine wln Z fun a Z => wln Z fun a Z => wln Z fun a Z => wln Z fun a Z => wln Z fun a Z => wlv Z (aA rfl rfl) fun a Z => wlm Z rfl fun a Z => wln Z fun a Z => ?_
  refine wln Z fun a Z => wln Z fun a Z => bh Z (by decide) rfl (by decide) rfl fun a Z => bh Z (by decide) rfl (by decide) rfl fun a Z => bh Z (by decide) rfl (by decide) rfl fun a Z => bh Z (by decide) rfl (by decide) rfl fun a Z => bh Z (by decide) rfl (by decide) rfl fun a Z => ?_
  refine bh Z (by decide) rfl (by decide) rfl fun a Z => bh Z (by decide) rfl (by decide) rfl fun a Z => bh Z (by decide) rfl (by decide) rfl fun a Z => bh Z (by decide) rfl (by decide) rfl fun a Z => bh Z (by decide) rfl (by decide) rfl fun a Z => bh Z (by decide) rfl (by decide) rfl fun a Z => bh Z (by decide) rfl (by decide) rfl fun a Z => ?_
  refine bh Z (by decide) rfl (by decide) rfl fun a Z => bh Z (by decide) rfl (by decide) rfl fun a Z => bh Z (by decide) rfl (by decide) rfl fun a Z => bh Z (by decide) rfl (by decide) rfl fun a Z => bh Z (by decide) rfl (by decide) rfl fun a Z => bh Z (by decide) rfl (by decide) rfl fun a Z => wln Z fun a Z => ?_
  refine wlv Z (aA rfl rfl) fun a Z => ab (hK9 _ _ ?_)
  replace Z : Fr 88 [(8, _), (9, _), (10, _), (11, _), (12, _), (60, _)] [] a := Z.pick [8, 9, 10, 11, 12, 60]
  refine aI Z rfl ?_
  refine aa fun K10 hK10 => wla Z rfl fun a Z => ab (hK10 _ _ <| aq ?_)
  refine al Z Tryd.results5 (ac rfl ae) ?_
  exfalso; omega
 rw [hb3] at Z
 try simp only [qz] at hb3
 refine wly Z (ai rfl) fun a Z => wly Z (am (v := .pointer (some ⟨w2.heap.size, 1, none⟩)) rfl (by kernel_rfl)) fun a Z => wly Z (ah (Y.get (k := 0) rfl) rfl (Tryd.isAgg23 _) rfl) fun a Z => wly Z ((aG (sT := 23) (Y.ownAt (i := 1) rfl) rfl rfl (Tryd.runUnderlying23 _)).asi (m' := (l.length : Int)) (by rw [List.length_map])) fun a Z => wly Z (v_ge rfl rfl) fun a Z => wlv Z (aw rfl rfl) fun a Z => wlm Z rfl fun a Z => ?_
 rcases Bool.eq_false_or_eq_true (decide ((l.length : Int) ≤ n)) with hb4 | hb4
 ·rw [hb4] at Z
  try simp only [qz] at hb4
  refine wln Z fun a Z => wln Z fun a Z => wln Z fun a Z => bh Z (by decide) rfl (by decide) rfl fun a Z => bh Z (by decide) rfl (by decide) rfl fun a Z => bh Z (by decide) rfl (by decide) rfl fun a Z => bh Z (by decide) rfl (by decide) rfl fun a Z => ?_
  refine bh Z (by decide) rfl (by decide) rfl fun a Z => bh Z (by decide) rfl (by decide) rfl fun a Z => bh Z (by decide) rfl (by decide) rfl fun a Z => bh Z (by decide) rfl (by decide) rfl fun a Z => bh Z (by decide) rfl (by decide) rfl fun a Z => bh Z (by decide) rfl (by decide) rfl fun a Z => bh Z (by decide) rfl (by decide) rfl fun a Z => ?_
  refine bh Z (by decide) rfl (by decide) rfl fun a Z => bh Z (by decide) rfl (by decide) rfl fun a Z => bh Z (by decide) rfl (by decide) rfl fun a Z => bh Z (by decide) rfl (by decide) rfl fun a Z => bh Z (by decide) rfl (by decide) rfl fun a Z => bh Z (by decide) rfl (by decide) rfl fun a Z => bh Z (by decide) rfl (by decide) rfl fun a Z => ?_
  refine wln Z fun a Z => wlv Z (aA rfl rfl) fun a Z => ab (hK9 _ _ ?_)
  replace Z : Fr 88 [(8, _), (9, _), (10, _), (11, _), (12, _), (60, _)] [] a := Z.pick [8, 9, 10, 11, 12, 60]
  refine aI Z rfl ?_
  refine aa fun K11 hK11 => wla Z rfl fun a Z => ab (hK11 _ _ <| aq ?_)
  refine al Z Tryd.results5 (ac rfl ae) ?_
  exfalso; omega
 rw [hb4] at Z
 try simp only [qz] at hb4
 refine wly Z (ai rfl) fun a Z => wly Z (v_ge rfl rfl) fun a Z => wly Z (ai rfl) fun a Z => ?_
 rcases Bool.eq_false_or_eq_true (decide (0 ≤ n)) with hb5 | hb5
 ·rw [hb5] at Z
  try simp only [qz] at hb5
  have hs3 := hs3 hb5
  have hnl : n.toNat < l.length := by omega
  refine wly Z (am (v := .pointer (some ⟨w2.heap.size, 1, none⟩)) rfl (by kernel_rfl)) fun a Z => wly Z (ah (Y.get (k := 0) rfl) rfl (Tryd.isAgg23 _) rfl) fun a Z => wly Z (ai rfl) fun a Z => wly Z ((aj (i := n) (sT := 23) (Y.ownAt (i := 1) rfl) rfl rfl (Tryd.runUnderlying23 _) (Tryd.sizeOf27 _) (by omega) (by rw [List.length_map]; omega)).as (v' := slAddr lv1 (n.toNat * 5)) (by rw [show (n).toNat = n.toNat from by omega])) fun a Z => wly Z (bI (k := n.toNat * 5) (j := 1) (Y.ownAt (i := 1) rfl) (i := n.toNat) (by rw [List.length_map]; omega) rfl (fun _ _ => by kernel_rfl)) fun a Z => wly Z (av (u := iv ((l.getD n.toNat Rec.z).kind)) (i := n.toNat) (j := 1) (Y.ownAt (i := 1) rfl) (by rw [List.length_map]; omega) rfl (Tryd.isAgg3 _) (by rw [bn Rec.z]; rfl)) fun a Z => wly Z (ai rfl) fun a Z => wly Z (v_ne rfl rfl) fun a Z => wly Z (ai rfl) fun a Z => ?_
  rcases Bool.eq_false_or_eq_true (!decide ((l.getD n.toNat Rec.z).kind = 1 + (pickI kind 3))) with hb6 | hb6
  ·rw [hb6] at Z
   try simp only [qz] at hb6
   refine wln Z fun a Z => wln Z fun a Z => wln Z fun a Z => wln Z fun a Z => wln Z fun a Z => wln Z fun a Z => wln Z fun a Z => ?_
   refine wln Z fun a Z => wly Z (aA rfl rfl) fun a Z => wly Z (aA rfl rfl) fun a Z => wlv Z (aw rfl rfl) fun a Z => ab (hK9 _ _ ?_)
   replace Z : Fr 88 [(8, _), (9, _), (10, _), (11, _), (12, _), (60, _)] [] a := Z.pick [8, 9, 10, 11, 12, 60]
   refine aI Z rfl ?_
   refine aa fun K12 hK12 => wla Z rfl fun a Z => ab (hK12 _ _ <| aq ?_)
   refine al Z Tryd.results5 (ac rfl ae) ?_
   exfalso; omega
  rw [hb6] at Z
  try simp only [qz] at hb6
  refine wly Z (am (v := .pointer (some ⟨w2.heap.size, 1, none⟩)) rfl (by kernel_rfl)) fun a Z => wly Z (ah (Y.get (k := 0) rfl) rfl (Tryd.isAgg23 _) rfl) fun a Z => wly Z (ai rfl) fun a Z => wly Z ((aj (i := n) (sT := 23) (Y.ownAt (i := 1) rfl) rfl rfl (Tryd.runUnderlying23 _) (Tryd.sizeOf27 _) (by omega) (by rw [List.length_map]; omega)).as (v' := slAddr lv1 (n.toNat * 5)) (by rw [show (n).toNat = n.toNat from by omega])) fun a Z => wly Z (bI (k := n.toNat * 5) (j := 0) (Y.ownAt (i := 1) rfl) (i := n.toNat) (by rw [List.length_map]; omega) rfl (fun _ _ => by kernel_rfl)) fun a Z => wly Z (av (u := iv ((l.getD n.toNat Rec.z).t)) (i := n.toNat) (j := 0) (Y.ownAt (i := 1) rfl) (by rw [List.length_map]; omega) rfl (Tryd.isAgg3 _) (by rw [bn Rec.z]; rfl)) fun a Z => wly Z (ai rfl) fun a Z => wly Z (v_gt rfl rfl) fun a Z => wly Z (aw rfl rfl) fun a Z => wly Z (aA rfl rfl) fun a Z => wlv Z (aw rfl rfl) fun a Z => ab (hK9 _ _ ?_)
  replace Z : Fr 88 [(8, _), (9, _), (10, _), (11, _), (12, _), (60, _)] [] a := Z.pick [8, 9, 10, 11, 12, 60]
  refine ay Z rfl (fun hc7 => ?_) (fun hc7 => ?_)
  ·rw [hc7] at Z
   try simp only [qz] at hc7
   refine aa fun K13 hK13 => wla Z rfl fun a Z => ab (hK13 _ _ <| aq ?_)
   refine al Z Tryd.results5 (ac rfl ae) ?_
   exfalso; omega
  rw [hc7] at Z
  try simp only [qz] at hc7
  refine au <| hK8 _ _ <| ag fun K14 hK14 => aa fun K15 hK15 => wlm Z rfl fun a Z => wlv Z (aR rfl rfl ⟨by omega, by omega⟩) fun a Z => wla Z rfl fun a Z => ab (hK15 _ _ ?_)
  refine ao ?_
  rw [show n + 1 = (((n + 1).toNat : Nat) : Int) from by omega] at Z
  refine aP (fun m a w => ∃ (k : Nat), m = l.length - k ∧ (k ≤ l.length) ∧ (n < (k : Int)) ∧ Fr 88 [(9, pt w2.heap.size), (10, iv (1 + (pickI kind 3))), (11, iv (pickI at_ 450)), (13, iv (k : Int))] [] a ∧ St No w0 [blk w2.heap.size [iv o, lv1] 25, own lv1 27 5 ((l).map Rec.cells)] w) _ ⟨(n + 1).toNat, rfl, (by omega), (by omega), Z.pick [9, 10, 11, 13], Y.select [0, 1] (by decide)⟩ ?_
  rintro _ a w8 ⟨k, rfl, hk, hkn, Z, Y⟩
  refine ag fun K16 hK16 => aa fun K17 hK17 => wlm Z rfl fun a Z => wlv Z (am (v := .pointer (some ⟨w2.heap.size, 1, none⟩)) rfl (by kernel_rfl)) fun a Z => wlv Z (ah (Y.get (k := 0) rfl) rfl (Tryd.isAgg23 _) rfl) fun a Z => wlv Z ((aG (sT := 23) (Y.ownAt (i := 1) rfl) rfl rfl (Tryd.runUnderlying23 _)).asi (m' := (l.length : Int)) (by rw [List.length_map])) fun a Z => wlv Z (v_lt rfl rfl) fun a Z => ?_
  refine ab (hK17 _ _ ?_)
  refine ay Z rfl (fun hc8 => ?_) (fun hc8 => ?_)
  ·rw [hc8] at Z
   try simp only [qz] at hc8
   have hs4 := hs4 k (by omega) (by omega)
   refine au <| hK16 _ _ <| ag fun K18 hK18 => ao <| aa fun K19 hK19 => wlv Z (am (v := .pointer (some ⟨w2.heap.size, 1, none⟩)) rfl (by kernel_rfl)) fun a Z => wlv Z (ah (Y.get (k := 0) rfl) rfl (Tryd.isAgg23 _) rfl) fun a Z => wlm Z rfl fun a Z => ?_
   refine wlv Z ((aj (i := (k : Int)) (sT := 23) (Y.ownAt (i := 1) rfl) rfl rfl (Tryd.runUnderlying23 _) (Tryd.sizeOf27 _) (by omega) (by rw [List.length_map]; omega)).as (v' := slAddr lv1 (k * 5)) rfl) fun a Z => wlv Z (bI (k := k * 5) (j := 1) (Y.ownAt (i := 1) rfl) (i := k) (by rw [List.length_map]; omega) rfl (fun _ _ => by kernel_rfl)) fun a Z => wlv Z (av (u := iv ((l.getD k Rec.z).kind)) (i := k) (j := 1) (Y.ownAt (i := 1) rfl) (by rw [List.length_map]; omega) rfl (Tryd.isAgg3 _) (by rw [bn Rec.z]; rfl)) fun a Z => wlm Z rfl fun a Z => wlv Z (v_eq rfl rfl) fun a Z => wlm Z rfl fun a Z => ?_
   rcases Bool.eq_false_or_eq_true (decide ((l.getD k Rec.z).kind = 1 + (pickI kind 3))) with hb9 | hb9
   ·rw [hb9] at Z
    try simp only [qz] at hb9
    refine wly Z (am (v := .pointer (some ⟨w2.heap.size, 1, none⟩)) rfl (by kernel_rfl)) fun a Z => wly Z (ah (Y.get (k := 0) rfl) rfl (Tryd.isAgg23 _) rfl) fun a Z => wly Z (ai rfl) fun a Z => wly Z ((aj (i := (k : Int)) (sT := 23) (Y.ownAt (i := 1) rfl) rfl rfl (Tryd.runUnderlying23 _) (Tryd.sizeOf27 _) (by omega) (by rw [List.length_map]; omega)).as (v' := slAddr lv1 (k * 5)) rfl) fun a Z => wly Z (bI (k := k * 5) (j := 0) (Y.ownAt (i := 1) rfl) (i := k) (by rw [List.length_map]; omega) rfl (fun _ _ => by kernel_rfl)) fun a Z => wly Z (av (u := iv ((l.getD k Rec.z).t)) (i := k) (j := 0) (Y.ownAt (i := 1) rfl) (by rw [List.length_map]; omega) rfl (Tryd.isAgg3 _) (by rw [bn Rec.z]; rfl)) fun a Z => wly Z (ai rfl) fun a Z => wly Z (v_le rfl rfl) fun a Z => wlv Z (aA rfl rfl) fun a Z => ab (hK19 _ _ ?_)
    replace Z : Fr 88 [(9, _), (10, _), (11, _), (13, _), (87, _)] [] a := Z.pick [9, 10, 11, 13, 87]
    refine ay Z rfl (fun hc10 => ?_) (fun hc10 => ?_)
    ·rw [hc10] at Z
     try simp only [qz] at hc10
     exact absurd ⟨hb9, hc10⟩ hs4
    rw [hc10] at Z
    try simp only [qz] at hc10
    refine au <| hK18 _ _ <| ap <| wlm Z rfl fun a Z => wlv Z (aR rfl rfl ⟨by omega, by omega⟩) fun a Z => wla Z rfl fun a Z => ab ?_
    refine ⟨_, ?_, k + 1, rfl, (by omega), (by omega), Z.pick [9, 10, 11, 13], Y.select [0, 1] (by decide)⟩
    omega
   rw [hb9] at Z
   try simp only [qz] at hb9
   refine wln Z fun a Z => wln Z fun a Z => wln Z fun a Z => wln Z fun a Z => wln Z fun a Z => wln Z fun a Z => wln Z fun a Z => ?_
   refine wln Z fun a Z => wlv Z (aw rfl rfl) fun a Z => ab (hK19 _ _ ?_)
   replace Z : Fr 88 [(9, _), (10, _), (11, _), (13, _), (87, _)] [] a := Z.pick [9, 10, 11, 13, 87]
   refine aK Z rfl ?_
   refine au <| hK18 _ _ <| ap <| wlm Z rfl fun a Z => wlv Z (aR rfl rfl ⟨by omega, by omega⟩) fun a Z => wla Z rfl fun a Z => ab ?_
   refine ⟨_, ?_, k + 1, rfl, (by omega), (by omega), Z.pick [9, 10, 11, 13], Y.select [0, 1] (by decide)⟩
   omega
  rw [hc8] at Z
  try simp only [qz] at hc8
  refine aH <| hK14 _ _ <| aa fun K20 hK20 => wla Z rfl fun a Z => ab (hK20 _ _ ?_)
  replace Z : Fr 88 [(8, _)] [] a := Z.pick [8]
  replace Y : St No w0 [_] w8 := Y.mask [false, true]
  refine aq ?_
  refine al Z Tryd.results5 (ac rfl ae) ?_
  exact ⟨rfl, Y.ext⟩
 rw [hb5] at Z
 try simp only [qz] at hb5
 refine wln Z fun a Z => wln Z fun a Z => wln Z fun a Z => wln Z fun a Z => wln Z fun a Z => wln Z fun a Z => wln Z fun a Z => ?_
 refine wln Z fun a Z => wln Z fun a Z => bh Z (by decide) rfl (by decide) rfl fun a Z => bh Z (by decide) rfl (by decide) rfl fun a Z => bh Z (by decide) rfl (by decide) rfl fun a Z => bh Z (by decide) rfl (by decide) rfl fun a Z => bh Z (by decide) rfl (by decide) rfl fun a Z => ?_
 refine bh Z (by decide) rfl (by decide) rfl fun a Z => bh Z (by decide) rfl (by decide) rfl fun a Z => bh Z (by decide) rfl (by decide) rfl fun a Z => wln Z fun a Z => wly Z (aw rfl rfl) fun a Z => wlv Z (aw rfl rfl) fun a Z => ab (hK9 _ _ ?_)
 replace Z : Fr 88 [(8, _), (9, _), (10, _), (11, _), (12, _), (60, _)] [] a := Z.pick [8, 9, 10, 11, 12, 60]
 refine aK Z rfl ?_
 refine au <| hK8 _ _ <| ag fun K21 hK21 => aa fun K22 hK22 => wlm Z rfl fun a Z => wlv Z (aR rfl rfl ⟨by omega, by omega⟩) fun a Z => wla Z rfl fun a Z => ab (hK22 _ _ ?_)
 refine ao ?_
 rw [show n + 1 = (((n + 1).toNat : Nat) : Int) from by omega] at Z
 refine aP (fun m a w => ∃ (k : Nat), m = l.length - k ∧ (k ≤ l.length) ∧ (n < (k : Int)) ∧ Fr 88 [(9, pt w2.heap.size), (10, iv (1 + (pickI kind 3))), (11, iv (pickI at_ 450)), (13, iv (k : Int))] [] a ∧ St No w0 [blk w2.heap.size [iv o, lv1] 25, own lv1 27 5 ((l).map Rec.cells)] w) _ ⟨(n + 1).toNat, rfl, (by omega), (by omega), Z.pick [9, 10, 11, 13], Y.select [0, 1] (by decide)⟩ ?_
 rintro _ a w9 ⟨k, rfl, hk, hkn, Z, Y⟩
 refine ag fun K23 hK23 => aa fun K24 hK24 => wlm Z rfl fun a Z => wlv Z (am (v := .pointer (some ⟨w2.heap.size, 1, none⟩)) rfl (by kernel_rfl)) fun a Z => wlv Z (ah (Y.get (k := 0) rfl) rfl (Tryd.isAgg23 _) rfl) fun a Z => wlv Z ((aG (sT := 23) (Y.ownAt (i := 1) rfl) rfl rfl (Tryd.runUnderlying23 _)).asi (m' := (l.length : Int)) (by rw [List.length_map])) fun a Z => wlv Z (v_lt rfl rfl) fun a Z => ?_
 refine ab (hK24 _ _ ?_)
 refine ay Z rfl (fun hc11 => ?_) (fun hc11 => ?_)
 ·rw [hc11] at Z
  try simp only [qz] at hc11
  have hs4 := hs4 k (by omega) (by omega)
  refine au <| hK23 _ _ <| ag fun K25 hK25 => ao <| aa fun K26 hK26 => wlv Z (am (v := .pointer (some ⟨w2.heap.size, 1, none⟩)) rfl (by kernel_rfl)) fun a Z => wlv Z (ah (Y.get (k := 0) rfl) rfl (Tryd.isAgg23 _) rfl) fun a Z => wlm Z rfl fun a Z => ?_
  refine wlv Z ((aj (i := (k : Int)) (sT := 23) (Y.ownAt (i := 1) rfl) rfl rfl (Tryd.runUnderlying23 _) (Tryd.sizeOf27 _) (by omega) (by rw [List.length_map]; omega)).as (v' := slAddr lv1 (k * 5)) rfl) fun a Z => wlv Z (bI (k := k * 5) (j := 1) (Y.ownAt (i := 1) rfl) (i := k) (by rw [List.length_map]; omega) rfl (fun _ _ => by kernel_rfl)) fun a Z => wlv Z (av (u := iv ((l.getD k Rec.z).kind)) (i := k) (j := 1) (Y.ownAt (i := 1) rfl) (by rw [List.length_map]; omega) rfl (Tryd.isAgg3 _) (by rw [bn Rec.z]; rfl)) fun a Z => wlm Z rfl fun a Z => wlv Z (v_eq rfl rfl) fun a Z => wlm Z rfl fun a Z => ?_
  rcases Bool.eq_false_or_eq_true (decide ((l.getD k Rec.z).kind = 1 + (pickI kind 3))) with hb12 | hb12
  ·rw [hb12] at Z
   try simp only [qz] at hb12
   refine wly Z (am (v := .pointer (some ⟨w2.heap.size, 1, none⟩)) rfl (by kernel_rfl)) fun a Z => wly Z (ah (Y.get (k := 0) rfl) rfl (Tryd.isAgg23 _) rfl) fun a Z => wly Z (ai rfl) fun a Z => wly Z ((aj (i := (k : Int)) (sT := 23) (Y.ownAt (i := 1) rfl) rfl rfl (Tryd.runUnderlying23 _) (Tryd.sizeOf27 _) (by omega) (by rw [List.length_map]; omega)).as (v' := slAddr lv1 (k * 5)) rfl) fun a Z => wly Z (bI (k := k * 5) (j := 0) (Y.ownAt (i := 1) rfl) (i := k) (by rw [List.length_map]; omega) rfl (fun _ _ => by kernel_rfl)) fun a Z => wly Z (av (u := iv ((l.getD k Rec.z).t)) (i := k) (j := 0) (Y.ownAt (i := 1) rfl) (by rw [List.length_map]; omega) rfl (Tryd.isAgg3 _) (by rw [bn Rec.z]; rfl)) fun a Z => wly Z (ai rfl) fun a Z => wly Z (v_le rfl rfl) fun a Z => wlv Z (aA rfl rfl) fun a Z => ab (hK26 _ _ ?_)
   replace Z : Fr 88 [(9, _), (10, _), (11, _), (13, _), (87, _)] [] a := Z.pick [9, 10, 11, 13, 87]
   refine ay Z rfl (fun hc13 => ?_) (fun hc13 => ?_)
   ·rw [hc13] at Z
    try simp only [qz] at hc13
    exact absurd ⟨hb12, hc13⟩ hs4
   rw [hc13] at Z
   try simp only [qz] at hc13
   refine au <| hK25 _ _ <| ap <| wlm Z rfl fun a Z => wlv Z (aR rfl rfl ⟨by omega, by omega⟩) fun a Z => wla Z rfl fun a Z => ab ?_
   refine ⟨_, ?_, k + 1, rfl, (by omega), (by omega), Z.pick [9, 10, 11, 13], Y.select [0, 1] (by decide)⟩
   omega
  rw [hb12] at Z
  try simp only [qz] at hb12
  refine wln Z fun a Z => wln Z fun a Z => wln Z fun a Z => wln Z fun a Z => wln Z fun a Z => wln Z fun a Z => wln Z fun a Z => ?_
  refine wln Z fun a Z => wlv Z (aw rfl rfl) fun a Z => ab (hK26 _ _ ?_)
  replace Z : Fr 88 [(9, _), (10, _), (11, _), (13, _), (87, _)] [] a := Z.pick [9, 10, 11, 13, 87]
  refine aK Z rfl ?_
  refine au <| hK25 _ _ <| ap <| wlm Z rfl fun a Z => wlv Z (aR rfl rfl ⟨by omega, by omega⟩) fun a Z => wla Z rfl fun a Z => ab ?_
  refine ⟨_, ?_, k + 1, rfl, (by omega), (by omega), Z.pick [9, 10, 11, 13], Y.select [0, 1] (by decide)⟩
  omega
 rw [hc11] at Z
 try simp only [qz] at hc11
 refine aH <| hK21 _ _ <| aa fun K27 hK27 => wla Z rfl fun a Z => ab (hK27 _ _ ?_)
 replace Z : Fr 88 [(8, _)] [] a := Z.pick [8]
 replace Y : St No w0 [_] w9 := Y.mask [false, true]
 refine aq ?_
 refine al Z Tryd.results5 (ac rfl ae) ?_
 exact ⟨rfl, Y.ext⟩
end Go.Proofs.YtddfkkdanpmnaaaDoor
