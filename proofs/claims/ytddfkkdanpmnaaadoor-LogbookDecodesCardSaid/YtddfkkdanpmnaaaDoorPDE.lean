/- Texts joined: LgI, LgJ, LgK, Laid, Door, OpenL, LawD. -/
import Derived.Test.YtddfkkdanpmnaaaDoorPDD
import Derived.Test.YtddfkkdanpmnaaaDoorPDA
import Derived.LaidMore
import Derived.OpenShut
import Derived.Stop.Joined
import Derived.SevenTiedAt
import Derived.ChangeMaps5
import Derived.Test.YtddfkkdanpmnaaaDoorRows
namespace Go.Proofs.YtddfkkdanpmnaaaDoor
open Go.RowKit Go.PW
set_option linter.unusedVariables false
set_option linter.unusedSimpArgs false
set_option maxRecDepth 4000
theorem gK (o : Int) (lv : Value) (l : List Rec) (w0 : World) (hlv : SlAt w0 lv 5 (l.map Rec.cells)) (hk0 : (blk 0 (kOf.map wv) 161).ok w0) :
  Ret Tryd.prog 27 #[.agg #[iv o, lv]] w0 fun v w => v = .tuple #[sv (headB o l), iv (headE o l)] ∧ Ext No w0 w := by
 refine aG Tryd.func27 rfl Tryd.ntmps27 (lb rfl) fun a Z => ?_
 replace Z : Fr 15 [(0, _)] [] a := Z
 replace Y : St No w0 [] w0 := St.init w0
 refine aa fun K1 hK1 => bn Z Y (by decide) rfl (cs := [iv o, lv]) rfl ?_
 clear Z Y
 intro a w1 Z Y
 refine wla Z rfl fun a Z => wla Z rfl fun a Z => ab (hK1 _ _ <| aa fun K2 hK2 => ?_)
 refine wlv Z (ar (Y.get (k := 0) rfl) rfl (Tryd.isAgg25 _) (Tryd.sizeOf25 _)) fun a Z => ?_
 rcases Bool.eq_false_or_eq_true (logOk o l) with hb1 | hb1
 ·try simp only [qz] at hb1
  have hlo : logOk o l = true := hb1
  have hll : l.length ≤ 60 := ce hlo
  refine aZ Z Y (by decide) Tryd.call62 rfl (eI o lv l _ (Y.arg hlv) hlo) ?_
  clear Z Y
  intro a w2 x3 hp Z Y
  revert x3 hp Z Y; rintro v2 hp Z Y
  clear hp
  replace Y : St No w0 [own v2 9 1 ((codesB l).map fun s => [sv s]), blk w0.heap.size [iv o, lv] 25] w2 := Y
  refine wlm Z rfl fun a Z => wlv Z (ag rfl rfl) fun a Z => wlv Z (ag rfl rfl) fun a Z => wla Z rfl fun a Z => wla Z rfl fun a Z => ab (hK2 _ _ ?_)
  replace Z : Fr 15 [(2, _), (3, _), (4, _), (5, _)] [] a := Z.pick [2, 3, 4, 5]
  replace Y : St No w0 [_] w2 := Y.mask [true, false]
  refine ac fun K3 hK3 => aa fun K4 hK4 => wlm Z rfl fun a Z => wlv Z ((bq rfl).asb (b' := false) rfl) fun a Z => ab (hK4 _ _ <| av Z rfl ?_)
  refine ao <| hK3 _ _ <| aa fun K5 hK5 => wlm Z rfl fun a Z => al Z Y (by decide) Tryd.call63 rfl (dQ v2 (codesB l) _ (Y.ownAt (i := 0) rfl) (by rw [fq]; omega) (fun k hk => Nat.le_trans (fI l _ (bx hk)) (by decide)) (Y.keepb hk0)) ?_
  clear Z Y
  intro a w3 Z Y
  refine wla Z rfl fun a Z => wla Z rfl fun a Z => ab (hK5 _ _ ?_)
  replace Z : Fr 15 [(2, _), (3, _)] [] a := Z.pick [2, 3]
  replace Y : St No w0 [] w3 := Y.mask [false]
  refine au ?_
  refine aq Z Tryd.results27 (ae rfl (ae rfl ah)) ?_
  exact ⟨by simp only [retv]; unfold headB headE; rw [if_pos hlo, if_pos hlo, dO (dj hlo)], Y.ext⟩
 try simp only [qz] at hb1
 have hlo : logOk o l = false := hb1
 have hll : l.length ≤ l.length := Nat.le_refl _
 refine al Z Y (by decide) Tryd.call62 rfl (lD o lv l _ (Y.arg hlv) hlo) ?_
 clear Z Y
 intro a w4 Z Y
 refine wlm Z rfl fun a Z => wlv Z (ag rfl rfl) fun a Z => wlv Z (ag rfl rfl) fun a Z => wla Z rfl fun a Z => wla Z rfl fun a Z => ab (hK2 _ _ ?_)
 replace Z : Fr 15 [(2, _), (3, _), (4, _), (5, _)] [] a := Z.pick [2, 3, 4, 5]
 replace Y : St No w0 [] w4 := Y.mask [false]
 refine ac fun K6 hK6 => aa fun K7 hK7 => wlm Z rfl fun a Z => wlv Z ((bq rfl).asb (b' := true) rfl) fun a Z => ab (hK7 _ _ <| aB Z rfl ?_)
 refine aa fun K8 hK8 => wla Z rfl fun a Z => wla Z rfl fun a Z => ab (hK8 _ _ <| au ?_)
 refine aq Z Tryd.results27 (ae rfl (ae rfl ah)) ?_
 exact ⟨by simp only [retv]; unfold headB headE; rw [hlo]; rfl, Y.ext⟩
theorem mA (key : By) (o : Int) (lv : Value) (l : List Rec) (w0 : World) (hlv : SlAt w0 lv 5 (l.map Rec.cells)) (hk0 : (blk 0 (kOf.map wv) 161).ok w0) :
  Ret Tryd.prog 36 #[sv key, .agg #[iv o, lv]] w0 fun v w => v = .tuple #[sv (signB key o l), iv (signE key o l)] ∧ Ext No w0 w := by
 refine aG Tryd.func36 rfl Tryd.ntmps36 (lb rfl) fun a Z => ?_
 replace Z : Fr 28 [(0, _), (1, _)] [] a := Z
 replace Y : St No w0 [] w0 := St.init w0
 refine aa fun K1 hK1 => bn Z Y (by decide) rfl (cs := [iv o, lv]) rfl ?_
 clear Z Y
 intro a w1 Z Y
 refine wla Z rfl fun a Z => wla Z rfl fun a Z => ab (hK1 _ _ <| aa fun K2 hK2 => ?_)
 refine wlv Z (ar (Y.get (k := 0) rfl) rfl (Tryd.isAgg25 _) (Tryd.sizeOf25 _)) fun a Z => al Z Y (by decide) Tryd.call27 rfl (gK o lv l _ (Y.arg hlv) (Y.keepb hk0)) ?_
 clear Z Y
 intro a w2 Z Y
 refine wlm Z rfl fun a Z => wlv Z (ag rfl rfl) fun a Z => wlv Z (ag rfl rfl) fun a Z => wla Z rfl fun a Z => wla Z rfl fun a Z => ab (hK2 _ _ ?_)
 replace Z : Fr 28 [(0, _), (3, _), (4, _), (5, _), (6, _), (7, _)] [] a := Z.pick [0, 3, 4, 5, 6, 7]
 refine ac fun K3 hK3 => aa fun K4 hK4 => wlm Z rfl fun a Z => wlv Z (v_ne rfl rfl) fun a Z => wlm Z rfl fun a Z => ?_
 rcases Bool.eq_false_or_eq_true (!decide (headE o l = 0)) with hb1 | hb1
 ·rw [hb1] at Z
  try simp only [qz] at hb1
  have hlo : logOk o l = false := by
   cases h : logOk o l with
   | false => rfl
   | true => exact absurd (eo.2 h) (by omega)
  have hsg : signOk key o l = false := by unfold signOk; rw [hlo]; rfl
  refine wln Z fun a Z => wln Z fun a Z => wln Z fun a Z => wlv Z (aE rfl rfl) fun a Z => ab (hK4 _ _ ?_)
  replace Z : Fr 28 [(0, _), (3, _), (4, _), (5, _), (6, _), (19, _)] [] a := Z.pick [0, 3, 4, 5, 6, 19]
  refine aB Z rfl ?_
  refine aa fun K5 hK5 => wla Z rfl fun a Z => wla Z rfl fun a Z => ab (hK5 _ _ <| au ?_)
  refine aq Z Tryd.results36 (ae rfl (ae rfl ah)) ?_
  exact ⟨by simp only [retv]; unfold signB signE; rw [hsg]; rfl, Y.ext⟩
 rw [hb1] at Z
 try simp only [qz] at hb1
 have hlo : logOk o l = true := eo.1 (by omega)
 have hob := kf hlo
 have hlb := ce hlo
 have hs0 : small o := by unfold small; omega
 have hs1 : small (l.length : Int) := by unfold small; omega
 have hr32 : (headB o l).length = 32 := by rw [ew hlo]; exact cf bP _
 refine wly Z (ai rfl) fun a Z => wly Z (aJ rfl rfl (Tryd.runUnderlying9 _)) fun a Z => wly Z (v_ne rfl rfl) fun a Z => wlv Z (aw rfl rfl) fun a Z => ab (hK4 _ _ ?_)
 replace Z : Fr 28 [(0, _), (3, _), (4, _), (5, _), (6, _), (19, _)] [] a := Z.pick [0, 3, 4, 5, 6, 19]
 refine aC Z rfl (fun hc2 => ?_) (fun hc2 => ?_)
 ·rw [hc2] at Z
  try simp only [qz] at hc2
  have hsg : signOk key o l = false := by unfold signOk; rw [hlo, decide_eq_false (by omega)]; rfl
  refine aa fun K6 hK6 => wla Z rfl fun a Z => wla Z rfl fun a Z => ab (hK6 _ _ <| au ?_)
  refine aq Z Tryd.results36 (ae rfl (ae rfl ah)) ?_
  exact ⟨by simp only [retv]; unfold signB signE; rw [hsg]; rfl, Y.ext⟩
 rw [hc2] at Z
 try simp only [qz] at hc2
 have hsg : signOk key o l = true := by unfold signOk; rw [hlo, decide_eq_true (by omega)]; rfl
 refine ao <| hK3 _ _ <| aa fun K7 hK7 => wlm Z rfl fun a Z => wlv Z (ay (v := pt w0.heap.size) rfl (by kernel_rfl)) fun a Z => wlv Z (aj (Y.get (k := 0) rfl) rfl (Tryd.isAgg3 _) rfl) fun a Z => wlv Z (ay (v := .pointer (some ⟨w0.heap.size, 1, none⟩)) rfl (by kernel_rfl)) fun a Z => ?_
 refine wlv Z (aj (Y.get (k := 0) rfl) rfl (Tryd.isAgg23 _) rfl) fun a Z => wlv Z ((aM (sT := 23) (Y.arg hlv) rfl rfl (Tryd.runUnderlying23 _)).asi (m' := (l.length : Int)) (by rw [List.length_map])) fun a Z => wlm Z rfl fun a Z => al Z Y (by decide) Tryd.call71 rfl (lK key o (l.length : Int) (headB o l) _ hs0 hs1 (by omega) (by omega) (Y.keepb hk0)) ?_
 clear Z Y
 intro a w3 Z Y
 refine wla Z rfl fun a Z => wla Z rfl fun a Z => ab (hK7 _ _ ?_)
 replace Z : Fr 28 [(4, _), (5, _)] [] a := Z.pick [4, 5]
 replace Y : St No w0 [] w3 := Y.mask [false]
 refine au ?_
 refine aq Z Tryd.results36 (ae rfl (ae rfl ah)) ?_
 exact ⟨by simp only [retv]; unfold signB signE; rw [if_pos hsg, if_pos hsg, ew hlo], Y.ext⟩
theorem iP {n a b : Int} (h : inB n a b = true) : a ≤ n ∧ n ≤ b := by simpa [inB] using h
set_option maxHeartbeats 4000000 in
theorem ej (key : By) (owner n : Int) (root t : By) (w0 : World) (hk0 : (blk 0 (kOf.map wv) 161).ok w0) :
  Ret Tryd.prog 37 #[sv key, iv owner, iv n, sv root, sv t] w0 fun v w => v = .bool (genR sha key owner n root t) ∧ Ext No w0 w := by
 refine aG Tryd.func37 rfl Tryd.ntmps37 (lb rfl) fun a Z => ?_
 replace Z : Fr 38 [(0, _), (1, _), (2, _), (3, _), (4, _)] [] a := Z
 replace Y : St No w0 [] w0 := St.init w0
 refine aa fun K1 hK1 => wla Z rfl fun a Z => ab (hK1 _ _ <| aa fun K2 hK2 => ?_)
 refine wlm Z rfl fun a Z => al Z Y (by decide) Tryd.call46 rfl (dx owner 0 99 _) ?_
 clear Z Y
 intro a w1 Z Y
 refine wlm Z rfl fun a Z => ?_
 rcases Bool.eq_false_or_eq_true (inB owner 0 99) with hb1 | hb1
 ·rw [hb1] at Z
  try simp only [qz] at hb1
  have hs0 : small owner := by have h9 := iP hb1; unfold small; omega
  refine wly Z (ai rfl) fun a Z => aW Z Y (by decide) rfl (by decide) rfl Tryd.call46 rfl (dx n 0 60 _) ?_
  clear Z Y
  intro a w2 Z Y
  refine wlv Z (aE rfl rfl) fun a Z => wla Z rfl fun a Z => ab (hK2 _ _ ?_)
  replace Z : Fr 38 [(0, _), (1, _), (2, _), (3, _), (4, _), (10, _), (11, _)] [] a := Z.pick [0, 1, 2, 3, 4, 10, 11]
  refine aa fun K3 hK3 => wlm Z rfl fun a Z => wlm Z rfl fun a Z => ?_
  rcases Bool.eq_false_or_eq_true (inB n 0 60) with hb2 | hb2
  ·rw [hb2] at Z
   try simp only [qz] at hb2
   have hs1 : small n := by have h9 := iP hb2; unfold small; omega
   refine wly Z (ai rfl) fun a Z => wly Z (aJ rfl rfl (Tryd.runUnderlying9 _)) fun a Z => wly Z (v_eq rfl rfl) fun a Z => wlv Z (aE rfl rfl) fun a Z => wlm Z rfl fun a Z => ?_
   rcases Bool.eq_false_or_eq_true (decide ((key.length : Int) = 32)) with hb3 | hb3
   ·rw [hb3] at Z
    try simp only [qz] at hb3
    refine wly Z (ai rfl) fun a Z => wly Z (aJ rfl rfl (Tryd.runUnderlying9 _)) fun a Z => wly Z (v_eq rfl rfl) fun a Z => wlv Z (aE rfl rfl) fun a Z => wlm Z rfl fun a Z => ?_
    rcases Bool.eq_false_or_eq_true (decide ((root.length : Int) = 32)) with hb4 | hb4
    ·rw [hb4] at Z
     try simp only [qz] at hb4
     refine wly Z (ai rfl) fun a Z => wly Z (ai rfl) fun a Z => wly Z (ai rfl) fun a Z => wly Z (ai rfl) fun a Z => wly Z (ai rfl) fun a Z => aW Z Y (by decide) rfl (by decide) rfl Tryd.call71 rfl (lK key owner n root _ hs0 hs1 (by omega) (by omega) (Y.keepb hk0)) ?_
     clear Z Y
     intro a w3 Z Y
     refine wly Z (dq rfl rfl) fun a Z => wlv Z (aE rfl rfl) fun a Z => wla Z rfl fun a Z => ab (hK3 _ _ ?_)
     replace Z : Fr 38 [(10, _)] [] a := Z.pick [10]
     refine au ?_
     refine aq Z Tryd.results37 (ae rfl ah) ?_
     refine ⟨?_, Y.ext⟩
     simp only [retv]
     refine congrArg Value.bool ?_
     unfold genR; rw [decide_eq_true (by omega : key.length = 32), decide_eq_true (by omega : root.length = 32), hb1, hb2]; rfl
    rw [hb4] at Z
    try simp only [qz] at hb4
    refine wln Z fun a Z => wln Z fun a Z => wln Z fun a Z => wln Z fun a Z => wln Z fun a Z => wln Z fun a Z => wln Z fun a Z => ?_
    refine wlv Z (aw rfl rfl) fun a Z => wla Z rfl fun a Z => ab (hK3 _ _ ?_)
    replace Z : Fr 38 [(10, _)] [] a := Z.pick [10]
    refine au ?_
    refine aq Z Tryd.results37 (ae rfl ah) ?_
    refine ⟨?_, Y.ext⟩
    simp only [retv]
    refine congrArg Value.bool ?_
    rw [eq_comm, Bool.eq_false_iff]; intro h; simp only [genR, Bool.and_eq_true, decide_eq_true_eq] at h
    first | (obtain ⟨⟨⟨⟨h1, h2⟩, h3⟩, h4⟩, h5⟩ := h; first | omega | (rw [h2] at hb4; cases hb4) | (rw [h3] at hb4; cases hb4))
   rw [hb3] at Z
   try simp only [qz] at hb3
   refine wln Z fun a Z => wln Z fun a Z => wln Z fun a Z => wlv Z (aw rfl rfl) fun a Z => wlm Z rfl fun a Z => wln Z fun a Z => wln Z fun a Z => wln Z fun a Z => ?_
   refine wln Z fun a Z => wln Z fun a Z => wln Z fun a Z => wln Z fun a Z => wlv Z (aw rfl rfl) fun a Z => wla Z rfl fun a Z => ab (hK3 _ _ ?_)
   replace Z : Fr 38 [(10, _)] [] a := Z.pick [10]
   refine au ?_
   refine aq Z Tryd.results37 (ae rfl ah) ?_
   refine ⟨?_, Y.ext⟩
   simp only [retv]
   refine congrArg Value.bool ?_
   rw [eq_comm, Bool.eq_false_iff]; intro h; simp only [genR, Bool.and_eq_true, decide_eq_true_eq] at h
   first | (obtain ⟨⟨⟨⟨h1, h2⟩, h3⟩, h4⟩, h5⟩ := h; first | omega | (rw [h2] at hb3; cases hb3) | (rw [h3] at hb3; cases hb3))
  rw [hb2] at Z
  try simp only [qz] at hb2
  refine wln Z fun a Z => wln Z fun a Z => wln Z fun a Z => wlv Z (aw rfl rfl) fun a Z => wlm Z rfl fun a Z => wln Z fun a Z => wln Z fun a Z => wln Z fun a Z => ?_
  refine wlv Z (aw rfl rfl) fun a Z => wlm Z rfl fun a Z => wln Z fun a Z => wln Z fun a Z => wln Z fun a Z => wln Z fun a Z => wln Z fun a Z => wln Z fun a Z => ?_
  refine wln Z fun a Z => wlv Z (aw rfl rfl) fun a Z => wla Z rfl fun a Z => ab (hK3 _ _ ?_)
  replace Z : Fr 38 [(10, _)] [] a := Z.pick [10]
  refine au ?_
  refine aq Z Tryd.results37 (ae rfl ah) ?_
  refine ⟨?_, Y.ext⟩
  simp only [retv]
  refine congrArg Value.bool ?_
  rw [eq_comm, Bool.eq_false_iff]; intro h; simp only [genR, Bool.and_eq_true, decide_eq_true_eq] at h
  first | (obtain ⟨⟨⟨⟨h1, h2⟩, h3⟩, h4⟩, h5⟩ := h; first | omega | (rw [h2] at hb2; cases hb2) | (rw [h3] at hb2; cases hb2))
 rw [hb1] at Z
 try simp only [qz] at hb1
 refine wln Z fun a Z => wln Z fun a Z => wlv Z (aw rfl rfl) fun a Z => wla Z rfl fun a Z => ab (hK2 _ _ ?_)
 replace Z : Fr 38 [(0, _), (1, _), (2, _), (3, _), (4, _), (10, _), (11, _)] [] a := Z.pick [0, 1, 2, 3, 4, 10, 11]
 refine aa fun K4 hK4 => wlm Z rfl fun a Z => wlm Z rfl fun a Z => wln Z fun a Z => wln Z fun a Z => wln Z fun a Z => wlv Z (aw rfl rfl) fun a Z => wlm Z rfl fun a Z => wln Z fun a Z => ?_
 refine wln Z fun a Z => wln Z fun a Z => wlv Z (aw rfl rfl) fun a Z => wlm Z rfl fun a Z => wln Z fun a Z => wln Z fun a Z => wln Z fun a Z => wln Z fun a Z => ?_
 refine wln Z fun a Z => wln Z fun a Z => wln Z fun a Z => wlv Z (aw rfl rfl) fun a Z => wla Z rfl fun a Z => ab (hK4 _ _ ?_)
 replace Z : Fr 38 [(10, _)] [] a := Z.pick [10]
 refine au ?_
 refine aq Z Tryd.results37 (ae rfl ah) ?_
 refine ⟨?_, Y.ext⟩
 simp only [retv]
 refine congrArg Value.bool ?_
 rw [eq_comm, Bool.eq_false_iff]; intro h; simp only [genR, Bool.and_eq_true, decide_eq_true_eq] at h
 first | (obtain ⟨⟨⟨⟨h1, h2⟩, h3⟩, h4⟩, h5⟩ := h; first | omega | (rw [h2] at hb1; cases hb1) | (rw [h3] at hb1; cases hb1))
theorem iS (root : By) (n i : Int) (x : Rec) (pv_ : Value) (ps : List By) (w0 : World) (hpv : SlAt w0 pv_ 1 (ps.map fun s => [sv s])) (hpl : ps.length ≤ 1000) (hn : i64 n) (hk0 : (blk 0 (kOf.map wv) 161).ok w0) :
  Ret Tryd.prog 29 #[sv root, iv n, iv i, .agg #[iv x.t, iv x.kind, iv x.a, iv x.b, sv x.text], pv_] w0 fun v w => v = .bool (checkB root n i x ps) ∧ Ext No w0 w := by
 refine aG Tryd.func29 rfl Tryd.ntmps29 (lb rfl) fun a Z => ?_
 replace Z : Fr 28 [(0, _), (1, _), (2, _), (3, _), (4, _)] [] a := Z
 replace Y : St No w0 [] w0 := St.init w0
 refine aa fun K1 hK1 => bn Z Y (by decide) rfl (cs := [iv x.t, iv x.kind, iv x.a, iv x.b, sv x.text]) rfl ?_
 clear Z Y
 intro a w1 Z Y
 refine wla Z rfl fun a Z => ab (hK1 _ _ <| aa fun K2 hK2 => ?_)
 refine wlv Z (ar (Y.get (k := 0) rfl) rfl (Tryd.isAgg27 _) (Tryd.sizeOf27 _)) fun a Z => al Z Y (by decide) Tryd.call22 rfl (fa x _) ?_
 clear Z Y
 intro a w2 Z Y
 refine wlm Z rfl fun a Z => wlv Z (ag rfl rfl) fun a Z => wlv Z (ag rfl rfl) fun a Z => wla Z rfl fun a Z => wla Z rfl fun a Z => ab (hK2 _ _ ?_)
 replace Z : Fr 28 [(0, _), (1, _), (2, _), (4, _), (10, _), (11, _), (12, _)] [] a := Z.pick [0, 1, 2, 4, 10, 11, 12]
 replace Y : St No w0 [] w2 := Y.mask [false]
 refine aa fun K3 hK3 => wlm Z rfl fun a Z => wlv Z (v_eq rfl rfl) fun a Z => wlm Z rfl fun a Z => ?_
 rcases Bool.eq_false_or_eq_true (decide (eE x = 0)) with hb1 | hb1
 ·rw [hb1] at Z
  try simp only [qz] at hb1
  have hxo : x.ok = true := by unfold eE at hb1; cases h : x.ok <;> simp_all
  refine wly Z (ai rfl) fun a Z => wly Z (ai rfl) fun a Z => wly Z (ai rfl) fun a Z => wly Z (ai rfl) fun a Z => wly Z (ai rfl) fun a Z => aW Z Y (by decide) rfl (by decide) rfl Tryd.call66 rfl (kA root (eB x) n i pv_ ps _ (Y.arg hpv) (by omega) (by have := mb x; omega) (by unfold i64 at hn; omega) (Y.keepb hk0)) ?_
  clear Z Y
  intro a w3 Z Y
  refine wlv Z (aE rfl rfl) fun a Z => wla Z rfl fun a Z => ab (hK3 _ _ ?_)
  replace Z : Fr 28 [(10, _)] [] a := Z.pick [10]
  refine au ?_
  refine aq Z Tryd.results29 (ae rfl ah) ?_
  exact ⟨by simp only [retv]; unfold checkB; rw [hxo, show eB x = x.enc from if_pos hxo]; rfl, Y.ext⟩
 rw [hb1] at Z
 try simp only [qz] at hb1
 have hxo : x.ok = false := by unfold eE at hb1; cases h : x.ok <;> simp_all
 refine wln Z fun a Z => wln Z fun a Z => wln Z fun a Z => wln Z fun a Z => wln Z fun a Z => wln Z fun a Z => wlv Z (aw rfl rfl) fun a Z => wla Z rfl fun a Z => ?_
 refine ab (hK3 _ _ ?_)
 replace Z : Fr 28 [(10, _)] [] a := Z.pick [10]
 refine au ?_
 refine aq Z Tryd.results29 (ae rfl ah) ?_
 exact ⟨by simp only [retv]; unfold checkB; rw [hxo]; rfl, Y.ext⟩
theorem gp (old : By) (n : Int) (root : By) (m : Int) (pv_ : Value) (ps : List By) (w0 : World) (hpv : SlAt w0 pv_ 1 (ps.map fun s => [sv s])) (hpl : ps.length ≤ 1000) (hm : i64 m) (hk0 : (blk 0 (kOf.map wv) 161).ok w0) :
  Ret Tryd.prog 43 #[sv old, iv n, sv root, iv m, pv_] w0 fun v w => v = .bool (bj sha old n root m ps) ∧ Ext No w0 w := by
 refine aG Tryd.func43 rfl Tryd.ntmps43 (lb rfl) fun a Z => ?_
 replace Z : Fr 17 [(0, _), (1, _), (2, _), (3, _), (4, _)] [] a := Z
 replace Y : St No w0 [] w0 := St.init w0
 refine aa fun K1 hK1 => wla Z rfl fun a Z => ab (hK1 _ _ <| aa fun K2 hK2 => ?_)
 refine wlm Z rfl fun a Z => wlm Z rfl fun a Z => wlm Z rfl fun a Z => wlm Z rfl fun a Z => wlm Z rfl fun a Z => al Z Y (by decide) Tryd.call73 rfl (je old root n m pv_ ps _ (Y.arg hpv) (by omega) (by unfold i64 at hm; omega) (Y.keepb hk0)) ?_
 clear Z Y
 intro a w1 Z Y
 refine wla Z rfl fun a Z => ab (hK2 _ _ ?_)
 replace Z : Fr 17 [(10, _)] [] a := Z.pick [10]
 refine au ?_
 refine aq Z Tryd.results43 (ae rfl ah) ?_
 exact ⟨by rfl, Y.ext⟩
theorem kw {o : Int} {l : List Rec} {v : Value} {i : Nat} {w0 : World} (hlo : logOk o l = true) (hv : SlAt w0 v 1 ((codesB l).map fun s => [sv s])) (hi : i < l.length) (hk0 : (blk 0 (kOf.map wv) 161).ok w0) : Ret Tryd.prog 65 #[v, iv (i : Int)] w0 (MemR w0 (fun v : Value => .tuple #[v, iv 0]) (fun v => [own v 9 1 ((proofH sha (codesR l) i).map fun s => [sv s])]) (fun _ => True)) := by
 rw [dO (dj hlo)] at hv
 have h60 := ce hlo
 exact k7 v (codesR l) i w0 hv (by rw [dX]; exact hi) (by rw [dX]; omega) (fun s h => Nat.le_trans (fd (dj hlo) s h) (by decide)) hk0
theorem f1 (o : Int) (lv : Value) (l : List Rec) (i : Nat) (w0 : World) (hlv : SlAt w0 lv 5 (l.map Rec.cells)) (hlo : logOk o l = true) (hi : i < l.length) (hk0 : (blk 0 (kOf.map wv) 161).ok w0) :
  Ret Tryd.prog 64 #[.agg #[iv o, lv], iv (i : Int), .func (.func 65) #[] #[]] w0 (MemR w0 (fun v : Value => .tuple #[v, iv 0]) (fun v => [own v 9 1 ((proofH sha (codesR l) i).map fun s => [sv s])]) (fun _ => True)) := by
 have hll := ce hlo
 refine aG Tryd.func64 rfl Tryd.ntmps64 (lb rfl) fun a Z => ?_
 replace Z : Fr 29 [(0, _), (1, _), (2, _)] [] a := Z
 replace Y : St No w0 [] w0 := St.init w0
 refine aa fun K1 hK1 => bn Z Y (by decide) rfl (cs := [iv o, lv]) rfl ?_
 clear Z Y
 intro a w1 Z Y
 refine wla Z rfl fun a Z => wla Z rfl fun a Z => ab (hK1 _ _ <| aa fun K2 hK2 => ?_)
 refine wlv Z (ar (Y.get (k := 0) rfl) rfl (Tryd.isAgg25 _) (Tryd.sizeOf25 _)) fun a Z => aZ Z Y (by decide) Tryd.call62 rfl (eI o lv l _ (Y.arg hlv) hlo) ?_
 clear Z Y
 intro a w2 x2 hp Z Y
 revert x2 hp Z Y; rintro v1 hp Z Y
 clear hp
 replace Y : St No w0 [own v1 9 1 ((codesB l).map fun s => [sv s]), blk w0.heap.size [iv o, lv] 25] w2 := Y
 refine wlm Z rfl fun a Z => wlv Z (ag rfl rfl) fun a Z => wlv Z (ag rfl rfl) fun a Z => wla Z rfl fun a Z => wla Z rfl fun a Z => ab (hK2 _ _ ?_)
 replace Z : Fr 29 [(1, _), (2, _), (6, _), (7, _), (8, _), (9, _)] [] a := Z.pick [1, 2, 6, 7, 8, 9]
 replace Y : St No w0 [_] w2 := Y.mask [true, false]
 refine ac fun K3 hK3 => aa fun K4 hK4 => wlm Z rfl fun a Z => wlv Z ((bq rfl).asb (b' := false) rfl) fun a Z => ab (hK4 _ _ <| av Z rfl ?_)
 refine ao <| hK3 _ _ <| aa fun K5 hK5 => wlm Z rfl fun a Z => wlm Z rfl fun a Z => wlm Z rfl fun a Z => f6 Z Y (by decide) rfl Tryd.call65 rfl (kw hlo (Y.ownAt (i := 0) rfl) hi (Y.keepb hk0)) ?_
 clear Z Y
 intro a w3 x4 hp Z Y
 revert x4 hp Z Y; rintro v3 - Z Y
 replace Y : St No w0 [own v3 9 1 ((proofH sha (codesR l) i).map fun s => [sv s]), own v1 9 1 ((codesB l).map fun s => [sv s])] w3 := Y
 refine wlm Z rfl fun a Z => wlv Z (ag rfl rfl) fun a Z => wlv Z (ag rfl rfl) fun a Z => wla Z rfl fun a Z => wla Z rfl fun a Z => ab (hK5 _ _ ?_)
 replace Z : Fr 29 [(6, _), (7, _), (10, _), (11, _)] [] a := Z.pick [6, 7, 10, 11]
 replace Y : St No w0 [_] w3 := Y.mask [true, false]
 refine ac fun K6 hK6 => aa fun K7 hK7 => wlm Z rfl fun a Z => wlv Z ((v_ne rfl rfl).asb (b' := false) rfl) fun a Z => ab (hK7 _ _ <| av Z rfl ?_)
 refine ao <| hK6 _ _ <| aa fun K8 hK8 => wlm Z rfl fun a Z => wla Z rfl fun a Z => wla Z rfl fun a Z => ab (hK8 _ _ <| au ?_)
 refine aq Z Tryd.results64 (ae rfl (ae rfl ah)) ?_
 exact ⟨v3, rfl, trivial, Y.ext, St.out (E := [own v3 9 1 ((proofH sha (codesR l) i).map fun s => [sv s])]) (H := []) (Y.select [0] (by decide))⟩
theorem jC (o : Int) (lv : Value) (l : List Rec) (i : Nat) (w0 : World) (hlv : SlAt w0 lv 5 (l.map Rec.cells)) (hll : l.length ≤ 1000) (hlo : logOk o l = true) (hi : i < l.length) (hk0 : (blk 0 (kOf.map wv) 161).ok w0) :
  Ret Tryd.prog 28 #[.agg #[iv o, lv], iv (i : Int)] w0 (MemR w0 (fun v : Value => .tuple #[v, iv 0]) (fun v => [own v 9 1 ((proofH sha (codesR l) i).map fun s => [sv s])]) (fun _ => True)) := by
 refine aG Tryd.func28 rfl Tryd.ntmps28 (lb rfl) fun a Z => ?_
 replace Z : Fr 11 [(0, _), (1, _)] [] a := Z
 replace Y : St No w0 [] w0 := St.init w0
 refine aa fun K1 hK1 => bn Z Y (by decide) rfl (cs := [iv o, lv]) rfl ?_
 clear Z Y
 intro a w1 Z Y
 refine wla Z rfl fun a Z => wla Z rfl fun a Z => ab (hK1 _ _ <| aa fun K2 hK2 => ?_)
 refine wlv Z (ar (Y.get (k := 0) rfl) rfl (Tryd.isAgg25 _) (Tryd.sizeOf25 _)) fun a Z => wlm Z rfl fun a Z => aZ Z Y (by decide) Tryd.call64 rfl (f1 o lv l i _ (Y.arg hlv) hlo hi (Y.keepb hk0)) ?_
 clear Z Y
 intro a w2 x2 hp Z Y
 revert x2 hp Z Y; rintro v1 hp Z Y
 clear hp
 replace Y : St No w0 [own v1 9 1 ((proofH sha (codesR l) i).map fun s => [sv s]), blk w0.heap.size [iv o, lv] 25] w2 := Y
 refine wlv Z (ag rfl rfl) fun a Z => wlv Z (ag rfl rfl) fun a Z => wla Z rfl fun a Z => wla Z rfl fun a Z => ab (hK2 _ _ ?_)
 replace Z : Fr 11 [(4, _), (5, _)] [] a := Z.pick [4, 5]
 replace Y : St No w0 [_] w2 := Y.mask [true, false]
 refine au ?_
 refine aq Z Tryd.results28 (ae rfl (ae rfl ah)) ?_
 exact ⟨v1, rfl, trivial, Y.ext, St.out (E := [own v1 9 1 ((proofH sha (codesR l) i).map fun s => [sv s])]) (H := []) (Y.select [0] (by decide))⟩
theorem mF (lv : Value) (ls : List By) (i : Nat) (w0 : World) (hlv : SlAt w0 lv 1 (ls.map fun s => [sv s])) (hi : i ≤ ls.length) (hln : ls.length ≤ 1000) (hls : ∀ s ∈ ls, s.length ≤ 40000000) (hk0 : (blk 0 (kOf.map wv) 161).ok w0) :
  Ret Tryd.prog 72 #[lv, iv (i : Int)] w0 (MemR w0 (fun v : Value => .tuple #[v, iv 0]) (fun v => [own v 9 1 ((extH sha ls i).map fun s => [sv s])]) (fun _ => True)) := by
 by_cases h : i = 0
 ·subst h
  refine (mc lv ls w0 hlv).mono ?_
  rintro v w ⟨rfl, hx⟩
  exact ⟨.slice none 0 0, rfl, trivial, hx, ed (gU _ _ _) (fun k hk => by cases hk)⟩
 ·have := nf lv ls i w0 hlv (by omega) hi hln hls hk0
  rw [extH, if_neg h]; exact this
theorem kn {o : Int} {l : List Rec} {v : Value} {i : Nat} {w0 : World} (hlo : logOk o l = true) (hv : SlAt w0 v 1 ((codesB l).map fun s => [sv s])) (hi : i ≤ l.length) (hk0 : (blk 0 (kOf.map wv) 161).ok w0) : Ret Tryd.prog 72 #[v, iv (i : Int)] w0 (MemR w0 (fun v : Value => .tuple #[v, iv 0]) (fun v => [own v 9 1 ((extH sha (codesR l) i).map fun s => [sv s])]) (fun _ => True)) := by
 rw [dO (dj hlo)] at hv
 have h60 := ce hlo
 exact mF v (codesR l) i w0 hv (by rw [dX]; exact hi) (by rw [dX]; omega) (fun s h => Nat.le_trans (fd (dj hlo) s h) (by decide)) hk0
theorem fY (o : Int) (lv : Value) (l : List Rec) (i : Nat) (w0 : World) (hlv : SlAt w0 lv 5 (l.map Rec.cells)) (hlo : logOk o l = true) (hi : i ≤ l.length) (hk0 : (blk 0 (kOf.map wv) 161).ok w0) :
  Ret Tryd.prog 64 #[.agg #[iv o, lv], iv (i : Int), .func (.func 72) #[] #[]] w0 (MemR w0 (fun v : Value => .tuple #[v, iv 0]) (fun v => [own v 9 1 ((extH sha (codesR l) i).map fun s => [sv s])]) (fun _ => True)) := by
 have hll := ce hlo
 refine aG Tryd.func64 rfl Tryd.ntmps64 (lb rfl) fun a Z => ?_
 replace Z : Fr 29 [(0, _), (1, _), (2, _)] [] a := Z
 replace Y : St No w0 [] w0 := St.init w0
 refine aa fun K1 hK1 => bn Z Y (by decide) rfl (cs := [iv o, lv]) rfl ?_
 clear Z Y
 intro a w1 Z Y
 refine wla Z rfl fun a Z => wla Z rfl fun a Z => ab (hK1 _ _ <| aa fun K2 hK2 => ?_)
 refine wlv Z (ar (Y.get (k := 0) rfl) rfl (Tryd.isAgg25 _) (Tryd.sizeOf25 _)) fun a Z => aZ Z Y (by decide) Tryd.call62 rfl (eI o lv l _ (Y.arg hlv) hlo) ?_
 clear Z Y
 intro a w2 x2 hp Z Y
 revert x2 hp Z Y; rintro v1 hp Z Y
 clear hp
 replace Y : St No w0 [own v1 9 1 ((codesB l).map fun s => [sv s]), blk w0.heap.size [iv o, lv] 25] w2 := Y
 refine wlm Z rfl fun a Z => wlv Z (ag rfl rfl) fun a Z => wlv Z (ag rfl rfl) fun a Z => wla Z rfl fun a Z => wla Z rfl fun a Z => ab (hK2 _ _ ?_)
 replace Z : Fr 29 [(1, _), (2, _), (6, _), (7, _), (8, _), (9, _)] [] a := Z.pick [1, 2, 6, 7, 8, 9]
 replace Y : St No w0 [_] w2 := Y.mask [true, false]
 refine ac fun K3 hK3 => aa fun K4 hK4 => wlm Z rfl fun a Z => wlv Z ((bq rfl).asb (b' := false) rfl) fun a Z => ab (hK4 _ _ <| av Z rfl ?_)
 refine ao <| hK3 _ _ <| aa fun K5 hK5 => wlm Z rfl fun a Z => wlm Z rfl fun a Z => wlm Z rfl fun a Z => f6 Z Y (by decide) rfl Tryd.call72 rfl (kn hlo (Y.ownAt (i := 0) rfl) hi (Y.keepb hk0)) ?_
 clear Z Y
 intro a w3 x4 hp Z Y
 revert x4 hp Z Y; rintro v3 - Z Y
 replace Y : St No w0 [own v3 9 1 ((extH sha (codesR l) i).map fun s => [sv s]), own v1 9 1 ((codesB l).map fun s => [sv s])] w3 := Y
 refine wlm Z rfl fun a Z => wlv Z (ag rfl rfl) fun a Z => wlv Z (ag rfl rfl) fun a Z => wla Z rfl fun a Z => wla Z rfl fun a Z => ab (hK5 _ _ ?_)
 replace Z : Fr 29 [(6, _), (7, _), (10, _), (11, _)] [] a := Z.pick [6, 7, 10, 11]
 replace Y : St No w0 [_] w3 := Y.mask [true, false]
 refine ac fun K6 hK6 => aa fun K7 hK7 => wlm Z rfl fun a Z => wlv Z ((v_ne rfl rfl).asb (b' := false) rfl) fun a Z => ab (hK7 _ _ <| av Z rfl ?_)
 refine ao <| hK6 _ _ <| aa fun K8 hK8 => wlm Z rfl fun a Z => wla Z rfl fun a Z => wla Z rfl fun a Z => ab (hK8 _ _ <| au ?_)
 refine aq Z Tryd.results64 (ae rfl (ae rfl ah)) ?_
 exact ⟨v3, rfl, trivial, Y.ext, St.out (E := [own v3 9 1 ((extH sha (codesR l) i).map fun s => [sv s])]) (H := []) (Y.select [0] (by decide))⟩
theorem jo (o : Int) (lv : Value) (l : List Rec) (i : Nat) (w0 : World) (hlv : SlAt w0 lv 5 (l.map Rec.cells)) (hll : l.length ≤ 1000) (hlo : logOk o l = true) (hi : i ≤ l.length) (hk0 : (blk 0 (kOf.map wv) 161).ok w0) :
  Ret Tryd.prog 42 #[.agg #[iv o, lv], iv (i : Int)] w0 (MemR w0 (fun v : Value => .tuple #[v, iv 0]) (fun v => [own v 9 1 ((extH sha (codesR l) i).map fun s => [sv s])]) (fun _ => True)) := by
 refine aG Tryd.func42 rfl Tryd.ntmps42 (lb rfl) fun a Z => ?_
 replace Z : Fr 11 [(0, _), (1, _)] [] a := Z
 replace Y : St No w0 [] w0 := St.init w0
 refine aa fun K1 hK1 => bn Z Y (by decide) rfl (cs := [iv o, lv]) rfl ?_
 clear Z Y
 intro a w1 Z Y
 refine wla Z rfl fun a Z => wla Z rfl fun a Z => ab (hK1 _ _ <| aa fun K2 hK2 => ?_)
 refine wlv Z (ar (Y.get (k := 0) rfl) rfl (Tryd.isAgg25 _) (Tryd.sizeOf25 _)) fun a Z => wlm Z rfl fun a Z => aZ Z Y (by decide) Tryd.call64 rfl (fY o lv l i _ (Y.arg hlv) hlo hi (Y.keepb hk0)) ?_
 clear Z Y
 intro a w2 x2 hp Z Y
 revert x2 hp Z Y; rintro v1 hp Z Y
 clear hp
 replace Y : St No w0 [own v1 9 1 ((extH sha (codesR l) i).map fun s => [sv s]), blk w0.heap.size [iv o, lv] 25] w2 := Y
 refine wlv Z (ag rfl rfl) fun a Z => wlv Z (ag rfl rfl) fun a Z => wla Z rfl fun a Z => wla Z rfl fun a Z => ab (hK2 _ _ ?_)
 replace Z : Fr 11 [(4, _), (5, _)] [] a := Z.pick [4, 5]
 replace Y : St No w0 [_] w2 := Y.mask [true, false]
 refine au ?_
 refine aq Z Tryd.results42 (ae rfl (ae rfl ah)) ?_
 exact ⟨v1, rfl, trivial, Y.ext, St.out (E := [own v1 9 1 ((extH sha (codesR l) i).map fun s => [sv s])]) (H := []) (Y.select [0] (by decide))⟩
end Go.Proofs.YtddfkkdanpmnaaaDoor
namespace Go.Proofs.YtddfkkdanpmnaaaDoor
open Go.RowKit Go.PW
set_option linter.unusedVariables false
set_option linter.unusedSimpArgs false
set_option maxRecDepth 4000
def exE : By := [20, 2, 14, 1, 8, 110, 101, 119, 115]
def exM : List Rec := exR ++ [⟨20, 3, 0, 0, []⟩]
def exRoot : By := rootH sha (codesR exR)
def exNext : By := rootH sha (codesR exM)
def exPf : List By := proofH sha (codesR exR) 1
def exQ : List By := extH sha (codesR exM) 3
def exTag : By := tagR sha (keyR 1) 4 3 exRoot
theorem fV {f : FuncId} {args : Array Value} {w : World} {a b : Value} (h : a = b) (hr : Ret Tryd.prog f args w fun v w' => v = a ∧ Ext No w w') : Ret Tryd.prog f args w fun v w' => v = b ∧ Ext No w w' := by subst h; exact hr
theorem cq {f : FuncId} {args : Array Value} {w : World} {b c : Bool} (h : b = c) (hr : Ret Tryd.prog f args w fun v w' => v = .bool b ∧ Ext No w w') : Ret Tryd.prog f args w fun v w' => v = .bool c ∧ Ext No w w' := by subst h; exact hr
theorem gy {f : FuncId} {args : Array Value} {w : World} {b c : Int} (h : b = c) (hr : Ret Tryd.prog f args w fun v w' => v = iv b ∧ Ext No w w') : Ret Tryd.prog f args w fun v w' => v = iv c ∧ Ext No w w' := by subst h; exact hr
theorem ex_eB : eB (exR.getD 0 Rec.z) = exE := by decide +kernel
theorem ex_eE : eE (exR.getD 0 Rec.z) = 0 := by decide +kernel
theorem ex_dX : decX exE = exR.getD 0 Rec.z := by decide +kernel
theorem ex_dE : decE exE = 0 := by decide +kernel
theorem fQ : logOk 4 exR = true := by decide +kernel
theorem gP : logOk 4 exM = true := by decide +kernel
theorem mu : logOk 100 [] = false := by decide +kernel
theorem ex_hB : headB 4 exR = exRoot := ew fQ
theorem ex_hE : headE 4 exR = 0 := eo.2 fQ
theorem nj : headB 4 exM = exNext := ew gP
theorem nu : headE 4 exM = 0 := eo.2 gP
theorem iQ (n : Int) : (keyR n).length = 32 := bP _
theorem m9 : signOk (keyR 1) 4 exR = true := by unfold signOk; rw [fQ, iQ]; rfl
theorem ex_sB : signB (keyR 1) 4 exR = exTag := if_pos m9
theorem ex_sE : signE (keyR 1) 4 exR = 0 := if_pos m9
theorem nq : addOk 4 exR ⟨19, 1, 0, 0, []⟩ = false := by decide +kernel
theorem nD : addOk 4 exR ⟨20, 3, 0, 0, []⟩ = true := by decide +kernel
theorem ex_f1 : findH 4 exR 1 9 = -1 := by decide +kernel
theorem ex_f2 : findH 4 exR 1 19 = 0 := by decide +kernel
theorem ex_f3 : findH 4 exR 1 20 = 2 := by decide +kernel
theorem e5 : exRoot = [21, 112, 33, 172, 240, 109, 75, 130, 191, 249, 217, 221, 50, 198, 0, 231, 116, 242, 6, 54, 79, 38, 84, 56, 148, 132, 237, 35, 98, 124, 34, 181] := by decide +kernel
theorem jD : exNext = [195, 244, 205, 59, 182, 231, 47, 220, 108, 75, 52, 189, 34, 70, 131, 114, 76, 87, 137, 243, 75, 37, 231, 109, 74, 49, 79, 149, 141, 24, 151, 82] := by decide +kernel
theorem jj : keyR 1 = [219, 193, 180, 201, 0, 255, 228, 141, 87, 91, 93, 165, 198, 56, 4, 1, 37, 246, 93, 176, 254, 62, 36, 73, 75, 118, 234, 152, 100, 87, 217, 134] := by decide +kernel
theorem l5 : exTag = [75, 183, 243, 190, 88, 89, 30, 0, 212, 159, 241, 14, 211, 216, 181, 111, 180, 45, 128, 188, 226, 87, 91, 67, 48, 251, 122, 74, 0, 4, 207, 40] := by unfold exTag; rw [jj, e5]; decide +kernel
theorem ex_c1 : checkB exRoot 3 1 (exR.getD 1 Rec.z) exPf = true := by
 have h := gH (S := sha) bP (l := codesR exR) (i := 1) (by decide)
 unfold checkB
 rw [show (exR.getD 1 Rec.z).ok = true from by decide, show (exR.getD 1 Rec.z).enc = (codesR exR).getD 1 [] from (lJ (by decide)).symm, Bool.true_and]
 exact h
theorem ex_c2 : checkB exRoot 3 0 (exR.getD 1 Rec.z) exPf = false := by rw [e5]; decide +kernel
theorem ex_g1 : bj sha exRoot 3 exNext 4 exQ = true := jf (S := sha) bP (l := codesR exM) (m := 3) (by decide)
theorem ex_g2 : bj sha exNext 3 exRoot 4 exQ = false := by rw [e5, jD]; decide +kernel
theorem ex_n1 : genR sha (keyR 1) 4 3 exRoot exTag = true := by
 unfold genR exTag
 rw [show exRoot.length = 32 from cf bP _, iQ, decide_eq_true rfl, decide_eq_true rfl]; rfl
theorem ex_n2 : genR sha (keyR 1) 5 3 exRoot exTag = false := by rw [l5, jj, e5]; decide +kernel
theorem ex_n3 : genR sha (keyR 1) 4 3 exNext exTag = false := by rw [l5, jj, jD]; decide +kernel
theorem m7 : exPf.length ≤ 8 := by decide +kernel
theorem m8 : exQ.length ≤ 8 := by decide +kernel
set_option maxHeartbeats 4000000 in
theorem mQ (w0 : World) (hk0 : (blk 0 (kOf.map wv) 161).ok w0) :
  Ret Tryd.prog 9 #[] w0 fun v w => v = .bool true ∧ Ext No w0 w := by
 refine aG Tryd.func9 rfl Tryd.ntmps9 (lb rfl) fun a Z => ?_
 replace Z : Fr 206 [] [] a := Z
 replace Y : St No w0 [] w0 := St.init w0
 refine aa fun K1 hK1 => wla Z rfl fun a Z => ab (hK1 _ _ <| aa fun K2 hK2 => ?_)
 refine aZ Z Y (by decide) Tryd.call41 rfl (jy _) ?_
 clear Z Y
 intro a w1 x2 hp Z Y
 revert x2 hp Z Y; rintro lv1 hp Z Y
 clear hp
 replace Y : St No w0 [own lv1 27 5 ((exR).map Rec.cells)] w1 := Y
 refine aD Z Y (by decide) (Tryd.zeroValue25 _) (cs := [iv 0, .slice none 0 0]) rfl ?_
 clear Z Y
 intro a w2 Z Y
 refine bT (us := [iv 4, lv1]) 0 Z Y rfl rfl rfl (Tryd.sizeOf25 _) (by intro z hz; simp only [List.mem_cons, List.not_mem_nil, or_false] at hz; rcases hz with rfl | rfl <;> first | rfl | exact SlAt.one (Y.ownAt (i := 1) rfl)) (lb rfl) (ds := [iv 4, lv1]) rfl rfl ?_
 clear Z Y
 intro a w3 Z Y
 refine ab (hK2 _ _ <| aa fun K3 hK3 => ?_)
 refine wlv Z (ay (v := .pointer (some ⟨w1.heap.size, 1, none⟩)) rfl (by kernel_rfl)) fun a Z => wlv Z (aj (Y.get (k := 0) rfl) rfl (Tryd.isAgg23 _) rfl) fun a Z => wlv Z ((ak (i := 0) (sT := 23) (Y.ownAt (i := 1) rfl) rfl rfl (Tryd.runUnderlying23 _) (Tryd.sizeOf27 _) (by omega) (by decide)).as (v' := slAddr lv1 (0 * 5)) rfl) fun a Z => wlv Z ((cA (Y.ownAt (i := 1) rfl) (i := 0) (by decide) rfl (Tryd.isAgg27 _) (Tryd.sizeOf27 _)).as (v' := .agg #[iv ((exR.getD 0 Rec.z).t), iv ((exR.getD 0 Rec.z).kind), iv ((exR.getD 0 Rec.z).a), iv ((exR.getD 0 Rec.z).b), sv ((exR.getD 0 Rec.z).text)]) (by rw [bE Rec.z]; rfl)) fun a Z => al Z Y (by decide) Tryd.call22 rfl (fV (by rw [ex_eB, ex_eE]) (fa (exR.getD 0 Rec.z) _)) ?_
 clear Z Y
 intro a w4 Z Y
 refine wlm Z rfl fun a Z => wlv Z (ag rfl rfl) fun a Z => wlv Z (ag rfl rfl) fun a Z => wla Z rfl fun a Z => wla Z rfl fun a Z => ab (hK3 _ _ ?_)
 replace Z : Fr 206 [(0, _), (1, _), (2, _), (3, _)] [] a := Z.pick [0, 1, 2, 3]
 refine aa fun K4 hK4 => wlm Z rfl fun a Z => al Z Y (by decide) Tryd.call24 rfl (fV (by rw [ex_dX, ex_dE]) (ju exE _ (by decide))) ?_
 clear Z Y
 intro a w5 Z Y
 refine wlm Z rfl fun a Z => wlv Z (ag rfl rfl) fun a Z => wlv Z (ag rfl rfl) fun a Z => aD Z Y (by decide) (Tryd.zeroValue27 _) (cs := [iv 0, iv 0, iv 0, iv 0, .string (⟨#[]⟩)]) rfl ?_
 clear Z Y
 intro a w6 Z Y
 refine az 0 Z Y rfl rfl rfl (Tryd.sizeOf27 _) rfl (lb rfl) (ds := [iv ((exR.getD 0 Rec.z).t), iv ((exR.getD 0 Rec.z).kind), iv ((exR.getD 0 Rec.z).a), iv ((exR.getD 0 Rec.z).b), sv ((exR.getD 0 Rec.z).text)]) rfl rfl ?_
 clear Z Y
 intro a w7 Z Y
 refine wla Z rfl fun a Z => ab (hK4 _ _ <| aa fun K5 hK5 => ?_)
 refine wlv Z (ar (Y.get (k := 1) rfl) rfl (Tryd.isAgg25 _) (Tryd.sizeOf25 _)) fun a Z => al Z Y (by decide) Tryd.call27 rfl (fV (by rw [ex_hB, ex_hE]) (gK 4 lv1 exR _ (Y.ownAt (i := 2) rfl) (Y.keepb hk0))) ?_
 clear Z Y
 intro a w8 Z Y
 refine wlm Z rfl fun a Z => wlv Z (ag rfl rfl) fun a Z => wlv Z (ag rfl rfl) fun a Z => wla Z rfl fun a Z => wla Z rfl fun a Z => ab (hK5 _ _ ?_)
 replace Z : Fr 206 [(0, _), (1, _), (2, _), (3, _), (4, _), (5, _), (6, _), (7, _)] [] a := Z.pick [0, 1, 2, 3, 4, 5, 6, 7]
 refine aa fun K6 hK6 => wlv Z (ar (Y.get (k := 1) rfl) rfl (Tryd.isAgg25 _) (Tryd.sizeOf25 _)) fun a Z => aZ Z Y (by decide) Tryd.call28 rfl (jC 4 lv1 exR 1 _ (Y.ownAt (i := 2) rfl) (by decide) fQ (by decide) (Y.keepb hk0)) ?_
 clear Z Y
 intro a w9 x4 hp Z Y
 revert x4 hp Z Y; rintro v3 hp Z Y
 clear hp
 replace Y : St No w0 [own v3 9 1 (exPf.map fun s => [sv s]), blk w5.heap.size [iv ((exR.getD 0 Rec.z).t), iv ((exR.getD 0 Rec.z).kind), iv ((exR.getD 0 Rec.z).a), iv ((exR.getD 0 Rec.z).b), sv ((exR.getD 0 Rec.z).text)] 27, blk w1.heap.size [iv 4, lv1] 25, own lv1 27 5 ((exR).map Rec.cells)] w9 := Y
 refine wlm Z rfl fun a Z => wlv Z (ag rfl rfl) fun a Z => wlv Z (ag rfl rfl) fun a Z => wla Z rfl fun a Z => wla Z rfl fun a Z => ab (hK6 _ _ <| aa fun K7 hK7 => ?_)
 refine wlv Z (ar (Y.get (k := 2) rfl) rfl (Tryd.isAgg25 _) (Tryd.sizeOf25 _)) fun a Z => wlv Z (bt (v := .agg #[iv 19, iv 1, iv 0, iv 0, sv ([] : By)]) rfl (by kernel_rfl)) fun a Z => aZ Z Y (by decide) Tryd.call13 rfl (mR 4 lv1 exR ⟨19, 1, 0, 0, []⟩ _ (Y.ownAt (i := 3) rfl) (by decide) nq) ?_
 clear Z Y
 intro a w10 x6 hp Z Y
 revert x6 hp Z Y; rintro lv5 hp Z Y
 clear hp
 replace Y : St No w0 [own lv5 27 5 ((([] : List Rec)).map Rec.cells), own v3 9 1 (exPf.map fun s => [sv s]), blk w5.heap.size [iv ((exR.getD 0 Rec.z).t), iv ((exR.getD 0 Rec.z).kind), iv ((exR.getD 0 Rec.z).a), iv ((exR.getD 0 Rec.z).b), sv ((exR.getD 0 Rec.z).text)] 27, blk w1.heap.size [iv 4, lv1] 25, own lv1 27 5 ((exR).map Rec.cells)] w10 := Y
 refine wlm Z rfl fun a Z => wlv Z (ag rfl rfl) fun a Z => wlv Z (ag rfl rfl) fun a Z => aD Z Y (by decide) (Tryd.zeroValue25 _) (cs := [iv 0, .slice none 0 0]) rfl ?_
 clear Z Y
 intro a w11 Z Y
 refine bT (us := [iv 0, lv5]) 0 Z Y rfl rfl rfl (Tryd.sizeOf25 _) (by intro z hz; simp only [List.mem_cons, List.not_mem_nil, or_false] at hz; rcases hz with rfl | rfl <;> first | rfl | exact SlAt.one (Y.ownAt (i := 1) rfl)) (lb rfl) (ds := [iv 0, lv5]) rfl rfl ?_
 clear Z Y
 intro a w12 Z Y
 refine wla Z rfl fun a Z => ab (hK7 _ _ ?_)
 replace Z : Fr 206 [(0, _), (1, _), (2, _), (3, _), (4, _), (5, _), (6, _), (7, _), (8, _), (9, _), (11, _)] [] a := Z.pick [0, 1, 2, 3, 4, 5, 6, 7, 8, 9, 11]
 replace Y : St No w0 [_, _, _, _, _] w12 := Y.mask [false, true, true, true, true, true]
 refine aa fun K8 hK8 => wlv Z (ar (Y.get (k := 3) rfl) rfl (Tryd.isAgg25 _) (Tryd.sizeOf25 _)) fun a Z => wlv Z (bt (v := .agg #[iv 20, iv 3, iv 0, iv 0, sv ([] : By)]) rfl (by kernel_rfl)) fun a Z => aZ Z Y (by decide) Tryd.call13 rfl (lg 4 lv1 exR ⟨20, 3, 0, 0, []⟩ _ (Y.ownAt (i := 4) rfl) (by decide) nD) ?_
 clear Z Y
 intro a w13 x8 hp Z Y
 revert x8 hp Z Y; rintro lv7 hp Z Y
 clear hp
 replace Y : St No w0 [own lv7 27 5 ((exM).map Rec.cells), own lv5 27 5 ((([] : List Rec)).map Rec.cells), own v3 9 1 (exPf.map fun s => [sv s]), blk w5.heap.size [iv ((exR.getD 0 Rec.z).t), iv ((exR.getD 0 Rec.z).kind), iv ((exR.getD 0 Rec.z).a), iv ((exR.getD 0 Rec.z).b), sv ((exR.getD 0 Rec.z).text)] 27, blk w1.heap.size [iv 4, lv1] 25, own lv1 27 5 ((exR).map Rec.cells)] w13 := Y
 refine wlm Z rfl fun a Z => wlv Z (ag rfl rfl) fun a Z => wlv Z (ag rfl rfl) fun a Z => aD Z Y (by decide) (Tryd.zeroValue25 _) (cs := [iv 0, .slice none 0 0]) rfl ?_
 clear Z Y
 intro a w14 Z Y
 refine bT (us := [iv 4, lv7]) 0 Z Y rfl rfl rfl (Tryd.sizeOf25 _) (by intro z hz; simp only [List.mem_cons, List.not_mem_nil, or_false] at hz; rcases hz with rfl | rfl <;> first | rfl | exact SlAt.one (Y.ownAt (i := 1) rfl)) (lb rfl) (ds := [iv 4, lv7]) rfl rfl ?_
 clear Z Y
 intro a w15 Z Y
 refine wla Z rfl fun a Z => ab (hK8 _ _ ?_)
 replace Z : Fr 206 [(0, _), (1, _), (2, _), (3, _), (4, _), (5, _), (6, _), (7, _), (8, _), (9, _), (11, _), (12, _), (13, _)] [] a := Z.pick [0, 1, 2, 3, 4, 5, 6, 7, 8, 9, 11, 12, 13]
 replace Y : St No w0 [_, _, _, _, _, _] w15 := Y.mask [true, true, false, true, true, true, true]
 refine aa fun K9 hK9 => wlv Z (ar (Y.get (k := 0) rfl) rfl (Tryd.isAgg25 _) (Tryd.sizeOf25 _)) fun a Z => aZ Z Y (by decide) Tryd.call42 rfl (jo 4 lv7 exM 3 _ (Y.ownAt (i := 1) rfl) (by decide) gP (by decide) (Y.keepb hk0)) ?_
 clear Z Y
 intro a w16 x10 hp Z Y
 revert x10 hp Z Y; rintro v9 hp Z Y
 clear hp
 replace Y : St No w0 [own v9 9 1 (exQ.map fun s => [sv s]), blk w13.heap.size [iv 4, lv7] 25, own lv7 27 5 ((exM).map Rec.cells), own v3 9 1 (exPf.map fun s => [sv s]), blk w5.heap.size [iv ((exR.getD 0 Rec.z).t), iv ((exR.getD 0 Rec.z).kind), iv ((exR.getD 0 Rec.z).a), iv ((exR.getD 0 Rec.z).b), sv ((exR.getD 0 Rec.z).text)] 27, blk w1.heap.size [iv 4, lv1] 25, own lv1 27 5 ((exR).map Rec.cells)] w16 := Y
 refine wlm Z rfl fun a Z => wlv Z (ag rfl rfl) fun a Z => wlv Z (ag rfl rfl) fun a Z => wla Z rfl fun a Z => wla Z rfl fun a Z => ab (hK9 _ _ <| aa fun K10 hK10 => ?_)
 refine wlv Z (ar (Y.get (k := 1) rfl) rfl (Tryd.isAgg25 _) (Tryd.sizeOf25 _)) fun a Z => al Z Y (by decide) Tryd.call27 rfl (fV (by rw [nj, nu]) (gK 4 lv7 exM _ (Y.ownAt (i := 2) rfl) (Y.keepb hk0))) ?_
 clear Z Y
 intro a w17 Z Y
 refine wlm Z rfl fun a Z => wlv Z (ag rfl rfl) fun a Z => wlv Z (ag rfl rfl) fun a Z => wla Z rfl fun a Z => wla Z rfl fun a Z => ab (hK10 _ _ ?_)
 replace Z : Fr 206 [(0, _), (1, _), (2, _), (3, _), (4, _), (5, _), (6, _), (7, _), (8, _), (9, _), (11, _), (12, _), (13, _), (14, _), (15, _), (16, _), (17, _)] [] a := Z.pick [0, 1, 2, 3, 4, 5, 6, 7, 8, 9, 11, 12, 13, 14, 15, 16, 17]
 refine aa fun K11 hK11 => al Z Y (by decide) Tryd.call35 rfl (mU 1 _ (by unfold i64; omega)) ?_
 clear Z Y
 intro a w18 Z Y
 refine wla Z rfl fun a Z => ab (hK11 _ _ <| aa fun K12 hK12 => ?_)
 refine wlm Z rfl fun a Z => wlv Z (ar (Y.get (k := 5) rfl) rfl (Tryd.isAgg25 _) (Tryd.sizeOf25 _)) fun a Z => al Z Y (by decide) Tryd.call36 rfl (fV (by rw [ex_sB, ex_sE]) (mA (keyR 1) 4 lv1 exR _ (Y.ownAt (i := 6) rfl) (Y.keepb hk0))) ?_
 clear Z Y
 intro a w19 Z Y
 refine wlm Z rfl fun a Z => wlv Z (ag rfl rfl) fun a Z => wlv Z (ag rfl rfl) fun a Z => wla Z rfl fun a Z => wla Z rfl fun a Z => ab (hK12 _ _ ?_)
 replace Z : Fr 206 [(0, _), (1, _), (2, _), (3, _), (4, _), (5, _), (6, _), (7, _), (8, _), (9, _), (11, _), (12, _), (13, _), (14, _), (15, _), (16, _), (17, _), (18, _), (19, _), (20, _)] [] a := Z.pick [0, 1, 2, 3, 4, 5, 6, 7, 8, 9, 11, 12, 13, 14, 15, 16, 17, 18, 19, 20]
 refine ac fun K13 hK13 => aa fun K14 hK14 => wlm Z rfl fun a Z => wlv Z ((v_ne rfl rfl).asb (b' := false) rfl) fun a Z => wlm Z rfl fun a Z => wly Z (ai rfl) fun a Z => wly Z ((v_ne rfl rfl).asb (b' := false) rfl) fun a Z => wlv Z (aw rfl rfl) fun a Z => wlm Z rfl fun a Z => wly Z (ai rfl) fun a Z => wly Z ((v_ne rfl rfl).asb (b' := false) rfl) fun a Z => wlv Z (aw rfl rfl) fun a Z => wlm Z rfl fun a Z => wly Z (ai rfl) fun a Z => wly Z ((v_ne rfl rfl).asb (b' := false) rfl) fun a Z => wlv Z (aw rfl rfl) fun a Z => wlm Z rfl fun a Z => wly Z (ai rfl) fun a Z => wly Z ((v_ne rfl rfl).asb (b' := false) rfl) fun a Z => ?_
 refine wlv Z (aw rfl rfl) fun a Z => wlm Z rfl fun a Z => wly Z (ai rfl) fun a Z => wly Z ((v_ne rfl rfl).asb (b' := false) rfl) fun a Z => wlv Z (aw rfl rfl) fun a Z => wlm Z rfl fun a Z => wly Z (ai rfl) fun a Z => wly Z ((v_ne rfl rfl).asb (b' := false) rfl) fun a Z => wlv Z (aw rfl rfl) fun a Z => wlm Z rfl fun a Z => wly Z (ai rfl) fun a Z => wly Z ((v_ne rfl rfl).asb (b' := false) rfl) fun a Z => wlv Z (aw rfl rfl) fun a Z => wlm Z rfl fun a Z => wly Z (ai rfl) fun a Z => wly Z ((v_ne rfl rfl).asb (b' := false) rfl) fun a Z => wlv Z (aw rfl rfl) fun a Z => ab (hK14 _ _ ?_)
 replace Z : Fr 206 [(0, _), (1, _), (2, _), (4, _), (6, _), (8, _), (12, _), (14, _), (16, _), (18, _), (19, _), (110, _)] [] a := Z.pick [0, 1, 2, 4, 6, 8, 12, 14, 16, 18, 19, 110]
 refine av Z rfl ?_
 refine ao <| hK13 _ _ <| aa fun K15 hK15 => wlm Z rfl fun a Z => wlv Z (ay (v := .pointer (some ⟨w1.heap.size, 1, none⟩)) rfl (by kernel_rfl)) fun a Z => wlv Z (aj (Y.get (k := 5) rfl) rfl (Tryd.isAgg23 _) rfl) fun a Z => wlv Z ((ak (i := 1) (sT := 23) (Y.ownAt (i := 6) rfl) rfl rfl (Tryd.runUnderlying23 _) (Tryd.sizeOf27 _) (by omega) (by decide)).as (v' := slAddr lv1 (1 * 5)) rfl) fun a Z => ?_
 refine wlv Z ((cA (Y.ownAt (i := 6) rfl) (i := 1) (by decide) rfl (Tryd.isAgg27 _) (Tryd.sizeOf27 _)).as (v' := .agg #[iv ((exR.getD 1 Rec.z).t), iv ((exR.getD 1 Rec.z).kind), iv ((exR.getD 1 Rec.z).a), iv ((exR.getD 1 Rec.z).b), sv ((exR.getD 1 Rec.z).text)]) (by rw [bE Rec.z]; rfl)) fun a Z => wlm Z rfl fun a Z => al Z Y (by decide) Tryd.call29 rfl (cq ex_c1 (iS exRoot 3 1 (exR.getD 1 Rec.z) v3 exPf _ (Y.ownAt (i := 3) rfl) (by have := m7; omega) (by unfold i64; omega) (Y.keepb hk0))) ?_
 clear Z Y
 intro a w20 Z Y
 refine wlm Z rfl fun a Z => wly Z (ai rfl) fun a Z => wly Z (ay (v := .pointer (some ⟨w1.heap.size, 1, none⟩)) rfl (by kernel_rfl)) fun a Z => wly Z (aj (Y.get (k := 5) rfl) rfl (Tryd.isAgg23 _) rfl) fun a Z => wly Z ((ak (i := 1) (sT := 23) (Y.ownAt (i := 6) rfl) rfl rfl (Tryd.runUnderlying23 _) (Tryd.sizeOf27 _) (by omega) (by decide)).as (v' := slAddr lv1 (1 * 5)) rfl) fun a Z => wly Z ((cA (Y.ownAt (i := 6) rfl) (i := 1) (by decide) rfl (Tryd.isAgg27 _) (Tryd.sizeOf27 _)).as (v' := .agg #[iv ((exR.getD 1 Rec.z).t), iv ((exR.getD 1 Rec.z).kind), iv ((exR.getD 1 Rec.z).a), iv ((exR.getD 1 Rec.z).b), sv ((exR.getD 1 Rec.z).text)]) (by rw [bE Rec.z]; rfl)) fun a Z => wly Z (ai rfl) fun a Z => aW Z Y (by decide) rfl (by decide) rfl Tryd.call29 rfl (cq ex_c2 (iS exRoot 3 0 (exR.getD 1 Rec.z) v3 exPf _ (Y.ownAt (i := 3) rfl) (by have := m7; omega) (by unfold i64; omega) (Y.keepb hk0))) ?_
 clear Z Y
 intro a w21 Z Y
 refine wly Z ((bq rfl).asb (b' := true) rfl) fun a Z => wlv Z (aE rfl rfl) fun a Z => wlm Z rfl fun a Z => wly Z (ai rfl) fun a Z => wly Z (ai rfl) fun a Z => wly Z (ai rfl) fun a Z => aW Z Y (by decide) rfl (by decide) rfl Tryd.call43 rfl (cq ex_g1 (gp exRoot 3 exNext 4 v9 exQ _ (Y.ownAt (i := 0) rfl) (by have := m8; omega) (by unfold i64; omega) (Y.keepb hk0))) ?_
 clear Z Y
 intro a w22 Z Y
 refine wlv Z (aE rfl rfl) fun a Z => wlm Z rfl fun a Z => wly Z (ai rfl) fun a Z => wly Z (ai rfl) fun a Z => wly Z (ai rfl) fun a Z => aW Z Y (by decide) rfl (by decide) rfl Tryd.call43 rfl (cq ex_g2 (gp exNext 3 exRoot 4 v9 exQ _ (Y.ownAt (i := 0) rfl) (by have := m8; omega) (by unfold i64; omega) (Y.keepb hk0))) ?_
 clear Z Y
 intro a w23 Z Y
 refine wly Z ((bq rfl).asb (b' := true) rfl) fun a Z => wlv Z (aE rfl rfl) fun a Z => wla Z rfl fun a Z => ab (hK15 _ _ ?_)
 replace Z : Fr 206 [(0, _), (1, _), (2, _), (4, _), (6, _), (12, _), (16, _), (18, _), (19, _), (21, _)] [] a := Z.pick [0, 1, 2, 4, 6, 12, 16, 18, 19, 21]
 replace Y : St No w0 [_, _, _, _, _] w23 := Y.mask [false, true, true, false, true, true, true]
 refine aa fun K16 hK16 => wlm Z rfl fun a Z => wlm Z rfl fun a Z => wlm Z rfl fun a Z => al Z Y (by decide) Tryd.call37 rfl (cq ex_n1 (ej (keyR 1) 4 3 exRoot exTag _ (Y.keepb hk0))) ?_
 clear Z Y
 intro a w24 Z Y
 refine wlm Z rfl fun a Z => wly Z (ai rfl) fun a Z => wly Z (ai rfl) fun a Z => wly Z (ai rfl) fun a Z => aW Z Y (by decide) rfl (by decide) rfl Tryd.call37 rfl (cq ex_n2 (ej (keyR 1) 5 3 exRoot exTag _ (Y.keepb hk0))) ?_
 clear Z Y
 intro a w25 Z Y
 refine wly Z ((bq rfl).asb (b' := true) rfl) fun a Z => wlv Z (aE rfl rfl) fun a Z => wlm Z rfl fun a Z => wly Z (ai rfl) fun a Z => wly Z (ai rfl) fun a Z => wly Z (ai rfl) fun a Z => aW Z Y (by decide) rfl (by decide) rfl Tryd.call37 rfl (cq ex_n3 (ej (keyR 1) 4 3 exNext exTag _ (Y.keepb hk0))) ?_
 clear Z Y
 intro a w26 Z Y
 refine wly Z ((bq rfl).asb (b' := true) rfl) fun a Z => wlv Z (aE rfl rfl) fun a Z => wla Z rfl fun a Z => ab (hK16 _ _ ?_)
 replace Z : Fr 206 [(0, _), (1, _), (2, _), (4, _), (12, _), (21, _), (22, _)] [] a := Z.pick [0, 1, 2, 4, 12, 21, 22]
 refine aa fun K17 hK17 => wlv Z (ar (Y.get (k := 3) rfl) rfl (Tryd.isAgg25 _) (Tryd.sizeOf25 _)) fun a Z => al Z Y (by decide) Tryd.call20 rfl (gy ex_f1 (gT 4 lv1 exR 1 9 _ (Y.ownAt (i := 4) rfl))) ?_
 clear Z Y
 intro a w27 Z Y
 refine wlv Z ((v_eq rfl rfl).asb (b' := true) rfl) fun a Z => wlm Z rfl fun a Z => wly Z (ar (Y.get (k := 3) rfl) rfl (Tryd.isAgg25 _) (Tryd.sizeOf25 _)) fun a Z => aW Z Y (by decide) rfl (by decide) rfl Tryd.call20 rfl (gy ex_f2 (gT 4 lv1 exR 1 19 _ (Y.ownAt (i := 4) rfl))) ?_
 clear Z Y
 intro a w28 Z Y
 refine wly Z ((v_eq rfl rfl).asb (b' := true) rfl) fun a Z => wlv Z (aE rfl rfl) fun a Z => wlm Z rfl fun a Z => wly Z (ar (Y.get (k := 3) rfl) rfl (Tryd.isAgg25 _) (Tryd.sizeOf25 _)) fun a Z => aW Z Y (by decide) rfl (by decide) rfl Tryd.call20 rfl (gy ex_f3 (gT 4 lv1 exR 1 20 _ (Y.ownAt (i := 4) rfl))) ?_
 clear Z Y
 intro a w29 Z Y
 refine wly Z ((v_eq rfl rfl).asb (b' := true) rfl) fun a Z => wlv Z (aE rfl rfl) fun a Z => wla Z rfl fun a Z => ab (hK17 _ _ ?_)
 replace Z : Fr 206 [(0, _), (1, _), (2, _), (4, _), (12, _), (21, _), (22, _), (23, _)] [] a := Z.pick [0, 1, 2, 4, 12, 21, 22, 23]
 refine ac fun K18 hK18 => aN (by kernel_rfl) (aQ (by kernel_rfl) fun w30 hxz => ?_)
 replace Y := Y.grow hxz
 refine bd (k := 0) 3 [2] (by kernel_rfl) (by kernel_rfl) (by kernel_rfl) ?_
 refine wlm Z rfl fun a Z => wlv Z ((dq rfl rfl).asb (b' := true) (by exact decide_eq_true rfl)) fun a Z => wlm Z rfl fun a Z => ab <| bp (k := 3) 8 [3, 7] Z (by kernel_rfl) (by kernel_rfl) (by kernel_rfl) (by rfl) ?_
 replace Z : Fr 206 [(0, _), (1, _), (2, _), (4, _), (12, _), (21, _), (22, _), (23, _), (172, _), (173, _), (174, _)] [] a := Z.pick [0, 1, 2, 4, 12, 21, 22, 23, 172, 173, 174]
 refine aI [] (fun i => match i with | _ => fun _ _ => False) 5 [[], [], [1], [2], [3]] [.agg #[iv ((exR.getD 0 Rec.z).t), iv ((exR.getD 0 Rec.z).kind), iv ((exR.getD 0 Rec.z).a), iv ((exR.getD 0 Rec.z).b), sv ((exR.getD 0 Rec.z).text)], .pointer (some ⟨w1.heap.size, 1, none⟩), lv1, slAddr lv1 (0 * 5), .agg #[iv ((exR.getD 0 Rec.z).t), iv ((exR.getD 0 Rec.z).kind), iv ((exR.getD 0 Rec.z).a), iv ((exR.getD 0 Rec.z).b), sv ((exR.getD 0 Rec.z).text)]] Z Y (by kernel_rfl) (by kernel_rfl) (by kernel_rfl) ?_ ?_ ?_
 ·intro i hi hiq
  match i, hi, hiq with
  | 0, _, _ =>
   intro w Y
   exact OpV.g (ar (Y.get (k := 2) rfl) rfl (Tryd.isAgg27 _) (Tryd.sizeOf27 _))
  | 1, _, _ =>
   intro w Y
   exact OpV.g (ay (v := .pointer (some ⟨w1.heap.size, 1, none⟩)) rfl (by kernel_rfl))
  | 2, _, _ =>
   intro w Y
   exact OpV.g (aj (Y.get (k := 3) rfl) rfl (Tryd.isAgg23 _) rfl)
  | 3, _, _ =>
   intro w Y
   exact OpV.g ((ak (i := 0) (sT := 23) (Y.ownAt (i := 4) rfl) rfl rfl (Tryd.runUnderlying23 _) (Tryd.sizeOf27 _) (by omega) (by decide)).as (v' := slAddr lv1 (0 * 5)) rfl)
  | 4, _, _ =>
   intro w Y
   exact OpV.g ((cA (Y.ownAt (i := 4) rfl) (i := 0) (by decide) rfl (Tryd.isAgg27 _) (Tryd.sizeOf27 _)).as (v' := .agg #[iv ((exR.getD 0 Rec.z).t), iv ((exR.getD 0 Rec.z).kind), iv ((exR.getD 0 Rec.z).a), iv ((exR.getD 0 Rec.z).b), sv ((exR.getD 0 Rec.z).text)]) (by rw [bE Rec.z]; rfl))
 ·intro i hi
  exact absurd hi (by simp)
 clear Z Y
 intro  a w31 Z Y
 replace Z : Fr 206 [(175, .agg #[iv ((exR.getD 0 Rec.z).t), iv ((exR.getD 0 Rec.z).kind), iv ((exR.getD 0 Rec.z).a), iv ((exR.getD 0 Rec.z).b), sv ((exR.getD 0 Rec.z).text)]), (176, .pointer (some ⟨w1.heap.size, 1, none⟩)), (177, lv1), (178, slAddr lv1 (0 * 5)), (179, .agg #[iv ((exR.getD 0 Rec.z).t), iv ((exR.getD 0 Rec.z).kind), iv ((exR.getD 0 Rec.z).a), iv ((exR.getD 0 Rec.z).b), sv ((exR.getD 0 Rec.z).text)]), (0, _), (1, _), (2, _), (4, _), (12, _), (21, _), (22, _), (23, _), (172, _), (173, _), (174, _)] [] a := Z
 refine ab <| bd (k := 8) 35 [34] (by kernel_rfl) (by kernel_rfl) (by kernel_rfl) ?_
 refine wly Z ((ik rfl rfl (by kernel_rfl) (eqRec ((exR.getD 0 Rec.z).t) ((exR.getD 0 Rec.z).kind) ((exR.getD 0 Rec.z).a) ((exR.getD 0 Rec.z).b) ((exR.getD 0 Rec.z).text) ((exR.getD 0 Rec.z).t) ((exR.getD 0 Rec.z).kind) ((exR.getD 0 Rec.z).a) ((exR.getD 0 Rec.z).b) ((exR.getD 0 Rec.z).text) _)).asb (b' := true) (by exact decide_eq_true rfl)) fun a Z => wlv Z (aE rfl rfl) fun a Z => wlm Z rfl fun a Z => wly Z (ai rfl) fun a Z => wlv Z (aE rfl rfl) fun a Z => wlm Z rfl fun a Z => wly Z (ai rfl) fun a Z => wlv Z (aE rfl rfl) fun a Z => wlm Z rfl fun a Z => wly Z (ai rfl) fun a Z => wlv Z (aE rfl rfl) fun a Z => wlm Z rfl fun a Z => wly Z (ay (v := .pointer (some ⟨w13.heap.size, 1, none⟩)) rfl (by kernel_rfl)) fun a Z => wly Z (aj (Y.get (k := 0) rfl) rfl (Tryd.isAgg23 _) rfl) fun a Z => wly Z ((aM (sT := 23) (Y.ownAt (i := 1) rfl) rfl rfl (Tryd.runUnderlying23 _)).asi (m' := (exM.length : Int)) (by rw [List.length_map])) fun a Z => wly Z ((v_eq rfl rfl).asb (b' := true) (by decide)) fun a Z => wlv Z (aE rfl rfl) fun a Z => wlm Z rfl fun a Z => wly Z (ar (Y.get (k := 3) rfl) rfl (Tryd.isAgg25 _) (Tryd.sizeOf25 _)) fun a Z => aW Z Y (by decide) rfl (by decide) rfl Tryd.call16 rfl (cq fQ (dw 4 lv1 exR _ (Y.ownAt (i := 4) rfl))) ?_
 clear Z Y
 intro a w32 Z Y
 refine wlv Z (aE rfl rfl) fun a Z => wlm Z rfl fun a Z => wly Z (bt (v := .agg #[iv 100, .slice none 0 0]) rfl (by kernel_rfl)) fun a Z => aW Z Y (by decide) rfl (by decide) rfl Tryd.call16 rfl (cq mu (dw 100 (.slice none 0 0) ([] : List Rec) _ (lr _ _))) ?_
 clear Z Y
 intro a w33 Z Y
 refine wly Z ((bq rfl).asb (b' := true) rfl) fun a Z => wlv Z (aE rfl rfl) fun a Z => wla Z rfl fun a Z => ab <| bl (by kernel_rfl) ?_
 refine hK18 _ _ ?_
 replace Z : Fr 206 [(0, _)] [] a := Z.pick [0]
 replace Y : St No w0 [_, _] w33 := Y.mask [false, true, false, false, true]
 refine au ?_
 refine aq Z Tryd.results9 (ae rfl ah) ?_
 exact ⟨by rfl, Y.ext⟩
end Go.Proofs.YtddfkkdanpmnaaaDoor
namespace Go.Proofs.YtddfkkdanpmnaaaDoor
open Go.RowKit Go.PW
set_option linter.unusedVariables false
set_option linter.unusedSimpArgs false
set_option maxRecDepth 4000
theorem jL {t x0 x1 x2 x3 : Int} {r : Rec} {w0 : World} (hr : entR t x0 x1 x2 x3 = r) (ht : i64 t) (h0 : i64 x0) (h1 : i64 x1) (h2 : i64 x2) (h3 : i64 x3) : Ret Tryd.prog 15 #[iv t, .agg #[iv x0, iv x1, iv x2, iv x3]] w0 fun v w => v = .agg #[iv r.t, iv r.kind, iv r.a, iv r.b, sv r.text] ∧ Ext No w0 w := by
 subst hr
 exact kP t x0 x1 x2 x3 w0 ht h0 h1 h2 h3
end Go.Proofs.YtddfkkdanpmnaaaDoor
namespace Go.PW
open Go.RowKit Go.ChangeShapes Go.WideShapes Go.ChangeAt
set_option linter.unusedVariables false
set_option linter.unusedSimpArgs false
section
variable {H : Type} {enc : TypeId × Value → H}
theorem iC {a : Assume} {C : Checked} {os : Os} {f : FuncId} {fn : Func} {s : ChangeSpec} {conds : List PathCond} {apart fresh handsOn again : Bool} {X : World → Array Value → Prop}
  (hX : ∀ (w w' : World) (args : Array Value), w.heap = w'.heap → X w args → X w' args)
  (own : ownKnob C.prog.godebug = none) (started : os.Started) (noInit : C.prog.inits.idxOf? f = none) (hfn : C.prog.funcs[f]? = some fn)
  (witness : ∃ (w : World) (tape : Tape) (i : Input), w.os = os ∧ (w.forCall tape i).Shaped C.prog ∧ i.vars = [] ∧ Input.okWide C.prog (w.forCall tape i) .any w.heap.size f i ∧
   ((s.pre enc C.prog fn conds apart (w.forCall tape i).memory i.args ∧ X (w.forCall tape i).memory i.args) ∧ sizedMet enc C.prog fn (OpenSpec.ofChange s) apart (w.forCall tape i).memory i.args) ∧ a.holds C.prog (lone (Frame.enter C.prog f i.args .normal) [] (w.forCall tape i)))
  (contract : ∀ (W : World) (base : Nat) (args : Array Value) (ds gs : List (DataW H)) (before : List MemPlace),
   (∀ (j : Nat) t v, fn.params[j]? = some t → args[j]? = some v → Value.okWide C.prog W .any base t v) →
   DataW.Whole enc C.prog fn.params.toList s.vars apart W args.toList ds gs before →
   conds.all (PathCond.test C.prog ⟨fn.params.toList, ds, s.plain.varTypes C.prog, gs⟩) = true →
   (DataW.weightsEach C.prog (fn.params.toList ++ s.plain.varTypes C.prog) (ds ++ gs)).all (· ≤ reachBytes) = true → X W args → W.ShapedOpen C.prog →
   Calls C.prog f args W fun e W' => ∃ v, e = .returned v ∧ s.post enc C.prog fn apart fresh handsOn again W args v W') :
  ReturnsInHanded a C os f .any (fun w args => (s.pre enc C.prog fn conds apart w args ∧ X w args) ∧ sizedMet enc C.prog fn (OpenSpec.ofChange s) apart w args) (s.post enc C.prog fn apart fresh handsOn again) := by
 refine returnsInHanded_of_calls own started noInit witness ?_
 intro w tape i _ hsh _ hok hpre _
 obtain ⟨_, _, _, fn', hfn', _, _, _, _, hval⟩ := hok
 have e : fn' = fn := Option.some.inj (hfn'.symm.trans hfn)
 subst e
 obtain ⟨⟨⟨ds, gs, before, hw, hc⟩, hx⟩, hz⟩ := hpre
 have hw' := DataW.Whole.of_heap (w' := w.forCall tape i) (by rfl) hw
 refine (contract (w.forCall tape i) w.heap.size i.args ds gs before hval hw' hc (hz.weights hw) (hX _ _ _ (by rfl) hx) hsh).mono fun e W' ⟨v, he, hp⟩ => ?_
 subst he
 exact ChangeSpec.post_blind hp
end
section
variable {H : Type} {enc : TypeId × Value → H} {P : Program} {w : World} {base : Nat} {spare : Nat → Bool} {held : Bool} {fuel : Nat} {t e : TypeId} {cs : List Value} {x : DataW H × List MemPlace}
theorem jp {n : Nat} {ks : List Int} (ht : P.underlying t = some (.array n e)) (he : P.underlying e = some (.int .u32)) (hc : P.cellsOf e = 1) (hct : P.cellsOf t = n) (h : DataW.trod enc P w base spare held fuel t cs = some x) (hx : x.1 = .agg (ks.map fun k => .lit (.int .u32 k))) : cs = ks.map (fun k => .int .u32 k) := by
 obtain ⟨xs, m, rfl, rfl, hlen, hxs, hel⟩ := DataW.trod_array ht h
 simp only [DataW.agg.injEq] at hx
 have hl : ks.length = n := by
  have h := congrArg List.length hx
  rw [List.length_map, List.length_map] at h
  omega
 refine List.ext_getElem (by rw [hlen, hct, List.length_map, hl]) fun i h1 h2 => ?_
 have hi : i < n := by rw [← hct, ← hlen]; exact h1
 have hi2 : i < ks.length := by omega
 have h3 := hel i hi
 rw [hc, Nat.mul_one, List.getElem?_eq_getElem (by omega)] at h3
 obtain ⟨k, e1, e2, _⟩ := DataW.trod_int he h3
 rw [List.drop_eq_getElem_cons h1, List.take_succ_cons] at e1
 injection e1 with e1 _
 have h4 : (xs.map (·.1))[i]? = (ks.map fun k => DataW.lit (H := H) (.int .u32 k))[i]? := by rw [hx]
 rw [List.getElem?_map, List.getElem?_map, List.getElem?_eq_getElem (by omega), List.getElem?_eq_getElem hi2, Option.map_some, Option.map_some, e2] at h4
 simp only [Option.some.injEq, DataW.lit.injEq, Lit.int.injEq, true_and] at h4
 rw [e1, List.getElem_map, h4]
theorem kZ {r : Reach} {b0 : Nat} {v : Value} {d : DataW H} {ps : List MemPlace} {sp : Nat → Bool} (ht : P.underlying t = some .string) (hval : Value.okWide P w r b0 t v) (hw : Wt P t d) (hd : DataW.Trod enc P w base sp held t v d ps) :
  ∃ s : List UInt8, v = sv s ∧ s.length ≤ 140737488355328 := by
 obtain ⟨s, rfl, rfl, _, _⟩ := Go.ChangeMaps.open_string ht hval hd
 refine ⟨s.data.toList, rfl, ?_⟩
 have h1 := hw s.data.toList.length (by simp [DataW.weights])
 have h2 := reachBytes_lt
 omega
end
end Go.PW
namespace Go.Proofs.YtddfkkdanpmnaaaDoor
open Go.RowKit Go.PW
set_option linter.unusedVariables false
set_option linter.unusedSimpArgs false
set_option maxRecDepth 4000
open Go.ChangeShapes Go.WideShapes Go.ChangeAt Go.RowKit Go.PW
theorem ownD : ownKnob Tryd.prog.godebug = none := by kernel_rfl
theorem cT : laidOutB Tryd.prog = true := by kernel_rfl
def laid1 : List (String × DataW Unit) := [("dialtone/digest.round", Rows.laid_dialtone_digest_round)]
theorem gRound : Tryd.prog.globalNamed "dialtone/digest.round" = some 0 := by kernel_rfl
theorem tRound : (Tryd.prog.globals[0]?).map (·.type) = some 161 := by kernel_rfl
theorem mK : (Rows.laid_dialtone_digest_round : DataW Unit) = .agg ((kOf.map fun k => (k.toNat : Int)).map fun k => .lit (.int .u32 k)) := by kernel_rfl
theorem lm (os : Os) (args : Array Value) : laidMetH Tryd.prog laid1 ((World.doorLaid Tryd.prog 4000 os).forCall (fun _ _ => 0) ⟨#[], args, []⟩).memory :=
 laidMetH_of_parts3 (fuel := 8) (laidMet_of_run' 8 (by kernel_rfl) (by kernel_rfl)) (by kernel_rfl) (by kernel_rfl)
theorem jn (os : Os) (args : Array Value) : ((World.doorLaid Tryd.prog 4000 os).forCall (fun _ _ => 0) ⟨#[], args, []⟩).Shaped Tryd.prog := World.shaped_of_RefB (by kernel_rfl) (by kernel_rfl)
theorem nl {W : World} (h : laidMetH Tryd.prog laid1 W) (hs : W.ShapedOpen Tryd.prog) : (blk 0 (kOf.map wv) 161).ok W := by
 rw [MakeChecks.laidMetH_plain _ _ _ (by kernel_rfl)] at h
 obtain ⟨ps, ⟨g0, t0, cs0, f0, p0, q0, hg0, ht0, hv0, hd0, _, _⟩, _, _⟩ := h
 obtain rfl := Option.some.inj (gRound.symm.trans hg0)
 obtain rfl := Option.some.inj (tRound.symm.trans ht0)
 obtain ⟨cs, hcs, _, _⟩ := hs.1 0 (List.replicate 64 (.int .u32 0)).toArray 161 (of_decide_eq_true (by kernel_rfl)) (by kernel_rfl)
 have e : cs0 = cs := by
  have := hv0
  simp only [World.var?, gRound, Option.bind_some, hcs, Option.some.injEq] at this
  exact this.symm
 subst e
 have hw := jp (ks := kOf.map fun k => (k.toNat : Int)) Tryd.underlying161 Tryd.underlying133 (by kernel_rfl) (by kernel_rfl) hd0 mK
 have hl : cs0 = (kOf.map wv).toArray := by
  apply Array.toList_inj.1
  rw [hw, List.map_map]; rfl
 show W.heap[0]? = some (.cells (kOf.map wv).toArray 161)
 rw [← hl]; exact hcs
end Go.Proofs.YtddfkkdanpmnaaaDoor
namespace Go.Proofs.YtddfkkdanpmnaaaDoor
open Go.RowKit Go.PW
set_option linter.unusedVariables false
set_option linter.unusedSimpArgs false
set_option maxRecDepth 4000
open Go.ChangeShapes Go.WideShapes Go.ChangeAt
section
variable {H : Type} {enc : TypeId × Value → H} {W : World} {base b0 : Nat} {sp : Nat → Bool} {hd : Bool} {v : Value} {d : DataW H} {ps : List MemPlace} {r : Reach}
theorem ja {n : Int} (h : Go.PW.i64 n) : i64 n := h
theorem kc {t : TypeId} (ht : Tryd.prog.underlying t = some (.int .u8)) (hval : Value.okWide Tryd.prog W r b0 t v) (hd0 : DataW.Trod enc Tryd.prog W base sp hd t v d ps) : ∃ b : UInt8, v = yv b := by
 obtain ⟨n, rfl, _, _, hw⟩ := open_int ht hval hd0
 have h : 0 ≤ n ∧ n ≤ 255 := by simp [Lit.wf, IntKind.min, IntKind.max, IntKind.signed, IntKind.bits] at hw; exact hw
 refine ⟨UInt8.ofNat n.toNat, ?_⟩
 unfold yv
 rw [UInt8.toNat_ofNat_of_lt' (by simp only [UInt8.size]; omega), Int.toNat_of_nonneg h.1]
theorem len4 {α : Type} {l : List α} (h : l.length = 4) : ∃ a0 a1 a2 a3, l = [a0, a1, a2, a3] := by
 match l, h with
 | [a0, a1, a2, a3], _ => exact ⟨_, _, _, _, rfl⟩
theorem mh {fuel : Nat} {cs : List Value} {x : DataW H × List MemPlace} (hl : cs.length = 4) (hw : Wt Tryd.prog 37 x.1) (h : DataW.trod enc Tryd.prog W base sp hd fuel 37 cs = some x) :
  ∃ (n0 : Int) (n1 : Int) (n2 : Int) (n3 : Int), cs = [iv n0, iv n1, iv n2, iv n3] ∧ (i64 n0) ∧ (i64 n1) ∧ (i64 n2) ∧ (i64 n3) := by
 obtain ⟨zs, hz, he, hy⟩ := j5 4 Tryd.underlying37 Tryd.underlying3 (by kernel_rfl) h hl
 obtain ⟨n0, n1, n2, n3, rfl⟩ := len4 hz
 exact ⟨n0, n1, n2, n3, he, hy n0 (by simp), hy n1 (by simp), hy n2 (by simp), hy n3 (by simp)⟩
theorem fg (hval : Value.okWide Tryd.prog W r b0 37 v) (hw : Wt Tryd.prog 37 d) (hd0 : DataW.Trod enc Tryd.prog W base sp hd 37 v d ps) :
  ∃ (n0 : Int) (n1 : Int) (n2 : Int) (n3 : Int), v = .agg #[iv n0, iv n1, iv n2, iv n3] ∧ (i64 n0) ∧ (i64 n1) ∧ (i64 n2) ∧ (i64 n3) := by
 obtain ⟨csA, rfl, hsz, hrow⟩ := io (by kernel_rfl) hval
 obtain ⟨fuel, hf⟩ := hd0
 have hc : Tryd.prog.cellsOf 37 = 4 := by kernel_rfl
 obtain ⟨n0, n1, n2, n3, he, g0, g1, g2, g3⟩ := mh (cs := csA.toList) (by rw [Array.length_toList, hsz, hc]) hw hf
 obtain rfl : csA = #[iv n0, iv n1, iv n2, iv n3] := by
  have he2 : csA.toList = [iv n0, iv n1, iv n2, iv n3] := he
  cases csA; simp only at he2; rw [he2]
 exact ⟨n0, n1, n2, n3, rfl, g0, g1, g2, g3⟩
end
end Go.Proofs.YtddfkkdanpmnaaaDoor
namespace Go.Proofs.YtddfkkdanpmnaaaDoor
open Go.RowKit Go.PW
set_option linter.unusedVariables false
set_option linter.unusedSimpArgs false
set_option maxRecDepth 4000
theorem bw {x : Rec} {s : By} {w0 : World} (h : x.ok = true) (hs : x.enc = s) : Ret Tryd.prog 22 #[.agg #[iv x.t, iv x.kind, iv x.a, iv x.b, sv x.text]] w0 fun v w => v = .tuple #[sv s, iv 0] ∧ Ext No w0 w := by
 have := fa x w0
 rw [show eB x = s from (if_pos h).trans hs, show eE x = 0 from if_pos h] at this
 exact this
theorem bC {x : Rec} {s : By} {w0 : World} (hl : s.length ≤ 1000000) (hs : decRec s = some x) : Ret Tryd.prog 24 #[sv s] w0 fun v w => v = .tuple #[.agg #[iv x.t, iv x.kind, iv x.a, iv x.b, sv x.text], iv 0] ∧ Ext No w0 w := by
 have := ju s w0 hl
 rw [show decX s = x from by unfold decX; rw [hs]; rfl, show decE s = 0 from by unfold decE; rw [hs]; rfl] at this
 exact this
theorem bD {s : By} {w0 : World} (hl : s.length ≤ 1000000) (hs : decRec s = none) : Ret Tryd.prog 24 #[sv s] w0 fun v w => v = .tuple #[.agg #[iv 0, iv 0, iv 0, iv 0, sv ([] : By)], iv 110] ∧ Ext No w0 w := by
 have := ju s w0 hl
 rw [show decX s = Rec.z from by unfold decX; rw [hs]; rfl, show decE s = 110 from by unfold decE; rw [hs]; rfl] at this
 exact this
theorem k8 {x y : Rec} (hx : x.ok = true) (hy : y.ok = true) (h : ¬ x = y) : ¬ y.enc.take x.enc.length = x.enc := by
 intro e
 have h2 : x.enc ++ y.enc.drop x.enc.length = y.enc ++ [] := by
  conv => lhs; lhs; rw [← e]
  rw [List.append_nil, List.take_append_drop]
 exact h (jJ hx hy h2).1
theorem bR {s : By} (h : (decRec s).isSome = true) : ∃ x, decRec s = some x ∧ x.ok = true ∧ x.enc = s := by
 obtain ⟨x, hx⟩ := Option.isSome_iff_exists.1 h
 exact ⟨x, hx, (iK hx).1, (iK hx).2.symm⟩
theorem bN {s : By} (h : (decRec s).isSome = false) : decRec s = none := by
 cases e : decRec s with
 | none => rfl
 | some x => rw [e] at h; cases h
set_option maxHeartbeats 4000000 in
theorem gB (at_ x0 x1 x2 x3 then_ y0 y1 y2 y3 : Int) (text : By) (place : Int) (cc : UInt8) (w0 : World) (h_at_ : i64 at_) (h_x0 : i64 x0) (h_x1 : i64 x1) (h_x2 : i64 x2) (h_x3 : i64 x3) (h_then_ : i64 then_) (h_y0 : i64 y0) (h_y1 : i64 y1) (h_y2 : i64 y2) (h_y3 : i64 y3) (h_place : i64 place) (htl : text.length ≤ 140737488355328) (hk0 : (blk 0 (kOf.map wv) 161).ok w0) :
  Ret Tryd.prog 8 #[iv at_, .agg #[iv x0, iv x1, iv x2, iv x3], iv then_, .agg #[iv y0, iv y1, iv y2, iv y3], sv text, iv place, yv cc] w0 fun v w => v = .bool true ∧ Ext No w0 w := by
 have h_place1 := h_place.1
 have h_place2 := h_place.2
 obtain ⟨xa, ha⟩ : ∃ r, entR at_ x0 x1 x2 x3 = r := ⟨_, rfl⟩
 obtain ⟨xb, hb⟩ : ∃ r, entR then_ y0 y1 y2 y3 = r := ⟨_, rfl⟩
 have hao : xa.ok = true := by rw [← ha]; exact jT _ _ _ _ _
 have hbo : xb.ok = true := by rw [← hb]; exact jT _ _ _ _ _
 obtain ⟨s, hs⟩ : ∃ s, xa.enc = s := ⟨_, rfl⟩
 obtain ⟨t, ht⟩ : ∃ s, xb.enc = s := ⟨_, rfl⟩
 have hds : decRec s = some xa := by rw [← hs]; exact mT hao
 have hsl : 5 ≤ s.length ∧ s.length ≤ 300 := by
  have h1 := xa.enc_len
  have h2 := Rec.len hao
  rw [hs] at h1; omega
 have hiff : s = t ↔ xa = xb := ⟨fun e => (jJ (u := []) (v := []) hao hbo (by rw [hs, ht, e])).1, fun e => by rw [← hs, ← ht, e]⟩
 have hpp := bK place (n := (s.length : Int)) (by omega)
 refine aG Tryd.func8 rfl Tryd.ntmps8 (lb rfl) fun a Z => ?_
 replace Z : Fr 162 [(0, _), (1, _), (2, _), (3, _), (4, _), (5, _), (6, _)] [] a := Z
 replace Y : St No w0 [] w0 := St.init w0
 refine aa fun K1 hK1 => bn Z Y (by decide) rfl (cs := [iv x0, iv x1, iv x2, iv x3]) rfl ?_
 clear Z Y
 intro a w1 Z Y
 refine bn Z Y (by decide) rfl (cs := [iv y0, iv y1, iv y2, iv y3]) rfl ?_
 clear Z Y
 intro a w2 Z Y
 refine wla Z rfl fun a Z => ab (hK1 _ _ <| ac fun K2 hK2 => ?_)
 refine aa fun K3 hK3 => al Z Y (by decide) Tryd.call9 rfl (mQ _ (Y.keepb hk0)) ?_
 clear Z Y
 intro a w3 Z Y
 refine wlv Z ((bq rfl).asb (b' := false) rfl) fun a Z => ab (hK3 _ _ <| av Z rfl ?_)
 refine ao <| hK2 _ _ <| aa fun K4 hK4 => wlm Z rfl fun a Z => wlv Z (ar (Y.get (k := 1) rfl) rfl (Tryd.isAgg37 _) (Tryd.sizeOf37 _)) fun a Z => al Z Y (by decide) Tryd.call15 rfl (jL ha (by assumption) (by assumption) (by assumption) (by assumption) (by assumption)) ?_
 clear Z Y
 intro a w4 Z Y
 refine aD Z Y (by decide) (Tryd.zeroValue27 _) (cs := [iv 0, iv 0, iv 0, iv 0, .string (⟨#[]⟩)]) rfl ?_
 clear Z Y
 intro a w5 Z Y
 refine az 0 Z Y rfl rfl rfl (Tryd.sizeOf27 _) rfl (lb rfl) (ds := [iv xa.t, iv xa.kind, iv xa.a, iv xa.b, sv xa.text]) rfl rfl ?_
 clear Z Y
 intro a w6 Z Y
 refine ab (hK4 _ _ ?_)
 replace Z : Fr 162 [(2, _), (4, _), (5, _), (6, _), (10, _), (14, _), (15, _)] [] a := Z.pick [2, 4, 5, 6, 10, 14, 15]
 replace Y : St No w0 [_, _] w6 := Y.mask [true, true, false]
 refine aa fun K5 hK5 => wlm Z rfl fun a Z => wlv Z (ar (Y.get (k := 1) rfl) rfl (Tryd.isAgg37 _) (Tryd.sizeOf37 _)) fun a Z => al Z Y (by decide) Tryd.call15 rfl (jL hb (by assumption) (by assumption) (by assumption) (by assumption) (by assumption)) ?_
 clear Z Y
 intro a w7 Z Y
 refine aD Z Y (by decide) (Tryd.zeroValue27 _) (cs := [iv 0, iv 0, iv 0, iv 0, .string (⟨#[]⟩)]) rfl ?_
 clear Z Y
 intro a w8 Z Y
 refine az 0 Z Y rfl rfl rfl (Tryd.sizeOf27 _) rfl (lb rfl) (ds := [iv xb.t, iv xb.kind, iv xb.a, iv xb.b, sv xb.text]) rfl rfl ?_
 clear Z Y
 intro a w9 Z Y
 refine ab (hK5 _ _ <| aa fun K6 hK6 => ?_)
 refine wlv Z (ar (Y.get (k := 1) rfl) rfl (Tryd.isAgg27 _) (Tryd.sizeOf27 _)) fun a Z => al Z Y (by decide) Tryd.call22 rfl (bw hao hs) ?_
 clear Z Y
 intro a w10 Z Y
 refine wlm Z rfl fun a Z => wlv Z (ag rfl rfl) fun a Z => wlv Z (ag rfl rfl) fun a Z => wla Z rfl fun a Z => wla Z rfl fun a Z => ab (hK6 _ _ ?_)
 replace Z : Fr 162 [(4, _), (5, _), (6, _), (14, _), (15, _), (16, _), (17, _), (18, _)] [] a := Z.pick [4, 5, 6, 14, 15, 16, 17, 18]
 replace Y : St No w0 [_, _] w10 := Y.mask [true, true, false]
 refine aa fun K7 hK7 => wlv Z (ar (Y.get (k := 0) rfl) rfl (Tryd.isAgg27 _) (Tryd.sizeOf27 _)) fun a Z => al Z Y (by decide) Tryd.call22 rfl (bw hbo ht) ?_
 clear Z Y
 intro a w11 Z Y
 refine wlm Z rfl fun a Z => wlv Z (ag rfl rfl) fun a Z => wlv Z (ag rfl rfl) fun a Z => wla Z rfl fun a Z => wla Z rfl fun a Z => ab (hK7 _ _ <| aa fun K8 hK8 => ?_)
 refine wlm Z rfl fun a Z => al Z Y (by decide) Tryd.call24 rfl (bC (by omega) hds) ?_
 clear Z Y
 intro a w12 Z Y
 refine wlm Z rfl fun a Z => wlv Z (ag rfl rfl) fun a Z => wlv Z (ag rfl rfl) fun a Z => aD Z Y (by decide) (Tryd.zeroValue27 _) (cs := [iv 0, iv 0, iv 0, iv 0, .string (⟨#[]⟩)]) rfl ?_
 clear Z Y
 intro a w13 Z Y
 refine az 0 Z Y rfl rfl rfl (Tryd.sizeOf27 _) rfl (lb rfl) (ds := [iv xa.t, iv xa.kind, iv xa.a, iv xa.b, sv xa.text]) rfl rfl ?_
 clear Z Y
 intro a w14 Z Y
 refine wla Z rfl fun a Z => ab (hK8 _ _ ?_)
 replace Z : Fr 162 [(4, _), (5, _), (6, _), (14, _), (15, _), (16, _), (17, _), (18, _), (19, _), (20, _), (21, _), (22, _)] [] a := Z.pick [4, 5, 6, 14, 15, 16, 17, 18, 19, 20, 21, 22]
 refine ac fun K9 hK9 => aa fun K10 hK10 => wlm Z rfl fun a Z => wlv Z ((v_ne rfl rfl).asb (b' := false) rfl) fun a Z => wlm Z rfl fun a Z => wly Z (ai rfl) fun a Z => wly Z ((v_ne rfl rfl).asb (b' := false) rfl) fun a Z => wlv Z (aw rfl rfl) fun a Z => wlm Z rfl fun a Z => wly Z (ai rfl) fun a Z => wly Z ((v_ne rfl rfl).asb (b' := false) rfl) fun a Z => wlv Z (aw rfl rfl) fun a Z => wlm Z rfl fun a Z => wly Z (ar (Y.get (k := 0) rfl) rfl (Tryd.isAgg27 _) (Tryd.sizeOf27 _)) fun a Z => wly Z (ar (Y.get (k := 2) rfl) rfl (Tryd.isAgg27 _) (Tryd.sizeOf27 _)) fun a Z => wly Z ((fP rfl rfl (by kernel_rfl) (eqRec xa.t xa.kind xa.a xa.b xa.text xa.t xa.kind xa.a xa.b xa.text _)).asb (b' := false) (by simp)) fun a Z => wlv Z (aw rfl rfl) fun a Z => wlm Z rfl fun a Z => wly Z (ai rfl) fun a Z => wly Z (aJ rfl rfl (Tryd.runUnderlying9 _)) fun a Z => wly Z ((v_eq rfl rfl).asb (b' := false) (by exact decide_eq_false (by omega))) fun a Z => ?_
 refine wlv Z (aw rfl rfl) fun a Z => wlm Z rfl fun a Z => wly Z (ai rfl) fun a Z => wly Z (ai rfl) fun a Z => wly Z (dq rfl rfl) fun a Z => wly Z (ar (Y.get (k := 2) rfl) rfl (Tryd.isAgg27 _) (Tryd.sizeOf27 _)) fun a Z => wly Z (ar (Y.get (k := 1) rfl) rfl (Tryd.isAgg27 _) (Tryd.sizeOf27 _)) fun a Z => wly Z ((ik rfl rfl (by kernel_rfl) (eqRec xa.t xa.kind xa.a xa.b xa.text xb.t xb.kind xb.a xb.b xb.text _)).asb (b' := decide (xa = xb)) (by rfl)) fun a Z => ?_
 rcases Bool.eq_false_or_eq_true (decide (s = t)) with hb1 | hb1
 ·rw [hb1] at Z
  try simp only [qz] at hb1
  have hab : xa = xb := hiff.1 hb1
  rcases Bool.eq_false_or_eq_true (decide (xa = xb)) with hb2 | hb2
  ·rw [hb2] at Z
   try simp only [qz] at hb2
   refine wly Z ((go rfl rfl Tryd.underlying4).asb (b' := false) rfl) fun a Z => wlv Z (aw rfl rfl) fun a Z => ab (hK10 _ _ ?_)
   replace Z : Fr 162 [(4, _), (5, _), (6, _), (14, _), (15, _), (16, _), (17, _), (19, _), (81, _)] [] a := Z.pick [4, 5, 6, 14, 15, 16, 17, 19, 81]
   replace Y : St No w0 [_, _] w14 := Y.mask [false, true, true]
   refine av Z rfl ?_
   refine ao <| hK9 _ _ <| ac fun K11 hK11 => aa fun K12 hK12 => wlv Z (ar (Y.get (k := 1) rfl) rfl (Tryd.isAgg27 _) (Tryd.sizeOf27 _)) fun a Z => wlv Z (ar (Y.get (k := 0) rfl) rfl (Tryd.isAgg27 _) (Tryd.sizeOf27 _)) fun a Z => wlv Z ((fP rfl rfl (by kernel_rfl) (eqRec xa.t xa.kind xa.a xa.b xa.text xb.t xb.kind xb.a xb.b xb.text _)).asb (b' := false) (by simp [hab])) fun a Z => wlm Z rfl fun a Z => ?_
   refine wln Z fun a Z => wln Z fun a Z => wln Z fun a Z => wln Z fun a Z => wln Z fun a Z => wln Z fun a Z => ct Z (by decide) rfl (by decide) rfl fun a Z => ?_
   refine ct Z (by decide) rfl (by decide) rfl fun a Z => ct Z (by decide) rfl (by decide) rfl fun a Z => ct Z (by decide) rfl (by decide) rfl fun a Z => ct Z (by decide) rfl (by decide) rfl fun a Z => ct Z (by decide) rfl (by decide) rfl fun a Z => wln Z fun a Z => wln Z fun a Z => ?_
   refine ct Z (by decide) rfl (by decide) rfl fun a Z => ct Z (by decide) rfl (by decide) rfl fun a Z => ct Z (by decide) rfl (by decide) rfl fun a Z => ct Z (by decide) rfl (by decide) rfl fun a Z => ct Z (by decide) rfl (by decide) rfl fun a Z => ct Z (by decide) rfl (by decide) rfl fun a Z => ct Z (by decide) rfl (by decide) rfl fun a Z => ?_
   refine ct Z (by decide) rfl (by decide) rfl fun a Z => ct Z (by decide) rfl (by decide) rfl fun a Z => ct Z (by decide) rfl (by decide) rfl fun a Z => ct Z (by decide) rfl (by decide) rfl fun a Z => ct Z (by decide) rfl (by decide) rfl fun a Z => ct Z (by decide) rfl (by decide) rfl fun a Z => wln Z fun a Z => ?_
   refine wlv Z (aw rfl rfl) fun a Z => ab (hK12 _ _ ?_)
   replace Z : Fr 162 [(4, _), (5, _), (6, _), (14, _), (17, _), (114, _)] [] a := Z.pick [4, 5, 6, 14, 17, 114]
   replace Y : St No w0 [] w14 := Y.mask [false, false]
   refine av Z rfl ?_
   refine ao <| hK11 _ _ <| aa fun K13 hK13 => wlm Z rfl fun a Z => wlm Z rfl fun a Z => wlv Z (aJ rfl rfl (Tryd.runUnderlying9 _)) fun a Z => al Z Y (by decide) Tryd.call19 rfl (dD place (s.length : Int) _ (by first | assumption | (unfold i64 at *; omega) | omega) (by omega)) ?_
   clear Z Y
   intro a w15 Z Y
   refine wla Z rfl fun a Z => ab (hK13 _ _ ?_)
   replace Z : Fr 162 [(4, _), (6, _), (14, _), (17, _), (23, _)] [] a := Z.pick [4, 6, 14, 17, 23]
   refine ac fun K14 hK14 => ac fun K15 hK15 => ?_
   obtain ⟨k, hk⟩ : ∃ k : Nat, pickI place (s.length : Int) = (k : Int) := ⟨_, (Int.toNat_of_nonneg hpp.1).symm⟩
   rw [hk] at Z hpp
   refine aN (by kernel_rfl) ?_
   replace Z : Fr 162 [(4, _), (6, _), (14, _), (17, _), (23, _)] [] a := Z.pick [4, 6, 14, 17, 23]
   refine aI [9, 17] (fun i => match i with | 9 => pm (fun b : Nat => .slice (some ⟨b, 0, none⟩) 1 1) (fun b => [own (.slice (some ⟨b, 0, none⟩) 1 1) 5 1 [[yv cc]]]) (fun _ => True) | 17 => pm (fun b : Nat => .slice (some ⟨b, 0, none⟩) 2 2) (fun b => [own (.slice (some ⟨b, 0, none⟩) 2 2) 9 1 [[sv (text.take (min text.length 60))], [sv (((s.take k) ++ ([cc])) ++ (s.drop (k + 1)))]]]) (fun _ => True) | _ => fun _ _ => False) 20 [[], [], [1], [2], [0, 3], [], [], [5, 6], [], [8], [9], [7, 10], [], [], [13], [12, 14], [11, 15], [4, 16], [17], []] [sv text, sv text, iv (text.length : Int), iv (min (text.length : Int) 60), sv (text.take (min text.length 60)), sv s, iv (k : Int), sv (s.take k), yv cc, undef, sv ([cc]), sv ((s.take k) ++ ([cc])), sv s, iv (k : Int), iv ((k : Int) + 1), sv (s.drop (k + 1)), sv (((s.take k) ++ ([cc])) ++ (s.drop (k + 1))), undef, iv 2, iv 0] Z Y (by kernel_rfl) (by kernel_rfl) (by kernel_rfl) ?_ ?_ ?_
   ·intro i hi hiq
    match i, hi, hiq with
    | 0, _, _ =>
     intro w Y
     exact OpV.g (ai rfl)
    | 1, _, _ =>
     intro w Y
     exact OpV.g (ai rfl)
    | 2, _, _ =>
     intro w Y
     exact OpV.g (aJ rfl rfl (Tryd.runUnderlying9 _))
    | 3, _, _ =>
     intro w Y
     exact OpV.g (eN rfl rfl)
    | 4, _, _ =>
     intro w Y
     exact OpV.g ((aV (xs := text) (l := 0) (h := (min text.length 60)) rfl rfl rfl Tryd.underlying9 (.inl ⟨rfl, rfl⟩) (.inr (by rw [show (min (text.length : Int) 60 : Int) = (((min text.length 60) : Nat) : Int) from by omega] <;> rfl)) (by omega) (by first | omega | exact Nat.min_le_left _ _)).as (v' := sv (text.take (min text.length 60))) rfl)
    | 5, _, _ =>
     intro w Y
     exact OpV.g (ai rfl)
    | 6, _, _ =>
     intro w Y
     exact OpV.g (ai rfl)
    | 7, _, _ =>
     intro w Y
     exact OpV.g ((aV (xs := s) (l := 0) (h := k) rfl rfl rfl Tryd.underlying9 (.inl ⟨rfl, rfl⟩) (.inr (by rw [show ((k : Int) : Int) = ((k : Nat) : Int) from by omega] <;> rfl)) (by omega) (by first | omega | exact Nat.min_le_left _ _)).as (v' := sv (s.take k)) rfl)
    | 8, _, _ =>
     intro w Y
     exact OpV.g (ai rfl)
    | 9, _, h => exact absurd (by simp) h
    | 10, _, _ =>
     rintro _ _ ⟨b3, rfl, -, rfl⟩
     intro w Y
     exact OpV.g (bS (xs := [cc]) (Y.ownAt (i := 0) rfl) rfl Tryd.underlying71 Tryd.underlying5 Tryd.underlying9)
    | 11, _, _ =>
     intro w Y
     exact OpV.g (cC rfl rfl (by simp only [List.length_append, List.length_take, List.length_drop, List.length_cons, List.length_nil]; omega))
    | 12, _, _ =>
     intro w Y
     exact OpV.g (ai rfl)
    | 13, _, _ =>
     intro w Y
     exact OpV.g (ai rfl)
    | 14, _, _ =>
     intro w Y
     exact OpV.g (aL rfl rfl ⟨by omega, by omega⟩)
    | 15, _, _ =>
     intro w Y
     exact OpV.g ((aV (xs := s) (l := (k + 1)) (h := s.length) rfl rfl rfl Tryd.underlying9 (.inr (by rw [show ((k : Int) + 1 : Int) = (((k + 1) : Nat) : Int) from by omega] <;> rfl)) (.inl ⟨rfl, rfl⟩) (by omega) (Nat.le_refl _)).as (v' := sv (s.drop (k + 1))) (by rw [List.take_of_length_le (by rw [List.length_drop]; omega)]))
    | 16, _, _ =>
     intro w Y
     exact OpV.g (cC rfl rfl (by simp only [List.length_append, List.length_take, List.length_drop, List.length_cons, List.length_nil]; omega))
    | 17, _, h => exact absurd (by simp) h
    | 18, _, _ =>
     rintro _ _ ⟨b4, rfl, -, rfl⟩
     intro w Y
     exact OpV.g ((aM (sT := 45) (Y.ownAt (i := 0) rfl) rfl rfl (Tryd.runUnderlying45 _)).asi (m' := 2) (by rfl))
    | 19, _, _ =>
     intro w Y
     exact OpV.g (ai rfl)
    | i + 20, h, _ => exact absurd h (by omega)
   ·intro i hi
    simp only [List.mem_cons, List.not_mem_nil, or_false] at hi
    rcases hi with rfl | rfl
    ·intro w Y
     exact aK (E := 5) (sz := 1) rfl [[yv cc]] (fun _ => by kernel_rfl) (by simp) rfl (by decide)
    ·intro w Y
     exact aK (E := 9) (sz := 1) rfl [[sv (text.take (min text.length 60))], [sv (((s.take k) ++ ([cc])) ++ (s.drop (k + 1)))]] (fun _ => by kernel_rfl) (by simp) rfl (by decide)
   clear Z Y
   rintro _ _ ⟨b3, rfl, -, rfl⟩ _ _ ⟨b4, rfl, -, rfl⟩ a w16 Z Y
   replace Z : Fr 162 [(119, sv text), (120, sv text), (121, iv (text.length : Int)), (122, iv (min (text.length : Int) 60)), (123, sv (text.take (min text.length 60))), (124, sv s), (125, iv (k : Int)), (126, sv (s.take k)), (127, yv cc), (128, _), (129, sv ([cc])), (130, sv ((s.take k) ++ ([cc]))), (131, sv s), (132, iv (k : Int)), (133, iv ((k : Int) + 1)), (134, sv (s.drop (k + 1))), (135, sv (((s.take k) ++ ([cc])) ++ (s.drop (k + 1)))), (136, _), (137, iv 2), (138, iv 0), (4, _), (6, _), (14, _), (17, _), (23, _)] [] a := Z
   replace Y : St No w0 [_, _] w16 := Y
   refine ab <| hK15 _ _ ?_
   replace Z : Fr 162 [(14, _), (136, _), (137, _), (138, _)] [] a := Z.pick [14, 136, 137, 138]
   replace Y : St No w0 [_] w16 := Y.mask [false, true]
   refine ap <| cS 3 ?_
   refine aP ?_
   refine aa fun K16 hK16 => wlv Z ((v_lt rfl rfl).asb (b' := true) rfl) fun a Z => ab (hK16 _ _ <| ac fun K17 hK17 => ?_)
   refine aB Z rfl ?_
   refine ao <| hK17 _ _ <| ac fun K18 hK18 => ap <| aa fun K19 hK19 => wlv Z ((ak (i := 0) (sT := 45) (Y.ownAt (i := 0) rfl) rfl rfl (Tryd.runUnderlying45 _) (Tryd.sizeOf9 _) (by omega) (by simp)).as (v' := slAddr (.slice (some ⟨b4, 0, none⟩) 2 2) (0 * 1)) rfl) fun a Z => wlv Z (ax (u := sv (text.take (min text.length 60))) (i := 0) (j := 0) (Y.ownAt (i := 0) rfl) (by simp) rfl (Tryd.isAgg9 _) (by rfl)) fun a Z => wla Z rfl fun a Z => ?_
   refine ab (hK19 _ _ <| aa fun K20 hK20 => ?_)
   refine wlm Z rfl fun a Z => ?_
   rcases Bool.eq_false_or_eq_true ((decRec (text.take (min text.length 60))).isSome) with hb5 | hb5
   ·try simp only [qz] at hb5
    obtain ⟨r, hr, hro, hre⟩ := bR hb5
    refine al Z Y (by decide) Tryd.call24 rfl (bC (by first | (rw [List.length_take]; omega) | (simp only [List.length_append, List.length_take, List.length_drop, List.length_cons, List.length_nil]; omega)) hr) ?_
    clear Z Y
    intro a w17 Z Y
    refine wlm Z rfl fun a Z => wlv Z (ag rfl rfl) fun a Z => wlv Z (ag rfl rfl) fun a Z => aD Z Y (by decide) (Tryd.zeroValue27 _) (cs := [iv 0, iv 0, iv 0, iv 0, .string (⟨#[]⟩)]) rfl ?_
    clear Z Y
    intro a w18 Z Y
    refine az 0 Z Y rfl rfl rfl (Tryd.sizeOf27 _) rfl (lb rfl) (ds := [iv r.t, iv r.kind, iv r.a, iv r.b, sv r.text]) rfl rfl ?_
    clear Z Y
    intro a w19 Z Y
    refine wla Z rfl fun a Z => ab (hK20 _ _ ?_)
    replace Z : Fr 162 [(14, _), (136, _), (137, _), (138, _), (25, _), (26, _), (27, _)] [] a := Z.pick [14, 136, 137, 138, 25, 26, 27]
    refine ac fun K21 hK21 => aa fun K22 hK22 => wlm Z rfl fun a Z => wlv Z ((v_ne rfl rfl).asb (b' := false) rfl) fun a Z => ab (hK22 _ _ <| av Z rfl ?_)
    refine ao <| hK21 _ _ <| aa fun K23 hK23 => wlv Z (ar (Y.get (k := 0) rfl) rfl (Tryd.isAgg27 _) (Tryd.sizeOf27 _)) fun a Z => al Z Y (by decide) Tryd.call22 rfl (bw hro hre) ?_
    clear Z Y
    intro a w20 Z Y
    refine wlm Z rfl fun a Z => wlv Z (ag rfl rfl) fun a Z => wlv Z (ag rfl rfl) fun a Z => wla Z rfl fun a Z => wla Z rfl fun a Z => ab (hK23 _ _ ?_)
    replace Z : Fr 162 [(14, _), (136, _), (137, _), (138, _), (25, _), (28, _), (29, _)] [] a := Z.pick [14, 136, 137, 138, 25, 28, 29]
    replace Y : St No w0 [_] w20 := Y.mask [false, true]
    refine aa fun K24 hK24 => wlm Z rfl fun a Z => wlv Z ((v_ne rfl rfl).asb (b' := false) rfl) fun a Z => wlm Z rfl fun a Z => wly Z (ai rfl) fun a Z => wly Z (ai rfl) fun a Z => wly Z ((cW rfl rfl).asb (b' := false) (by simp)) fun a Z => wlv Z (aw rfl rfl) fun a Z => ab (hK24 _ _ ?_)
    replace Z : Fr 162 [(14, _), (136, _), (137, _), (138, _), (160, _)] [] a := Z.pick [14, 136, 137, 138, 160]
    refine av Z rfl ?_
    refine ao <| hK18 _ _ <| am <| wlv Z ((aL rfl rfl (by decide)).asi (m' := 1) rfl) fun a Z => wlm Z rfl fun a Z => ab <| aP ?_
    refine aa fun K25 hK25 => wlv Z ((v_lt rfl rfl).asb (b' := true) rfl) fun a Z => ab (hK25 _ _ <| ac fun K26 hK26 => ?_)
    refine aB Z rfl ?_
    refine ao <| hK26 _ _ <| ac fun K27 hK27 => ap <| aa fun K28 hK28 => wlv Z ((ak (i := 1) (sT := 45) (Y.ownAt (i := 0) rfl) rfl rfl (Tryd.runUnderlying45 _) (Tryd.sizeOf9 _) (by omega) (by simp)).as (v' := slAddr (.slice (some ⟨b4, 0, none⟩) 2 2) (1 * 1)) rfl) fun a Z => wlv Z (ax (u := sv (((s.take k) ++ ([cc])) ++ (s.drop (k + 1)))) (i := 1) (j := 0) (Y.ownAt (i := 0) rfl) (by simp) rfl (Tryd.isAgg9 _) (by rfl)) fun a Z => wla Z rfl fun a Z => ?_
    refine ab (hK28 _ _ <| aa fun K29 hK29 => ?_)
    refine wlm Z rfl fun a Z => ?_
    rcases Bool.eq_false_or_eq_true ((decRec (((s.take k) ++ ([cc])) ++ (s.drop (k + 1)))).isSome) with hb6 | hb6
    ·try simp only [qz] at hb6
     obtain ⟨r, hr, hro, hre⟩ := bR hb6
     refine al Z Y (by decide) Tryd.call24 rfl (bC (by first | (rw [List.length_take]; omega) | (simp only [List.length_append, List.length_take, List.length_drop, List.length_cons, List.length_nil]; omega)) hr) ?_
     clear Z Y
     intro a w21 Z Y
     refine wlm Z rfl fun a Z => wlv Z (ag rfl rfl) fun a Z => wlv Z (ag rfl rfl) fun a Z => aD Z Y (by decide) (Tryd.zeroValue27 _) (cs := [iv 0, iv 0, iv 0, iv 0, .string (⟨#[]⟩)]) rfl ?_
     clear Z Y
     intro a w22 Z Y
     refine az 0 Z Y rfl rfl rfl (Tryd.sizeOf27 _) rfl (lb rfl) (ds := [iv r.t, iv r.kind, iv r.a, iv r.b, sv r.text]) rfl rfl ?_
     clear Z Y
     intro a w23 Z Y
     refine wla Z rfl fun a Z => ab (hK29 _ _ ?_)
     replace Z : Fr 162 [(14, _), (136, _), (137, _), (138, _), (25, _), (26, _), (27, _)] [] a := Z.pick [14, 136, 137, 138, 25, 26, 27]
     refine ac fun K30 hK30 => aa fun K31 hK31 => wlm Z rfl fun a Z => wlv Z ((v_ne rfl rfl).asb (b' := false) rfl) fun a Z => ab (hK31 _ _ <| av Z rfl ?_)
     refine ao <| hK30 _ _ <| aa fun K32 hK32 => wlv Z (ar (Y.get (k := 0) rfl) rfl (Tryd.isAgg27 _) (Tryd.sizeOf27 _)) fun a Z => al Z Y (by decide) Tryd.call22 rfl (bw hro hre) ?_
     clear Z Y
     intro a w24 Z Y
     refine wlm Z rfl fun a Z => wlv Z (ag rfl rfl) fun a Z => wlv Z (ag rfl rfl) fun a Z => wla Z rfl fun a Z => wla Z rfl fun a Z => ab (hK32 _ _ ?_)
     replace Z : Fr 162 [(14, _), (136, _), (137, _), (138, _), (25, _), (28, _), (29, _)] [] a := Z.pick [14, 136, 137, 138, 25, 28, 29]
     replace Y : St No w0 [_] w24 := Y.mask [false, true]
     refine aa fun K33 hK33 => wlm Z rfl fun a Z => wlv Z ((v_ne rfl rfl).asb (b' := false) rfl) fun a Z => wlm Z rfl fun a Z => wly Z (ai rfl) fun a Z => wly Z (ai rfl) fun a Z => wly Z ((cW rfl rfl).asb (b' := false) (by simp)) fun a Z => wlv Z (aw rfl rfl) fun a Z => ab (hK33 _ _ ?_)
     replace Z : Fr 162 [(14, _), (136, _), (137, _), (138, _), (160, _)] [] a := Z.pick [14, 136, 137, 138, 160]
     refine av Z rfl ?_
     refine ao <| hK27 _ _ <| am <| wlv Z ((aL rfl rfl (by decide)).asi (m' := 2) rfl) fun a Z => wlm Z rfl fun a Z => ab <| aP ?_
     refine aa fun K34 hK34 => wlv Z ((v_lt rfl rfl).asb (b' := false) rfl) fun a Z => ab (hK34 _ _ <| ac fun K35 hK35 => ?_)
     refine av Z rfl ?_
     refine aF <| hK14 _ _ <| aa fun K36 hK36 => wla Z rfl fun a Z => ab (hK36 _ _ ?_)
     replace Z : Fr 162 [(14, _)] [] a := Z.pick [14]
     replace Y : St No w0 [] w24 := Y.mask [false]
     refine au ?_
     refine aq Z Tryd.results8 (ae rfl ah) ?_
     exact ⟨by rfl, Y.ext⟩
    try simp only [qz] at hb6
    refine al Z Y (by decide) Tryd.call24 rfl (bD (by first | (rw [List.length_take]; omega) | (simp only [List.length_append, List.length_take, List.length_drop, List.length_cons, List.length_nil]; omega)) (bN hb6)) ?_
    clear Z Y
    intro a w25 Z Y
    refine wlm Z rfl fun a Z => wlv Z (ag rfl rfl) fun a Z => wlv Z (ag rfl rfl) fun a Z => aD Z Y (by decide) (Tryd.zeroValue27 _) (cs := [iv 0, iv 0, iv 0, iv 0, .string (⟨#[]⟩)]) rfl ?_
    clear Z Y
    intro a w26 Z Y
    refine az 0 Z Y rfl rfl rfl (Tryd.sizeOf27 _) rfl (lb rfl) (ds := [iv 0, iv 0, iv 0, iv 0, sv ([] : By)]) rfl rfl ?_
    clear Z Y
    intro a w27 Z Y
    refine wla Z rfl fun a Z => ab (hK29 _ _ ?_)
    replace Z : Fr 162 [(14, _), (136, _), (137, _), (138, _), (25, _), (26, _), (27, _)] [] a := Z.pick [14, 136, 137, 138, 25, 26, 27]
    refine ac fun K37 hK37 => aa fun K38 hK38 => wlm Z rfl fun a Z => wlv Z ((v_ne rfl rfl).asb (b' := true) rfl) fun a Z => ab (hK38 _ _ <| aB Z rfl ?_)
    refine aF <| hK27 _ _ <| am <| wlv Z ((aL rfl rfl (by decide)).asi (m' := 2) rfl) fun a Z => wlm Z rfl fun a Z => ab <| aP ?_
    refine aa fun K39 hK39 => wlv Z ((v_lt rfl rfl).asb (b' := false) rfl) fun a Z => ab (hK39 _ _ ?_)
    replace Z : Fr 162 [(14, _), (136, _), (137, _), (138, _), (139, _)] [] a := Z.pick [14, 136, 137, 138, 139]
    replace Y : St No w0 [_] w27 := Y.mask [false, true]
    refine ac fun K40 hK40 => av Z rfl ?_
    refine aF <| hK14 _ _ <| aa fun K41 hK41 => wla Z rfl fun a Z => ab (hK41 _ _ <| au ?_)
    refine aq Z Tryd.results8 (ae rfl ah) ?_
    exact ⟨by rfl, Y.ext⟩
   try simp only [qz] at hb5
   refine al Z Y (by decide) Tryd.call24 rfl (bD (by first | (rw [List.length_take]; omega) | (simp only [List.length_append, List.length_take, List.length_drop, List.length_cons, List.length_nil]; omega)) (bN hb5)) ?_
   clear Z Y
   intro a w28 Z Y
   refine wlm Z rfl fun a Z => wlv Z (ag rfl rfl) fun a Z => wlv Z (ag rfl rfl) fun a Z => aD Z Y (by decide) (Tryd.zeroValue27 _) (cs := [iv 0, iv 0, iv 0, iv 0, .string (⟨#[]⟩)]) rfl ?_
   clear Z Y
   intro a w29 Z Y
   refine az 0 Z Y rfl rfl rfl (Tryd.sizeOf27 _) rfl (lb rfl) (ds := [iv 0, iv 0, iv 0, iv 0, sv ([] : By)]) rfl rfl ?_
   clear Z Y
   intro a w30 Z Y
   refine wla Z rfl fun a Z => ab (hK20 _ _ ?_)
   replace Z : Fr 162 [(14, _), (136, _), (137, _), (138, _), (25, _), (26, _), (27, _)] [] a := Z.pick [14, 136, 137, 138, 25, 26, 27]
   refine ac fun K42 hK42 => aa fun K43 hK43 => wlm Z rfl fun a Z => wlv Z ((v_ne rfl rfl).asb (b' := true) rfl) fun a Z => ab (hK43 _ _ <| aB Z rfl ?_)
   refine aF <| hK18 _ _ <| am <| wlv Z ((aL rfl rfl (by decide)).asi (m' := 1) rfl) fun a Z => wlm Z rfl fun a Z => ab <| aP ?_
   refine aa fun K44 hK44 => wlv Z ((v_lt rfl rfl).asb (b' := true) rfl) fun a Z => ab (hK44 _ _ ?_)
   replace Z : Fr 162 [(14, _), (136, _), (137, _), (138, _), (139, _)] [] a := Z.pick [14, 136, 137, 138, 139]
   replace Y : St No w0 [_] w30 := Y.mask [false, true]
   refine ac fun K45 hK45 => aB Z rfl ?_
   refine ao <| hK45 _ _ <| ac fun K46 hK46 => ap <| aa fun K47 hK47 => wlv Z ((ak (i := 1) (sT := 45) (Y.ownAt (i := 0) rfl) rfl rfl (Tryd.runUnderlying45 _) (Tryd.sizeOf9 _) (by omega) (by simp)).as (v' := slAddr (.slice (some ⟨b4, 0, none⟩) 2 2) (1 * 1)) rfl) fun a Z => wlv Z (ax (u := sv (((s.take k) ++ ([cc])) ++ (s.drop (k + 1)))) (i := 1) (j := 0) (Y.ownAt (i := 0) rfl) (by simp) rfl (Tryd.isAgg9 _) (by rfl)) fun a Z => wla Z rfl fun a Z => ?_
   refine ab (hK47 _ _ <| aa fun K48 hK48 => ?_)
   refine wlm Z rfl fun a Z => ?_
   rcases Bool.eq_false_or_eq_true ((decRec (((s.take k) ++ ([cc])) ++ (s.drop (k + 1)))).isSome) with hb7 | hb7
   ·try simp only [qz] at hb7
    obtain ⟨r, hr, hro, hre⟩ := bR hb7
    refine al Z Y (by decide) Tryd.call24 rfl (bC (by first | (rw [List.length_take]; omega) | (simp only [List.length_append, List.length_take, List.length_drop, List.length_cons, List.length_nil]; omega)) hr) ?_
    clear Z Y
    intro a w31 Z Y
    refine wlm Z rfl fun a Z => wlv Z (ag rfl rfl) fun a Z => wlv Z (ag rfl rfl) fun a Z => aD Z Y (by decide) (Tryd.zeroValue27 _) (cs := [iv 0, iv 0, iv 0, iv 0, .string (⟨#[]⟩)]) rfl ?_
    clear Z Y
    intro a w32 Z Y
    refine az 0 Z Y rfl rfl rfl (Tryd.sizeOf27 _) rfl (lb rfl) (ds := [iv r.t, iv r.kind, iv r.a, iv r.b, sv r.text]) rfl rfl ?_
    clear Z Y
    intro a w33 Z Y
    refine wla Z rfl fun a Z => ab (hK48 _ _ ?_)
    replace Z : Fr 162 [(14, _), (136, _), (137, _), (138, _), (25, _), (26, _), (27, _)] [] a := Z.pick [14, 136, 137, 138, 25, 26, 27]
    refine ac fun K49 hK49 => aa fun K50 hK50 => wlm Z rfl fun a Z => wlv Z ((v_ne rfl rfl).asb (b' := false) rfl) fun a Z => ab (hK50 _ _ <| av Z rfl ?_)
    refine ao <| hK49 _ _ <| aa fun K51 hK51 => wlv Z (ar (Y.get (k := 0) rfl) rfl (Tryd.isAgg27 _) (Tryd.sizeOf27 _)) fun a Z => al Z Y (by decide) Tryd.call22 rfl (bw hro hre) ?_
    clear Z Y
    intro a w34 Z Y
    refine wlm Z rfl fun a Z => wlv Z (ag rfl rfl) fun a Z => wlv Z (ag rfl rfl) fun a Z => wla Z rfl fun a Z => wla Z rfl fun a Z => ab (hK51 _ _ ?_)
    replace Z : Fr 162 [(14, _), (136, _), (137, _), (138, _), (25, _), (28, _), (29, _)] [] a := Z.pick [14, 136, 137, 138, 25, 28, 29]
    replace Y : St No w0 [_] w34 := Y.mask [false, true]
    refine aa fun K52 hK52 => wlm Z rfl fun a Z => wlv Z ((v_ne rfl rfl).asb (b' := false) rfl) fun a Z => wlm Z rfl fun a Z => wly Z (ai rfl) fun a Z => wly Z (ai rfl) fun a Z => wly Z ((cW rfl rfl).asb (b' := false) (by simp)) fun a Z => wlv Z (aw rfl rfl) fun a Z => ab (hK52 _ _ ?_)
    replace Z : Fr 162 [(14, _), (136, _), (137, _), (138, _), (160, _)] [] a := Z.pick [14, 136, 137, 138, 160]
    refine av Z rfl ?_
    refine ao <| hK46 _ _ <| am <| wlv Z ((aL rfl rfl (by decide)).asi (m' := 2) rfl) fun a Z => wlm Z rfl fun a Z => ab <| aP ?_
    refine aa fun K53 hK53 => wlv Z ((v_lt rfl rfl).asb (b' := false) rfl) fun a Z => ab (hK53 _ _ <| ac fun K54 hK54 => ?_)
    refine av Z rfl ?_
    refine aF <| hK14 _ _ <| aa fun K55 hK55 => wla Z rfl fun a Z => ab (hK55 _ _ ?_)
    replace Z : Fr 162 [(14, _)] [] a := Z.pick [14]
    replace Y : St No w0 [] w34 := Y.mask [false]
    refine au ?_
    refine aq Z Tryd.results8 (ae rfl ah) ?_
    exact ⟨by rfl, Y.ext⟩
   try simp only [qz] at hb7
   refine al Z Y (by decide) Tryd.call24 rfl (bD (by first | (rw [List.length_take]; omega) | (simp only [List.length_append, List.length_take, List.length_drop, List.length_cons, List.length_nil]; omega)) (bN hb7)) ?_
   clear Z Y
   intro a w35 Z Y
   refine wlm Z rfl fun a Z => wlv Z (ag rfl rfl) fun a Z => wlv Z (ag rfl rfl) fun a Z => aD Z Y (by decide) (Tryd.zeroValue27 _) (cs := [iv 0, iv 0, iv 0, iv 0, .string (⟨#[]⟩)]) rfl ?_
   clear Z Y
   intro a w36 Z Y
   refine az 0 Z Y rfl rfl rfl (Tryd.sizeOf27 _) rfl (lb rfl) (ds := [iv 0, iv 0, iv 0, iv 0, sv ([] : By)]) rfl rfl ?_
   clear Z Y
   intro a w37 Z Y
   refine wla Z rfl fun a Z => ab (hK48 _ _ ?_)
   replace Z : Fr 162 [(14, _), (136, _), (137, _), (138, _), (25, _), (26, _), (27, _)] [] a := Z.pick [14, 136, 137, 138, 25, 26, 27]
   refine ac fun K56 hK56 => aa fun K57 hK57 => wlm Z rfl fun a Z => wlv Z ((v_ne rfl rfl).asb (b' := true) rfl) fun a Z => ab (hK57 _ _ <| aB Z rfl ?_)
   refine aF <| hK46 _ _ <| am <| wlv Z ((aL rfl rfl (by decide)).asi (m' := 2) rfl) fun a Z => wlm Z rfl fun a Z => ab <| aP ?_
   refine aa fun K58 hK58 => wlv Z ((v_lt rfl rfl).asb (b' := false) rfl) fun a Z => ab (hK58 _ _ ?_)
   replace Z : Fr 162 [(14, _), (136, _), (137, _), (138, _), (139, _)] [] a := Z.pick [14, 136, 137, 138, 139]
   replace Y : St No w0 [_] w37 := Y.mask [false, true]
   refine ac fun K59 hK59 => av Z rfl ?_
   refine aF <| hK14 _ _ <| aa fun K60 hK60 => wla Z rfl fun a Z => ab (hK60 _ _ <| au ?_)
   refine aq Z Tryd.results8 (ae rfl ah) ?_
   exact ⟨by rfl, Y.ext⟩
  rw [hb2] at Z
  try simp only [qz] at hb2
  exact absurd hab hb2
 rw [hb1] at Z
 try simp only [qz] at hb1
 have hab : ¬ xa = xb := fun e => hb1 (hiff.2 e)
 have hn1 : ¬ t.take s.length = s := by rw [← hs, ← ht]; exact k8 hao hbo hab
 have hn2 : ¬ s.take t.length = t := by rw [← hs, ← ht]; exact k8 hbo hao (fun e => hab e.symm)
 rcases Bool.eq_false_or_eq_true (decide (xa = xb)) with hb8 | hb8
 ·rw [hb8] at Z
  try simp only [qz] at hb8
  exact absurd hb8 hab
 rw [hb8] at Z
 try simp only [qz] at hb8
 refine wly Z ((go rfl rfl Tryd.underlying4).asb (b' := false) rfl) fun a Z => wlv Z (aw rfl rfl) fun a Z => ab (hK10 _ _ ?_)
 replace Z : Fr 162 [(4, _), (5, _), (6, _), (14, _), (15, _), (16, _), (17, _), (19, _), (81, _)] [] a := Z.pick [4, 5, 6, 14, 15, 16, 17, 19, 81]
 replace Y : St No w0 [_, _] w14 := Y.mask [false, true, true]
 refine av Z rfl ?_
 refine ao <| hK9 _ _ <| ac fun K61 hK61 => aa fun K62 hK62 => wlv Z (ar (Y.get (k := 1) rfl) rfl (Tryd.isAgg27 _) (Tryd.sizeOf27 _)) fun a Z => wlv Z (ar (Y.get (k := 0) rfl) rfl (Tryd.isAgg27 _) (Tryd.sizeOf27 _)) fun a Z => wlv Z ((fP rfl rfl (by kernel_rfl) (eqRec xa.t xa.kind xa.a xa.b xa.text xb.t xb.kind xb.a xb.b xb.text _)).asb (b' := true) (by simp [hab])) fun a Z => wlm Z rfl fun a Z => wly Z (ai rfl) fun a Z => wly Z (aJ rfl rfl (Tryd.runUnderlying9 _)) fun a Z => wly Z (ai rfl) fun a Z => wly Z (aJ rfl rfl (Tryd.runUnderlying9 _)) fun a Z => wly Z (v_le rfl rfl) fun a Z => wly Z (ai rfl) fun a Z => ?_
 rcases Bool.eq_false_or_eq_true (decide ((s.length : Int) ≤ (t.length : Int))) with hb9 | hb9
 ·rw [hb9] at Z
  try simp only [qz] at hb9
  refine wly Z (ai rfl) fun a Z => wly Z (ai rfl) fun a Z => wly Z (aJ rfl rfl (Tryd.runUnderlying9 _)) fun a Z => wly Z ((aV (xs := t) (l := 0) (h := s.length) rfl rfl rfl Tryd.underlying9 (.inl ⟨rfl, rfl⟩) (.inr (by rw [show ((s.length : Int) : Int) = ((s.length : Nat) : Int) from by omega] <;> rfl)) (by omega) (by first | omega | exact Nat.min_le_left _ _)).as (v' := sv (t.take s.length)) rfl) fun a Z => wly Z (ai rfl) fun a Z => wly Z ((dq rfl rfl).asb (b' := false) (by exact decide_eq_false hn1)) fun a Z => wly Z (aE rfl rfl) fun a Z => wly Z (ai rfl) fun a Z => wly Z (ai rfl) fun a Z => wly Z (aJ rfl rfl (Tryd.runUnderlying9 _)) fun a Z => wly Z (ai rfl) fun a Z => wly Z (aJ rfl rfl (Tryd.runUnderlying9 _)) fun a Z => wly Z (v_le rfl rfl) fun a Z => wly Z (ai rfl) fun a Z => ?_
  rcases Bool.eq_false_or_eq_true (decide ((t.length : Int) ≤ (s.length : Int))) with hb10 | hb10
  ·rw [hb10] at Z
   try simp only [qz] at hb10
   refine wly Z (ai rfl) fun a Z => wly Z (ai rfl) fun a Z => wly Z (aJ rfl rfl (Tryd.runUnderlying9 _)) fun a Z => wly Z ((aV (xs := s) (l := 0) (h := t.length) rfl rfl rfl Tryd.underlying9 (.inl ⟨rfl, rfl⟩) (.inr (by rw [show ((t.length : Int) : Int) = ((t.length : Nat) : Int) from by omega] <;> rfl)) (by omega) (by first | omega | exact Nat.min_le_left _ _)).as (v' := sv (s.take t.length)) rfl) fun a Z => wly Z (ai rfl) fun a Z => wly Z ((dq rfl rfl).asb (b' := false) (by exact decide_eq_false hn2)) fun a Z => wly Z (aE rfl rfl) fun a Z => wly Z (aw rfl rfl) fun a Z => wlv Z (aE rfl rfl) fun a Z => ab (hK62 _ _ ?_)
   replace Z : Fr 162 [(4, _), (5, _), (6, _), (14, _), (17, _), (114, _)] [] a := Z.pick [4, 5, 6, 14, 17, 114]
   replace Y : St No w0 [] w14 := Y.mask [false, false]
   refine av Z rfl ?_
   refine ao <| hK61 _ _ <| aa fun K63 hK63 => wlm Z rfl fun a Z => wlm Z rfl fun a Z => wlv Z (aJ rfl rfl (Tryd.runUnderlying9 _)) fun a Z => al Z Y (by decide) Tryd.call19 rfl (dD place (s.length : Int) _ (by first | assumption | (unfold i64 at *; omega) | omega) (by omega)) ?_
   clear Z Y
   intro a w38 Z Y
   refine wla Z rfl fun a Z => ab (hK63 _ _ ?_)
   replace Z : Fr 162 [(4, _), (6, _), (14, _), (17, _), (23, _)] [] a := Z.pick [4, 6, 14, 17, 23]
   refine ac fun K64 hK64 => ac fun K65 hK65 => ?_
   obtain ⟨k, hk⟩ : ∃ k : Nat, pickI place (s.length : Int) = (k : Int) := ⟨_, (Int.toNat_of_nonneg hpp.1).symm⟩
   rw [hk] at Z hpp
   refine aN (by kernel_rfl) ?_
   replace Z : Fr 162 [(4, _), (6, _), (14, _), (17, _), (23, _)] [] a := Z.pick [4, 6, 14, 17, 23]
   refine aI [9, 17] (fun i => match i with | 9 => pm (fun b : Nat => .slice (some ⟨b, 0, none⟩) 1 1) (fun b => [own (.slice (some ⟨b, 0, none⟩) 1 1) 5 1 [[yv cc]]]) (fun _ => True) | 17 => pm (fun b : Nat => .slice (some ⟨b, 0, none⟩) 2 2) (fun b => [own (.slice (some ⟨b, 0, none⟩) 2 2) 9 1 [[sv (text.take (min text.length 60))], [sv (((s.take k) ++ ([cc])) ++ (s.drop (k + 1)))]]]) (fun _ => True) | _ => fun _ _ => False) 20 [[], [], [1], [2], [0, 3], [], [], [5, 6], [], [8], [9], [7, 10], [], [], [13], [12, 14], [11, 15], [4, 16], [17], []] [sv text, sv text, iv (text.length : Int), iv (min (text.length : Int) 60), sv (text.take (min text.length 60)), sv s, iv (k : Int), sv (s.take k), yv cc, undef, sv ([cc]), sv ((s.take k) ++ ([cc])), sv s, iv (k : Int), iv ((k : Int) + 1), sv (s.drop (k + 1)), sv (((s.take k) ++ ([cc])) ++ (s.drop (k + 1))), undef, iv 2, iv 0] Z Y (by kernel_rfl) (by kernel_rfl) (by kernel_rfl) ?_ ?_ ?_
   ·intro i hi hiq
    match i, hi, hiq with
    | 0, _, _ =>
     intro w Y
     exact OpV.g (ai rfl)
    | 1, _, _ =>
     intro w Y
     exact OpV.g (ai rfl)
    | 2, _, _ =>
     intro w Y
     exact OpV.g (aJ rfl rfl (Tryd.runUnderlying9 _))
    | 3, _, _ =>
     intro w Y
     exact OpV.g (eN rfl rfl)
    | 4, _, _ =>
     intro w Y
     exact OpV.g ((aV (xs := text) (l := 0) (h := (min text.length 60)) rfl rfl rfl Tryd.underlying9 (.inl ⟨rfl, rfl⟩) (.inr (by rw [show (min (text.length : Int) 60 : Int) = (((min text.length 60) : Nat) : Int) from by omega] <;> rfl)) (by omega) (by first | omega | exact Nat.min_le_left _ _)).as (v' := sv (text.take (min text.length 60))) rfl)
    | 5, _, _ =>
     intro w Y
     exact OpV.g (ai rfl)
    | 6, _, _ =>
     intro w Y
     exact OpV.g (ai rfl)
    | 7, _, _ =>
     intro w Y
     exact OpV.g ((aV (xs := s) (l := 0) (h := k) rfl rfl rfl Tryd.underlying9 (.inl ⟨rfl, rfl⟩) (.inr (by rw [show ((k : Int) : Int) = ((k : Nat) : Int) from by omega] <;> rfl)) (by omega) (by first | omega | exact Nat.min_le_left _ _)).as (v' := sv (s.take k)) rfl)
    | 8, _, _ =>
     intro w Y
     exact OpV.g (ai rfl)
    | 9, _, h => exact absurd (by simp) h
    | 10, _, _ =>
     rintro _ _ ⟨b11, rfl, -, rfl⟩
     intro w Y
     exact OpV.g (bS (xs := [cc]) (Y.ownAt (i := 0) rfl) rfl Tryd.underlying71 Tryd.underlying5 Tryd.underlying9)
    | 11, _, _ =>
     intro w Y
     exact OpV.g (cC rfl rfl (by simp only [List.length_append, List.length_take, List.length_drop, List.length_cons, List.length_nil]; omega))
    | 12, _, _ =>
     intro w Y
     exact OpV.g (ai rfl)
    | 13, _, _ =>
     intro w Y
     exact OpV.g (ai rfl)
    | 14, _, _ =>
     intro w Y
     exact OpV.g (aL rfl rfl ⟨by omega, by omega⟩)
    | 15, _, _ =>
     intro w Y
     exact OpV.g ((aV (xs := s) (l := (k + 1)) (h := s.length) rfl rfl rfl Tryd.underlying9 (.inr (by rw [show ((k : Int) + 1 : Int) = (((k + 1) : Nat) : Int) from by omega] <;> rfl)) (.inl ⟨rfl, rfl⟩) (by omega) (Nat.le_refl _)).as (v' := sv (s.drop (k + 1))) (by rw [List.take_of_length_le (by rw [List.length_drop]; omega)]))
    | 16, _, _ =>
     intro w Y
     exact OpV.g (cC rfl rfl (by simp only [List.length_append, List.length_take, List.length_drop, List.length_cons, List.length_nil]; omega))
    | 17, _, h => exact absurd (by simp) h
    | 18, _, _ =>
     rintro _ _ ⟨b12, rfl, -, rfl⟩
     intro w Y
     exact OpV.g ((aM (sT := 45) (Y.ownAt (i := 0) rfl) rfl rfl (Tryd.runUnderlying45 _)).asi (m' := 2) (by rfl))
    | 19, _, _ =>
     intro w Y
     exact OpV.g (ai rfl)
    | i + 20, h, _ => exact absurd h (by omega)
   ·intro i hi
    simp only [List.mem_cons, List.not_mem_nil, or_false] at hi
    rcases hi with rfl | rfl
    ·intro w Y
     exact aK (E := 5) (sz := 1) rfl [[yv cc]] (fun _ => by kernel_rfl) (by simp) rfl (by decide)
    ·intro w Y
     exact aK (E := 9) (sz := 1) rfl [[sv (text.take (min text.length 60))], [sv (((s.take k) ++ ([cc])) ++ (s.drop (k + 1)))]] (fun _ => by kernel_rfl) (by simp) rfl (by decide)
   clear Z Y
   rintro _ _ ⟨b11, rfl, -, rfl⟩ _ _ ⟨b12, rfl, -, rfl⟩ a w39 Z Y
   replace Z : Fr 162 [(119, sv text), (120, sv text), (121, iv (text.length : Int)), (122, iv (min (text.length : Int) 60)), (123, sv (text.take (min text.length 60))), (124, sv s), (125, iv (k : Int)), (126, sv (s.take k)), (127, yv cc), (128, _), (129, sv ([cc])), (130, sv ((s.take k) ++ ([cc]))), (131, sv s), (132, iv (k : Int)), (133, iv ((k : Int) + 1)), (134, sv (s.drop (k + 1))), (135, sv (((s.take k) ++ ([cc])) ++ (s.drop (k + 1)))), (136, _), (137, iv 2), (138, iv 0), (4, _), (6, _), (14, _), (17, _), (23, _)] [] a := Z
   replace Y : St No w0 [_, _] w39 := Y
   refine ab <| hK65 _ _ ?_
   replace Z : Fr 162 [(14, _), (136, _), (137, _), (138, _)] [] a := Z.pick [14, 136, 137, 138]
   replace Y : St No w0 [_] w39 := Y.mask [false, true]
   refine ap <| cS 3 ?_
   refine aP ?_
   refine aa fun K66 hK66 => wlv Z ((v_lt rfl rfl).asb (b' := true) rfl) fun a Z => ab (hK66 _ _ <| ac fun K67 hK67 => ?_)
   refine aB Z rfl ?_
   refine ao <| hK67 _ _ <| ac fun K68 hK68 => ap <| aa fun K69 hK69 => wlv Z ((ak (i := 0) (sT := 45) (Y.ownAt (i := 0) rfl) rfl rfl (Tryd.runUnderlying45 _) (Tryd.sizeOf9 _) (by omega) (by simp)).as (v' := slAddr (.slice (some ⟨b12, 0, none⟩) 2 2) (0 * 1)) rfl) fun a Z => wlv Z (ax (u := sv (text.take (min text.length 60))) (i := 0) (j := 0) (Y.ownAt (i := 0) rfl) (by simp) rfl (Tryd.isAgg9 _) (by rfl)) fun a Z => wla Z rfl fun a Z => ?_
   refine ab (hK69 _ _ <| aa fun K70 hK70 => ?_)
   refine wlm Z rfl fun a Z => ?_
   rcases Bool.eq_false_or_eq_true ((decRec (text.take (min text.length 60))).isSome) with hb13 | hb13
   ·try simp only [qz] at hb13
    obtain ⟨r, hr, hro, hre⟩ := bR hb13
    refine al Z Y (by decide) Tryd.call24 rfl (bC (by first | (rw [List.length_take]; omega) | (simp only [List.length_append, List.length_take, List.length_drop, List.length_cons, List.length_nil]; omega)) hr) ?_
    clear Z Y
    intro a w40 Z Y
    refine wlm Z rfl fun a Z => wlv Z (ag rfl rfl) fun a Z => wlv Z (ag rfl rfl) fun a Z => aD Z Y (by decide) (Tryd.zeroValue27 _) (cs := [iv 0, iv 0, iv 0, iv 0, .string (⟨#[]⟩)]) rfl ?_
    clear Z Y
    intro a w41 Z Y
    refine az 0 Z Y rfl rfl rfl (Tryd.sizeOf27 _) rfl (lb rfl) (ds := [iv r.t, iv r.kind, iv r.a, iv r.b, sv r.text]) rfl rfl ?_
    clear Z Y
    intro a w42 Z Y
    refine wla Z rfl fun a Z => ab (hK70 _ _ ?_)
    replace Z : Fr 162 [(14, _), (136, _), (137, _), (138, _), (25, _), (26, _), (27, _)] [] a := Z.pick [14, 136, 137, 138, 25, 26, 27]
    refine ac fun K71 hK71 => aa fun K72 hK72 => wlm Z rfl fun a Z => wlv Z ((v_ne rfl rfl).asb (b' := false) rfl) fun a Z => ab (hK72 _ _ <| av Z rfl ?_)
    refine ao <| hK71 _ _ <| aa fun K73 hK73 => wlv Z (ar (Y.get (k := 0) rfl) rfl (Tryd.isAgg27 _) (Tryd.sizeOf27 _)) fun a Z => al Z Y (by decide) Tryd.call22 rfl (bw hro hre) ?_
    clear Z Y
    intro a w43 Z Y
    refine wlm Z rfl fun a Z => wlv Z (ag rfl rfl) fun a Z => wlv Z (ag rfl rfl) fun a Z => wla Z rfl fun a Z => wla Z rfl fun a Z => ab (hK73 _ _ ?_)
    replace Z : Fr 162 [(14, _), (136, _), (137, _), (138, _), (25, _), (28, _), (29, _)] [] a := Z.pick [14, 136, 137, 138, 25, 28, 29]
    replace Y : St No w0 [_] w43 := Y.mask [false, true]
    refine aa fun K74 hK74 => wlm Z rfl fun a Z => wlv Z ((v_ne rfl rfl).asb (b' := false) rfl) fun a Z => wlm Z rfl fun a Z => wly Z (ai rfl) fun a Z => wly Z (ai rfl) fun a Z => wly Z ((cW rfl rfl).asb (b' := false) (by simp)) fun a Z => wlv Z (aw rfl rfl) fun a Z => ab (hK74 _ _ ?_)
    replace Z : Fr 162 [(14, _), (136, _), (137, _), (138, _), (160, _)] [] a := Z.pick [14, 136, 137, 138, 160]
    refine av Z rfl ?_
    refine ao <| hK68 _ _ <| am <| wlv Z ((aL rfl rfl (by decide)).asi (m' := 1) rfl) fun a Z => wlm Z rfl fun a Z => ab <| aP ?_
    refine aa fun K75 hK75 => wlv Z ((v_lt rfl rfl).asb (b' := true) rfl) fun a Z => ab (hK75 _ _ <| ac fun K76 hK76 => ?_)
    refine aB Z rfl ?_
    refine ao <| hK76 _ _ <| ac fun K77 hK77 => ap <| aa fun K78 hK78 => wlv Z ((ak (i := 1) (sT := 45) (Y.ownAt (i := 0) rfl) rfl rfl (Tryd.runUnderlying45 _) (Tryd.sizeOf9 _) (by omega) (by simp)).as (v' := slAddr (.slice (some ⟨b12, 0, none⟩) 2 2) (1 * 1)) rfl) fun a Z => wlv Z (ax (u := sv (((s.take k) ++ ([cc])) ++ (s.drop (k + 1)))) (i := 1) (j := 0) (Y.ownAt (i := 0) rfl) (by simp) rfl (Tryd.isAgg9 _) (by rfl)) fun a Z => wla Z rfl fun a Z => ?_
    refine ab (hK78 _ _ <| aa fun K79 hK79 => ?_)
    refine wlm Z rfl fun a Z => ?_
    rcases Bool.eq_false_or_eq_true ((decRec (((s.take k) ++ ([cc])) ++ (s.drop (k + 1)))).isSome) with hb14 | hb14
    ·try simp only [qz] at hb14
     obtain ⟨r, hr, hro, hre⟩ := bR hb14
     refine al Z Y (by decide) Tryd.call24 rfl (bC (by first | (rw [List.length_take]; omega) | (simp only [List.length_append, List.length_take, List.length_drop, List.length_cons, List.length_nil]; omega)) hr) ?_
     clear Z Y
     intro a w44 Z Y
     refine wlm Z rfl fun a Z => wlv Z (ag rfl rfl) fun a Z => wlv Z (ag rfl rfl) fun a Z => aD Z Y (by decide) (Tryd.zeroValue27 _) (cs := [iv 0, iv 0, iv 0, iv 0, .string (⟨#[]⟩)]) rfl ?_
     clear Z Y
     intro a w45 Z Y
     refine az 0 Z Y rfl rfl rfl (Tryd.sizeOf27 _) rfl (lb rfl) (ds := [iv r.t, iv r.kind, iv r.a, iv r.b, sv r.text]) rfl rfl ?_
     clear Z Y
     intro a w46 Z Y
     refine wla Z rfl fun a Z => ab (hK79 _ _ ?_)
     replace Z : Fr 162 [(14, _), (136, _), (137, _), (138, _), (25, _), (26, _), (27, _)] [] a := Z.pick [14, 136, 137, 138, 25, 26, 27]
     refine ac fun K80 hK80 => aa fun K81 hK81 => wlm Z rfl fun a Z => wlv Z ((v_ne rfl rfl).asb (b' := false) rfl) fun a Z => ab (hK81 _ _ <| av Z rfl ?_)
     refine ao <| hK80 _ _ <| aa fun K82 hK82 => wlv Z (ar (Y.get (k := 0) rfl) rfl (Tryd.isAgg27 _) (Tryd.sizeOf27 _)) fun a Z => al Z Y (by decide) Tryd.call22 rfl (bw hro hre) ?_
     clear Z Y
     intro a w47 Z Y
     refine wlm Z rfl fun a Z => wlv Z (ag rfl rfl) fun a Z => wlv Z (ag rfl rfl) fun a Z => wla Z rfl fun a Z => wla Z rfl fun a Z => ab (hK82 _ _ ?_)
     replace Z : Fr 162 [(14, _), (136, _), (137, _), (138, _), (25, _), (28, _), (29, _)] [] a := Z.pick [14, 136, 137, 138, 25, 28, 29]
     replace Y : St No w0 [_] w47 := Y.mask [false, true]
     refine aa fun K83 hK83 => wlm Z rfl fun a Z => wlv Z ((v_ne rfl rfl).asb (b' := false) rfl) fun a Z => wlm Z rfl fun a Z => wly Z (ai rfl) fun a Z => wly Z (ai rfl) fun a Z => wly Z ((cW rfl rfl).asb (b' := false) (by simp)) fun a Z => wlv Z (aw rfl rfl) fun a Z => ab (hK83 _ _ ?_)
     replace Z : Fr 162 [(14, _), (136, _), (137, _), (138, _), (160, _)] [] a := Z.pick [14, 136, 137, 138, 160]
     refine av Z rfl ?_
     refine ao <| hK77 _ _ <| am <| wlv Z ((aL rfl rfl (by decide)).asi (m' := 2) rfl) fun a Z => wlm Z rfl fun a Z => ab <| aP ?_
     refine aa fun K84 hK84 => wlv Z ((v_lt rfl rfl).asb (b' := false) rfl) fun a Z => ab (hK84 _ _ <| ac fun K85 hK85 => ?_)
     refine av Z rfl ?_
     refine aF <| hK64 _ _ <| aa fun K86 hK86 => wla Z rfl fun a Z => ab (hK86 _ _ ?_)
     replace Z : Fr 162 [(14, _)] [] a := Z.pick [14]
     replace Y : St No w0 [] w47 := Y.mask [false]
     refine au ?_
     refine aq Z Tryd.results8 (ae rfl ah) ?_
     exact ⟨by rfl, Y.ext⟩
    try simp only [qz] at hb14
    refine al Z Y (by decide) Tryd.call24 rfl (bD (by first | (rw [List.length_take]; omega) | (simp only [List.length_append, List.length_take, List.length_drop, List.length_cons, List.length_nil]; omega)) (bN hb14)) ?_
    clear Z Y
    intro a w48 Z Y
    refine wlm Z rfl fun a Z => wlv Z (ag rfl rfl) fun a Z => wlv Z (ag rfl rfl) fun a Z => aD Z Y (by decide) (Tryd.zeroValue27 _) (cs := [iv 0, iv 0, iv 0, iv 0, .string (⟨#[]⟩)]) rfl ?_
    clear Z Y
    intro a w49 Z Y
    refine az 0 Z Y rfl rfl rfl (Tryd.sizeOf27 _) rfl (lb rfl) (ds := [iv 0, iv 0, iv 0, iv 0, sv ([] : By)]) rfl rfl ?_
    clear Z Y
    intro a w50 Z Y
    refine wla Z rfl fun a Z => ab (hK79 _ _ ?_)
    replace Z : Fr 162 [(14, _), (136, _), (137, _), (138, _), (25, _), (26, _), (27, _)] [] a := Z.pick [14, 136, 137, 138, 25, 26, 27]
    refine ac fun K87 hK87 => aa fun K88 hK88 => wlm Z rfl fun a Z => wlv Z ((v_ne rfl rfl).asb (b' := true) rfl) fun a Z => ab (hK88 _ _ <| aB Z rfl ?_)
    refine aF <| hK77 _ _ <| am <| wlv Z ((aL rfl rfl (by decide)).asi (m' := 2) rfl) fun a Z => wlm Z rfl fun a Z => ab <| aP ?_
    refine aa fun K89 hK89 => wlv Z ((v_lt rfl rfl).asb (b' := false) rfl) fun a Z => ab (hK89 _ _ ?_)
    replace Z : Fr 162 [(14, _), (136, _), (137, _), (138, _), (139, _)] [] a := Z.pick [14, 136, 137, 138, 139]
    replace Y : St No w0 [_] w50 := Y.mask [false, true]
    refine ac fun K90 hK90 => av Z rfl ?_
    refine aF <| hK64 _ _ <| aa fun K91 hK91 => wla Z rfl fun a Z => ab (hK91 _ _ <| au ?_)
    refine aq Z Tryd.results8 (ae rfl ah) ?_
    exact ⟨by rfl, Y.ext⟩
   try simp only [qz] at hb13
   refine al Z Y (by decide) Tryd.call24 rfl (bD (by first | (rw [List.length_take]; omega) | (simp only [List.length_append, List.length_take, List.length_drop, List.length_cons, List.length_nil]; omega)) (bN hb13)) ?_
   clear Z Y
   intro a w51 Z Y
   refine wlm Z rfl fun a Z => wlv Z (ag rfl rfl) fun a Z => wlv Z (ag rfl rfl) fun a Z => aD Z Y (by decide) (Tryd.zeroValue27 _) (cs := [iv 0, iv 0, iv 0, iv 0, .string (⟨#[]⟩)]) rfl ?_
   clear Z Y
   intro a w52 Z Y
   refine az 0 Z Y rfl rfl rfl (Tryd.sizeOf27 _) rfl (lb rfl) (ds := [iv 0, iv 0, iv 0, iv 0, sv ([] : By)]) rfl rfl ?_
   clear Z Y
   intro a w53 Z Y
   refine wla Z rfl fun a Z => ab (hK70 _ _ ?_)
   replace Z : Fr 162 [(14, _), (136, _), (137, _), (138, _), (25, _), (26, _), (27, _)] [] a := Z.pick [14, 136, 137, 138, 25, 26, 27]
   refine ac fun K92 hK92 => aa fun K93 hK93 => wlm Z rfl fun a Z => wlv Z ((v_ne rfl rfl).asb (b' := true) rfl) fun a Z => ab (hK93 _ _ <| aB Z rfl ?_)
   refine aF <| hK68 _ _ <| am <| wlv Z ((aL rfl rfl (by decide)).asi (m' := 1) rfl) fun a Z => wlm Z rfl fun a Z => ab <| aP ?_
   refine aa fun K94 hK94 => wlv Z ((v_lt rfl rfl).asb (b' := true) rfl) fun a Z => ab (hK94 _ _ ?_)
   replace Z : Fr 162 [(14, _), (136, _), (137, _), (138, _), (139, _)] [] a := Z.pick [14, 136, 137, 138, 139]
   replace Y : St No w0 [_] w53 := Y.mask [false, true]
   refine ac fun K95 hK95 => aB Z rfl ?_
   refine ao <| hK95 _ _ <| ac fun K96 hK96 => ap <| aa fun K97 hK97 => wlv Z ((ak (i := 1) (sT := 45) (Y.ownAt (i := 0) rfl) rfl rfl (Tryd.runUnderlying45 _) (Tryd.sizeOf9 _) (by omega) (by simp)).as (v' := slAddr (.slice (some ⟨b12, 0, none⟩) 2 2) (1 * 1)) rfl) fun a Z => wlv Z (ax (u := sv (((s.take k) ++ ([cc])) ++ (s.drop (k + 1)))) (i := 1) (j := 0) (Y.ownAt (i := 0) rfl) (by simp) rfl (Tryd.isAgg9 _) (by rfl)) fun a Z => wla Z rfl fun a Z => ?_
   refine ab (hK97 _ _ <| aa fun K98 hK98 => ?_)
   refine wlm Z rfl fun a Z => ?_
   rcases Bool.eq_false_or_eq_true ((decRec (((s.take k) ++ ([cc])) ++ (s.drop (k + 1)))).isSome) with hb15 | hb15
   ·try simp only [qz] at hb15
    obtain ⟨r, hr, hro, hre⟩ := bR hb15
    refine al Z Y (by decide) Tryd.call24 rfl (bC (by first | (rw [List.length_take]; omega) | (simp only [List.length_append, List.length_take, List.length_drop, List.length_cons, List.length_nil]; omega)) hr) ?_
    clear Z Y
    intro a w54 Z Y
    refine wlm Z rfl fun a Z => wlv Z (ag rfl rfl) fun a Z => wlv Z (ag rfl rfl) fun a Z => aD Z Y (by decide) (Tryd.zeroValue27 _) (cs := [iv 0, iv 0, iv 0, iv 0, .string (⟨#[]⟩)]) rfl ?_
    clear Z Y
    intro a w55 Z Y
    refine az 0 Z Y rfl rfl rfl (Tryd.sizeOf27 _) rfl (lb rfl) (ds := [iv r.t, iv r.kind, iv r.a, iv r.b, sv r.text]) rfl rfl ?_
    clear Z Y
    intro a w56 Z Y
    refine wla Z rfl fun a Z => ab (hK98 _ _ ?_)
    replace Z : Fr 162 [(14, _), (136, _), (137, _), (138, _), (25, _), (26, _), (27, _)] [] a := Z.pick [14, 136, 137, 138, 25, 26, 27]
    refine ac fun K99 hK99 => aa fun K100 hK100 => wlm Z rfl fun a Z => wlv Z ((v_ne rfl rfl).asb (b' := false) rfl) fun a Z => ab (hK100 _ _ <| av Z rfl ?_)
    refine ao <| hK99 _ _ <| aa fun K101 hK101 => wlv Z (ar (Y.get (k := 0) rfl) rfl (Tryd.isAgg27 _) (Tryd.sizeOf27 _)) fun a Z => al Z Y (by decide) Tryd.call22 rfl (bw hro hre) ?_
    clear Z Y
    intro a w57 Z Y
    refine wlm Z rfl fun a Z => wlv Z (ag rfl rfl) fun a Z => wlv Z (ag rfl rfl) fun a Z => wla Z rfl fun a Z => wla Z rfl fun a Z => ab (hK101 _ _ ?_)
    replace Z : Fr 162 [(14, _), (136, _), (137, _), (138, _), (25, _), (28, _), (29, _)] [] a := Z.pick [14, 136, 137, 138, 25, 28, 29]
    replace Y : St No w0 [_] w57 := Y.mask [false, true]
    refine aa fun K102 hK102 => wlm Z rfl fun a Z => wlv Z ((v_ne rfl rfl).asb (b' := false) rfl) fun a Z => wlm Z rfl fun a Z => wly Z (ai rfl) fun a Z => wly Z (ai rfl) fun a Z => wly Z ((cW rfl rfl).asb (b' := false) (by simp)) fun a Z => wlv Z (aw rfl rfl) fun a Z => ab (hK102 _ _ ?_)
    replace Z : Fr 162 [(14, _), (136, _), (137, _), (138, _), (160, _)] [] a := Z.pick [14, 136, 137, 138, 160]
    refine av Z rfl ?_
    refine ao <| hK96 _ _ <| am <| wlv Z ((aL rfl rfl (by decide)).asi (m' := 2) rfl) fun a Z => wlm Z rfl fun a Z => ab <| aP ?_
    refine aa fun K103 hK103 => wlv Z ((v_lt rfl rfl).asb (b' := false) rfl) fun a Z => ab (hK103 _ _ <| ac fun K104 hK104 => ?_)
    refine av Z rfl ?_
    refine aF <| hK64 _ _ <| aa fun K105 hK105 => wla Z rfl fun a Z => ab (hK105 _ _ ?_)
    replace Z : Fr 162 [(14, _)] [] a := Z.pick [14]
    replace Y : St No w0 [] w57 := Y.mask [false]
    refine au ?_
    refine aq Z Tryd.results8 (ae rfl ah) ?_
    exact ⟨by rfl, Y.ext⟩
   try simp only [qz] at hb15
   refine al Z Y (by decide) Tryd.call24 rfl (bD (by first | (rw [List.length_take]; omega) | (simp only [List.length_append, List.length_take, List.length_drop, List.length_cons, List.length_nil]; omega)) (bN hb15)) ?_
   clear Z Y
   intro a w58 Z Y
   refine wlm Z rfl fun a Z => wlv Z (ag rfl rfl) fun a Z => wlv Z (ag rfl rfl) fun a Z => aD Z Y (by decide) (Tryd.zeroValue27 _) (cs := [iv 0, iv 0, iv 0, iv 0, .string (⟨#[]⟩)]) rfl ?_
   clear Z Y
   intro a w59 Z Y
   refine az 0 Z Y rfl rfl rfl (Tryd.sizeOf27 _) rfl (lb rfl) (ds := [iv 0, iv 0, iv 0, iv 0, sv ([] : By)]) rfl rfl ?_
   clear Z Y
   intro a w60 Z Y
   refine wla Z rfl fun a Z => ab (hK98 _ _ ?_)
   replace Z : Fr 162 [(14, _), (136, _), (137, _), (138, _), (25, _), (26, _), (27, _)] [] a := Z.pick [14, 136, 137, 138, 25, 26, 27]
   refine ac fun K106 hK106 => aa fun K107 hK107 => wlm Z rfl fun a Z => wlv Z ((v_ne rfl rfl).asb (b' := true) rfl) fun a Z => ab (hK107 _ _ <| aB Z rfl ?_)
   refine aF <| hK96 _ _ <| am <| wlv Z ((aL rfl rfl (by decide)).asi (m' := 2) rfl) fun a Z => wlm Z rfl fun a Z => ab <| aP ?_
   refine aa fun K108 hK108 => wlv Z ((v_lt rfl rfl).asb (b' := false) rfl) fun a Z => ab (hK108 _ _ ?_)
   replace Z : Fr 162 [(14, _), (136, _), (137, _), (138, _), (139, _)] [] a := Z.pick [14, 136, 137, 138, 139]
   replace Y : St No w0 [_] w60 := Y.mask [false, true]
   refine ac fun K109 hK109 => av Z rfl ?_
   refine aF <| hK64 _ _ <| aa fun K110 hK110 => wla Z rfl fun a Z => ab (hK110 _ _ <| au ?_)
   refine aq Z Tryd.results8 (ae rfl ah) ?_
   exact ⟨by rfl, Y.ext⟩
  rw [hb10] at Z
  try simp only [qz] at hb10
  refine wln Z fun a Z => wln Z fun a Z => wln Z fun a Z => wln Z fun a Z => wln Z fun a Z => wln Z fun a Z => wly Z (aw rfl rfl) fun a Z => wly Z (aw rfl rfl) fun a Z => wlv Z (aE rfl rfl) fun a Z => ?_
  refine ab (hK62 _ _ ?_)
  replace Z : Fr 162 [(4, _), (5, _), (6, _), (14, _), (17, _), (114, _)] [] a := Z.pick [4, 5, 6, 14, 17, 114]
  replace Y : St No w0 [] w14 := Y.mask [false, false]
  refine av Z rfl ?_
  refine ao <| hK61 _ _ <| aa fun K111 hK111 => wlm Z rfl fun a Z => wlm Z rfl fun a Z => wlv Z (aJ rfl rfl (Tryd.runUnderlying9 _)) fun a Z => al Z Y (by decide) Tryd.call19 rfl (dD place (s.length : Int) _ (by first | assumption | (unfold i64 at *; omega) | omega) (by omega)) ?_
  clear Z Y
  intro a w61 Z Y
  refine wla Z rfl fun a Z => ab (hK111 _ _ ?_)
  replace Z : Fr 162 [(4, _), (6, _), (14, _), (17, _), (23, _)] [] a := Z.pick [4, 6, 14, 17, 23]
  refine ac fun K112 hK112 => ac fun K113 hK113 => ?_
  obtain ⟨k, hk⟩ : ∃ k : Nat, pickI place (s.length : Int) = (k : Int) := ⟨_, (Int.toNat_of_nonneg hpp.1).symm⟩
  rw [hk] at Z hpp
  refine aN (by kernel_rfl) ?_
  replace Z : Fr 162 [(4, _), (6, _), (14, _), (17, _), (23, _)] [] a := Z.pick [4, 6, 14, 17, 23]
  refine aI [9, 17] (fun i => match i with | 9 => pm (fun b : Nat => .slice (some ⟨b, 0, none⟩) 1 1) (fun b => [own (.slice (some ⟨b, 0, none⟩) 1 1) 5 1 [[yv cc]]]) (fun _ => True) | 17 => pm (fun b : Nat => .slice (some ⟨b, 0, none⟩) 2 2) (fun b => [own (.slice (some ⟨b, 0, none⟩) 2 2) 9 1 [[sv (text.take (min text.length 60))], [sv (((s.take k) ++ ([cc])) ++ (s.drop (k + 1)))]]]) (fun _ => True) | _ => fun _ _ => False) 20 [[], [], [1], [2], [0, 3], [], [], [5, 6], [], [8], [9], [7, 10], [], [], [13], [12, 14], [11, 15], [4, 16], [17], []] [sv text, sv text, iv (text.length : Int), iv (min (text.length : Int) 60), sv (text.take (min text.length 60)), sv s, iv (k : Int), sv (s.take k), yv cc, undef, sv ([cc]), sv ((s.take k) ++ ([cc])), sv s, iv (k : Int), iv ((k : Int) + 1), sv (s.drop (k + 1)), sv (((s.take k) ++ ([cc])) ++ (s.drop (k + 1))), undef, iv 2, iv 0] Z Y (by kernel_rfl) (by kernel_rfl) (by kernel_rfl) ?_ ?_ ?_
  ·intro i hi hiq
   match i, hi, hiq with
   | 0, _, _ =>
    intro w Y
    exact OpV.g (ai rfl)
   | 1, _, _ =>
    intro w Y
    exact OpV.g (ai rfl)
   | 2, _, _ =>
    intro w Y
    exact OpV.g (aJ rfl rfl (Tryd.runUnderlying9 _))
   | 3, _, _ =>
    intro w Y
    exact OpV.g (eN rfl rfl)
   | 4, _, _ =>
    intro w Y
    exact OpV.g ((aV (xs := text) (l := 0) (h := (min text.length 60)) rfl rfl rfl Tryd.underlying9 (.inl ⟨rfl, rfl⟩) (.inr (by rw [show (min (text.length : Int) 60 : Int) = (((min text.length 60) : Nat) : Int) from by omega] <;> rfl)) (by omega) (by first | omega | exact Nat.min_le_left _ _)).as (v' := sv (text.take (min text.length 60))) rfl)
   | 5, _, _ =>
    intro w Y
    exact OpV.g (ai rfl)
   | 6, _, _ =>
    intro w Y
    exact OpV.g (ai rfl)
   | 7, _, _ =>
    intro w Y
    exact OpV.g ((aV (xs := s) (l := 0) (h := k) rfl rfl rfl Tryd.underlying9 (.inl ⟨rfl, rfl⟩) (.inr (by rw [show ((k : Int) : Int) = ((k : Nat) : Int) from by omega] <;> rfl)) (by omega) (by first | omega | exact Nat.min_le_left _ _)).as (v' := sv (s.take k)) rfl)
   | 8, _, _ =>
    intro w Y
    exact OpV.g (ai rfl)
   | 9, _, h => exact absurd (by simp) h
   | 10, _, _ =>
    rintro _ _ ⟨b16, rfl, -, rfl⟩
    intro w Y
    exact OpV.g (bS (xs := [cc]) (Y.ownAt (i := 0) rfl) rfl Tryd.underlying71 Tryd.underlying5 Tryd.underlying9)
   | 11, _, _ =>
    intro w Y
    exact OpV.g (cC rfl rfl (by simp only [List.length_append, List.length_take, List.length_drop, List.length_cons, List.length_nil]; omega))
   | 12, _, _ =>
    intro w Y
    exact OpV.g (ai rfl)
   | 13, _, _ =>
    intro w Y
    exact OpV.g (ai rfl)
   | 14, _, _ =>
    intro w Y
    exact OpV.g (aL rfl rfl ⟨by omega, by omega⟩)
   | 15, _, _ =>
    intro w Y
    exact OpV.g ((aV (xs := s) (l := (k + 1)) (h := s.length) rfl rfl rfl Tryd.underlying9 (.inr (by rw [show ((k : Int) + 1 : Int) = (((k + 1) : Nat) : Int) from by omega] <;> rfl)) (.inl ⟨rfl, rfl⟩) (by omega) (Nat.le_refl _)).as (v' := sv (s.drop (k + 1))) (by rw [List.take_of_length_le (by rw [List.length_drop]; omega)]))
   | 16, _, _ =>
    intro w Y
    exact OpV.g (cC rfl rfl (by simp only [List.length_append, List.length_take, List.length_drop, List.length_cons, List.length_nil]; omega))
   | 17, _, h => exact absurd (by simp) h
   | 18, _, _ =>
    rintro _ _ ⟨b17, rfl, -, rfl⟩
    intro w Y
    exact OpV.g ((aM (sT := 45) (Y.ownAt (i := 0) rfl) rfl rfl (Tryd.runUnderlying45 _)).asi (m' := 2) (by rfl))
   | 19, _, _ =>
    intro w Y
    exact OpV.g (ai rfl)
   | i + 20, h, _ => exact absurd h (by omega)
  ·intro i hi
   simp only [List.mem_cons, List.not_mem_nil, or_false] at hi
   rcases hi with rfl | rfl
   ·intro w Y
    exact aK (E := 5) (sz := 1) rfl [[yv cc]] (fun _ => by kernel_rfl) (by simp) rfl (by decide)
   ·intro w Y
    exact aK (E := 9) (sz := 1) rfl [[sv (text.take (min text.length 60))], [sv (((s.take k) ++ ([cc])) ++ (s.drop (k + 1)))]] (fun _ => by kernel_rfl) (by simp) rfl (by decide)
  clear Z Y
  rintro _ _ ⟨b16, rfl, -, rfl⟩ _ _ ⟨b17, rfl, -, rfl⟩ a w62 Z Y
  replace Z : Fr 162 [(119, sv text), (120, sv text), (121, iv (text.length : Int)), (122, iv (min (text.length : Int) 60)), (123, sv (text.take (min text.length 60))), (124, sv s), (125, iv (k : Int)), (126, sv (s.take k)), (127, yv cc), (128, _), (129, sv ([cc])), (130, sv ((s.take k) ++ ([cc]))), (131, sv s), (132, iv (k : Int)), (133, iv ((k : Int) + 1)), (134, sv (s.drop (k + 1))), (135, sv (((s.take k) ++ ([cc])) ++ (s.drop (k + 1)))), (136, _), (137, iv 2), (138, iv 0), (4, _), (6, _), (14, _), (17, _), (23, _)] [] a := Z
  replace Y : St No w0 [_, _] w62 := Y
  refine ab <| hK113 _ _ ?_
  replace Z : Fr 162 [(14, _), (136, _), (137, _), (138, _)] [] a := Z.pick [14, 136, 137, 138]
  replace Y : St No w0 [_] w62 := Y.mask [false, true]
  refine ap <| cS 3 ?_
  refine aP ?_
  refine aa fun K114 hK114 => wlv Z ((v_lt rfl rfl).asb (b' := true) rfl) fun a Z => ab (hK114 _ _ <| ac fun K115 hK115 => ?_)
  refine aB Z rfl ?_
  refine ao <| hK115 _ _ <| ac fun K116 hK116 => ap <| aa fun K117 hK117 => wlv Z ((ak (i := 0) (sT := 45) (Y.ownAt (i := 0) rfl) rfl rfl (Tryd.runUnderlying45 _) (Tryd.sizeOf9 _) (by omega) (by simp)).as (v' := slAddr (.slice (some ⟨b17, 0, none⟩) 2 2) (0 * 1)) rfl) fun a Z => wlv Z (ax (u := sv (text.take (min text.length 60))) (i := 0) (j := 0) (Y.ownAt (i := 0) rfl) (by simp) rfl (Tryd.isAgg9 _) (by rfl)) fun a Z => wla Z rfl fun a Z => ?_
  refine ab (hK117 _ _ <| aa fun K118 hK118 => ?_)
  refine wlm Z rfl fun a Z => ?_
  rcases Bool.eq_false_or_eq_true ((decRec (text.take (min text.length 60))).isSome) with hb18 | hb18
  ·try simp only [qz] at hb18
   obtain ⟨r, hr, hro, hre⟩ := bR hb18
   refine al Z Y (by decide) Tryd.call24 rfl (bC (by first | (rw [List.length_take]; omega) | (simp only [List.length_append, List.length_take, List.length_drop, List.length_cons, List.length_nil]; omega)) hr) ?_
   clear Z Y
   intro a w63 Z Y
   refine wlm Z rfl fun a Z => wlv Z (ag rfl rfl) fun a Z => wlv Z (ag rfl rfl) fun a Z => aD Z Y (by decide) (Tryd.zeroValue27 _) (cs := [iv 0, iv 0, iv 0, iv 0, .string (⟨#[]⟩)]) rfl ?_
   clear Z Y
   intro a w64 Z Y
   refine az 0 Z Y rfl rfl rfl (Tryd.sizeOf27 _) rfl (lb rfl) (ds := [iv r.t, iv r.kind, iv r.a, iv r.b, sv r.text]) rfl rfl ?_
   clear Z Y
   intro a w65 Z Y
   refine wla Z rfl fun a Z => ab (hK118 _ _ ?_)
   replace Z : Fr 162 [(14, _), (136, _), (137, _), (138, _), (25, _), (26, _), (27, _)] [] a := Z.pick [14, 136, 137, 138, 25, 26, 27]
   refine ac fun K119 hK119 => aa fun K120 hK120 => wlm Z rfl fun a Z => wlv Z ((v_ne rfl rfl).asb (b' := false) rfl) fun a Z => ab (hK120 _ _ <| av Z rfl ?_)
   refine ao <| hK119 _ _ <| aa fun K121 hK121 => wlv Z (ar (Y.get (k := 0) rfl) rfl (Tryd.isAgg27 _) (Tryd.sizeOf27 _)) fun a Z => al Z Y (by decide) Tryd.call22 rfl (bw hro hre) ?_
   clear Z Y
   intro a w66 Z Y
   refine wlm Z rfl fun a Z => wlv Z (ag rfl rfl) fun a Z => wlv Z (ag rfl rfl) fun a Z => wla Z rfl fun a Z => wla Z rfl fun a Z => ab (hK121 _ _ ?_)
   replace Z : Fr 162 [(14, _), (136, _), (137, _), (138, _), (25, _), (28, _), (29, _)] [] a := Z.pick [14, 136, 137, 138, 25, 28, 29]
   replace Y : St No w0 [_] w66 := Y.mask [false, true]
   refine aa fun K122 hK122 => wlm Z rfl fun a Z => wlv Z ((v_ne rfl rfl).asb (b' := false) rfl) fun a Z => wlm Z rfl fun a Z => wly Z (ai rfl) fun a Z => wly Z (ai rfl) fun a Z => wly Z ((cW rfl rfl).asb (b' := false) (by simp)) fun a Z => wlv Z (aw rfl rfl) fun a Z => ab (hK122 _ _ ?_)
   replace Z : Fr 162 [(14, _), (136, _), (137, _), (138, _), (160, _)] [] a := Z.pick [14, 136, 137, 138, 160]
   refine av Z rfl ?_
   refine ao <| hK116 _ _ <| am <| wlv Z ((aL rfl rfl (by decide)).asi (m' := 1) rfl) fun a Z => wlm Z rfl fun a Z => ab <| aP ?_
   refine aa fun K123 hK123 => wlv Z ((v_lt rfl rfl).asb (b' := true) rfl) fun a Z => ab (hK123 _ _ <| ac fun K124 hK124 => ?_)
   refine aB Z rfl ?_
   refine ao <| hK124 _ _ <| ac fun K125 hK125 => ap <| aa fun K126 hK126 => wlv Z ((ak (i := 1) (sT := 45) (Y.ownAt (i := 0) rfl) rfl rfl (Tryd.runUnderlying45 _) (Tryd.sizeOf9 _) (by omega) (by simp)).as (v' := slAddr (.slice (some ⟨b17, 0, none⟩) 2 2) (1 * 1)) rfl) fun a Z => wlv Z (ax (u := sv (((s.take k) ++ ([cc])) ++ (s.drop (k + 1)))) (i := 1) (j := 0) (Y.ownAt (i := 0) rfl) (by simp) rfl (Tryd.isAgg9 _) (by rfl)) fun a Z => wla Z rfl fun a Z => ?_
   refine ab (hK126 _ _ <| aa fun K127 hK127 => ?_)
   refine wlm Z rfl fun a Z => ?_
   rcases Bool.eq_false_or_eq_true ((decRec (((s.take k) ++ ([cc])) ++ (s.drop (k + 1)))).isSome) with hb19 | hb19
   ·try simp only [qz] at hb19
    obtain ⟨r, hr, hro, hre⟩ := bR hb19
    refine al Z Y (by decide) Tryd.call24 rfl (bC (by first | (rw [List.length_take]; omega) | (simp only [List.length_append, List.length_take, List.length_drop, List.length_cons, List.length_nil]; omega)) hr) ?_
    clear Z Y
    intro a w67 Z Y
    refine wlm Z rfl fun a Z => wlv Z (ag rfl rfl) fun a Z => wlv Z (ag rfl rfl) fun a Z => aD Z Y (by decide) (Tryd.zeroValue27 _) (cs := [iv 0, iv 0, iv 0, iv 0, .string (⟨#[]⟩)]) rfl ?_
    clear Z Y
    intro a w68 Z Y
    refine az 0 Z Y rfl rfl rfl (Tryd.sizeOf27 _) rfl (lb rfl) (ds := [iv r.t, iv r.kind, iv r.a, iv r.b, sv r.text]) rfl rfl ?_
    clear Z Y
    intro a w69 Z Y
    refine wla Z rfl fun a Z => ab (hK127 _ _ ?_)
    replace Z : Fr 162 [(14, _), (136, _), (137, _), (138, _), (25, _), (26, _), (27, _)] [] a := Z.pick [14, 136, 137, 138, 25, 26, 27]
    refine ac fun K128 hK128 => aa fun K129 hK129 => wlm Z rfl fun a Z => wlv Z ((v_ne rfl rfl).asb (b' := false) rfl) fun a Z => ab (hK129 _ _ <| av Z rfl ?_)
    refine ao <| hK128 _ _ <| aa fun K130 hK130 => wlv Z (ar (Y.get (k := 0) rfl) rfl (Tryd.isAgg27 _) (Tryd.sizeOf27 _)) fun a Z => al Z Y (by decide) Tryd.call22 rfl (bw hro hre) ?_
    clear Z Y
    intro a w70 Z Y
    refine wlm Z rfl fun a Z => wlv Z (ag rfl rfl) fun a Z => wlv Z (ag rfl rfl) fun a Z => wla Z rfl fun a Z => wla Z rfl fun a Z => ab (hK130 _ _ ?_)
    replace Z : Fr 162 [(14, _), (136, _), (137, _), (138, _), (25, _), (28, _), (29, _)] [] a := Z.pick [14, 136, 137, 138, 25, 28, 29]
    replace Y : St No w0 [_] w70 := Y.mask [false, true]
    refine aa fun K131 hK131 => wlm Z rfl fun a Z => wlv Z ((v_ne rfl rfl).asb (b' := false) rfl) fun a Z => wlm Z rfl fun a Z => wly Z (ai rfl) fun a Z => wly Z (ai rfl) fun a Z => wly Z ((cW rfl rfl).asb (b' := false) (by simp)) fun a Z => wlv Z (aw rfl rfl) fun a Z => ab (hK131 _ _ ?_)
    replace Z : Fr 162 [(14, _), (136, _), (137, _), (138, _), (160, _)] [] a := Z.pick [14, 136, 137, 138, 160]
    refine av Z rfl ?_
    refine ao <| hK125 _ _ <| am <| wlv Z ((aL rfl rfl (by decide)).asi (m' := 2) rfl) fun a Z => wlm Z rfl fun a Z => ab <| aP ?_
    refine aa fun K132 hK132 => wlv Z ((v_lt rfl rfl).asb (b' := false) rfl) fun a Z => ab (hK132 _ _ <| ac fun K133 hK133 => ?_)
    refine av Z rfl ?_
    refine aF <| hK112 _ _ <| aa fun K134 hK134 => wla Z rfl fun a Z => ab (hK134 _ _ ?_)
    replace Z : Fr 162 [(14, _)] [] a := Z.pick [14]
    replace Y : St No w0 [] w70 := Y.mask [false]
    refine au ?_
    refine aq Z Tryd.results8 (ae rfl ah) ?_
    exact ⟨by rfl, Y.ext⟩
   try simp only [qz] at hb19
   refine al Z Y (by decide) Tryd.call24 rfl (bD (by first | (rw [List.length_take]; omega) | (simp only [List.length_append, List.length_take, List.length_drop, List.length_cons, List.length_nil]; omega)) (bN hb19)) ?_
   clear Z Y
   intro a w71 Z Y
   refine wlm Z rfl fun a Z => wlv Z (ag rfl rfl) fun a Z => wlv Z (ag rfl rfl) fun a Z => aD Z Y (by decide) (Tryd.zeroValue27 _) (cs := [iv 0, iv 0, iv 0, iv 0, .string (⟨#[]⟩)]) rfl ?_
   clear Z Y
   intro a w72 Z Y
   refine az 0 Z Y rfl rfl rfl (Tryd.sizeOf27 _) rfl (lb rfl) (ds := [iv 0, iv 0, iv 0, iv 0, sv ([] : By)]) rfl rfl ?_
   clear Z Y
   intro a w73 Z Y
   refine wla Z rfl fun a Z => ab (hK127 _ _ ?_)
   replace Z : Fr 162 [(14, _), (136, _), (137, _), (138, _), (25, _), (26, _), (27, _)] [] a := Z.pick [14, 136, 137, 138, 25, 26, 27]
   refine ac fun K135 hK135 => aa fun K136 hK136 => wlm Z rfl fun a Z => wlv Z ((v_ne rfl rfl).asb (b' := true) rfl) fun a Z => ab (hK136 _ _ <| aB Z rfl ?_)
   refine aF <| hK125 _ _ <| am <| wlv Z ((aL rfl rfl (by decide)).asi (m' := 2) rfl) fun a Z => wlm Z rfl fun a Z => ab <| aP ?_
   refine aa fun K137 hK137 => wlv Z ((v_lt rfl rfl).asb (b' := false) rfl) fun a Z => ab (hK137 _ _ ?_)
   replace Z : Fr 162 [(14, _), (136, _), (137, _), (138, _), (139, _)] [] a := Z.pick [14, 136, 137, 138, 139]
   replace Y : St No w0 [_] w73 := Y.mask [false, true]
   refine ac fun K138 hK138 => av Z rfl ?_
   refine aF <| hK112 _ _ <| aa fun K139 hK139 => wla Z rfl fun a Z => ab (hK139 _ _ <| au ?_)
   refine aq Z Tryd.results8 (ae rfl ah) ?_
   exact ⟨by rfl, Y.ext⟩
  try simp only [qz] at hb18
  refine al Z Y (by decide) Tryd.call24 rfl (bD (by first | (rw [List.length_take]; omega) | (simp only [List.length_append, List.length_take, List.length_drop, List.length_cons, List.length_nil]; omega)) (bN hb18)) ?_
  clear Z Y
  intro a w74 Z Y
  refine wlm Z rfl fun a Z => wlv Z (ag rfl rfl) fun a Z => wlv Z (ag rfl rfl) fun a Z => aD Z Y (by decide) (Tryd.zeroValue27 _) (cs := [iv 0, iv 0, iv 0, iv 0, .string (⟨#[]⟩)]) rfl ?_
  clear Z Y
  intro a w75 Z Y
  refine az 0 Z Y rfl rfl rfl (Tryd.sizeOf27 _) rfl (lb rfl) (ds := [iv 0, iv 0, iv 0, iv 0, sv ([] : By)]) rfl rfl ?_
  clear Z Y
  intro a w76 Z Y
  refine wla Z rfl fun a Z => ab (hK118 _ _ ?_)
  replace Z : Fr 162 [(14, _), (136, _), (137, _), (138, _), (25, _), (26, _), (27, _)] [] a := Z.pick [14, 136, 137, 138, 25, 26, 27]
  refine ac fun K140 hK140 => aa fun K141 hK141 => wlm Z rfl fun a Z => wlv Z ((v_ne rfl rfl).asb (b' := true) rfl) fun a Z => ab (hK141 _ _ <| aB Z rfl ?_)
  refine aF <| hK116 _ _ <| am <| wlv Z ((aL rfl rfl (by decide)).asi (m' := 1) rfl) fun a Z => wlm Z rfl fun a Z => ab <| aP ?_
  refine aa fun K142 hK142 => wlv Z ((v_lt rfl rfl).asb (b' := true) rfl) fun a Z => ab (hK142 _ _ ?_)
  replace Z : Fr 162 [(14, _), (136, _), (137, _), (138, _), (139, _)] [] a := Z.pick [14, 136, 137, 138, 139]
  replace Y : St No w0 [_] w76 := Y.mask [false, true]
  refine ac fun K143 hK143 => aB Z rfl ?_
  refine ao <| hK143 _ _ <| ac fun K144 hK144 => ap <| aa fun K145 hK145 => wlv Z ((ak (i := 1) (sT := 45) (Y.ownAt (i := 0) rfl) rfl rfl (Tryd.runUnderlying45 _) (Tryd.sizeOf9 _) (by omega) (by simp)).as (v' := slAddr (.slice (some ⟨b17, 0, none⟩) 2 2) (1 * 1)) rfl) fun a Z => wlv Z (ax (u := sv (((s.take k) ++ ([cc])) ++ (s.drop (k + 1)))) (i := 1) (j := 0) (Y.ownAt (i := 0) rfl) (by simp) rfl (Tryd.isAgg9 _) (by rfl)) fun a Z => wla Z rfl fun a Z => ?_
  refine ab (hK145 _ _ <| aa fun K146 hK146 => ?_)
  refine wlm Z rfl fun a Z => ?_
  rcases Bool.eq_false_or_eq_true ((decRec (((s.take k) ++ ([cc])) ++ (s.drop (k + 1)))).isSome) with hb20 | hb20
  ·try simp only [qz] at hb20
   obtain ⟨r, hr, hro, hre⟩ := bR hb20
   refine al Z Y (by decide) Tryd.call24 rfl (bC (by first | (rw [List.length_take]; omega) | (simp only [List.length_append, List.length_take, List.length_drop, List.length_cons, List.length_nil]; omega)) hr) ?_
   clear Z Y
   intro a w77 Z Y
   refine wlm Z rfl fun a Z => wlv Z (ag rfl rfl) fun a Z => wlv Z (ag rfl rfl) fun a Z => aD Z Y (by decide) (Tryd.zeroValue27 _) (cs := [iv 0, iv 0, iv 0, iv 0, .string (⟨#[]⟩)]) rfl ?_
   clear Z Y
   intro a w78 Z Y
   refine az 0 Z Y rfl rfl rfl (Tryd.sizeOf27 _) rfl (lb rfl) (ds := [iv r.t, iv r.kind, iv r.a, iv r.b, sv r.text]) rfl rfl ?_
   clear Z Y
   intro a w79 Z Y
   refine wla Z rfl fun a Z => ab (hK146 _ _ ?_)
   replace Z : Fr 162 [(14, _), (136, _), (137, _), (138, _), (25, _), (26, _), (27, _)] [] a := Z.pick [14, 136, 137, 138, 25, 26, 27]
   refine ac fun K147 hK147 => aa fun K148 hK148 => wlm Z rfl fun a Z => wlv Z ((v_ne rfl rfl).asb (b' := false) rfl) fun a Z => ab (hK148 _ _ <| av Z rfl ?_)
   refine ao <| hK147 _ _ <| aa fun K149 hK149 => wlv Z (ar (Y.get (k := 0) rfl) rfl (Tryd.isAgg27 _) (Tryd.sizeOf27 _)) fun a Z => al Z Y (by decide) Tryd.call22 rfl (bw hro hre) ?_
   clear Z Y
   intro a w80 Z Y
   refine wlm Z rfl fun a Z => wlv Z (ag rfl rfl) fun a Z => wlv Z (ag rfl rfl) fun a Z => wla Z rfl fun a Z => wla Z rfl fun a Z => ab (hK149 _ _ ?_)
   replace Z : Fr 162 [(14, _), (136, _), (137, _), (138, _), (25, _), (28, _), (29, _)] [] a := Z.pick [14, 136, 137, 138, 25, 28, 29]
   replace Y : St No w0 [_] w80 := Y.mask [false, true]
   refine aa fun K150 hK150 => wlm Z rfl fun a Z => wlv Z ((v_ne rfl rfl).asb (b' := false) rfl) fun a Z => wlm Z rfl fun a Z => wly Z (ai rfl) fun a Z => wly Z (ai rfl) fun a Z => wly Z ((cW rfl rfl).asb (b' := false) (by simp)) fun a Z => wlv Z (aw rfl rfl) fun a Z => ab (hK150 _ _ ?_)
   replace Z : Fr 162 [(14, _), (136, _), (137, _), (138, _), (160, _)] [] a := Z.pick [14, 136, 137, 138, 160]
   refine av Z rfl ?_
   refine ao <| hK144 _ _ <| am <| wlv Z ((aL rfl rfl (by decide)).asi (m' := 2) rfl) fun a Z => wlm Z rfl fun a Z => ab <| aP ?_
   refine aa fun K151 hK151 => wlv Z ((v_lt rfl rfl).asb (b' := false) rfl) fun a Z => ab (hK151 _ _ <| ac fun K152 hK152 => ?_)
   refine av Z rfl ?_
   refine aF <| hK112 _ _ <| aa fun K153 hK153 => wla Z rfl fun a Z => ab (hK153 _ _ ?_)
   replace Z : Fr 162 [(14, _)] [] a := Z.pick [14]
   replace Y : St No w0 [] w80 := Y.mask [false]
   refine au ?_
   refine aq Z Tryd.results8 (ae rfl ah) ?_
   exact ⟨by rfl, Y.ext⟩
  try simp only [qz] at hb20
  refine al Z Y (by decide) Tryd.call24 rfl (bD (by first | (rw [List.length_take]; omega) | (simp only [List.length_append, List.length_take, List.length_drop, List.length_cons, List.length_nil]; omega)) (bN hb20)) ?_
  clear Z Y
  intro a w81 Z Y
  refine wlm Z rfl fun a Z => wlv Z (ag rfl rfl) fun a Z => wlv Z (ag rfl rfl) fun a Z => aD Z Y (by decide) (Tryd.zeroValue27 _) (cs := [iv 0, iv 0, iv 0, iv 0, .string (⟨#[]⟩)]) rfl ?_
  clear Z Y
  intro a w82 Z Y
  refine az 0 Z Y rfl rfl rfl (Tryd.sizeOf27 _) rfl (lb rfl) (ds := [iv 0, iv 0, iv 0, iv 0, sv ([] : By)]) rfl rfl ?_
  clear Z Y
  intro a w83 Z Y
  refine wla Z rfl fun a Z => ab (hK146 _ _ ?_)
  replace Z : Fr 162 [(14, _), (136, _), (137, _), (138, _), (25, _), (26, _), (27, _)] [] a := Z.pick [14, 136, 137, 138, 25, 26, 27]
  refine ac fun K154 hK154 => aa fun K155 hK155 => wlm Z rfl fun a Z => wlv Z ((v_ne rfl rfl).asb (b' := true) rfl) fun a Z => ab (hK155 _ _ <| aB Z rfl ?_)
  refine aF <| hK144 _ _ <| am <| wlv Z ((aL rfl rfl (by decide)).asi (m' := 2) rfl) fun a Z => wlm Z rfl fun a Z => ab <| aP ?_
  refine aa fun K156 hK156 => wlv Z ((v_lt rfl rfl).asb (b' := false) rfl) fun a Z => ab (hK156 _ _ ?_)
  replace Z : Fr 162 [(14, _), (136, _), (137, _), (138, _), (139, _)] [] a := Z.pick [14, 136, 137, 138, 139]
  replace Y : St No w0 [_] w83 := Y.mask [false, true]
  refine ac fun K157 hK157 => av Z rfl ?_
  refine aF <| hK112 _ _ <| aa fun K158 hK158 => wla Z rfl fun a Z => ab (hK158 _ _ <| au ?_)
  refine aq Z Tryd.results8 (ae rfl ah) ?_
  exact ⟨by rfl, Y.ext⟩
 rw [hb9] at Z
 try simp only [qz] at hb9
 refine wln Z fun a Z => wln Z fun a Z => wln Z fun a Z => wln Z fun a Z => wln Z fun a Z => wln Z fun a Z => wly Z (aw rfl rfl) fun a Z => wly Z (ai rfl) fun a Z => wly Z (ai rfl) fun a Z => wly Z (aJ rfl rfl (Tryd.runUnderlying9 _)) fun a Z => wly Z (ai rfl) fun a Z => wly Z (aJ rfl rfl (Tryd.runUnderlying9 _)) fun a Z => wly Z (v_le rfl rfl) fun a Z => wly Z (ai rfl) fun a Z => ?_
 rcases Bool.eq_false_or_eq_true (decide ((t.length : Int) ≤ (s.length : Int))) with hb21 | hb21
 ·rw [hb21] at Z
  try simp only [qz] at hb21
  refine wly Z (ai rfl) fun a Z => wly Z (ai rfl) fun a Z => wly Z (aJ rfl rfl (Tryd.runUnderlying9 _)) fun a Z => wly Z ((aV (xs := s) (l := 0) (h := t.length) rfl rfl rfl Tryd.underlying9 (.inl ⟨rfl, rfl⟩) (.inr (by rw [show ((t.length : Int) : Int) = ((t.length : Nat) : Int) from by omega] <;> rfl)) (by omega) (by first | omega | exact Nat.min_le_left _ _)).as (v' := sv (s.take t.length)) rfl) fun a Z => wly Z (ai rfl) fun a Z => wly Z ((dq rfl rfl).asb (b' := false) (by exact decide_eq_false hn2)) fun a Z => wly Z (aE rfl rfl) fun a Z => wly Z (aw rfl rfl) fun a Z => wlv Z (aE rfl rfl) fun a Z => ab (hK62 _ _ ?_)
  replace Z : Fr 162 [(4, _), (5, _), (6, _), (14, _), (17, _), (114, _)] [] a := Z.pick [4, 5, 6, 14, 17, 114]
  replace Y : St No w0 [] w14 := Y.mask [false, false]
  refine av Z rfl ?_
  refine ao <| hK61 _ _ <| aa fun K159 hK159 => wlm Z rfl fun a Z => wlm Z rfl fun a Z => wlv Z (aJ rfl rfl (Tryd.runUnderlying9 _)) fun a Z => al Z Y (by decide) Tryd.call19 rfl (dD place (s.length : Int) _ (by first | assumption | (unfold i64 at *; omega) | omega) (by omega)) ?_
  clear Z Y
  intro a w84 Z Y
  refine wla Z rfl fun a Z => ab (hK159 _ _ ?_)
  replace Z : Fr 162 [(4, _), (6, _), (14, _), (17, _), (23, _)] [] a := Z.pick [4, 6, 14, 17, 23]
  refine ac fun K160 hK160 => ac fun K161 hK161 => ?_
  obtain ⟨k, hk⟩ : ∃ k : Nat, pickI place (s.length : Int) = (k : Int) := ⟨_, (Int.toNat_of_nonneg hpp.1).symm⟩
  rw [hk] at Z hpp
  refine aN (by kernel_rfl) ?_
  replace Z : Fr 162 [(4, _), (6, _), (14, _), (17, _), (23, _)] [] a := Z.pick [4, 6, 14, 17, 23]
  refine aI [9, 17] (fun i => match i with | 9 => pm (fun b : Nat => .slice (some ⟨b, 0, none⟩) 1 1) (fun b => [own (.slice (some ⟨b, 0, none⟩) 1 1) 5 1 [[yv cc]]]) (fun _ => True) | 17 => pm (fun b : Nat => .slice (some ⟨b, 0, none⟩) 2 2) (fun b => [own (.slice (some ⟨b, 0, none⟩) 2 2) 9 1 [[sv (text.take (min text.length 60))], [sv (((s.take k) ++ ([cc])) ++ (s.drop (k + 1)))]]]) (fun _ => True) | _ => fun _ _ => False) 20 [[], [], [1], [2], [0, 3], [], [], [5, 6], [], [8], [9], [7, 10], [], [], [13], [12, 14], [11, 15], [4, 16], [17], []] [sv text, sv text, iv (text.length : Int), iv (min (text.length : Int) 60), sv (text.take (min text.length 60)), sv s, iv (k : Int), sv (s.take k), yv cc, undef, sv ([cc]), sv ((s.take k) ++ ([cc])), sv s, iv (k : Int), iv ((k : Int) + 1), sv (s.drop (k + 1)), sv (((s.take k) ++ ([cc])) ++ (s.drop (k + 1))), undef, iv 2, iv 0] Z Y (by kernel_rfl) (by kernel_rfl) (by kernel_rfl) ?_ ?_ ?_
  ·intro i hi hiq
   match i, hi, hiq with
   | 0, _, _ =>
    intro w Y
    exact OpV.g (ai rfl)
   | 1, _, _ =>
    intro w Y
    exact OpV.g (ai rfl)
   | 2, _, _ =>
    intro w Y
    exact OpV.g (aJ rfl rfl (Tryd.runUnderlying9 _))
   | 3, _, _ =>
    intro w Y
    exact OpV.g (eN rfl rfl)
   | 4, _, _ =>
    intro w Y
    exact OpV.g ((aV (xs := text) (l := 0) (h := (min text.length 60)) rfl rfl rfl Tryd.underlying9 (.inl ⟨rfl, rfl⟩) (.inr (by rw [show (min (text.length : Int) 60 : Int) = (((min text.length 60) : Nat) : Int) from by omega] <;> rfl)) (by omega) (by first | omega | exact Nat.min_le_left _ _)).as (v' := sv (text.take (min text.length 60))) rfl)
   | 5, _, _ =>
    intro w Y
    exact OpV.g (ai rfl)
   | 6, _, _ =>
    intro w Y
    exact OpV.g (ai rfl)
   | 7, _, _ =>
    intro w Y
    exact OpV.g ((aV (xs := s) (l := 0) (h := k) rfl rfl rfl Tryd.underlying9 (.inl ⟨rfl, rfl⟩) (.inr (by rw [show ((k : Int) : Int) = ((k : Nat) : Int) from by omega] <;> rfl)) (by omega) (by first | omega | exact Nat.min_le_left _ _)).as (v' := sv (s.take k)) rfl)
   | 8, _, _ =>
    intro w Y
    exact OpV.g (ai rfl)
   | 9, _, h => exact absurd (by simp) h
   | 10, _, _ =>
    rintro _ _ ⟨b22, rfl, -, rfl⟩
    intro w Y
    exact OpV.g (bS (xs := [cc]) (Y.ownAt (i := 0) rfl) rfl Tryd.underlying71 Tryd.underlying5 Tryd.underlying9)
   | 11, _, _ =>
    intro w Y
    exact OpV.g (cC rfl rfl (by simp only [List.length_append, List.length_take, List.length_drop, List.length_cons, List.length_nil]; omega))
   | 12, _, _ =>
    intro w Y
    exact OpV.g (ai rfl)
   | 13, _, _ =>
    intro w Y
    exact OpV.g (ai rfl)
   | 14, _, _ =>
    intro w Y
    exact OpV.g (aL rfl rfl ⟨by omega, by omega⟩)
   | 15, _, _ =>
    intro w Y
    exact OpV.g ((aV (xs := s) (l := (k + 1)) (h := s.length) rfl rfl rfl Tryd.underlying9 (.inr (by rw [show ((k : Int) + 1 : Int) = (((k + 1) : Nat) : Int) from by omega] <;> rfl)) (.inl ⟨rfl, rfl⟩) (by omega) (Nat.le_refl _)).as (v' := sv (s.drop (k + 1))) (by rw [List.take_of_length_le (by rw [List.length_drop]; omega)]))
   | 16, _, _ =>
    intro w Y
    exact OpV.g (cC rfl rfl (by simp only [List.length_append, List.length_take, List.length_drop, List.length_cons, List.length_nil]; omega))
   | 17, _, h => exact absurd (by simp) h
   | 18, _, _ =>
    rintro _ _ ⟨b23, rfl, -, rfl⟩
    intro w Y
    exact OpV.g ((aM (sT := 45) (Y.ownAt (i := 0) rfl) rfl rfl (Tryd.runUnderlying45 _)).asi (m' := 2) (by rfl))
   | 19, _, _ =>
    intro w Y
    exact OpV.g (ai rfl)
   | i + 20, h, _ => exact absurd h (by omega)
  ·intro i hi
   simp only [List.mem_cons, List.not_mem_nil, or_false] at hi
   rcases hi with rfl | rfl
   ·intro w Y
    exact aK (E := 5) (sz := 1) rfl [[yv cc]] (fun _ => by kernel_rfl) (by simp) rfl (by decide)
   ·intro w Y
    exact aK (E := 9) (sz := 1) rfl [[sv (text.take (min text.length 60))], [sv (((s.take k) ++ ([cc])) ++ (s.drop (k + 1)))]] (fun _ => by kernel_rfl) (by simp) rfl (by decide)
  clear Z Y
  rintro _ _ ⟨b22, rfl, -, rfl⟩ _ _ ⟨b23, rfl, -, rfl⟩ a w85 Z Y
  replace Z : Fr 162 [(119, sv text), (120, sv text), (121, iv (text.length : Int)), (122, iv (min (text.length : Int) 60)), (123, sv (text.take (min text.length 60))), (124, sv s), (125, iv (k : Int)), (126, sv (s.take k)), (127, yv cc), (128, _), (129, sv ([cc])), (130, sv ((s.take k) ++ ([cc]))), (131, sv s), (132, iv (k : Int)), (133, iv ((k : Int) + 1)), (134, sv (s.drop (k + 1))), (135, sv (((s.take k) ++ ([cc])) ++ (s.drop (k + 1)))), (136, _), (137, iv 2), (138, iv 0), (4, _), (6, _), (14, _), (17, _), (23, _)] [] a := Z
  replace Y : St No w0 [_, _] w85 := Y
  refine ab <| hK161 _ _ ?_
  replace Z : Fr 162 [(14, _), (136, _), (137, _), (138, _)] [] a := Z.pick [14, 136, 137, 138]
  replace Y : St No w0 [_] w85 := Y.mask [false, true]
  refine ap <| cS 3 ?_
  refine aP ?_
  refine aa fun K162 hK162 => wlv Z ((v_lt rfl rfl).asb (b' := true) rfl) fun a Z => ab (hK162 _ _ <| ac fun K163 hK163 => ?_)
  refine aB Z rfl ?_
  refine ao <| hK163 _ _ <| ac fun K164 hK164 => ap <| aa fun K165 hK165 => wlv Z ((ak (i := 0) (sT := 45) (Y.ownAt (i := 0) rfl) rfl rfl (Tryd.runUnderlying45 _) (Tryd.sizeOf9 _) (by omega) (by simp)).as (v' := slAddr (.slice (some ⟨b23, 0, none⟩) 2 2) (0 * 1)) rfl) fun a Z => wlv Z (ax (u := sv (text.take (min text.length 60))) (i := 0) (j := 0) (Y.ownAt (i := 0) rfl) (by simp) rfl (Tryd.isAgg9 _) (by rfl)) fun a Z => wla Z rfl fun a Z => ?_
  refine ab (hK165 _ _ <| aa fun K166 hK166 => ?_)
  refine wlm Z rfl fun a Z => ?_
  rcases Bool.eq_false_or_eq_true ((decRec (text.take (min text.length 60))).isSome) with hb24 | hb24
  ·try simp only [qz] at hb24
   obtain ⟨r, hr, hro, hre⟩ := bR hb24
   refine al Z Y (by decide) Tryd.call24 rfl (bC (by first | (rw [List.length_take]; omega) | (simp only [List.length_append, List.length_take, List.length_drop, List.length_cons, List.length_nil]; omega)) hr) ?_
   clear Z Y
   intro a w86 Z Y
   refine wlm Z rfl fun a Z => wlv Z (ag rfl rfl) fun a Z => wlv Z (ag rfl rfl) fun a Z => aD Z Y (by decide) (Tryd.zeroValue27 _) (cs := [iv 0, iv 0, iv 0, iv 0, .string (⟨#[]⟩)]) rfl ?_
   clear Z Y
   intro a w87 Z Y
   refine az 0 Z Y rfl rfl rfl (Tryd.sizeOf27 _) rfl (lb rfl) (ds := [iv r.t, iv r.kind, iv r.a, iv r.b, sv r.text]) rfl rfl ?_
   clear Z Y
   intro a w88 Z Y
   refine wla Z rfl fun a Z => ab (hK166 _ _ ?_)
   replace Z : Fr 162 [(14, _), (136, _), (137, _), (138, _), (25, _), (26, _), (27, _)] [] a := Z.pick [14, 136, 137, 138, 25, 26, 27]
   refine ac fun K167 hK167 => aa fun K168 hK168 => wlm Z rfl fun a Z => wlv Z ((v_ne rfl rfl).asb (b' := false) rfl) fun a Z => ab (hK168 _ _ <| av Z rfl ?_)
   refine ao <| hK167 _ _ <| aa fun K169 hK169 => wlv Z (ar (Y.get (k := 0) rfl) rfl (Tryd.isAgg27 _) (Tryd.sizeOf27 _)) fun a Z => al Z Y (by decide) Tryd.call22 rfl (bw hro hre) ?_
   clear Z Y
   intro a w89 Z Y
   refine wlm Z rfl fun a Z => wlv Z (ag rfl rfl) fun a Z => wlv Z (ag rfl rfl) fun a Z => wla Z rfl fun a Z => wla Z rfl fun a Z => ab (hK169 _ _ ?_)
   replace Z : Fr 162 [(14, _), (136, _), (137, _), (138, _), (25, _), (28, _), (29, _)] [] a := Z.pick [14, 136, 137, 138, 25, 28, 29]
   replace Y : St No w0 [_] w89 := Y.mask [false, true]
   refine aa fun K170 hK170 => wlm Z rfl fun a Z => wlv Z ((v_ne rfl rfl).asb (b' := false) rfl) fun a Z => wlm Z rfl fun a Z => wly Z (ai rfl) fun a Z => wly Z (ai rfl) fun a Z => wly Z ((cW rfl rfl).asb (b' := false) (by simp)) fun a Z => wlv Z (aw rfl rfl) fun a Z => ab (hK170 _ _ ?_)
   replace Z : Fr 162 [(14, _), (136, _), (137, _), (138, _), (160, _)] [] a := Z.pick [14, 136, 137, 138, 160]
   refine av Z rfl ?_
   refine ao <| hK164 _ _ <| am <| wlv Z ((aL rfl rfl (by decide)).asi (m' := 1) rfl) fun a Z => wlm Z rfl fun a Z => ab <| aP ?_
   refine aa fun K171 hK171 => wlv Z ((v_lt rfl rfl).asb (b' := true) rfl) fun a Z => ab (hK171 _ _ <| ac fun K172 hK172 => ?_)
   refine aB Z rfl ?_
   refine ao <| hK172 _ _ <| ac fun K173 hK173 => ap <| aa fun K174 hK174 => wlv Z ((ak (i := 1) (sT := 45) (Y.ownAt (i := 0) rfl) rfl rfl (Tryd.runUnderlying45 _) (Tryd.sizeOf9 _) (by omega) (by simp)).as (v' := slAddr (.slice (some ⟨b23, 0, none⟩) 2 2) (1 * 1)) rfl) fun a Z => wlv Z (ax (u := sv (((s.take k) ++ ([cc])) ++ (s.drop (k + 1)))) (i := 1) (j := 0) (Y.ownAt (i := 0) rfl) (by simp) rfl (Tryd.isAgg9 _) (by rfl)) fun a Z => wla Z rfl fun a Z => ?_
   refine ab (hK174 _ _ <| aa fun K175 hK175 => ?_)
   refine wlm Z rfl fun a Z => ?_
   rcases Bool.eq_false_or_eq_true ((decRec (((s.take k) ++ ([cc])) ++ (s.drop (k + 1)))).isSome) with hb25 | hb25
   ·try simp only [qz] at hb25
    obtain ⟨r, hr, hro, hre⟩ := bR hb25
    refine al Z Y (by decide) Tryd.call24 rfl (bC (by first | (rw [List.length_take]; omega) | (simp only [List.length_append, List.length_take, List.length_drop, List.length_cons, List.length_nil]; omega)) hr) ?_
    clear Z Y
    intro a w90 Z Y
    refine wlm Z rfl fun a Z => wlv Z (ag rfl rfl) fun a Z => wlv Z (ag rfl rfl) fun a Z => aD Z Y (by decide) (Tryd.zeroValue27 _) (cs := [iv 0, iv 0, iv 0, iv 0, .string (⟨#[]⟩)]) rfl ?_
    clear Z Y
    intro a w91 Z Y
    refine az 0 Z Y rfl rfl rfl (Tryd.sizeOf27 _) rfl (lb rfl) (ds := [iv r.t, iv r.kind, iv r.a, iv r.b, sv r.text]) rfl rfl ?_
    clear Z Y
    intro a w92 Z Y
    refine wla Z rfl fun a Z => ab (hK175 _ _ ?_)
    replace Z : Fr 162 [(14, _), (136, _), (137, _), (138, _), (25, _), (26, _), (27, _)] [] a := Z.pick [14, 136, 137, 138, 25, 26, 27]
    refine ac fun K176 hK176 => aa fun K177 hK177 => wlm Z rfl fun a Z => wlv Z ((v_ne rfl rfl).asb (b' := false) rfl) fun a Z => ab (hK177 _ _ <| av Z rfl ?_)
    refine ao <| hK176 _ _ <| aa fun K178 hK178 => wlv Z (ar (Y.get (k := 0) rfl) rfl (Tryd.isAgg27 _) (Tryd.sizeOf27 _)) fun a Z => al Z Y (by decide) Tryd.call22 rfl (bw hro hre) ?_
    clear Z Y
    intro a w93 Z Y
    refine wlm Z rfl fun a Z => wlv Z (ag rfl rfl) fun a Z => wlv Z (ag rfl rfl) fun a Z => wla Z rfl fun a Z => wla Z rfl fun a Z => ab (hK178 _ _ ?_)
    replace Z : Fr 162 [(14, _), (136, _), (137, _), (138, _), (25, _), (28, _), (29, _)] [] a := Z.pick [14, 136, 137, 138, 25, 28, 29]
    replace Y : St No w0 [_] w93 := Y.mask [false, true]
    refine aa fun K179 hK179 => wlm Z rfl fun a Z => wlv Z ((v_ne rfl rfl).asb (b' := false) rfl) fun a Z => wlm Z rfl fun a Z => wly Z (ai rfl) fun a Z => wly Z (ai rfl) fun a Z => wly Z ((cW rfl rfl).asb (b' := false) (by simp)) fun a Z => wlv Z (aw rfl rfl) fun a Z => ab (hK179 _ _ ?_)
    replace Z : Fr 162 [(14, _), (136, _), (137, _), (138, _), (160, _)] [] a := Z.pick [14, 136, 137, 138, 160]
    refine av Z rfl ?_
    refine ao <| hK173 _ _ <| am <| wlv Z ((aL rfl rfl (by decide)).asi (m' := 2) rfl) fun a Z => wlm Z rfl fun a Z => ab <| aP ?_
    refine aa fun K180 hK180 => wlv Z ((v_lt rfl rfl).asb (b' := false) rfl) fun a Z => ab (hK180 _ _ <| ac fun K181 hK181 => ?_)
    refine av Z rfl ?_
    refine aF <| hK160 _ _ <| aa fun K182 hK182 => wla Z rfl fun a Z => ab (hK182 _ _ ?_)
    replace Z : Fr 162 [(14, _)] [] a := Z.pick [14]
    replace Y : St No w0 [] w93 := Y.mask [false]
    refine au ?_
    refine aq Z Tryd.results8 (ae rfl ah) ?_
    exact ⟨by rfl, Y.ext⟩
   try simp only [qz] at hb25
   refine al Z Y (by decide) Tryd.call24 rfl (bD (by first | (rw [List.length_take]; omega) | (simp only [List.length_append, List.length_take, List.length_drop, List.length_cons, List.length_nil]; omega)) (bN hb25)) ?_
   clear Z Y
   intro a w94 Z Y
   refine wlm Z rfl fun a Z => wlv Z (ag rfl rfl) fun a Z => wlv Z (ag rfl rfl) fun a Z => aD Z Y (by decide) (Tryd.zeroValue27 _) (cs := [iv 0, iv 0, iv 0, iv 0, .string (⟨#[]⟩)]) rfl ?_
   clear Z Y
   intro a w95 Z Y
   refine az 0 Z Y rfl rfl rfl (Tryd.sizeOf27 _) rfl (lb rfl) (ds := [iv 0, iv 0, iv 0, iv 0, sv ([] : By)]) rfl rfl ?_
   clear Z Y
   intro a w96 Z Y
   refine wla Z rfl fun a Z => ab (hK175 _ _ ?_)
   replace Z : Fr 162 [(14, _), (136, _), (137, _), (138, _), (25, _), (26, _), (27, _)] [] a := Z.pick [14, 136, 137, 138, 25, 26, 27]
   refine ac fun K183 hK183 => aa fun K184 hK184 => wlm Z rfl fun a Z => wlv Z ((v_ne rfl rfl).asb (b' := true) rfl) fun a Z => ab (hK184 _ _ <| aB Z rfl ?_)
   refine aF <| hK173 _ _ <| am <| wlv Z ((aL rfl rfl (by decide)).asi (m' := 2) rfl) fun a Z => wlm Z rfl fun a Z => ab <| aP ?_
   refine aa fun K185 hK185 => wlv Z ((v_lt rfl rfl).asb (b' := false) rfl) fun a Z => ab (hK185 _ _ ?_)
   replace Z : Fr 162 [(14, _), (136, _), (137, _), (138, _), (139, _)] [] a := Z.pick [14, 136, 137, 138, 139]
   replace Y : St No w0 [_] w96 := Y.mask [false, true]
   refine ac fun K186 hK186 => av Z rfl ?_
   refine aF <| hK160 _ _ <| aa fun K187 hK187 => wla Z rfl fun a Z => ab (hK187 _ _ <| au ?_)
   refine aq Z Tryd.results8 (ae rfl ah) ?_
   exact ⟨by rfl, Y.ext⟩
  try simp only [qz] at hb24
  refine al Z Y (by decide) Tryd.call24 rfl (bD (by first | (rw [List.length_take]; omega) | (simp only [List.length_append, List.length_take, List.length_drop, List.length_cons, List.length_nil]; omega)) (bN hb24)) ?_
  clear Z Y
  intro a w97 Z Y
  refine wlm Z rfl fun a Z => wlv Z (ag rfl rfl) fun a Z => wlv Z (ag rfl rfl) fun a Z => aD Z Y (by decide) (Tryd.zeroValue27 _) (cs := [iv 0, iv 0, iv 0, iv 0, .string (⟨#[]⟩)]) rfl ?_
  clear Z Y
  intro a w98 Z Y
  refine az 0 Z Y rfl rfl rfl (Tryd.sizeOf27 _) rfl (lb rfl) (ds := [iv 0, iv 0, iv 0, iv 0, sv ([] : By)]) rfl rfl ?_
  clear Z Y
  intro a w99 Z Y
  refine wla Z rfl fun a Z => ab (hK166 _ _ ?_)
  replace Z : Fr 162 [(14, _), (136, _), (137, _), (138, _), (25, _), (26, _), (27, _)] [] a := Z.pick [14, 136, 137, 138, 25, 26, 27]
  refine ac fun K188 hK188 => aa fun K189 hK189 => wlm Z rfl fun a Z => wlv Z ((v_ne rfl rfl).asb (b' := true) rfl) fun a Z => ab (hK189 _ _ <| aB Z rfl ?_)
  refine aF <| hK164 _ _ <| am <| wlv Z ((aL rfl rfl (by decide)).asi (m' := 1) rfl) fun a Z => wlm Z rfl fun a Z => ab <| aP ?_
  refine aa fun K190 hK190 => wlv Z ((v_lt rfl rfl).asb (b' := true) rfl) fun a Z => ab (hK190 _ _ ?_)
  replace Z : Fr 162 [(14, _), (136, _), (137, _), (138, _), (139, _)] [] a := Z.pick [14, 136, 137, 138, 139]
  replace Y : St No w0 [_] w99 := Y.mask [false, true]
  refine ac fun K191 hK191 => aB Z rfl ?_
  refine ao <| hK191 _ _ <| ac fun K192 hK192 => ap <| aa fun K193 hK193 => wlv Z ((ak (i := 1) (sT := 45) (Y.ownAt (i := 0) rfl) rfl rfl (Tryd.runUnderlying45 _) (Tryd.sizeOf9 _) (by omega) (by simp)).as (v' := slAddr (.slice (some ⟨b23, 0, none⟩) 2 2) (1 * 1)) rfl) fun a Z => wlv Z (ax (u := sv (((s.take k) ++ ([cc])) ++ (s.drop (k + 1)))) (i := 1) (j := 0) (Y.ownAt (i := 0) rfl) (by simp) rfl (Tryd.isAgg9 _) (by rfl)) fun a Z => wla Z rfl fun a Z => ?_
  refine ab (hK193 _ _ <| aa fun K194 hK194 => ?_)
  refine wlm Z rfl fun a Z => ?_
  rcases Bool.eq_false_or_eq_true ((decRec (((s.take k) ++ ([cc])) ++ (s.drop (k + 1)))).isSome) with hb26 | hb26
  ·try simp only [qz] at hb26
   obtain ⟨r, hr, hro, hre⟩ := bR hb26
   refine al Z Y (by decide) Tryd.call24 rfl (bC (by first | (rw [List.length_take]; omega) | (simp only [List.length_append, List.length_take, List.length_drop, List.length_cons, List.length_nil]; omega)) hr) ?_
   clear Z Y
   intro a w100 Z Y
   refine wlm Z rfl fun a Z => wlv Z (ag rfl rfl) fun a Z => wlv Z (ag rfl rfl) fun a Z => aD Z Y (by decide) (Tryd.zeroValue27 _) (cs := [iv 0, iv 0, iv 0, iv 0, .string (⟨#[]⟩)]) rfl ?_
   clear Z Y
   intro a w101 Z Y
   refine az 0 Z Y rfl rfl rfl (Tryd.sizeOf27 _) rfl (lb rfl) (ds := [iv r.t, iv r.kind, iv r.a, iv r.b, sv r.text]) rfl rfl ?_
   clear Z Y
   intro a w102 Z Y
   refine wla Z rfl fun a Z => ab (hK194 _ _ ?_)
   replace Z : Fr 162 [(14, _), (136, _), (137, _), (138, _), (25, _), (26, _), (27, _)] [] a := Z.pick [14, 136, 137, 138, 25, 26, 27]
   refine ac fun K195 hK195 => aa fun K196 hK196 => wlm Z rfl fun a Z => wlv Z ((v_ne rfl rfl).asb (b' := false) rfl) fun a Z => ab (hK196 _ _ <| av Z rfl ?_)
   refine ao <| hK195 _ _ <| aa fun K197 hK197 => wlv Z (ar (Y.get (k := 0) rfl) rfl (Tryd.isAgg27 _) (Tryd.sizeOf27 _)) fun a Z => al Z Y (by decide) Tryd.call22 rfl (bw hro hre) ?_
   clear Z Y
   intro a w103 Z Y
   refine wlm Z rfl fun a Z => wlv Z (ag rfl rfl) fun a Z => wlv Z (ag rfl rfl) fun a Z => wla Z rfl fun a Z => wla Z rfl fun a Z => ab (hK197 _ _ ?_)
   replace Z : Fr 162 [(14, _), (136, _), (137, _), (138, _), (25, _), (28, _), (29, _)] [] a := Z.pick [14, 136, 137, 138, 25, 28, 29]
   replace Y : St No w0 [_] w103 := Y.mask [false, true]
   refine aa fun K198 hK198 => wlm Z rfl fun a Z => wlv Z ((v_ne rfl rfl).asb (b' := false) rfl) fun a Z => wlm Z rfl fun a Z => wly Z (ai rfl) fun a Z => wly Z (ai rfl) fun a Z => wly Z ((cW rfl rfl).asb (b' := false) (by simp)) fun a Z => wlv Z (aw rfl rfl) fun a Z => ab (hK198 _ _ ?_)
   replace Z : Fr 162 [(14, _), (136, _), (137, _), (138, _), (160, _)] [] a := Z.pick [14, 136, 137, 138, 160]
   refine av Z rfl ?_
   refine ao <| hK192 _ _ <| am <| wlv Z ((aL rfl rfl (by decide)).asi (m' := 2) rfl) fun a Z => wlm Z rfl fun a Z => ab <| aP ?_
   refine aa fun K199 hK199 => wlv Z ((v_lt rfl rfl).asb (b' := false) rfl) fun a Z => ab (hK199 _ _ <| ac fun K200 hK200 => ?_)
   refine av Z rfl ?_
   refine aF <| hK160 _ _ <| aa fun K201 hK201 => wla Z rfl fun a Z => ab (hK201 _ _ ?_)
   replace Z : Fr 162 [(14, _)] [] a := Z.pick [14]
   replace Y : St No w0 [] w103 := Y.mask [false]
   refine au ?_
   refine aq Z Tryd.results8 (ae rfl ah) ?_
   exact ⟨by rfl, Y.ext⟩
  try simp only [qz] at hb26
  refine al Z Y (by decide) Tryd.call24 rfl (bD (by first | (rw [List.length_take]; omega) | (simp only [List.length_append, List.length_take, List.length_drop, List.length_cons, List.length_nil]; omega)) (bN hb26)) ?_
  clear Z Y
  intro a w104 Z Y
  refine wlm Z rfl fun a Z => wlv Z (ag rfl rfl) fun a Z => wlv Z (ag rfl rfl) fun a Z => aD Z Y (by decide) (Tryd.zeroValue27 _) (cs := [iv 0, iv 0, iv 0, iv 0, .string (⟨#[]⟩)]) rfl ?_
  clear Z Y
  intro a w105 Z Y
  refine az 0 Z Y rfl rfl rfl (Tryd.sizeOf27 _) rfl (lb rfl) (ds := [iv 0, iv 0, iv 0, iv 0, sv ([] : By)]) rfl rfl ?_
  clear Z Y
  intro a w106 Z Y
  refine wla Z rfl fun a Z => ab (hK194 _ _ ?_)
  replace Z : Fr 162 [(14, _), (136, _), (137, _), (138, _), (25, _), (26, _), (27, _)] [] a := Z.pick [14, 136, 137, 138, 25, 26, 27]
  refine ac fun K202 hK202 => aa fun K203 hK203 => wlm Z rfl fun a Z => wlv Z ((v_ne rfl rfl).asb (b' := true) rfl) fun a Z => ab (hK203 _ _ <| aB Z rfl ?_)
  refine aF <| hK192 _ _ <| am <| wlv Z ((aL rfl rfl (by decide)).asi (m' := 2) rfl) fun a Z => wlm Z rfl fun a Z => ab <| aP ?_
  refine aa fun K204 hK204 => wlv Z ((v_lt rfl rfl).asb (b' := false) rfl) fun a Z => ab (hK204 _ _ ?_)
  replace Z : Fr 162 [(14, _), (136, _), (137, _), (138, _), (139, _)] [] a := Z.pick [14, 136, 137, 138, 139]
  replace Y : St No w0 [_] w106 := Y.mask [false, true]
  refine ac fun K205 hK205 => av Z rfl ?_
  refine aF <| hK160 _ _ <| aa fun K206 hK206 => wla Z rfl fun a Z => ab (hK206 _ _ <| au ?_)
  refine aq Z Tryd.results8 (ae rfl ah) ?_
  exact ⟨by rfl, Y.ext⟩
 rw [hb21] at Z
 try simp only [qz] at hb21
 refine wln Z fun a Z => wln Z fun a Z => wln Z fun a Z => wln Z fun a Z => wln Z fun a Z => wln Z fun a Z => wly Z (aw rfl rfl) fun a Z => wly Z (aw rfl rfl) fun a Z => wlv Z (aE rfl rfl) fun a Z => ?_
 refine ab (hK62 _ _ ?_)
 replace Z : Fr 162 [(4, _), (5, _), (6, _), (14, _), (17, _), (114, _)] [] a := Z.pick [4, 5, 6, 14, 17, 114]
 replace Y : St No w0 [] w14 := Y.mask [false, false]
 refine av Z rfl ?_
 refine ao <| hK61 _ _ <| aa fun K207 hK207 => wlm Z rfl fun a Z => wlm Z rfl fun a Z => wlv Z (aJ rfl rfl (Tryd.runUnderlying9 _)) fun a Z => al Z Y (by decide) Tryd.call19 rfl (dD place (s.length : Int) _ (by first | assumption | (unfold i64 at *; omega) | omega) (by omega)) ?_
 clear Z Y
 intro a w107 Z Y
 refine wla Z rfl fun a Z => ab (hK207 _ _ ?_)
 replace Z : Fr 162 [(4, _), (6, _), (14, _), (17, _), (23, _)] [] a := Z.pick [4, 6, 14, 17, 23]
 refine ac fun K208 hK208 => ac fun K209 hK209 => ?_
 obtain ⟨k, hk⟩ : ∃ k : Nat, pickI place (s.length : Int) = (k : Int) := ⟨_, (Int.toNat_of_nonneg hpp.1).symm⟩
 rw [hk] at Z hpp
 refine aN (by kernel_rfl) ?_
 replace Z : Fr 162 [(4, _), (6, _), (14, _), (17, _), (23, _)] [] a := Z.pick [4, 6, 14, 17, 23]
 refine aI [9, 17] (fun i => match i with | 9 => pm (fun b : Nat => .slice (some ⟨b, 0, none⟩) 1 1) (fun b => [own (.slice (some ⟨b, 0, none⟩) 1 1) 5 1 [[yv cc]]]) (fun _ => True) | 17 => pm (fun b : Nat => .slice (some ⟨b, 0, none⟩) 2 2) (fun b => [own (.slice (some ⟨b, 0, none⟩) 2 2) 9 1 [[sv (text.take (min text.length 60))], [sv (((s.take k) ++ ([cc])) ++ (s.drop (k + 1)))]]]) (fun _ => True) | _ => fun _ _ => False) 20 [[], [], [1], [2], [0, 3], [], [], [5, 6], [], [8], [9], [7, 10], [], [], [13], [12, 14], [11, 15], [4, 16], [17], []] [sv text, sv text, iv (text.length : Int), iv (min (text.length : Int) 60), sv (text.take (min text.length 60)), sv s, iv (k : Int), sv (s.take k), yv cc, undef, sv ([cc]), sv ((s.take k) ++ ([cc])), sv s, iv (k : Int), iv ((k : Int) + 1), sv (s.drop (k + 1)), sv (((s.take k) ++ ([cc])) ++ (s.drop (k + 1))), undef, iv 2, iv 0] Z Y (by kernel_rfl) (by kernel_rfl) (by kernel_rfl) ?_ ?_ ?_
 ·intro i hi hiq
  match i, hi, hiq with
  | 0, _, _ =>
   intro w Y
   exact OpV.g (ai rfl)
  | 1, _, _ =>
   intro w Y
   exact OpV.g (ai rfl)
  | 2, _, _ =>
   intro w Y
   exact OpV.g (aJ rfl rfl (Tryd.runUnderlying9 _))
  | 3, _, _ =>
   intro w Y
   exact OpV.g (eN rfl rfl)
  | 4, _, _ =>
   intro w Y
   exact OpV.g ((aV (xs := text) (l := 0) (h := (min text.length 60)) rfl rfl rfl Tryd.underlying9 (.inl ⟨rfl, rfl⟩) (.inr (by rw [show (min (text.length : Int) 60 : Int) = (((min text.length 60) : Nat) : Int) from by omega] <;> rfl)) (by omega) (by first | omega | exact Nat.min_le_left _ _)).as (v' := sv (text.take (min text.length 60))) rfl)
  | 5, _, _ =>
   intro w Y
   exact OpV.g (ai rfl)
  | 6, _, _ =>
   intro w Y
   exact OpV.g (ai rfl)
  | 7, _, _ =>
   intro w Y
   exact OpV.g ((aV (xs := s) (l := 0) (h := k) rfl rfl rfl Tryd.underlying9 (.inl ⟨rfl, rfl⟩) (.inr (by rw [show ((k : Int) : Int) = ((k : Nat) : Int) from by omega] <;> rfl)) (by omega) (by first | omega | exact Nat.min_le_left _ _)).as (v' := sv (s.take k)) rfl)
  | 8, _, _ =>
   intro w Y
   exact OpV.g (ai rfl)
  | 9, _, h => exact absurd (by simp) h
  | 10, _, _ =>
   rintro _ _ ⟨b27, rfl, -, rfl⟩
   intro w Y
   exact OpV.g (bS (xs := [cc]) (Y.ownAt (i := 0) rfl) rfl Tryd.underlying71 Tryd.underlying5 Tryd.underlying9)
  | 11, _, _ =>
   intro w Y
   exact OpV.g (cC rfl rfl (by simp only [List.length_append, List.length_take, List.length_drop, List.length_cons, List.length_nil]; omega))
  | 12, _, _ =>
   intro w Y
   exact OpV.g (ai rfl)
  | 13, _, _ =>
   intro w Y
   exact OpV.g (ai rfl)
  | 14, _, _ =>
   intro w Y
   exact OpV.g (aL rfl rfl ⟨by omega, by omega⟩)
  | 15, _, _ =>
   intro w Y
   exact OpV.g ((aV (xs := s) (l := (k + 1)) (h := s.length) rfl rfl rfl Tryd.underlying9 (.inr (by rw [show ((k : Int) + 1 : Int) = (((k + 1) : Nat) : Int) from by omega] <;> rfl)) (.inl ⟨rfl, rfl⟩) (by omega) (Nat.le_refl _)).as (v' := sv (s.drop (k + 1))) (by rw [List.take_of_length_le (by rw [List.length_drop]; omega)]))
  | 16, _, _ =>
   intro w Y
   exact OpV.g (cC rfl rfl (by simp only [List.length_append, List.length_take, List.length_drop, List.length_cons, List.length_nil]; omega))
  | 17, _, h => exact absurd (by simp) h
  | 18, _, _ =>
   rintro _ _ ⟨b28, rfl, -, rfl⟩
   intro w Y
   exact OpV.g ((aM (sT := 45) (Y.ownAt (i := 0) rfl) rfl rfl (Tryd.runUnderlying45 _)).asi (m' := 2) (by rfl))
  | 19, _, _ =>
   intro w Y
   exact OpV.g (ai rfl)
  | i + 20, h, _ => exact absurd h (by omega)
 ·intro i hi
  simp only [List.mem_cons, List.not_mem_nil, or_false] at hi
  rcases hi with rfl | rfl
  ·intro w Y
   exact aK (E := 5) (sz := 1) rfl [[yv cc]] (fun _ => by kernel_rfl) (by simp) rfl (by decide)
  ·intro w Y
   exact aK (E := 9) (sz := 1) rfl [[sv (text.take (min text.length 60))], [sv (((s.take k) ++ ([cc])) ++ (s.drop (k + 1)))]] (fun _ => by kernel_rfl) (by simp) rfl (by decide)
 clear Z Y
 rintro _ _ ⟨b27, rfl, -, rfl⟩ _ _ ⟨b28, rfl, -, rfl⟩ a w108 Z Y
 replace Z : Fr 162 [(119, sv text), (120, sv text), (121, iv (text.length : Int)), (122, iv (min (text.length : Int) 60)), (123, sv (text.take (min text.length 60))), (124, sv s), (125, iv (k : Int)), (126, sv (s.take k)), (127, yv cc), (128, _), (129, sv ([cc])), (130, sv ((s.take k) ++ ([cc]))), (131, sv s), (132, iv (k : Int)), (133, iv ((k : Int) + 1)), (134, sv (s.drop (k + 1))), (135, sv (((s.take k) ++ ([cc])) ++ (s.drop (k + 1)))), (136, _), (137, iv 2), (138, iv 0), (4, _), (6, _), (14, _), (17, _), (23, _)] [] a := Z
 replace Y : St No w0 [_, _] w108 := Y
 refine ab <| hK209 _ _ ?_
 replace Z : Fr 162 [(14, _), (136, _), (137, _), (138, _)] [] a := Z.pick [14, 136, 137, 138]
 replace Y : St No w0 [_] w108 := Y.mask [false, true]
 refine ap <| cS 3 ?_
 refine aP ?_
 refine aa fun K210 hK210 => wlv Z ((v_lt rfl rfl).asb (b' := true) rfl) fun a Z => ab (hK210 _ _ <| ac fun K211 hK211 => ?_)
 refine aB Z rfl ?_
 refine ao <| hK211 _ _ <| ac fun K212 hK212 => ap <| aa fun K213 hK213 => wlv Z ((ak (i := 0) (sT := 45) (Y.ownAt (i := 0) rfl) rfl rfl (Tryd.runUnderlying45 _) (Tryd.sizeOf9 _) (by omega) (by simp)).as (v' := slAddr (.slice (some ⟨b28, 0, none⟩) 2 2) (0 * 1)) rfl) fun a Z => wlv Z (ax (u := sv (text.take (min text.length 60))) (i := 0) (j := 0) (Y.ownAt (i := 0) rfl) (by simp) rfl (Tryd.isAgg9 _) (by rfl)) fun a Z => wla Z rfl fun a Z => ?_
 refine ab (hK213 _ _ <| aa fun K214 hK214 => ?_)
 refine wlm Z rfl fun a Z => ?_
 rcases Bool.eq_false_or_eq_true ((decRec (text.take (min text.length 60))).isSome) with hb29 | hb29
 ·try simp only [qz] at hb29
  obtain ⟨r, hr, hro, hre⟩ := bR hb29
  refine al Z Y (by decide) Tryd.call24 rfl (bC (by first | (rw [List.length_take]; omega) | (simp only [List.length_append, List.length_take, List.length_drop, List.length_cons, List.length_nil]; omega)) hr) ?_
  clear Z Y
  intro a w109 Z Y
  refine wlm Z rfl fun a Z => wlv Z (ag rfl rfl) fun a Z => wlv Z (ag rfl rfl) fun a Z => aD Z Y (by decide) (Tryd.zeroValue27 _) (cs := [iv 0, iv 0, iv 0, iv 0, .string (⟨#[]⟩)]) rfl ?_
  clear Z Y
  intro a w110 Z Y
  refine az 0 Z Y rfl rfl rfl (Tryd.sizeOf27 _) rfl (lb rfl) (ds := [iv r.t, iv r.kind, iv r.a, iv r.b, sv r.text]) rfl rfl ?_
  clear Z Y
  intro a w111 Z Y
  refine wla Z rfl fun a Z => ab (hK214 _ _ ?_)
  replace Z : Fr 162 [(14, _), (136, _), (137, _), (138, _), (25, _), (26, _), (27, _)] [] a := Z.pick [14, 136, 137, 138, 25, 26, 27]
  refine ac fun K215 hK215 => aa fun K216 hK216 => wlm Z rfl fun a Z => wlv Z ((v_ne rfl rfl).asb (b' := false) rfl) fun a Z => ab (hK216 _ _ <| av Z rfl ?_)
  refine ao <| hK215 _ _ <| aa fun K217 hK217 => wlv Z (ar (Y.get (k := 0) rfl) rfl (Tryd.isAgg27 _) (Tryd.sizeOf27 _)) fun a Z => al Z Y (by decide) Tryd.call22 rfl (bw hro hre) ?_
  clear Z Y
  intro a w112 Z Y
  refine wlm Z rfl fun a Z => wlv Z (ag rfl rfl) fun a Z => wlv Z (ag rfl rfl) fun a Z => wla Z rfl fun a Z => wla Z rfl fun a Z => ab (hK217 _ _ ?_)
  replace Z : Fr 162 [(14, _), (136, _), (137, _), (138, _), (25, _), (28, _), (29, _)] [] a := Z.pick [14, 136, 137, 138, 25, 28, 29]
  replace Y : St No w0 [_] w112 := Y.mask [false, true]
  refine aa fun K218 hK218 => wlm Z rfl fun a Z => wlv Z ((v_ne rfl rfl).asb (b' := false) rfl) fun a Z => wlm Z rfl fun a Z => wly Z (ai rfl) fun a Z => wly Z (ai rfl) fun a Z => wly Z ((cW rfl rfl).asb (b' := false) (by simp)) fun a Z => wlv Z (aw rfl rfl) fun a Z => ab (hK218 _ _ ?_)
  replace Z : Fr 162 [(14, _), (136, _), (137, _), (138, _), (160, _)] [] a := Z.pick [14, 136, 137, 138, 160]
  refine av Z rfl ?_
  refine ao <| hK212 _ _ <| am <| wlv Z ((aL rfl rfl (by decide)).asi (m' := 1) rfl) fun a Z => wlm Z rfl fun a Z => ab <| aP ?_
  refine aa fun K219 hK219 => wlv Z ((v_lt rfl rfl).asb (b' := true) rfl) fun a Z => ab (hK219 _ _ <| ac fun K220 hK220 => ?_)
  refine aB Z rfl ?_
  refine ao <| hK220 _ _ <| ac fun K221 hK221 => ap <| aa fun K222 hK222 => wlv Z ((ak (i := 1) (sT := 45) (Y.ownAt (i := 0) rfl) rfl rfl (Tryd.runUnderlying45 _) (Tryd.sizeOf9 _) (by omega) (by simp)).as (v' := slAddr (.slice (some ⟨b28, 0, none⟩) 2 2) (1 * 1)) rfl) fun a Z => wlv Z (ax (u := sv (((s.take k) ++ ([cc])) ++ (s.drop (k + 1)))) (i := 1) (j := 0) (Y.ownAt (i := 0) rfl) (by simp) rfl (Tryd.isAgg9 _) (by rfl)) fun a Z => wla Z rfl fun a Z => ?_
  refine ab (hK222 _ _ <| aa fun K223 hK223 => ?_)
  refine wlm Z rfl fun a Z => ?_
  rcases Bool.eq_false_or_eq_true ((decRec (((s.take k) ++ ([cc])) ++ (s.drop (k + 1)))).isSome) with hb30 | hb30
  ·try simp only [qz] at hb30
   obtain ⟨r, hr, hro, hre⟩ := bR hb30
   refine al Z Y (by decide) Tryd.call24 rfl (bC (by first | (rw [List.length_take]; omega) | (simp only [List.length_append, List.length_take, List.length_drop, List.length_cons, List.length_nil]; omega)) hr) ?_
   clear Z Y
   intro a w113 Z Y
   refine wlm Z rfl fun a Z => wlv Z (ag rfl rfl) fun a Z => wlv Z (ag rfl rfl) fun a Z => aD Z Y (by decide) (Tryd.zeroValue27 _) (cs := [iv 0, iv 0, iv 0, iv 0, .string (⟨#[]⟩)]) rfl ?_
   clear Z Y
   intro a w114 Z Y
   refine az 0 Z Y rfl rfl rfl (Tryd.sizeOf27 _) rfl (lb rfl) (ds := [iv r.t, iv r.kind, iv r.a, iv r.b, sv r.text]) rfl rfl ?_
   clear Z Y
   intro a w115 Z Y
   refine wla Z rfl fun a Z => ab (hK223 _ _ ?_)
   replace Z : Fr 162 [(14, _), (136, _), (137, _), (138, _), (25, _), (26, _), (27, _)] [] a := Z.pick [14, 136, 137, 138, 25, 26, 27]
   refine ac fun K224 hK224 => aa fun K225 hK225 => wlm Z rfl fun a Z => wlv Z ((v_ne rfl rfl).asb (b' := false) rfl) fun a Z => ab (hK225 _ _ <| av Z rfl ?_)
   refine ao <| hK224 _ _ <| aa fun K226 hK226 => wlv Z (ar (Y.get (k := 0) rfl) rfl (Tryd.isAgg27 _) (Tryd.sizeOf27 _)) fun a Z => al Z Y (by decide) Tryd.call22 rfl (bw hro hre) ?_
   clear Z Y
   intro a w116 Z Y
   refine wlm Z rfl fun a Z => wlv Z (ag rfl rfl) fun a Z => wlv Z (ag rfl rfl) fun a Z => wla Z rfl fun a Z => wla Z rfl fun a Z => ab (hK226 _ _ ?_)
   replace Z : Fr 162 [(14, _), (136, _), (137, _), (138, _), (25, _), (28, _), (29, _)] [] a := Z.pick [14, 136, 137, 138, 25, 28, 29]
   replace Y : St No w0 [_] w116 := Y.mask [false, true]
   refine aa fun K227 hK227 => wlm Z rfl fun a Z => wlv Z ((v_ne rfl rfl).asb (b' := false) rfl) fun a Z => wlm Z rfl fun a Z => wly Z (ai rfl) fun a Z => wly Z (ai rfl) fun a Z => wly Z ((cW rfl rfl).asb (b' := false) (by simp)) fun a Z => wlv Z (aw rfl rfl) fun a Z => ab (hK227 _ _ ?_)
   replace Z : Fr 162 [(14, _), (136, _), (137, _), (138, _), (160, _)] [] a := Z.pick [14, 136, 137, 138, 160]
   refine av Z rfl ?_
   refine ao <| hK221 _ _ <| am <| wlv Z ((aL rfl rfl (by decide)).asi (m' := 2) rfl) fun a Z => wlm Z rfl fun a Z => ab <| aP ?_
   refine aa fun K228 hK228 => wlv Z ((v_lt rfl rfl).asb (b' := false) rfl) fun a Z => ab (hK228 _ _ <| ac fun K229 hK229 => ?_)
   refine av Z rfl ?_
   refine aF <| hK208 _ _ <| aa fun K230 hK230 => wla Z rfl fun a Z => ab (hK230 _ _ ?_)
   replace Z : Fr 162 [(14, _)] [] a := Z.pick [14]
   replace Y : St No w0 [] w116 := Y.mask [false]
   refine au ?_
   refine aq Z Tryd.results8 (ae rfl ah) ?_
   exact ⟨by rfl, Y.ext⟩
  try simp only [qz] at hb30
  refine al Z Y (by decide) Tryd.call24 rfl (bD (by first | (rw [List.length_take]; omega) | (simp only [List.length_append, List.length_take, List.length_drop, List.length_cons, List.length_nil]; omega)) (bN hb30)) ?_
  clear Z Y
  intro a w117 Z Y
  refine wlm Z rfl fun a Z => wlv Z (ag rfl rfl) fun a Z => wlv Z (ag rfl rfl) fun a Z => aD Z Y (by decide) (Tryd.zeroValue27 _) (cs := [iv 0, iv 0, iv 0, iv 0, .string (⟨#[]⟩)]) rfl ?_
  clear Z Y
  intro a w118 Z Y
  refine az 0 Z Y rfl rfl rfl (Tryd.sizeOf27 _) rfl (lb rfl) (ds := [iv 0, iv 0, iv 0, iv 0, sv ([] : By)]) rfl rfl ?_
  clear Z Y
  intro a w119 Z Y
  refine wla Z rfl fun a Z => ab (hK223 _ _ ?_)
  replace Z : Fr 162 [(14, _), (136, _), (137, _), (138, _), (25, _), (26, _), (27, _)] [] a := Z.pick [14, 136, 137, 138, 25, 26, 27]
  refine ac fun K231 hK231 => aa fun K232 hK232 => wlm Z rfl fun a Z => wlv Z ((v_ne rfl rfl).asb (b' := true) rfl) fun a Z => ab (hK232 _ _ <| aB Z rfl ?_)
  refine aF <| hK221 _ _ <| am <| wlv Z ((aL rfl rfl (by decide)).asi (m' := 2) rfl) fun a Z => wlm Z rfl fun a Z => ab <| aP ?_
  refine aa fun K233 hK233 => wlv Z ((v_lt rfl rfl).asb (b' := false) rfl) fun a Z => ab (hK233 _ _ ?_)
  replace Z : Fr 162 [(14, _), (136, _), (137, _), (138, _), (139, _)] [] a := Z.pick [14, 136, 137, 138, 139]
  replace Y : St No w0 [_] w119 := Y.mask [false, true]
  refine ac fun K234 hK234 => av Z rfl ?_
  refine aF <| hK208 _ _ <| aa fun K235 hK235 => wla Z rfl fun a Z => ab (hK235 _ _ <| au ?_)
  refine aq Z Tryd.results8 (ae rfl ah) ?_
  exact ⟨by rfl, Y.ext⟩
 try simp only [qz] at hb29
 refine al Z Y (by decide) Tryd.call24 rfl (bD (by first | (rw [List.length_take]; omega) | (simp only [List.length_append, List.length_take, List.length_drop, List.length_cons, List.length_nil]; omega)) (bN hb29)) ?_
 clear Z Y
 intro a w120 Z Y
 refine wlm Z rfl fun a Z => wlv Z (ag rfl rfl) fun a Z => wlv Z (ag rfl rfl) fun a Z => aD Z Y (by decide) (Tryd.zeroValue27 _) (cs := [iv 0, iv 0, iv 0, iv 0, .string (⟨#[]⟩)]) rfl ?_
 clear Z Y
 intro a w121 Z Y
 refine az 0 Z Y rfl rfl rfl (Tryd.sizeOf27 _) rfl (lb rfl) (ds := [iv 0, iv 0, iv 0, iv 0, sv ([] : By)]) rfl rfl ?_
 clear Z Y
 intro a w122 Z Y
 refine wla Z rfl fun a Z => ab (hK214 _ _ ?_)
 replace Z : Fr 162 [(14, _), (136, _), (137, _), (138, _), (25, _), (26, _), (27, _)] [] a := Z.pick [14, 136, 137, 138, 25, 26, 27]
 refine ac fun K236 hK236 => aa fun K237 hK237 => wlm Z rfl fun a Z => wlv Z ((v_ne rfl rfl).asb (b' := true) rfl) fun a Z => ab (hK237 _ _ <| aB Z rfl ?_)
 refine aF <| hK212 _ _ <| am <| wlv Z ((aL rfl rfl (by decide)).asi (m' := 1) rfl) fun a Z => wlm Z rfl fun a Z => ab <| aP ?_
 refine aa fun K238 hK238 => wlv Z ((v_lt rfl rfl).asb (b' := true) rfl) fun a Z => ab (hK238 _ _ ?_)
 replace Z : Fr 162 [(14, _), (136, _), (137, _), (138, _), (139, _)] [] a := Z.pick [14, 136, 137, 138, 139]
 replace Y : St No w0 [_] w122 := Y.mask [false, true]
 refine ac fun K239 hK239 => aB Z rfl ?_
 refine ao <| hK239 _ _ <| ac fun K240 hK240 => ap <| aa fun K241 hK241 => wlv Z ((ak (i := 1) (sT := 45) (Y.ownAt (i := 0) rfl) rfl rfl (Tryd.runUnderlying45 _) (Tryd.sizeOf9 _) (by omega) (by simp)).as (v' := slAddr (.slice (some ⟨b28, 0, none⟩) 2 2) (1 * 1)) rfl) fun a Z => wlv Z (ax (u := sv (((s.take k) ++ ([cc])) ++ (s.drop (k + 1)))) (i := 1) (j := 0) (Y.ownAt (i := 0) rfl) (by simp) rfl (Tryd.isAgg9 _) (by rfl)) fun a Z => wla Z rfl fun a Z => ?_
 refine ab (hK241 _ _ <| aa fun K242 hK242 => ?_)
 refine wlm Z rfl fun a Z => ?_
 rcases Bool.eq_false_or_eq_true ((decRec (((s.take k) ++ ([cc])) ++ (s.drop (k + 1)))).isSome) with hb31 | hb31
 ·try simp only [qz] at hb31
  obtain ⟨r, hr, hro, hre⟩ := bR hb31
  refine al Z Y (by decide) Tryd.call24 rfl (bC (by first | (rw [List.length_take]; omega) | (simp only [List.length_append, List.length_take, List.length_drop, List.length_cons, List.length_nil]; omega)) hr) ?_
  clear Z Y
  intro a w123 Z Y
  refine wlm Z rfl fun a Z => wlv Z (ag rfl rfl) fun a Z => wlv Z (ag rfl rfl) fun a Z => aD Z Y (by decide) (Tryd.zeroValue27 _) (cs := [iv 0, iv 0, iv 0, iv 0, .string (⟨#[]⟩)]) rfl ?_
  clear Z Y
  intro a w124 Z Y
  refine az 0 Z Y rfl rfl rfl (Tryd.sizeOf27 _) rfl (lb rfl) (ds := [iv r.t, iv r.kind, iv r.a, iv r.b, sv r.text]) rfl rfl ?_
  clear Z Y
  intro a w125 Z Y
  refine wla Z rfl fun a Z => ab (hK242 _ _ ?_)
  replace Z : Fr 162 [(14, _), (136, _), (137, _), (138, _), (25, _), (26, _), (27, _)] [] a := Z.pick [14, 136, 137, 138, 25, 26, 27]
  refine ac fun K243 hK243 => aa fun K244 hK244 => wlm Z rfl fun a Z => wlv Z ((v_ne rfl rfl).asb (b' := false) rfl) fun a Z => ab (hK244 _ _ <| av Z rfl ?_)
  refine ao <| hK243 _ _ <| aa fun K245 hK245 => wlv Z (ar (Y.get (k := 0) rfl) rfl (Tryd.isAgg27 _) (Tryd.sizeOf27 _)) fun a Z => al Z Y (by decide) Tryd.call22 rfl (bw hro hre) ?_
  clear Z Y
  intro a w126 Z Y
  refine wlm Z rfl fun a Z => wlv Z (ag rfl rfl) fun a Z => wlv Z (ag rfl rfl) fun a Z => wla Z rfl fun a Z => wla Z rfl fun a Z => ab (hK245 _ _ ?_)
  replace Z : Fr 162 [(14, _), (136, _), (137, _), (138, _), (25, _), (28, _), (29, _)] [] a := Z.pick [14, 136, 137, 138, 25, 28, 29]
  replace Y : St No w0 [_] w126 := Y.mask [false, true]
  refine aa fun K246 hK246 => wlm Z rfl fun a Z => wlv Z ((v_ne rfl rfl).asb (b' := false) rfl) fun a Z => wlm Z rfl fun a Z => wly Z (ai rfl) fun a Z => wly Z (ai rfl) fun a Z => wly Z ((cW rfl rfl).asb (b' := false) (by simp)) fun a Z => wlv Z (aw rfl rfl) fun a Z => ab (hK246 _ _ ?_)
  replace Z : Fr 162 [(14, _), (136, _), (137, _), (138, _), (160, _)] [] a := Z.pick [14, 136, 137, 138, 160]
  refine av Z rfl ?_
  refine ao <| hK240 _ _ <| am <| wlv Z ((aL rfl rfl (by decide)).asi (m' := 2) rfl) fun a Z => wlm Z rfl fun a Z => ab <| aP ?_
  refine aa fun K247 hK247 => wlv Z ((v_lt rfl rfl).asb (b' := false) rfl) fun a Z => ab (hK247 _ _ <| ac fun K248 hK248 => ?_)
  refine av Z rfl ?_
  refine aF <| hK208 _ _ <| aa fun K249 hK249 => wla Z rfl fun a Z => ab (hK249 _ _ ?_)
  replace Z : Fr 162 [(14, _)] [] a := Z.pick [14]
  replace Y : St No w0 [] w126 := Y.mask [false]
  refine au ?_
  refine aq Z Tryd.results8 (ae rfl ah) ?_
  exact ⟨by rfl, Y.ext⟩
 try simp only [qz] at hb31
 refine al Z Y (by decide) Tryd.call24 rfl (bD (by first | (rw [List.length_take]; omega) | (simp only [List.length_append, List.length_take, List.length_drop, List.length_cons, List.length_nil]; omega)) (bN hb31)) ?_
 clear Z Y
 intro a w127 Z Y
 refine wlm Z rfl fun a Z => wlv Z (ag rfl rfl) fun a Z => wlv Z (ag rfl rfl) fun a Z => aD Z Y (by decide) (Tryd.zeroValue27 _) (cs := [iv 0, iv 0, iv 0, iv 0, .string (⟨#[]⟩)]) rfl ?_
 clear Z Y
 intro a w128 Z Y
 refine az 0 Z Y rfl rfl rfl (Tryd.sizeOf27 _) rfl (lb rfl) (ds := [iv 0, iv 0, iv 0, iv 0, sv ([] : By)]) rfl rfl ?_
 clear Z Y
 intro a w129 Z Y
 refine wla Z rfl fun a Z => ab (hK242 _ _ ?_)
 replace Z : Fr 162 [(14, _), (136, _), (137, _), (138, _), (25, _), (26, _), (27, _)] [] a := Z.pick [14, 136, 137, 138, 25, 26, 27]
 refine ac fun K250 hK250 => aa fun K251 hK251 => wlm Z rfl fun a Z => wlv Z ((v_ne rfl rfl).asb (b' := true) rfl) fun a Z => ab (hK251 _ _ <| aB Z rfl ?_)
 refine aF <| hK240 _ _ <| am <| wlv Z ((aL rfl rfl (by decide)).asi (m' := 2) rfl) fun a Z => wlm Z rfl fun a Z => ab <| aP ?_
 refine aa fun K252 hK252 => wlv Z ((v_lt rfl rfl).asb (b' := false) rfl) fun a Z => ab (hK252 _ _ ?_)
 replace Z : Fr 162 [(14, _), (136, _), (137, _), (138, _), (139, _)] [] a := Z.pick [14, 136, 137, 138, 139]
 replace Y : St No w0 [_] w129 := Y.mask [false, true]
 refine ac fun K253 hK253 => av Z rfl ?_
 refine aF <| hK208 _ _ <| aa fun K254 hK254 => wla Z rfl fun a Z => ab (hK254 _ _ <| au ?_)
 refine aq Z Tryd.results8 (ae rfl ah) ?_
 exact ⟨by rfl, Y.ext⟩
end Go.Proofs.YtddfkkdanpmnaaaDoor
