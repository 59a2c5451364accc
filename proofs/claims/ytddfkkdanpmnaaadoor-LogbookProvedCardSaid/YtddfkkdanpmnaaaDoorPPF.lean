/- Texts joined: LgI, LgJ, LgK, Laid, Door, OpenL. -/
import Derived.Test.YtddfkkdanpmnaaaDoorPPE
import Derived.Test.YtddfkkdanpmnaaaDoorPPA
import Derived.LaidMore
import Derived.OpenShut
import Derived.Stop.Joined
import Derived.SevenTiedAt
import Derived.ChangeMaps5
import Derived.Test.YtddfkkdanpmnaaaDoorRows
import Derived.Test.YtddfkkdanpmnaaaDoorPPB
set_option linter.unusedVariables false
set_option linter.unusedSimpArgs false
set_option maxRecDepth 4000
set_option maxHeartbeats 4000000
namespace Go.Proofs.YtddfkkdanpmnaaaDoor
open Go.RowKit Go.PW _root_.Go.Proofs.Tryd
theorem fU (o : Int) (lv : Value) (l : List Rec) (w0 : World) (hlv : SlAt w0 lv 5 (l.map Rec.cells)) (hk0 : (blk 0 (kOf.map wv) 161).ok w0) :
  Ret Tryd.prog 27 #[.agg #[iv o, lv]] w0 fun v w => v = .tuple #[sv (headB o l), iv (headE o l)] ∧ Ext No w0 w := by
 refine aF func27 rfl ntmps27 (lb rfl) fun a Z => ?_
 replace Z := Z.p1 0 rfl
 replace Y : St No w0 [] w0 := St.init w0
 refine aa fun K1 hK1 => bp Z Y de rfl (cs := [iv o, lv]) rfl ?_
 clear Z Y
 intro a w1 Z Y
 refine wla Z rfl fun a Z => wla Z rfl fun a Z => ab (hK1 _ _ <| aa fun K2 hK2 => ?_)
 refine wlv Z (aq (Y.g 0 rfl) rfl (isAgg25 _) (sizeOf25 _)) fun a Z => ?_
 rcases Bool.eq_false_or_eq_true (logOk o l) with hb1 | hb1
 ·try simp only [qz] at hb1
  have hlo : logOk o l = true := hb1
  have hll : l.length ≤ 60 := cw hlo
  refine aN Z Y de call62 rfl (eq o lv l _ (Y.arg hlv) hlo) ?_
  clear Z Y
  intro a w2 x3 hp Z Y
  revert x3 hp Z Y; rintro v2 hp Z Y
  clear hp
  replace Y : St No w0 [_, _] w2 := Y
  refine wlm Z rfl fun a Z => wlv Z (aj rfl rfl) fun a Z => wlv Z (aj rfl rfl) fun a Z => wla Z rfl fun a Z => wla Z rfl fun a Z => ab (hK2 _ _ ?_)
  replace Z := Z.p4 2 3 4 5 rfl
  replace Y := Y.k1 1 rfl
  refine ac fun K3 hK3 => aa fun K4 hK4 => wlm Z rfl fun a Z => wlv Z ((aX rfl).asb (b' := false) rfl) fun a Z => ab (hK4 _ _ <| aH Z rfl ?_)
  refine ap <| hK3 _ _ <| aa fun K5 hK5 => wlm Z rfl fun a Z => ak Z Y de call63 rfl (eo v2 (codesB l) _ (Y.ow 0 rfl) (by rw [dl]; omega) (fun k hk => Nat.le_trans (gI l _ (aY hk)) de) (Y.keepb hk0)) ?_
  clear Z Y
  intro a w3 Z Y
  refine wla Z rfl fun a Z => wla Z rfl fun a Z => ab (hK5 _ _ ?_)
  replace Z := Z.p2 2 3 rfl
  replace Y : St No w0 [] w3 := Y.mask [false]
  refine aw ?_
  refine ar Z results27 (ae rfl (ae rfl ag)) ?_
  exact ⟨by simp only [retv]; unfold headB headE; rw [if_pos hlo, if_pos hlo, dH (cO hlo)], Y.ext⟩
 try simp only [qz] at hb1
 have hlo : logOk o l = false := hb1
 have hll : l.length ≤ l.length := Nat.le_refl _
 refine ak Z Y de call62 rfl (jU o lv l _ (Y.arg hlv) hlo) ?_
 clear Z Y
 intro a w4 Z Y
 refine wlm Z rfl fun a Z => wlv Z (aj rfl rfl) fun a Z => wlv Z (aj rfl rfl) fun a Z => wla Z rfl fun a Z => wla Z rfl fun a Z => ab (hK2 _ _ ?_)
 replace Z := Z.p4 2 3 4 5 rfl
 replace Y : St No w0 [] w4 := Y.mask [false]
 refine ac fun K6 hK6 => aa fun K7 hK7 => wlm Z rfl fun a Z => wlv Z ((aX rfl).asb (b' := true) rfl) fun a Z => ab (hK7 _ _ <| aC Z rfl ?_)
 refine aa fun K8 hK8 => wla Z rfl fun a Z => wla Z rfl fun a Z => ab (hK8 _ _ <| aw ?_)
 refine ar Z results27 (ae rfl (ae rfl ag)) ?_
 exact ⟨by simp only [retv]; unfold headB headE; rw [hlo]; rfl, Y.ext⟩
theorem oY (key : By) (o : Int) (lv : Value) (l : List Rec) (w0 : World) (hlv : SlAt w0 lv 5 (l.map Rec.cells)) (hk0 : (blk 0 (kOf.map wv) 161).ok w0) :
  Ret Tryd.prog 36 #[sv key, .agg #[iv o, lv]] w0 fun v w => v = .tuple #[sv (signB key o l), iv (signE key o l)] ∧ Ext No w0 w := by
 refine aF func36 rfl ntmps36 (lb rfl) fun a Z => ?_
 replace Z := Z.p2 0 1 rfl
 replace Y : St No w0 [] w0 := St.init w0
 refine aa fun K1 hK1 => bp Z Y de rfl (cs := [iv o, lv]) rfl ?_
 clear Z Y
 intro a w1 Z Y
 refine wla Z rfl fun a Z => wla Z rfl fun a Z => ab (hK1 _ _ <| aa fun K2 hK2 => ?_)
 refine wlv Z (aq (Y.g 0 rfl) rfl (isAgg25 _) (sizeOf25 _)) fun a Z => ak Z Y de call27 rfl (fU o lv l _ (Y.arg hlv) (Y.keepb hk0)) ?_
 clear Z Y
 intro a w2 Z Y
 refine wlm Z rfl fun a Z => wlv Z (aj rfl rfl) fun a Z => wlv Z (aj rfl rfl) fun a Z => wla Z rfl fun a Z => wla Z rfl fun a Z => ab (hK2 _ _ ?_)
 replace Z := Z.p6 0 3 4 5 6 7 rfl
 refine ac fun K3 hK3 => aa fun K4 hK4 => wlm Z rfl fun a Z => wlv Z (v_ne rfl rfl) fun a Z => wlm Z rfl fun a Z => ?_
 rcases Bool.eq_false_or_eq_true (!decide (headE o l = 0)) with hb1 | hb1
 ·rw [hb1] at Z
  try simp only [qz] at hb1
  have hlo : logOk o l = false := by
   cases h : logOk o l with
   | false => rfl
   | true => exact absurd (ef.2 h) om
  have hsg : signOk key o l = false := by unfold signOk; rw [hlo]; rfl
  refine wln Z fun a Z => wln Z fun a Z => wln Z fun a Z => wlv Z (aB rfl rfl) fun a Z => ab (hK4 _ _ ?_)
  replace Z := Z.p6 0 3 4 5 6 19 rfl
  refine aC Z rfl ?_
  refine aa fun K5 hK5 => wla Z rfl fun a Z => wla Z rfl fun a Z => ab (hK5 _ _ <| aw ?_)
  refine ar Z results36 (ae rfl (ae rfl ag)) ?_
  exact ⟨by simp only [retv]; unfold signB signE; rw [hsg]; rfl, Y.ext⟩
 rw [hb1] at Z
 try simp only [qz] at hb1
 have hlo : logOk o l = true := ef.1 om
 have hob := gW hlo
 have hlb := cw hlo
 have hs0 : small o := by unfold small; omega
 have hs1 : small (l.length : Int) := by unfold small; omega
 have hr32 : (headB o l).length = 32 := by rw [ek hlo]; exact bD bl _
 refine wly Z (ai rfl) fun a Z => wly Z (bn rfl rfl (runUnderlying9 _)) fun a Z => wly Z (v_ne rfl rfl) fun a Z => wlv Z (aA rfl rfl) fun a Z => ab (hK4 _ _ ?_)
 replace Z := Z.p6 0 3 4 5 6 19 rfl
 refine az Z rfl (fun hc2 => ?_) (fun hc2 => ?_)
 ·rw [hc2] at Z
  try simp only [qz] at hc2
  have hsg : signOk key o l = false := by unfold signOk; rw [hlo, decide_eq_false om]; rfl
  refine aa fun K6 hK6 => wla Z rfl fun a Z => wla Z rfl fun a Z => ab (hK6 _ _ <| aw ?_)
  refine ar Z results36 (ae rfl (ae rfl ag)) ?_
  exact ⟨by simp only [retv]; unfold signB signE; rw [hsg]; rfl, Y.ext⟩
 rw [hc2] at Z
 try simp only [qz] at hc2
 have hsg : signOk key o l = true := by unfold signOk; rw [hlo, decide_eq_true om]; rfl
 refine ap <| hK3 _ _ <| aa fun K7 hK7 => wlm Z rfl fun a Z => wlv Z (al (v := pt w0.hz) rfl kr) fun a Z => wlv Z (ld Y 0 rfl rfl (isAgg3 _) rfl) fun a Z => wlv Z (al (v := po w0.hz 1) rfl kr) fun a Z => wlv Z (ld Y 0 rfl rfl (isAgg23 _) rfl) fun a Z => wlv Z ((aG (sT := 23) (Y.arg hlv) rfl rfl (runUnderlying23 _)).asi (m' := (l.length : Int)) (by rw [List.length_map])) fun a Z => wlm Z rfl fun a Z => ak Z Y de call71 rfl (mZ key o (l.length : Int) (headB o l) _ hs0 hs1 om om (Y.keepb hk0)) ?_
 clear Z Y
 intro a w3 Z Y
 refine wla Z rfl fun a Z => wla Z rfl fun a Z => ab (hK7 _ _ ?_)
 replace Z := Z.p2 4 5 rfl
 replace Y : St No w0 [] w3 := Y.mask [false]
 refine aw ?_
 refine ar Z results36 (ae rfl (ae rfl ag)) ?_
 exact ⟨by simp only [retv]; unfold signB signE; rw [if_pos hsg, if_pos hsg, ek hlo], Y.ext⟩
theorem jH {n a b : Int} (h : inB n a b = true) : a ≤ n ∧ n ≤ b := by simpa [inB] using h
theorem eQ (key : By) (owner n : Int) (root t : By) (w0 : World) (hk0 : (blk 0 (kOf.map wv) 161).ok w0) :
  Ret Tryd.prog 37 #[sv key, iv owner, iv n, sv root, sv t] w0 fun v w => v = .bool (genR sha key owner n root t) ∧ Ext No w0 w := by
 refine aF func37 rfl ntmps37 (lb rfl) fun a Z => ?_
 replace Z := Z.p5 0 1 2 3 4 rfl
 replace Y : St No w0 [] w0 := St.init w0
 refine aa fun K1 hK1 => wla Z rfl fun a Z => ab (hK1 _ _ <| aa fun K2 hK2 => ?_)
 refine wlm Z rfl fun a Z => ak Z Y de call46 rfl (dJ owner 0 99 _) ?_
 clear Z Y
 intro a w1 Z Y
 refine wlm Z rfl fun a Z => ?_
 rcases Bool.eq_false_or_eq_true (inB owner 0 99) with hb1 | hb1
 ·rw [hb1] at Z
  try simp only [qz] at hb1
  have hs0 : small owner := by have h9 := jH hb1; unfold small; omega
  refine wly Z (ai rfl) fun a Z => aQ Z Y de rfl de rfl call46 rfl (dJ n 0 60 _) ?_
  clear Z Y
  intro a w2 Z Y
  refine wlv Z (aB rfl rfl) fun a Z => wla Z rfl fun a Z => ab (hK2 _ _ ?_)
  replace Z := Z.p7 0 1 2 3 4 10 11 rfl
  refine aa fun K3 hK3 => wlm Z rfl fun a Z => wlm Z rfl fun a Z => ?_
  rcases Bool.eq_false_or_eq_true (inB n 0 60) with hb2 | hb2
  ·rw [hb2] at Z
   try simp only [qz] at hb2
   have hs1 : small n := by have h9 := jH hb2; unfold small; omega
   refine wly Z (ai rfl) fun a Z => wly Z (bn rfl rfl (runUnderlying9 _)) fun a Z => wly Z (v_eq rfl rfl) fun a Z => wlv Z (aB rfl rfl) fun a Z => wlm Z rfl fun a Z => ?_
   rcases Bool.eq_false_or_eq_true (decide ((key.length : Int) = 32)) with hb3 | hb3
   ·rw [hb3] at Z
    try simp only [qz] at hb3
    refine wly Z (ai rfl) fun a Z => wly Z (bn rfl rfl (runUnderlying9 _)) fun a Z => wly Z (v_eq rfl rfl) fun a Z => wlv Z (aB rfl rfl) fun a Z => wlm Z rfl fun a Z => ?_
    rcases Bool.eq_false_or_eq_true (decide ((root.length : Int) = 32)) with hb4 | hb4
    ·rw [hb4] at Z
     try simp only [qz] at hb4
     refine wly Z (ai rfl) fun a Z => wly Z (ai rfl) fun a Z => wly Z (ai rfl) fun a Z => wly Z (ai rfl) fun a Z => wly Z (ai rfl) fun a Z => aQ Z Y de rfl de rfl call71 rfl (mZ key owner n root _ hs0 hs1 om om (Y.keepb hk0)) ?_
     clear Z Y
     intro a w3 Z Y
     refine wly Z (el rfl rfl) fun a Z => wlv Z (aB rfl rfl) fun a Z => wla Z rfl fun a Z => ab (hK3 _ _ ?_)
     replace Z := Z.p1 10 rfl
     refine aw ?_
     refine ar Z results37 (ae rfl ag) ?_
     refine ⟨?_, Y.ext⟩
     simp only [retv]
     refine congrArg Value.bool ?_
     unfold genR; rw [decide_eq_true (by omega : key.length = 32), decide_eq_true (by omega : root.length = 32), hb1, hb2]; rfl
    rw [hb4] at Z
    try simp only [qz] at hb4
    refine wln Z fun a Z => wln Z fun a Z => wln Z fun a Z => wln Z fun a Z => wln Z fun a Z => wln Z fun a Z => wln Z fun a Z => wlv Z (aA rfl rfl) fun a Z => wla Z rfl fun a Z => ab (hK3 _ _ ?_)
    replace Z := Z.p1 10 rfl
    refine aw ?_
    refine ar Z results37 (ae rfl ag) ?_
    refine ⟨?_, Y.ext⟩
    simp only [retv]
    refine congrArg Value.bool ?_
    rw [eq_comm, Bool.eq_false_iff]; intro h; simp only [genR, Bool.and_eq_true, decide_eq_true_eq] at h
    first | (obtain ⟨⟨⟨⟨h1, h2⟩, h3⟩, h4⟩, h5⟩ := h; first | omega | (rw [h2] at hb4; cases hb4) | (rw [h3] at hb4; cases hb4))
   rw [hb3] at Z
   try simp only [qz] at hb3
   refine wln Z fun a Z => wln Z fun a Z => wln Z fun a Z => wlv Z (aA rfl rfl) fun a Z => wlm Z rfl fun a Z => wln Z fun a Z => wln Z fun a Z => wln Z fun a Z => wln Z fun a Z => wln Z fun a Z => wln Z fun a Z => ?_
   refine wln Z fun a Z => wlv Z (aA rfl rfl) fun a Z => wla Z rfl fun a Z => ab (hK3 _ _ ?_)
   replace Z := Z.p1 10 rfl
   refine aw ?_
   refine ar Z results37 (ae rfl ag) ?_
   refine ⟨?_, Y.ext⟩
   simp only [retv]
   refine congrArg Value.bool ?_
   rw [eq_comm, Bool.eq_false_iff]; intro h; simp only [genR, Bool.and_eq_true, decide_eq_true_eq] at h
   first | (obtain ⟨⟨⟨⟨h1, h2⟩, h3⟩, h4⟩, h5⟩ := h; first | omega | (rw [h2] at hb3; cases hb3) | (rw [h3] at hb3; cases hb3))
  rw [hb2] at Z
  try simp only [qz] at hb2
  refine wln Z fun a Z => wln Z fun a Z => wln Z fun a Z => wlv Z (aA rfl rfl) fun a Z => wlm Z rfl fun a Z => wln Z fun a Z => wln Z fun a Z => wln Z fun a Z => wlv Z (aA rfl rfl) fun a Z => wlm Z rfl fun a Z => wln Z fun a Z => wln Z fun a Z => ?_
  refine wln Z fun a Z => wln Z fun a Z => wln Z fun a Z => wln Z fun a Z => wln Z fun a Z => wlv Z (aA rfl rfl) fun a Z => wla Z rfl fun a Z => ab (hK3 _ _ ?_)
  replace Z := Z.p1 10 rfl
  refine aw ?_
  refine ar Z results37 (ae rfl ag) ?_
  refine ⟨?_, Y.ext⟩
  simp only [retv]
  refine congrArg Value.bool ?_
  rw [eq_comm, Bool.eq_false_iff]; intro h; simp only [genR, Bool.and_eq_true, decide_eq_true_eq] at h
  first | (obtain ⟨⟨⟨⟨h1, h2⟩, h3⟩, h4⟩, h5⟩ := h; first | omega | (rw [h2] at hb2; cases hb2) | (rw [h3] at hb2; cases hb2))
 rw [hb1] at Z
 try simp only [qz] at hb1
 refine wln Z fun a Z => wln Z fun a Z => wlv Z (aA rfl rfl) fun a Z => wla Z rfl fun a Z => ab (hK2 _ _ ?_)
 replace Z := Z.p7 0 1 2 3 4 10 11 rfl
 refine aa fun K4 hK4 => wlm Z rfl fun a Z => wlm Z rfl fun a Z => wln Z fun a Z => wln Z fun a Z => wln Z fun a Z => wlv Z (aA rfl rfl) fun a Z => wlm Z rfl fun a Z => wln Z fun a Z => wln Z fun a Z => wln Z fun a Z => wlv Z (aA rfl rfl) fun a Z => wlm Z rfl fun a Z => ?_
 refine wln Z fun a Z => wln Z fun a Z => wln Z fun a Z => wln Z fun a Z => wln Z fun a Z => wln Z fun a Z => wln Z fun a Z => wlv Z (aA rfl rfl) fun a Z => wla Z rfl fun a Z => ab (hK4 _ _ ?_)
 replace Z := Z.p1 10 rfl
 refine aw ?_
 refine ar Z results37 (ae rfl ag) ?_
 refine ⟨?_, Y.ext⟩
 simp only [retv]
 refine congrArg Value.bool ?_
 rw [eq_comm, Bool.eq_false_iff]; intro h; simp only [genR, Bool.and_eq_true, decide_eq_true_eq] at h
 first | (obtain ⟨⟨⟨⟨h1, h2⟩, h3⟩, h4⟩, h5⟩ := h; first | omega | (rw [h2] at hb1; cases hb1) | (rw [h3] at hb1; cases hb1))
theorem bR (root : By) (n i : Int) (x : Rec) (pv_ : Value) (ps : List By) (w0 : World) (hpv : SlAt w0 pv_ 1 (ps.map fun s => [sv s])) (hpl : ps.length ≤ 1000) (hn : i64 n) (hk0 : (blk 0 (kOf.map wv) 161).ok w0) :
  Ret Tryd.prog 29 #[sv root, iv n, iv i, .agg #[iv x.t, iv x.kind, iv x.a, iv x.b, sv x.text], pv_] w0 fun v w => v = .bool (checkB root n i x ps) ∧ Ext No w0 w := by
 refine aF func29 rfl ntmps29 (lb rfl) fun a Z => ?_
 replace Z := Z.p5 0 1 2 3 4 rfl
 replace Y : St No w0 [] w0 := St.init w0
 refine aa fun K1 hK1 => bp Z Y de rfl (cs := [iv x.t, iv x.kind, iv x.a, iv x.b, sv x.text]) rfl ?_
 clear Z Y
 intro a w1 Z Y
 refine wla Z rfl fun a Z => ab (hK1 _ _ <| aa fun K2 hK2 => ?_)
 refine wlv Z (aq (Y.g 0 rfl) rfl (isAgg27 _) (sizeOf27 _)) fun a Z => ak Z Y de call22 rfl (iK x _) ?_
 clear Z Y
 intro a w2 Z Y
 refine wlm Z rfl fun a Z => wlv Z (aj rfl rfl) fun a Z => wlv Z (aj rfl rfl) fun a Z => wla Z rfl fun a Z => wla Z rfl fun a Z => ab (hK2 _ _ ?_)
 replace Z := Z.p7 0 1 2 4 10 11 12 rfl
 replace Y : St No w0 [] w2 := Y.mask [false]
 refine aa fun K3 hK3 => wlm Z rfl fun a Z => wlv Z (v_eq rfl rfl) fun a Z => wlm Z rfl fun a Z => ?_
 rcases Bool.eq_false_or_eq_true (decide (eE x = 0)) with hb1 | hb1
 ·rw [hb1] at Z
  try simp only [qz] at hb1
  have hxo : x.ok = true := by unfold eE at hb1; cases h : x.ok <;> simp_all
  refine wly Z (ai rfl) fun a Z => wly Z (ai rfl) fun a Z => wly Z (ai rfl) fun a Z => wly Z (ai rfl) fun a Z => wly Z (ai rfl) fun a Z => aQ Z Y de rfl de rfl call66 rfl (lM root (eB x) n i pv_ ps _ (Y.arg hpv) om (by have := cF x; omega) (by unfold i64 at hn; omega) (Y.keepb hk0)) ?_
  clear Z Y
  intro a w3 Z Y
  refine wlv Z (aB rfl rfl) fun a Z => wla Z rfl fun a Z => ab (hK3 _ _ ?_)
  replace Z := Z.p1 10 rfl
  refine aw ?_
  refine ar Z results29 (ae rfl ag) ?_
  exact ⟨by simp only [retv]; unfold checkB; rw [hxo, show eB x = x.enc from if_pos hxo]; rfl, Y.ext⟩
 rw [hb1] at Z
 try simp only [qz] at hb1
 have hxo : x.ok = false := by unfold eE at hb1; cases h : x.ok <;> simp_all
 refine wln Z fun a Z => wln Z fun a Z => wln Z fun a Z => wln Z fun a Z => wln Z fun a Z => wln Z fun a Z => wlv Z (aA rfl rfl) fun a Z => wla Z rfl fun a Z => ab (hK3 _ _ ?_)
 replace Z := Z.p1 10 rfl
 refine aw ?_
 refine ar Z results29 (ae rfl ag) ?_
 exact ⟨by simp only [retv]; unfold checkB; rw [hxo]; rfl, Y.ext⟩
theorem hC (old : By) (n : Int) (root : By) (m : Int) (pv_ : Value) (ps : List By) (w0 : World) (hpv : SlAt w0 pv_ 1 (ps.map fun s => [sv s])) (hpl : ps.length ≤ 1000) (hm : i64 m) (hk0 : (blk 0 (kOf.map wv) 161).ok w0) :
  Ret Tryd.prog 43 #[sv old, iv n, sv root, iv m, pv_] w0 fun v w => v = .bool (bA sha old n root m ps) ∧ Ext No w0 w := by
 refine aF func43 rfl ntmps43 (lb rfl) fun a Z => ?_
 replace Z := Z.p5 0 1 2 3 4 rfl
 replace Y : St No w0 [] w0 := St.init w0
 refine aa fun K1 hK1 => wla Z rfl fun a Z => ab (hK1 _ _ <| aa fun K2 hK2 => ?_)
 refine wlm Z rfl fun a Z => wlm Z rfl fun a Z => wlm Z rfl fun a Z => wlm Z rfl fun a Z => wlm Z rfl fun a Z => ak Z Y de call73 rfl (kG old root n m pv_ ps _ (Y.arg hpv) om (by unfold i64 at hm; omega) (Y.keepb hk0)) ?_
 clear Z Y
 intro a w1 Z Y
 refine wla Z rfl fun a Z => ab (hK2 _ _ ?_)
 replace Z := Z.p1 10 rfl
 refine aw ?_
 refine ar Z results43 (ae rfl ag) ?_
 exact ⟨by rfl, Y.ext⟩
theorem mc {o : Int} {l : List Rec} {v : Value} {i : Nat} {w0 : World} (hlo : logOk o l = true) (hv : SlAt w0 v 1 ((codesB l).map fun s => [sv s])) (hi : i < l.length) (hk0 : (blk 0 (kOf.map wv) 161).ok w0) : Ret Tryd.prog 65 #[v, iv (i : Int)] w0 (MemR w0 (fun v : Value => .tuple #[v, iv 0]) (fun v => [own v 9 1 ((proofH sha (codesR l) i).map fun s => [sv s])]) (fun _ => True)) := by
 rw [dH (cO hlo)] at hv
 have h60 := cw hlo
 exact mF v (codesR l) i w0 hv (by rw [bP]; exact hi) (by rw [bP]; omega) (fun s h => Nat.le_trans (dj (cO hlo) s h) de) hk0
theorem gM (o : Int) (lv : Value) (l : List Rec) (i : Nat) (w0 : World) (hlv : SlAt w0 lv 5 (l.map Rec.cells)) (hlo : logOk o l = true) (hi : i < l.length) (hk0 : (blk 0 (kOf.map wv) 161).ok w0) :
  Ret Tryd.prog 64 #[.agg #[iv o, lv], iv (i : Int), .func (.func 65) #[] #[]] w0 (MemR w0 (fun v : Value => .tuple #[v, iv 0]) (fun v => [own v 9 1 ((proofH sha (codesR l) i).map fun s => [sv s])]) (fun _ => True)) := by
 have hll := cw hlo
 refine aF func64 rfl ntmps64 (lb rfl) fun a Z => ?_
 replace Z := Z.p3 0 1 2 rfl
 replace Y : St No w0 [] w0 := St.init w0
 refine aa fun K1 hK1 => bp Z Y de rfl (cs := [iv o, lv]) rfl ?_
 clear Z Y
 intro a w1 Z Y
 refine wla Z rfl fun a Z => wla Z rfl fun a Z => ab (hK1 _ _ <| aa fun K2 hK2 => ?_)
 refine wlv Z (aq (Y.g 0 rfl) rfl (isAgg25 _) (sizeOf25 _)) fun a Z => aN Z Y de call62 rfl (eq o lv l _ (Y.arg hlv) hlo) ?_
 clear Z Y
 intro a w2 x2 hp Z Y
 revert x2 hp Z Y; rintro v1 hp Z Y
 clear hp
 replace Y : St No w0 [_, _] w2 := Y
 refine wlm Z rfl fun a Z => wlv Z (aj rfl rfl) fun a Z => wlv Z (aj rfl rfl) fun a Z => wla Z rfl fun a Z => wla Z rfl fun a Z => ab (hK2 _ _ ?_)
 replace Z := Z.p6 1 2 6 7 8 9 rfl
 replace Y := Y.k1 1 rfl
 refine ac fun K3 hK3 => aa fun K4 hK4 => wlm Z rfl fun a Z => wlv Z ((aX rfl).asb (b' := false) rfl) fun a Z => ab (hK4 _ _ <| aH Z rfl ?_)
 refine ap <| hK3 _ _ <| aa fun K5 hK5 => wlm Z rfl fun a Z => wlm Z rfl fun a Z => wlm Z rfl fun a Z => hT Z Y de rfl call65 rfl (mc hlo (Y.ow 0 rfl) hi (Y.keepb hk0)) ?_
 clear Z Y
 intro a w3 x4 hp Z Y
 revert x4 hp Z Y; rintro v3 - Z Y
 replace Y : St No w0 [_, _] w3 := Y
 refine wlm Z rfl fun a Z => wlv Z (aj rfl rfl) fun a Z => wlv Z (aj rfl rfl) fun a Z => wla Z rfl fun a Z => wla Z rfl fun a Z => ab (hK5 _ _ ?_)
 replace Z := Z.p4 6 7 10 11 rfl
 replace Y := Y.k1 1 rfl
 refine ac fun K6 hK6 => aa fun K7 hK7 => wlm Z rfl fun a Z => wlv Z ((v_ne rfl rfl).asb (b' := false) rfl) fun a Z => ab (hK7 _ _ <| aH Z rfl ?_)
 refine ap <| hK6 _ _ <| aa fun K8 hK8 => wlm Z rfl fun a Z => wla Z rfl fun a Z => wla Z rfl fun a Z => ab (hK8 _ _ <| aw ?_)
 refine ar Z results64 (ae rfl (ae rfl ag)) ?_
 exact ⟨v3, rfl, trivial, Y.ext, St.out (E := [own v3 9 1 ((proofH sha (codesR l) i).map fun s => [sv s])]) (H := []) (Y.select [0] de)⟩
theorem ip (o : Int) (lv : Value) (l : List Rec) (i : Int) (w0 : World) (hlv : SlAt w0 lv 5 (l.map Rec.cells)) (hno : inR o l i = false) (hk0 : (blk 0 (kOf.map wv) 161).ok w0) :
  Ret Tryd.prog 64 #[.agg #[iv o, lv], iv i, .func (.func 65) #[] #[]] w0 fun v w => v = .tuple #[.slice none 0 0, iv 110] ∧ Ext No w0 w := by
 refine aF func64 rfl ntmps64 (lb rfl) fun a Z => ?_
 replace Z := Z.p3 0 1 2 rfl
 replace Y : St No w0 [] w0 := St.init w0
 refine aa fun K1 hK1 => bp Z Y de rfl (cs := [iv o, lv]) rfl ?_
 clear Z Y
 intro a w1 Z Y
 refine wla Z rfl fun a Z => wla Z rfl fun a Z => ab (hK1 _ _ <| aa fun K2 hK2 => ?_)
 refine wlv Z (aq (Y.g 0 rfl) rfl (isAgg25 _) (sizeOf25 _)) fun a Z => ?_
 rcases Bool.eq_false_or_eq_true (logOk o l) with hb1 | hb1
 ·try simp only [qz] at hb1
  have hlo : logOk o l = true := hb1
  have hi : i < 0 ∨ (l.length : Int) ≤ i := by
   unfold inR at hno; rw [hlo] at hno
   simp only [Bool.true_and, Bool.and_eq_false_iff, decide_eq_false_iff_not] at hno; omega
  refine aN Z Y de call62 rfl (eq o lv l _ (Y.arg hlv) hlo) ?_
  clear Z Y
  intro a w2 x3 hp Z Y
  revert x3 hp Z Y; rintro v2 hp Z Y
  clear hp
  replace Y : St No w0 [_, _] w2 := Y
  refine wlm Z rfl fun a Z => wlv Z (aj rfl rfl) fun a Z => wlv Z (aj rfl rfl) fun a Z => wla Z rfl fun a Z => wla Z rfl fun a Z => ab (hK2 _ _ ?_)
  replace Z := Z.p6 1 2 6 7 8 9 rfl
  replace Y := Y.k1 1 rfl
  refine ac fun K3 hK3 => aa fun K4 hK4 => wlm Z rfl fun a Z => wlv Z ((aX rfl).asb (b' := false) rfl) fun a Z => ab (hK4 _ _ <| aH Z rfl ?_)
  refine ap <| hK3 _ _ <| aa fun K5 hK5 => wlm Z rfl fun a Z => wlm Z rfl fun a Z => wlm Z rfl fun a Z => fm Z Y de rfl call65 rfl (ms v2 (codesB l) i _ (Y.ow 0 rfl) (by rw [dl]; omega)) ?_
  clear Z Y
  intro a w3 Z Y
  refine wlm Z rfl fun a Z => wlv Z (aj rfl rfl) fun a Z => wlv Z (aj rfl rfl) fun a Z => wla Z rfl fun a Z => wla Z rfl fun a Z => ab (hK5 _ _ ?_)
  replace Z := Z.p4 6 7 10 11 rfl
  replace Y : St No w0 [] w3 := Y.mask [false]
  refine ac fun K6 hK6 => aa fun K7 hK7 => wlm Z rfl fun a Z => wlv Z ((v_ne rfl rfl).asb (b' := true) rfl) fun a Z => ab (hK7 _ _ <| aC Z rfl ?_)
  refine aa fun K8 hK8 => wla Z rfl fun a Z => wla Z rfl fun a Z => ab (hK8 _ _ <| aw ?_)
  refine ar Z results64 (ae rfl (ae rfl ag)) ?_
  exact ⟨by rfl, Y.ext⟩
 try simp only [qz] at hb1
 have hlo : logOk o l = false := hb1
 refine ak Z Y de call62 rfl (jU o lv l _ (Y.arg hlv) hlo) ?_
 clear Z Y
 intro a w4 Z Y
 refine wlm Z rfl fun a Z => wlv Z (aj rfl rfl) fun a Z => wlv Z (aj rfl rfl) fun a Z => wla Z rfl fun a Z => wla Z rfl fun a Z => ab (hK2 _ _ ?_)
 replace Z := Z.p6 1 2 6 7 8 9 rfl
 replace Y : St No w0 [] w4 := Y.mask [false]
 refine ac fun K9 hK9 => aa fun K10 hK10 => wlm Z rfl fun a Z => wlv Z ((aX rfl).asb (b' := true) rfl) fun a Z => ab (hK10 _ _ <| aC Z rfl ?_)
 refine aa fun K11 hK11 => wla Z rfl fun a Z => wla Z rfl fun a Z => ab (hK11 _ _ <| aw ?_)
 refine ar Z results64 (ae rfl (ae rfl ag)) ?_
 exact ⟨by rfl, Y.ext⟩
theorem gA (o : Int) (lv : Value) (l : List Rec) (i : Nat) (w0 : World) (hlv : SlAt w0 lv 5 (l.map Rec.cells)) (hll : l.length ≤ 1000) (hlo : logOk o l = true) (hi : i < l.length) (hk0 : (blk 0 (kOf.map wv) 161).ok w0) :
  Ret Tryd.prog 28 #[.agg #[iv o, lv], iv (i : Int)] w0 (MemR w0 (fun v : Value => .tuple #[v, iv 0]) (fun v => [own v 9 1 ((proofH sha (codesR l) i).map fun s => [sv s])]) (fun _ => True)) := by
 refine aF func28 rfl ntmps28 (lb rfl) fun a Z => ?_
 replace Z := Z.p2 0 1 rfl
 replace Y : St No w0 [] w0 := St.init w0
 refine aa fun K1 hK1 => bp Z Y de rfl (cs := [iv o, lv]) rfl ?_
 clear Z Y
 intro a w1 Z Y
 refine wla Z rfl fun a Z => wla Z rfl fun a Z => ab (hK1 _ _ <| aa fun K2 hK2 => ?_)
 refine wlv Z (aq (Y.g 0 rfl) rfl (isAgg25 _) (sizeOf25 _)) fun a Z => wlm Z rfl fun a Z => aN Z Y de call64 rfl (gM o lv l i _ (Y.arg hlv) hlo hi (Y.keepb hk0)) ?_
 clear Z Y
 intro a w2 x2 hp Z Y
 revert x2 hp Z Y; rintro v1 hp Z Y
 clear hp
 replace Y : St No w0 [_, _] w2 := Y
 refine wlv Z (aj rfl rfl) fun a Z => wlv Z (aj rfl rfl) fun a Z => wla Z rfl fun a Z => wla Z rfl fun a Z => ab (hK2 _ _ ?_)
 replace Z := Z.p2 4 5 rfl
 replace Y := Y.k1 1 rfl
 refine aw ?_
 refine ar Z results28 (ae rfl (ae rfl ag)) ?_
 exact ⟨v1, rfl, trivial, Y.ext, St.out (E := [own v1 9 1 ((proofH sha (codesR l) i).map fun s => [sv s])]) (H := []) (Y.select [0] de)⟩
theorem lE (o : Int) (lv : Value) (l : List Rec) (i : Int) (w0 : World) (hlv : SlAt w0 lv 5 (l.map Rec.cells)) (hll : l.length ≤ 1000) (hno : inR o l i = false) (hk0 : (blk 0 (kOf.map wv) 161).ok w0) :
  Ret Tryd.prog 28 #[.agg #[iv o, lv], iv i] w0 (MemR w0 (fun v : Value => .tuple #[v, iv 110]) (fun v => [own v 9 1 ((([] : List By)).map fun s => [sv s])]) (fun _ => True)) := by
 refine aF func28 rfl ntmps28 (lb rfl) fun a Z => ?_
 replace Z := Z.p2 0 1 rfl
 replace Y : St No w0 [] w0 := St.init w0
 refine aa fun K1 hK1 => bp Z Y de rfl (cs := [iv o, lv]) rfl ?_
 clear Z Y
 intro a w1 Z Y
 refine wla Z rfl fun a Z => wla Z rfl fun a Z => ab (hK1 _ _ <| aa fun K2 hK2 => ?_)
 refine wlv Z (aq (Y.g 0 rfl) rfl (isAgg25 _) (sizeOf25 _)) fun a Z => wlm Z rfl fun a Z => ak Z Y de call64 rfl (ip o lv l i _ (Y.arg hlv) hno (Y.keepb hk0)) ?_
 clear Z Y
 intro a w2 Z Y
 refine wlv Z (aj rfl rfl) fun a Z => wlv Z (aj rfl rfl) fun a Z => wla Z rfl fun a Z => wla Z rfl fun a Z => ab (hK2 _ _ ?_)
 replace Z := Z.p2 4 5 rfl
 replace Y : St No w0 [] w2 := Y.mask [false]
 refine aw ?_
 refine ar Z results28 (ae rfl (ae rfl ag)) ?_
 replace Y : St No w0 [own (.slice none 0 0) 9 1 (([] : List By).map fun s => [sv s])] w2 := Y.nil_own
 exact ⟨.slice none 0 0, rfl, trivial, Y.ext, St.out (E := [own (.slice none 0 0) 9 1 (([] : List By).map fun s => [sv s])]) (H := []) (Y.select [0] de)⟩
theorem ot (lv : Value) (ls : List By) (i : Nat) (w0 : World) (hlv : SlAt w0 lv 1 (ls.map fun s => [sv s])) (hi : i ≤ ls.length) (hln : ls.length ≤ 1000) (hls : ∀ s ∈ ls, s.length ≤ 40000000) (hk0 : (blk 0 (kOf.map wv) 161).ok w0) :
  Ret Tryd.prog 72 #[lv, iv (i : Int)] w0 (MemR w0 (fun v : Value => .tuple #[v, iv 0]) (fun v => [own v 9 1 ((extH sha ls i).map fun s => [sv s])]) (fun _ => True)) := by
 by_cases h : i = 0
 ·subst h
  refine (mN lv ls w0 hlv).mono ?_
  rintro v w ⟨rfl, hx⟩
  exact ⟨.slice none 0 0, rfl, trivial, hx, dO (iU _ _ _) (fun k hk => by cases hk)⟩
 ·have := px lv ls i w0 hlv om hi hln hls hk0
  rw [extH, if_neg h]; exact this
theorem lR {o : Int} {l : List Rec} {v : Value} {i : Nat} {w0 : World} (hlo : logOk o l = true) (hv : SlAt w0 v 1 ((codesB l).map fun s => [sv s])) (hi : i ≤ l.length) (hk0 : (blk 0 (kOf.map wv) 161).ok w0) : Ret Tryd.prog 72 #[v, iv (i : Int)] w0 (MemR w0 (fun v : Value => .tuple #[v, iv 0]) (fun v => [own v 9 1 ((extH sha (codesR l) i).map fun s => [sv s])]) (fun _ => True)) := by
 rw [dH (cO hlo)] at hv
 have h60 := cw hlo
 exact ot v (codesR l) i w0 hv (by rw [bP]; exact hi) (by rw [bP]; omega) (fun s h => Nat.le_trans (dj (cO hlo) s h) de) hk0
theorem gN (o : Int) (lv : Value) (l : List Rec) (i : Nat) (w0 : World) (hlv : SlAt w0 lv 5 (l.map Rec.cells)) (hlo : logOk o l = true) (hi : i ≤ l.length) (hk0 : (blk 0 (kOf.map wv) 161).ok w0) :
  Ret Tryd.prog 64 #[.agg #[iv o, lv], iv (i : Int), .func (.func 72) #[] #[]] w0 (MemR w0 (fun v : Value => .tuple #[v, iv 0]) (fun v => [own v 9 1 ((extH sha (codesR l) i).map fun s => [sv s])]) (fun _ => True)) := by
 have hll := cw hlo
 refine aF func64 rfl ntmps64 (lb rfl) fun a Z => ?_
 replace Z := Z.p3 0 1 2 rfl
 replace Y : St No w0 [] w0 := St.init w0
 refine aa fun K1 hK1 => bp Z Y de rfl (cs := [iv o, lv]) rfl ?_
 clear Z Y
 intro a w1 Z Y
 refine wla Z rfl fun a Z => wla Z rfl fun a Z => ab (hK1 _ _ <| aa fun K2 hK2 => ?_)
 refine wlv Z (aq (Y.g 0 rfl) rfl (isAgg25 _) (sizeOf25 _)) fun a Z => aN Z Y de call62 rfl (eq o lv l _ (Y.arg hlv) hlo) ?_
 clear Z Y
 intro a w2 x2 hp Z Y
 revert x2 hp Z Y; rintro v1 hp Z Y
 clear hp
 replace Y : St No w0 [_, _] w2 := Y
 refine wlm Z rfl fun a Z => wlv Z (aj rfl rfl) fun a Z => wlv Z (aj rfl rfl) fun a Z => wla Z rfl fun a Z => wla Z rfl fun a Z => ab (hK2 _ _ ?_)
 replace Z := Z.p6 1 2 6 7 8 9 rfl
 replace Y := Y.k1 1 rfl
 refine ac fun K3 hK3 => aa fun K4 hK4 => wlm Z rfl fun a Z => wlv Z ((aX rfl).asb (b' := false) rfl) fun a Z => ab (hK4 _ _ <| aH Z rfl ?_)
 refine ap <| hK3 _ _ <| aa fun K5 hK5 => wlm Z rfl fun a Z => wlm Z rfl fun a Z => wlm Z rfl fun a Z => hT Z Y de rfl call72 rfl (lR hlo (Y.ow 0 rfl) hi (Y.keepb hk0)) ?_
 clear Z Y
 intro a w3 x4 hp Z Y
 revert x4 hp Z Y; rintro v3 - Z Y
 replace Y : St No w0 [_, _] w3 := Y
 refine wlm Z rfl fun a Z => wlv Z (aj rfl rfl) fun a Z => wlv Z (aj rfl rfl) fun a Z => wla Z rfl fun a Z => wla Z rfl fun a Z => ab (hK5 _ _ ?_)
 replace Z := Z.p4 6 7 10 11 rfl
 replace Y := Y.k1 1 rfl
 refine ac fun K6 hK6 => aa fun K7 hK7 => wlm Z rfl fun a Z => wlv Z ((v_ne rfl rfl).asb (b' := false) rfl) fun a Z => ab (hK7 _ _ <| aH Z rfl ?_)
 refine ap <| hK6 _ _ <| aa fun K8 hK8 => wlm Z rfl fun a Z => wla Z rfl fun a Z => wla Z rfl fun a Z => ab (hK8 _ _ <| aw ?_)
 refine ar Z results64 (ae rfl (ae rfl ag)) ?_
 exact ⟨v3, rfl, trivial, Y.ext, St.out (E := [own v3 9 1 ((extH sha (codesR l) i).map fun s => [sv s])]) (H := []) (Y.select [0] de)⟩
theorem kq (o : Int) (lv : Value) (l : List Rec) (i : Nat) (w0 : World) (hlv : SlAt w0 lv 5 (l.map Rec.cells)) (hll : l.length ≤ 1000) (hlo : logOk o l = true) (hi : i ≤ l.length) (hk0 : (blk 0 (kOf.map wv) 161).ok w0) :
  Ret Tryd.prog 42 #[.agg #[iv o, lv], iv (i : Int)] w0 (MemR w0 (fun v : Value => .tuple #[v, iv 0]) (fun v => [own v 9 1 ((extH sha (codesR l) i).map fun s => [sv s])]) (fun _ => True)) := by
 refine aF func42 rfl ntmps42 (lb rfl) fun a Z => ?_
 replace Z := Z.p2 0 1 rfl
 replace Y : St No w0 [] w0 := St.init w0
 refine aa fun K1 hK1 => bp Z Y de rfl (cs := [iv o, lv]) rfl ?_
 clear Z Y
 intro a w1 Z Y
 refine wla Z rfl fun a Z => wla Z rfl fun a Z => ab (hK1 _ _ <| aa fun K2 hK2 => ?_)
 refine wlv Z (aq (Y.g 0 rfl) rfl (isAgg25 _) (sizeOf25 _)) fun a Z => wlm Z rfl fun a Z => aN Z Y de call64 rfl (gN o lv l i _ (Y.arg hlv) hlo hi (Y.keepb hk0)) ?_
 clear Z Y
 intro a w2 x2 hp Z Y
 revert x2 hp Z Y; rintro v1 hp Z Y
 clear hp
 replace Y : St No w0 [_, _] w2 := Y
 refine wlv Z (aj rfl rfl) fun a Z => wlv Z (aj rfl rfl) fun a Z => wla Z rfl fun a Z => wla Z rfl fun a Z => ab (hK2 _ _ ?_)
 replace Z := Z.p2 4 5 rfl
 replace Y := Y.k1 1 rfl
 refine aw ?_
 refine ar Z results42 (ae rfl (ae rfl ag)) ?_
 exact ⟨v1, rfl, trivial, Y.ext, St.out (E := [own v1 9 1 ((extH sha (codesR l) i).map fun s => [sv s])]) (H := []) (Y.select [0] de)⟩
def exE : By := [20, 2, 14, 1, 8, 110, 101, 119, 115]
def exM : List Rec := exR ++ [⟨20, 3, 0, 0, []⟩]
def exRoot : By := rootH sha (codesR exR)
def exNext : By := rootH sha (codesR exM)
def exPf : List By := proofH sha (codesR exR) 1
def exQ : List By := extH sha (codesR exM) 3
def exTag : By := tagR sha (keyR 1) 4 3 exRoot
theorem gE {f : FuncId} {args : Array Value} {w : World} {a b : Value} (h : a = b) (hr : Ret Tryd.prog f args w fun v w' => v = a ∧ Ext No w w') : Ret Tryd.prog f args w fun v w' => v = b ∧ Ext No w w' := by subst h; exact hr
theorem bu {f : FuncId} {args : Array Value} {w : World} {b c : Bool} (h : b = c) (hr : Ret Tryd.prog f args w fun v w' => v = .bool b ∧ Ext No w w') : Ret Tryd.prog f args w fun v w' => v = .bool c ∧ Ext No w w' := by subst h; exact hr
theorem dQ {f : FuncId} {args : Array Value} {w : World} {b c : Int} (h : b = c) (hr : Ret Tryd.prog f args w fun v w' => v = iv b ∧ Ext No w w') : Ret Tryd.prog f args w fun v w' => v = iv c ∧ Ext No w w' := by subst h; exact hr
theorem ex_eB : eB (exR.getD 0 Rec.z) = exE := by decide +kernel
theorem ex_eE : eE (exR.getD 0 Rec.z) = 0 := by decide +kernel
theorem ex_dX : decX exE = exR.getD 0 Rec.z := by decide +kernel
theorem ex_dE : decE exE = 0 := by decide +kernel
theorem gB : logOk 4 exR = true := by decide +kernel
theorem iH : logOk 4 exM = true := by decide +kernel
theorem n9 : logOk 100 [] = false := by decide +kernel
theorem ex_hB : headB 4 exR = exRoot := ek gB
theorem ex_hE : headE 4 exR = 0 := ef.2 gB
theorem pB : headB 4 exM = exNext := ek iH
theorem pK : headE 4 exM = 0 := ef.2 iH
theorem jg (n : Int) : (keyR n).length = 32 := bl _
theorem pa : signOk (keyR 1) 4 exR = true := by unfold signOk; rw [gB, jg]; rfl
theorem ex_sB : signB (keyR 1) 4 exR = exTag := if_pos pa
theorem ex_sE : signE (keyR 1) 4 exR = 0 := if_pos pa
theorem pJ : addOk 4 exR ⟨19, 1, 0, 0, []⟩ = false := by decide +kernel
theorem pi : addOk 4 exR ⟨20, 3, 0, 0, []⟩ = true := by decide +kernel
theorem ex_f1 : findH 4 exR 1 9 = -1 := by decide +kernel
theorem ex_f2 : findH 4 exR 1 19 = 0 := by decide +kernel
theorem ex_f3 : findH 4 exR 1 20 = 2 := by decide +kernel
theorem fO : exRoot = [21, 112, 33, 172, 240, 109, 75, 130, 191, 249, 217, 221, 50, 198, 0, 231, 116, 242, 6, 54, 79, 38, 84, 56, 148, 132, 237, 35, 98, 124, 34, 181] := by decide +kernel
theorem lm : exNext = [195, 244, 205, 59, 182, 231, 47, 220, 108, 75, 52, 189, 34, 70, 131, 114, 76, 87, 137, 243, 75, 37, 231, 109, 74, 49, 79, 149, 141, 24, 151, 82] := by decide +kernel
theorem kK : keyR 1 = [219, 193, 180, 201, 0, 255, 228, 141, 87, 91, 93, 165, 198, 56, 4, 1, 37, 246, 93, 176, 254, 62, 36, 73, 75, 118, 234, 152, 100, 87, 217, 134] := by decide +kernel
theorem mS : exTag = [75, 183, 243, 190, 88, 89, 30, 0, 212, 159, 241, 14, 211, 216, 181, 111, 180, 45, 128, 188, 226, 87, 91, 67, 48, 251, 122, 74, 0, 4, 207, 40] := by unfold exTag; rw [kK, fO]; decide +kernel
theorem ex_c1 : checkB exRoot 3 1 (exR.getD 1 Rec.z) exPf = true := by
 have h := dV (S := sha) bl (l := codesR exR) (i := 1) de
 unfold checkB
 rw [show (exR.getD 1 Rec.z).ok = true from by decide, show (exR.getD 1 Rec.z).enc = (codesR exR).getD 1 [] from (gF de).symm, Bool.true_and]
 exact h
theorem ex_c2 : checkB exRoot 3 0 (exR.getD 1 Rec.z) exPf = false := by rw [fO]; decide +kernel
theorem ex_g1 : bA sha exRoot 3 exNext 4 exQ = true := kH (S := sha) bl (l := codesR exM) (m := 3) de
theorem ex_g2 : bA sha exNext 3 exRoot 4 exQ = false := by rw [fO, lm]; decide +kernel
theorem ex_n1 : genR sha (keyR 1) 4 3 exRoot exTag = true := by
 unfold genR exTag
 rw [show exRoot.length = 32 from bD bl _, jg, decide_eq_true rfl, decide_eq_true rfl]; rfl
theorem ex_n2 : genR sha (keyR 1) 5 3 exRoot exTag = false := by rw [mS, kK, fO]; decide +kernel
theorem ex_n3 : genR sha (keyR 1) 4 3 exNext exTag = false := by rw [mS, kK, lm]; decide +kernel
theorem ph : exPf.length ≤ 8 := by decide +kernel
theorem o9 : exQ.length ≤ 8 := by decide +kernel
theorem pG {lv : Value} {w0 : World} (hlv : SlAt w0 lv 5 (exR.map Rec.cells)) : Ret Tryd.prog 13 #[.agg #[iv 4, lv], .agg #[iv 20, iv 3, iv 0, iv 0, sv []]] w0 (MemR w0 (fun v : Value => .tuple #[.agg #[iv 4, v], iv 0]) (fun v => [own v 27 5 (exM.map Rec.cells)]) (fun _ => True)) := nk 4 lv exR ⟨20, 3, 0, 0, []⟩ w0 hlv de pi
theorem o6 (w0 : World) (hk0 : (blk 0 (kOf.map wv) 161).ok w0) :
  Ret Tryd.prog 9 #[] w0 fun v w => v = .bool true ∧ Ext No w0 w := by
 refine aF func9 rfl ntmps9 (lb rfl) fun a Z => ?_
 replace Z : Fr 206 [] [] a := Z
 replace Y : St No w0 [] w0 := St.init w0
 refine aa fun K1 hK1 => wla Z rfl fun a Z => ab (hK1 _ _ <| aa fun K2 hK2 => ?_)
 refine aN Z Y de call41 rfl (kF _) ?_
 clear Z Y
 intro a w1 x2 hp Z Y
 revert x2 hp Z Y; rintro lv1 hp Z Y
 clear hp
 replace Y : St No w0 [_] w1 := Y
 refine aU Z Y de (zeroValue25 _) (cs := [iv 0, .slice none 0 0]) rfl ?_
 clear Z Y
 intro a w2 Z Y
 refine bI (us := [iv 4, lv1]) 0 Z Y rfl rfl rfl (sizeOf25 _) (by intro z hz; simp only [List.mem_cons, List.not_mem_nil, or_false] at hz; rcases hz with rfl | rfl <;> first | rfl | exact SlAt.one (Y.ow 1 rfl)) (lb rfl) (ds := [iv 4, lv1]) rfl rfl ?_
 clear Z Y
 intro a w3 Z Y
 refine ab (hK2 _ _ <| aa fun K3 hK3 => ?_)
 refine wlv Z (al (v := po w1.hz 1) rfl kr) fun a Z => wlv Z (ld Y 0 rfl rfl (isAgg23 _) rfl) fun a Z => wlv Z ((ah (i := 0) (sT := 23) (Y.ow 1 rfl) rfl rfl (runUnderlying23 _) (sizeOf27 _) om de).as (v' := slAddr lv1 (0 * 5)) rfl) fun a Z => wlv Z ((ba (Y.ow 1 rfl) (i := 0) de rfl (isAgg27 _) (sizeOf27 _)).as (v' := .agg #[iv ((exR.getD 0 Rec.z).t), iv ((exR.getD 0 Rec.z).kind), iv ((exR.getD 0 Rec.z).a), iv ((exR.getD 0 Rec.z).b), sv ((exR.getD 0 Rec.z).text)]) (by rw [bc Rec.z]; rfl)) fun a Z => ak Z Y de call22 rfl (gE (by rw [ex_eB, ex_eE]) (iK (exR.getD 0 Rec.z) _)) ?_
 clear Z Y
 intro a w4 Z Y
 refine wlm Z rfl fun a Z => wlv Z (aj rfl rfl) fun a Z => wlv Z (aj rfl rfl) fun a Z => wla Z rfl fun a Z => wla Z rfl fun a Z => ab (hK3 _ _ ?_)
 replace Z := Z.p4 0 1 2 3 rfl
 refine aa fun K4 hK4 => wlm Z rfl fun a Z => ak Z Y de call24 rfl (gE (by rw [ex_dX, ex_dE]) (pE exE _ de)) ?_
 clear Z Y
 intro a w5 Z Y
 refine wlm Z rfl fun a Z => wlv Z (aj rfl rfl) fun a Z => wlv Z (aj rfl rfl) fun a Z => aU Z Y de (zeroValue27 _) (cs := [iv 0, iv 0, iv 0, iv 0, .string (⟨#[]⟩)]) rfl ?_
 clear Z Y
 intro a w6 Z Y
 refine aJ 0 Z Y rfl rfl rfl (sizeOf27 _) rfl (lb rfl) (ds := [iv ((exR.getD 0 Rec.z).t), iv ((exR.getD 0 Rec.z).kind), iv ((exR.getD 0 Rec.z).a), iv ((exR.getD 0 Rec.z).b), sv ((exR.getD 0 Rec.z).text)]) rfl rfl ?_
 clear Z Y
 intro a w7 Z Y
 refine wla Z rfl fun a Z => ab (hK4 _ _ <| aa fun K5 hK5 => ?_)
 refine wlv Z (aq (Y.g 1 rfl) rfl (isAgg25 _) (sizeOf25 _)) fun a Z => ak Z Y de call27 rfl (gE (by rw [ex_hB, ex_hE]) (fU 4 lv1 exR _ (Y.ow 2 rfl) (Y.keepb hk0))) ?_
 clear Z Y
 intro a w8 Z Y
 refine wlm Z rfl fun a Z => wlv Z (aj rfl rfl) fun a Z => wlv Z (aj rfl rfl) fun a Z => wla Z rfl fun a Z => wla Z rfl fun a Z => ab (hK5 _ _ ?_)
 replace Z := Z.p8 0 1 2 3 4 5 6 7 rfl
 refine aa fun K6 hK6 => wlv Z (aq (Y.g 1 rfl) rfl (isAgg25 _) (sizeOf25 _)) fun a Z => aN Z Y de call28 rfl (gA 4 lv1 exR 1 _ (Y.ow 2 rfl) de gB de (Y.keepb hk0)) ?_
 clear Z Y
 intro a w9 x4 hp Z Y
 revert x4 hp Z Y; rintro v3 hp Z Y
 clear hp
 replace Y : St No w0 [_, _, _, _] w9 := Y
 refine wlm Z rfl fun a Z => wlv Z (aj rfl rfl) fun a Z => wlv Z (aj rfl rfl) fun a Z => wla Z rfl fun a Z => wla Z rfl fun a Z => ab (hK6 _ _ <| aa fun K7 hK7 => ?_)
 refine wlv Z (aq (Y.g 2 rfl) rfl (isAgg25 _) (sizeOf25 _)) fun a Z => wlv Z (bC (v := .agg #[iv 19, iv 1, iv 0, iv 0, sv ([] : By)]) rfl kr) fun a Z => aN Z Y de call13 rfl (oQ 4 lv1 exR ⟨19, 1, 0, 0, []⟩ _ (Y.ow 3 rfl) de pJ) ?_
 clear Z Y
 intro a w10 x6 hp Z Y
 revert x6 hp Z Y; rintro lv5 hp Z Y
 clear hp
 replace Y : St No w0 [_, _, _, _, _] w10 := Y
 refine wlm Z rfl fun a Z => wlv Z (aj rfl rfl) fun a Z => wlv Z (aj rfl rfl) fun a Z => aU Z Y de (zeroValue25 _) (cs := [iv 0, .slice none 0 0]) rfl ?_
 clear Z Y
 intro a w11 Z Y
 refine bI (us := [iv 0, lv5]) 0 Z Y rfl rfl rfl (sizeOf25 _) (by intro z hz; simp only [List.mem_cons, List.not_mem_nil, or_false] at hz; rcases hz with rfl | rfl <;> first | rfl | exact SlAt.one (Y.ow 1 rfl)) (lb rfl) (ds := [iv 0, lv5]) rfl rfl ?_
 clear Z Y
 intro a w12 Z Y
 refine wla Z rfl fun a Z => ab (hK7 _ _ ?_)
 replace Z := Z.p11 0 1 2 3 4 5 6 7 8 9 11 rfl
 replace Y := Y.k5 62 rfl
 refine aa fun K8 hK8 => wlv Z (aq (Y.g 3 rfl) rfl (isAgg25 _) (sizeOf25 _)) fun a Z => wlv Z (bC (v := .agg #[iv 20, iv 3, iv 0, iv 0, sv ([] : By)]) rfl kr) fun a Z => aN Z Y de call13 rfl (pG (Y.ow 4 rfl)) ?_
 clear Z Y
 intro a w13 x8 hp Z Y
 revert x8 hp Z Y; rintro lv7 hp Z Y
 clear hp
 replace Y : St No w0 [_, _, _, _, _, _] w13 := Y
 refine wlm Z rfl fun a Z => wlv Z (aj rfl rfl) fun a Z => wlv Z (aj rfl rfl) fun a Z => aU Z Y de (zeroValue25 _) (cs := [iv 0, .slice none 0 0]) rfl ?_
 clear Z Y
 intro a w14 Z Y
 refine bI (us := [iv 4, lv7]) 0 Z Y rfl rfl rfl (sizeOf25 _) (by intro z hz; simp only [List.mem_cons, List.not_mem_nil, or_false] at hz; rcases hz with rfl | rfl <;> first | rfl | exact SlAt.one (Y.ow 1 rfl)) (lb rfl) (ds := [iv 4, lv7]) rfl rfl ?_
 clear Z Y
 intro a w15 Z Y
 refine wla Z rfl fun a Z => ab (hK8 _ _ ?_)
 replace Z : Fr 206 [(0, _), (1, _), (2, _), (3, _), (4, _), (5, _), (6, _), (7, _), (8, _), (9, _), (11, _), (12, _), (13, _)] [] a := Z.pick [0, 1, 2, 3, 4, 5, 6, 7, 8, 9, 11, 12, 13]
 replace Y := Y.k6 123 rfl
 refine aa fun K9 hK9 => wlv Z (aq (Y.g 0 rfl) rfl (isAgg25 _) (sizeOf25 _)) fun a Z => aN Z Y de call42 rfl (kq 4 lv7 exM 3 _ (Y.ow 1 rfl) de iH de (Y.keepb hk0)) ?_
 clear Z Y
 intro a w16 x10 hp Z Y
 revert x10 hp Z Y; rintro v9 hp Z Y
 clear hp
 replace Y : St No w0 [_, _, _, _, _, _, _] w16 := Y
 refine wlm Z rfl fun a Z => wlv Z (aj rfl rfl) fun a Z => wlv Z (aj rfl rfl) fun a Z => wla Z rfl fun a Z => wla Z rfl fun a Z => ab (hK9 _ _ <| aa fun K10 hK10 => ?_)
 refine wlv Z (aq (Y.g 1 rfl) rfl (isAgg25 _) (sizeOf25 _)) fun a Z => ak Z Y de call27 rfl (gE (by rw [pB, pK]) (fU 4 lv7 exM _ (Y.ow 2 rfl) (Y.keepb hk0))) ?_
 clear Z Y
 intro a w17 Z Y
 refine wlm Z rfl fun a Z => wlv Z (aj rfl rfl) fun a Z => wlv Z (aj rfl rfl) fun a Z => wla Z rfl fun a Z => wla Z rfl fun a Z => ab (hK10 _ _ ?_)
 replace Z := Z.p17 0 1 2 3 4 5 6 7 8 9 11 12 13 14 15 16 17 rfl
 refine aa fun K11 hK11 => ak Z Y de call35 rfl (oP 1 _ (by unfold i64; omega)) ?_
 clear Z Y
 intro a w18 Z Y
 refine wla Z rfl fun a Z => ab (hK11 _ _ <| aa fun K12 hK12 => ?_)
 refine wlm Z rfl fun a Z => wlv Z (aq (Y.g 5 rfl) rfl (isAgg25 _) (sizeOf25 _)) fun a Z => ak Z Y de call36 rfl (gE (by rw [ex_sB, ex_sE]) (oY (keyR 1) 4 lv1 exR _ (Y.ow 6 rfl) (Y.keepb hk0))) ?_
 clear Z Y
 intro a w19 Z Y
 refine wlm Z rfl fun a Z => wlv Z (aj rfl rfl) fun a Z => wlv Z (aj rfl rfl) fun a Z => wla Z rfl fun a Z => wla Z rfl fun a Z => ab (hK12 _ _ ?_)
 replace Z := Z.p20 0 1 2 3 4 5 6 7 8 9 11 12 13 14 15 16 17 18 19 20 rfl
 refine ac fun K13 hK13 => aa fun K14 hK14 => wlm Z rfl fun a Z => wlv Z ((v_ne rfl rfl).asb (b' := false) rfl) fun a Z => wlm Z rfl fun a Z => wly Z (ai rfl) fun a Z => wly Z ((v_ne rfl rfl).asb (b' := false) rfl) fun a Z => wlv Z (aA rfl rfl) fun a Z => wlm Z rfl fun a Z => wly Z (ai rfl) fun a Z => wly Z ((v_ne rfl rfl).asb (b' := false) rfl) fun a Z => wlv Z (aA rfl rfl) fun a Z => wlm Z rfl fun a Z => wly Z (ai rfl) fun a Z => wly Z ((v_ne rfl rfl).asb (b' := false) rfl) fun a Z => wlv Z (aA rfl rfl) fun a Z => wlm Z rfl fun a Z => wly Z (ai rfl) fun a Z => wly Z ((v_ne rfl rfl).asb (b' := false) rfl) fun a Z => wlv Z (aA rfl rfl) fun a Z => wlm Z rfl fun a Z => wly Z (ai rfl) fun a Z => wly Z ((v_ne rfl rfl).asb (b' := false) rfl) fun a Z => wlv Z (aA rfl rfl) fun a Z => wlm Z rfl fun a Z => wly Z (ai rfl) fun a Z => wly Z ((v_ne rfl rfl).asb (b' := false) rfl) fun a Z => wlv Z (aA rfl rfl) fun a Z => wlm Z rfl fun a Z => wly Z (ai rfl) fun a Z => wly Z ((v_ne rfl rfl).asb (b' := false) rfl) fun a Z => ?_
 refine wlv Z (aA rfl rfl) fun a Z => wlm Z rfl fun a Z => wly Z (ai rfl) fun a Z => wly Z ((v_ne rfl rfl).asb (b' := false) rfl) fun a Z => wlv Z (aA rfl rfl) fun a Z => ab (hK14 _ _ ?_)
 replace Z := Z.p12 0 1 2 4 6 8 12 14 16 18 19 110 rfl
 refine aH Z rfl ?_
 refine ap <| hK13 _ _ <| aa fun K15 hK15 => wlm Z rfl fun a Z => wlv Z (al (v := po w1.hz 1) rfl kr) fun a Z => wlv Z (ld Y 5 rfl rfl (isAgg23 _) rfl) fun a Z => wlv Z ((ah (i := 1) (sT := 23) (Y.ow 6 rfl) rfl rfl (runUnderlying23 _) (sizeOf27 _) om de).as (v' := slAddr lv1 (1 * 5)) rfl) fun a Z => wlv Z ((ba (Y.ow 6 rfl) (i := 1) de rfl (isAgg27 _) (sizeOf27 _)).as (v' := .agg #[iv ((exR.getD 1 Rec.z).t), iv ((exR.getD 1 Rec.z).kind), iv ((exR.getD 1 Rec.z).a), iv ((exR.getD 1 Rec.z).b), sv ((exR.getD 1 Rec.z).text)]) (by rw [bc Rec.z]; rfl)) fun a Z => wlm Z rfl fun a Z => ak Z Y de call29 rfl (bu ex_c1 (bR exRoot 3 1 (exR.getD 1 Rec.z) v3 exPf _ (Y.ow 3 rfl) (by have := ph; omega) (by unfold i64; omega) (Y.keepb hk0))) ?_
 clear Z Y
 intro a w20 Z Y
 refine wlm Z rfl fun a Z => wly Z (ai rfl) fun a Z => wly Z (al (v := po w1.hz 1) rfl kr) fun a Z => wly Z (ld Y 5 rfl rfl (isAgg23 _) rfl) fun a Z => wly Z ((ah (i := 1) (sT := 23) (Y.ow 6 rfl) rfl rfl (runUnderlying23 _) (sizeOf27 _) om de).as (v' := slAddr lv1 (1 * 5)) rfl) fun a Z => wly Z ((ba (Y.ow 6 rfl) (i := 1) de rfl (isAgg27 _) (sizeOf27 _)).as (v' := .agg #[iv ((exR.getD 1 Rec.z).t), iv ((exR.getD 1 Rec.z).kind), iv ((exR.getD 1 Rec.z).a), iv ((exR.getD 1 Rec.z).b), sv ((exR.getD 1 Rec.z).text)]) (by rw [bc Rec.z]; rfl)) fun a Z => wly Z (ai rfl) fun a Z => aQ Z Y de rfl de rfl call29 rfl (bu ex_c2 (bR exRoot 3 0 (exR.getD 1 Rec.z) v3 exPf _ (Y.ow 3 rfl) (by have := ph; omega) (by unfold i64; omega) (Y.keepb hk0))) ?_
 clear Z Y
 intro a w21 Z Y
 refine wly Z ((aX rfl).asb (b' := true) rfl) fun a Z => wlv Z (aB rfl rfl) fun a Z => wlm Z rfl fun a Z => wly Z (ai rfl) fun a Z => wly Z (ai rfl) fun a Z => wly Z (ai rfl) fun a Z => aQ Z Y de rfl de rfl call43 rfl (bu ex_g1 (hC exRoot 3 exNext 4 v9 exQ _ (Y.ow 0 rfl) (by have := o9; omega) (by unfold i64; omega) (Y.keepb hk0))) ?_
 clear Z Y
 intro a w22 Z Y
 refine wlv Z (aB rfl rfl) fun a Z => wlm Z rfl fun a Z => wly Z (ai rfl) fun a Z => wly Z (ai rfl) fun a Z => wly Z (ai rfl) fun a Z => aQ Z Y de rfl de rfl call43 rfl (bu ex_g2 (hC exNext 3 exRoot 4 v9 exQ _ (Y.ow 0 rfl) (by have := o9; omega) (by unfold i64; omega) (Y.keepb hk0))) ?_
 clear Z Y
 intro a w23 Z Y
 refine wly Z ((aX rfl).asb (b' := true) rfl) fun a Z => wlv Z (aB rfl rfl) fun a Z => wla Z rfl fun a Z => ab (hK15 _ _ ?_)
 replace Z := Z.p10 0 1 2 4 6 12 16 18 19 21 rfl
 replace Y := Y.k5 118 rfl
 refine aa fun K16 hK16 => wlm Z rfl fun a Z => wlm Z rfl fun a Z => wlm Z rfl fun a Z => ak Z Y de call37 rfl (bu ex_n1 (eQ (keyR 1) 4 3 exRoot exTag _ (Y.keepb hk0))) ?_
 clear Z Y
 intro a w24 Z Y
 refine wlm Z rfl fun a Z => wly Z (ai rfl) fun a Z => wly Z (ai rfl) fun a Z => wly Z (ai rfl) fun a Z => aQ Z Y de rfl de rfl call37 rfl (bu ex_n2 (eQ (keyR 1) 5 3 exRoot exTag _ (Y.keepb hk0))) ?_
 clear Z Y
 intro a w25 Z Y
 refine wly Z ((aX rfl).asb (b' := true) rfl) fun a Z => wlv Z (aB rfl rfl) fun a Z => wlm Z rfl fun a Z => wly Z (ai rfl) fun a Z => wly Z (ai rfl) fun a Z => wly Z (ai rfl) fun a Z => aQ Z Y de rfl de rfl call37 rfl (bu ex_n3 (eQ (keyR 1) 4 3 exNext exTag _ (Y.keepb hk0))) ?_
 clear Z Y
 intro a w26 Z Y
 refine wly Z ((aX rfl).asb (b' := true) rfl) fun a Z => wlv Z (aB rfl rfl) fun a Z => wla Z rfl fun a Z => ab (hK16 _ _ ?_)
 replace Z := Z.p7 0 1 2 4 12 21 22 rfl
 refine aa fun K17 hK17 => wlv Z (aq (Y.g 3 rfl) rfl (isAgg25 _) (sizeOf25 _)) fun a Z => ak Z Y de call20 rfl (dQ ex_f1 (iz 4 lv1 exR 1 9 _ (Y.ow 4 rfl))) ?_
 clear Z Y
 intro a w27 Z Y
 refine wlv Z ((v_eq rfl rfl).asb (b' := true) rfl) fun a Z => wlm Z rfl fun a Z => wly Z (aq (Y.g 3 rfl) rfl (isAgg25 _) (sizeOf25 _)) fun a Z => aQ Z Y de rfl de rfl call20 rfl (dQ ex_f2 (iz 4 lv1 exR 1 19 _ (Y.ow 4 rfl))) ?_
 clear Z Y
 intro a w28 Z Y
 refine wly Z ((v_eq rfl rfl).asb (b' := true) rfl) fun a Z => wlv Z (aB rfl rfl) fun a Z => wlm Z rfl fun a Z => wly Z (aq (Y.g 3 rfl) rfl (isAgg25 _) (sizeOf25 _)) fun a Z => aQ Z Y de rfl de rfl call20 rfl (dQ ex_f3 (iz 4 lv1 exR 1 20 _ (Y.ow 4 rfl))) ?_
 clear Z Y
 intro a w29 Z Y
 refine wly Z ((v_eq rfl rfl).asb (b' := true) rfl) fun a Z => wlv Z (aB rfl rfl) fun a Z => wla Z rfl fun a Z => ab (hK17 _ _ ?_)
 replace Z := Z.p8 0 1 2 4 12 21 22 23 rfl
 refine ac fun K18 hK18 => aI kr (aL kr fun w30 hxz => ?_)
 replace Y := Y.grow hxz
 refine aK (k := 0) 3 [2] kr kr kr ?_
 refine wlm Z rfl fun a Z => wlv Z ((el rfl rfl).asb (b' := true) (by exact decide_eq_true rfl)) fun a Z => wlm Z rfl fun a Z => ab <| aP (k := 3) 8 [3, 7] Z kr kr kr rfx ?_
 replace Z := Z.p11 0 1 2 4 12 21 22 23 172 173 174 rfl
 refine ay [] (fun i => match i with | _ => fun _ _ => False) 5 [[], [], [1], [2], [3]] [.agg #[iv ((exR.getD 0 Rec.z).t), iv ((exR.getD 0 Rec.z).kind), iv ((exR.getD 0 Rec.z).a), iv ((exR.getD 0 Rec.z).b), sv ((exR.getD 0 Rec.z).text)], po w1.hz 1, lv1, slAddr lv1 (0 * 5), .agg #[iv ((exR.getD 0 Rec.z).t), iv ((exR.getD 0 Rec.z).kind), iv ((exR.getD 0 Rec.z).a), iv ((exR.getD 0 Rec.z).b), sv ((exR.getD 0 Rec.z).text)]] Z Y kr kr kr ?_ ?_ ?_
 ·intro i hi hiq
  match i, hi, hiq with
  | 0, _, _ => exact fun w Y => OpV.g (aq (Y.g 2 rfl) rfl (isAgg27 _) (sizeOf27 _))
  | 1, _, _ => exact fun w Y => OpV.g (al (v := po w1.hz 1) rfl kr)
  | 2, _, _ => exact fun w Y => OpV.g (ld Y 3 rfl rfl (isAgg23 _) rfl)
  | 3, _, _ => exact fun w Y => OpV.g ((ah (i := 0) (sT := 23) (Y.ow 4 rfl) rfl rfl (runUnderlying23 _) (sizeOf27 _) om de).as (v' := slAddr lv1 (0 * 5)) rfl)
  | 4, _, _ => exact fun w Y => OpV.g ((ba (Y.ow 4 rfl) (i := 0) de rfl (isAgg27 _) (sizeOf27 _)).as (v' := .agg #[iv ((exR.getD 0 Rec.z).t), iv ((exR.getD 0 Rec.z).kind), iv ((exR.getD 0 Rec.z).a), iv ((exR.getD 0 Rec.z).b), sv ((exR.getD 0 Rec.z).text)]) (by rw [bc Rec.z]; rfl))
 ·intro i hi
  exact absurd hi sm
 clear Z Y
 intro  a w31 Z Y
 replace Z : Fr 206 [(175, .agg #[iv ((exR.getD 0 Rec.z).t), iv ((exR.getD 0 Rec.z).kind), iv ((exR.getD 0 Rec.z).a), iv ((exR.getD 0 Rec.z).b), sv ((exR.getD 0 Rec.z).text)]), (176, po w1.hz 1), (177, lv1), (178, slAddr lv1 (0 * 5)), (179, .agg #[iv ((exR.getD 0 Rec.z).t), iv ((exR.getD 0 Rec.z).kind), iv ((exR.getD 0 Rec.z).a), iv ((exR.getD 0 Rec.z).b), sv ((exR.getD 0 Rec.z).text)]), (0, _), (1, _), (2, _), (4, _), (12, _), (21, _), (22, _), (23, _), (172, _), (173, _), (174, _)] [] a := Z
 refine ab <| aK (k := 8) 35 [34] kr kr kr ?_
 refine wly Z ((cc rfl rfl kr (eqRec ((exR.getD 0 Rec.z).t) ((exR.getD 0 Rec.z).kind) ((exR.getD 0 Rec.z).a) ((exR.getD 0 Rec.z).b) ((exR.getD 0 Rec.z).text) ((exR.getD 0 Rec.z).t) ((exR.getD 0 Rec.z).kind) ((exR.getD 0 Rec.z).a) ((exR.getD 0 Rec.z).b) ((exR.getD 0 Rec.z).text) _)).asb (b' := true) (by exact decide_eq_true rfl)) fun a Z => wlv Z (aB rfl rfl) fun a Z => wlm Z rfl fun a Z => wly Z (ai rfl) fun a Z => wlv Z (aB rfl rfl) fun a Z => wlm Z rfl fun a Z => wly Z (ai rfl) fun a Z => wlv Z (aB rfl rfl) fun a Z => wlm Z rfl fun a Z => wly Z (ai rfl) fun a Z => wlv Z (aB rfl rfl) fun a Z => wlm Z rfl fun a Z => wly Z (al (v := po w13.hz 1) rfl kr) fun a Z => wly Z (ld Y 0 rfl rfl (isAgg23 _) rfl) fun a Z => wly Z ((aG (sT := 23) (Y.ow 1 rfl) rfl rfl (runUnderlying23 _)).asi (m' := (exM.length : Int)) (by rw [List.length_map])) fun a Z => wly Z ((v_eq rfl rfl).asb (b' := true) de) fun a Z => wlv Z (aB rfl rfl) fun a Z => wlm Z rfl fun a Z => wly Z (aq (Y.g 3 rfl) rfl (isAgg25 _) (sizeOf25 _)) fun a Z => aQ Z Y de rfl de rfl call16 rfl (bu gB (dS 4 lv1 exR _ (Y.ow 4 rfl))) ?_
 clear Z Y
 intro a w32 Z Y
 refine wlv Z (aB rfl rfl) fun a Z => wlm Z rfl fun a Z => wly Z (bC (v := .agg #[iv 100, .slice none 0 0]) rfl kr) fun a Z => aQ Z Y de rfl de rfl call16 rfl (bu n9 (dS 100 (.slice none 0 0) ([] : List Rec) _ (jo _ _))) ?_
 clear Z Y
 intro a w33 Z Y
 refine wly Z ((aX rfl).asb (b' := true) rfl) fun a Z => wlv Z (aB rfl rfl) fun a Z => wla Z rfl fun a Z => ab <| aO kr ?_
 refine hK18 _ _ ?_
 replace Z := Z.p1 0 rfl
 replace Y := Y.k2 18 rfl
 refine aw ?_
 refine ar Z results9 (ae rfl ag) ?_
 exact ⟨by rfl, Y.ext⟩
theorem bM {w : World} {v : Value} {sz : Nat} {els : List (List Value)} (h : SlAt w v sz els) : ∃ a n c, v = .slice a n c := iC h
theorem ly : ∀ {l : List Rin} {t : Int}, 0 ≤ t → t + 30 * l.length ≤ 10000000 → ∀ x ∈ recsR t l, x.t ≤ t + 30 * l.length
 | [], t, h, hb, x, hx => by cases hx
 | y :: l, t, h, hb, x, hx => by
  have h0 := bF y.x0 (n := 30) om
  rw [List.length_cons] at hb ⊢
  have e : (entR (t + pickI y.x0 30) y.x1 y.x2 y.x3 y.x4).t = t + pickI y.x0 30 := by
   show pickI (t + pickI y.x0 30) 10000001 = _
   generalize pickI y.x0 30 = z at *
   unfold pickI
   rw [if_neg om]
   exact Int.emod_eq_of_lt om om
  rw [recsR] at hx
  rcases List.mem_cons.1 hx with rfl | hx
  ·rw [e]; omega
  ·have := ly (l := l) (t := t + pickI y.x0 30) om om x hx
   omega
theorem oA (l : List Rin) : ∀ x ∈ madeR l, x.t ≤ 360 := by
 intro x hx
 have := ly (Int.le_refl 0) (by rw [List.length_take]; omega) x hx
 rw [List.length_take] at this; omega
theorem lS {o : Int} {l : List Rec} (h : logOk o l = true) {k : Nat} (hk : k < l.length) : 0 ≤ (l.getD k Rec.z).t ∧ (l.getD k Rec.z).t ≤ 10000000 := by
 have := cO h _ (aY (d := Rec.z) hk)
 simp only [Rec.ok, inB, Bool.and_eq_true, decide_eq_true_eq] at this; omega
theorem py {owner o : Int} {xv : Value} {ys : List Rin} {l : List Rec} {w0 : World} (ho : pickI owner 100 = o) (hl : madeR ys = l) (hxv : SlAt w0 xv 5 (ys.map Rin.cells)) (hys : ∀ y ∈ ys, y.wt) (how : i64 owner) : Ret Tryd.prog 10 #[iv owner, xv] w0 (MemR w0 (fun v : Value => .agg #[iv o, v]) (fun v => [own v 27 5 (l.map Rec.cells)]) (fun _ => True)) := by
 subst ho; subst hl
 exact mW owner xv ys w0 hxv hys how
theorem lh {t x0 x1 x2 x3 : Int} {r : Rec} {w0 : World} (hr : entR t x0 x1 x2 x3 = r) (ht : i64 t) (h0 : i64 x0) (h1 : i64 x1) (h2 : i64 x2) (h3 : i64 x3) : Ret Tryd.prog 15 #[iv t, .agg #[iv x0, iv x1, iv x2, iv x3]] w0 fun v w => v = .agg #[iv r.t, iv r.kind, iv r.a, iv r.b, sv r.text] ∧ Ext No w0 w := by
 subst hr
 exact ie t x0 x1 x2 x3 w0 ht h0 h1 h2 h3
end Go.Proofs.YtddfkkdanpmnaaaDoor
namespace Go.PW
open Go.RowKit Go.ChangeShapes Go.WideShapes Go.ChangeAt
section
variable {H : Type} {enc : TypeId × Value → H}
theorem jJ {a : Assume} {C : Checked} {os : Os} {f : FuncId} {fn : Func} {s : ChangeSpec} {conds : List PathCond} {apart fresh handsOn again : Bool} {X : World → Array Value → Prop}
  (hX : ∀ (w w' : World) (args : Array Value), w.heap = w'.heap → X w args → X w' args)
  (own : ownKnob C.prog.godebug = none) (started : os.Started) (noInit : C.prog.inits.idxOf? f = none) (hfn : C.prog.funcs[f]? = some fn)
  (witness : ∃ (w : World) (tape : Tape) (i : Input), w.os = os ∧ (w.forCall tape i).Shaped C.prog ∧ i.vars = [] ∧ Input.okWide C.prog (w.forCall tape i) .any w.heap.size f i ∧
   ((s.pre enc C.prog fn conds apart (w.forCall tape i).memory i.args ∧ X (w.forCall tape i).memory i.args) ∧ sizedMet enc C.prog fn (OpenSpec.ofChange s) apart (w.forCall tape i).memory i.args) ∧ a.holds C.prog (lone (Frame.enter C.prog f i.args .normal) [] (w.forCall tape i)))
  (contract : ∀ (W : World) (base : Nat) (args : Array Value) (ds gs : List (DataW H)) (before : List MemPlace),
   (∀ (j : Nat) t v, fn.params[j]? = some t → args[j]? = some v → Value.okWide C.prog W .any base t v) →
   DataW.Whole enc C.prog fn.params.toList s.vars apart W args.toList ds gs before →
   conds.all (PathCond.test C.prog ⟨fn.params.toList, ds, s.plain.varTypes C.prog, gs⟩) = true →
   (DataW.weightsEach C.prog (fn.params.toList ++ s.plain.varTypes C.prog) (ds ++ gs)).all (· ≤ reachBytes) = true → X W args → W.ShapedOpen C.prog →
   Calls C.prog f args W fun e W' => ∃ v, e = .returned v ∧ s.post enc C.prog fn apart fresh handsOn again W args v W') :
  ReturnsInHanded a C os f .any (fun w args => (s.pre enc C.prog fn conds apart w args ∧ X w args) ∧ sizedMet enc C.prog fn (OpenSpec.ofChange s) apart w args) (s.post enc C.prog fn apart fresh handsOn again) := by
 refine returnsInHanded_of_calls own started noInit witness ?_
 intro w tape i _ hsh _ hok hpre _
 obtain ⟨_, _, _, fn', hfn', _, _, _, _, hval⟩ := hok
 have e : fn' = fn := Option.some.inj (hfn'.symm.trans hfn)
 subst e
 obtain ⟨⟨⟨ds, gs, before, hw, hc⟩, hx⟩, hz⟩ := hpre
 have hw' := DataW.Whole.of_heap (w' := w.forCall tape i) rfx hw
 refine (contract (w.forCall tape i) w.heap.size i.args ds gs before hval hw' hc (hz.weights hw) (hX _ _ _ rfx hx) hsh).mono fun e W' ⟨v, he, hp⟩ => ?_
 subst he
 exact ChangeSpec.post_blind hp
end
section
variable {H : Type} {enc : TypeId × Value → H} {P : Program} {w : World} {base : Nat} {spare : Nat → Bool} {held : Bool} {fuel : Nat} {t e : TypeId} {cs : List Value} {x : DataW H × List MemPlace}
theorem kn {n : Nat} {ks : List Int} (ht : P.underlying t = some (.array n e)) (he : P.underlying e = some (.int .u32)) (hc : P.cellsOf e = 1) (hct : P.cellsOf t = n) (h : DataW.trod enc P w base spare held fuel t cs = some x) (hx : x.1 = .agg (ks.map fun k => .lit (.int .u32 k))) : cs = ks.map (fun k => .int .u32 k) := by
 obtain ⟨xs, m, rfl, rfl, hlen, hxs, hel⟩ := DataW.trod_array ht h
 simp only [DataW.agg.injEq] at hx
 have hl : ks.length = n := by
  have h := congrArg List.length hx
  rw [List.length_map, List.length_map] at h
  omega
 refine List.ext_getElem (by rw [hlen, hct, List.length_map, hl]) fun i h1 h2 => ?_
 have hi : i < n := by rw [← hct, ← hlen]; exact h1
 have hi2 : i < ks.length := by omega
 have h3 := hel i hi
 rw [hc, Nat.mul_one, List.getElem?_eq_getElem om] at h3
 obtain ⟨k, e1, e2, _⟩ := DataW.trod_int he h3
 rw [List.drop_eq_getElem_cons h1, List.take_succ_cons] at e1
 injection e1 with e1 _
 have h4 : (xs.map (·.1))[i]? = (ks.map fun k => DataW.lit (H := H) (.int .u32 k))[i]? := by rw [hx]
 rw [List.getElem?_map, List.getElem?_map, List.getElem?_eq_getElem om, List.getElem?_eq_getElem hi2, Option.map_some, Option.map_some, e2] at h4
 simp only [Option.some.injEq, DataW.lit.injEq, Lit.int.injEq, true_and] at h4
 rw [e1, List.getElem_map, h4]
theorem nN (ht : P.underlying t = some .string) (hw : Wt P t x.1) (h : DataW.trod enc P w base spare held fuel t cs = some x) : ∃ s : List UInt8, cs = [sv s] ∧ s.length ≤ 140737488355328 := by
 obtain ⟨s', hcs, hx, hs⟩ := DataW.trod_string ht h
 subst hx
 refine ⟨s'.data.toList, hcs, ?_⟩
 have h1 := hw s'.data.toList.length (by simp [DataW.weights])
 have h2 := reachBytes_lt
 omega
end
end Go.PW
namespace Go.Proofs.YtddfkkdanpmnaaaDoor
open Go.RowKit Go.PW _root_.Go.Proofs.Tryd
open Go.ChangeShapes Go.WideShapes Go.ChangeAt Go.RowKit Go.PW
theorem ownD : ownKnob Tryd.prog.godebug = none := by kernel_rfl
theorem dG : laidOutB Tryd.prog = true := by kernel_rfl
def laid1 : List (String × DataW Unit) := [("dialtone/digest.round", Rows.laid_dialtone_digest_round)]
theorem gRound : Tryd.prog.globalNamed "dialtone/digest.round" = some 0 := by kernel_rfl
theorem tRound : (Tryd.prog.globals[0]?).map (·.type) = some 161 := by kernel_rfl
theorem o7 : (Rows.laid_dialtone_digest_round : DataW Unit) = .agg ((kOf.map fun k => (k.toNat : Int)).map fun k => .lit (.int .u32 k)) := by kernel_rfl
theorem m2 (os : Os) (args : Array Value) : laidMetH Tryd.prog laid1 ((World.doorLaid Tryd.prog 4000 os).forCall (fun _ _ => 0) ⟨#[], args, []⟩).memory :=
 laidMetH_of_parts3 (fuel := 8) (laidMet_of_run' 8 kr kr) kr kr
theorem kh (os : Os) (args : Array Value) : ((World.doorLaid Tryd.prog 4000 os).forCall (fun _ _ => 0) ⟨#[], args, []⟩).Shaped Tryd.prog := World.shaped_of_RefB kr kr
theorem pU {W : World} (h : laidMetH Tryd.prog laid1 W) (hs : W.ShapedOpen Tryd.prog) : (blk 0 (kOf.map wv) 161).ok W := by
 rw [MakeChecks.laidMetH_plain _ _ _ kr] at h
 obtain ⟨ps, ⟨g0, t0, cs0, f0, p0, q0, hg0, ht0, hv0, hd0, _, _⟩, _, _⟩ := h
 obtain rfl := Option.some.inj (gRound.symm.trans hg0)
 obtain rfl := Option.some.inj (tRound.symm.trans ht0)
 obtain ⟨cs, hcs, _, _⟩ := hs.1 0 (List.replicate 64 (.int .u32 0)).toArray 161 (of_decide_eq_true kr) kr
 have e : cs0 = cs := by
  have := hv0
  simp only [World.var?, gRound, Option.bind_some, hcs, Option.some.injEq] at this
  exact this.symm
 subst e
 have hw := kn (ks := kOf.map fun k => (k.toNat : Int)) underlying161 underlying133 kr kr hd0 o7
 have hl : cs0 = (kOf.map wv).toArray := by
  apply Array.toList_inj.1
  rw [hw, List.map_map]; rfl
 show W.heap[0]? = some (.cells (kOf.map wv).toArray 161)
 rw [← hl]; exact hcs
open Go.ChangeShapes Go.WideShapes Go.ChangeAt
section
variable {H : Type} {enc : TypeId × Value → H} {W : World} {base b0 : Nat} {sp : Nat → Bool} {hd : Bool} {v : Value} {d : DataW H} {ps : List MemPlace} {r : Reach}
theorem kL {n : Int} (h : Go.PW.i64 n) : i64 n := h
theorem len5 {α : Type} {l : List α} (h : l.length = 5) : ∃ a0 a1 a2 a3 a4, l = [a0, a1, a2, a3, a4] := by
 match l, h with
 | [a0, a1, a2, a3, a4], _ => exact ⟨_, _, _, _, _, rfl⟩
theorem nO {fuel : Nat} {cs : List Value} {x : DataW H × List MemPlace} (hl : cs.length = 5) (hw : Wt Tryd.prog 75 x.1) (h : DataW.trod enc Tryd.prog W base sp hd fuel 75 cs = some x) :
  ∃ (n0 : Int) (n1 : Int) (n2 : Int) (n3 : Int) (n4 : Int), cs = [iv n0, iv n1, iv n2, iv n3, iv n4] ∧ (i64 n0) ∧ (i64 n1) ∧ (i64 n2) ∧ (i64 n3) ∧ (i64 n4) := by
 obtain ⟨zs, hz, he, hy⟩ := g8 5 underlying75 underlying3 kr h hl
 obtain ⟨n0, n1, n2, n3, n4, rfl⟩ := len5 hz
 exact ⟨n0, n1, n2, n3, n4, he, hy n0 sm, hy n1 sm, hy n2 sm, hy n3 sm, hy n4 sm⟩
theorem l9 {fuel : Nat} {v : Value} {x : DataW H × List MemPlace} (hok : Cell.okWide Tryd.prog W r b0 22 v) (hw : Wt Tryd.prog 22 x.1) (h : DataW.trod enc Tryd.prog W base sp hd fuel 22 [v] = some x) :
  ∃ xs : List Rin, SlAt W v 5 (xs.map Rin.cells) ∧ ∀ a ∈ xs, a.wt := by
 obtain ⟨els, h1, h2⟩ := lu 5 underlying22 kr de (of_decide_eq_true kr) hok hw h
 exact nl (f := Rin.cells) (q := fun a => a.wt) h1 fun i hi => by
  obtain ⟨n, y, hy, hwy⟩ := h2 i hi
  obtain ⟨n0, n1, n2, n3, n4, he, hf⟩ := nO (h1.1 _ (List.getElem_mem hi)) hwy hy
  exact ⟨⟨n0, n1, n2, n3, n4⟩, he, hf⟩
theorem ky (hval : Value.okWide Tryd.prog W r b0 22 v) (hw : Wt Tryd.prog 22 d) (hd0 : DataW.Trod enc Tryd.prog W base sp hd 22 v d ps) :
  ∃ xs : List Rin, SlAt W v 5 (xs.map Rin.cells) ∧ ∀ a ∈ xs, a.wt := by
 obtain ⟨fuel, hf⟩ := hd0
 have hcs : v.cells.toList = [v] := by
  rcases dK (by rw [underlying22]) hval with h
  have : ∃ a n c, v = .slice a n c := by
   unfold Cell.okWide Cell.ok at h
   rw [underlying22] at h
   cases v <;> simp_all
  obtain ⟨a, n, c, rfl⟩ := this
  rfl
 rw [hcs] at hf
 exact l9 (dK (by rw [underlying22]) hval) hw hf
theorem len4 {α : Type} {l : List α} (h : l.length = 4) : ∃ a0 a1 a2 a3, l = [a0, a1, a2, a3] := by
 match l, h with
 | [a0, a1, a2, a3], _ => exact ⟨_, _, _, _, rfl⟩
theorem mJ {fuel : Nat} {cs : List Value} {x : DataW H × List MemPlace} (hl : cs.length = 4) (hw : Wt Tryd.prog 37 x.1) (h : DataW.trod enc Tryd.prog W base sp hd fuel 37 cs = some x) :
  ∃ (n0 : Int) (n1 : Int) (n2 : Int) (n3 : Int), cs = [iv n0, iv n1, iv n2, iv n3] ∧ (i64 n0) ∧ (i64 n1) ∧ (i64 n2) ∧ (i64 n3) := by
 obtain ⟨zs, hz, he, hy⟩ := g8 4 underlying37 underlying3 kr h hl
 obtain ⟨n0, n1, n2, n3, rfl⟩ := len4 hz
 exact ⟨n0, n1, n2, n3, he, hy n0 sm, hy n1 sm, hy n2 sm, hy n3 sm⟩
theorem kD (hval : Value.okWide Tryd.prog W r b0 37 v) (hw : Wt Tryd.prog 37 d) (hd0 : DataW.Trod enc Tryd.prog W base sp hd 37 v d ps) :
  ∃ (n0 : Int) (n1 : Int) (n2 : Int) (n3 : Int), v = .agg #[iv n0, iv n1, iv n2, iv n3] ∧ (i64 n0) ∧ (i64 n1) ∧ (i64 n2) ∧ (i64 n3) := by
 obtain ⟨csA, rfl, hsz, hrow⟩ := jM kr hval
 obtain ⟨fuel, hf⟩ := hd0
 have hc : Tryd.prog.cellsOf 37 = 4 := by kernel_rfl
 obtain ⟨n0, n1, n2, n3, he, g0, g1, g2, g3⟩ := mJ (cs := csA.toList) (by rw [Array.length_toList, hsz, hc]) hw hf
 obtain rfl : csA = #[iv n0, iv n1, iv n2, iv n3] := by
  have he2 : csA.toList = [iv n0, iv n1, iv n2, iv n3] := he
  cases csA; simp only at he2; rw [he2]
 exact ⟨n0, n1, n2, n3, rfl, g0, g1, g2, g3⟩
theorem lV {fuel : Nat} {v : Value} {x : DataW H × List MemPlace} (hok : Cell.okWide Tryd.prog W r b0 45 v) (hw : Wt Tryd.prog 45 x.1) (h : DataW.trod enc Tryd.prog W base sp hd fuel 45 [v] = some x) :
  ∃ xs : List By, SlAt W v 1 (xs.map (fun s : By => [sv s])) ∧ ∀ a ∈ xs, True := by
 obtain ⟨els, h1, h2⟩ := lu 1 underlying45 kr de (of_decide_eq_true kr) hok hw h
 exact nl (f := fun s : By => [sv s]) (q := fun a => True) h1 fun i hi => by
  obtain ⟨n, y, hy, hwy⟩ := h2 i hi
  obtain ⟨s0, he, f0⟩ := nN underlying9 hwy hy
  exact ⟨s0, he, trivial⟩
theorem kv (hval : Value.okWide Tryd.prog W r b0 45 v) (hw : Wt Tryd.prog 45 d) (hd0 : DataW.Trod enc Tryd.prog W base sp hd 45 v d ps) :
  ∃ xs : List By, SlAt W v 1 (xs.map (fun s : By => [sv s])) ∧ ∀ a ∈ xs, True := by
 obtain ⟨fuel, hf⟩ := hd0
 have hcs : v.cells.toList = [v] := by
  rcases dK (by rw [underlying45]) hval with h
  have : ∃ a n c, v = .slice a n c := by
   unfold Cell.okWide Cell.ok at h
   rw [underlying45] at h
   cases v <;> simp_all
  obtain ⟨a, n, c, rfl⟩ := this
  rfl
 rw [hcs] at hf
 exact lV (dK (by rw [underlying45]) hval) hw hf
end
end Go.Proofs.YtddfkkdanpmnaaaDoor
