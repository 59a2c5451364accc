/- Texts joined: ClaimJ, ClaimZ, ClaimBk, ClaimLw, ClaimLm, ClaimOp. -/
import Derived.Test.YtncbabejopafjaaGreatDoorPOF
import Derived.Test.YtncbabejopafjaaGreatDoorPOG
import Derived.Test.YtncbabejopafjaaGreatDoorPOA
import Derived.Test.YtncbabejopafjaaGreatDoorPOD
import Derived.Test.YtncbabejopafjaaGreatDoorPOE
import Derived.Test.YtncbabejopafjaaGreatDoorPOB
set_option linter.unusedVariables false
set_option linter.unusedSimpArgs false
set_option maxRecDepth 4000
set_option maxHeartbeats 4000000
namespace Go.Proofs.YtncbabejopafjaaGreatDoor.K16
open Go.RowKit Go.PW _root_.Go.Proofs.Tryz
theorem kc (rl : Rul) (cl : Clm) (sv : Value) (l : List Evt) (w0 : World) (hsv : SlAt w0 sv 3 (l.map Evt.cells)) (hv : valid rl cl l = false) :
  Ret Tryz.prog 43 #[.agg #[iv rl.answer, iv rl.cooling, iv rl.settle, iv rl.reverse], .agg #[iv cl.number, iv cl.frm, iv cl.to, iv cl.holder, iv cl.asked, .bool cl.backed], sv] w0 fun v w => v = .tuple #[.pointer none, iv 160] ∧ Ext No w0 w := by
 refine aD func43 rfl ntmps43 (lb rfl) fun a Z => ?_
 replace Z := Z.p3 0 1 2 rfl
 replace Y : St No w0 [] w0 := St.init w0
 refine aa fun K1 hK1 => aG Z Y de rfl (cs := [iv rl.answer, iv rl.cooling, iv rl.settle, iv rl.reverse]) rfl ?_
 clear Z Y
 intro a w1 Z Y
 refine aG Z Y de rfl (cs := [iv cl.number, iv cl.frm, iv cl.to, iv cl.holder, iv cl.asked, .bool cl.backed]) rfl ?_
 clear Z Y
 intro a w2 Z Y
 refine wla Z rfl fun a Z => wla Z rfl fun a Z => ab (hK1 _ _ <| ah fun K2 hK2 => ?_)
 refine aa fun K3 hK3 => wlv Z (ai (Y.g 1 rfl) rfl (isAgg29 _) (sizeOf29 _)) fun a Z => wlv Z (ai (Y.g 0 rfl) rfl (isAgg31 _) (sizeOf31 _)) fun a Z => wlm Z rfl fun a Z => aA Z Y de call24 rfl ((hv ▸ dL rl cl sv l _ (Y.arg hsv) : Ret Tryz.prog 24 _ _ fun v w => v = .bool false ∧ _)) ?_
 clear Z Y
 intro a w3 Z Y
 refine wlv Z ((bu rfl).asb (b' := true) rfl) fun a Z => ab (hK3 _ _ ?_)
 replace Z := Z.p5 3 4 6 7 12 rfl
 refine aN Z rfl ?_
 refine aa fun K4 hK4 => wla Z rfl fun a Z => wla Z rfl fun a Z => ab (hK4 _ _ <| ap ?_)
 refine aj Z results43 (ae rfl (ae rfl ag)) ?_
 exact ⟨by rfl, Y.ext⟩
theorem lD (rl : Rul) (cl : Clm) (sv : Value) (l : List Evt) (t : Int) (w0 : World) (hsv : SlAt w0 sv 3 (l.map Evt.cells)) (hv : valid rl cl l = false) :
  Ret Tryz.prog 20 #[.agg #[iv rl.answer, iv rl.cooling, iv rl.settle, iv rl.reverse], .agg #[iv cl.number, iv cl.frm, iv cl.to, iv cl.holder, iv cl.asked, .bool cl.backed], sv, iv t] w0 fun v w => v = .tuple #[.agg #[iv 0, iv 0, iv 0], iv 160] ∧ Ext No w0 w := by
 refine aD func20 rfl ntmps20 (lb rfl) fun a Z => ?_
 replace Z := Z.p4 0 1 2 3 rfl
 replace Y : St No w0 [] w0 := St.init w0
 refine aa fun K1 hK1 => aG Z Y de rfl (cs := [iv rl.answer, iv rl.cooling, iv rl.settle, iv rl.reverse]) rfl ?_
 clear Z Y
 intro a w1 Z Y
 refine aG Z Y de rfl (cs := [iv cl.number, iv cl.frm, iv cl.to, iv cl.holder, iv cl.asked, .bool cl.backed]) rfl ?_
 clear Z Y
 intro a w2 Z Y
 refine aG Z Y de rfl (cs := [iv t]) rfl ?_
 clear Z Y
 intro a w3 Z Y
 refine aH Z Y de (zeroValue75 _) (cs := [iv 0, iv 0, iv 0]) rfl ?_
 clear Z Y
 intro a w4 Z Y
 refine wla Z rfl fun a Z => ab (hK1 _ _ <| aa fun K2 hK2 => ?_)
 refine wlv Z (ai (Y.g 3 rfl) rfl (isAgg29 _) (sizeOf29 _)) fun a Z => wlv Z (ai (Y.g 2 rfl) rfl (isAgg31 _) (sizeOf31 _)) fun a Z => wlm Z rfl fun a Z => aA Z Y de call43 rfl (kc rl cl sv l _ (Y.arg hsv) hv) ?_
 clear Z Y
 intro a w5 Z Y
 refine wlm Z rfl fun a Z => wlv Z (aw rfl rfl) fun a Z => wlv Z (aw rfl rfl) fun a Z => wla Z rfl fun a Z => wla Z rfl fun a Z => ab (hK2 _ _ ?_)
 replace Z := Z.p7 2 5 7 8 9 10 11 rfl
 replace Y := Y.k3 7 rfl
 refine ah fun K3 hK3 => aa fun K4 hK4 => wlm Z rfl fun a Z => wlv Z ((v_ne rfl rfl).asb (b' := true) rfl) fun a Z => wlm Z rfl fun a Z => wln Z fun a Z => wln Z fun a Z => wln Z fun a Z => wlv Z (au rfl rfl) fun a Z => ab (hK4 _ _ ?_)
 replace Z := Z.p7 2 5 7 8 9 10 27 rfl
 refine aN Z rfl ?_
 refine aa fun K5 hK5 => wlv Z (aY (v := .agg #[iv 0, iv 0, iv 0]) rfl kr) fun a Z => am 0 Z Y rfl rfl rfl (sizeOf75 _) rfl (lb rfl) (ds := [iv 0, iv 0, iv 0]) rfl rfl ?_
 clear Z Y
 intro a w6 Z Y
 refine wla Z rfl fun a Z => ab (hK5 _ _ <| ap ?_)
 refine aj Z results20 (aB rfl (bB (Y.g 0 rfl) (isAgg75 _) (sizeOf75 _)) (ae rfl ag)) ?_
 exact ⟨by rfl, Y.ext⟩
theorem gG (rl : Rul) (cl : Clm) (sv : Value) (l : List Evt) (t : Int) (w0 : World) (hsv : SlAt w0 sv 3 (l.map Evt.cells)) (h : valid rl cl l = false ∨ isIn t 0 20000000 = false) : Ret Tryz.prog 20 #[.agg #[iv rl.answer, iv rl.cooling, iv rl.settle, iv rl.reverse], .agg #[iv cl.number, iv cl.frm, iv cl.to, iv cl.holder, iv cl.asked, .bool cl.backed], sv, iv t] w0 fun v w => v = .tuple #[.agg #[iv 0, iv 0, iv 0], iv 160] ∧ Ext No w0 w := by
 cases hv : valid rl cl l with
 | false => exact lD rl cl sv l t w0 hsv hv
 | true => exact iP rl cl sv l t w0 hsv hv (h.resolve_left (by rw [hv]; decide))
theorem oS (rl : Rul) (cl : Clm) (sv : Value) (l : List Evt) (t : Int) (w0 : World) (hsv : SlAt w0 sv 3 (l.map Evt.cells)) (h : valid rl cl l = false ∨ isIn t 0 20000000 = false) :
  Ret Tryz.prog 19 #[.agg #[iv rl.answer, iv rl.cooling, iv rl.settle, iv rl.reverse], .agg #[iv cl.number, iv cl.frm, iv cl.to, iv cl.holder, iv cl.asked, .bool cl.backed], sv, iv t] w0 fun v w => v = .tuple #[iv 0, iv 160] ∧ Ext No w0 w := by
 refine aD func19 rfl ntmps19 (lb rfl) fun a Z => ?_
 replace Z := Z.p4 0 1 2 3 rfl
 replace Y : St No w0 [] w0 := St.init w0
 refine aa fun K1 hK1 => aG Z Y de rfl (cs := [iv rl.answer, iv rl.cooling, iv rl.settle, iv rl.reverse]) rfl ?_
 clear Z Y
 intro a w1 Z Y
 refine aG Z Y de rfl (cs := [iv cl.number, iv cl.frm, iv cl.to, iv cl.holder, iv cl.asked, .bool cl.backed]) rfl ?_
 clear Z Y
 intro a w2 Z Y
 refine wla Z rfl fun a Z => wla Z rfl fun a Z => ab (hK1 _ _ <| aa fun K2 hK2 => ?_)
 refine wlv Z (ai (Y.g 1 rfl) rfl (isAgg29 _) (sizeOf29 _)) fun a Z => wlv Z (ai (Y.g 0 rfl) rfl (isAgg31 _) (sizeOf31 _)) fun a Z => wlm Z rfl fun a Z => wlm Z rfl fun a Z => aA Z Y de call20 rfl (gG rl cl sv l t _ (Y.arg hsv) h) ?_
 clear Z Y
 intro a w3 Z Y
 refine wlm Z rfl fun a Z => wlv Z (aw rfl rfl) fun a Z => wlv Z (aw rfl rfl) fun a Z => aH Z Y de (zeroValue75 _) (cs := [iv 0, iv 0, iv 0]) rfl ?_
 clear Z Y
 intro a w4 Z Y
 refine am 0 Z Y rfl rfl rfl (sizeOf75 _) rfl (lb rfl) (ds := [iv 0, iv 0, iv 0]) rfl rfl ?_
 clear Z Y
 intro a w5 Z Y
 refine wla Z rfl fun a Z => ab (hK2 _ _ ?_)
 replace Z := Z.p5 5 8 9 10 11 rfl
 replace Y := Y.k2 3 rfl
 refine ah fun K3 hK3 => ay <| aa fun K4 hK4 => wlm Z rfl fun a Z => wlv Z ((v_ne rfl rfl).asb (b' := true) rfl) fun a Z => wla Z rfl fun a Z => ab (hK4 _ _ <| aN Z rfl ?_)
 refine aa fun K5 hK5 => wlm Z rfl fun a Z => wla Z rfl fun a Z => wla Z rfl fun a Z => ab (hK5 _ _ ?_)
 replace Z := Z.p3 5 8 9 rfl
 replace Y := Y.k1 2 rfl
 refine ap ?_
 refine aj Z results19 (ae rfl (ae rfl ag)) ?_
 exact ⟨by rfl, Y.ext⟩
theorem px (rl : Rul) (cl : Clm) (sv : Value) (l : List Evt) (w0 : World) (hsv : SlAt w0 sv 3 (l.map Evt.cells)) (hv : valid rl cl l = false) :
  Ret Tryz.prog 17 #[.agg #[iv rl.answer, iv rl.cooling, iv rl.settle, iv rl.reverse], .agg #[iv cl.number, iv cl.frm, iv cl.to, iv cl.holder, iv cl.asked, .bool cl.backed], sv] w0 (MemR w0 (fun v : Value => .tuple #[v, iv 160]) (fun v => [own v 3 1 []]) (fun _ => True)) := by
 refine aD func17 rfl ntmps17 (lb rfl) fun a Z => ?_
 replace Z := Z.p3 0 1 2 rfl
 replace Y : St No w0 [] w0 := St.init w0
 refine aa fun K1 hK1 => aG Z Y de rfl (cs := [iv rl.answer, iv rl.cooling, iv rl.settle, iv rl.reverse]) rfl ?_
 clear Z Y
 intro a w1 Z Y
 refine aG Z Y de rfl (cs := [iv cl.number, iv cl.frm, iv cl.to, iv cl.holder, iv cl.asked, .bool cl.backed]) rfl ?_
 clear Z Y
 intro a w2 Z Y
 refine wla Z rfl fun a Z => wla Z rfl fun a Z => ab (hK1 _ _ <| aa fun K2 hK2 => ?_)
 refine wlv Z (ai (Y.g 1 rfl) rfl (isAgg29 _) (sizeOf29 _)) fun a Z => wlv Z (ai (Y.g 0 rfl) rfl (isAgg31 _) (sizeOf31 _)) fun a Z => wlm Z rfl fun a Z => aA Z Y de call43 rfl (kc rl cl sv l _ (Y.arg hsv) hv) ?_
 clear Z Y
 intro a w3 Z Y
 refine wlm Z rfl fun a Z => wlv Z (aw rfl rfl) fun a Z => wlv Z (aw rfl rfl) fun a Z => wla Z rfl fun a Z => wla Z rfl fun a Z => ab (hK2 _ _ ?_)
 replace Z := Z.p5 2 6 7 8 9 rfl
 replace Y : St No w0 [] w3 := Y.mask [false, false]
 refine ah fun K3 hK3 => aa fun K4 hK4 => wlm Z rfl fun a Z => wlv Z ((v_ne rfl rfl).asb (b' := true) rfl) fun a Z => ab (hK4 _ _ <| aN Z rfl ?_)
 refine aa fun K5 hK5 => wlm Z rfl fun a Z => wla Z rfl fun a Z => wla Z rfl fun a Z => ab (hK5 _ _ <| ap ?_)
 refine aj Z results17 (ae rfl (ae rfl ag)) ?_
 exact ⟨.slice none 0 0, rfl, trivial, Y.ext, St.out (E := [own (.slice none 0 0) 3 1 []]) (H := []) (Y.mask []).nil_own⟩
theorem j5 (rl : Rul) (cl : Clm) (sv : Value) (l : List Evt) (w0 : World) (hsv : SlAt w0 sv 3 (l.map Evt.cells)) (hv : valid rl cl l = false) :
  Ret Tryz.prog 18 #[.agg #[iv rl.answer, iv rl.cooling, iv rl.settle, iv rl.reverse], .agg #[iv cl.number, iv cl.frm, iv cl.to, iv cl.holder, iv cl.asked, .bool cl.backed], sv] w0 (MemR w0 (fun v : Value => .tuple #[v, iv 160]) (fun v => [own v 75 3 []]) (fun _ => True)) := by
 refine aD func18 rfl ntmps18 (lb rfl) fun a Z => ?_
 replace Z := Z.p3 0 1 2 rfl
 replace Y : St No w0 [] w0 := St.init w0
 refine aa fun K1 hK1 => aG Z Y de rfl (cs := [iv rl.answer, iv rl.cooling, iv rl.settle, iv rl.reverse]) rfl ?_
 clear Z Y
 intro a w1 Z Y
 refine aG Z Y de rfl (cs := [iv cl.number, iv cl.frm, iv cl.to, iv cl.holder, iv cl.asked, .bool cl.backed]) rfl ?_
 clear Z Y
 intro a w2 Z Y
 refine wla Z rfl fun a Z => wla Z rfl fun a Z => ab (hK1 _ _ <| aa fun K2 hK2 => ?_)
 refine wlv Z (ai (Y.g 1 rfl) rfl (isAgg29 _) (sizeOf29 _)) fun a Z => wlv Z (ai (Y.g 0 rfl) rfl (isAgg31 _) (sizeOf31 _)) fun a Z => wlm Z rfl fun a Z => aA Z Y de call43 rfl (kc rl cl sv l _ (Y.arg hsv) hv) ?_
 clear Z Y
 intro a w3 Z Y
 refine wlm Z rfl fun a Z => wlv Z (aw rfl rfl) fun a Z => wlv Z (aw rfl rfl) fun a Z => wla Z rfl fun a Z => wla Z rfl fun a Z => ab (hK2 _ _ ?_)
 replace Z := Z.p5 2 6 7 8 9 rfl
 replace Y : St No w0 [] w3 := Y.mask [false, false]
 refine ah fun K3 hK3 => aa fun K4 hK4 => wlm Z rfl fun a Z => wlv Z ((v_ne rfl rfl).asb (b' := true) rfl) fun a Z => ab (hK4 _ _ <| aN Z rfl ?_)
 refine aa fun K5 hK5 => wlm Z rfl fun a Z => wla Z rfl fun a Z => wla Z rfl fun a Z => ab (hK5 _ _ <| ap ?_)
 refine aj Z results18 (ae rfl (ae rfl ag)) ?_
 exact ⟨.slice none 0 0, rfl, trivial, Y.ext, St.out (E := [own (.slice none 0 0) 75 3 []]) (H := []) (Y.mask []).nil_own⟩
theorem jU (rl : Rul) (cl : Clm) (sv : Value) (l : List Evt) (t : Int) (w0 : World) (hsv : SlAt w0 sv 3 (l.map Evt.cells)) (hv : valid rl cl l = false) :
  Ret Tryz.prog 27 #[.agg #[iv rl.answer, iv rl.cooling, iv rl.settle, iv rl.reverse], .agg #[iv cl.number, iv cl.frm, iv cl.to, iv cl.holder, iv cl.asked, .bool cl.backed], sv, iv t] w0 fun v w => v = .tuple #[.agg #[iv 0, iv 0, iv 0], iv 160] ∧ Ext No w0 w := by
 refine aD func27 rfl ntmps27 (lb rfl) fun a Z => ?_
 replace Z := Z.p4 0 1 2 3 rfl
 replace Y : St No w0 [] w0 := St.init w0
 refine aa fun K1 hK1 => aG Z Y de rfl (cs := [iv rl.answer, iv rl.cooling, iv rl.settle, iv rl.reverse]) rfl ?_
 clear Z Y
 intro a w1 Z Y
 refine aG Z Y de rfl (cs := [iv cl.number, iv cl.frm, iv cl.to, iv cl.holder, iv cl.asked, .bool cl.backed]) rfl ?_
 clear Z Y
 intro a w2 Z Y
 refine aH Z Y de (zeroValue75 _) (cs := [iv 0, iv 0, iv 0]) rfl ?_
 clear Z Y
 intro a w3 Z Y
 refine wla Z rfl fun a Z => ab (hK1 _ _ <| ah fun K2 hK2 => ?_)
 refine aa fun K3 hK3 => wlv Z (ai (Y.g 2 rfl) rfl (isAgg29 _) (sizeOf29 _)) fun a Z => wlv Z (ai (Y.g 1 rfl) rfl (isAgg31 _) (sizeOf31 _)) fun a Z => wlm Z rfl fun a Z => aA Z Y de call32 rfl ((hv ▸ rvalid_ok rl cl sv l _ (Y.arg hsv) : Ret Tryz.prog 32 _ _ fun v w => v = .bool false ∧ _)) ?_
 clear Z Y
 intro a w4 Z Y
 refine wlv Z ((bu rfl).asb (b' := true) rfl) fun a Z => wlm Z rfl fun a Z => wln Z fun a Z => wln Z fun a Z => wln Z fun a Z => wlv Z (au rfl rfl) fun a Z => ab (hK3 _ _ ?_)
 replace Z := Z.p7 2 3 4 5 8 9 21 rfl
 refine aN Z rfl ?_
 refine aa fun K4 hK4 => wlv Z (aY (v := .agg #[iv 0, iv 0, iv 0]) rfl kr) fun a Z => am 0 Z Y rfl rfl rfl (sizeOf75 _) rfl (lb rfl) (ds := [iv 0, iv 0, iv 0]) rfl rfl ?_
 clear Z Y
 intro a w5 Z Y
 refine wla Z rfl fun a Z => ab (hK4 _ _ <| ap ?_)
 refine aj Z results27 (aB rfl (bB (Y.g 0 rfl) (isAgg75 _) (sizeOf75 _)) (ae rfl ag)) ?_
 exact ⟨by rfl, Y.ext⟩
theorem kP (rl : Rul) (cl : Clm) (sv : Value) (l : List Evt) (t : Int) (w0 : World) (hsv : SlAt w0 sv 3 (l.map Evt.cells)) (hv : valid rl cl l = true) (hin : isIn t 0 20000000 = false) :
  Ret Tryz.prog 27 #[.agg #[iv rl.answer, iv rl.cooling, iv rl.settle, iv rl.reverse], .agg #[iv cl.number, iv cl.frm, iv cl.to, iv cl.holder, iv cl.asked, .bool cl.backed], sv, iv t] w0 fun v w => v = .tuple #[.agg #[iv 0, iv 0, iv 0], iv 160] ∧ Ext No w0 w := by
 refine aD func27 rfl ntmps27 (lb rfl) fun a Z => ?_
 replace Z := Z.p4 0 1 2 3 rfl
 replace Y : St No w0 [] w0 := St.init w0
 refine aa fun K1 hK1 => aG Z Y de rfl (cs := [iv rl.answer, iv rl.cooling, iv rl.settle, iv rl.reverse]) rfl ?_
 clear Z Y
 intro a w1 Z Y
 refine aG Z Y de rfl (cs := [iv cl.number, iv cl.frm, iv cl.to, iv cl.holder, iv cl.asked, .bool cl.backed]) rfl ?_
 clear Z Y
 intro a w2 Z Y
 refine aH Z Y de (zeroValue75 _) (cs := [iv 0, iv 0, iv 0]) rfl ?_
 clear Z Y
 intro a w3 Z Y
 refine wla Z rfl fun a Z => ab (hK1 _ _ <| ah fun K2 hK2 => ?_)
 refine aa fun K3 hK3 => wlv Z (ai (Y.g 2 rfl) rfl (isAgg29 _) (sizeOf29 _)) fun a Z => wlv Z (ai (Y.g 1 rfl) rfl (isAgg31 _) (sizeOf31 _)) fun a Z => wlm Z rfl fun a Z => aA Z Y de call32 rfl ((hv ▸ rvalid_ok rl cl sv l _ (Y.arg hsv) : Ret Tryz.prog 32 _ _ fun v w => v = .bool true ∧ _)) ?_
 clear Z Y
 intro a w4 Z Y
 refine wlv Z ((bu rfl).asb (b' := false) rfl) fun a Z => wlm Z rfl fun a Z => wly Z (ak rfl) fun a Z => aF Z Y de rfl de rfl call49 rfl ((hin ▸ cV _ _ _ _ : Ret Tryz.prog 49 _ _ fun v w => v = .bool false ∧ _)) ?_
 clear Z Y
 intro a w5 Z Y
 refine wly Z ((bu rfl).asb (b' := true) rfl) fun a Z => wlv Z (aq rfl rfl) fun a Z => ab (hK3 _ _ ?_)
 replace Z := Z.p7 2 3 4 5 8 9 21 rfl
 refine aN Z rfl ?_
 refine aa fun K4 hK4 => wlv Z (aY (v := .agg #[iv 0, iv 0, iv 0]) rfl kr) fun a Z => am 0 Z Y rfl rfl rfl (sizeOf75 _) rfl (lb rfl) (ds := [iv 0, iv 0, iv 0]) rfl rfl ?_
 clear Z Y
 intro a w6 Z Y
 refine wla Z rfl fun a Z => ab (hK4 _ _ <| ap ?_)
 refine aj Z results27 (aB rfl (bB (Y.g 0 rfl) (isAgg75 _) (sizeOf75 _)) (ae rfl ag)) ?_
 exact ⟨by rfl, Y.ext⟩
theorem gc (rl : Rul) (cl : Clm) (sv : Value) (l : List Evt) (t : Int) (w0 : World) (hsv : SlAt w0 sv 3 (l.map Evt.cells)) (h : valid rl cl l = false ∨ isIn t 0 20000000 = false) : Ret Tryz.prog 27 #[.agg #[iv rl.answer, iv rl.cooling, iv rl.settle, iv rl.reverse], .agg #[iv cl.number, iv cl.frm, iv cl.to, iv cl.holder, iv cl.asked, .bool cl.backed], sv, iv t] w0 fun v w => v = .tuple #[.agg #[iv 0, iv 0, iv 0], iv 160] ∧ Ext No w0 w := by
 cases hv : valid rl cl l with
 | false => exact jU rl cl sv l t w0 hsv hv
 | true => exact kP rl cl sv l t w0 hsv hv (h.resolve_left (by rw [hv]; decide))
theorem m9 (rl : Rul) (cl : Clm) (sv : Value) (l : List Evt) (t : Int) (w0 : World) (hsv : SlAt w0 sv 3 (l.map Evt.cells)) (h : valid rl cl l = false ∨ isIn t 0 20000000 = false) :
  Ret Tryz.prog 28 #[.agg #[iv rl.answer, iv rl.cooling, iv rl.settle, iv rl.reverse], .agg #[iv cl.number, iv cl.frm, iv cl.to, iv cl.holder, iv cl.asked, .bool cl.backed], sv, iv t] w0 fun v w => v = .tuple #[iv 0, iv 160] ∧ Ext No w0 w := by
 refine aD func28 rfl ntmps28 (lb rfl) fun a Z => ?_
 replace Z := Z.p4 0 1 2 3 rfl
 replace Y : St No w0 [] w0 := St.init w0
 refine aa fun K1 hK1 => aG Z Y de rfl (cs := [iv rl.answer, iv rl.cooling, iv rl.settle, iv rl.reverse]) rfl ?_
 clear Z Y
 intro a w1 Z Y
 refine aG Z Y de rfl (cs := [iv cl.number, iv cl.frm, iv cl.to, iv cl.holder, iv cl.asked, .bool cl.backed]) rfl ?_
 clear Z Y
 intro a w2 Z Y
 refine wla Z rfl fun a Z => wla Z rfl fun a Z => ab (hK1 _ _ <| aa fun K2 hK2 => ?_)
 refine wlv Z (ai (Y.g 1 rfl) rfl (isAgg29 _) (sizeOf29 _)) fun a Z => wlv Z (ai (Y.g 0 rfl) rfl (isAgg31 _) (sizeOf31 _)) fun a Z => wlm Z rfl fun a Z => wlm Z rfl fun a Z => aA Z Y de call27 rfl (gc rl cl sv l t _ (Y.arg hsv) h) ?_
 clear Z Y
 intro a w3 Z Y
 refine wlm Z rfl fun a Z => wlv Z (aw rfl rfl) fun a Z => wlv Z (aw rfl rfl) fun a Z => aH Z Y de (zeroValue75 _) (cs := [iv 0, iv 0, iv 0]) rfl ?_
 clear Z Y
 intro a w4 Z Y
 refine am 0 Z Y rfl rfl rfl (sizeOf75 _) rfl (lb rfl) (ds := [iv 0, iv 0, iv 0]) rfl rfl ?_
 clear Z Y
 intro a w5 Z Y
 refine wla Z rfl fun a Z => ab (hK2 _ _ ?_)
 replace Z := Z.p5 5 8 9 10 11 rfl
 replace Y := Y.k2 3 rfl
 refine ah fun K3 hK3 => aa fun K4 hK4 => wlm Z rfl fun a Z => wlv Z ((v_ne rfl rfl).asb (b' := true) rfl) fun a Z => ab (hK4 _ _ <| aN Z rfl ?_)
 refine aa fun K5 hK5 => wla Z rfl fun a Z => wla Z rfl fun a Z => ab (hK5 _ _ <| ap ?_)
 refine aj Z results28 (ae rfl (ae rfl ag)) ?_
 exact ⟨by rfl, Y.ext⟩
theorem oN (rl : Rul) (cl : Clm) (sv : Value) (l : List Evt) (t : Int) (w0 : World) (hsv : SlAt w0 sv 3 (l.map Evt.cells)) (hv : valid rl cl l = true) (hin : isIn t 0 20000000 = true) :
  Ret Tryz.prog 28 #[.agg #[iv rl.answer, iv rl.cooling, iv rl.settle, iv rl.reverse], .agg #[iv cl.number, iv cl.frm, iv cl.to, iv cl.holder, iv cl.asked, .bool cl.backed], sv, iv t] w0 fun v w => v = .tuple #[iv (if (outR rl cl l t).state = 4 ∨ (outR rl cl l t).state = 5 then cl.to else cl.frm), iv 0] ∧ Ext No w0 w := by
 refine aD func28 rfl ntmps28 (lb rfl) fun a Z => ?_
 replace Z := Z.p4 0 1 2 3 rfl
 replace Y : St No w0 [] w0 := St.init w0
 refine aa fun K1 hK1 => aG Z Y de rfl (cs := [iv rl.answer, iv rl.cooling, iv rl.settle, iv rl.reverse]) rfl ?_
 clear Z Y
 intro a w1 Z Y
 refine aG Z Y de rfl (cs := [iv cl.number, iv cl.frm, iv cl.to, iv cl.holder, iv cl.asked, .bool cl.backed]) rfl ?_
 clear Z Y
 intro a w2 Z Y
 refine wla Z rfl fun a Z => wla Z rfl fun a Z => ab (hK1 _ _ <| aa fun K2 hK2 => ?_)
 refine wlv Z (ai (Y.g 1 rfl) rfl (isAgg29 _) (sizeOf29 _)) fun a Z => wlv Z (ai (Y.g 0 rfl) rfl (isAgg31 _) (sizeOf31 _)) fun a Z => wlm Z rfl fun a Z => wlm Z rfl fun a Z => aA Z Y de call27 rfl (fe rl cl sv l t _ (Y.arg hsv) hv hin) ?_
 clear Z Y
 intro a w3 Z Y
 refine wlm Z rfl fun a Z => wlv Z (aw rfl rfl) fun a Z => wlv Z (aw rfl rfl) fun a Z => aH Z Y de (zeroValue75 _) (cs := [iv 0, iv 0, iv 0]) rfl ?_
 clear Z Y
 intro a w4 Z Y
 refine am 0 Z Y rfl rfl rfl (sizeOf75 _) rfl (lb rfl) (ds := [iv ((outR rl cl l t).state), iv ((outR rl cl l t).since), iv ((outR rl cl l t).next)]) rfl rfl ?_
 clear Z Y
 intro a w5 Z Y
 refine wla Z rfl fun a Z => ab (hK2 _ _ ?_)
 replace Z := Z.p5 5 8 9 10 11 rfl
 replace Y := Y.k2 3 rfl
 refine ah fun K3 hK3 => aa fun K4 hK4 => wlm Z rfl fun a Z => wlv Z ((v_ne rfl rfl).asb (b' := false) rfl) fun a Z => ab (hK4 _ _ <| bC Z rfl ?_)
 refine az <| hK3 _ _ <| ah fun K5 hK5 => aa fun K6 hK6 => wlv Z (ac (v := pt w3.hz) rfl kr) fun a Z => wlv Z (ld Y 0 rfl rfl (isAgg3 _) rfl) fun a Z => wlv Z (v_eq rfl rfl) fun a Z => wlm Z rfl fun a Z => ?_
 rcases Bool.eq_false_or_eq_true (decide ((outR rl cl l t).state = 4)) with hb1 | hb1
 ·rw [hb1] at Z
  try simp only [qz] at hb1
  refine wln Z fun a Z => wln Z fun a Z => wln Z fun a Z => wlv Z (au rfl rfl) fun a Z => ab (hK6 _ _ ?_)
  replace Z := Z.p4 5 8 9 29 rfl
  replace Y := Y.k1 2 rfl
  refine aN Z rfl ?_
  refine aa fun K7 hK7 => wlv Z (ac (v := po w1.hz 2) rfl kr) fun a Z => wlv Z (ld Y 0 rfl rfl (isAgg3 _) rfl) fun a Z => wla Z rfl fun a Z => wla Z rfl fun a Z => ab (hK7 _ _ <| ap ?_)
  refine aj Z results28 (ae rfl (ae rfl ag)) ?_
  exact ⟨by simp only [retv]; simp [*], Y.ext⟩
 rw [hb1] at Z
 try simp only [qz] at hb1
 refine wly Z (ac (v := pt w3.hz) rfl kr) fun a Z => wly Z (ld Y 0 rfl rfl (isAgg3 _) rfl) fun a Z => wly Z (v_eq rfl rfl) fun a Z => wlv Z (aq rfl rfl) fun a Z => ab (hK6 _ _ ?_)
 replace Z := Z.p4 5 8 9 29 rfl
 replace Y := Y.k1 2 rfl
 refine ax Z rfl (fun hc2 => ?_) (fun hc2 => ?_)
 ·rw [hc2] at Z
  try simp only [qz] at hc2
  refine aa fun K8 hK8 => wlv Z (ac (v := po w1.hz 2) rfl kr) fun a Z => wlv Z (ld Y 0 rfl rfl (isAgg3 _) rfl) fun a Z => wla Z rfl fun a Z => wla Z rfl fun a Z => ab (hK8 _ _ <| ap ?_)
  refine aj Z results28 (ae rfl (ae rfl ag)) ?_
  exact ⟨by simp only [retv]; simp [*], Y.ext⟩
 rw [hc2] at Z
 try simp only [qz] at hc2
 refine az <| hK5 _ _ <| aa fun K9 hK9 => wlv Z (ac (v := po w1.hz 1) rfl kr) fun a Z => wlv Z (ld Y 0 rfl rfl (isAgg3 _) rfl) fun a Z => wla Z rfl fun a Z => wla Z rfl fun a Z => ab (hK9 _ _ <| ap ?_)
 refine aj Z results28 (ae rfl (ae rfl ag)) ?_
 exact ⟨by simp only [retv]; simp [*], Y.ext⟩
theorem nv (rl : Rul) (cl : Clm) (sv : Value) (l : List Evt) (w0 : World) (hsv : SlAt w0 sv 3 (l.map Evt.cells)) (hv : valid rl cl l = false) :
  Ret Tryz.prog 29 #[.agg #[iv rl.answer, iv rl.cooling, iv rl.settle, iv rl.reverse], .agg #[iv cl.number, iv cl.frm, iv cl.to, iv cl.holder, iv cl.asked, .bool cl.backed], sv] w0 (MemR w0 (fun v : Value => .tuple #[v, iv 160]) (fun v => [own v 3 1 []]) (fun _ => True)) := by
 refine aD func29 rfl ntmps29 (lb rfl) fun a Z => ?_
 replace Z := Z.p3 0 1 2 rfl
 replace Y : St No w0 [] w0 := St.init w0
 refine aa fun K1 hK1 => aG Z Y de rfl (cs := [iv rl.answer, iv rl.cooling, iv rl.settle, iv rl.reverse]) rfl ?_
 clear Z Y
 intro a w1 Z Y
 refine aG Z Y de rfl (cs := [iv cl.number, iv cl.frm, iv cl.to, iv cl.holder, iv cl.asked, .bool cl.backed]) rfl ?_
 clear Z Y
 intro a w2 Z Y
 refine wla Z rfl fun a Z => wla Z rfl fun a Z => ab (hK1 _ _ <| ah fun K2 hK2 => ?_)
 refine aa fun K3 hK3 => wlv Z (ai (Y.g 1 rfl) rfl (isAgg29 _) (sizeOf29 _)) fun a Z => wlv Z (ai (Y.g 0 rfl) rfl (isAgg31 _) (sizeOf31 _)) fun a Z => wlm Z rfl fun a Z => aA Z Y de call32 rfl ((hv ▸ rvalid_ok rl cl sv l _ (Y.arg hsv) : Ret Tryz.prog 32 _ _ fun v w => v = .bool false ∧ _)) ?_
 clear Z Y
 intro a w3 Z Y
 refine wlv Z ((bu rfl).asb (b' := true) rfl) fun a Z => ab (hK3 _ _ ?_)
 replace Z := Z.p6 2 3 4 6 7 14 rfl
 refine aN Z rfl ?_
 refine aa fun K4 hK4 => wla Z rfl fun a Z => wla Z rfl fun a Z => ab (hK4 _ _ <| ap ?_)
 refine aj Z results29 (ae rfl (ae rfl ag)) ?_
 exact ⟨.slice none 0 0, rfl, trivial, Y.ext, St.out (E := [own (.slice none 0 0) 3 1 []]) (H := []) (Y.mask [false, false]).nil_own⟩
theorem jg (rl : Rul) (cl : Clm) (sv : Value) (l : List Evt) (w0 : World) (hsv : SlAt w0 sv 3 (l.map Evt.cells)) (hv : valid rl cl l = false) :
  Ret Tryz.prog 30 #[.agg #[iv rl.answer, iv rl.cooling, iv rl.settle, iv rl.reverse], .agg #[iv cl.number, iv cl.frm, iv cl.to, iv cl.holder, iv cl.asked, .bool cl.backed], sv] w0 (MemR w0 (fun v : Value => .tuple #[v, iv 160]) (fun v => [own v 75 3 []]) (fun _ => True)) := by
 refine aD func30 rfl ntmps30 (lb rfl) fun a Z => ?_
 replace Z := Z.p3 0 1 2 rfl
 replace Y : St No w0 [] w0 := St.init w0
 refine aa fun K1 hK1 => aG Z Y de rfl (cs := [iv rl.answer, iv rl.cooling, iv rl.settle, iv rl.reverse]) rfl ?_
 clear Z Y
 intro a w1 Z Y
 refine aG Z Y de rfl (cs := [iv cl.number, iv cl.frm, iv cl.to, iv cl.holder, iv cl.asked, .bool cl.backed]) rfl ?_
 clear Z Y
 intro a w2 Z Y
 refine wla Z rfl fun a Z => wla Z rfl fun a Z => ab (hK1 _ _ <| ah fun K2 hK2 => ?_)
 refine aa fun K3 hK3 => wlv Z (ai (Y.g 1 rfl) rfl (isAgg29 _) (sizeOf29 _)) fun a Z => wlv Z (ai (Y.g 0 rfl) rfl (isAgg31 _) (sizeOf31 _)) fun a Z => wlm Z rfl fun a Z => aA Z Y de call32 rfl ((hv ▸ rvalid_ok rl cl sv l _ (Y.arg hsv) : Ret Tryz.prog 32 _ _ fun v w => v = .bool false ∧ _)) ?_
 clear Z Y
 intro a w3 Z Y
 refine wlv Z ((bu rfl).asb (b' := true) rfl) fun a Z => ab (hK3 _ _ ?_)
 replace Z := Z.p6 2 3 4 6 7 14 rfl
 refine aN Z rfl ?_
 refine aa fun K4 hK4 => wla Z rfl fun a Z => wla Z rfl fun a Z => ab (hK4 _ _ <| ap ?_)
 refine aj Z results30 (ae rfl (ae rfl ag)) ?_
 exact ⟨.slice none 0 0, rfl, trivial, Y.ext, St.out (E := [own (.slice none 0 0) 75 3 []]) (H := []) (Y.mask [false, false]).nil_own⟩
theorem mR (rl : Rul) (cl : Clm) (sv : Value) (l : List Evt) (w0 : World) (hsv : SlAt w0 sv 3 (l.map Evt.cells)) (hv : valid rl cl l = true) : Ret Tryz.prog 50 #[.agg #[iv rl.answer, iv rl.cooling, iv rl.settle, iv rl.reverse], .agg #[iv cl.number, iv cl.frm, iv cl.to, iv cl.holder, iv cl.asked, .bool cl.backed], sv, iv 40000000] w0 (MemR w0 (fun x : Value × Value => .tuple #[x.1, x.2]) (fun x => [own x.1 75 3 ((bE rl cl l).map Stt.cells), own x.2 3 1 ((voids rl cl l).map fun i => [iv i])]) (fun _ => True)) := by
 have := oI rl cl sv l 40000000 w0 hsv hv de de
 rw [(jw hv).1, (jw hv).2] at this
 exact this
theorem pJ (rl : Rul) (cl : Clm) (sv : Value) (l : List Evt) (w0 : World) (hsv : SlAt w0 sv 3 (l.map Evt.cells)) (hv : valid rl cl l = true) :
  Ret Tryz.prog 29 #[.agg #[iv rl.answer, iv rl.cooling, iv rl.settle, iv rl.reverse], .agg #[iv cl.number, iv cl.frm, iv cl.to, iv cl.holder, iv cl.asked, .bool cl.backed], sv] w0 (MemR w0 (fun v : Value => .tuple #[v, iv 0]) (fun v => [own v 3 1 ((voids rl cl l).map fun i => [iv i])]) (fun _ => True)) := by
 refine aD func29 rfl ntmps29 (lb rfl) fun a Z => ?_
 replace Z := Z.p3 0 1 2 rfl
 replace Y : St No w0 [] w0 := St.init w0
 refine aa fun K1 hK1 => aG Z Y de rfl (cs := [iv rl.answer, iv rl.cooling, iv rl.settle, iv rl.reverse]) rfl ?_
 clear Z Y
 intro a w1 Z Y
 refine aG Z Y de rfl (cs := [iv cl.number, iv cl.frm, iv cl.to, iv cl.holder, iv cl.asked, .bool cl.backed]) rfl ?_
 clear Z Y
 intro a w2 Z Y
 refine wla Z rfl fun a Z => wla Z rfl fun a Z => ab (hK1 _ _ <| ah fun K2 hK2 => ?_)
 refine aa fun K3 hK3 => wlv Z (ai (Y.g 1 rfl) rfl (isAgg29 _) (sizeOf29 _)) fun a Z => wlv Z (ai (Y.g 0 rfl) rfl (isAgg31 _) (sizeOf31 _)) fun a Z => wlm Z rfl fun a Z => aA Z Y de call32 rfl ((hv ▸ rvalid_ok rl cl sv l _ (Y.arg hsv) : Ret Tryz.prog 32 _ _ fun v w => v = .bool true ∧ _)) ?_
 clear Z Y
 intro a w3 Z Y
 refine wlv Z ((bu rfl).asb (b' := false) rfl) fun a Z => ab (hK3 _ _ ?_)
 replace Z := Z.p6 2 3 4 6 7 14 rfl
 refine bC Z rfl ?_
 refine az <| hK2 _ _ <| aa fun K4 hK4 => wlv Z (ai (Y.g 1 rfl) rfl (isAgg29 _) (sizeOf29 _)) fun a Z => wlv Z (ai (Y.g 0 rfl) rfl (isAgg31 _) (sizeOf31 _)) fun a Z => wlm Z rfl fun a Z => bI Z Y de call50 rfl (mR rl cl sv l _ (Y.arg hsv) hv) ?_
 clear Z Y
 intro a w4 x2 hp Z Y
 revert x2 hp Z Y; rintro x1 hp Z Y
 clear hp
 replace Y : St No w0 [_, _, _, _] w4 := Y
 refine wlm Z rfl fun a Z => wlv Z (aw rfl rfl) fun a Z => wlv Z (aw rfl rfl) fun a Z => wla Z rfl fun a Z => wla Z rfl fun a Z => ab (hK4 _ _ ?_)
 replace Z := Z.p3 6 7 9 rfl
 replace Y := Y.k1 2 rfl
 refine aa fun K5 hK5 => wlm Z rfl fun a Z => wla Z rfl fun a Z => wla Z rfl fun a Z => ab (hK5 _ _ <| ap ?_)
 refine aj Z results29 (ae rfl (ae rfl ag)) ?_
 exact ⟨x1.2, rfl, trivial, Y.ext, St.out (E := [own x1.2 3 1 ((voids rl cl l).map fun i => [iv i])]) (H := []) (Y.select [0] de)⟩
theorem j9 (rl : Rul) (cl : Clm) (sv : Value) (l : List Evt) (w0 : World) (hsv : SlAt w0 sv 3 (l.map Evt.cells)) (hv : valid rl cl l = true) :
  Ret Tryz.prog 30 #[.agg #[iv rl.answer, iv rl.cooling, iv rl.settle, iv rl.reverse], .agg #[iv cl.number, iv cl.frm, iv cl.to, iv cl.holder, iv cl.asked, .bool cl.backed], sv] w0 (MemR w0 (fun v : Value => .tuple #[v, iv 0]) (fun v => [own v 75 3 ((bE rl cl l).map Stt.cells)]) (fun _ => True)) := by
 refine aD func30 rfl ntmps30 (lb rfl) fun a Z => ?_
 replace Z := Z.p3 0 1 2 rfl
 replace Y : St No w0 [] w0 := St.init w0
 refine aa fun K1 hK1 => aG Z Y de rfl (cs := [iv rl.answer, iv rl.cooling, iv rl.settle, iv rl.reverse]) rfl ?_
 clear Z Y
 intro a w1 Z Y
 refine aG Z Y de rfl (cs := [iv cl.number, iv cl.frm, iv cl.to, iv cl.holder, iv cl.asked, .bool cl.backed]) rfl ?_
 clear Z Y
 intro a w2 Z Y
 refine wla Z rfl fun a Z => wla Z rfl fun a Z => ab (hK1 _ _ <| ah fun K2 hK2 => ?_)
 refine aa fun K3 hK3 => wlv Z (ai (Y.g 1 rfl) rfl (isAgg29 _) (sizeOf29 _)) fun a Z => wlv Z (ai (Y.g 0 rfl) rfl (isAgg31 _) (sizeOf31 _)) fun a Z => wlm Z rfl fun a Z => aA Z Y de call32 rfl ((hv ▸ rvalid_ok rl cl sv l _ (Y.arg hsv) : Ret Tryz.prog 32 _ _ fun v w => v = .bool true ∧ _)) ?_
 clear Z Y
 intro a w3 Z Y
 refine wlv Z ((bu rfl).asb (b' := false) rfl) fun a Z => ab (hK3 _ _ ?_)
 replace Z := Z.p6 2 3 4 6 7 14 rfl
 refine bC Z rfl ?_
 refine az <| hK2 _ _ <| aa fun K4 hK4 => wlv Z (ai (Y.g 1 rfl) rfl (isAgg29 _) (sizeOf29 _)) fun a Z => wlv Z (ai (Y.g 0 rfl) rfl (isAgg31 _) (sizeOf31 _)) fun a Z => wlm Z rfl fun a Z => bI Z Y de call50 rfl (mR rl cl sv l _ (Y.arg hsv) hv) ?_
 clear Z Y
 intro a w4 x2 hp Z Y
 revert x2 hp Z Y; rintro x1 hp Z Y
 clear hp
 replace Y : St No w0 [_, _, _, _] w4 := Y
 refine wlm Z rfl fun a Z => wlv Z (aw rfl rfl) fun a Z => wlv Z (aw rfl rfl) fun a Z => wla Z rfl fun a Z => wla Z rfl fun a Z => ab (hK4 _ _ ?_)
 replace Z := Z.p3 6 7 8 rfl
 replace Y := Y.k1 1 rfl
 refine aa fun K5 hK5 => wlm Z rfl fun a Z => wla Z rfl fun a Z => wla Z rfl fun a Z => ab (hK5 _ _ <| ap ?_)
 refine aj Z results30 (ae rfl (ae rfl ag)) ?_
 exact ⟨x1.1, rfl, trivial, Y.ext, St.out (E := [own x1.1 75 3 ((bE rl cl l).map Stt.cells)]) (H := []) (Y.select [0] de)⟩
theorem pL (rl : Rul) (cl : Clm) (w0 : World) :
  Ret Tryz.prog 31 #[.agg #[iv rl.answer, iv rl.cooling, iv rl.settle, iv rl.reverse], .agg #[iv cl.number, iv cl.frm, iv cl.to, iv cl.holder, iv cl.asked, .bool cl.backed]] w0 fun v w => v = (if aW rl && bS cl then .tuple #[iv (ends rl cl), iv 0] else .tuple #[iv 0, iv 160]) ∧ Ext No w0 w := by
 refine aD func31 rfl ntmps31 (lb rfl) fun a Z => ?_
 replace Z := Z.p2 0 1 rfl
 replace Y : St No w0 [] w0 := St.init w0
 refine aa fun K1 hK1 => aG Z Y de rfl (cs := [iv rl.answer, iv rl.cooling, iv rl.settle, iv rl.reverse]) rfl ?_
 clear Z Y
 intro a w1 Z Y
 refine aG Z Y de rfl (cs := [iv cl.number, iv cl.frm, iv cl.to, iv cl.holder, iv cl.asked, .bool cl.backed]) rfl ?_
 clear Z Y
 intro a w2 Z Y
 refine wla Z rfl fun a Z => wla Z rfl fun a Z => ab (hK1 _ _ <| ah fun K2 hK2 => ?_)
 refine aa fun K3 hK3 => wlv Z (ai (Y.g 1 rfl) rfl (isAgg29 _) (sizeOf29 _)) fun a Z => aA Z Y de call51 rfl (jt _ _ _ _ _) ?_
 clear Z Y
 intro a w3 Z Y
 refine wlv Z (bu rfl) fun a Z => wlm Z rfl fun a Z => ?_
 rcases Bool.eq_false_or_eq_true (!(aW rl)) with hb1 | hb1
 ·rw [hb1] at Z
  try simp only [qz] at hb1
  refine wln Z fun a Z => wln Z fun a Z => wln Z fun a Z => wlv Z (au rfl rfl) fun a Z => ab (hK3 _ _ ?_)
  replace Z := Z.p5 2 3 4 5 13 rfl
  refine aN Z rfl ?_
  refine aa fun K4 hK4 => wla Z rfl fun a Z => wla Z rfl fun a Z => ab (hK4 _ _ <| ap ?_)
  refine aj Z results31 (ae rfl (ae rfl ag)) ?_
  exact ⟨by simp only [retv]; simp [*, ends], Y.ext⟩
 rw [hb1] at Z
 try simp only [qz] at hb1
 have hhb1 := ck hb1
 refine wly Z (ai (Y.g 0 rfl) rfl (isAgg31 _) (sizeOf31 _)) fun a Z => aF Z Y de rfl de rfl call40 rfl (gn cl _) ?_
 clear Z Y
 intro a w4 Z Y
 refine wly Z (bu rfl) fun a Z => wlv Z (aq rfl rfl) fun a Z => ab (hK3 _ _ ?_)
 replace Z := Z.p5 2 3 4 5 13 rfl
 refine ax Z rfl (fun hc2 => ?_) (fun hc2 => ?_)
 ·rw [hc2] at Z
  try simp only [qz] at hc2
  refine aa fun K5 hK5 => wla Z rfl fun a Z => wla Z rfl fun a Z => ab (hK5 _ _ <| ap ?_)
  refine aj Z results31 (ae rfl (ae rfl ag)) ?_
  exact ⟨by simp only [retv]; simp [*, ends], Y.ext⟩
 rw [hc2] at Z
 try simp only [qz] at hc2
 have hhc2 := co hc2
 refine az <| hK2 _ _ <| aa fun K6 hK6 => wlv Z (ac (v := po w1.hz 4) rfl kr) fun a Z => wlv Z (ld Y 0 rfl rfl (isAgg3 _) rfl) fun a Z => wlv Z (ac (v := pt w0.hz) rfl kr) fun a Z => wlv Z (ld Y 1 rfl rfl (isAgg3 _) rfl) fun a Z => wlv Z (aS rfl rfl ⟨om, om⟩) fun a Z => wlv Z (ci rfl rfl ⟨om, om⟩) fun a Z => wlv Z (ac (v := po w0.hz 2) rfl kr) fun a Z => ?_
 refine wlv Z (ld Y 1 rfl rfl (isAgg3 _) rfl) fun a Z => wlv Z (aS rfl rfl ⟨om, om⟩) fun a Z => wlv Z (ac (v := po w0.hz 1) rfl kr) fun a Z => wlv Z (ld Y 1 rfl rfl (isAgg3 _) rfl) fun a Z => wlv Z (aS rfl rfl ⟨om, om⟩) fun a Z => wlv Z (ac (v := po w0.hz 3) rfl kr) fun a Z => wlv Z (ld Y 1 rfl rfl (isAgg3 _) rfl) fun a Z => wlv Z (aS rfl rfl ⟨om, om⟩) fun a Z => wla Z rfl fun a Z => wla Z rfl fun a Z => ab (hK6 _ _ ?_)
 replace Z := Z.p2 4 5 rfl
 replace Y : St No w0 [] w4 := Y.mask [false, false]
 refine ap ?_
 refine aj Z results31 (ae rfl (ae rfl ag)) ?_
 exact ⟨by simp only [retv]; simp [*, ends], Y.ext⟩
def outT (rl : Rul) (cl : Clm) (l : List Evt) (t : Int) : Stt × Int := if valid rl cl l = true ∧ isIn t 0 20000000 = true then (ce rl cl l t, 0) else (⟨0, 0, 0⟩, 160)
def witT (rl : Rul) (cl : Clm) (l : List Evt) (t : Int) : Int × Int := if valid rl cl l = true ∧ isIn t 0 20000000 = true then (withAt rl cl l t, 0) else (0, 160)
def voidT (rl : Rul) (cl : Clm) (l : List Evt) : List Int × Int := if valid rl cl l = true then (voids rl cl l, 0) else ([], 160)
def lineT (rl : Rul) (cl : Clm) (l : List Evt) : List Stt × Int := if valid rl cl l = true then (bE rl cl l, 0) else ([], 160)
def endT (rl : Rul) (cl : Clm) : Int × Int := if (aW rl && bS cl) = true then (ends rl cl, 0) else (0, 160)
theorem f8 {a b : Bool} (h : ¬ (a = true ∧ b = true)) : a = false ∨ b = false := by cases a <;> cases b <;> simp_all
theorem lG {t : Int} (h : isIn t 0 20000000 = true) : t ≤ 4611686018427387904 := by
 simp only [isIn, Bool.and_eq_true, decide_eq_true_eq] at h; omega
theorem lL (rl : Rul) (cl : Clm) (sv : Value) (l : List Evt) (t : Int) (w0 : World) (hsv : SlAt w0 sv 3 (l.map Evt.cells)) {s : Stt} {e : Int} (h : outT rl cl l t = (s, e)) : Ret Tryz.prog 20 #[.agg #[iv rl.answer, iv rl.cooling, iv rl.settle, iv rl.reverse], .agg #[iv cl.number, iv cl.frm, iv cl.to, iv cl.holder, iv cl.asked, .bool cl.backed], sv, iv t] w0 fun v w => v = .tuple #[s.val, iv e] ∧ Ext No w0 w := by
 unfold outT at h
 split at h
 ·rename_i hc; obtain ⟨hv, hin⟩ := hc; cases h; exact fL rl cl sv l t w0 hsv hv hin
 ·rename_i hc; cases h; exact gG rl cl sv l t w0 hsv (f8 hc)
theorem pM (rl : Rul) (cl : Clm) (sv : Value) (l : List Evt) (t : Int) (w0 : World) (hsv : SlAt w0 sv 3 (l.map Evt.cells)) {k e : Int} (h : witT rl cl l t = (k, e)) : Ret Tryz.prog 19 #[.agg #[iv rl.answer, iv rl.cooling, iv rl.settle, iv rl.reverse], .agg #[iv cl.number, iv cl.frm, iv cl.to, iv cl.holder, iv cl.asked, .bool cl.backed], sv, iv t] w0 fun v w => v = .tuple #[iv k, iv e] ∧ Ext No w0 w := by
 unfold witT at h
 split at h
 ·rename_i hc; obtain ⟨hv, hin⟩ := hc; cases h; unfold withAt; exact kE rl cl sv l t w0 hsv hv hin
 ·rename_i hc; cases h; exact oS rl cl sv l t w0 hsv (f8 hc)
theorem oy (rl : Rul) (cl : Clm) (sv : Value) (l : List Evt) (w0 : World) (hsv : SlAt w0 sv 3 (l.map Evt.cells)) {vo : List Int} {e : Int} (h : voidT rl cl l = (vo, e)) : Ret Tryz.prog 17 #[.agg #[iv rl.answer, iv rl.cooling, iv rl.settle, iv rl.reverse], .agg #[iv cl.number, iv cl.frm, iv cl.to, iv cl.holder, iv cl.asked, .bool cl.backed], sv] w0 (MemR w0 (fun v : Value => .tuple #[v, iv e]) (fun v => [own v 3 1 (vo.map fun i => [iv i])]) (fun _ => True)) := by
 unfold voidT at h
 split at h
 ·rename_i hv; cases h; exact jZ rl cl sv l w0 hsv hv
 ·rename_i hv; cases h; exact px rl cl sv l w0 hsv (by simpa using hv)
theorem ko (rl : Rul) (cl : Clm) (sv : Value) (l : List Evt) (w0 : World) (hsv : SlAt w0 sv 3 (l.map Evt.cells)) {ss : List Stt} {e : Int} (h : lineT rl cl l = (ss, e)) : Ret Tryz.prog 18 #[.agg #[iv rl.answer, iv rl.cooling, iv rl.settle, iv rl.reverse], .agg #[iv cl.number, iv cl.frm, iv cl.to, iv cl.holder, iv cl.asked, .bool cl.backed], sv] w0 (MemR w0 (fun v : Value => .tuple #[v, iv e]) (fun v => [own v 75 3 (ss.map Stt.cells)]) (fun _ => True)) := by
 unfold lineT at h
 split at h
 ·rename_i hv; cases h; exact gJ rl cl sv l w0 hsv hv
 ·rename_i hv; cases h; exact j5 rl cl sv l w0 hsv (by simpa using hv)
theorem oC (rl : Rul) (cl : Clm) (w0 : World) {k e : Int} (h : endT rl cl = (k, e)) : Ret Tryz.prog 15 #[.agg #[iv rl.answer, iv rl.cooling, iv rl.settle, iv rl.reverse], .agg #[iv cl.number, iv cl.frm, iv cl.to, iv cl.holder, iv cl.asked, .bool cl.backed]] w0 fun v w => v = .tuple #[iv k, iv e] ∧ Ext No w0 w := by
 have := m7 rl cl w0
 unfold endT at h
 split at h
 ·rename_i hc; cases h; rw [if_pos hc] at this; exact this
 ·rename_i hc; cases h; rw [if_neg hc] at this; exact this
theorem km (rl : Rul) (cl : Clm) (sv : Value) (l : List Evt) (t : Int) (w0 : World) (hsv : SlAt w0 sv 3 (l.map Evt.cells)) {s : Stt} {e : Int} (h : outT rl cl l t = (s, e)) : Ret Tryz.prog 27 #[.agg #[iv rl.answer, iv rl.cooling, iv rl.settle, iv rl.reverse], .agg #[iv cl.number, iv cl.frm, iv cl.to, iv cl.holder, iv cl.asked, .bool cl.backed], sv, iv t] w0 fun v w => v = .tuple #[s.val, iv e] ∧ Ext No w0 w := by
 unfold outT at h
 split at h
 ·rename_i hc; obtain ⟨hv, hin⟩ := hc; cases h; rw [fT hv (lG hin)]; exact fe rl cl sv l t w0 hsv hv hin
 ·rename_i hc; cases h; exact gc rl cl sv l t w0 hsv (f8 hc)
theorem nA (rl : Rul) (cl : Clm) (sv : Value) (l : List Evt) (t : Int) (w0 : World) (hsv : SlAt w0 sv 3 (l.map Evt.cells)) {k e : Int} (h : witT rl cl l t = (k, e)) : Ret Tryz.prog 28 #[.agg #[iv rl.answer, iv rl.cooling, iv rl.settle, iv rl.reverse], .agg #[iv cl.number, iv cl.frm, iv cl.to, iv cl.holder, iv cl.asked, .bool cl.backed], sv, iv t] w0 fun v w => v = .tuple #[iv k, iv e] ∧ Ext No w0 w := by
 unfold witT at h
 split at h
 ·rename_i hc; obtain ⟨hv, hin⟩ := hc; cases h; unfold withAt; rw [fT hv (lG hin)]; exact oN rl cl sv l t w0 hsv hv hin
 ·rename_i hc; cases h; exact m9 rl cl sv l t w0 hsv (f8 hc)
theorem nW (rl : Rul) (cl : Clm) (sv : Value) (l : List Evt) (w0 : World) (hsv : SlAt w0 sv 3 (l.map Evt.cells)) {vo : List Int} {e : Int} (h : voidT rl cl l = (vo, e)) : Ret Tryz.prog 29 #[.agg #[iv rl.answer, iv rl.cooling, iv rl.settle, iv rl.reverse], .agg #[iv cl.number, iv cl.frm, iv cl.to, iv cl.holder, iv cl.asked, .bool cl.backed], sv] w0 (MemR w0 (fun v : Value => .tuple #[v, iv e]) (fun v => [own v 3 1 (vo.map fun i => [iv i])]) (fun _ => True)) := by
 unfold voidT at h
 split at h
 ·rename_i hv; cases h; exact pJ rl cl sv l w0 hsv hv
 ·rename_i hv; cases h; exact nv rl cl sv l w0 hsv (by simpa using hv)
theorem jh (rl : Rul) (cl : Clm) (sv : Value) (l : List Evt) (w0 : World) (hsv : SlAt w0 sv 3 (l.map Evt.cells)) {ss : List Stt} {e : Int} (h : lineT rl cl l = (ss, e)) : Ret Tryz.prog 30 #[.agg #[iv rl.answer, iv rl.cooling, iv rl.settle, iv rl.reverse], .agg #[iv cl.number, iv cl.frm, iv cl.to, iv cl.holder, iv cl.asked, .bool cl.backed], sv] w0 (MemR w0 (fun v : Value => .tuple #[v, iv e]) (fun v => [own v 75 3 (ss.map Stt.cells)]) (fun _ => True)) := by
 unfold lineT at h
 split at h
 ·rename_i hv; cases h; exact j9 rl cl sv l w0 hsv hv
 ·rename_i hv; cases h; exact jg rl cl sv l w0 hsv (by simpa using hv)
theorem nd (rl : Rul) (cl : Clm) (w0 : World) {k e : Int} (h : endT rl cl = (k, e)) : Ret Tryz.prog 31 #[.agg #[iv rl.answer, iv rl.cooling, iv rl.settle, iv rl.reverse], .agg #[iv cl.number, iv cl.frm, iv cl.to, iv cl.holder, iv cl.asked, .bool cl.backed]] w0 fun v w => v = .tuple #[iv k, iv e] ∧ Ext No w0 w := by
 have := pL rl cl w0
 unfold endT at h
 split at h
 ·rename_i hc; cases h; rw [if_pos hc] at this; exact this
 ·rename_i hc; cases h; rw [if_neg hc] at this; exact this
theorem kS {f : FuncId} {args : Array Value} {w : World} {x y : Value} (h : Ret Tryz.prog f args w fun v w' => v = x ∧ Ext No w w') (e : x = y) : Ret Tryz.prog f args w fun v w' => v = y ∧ Ext No w w' := e ▸ h
theorem eO (rl : Rul) (cl : Clm) (sv : Value) (l : List Evt) (t : Int) (w0 : World) (hsv : SlAt w0 sv 3 (l.map Evt.cells)) :
  Ret Tryz.prog 8 #[.agg #[iv rl.answer, iv rl.cooling, iv rl.settle, iv rl.reverse], .agg #[iv cl.number, iv cl.frm, iv cl.to, iv cl.holder, iv cl.asked, .bool cl.backed], sv, iv t] w0 fun v w => v = .bool true ∧ Ext No w0 w := by
 obtain ⟨os, oe, hot⟩ : ∃ a b, outT rl cl l t = (a, b) := ⟨_, _, rfl⟩
 obtain ⟨wk, we, hwt⟩ : ∃ a b, witT rl cl l t = (a, b) := ⟨_, _, rfl⟩
 obtain ⟨vo, ve, hvt⟩ : ∃ a b, voidT rl cl l = (a, b) := ⟨_, _, rfl⟩
 obtain ⟨ss, le, hlt⟩ : ∃ a b, lineT rl cl l = (a, b) := ⟨_, _, rfl⟩
 obtain ⟨ek, ee, het⟩ : ∃ a b, endT rl cl = (a, b) := ⟨_, _, rfl⟩
 refine aD func8 rfl ntmps8 (lb rfl) fun a Z => ?_
 replace Z := Z.p4 0 1 2 3 rfl
 replace Y : St No w0 [] w0 := St.init w0
 refine aa fun K1 hK1 => aG Z Y de rfl (cs := [iv rl.answer, iv rl.cooling, iv rl.settle, iv rl.reverse]) rfl ?_
 clear Z Y
 intro a w1 Z Y
 refine aG Z Y de rfl (cs := [iv cl.number, iv cl.frm, iv cl.to, iv cl.holder, iv cl.asked, .bool cl.backed]) rfl ?_
 clear Z Y
 intro a w2 Z Y
 refine wla Z rfl fun a Z => ab (hK1 _ _ <| aa fun K2 hK2 => ?_)
 refine wlv Z (ai (Y.g 1 rfl) rfl (isAgg29 _) (sizeOf29 _)) fun a Z => wlv Z (ai (Y.g 0 rfl) rfl (isAgg31 _) (sizeOf31 _)) fun a Z => wlm Z rfl fun a Z => wlm Z rfl fun a Z => aA Z Y de call20 rfl (lL rl cl sv l t _ (Y.arg hsv) hot) ?_
 clear Z Y
 intro a w3 Z Y
 refine wlm Z rfl fun a Z => wlv Z (aw rfl rfl) fun a Z => wlv Z (aw rfl rfl) fun a Z => aH Z Y de (zeroValue75 _) (cs := [iv 0, iv 0, iv 0]) rfl ?_
 clear Z Y
 intro a w4 Z Y
 refine am 0 Z Y rfl rfl rfl (sizeOf75 _) rfl (lb rfl) (ds := [iv os.state, iv os.since, iv os.next]) rfl rfl ?_
 clear Z Y
 intro a w5 Z Y
 refine wla Z rfl fun a Z => ab (hK2 _ _ ?_)
 replace Z := Z.p7 2 3 4 5 8 9 10 rfl
 refine aa fun K3 hK3 => wlv Z (ai (Y.g 2 rfl) rfl (isAgg29 _) (sizeOf29 _)) fun a Z => wlv Z (ai (Y.g 1 rfl) rfl (isAgg31 _) (sizeOf31 _)) fun a Z => wlm Z rfl fun a Z => wlm Z rfl fun a Z => aA Z Y de call27 rfl (km rl cl sv l t _ (Y.arg hsv) hot) ?_
 clear Z Y
 intro a w6 Z Y
 refine wlm Z rfl fun a Z => wlv Z (aw rfl rfl) fun a Z => wlv Z (aw rfl rfl) fun a Z => aH Z Y de (zeroValue75 _) (cs := [iv 0, iv 0, iv 0]) rfl ?_
 clear Z Y
 intro a w7 Z Y
 refine am 0 Z Y rfl rfl rfl (sizeOf75 _) rfl (lb rfl) (ds := [iv os.state, iv os.since, iv os.next]) rfl rfl ?_
 clear Z Y
 intro a w8 Z Y
 refine wla Z rfl fun a Z => ab (hK3 _ _ ?_)
 replace Z := Z.p9 2 3 4 5 8 9 10 11 12 rfl
 refine aa fun K4 hK4 => wlv Z (ai (Y.g 3 rfl) rfl (isAgg29 _) (sizeOf29 _)) fun a Z => wlv Z (ai (Y.g 2 rfl) rfl (isAgg31 _) (sizeOf31 _)) fun a Z => wlm Z rfl fun a Z => wlm Z rfl fun a Z => aA Z Y de call19 rfl (pM rl cl sv l t _ (Y.arg hsv) hwt) ?_
 clear Z Y
 intro a w9 Z Y
 refine wlm Z rfl fun a Z => wlv Z (aw rfl rfl) fun a Z => wlv Z (aw rfl rfl) fun a Z => wla Z rfl fun a Z => wla Z rfl fun a Z => ab (hK4 _ _ ?_)
 replace Z := Z.p11 2 3 4 5 8 9 10 11 12 13 14 rfl
 refine aa fun K5 hK5 => wlv Z (ai (Y.g 3 rfl) rfl (isAgg29 _) (sizeOf29 _)) fun a Z => wlv Z (ai (Y.g 2 rfl) rfl (isAgg31 _) (sizeOf31 _)) fun a Z => wlm Z rfl fun a Z => wlm Z rfl fun a Z => aA Z Y de call28 rfl (nA rl cl sv l t _ (Y.arg hsv) hwt) ?_
 clear Z Y
 intro a w10 Z Y
 refine wlm Z rfl fun a Z => wlv Z (aw rfl rfl) fun a Z => wlv Z (aw rfl rfl) fun a Z => wla Z rfl fun a Z => wla Z rfl fun a Z => ab (hK5 _ _ ?_)
 replace Z := Z.p12 2 4 5 8 9 10 11 12 13 14 15 16 rfl
 refine aa fun K6 hK6 => wlv Z (ai (Y.g 3 rfl) rfl (isAgg29 _) (sizeOf29 _)) fun a Z => wlv Z (ai (Y.g 2 rfl) rfl (isAgg31 _) (sizeOf31 _)) fun a Z => wlm Z rfl fun a Z => bI Z Y de call17 rfl (oy rl cl sv l _ (Y.arg hsv) hvt) ?_
 clear Z Y
 intro a w11 x2 hp Z Y
 revert x2 hp Z Y; rintro vv1 hp Z Y
 clear hp
 replace Y : St No w0 [_, _, _, _, _] w11 := Y
 refine wlm Z rfl fun a Z => wlv Z (aw rfl rfl) fun a Z => wlv Z (aw rfl rfl) fun a Z => wla Z rfl fun a Z => wla Z rfl fun a Z => ab (hK6 _ _ ?_)
 replace Z := Z.p14 2 4 5 8 9 10 11 12 13 14 15 16 17 18 rfl
 refine aa fun K7 hK7 => wlv Z (ai (Y.g 4 rfl) rfl (isAgg29 _) (sizeOf29 _)) fun a Z => wlv Z (ai (Y.g 3 rfl) rfl (isAgg31 _) (sizeOf31 _)) fun a Z => wlm Z rfl fun a Z => bI Z Y de call29 rfl (nW rl cl sv l _ (Y.arg hsv) hvt) ?_
 clear Z Y
 intro a w12 x4 hp Z Y
 revert x4 hp Z Y; rintro vv3 hp Z Y
 clear hp
 replace Y : St No w0 [_, _, _, _, _, _] w12 := Y
 refine wlm Z rfl fun a Z => wlv Z (aw rfl rfl) fun a Z => wlv Z (aw rfl rfl) fun a Z => wla Z rfl fun a Z => wla Z rfl fun a Z => ab (hK7 _ _ ?_)
 replace Z := Z.p16 2 4 5 8 9 10 11 12 13 14 15 16 17 18 19 20 rfl
 refine aa fun K8 hK8 => wlv Z (ai (Y.g 5 rfl) rfl (isAgg29 _) (sizeOf29 _)) fun a Z => wlv Z (ai (Y.g 4 rfl) rfl (isAgg31 _) (sizeOf31 _)) fun a Z => wlm Z rfl fun a Z => bI Z Y de call18 rfl (ko rl cl sv l _ (Y.arg hsv) hlt) ?_
 clear Z Y
 intro a w13 x6 hp Z Y
 revert x6 hp Z Y; rintro vl5 hp Z Y
 clear hp
 replace Y : St No w0 [_, _, _, _, _, _, _] w13 := Y
 refine wlm Z rfl fun a Z => wlv Z (aw rfl rfl) fun a Z => wlv Z (aw rfl rfl) fun a Z => wla Z rfl fun a Z => wla Z rfl fun a Z => ab (hK8 _ _ ?_)
 replace Z := Z.p18 2 4 5 8 9 10 11 12 13 14 15 16 17 18 19 20 21 22 rfl
 refine aa fun K9 hK9 => wlv Z (ai (Y.g 6 rfl) rfl (isAgg29 _) (sizeOf29 _)) fun a Z => wlv Z (ai (Y.g 5 rfl) rfl (isAgg31 _) (sizeOf31 _)) fun a Z => wlm Z rfl fun a Z => bI Z Y de call30 rfl (jh rl cl sv l _ (Y.arg hsv) hlt) ?_
 clear Z Y
 intro a w14 x8 hp Z Y
 revert x8 hp Z Y; rintro vl7 hp Z Y
 clear hp
 replace Y : St No w0 [_, _, _, _, _, _, _, _] w14 := Y
 refine wlm Z rfl fun a Z => wlv Z (aw rfl rfl) fun a Z => wlv Z (aw rfl rfl) fun a Z => wla Z rfl fun a Z => wla Z rfl fun a Z => ab (hK9 _ _ ?_)
 replace Z := Z.p20 2 4 5 8 9 10 11 12 13 14 15 16 17 18 19 20 21 22 23 24 rfl
 refine aa fun K10 hK10 => wlv Z (ai (Y.g 7 rfl) rfl (isAgg29 _) (sizeOf29 _)) fun a Z => wlv Z (ai (Y.g 6 rfl) rfl (isAgg31 _) (sizeOf31 _)) fun a Z => aA Z Y de call15 rfl (oC rl cl _ het) ?_
 clear Z Y
 intro a w15 Z Y
 refine wlm Z rfl fun a Z => wlv Z (aw rfl rfl) fun a Z => wlv Z (aw rfl rfl) fun a Z => wla Z rfl fun a Z => wla Z rfl fun a Z => ab (hK10 _ _ ?_)
 replace Z : Fr 160 [(2, _), (4, _), (5, _), (8, _), (9, _), (10, _), (11, _), (12, _), (13, _), (14, _), (15, _), (16, _), (17, _), (18, _), (19, _), (20, _), (21, _), (22, _), (23, _), (24, _), (25, _), (26, _)] [] a := Z.pick [2, 4, 5, 8, 9, 10, 11, 12, 13, 14, 15, 16, 17, 18, 19, 20, 21, 22, 23, 24, 25, 26]
 refine aa fun K11 hK11 => wlv Z (ai (Y.g 7 rfl) rfl (isAgg29 _) (sizeOf29 _)) fun a Z => wlv Z (ai (Y.g 6 rfl) rfl (isAgg31 _) (sizeOf31 _)) fun a Z => aA Z Y de call31 rfl (nd rl cl _ het) ?_
 clear Z Y
 intro a w16 Z Y
 refine wlm Z rfl fun a Z => wlv Z (aw rfl rfl) fun a Z => wlv Z (aw rfl rfl) fun a Z => wla Z rfl fun a Z => wla Z rfl fun a Z => ab (hK11 _ _ ?_)
 replace Z := Z.p24 2 4 5 8 9 10 11 12 13 14 15 16 17 18 19 20 21 22 23 24 25 26 27 28 rfl
 refine ah fun K12 hK12 => aK kr (aU kr fun w17 hxz => ?_)
 replace Y := Y.grow hxz
 refine aV (k := 0) 7 [3, 4, 5, 6] Z kr kr kr rfx ?_
 replace Z := Z.p24 2 4 5 8 9 10 11 12 13 14 15 16 17 18 19 20 21 22 23 24 25 26 27 28 rfl
 refine aM 7 [[], [], [], [0, 1, 2], [], [], []] (fun i => match i with | 0 => pv (.agg #[iv rl.answer, iv rl.cooling, iv rl.settle, iv rl.reverse]) | 1 => pv (.agg #[iv cl.number, iv cl.frm, iv cl.to, iv cl.holder, iv cl.asked, .bool cl.backed]) | 2 => pv (sv) | 3 => pv (.bool (valid rl cl l)) | 4 => pv (.agg #[iv rl.answer, iv rl.cooling, iv rl.settle, iv rl.reverse]) | 5 => pv (.agg #[iv cl.number, iv cl.frm, iv cl.to, iv cl.holder, iv cl.asked, .bool cl.backed]) | 6 => pv (sv) | _ => fun _ _ => False) Z Y kr kr ?_ ?_
 ·intro i hi
  match i, hi with
  | 0, _ => exact fun w Y => OpV.g (ai (Y.g 7 rfl) rfl (isAgg29 _) (sizeOf29 _))
  | 1, _ => exact fun w Y => OpV.g (ai (Y.g 6 rfl) rfl (isAgg31 _) (sizeOf31 _))
  | 2, _ => exact fun w Y => OpV.g (ak rfl)
  | 3, _ =>
   rintro _ _ ⟨rfl, rfl⟩ _ _ ⟨rfl, rfl⟩ _ _ ⟨rfl, rfl⟩
   intro w Y
   exact aT call24 rfl (dL rl cl sv l _ (Y.arg hsv))
  | 4, _ => exact fun w Y => OpV.g (ai (Y.g 7 rfl) rfl (isAgg29 _) (sizeOf29 _))
  | 5, _ => exact fun w Y => OpV.g (ai (Y.g 6 rfl) rfl (isAgg31 _) (sizeOf31 _))
  | 6, _ => exact fun w Y => OpV.g (ak rfl)
 clear Z Y
 rintro _ _ ⟨rfl, rfl⟩ _ _ ⟨rfl, rfl⟩ _ _ ⟨rfl, rfl⟩ _ _ ⟨rfl, rfl⟩ _ _ ⟨rfl, rfl⟩ _ _ ⟨rfl, rfl⟩ _ _ ⟨rfl, rfl⟩ a w18 Z Y
 replace Z : Fr 160 [(101, _), (102, _), (103, _), (104, _), (105, _), (106, _), (107, _), (2, _), (4, _), (5, _), (8, _), (9, _), (10, _), (11, _), (12, _), (13, _), (14, _), (15, _), (16, _), (17, _), (18, _), (19, _), (20, _), (21, _), (22, _), (23, _), (24, _), (25, _), (26, _), (27, _), (28, _)] [] a := Z
 replace Y : St No w0 [_, _, _, _, _, _, _, _] w18 := Y
 refine ab <| aP (k := 7) 10 [9] kr kr kr ?_
 refine aA Z Y de call32 rfl (rvalid_ok rl cl sv l _ (Y.arg hsv)) ?_
 clear Z Y
 intro a w19 Z Y
 refine wlv Z ((no rfl rfl underlying4).asb (b' := true) sm) fun a Z => wlm Z rfl fun a Z => ab <| aV (k := 10) 12 [10, 11] Z kr kr kr rfx ?_
 replace Z : Fr 160 [(2, _), (4, _), (5, _), (8, _), (9, _), (10, _), (11, _), (12, _), (13, _), (14, _), (15, _), (16, _), (17, _), (18, _), (19, _), (20, _), (21, _), (22, _), (23, _), (24, _), (25, _), (26, _), (27, _), (28, _), (101, _), (102, _), (103, _), (104, _), (105, _), (106, _), (107, _), (108, _), (109, _), (110, _)] [] a := Z.pick [2, 4, 5, 8, 9, 10, 11, 12, 13, 14, 15, 16, 17, 18, 19, 20, 21, 22, 23, 24, 25, 26, 27, 28, 101, 102, 103, 104, 105, 106, 107, 108, 109, 110]
 refine aM 2 [[], []] (fun i => match i with | 0 => pv (.agg #[iv os.state, iv os.since, iv os.next]) | 1 => pv (.agg #[iv os.state, iv os.since, iv os.next]) | _ => fun _ _ => False) Z Y kr kr ?_ ?_
 ·intro i hi
  match i, hi with
  | 0, _ => exact fun w Y => OpV.g (ai (Y.g 5 rfl) rfl (isAgg75 _) (sizeOf75 _))
  | 1, _ => exact fun w Y => OpV.g (ai (Y.g 4 rfl) rfl (isAgg75 _) (sizeOf75 _))
 clear Z Y
 rintro _ _ ⟨rfl, rfl⟩ _ _ ⟨rfl, rfl⟩ a w20 Z Y
 replace Z : Fr 160 [(111, _), (112, _), (2, _), (4, _), (5, _), (8, _), (9, _), (10, _), (11, _), (12, _), (13, _), (14, _), (15, _), (16, _), (17, _), (18, _), (19, _), (20, _), (21, _), (22, _), (23, _), (24, _), (25, _), (26, _), (27, _), (28, _), (101, _), (102, _), (103, _), (104, _), (105, _), (106, _), (107, _), (108, _), (109, _), (110, _)] [] a := Z
 replace Y : St No w0 [_, _, _, _, _, _, _, _] w20 := Y
 refine ab <| aP (k := 12) 15 [14] kr kr kr ?_
 refine wly Z ((kR rfl rfl kr (eqStt os.state os.since os.next os.state os.since os.next _)).asb (b' := true) sm) fun a Z => wlv Z (au rfl rfl) fun a Z => wlm Z rfl fun a Z => ab <| aV (k := 15) 17 [15, 16] Z kr kr kr rfx ?_
 replace Z : Fr 160 [(2, _), (4, _), (5, _), (8, _), (9, _), (10, _), (11, _), (12, _), (13, _), (14, _), (15, _), (16, _), (17, _), (18, _), (19, _), (20, _), (21, _), (22, _), (23, _), (24, _), (25, _), (26, _), (27, _), (28, _), (101, _), (102, _), (103, _), (104, _), (105, _), (106, _), (107, _), (108, _), (109, _), (110, _), (111, _), (112, _), (113, _), (114, _), (115, _)] [] a := Z.pick [2, 4, 5, 8, 9, 10, 11, 12, 13, 14, 15, 16, 17, 18, 19, 20, 21, 22, 23, 24, 25, 26, 27, 28, 101, 102, 103, 104, 105, 106, 107, 108, 109, 110, 111, 112, 113, 114, 115]
 refine aM 2 [[], []] (fun i => match i with | 0 => pv (iv oe) | 1 => pv (iv oe) | _ => fun _ _ => False) Z Y kr kr ?_ ?_
 ·intro i hi
  match i, hi with
  | 0, _ => exact fun w Y => OpV.g (ak rfl)
  | 1, _ => exact fun w Y => OpV.g (ak rfl)
 clear Z Y
 rintro _ _ ⟨rfl, rfl⟩ _ _ ⟨rfl, rfl⟩ a w21 Z Y
 replace Z : Fr 160 [(116, _), (117, _), (2, _), (4, _), (5, _), (8, _), (9, _), (10, _), (11, _), (12, _), (13, _), (14, _), (15, _), (16, _), (17, _), (18, _), (19, _), (20, _), (21, _), (22, _), (23, _), (24, _), (25, _), (26, _), (27, _), (28, _), (101, _), (102, _), (103, _), (104, _), (105, _), (106, _), (107, _), (108, _), (109, _), (110, _), (111, _), (112, _), (113, _), (114, _), (115, _)] [] a := Z
 replace Y : St No w0 [_, _, _, _, _, _, _, _] w21 := Y
 refine ab <| aP (k := 17) 20 [19] kr kr kr ?_
 refine wly Z ((v_eq rfl rfl).asb (b' := true) sm) fun a Z => wlv Z (au rfl rfl) fun a Z => wlm Z rfl fun a Z => ab <| aV (k := 20) 22 [20, 21] Z kr kr kr rfx ?_
 replace Z : Fr 160 [(2, _), (4, _), (5, _), (8, _), (9, _), (10, _), (11, _), (12, _), (13, _), (14, _), (15, _), (16, _), (17, _), (18, _), (19, _), (20, _), (21, _), (22, _), (23, _), (24, _), (25, _), (26, _), (27, _), (28, _), (101, _), (102, _), (103, _), (104, _), (105, _), (106, _), (107, _), (108, _), (109, _), (110, _), (111, _), (112, _), (113, _), (114, _), (115, _), (116, _), (117, _), (118, _), (119, _), (120, _)] [] a := Z.pick [2, 4, 5, 8, 9, 10, 11, 12, 13, 14, 15, 16, 17, 18, 19, 20, 21, 22, 23, 24, 25, 26, 27, 28, 101, 102, 103, 104, 105, 106, 107, 108, 109, 110, 111, 112, 113, 114, 115, 116, 117, 118, 119, 120]
 refine aM 2 [[], []] (fun i => match i with | 0 => pv (iv wk) | 1 => pv (iv wk) | _ => fun _ _ => False) Z Y kr kr ?_ ?_
 ·intro i hi
  match i, hi with
  | 0, _ => exact fun w Y => OpV.g (ak rfl)
  | 1, _ => exact fun w Y => OpV.g (ak rfl)
 clear Z Y
 rintro _ _ ⟨rfl, rfl⟩ _ _ ⟨rfl, rfl⟩ a w22 Z Y
 replace Z : Fr 160 [(121, _), (122, _), (2, _), (4, _), (5, _), (8, _), (9, _), (10, _), (11, _), (12, _), (13, _), (14, _), (15, _), (16, _), (17, _), (18, _), (19, _), (20, _), (21, _), (22, _), (23, _), (24, _), (25, _), (26, _), (27, _), (28, _), (101, _), (102, _), (103, _), (104, _), (105, _), (106, _), (107, _), (108, _), (109, _), (110, _), (111, _), (112, _), (113, _), (114, _), (115, _), (116, _), (117, _), (118, _), (119, _), (120, _)] [] a := Z
 replace Y : St No w0 [_, _, _, _, _, _, _, _] w22 := Y
 refine ab <| aP (k := 22) 25 [24] kr kr kr ?_
 refine wly Z ((v_eq rfl rfl).asb (b' := true) sm) fun a Z => wlv Z (au rfl rfl) fun a Z => wlm Z rfl fun a Z => ab <| aV (k := 25) 27 [25, 26] Z kr kr kr rfx ?_
 replace Z : Fr 160 [(2, _), (4, _), (5, _), (8, _), (9, _), (10, _), (11, _), (12, _), (13, _), (14, _), (15, _), (16, _), (17, _), (18, _), (19, _), (20, _), (21, _), (22, _), (23, _), (24, _), (25, _), (26, _), (27, _), (28, _), (101, _), (102, _), (103, _), (104, _), (105, _), (106, _), (107, _), (108, _), (109, _), (110, _), (111, _), (112, _), (113, _), (114, _), (115, _), (116, _), (117, _), (118, _), (119, _), (120, _), (121, _), (122, _), (123, _), (124, _), (125, _)] [] a := Z.pick [2, 4, 5, 8, 9, 10, 11, 12, 13, 14, 15, 16, 17, 18, 19, 20, 21, 22, 23, 24, 25, 26, 27, 28, 101, 102, 103, 104, 105, 106, 107, 108, 109, 110, 111, 112, 113, 114, 115, 116, 117, 118, 119, 120, 121, 122, 123, 124, 125]
 refine aM 2 [[], []] (fun i => match i with | 0 => pv (iv we) | 1 => pv (iv we) | _ => fun _ _ => False) Z Y kr kr ?_ ?_
 ·intro i hi
  match i, hi with
  | 0, _ => exact fun w Y => OpV.g (ak rfl)
  | 1, _ => exact fun w Y => OpV.g (ak rfl)
 clear Z Y
 rintro _ _ ⟨rfl, rfl⟩ _ _ ⟨rfl, rfl⟩ a w23 Z Y
 replace Z : Fr 160 [(126, _), (127, _), (2, _), (4, _), (5, _), (8, _), (9, _), (10, _), (11, _), (12, _), (13, _), (14, _), (15, _), (16, _), (17, _), (18, _), (19, _), (20, _), (21, _), (22, _), (23, _), (24, _), (25, _), (26, _), (27, _), (28, _), (101, _), (102, _), (103, _), (104, _), (105, _), (106, _), (107, _), (108, _), (109, _), (110, _), (111, _), (112, _), (113, _), (114, _), (115, _), (116, _), (117, _), (118, _), (119, _), (120, _), (121, _), (122, _), (123, _), (124, _), (125, _)] [] a := Z
 replace Y : St No w0 [_, _, _, _, _, _, _, _] w23 := Y
 refine ab <| aP (k := 27) 30 [29] kr kr kr ?_
 refine wly Z ((v_eq rfl rfl).asb (b' := true) sm) fun a Z => wlv Z (au rfl rfl) fun a Z => wlm Z rfl fun a Z => ab <| aV (k := 30) 32 [30, 31] Z kr kr kr rfx ?_
 replace Z : Fr 160 [(2, _), (4, _), (5, _), (8, _), (9, _), (10, _), (11, _), (12, _), (13, _), (14, _), (15, _), (16, _), (17, _), (18, _), (19, _), (20, _), (21, _), (22, _), (23, _), (24, _), (25, _), (26, _), (27, _), (28, _), (101, _), (102, _), (103, _), (104, _), (105, _), (106, _), (107, _), (108, _), (109, _), (110, _), (111, _), (112, _), (113, _), (114, _), (115, _), (116, _), (117, _), (118, _), (119, _), (120, _), (121, _), (122, _), (123, _), (124, _), (125, _), (126, _), (127, _), (128, _), (129, _), (130, _)] [] a := Z.pick [2, 4, 5, 8, 9, 10, 11, 12, 13, 14, 15, 16, 17, 18, 19, 20, 21, 22, 23, 24, 25, 26, 27, 28, 101, 102, 103, 104, 105, 106, 107, 108, 109, 110, 111, 112, 113, 114, 115, 116, 117, 118, 119, 120, 121, 122, 123, 124, 125, 126, 127, 128, 129, 130]
 refine aM 2 [[], []] (fun i => match i with | 0 => pv (iv ve) | 1 => pv (iv ve) | _ => fun _ _ => False) Z Y kr kr ?_ ?_
 ·intro i hi
  match i, hi with
  | 0, _ => exact fun w Y => OpV.g (ak rfl)
  | 1, _ => exact fun w Y => OpV.g (ak rfl)
 clear Z Y
 rintro _ _ ⟨rfl, rfl⟩ _ _ ⟨rfl, rfl⟩ a w24 Z Y
 replace Z : Fr 160 [(131, _), (132, _), (2, _), (4, _), (5, _), (8, _), (9, _), (10, _), (11, _), (12, _), (13, _), (14, _), (15, _), (16, _), (17, _), (18, _), (19, _), (20, _), (21, _), (22, _), (23, _), (24, _), (25, _), (26, _), (27, _), (28, _), (101, _), (102, _), (103, _), (104, _), (105, _), (106, _), (107, _), (108, _), (109, _), (110, _), (111, _), (112, _), (113, _), (114, _), (115, _), (116, _), (117, _), (118, _), (119, _), (120, _), (121, _), (122, _), (123, _), (124, _), (125, _), (126, _), (127, _), (128, _), (129, _), (130, _)] [] a := Z
 replace Y : St No w0 [_, _, _, _, _, _, _, _] w24 := Y
 refine ab <| aP (k := 32) 35 [34] kr kr kr ?_
 refine wly Z ((v_eq rfl rfl).asb (b' := true) sm) fun a Z => wlv Z (au rfl rfl) fun a Z => wlm Z rfl fun a Z => ab <| aV (k := 35) 37 [35, 36] Z kr kr kr rfx ?_
 replace Z : Fr 160 [(2, _), (4, _), (5, _), (8, _), (9, _), (10, _), (11, _), (12, _), (13, _), (14, _), (15, _), (16, _), (17, _), (18, _), (19, _), (20, _), (21, _), (22, _), (23, _), (24, _), (25, _), (26, _), (27, _), (28, _), (101, _), (102, _), (103, _), (104, _), (105, _), (106, _), (107, _), (108, _), (109, _), (110, _), (111, _), (112, _), (113, _), (114, _), (115, _), (116, _), (117, _), (118, _), (119, _), (120, _), (121, _), (122, _), (123, _), (124, _), (125, _), (126, _), (127, _), (128, _), (129, _), (130, _), (131, _), (132, _), (133, _), (134, _), (135, _)] [] a := Z.pick [2, 4, 5, 8, 9, 10, 11, 12, 13, 14, 15, 16, 17, 18, 19, 20, 21, 22, 23, 24, 25, 26, 27, 28, 101, 102, 103, 104, 105, 106, 107, 108, 109, 110, 111, 112, 113, 114, 115, 116, 117, 118, 119, 120, 121, 122, 123, 124, 125, 126, 127, 128, 129, 130, 131, 132, 133, 134, 135]
 refine aM 2 [[], []] (fun i => match i with | 0 => pv (iv le) | 1 => pv (iv le) | _ => fun _ _ => False) Z Y kr kr ?_ ?_
 ·intro i hi
  match i, hi with
  | 0, _ => exact fun w Y => OpV.g (ak rfl)
  | 1, _ => exact fun w Y => OpV.g (ak rfl)
 clear Z Y
 rintro _ _ ⟨rfl, rfl⟩ _ _ ⟨rfl, rfl⟩ a w25 Z Y
 replace Z : Fr 160 [(136, _), (137, _), (2, _), (4, _), (5, _), (8, _), (9, _), (10, _), (11, _), (12, _), (13, _), (14, _), (15, _), (16, _), (17, _), (18, _), (19, _), (20, _), (21, _), (22, _), (23, _), (24, _), (25, _), (26, _), (27, _), (28, _), (101, _), (102, _), (103, _), (104, _), (105, _), (106, _), (107, _), (108, _), (109, _), (110, _), (111, _), (112, _), (113, _), (114, _), (115, _), (116, _), (117, _), (118, _), (119, _), (120, _), (121, _), (122, _), (123, _), (124, _), (125, _), (126, _), (127, _), (128, _), (129, _), (130, _), (131, _), (132, _), (133, _), (134, _), (135, _)] [] a := Z
 replace Y : St No w0 [_, _, _, _, _, _, _, _] w25 := Y
 refine ab <| aP (k := 37) 40 [39] kr kr kr ?_
 refine wly Z ((v_eq rfl rfl).asb (b' := true) sm) fun a Z => wlv Z (au rfl rfl) fun a Z => wlm Z rfl fun a Z => ab <| aV (k := 40) 42 [40, 41] Z kr kr kr rfx ?_
 replace Z : Fr 160 [(2, _), (4, _), (5, _), (8, _), (9, _), (10, _), (11, _), (12, _), (13, _), (14, _), (15, _), (16, _), (17, _), (18, _), (19, _), (20, _), (21, _), (22, _), (23, _), (24, _), (25, _), (26, _), (27, _), (28, _), (101, _), (102, _), (103, _), (104, _), (105, _), (106, _), (107, _), (108, _), (109, _), (110, _), (111, _), (112, _), (113, _), (114, _), (115, _), (116, _), (117, _), (118, _), (119, _), (120, _), (121, _), (122, _), (123, _), (124, _), (125, _), (126, _), (127, _), (128, _), (129, _), (130, _), (131, _), (132, _), (133, _), (134, _), (135, _), (136, _), (137, _), (138, _), (139, _), (140, _)] [] a := Z.pick [2, 4, 5, 8, 9, 10, 11, 12, 13, 14, 15, 16, 17, 18, 19, 20, 21, 22, 23, 24, 25, 26, 27, 28, 101, 102, 103, 104, 105, 106, 107, 108, 109, 110, 111, 112, 113, 114, 115, 116, 117, 118, 119, 120, 121, 122, 123, 124, 125, 126, 127, 128, 129, 130, 131, 132, 133, 134, 135, 136, 137, 138, 139, 140]
 refine aM 2 [[], []] (fun i => match i with | 0 => pv (iv ek) | 1 => pv (iv ek) | _ => fun _ _ => False) Z Y kr kr ?_ ?_
 ·intro i hi
  match i, hi with
  | 0, _ => exact fun w Y => OpV.g (ak rfl)
  | 1, _ => exact fun w Y => OpV.g (ak rfl)
 clear Z Y
 rintro _ _ ⟨rfl, rfl⟩ _ _ ⟨rfl, rfl⟩ a w26 Z Y
 replace Z : Fr 160 [(141, _), (142, _), (2, _), (4, _), (5, _), (8, _), (9, _), (10, _), (11, _), (12, _), (13, _), (14, _), (15, _), (16, _), (17, _), (18, _), (19, _), (20, _), (21, _), (22, _), (23, _), (24, _), (25, _), (26, _), (27, _), (28, _), (101, _), (102, _), (103, _), (104, _), (105, _), (106, _), (107, _), (108, _), (109, _), (110, _), (111, _), (112, _), (113, _), (114, _), (115, _), (116, _), (117, _), (118, _), (119, _), (120, _), (121, _), (122, _), (123, _), (124, _), (125, _), (126, _), (127, _), (128, _), (129, _), (130, _), (131, _), (132, _), (133, _), (134, _), (135, _), (136, _), (137, _), (138, _), (139, _), (140, _)] [] a := Z
 replace Y : St No w0 [_, _, _, _, _, _, _, _] w26 := Y
 refine ab <| aP (k := 42) 45 [44] kr kr kr ?_
 refine wly Z ((v_eq rfl rfl).asb (b' := true) sm) fun a Z => wlv Z (au rfl rfl) fun a Z => wlm Z rfl fun a Z => ab <| aV (k := 45) 47 [45, 46] Z kr kr kr rfx ?_
 replace Z : Fr 160 [(2, _), (4, _), (5, _), (8, _), (9, _), (10, _), (11, _), (12, _), (13, _), (14, _), (15, _), (16, _), (17, _), (18, _), (19, _), (20, _), (21, _), (22, _), (23, _), (24, _), (25, _), (26, _), (27, _), (28, _), (101, _), (102, _), (103, _), (104, _), (105, _), (106, _), (107, _), (108, _), (109, _), (110, _), (111, _), (112, _), (113, _), (114, _), (115, _), (116, _), (117, _), (118, _), (119, _), (120, _), (121, _), (122, _), (123, _), (124, _), (125, _), (126, _), (127, _), (128, _), (129, _), (130, _), (131, _), (132, _), (133, _), (134, _), (135, _), (136, _), (137, _), (138, _), (139, _), (140, _), (141, _), (142, _), (143, _), (144, _), (145, _)] [] a := Z.pick [2, 4, 5, 8, 9, 10, 11, 12, 13, 14, 15, 16, 17, 18, 19, 20, 21, 22, 23, 24, 25, 26, 27, 28, 101, 102, 103, 104, 105, 106, 107, 108, 109, 110, 111, 112, 113, 114, 115, 116, 117, 118, 119, 120, 121, 122, 123, 124, 125, 126, 127, 128, 129, 130, 131, 132, 133, 134, 135, 136, 137, 138, 139, 140, 141, 142, 143, 144, 145]
 refine aM 2 [[], []] (fun i => match i with | 0 => pv (iv ee) | 1 => pv (iv ee) | _ => fun _ _ => False) Z Y kr kr ?_ ?_
 ·intro i hi
  match i, hi with
  | 0, _ => exact fun w Y => OpV.g (ak rfl)
  | 1, _ => exact fun w Y => OpV.g (ak rfl)
 clear Z Y
 rintro _ _ ⟨rfl, rfl⟩ _ _ ⟨rfl, rfl⟩ a w27 Z Y
 replace Z : Fr 160 [(146, _), (147, _), (2, _), (4, _), (5, _), (8, _), (9, _), (10, _), (11, _), (12, _), (13, _), (14, _), (15, _), (16, _), (17, _), (18, _), (19, _), (20, _), (21, _), (22, _), (23, _), (24, _), (25, _), (26, _), (27, _), (28, _), (101, _), (102, _), (103, _), (104, _), (105, _), (106, _), (107, _), (108, _), (109, _), (110, _), (111, _), (112, _), (113, _), (114, _), (115, _), (116, _), (117, _), (118, _), (119, _), (120, _), (121, _), (122, _), (123, _), (124, _), (125, _), (126, _), (127, _), (128, _), (129, _), (130, _), (131, _), (132, _), (133, _), (134, _), (135, _), (136, _), (137, _), (138, _), (139, _), (140, _), (141, _), (142, _), (143, _), (144, _), (145, _)] [] a := Z
 replace Y : St No w0 [_, _, _, _, _, _, _, _] w27 := Y
 refine ab <| aP (k := 47) 50 [49] kr kr kr ?_
 refine wly Z ((v_eq rfl rfl).asb (b' := true) sm) fun a Z => wlv Z (au rfl rfl) fun a Z => wlm Z rfl fun a Z => ab <| aV (k := 50) 52 [50, 51] Z kr kr kr rfx ?_
 replace Z : Fr 160 [(2, _), (4, _), (5, _), (8, _), (9, _), (10, _), (11, _), (12, _), (13, _), (14, _), (15, _), (16, _), (17, _), (18, _), (19, _), (20, _), (21, _), (22, _), (23, _), (24, _), (25, _), (26, _), (27, _), (28, _), (101, _), (102, _), (103, _), (104, _), (105, _), (106, _), (107, _), (108, _), (109, _), (110, _), (111, _), (112, _), (113, _), (114, _), (115, _), (116, _), (117, _), (118, _), (119, _), (120, _), (121, _), (122, _), (123, _), (124, _), (125, _), (126, _), (127, _), (128, _), (129, _), (130, _), (131, _), (132, _), (133, _), (134, _), (135, _), (136, _), (137, _), (138, _), (139, _), (140, _), (141, _), (142, _), (143, _), (144, _), (145, _), (146, _), (147, _), (148, _), (149, _), (150, _)] [] a := Z.pick [2, 4, 5, 8, 9, 10, 11, 12, 13, 14, 15, 16, 17, 18, 19, 20, 21, 22, 23, 24, 25, 26, 27, 28, 101, 102, 103, 104, 105, 106, 107, 108, 109, 110, 111, 112, 113, 114, 115, 116, 117, 118, 119, 120, 121, 122, 123, 124, 125, 126, 127, 128, 129, 130, 131, 132, 133, 134, 135, 136, 137, 138, 139, 140, 141, 142, 143, 144, 145, 146, 147, 148, 149, 150]
 refine aM 2 [[], []] (fun i => match i with | 0 => pv (vv1) | 1 => pv (vv3) | _ => fun _ _ => False) Z Y kr kr ?_ ?_
 ·intro i hi
  match i, hi with
  | 0, _ => exact fun w Y => OpV.g (ak rfl)
  | 1, _ => exact fun w Y => OpV.g (ak rfl)
 clear Z Y
 rintro _ _ ⟨rfl, rfl⟩ _ _ ⟨rfl, rfl⟩ a w28 Z Y
 replace Z : Fr 160 [(151, _), (152, _), (2, _), (4, _), (5, _), (8, _), (9, _), (10, _), (11, _), (12, _), (13, _), (14, _), (15, _), (16, _), (17, _), (18, _), (19, _), (20, _), (21, _), (22, _), (23, _), (24, _), (25, _), (26, _), (27, _), (28, _), (101, _), (102, _), (103, _), (104, _), (105, _), (106, _), (107, _), (108, _), (109, _), (110, _), (111, _), (112, _), (113, _), (114, _), (115, _), (116, _), (117, _), (118, _), (119, _), (120, _), (121, _), (122, _), (123, _), (124, _), (125, _), (126, _), (127, _), (128, _), (129, _), (130, _), (131, _), (132, _), (133, _), (134, _), (135, _), (136, _), (137, _), (138, _), (139, _), (140, _), (141, _), (142, _), (143, _), (144, _), (145, _), (146, _), (147, _), (148, _), (149, _), (150, _)] [] a := Z
 replace Y : St No w0 [_, _, _, _, _, _, _, _] w28 := Y
 refine ab <| aP (k := 52) 55 [54] kr kr kr ?_
 refine aF Z Y de rfl de rfl call23 rfl (kS (y := .bool true) (mS vo vo vv1 vv3 _ (Y.ow 3 rfl) (Y.ow 2 rfl)) sm) ?_
 clear Z Y
 intro a w29 Z Y
 refine wlv Z (au rfl rfl) fun a Z => wlm Z rfl fun a Z => ab <| aV (k := 55) 57 [55, 56] Z kr kr kr rfx ?_
 replace Z : Fr 160 [(2, _), (4, _), (5, _), (8, _), (9, _), (10, _), (11, _), (12, _), (13, _), (14, _), (15, _), (16, _), (17, _), (18, _), (19, _), (20, _), (21, _), (22, _), (23, _), (24, _), (25, _), (26, _), (27, _), (28, _), (101, _), (102, _), (103, _), (104, _), (105, _), (106, _), (107, _), (108, _), (109, _), (110, _), (111, _), (112, _), (113, _), (114, _), (115, _), (116, _), (117, _), (118, _), (119, _), (120, _), (121, _), (122, _), (123, _), (124, _), (125, _), (126, _), (127, _), (128, _), (129, _), (130, _), (131, _), (132, _), (133, _), (134, _), (135, _), (136, _), (137, _), (138, _), (139, _), (140, _), (141, _), (142, _), (143, _), (144, _), (145, _), (146, _), (147, _), (148, _), (149, _), (150, _), (151, _), (152, _), (153, _), (154, _), (155, _)] [] a := Z.pick [2, 4, 5, 8, 9, 10, 11, 12, 13, 14, 15, 16, 17, 18, 19, 20, 21, 22, 23, 24, 25, 26, 27, 28, 101, 102, 103, 104, 105, 106, 107, 108, 109, 110, 111, 112, 113, 114, 115, 116, 117, 118, 119, 120, 121, 122, 123, 124, 125, 126, 127, 128, 129, 130, 131, 132, 133, 134, 135, 136, 137, 138, 139, 140, 141, 142, 143, 144, 145, 146, 147, 148, 149, 150, 151, 152, 153, 154, 155]
 refine aM 2 [[], []] (fun i => match i with | 0 => pv (vl5) | 1 => pv (vl7) | _ => fun _ _ => False) Z Y kr kr ?_ ?_
 ·intro i hi
  match i, hi with
  | 0, _ => exact fun w Y => OpV.g (ak rfl)
  | 1, _ => exact fun w Y => OpV.g (ak rfl)
 clear Z Y
 rintro _ _ ⟨rfl, rfl⟩ _ _ ⟨rfl, rfl⟩ a w30 Z Y
 replace Z : Fr 160 [(156, _), (157, _), (2, _), (4, _), (5, _), (8, _), (9, _), (10, _), (11, _), (12, _), (13, _), (14, _), (15, _), (16, _), (17, _), (18, _), (19, _), (20, _), (21, _), (22, _), (23, _), (24, _), (25, _), (26, _), (27, _), (28, _), (101, _), (102, _), (103, _), (104, _), (105, _), (106, _), (107, _), (108, _), (109, _), (110, _), (111, _), (112, _), (113, _), (114, _), (115, _), (116, _), (117, _), (118, _), (119, _), (120, _), (121, _), (122, _), (123, _), (124, _), (125, _), (126, _), (127, _), (128, _), (129, _), (130, _), (131, _), (132, _), (133, _), (134, _), (135, _), (136, _), (137, _), (138, _), (139, _), (140, _), (141, _), (142, _), (143, _), (144, _), (145, _), (146, _), (147, _), (148, _), (149, _), (150, _), (151, _), (152, _), (153, _), (154, _), (155, _)] [] a := Z
 replace Y : St No w0 [_, _, _, _, _, _, _, _] w30 := Y
 refine ab <| aP (k := 57) 60 [59] kr kr kr ?_
 refine aF Z Y de rfl de rfl call22 rfl (kS (y := .bool true) (eI ss ss vl5 vl7 _ (Y.ow 1 rfl) (Y.ow 0 rfl)) sm) ?_
 clear Z Y
 intro a w31 Z Y
 refine wlv Z (au rfl rfl) fun a Z => wla Z rfl fun a Z => ab <| bt kr ?_
 refine hK12 _ _ ?_
 replace Z := Z.p1 8 rfl
 replace Y : St No w0 [] w31 := Y.mask [false, false, false, false, false, false, false, false]
 refine ap ?_
 refine aj Z results8 (ae rfl ag) ?_
 exact ⟨by rfl, Y.ext⟩
end Go.Proofs.YtncbabejopafjaaGreatDoor.K16
namespace Go.Proofs.YtncbabejopafjaaGreatDoor.K16
end Go.Proofs.YtncbabejopafjaaGreatDoor.K16
namespace Go.Proofs.YtncbabejopafjaaGreatDoor.K16
open Go.RowKit Go.PW _root_.Go.Proofs.Tryz
theorem ea {P : Program} {w : World} {L : List (Nat × Value)} {dst : Option Tmp} {ty : TypeId} {pos : String} {af : Array Edge} {gd : Option (Nat × Bool)} {x : Operand} {v : Value} {sz q i : Nat} {els : List (List Value)} (hs : SlAt w v sz els) (hi : i < els.length) (hx : ev L x = some (slAddr v q)) : OpV P ⟨dst, .nilCheck x, ty, pos, af, gd⟩ L w (slAddr v q) := by
 obtain ⟨b, off, cap, rfl, _⟩ := hs.at hi
 exact bf hx
structure BentR where
 rl : Rul
 cl : Clm
 l : List Evt
 v : Value
def Clm.z : Clm := ⟨0, 0, 0, 0, 0, false⟩
def Evt.z : Evt := ⟨0, 0, 0⟩
theorem iw {l : List Evt} {k j : Nat} {e : Evt} {us : List Value} {h : k < (l.map Evt.cells).length} (he : splice (l.getD k Evt.z).cells j us = e.cells) : (l.map Evt.cells).set k (splice (l.map Evt.cells)[k] j us) = (l.set k e).map Evt.cells := by
 have : (l.map Evt.cells)[k] = (l.getD k Evt.z).cells := by
  have hk : k < l.length := by simpa using h
  rw [List.getElem_map, List.getD_eq_getElem?_getD, List.getElem?_eq_getElem hk]; rfl
 rw [this, he, List.map_set]
theorem nQ {kv lv : Value} {ks : List By} {x : Wsh} {ps : List Pxy} {n t : Int} {b : Bool} {w0 : World} (hkv : SlAt w0 kv 1 (ks.map fun s => [sv s])) (hlv : SlAt w0 lv 7 (ps.map Pxy.cells)) (h : validH ks x ps n t = b) :
  Ret Tryz.prog 41 #[kv, .agg #[iv x.signer, iv x.holder, iv x.rf, iv x.rt, iv x.carrier, iv x.serial, iv x.sf, iv x.st, sv x.sig], lv, iv n, iv t] w0 fun v w => v = .bool b ∧ Ext No w0 w := by
 have := _root_.Go.Proofs.YtncbabejopafjaaGreatDoor.rvalid_ok kv lv ks x ps n t w0 hkv hlv
 rw [h] at this
 exact this
def backT (ks : List By) (x : Wsh) (ps : List Pxy) (cl : Clm) : Clm × Int := if bS cl = true then (⟨cl.number, cl.frm, cl.to, cl.holder, cl.asked, decide (x.carrier = cl.to) && decide (x.holder = cl.holder) && validH ks x ps cl.number cl.asked⟩, 0) else (Clm.z, 160)
theorem eqClm (b : Clm) (w : World) : (Op.equal 31 (.agg #[iv b.number, iv b.frm, iv b.to, iv b.holder, iv b.asked, .bool b.backed]) (.agg #[iv b.number, iv b.frm, iv b.to, iv b.holder, iv b.asked, .bool b.backed])).run Tryz.prog w = .ok true w := by
 unfold Op.equal Op.maxDepth
 obtain ⟨dd, hd⟩ : ∃ dd, 10000 = dd + 1 + 1 := ⟨9998, rfl⟩
 rw [hd, run_equalIn_struct w (dd + 1) 31 _ _ kr kr]
 simp only [Program.fieldsOf, underlying31, Op.eqFields]
 simp [part, isAgg3, isAgg4, Op.equalIn, run_underlying underlying3, run_underlying underlying4]
theorem pk2 {c n k : Int} {f : FuncId} {args : Array Value} {w : World} (hk : pick c n = k) (h : Ret Tryz.prog f args w fun v w' => v = iv (pick c n) ∧ Ext No w w') : Ret Tryz.prog f args w fun v w' => v = iv k ∧ Ext No w w' := by subst hk; exact h
theorem nC (rl : Rul) (cl : Clm) (lev : Value) (l : List Evt) (how n at_ : Int) (w0 : World) (hsv : SlAt w0 lev 3 (l.map Evt.cells)) (h1 : isI64 how) (h2 : isI64 n) (h3 : isI64 at_) (hll : l.length ≤ 20) :
  Ret Tryz.prog 6 #[.agg #[iv rl.answer, iv rl.cooling, iv rl.settle, iv rl.reverse], .agg #[iv cl.number, iv cl.frm, iv cl.to, iv cl.holder, iv cl.asked, .bool cl.backed], lev, iv how, iv n, iv at_] w0 (MemR w0 (fun x : BentR => .tuple #[x.rl.val, x.cl.val, x.v]) (fun x => [own x.v 64 3 (x.l.map Evt.cells)]) (fun _ => True)) := by
 unfold isI64 at h1 h2 h3
 obtain ⟨pk14, hpk14⟩ : ∃ k, pick how 14 = k := ⟨_, rfl⟩
 obtain ⟨pn2, hpn2⟩ : ∃ k, pick n 2 = k := ⟨_, rfl⟩
 have hpb := bF n 2 om
 rw [hpn2] at hpb
 have hpc := bF how 14 om
 rw [hpk14] at hpc
 have evt_ones : ∀ {q : List Evt}, ∀ e ∈ q.map Evt.cells, ∀ u ∈ e, u.oneCell' = true := by
  intro q e he u hu
  obtain ⟨z, _, rfl⟩ := List.mem_map.1 he
  simp only [Evt.cells, List.mem_cons, List.not_mem_nil, or_false] at hu
  rcases hu with rfl | rfl | rfl <;> rfl
 refine aD func6 rfl ntmps6 (lb rfl) fun a Z => ?_
 replace Z := Z.p6 0 1 2 3 4 5 rfl
 replace Y : St No w0 [] w0 := St.init w0
 refine aa fun K1 hK1 => aG Z Y de rfl (cs := [iv rl.answer, iv rl.cooling, iv rl.settle, iv rl.reverse]) rfl ?_
 clear Z Y
 intro a w1 Z Y
 refine aG Z Y de rfl (cs := [iv cl.number, iv cl.frm, iv cl.to, iv cl.holder, iv cl.asked, .bool cl.backed]) rfl ?_
 clear Z Y
 intro a w2 Z Y
 refine aH Z Y de (zeroValue29 _) (cs := [iv 0, iv 0, iv 0, iv 0]) rfl ?_
 clear Z Y
 intro a w3 Z Y
 refine aH Z Y de (zeroValue31 _) (cs := [iv 0, iv 0, iv 0, iv 0, iv 0, .bool false]) rfl ?_
 clear Z Y
 intro a w4 Z Y
 refine wla Z rfl fun a Z => ab (hK1 _ _ <| aa fun K2 hK2 => ?_)
 refine aI (E := 64) (sz := 3) rfl [] kr sm rfl de de Z Y ?_
 clear Z Y
 intro a w5 Z Y
 refine wlm Z rfl fun a Z => fu (i := 0) (sT := 32) (inf := Tryz.t64) (z := .agg #[iv 0, iv 0, iv 0]) rfl rfl rfl (Y.arg hsv) underlying32 rfl rfl rfl rfl de (by exact evt_ones) (by have hby : Tryz.t64.bytes = 24 := rfl; simp only [big, hby, List.length_append, List.length_map, List.length_cons, List.length_nil]; omega) (by have hby : Tryz.t64.bytes = 24 := rfl; simp only [big, hby, List.length_append, List.length_map, List.length_cons, List.length_nil]; omega) de Z Y ?_
 clear Z Y
 intro a w6 s1 Z Y
 replace Y : St No w0 [own s1 64 3 ((l).map Evt.cells), blk w3.hz [iv 0, iv 0, iv 0, iv 0, iv 0, .bool false] 31, blk w2.hz [iv 0, iv 0, iv 0, iv 0] 29, blk w1.hz [iv cl.number, iv cl.frm, iv cl.to, iv cl.holder, iv cl.asked, .bool cl.backed] 31, blk w0.hz [iv rl.answer, iv rl.cooling, iv rl.settle, iv rl.reverse] 29] w6 := by simpa using Y
 refine wla Z rfl fun a Z => ab (hK2 _ _ ?_)
 replace Z := Z.p9 3 4 5 6 7 12 13 14 15 rfl
 refine aa fun K3 hK3 => wlm Z rfl fun a Z => aA Z Y de call26 rfl (pk2 (k := pk14) hpk14 (bA _ _ _ om om om om)) ?_
 clear Z Y
 intro a w7 Z Y
 refine wla Z rfl fun a Z => ab (hK3 _ _ <| ah fun K4 hK4 => ?_)
 refine aa fun K5 hK5 => wlm Z rfl fun a Z => wlv Z (v_ge rfl rfl) fun a Z => wlm Z rfl fun a Z => ?_
 refine bO (N := 111) (df := []) 4 [(29, .bool ((decide (11 ≤ pk14)) && (decide (0 < ((l).length : Int))))), (3, iv how), (4, iv n), (5, iv at_), (6, pt w0.hz), (7, pt w1.hz), (12, pt w2.hz), (13, pt w3.hz), (14, .slice none 0 0), (15, s1), (21, iv how), (22, iv pk14), (16, iv pk14)] ?_ (fun hj => ?_)
 rotate_left
 ·rcases Bool.eq_false_or_eq_true (decide (11 ≤ pk14)) with hb2 | hb2
  ·rw [hb2] at Z
   have hb2b := hb2
   try simp only [qz, Bool.and_eq_true, Bool.or_eq_true, Bool.and_eq_false_iff, Bool.or_eq_false_iff] at hb2
   refine wly Z (ak rfl) fun a Z => wly Z ((aL (sT := 32) (Y.ow 0 rfl) rfl rfl (runUnderlying32 _)).asi (m' := ((l).length : Int)) (by rw [List.length_map])) fun a Z => wly Z (v_gt rfl rfl) fun a Z => wlv Z (au rfl rfl) fun a Z => ?_
   refine hj _ ?_
   try rw [hb2b]
   exact Z.pick [29, 3, 4, 5, 6, 7, 12, 13, 14, 15, 21, 22, 16]
  rw [hb2] at Z
  have hb2b := hb2
  try simp only [qz, Bool.and_eq_true, Bool.or_eq_true, Bool.and_eq_false_iff, Bool.or_eq_false_iff] at hb2
  refine wln Z fun a Z => wln Z fun a Z => wln Z fun a Z => wlv Z (aq rfl rfl) fun a Z => ?_
  refine hj _ ?_
  try rw [hb2b]
  exact Z.pick [29, 3, 4, 5, 6, 7, 12, 13, 14, 15, 21, 22, 16]
 intro a Z
 refine ab (hK5 _ _ ?_)
 refine ax Z rfl (fun hc3 => ?_) (fun hc3 => ?_)
 ·rw [hc3] at Z
  try simp only [qz, Bool.and_eq_true, Bool.or_eq_true, Bool.and_eq_false_iff, Bool.or_eq_false_iff] at hc3
  obtain ⟨at1, hat1⟩ : ∃ k : Nat, pick at_ (l.length : Int) = (k : Int) := ⟨(pick at_ (l.length : Int)).toNat, (Int.toNat_of_nonneg (bF at_ _ om).1).symm⟩
  have hatb : at1 < l.length := by have := (bF at_ (l.length : Int) om).2; omega
  refine aa fun K6 hK6 => wlm Z rfl fun a Z => wlm Z rfl fun a Z => wlm Z rfl fun a Z => wlv Z ((aL (sT := 32) (Y.ow 0 rfl) rfl rfl (runUnderlying32 _)).asi (m' := ((l).length : Int)) (by rw [List.length_map])) fun a Z => aA Z Y de call26 rfl (pk2 (k := (at1 : Int)) hat1 (bA _ _ _ om om om om)) ?_
  clear Z Y
  intro a w8 Z Y
  refine wlv Z ((ao (i := (at1 : Int)) (sT := 32) (Y.ow 0 rfl) rfl rfl (runUnderlying32 _) (sizeOf64 _) om (by rw [List.length_map]; exact hatb)).as (v' := slAddr s1 (at1 * 3)) (by rw [show ((at1 : Int)).toNat = at1 from by omega])) fun a Z => wla Z rfl fun a Z => ab (hK6 _ _ ?_)
  replace Z := Z.p9 4 6 7 12 13 14 15 16 17 rfl
  refine ah fun K7 hK7 => aa fun K8 hK8 => wlm Z rfl fun a Z => ab (hK8 _ _ ?_)
  refine cO (fun a w => ∃ (ol : List Evt), Fr 111 [(4, iv n), (6, pt w0.hz), (7, pt w1.hz), (12, pt w2.hz), (13, pt w3.hz), (14, .slice none 0 0), (15, s1), (16, iv pk14)] [] a ∧ St No w0 [own s1 64 3 ((ol).map Evt.cells), blk w3.hz [iv 0, iv 0, iv 0, iv 0, iv 0, .bool false] 31, blk w2.hz [iv 0, iv 0, iv 0, iv 0] 29, blk w1.hz [iv cl.number, iv cl.frm, iv cl.to, iv cl.holder, iv cl.asked, .bool cl.backed] 31, blk w0.hz [iv rl.answer, iv rl.cooling, iv rl.settle, iv rl.reverse] 29] w) ?_ ?_
  ·refine ay <| aa fun K9 hK9 => wlv Z (v_eq rfl rfl) fun a Z => wla Z rfl fun a Z => ab (hK9 _ _ ?_)
   refine ax Z rfl (fun hc4 => ?_) (fun hc4 => ?_)
   ·rw [hc4] at Z
    try simp only [qz, Bool.and_eq_true, Bool.or_eq_true, Bool.and_eq_false_iff, Bool.or_eq_false_iff] at hc4
    refine ar <| wlm Z rfl fun a Z => wlm Z rfl fun a Z => wlv Z (ea (Y.ow 0 rfl) (i := at1) (by rw [List.length_map]; exact hatb) rfl) fun a Z => wlv Z (bo (k := at1 * 3) (j := 0) (Y.ow 0 rfl) (i := at1) (by rw [List.length_map]; exact hatb) rfl (fun _ _ => by kernel_rfl)) fun a Z => dI (k := at1) (j := 0) 0 Z Y rfl rfl rfl (by rw [List.length_map]; exact hatb) rfx (sizeOf3 _) (by intro z hz; simp [Value.cells] at hz; subst hz; rfl) (lb rfl) (els' := ((l.set at1 ⟨n, (l.getD at1 Evt.z).at_, (l.getD at1 Evt.z).reason⟩).map Evt.cells)) (iw rfl) rfl ?_
    clear Z Y
    intro a w9 Z Y
    refine ab ?_
    exact ⟨l.set at1 ⟨n, (l.getD at1 Evt.z).at_, (l.getD at1 Evt.z).reason⟩, Z.pick [4, 6, 7, 12, 13, 14, 15, 16], Y.select [0, 1, 2, 3, 4] de⟩
   rw [hc4] at Z
   try simp only [qz, Bool.and_eq_true, Bool.or_eq_true, Bool.and_eq_false_iff, Bool.or_eq_false_iff] at hc4
   refine aa fun K10 hK10 => wlv Z (v_eq rfl rfl) fun a Z => wla Z rfl fun a Z => ab (hK10 _ _ ?_)
   refine ax Z rfl (fun hc5 => ?_) (fun hc5 => ?_)
   ·rw [hc5] at Z
    try simp only [qz, Bool.and_eq_true, Bool.or_eq_true, Bool.and_eq_false_iff, Bool.or_eq_false_iff] at hc5
    refine ar <| wlm Z rfl fun a Z => wlm Z rfl fun a Z => wlv Z (ea (Y.ow 0 rfl) (i := at1) (by rw [List.length_map]; exact hatb) rfl) fun a Z => wlv Z (bo (k := at1 * 3) (j := 1) (Y.ow 0 rfl) (i := at1) (by rw [List.length_map]; exact hatb) rfl (fun _ _ => by kernel_rfl)) fun a Z => dI (k := at1) (j := 1) 0 Z Y rfl rfl rfl (by rw [List.length_map]; exact hatb) rfx (sizeOf3 _) (by intro z hz; simp [Value.cells] at hz; subst hz; rfl) (lb rfl) (els' := ((l.set at1 ⟨(l.getD at1 Evt.z).kind, n, (l.getD at1 Evt.z).reason⟩).map Evt.cells)) (iw rfl) rfl ?_
    clear Z Y
    intro a w10 Z Y
    refine ab ?_
    exact ⟨l.set at1 ⟨(l.getD at1 Evt.z).kind, n, (l.getD at1 Evt.z).reason⟩, Z.pick [4, 6, 7, 12, 13, 14, 15, 16], Y.select [0, 1, 2, 3, 4] de⟩
   rw [hc5] at Z
   try simp only [qz, Bool.and_eq_true, Bool.or_eq_true, Bool.and_eq_false_iff, Bool.or_eq_false_iff] at hc5
   refine ar <| wlm Z rfl fun a Z => wlm Z rfl fun a Z => wlv Z (ea (Y.ow 0 rfl) (i := at1) (by rw [List.length_map]; exact hatb) rfl) fun a Z => wlv Z (bo (k := at1 * 3) (j := 2) (Y.ow 0 rfl) (i := at1) (by rw [List.length_map]; exact hatb) rfl (fun _ _ => by kernel_rfl)) fun a Z => dI (k := at1) (j := 2) 0 Z Y rfl rfl rfl (by rw [List.length_map]; exact hatb) rfx (sizeOf3 _) (by intro z hz; simp [Value.cells] at hz; subst hz; rfl) (lb rfl) (els' := ((l.set at1 ⟨(l.getD at1 Evt.z).kind, (l.getD at1 Evt.z).at_, n⟩).map Evt.cells)) (iw rfl) rfl ?_
   clear Z Y
   intro a w11 Z Y
   refine ab ?_
   exact ⟨l.set at1 ⟨(l.getD at1 Evt.z).kind, (l.getD at1 Evt.z).at_, n⟩, Z.pick [4, 6, 7, 12, 13, 14, 15, 16], Y.select [0, 1, 2, 3, 4] de⟩
  rintro a w12 ⟨ol, Z, Y⟩
  refine hK7 _ _ <| ah fun K11 hK11 => aK kr (aU kr fun w13 hxz => ?_)
  replace Y := Y.grow hxz
  refine aV (k := 0) 5 [2, 4] Z kr kr kr rfx ?_
  replace Z := Z.p8 4 6 7 12 13 14 15 16 rfl
  replace Y : St No w0 [blk w2.hz [iv 0, iv 0, iv 0, iv 0] 29, blk w3.hz [iv 0, iv 0, iv 0, iv 0, iv 0, .bool false] 31, own s1 64 3 ((ol).map Evt.cells), blk w1.hz [iv cl.number, iv cl.frm, iv cl.to, iv cl.holder, iv cl.asked, .bool cl.backed] 31, blk w0.hz [iv rl.answer, iv rl.cooling, iv rl.settle, iv rl.reverse] 29] w13 := Y.select [2, 1, 0, 3, 4] de
  refine dA [3, 4] (fun q => if q = 3 then blk w2.hz [iv 0, iv 0, iv 0, iv 0] 29 else if q = 4 then blk w3.hz [iv 0, iv 0, iv 0, iv 0, iv 0, .bool false] 31 else join []) (fun q => if q = 3 then blk w2.hz [iv rl.answer, iv rl.cooling, iv rl.settle, iv rl.reverse] 29 else if q = 4 then blk w3.hz [iv cl.number, iv cl.frm, iv cl.to, iv cl.holder, iv cl.asked, .bool cl.backed] 31 else join []) 5 [[], [], [], [0], [1]] (fun i => match i with | 0 => pv (.agg #[iv rl.answer, iv rl.cooling, iv rl.settle, iv rl.reverse]) | 1 => pv (.agg #[iv cl.number, iv cl.frm, iv cl.to, iv cl.holder, iv cl.asked, .bool cl.backed]) | 2 => pv (s1) | 3 => fun v E => v = undef ∧ E = [] | 4 => fun v E => v = undef ∧ E = [] | _ => fun _ _ => False) (by intro q; by_cases h3 : q = 3; (subst h3; rfl); by_cases h4 : q = 4; (subst h4; rfl); simp only [h3, h4, if_false]) Z (H := [own s1 64 3 ((ol).map Evt.cells), blk w1.hz [iv cl.number, iv cl.frm, iv cl.to, iv cl.holder, iv cl.asked, .bool cl.backed] 31, blk w0.hz [iv rl.answer, iv rl.cooling, iv rl.settle, iv rl.reverse] 29]) Y kr kr kr kr de de ?_ ?_ ?_ ?_ ?_ ?_
  ·intro i v E h
   match i, h with
   | 0, _ => exact by decide
   | 1, _ => exact by decide
   | 2, _ => exact by decide
   | 3, _ => exact by decide
   | 4, _ => exact by decide
   | i + 5, h => exact h.elim
  ·intro q v E hq h
   simp only [List.mem_cons, List.not_mem_nil, or_false] at hq
   rcases hq with rfl | rfl <;> exact h
  ·intro q hq
   simp only [List.mem_cons, List.not_mem_nil, or_false] at hq
   rcases hq with rfl | rfl <;> exact ⟨rfl, rfl⟩
  ·intro i hi hiq e
   match i, hi, hiq with
   | 0, _, _ => exact fun w Y => OpV.g (ai (Y.g 3 rfl) rfl (isAgg29 _) (sizeOf29 _))
   | 1, _, _ => exact fun w Y => OpV.g (ai (Y.g 2 rfl) rfl (isAgg31 _) (sizeOf31 _))
   | 2, _, _ => exact fun w Y => OpV.g (ak rfl)
   | 3, _, h => exact absurd de h
   | 4, _, h => exact absurd de h
  ·intro q hq
   simp only [List.mem_cons, List.not_mem_nil, or_false] at hq
   rcases hq with rfl | rfl
   ·rintro _ _ ⟨rfl, rfl⟩
    intro w h
    exact cA (cs := [iv 0, iv 0, iv 0, iv 0]) (ds := [iv rl.answer, iv rl.cooling, iv rl.settle, iv rl.reverse]) rfl rfl h (sizeOf29 _) rfl (lb rfl) rfl
   ·rintro _ _ ⟨rfl, rfl⟩
    intro w h
    exact cA (cs := [iv 0, iv 0, iv 0, iv 0, iv 0, .bool false]) (ds := [iv cl.number, iv cl.frm, iv cl.to, iv cl.holder, iv cl.asked, .bool cl.backed]) rfl rfl h (sizeOf31 _) rfl (lb rfl) rfl
  clear Z Y
  rintro _ _ ⟨rfl, rfl⟩ _ _ ⟨rfl, rfl⟩ _ _ ⟨rfl, rfl⟩ a w14 Z Y
  replace Z := Z.p11 53 54 55 4 6 7 12 13 14 15 16 rfl
  replace Y : St No w0 [_, _, _, _, _] w14 := Y
  refine ab <| aP (k := 5) 6 [5] kr kr kr ?_
  refine wla Z rfl fun a Z => ab <| bt kr ?_
  refine hK11 _ _ <| ap ?_
  refine aj Z results6 (aB rfl (bB (Y.g 0 rfl) (isAgg29 _) (sizeOf29 _)) (aB rfl (bB (Y.g 1 rfl) (isAgg31 _) (sizeOf31 _)) (ae rfl ag))) ?_
  exact ⟨⟨⟨rl.answer, rl.cooling, rl.settle, rl.reverse⟩, ⟨cl.number, cl.frm, cl.to, cl.holder, cl.asked, cl.backed⟩, ol, s1⟩, rfl, trivial, Y.ext, St.out (E := [own s1 64 3 ((ol).map Evt.cells)]) (H := []) (Y.select [2] de)⟩
 rw [hc3] at Z
 try simp only [qz, Bool.and_eq_true, Bool.or_eq_true, Bool.and_eq_false_iff, Bool.or_eq_false_iff] at hc3
 refine az <| hK4 _ _ <| ah fun K12 hK12 => aa fun K13 hK13 => wlm Z rfl fun a Z => ab (hK13 _ _ ?_)
 replace Z := Z.p8 4 6 7 12 13 14 15 56 rfl
 refine cO (fun a w => ∃ (rr : Rul), ∃ (cc : Clm), ∃ (ol : List Evt), ∃ (ov : Value), Fr 111 [(6, pt w0.hz), (7, pt w1.hz), (12, pt w2.hz), (13, pt w3.hz), (14, .slice none 0 0), (15, ov)] [] a ∧ St No w0 [own ov 64 3 ((ol).map Evt.cells), blk w3.hz [iv 0, iv 0, iv 0, iv 0, iv 0, .bool false] 31, blk w2.hz [iv 0, iv 0, iv 0, iv 0] 29, blk w1.hz [iv cc.number, iv cc.frm, iv cc.to, iv cc.holder, iv cc.asked, .bool cc.backed] 31, blk w0.hz [iv rr.answer, iv rr.cooling, iv rr.settle, iv rr.reverse] 29] w) ?_ ?_
 ·refine ay <| aa fun K14 hK14 => wlv Z (v_eq rfl rfl) fun a Z => wla Z rfl fun a Z => ab (hK14 _ _ ?_)
  refine ax Z rfl (fun hc6 => ?_) (fun hc6 => ?_)
  ·rw [hc6] at Z
   try simp only [qz, Bool.and_eq_true, Bool.or_eq_true, Bool.and_eq_false_iff, Bool.or_eq_false_iff] at hc6
   refine ar <| wlm Z rfl fun a Z => wlv Z (ac (v := pt w0.hz) rfl kr) fun a Z => am 4 Z Y rfl rfl rfl (sizeOf3 _) rfl (lb rfl) (ds := [iv n, iv rl.cooling, iv rl.settle, iv rl.reverse]) rfl rfl ?_
   clear Z Y
   intro a w15 Z Y
   refine ab ?_
   exact ⟨⟨n, rl.cooling, rl.settle, rl.reverse⟩, ⟨cl.number, cl.frm, cl.to, cl.holder, cl.asked, cl.backed⟩, l, s1, Z.pick [6, 7, 12, 13, 14, 15], Y.select [0, 1, 2, 3, 4] de⟩
  rw [hc6] at Z
  try simp only [qz, Bool.and_eq_true, Bool.or_eq_true, Bool.and_eq_false_iff, Bool.or_eq_false_iff] at hc6
  refine aa fun K15 hK15 => wlv Z (v_eq rfl rfl) fun a Z => wla Z rfl fun a Z => ab (hK15 _ _ ?_)
  refine ax Z rfl (fun hc7 => ?_) (fun hc7 => ?_)
  ·rw [hc7] at Z
   try simp only [qz, Bool.and_eq_true, Bool.or_eq_true, Bool.and_eq_false_iff, Bool.or_eq_false_iff] at hc7
   refine ar <| wlm Z rfl fun a Z => wlv Z (ac (v := po w0.hz 1) rfl kr) fun a Z => am 4 Z Y rfl rfl rfl (sizeOf3 _) rfl (lb rfl) (ds := [iv rl.answer, iv n, iv rl.settle, iv rl.reverse]) rfl rfl ?_
   clear Z Y
   intro a w16 Z Y
   refine ab ?_
   exact ⟨⟨rl.answer, n, rl.settle, rl.reverse⟩, ⟨cl.number, cl.frm, cl.to, cl.holder, cl.asked, cl.backed⟩, l, s1, Z.pick [6, 7, 12, 13, 14, 15], Y.select [0, 1, 2, 3, 4] de⟩
  rw [hc7] at Z
  try simp only [qz, Bool.and_eq_true, Bool.or_eq_true, Bool.and_eq_false_iff, Bool.or_eq_false_iff] at hc7
  refine aa fun K16 hK16 => wlv Z (v_eq rfl rfl) fun a Z => wla Z rfl fun a Z => ab (hK16 _ _ ?_)
  refine ax Z rfl (fun hc8 => ?_) (fun hc8 => ?_)
  ·rw [hc8] at Z
   try simp only [qz, Bool.and_eq_true, Bool.or_eq_true, Bool.and_eq_false_iff, Bool.or_eq_false_iff] at hc8
   refine ar <| wlm Z rfl fun a Z => wlv Z (ac (v := po w0.hz 2) rfl kr) fun a Z => am 4 Z Y rfl rfl rfl (sizeOf3 _) rfl (lb rfl) (ds := [iv rl.answer, iv rl.cooling, iv n, iv rl.reverse]) rfl rfl ?_
   clear Z Y
   intro a w17 Z Y
   refine ab ?_
   exact ⟨⟨rl.answer, rl.cooling, n, rl.reverse⟩, ⟨cl.number, cl.frm, cl.to, cl.holder, cl.asked, cl.backed⟩, l, s1, Z.pick [6, 7, 12, 13, 14, 15], Y.select [0, 1, 2, 3, 4] de⟩
  rw [hc8] at Z
  try simp only [qz, Bool.and_eq_true, Bool.or_eq_true, Bool.and_eq_false_iff, Bool.or_eq_false_iff] at hc8
  refine aa fun K17 hK17 => wlv Z (v_eq rfl rfl) fun a Z => wla Z rfl fun a Z => ab (hK17 _ _ ?_)
  replace Z := Z.p9 4 6 7 12 13 14 15 56 79 rfl
  refine ax Z rfl (fun hc9 => ?_) (fun hc9 => ?_)
  ·rw [hc9] at Z
   try simp only [qz, Bool.and_eq_true, Bool.or_eq_true, Bool.and_eq_false_iff, Bool.or_eq_false_iff] at hc9
   refine ar <| wlm Z rfl fun a Z => wlv Z (ac (v := po w0.hz 3) rfl kr) fun a Z => am 4 Z Y rfl rfl rfl (sizeOf3 _) rfl (lb rfl) (ds := [iv rl.answer, iv rl.cooling, iv rl.settle, iv n]) rfl rfl ?_
   clear Z Y
   intro a w18 Z Y
   refine ab ?_
   exact ⟨⟨rl.answer, rl.cooling, rl.settle, n⟩, ⟨cl.number, cl.frm, cl.to, cl.holder, cl.asked, cl.backed⟩, l, s1, Z.pick [6, 7, 12, 13, 14, 15], Y.select [0, 1, 2, 3, 4] de⟩
  rw [hc9] at Z
  try simp only [qz, Bool.and_eq_true, Bool.or_eq_true, Bool.and_eq_false_iff, Bool.or_eq_false_iff] at hc9
  refine aa fun K18 hK18 => wlv Z (v_eq rfl rfl) fun a Z => wla Z rfl fun a Z => ab (hK18 _ _ ?_)
  refine ax Z rfl (fun hc10 => ?_) (fun hc10 => ?_)
  ·rw [hc10] at Z
   try simp only [qz, Bool.and_eq_true, Bool.or_eq_true, Bool.and_eq_false_iff, Bool.or_eq_false_iff] at hc10
   refine ar <| wlm Z rfl fun a Z => wlv Z (ac (v := pt w1.hz) rfl kr) fun a Z => am 3 Z Y rfl rfl rfl (sizeOf3 _) rfl (lb rfl) (ds := [iv n, iv cl.frm, iv cl.to, iv cl.holder, iv cl.asked, .bool cl.backed]) rfl rfl ?_
   clear Z Y
   intro a w19 Z Y
   refine ab ?_
   exact ⟨⟨rl.answer, rl.cooling, rl.settle, rl.reverse⟩, ⟨n, cl.frm, cl.to, cl.holder, cl.asked, cl.backed⟩, l, s1, Z.pick [6, 7, 12, 13, 14, 15], Y.select [0, 1, 2, 3, 4] de⟩
  rw [hc10] at Z
  try simp only [qz, Bool.and_eq_true, Bool.or_eq_true, Bool.and_eq_false_iff, Bool.or_eq_false_iff] at hc10
  refine aa fun K19 hK19 => wlv Z (v_eq rfl rfl) fun a Z => wla Z rfl fun a Z => ab (hK19 _ _ ?_)
  refine ax Z rfl (fun hc11 => ?_) (fun hc11 => ?_)
  ·rw [hc11] at Z
   try simp only [qz, Bool.and_eq_true, Bool.or_eq_true, Bool.and_eq_false_iff, Bool.or_eq_false_iff] at hc11
   refine ar <| wlm Z rfl fun a Z => wlv Z (ac (v := po w1.hz 1) rfl kr) fun a Z => am 3 Z Y rfl rfl rfl (sizeOf3 _) rfl (lb rfl) (ds := [iv cl.number, iv n, iv cl.to, iv cl.holder, iv cl.asked, .bool cl.backed]) rfl rfl ?_
   clear Z Y
   intro a w20 Z Y
   refine ab ?_
   exact ⟨⟨rl.answer, rl.cooling, rl.settle, rl.reverse⟩, ⟨cl.number, n, cl.to, cl.holder, cl.asked, cl.backed⟩, l, s1, Z.pick [6, 7, 12, 13, 14, 15], Y.select [0, 1, 2, 3, 4] de⟩
  rw [hc11] at Z
  try simp only [qz, Bool.and_eq_true, Bool.or_eq_true, Bool.and_eq_false_iff, Bool.or_eq_false_iff] at hc11
  refine aa fun K20 hK20 => wlv Z (v_eq rfl rfl) fun a Z => wla Z rfl fun a Z => ab (hK20 _ _ ?_)
  replace Z := Z.p9 4 6 7 12 13 14 15 56 91 rfl
  refine ax Z rfl (fun hc12 => ?_) (fun hc12 => ?_)
  ·rw [hc12] at Z
   try simp only [qz, Bool.and_eq_true, Bool.or_eq_true, Bool.and_eq_false_iff, Bool.or_eq_false_iff] at hc12
   refine ar <| wlm Z rfl fun a Z => wlv Z (ac (v := po w1.hz 2) rfl kr) fun a Z => am 3 Z Y rfl rfl rfl (sizeOf3 _) rfl (lb rfl) (ds := [iv cl.number, iv cl.frm, iv n, iv cl.holder, iv cl.asked, .bool cl.backed]) rfl rfl ?_
   clear Z Y
   intro a w21 Z Y
   refine ab ?_
   exact ⟨⟨rl.answer, rl.cooling, rl.settle, rl.reverse⟩, ⟨cl.number, cl.frm, n, cl.holder, cl.asked, cl.backed⟩, l, s1, Z.pick [6, 7, 12, 13, 14, 15], Y.select [0, 1, 2, 3, 4] de⟩
  rw [hc12] at Z
  try simp only [qz, Bool.and_eq_true, Bool.or_eq_true, Bool.and_eq_false_iff, Bool.or_eq_false_iff] at hc12
  refine aa fun K21 hK21 => wlv Z (v_eq rfl rfl) fun a Z => wla Z rfl fun a Z => ab (hK21 _ _ ?_)
  refine ax Z rfl (fun hc13 => ?_) (fun hc13 => ?_)
  ·rw [hc13] at Z
   try simp only [qz, Bool.and_eq_true, Bool.or_eq_true, Bool.and_eq_false_iff, Bool.or_eq_false_iff] at hc13
   refine ar <| wlm Z rfl fun a Z => wlv Z (ac (v := po w1.hz 3) rfl kr) fun a Z => am 3 Z Y rfl rfl rfl (sizeOf3 _) rfl (lb rfl) (ds := [iv cl.number, iv cl.frm, iv cl.to, iv n, iv cl.asked, .bool cl.backed]) rfl rfl ?_
   clear Z Y
   intro a w22 Z Y
   refine ab ?_
   exact ⟨⟨rl.answer, rl.cooling, rl.settle, rl.reverse⟩, ⟨cl.number, cl.frm, cl.to, n, cl.asked, cl.backed⟩, l, s1, Z.pick [6, 7, 12, 13, 14, 15], Y.select [0, 1, 2, 3, 4] de⟩
  rw [hc13] at Z
  try simp only [qz, Bool.and_eq_true, Bool.or_eq_true, Bool.and_eq_false_iff, Bool.or_eq_false_iff] at hc13
  refine aa fun K22 hK22 => wlv Z (v_eq rfl rfl) fun a Z => wla Z rfl fun a Z => ab (hK22 _ _ ?_)
  refine ax Z rfl (fun hc14 => ?_) (fun hc14 => ?_)
  ·rw [hc14] at Z
   try simp only [qz, Bool.and_eq_true, Bool.or_eq_true, Bool.and_eq_false_iff, Bool.or_eq_false_iff] at hc14
   refine ar <| wlm Z rfl fun a Z => wlv Z (ac (v := po w1.hz 4) rfl kr) fun a Z => am 3 Z Y rfl rfl rfl (sizeOf3 _) rfl (lb rfl) (ds := [iv cl.number, iv cl.frm, iv cl.to, iv cl.holder, iv n, .bool cl.backed]) rfl rfl ?_
   clear Z Y
   intro a w23 Z Y
   refine ab ?_
   exact ⟨⟨rl.answer, rl.cooling, rl.settle, rl.reverse⟩, ⟨cl.number, cl.frm, cl.to, cl.holder, n, cl.backed⟩, l, s1, Z.pick [6, 7, 12, 13, 14, 15], Y.select [0, 1, 2, 3, 4] de⟩
  rw [hc14] at Z
  try simp only [qz, Bool.and_eq_true, Bool.or_eq_true, Bool.and_eq_false_iff, Bool.or_eq_false_iff] at hc14
  refine aa fun K23 hK23 => wlv Z (v_eq rfl rfl) fun a Z => wla Z rfl fun a Z => ab (hK23 _ _ ?_)
  replace Z := Z.p8 4 6 7 12 13 14 15 103 rfl
  refine ax Z rfl (fun hc15 => ?_) (fun hc15 => ?_)
  ·rw [hc15] at Z
   try simp only [qz, Bool.and_eq_true, Bool.or_eq_true, Bool.and_eq_false_iff, Bool.or_eq_false_iff] at hc15
   refine ar <| wlv Z (ac (v := po w1.hz 1) rfl kr) fun a Z => wlv Z (ld Y 3 rfl rfl (isAgg3 _) rfl) fun a Z => wlv Z (ac (v := po w1.hz 2) rfl kr) fun a Z => am 3 Z Y rfl rfl rfl (sizeOf3 _) rfl (lb rfl) (ds := [iv cl.number, iv cl.frm, iv cl.frm, iv cl.holder, iv cl.asked, .bool cl.backed]) rfl rfl ?_
   clear Z Y
   intro a w24 Z Y
   refine ab ?_
   exact ⟨⟨rl.answer, rl.cooling, rl.settle, rl.reverse⟩, ⟨cl.number, cl.frm, cl.frm, cl.holder, cl.asked, cl.backed⟩, l, s1, Z.pick [6, 7, 12, 13, 14, 15], Y.select [0, 1, 2, 3, 4] de⟩
  rw [hc15] at Z
  try simp only [qz, Bool.and_eq_true, Bool.or_eq_true, Bool.and_eq_false_iff, Bool.or_eq_false_iff] at hc15
  refine ay <| bj (fun m a w => ∃ (ol : List Evt) (ov2 : Value), m = 40 - ol.length ∧ (ol.length ≤ 200 + l.length) ∧ Fr 111 [(4, iv n), (6, pt w0.hz), (7, pt w1.hz), (12, pt w2.hz), (13, pt w3.hz), (14, .slice none 0 0), (15, ov2)] [] a ∧ St No w0 [own ov2 64 3 ((ol).map Evt.cells), blk w3.hz [iv 0, iv 0, iv 0, iv 0, iv 0, .bool false] 31, blk w2.hz [iv 0, iv 0, iv 0, iv 0] 29, blk w1.hz [iv cl.number, iv cl.frm, iv cl.to, iv cl.holder, iv cl.asked, .bool cl.backed] 31, blk w0.hz [iv rl.answer, iv rl.cooling, iv rl.settle, iv rl.reverse] 29] w) _ ⟨l, s1, rfl, om, Z.pick [4, 6, 7, 12, 13, 14, 15], Y.select [0, 1, 2, 3, 4] de⟩ ?_
  rintro _ a w25 ⟨ol, ov2, rfl, hol, Z, Y⟩
  refine ah fun K24 hK24 => aa fun K25 hK25 => wlm Z rfl fun a Z => wlv Z ((aL (sT := 32) (Y.ow 0 rfl) rfl rfl (runUnderlying32 _)).asi (m' := ((ol).length : Int)) (by rw [List.length_map])) fun a Z => wlm Z rfl fun a Z => aA Z Y de call26 rfl (pk2 (k := pn2) hpn2 (bA _ _ _ om om om om)) ?_
  clear Z Y
  intro a w26 Z Y
  refine wlv Z (aS rfl rfl ⟨om, om⟩) fun a Z => wlv Z (v_lt rfl rfl) fun a Z => ab (hK25 _ _ ?_)
  refine ax Z rfl (fun hc16 => ?_) (fun hc16 => ?_)
  ·rw [hc16] at Z
   try simp only [qz, Bool.and_eq_true, Bool.or_eq_true, Bool.and_eq_false_iff, Bool.or_eq_false_iff] at hc16
   refine az <| hK24 _ _ <| ay <| ar <| wlm Z rfl fun a Z => wlv Z (aY (v := .agg #[iv 1, iv 20000000, iv 0]) rfl kr) fun a Z => aI (E := 64) (sz := 3) rfl [[iv 1, iv 20000000, iv 0]] kr sm rfl de de Z Y ?_
   clear Z Y
   intro a w27 Z Y
   refine bG (i := 1) (sT := 32) (inf := Tryz.t64) (z := .agg #[iv 0, iv 0, iv 0]) (b := 0) (off := 0) (m := 0) (c := 0) rfl rfl rfl (Y.ow 0 rfl) sm underlying32 rfl rfl rfl rfl de (by simp [Value.oneCell', yv, wv, sv]) (by have hby : Tryz.t64.bytes = 24 := rfl; simp only [big, hby, List.length_append, List.length_map, List.length_cons, List.length_nil]; omega) (by have hby : Tryz.t64.bytes = 24 := rfl; simp only [big, hby, List.length_append, List.length_map, List.length_cons, List.length_nil]; omega) de Z Y fun a w28 s17 Z Y _ => ?_
   replace Y : St No w0 [own (.slice (some ⟨w26.hz, 0, none⟩) 1 1) 64 3 ([[iv 1, iv 20000000, iv 0]]), own s17 64 3 ((ol ++ [Evt.mk 1 20000000 0]).map Evt.cells), blk w3.hz [iv 0, iv 0, iv 0, iv 0, iv 0, .bool false] 31, blk w2.hz [iv 0, iv 0, iv 0, iv 0] 29, blk w1.hz [iv cl.number, iv cl.frm, iv cl.to, iv cl.holder, iv cl.asked, .bool cl.backed] 31, blk w0.hz [iv rl.answer, iv rl.cooling, iv rl.settle, iv rl.reverse] 29] w28 := by rw [List.map_append]; exact Y
   refine wla Z rfl fun a Z => ab ?_
   have hol2 : (ol ++ [Evt.mk 1 20000000 0]).length = ol.length + 1 := by rw [List.length_append]; rfl
   refine ⟨_, ?_, ol ++ [Evt.mk 1 20000000 0], s17, rfl, om, Z.pick [4, 6, 7, 12, 13, 14, 15], Y.select [1, 2, 3, 4, 5] de⟩
   omega
  rw [hc16] at Z
  try simp only [qz, Bool.and_eq_true, Bool.or_eq_true, Bool.and_eq_false_iff, Bool.or_eq_false_iff] at hc16
  refine aX ?_
  exact ⟨⟨rl.answer, rl.cooling, rl.settle, rl.reverse⟩, ⟨cl.number, cl.frm, cl.to, cl.holder, cl.asked, cl.backed⟩, ol, ov2, Z.pick [6, 7, 12, 13, 14, 15], Y.select [0, 1, 2, 3, 4] de⟩
 rintro a w29 ⟨rr, cc, ol, ov, Z, Y⟩
 refine hK12 _ _ <| ah fun K26 hK26 => aK kr (aU kr fun w30 hxz => ?_)
 replace Y := Y.grow hxz
 refine aV (k := 0) 5 [2, 4] Z kr kr kr rfx ?_
 replace Z := Z.p6 6 7 12 13 14 15 rfl
 replace Y : St No w0 [blk w2.hz [iv 0, iv 0, iv 0, iv 0] 29, blk w3.hz [iv 0, iv 0, iv 0, iv 0, iv 0, .bool false] 31, own ov 64 3 ((ol).map Evt.cells), blk w1.hz [iv cc.number, iv cc.frm, iv cc.to, iv cc.holder, iv cc.asked, .bool cc.backed] 31, blk w0.hz [iv rr.answer, iv rr.cooling, iv rr.settle, iv rr.reverse] 29] w30 := Y.select [2, 1, 0, 3, 4] de
 refine dA [3, 4] (fun q => if q = 3 then blk w2.hz [iv 0, iv 0, iv 0, iv 0] 29 else if q = 4 then blk w3.hz [iv 0, iv 0, iv 0, iv 0, iv 0, .bool false] 31 else join []) (fun q => if q = 3 then blk w2.hz [iv rr.answer, iv rr.cooling, iv rr.settle, iv rr.reverse] 29 else if q = 4 then blk w3.hz [iv cc.number, iv cc.frm, iv cc.to, iv cc.holder, iv cc.asked, .bool cc.backed] 31 else join []) 5 [[], [], [], [0], [1]] (fun i => match i with | 0 => pv (.agg #[iv rr.answer, iv rr.cooling, iv rr.settle, iv rr.reverse]) | 1 => pv (.agg #[iv cc.number, iv cc.frm, iv cc.to, iv cc.holder, iv cc.asked, .bool cc.backed]) | 2 => pv (ov) | 3 => fun v E => v = undef ∧ E = [] | 4 => fun v E => v = undef ∧ E = [] | _ => fun _ _ => False) (by intro q; by_cases h3 : q = 3; (subst h3; rfl); by_cases h4 : q = 4; (subst h4; rfl); simp only [h3, h4, if_false]) Z (H := [own ov 64 3 ((ol).map Evt.cells), blk w1.hz [iv cc.number, iv cc.frm, iv cc.to, iv cc.holder, iv cc.asked, .bool cc.backed] 31, blk w0.hz [iv rr.answer, iv rr.cooling, iv rr.settle, iv rr.reverse] 29]) Y kr kr kr kr de de ?_ ?_ ?_ ?_ ?_ ?_
 ·intro i v E h
  match i, h with
  | 0, _ => exact by decide
  | 1, _ => exact by decide
  | 2, _ => exact by decide
  | 3, _ => exact by decide
  | 4, _ => exact by decide
  | i + 5, h => exact h.elim
 ·intro q v E hq h
  simp only [List.mem_cons, List.not_mem_nil, or_false] at hq
  rcases hq with rfl | rfl <;> exact h
 ·intro q hq
  simp only [List.mem_cons, List.not_mem_nil, or_false] at hq
  rcases hq with rfl | rfl <;> exact ⟨rfl, rfl⟩
 ·intro i hi hiq e
  match i, hi, hiq with
  | 0, _, _ => exact fun w Y => OpV.g (ai (Y.g 3 rfl) rfl (isAgg29 _) (sizeOf29 _))
  | 1, _, _ => exact fun w Y => OpV.g (ai (Y.g 2 rfl) rfl (isAgg31 _) (sizeOf31 _))
  | 2, _, _ => exact fun w Y => OpV.g (ak rfl)
  | 3, _, h => exact absurd de h
  | 4, _, h => exact absurd de h
 ·intro q hq
  simp only [List.mem_cons, List.not_mem_nil, or_false] at hq
  rcases hq with rfl | rfl
  ·rintro _ _ ⟨rfl, rfl⟩
   intro w h
   exact cA (cs := [iv 0, iv 0, iv 0, iv 0]) (ds := [iv rr.answer, iv rr.cooling, iv rr.settle, iv rr.reverse]) rfl rfl h (sizeOf29 _) rfl (lb rfl) rfl
  ·rintro _ _ ⟨rfl, rfl⟩
   intro w h
   exact cA (cs := [iv 0, iv 0, iv 0, iv 0, iv 0, .bool false]) (ds := [iv cc.number, iv cc.frm, iv cc.to, iv cc.holder, iv cc.asked, .bool cc.backed]) rfl rfl h (sizeOf31 _) rfl (lb rfl) rfl
 clear Z Y
 rintro _ _ ⟨rfl, rfl⟩ _ _ ⟨rfl, rfl⟩ _ _ ⟨rfl, rfl⟩ a w31 Z Y
 replace Z := Z.p9 108 109 110 6 7 12 13 14 15 rfl
 replace Y : St No w0 [_, _, _, _, _] w31 := Y
 refine ab <| aP (k := 5) 6 [5] kr kr kr ?_
 refine wla Z rfl fun a Z => ab <| bt kr ?_
 refine hK26 _ _ ?_
 replace Z := Z.p3 12 13 14 rfl
 replace Y := Y.k4 23 rfl
 refine ap ?_
 refine aj Z results6 (aB rfl (bB (Y.g 0 rfl) (isAgg29 _) (sizeOf29 _)) (aB rfl (bB (Y.g 1 rfl) (isAgg31 _) (sizeOf31 _)) (ae rfl ag))) ?_
 exact ⟨⟨⟨rr.answer, rr.cooling, rr.settle, rr.reverse⟩, ⟨cc.number, cc.frm, cc.to, cc.holder, cc.asked, cc.backed⟩, ol, ov⟩, rfl, trivial, Y.ext, St.out (E := [own ov 64 3 ((ol).map Evt.cells)]) (H := []) (Y.select [2] de)⟩
theorem qe (kv lv : Value) (ks : List By) (x : Wsh) (ps : List Pxy) (cl : Clm) (w0 : World) (hkv : SlAt w0 kv 1 (ks.map fun s => [sv s])) (hlv : SlAt w0 lv 7 (ps.map Pxy.cells)) (hk0 : (blk 0 (kOf.map wv) 202).ok w0) :
  Ret Tryz.prog 11 #[kv, .agg #[iv x.signer, iv x.holder, iv x.rf, iv x.rt, iv x.carrier, iv x.serial, iv x.sf, iv x.st, sv x.sig], lv, .agg #[iv cl.number, iv cl.frm, iv cl.to, iv cl.holder, iv cl.asked, .bool cl.backed]] w0 fun v w => v = .tuple #[(backT ks x ps cl).1.val, iv (backT ks x ps cl).2] ∧ Ext No w0 w := by
 obtain ⟨vb, hvb⟩ : ∃ b, validH ks x ps cl.number cl.asked = b := ⟨_, rfl⟩
 refine aD func11 rfl ntmps11 (lb rfl) fun a Z => ?_
 replace Z := Z.p4 0 1 2 3 rfl
 replace Y : St No w0 [] w0 := St.init w0
 refine aa fun K1 hK1 => aG Z Y de rfl (cs := [iv x.signer, iv x.holder, iv x.rf, iv x.rt, iv x.carrier, iv x.serial, iv x.sf, iv x.st, sv x.sig]) rfl ?_
 clear Z Y
 intro a w1 Z Y
 refine aG Z Y de rfl (cs := [iv cl.number, iv cl.frm, iv cl.to, iv cl.holder, iv cl.asked, .bool cl.backed]) rfl ?_
 clear Z Y
 intro a w2 Z Y
 refine aH Z Y de (zeroValue31 _) (cs := [iv 0, iv 0, iv 0, iv 0, iv 0, .bool false]) rfl ?_
 clear Z Y
 intro a w3 Z Y
 refine wla Z rfl fun a Z => ab (hK1 _ _ <| ah fun K2 hK2 => ?_)
 refine aa fun K3 hK3 => wlv Z (ai (Y.g 1 rfl) rfl (isAgg31 _) (sizeOf31 _)) fun a Z => aA Z Y de call38 rfl (fG cl _) ?_
 clear Z Y
 intro a w4 Z Y
 refine wlv Z (bu rfl) fun a Z => ab (hK3 _ _ ?_)
 refine ax Z rfl (fun hc1 => ?_) (fun hc1 => ?_)
 ·rw [hc1] at Z
  try simp only [qz] at hc1
  refine aa fun K4 hK4 => wlv Z (aY (v := .agg #[iv 0, iv 0, iv 0, iv 0, iv 0, .bool false]) rfl kr) fun a Z => am 0 Z Y rfl rfl rfl (sizeOf31 _) rfl (lb rfl) (ds := [iv 0, iv 0, iv 0, iv 0, iv 0, .bool false]) rfl rfl ?_
  clear Z Y
  intro a w5 Z Y
  refine wla Z rfl fun a Z => ab (hK4 _ _ ?_)
  replace Z := Z.p6 0 2 5 7 8 9 rfl
  refine ap ?_
  refine aj Z results11 (aB rfl (bB (Y.g 0 rfl) (isAgg31 _) (sizeOf31 _)) (ae rfl ag)) ?_
  exact ⟨by simp only [retv]; unfold backT; rw [if_neg (by simp [hc1])]; rfl, Y.ext⟩
 rw [hc1] at Z
 try simp only [qz] at hc1
 refine az <| hK2 _ _ <| aa fun K5 hK5 => wlv Z (ac (v := po w0.hz 4) rfl kr) fun a Z => wlv Z (ld Y 2 rfl rfl (isAgg3 _) rfl) fun a Z => wlv Z (ac (v := po w1.hz 2) rfl kr) fun a Z => wlv Z (ld Y 1 rfl rfl (isAgg3 _) rfl) fun a Z => wlv Z (v_eq rfl rfl) fun a Z => wlm Z rfl fun a Z => ?_
 rcases Bool.eq_false_or_eq_true (decide (x.carrier = cl.to)) with hb2 | hb2
 ·rw [hb2] at Z
  try simp only [qz] at hb2
  refine wly Z (ac (v := po w0.hz 1) rfl kr) fun a Z => wly Z (ld Y 2 rfl rfl (isAgg3 _) rfl) fun a Z => wly Z (ac (v := po w1.hz 3) rfl kr) fun a Z => wly Z (ld Y 1 rfl rfl (isAgg3 _) rfl) fun a Z => wly Z (v_eq rfl rfl) fun a Z => wlv Z (au rfl rfl) fun a Z => wlm Z rfl fun a Z => ?_
  rcases Bool.eq_false_or_eq_true (decide (x.holder = cl.holder)) with hb3 | hb3
  ·rw [hb3] at Z
   try simp only [qz] at hb3
   refine wly Z (ak rfl) fun a Z => wly Z (ai (Y.g 2 rfl) rfl (isAgg41 _) (sizeOf41 _)) fun a Z => wly Z (ak rfl) fun a Z => wly Z (ac (v := pt w1.hz) rfl kr) fun a Z => wly Z (ld Y 1 rfl rfl (isAgg3 _) rfl) fun a Z => wly Z (ac (v := po w1.hz 4) rfl kr) fun a Z => wly Z (ld Y 1 rfl rfl (isAgg3 _) rfl) fun a Z => aF Z Y de rfl de rfl call39 rfl (oD (Y.arg hkv) (Y.arg hlv) (Y.keepb hk0) hvb) ?_
   clear Z Y
   intro a w6 Z Y
   refine wlv Z (au rfl rfl) fun a Z => wlv Z (ac (v := po w1.hz 5) rfl kr) fun a Z => am 1 Z Y rfl rfl rfl (sizeOf4 _) rfl (lb rfl) (ds := [iv cl.number, iv cl.frm, iv cl.to, iv cl.holder, iv cl.asked, .bool vb]) rfl rfl ?_
   clear Z Y
   intro a w7 Z Y
   refine ab (hK5 _ _ ?_)
   replace Z := Z.p3 7 8 9 rfl
   replace Y := Y.k2 3 rfl
   refine aa fun K6 hK6 => wlv Z (ai (Y.g 1 rfl) rfl (isAgg31 _) (sizeOf31 _)) fun a Z => am 0 Z Y rfl rfl rfl (sizeOf31 _) rfl (lb rfl) (ds := [iv cl.number, iv cl.frm, iv cl.to, iv cl.holder, iv cl.asked, .bool vb]) rfl rfl ?_
   clear Z Y
   intro a w8 Z Y
   refine wla Z rfl fun a Z => ab (hK6 _ _ <| ap ?_)
   refine aj Z results11 (aB rfl (bB (Y.g 0 rfl) (isAgg31 _) (sizeOf31 _)) (ae rfl ag)) ?_
   exact ⟨by simp only [retv]; unfold backT; rw [if_pos (by simpa using hc1), hvb]; simp [Clm.val, hb2, hb3], Y.ext⟩
  rw [hb3] at Z
  try simp only [qz] at hb3
  refine wln Z fun a Z => wln Z fun a Z => wln Z fun a Z => wln Z fun a Z => wln Z fun a Z => wln Z fun a Z => wln Z fun a Z => wln Z fun a Z => wlv Z (aq rfl rfl) fun a Z => wlv Z (ac (v := po w1.hz 5) rfl kr) fun a Z => ?_
  refine am 1 Z Y rfl rfl rfl (sizeOf4 _) rfl (lb rfl) (ds := [iv cl.number, iv cl.frm, iv cl.to, iv cl.holder, iv cl.asked, .bool false]) rfl rfl ?_
  clear Z Y
  intro a w9 Z Y
  refine ab (hK5 _ _ ?_)
  replace Z := Z.p3 7 8 9 rfl
  replace Y := Y.k2 3 rfl
  refine aa fun K7 hK7 => wlv Z (ai (Y.g 1 rfl) rfl (isAgg31 _) (sizeOf31 _)) fun a Z => am 0 Z Y rfl rfl rfl (sizeOf31 _) rfl (lb rfl) (ds := [iv cl.number, iv cl.frm, iv cl.to, iv cl.holder, iv cl.asked, .bool false]) rfl rfl ?_
  clear Z Y
  intro a w10 Z Y
  refine wla Z rfl fun a Z => ab (hK7 _ _ <| ap ?_)
  refine aj Z results11 (aB rfl (bB (Y.g 0 rfl) (isAgg31 _) (sizeOf31 _)) (ae rfl ag)) ?_
  exact ⟨by simp only [retv]; unfold backT; rw [if_pos (by simpa using hc1), hvb]; simp [Clm.val, hb2, hb3], Y.ext⟩
 rw [hb2] at Z
 try simp only [qz] at hb2
 refine wln Z fun a Z => wln Z fun a Z => wln Z fun a Z => wln Z fun a Z => wln Z fun a Z => wlv Z (aq rfl rfl) fun a Z => wlm Z rfl fun a Z => wln Z fun a Z => wln Z fun a Z => wln Z fun a Z => wln Z fun a Z => ?_
 refine wln Z fun a Z => wln Z fun a Z => wln Z fun a Z => wln Z fun a Z => wlv Z (aq rfl rfl) fun a Z => wlv Z (ac (v := po w1.hz 5) rfl kr) fun a Z => am 1 Z Y rfl rfl rfl (sizeOf4 _) rfl (lb rfl) (ds := [iv cl.number, iv cl.frm, iv cl.to, iv cl.holder, iv cl.asked, .bool false]) rfl rfl ?_
 clear Z Y
 intro a w11 Z Y
 refine ab (hK5 _ _ ?_)
 replace Z := Z.p3 7 8 9 rfl
 replace Y := Y.k2 3 rfl
 refine aa fun K8 hK8 => wlv Z (ai (Y.g 1 rfl) rfl (isAgg31 _) (sizeOf31 _)) fun a Z => am 0 Z Y rfl rfl rfl (sizeOf31 _) rfl (lb rfl) (ds := [iv cl.number, iv cl.frm, iv cl.to, iv cl.holder, iv cl.asked, .bool false]) rfl rfl ?_
 clear Z Y
 intro a w12 Z Y
 refine wla Z rfl fun a Z => ab (hK8 _ _ <| ap ?_)
 refine aj Z results11 (aB rfl (bB (Y.g 0 rfl) (isAgg31 _) (sizeOf31 _)) (ae rfl ag)) ?_
 exact ⟨by simp only [retv]; unfold backT; rw [if_pos (by simpa using hc1), hvb]; simp [Clm.val, hb2], Y.ext⟩
theorem kH {kv lv : Value} {ks : List By} {x : Wsh} {ps : List Pxy} {cl b : Clm} {e : Int} {w0 : World} (hb : backT ks x ps cl = (b, e)) (hkv : SlAt w0 kv 1 (ks.map fun s => [sv s])) (hlv : SlAt w0 lv 7 (ps.map Pxy.cells)) (hk0 : (blk 0 (kOf.map wv) 202).ok w0) : Ret Tryz.prog 11 #[kv, .agg #[iv x.signer, iv x.holder, iv x.rf, iv x.rt, iv x.carrier, iv x.serial, iv x.sf, iv x.st, sv x.sig], lv, .agg #[iv cl.number, iv cl.frm, iv cl.to, iv cl.holder, iv cl.asked, .bool cl.backed]] w0 fun v w => v = .tuple #[.agg #[iv b.number, iv b.frm, iv b.to, iv b.holder, iv b.asked, .bool b.backed], iv e] ∧ Ext No w0 w := by
 have := qe kv lv ks x ps cl w0 hkv hlv hk0
 rw [hb] at this
 exact this
theorem pw (kv lv : Value) (ks : List By) (x : Wsh) (ps : List Pxy) (cl : Clm) (w0 : World) (hkv : SlAt w0 kv 1 (ks.map fun s => [sv s])) (hlv : SlAt w0 lv 7 (ps.map Pxy.cells)) :
  Ret Tryz.prog 13 #[kv, .agg #[iv x.signer, iv x.holder, iv x.rf, iv x.rt, iv x.carrier, iv x.serial, iv x.sf, iv x.st, sv x.sig], lv, .agg #[iv cl.number, iv cl.frm, iv cl.to, iv cl.holder, iv cl.asked, .bool cl.backed]] w0 fun v w => v = .tuple #[(backT ks x ps cl).1.val, iv (backT ks x ps cl).2] ∧ Ext No w0 w := by
 obtain ⟨vb, hvb⟩ : ∃ b, validH ks x ps cl.number cl.asked = b := ⟨_, rfl⟩
 refine aD func13 rfl ntmps13 (lb rfl) fun a Z => ?_
 replace Z := Z.p4 0 1 2 3 rfl
 replace Y : St No w0 [] w0 := St.init w0
 refine aa fun K1 hK1 => aG Z Y de rfl (cs := [iv x.signer, iv x.holder, iv x.rf, iv x.rt, iv x.carrier, iv x.serial, iv x.sf, iv x.st, sv x.sig]) rfl ?_
 clear Z Y
 intro a w1 Z Y
 refine aG Z Y de rfl (cs := [iv cl.number, iv cl.frm, iv cl.to, iv cl.holder, iv cl.asked, .bool cl.backed]) rfl ?_
 clear Z Y
 intro a w2 Z Y
 refine aH Z Y de (zeroValue31 _) (cs := [iv 0, iv 0, iv 0, iv 0, iv 0, .bool false]) rfl ?_
 clear Z Y
 intro a w3 Z Y
 refine wla Z rfl fun a Z => ab (hK1 _ _ <| ah fun K2 hK2 => ?_)
 refine aa fun K3 hK3 => wlv Z (ai (Y.g 1 rfl) rfl (isAgg31 _) (sizeOf31 _)) fun a Z => aA Z Y de call40 rfl (gn cl _) ?_
 clear Z Y
 intro a w4 Z Y
 refine wlv Z (bu rfl) fun a Z => ab (hK3 _ _ ?_)
 refine ax Z rfl (fun hc1 => ?_) (fun hc1 => ?_)
 ·rw [hc1] at Z
  try simp only [qz] at hc1
  refine aa fun K4 hK4 => wlv Z (aY (v := .agg #[iv 0, iv 0, iv 0, iv 0, iv 0, .bool false]) rfl kr) fun a Z => am 0 Z Y rfl rfl rfl (sizeOf31 _) rfl (lb rfl) (ds := [iv 0, iv 0, iv 0, iv 0, iv 0, .bool false]) rfl rfl ?_
  clear Z Y
  intro a w5 Z Y
  refine wla Z rfl fun a Z => ab (hK4 _ _ ?_)
  replace Z := Z.p6 0 2 5 7 8 9 rfl
  refine ap ?_
  refine aj Z results13 (aB rfl (bB (Y.g 0 rfl) (isAgg31 _) (sizeOf31 _)) (ae rfl ag)) ?_
  exact ⟨by simp only [retv]; unfold backT; rw [if_neg (by simp [hc1])]; rfl, Y.ext⟩
 rw [hc1] at Z
 try simp only [qz] at hc1
 refine az <| hK2 _ _ <| aa fun K5 hK5 => wlm Z rfl fun a Z => wlv Z (ai (Y.g 2 rfl) rfl (isAgg41 _) (sizeOf41 _)) fun a Z => wlm Z rfl fun a Z => wlv Z (ac (v := pt w1.hz) rfl kr) fun a Z => wlv Z (ld Y 1 rfl rfl (isAgg3 _) rfl) fun a Z => wlv Z (ac (v := po w1.hz 4) rfl kr) fun a Z => wlv Z (ld Y 1 rfl rfl (isAgg3 _) rfl) fun a Z => aA Z Y de call41 rfl (nQ (Y.arg hkv) (Y.arg hlv) hvb) ?_
 clear Z Y
 intro a w6 Z Y
 refine wlm Z rfl fun a Z => ?_
 rcases Bool.eq_false_or_eq_true (vb) with hb2 | hb2
 ·rw [hb2] at Z
  try simp only [qz] at hb2
  refine wly Z (ac (v := po w0.hz 4) rfl kr) fun a Z => wly Z (ld Y 2 rfl rfl (isAgg3 _) rfl) fun a Z => wly Z (ac (v := po w1.hz 2) rfl kr) fun a Z => wly Z (ld Y 1 rfl rfl (isAgg3 _) rfl) fun a Z => wly Z (v_eq rfl rfl) fun a Z => wlv Z (au rfl rfl) fun a Z => wlm Z rfl fun a Z => ?_
  rcases Bool.eq_false_or_eq_true (decide (x.carrier = cl.to)) with hb3 | hb3
  ·rw [hb3] at Z
   try simp only [qz] at hb3
   refine wly Z (ac (v := po w0.hz 1) rfl kr) fun a Z => wly Z (ld Y 2 rfl rfl (isAgg3 _) rfl) fun a Z => wly Z (ac (v := po w1.hz 3) rfl kr) fun a Z => wly Z (ld Y 1 rfl rfl (isAgg3 _) rfl) fun a Z => wly Z (v_eq rfl rfl) fun a Z => wlv Z (au rfl rfl) fun a Z => wlv Z (ac (v := po w1.hz 5) rfl kr) fun a Z => am 1 Z Y rfl rfl rfl (sizeOf4 _) rfl (lb rfl) (ds := [iv cl.number, iv cl.frm, iv cl.to, iv cl.holder, iv cl.asked, .bool (decide (x.holder = cl.holder))]) rfl rfl ?_
   clear Z Y
   intro a w7 Z Y
   refine ab (hK5 _ _ ?_)
   replace Z := Z.p3 7 8 9 rfl
   replace Y := Y.k2 3 rfl
   refine aa fun K6 hK6 => wlv Z (ai (Y.g 1 rfl) rfl (isAgg31 _) (sizeOf31 _)) fun a Z => am 0 Z Y rfl rfl rfl (sizeOf31 _) rfl (lb rfl) (ds := [iv cl.number, iv cl.frm, iv cl.to, iv cl.holder, iv cl.asked, .bool (decide (x.holder = cl.holder))]) rfl rfl ?_
   clear Z Y
   intro a w8 Z Y
   refine wla Z rfl fun a Z => ab (hK6 _ _ <| ap ?_)
   refine aj Z results13 (aB rfl (bB (Y.g 0 rfl) (isAgg31 _) (sizeOf31 _)) (ae rfl ag)) ?_
   exact ⟨by simp only [retv]; unfold backT; rw [if_pos (by simpa using hc1), hvb]; simp [Clm.val, hb2, hb3], Y.ext⟩
  rw [hb3] at Z
  try simp only [qz] at hb3
  refine wln Z fun a Z => wln Z fun a Z => wln Z fun a Z => wln Z fun a Z => wln Z fun a Z => wlv Z (aq rfl rfl) fun a Z => wlv Z (ac (v := po w1.hz 5) rfl kr) fun a Z => am 1 Z Y rfl rfl rfl (sizeOf4 _) rfl (lb rfl) (ds := [iv cl.number, iv cl.frm, iv cl.to, iv cl.holder, iv cl.asked, .bool false]) rfl rfl ?_
  clear Z Y
  intro a w9 Z Y
  refine ab (hK5 _ _ ?_)
  replace Z := Z.p3 7 8 9 rfl
  replace Y := Y.k2 3 rfl
  refine aa fun K7 hK7 => wlv Z (ai (Y.g 1 rfl) rfl (isAgg31 _) (sizeOf31 _)) fun a Z => am 0 Z Y rfl rfl rfl (sizeOf31 _) rfl (lb rfl) (ds := [iv cl.number, iv cl.frm, iv cl.to, iv cl.holder, iv cl.asked, .bool false]) rfl rfl ?_
  clear Z Y
  intro a w10 Z Y
  refine wla Z rfl fun a Z => ab (hK7 _ _ <| ap ?_)
  refine aj Z results13 (aB rfl (bB (Y.g 0 rfl) (isAgg31 _) (sizeOf31 _)) (ae rfl ag)) ?_
  exact ⟨by simp only [retv]; unfold backT; rw [if_pos (by simpa using hc1), hvb]; simp [Clm.val, hb2, hb3], Y.ext⟩
 rw [hb2] at Z
 try simp only [qz] at hb2
 refine wln Z fun a Z => wln Z fun a Z => wln Z fun a Z => wln Z fun a Z => wln Z fun a Z => wlv Z (aq rfl rfl) fun a Z => wlm Z rfl fun a Z => wln Z fun a Z => wln Z fun a Z => wln Z fun a Z => wln Z fun a Z => ?_
 refine wln Z fun a Z => wlv Z (aq rfl rfl) fun a Z => wlv Z (ac (v := po w1.hz 5) rfl kr) fun a Z => am 1 Z Y rfl rfl rfl (sizeOf4 _) rfl (lb rfl) (ds := [iv cl.number, iv cl.frm, iv cl.to, iv cl.holder, iv cl.asked, .bool false]) rfl rfl ?_
 clear Z Y
 intro a w11 Z Y
 refine ab (hK5 _ _ ?_)
 replace Z := Z.p3 7 8 9 rfl
 replace Y := Y.k2 3 rfl
 refine aa fun K8 hK8 => wlv Z (ai (Y.g 1 rfl) rfl (isAgg31 _) (sizeOf31 _)) fun a Z => am 0 Z Y rfl rfl rfl (sizeOf31 _) rfl (lb rfl) (ds := [iv cl.number, iv cl.frm, iv cl.to, iv cl.holder, iv cl.asked, .bool false]) rfl rfl ?_
 clear Z Y
 intro a w12 Z Y
 refine wla Z rfl fun a Z => ab (hK8 _ _ <| ap ?_)
 refine aj Z results13 (aB rfl (bB (Y.g 0 rfl) (isAgg31 _) (sizeOf31 _)) (ae rfl ag)) ?_
 exact ⟨by simp only [retv]; unfold backT; rw [if_pos (by simpa using hc1), hvb]; simp [Clm.val, hb2], Y.ext⟩
theorem j4 {kv lv : Value} {ks : List By} {x : Wsh} {ps : List Pxy} {cl b : Clm} {e : Int} {w0 : World} (hb : backT ks x ps cl = (b, e)) (hkv : SlAt w0 kv 1 (ks.map fun s => [sv s])) (hlv : SlAt w0 lv 7 (ps.map Pxy.cells)) : Ret Tryz.prog 13 #[kv, .agg #[iv x.signer, iv x.holder, iv x.rf, iv x.rt, iv x.carrier, iv x.serial, iv x.sf, iv x.st, sv x.sig], lv, .agg #[iv cl.number, iv cl.frm, iv cl.to, iv cl.holder, iv cl.asked, .bool cl.backed]] w0 fun v w => v = .tuple #[.agg #[iv b.number, iv b.frm, iv b.to, iv b.holder, iv b.asked, .bool b.backed], iv e] ∧ Ext No w0 w := by
 have := pw kv lv ks x ps cl w0 hkv hlv
 rw [hb] at this
 exact this
theorem pY (holder r0 r1 s0 s1 carrier serial : Int) (l : List Cin) : (madeW holder r0 r1 s0 s1 carrier serial l).rt ≤ 11000 ∧ (madeW holder r0 r1 s0 s1 carrier serial l).st ≤ 11000 := by
 have h := fm (l := l.take 4) (ex holder r0 r1 s0 s1)
 exact ⟨h.2.2.2.2.1, h.2.2.2.2.2.2.2⟩
theorem Wsh.ok_bnd2 {w : Wsh} (h : w.ok = true) : 0 ≤ w.holder ∧ w.holder ≤ 63 ∧ 0 ≤ w.carrier ∧ w.carrier ≤ 7 ∧ 0 ≤ w.rf ∧ w.rf < w.rt ∧ 0 ≤ w.sf ∧ w.sf < w.st := by
 simp only [Wsh.ok, inB, cj, cL, Bool.and_eq_true, decide_eq_true_eq] at h; omega
theorem ox {c n k : Int} {f : FuncId} {args : Array Value} {w : World} (hk : pick c n = k) (h : Ret Tryz.prog f args w fun v w' => v = iv (pick c n) ∧ Ext No w w') : Ret Tryz.prog f args w fun v w' => v = iv k ∧ Ext No w w' := by subst hk; exact h
theorem made3 {x0 x1 x2 x3 y0 y1 y2 y3 y4 y5 : Int} {xs : List Tri} {f : FuncId} {args : Array Value} {w : World} {rl : Rul} {cl : Clm} {l : List Evt} {E : TypeId} (hrl : mkRul x0 x1 x2 x3 = rl) (hcl : mkClm y0 y1 y2 y3 y4 y5 = cl) (hl : mkL rl cl xs = l)
  (h : Ret Tryz.prog f args w (MemR w (fun v : Value => .tuple #[(mkRul x0 x1 x2 x3).val, (mkClm y0 y1 y2 y3 y4 y5).val, v]) (fun v => [own v E 3 ((mkL (mkRul x0 x1 x2 x3) (mkClm y0 y1 y2 y3 y4 y5) xs).map Evt.cells)]) (fun _ => True))) :
  Ret Tryz.prog f args w (MemR w (fun v : Value => .tuple #[rl.val, cl.val, v]) (fun v => [own v E 3 (l.map Evt.cells)]) (fun _ => True)) := by
 subst hrl; subst hcl; subst hl; exact h
theorem ja (holder r0 r1 s0 s1 carrier serial : Int) (cv : Value) (ys : List Cin) (x0 x1 x2 x3 y0 y1 y2 y3 y4 y5 : Int) (xv : Value) (xs : List Tri) (b0 b1 b2 : Int) (ru : Rul) (ra : Clm) (ev : Value) (el : List Evt) (t how n : Int) (od : Wsh) (w0 : World) (hcv : SlAt w0 cv 5 (ys.map Cin.cells)) (hys : ∀ y ∈ ys, y.wt) (h0 : i64 holder) (h1 : i64 r0) (h2 : i64 r1) (h3 : i64 s0) (h4 : i64 s1) (h5 : i64 carrier) (h6 : i64 serial) (hk0 : (blk 0 (kOf.map wv) 202).ok w0) (g0 : isI64 x0) (g1 : isI64 x1) (g2 : isI64 x2) (g3 : isI64 x3) (g4 : isI64 y0) (g5 : isI64 y1) (g6 : isI64 y2) (g7 : isI64 y3) (g8 : isI64 y4) (g9 : isI64 y5) (hxv : SlAt w0 xv 3 (xs.map Tri.cells)) (hfit : ∀ k, k < xs.length → (xs.getD k ⟨0, 0, 0⟩).fits) (hb0 : isI64 b0) (hb1 : isI64 b1) (hb2 : isI64 b2) (hev : SlAt w0 ev 3 (el.map Evt.cells)) (ht : isI64 t) (h7 : i64 how) (h8 : i64 n) :
  Ret Tryz.prog 3 #[.agg #[iv x0, iv x1, iv x2, iv x3, iv y0, iv y1, iv y2, iv y3, iv y4, iv y5, xv], .agg #[iv b0, iv b1, iv b2], .agg #[iv ru.answer, iv ru.cooling, iv ru.settle, iv ru.reverse], .agg #[iv ra.number, iv ra.frm, iv ra.to, iv ra.holder, iv ra.asked, .bool ra.backed], ev, iv t, .agg #[iv holder, iv r0, iv r1, iv s0, iv s1, iv carrier, iv serial, cv], .agg #[iv how, iv n], .agg #[iv od.signer, iv od.holder, iv od.rf, iv od.rt, iv od.carrier, iv od.serial, iv od.sf, iv od.st, sv od.sig]] w0 fun v w => v = .bool true ∧ Ext No w0 w := by
 obtain ⟨x, hx⟩ : ∃ x, madeW holder r0 r1 s0 s1 carrier serial ys = x := ⟨_, rfl⟩
 obtain ⟨ps, hps⟩ : ∃ ps, madeL holder r0 r1 s0 s1 ys = ps := ⟨_, rfl⟩
 have hmk : Mk x ps := by rw [← hx, ← hps]; exact qG _ _ _ _ _ _ _ _
 have hxo := hmk.ok
 have hxd := Wsh.ok_bnd hxo
 have hxg := hmk.sgn
 have hpl := hmk.len
 have hrt : x.rt ≤ 11000 ∧ x.st ≤ 11000 := by rw [← hx]; exact pY _ _ _ _ _ _ _ _
 have hx3 := Wsh.ok_bnd2 hxo
 have h7a := h7.1
 have h7b := h7.2
 obtain ⟨bw, hbw⟩ : ∃ bw, bentW x how n = bw := ⟨_, rfl⟩
 obtain ⟨rl, hrl⟩ : ∃ r, mkRul x0 x1 x2 x3 = r := ⟨_, rfl⟩
 obtain ⟨cl, hcl0⟩ : ∃ c, mkClm y0 y1 y2 y3 y4 y5 = c := ⟨_, rfl⟩
 obtain ⟨l, hl0⟩ : ∃ l, mkL rl cl xs = l := ⟨_, rfl⟩
 have hr : aW rl = true := hrl ▸ gN x0 x1 x2 x3
 have hc : bS cl = true := hcl0 ▸ (dU y0 y1 y2 y3 y4 y5).1
 have ha : cl.asked < 1000 := hcl0 ▸ (dU y0 y1 y2 y3 y4 y5).2
 have hcl := co hc
 obtain ⟨hv, hl10⟩ : valid rl cl l = true ∧ l.length ≤ 10 := hl0 ▸ nb hr hc ha xs
 obtain ⟨pa, hpa⟩ : ∃ k, pick t 60 = k := ⟨_, rfl⟩
 obtain ⟨pb, hpb⟩ : ∃ k, pick t 300000 = k := ⟨_, rfl⟩
 unfold isI64 at ht
 have ba := bF t 60 om
 rw [hpa] at ba
 have bb := bF t 300000 om
 rw [hpb] at bb
 refine aD func3 rfl ntmps3 (lb rfl) fun a Z => ?_
 replace Z := Z.p9 0 1 2 3 4 5 6 7 8 rfl
 replace Y : St No w0 [] w0 := St.init w0
 refine aa fun K1 hK1 => aG Z Y de rfl (cs := [iv x0, iv x1, iv x2, iv x3, iv y0, iv y1, iv y2, iv y3, iv y4, iv y5, xv]) rfl ?_
 clear Z Y
 intro a w1 Z Y
 refine aG Z Y de rfl (cs := [iv b0, iv b1, iv b2]) rfl ?_
 clear Z Y
 intro a w2 Z Y
 refine aG Z Y de rfl (cs := [iv ru.answer, iv ru.cooling, iv ru.settle, iv ru.reverse]) rfl ?_
 clear Z Y
 intro a w3 Z Y
 refine aG Z Y de rfl (cs := [iv ra.number, iv ra.frm, iv ra.to, iv ra.holder, iv ra.asked, .bool ra.backed]) rfl ?_
 clear Z Y
 intro a w4 Z Y
 refine aG Z Y de rfl (cs := [iv holder, iv r0, iv r1, iv s0, iv s1, iv carrier, iv serial, cv]) rfl ?_
 clear Z Y
 intro a w5 Z Y
 refine aG Z Y de rfl (cs := [iv how, iv n]) rfl ?_
 clear Z Y
 intro a w6 Z Y
 refine aG Z Y de rfl (cs := [iv od.signer, iv od.holder, iv od.rf, iv od.rt, iv od.carrier, iv od.serial, iv od.sf, iv od.st, sv od.sig]) rfl ?_
 clear Z Y
 intro a w7 Z Y
 refine wla Z rfl fun a Z => ab (hK1 _ _ ?_)
 replace Z := Z.p10 4 5 9 10 11 12 15 16 17 18 rfl
 refine aa fun K2 hK2 => aA Z Y de call4 rfl (qd _) ?_
 clear Z Y
 intro a w8 Z Y
 refine wla Z rfl fun a Z => ab (hK2 _ _ <| ah fun K3 hK3 => ?_)
 refine aa fun K4 hK4 => wlm Z rfl fun a Z => wlv Z ((bu rfl).asb (b' := false) rfl) fun a Z => ab (hK4 _ _ <| bC Z rfl ?_)
 refine az <| hK3 _ _ <| aa fun K5 hK5 => wlv Z (ai (Y.g 6 rfl) rfl (isAgg26 _) (sizeOf26 _)) fun a Z => bI Z Y de call5 rfl (made3 hrl hcl0 hl0 (kt x0 x1 x2 x3 y0 y1 y2 y3 y4 y5 xv xs _ g0 g1 g2 g3 g4 g5 g6 g7 g8 g9 (Y.arg hxv) hfit)) ?_
 clear Z Y
 intro a w9 x2 hp Z Y
 revert x2 hp Z Y; rintro v1 hp Z Y
 clear hp
 replace Y : St No w0 [_, _, _, _, _, _, _, _] w9 := Y
 refine wlm Z rfl fun a Z => wlv Z (aw rfl rfl) fun a Z => wlv Z (aw rfl rfl) fun a Z => wlv Z (aw rfl rfl) fun a Z => aH Z Y de (zeroValue29 _) (cs := [iv 0, iv 0, iv 0, iv 0]) rfl ?_
 clear Z Y
 intro a w10 Z Y
 refine aH Z Y de (zeroValue31 _) (cs := [iv 0, iv 0, iv 0, iv 0, iv 0, .bool false]) rfl ?_
 clear Z Y
 intro a w11 Z Y
 refine am 1 Z Y rfl rfl rfl (sizeOf29 _) rfl (lb rfl) (ds := [iv rl.answer, iv rl.cooling, iv rl.settle, iv rl.reverse]) rfl rfl ?_
 clear Z Y
 intro a w12 Z Y
 refine am 0 Z Y rfl rfl rfl (sizeOf31 _) rfl (lb rfl) (ds := [iv cl.number, iv cl.frm, iv cl.to, iv cl.holder, iv cl.asked, .bool cl.backed]) rfl rfl ?_
 clear Z Y
 intro a w13 Z Y
 refine wla Z rfl fun a Z => ab (hK5 _ _ ?_)
 replace Z := Z.p13 4 5 10 11 12 15 16 17 18 19 20 21 22 rfl
 replace Y := Y.k9 511 rfl
 refine aa fun K6 hK6 => wlm Z rfl fun a Z => wlm Z rfl fun a Z => wlv Z ((aL (sT := 32) (Y.arg hev) rfl rfl (runUnderlying32 _)).asi (m' := (el.length : Int)) (by rw [List.length_map])) fun a Z => wlv Z (mF rfl rfl) fun a Z => wlv Z (iV (l := 0) (h := (min el.length 21)) (Y.arg hev) rfl rfl rfl underlying32 kr (.inl ⟨rfl, rfl⟩) (.inr (by rw [show (min (el.length : Int) 21 : Int) = (((min el.length 21) : Nat) : Int) from by omega] <;> rfl)) (Nat.zero_le _) (by first | (rw [List.length_map]; omega) | (simp <;> omega))) fun a Z => wla Z rfl fun a Z => ab (hK6 _ _ <| aa fun K7 hK7 => ?_)
 refine wlv Z (ai (Y.g 1 rfl) rfl (isAgg29 _) (sizeOf29 _)) fun a Z => wlv Z (ai (Y.g 0 rfl) rfl (isAgg31 _) (sizeOf31 _)) fun a Z => wlm Z rfl fun a Z => wlv Z (aC (v := pt w1.hz) rfl rfl kr) fun a Z => wlv Z (ld Y 8 rfl rfl (isAgg3 _) rfl) fun a Z => wlv Z (aC (v := po w1.hz 1) rfl rfl kr) fun a Z => wlv Z (ld Y 8 rfl rfl (isAgg3 _) rfl) fun a Z => wlv Z (aC (v := po w1.hz 2) rfl rfl kr) fun a Z => wlv Z (ld Y 8 rfl rfl (isAgg3 _) rfl) fun a Z => bI Z Y de call6 rfl (nC rl cl v1 l b0 b1 b2 _ (Y.ow 2 rfl) hb0 hb1 hb2 om) ?_
 clear Z Y
 intro a w14 x3 hp Z Y
 revert x3 hp Z Y; rintro br hp Z Y
 clear hp
 replace Y : St No w0 [_, _, _, _, _, _, _, _, _, _] w14 := Y
 refine wlm Z rfl fun a Z => wlv Z (aw rfl rfl) fun a Z => wlv Z (aw rfl rfl) fun a Z => wlv Z (aw rfl rfl) fun a Z => aH Z Y de (zeroValue29 _) (cs := [iv 0, iv 0, iv 0, iv 0]) rfl ?_
 clear Z Y
 intro a w15 Z Y
 refine aH Z Y de (zeroValue31 _) (cs := [iv 0, iv 0, iv 0, iv 0, iv 0, .bool false]) rfl ?_
 clear Z Y
 intro a w16 Z Y
 refine am 1 Z Y rfl rfl rfl (sizeOf29 _) rfl (lb rfl) (ds := [iv br.rl.answer, iv br.rl.cooling, iv br.rl.settle, iv br.rl.reverse]) rfl rfl ?_
 clear Z Y
 intro a w17 Z Y
 refine am 0 Z Y rfl rfl rfl (sizeOf31 _) rfl (lb rfl) (ds := [iv br.cl.number, iv br.cl.frm, iv br.cl.to, iv br.cl.holder, iv br.cl.asked, .bool br.cl.backed]) rfl rfl ?_
 clear Z Y
 intro a w18 Z Y
 refine wla Z rfl fun a Z => ab (hK7 _ _ ?_)
 replace Z := Z.p15 5 11 12 15 16 17 18 19 20 21 22 4 23 24 25 rfl
 replace Y := Y.k11 2047 rfl
 refine ah fun K8 hK8 => ah fun K9 hK9 => aK kr ?_
 replace Z := Z.p15 5 11 12 15 16 17 18 19 20 21 22 4 23 24 25 rfl
 refine aR [8] (fun i => match i with | 8 => pm (fun b : Nat => .slice (some ⟨b, 0, none⟩) 3 3) (fun b => [own (.slice (some ⟨b, 0, none⟩) 3 3) 3 1 [[iv t], [iv (cl.asked + pa)], [iv pb]]]) (fun _ => True) | _ => fun _ _ => False) 11 [[], [], [1], [], [3], [2, 4], [], [6], [0, 5, 7], [8], []] [iv t, po w10.hz 4, iv cl.asked, iv t, iv pa, iv (cl.asked + pa), iv t, iv pb, undef, iv 3, iv 0] Z Y kr kr kr ?_ ?_ ?_
 ·intro i hi hiq
  match i, hi, hiq with
  | 0, _, _ => exact fun w Y => OpV.g (ak rfl)
  | 1, _, _ => exact fun w Y => OpV.g (ac (v := po w10.hz 4) rfl kr)
  | 2, _, _ => exact fun w Y => OpV.g (ld Y 3 rfl rfl (isAgg3 _) rfl)
  | 3, _, _ => exact fun w Y => OpV.g (ak rfl)
  | 4, _, _ => exact fun w Y => aT call7 rfl (ox hpa (jK _ _ _ om om om om))
  | 5, _, _ => exact fun w Y => OpV.g (aS rfl rfl ⟨om, om⟩)
  | 6, _, _ => exact fun w Y => OpV.g (ak rfl)
  | 7, _, _ => exact fun w Y => aT call7 rfl (ox hpb (jK _ _ _ om om om om))
  | 8, _, h => exact absurd sm h
  | 9, _, _ =>
   rintro _ _ ⟨b4, rfl, -, rfl⟩
   intro w Y
   exact OpV.g ((aL (sT := 47) (Y.ow 0 rfl) rfl rfl (runUnderlying47 _)).asi (m' := 3) rfx)
  | 10, _, _ => exact fun w Y => OpV.g (ak rfl)
 ·intro i hi
  simp only [List.mem_cons, List.not_mem_nil, or_false] at hi
  subst hi
  ·intro w Y
   exact bW (E := 3) (sz := 1) rfl [[iv t], [iv (cl.asked + pa)], [iv pb]] (fun _ => by kernel_rfl) sm rfl de
 clear Z Y
 rintro _ _ ⟨b4, rfl, -, rfl⟩ a w19 Z Y
 replace Z : Fr 201 [(69, iv t), (70, po w10.hz 4), (71, iv cl.asked), (72, iv t), (73, iv pa), (74, iv (cl.asked + pa)), (75, iv t), (76, iv pb), (77, _), (78, iv 3), (79, iv 0), (5, _), (11, _), (12, _), (15, _), (16, _), (17, _), (18, _), (19, _), (20, _), (21, _), (22, _), (4, _), (23, _), (24, _), (25, _)] [] a := Z
 replace Y : St No w0 [_, _, _, _, _, _, _, _, _, _, _, _] w19 := Y
 refine ab <| hK9 _ _ ?_
 replace Z := Z.p17 11 12 15 16 17 18 19 20 21 22 4 23 24 25 77 78 79 rfl
 refine ay ?_
 obtain ⟨ts, hts⟩ : ∃ ts : List Int, ts = [t, cl.asked + pa, pb] := ⟨_, rfl⟩
 have htl : ts.length = 3 := by rw [hts]; rfl
 replace Y : St No w0 [own (.slice (some ⟨b4, 0, none⟩) 3 3) 3 1 (ts.map fun i => [iv i]), blk w15.hz [iv br.cl.number, iv br.cl.frm, iv br.cl.to, iv br.cl.holder, iv br.cl.asked, .bool br.cl.backed] 31, blk w14.hz [iv br.rl.answer, iv br.rl.cooling, iv br.rl.settle, iv br.rl.reverse] 29, own br.v 64 3 (br.l.map Evt.cells), blk w10.hz [iv cl.number, iv cl.frm, iv cl.to, iv cl.holder, iv cl.asked, .bool cl.backed] 31, blk w9.hz [iv rl.answer, iv rl.cooling, iv rl.settle, iv rl.reverse] 29, own v1 64 3 (l.map Evt.cells), blk w6.hz [iv od.signer, iv od.holder, iv od.rf, iv od.rt, iv od.carrier, iv od.serial, iv od.sf, iv od.st, sv od.sig] 41, blk w5.hz [iv how, iv n] 33, blk w4.hz [iv holder, iv r0, iv r1, iv s0, iv s1, iv carrier, iv serial, cv] 36, blk w3.hz [iv ra.number, iv ra.frm, iv ra.to, iv ra.holder, iv ra.asked, .bool ra.backed] 31, blk w2.hz [iv ru.answer, iv ru.cooling, iv ru.settle, iv ru.reverse] 29] w19 := by rw [hts]; exact Y
 have huz5 := Y
 have hfz5_0 : SlAt w19 (.slice (some ⟨b4, 0, none⟩) 3 3) 1 (ts.map fun i => [iv i]) := Y.ow 0 rfl
 have hfz5_1 : (blk w15.hz [iv br.cl.number, iv br.cl.frm, iv br.cl.to, iv br.cl.holder, iv br.cl.asked, .bool br.cl.backed] 31).ok w19 := Y.g 1 rfl
 have hfz5_2 : (blk w14.hz [iv br.rl.answer, iv br.rl.cooling, iv br.rl.settle, iv br.rl.reverse] 29).ok w19 := Y.g 2 rfl
 have hfz5_3 : SlAt w19 br.v 3 (br.l.map Evt.cells) := Y.ow 3 rfl
 have hfz5_4 : (blk w10.hz [iv cl.number, iv cl.frm, iv cl.to, iv cl.holder, iv cl.asked, .bool cl.backed] 31).ok w19 := Y.g 4 rfl
 have hfz5_5 : (blk w9.hz [iv rl.answer, iv rl.cooling, iv rl.settle, iv rl.reverse] 29).ok w19 := Y.g 5 rfl
 have hfz5_6 : SlAt w19 v1 3 (l.map Evt.cells) := Y.ow 6 rfl
 have hfz5_7 : (blk w6.hz [iv od.signer, iv od.holder, iv od.rf, iv od.rt, iv od.carrier, iv od.serial, iv od.sf, iv od.st, sv od.sig] 41).ok w19 := Y.g 7 rfl
 have hfz5_8 : (blk w5.hz [iv how, iv n] 33).ok w19 := Y.g 8 rfl
 have hfz5_9 : (blk w4.hz [iv holder, iv r0, iv r1, iv s0, iv s1, iv carrier, iv serial, cv] 36).ok w19 := Y.g 9 rfl
 have hfz5_10 : (blk w3.hz [iv ra.number, iv ra.frm, iv ra.to, iv ra.holder, iv ra.asked, .bool ra.backed] 31).ok w19 := Y.g 10 rfl
 have hfz5_11 : (blk w2.hz [iv ru.answer, iv ru.cooling, iv ru.settle, iv ru.reverse] 29).ok w19 := Y.g 11 rfl
 have hsz5_4 : SlAt w19 (cut ev 3 0 (min el.length 21) (slCap ev)) 3 ((el.take (min el.length 21)).map Evt.cells) := ((Y.arg hev).cut0 (h := (min el.length 21)) (by first | omega | (rw [List.length_reverse]; omega) | simp | (simp; omega)))
 have hk0z5 := hk0
 have hk0 := Y.keepb hk0
 replace Y : St No w19 [] w19 := St.init w19
 refine bj (fun m a w => ∃ (k2 : Nat), m = 3 - k2 ∧ (k2 ≤ 3) ∧ Fr 201 [(11, pt w2.hz), (12, pt w3.hz), (15, pt w4.hz), (16, pt w5.hz), (17, pt w6.hz), (19, .bool true), (20, pt w9.hz), (21, pt w10.hz), (22, v1), (4, (cut ev 3 0 (min el.length 21) (slCap ev))), (23, pt w14.hz), (24, pt w15.hz), (25, br.v), (77, (.slice (some ⟨b4, 0, none⟩) 3 3)), (78, iv 3), (79, iv (k2 : Int))] [] a ∧ St No w19 [] w) _ ⟨0, rfl, Nat.zero_le _, Z.pick [11, 12, 15, 16, 17, 19, 20, 21, 22, 4, 23, 24, 25, 77, 78, 79], Y.select [] de⟩ ?_
 rintro _ a w20 ⟨k2, rfl, hk2, Z, Y⟩
 refine aa fun K10 hK10 => wlv Z (v_lt rfl rfl) fun a Z => ab (hK10 _ _ <| ah fun K11 hK11 => ?_)
 refine ax Z rfl (fun hc6 => ?_) (fun hc6 => ?_)
 ·rw [hc6] at Z
  try simp only [qz, Bool.and_eq_true, Bool.or_eq_true, Bool.and_eq_false_iff, Bool.or_eq_false_iff] at hc6
  refine az <| hK11 _ _ <| ah fun K12 hK12 => ay <| aa fun K13 hK13 => wlv Z ((ao (i := (k2 : Int)) (sT := 47) (Y.arg hfz5_0) rfl rfl (runUnderlying47 _) (sizeOf3 _) om (by rw [List.length_map]; omega)).as (v' := slAddr (.slice (some ⟨b4, 0, none⟩) 3 3) (k2 * 1)) rfl) fun a Z => wlv Z (aE (u := iv (ts.getD k2 0)) (i := k2) (j := 0) (Y.arg hfz5_0) (by rw [List.length_map]; omega) rfl (isAgg3 _) (by rw [bU (0 : Int)]; rfl)) fun a Z => wla Z rfl fun a Z => ab (hK13 _ _ <| aa fun K14 hK14 => ?_)
  refine wlv Z (ai (Y.keepb hfz5_5) rfl (isAgg29 _) (sizeOf29 _)) fun a Z => wlv Z (ai (Y.keepb hfz5_4) rfl (isAgg31 _) (sizeOf31 _)) fun a Z => wlm Z rfl fun a Z => wlm Z rfl fun a Z => aA Z Y de call8 rfl (eO rl cl v1 l (ts.getD k2 0) _ (Y.arg hfz5_6)) ?_
  clear Z Y
  intro a w21 Z Y
  refine wlv Z ((bu rfl).asb (b' := false) rfl) fun a Z => wlm Z rfl fun a Z => wly Z (ai (Y.keepb hfz5_2) rfl (isAgg29 _) (sizeOf29 _)) fun a Z => wly Z (ai (Y.keepb hfz5_1) rfl (isAgg31 _) (sizeOf31 _)) fun a Z => wly Z (ak rfl) fun a Z => wly Z (ak rfl) fun a Z => aF Z Y de rfl de rfl call8 rfl (eO br.rl br.cl br.v br.l (ts.getD k2 0) _ (Y.arg hfz5_3)) ?_
  clear Z Y
  intro a w22 Z Y
  refine wly Z ((bu rfl).asb (b' := false) rfl) fun a Z => wlv Z (aq rfl rfl) fun a Z => wlm Z rfl fun a Z => wly Z (ai (Y.keepb hfz5_11) rfl (isAgg29 _) (sizeOf29 _)) fun a Z => wly Z (ai (Y.keepb hfz5_10) rfl (isAgg31 _) (sizeOf31 _)) fun a Z => wly Z (ak rfl) fun a Z => wly Z (ak rfl) fun a Z => aF Z Y de rfl de rfl call8 rfl (eO ru ra (cut ev 3 0 (min el.length 21) (slCap ev)) (el.take (min el.length 21)) (ts.getD k2 0) _ (Y.arg hsz5_4)) ?_
  clear Z Y
  intro a w23 Z Y
  refine wly Z ((bu rfl).asb (b' := false) rfl) fun a Z => wlv Z (aq rfl rfl) fun a Z => wlm Z rfl fun a Z => wly Z (ai (Y.keepb hfz5_5) rfl (isAgg29 _) (sizeOf29 _)) fun a Z => wly Z (ai (Y.keepb hfz5_10) rfl (isAgg31 _) (sizeOf31 _)) fun a Z => wly Z (ak rfl) fun a Z => wly Z (ak rfl) fun a Z => aF Z Y de rfl de rfl call8 rfl (eO rl ra v1 l (ts.getD k2 0) _ (Y.arg hfz5_6)) ?_
  clear Z Y
  intro a w24 Z Y
  refine wly Z ((bu rfl).asb (b' := false) rfl) fun a Z => wlv Z (aq rfl rfl) fun a Z => wlm Z rfl fun a Z => wly Z (ai (Y.keepb hfz5_11) rfl (isAgg29 _) (sizeOf29 _)) fun a Z => wly Z (ai (Y.keepb hfz5_4) rfl (isAgg31 _) (sizeOf31 _)) fun a Z => wly Z (ak rfl) fun a Z => wly Z (ak rfl) fun a Z => aF Z Y de rfl de rfl call8 rfl (eO ru cl (cut ev 3 0 (min el.length 21) (slCap ev)) (el.take (min el.length 21)) (ts.getD k2 0) _ (Y.arg hsz5_4)) ?_
  clear Z Y
  intro a w25 Z Y
  refine wly Z ((bu rfl).asb (b' := false) rfl) fun a Z => wlv Z (aq rfl rfl) fun a Z => ab (hK14 _ _ ?_)
  replace Z := Z.p17 11 12 15 16 17 19 20 21 22 4 23 24 25 77 78 79 120 rfl
  refine bC Z rfl ?_
  refine az <| hK12 _ _ <| ar <| wlv Z (aS rfl rfl ⟨om, om⟩) fun a Z => wlm Z rfl fun a Z => ab ?_
  refine ⟨_, ?_, k2 + 1, rfl, om, Z.pick [11, 12, 15, 16, 17, 19, 20, 21, 22, 4, 23, 24, 25, 77, 78, 79], Y.select [] de⟩
  omega
 rw [hc6] at Z
 try simp only [qz, Bool.and_eq_true, Bool.or_eq_true, Bool.and_eq_false_iff, Bool.or_eq_false_iff] at hc6
 refine aX ?_
 replace Y : St No w0 [own (.slice (some ⟨b4, 0, none⟩) 3 3) 3 1 (ts.map fun i => [iv i]), blk w15.hz [iv br.cl.number, iv br.cl.frm, iv br.cl.to, iv br.cl.holder, iv br.cl.asked, .bool br.cl.backed] 31, blk w14.hz [iv br.rl.answer, iv br.rl.cooling, iv br.rl.settle, iv br.rl.reverse] 29, own br.v 64 3 (br.l.map Evt.cells), blk w10.hz [iv cl.number, iv cl.frm, iv cl.to, iv cl.holder, iv cl.asked, .bool cl.backed] 31, blk w9.hz [iv rl.answer, iv rl.cooling, iv rl.settle, iv rl.reverse] 29, own v1 64 3 (l.map Evt.cells), blk w6.hz [iv od.signer, iv od.holder, iv od.rf, iv od.rt, iv od.carrier, iv od.serial, iv od.sf, iv od.st, sv od.sig] 41, blk w5.hz [iv how, iv n] 33, blk w4.hz [iv holder, iv r0, iv r1, iv s0, iv s1, iv carrier, iv serial, cv] 36, blk w3.hz [iv ra.number, iv ra.frm, iv ra.to, iv ra.holder, iv ra.asked, .bool ra.backed] 31, blk w2.hz [iv ru.answer, iv ru.cooling, iv ru.settle, iv ru.reverse] 29] w20 := huz5.grow Y.ext
 have hk0 := hk0z5
 refine hK8 _ _ <| aa fun K15 hK15 => wlv Z (ai (Y.g 9 rfl) rfl (isAgg36 _) (sizeOf36 _)) fun a Z => bI Z Y de call9 rfl (qU hx hps (Y.arg hcv) hys h0 h1 h2 h3 h4 h5 h6) ?_
 clear Z Y
 intro a w26 x8 hp Z Y
 revert x8 hp Z Y; rintro pv7 hp Z Y
 clear hp
 replace Y : St No w0 [_, _, _, _, _, _, _, _, _, _, _, _, _] w26 := Y
 refine wlm Z rfl fun a Z => wlv Z (aw rfl rfl) fun a Z => wlv Z (aw rfl rfl) fun a Z => aH Z Y de (zeroValue41 _) (cs := [iv 0, iv 0, iv 0, iv 0, iv 0, iv 0, iv 0, iv 0, .string (⟨#[]⟩)]) rfl ?_
 clear Z Y
 intro a w27 Z Y
 refine am 0 Z Y rfl rfl rfl (sizeOf41 _) rfl (lb rfl) (ds := [iv x.signer, iv x.holder, iv x.rf, iv x.rt, iv x.carrier, iv x.serial, iv x.sf, iv x.st, sv x.sig]) rfl rfl ?_
 clear Z Y
 intro a w28 Z Y
 refine wla Z rfl fun a Z => ab (hK15 _ _ ?_)
 replace Z := Z.p7 16 17 19 21 24 28 29 rfl
 replace Y := Y.k7 1643 rfl
 refine aa fun K16 hK16 => wlv Z (ai (Y.g 0 rfl) rfl (isAgg41 _) (sizeOf41 _)) fun a Z => wlv Z (aC (v := pt w5.hz) rfl rfl kr) fun a Z => wlv Z (ld Y 6 rfl rfl (isAgg3 _) rfl) fun a Z => wlv Z (aC (v := po w5.hz 1) rfl rfl kr) fun a Z => wlv Z (ld Y 6 rfl rfl (isAgg3 _) rfl) fun a Z => aA Z Y de call10 rfl (re hbw h7 om om) ?_
 clear Z Y
 intro a w29 Z Y
 refine wlm Z rfl fun a Z => wlv Z (aw rfl rfl) fun a Z => wlv Z (aw rfl rfl) fun a Z => aH Z Y de (zeroValue41 _) (cs := [iv 0, iv 0, iv 0, iv 0, iv 0, iv 0, iv 0, iv 0, .string (⟨#[]⟩)]) rfl ?_
 clear Z Y
 intro a w30 Z Y
 refine am 0 Z Y rfl rfl rfl (sizeOf41 _) rfl (lb rfl) (ds := [iv bw.signer, iv bw.holder, iv bw.rf, iv bw.rt, iv bw.carrier, iv bw.serial, iv bw.sf, iv bw.st, sv bw.sig]) rfl rfl ?_
 clear Z Y
 intro a w31 Z Y
 refine wla Z rfl fun a Z => ab (hK16 _ _ ?_)
 replace Z := Z.p7 17 19 21 24 28 29 30 rfl
 replace Y := Y.k7 127 rfl
 refine aa fun K17 hK17 => wlv Z (ai (Y.g 5 rfl) rfl (isAgg31 _) (sizeOf31 _)) fun a Z => aH Z Y de (zeroValue31 _) (cs := [iv 0, iv 0, iv 0, iv 0, iv 0, .bool false]) rfl ?_
 clear Z Y
 intro a w32 Z Y
 refine am 0 Z Y rfl rfl rfl (sizeOf31 _) rfl (lb rfl) (ds := [iv cl.number, iv cl.frm, iv cl.to, iv cl.holder, iv cl.asked, .bool cl.backed]) rfl rfl ?_
 clear Z Y
 intro a w33 Z Y
 refine ab (hK17 _ _ <| aa fun K18 hK18 => ?_)
 refine wlv Z (ac (v := po w26.hz 2) rfl kr) fun a Z => wlv Z (ac (v := po w26.hz 2) rfl kr) fun a Z => wlv Z (ld Y 2 rfl rfl (isAgg3 _) rfl) fun a Z => wlv Z (ac (v := pt w31.hz) rfl kr) fun a Z => am 0 Z Y rfl rfl rfl (sizeOf3 _) rfl (lb rfl) (ds := [iv x.rf, iv cl.frm, iv cl.to, iv cl.holder, iv cl.asked, .bool cl.backed]) rfl rfl ?_
 clear Z Y
 intro a w34 Z Y
 refine ab (hK18 _ _ <| aa fun K19 hK19 => ?_)
 refine wlv Z (ac (v := po w26.hz 6) rfl kr) fun a Z => wlv Z (ac (v := po w26.hz 6) rfl kr) fun a Z => wlv Z (ld Y 2 rfl rfl (isAgg3 _) rfl) fun a Z => wlv Z (ac (v := po w31.hz 4) rfl kr) fun a Z => am 0 Z Y rfl rfl rfl (sizeOf3 _) rfl (lb rfl) (ds := [iv x.rf, iv cl.frm, iv cl.to, iv cl.holder, iv x.sf, .bool cl.backed]) rfl rfl ?_
 clear Z Y
 intro a w35 Z Y
 refine ab (hK19 _ _ ?_)
 replace Z := Z.p8 17 19 21 24 28 29 30 32 rfl
 refine aa fun K20 hK20 => wlv Z (ac (v := po w26.hz 1) rfl kr) fun a Z => wlv Z (ld Y 2 rfl rfl (isAgg3 _) rfl) fun a Z => wlv Z (ac (v := po w31.hz 3) rfl kr) fun a Z => am 0 Z Y rfl rfl rfl (sizeOf3 _) rfl (lb rfl) (ds := [iv x.rf, iv cl.frm, iv cl.to, iv x.holder, iv x.sf, .bool cl.backed]) rfl rfl ?_
 clear Z Y
 intro a w36 Z Y
 refine ab (hK20 _ _ <| aa fun K21 hK21 => ?_)
 refine wlv Z (ac (v := po w26.hz 4) rfl kr) fun a Z => wlv Z (ld Y 2 rfl rfl (isAgg3 _) rfl) fun a Z => wlv Z (ac (v := po w31.hz 2) rfl kr) fun a Z => am 0 Z Y rfl rfl rfl (sizeOf3 _) rfl (lb rfl) (ds := [iv x.rf, iv cl.frm, iv x.carrier, iv x.holder, iv x.sf, .bool cl.backed]) rfl rfl ?_
 clear Z Y
 intro a w37 Z Y
 refine ab (hK21 _ _ ?_)
 replace Z := Z.p8 17 19 21 24 28 29 30 32 rfl
 refine aa fun K22 hK22 => wlv Z (ac (v := po w26.hz 4) rfl kr) fun a Z => wlv Z (ld Y 2 rfl rfl (isAgg3 _) rfl) fun a Z => wlv Z (aS rfl rfl ⟨om, om⟩) fun a Z => wlv Z (eY rfl rfl om om) fun a Z => wlv Z (ac (v := po w31.hz 1) rfl kr) fun a Z => am 0 Z Y rfl rfl rfl (sizeOf3 _) rfl (lb rfl) (ds := [iv x.rf, iv ((x.carrier + 1) % 8), iv x.carrier, iv x.holder, iv x.sf, .bool cl.backed]) rfl rfl ?_
 clear Z Y
 intro a w38 Z Y
 refine ab (hK22 _ _ <| ah fun K23 hK23 => ?_)
 refine aa fun K24 hK24 => wlv Z (ai (Y.g 2 rfl) rfl (isAgg41 _) (sizeOf41 _)) fun a Z => wlv Z (ai (Y.g 1 rfl) rfl (isAgg41 _) (sizeOf41 _)) fun a Z => wlv Z (ai (Y.g 7 rfl) rfl (isAgg41 _) (sizeOf41 _)) fun a Z => aI (E := 41) (sz := 9) rfl [[iv x.signer, iv x.holder, iv x.rf, iv x.rt, iv x.carrier, iv x.serial, iv x.sf, iv x.st, sv x.sig], [iv bw.signer, iv bw.holder, iv bw.rf, iv bw.rt, iv bw.carrier, iv bw.serial, iv bw.sf, iv bw.st, sv bw.sig], [iv od.signer, iv od.holder, iv od.rf, iv od.rt, iv od.carrier, iv od.serial, iv od.sf, iv od.st, sv od.sig]] kr sm rfl de de Z Y ?_
 clear Z Y
 intro a w39 Z Y
 refine wlv Z ((aL (sT := 54) (Y.ow 0 rfl) rfl rfl (runUnderlying54 _)).asi (m' := 3) rfx) fun a Z => wlm Z rfl fun a Z => ab (hK24 _ _ ?_)
 replace Z := Z.p8 19 21 24 29 32 159 160 161 rfl
 replace Y := Y.k6 243 rfl
 refine ay ?_
 obtain ⟨zs, hzs⟩ : ∃ zs : List Wsh, zs = [x, bw, od] := ⟨_, rfl⟩
 have hzl : zs.length = 3 := by rw [hzs]; rfl
 replace Y : St No w0 [own (.slice (some ⟨w38.hz, 0, none⟩) 3 3) 41 9 ((zs).map Wsh.cells), blk w31.hz [iv x.rf, iv ((x.carrier + 1) % 8), iv x.carrier, iv x.holder, iv x.sf, .bool cl.backed] 31, own pv7 86 7 (ps.map Pxy.cells), blk w15.hz [iv br.cl.number, iv br.cl.frm, iv br.cl.to, iv br.cl.holder, iv br.cl.asked, .bool br.cl.backed] 31, own br.v 64 3 (br.l.map Evt.cells), blk w10.hz [iv cl.number, iv cl.frm, iv cl.to, iv cl.holder, iv cl.asked, .bool cl.backed] 31] w39 := by rw [hzs]; exact Y
 have huz9 := Y
 have hfz9_0 : SlAt w39 (.slice (some ⟨w38.hz, 0, none⟩) 3 3) 9 ((zs).map Wsh.cells) := Y.ow 0 rfl
 have hfz9_1 : (blk w31.hz [iv x.rf, iv ((x.carrier + 1) % 8), iv x.carrier, iv x.holder, iv x.sf, .bool cl.backed] 31).ok w39 := Y.g 1 rfl
 have hfz9_2 : SlAt w39 pv7 7 (ps.map Pxy.cells) := Y.ow 2 rfl
 have hfz9_3 : (blk w15.hz [iv br.cl.number, iv br.cl.frm, iv br.cl.to, iv br.cl.holder, iv br.cl.asked, .bool br.cl.backed] 31).ok w39 := Y.g 3 rfl
 have hfz9_4 : SlAt w39 br.v 3 (br.l.map Evt.cells) := Y.ow 4 rfl
 have hfz9_5 : (blk w10.hz [iv cl.number, iv cl.frm, iv cl.to, iv cl.holder, iv cl.asked, .bool cl.backed] 31).ok w39 := Y.g 5 rfl
 have hk0z9 := hk0
 have hk0 := Y.keepb hk0
 replace Y : St No w39 [] w39 := St.init w39
 refine bj (fun m a w => ∃ (k0 : Nat), m = 3 - k0 ∧ (k0 ≤ 3) ∧ Fr 201 [(19, .bool true), (21, pt w10.hz), (24, pt w15.hz), (29, pv7), (32, pt w31.hz), (159, (.slice (some ⟨w38.hz, 0, none⟩) 3 3)), (160, iv 3), (161, iv (k0 : Int))] [] a ∧ St No w39 [] w) _ ⟨0, rfl, Nat.zero_le _, Z.pick [19, 21, 24, 29, 32, 159, 160, 161], Y.select [] de⟩ ?_
 rintro _ a w40 ⟨k0, rfl, hk0x, Z, Y⟩
 refine aa fun K25 hK25 => wlv Z (v_lt rfl rfl) fun a Z => ab (hK25 _ _ <| ah fun K26 hK26 => ?_)
 refine ax Z rfl (fun hc10 => ?_) (fun hc10 => ?_)
 ·rw [hc10] at Z
  try simp only [qz, Bool.and_eq_true, Bool.or_eq_true, Bool.and_eq_false_iff, Bool.or_eq_false_iff] at hc10
  refine az <| hK26 _ _ <| ah fun K27 hK27 => ay <| aa fun K28 hK28 => wlv Z ((ao (i := (k0 : Int)) (sT := 54) (Y.arg hfz9_0) rfl rfl (runUnderlying54 _) (sizeOf41 _) om (by rw [List.length_map]; omega)).as (v' := slAddr (.slice (some ⟨w38.hz, 0, none⟩) 3 3) (k0 * 9)) rfl) fun a Z => wlv Z ((bN (Y.arg hfz9_0) (i := k0) (by rw [List.length_map]; omega) rfl (isAgg41 _) (sizeOf41 _)).as (v' := .agg #[iv ((zs.getD k0 exZ).signer), iv ((zs.getD k0 exZ).holder), iv ((zs.getD k0 exZ).rf), iv ((zs.getD k0 exZ).rt), iv ((zs.getD k0 exZ).carrier), iv ((zs.getD k0 exZ).serial), iv ((zs.getD k0 exZ).sf), iv ((zs.getD k0 exZ).st), sv ((zs.getD k0 exZ).sig)]) (by rw [bU exZ]; rfl)) fun a Z => aH Z Y de (zeroValue41 _) (cs := [iv 0, iv 0, iv 0, iv 0, iv 0, iv 0, iv 0, iv 0, .string (⟨#[]⟩)]) rfl ?_
  clear Z Y
  intro a w41 Z Y
  refine am 0 Z Y rfl rfl rfl (sizeOf41 _) rfl (lb rfl) (ds := [iv ((zs.getD k0 exZ).signer), iv ((zs.getD k0 exZ).holder), iv ((zs.getD k0 exZ).rf), iv ((zs.getD k0 exZ).rt), iv ((zs.getD k0 exZ).carrier), iv ((zs.getD k0 exZ).serial), iv ((zs.getD k0 exZ).sf), iv ((zs.getD k0 exZ).st), sv ((zs.getD k0 exZ).sig)]) rfl rfl ?_
  clear Z Y
  intro a w42 Z Y
  refine ab (hK28 _ _ <| aa fun K29 hK29 => ?_)
  refine wlv Z (ai (Y.keepb hfz9_5) rfl (isAgg31 _) (sizeOf31 _)) fun a Z => wlv Z (ai (Y.keepb hfz9_3) rfl (isAgg31 _) (sizeOf31 _)) fun a Z => wlv Z (ai (Y.keepb hfz9_1) rfl (isAgg31 _) (sizeOf31 _)) fun a Z => aI (E := 31) (sz := 6) rfl [[iv cl.number, iv cl.frm, iv cl.to, iv cl.holder, iv cl.asked, .bool cl.backed], [iv br.cl.number, iv br.cl.frm, iv br.cl.to, iv br.cl.holder, iv br.cl.asked, .bool br.cl.backed], [iv x.rf, iv ((x.carrier + 1) % 8), iv x.carrier, iv x.holder, iv x.sf, .bool cl.backed]] kr sm rfl de de Z Y ?_
  clear Z Y
  intro a w43 Z Y
  refine wlv Z ((aL (sT := 55) (Y.ow 0 rfl) rfl rfl (runUnderlying55 _)).asi (m' := 3) rfx) fun a Z => wlm Z rfl fun a Z => ab (hK29 _ _ ?_)
  replace Z := Z.p12 19 21 24 29 32 159 160 161 34 168 169 170 rfl
  refine ay ?_
  obtain ⟨cc, hcc⟩ : ∃ cc : List Clm, cc = [cl, br.cl, (⟨x.rf, (x.carrier + 1) % 8, x.carrier, x.holder, x.sf, cl.backed⟩ : Clm)] := ⟨_, rfl⟩
  have hcl3 : cc.length = 3 := by rw [hcc]; rfl
  replace Y : St No w39 [own (.slice (some ⟨w42.hz, 0, none⟩) 3 3) 31 6 ((cc).map Clm.cells), blk w40.hz [iv ((zs.getD k0 exZ).signer), iv ((zs.getD k0 exZ).holder), iv ((zs.getD k0 exZ).rf), iv ((zs.getD k0 exZ).rt), iv ((zs.getD k0 exZ).carrier), iv ((zs.getD k0 exZ).serial), iv ((zs.getD k0 exZ).sf), iv ((zs.getD k0 exZ).st), sv ((zs.getD k0 exZ).sig)] 41] w43 := by rw [hcc]; exact Y
  have huz11 := Y
  have hfz11_0 : SlAt w43 (.slice (some ⟨w42.hz, 0, none⟩) 3 3) 6 ((cc).map Clm.cells) := Y.ow 0 rfl
  have hfz11_1 : (blk w40.hz [iv ((zs.getD k0 exZ).signer), iv ((zs.getD k0 exZ).holder), iv ((zs.getD k0 exZ).rf), iv ((zs.getD k0 exZ).rt), iv ((zs.getD k0 exZ).carrier), iv ((zs.getD k0 exZ).serial), iv ((zs.getD k0 exZ).sf), iv ((zs.getD k0 exZ).st), sv ((zs.getD k0 exZ).sig)] 41).ok w43 := Y.g 1 rfl
  have hgz11_0 := Y.keepb hfz9_1
  have hgz11_1 := Y.keepb hfz9_3
  have hgz11_2 := Y.keepb hfz9_5
  have hsz11_29 : SlAt w43 pv7 7 ((ps).map Pxy.cells) := (Y.arg hfz9_2)
  have hsz11_159 : SlAt w43 (.slice (some ⟨w38.hz, 0, none⟩) 3 3) 9 ((zs).map Wsh.cells) := (Y.arg hfz9_0)
  have hk0z11 := hk0
  have hk0 := Y.keepb hk0
  replace Y : St No w43 [] w43 := St.init w43
  refine bj (fun m a w => ∃ (k1 : Nat), m = 3 - k1 ∧ (k1 ≤ 3) ∧ Fr 201 [(19, .bool true), (21, pt w10.hz), (24, pt w15.hz), (29, pv7), (32, pt w31.hz), (159, (.slice (some ⟨w38.hz, 0, none⟩) 3 3)), (160, iv 3), (161, iv (k0 : Int)), (34, pt w40.hz), (168, (.slice (some ⟨w42.hz, 0, none⟩) 3 3)), (169, iv 3), (170, iv (k1 : Int))] [] a ∧ St No w43 [] w) _ ⟨0, rfl, Nat.zero_le _, Z.pick [19, 21, 24, 29, 32, 159, 160, 161, 34, 168, 169, 170], Y.select [] de⟩ ?_
  rintro _ a w44 ⟨k1, rfl, hk1, Z, Y⟩
  refine aa fun K30 hK30 => wlv Z (v_lt rfl rfl) fun a Z => ab (hK30 _ _ <| ah fun K31 hK31 => ?_)
  refine ax Z rfl (fun hc12 => ?_) (fun hc12 => ?_)
  ·rw [hc12] at Z
   try simp only [qz, Bool.and_eq_true, Bool.or_eq_true, Bool.and_eq_false_iff, Bool.or_eq_false_iff] at hc12
   refine az <| hK31 _ _ <| ah fun K32 hK32 => ay <| aa fun K33 hK33 => wlv Z ((ao (i := (k1 : Int)) (sT := 55) (Y.arg hfz11_0) rfl rfl (runUnderlying55 _) (sizeOf31 _) om (by rw [List.length_map]; omega)).as (v' := slAddr (.slice (some ⟨w42.hz, 0, none⟩) 3 3) (k1 * 6)) rfl) fun a Z => wlv Z ((bN (Y.arg hfz11_0) (i := k1) (by rw [List.length_map]; omega) rfl (isAgg31 _) (sizeOf31 _)).as (v' := .agg #[iv ((cc.getD k1 Clm.z).number), iv ((cc.getD k1 Clm.z).frm), iv ((cc.getD k1 Clm.z).to), iv ((cc.getD k1 Clm.z).holder), iv ((cc.getD k1 Clm.z).asked), .bool ((cc.getD k1 Clm.z).backed)]) (by rw [bU Clm.z]; rfl)) fun a Z => aH Z Y de (zeroValue31 _) (cs := [iv 0, iv 0, iv 0, iv 0, iv 0, .bool false]) rfl ?_
   clear Z Y
   intro a w45 Z Y
   refine am 0 Z Y rfl rfl rfl (sizeOf31 _) rfl (lb rfl) (ds := [iv ((cc.getD k1 Clm.z).number), iv ((cc.getD k1 Clm.z).frm), iv ((cc.getD k1 Clm.z).to), iv ((cc.getD k1 Clm.z).holder), iv ((cc.getD k1 Clm.z).asked), .bool ((cc.getD k1 Clm.z).backed)]) rfl rfl ?_
   clear Z Y
   intro a w46 Z Y
   refine ab (hK33 _ _ <| ah fun K34 hK34 => ?_)
   obtain ⟨bcl, ecl, hbk⟩ : ∃ b e, backT keysH (zs.getD k0 exZ) ps (cc.getD k1 Clm.z) = (b, e) := ⟨_, _, rfl⟩
   refine aK kr (aU kr fun w47 hxz => ?_)
   replace Y := Y.grow hxz
   refine aV (k := 0) 10 [7, 9] Z kr kr kr rfx ?_
   replace Z := Z.p16 19 21 24 29 32 159 160 161 34 168 169 170 171 172 173 36 rfl
   refine cJ 8 9 31 [iv 0, iv 0, iv 0, iv 0, iv 0, .bool false] [iv bcl.number, iv bcl.frm, iv bcl.to, iv bcl.holder, iv bcl.asked, .bool bcl.backed] 10 [[], [], [], [], [0, 1, 2, 3], [4], [5], [5], [], [6, 8]] (fun i => match i with | 0 => pm (fun v : Value => v) (fun v => [own v 9 1 (keysH.map fun s => [sv s])]) (fun _ => True) | 1 => pv (.agg #[iv ((zs.getD k0 exZ).signer), iv ((zs.getD k0 exZ).holder), iv ((zs.getD k0 exZ).rf), iv ((zs.getD k0 exZ).rt), iv ((zs.getD k0 exZ).carrier), iv ((zs.getD k0 exZ).serial), iv ((zs.getD k0 exZ).sf), iv ((zs.getD k0 exZ).st), sv ((zs.getD k0 exZ).sig)]) | 2 => pv (pv7) | 3 => pv (.agg #[iv ((cc.getD k1 Clm.z).number), iv ((cc.getD k1 Clm.z).frm), iv ((cc.getD k1 Clm.z).to), iv ((cc.getD k1 Clm.z).holder), iv ((cc.getD k1 Clm.z).asked), .bool ((cc.getD k1 Clm.z).backed)]) | 4 => pv (.tuple #[.agg #[iv bcl.number, iv bcl.frm, iv bcl.to, iv bcl.holder, iv bcl.asked, .bool bcl.backed], iv ecl]) | 5 => pv (.tuple #[.agg #[iv bcl.number, iv bcl.frm, iv bcl.to, iv bcl.holder, iv bcl.asked, .bool bcl.backed], iv ecl]) | 6 => pv (.agg #[iv bcl.number, iv bcl.frm, iv bcl.to, iv bcl.holder, iv bcl.asked, .bool bcl.backed]) | 7 => pv (iv ecl) | 8 => fun v E => ∃ b, v = ptr b ∧ E = [] | 9 => fun v E => v = undef ∧ E = [] | _ => fun _ _ => False) Z (H := [blk w44.hz [iv ((cc.getD k1 Clm.z).number), iv ((cc.getD k1 Clm.z).frm), iv ((cc.getD k1 Clm.z).to), iv ((cc.getD k1 Clm.z).holder), iv ((cc.getD k1 Clm.z).asked), .bool ((cc.getD k1 Clm.z).backed)] 31]) Y kr kr kr kr de de de de de ?_ (fun v E h => h) ⟨rfl, rfl⟩ (fun v E => Iff.rfl) ?_ ?_ ?_ ?_
   ·intro i v E h
    match i, h with
    | 0, _ => exact by decide
    | 1, _ => exact by decide
    | 2, _ => exact by decide
    | 3, _ => exact by decide
    | 4, _ => exact by decide
    | 5, _ => exact by decide
    | 6, _ => exact by decide
    | 7, _ => exact by decide
    | 8, _ => exact by decide
    | 9, _ => exact by decide
    | i + 10, h => exact h.elim
   ·intro i hi hia hij e
    match i, hi, hia, hij with
    | 0, _, _, _ => exact fun w Y => hZ call12 rfl (mW _)
    | 1, _, _, _ => exact fun w Y => OpV.g (ai (Y.keepb hfz11_1) rfl (isAgg41 _) (sizeOf41 _))
    | 2, _, _, _ => exact fun w Y => OpV.g (ak rfl)
    | 3, _, _, _ => exact fun w Y => OpV.g (ai (Y.g 1 rfl) rfl (isAgg31 _) (sizeOf31 _))
    | 4, _, _, _ =>
     rintro kv14 _ ⟨_, rfl, -, rfl⟩ _ _ ⟨rfl, rfl⟩ _ _ ⟨rfl, rfl⟩ _ _ ⟨rfl, rfl⟩
     intro w Y
     exact aT call11 rfl (kH (ks := keysH) (x := (zs.getD k0 exZ)) (ps := ps) (cl := (cc.getD k1 Clm.z)) (b := bcl) (e := ecl) hbk (Y.ow 0 rfl) (Y.arg hsz11_29) (Y.keepb hk0))
    | 5, _, _, _ =>
     rintro _ _ ⟨rfl, rfl⟩
     intro w Y
     exact OpV.g (ak rfl)
    | 6, _, _, _ =>
     rintro _ _ ⟨rfl, rfl⟩
     intro w Y
     exact OpV.g (aw rfl rfl)
    | 7, _, _, _ =>
     rintro _ _ ⟨rfl, rfl⟩
     intro w Y
     exact OpV.g (aw rfl rfl)
    | 8, _, h, _ => exact absurd rfl h
    | 9, _, _, h => exact absurd rfl h
   ·exact fun Lv w => dS (zeroValue31 _)
   ·rintro _ _ ⟨rfl, rfl⟩ _ _ ⟨b13, rfl, rfl⟩
    intro b hb w h
    have hb : some (ptr b13) = some (ptr b) := hb
    cases hb
    exact cA rfl rfl h (sizeOf31 _) rfl (lb rfl) rfl
   clear Z Y
   rintro bq kv14 _ ⟨⟨_, rfl, -, rfl⟩, -⟩ _ _ ⟨⟨rfl, rfl⟩, -⟩ _ _ ⟨⟨rfl, rfl⟩, -⟩ _ _ ⟨⟨rfl, rfl⟩, -⟩ _ _ ⟨⟨rfl, rfl⟩, -⟩ _ _ ⟨⟨rfl, rfl⟩, -⟩ _ _ ⟨⟨rfl, rfl⟩, -⟩ _ _ ⟨⟨rfl, rfl⟩, -⟩ _ _ ⟨⟨b13, rfl, rfl⟩, hva⟩ a w48 Z Y
   obtain rfl : b13 = bq := fq (hva rfl)
   replace Z : Fr 201 [(175, _), (176, _), (177, _), (178, _), (179, _), (174, _), (180, _), (181, _), (37, _), (19, _), (21, _), (24, _), (29, _), (32, _), (159, _), (160, _), (161, _), (34, _), (168, _), (169, _), (170, _), (171, _), (172, _), (173, _), (36, _)] [] a := Z
   replace Y : St No w43 [_, _, _] w48 := Y
   refine ab <| aP (k := 10) 11 [10] kr kr kr ?_
   refine wla Z rfl fun a Z => ab <| bt kr ?_
   refine hK34 _ _ ?_
   replace Z := Z.p15 19 21 24 29 32 159 160 161 34 168 169 170 36 37 38 rfl
   replace Y := Y.k2 6 rfl
   refine ah fun K35 hK35 => aK kr (aU kr fun w49 hxz => ?_)
   replace Y := Y.grow hxz
   refine aV (k := 0) 10 [7, 9] Z kr kr kr rfx ?_
   replace Z := Z.p15 19 21 24 29 32 159 160 161 34 168 169 170 36 37 38 rfl
   refine cJ 8 9 31 [iv 0, iv 0, iv 0, iv 0, iv 0, .bool false] [iv bcl.number, iv bcl.frm, iv bcl.to, iv bcl.holder, iv bcl.asked, .bool bcl.backed] 10 [[], [], [], [], [0, 1, 2, 3], [4], [5], [5], [], [6, 8]] (fun i => match i with | 0 => pm (fun v : Value => v) (fun v => [own v 9 1 (keysH.map fun s => [sv s])]) (fun _ => True) | 1 => pv (.agg #[iv ((zs.getD k0 exZ).signer), iv ((zs.getD k0 exZ).holder), iv ((zs.getD k0 exZ).rf), iv ((zs.getD k0 exZ).rt), iv ((zs.getD k0 exZ).carrier), iv ((zs.getD k0 exZ).serial), iv ((zs.getD k0 exZ).sf), iv ((zs.getD k0 exZ).st), sv ((zs.getD k0 exZ).sig)]) | 2 => pv (pv7) | 3 => pv (.agg #[iv ((cc.getD k1 Clm.z).number), iv ((cc.getD k1 Clm.z).frm), iv ((cc.getD k1 Clm.z).to), iv ((cc.getD k1 Clm.z).holder), iv ((cc.getD k1 Clm.z).asked), .bool ((cc.getD k1 Clm.z).backed)]) | 4 => pv (.tuple #[.agg #[iv bcl.number, iv bcl.frm, iv bcl.to, iv bcl.holder, iv bcl.asked, .bool bcl.backed], iv ecl]) | 5 => pv (.tuple #[.agg #[iv bcl.number, iv bcl.frm, iv bcl.to, iv bcl.holder, iv bcl.asked, .bool bcl.backed], iv ecl]) | 6 => pv (.agg #[iv bcl.number, iv bcl.frm, iv bcl.to, iv bcl.holder, iv bcl.asked, .bool bcl.backed]) | 7 => pv (iv ecl) | 8 => fun v E => ∃ b, v = ptr b ∧ E = [] | 9 => fun v E => v = undef ∧ E = [] | _ => fun _ _ => False) Z (H := [blk b13 [iv bcl.number, iv bcl.frm, iv bcl.to, iv bcl.holder, iv bcl.asked, .bool bcl.backed] 31, blk w44.hz [iv ((cc.getD k1 Clm.z).number), iv ((cc.getD k1 Clm.z).frm), iv ((cc.getD k1 Clm.z).to), iv ((cc.getD k1 Clm.z).holder), iv ((cc.getD k1 Clm.z).asked), .bool ((cc.getD k1 Clm.z).backed)] 31]) Y kr kr kr kr de de de de de ?_ (fun v E h => h) ⟨rfl, rfl⟩ (fun v E => Iff.rfl) ?_ ?_ ?_ ?_
   ·intro i v E h
    match i, h with
    | 0, _ => exact by decide
    | 1, _ => exact by decide
    | 2, _ => exact by decide
    | 3, _ => exact by decide
    | 4, _ => exact by decide
    | 5, _ => exact by decide
    | 6, _ => exact by decide
    | 7, _ => exact by decide
    | 8, _ => exact by decide
    | 9, _ => exact by decide
    | i + 10, h => exact h.elim
   ·intro i hi hia hij e
    match i, hi, hia, hij with
    | 0, _, _, _ => exact fun w Y => hZ call12 rfl (mW _)
    | 1, _, _, _ => exact fun w Y => OpV.g (ai (Y.keepb hfz11_1) rfl (isAgg41 _) (sizeOf41 _))
    | 2, _, _, _ => exact fun w Y => OpV.g (ak rfl)
    | 3, _, _, _ => exact fun w Y => OpV.g (ai (Y.g 2 rfl) rfl (isAgg31 _) (sizeOf31 _))
    | 4, _, _, _ =>
     rintro kv16 _ ⟨_, rfl, -, rfl⟩ _ _ ⟨rfl, rfl⟩ _ _ ⟨rfl, rfl⟩ _ _ ⟨rfl, rfl⟩
     intro w Y
     exact aT call13 rfl (j4 (ks := keysH) (x := (zs.getD k0 exZ)) (ps := ps) (cl := (cc.getD k1 Clm.z)) (b := bcl) (e := ecl) hbk (Y.ow 0 rfl) (Y.arg hsz11_29))
    | 5, _, _, _ =>
     rintro _ _ ⟨rfl, rfl⟩
     intro w Y
     exact OpV.g (ak rfl)
    | 6, _, _, _ =>
     rintro _ _ ⟨rfl, rfl⟩
     intro w Y
     exact OpV.g (aw rfl rfl)
    | 7, _, _, _ =>
     rintro _ _ ⟨rfl, rfl⟩
     intro w Y
     exact OpV.g (aw rfl rfl)
    | 8, _, h, _ => exact absurd rfl h
    | 9, _, _, h => exact absurd rfl h
   ·exact fun Lv w => dS (zeroValue31 _)
   ·rintro _ _ ⟨rfl, rfl⟩ _ _ ⟨b15, rfl, rfl⟩
    intro b hb w h
    have hb : some (ptr b15) = some (ptr b) := hb
    cases hb
    exact cA rfl rfl h (sizeOf31 _) rfl (lb rfl) rfl
   clear Z Y
   rintro bq kv16 _ ⟨⟨_, rfl, -, rfl⟩, -⟩ _ _ ⟨⟨rfl, rfl⟩, -⟩ _ _ ⟨⟨rfl, rfl⟩, -⟩ _ _ ⟨⟨rfl, rfl⟩, -⟩ _ _ ⟨⟨rfl, rfl⟩, -⟩ _ _ ⟨⟨rfl, rfl⟩, -⟩ _ _ ⟨⟨rfl, rfl⟩, -⟩ _ _ ⟨⟨rfl, rfl⟩, -⟩ _ _ ⟨⟨b15, rfl, rfl⟩, hva⟩ a w50 Z Y
   obtain rfl : b15 = bq := fq (hva rfl)
   replace Z : Fr 201 [(183, _), (184, _), (185, _), (186, _), (187, _), (182, _), (188, _), (189, _), (39, _), (19, _), (21, _), (24, _), (29, _), (32, _), (159, _), (160, _), (161, _), (34, _), (168, _), (169, _), (170, _), (36, _), (37, _), (38, _)] [] a := Z
   replace Y : St No w43 [_, _, _, _] w50 := Y
   refine ab <| aP (k := 10) 11 [10] kr kr kr ?_
   refine wla Z rfl fun a Z => ab <| bt kr ?_
   refine hK35 _ _ ?_
   replace Z := Z.p16 19 21 24 29 32 159 160 161 34 168 169 170 37 38 39 40 rfl
   replace Y := Y.k2 6 rfl
   refine aa fun K36 hK36 => wlv Z (ai (Y.g 1 rfl) rfl (isAgg31 _) (sizeOf31 _)) fun a Z => wlv Z (ai (Y.g 0 rfl) rfl (isAgg31 _) (sizeOf31 _)) fun a Z => wlv Z ((io rfl rfl kr (eqClm bcl _)).asb (b' := false) rfl) fun a Z => wlm Z rfl fun a Z => wly Z (ak rfl) fun a Z => wly Z (ak rfl) fun a Z => wly Z ((v_ne rfl rfl).asb (b' := false) sm) fun a Z => wlv Z (aq rfl rfl) fun a Z => ab (hK36 _ _ ?_)
   replace Z := Z.p13 19 21 24 29 32 159 160 161 34 168 169 170 197 rfl
   replace Y : St No w43 [] w50 := Y.mask [false, false]
   refine bC Z rfl ?_
   refine az <| hK32 _ _ <| ar <| wlv Z (aS rfl rfl ⟨om, om⟩) fun a Z => wlm Z rfl fun a Z => ab ?_
   refine ⟨_, ?_, k1 + 1, rfl, om, Z.pick [19, 21, 24, 29, 32, 159, 160, 161, 34, 168, 169, 170], Y.select [] de⟩
   omega
  rw [hc12] at Z
  try simp only [qz, Bool.and_eq_true, Bool.or_eq_true, Bool.and_eq_false_iff, Bool.or_eq_false_iff] at hc12
  refine aX ?_
  replace Y : St No w39 [own (.slice (some ⟨w42.hz, 0, none⟩) 3 3) 31 6 ((cc).map Clm.cells), blk w40.hz [iv ((zs.getD k0 exZ).signer), iv ((zs.getD k0 exZ).holder), iv ((zs.getD k0 exZ).rf), iv ((zs.getD k0 exZ).rt), iv ((zs.getD k0 exZ).carrier), iv ((zs.getD k0 exZ).serial), iv ((zs.getD k0 exZ).sf), iv ((zs.getD k0 exZ).st), sv ((zs.getD k0 exZ).sig)] 41] w44 := huz11.grow Y.ext
  have hk0 := hk0z11
  refine hK27 _ _ <| ar <| wlv Z (aS rfl rfl ⟨om, om⟩) fun a Z => wlm Z rfl fun a Z => ab ?_
  refine ⟨_, ?_, k0 + 1, rfl, om, Z.pick [19, 21, 24, 29, 32, 159, 160, 161], Y.select [] de⟩
  omega
 rw [hc10] at Z
 try simp only [qz, Bool.and_eq_true, Bool.or_eq_true, Bool.and_eq_false_iff, Bool.or_eq_false_iff] at hc10
 refine aX ?_
 replace Y : St No w0 [own (.slice (some ⟨w38.hz, 0, none⟩) 3 3) 41 9 ((zs).map Wsh.cells), blk w31.hz [iv x.rf, iv ((x.carrier + 1) % 8), iv x.carrier, iv x.holder, iv x.sf, .bool cl.backed] 31, own pv7 86 7 (ps.map Pxy.cells), blk w15.hz [iv br.cl.number, iv br.cl.frm, iv br.cl.to, iv br.cl.holder, iv br.cl.asked, .bool br.cl.backed] 31, own br.v 64 3 (br.l.map Evt.cells), blk w10.hz [iv cl.number, iv cl.frm, iv cl.to, iv cl.holder, iv cl.asked, .bool cl.backed] 31] w40 := huz9.grow Y.ext
 have hk0 := hk0z9
 refine hK23 _ _ <| aa fun K37 hK37 => wlm Z rfl fun a Z => wla Z rfl fun a Z => ab (hK37 _ _ ?_)
 replace Z := Z.p1 18 rfl
 replace Y := Y.k1 16 rfl
 refine ap ?_
 refine aj Z results3 (ae rfl ag) ?_
 exact ⟨by rfl, Y.ext⟩
open Go.ChangeShapes Go.WideShapes Go.ChangeAt
section
variable {H : Type} {enc : TypeId × Value → H} {W : World} {base b0 : Nat} {sp : Nat → Bool} {hd : Bool} {v : Value} {d : DataW H} {ps : List MemPlace} {r : Reach}
theorem len3 {α : Type} {l : List α} (h : l.length = 3) : ∃ a0 a1 a2, l = [a0, a1, a2] := by
 match l, h with
 | [a0, a1, a2], _ => exact ⟨_, _, _, rfl⟩
theorem len4 {α : Type} {l : List α} (h : l.length = 4) : ∃ a0 a1 a2 a3, l = [a0, a1, a2, a3] := by
 match l, h with
 | [a0, a1, a2, a3], _ => exact ⟨_, _, _, _, rfl⟩
theorem len6 {α : Type} {l : List α} (h : l.length = 6) : ∃ a0 a1 a2 a3 a4 a5, l = [a0, a1, a2, a3, a4, a5] := by
 match l, h with
 | [a0, a1, a2, a3, a4, a5], _ => exact ⟨_, _, _, _, _, _, rfl⟩
theorem len11 {α : Type} {l : List α} (h : l.length = 11) : ∃ a0 a1 a2 a3 a4 a5 a6 a7 a8 a9 a10, l = [a0, a1, a2, a3, a4, a5, a6, a7, a8, a9, a10] := by
 match l, h with
 | [a0, a1, a2, a3, a4, a5, a6, a7, a8, a9, a10], _ => exact ⟨_, _, _, _, _, _, _, _, _, _, _, rfl⟩
theorem pz {fuel : Nat} {cs : List Value} {x : DataW H × List MemPlace} (hl : cs.length = 4) (hw : Wt Tryz.prog 22 x.1) (h : DataW.trod enc Tryz.prog W base sp hd fuel 22 cs = some x) :
  ∃ (n0 : Int) (n1 : Int) (n2 : Int) (n3 : Int), cs = [iv n0, iv n1, iv n2, iv n3] ∧ (i64 n0) ∧ (i64 n1) ∧ (i64 n2) ∧ (i64 n3) := by
 obtain ⟨zs, hz, he, hy⟩ := du 4 underlying22 underlying3 kr h hl
 obtain ⟨n0, n1, n2, n3, rfl⟩ := len4 hz
 exact ⟨n0, n1, n2, n3, he, hy n0 sm, hy n1 sm, hy n2 sm, hy n3 sm⟩
theorem lg {fuel : Nat} {cs : List Value} {x : DataW H × List MemPlace} (hl : cs.length = 3) (hw : Wt Tryz.prog 27 x.1) (h : DataW.trod enc Tryz.prog W base sp hd fuel 27 cs = some x) :
  ∃ (n0 : Int) (n1 : Int) (n2 : Int), cs = [iv n0, iv n1, iv n2] ∧ (i64 n0) ∧ (i64 n1) ∧ (i64 n2) := by
 obtain ⟨zs, hz, he, hy⟩ := du 3 underlying27 underlying3 kr h hl
 obtain ⟨n0, n1, n2, rfl⟩ := len3 hz
 exact ⟨n0, n1, n2, he, hy n0 sm, hy n1 sm, hy n2 sm⟩
theorem me (hval : Value.okWide Tryz.prog W r b0 27 v) (hw : Wt Tryz.prog 27 d) (hd0 : DataW.Trod enc Tryz.prog W base sp hd 27 v d ps) :
  ∃ (n0 : Int) (n1 : Int) (n2 : Int), v = .agg #[iv n0, iv n1, iv n2] ∧ (i64 n0) ∧ (i64 n1) ∧ (i64 n2) := by
 obtain ⟨csA, rfl, hsz, hrow⟩ := cK kr hval
 obtain ⟨fuel, hf⟩ := hd0
 have hc : Tryz.prog.cellsOf 27 = 3 := by kernel_rfl
 obtain ⟨n0, n1, n2, he, g0, g1, g2⟩ := lg (cs := csA.toList) (by rw [Array.length_toList, hsz, hc]) hw hf
 obtain rfl : csA = #[iv n0, iv n1, iv n2] := by
  have he2 : csA.toList = [iv n0, iv n1, iv n2] := he
  cases csA; simp only at he2; rw [he2]
 exact ⟨n0, n1, n2, rfl, g0, g1, g2⟩
theorem ph {fuel : Nat} {cs : List Value} {x : DataW H × List MemPlace} (hl : cs.length = 4) (hw : Wt Tryz.prog 29 x.1) (h : DataW.trod enc Tryz.prog W base sp hd fuel 29 cs = some x) :
  ∃ (n0 : Int) (n1 : Int) (n2 : Int) (n3 : Int), cs = [iv n0, iv n1, iv n2, iv n3] ∧ (i64 n0) ∧ (i64 n1) ∧ (i64 n2) ∧ (i64 n3) := by
 obtain ⟨c0, c1, c2, c3, rfl⟩ := len4 hl
 obtain ⟨m0, z0, h0, w0⟩ := aZ 0 _ underlying29 hw h rfl
 have k0 : Tryz.prog.cellsOf 3 = 1 := by kernel_rfl
 replace h0 : DataW.trod enc Tryz.prog W base sp hd m0 3 [c0] = some z0 := by rw [show [c0] = ([c0, c1, c2, c3].drop 0).take (Tryz.prog.cellsOf 3) from by rw [k0]; rfl]; exact h0
 obtain ⟨m1, z1, h1, w1⟩ := aZ 1 _ underlying29 hw h rfl
 have k1 : Tryz.prog.cellsOf 3 = 1 := by kernel_rfl
 replace h1 : DataW.trod enc Tryz.prog W base sp hd m1 3 [c1] = some z1 := by rw [show [c1] = ([c0, c1, c2, c3].drop 1).take (Tryz.prog.cellsOf 3) from by rw [k1]; rfl]; exact h1
 obtain ⟨m2, z2, h2, w2⟩ := aZ 2 _ underlying29 hw h rfl
 have k2 : Tryz.prog.cellsOf 3 = 1 := by kernel_rfl
 replace h2 : DataW.trod enc Tryz.prog W base sp hd m2 3 [c2] = some z2 := by rw [show [c2] = ([c0, c1, c2, c3].drop 2).take (Tryz.prog.cellsOf 3) from by rw [k2]; rfl]; exact h2
 obtain ⟨m3, z3, h3, w3⟩ := aZ 3 _ underlying29 hw h rfl
 have k3 : Tryz.prog.cellsOf 3 = 1 := by kernel_rfl
 replace h3 : DataW.trod enc Tryz.prog W base sp hd m3 3 [c3] = some z3 := by rw [show [c3] = ([c0, c1, c2, c3].drop 3).take (Tryz.prog.cellsOf 3) from by rw [k3]; rfl]; exact h3
 obtain ⟨n0, e0, f0⟩ := bT underlying3 h0
 obtain rfl : c0 = iv n0 := by simpa using e0
 obtain ⟨n1, e1, f1⟩ := bT underlying3 h1
 obtain rfl : c1 = iv n1 := by simpa using e1
 obtain ⟨n2, e2, f2⟩ := bT underlying3 h2
 obtain rfl : c2 = iv n2 := by simpa using e2
 obtain ⟨n3, e3, f3⟩ := bT underlying3 h3
 obtain rfl : c3 = iv n3 := by simpa using e3
 exact ⟨n0, n1, n2, n3, rfl, f0, f1, f2, f3⟩
theorem mr (hval : Value.okWide Tryz.prog W r b0 29 v) (hw : Wt Tryz.prog 29 d) (hd0 : DataW.Trod enc Tryz.prog W base sp hd 29 v d ps) :
  ∃ (n0 : Int) (n1 : Int) (n2 : Int) (n3 : Int), v = .agg #[iv n0, iv n1, iv n2, iv n3] ∧ (i64 n0) ∧ (i64 n1) ∧ (i64 n2) ∧ (i64 n3) := by
 obtain ⟨csA, rfl, hsz, hrow⟩ := cK kr hval
 obtain ⟨fuel, hf⟩ := hd0
 have hc : Tryz.prog.cellsOf 29 = 4 := by kernel_rfl
 obtain ⟨n0, n1, n2, n3, he, g0, g1, g2, g3⟩ := ph (cs := csA.toList) (by rw [Array.length_toList, hsz, hc]) hw hf
 obtain rfl : csA = #[iv n0, iv n1, iv n2, iv n3] := by
  have he2 : csA.toList = [iv n0, iv n1, iv n2, iv n3] := he
  cases csA; simp only at he2; rw [he2]
 exact ⟨n0, n1, n2, n3, rfl, g0, g1, g2, g3⟩
theorem oP {fuel : Nat} {cs : List Value} {x : DataW H × List MemPlace} (hl : cs.length = 6) (hw : Wt Tryz.prog 31 x.1) (h : DataW.trod enc Tryz.prog W base sp hd fuel 31 cs = some x) :
  ∃ (n0 : Int) (n1 : Int) (n2 : Int) (n3 : Int) (n4 : Int) (b5 : Bool), cs = [iv n0, iv n1, iv n2, iv n3, iv n4, .bool b5] ∧ (i64 n0) ∧ (i64 n1) ∧ (i64 n2) ∧ (i64 n3) ∧ (i64 n4) ∧ (True) := by
 obtain ⟨c0, c1, c2, c3, c4, c5, rfl⟩ := len6 hl
 obtain ⟨m0, z0, h0, w0⟩ := aZ 0 _ underlying31 hw h rfl
 have k0 : Tryz.prog.cellsOf 3 = 1 := by kernel_rfl
 replace h0 : DataW.trod enc Tryz.prog W base sp hd m0 3 [c0] = some z0 := by rw [show [c0] = ([c0, c1, c2, c3, c4, c5].drop 0).take (Tryz.prog.cellsOf 3) from by rw [k0]; rfl]; exact h0
 obtain ⟨m1, z1, h1, w1⟩ := aZ 1 _ underlying31 hw h rfl
 have k1 : Tryz.prog.cellsOf 3 = 1 := by kernel_rfl
 replace h1 : DataW.trod enc Tryz.prog W base sp hd m1 3 [c1] = some z1 := by rw [show [c1] = ([c0, c1, c2, c3, c4, c5].drop 1).take (Tryz.prog.cellsOf 3) from by rw [k1]; rfl]; exact h1
 obtain ⟨m2, z2, h2, w2⟩ := aZ 2 _ underlying31 hw h rfl
 have k2 : Tryz.prog.cellsOf 3 = 1 := by kernel_rfl
 replace h2 : DataW.trod enc Tryz.prog W base sp hd m2 3 [c2] = some z2 := by rw [show [c2] = ([c0, c1, c2, c3, c4, c5].drop 2).take (Tryz.prog.cellsOf 3) from by rw [k2]; rfl]; exact h2
 obtain ⟨m3, z3, h3, w3⟩ := aZ 3 _ underlying31 hw h rfl
 have k3 : Tryz.prog.cellsOf 3 = 1 := by kernel_rfl
 replace h3 : DataW.trod enc Tryz.prog W base sp hd m3 3 [c3] = some z3 := by rw [show [c3] = ([c0, c1, c2, c3, c4, c5].drop 3).take (Tryz.prog.cellsOf 3) from by rw [k3]; rfl]; exact h3
 obtain ⟨m4, z4, h4, w4⟩ := aZ 4 _ underlying31 hw h rfl
 have k4 : Tryz.prog.cellsOf 3 = 1 := by kernel_rfl
 replace h4 : DataW.trod enc Tryz.prog W base sp hd m4 3 [c4] = some z4 := by rw [show [c4] = ([c0, c1, c2, c3, c4, c5].drop 4).take (Tryz.prog.cellsOf 3) from by rw [k4]; rfl]; exact h4
 obtain ⟨m5, z5, h5, w5⟩ := aZ 5 _ underlying31 hw h rfl
 have k5 : Tryz.prog.cellsOf 4 = 1 := by kernel_rfl
 replace h5 : DataW.trod enc Tryz.prog W base sp hd m5 4 [c5] = some z5 := by rw [show [c5] = ([c0, c1, c2, c3, c4, c5].drop 5).take (Tryz.prog.cellsOf 4) from by rw [k5]; rfl]; exact h5
 obtain ⟨n0, e0, f0⟩ := bT underlying3 h0
 obtain rfl : c0 = iv n0 := by simpa using e0
 obtain ⟨n1, e1, f1⟩ := bT underlying3 h1
 obtain rfl : c1 = iv n1 := by simpa using e1
 obtain ⟨n2, e2, f2⟩ := bT underlying3 h2
 obtain rfl : c2 = iv n2 := by simpa using e2
 obtain ⟨n3, e3, f3⟩ := bT underlying3 h3
 obtain rfl : c3 = iv n3 := by simpa using e3
 obtain ⟨n4, e4, f4⟩ := bT underlying3 h4
 obtain rfl : c4 = iv n4 := by simpa using e4
 obtain ⟨b5, e5, -⟩ := DataW.trod_bool underlying4 h5
 obtain rfl : c5 = .bool b5 := by simpa using e5
 exact ⟨n0, n1, n2, n3, n4, b5, rfl, f0, f1, f2, f3, f4, trivial⟩
theorem mb (hval : Value.okWide Tryz.prog W r b0 31 v) (hw : Wt Tryz.prog 31 d) (hd0 : DataW.Trod enc Tryz.prog W base sp hd 31 v d ps) :
  ∃ (n0 : Int) (n1 : Int) (n2 : Int) (n3 : Int) (n4 : Int) (b5 : Bool), v = .agg #[iv n0, iv n1, iv n2, iv n3, iv n4, .bool b5] ∧ (i64 n0) ∧ (i64 n1) ∧ (i64 n2) ∧ (i64 n3) ∧ (i64 n4) ∧ (True) := by
 obtain ⟨csA, rfl, hsz, hrow⟩ := cK kr hval
 obtain ⟨fuel, hf⟩ := hd0
 have hc : Tryz.prog.cellsOf 31 = 6 := by kernel_rfl
 obtain ⟨n0, n1, n2, n3, n4, b5, he, g0, g1, g2, g3, g4, g5⟩ := oP (cs := csA.toList) (by rw [Array.length_toList, hsz, hc]) hw hf
 obtain rfl : csA = #[iv n0, iv n1, iv n2, iv n3, iv n4, .bool b5] := by
  have he2 : csA.toList = [iv n0, iv n1, iv n2, iv n3, iv n4, .bool b5] := he
  cases csA; simp only at he2; rw [he2]
 exact ⟨n0, n1, n2, n3, n4, b5, rfl, g0, g1, g2, g3, g4, g5⟩
theorem oW {fuel : Nat} {cs : List Value} {x : DataW H × List MemPlace} (hl : cs.length = 3) (hw : Wt Tryz.prog 64 x.1) (h : DataW.trod enc Tryz.prog W base sp hd fuel 64 cs = some x) :
  ∃ (n0 : Int) (n1 : Int) (n2 : Int), cs = [iv n0, iv n1, iv n2] ∧ (i64 n0) ∧ (i64 n1) ∧ (i64 n2) := by
 obtain ⟨c0, c1, c2, rfl⟩ := len3 hl
 obtain ⟨m0, z0, h0, w0⟩ := aZ 0 _ underlying64 hw h rfl
 have k0 : Tryz.prog.cellsOf 3 = 1 := by kernel_rfl
 replace h0 : DataW.trod enc Tryz.prog W base sp hd m0 3 [c0] = some z0 := by rw [show [c0] = ([c0, c1, c2].drop 0).take (Tryz.prog.cellsOf 3) from by rw [k0]; rfl]; exact h0
 obtain ⟨m1, z1, h1, w1⟩ := aZ 1 _ underlying64 hw h rfl
 have k1 : Tryz.prog.cellsOf 3 = 1 := by kernel_rfl
 replace h1 : DataW.trod enc Tryz.prog W base sp hd m1 3 [c1] = some z1 := by rw [show [c1] = ([c0, c1, c2].drop 1).take (Tryz.prog.cellsOf 3) from by rw [k1]; rfl]; exact h1
 obtain ⟨m2, z2, h2, w2⟩ := aZ 2 _ underlying64 hw h rfl
 have k2 : Tryz.prog.cellsOf 3 = 1 := by kernel_rfl
 replace h2 : DataW.trod enc Tryz.prog W base sp hd m2 3 [c2] = some z2 := by rw [show [c2] = ([c0, c1, c2].drop 2).take (Tryz.prog.cellsOf 3) from by rw [k2]; rfl]; exact h2
 obtain ⟨n0, e0, f0⟩ := bT underlying3 h0
 obtain rfl : c0 = iv n0 := by simpa using e0
 obtain ⟨n1, e1, f1⟩ := bT underlying3 h1
 obtain rfl : c1 = iv n1 := by simpa using e1
 obtain ⟨n2, e2, f2⟩ := bT underlying3 h2
 obtain rfl : c2 = iv n2 := by simpa using e2
 exact ⟨n0, n1, n2, rfl, f0, f1, f2⟩
theorem nN {fuel : Nat} {v : Value} {x : DataW H × List MemPlace} (hok : Cell.okWide Tryz.prog W r b0 32 v) (hw : Wt Tryz.prog 32 x.1) (h : DataW.trod enc Tryz.prog W base sp hd fuel 32 [v] = some x) :
  ∃ xs : List Evt, SlAt W v 3 (xs.map Evt.cells) ∧ ∀ a ∈ xs, True := by
 obtain ⟨els, h1, h2⟩ := j3 3 underlying32 kr de (of_decide_eq_true kr) hok hw h
 exact l6 (f := Evt.cells) (q := fun a => True) h1 fun i hi => by
  obtain ⟨n, y, hy, hwy⟩ := h2 i hi
  obtain ⟨n0, n1, n2, he, hf⟩ := oW (h1.1 _ (List.getElem_mem hi)) hwy hy
  exact ⟨⟨n0, n1, n2⟩, he, trivial⟩
theorem mo (hval : Value.okWide Tryz.prog W r b0 32 v) (hw : Wt Tryz.prog 32 d) (hd0 : DataW.Trod enc Tryz.prog W base sp hd 32 v d ps) :
  ∃ xs : List Evt, SlAt W v 3 (xs.map Evt.cells) ∧ ∀ a ∈ xs, True := by
 obtain ⟨fuel, hf⟩ := hd0
 have hcs : v.cells.toList = [v] := by
  rcases iR (by rw [underlying32]) hval with h
  have : ∃ a n c, v = .slice a n c := by
   unfold Cell.okWide Cell.ok at h
   rw [underlying32] at h
   cases v <;> simp_all
  obtain ⟨a, n, c, rfl⟩ := this
  rfl
 rw [hcs] at hf
 exact nN (iR (by rw [underlying32]) hval) hw hf
theorem oo {fuel : Nat} {cs : List Value} {x : DataW H × List MemPlace} (hl : cs.length = 6) (hw : Wt Tryz.prog 23 x.1) (h : DataW.trod enc Tryz.prog W base sp hd fuel 23 cs = some x) :
  ∃ (n0 : Int) (n1 : Int) (n2 : Int) (n3 : Int) (n4 : Int) (n5 : Int), cs = [iv n0, iv n1, iv n2, iv n3, iv n4, iv n5] ∧ (i64 n0) ∧ (i64 n1) ∧ (i64 n2) ∧ (i64 n3) ∧ (i64 n4) ∧ (i64 n5) := by
 obtain ⟨zs, hz, he, hy⟩ := du 6 underlying23 underlying3 kr h hl
 obtain ⟨n0, n1, n2, n3, n4, n5, rfl⟩ := len6 hz
 exact ⟨n0, n1, n2, n3, n4, n5, he, hy n0 sm, hy n1 sm, hy n2 sm, hy n3 sm, hy n4 sm, hy n5 sm⟩
theorem pG {fuel : Nat} {cs : List Value} {x : DataW H × List MemPlace} (hl : cs.length = 11) (hw : Wt Tryz.prog 26 x.1) (h : DataW.trod enc Tryz.prog W base sp hd fuel 26 cs = some x) :
  ∃ (n0 : Int) (n1 : Int) (n2 : Int) (n3 : Int) (n4 : Int) (n5 : Int) (n6 : Int) (n7 : Int) (n8 : Int) (n9 : Int) (v10 : Value), cs = [iv n0, iv n1, iv n2, iv n3, iv n4, iv n5, iv n6, iv n7, iv n8, iv n9, v10] ∧ (i64 n0) ∧ (i64 n1) ∧ (i64 n2) ∧ (i64 n3) ∧ (i64 n4) ∧ (i64 n5) ∧ (i64 n6) ∧ (i64 n7) ∧ (i64 n8) ∧ (i64 n9) ∧ (∃ n z, DataW.trod enc Tryz.prog W base sp hd n 24 [v10] = some z ∧ Wt Tryz.prog 24 z.1) := by
 obtain ⟨c0, c1, c2, c3, c4, c5, c6, c7, c8, c9, c10, rfl⟩ := len11 hl
 obtain ⟨m0, z0, h0, w0⟩ := aZ 0 _ underlying26 hw h rfl
 have k0 : Tryz.prog.cellsOf 22 = 4 := by kernel_rfl
 replace h0 : DataW.trod enc Tryz.prog W base sp hd m0 22 [c0, c1, c2, c3] = some z0 := by rw [show [c0, c1, c2, c3] = ([c0, c1, c2, c3, c4, c5, c6, c7, c8, c9, c10].drop 0).take (Tryz.prog.cellsOf 22) from by rw [k0]; rfl]; exact h0
 obtain ⟨m1, z1, h1, w1⟩ := aZ 1 _ underlying26 hw h rfl
 have k1 : Tryz.prog.cellsOf 23 = 6 := by kernel_rfl
 replace h1 : DataW.trod enc Tryz.prog W base sp hd m1 23 [c4, c5, c6, c7, c8, c9] = some z1 := by rw [show [c4, c5, c6, c7, c8, c9] = ([c0, c1, c2, c3, c4, c5, c6, c7, c8, c9, c10].drop 4).take (Tryz.prog.cellsOf 23) from by rw [k1]; rfl]; exact h1
 obtain ⟨m2, z2, h2, w2⟩ := aZ 2 _ underlying26 hw h rfl
 have k2 : Tryz.prog.cellsOf 24 = 1 := by kernel_rfl
 replace h2 : DataW.trod enc Tryz.prog W base sp hd m2 24 [c10] = some z2 := by rw [show [c10] = ([c0, c1, c2, c3, c4, c5, c6, c7, c8, c9, c10].drop 10).take (Tryz.prog.cellsOf 24) from by rw [k2]; rfl]; exact h2
 obtain ⟨n0, n1, n2, n3, e0, f0_0, f0_1, f0_2, f0_3⟩ := pz rfl w0 h0
 simp only [List.cons.injEq, and_true] at e0
 obtain ⟨rfl, rfl, rfl, rfl⟩ := e0
 obtain ⟨n4, n5, n6, n7, n8, n9, e1, f1_0, f1_1, f1_2, f1_3, f1_4, f1_5⟩ := oo rfl w1 h1
 simp only [List.cons.injEq, and_true] at e1
 obtain ⟨rfl, rfl, rfl, rfl, rfl, rfl⟩ := e1
 obtain ⟨v10, e2⟩ : ∃ q, q = c10 := ⟨_, rfl⟩
 subst e2
 exact ⟨n0, n1, n2, n3, n4, n5, n6, n7, n8, n9, v10, rfl, f0_0, f0_1, f0_2, f0_3, f1_0, f1_1, f1_2, f1_3, f1_4, f1_5, ⟨m2, z2, h2, w2⟩⟩
theorem nU {fuel : Nat} {v : Value} {x : DataW H × List MemPlace} (hok : Cell.okWide Tryz.prog W r b0 24 v) (hw : Wt Tryz.prog 24 x.1) (h : DataW.trod enc Tryz.prog W base sp hd fuel 24 [v] = some x) :
  ∃ xs : List Tri, SlAt W v 3 (xs.map Tri.cells) ∧ ∀ a ∈ xs, a.fits := by
 obtain ⟨els, h1, h2⟩ := j3 3 underlying24 kr de (of_decide_eq_true kr) hok hw h
 exact l6 (f := Tri.cells) (q := fun a => a.fits) h1 fun i hi => by
  obtain ⟨n, y, hy, hwy⟩ := h2 i hi
  obtain ⟨n0, n1, n2, he, hf⟩ := lg (h1.1 _ (List.getElem_mem hi)) hwy hy
  exact ⟨⟨n0, n1, n2⟩, he, hf⟩
theorem my (hval : Value.okWide Tryz.prog W r b0 26 v) (hw : Wt Tryz.prog 26 d) (hd0 : DataW.Trod enc Tryz.prog W base sp hd 26 v d ps) :
  ∃ (n0 : Int) (n1 : Int) (n2 : Int) (n3 : Int) (n4 : Int) (n5 : Int) (n6 : Int) (n7 : Int) (n8 : Int) (n9 : Int) (v10 : Value) (xv10 : List Tri), v = .agg #[iv n0, iv n1, iv n2, iv n3, iv n4, iv n5, iv n6, iv n7, iv n8, iv n9, v10] ∧ (i64 n0) ∧ (i64 n1) ∧ (i64 n2) ∧ (i64 n3) ∧ (i64 n4) ∧ (i64 n5) ∧ (i64 n6) ∧ (i64 n7) ∧ (i64 n8) ∧ (i64 n9) ∧ (SlAt W v10 3 (xv10.map Tri.cells)) ∧ (∀ a ∈ xv10, a.fits) := by
 obtain ⟨csA, rfl, hsz, hrow⟩ := cK kr hval
 obtain ⟨fuel, hf⟩ := hd0
 have hc : Tryz.prog.cellsOf 26 = 11 := by kernel_rfl
 obtain ⟨n0, n1, n2, n3, n4, n5, n6, n7, n8, n9, v10, he, g0, g1, g2, g3, g4, g5, g6, g7, g8, g9, g10⟩ := pG (cs := csA.toList) (by rw [Array.length_toList, hsz, hc]) hw hf
 obtain rfl : csA = #[iv n0, iv n1, iv n2, iv n3, iv n4, iv n5, iv n6, iv n7, iv n8, iv n9, v10] := by
  have he2 : csA.toList = [iv n0, iv n1, iv n2, iv n3, iv n4, iv n5, iv n6, iv n7, iv n8, iv n9, v10] := he
  cases csA; simp only at he2; rw [he2]
 obtain ⟨n10_, z10_, h10_, w10_⟩ := g10
 obtain ⟨xv10, k10_, q10_⟩ := nU (lO (i := 10) (ts := [3, 3, 3, 3, 3, 3, 3, 3, 3, 3, 24]) kr rfl hrow rfl) w10_ h10_
 exact ⟨n0, n1, n2, n3, n4, n5, n6, n7, n8, n9, v10, xv10, rfl, g0, g1, g2, g3, g4, g5, g6, g7, g8, g9, k10_, q10_⟩
theorem oU {fuel : Nat} {cs : List Value} {x : DataW H × List MemPlace} (hl : cs.length = 2) (hw : Wt Tryz.prog 38 x.1) (h : DataW.trod enc Tryz.prog W base sp hd fuel 38 cs = some x) :
  ∃ (n0 : Int) (n1 : Int), cs = [iv n0, iv n1] ∧ (i64 n0) ∧ (i64 n1) := by
 obtain ⟨c0, c1, rfl⟩ := len2 hl
 obtain ⟨m0, z0, h0, w0⟩ := aZ 0 _ underlying38 hw h rfl
 have k0 : Tryz.prog.cellsOf 3 = 1 := by kernel_rfl
 replace h0 : DataW.trod enc Tryz.prog W base sp hd m0 3 [c0] = some z0 := by rw [show [c0] = ([c0, c1].drop 0).take (Tryz.prog.cellsOf 3) from by rw [k0]; rfl]; exact h0
 obtain ⟨m1, z1, h1, w1⟩ := aZ 1 _ underlying38 hw h rfl
 have k1 : Tryz.prog.cellsOf 3 = 1 := by kernel_rfl
 replace h1 : DataW.trod enc Tryz.prog W base sp hd m1 3 [c1] = some z1 := by rw [show [c1] = ([c0, c1].drop 1).take (Tryz.prog.cellsOf 3) from by rw [k1]; rfl]; exact h1
 obtain ⟨n0, e0, f0⟩ := bT underlying3 h0
 obtain rfl : c0 = iv n0 := by simpa using e0
 obtain ⟨n1, e1, f1⟩ := bT underlying3 h1
 obtain rfl : c1 = iv n1 := by simpa using e1
 exact ⟨n0, n1, rfl, f0, f1⟩
theorem pI {fuel : Nat} {cs : List Value} {x : DataW H × List MemPlace} (hl : cs.length = 2) (hw : Wt Tryz.prog 39 x.1) (h : DataW.trod enc Tryz.prog W base sp hd fuel 39 cs = some x) :
  ∃ (n0 : Int) (n1 : Int), cs = [iv n0, iv n1] ∧ (i64 n0) ∧ (i64 n1) := by
 obtain ⟨c0, c1, rfl⟩ := len2 hl
 obtain ⟨m0, z0, h0, w0⟩ := aZ 0 _ underlying39 hw h rfl
 have k0 : Tryz.prog.cellsOf 3 = 1 := by kernel_rfl
 replace h0 : DataW.trod enc Tryz.prog W base sp hd m0 3 [c0] = some z0 := by rw [show [c0] = ([c0, c1].drop 0).take (Tryz.prog.cellsOf 3) from by rw [k0]; rfl]; exact h0
 obtain ⟨m1, z1, h1, w1⟩ := aZ 1 _ underlying39 hw h rfl
 have k1 : Tryz.prog.cellsOf 3 = 1 := by kernel_rfl
 replace h1 : DataW.trod enc Tryz.prog W base sp hd m1 3 [c1] = some z1 := by rw [show [c1] = ([c0, c1].drop 1).take (Tryz.prog.cellsOf 3) from by rw [k1]; rfl]; exact h1
 obtain ⟨n0, e0, f0⟩ := bT underlying3 h0
 obtain rfl : c0 = iv n0 := by simpa using e0
 obtain ⟨n1, e1, f1⟩ := bT underlying3 h1
 obtain rfl : c1 = iv n1 := by simpa using e1
 exact ⟨n0, n1, rfl, f0, f1⟩
theorem len9 {α : Type} {l : List α} (h : l.length = 9) : ∃ a0 a1 a2 a3 a4 a5 a6 a7 a8, l = [a0, a1, a2, a3, a4, a5, a6, a7, a8] := by
 match l, h with
 | [a0, a1, a2, a3, a4, a5, a6, a7, a8], _ => exact ⟨_, _, _, _, _, _, _, _, _, rfl⟩
theorem o5 {fuel : Nat} {cs : List Value} {x : DataW H × List MemPlace} (hl : cs.length = 9) (hw : Wt Tryz.prog 41 x.1) (h : DataW.trod enc Tryz.prog W base sp hd fuel 41 cs = some x) :
  ∃ (n0 : Int) (n1 : Int) (n2 : Int) (n3 : Int) (n4 : Int) (n5 : Int) (n6 : Int) (n7 : Int) (s8 : By), cs = [iv n0, iv n1, iv n2, iv n3, iv n4, iv n5, iv n6, iv n7, sv s8] ∧ (i64 n0) ∧ (i64 n1) ∧ (i64 n2) ∧ (i64 n3) ∧ (i64 n4) ∧ (i64 n5) ∧ (i64 n6) ∧ (i64 n7) ∧ (s8.length ≤ 140737488355328) := by
 obtain ⟨c0, c1, c2, c3, c4, c5, c6, c7, c8, rfl⟩ := len9 hl
 obtain ⟨m0, z0, h0, w0⟩ := aZ 0 _ underlying41 hw h rfl
 have k0 : Tryz.prog.cellsOf 3 = 1 := by kernel_rfl
 replace h0 : DataW.trod enc Tryz.prog W base sp hd m0 3 [c0] = some z0 := by rw [show [c0] = ([c0, c1, c2, c3, c4, c5, c6, c7, c8].drop 0).take (Tryz.prog.cellsOf 3) from by rw [k0]; rfl]; exact h0
 obtain ⟨m1, z1, h1, w1⟩ := aZ 1 _ underlying41 hw h rfl
 have k1 : Tryz.prog.cellsOf 3 = 1 := by kernel_rfl
 replace h1 : DataW.trod enc Tryz.prog W base sp hd m1 3 [c1] = some z1 := by rw [show [c1] = ([c0, c1, c2, c3, c4, c5, c6, c7, c8].drop 1).take (Tryz.prog.cellsOf 3) from by rw [k1]; rfl]; exact h1
 obtain ⟨m2, z2, h2, w2⟩ := aZ 2 _ underlying41 hw h rfl
 have k2 : Tryz.prog.cellsOf 38 = 2 := by kernel_rfl
 replace h2 : DataW.trod enc Tryz.prog W base sp hd m2 38 [c2, c3] = some z2 := by rw [show [c2, c3] = ([c0, c1, c2, c3, c4, c5, c6, c7, c8].drop 2).take (Tryz.prog.cellsOf 38) from by rw [k2]; rfl]; exact h2
 obtain ⟨m3, z3, h3, w3⟩ := aZ 3 _ underlying41 hw h rfl
 have k3 : Tryz.prog.cellsOf 3 = 1 := by kernel_rfl
 replace h3 : DataW.trod enc Tryz.prog W base sp hd m3 3 [c4] = some z3 := by rw [show [c4] = ([c0, c1, c2, c3, c4, c5, c6, c7, c8].drop 4).take (Tryz.prog.cellsOf 3) from by rw [k3]; rfl]; exact h3
 obtain ⟨m4, z4, h4, w4⟩ := aZ 4 _ underlying41 hw h rfl
 have k4 : Tryz.prog.cellsOf 3 = 1 := by kernel_rfl
 replace h4 : DataW.trod enc Tryz.prog W base sp hd m4 3 [c5] = some z4 := by rw [show [c5] = ([c0, c1, c2, c3, c4, c5, c6, c7, c8].drop 5).take (Tryz.prog.cellsOf 3) from by rw [k4]; rfl]; exact h4
 obtain ⟨m5, z5, h5, w5⟩ := aZ 5 _ underlying41 hw h rfl
 have k5 : Tryz.prog.cellsOf 39 = 2 := by kernel_rfl
 replace h5 : DataW.trod enc Tryz.prog W base sp hd m5 39 [c6, c7] = some z5 := by rw [show [c6, c7] = ([c0, c1, c2, c3, c4, c5, c6, c7, c8].drop 6).take (Tryz.prog.cellsOf 39) from by rw [k5]; rfl]; exact h5
 obtain ⟨m6, z6, h6, w6⟩ := aZ 6 _ underlying41 hw h rfl
 have k6 : Tryz.prog.cellsOf 9 = 1 := by kernel_rfl
 replace h6 : DataW.trod enc Tryz.prog W base sp hd m6 9 [c8] = some z6 := by rw [show [c8] = ([c0, c1, c2, c3, c4, c5, c6, c7, c8].drop 8).take (Tryz.prog.cellsOf 9) from by rw [k6]; rfl]; exact h6
 obtain ⟨n0, e0, f0⟩ := bT underlying3 h0
 obtain rfl : c0 = iv n0 := by simpa using e0
 obtain ⟨n1, e1, f1⟩ := bT underlying3 h1
 obtain rfl : c1 = iv n1 := by simpa using e1
 obtain ⟨n2, n3, e2, f2_0, f2_1⟩ := oU rfl w2 h2
 simp only [List.cons.injEq, and_true] at e2
 obtain ⟨rfl, rfl⟩ := e2
 obtain ⟨n4, e3, f3⟩ := bT underlying3 h3
 obtain rfl : c4 = iv n4 := by simpa using e3
 obtain ⟨n5, e4, f4⟩ := bT underlying3 h4
 obtain rfl : c5 = iv n5 := by simpa using e4
 obtain ⟨n6, n7, e5, f5_0, f5_1⟩ := pI rfl w5 h5
 simp only [List.cons.injEq, and_true] at e5
 obtain ⟨rfl, rfl⟩ := e5
 obtain ⟨s8, e6, f6⟩ := pr underlying9 w6 h6
 obtain rfl : c8 = sv s8 := by simpa using e6
 exact ⟨n0, n1, n2, n3, n4, n5, n6, n7, s8, rfl, f0, f1, f2_0, f2_1, f3, f4, f5_0, f5_1, f6⟩
theorem mw (hval : Value.okWide Tryz.prog W r b0 41 v) (hw : Wt Tryz.prog 41 d) (hd0 : DataW.Trod enc Tryz.prog W base sp hd 41 v d ps) :
  ∃ (n0 : Int) (n1 : Int) (n2 : Int) (n3 : Int) (n4 : Int) (n5 : Int) (n6 : Int) (n7 : Int) (s8 : By), v = .agg #[iv n0, iv n1, iv n2, iv n3, iv n4, iv n5, iv n6, iv n7, sv s8] ∧ (i64 n0) ∧ (i64 n1) ∧ (i64 n2) ∧ (i64 n3) ∧ (i64 n4) ∧ (i64 n5) ∧ (i64 n6) ∧ (i64 n7) ∧ (s8.length ≤ 140737488355328) := by
 obtain ⟨csA, rfl, hsz, hrow⟩ := cK kr hval
 obtain ⟨fuel, hf⟩ := hd0
 have hc : Tryz.prog.cellsOf 41 = 9 := by kernel_rfl
 obtain ⟨n0, n1, n2, n3, n4, n5, n6, n7, s8, he, g0, g1, g2, g3, g4, g5, g6, g7, g8⟩ := o5 (cs := csA.toList) (by rw [Array.length_toList, hsz, hc]) hw hf
 obtain rfl : csA = #[iv n0, iv n1, iv n2, iv n3, iv n4, iv n5, iv n6, iv n7, sv s8] := by
  have he2 : csA.toList = [iv n0, iv n1, iv n2, iv n3, iv n4, iv n5, iv n6, iv n7, sv s8] := he
  cases csA; simp only at he2; rw [he2]
 exact ⟨n0, n1, n2, n3, n4, n5, n6, n7, s8, rfl, g0, g1, g2, g3, g4, g5, g6, g7, g8⟩
end
end Go.Proofs.YtncbabejopafjaaGreatDoor.K16
