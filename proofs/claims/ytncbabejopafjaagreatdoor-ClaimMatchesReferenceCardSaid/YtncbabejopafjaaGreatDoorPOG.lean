/- Texts joined: ClaimS, ClaimT, ClaimU, ClaimV, ClaimQ, ClaimW, ClaimY. -/
import Derived.Test.YtncbabejopafjaaGreatDoorPOF
import Derived.Test.YtncbabejopafjaaGreatDoorPOE
import Derived.Test.YtncbabejopafjaaGreatDoorPOB
import Derived.Test.YtncbabejopafjaaGreatDoorPOA
set_option linter.unusedVariables false
set_option linter.unusedSimpArgs false
set_option maxRecDepth 4000
set_option maxHeartbeats 4000000
namespace Go.Proofs.YtncbabejopafjaaGreatDoor.K16
open Go.RowKit Go.PW _root_.Go.Proofs.Tryz
theorem jn {now1 nw : Stt} {d0 dn : List Stt} (h : lastOf nw dn = now1) : ∃ d1, d0 ++ nw :: dn = d1 ++ [now1] := by
 rcases List.eq_nil_or_concat dn with rfl | ⟨q, s, rfl⟩
 ·exact ⟨d0, by rw [← h]; rfl⟩
 ·refine ⟨d0 ++ nw :: q, ?_⟩
  have hs : s = now1 := by rw [← h]; simp [lastOf]
  subst hs; simp
theorem oI (rl : Rul) (cl : Clm) (sv : Value) (l : List Evt) (t : Int) (w0 : World) (hsv : SlAt w0 sv 3 (l.map Evt.cells)) (hv : valid rl cl l = true) (h0 : 0 ≤ t) (h1 : t ≤ 40000000) :
  Ret Tryz.prog 50 #[.agg #[iv rl.answer, iv rl.cooling, iv rl.settle, iv rl.reverse], .agg #[iv cl.number, iv cl.frm, iv cl.to, iv cl.holder, iv cl.asked, .bool cl.backed], sv, iv t] w0 (MemR w0 (fun x : Value × Value => .tuple #[x.1, x.2]) (fun x => [own x.1 75 3 ((runS rl cl l t).map Stt.cells), own x.2 3 1 ((runV rl cl l t).map fun i => [iv i])]) (fun _ => True)) := by
 obtain ⟨hr, hc, hlen, hbad⟩ := cZ hv
 have hcl := co hc
 have hfs : Sound rl (first rl cl) := Sound.begins 1 cl.asked om om
 refine aD func50 rfl ntmps50 (lb rfl) fun a Z => ?_
 replace Z := Z.p4 0 1 2 3 rfl
 have Y : St No w0 [] w0 := St.init w0
 refine aa fun K1 hK1 => aG Z Y de rfl (cs := [iv rl.answer, iv rl.cooling, iv rl.settle, iv rl.reverse]) rfl fun a w1 Z Y => aG Z Y de rfl (cs := [iv cl.number, iv cl.frm, iv cl.to, iv cl.holder, iv cl.asked, .bool cl.backed]) rfl fun a w2 Z Y => wla Z rfl fun a Z => wla Z rfl fun a Z => ab (hK1 _ _ <| aa fun K2 hK2 => ?_)
 refine wlv Z (ai (Y.g 1 rfl) rfl (isAgg29 _) (sizeOf29 _)) fun a Z => wlv Z (ac (v := po w1.hz 4) rfl kr) fun a Z => wlv Z (ld Y 0 rfl rfl (isAgg3 _) rfl) fun a Z => aA Z Y de call67 rfl (ep rl 1 cl.asked _ hr om om) fun a w3 Z Y => aI (E := 75) (sz := 3) rfl [[iv ((begins rl 1 cl.asked).state), iv ((begins rl 1 cl.asked).since), iv ((begins rl 1 cl.asked).next)]] kr sm rfl de de Z Y fun a w4 Z Y => wla Z rfl fun a Z => ab (hK2 _ _ <| aa fun K3 hK3 => ?_)
 refine wla Z rfl fun a Z => ab (hK3 _ _ <| ah fun K4 hK4 => ?_)
 refine aa fun K5 hK5 => wla Z rfl fun a Z => ab (hK5 _ _ <| ay ?_)
 have Y : St No w0 (own (.slice none 0 0) 3 1 [] :: [own (.slice (some ⟨w3.hz, 0, none⟩) 1 1) 75 3 ([[iv ((begins rl 1 cl.asked).state), iv ((begins rl 1 cl.asked).since), iv ((begins rl 1 cl.asked).next)]]), blk w1.hz [iv cl.number, iv cl.frm, iv cl.to, iv cl.holder, iv cl.asked, .bool cl.backed] 31, blk w0.hz [iv rl.answer, iv rl.cooling, iv rl.settle, iv rl.reverse] 29]) w4 := Y.nil_own
 refine bj (fun m a w => ∃ (k : Nat) (d0 : List Stt) (nw : Stt) (vo : List Int) (v : Value) (u : Value), m = l.length + 1 - k ∧ (k ≤ l.length) ∧ (runS rl cl l t = d0 ++ nw :: (runU rl cl.backed t k nw (l.drop k)).1) ∧ (runV rl cl l t = vo ++ (runU rl cl.backed t k nw (l.drop k)).2) ∧ (Sound rl nw) ∧ (d0.length ≤ 5 * k) ∧ (vo.length ≤ k) ∧ Fr 107 [(0, .agg #[iv rl.answer, iv rl.cooling, iv rl.settle, iv rl.reverse]), (1, .agg #[iv cl.number, iv cl.frm, iv cl.to, iv cl.holder, iv cl.asked, .bool cl.backed]), (2, sv), (3, iv t), (4, pt w0.hz), (5, pt w1.hz), (16, .agg #[iv rl.answer, iv rl.cooling, iv rl.settle, iv rl.reverse]), (17, po w1.hz 4), (18, iv cl.asked), (19, .agg #[iv ((begins rl 1 cl.asked).state), iv ((begins rl 1 cl.asked).since), iv ((begins rl 1 cl.asked).next)]), (20, (.slice (some ⟨w3.hz, 0, none⟩) 1 1)), (12, iv (k : Int)), (10, v), (11, u)] [] a ∧ St No w0 [own v 75 3 ((d0 ++ [nw]).map Stt.cells), own u 3 1 (vo.map fun i => [iv i]), blk w1.hz [iv cl.number, iv cl.frm, iv cl.to, iv cl.holder, iv cl.asked, .bool cl.backed] 31, blk w0.hz [iv rl.answer, iv rl.cooling, iv rl.settle, iv rl.reverse] 29] w) _ ⟨0, [], first rl cl, [], (.slice (some ⟨w3.hz, 0, none⟩) 1 1), .slice none 0 0, rfl, Nat.zero_le _, rfl, rfl, hfs, sm, sm, Z.pick [0, 1, 2, 3, 4, 5, 16, 17, 18, 19, 20, 12, 10, 11], Y.select [1, 0, 2, 3] de⟩ ?_
 rintro _ a w5 ⟨k, d0, nw, vo, v, u, rfl, hk, hsp, hvo, hso, hdl, hvl, Z, Y⟩
 refine ah fun K6 hK6 => aa fun K7 hK7 => wlm Z rfl fun a Z => wlm Z rfl fun a Z => wlv Z ((aL (sT := 32) (Y.arg hsv) rfl rfl (runUnderlying32 _)).asi (m' := (l.length : Int)) sm) fun a Z => wlv Z (v_le rfl rfl) fun a Z => ab (hK7 _ _ ?_)
 refine ax Z rfl (fun hc1 => ?_) (fun hc1 => ?_)
 ·rw [hc1] at Z
  try simp only [qz] at hc1
  refine az <| hK6 _ _ <| ah fun K8 hK8 => ay <| aa fun K9 hK9 => wlm Z rfl fun a Z => wla Z rfl fun a Z => ab (hK9 _ _ <| ah fun K10 hK10 => ?_)
  refine aa fun K11 hK11 => wlm Z rfl fun a Z => wlm Z rfl fun a Z => wlv Z ((aL (sT := 32) (Y.arg hsv) rfl rfl (runUnderlying32 _)).asi (m' := (l.length : Int)) sm) fun a Z => wlv Z (v_lt rfl rfl) fun a Z => ab (hK11 _ _ ?_)
  refine ax Z rfl (fun hc2 => ?_) (fun hc2 => ?_)
  ·rw [hc2] at Z
   try simp only [qz] at hc2
   have hkl : k < l.length := by omega
   obtain ⟨ev, hev⟩ : ∃ ev, l.getD k ⟨0, 0, 0⟩ = ev := ⟨_, rfl⟩
   have hea := dv l cl.asked hbad k hkl
   rw [hev] at hea
   refine ar <| wlm Z rfl fun a Z => wlm Z rfl fun a Z => wlv Z ((ao (i := (k : Int)) (sT := 32) (Y.arg hsv) rfl rfl (runUnderlying32 _) (sizeOf64 _) om (by simpa using hkl)).as (v' := slAddr sv (k * 3)) rfl) fun a Z => wlv Z (bo (k := k * 3) (j := 1) (Y.arg hsv) (i := k) (by simpa using hkl) rfl (fun _ _ => by kernel_rfl)) fun a Z => wlv Z (aE (u := iv ev.at_) (i := k) (j := 1) (Y.arg hsv) (by simpa using hkl) rfl (isAgg3 _) (by rw [← hev]; first | (show _ = Value.agg (l.getD k ⟨0, 0, 0⟩).cells.toArray; simp [hkl]) | simp [hkl, Evt.cells])) fun a Z => wlm Z rfl fun a Z => wlv Z (mF rfl rfl) fun a Z => wla Z rfl fun a Z => ab <| hK10 _ _ ?_
   replace Z := Z.p24 0 1 2 3 4 5 16 17 18 19 20 12 10 11 21 22 23 24 27 28 29 30 31 13 rfl
   refine aa fun K12 hK12 => wlm Z rfl fun a Z => wlm Z rfl fun a Z => wlv Z ((aL (sT := 70) (Y.ow 0 rfl) rfl rfl (runUnderlying70 _)).asi (m' := (d0.length : Int) + 1) sm) fun a Z => wlv Z (ci rfl rfl ⟨om, om⟩) fun a Z => wlv Z ((ao (i := ((d0.length : Int) + 1) - 1) (sT := 70) (Y.ow 0 rfl) rfl rfl (runUnderlying70 _) (sizeOf75 _) om sm).as (v' := slAddr v (d0.length * 3)) (by rw [show (((d0.length : Int) + 1) - 1).toNat = d0.length from by omega])) fun a Z => wlv Z ((bN (Y.ow 0 rfl) (i := d0.length) sm rfl (isAgg75 _) (sizeOf75 _)).as (v' := .agg #[iv nw.state, iv nw.since, iv nw.next]) (by simp [Stt.cells])) fun a Z => aH Z Y de (zeroValue75 _) (cs := [iv 0, iv 0, iv 0]) rfl fun a w6 Z Y => am 0 Z Y rfl rfl rfl (sizeOf75 _) rfl (lb rfl) (ds := [iv nw.state, iv nw.since, iv nw.next]) rfl rfl fun a w7 Z Y => ab (hK12 _ _ ?_)
   have Z : Fr 107 [(0, _), (1, _), (2, _), (3, _), (4, _), (5, _), (16, _), (17, _), (18, _), (19, _), (20, _), (12, _), (10, _), (11, _), (21, _), (22, _), (23, _), (24, _), (27, _), (28, _), (29, _), (30, _), (31, _), (13, _), (14, _)] [] a := Z.pick [0, 1, 2, 3, 4, 5, 16, 17, 18, 19, 20, 12, 10, 11, 21, 22, 23, 24, 27, 28, 29, 30, 31, 13, 14]
   refine ah fun K13 hK13 => ay ?_
   obtain ⟨to, hto⟩ : ∃ x, min ev.at_ t = x := ⟨_, rfl⟩
   rw [hto] at Z
   refine bj (fun m a w => ∃ (n : Nat) (now1 : Stt) (dn : List Stt) (v1 : Value), m = 0 + n ∧ (alone rl to nw = dn ++ aloneF n rl to now1) ∧ (lastOf nw dn = now1) ∧ (Sound rl now1) ∧ (rank now1.state ≤ n) ∧ (dn.length + n ≤ 4) ∧ Fr 107 [(0, .agg #[iv rl.answer, iv rl.cooling, iv rl.settle, iv rl.reverse]), (1, .agg #[iv cl.number, iv cl.frm, iv cl.to, iv cl.holder, iv cl.asked, .bool cl.backed]), (2, sv), (3, iv t), (4, pt w0.hz), (5, pt w1.hz), (16, .agg #[iv rl.answer, iv rl.cooling, iv rl.settle, iv rl.reverse]), (17, po w1.hz 4), (18, iv cl.asked), (19, .agg #[iv ((begins rl 1 cl.asked).state), iv ((begins rl 1 cl.asked).since), iv ((begins rl 1 cl.asked).next)]), (20, (.slice (some ⟨w3.hz, 0, none⟩) 1 1)), (12, iv (k : Int)), (11, u), (21, iv (k : Int)), (22, sv), (23, iv (l.length : Int)), (24, .bool true), (27, iv t), (28, iv (k : Int)), (29, sv), (30, iv (l.length : Int)), (31, .bool true), (13, iv to), (14, pt w5.hz), (10, v1)] [] a ∧ St No w0 [blk w5.hz [iv now1.state, iv now1.since, iv now1.next] 75, own v1 75 3 ((d0 ++ nw :: dn).map Stt.cells), own u 3 1 (vo.map fun i => [iv i]), blk w1.hz [iv cl.number, iv cl.frm, iv cl.to, iv cl.holder, iv cl.asked, .bool cl.backed] 31, blk w0.hz [iv rl.answer, iv rl.cooling, iv rl.settle, iv rl.reverse] 29] w) _ ⟨4, nw, [], v, rfl, rfl, rfl, hso, (Nat.le_trans (gm _) de), sm, Z.pick [0, 1, 2, 3, 4, 5, 16, 17, 18, 19, 20, 12, 11, 21, 22, 23, 24, 27, 28, 29, 30, 31, 13, 14, 10], Y.select [0, 1, 2, 3, 4] de⟩ ?_
   rintro _ a w8 ⟨n, now1, dn, v1, rfl, hal, hla, hso1, hrk, hln, Z, Y⟩
   refine ah fun K14 hK14 => aa fun K15 hK15 => wlv Z (ac (v := po w5.hz 2) rfl kr) fun a Z => wlv Z (ld Y 0 rfl rfl (isAgg3 _) rfl) fun a Z => wlv Z (v_ge rfl rfl) fun a Z => wlm Z rfl fun a Z => ?_
   rcases Bool.eq_false_or_eq_true (decide (0 ≤ now1.next)) with hb3 | hb3
   ·rw [hb3] at Z
    try simp only [qz] at hb3
    have hstep := hso1.step hr hb3
    obtain ⟨hs1, hs2, hs3, hs4, hs5, hs6⟩ := (hso1.next hr).resolve_left om
    obtain ⟨n, rfl⟩ : ∃ n2, n = n2 + 1 := ⟨n - 1, by omega⟩
    have hnx : (if now1.state = 3 then (4 : Int) else if now1.state = 4 then 5 else 3) = aQ now1.state := by rcases hs1 with e | e | e | e <;> simp [e, aQ]
    refine wly Z (ac (v := po w5.hz 2) rfl kr) fun a Z => wly Z (ld Y 0 rfl rfl (isAgg3 _) rfl) fun a Z => wly Z (ak rfl) fun a Z => wly Z (v_le rfl rfl) fun a Z => wlv Z (au rfl rfl) fun a Z => ab (hK15 _ _ ?_)
    replace Z := Z.p26 0 1 2 3 4 5 16 17 18 19 20 12 11 21 22 23 24 27 28 29 30 31 13 14 10 53 rfl
    refine ax Z rfl (fun hc4 => ?_) (fun hc4 => ?_)
    ·rw [hc4] at Z
     try simp only [qz] at hc4
     refine az <| hK14 _ _ <| ay <| ah fun K16 hK16 => aK kr ?_
     replace Z := Z.p26 0 1 2 3 4 5 16 17 18 19 20 12 11 21 22 23 24 27 28 29 30 31 13 14 10 53 rfl
     refine aM 7 [[], [], [1], [2], [], [4], [0, 3, 5]] (fun i => match i with | 0 => pv (.agg #[iv rl.answer, iv rl.cooling, iv rl.settle, iv rl.reverse]) | 1 => pv (pt w5.hz) | 2 => pv (iv now1.state) | 3 => pv (iv (aQ now1.state)) | 4 => pv (po w5.hz 2) | 5 => pv (iv now1.next) | 6 => pv (.agg #[iv ((begins rl (aQ now1.state) now1.next).state), iv ((begins rl (aQ now1.state) now1.next).since), iv ((begins rl (aQ now1.state) now1.next).next)]) | _ => fun _ _ => False) Z Y kr kr ?_ ?_
     ·intro i hi
      match i, hi with
      | 0, _ => exact fun w Y => OpV.g (ai (Y.g 4 rfl) rfl (isAgg29 _) (sizeOf29 _))
      | 1, _ => exact fun w Y => OpV.g (ac (v := pt w5.hz) rfl kr)
      | 2, _ =>
       rintro _ _ ⟨rfl, rfl⟩
       intro w Y
       exact OpV.g (ld Y 0 rfl rfl (isAgg3 _) rfl)
      | 3, _ =>
       rintro _ _ ⟨rfl, rfl⟩
       intro w Y
       exact aT call68 rfl ((hnx ▸ jM now1.state _))
      | 4, _ => exact fun w Y => OpV.g (ac (v := po w5.hz 2) rfl kr)
      | 5, _ =>
       rintro _ _ ⟨rfl, rfl⟩
       intro w Y
       exact OpV.g (ld Y 0 rfl rfl (isAgg3 _) rfl)
      | 6, _ =>
       rintro _ _ ⟨rfl, rfl⟩ _ _ ⟨rfl, rfl⟩ _ _ ⟨rfl, rfl⟩
       intro w Y
       exact aT call67 rfl (ep rl (aQ now1.state) now1.next _ hr om om)
     rintro _ _ ⟨rfl, rfl⟩ _ _ ⟨rfl, rfl⟩ _ _ ⟨rfl, rfl⟩ _ _ ⟨rfl, rfl⟩ _ _ ⟨rfl, rfl⟩ _ _ ⟨rfl, rfl⟩ _ _ ⟨rfl, rfl⟩ a w9 Z Y
     have Z : Fr 107 [(54, _), (55, _), (56, _), (57, _), (58, _), (59, _), (60, _), (0, _), (1, _), (2, _), (3, _), (4, _), (5, _), (16, _), (17, _), (18, _), (19, _), (20, _), (12, _), (11, _), (21, _), (22, _), (23, _), (24, _), (27, _), (28, _), (29, _), (30, _), (31, _), (13, _), (14, _), (10, _), (53, _)] [] a := Z
     replace Y : St No w0 [_, _, _, _, _] w9 := Y
     refine am 0 Z Y rfl rfl rfl (sizeOf75 _) rfl (lb rfl) (ds := [iv ((begins rl (aQ now1.state) now1.next).state), iv ((begins rl (aQ now1.state) now1.next).since), iv ((begins rl (aQ now1.state) now1.next).next)]) rfl rfl fun a w10 Z Y => ab <| hK16 _ _ ?_
     replace Z := Z.p26 0 1 2 3 4 5 16 17 18 19 20 12 11 21 22 23 24 27 28 29 30 31 13 14 10 53 rfl
     refine ar <| wlm Z rfl fun a Z => wlv Z (ai (Y.g 0 rfl) rfl (isAgg75 _) (sizeOf75 _)) fun a Z => aI (E := 75) (sz := 3) rfl [[iv ((begins rl (aQ now1.state) now1.next).state), iv ((begins rl (aQ now1.state) now1.next).since), iv ((begins rl (aQ now1.state) now1.next).next)]] kr sm rfl de de Z Y fun a w11 Z Y => bG (i := 2) (sT := 70) (inf := Tryz.t75) (z := .agg #[iv 0, iv 0, iv 0]) (b := 0) (off := 0) (m := 0) (c := 0) rfl rfl rfl (Y.ow 0 rfl) sm underlying70 rfl rfl rfl rfl de (by simp [Value.oneCell']) (by have hby : Tryz.t3.bytes = 8 := rfl; have hby2 : Tryz.t75.bytes = 24 := rfl; simp [big, hby, hby2]; omega) (by have hby : Tryz.t3.bytes = 8 := rfl; have hby2 : Tryz.t75.bytes = 24 := rfl; simp [big, hby, hby2]; omega) de Z Y fun a w12 s5 Z Y _ => wla Z rfl fun a Z => ab ?_
     rw [show ((d0 ++ nw :: dn).map Stt.cells) ++ [[iv (begins rl (aQ now1.state) now1.next).state, iv (begins rl (aQ now1.state) now1.next).since, iv (begins rl (aQ now1.state) now1.next).next]] = (d0 ++ nw :: (dn ++ [begins rl (aQ now1.state) now1.next])).map Stt.cells from by simp [Stt.cells]] at Y
     refine ⟨_, ?_, n, begins rl (aQ now1.state) now1.next, dn ++ [begins rl (aQ now1.state) now1.next], s5, rfl, (by rw [hal, ct (by assumption) (by assumption)]; simp), (by rw [cT, cb]; rfl), hstep.1, (by simp only [begins]; omega), (by simp; omega), Z.pick [0, 1, 2, 3, 4, 5, 16, 17, 18, 19, 20, 12, 11, 21, 22, 23, 24, 27, 28, 29, 30, 31, 13, 14, 10], Y.select [1, 2, 3, 4, 5] de⟩
     omega
    rw [hc4] at Z
    try simp only [qz] at hc4
    refine aX <| hK13 _ _ <| ah fun K17 hK17 => ?_
    have hdn0 : alone rl to nw = dn := by rw [hal, ca (now := now1) (u := to) (r := rl) om, List.append_nil]
    have hdn : alone rl (min ev.at_ t) nw = dn := by rw [hto]; exact hdn0
    have hn1 : lastOf nw (alone rl (min ev.at_ t) nw) = now1 := by rw [hdn]; exact hla
    refine aa fun K18 hK18 => wlm Z rfl fun a Z => wlm Z rfl fun a Z => wlv Z ((aL (sT := 32) (Y.arg hsv) rfl rfl (runUnderlying32 _)).asi (m' := (l.length : Int)) sm) fun a Z => wlv Z ((v_eq rfl rfl).asb (b' := false) (by simp; omega)) fun a Z => wlm Z rfl fun a Z => wly Z (ak rfl) fun a Z => wly Z (ak rfl) fun a Z => wly Z ((ao (i := (k : Int)) (sT := 32) (Y.arg hsv) rfl rfl (runUnderlying32 _) (sizeOf64 _) om (by simpa using hkl)).as (v' := slAddr sv (k * 3)) rfl) fun a Z => wly Z (bo (k := k * 3) (j := 1) (Y.arg hsv) (i := k) (by simpa using hkl) rfl (fun _ _ => by kernel_rfl)) fun a Z => wly Z (aE (u := iv ev.at_) (i := k) (j := 1) (Y.arg hsv) (by simpa using hkl) rfl (isAgg3 _) (by rw [← hev]; first | (show _ = Value.agg (l.getD k ⟨0, 0, 0⟩).cells.toArray; simp [hkl]) | simp [hkl, Evt.cells])) fun a Z => wly Z (ak rfl) fun a Z => wly Z (v_gt rfl rfl) fun a Z => wlv Z (aq rfl rfl) fun a Z => ab (hK18 _ _ ?_)
    replace Z := Z.p27 0 1 2 3 4 5 16 17 18 19 20 12 11 21 22 23 24 27 28 29 30 31 13 14 10 53 77 rfl
    refine ax Z rfl (fun hc6 => ?_) (fun hc6 => ?_)
    ·rw [hc6] at Z
     try simp only [qz] at hc6
     have hres : runS rl cl l t = d0 ++ nw :: dn := by rw [hsp, gj hkl hev om]; simp [hdn]
     have hresv : runV rl cl l t = vo := by rw [hvo, gj hkl hev om]; simp
     refine aa fun K19 hK19 => wlm Z rfl fun a Z => wlm Z rfl fun a Z => wla Z rfl fun a Z => wla Z rfl fun a Z => ab (hK19 _ _ <| ap ?_)
     refine aj Z results50 (ae rfl (ae rfl ag)) ?_
     exact ⟨(v1, u), rfl, trivial, Y.ext, St.out (E := [own v1 75 3 ((runS rl cl l t).map Stt.cells), own u 3 1 ((runV rl cl l t).map fun i => [iv i])]) (H := []) (by rw [hres, hresv]; exact Y.select [1, 2] de)⟩
    rw [hc6] at Z
    try simp only [qz] at hc6
    refine az <| hK17 _ _ <| ah fun K20 hK20 => aK kr ?_
    replace Z := Z.p27 0 1 2 3 4 5 16 17 18 19 20 12 11 21 22 23 24 27 28 29 30 31 13 14 10 53 77 rfl
    refine aM 8 [[], [], [1], [], [], [3, 4], [5], [0, 2, 6]] (fun i => match i with | 0 => pv (.agg #[iv cl.number, iv cl.frm, iv cl.to, iv cl.holder, iv cl.asked, .bool cl.backed]) | 1 => pv (pt w5.hz) | 2 => pv (iv now1.state) | 3 => pv (sv) | 4 => pv (iv (k : Int)) | 5 => pv (slAddr sv (k * 3)) | 6 => pv (.agg #[iv ev.kind, iv ev.at_, iv ev.reason]) | 7 => pv (iv (aO cl.backed now1.state ev)) | _ => fun _ _ => False) Z Y kr kr ?_ ?_
    ·intro i hi
     match i, hi with
     | 0, _ => exact fun w Y => OpV.g (ai (Y.g 3 rfl) rfl (isAgg31 _) (sizeOf31 _))
     | 1, _ => exact fun w Y => OpV.g (ac (v := pt w5.hz) rfl kr)
     | 2, _ =>
      rintro _ _ ⟨rfl, rfl⟩
      intro w Y
      exact OpV.g (ld Y 0 rfl rfl (isAgg3 _) rfl)
     | 3, _ => exact fun w Y => OpV.g (ak rfl)
     | 4, _ => exact fun w Y => OpV.g (ak rfl)
     | 5, _ =>
      rintro _ _ ⟨rfl, rfl⟩ _ _ ⟨rfl, rfl⟩
      intro w Y
      exact OpV.g ((ao (i := (k : Int)) (sT := 32) (Y.arg hsv) rfl rfl (runUnderlying32 _) (sizeOf64 _) om (by simpa using hkl)).as (v' := slAddr sv (k * 3)) rfl)
     | 6, _ =>
      rintro _ _ ⟨rfl, rfl⟩
      intro w Y
      exact OpV.g ((bN (Y.arg hsv) (i := k) (by simpa using hkl) rfl (isAgg64 _) (sizeOf64 _)).as (v' := .agg #[iv ev.kind, iv ev.at_, iv ev.reason]) (by rw [← hev]; first | (show _ = Value.agg (l.getD k ⟨0, 0, 0⟩).cells.toArray; simp [hkl]) | simp [hkl, Evt.cells]))
     | 7, _ =>
      rintro _ _ ⟨rfl, rfl⟩ _ _ ⟨rfl, rfl⟩ _ _ ⟨rfl, rfl⟩
      intro w Y
      exact aT call69 rfl (iG cl now1.state ev _)
    rintro _ _ ⟨rfl, rfl⟩ _ _ ⟨rfl, rfl⟩ _ _ ⟨rfl, rfl⟩ _ _ ⟨rfl, rfl⟩ _ _ ⟨rfl, rfl⟩ _ _ ⟨rfl, rfl⟩ _ _ ⟨rfl, rfl⟩ _ _ ⟨rfl, rfl⟩ a w13 Z Y
    have Z : Fr 107 [(80, _), (81, _), (82, _), (83, _), (84, _), (85, _), (86, _), (87, _), (0, _), (1, _), (2, _), (3, _), (4, _), (5, _), (16, _), (17, _), (18, _), (19, _), (20, _), (12, _), (11, _), (21, _), (22, _), (23, _), (24, _), (27, _), (28, _), (29, _), (30, _), (31, _), (13, _), (14, _), (10, _), (53, _), (77, _)] [] a := Z
    replace Y : St No w0 [_, _, _, _, _] w13 := Y
    refine wla Z rfl fun a Z => ab <| hK20 _ _ ?_
    have Z : Fr 107 [(0, _), (1, _), (2, _), (3, _), (4, _), (5, _), (16, _), (17, _), (18, _), (19, _), (20, _), (12, _), (11, _), (21, _), (22, _), (23, _), (24, _), (27, _), (28, _), (29, _), (30, _), (31, _), (13, _), (14, _), (10, _), (53, _), (77, _), (15, _)] [] a := Z.pick [0, 1, 2, 3, 4, 5, 16, 17, 18, 19, 20, 12, 11, 21, 22, 23, 24, 27, 28, 29, 30, 31, 13, 14, 10, 53, 77, 15]
    refine aa fun K21 hK21 => wlm Z rfl fun a Z => wlv Z (v_lt rfl rfl) fun a Z => ab (hK21 _ _ ?_)
    refine ax Z rfl (fun hc7 => ?_) (fun hc7 => ?_)
    ·rw [hc7] at Z
     try simp only [qz] at hc7
     refine ar <| wlm Z rfl fun a Z => wlm Z rfl fun a Z => aI (E := 3) (sz := 1) rfl [[iv (k : Int)]] kr sm rfl de de Z Y fun a w14 Z Y => bG (i := 3) (sT := 47) (inf := Tryz.t3) (z := iv 0) (b := 0) (off := 0) (m := 0) (c := 0) rfl rfl rfl (Y.ow 0 rfl) sm underlying47 rfl rfl rfl rfl de (by simp [Value.oneCell']) (by have hby : Tryz.t3.bytes = 8 := rfl; have hby2 : Tryz.t75.bytes = 24 := rfl; simp [big, hby, hby2]; omega) (by have hby : Tryz.t3.bytes = 8 := rfl; have hby2 : Tryz.t75.bytes = 24 := rfl; simp [big, hby, hby2]; omega) de Z Y fun a w15 s8 Z Y _ => wla Z rfl fun a Z => ab <| hK8 _ _ <| ar <| wlm Z rfl fun a Z => wlv Z (aS rfl rfl ⟨om, om⟩) fun a Z => wla Z rfl fun a Z => ?_
     refine ab ?_
     obtain ⟨d1, hd1⟩ : ∃ d1, d0 ++ nw :: dn = d1 ++ [now1] := jn hla
     have hd1l : d1.length = d0.length + dn.length := by have := congrArg List.length hd1; simp at this; omega
     rw [hd1] at Y
     rw [show (vo.map fun i => [iv i]) ++ [[iv (k : Int)]] = ((vo ++ [(k : Int)]).map fun i => [iv i]) from by simp] at Y
     refine ⟨_, ?_, k + 1, d1, now1, vo ++ [(k : Int)], v1, s8, rfl, om, (by rw [hsp, ff hkl hev om hn1 om, hdn]; have := congrArg (· ++ (runU rl cl.backed t (k + 1) now1 (l.drop (k + 1))).1) hd1; simpa using this), (by rw [hvo, ff hkl hev om hn1 om]; simp), hso1, om, (by simp; omega), Z.pick [0, 1, 2, 3, 4, 5, 16, 17, 18, 19, 20, 12, 10, 11], Y.select [2, 3, 4, 5] de⟩
     omega
    rw [hc7] at Z
    try simp only [qz] at hc7
    refine aK kr ?_
    replace Z := Z.p30 0 1 2 3 4 5 16 17 18 19 20 12 11 21 22 23 24 27 28 29 30 31 13 14 10 53 77 15 88 89 rfl
    have Y : St No w0 (own v1 75 3 ((d0 ++ nw :: dn).map Stt.cells) :: [blk w5.hz [iv now1.state, iv now1.since, iv now1.next] 75, own u 3 1 (vo.map fun i => [iv i]), blk w1.hz [iv cl.number, iv cl.frm, iv cl.to, iv cl.holder, iv cl.asked, .bool cl.backed] 31, blk w0.hz [iv rl.answer, iv rl.cooling, iv rl.settle, iv rl.reverse] 29]) w13 := Y.front (i := 1) rfl
    refine dB 10 (own v1 75 3 ((d0 ++ nw :: dn).map Stt.cells)) (fun v => own v 75 3 (((d0 ++ nw :: dn).map Stt.cells) ++ ([[iv ((begins rl (aO cl.backed now1.state ev) ev.at_).state), iv ((begins rl (aO cl.backed now1.state ev) ev.at_).since), iv ((begins rl (aO cl.backed now1.state ev) ev.at_).next)]]))) 11 [[], [], [], [], [], [3, 4], [5], [6], [1, 2, 7], [8], [0, 9]] (fun i => match i with | 0 => pv (v1) | 1 => pv (.agg #[iv rl.answer, iv rl.cooling, iv rl.settle, iv rl.reverse]) | 2 => pv (iv (aO cl.backed now1.state ev)) | 3 => pv (sv) | 4 => pv (iv (k : Int)) | 5 => pv (slAddr sv (k * 3)) | 6 => pv (slAddr sv (k * 3 + 1)) | 7 => pv (iv ev.at_) | 8 => pv (.agg #[iv ((begins rl (aO cl.backed now1.state ev) ev.at_).state), iv ((begins rl (aO cl.backed now1.state ev) ev.at_).since), iv ((begins rl (aO cl.backed now1.state ev) ev.at_).next)]) | 9 => pm (fun b : Nat => .slice (some ⟨b, 0, none⟩) 1 1) (fun b => [own (.slice (some ⟨b, 0, none⟩) 1 1) 75 3 [[iv ((begins rl (aO cl.backed now1.state ev) ev.at_).state), iv ((begins rl (aO cl.backed now1.state ev) ev.at_).since), iv ((begins rl (aO cl.backed now1.state ev) ev.at_).next)]]]) (fun _ => True) | 10 => fun v E => E = [] | _ => fun _ _ => False) Z Y kr kr kr de ?_ ?_ ?_ ?_
    ·intro i v E h
     match i, h with
     | 0, _ => exact by decide
     | 1, _ => exact by decide
     | 2, _ => exact by decide
     | 3, _ => exact by decide
     | 4, _ => exact by decide
     | 5, _ => exact by decide
     | 6, _ => exact by decide
     | 7, _ => exact by decide
     | 8, _ => exact by decide
     | 9, _ => exact by decide
     | 10, _ => exact by decide
     | i + 11, h => exact h.elim
    ·intro i hi hiq e
     match i, hi, hiq with
     | 0, _, _ => exact fun w Y => OpV.g (ak rfl)
     | 1, _, _ => exact fun w Y => OpV.g (ai (Y.g 4 rfl) rfl (isAgg29 _) (sizeOf29 _))
     | 2, _, _ => exact fun w Y => OpV.g (ak rfl)
     | 3, _, _ => exact fun w Y => OpV.g (ak rfl)
     | 4, _, _ => exact fun w Y => OpV.g (ak rfl)
     | 5, _, _ =>
      rintro _ _ ⟨rfl, rfl⟩ _ _ ⟨rfl, rfl⟩
      intro w Y
      exact OpV.g ((ao (i := (k : Int)) (sT := 32) (Y.arg hsv) rfl rfl (runUnderlying32 _) (sizeOf64 _) om (by simpa using hkl)).as (v' := slAddr sv (k * 3)) rfl)
     | 6, _, _ =>
      rintro _ _ ⟨rfl, rfl⟩
      intro w Y
      exact OpV.g (bo (k := k * 3) (j := 1) (Y.arg hsv) (i := k) (by simpa using hkl) rfl (fun _ _ => by kernel_rfl))
     | 7, _, _ =>
      rintro _ _ ⟨rfl, rfl⟩
      intro w Y
      exact OpV.g (aE (u := iv ev.at_) (i := k) (j := 1) (Y.arg hsv) (by simpa using hkl) rfl (isAgg3 _) (by rw [← hev]; first | (show _ = Value.agg (l.getD k ⟨0, 0, 0⟩).cells.toArray; simp [hkl]) | simp [hkl, Evt.cells]))
     | 8, _, _ =>
      rintro _ _ ⟨rfl, rfl⟩ _ _ ⟨rfl, rfl⟩ _ _ ⟨rfl, rfl⟩
      intro w Y
      exact aT call67 rfl (ep rl (aO cl.backed now1.state ev) ev.at_ _ hr om om)
     | 9, _, _ =>
      rintro _ _ ⟨rfl, rfl⟩
      intro w Y
      exact bW (E := 75) (sz := 3) rfl [[iv ((begins rl (aO cl.backed now1.state ev) ev.at_).state), iv ((begins rl (aO cl.backed now1.state ev) ev.at_).since), iv ((begins rl (aO cl.backed now1.state ev) ev.at_).next)]] (fun _ => by kernel_rfl) sm rfl de
     | 10, _, h => exact absurd rfl h
    ·rintro _ _ ⟨rfl, rfl⟩ _ _ ⟨b11, rfl, -, rfl⟩
     intro w Y
     exact (fb (Y.g 0 rfl) rfl rfl (Y.ow 1 rfl) sm underlying70 (inf := Tryz.t75) (z := .agg #[iv 0, iv 0, iv 0]) rfl rfl rfl rfl de (by simp [Value.oneCell']) (by have hby : Tryz.t3.bytes = 8 := rfl; have hby2 : Tryz.t75.bytes = 24 := rfl; simp [big, hby, hby2]; omega) (by have hby : Tryz.t3.bytes = 8 := rfl; have hby2 : Tryz.t75.bytes = 24 := rfl; simp [big, hby, hby2]; omega)).mono fun v w' ⟨h1, h2, h3, _⟩ => ⟨h1, h2, h3, rfl⟩
    rintro vq _ _ ⟨⟨rfl, rfl⟩, -⟩ _ _ ⟨⟨rfl, rfl⟩, -⟩ _ _ ⟨⟨rfl, rfl⟩, -⟩ _ _ ⟨⟨rfl, rfl⟩, -⟩ _ _ ⟨⟨rfl, rfl⟩, -⟩ _ _ ⟨⟨rfl, rfl⟩, -⟩ _ _ ⟨⟨rfl, rfl⟩, -⟩ _ _ ⟨⟨rfl, rfl⟩, -⟩ _ _ ⟨⟨rfl, rfl⟩, -⟩ _ _ ⟨⟨b11, rfl, -, rfl⟩, -⟩ s10 _ ⟨rfl, hvq⟩ a w16 Z Y
    obtain rfl := hvq rfl
    have Z : Fr 107 [(94, _), (95, _), (96, _), (97, _), (98, _), (99, _), (100, _), (101, _), (102, _), (103, _), (104, _), (0, _), (1, _), (2, _), (3, _), (4, _), (5, _), (16, _), (17, _), (18, _), (19, _), (20, _), (12, _), (11, _), (21, _), (22, _), (23, _), (24, _), (27, _), (28, _), (29, _), (30, _), (31, _), (13, _), (14, _), (10, _), (53, _), (77, _), (15, _), (88, _), (89, _)] [] a := Z
    replace Y : St No w0 [_, _, _, _, _, _] w16 := Y
    refine wla Z rfl fun a Z => ab <| hK8 _ _ ?_
    replace Z := Z.p30 0 1 2 3 4 5 16 17 18 19 20 12 11 21 22 23 24 27 28 29 30 31 13 14 53 77 15 88 89 10 rfl
    replace Y := Y.k5 62 rfl
    refine ar <| wlm Z rfl fun a Z => wlv Z (aS rfl rfl ⟨om, om⟩) fun a Z => wla Z rfl fun a Z => ab ?_
    rw [show ((d0 ++ nw :: dn).map Stt.cells) ++ [[iv (begins rl (aO cl.backed now1.state ev) ev.at_).state, iv (begins rl (aO cl.backed now1.state ev) ev.at_).since, iv (begins rl (aO cl.backed now1.state ev) ev.at_).next]] = ((d0 ++ nw :: dn) ++ [begins rl (aO cl.backed now1.state ev) ev.at_]).map Stt.cells from by simp [Stt.cells]] at Y
    refine ⟨_, ?_, k + 1, d0 ++ nw :: dn, begins rl (aO cl.backed now1.state ev) ev.at_, vo, s10, u, rfl, om, (by rw [hsp, gU hkl hev om hn1 om, hdn]; simp), (by rw [hvo, gU hkl hev om hn1 om]), (Sound.begins _ _ om om), (by simp; omega), om, Z.pick [0, 1, 2, 3, 4, 5, 16, 17, 18, 19, 20, 12, 10, 11], Y.select [0, 2, 3, 4] de⟩
    omega
   rw [hb3] at Z
   try simp only [qz] at hb3
   refine wln Z fun a Z => wln Z fun a Z => wln Z fun a Z => wln Z fun a Z => wlv Z (aq rfl rfl) fun a Z => ab (hK15 _ _ ?_)
   replace Z := Z.p26 0 1 2 3 4 5 16 17 18 19 20 12 11 21 22 23 24 27 28 29 30 31 13 14 10 53 rfl
   refine bC Z rfl ?_
   refine aX <| hK13 _ _ <| ah fun K22 hK22 => ?_
   have hdn0 : alone rl to nw = dn := by rw [hal, ca (now := now1) (u := to) (r := rl) om, List.append_nil]
   have hdn : alone rl (min ev.at_ t) nw = dn := by rw [hto]; exact hdn0
   have hn1 : lastOf nw (alone rl (min ev.at_ t) nw) = now1 := by rw [hdn]; exact hla
   refine aa fun K23 hK23 => wlm Z rfl fun a Z => wlm Z rfl fun a Z => wlv Z ((aL (sT := 32) (Y.arg hsv) rfl rfl (runUnderlying32 _)).asi (m' := (l.length : Int)) sm) fun a Z => wlv Z ((v_eq rfl rfl).asb (b' := false) (by simp; omega)) fun a Z => wlm Z rfl fun a Z => wly Z (ak rfl) fun a Z => wly Z (ak rfl) fun a Z => wly Z ((ao (i := (k : Int)) (sT := 32) (Y.arg hsv) rfl rfl (runUnderlying32 _) (sizeOf64 _) om (by simpa using hkl)).as (v' := slAddr sv (k * 3)) rfl) fun a Z => wly Z (bo (k := k * 3) (j := 1) (Y.arg hsv) (i := k) (by simpa using hkl) rfl (fun _ _ => by kernel_rfl)) fun a Z => wly Z (aE (u := iv ev.at_) (i := k) (j := 1) (Y.arg hsv) (by simpa using hkl) rfl (isAgg3 _) (by rw [← hev]; first | (show _ = Value.agg (l.getD k ⟨0, 0, 0⟩).cells.toArray; simp [hkl]) | simp [hkl, Evt.cells])) fun a Z => wly Z (ak rfl) fun a Z => wly Z (v_gt rfl rfl) fun a Z => wlv Z (aq rfl rfl) fun a Z => ab (hK23 _ _ ?_)
   replace Z := Z.p27 0 1 2 3 4 5 16 17 18 19 20 12 11 21 22 23 24 27 28 29 30 31 13 14 10 53 77 rfl
   refine ax Z rfl (fun hc12 => ?_) (fun hc12 => ?_)
   ·rw [hc12] at Z
    try simp only [qz] at hc12
    have hres : runS rl cl l t = d0 ++ nw :: dn := by rw [hsp, gj hkl hev om]; simp [hdn]
    have hresv : runV rl cl l t = vo := by rw [hvo, gj hkl hev om]; simp
    refine aa fun K24 hK24 => wlm Z rfl fun a Z => wlm Z rfl fun a Z => wla Z rfl fun a Z => wla Z rfl fun a Z => ab (hK24 _ _ <| ap ?_)
    refine aj Z results50 (ae rfl (ae rfl ag)) ?_
    exact ⟨(v1, u), rfl, trivial, Y.ext, St.out (E := [own v1 75 3 ((runS rl cl l t).map Stt.cells), own u 3 1 ((runV rl cl l t).map fun i => [iv i])]) (H := []) (by rw [hres, hresv]; exact Y.select [1, 2] de)⟩
   rw [hc12] at Z
   try simp only [qz] at hc12
   refine az <| hK22 _ _ <| ah fun K25 hK25 => aK kr ?_
   replace Z := Z.p27 0 1 2 3 4 5 16 17 18 19 20 12 11 21 22 23 24 27 28 29 30 31 13 14 10 53 77 rfl
   refine aM 8 [[], [], [1], [], [], [3, 4], [5], [0, 2, 6]] (fun i => match i with | 0 => pv (.agg #[iv cl.number, iv cl.frm, iv cl.to, iv cl.holder, iv cl.asked, .bool cl.backed]) | 1 => pv (pt w5.hz) | 2 => pv (iv now1.state) | 3 => pv (sv) | 4 => pv (iv (k : Int)) | 5 => pv (slAddr sv (k * 3)) | 6 => pv (.agg #[iv ev.kind, iv ev.at_, iv ev.reason]) | 7 => pv (iv (aO cl.backed now1.state ev)) | _ => fun _ _ => False) Z Y kr kr ?_ ?_
   ·intro i hi
    match i, hi with
    | 0, _ => exact fun w Y => OpV.g (ai (Y.g 3 rfl) rfl (isAgg31 _) (sizeOf31 _))
    | 1, _ => exact fun w Y => OpV.g (ac (v := pt w5.hz) rfl kr)
    | 2, _ =>
     rintro _ _ ⟨rfl, rfl⟩
     intro w Y
     exact OpV.g (ld Y 0 rfl rfl (isAgg3 _) rfl)
    | 3, _ => exact fun w Y => OpV.g (ak rfl)
    | 4, _ => exact fun w Y => OpV.g (ak rfl)
    | 5, _ =>
     rintro _ _ ⟨rfl, rfl⟩ _ _ ⟨rfl, rfl⟩
     intro w Y
     exact OpV.g ((ao (i := (k : Int)) (sT := 32) (Y.arg hsv) rfl rfl (runUnderlying32 _) (sizeOf64 _) om (by simpa using hkl)).as (v' := slAddr sv (k * 3)) rfl)
    | 6, _ =>
     rintro _ _ ⟨rfl, rfl⟩
     intro w Y
     exact OpV.g ((bN (Y.arg hsv) (i := k) (by simpa using hkl) rfl (isAgg64 _) (sizeOf64 _)).as (v' := .agg #[iv ev.kind, iv ev.at_, iv ev.reason]) (by rw [← hev]; first | (show _ = Value.agg (l.getD k ⟨0, 0, 0⟩).cells.toArray; simp [hkl]) | simp [hkl, Evt.cells]))
    | 7, _ =>
     rintro _ _ ⟨rfl, rfl⟩ _ _ ⟨rfl, rfl⟩ _ _ ⟨rfl, rfl⟩
     intro w Y
     exact aT call69 rfl (iG cl now1.state ev _)
   rintro _ _ ⟨rfl, rfl⟩ _ _ ⟨rfl, rfl⟩ _ _ ⟨rfl, rfl⟩ _ _ ⟨rfl, rfl⟩ _ _ ⟨rfl, rfl⟩ _ _ ⟨rfl, rfl⟩ _ _ ⟨rfl, rfl⟩ _ _ ⟨rfl, rfl⟩ a w17 Z Y
   have Z : Fr 107 [(80, _), (81, _), (82, _), (83, _), (84, _), (85, _), (86, _), (87, _), (0, _), (1, _), (2, _), (3, _), (4, _), (5, _), (16, _), (17, _), (18, _), (19, _), (20, _), (12, _), (11, _), (21, _), (22, _), (23, _), (24, _), (27, _), (28, _), (29, _), (30, _), (31, _), (13, _), (14, _), (10, _), (53, _), (77, _)] [] a := Z
   replace Y : St No w0 [_, _, _, _, _] w17 := Y
   refine wla Z rfl fun a Z => ab <| hK25 _ _ ?_
   have Z : Fr 107 [(0, _), (1, _), (2, _), (3, _), (4, _), (5, _), (16, _), (17, _), (18, _), (19, _), (20, _), (12, _), (11, _), (21, _), (22, _), (23, _), (24, _), (27, _), (28, _), (29, _), (30, _), (31, _), (13, _), (14, _), (10, _), (53, _), (77, _), (15, _)] [] a := Z.pick [0, 1, 2, 3, 4, 5, 16, 17, 18, 19, 20, 12, 11, 21, 22, 23, 24, 27, 28, 29, 30, 31, 13, 14, 10, 53, 77, 15]
   refine aa fun K26 hK26 => wlm Z rfl fun a Z => wlv Z (v_lt rfl rfl) fun a Z => ab (hK26 _ _ ?_)
   refine ax Z rfl (fun hc13 => ?_) (fun hc13 => ?_)
   ·rw [hc13] at Z
    try simp only [qz] at hc13
    refine ar <| wlm Z rfl fun a Z => wlm Z rfl fun a Z => aI (E := 3) (sz := 1) rfl [[iv (k : Int)]] kr sm rfl de de Z Y fun a w18 Z Y => bG (i := 3) (sT := 47) (inf := Tryz.t3) (z := iv 0) (b := 0) (off := 0) (m := 0) (c := 0) rfl rfl rfl (Y.ow 0 rfl) sm underlying47 rfl rfl rfl rfl de (by simp [Value.oneCell']) (by have hby : Tryz.t3.bytes = 8 := rfl; have hby2 : Tryz.t75.bytes = 24 := rfl; simp [big, hby, hby2]; omega) (by have hby : Tryz.t3.bytes = 8 := rfl; have hby2 : Tryz.t75.bytes = 24 := rfl; simp [big, hby, hby2]; omega) de Z Y fun a w19 s14 Z Y _ => wla Z rfl fun a Z => ab <| hK8 _ _ <| ar <| wlm Z rfl fun a Z => wlv Z (aS rfl rfl ⟨om, om⟩) fun a Z => wla Z rfl fun a Z => ?_
    refine ab ?_
    obtain ⟨d1, hd1⟩ : ∃ d1, d0 ++ nw :: dn = d1 ++ [now1] := jn hla
    have hd1l : d1.length = d0.length + dn.length := by have := congrArg List.length hd1; simp at this; omega
    rw [hd1] at Y
    rw [show (vo.map fun i => [iv i]) ++ [[iv (k : Int)]] = ((vo ++ [(k : Int)]).map fun i => [iv i]) from by simp] at Y
    refine ⟨_, ?_, k + 1, d1, now1, vo ++ [(k : Int)], v1, s14, rfl, om, (by rw [hsp, ff hkl hev om hn1 om, hdn]; have := congrArg (· ++ (runU rl cl.backed t (k + 1) now1 (l.drop (k + 1))).1) hd1; simpa using this), (by rw [hvo, ff hkl hev om hn1 om]; simp), hso1, om, (by simp; omega), Z.pick [0, 1, 2, 3, 4, 5, 16, 17, 18, 19, 20, 12, 10, 11], Y.select [2, 3, 4, 5] de⟩
    omega
   rw [hc13] at Z
   try simp only [qz] at hc13
   refine aK kr ?_
   replace Z := Z.p30 0 1 2 3 4 5 16 17 18 19 20 12 11 21 22 23 24 27 28 29 30 31 13 14 10 53 77 15 88 89 rfl
   have Y : St No w0 (own v1 75 3 ((d0 ++ nw :: dn).map Stt.cells) :: [blk w5.hz [iv now1.state, iv now1.since, iv now1.next] 75, own u 3 1 (vo.map fun i => [iv i]), blk w1.hz [iv cl.number, iv cl.frm, iv cl.to, iv cl.holder, iv cl.asked, .bool cl.backed] 31, blk w0.hz [iv rl.answer, iv rl.cooling, iv rl.settle, iv rl.reverse] 29]) w17 := Y.front (i := 1) rfl
   refine dB 10 (own v1 75 3 ((d0 ++ nw :: dn).map Stt.cells)) (fun v => own v 75 3 (((d0 ++ nw :: dn).map Stt.cells) ++ ([[iv ((begins rl (aO cl.backed now1.state ev) ev.at_).state), iv ((begins rl (aO cl.backed now1.state ev) ev.at_).since), iv ((begins rl (aO cl.backed now1.state ev) ev.at_).next)]]))) 11 [[], [], [], [], [], [3, 4], [5], [6], [1, 2, 7], [8], [0, 9]] (fun i => match i with | 0 => pv (v1) | 1 => pv (.agg #[iv rl.answer, iv rl.cooling, iv rl.settle, iv rl.reverse]) | 2 => pv (iv (aO cl.backed now1.state ev)) | 3 => pv (sv) | 4 => pv (iv (k : Int)) | 5 => pv (slAddr sv (k * 3)) | 6 => pv (slAddr sv (k * 3 + 1)) | 7 => pv (iv ev.at_) | 8 => pv (.agg #[iv ((begins rl (aO cl.backed now1.state ev) ev.at_).state), iv ((begins rl (aO cl.backed now1.state ev) ev.at_).since), iv ((begins rl (aO cl.backed now1.state ev) ev.at_).next)]) | 9 => pm (fun b : Nat => .slice (some ⟨b, 0, none⟩) 1 1) (fun b => [own (.slice (some ⟨b, 0, none⟩) 1 1) 75 3 [[iv ((begins rl (aO cl.backed now1.state ev) ev.at_).state), iv ((begins rl (aO cl.backed now1.state ev) ev.at_).since), iv ((begins rl (aO cl.backed now1.state ev) ev.at_).next)]]]) (fun _ => True) | 10 => fun v E => E = [] | _ => fun _ _ => False) Z Y kr kr kr de ?_ ?_ ?_ ?_
   ·intro i v E h
    match i, h with
    | 0, _ => exact by decide
    | 1, _ => exact by decide
    | 2, _ => exact by decide
    | 3, _ => exact by decide
    | 4, _ => exact by decide
    | 5, _ => exact by decide
    | 6, _ => exact by decide
    | 7, _ => exact by decide
    | 8, _ => exact by decide
    | 9, _ => exact by decide
    | 10, _ => exact by decide
    | i + 11, h => exact h.elim
   ·intro i hi hiq e
    match i, hi, hiq with
    | 0, _, _ => exact fun w Y => OpV.g (ak rfl)
    | 1, _, _ => exact fun w Y => OpV.g (ai (Y.g 4 rfl) rfl (isAgg29 _) (sizeOf29 _))
    | 2, _, _ => exact fun w Y => OpV.g (ak rfl)
    | 3, _, _ => exact fun w Y => OpV.g (ak rfl)
    | 4, _, _ => exact fun w Y => OpV.g (ak rfl)
    | 5, _, _ =>
     rintro _ _ ⟨rfl, rfl⟩ _ _ ⟨rfl, rfl⟩
     intro w Y
     exact OpV.g ((ao (i := (k : Int)) (sT := 32) (Y.arg hsv) rfl rfl (runUnderlying32 _) (sizeOf64 _) om (by simpa using hkl)).as (v' := slAddr sv (k * 3)) rfl)
    | 6, _, _ =>
     rintro _ _ ⟨rfl, rfl⟩
     intro w Y
     exact OpV.g (bo (k := k * 3) (j := 1) (Y.arg hsv) (i := k) (by simpa using hkl) rfl (fun _ _ => by kernel_rfl))
    | 7, _, _ =>
     rintro _ _ ⟨rfl, rfl⟩
     intro w Y
     exact OpV.g (aE (u := iv ev.at_) (i := k) (j := 1) (Y.arg hsv) (by simpa using hkl) rfl (isAgg3 _) (by rw [← hev]; first | (show _ = Value.agg (l.getD k ⟨0, 0, 0⟩).cells.toArray; simp [hkl]) | simp [hkl, Evt.cells]))
    | 8, _, _ =>
     rintro _ _ ⟨rfl, rfl⟩ _ _ ⟨rfl, rfl⟩ _ _ ⟨rfl, rfl⟩
     intro w Y
     exact aT call67 rfl (ep rl (aO cl.backed now1.state ev) ev.at_ _ hr om om)
    | 9, _, _ =>
     rintro _ _ ⟨rfl, rfl⟩
     intro w Y
     exact bW (E := 75) (sz := 3) rfl [[iv ((begins rl (aO cl.backed now1.state ev) ev.at_).state), iv ((begins rl (aO cl.backed now1.state ev) ev.at_).since), iv ((begins rl (aO cl.backed now1.state ev) ev.at_).next)]] (fun _ => by kernel_rfl) sm rfl de
    | 10, _, h => exact absurd rfl h
   ·rintro _ _ ⟨rfl, rfl⟩ _ _ ⟨b17, rfl, -, rfl⟩
    intro w Y
    exact (fb (Y.g 0 rfl) rfl rfl (Y.ow 1 rfl) sm underlying70 (inf := Tryz.t75) (z := .agg #[iv 0, iv 0, iv 0]) rfl rfl rfl rfl de (by simp [Value.oneCell']) (by have hby : Tryz.t3.bytes = 8 := rfl; have hby2 : Tryz.t75.bytes = 24 := rfl; simp [big, hby, hby2]; omega) (by have hby : Tryz.t3.bytes = 8 := rfl; have hby2 : Tryz.t75.bytes = 24 := rfl; simp [big, hby, hby2]; omega)).mono fun v w' ⟨h1, h2, h3, _⟩ => ⟨h1, h2, h3, rfl⟩
   rintro vq _ _ ⟨⟨rfl, rfl⟩, -⟩ _ _ ⟨⟨rfl, rfl⟩, -⟩ _ _ ⟨⟨rfl, rfl⟩, -⟩ _ _ ⟨⟨rfl, rfl⟩, -⟩ _ _ ⟨⟨rfl, rfl⟩, -⟩ _ _ ⟨⟨rfl, rfl⟩, -⟩ _ _ ⟨⟨rfl, rfl⟩, -⟩ _ _ ⟨⟨rfl, rfl⟩, -⟩ _ _ ⟨⟨rfl, rfl⟩, -⟩ _ _ ⟨⟨b17, rfl, -, rfl⟩, -⟩ s16 _ ⟨rfl, hvq⟩ a w20 Z Y
   obtain rfl := hvq rfl
   have Z : Fr 107 [(94, _), (95, _), (96, _), (97, _), (98, _), (99, _), (100, _), (101, _), (102, _), (103, _), (104, _), (0, _), (1, _), (2, _), (3, _), (4, _), (5, _), (16, _), (17, _), (18, _), (19, _), (20, _), (12, _), (11, _), (21, _), (22, _), (23, _), (24, _), (27, _), (28, _), (29, _), (30, _), (31, _), (13, _), (14, _), (10, _), (53, _), (77, _), (15, _), (88, _), (89, _)] [] a := Z
   replace Y : St No w0 [_, _, _, _, _, _] w20 := Y
   refine wla Z rfl fun a Z => ab <| hK8 _ _ ?_
   replace Z := Z.p30 0 1 2 3 4 5 16 17 18 19 20 12 11 21 22 23 24 27 28 29 30 31 13 14 53 77 15 88 89 10 rfl
   replace Y := Y.k5 62 rfl
   refine ar <| wlm Z rfl fun a Z => wlv Z (aS rfl rfl ⟨om, om⟩) fun a Z => wla Z rfl fun a Z => ab ?_
   rw [show ((d0 ++ nw :: dn).map Stt.cells) ++ [[iv (begins rl (aO cl.backed now1.state ev) ev.at_).state, iv (begins rl (aO cl.backed now1.state ev) ev.at_).since, iv (begins rl (aO cl.backed now1.state ev) ev.at_).next]] = ((d0 ++ nw :: dn) ++ [begins rl (aO cl.backed now1.state ev) ev.at_]).map Stt.cells from by simp [Stt.cells]] at Y
   refine ⟨_, ?_, k + 1, d0 ++ nw :: dn, begins rl (aO cl.backed now1.state ev) ev.at_, vo, s16, u, rfl, om, (by rw [hsp, gU hkl hev om hn1 om, hdn]; simp), (by rw [hvo, gU hkl hev om hn1 om]), (Sound.begins _ _ om om), (by simp; omega), om, Z.pick [0, 1, 2, 3, 4, 5, 16, 17, 18, 19, 20, 12, 10, 11], Y.select [0, 2, 3, 4] de⟩
   omega
  rw [hc2] at Z
  try simp only [qz] at hc2
  refine az <| hK10 _ _ <| aa fun K27 hK27 => wlm Z rfl fun a Z => wlm Z rfl fun a Z => wlv Z ((aL (sT := 70) (Y.ow 0 rfl) rfl rfl (runUnderlying70 _)).asi (m' := (d0.length : Int) + 1) sm) fun a Z => wlv Z (ci rfl rfl ⟨om, om⟩) fun a Z => wlv Z ((ao (i := ((d0.length : Int) + 1) - 1) (sT := 70) (Y.ow 0 rfl) rfl rfl (runUnderlying70 _) (sizeOf75 _) om sm).as (v' := slAddr v (d0.length * 3)) (by rw [show (((d0.length : Int) + 1) - 1).toNat = d0.length from by omega])) fun a Z => wlv Z ((bN (Y.ow 0 rfl) (i := d0.length) sm rfl (isAgg75 _) (sizeOf75 _)).as (v' := .agg #[iv nw.state, iv nw.since, iv nw.next]) (by simp [Stt.cells])) fun a Z => aH Z Y de (zeroValue75 _) (cs := [iv 0, iv 0, iv 0]) rfl fun a w21 Z Y => am 0 Z Y rfl rfl rfl (sizeOf75 _) rfl (lb rfl) (ds := [iv nw.state, iv nw.since, iv nw.next]) rfl rfl fun a w22 Z Y => ?_
  refine ab (hK27 _ _ ?_)
  have Z : Fr 107 [(0, _), (1, _), (2, _), (3, _), (4, _), (5, _), (16, _), (17, _), (18, _), (19, _), (20, _), (12, _), (10, _), (11, _), (21, _), (22, _), (23, _), (24, _), (27, _), (13, _), (28, _), (29, _), (30, _), (31, _), (14, _)] [] a := Z.pick [0, 1, 2, 3, 4, 5, 16, 17, 18, 19, 20, 12, 10, 11, 21, 22, 23, 24, 27, 13, 28, 29, 30, 31, 14]
  refine ah fun K28 hK28 => ay ?_
  obtain ⟨to, hto⟩ : ∃ x, t = x := ⟨_, rfl⟩
  rw [hto] at Z
  refine bj (fun m a w => ∃ (n : Nat) (now1 : Stt) (dn : List Stt) (v1 : Value), m = 0 + n ∧ (alone rl to nw = dn ++ aloneF n rl to now1) ∧ (lastOf nw dn = now1) ∧ (Sound rl now1) ∧ (rank now1.state ≤ n) ∧ (dn.length + n ≤ 4) ∧ Fr 107 [(0, .agg #[iv rl.answer, iv rl.cooling, iv rl.settle, iv rl.reverse]), (1, .agg #[iv cl.number, iv cl.frm, iv cl.to, iv cl.holder, iv cl.asked, .bool cl.backed]), (2, sv), (3, iv to), (4, pt w0.hz), (5, pt w1.hz), (16, .agg #[iv rl.answer, iv rl.cooling, iv rl.settle, iv rl.reverse]), (17, po w1.hz 4), (18, iv cl.asked), (19, .agg #[iv ((begins rl 1 cl.asked).state), iv ((begins rl 1 cl.asked).since), iv ((begins rl 1 cl.asked).next)]), (20, (.slice (some ⟨w3.hz, 0, none⟩) 1 1)), (12, iv (k : Int)), (11, u), (21, iv (k : Int)), (22, sv), (23, iv (l.length : Int)), (24, .bool true), (27, iv to), (13, iv to), (28, iv (k : Int)), (29, sv), (30, iv (l.length : Int)), (31, .bool false), (14, pt w5.hz), (10, v1)] [] a ∧ St No w0 [blk w5.hz [iv now1.state, iv now1.since, iv now1.next] 75, own v1 75 3 ((d0 ++ nw :: dn).map Stt.cells), own u 3 1 (vo.map fun i => [iv i]), blk w1.hz [iv cl.number, iv cl.frm, iv cl.to, iv cl.holder, iv cl.asked, .bool cl.backed] 31, blk w0.hz [iv rl.answer, iv rl.cooling, iv rl.settle, iv rl.reverse] 29] w) _ ⟨4, nw, [], v, rfl, rfl, rfl, hso, (Nat.le_trans (gm _) de), sm, Z.pick [0, 1, 2, 3, 4, 5, 16, 17, 18, 19, 20, 12, 11, 21, 22, 23, 24, 27, 13, 28, 29, 30, 31, 14, 10], Y.select [0, 1, 2, 3, 4] de⟩ ?_
  rintro _ a w23 ⟨n, now1, dn, v1, rfl, hal, hla, hso1, hrk, hln, Z, Y⟩
  refine ah fun K29 hK29 => aa fun K30 hK30 => wlv Z (ac (v := po w5.hz 2) rfl kr) fun a Z => wlv Z (ld Y 0 rfl rfl (isAgg3 _) rfl) fun a Z => wlv Z (v_ge rfl rfl) fun a Z => wlm Z rfl fun a Z => ?_
  rcases Bool.eq_false_or_eq_true (decide (0 ≤ now1.next)) with hb18 | hb18
  ·rw [hb18] at Z
   try simp only [qz] at hb18
   have hstep := hso1.step hr hb18
   obtain ⟨hs1, hs2, hs3, hs4, hs5, hs6⟩ := (hso1.next hr).resolve_left om
   obtain ⟨n, rfl⟩ : ∃ n2, n = n2 + 1 := ⟨n - 1, by omega⟩
   have hnx : (if now1.state = 3 then (4 : Int) else if now1.state = 4 then 5 else 3) = aQ now1.state := by rcases hs1 with e | e | e | e <;> simp [e, aQ]
   refine wly Z (ac (v := po w5.hz 2) rfl kr) fun a Z => wly Z (ld Y 0 rfl rfl (isAgg3 _) rfl) fun a Z => wly Z (ak rfl) fun a Z => wly Z (v_le rfl rfl) fun a Z => wlv Z (au rfl rfl) fun a Z => ab (hK30 _ _ ?_)
   replace Z := Z.p26 0 1 2 3 4 5 16 17 18 19 20 12 11 21 22 23 24 27 13 28 29 30 31 14 10 53 rfl
   refine ax Z rfl (fun hc19 => ?_) (fun hc19 => ?_)
   ·rw [hc19] at Z
    try simp only [qz] at hc19
    refine az <| hK29 _ _ <| ay <| ah fun K31 hK31 => aK kr ?_
    replace Z := Z.p26 0 1 2 3 4 5 16 17 18 19 20 12 11 21 22 23 24 27 13 28 29 30 31 14 10 53 rfl
    refine aM 7 [[], [], [1], [2], [], [4], [0, 3, 5]] (fun i => match i with | 0 => pv (.agg #[iv rl.answer, iv rl.cooling, iv rl.settle, iv rl.reverse]) | 1 => pv (pt w5.hz) | 2 => pv (iv now1.state) | 3 => pv (iv (aQ now1.state)) | 4 => pv (po w5.hz 2) | 5 => pv (iv now1.next) | 6 => pv (.agg #[iv ((begins rl (aQ now1.state) now1.next).state), iv ((begins rl (aQ now1.state) now1.next).since), iv ((begins rl (aQ now1.state) now1.next).next)]) | _ => fun _ _ => False) Z Y kr kr ?_ ?_
    ·intro i hi
     match i, hi with
     | 0, _ => exact fun w Y => OpV.g (ai (Y.g 4 rfl) rfl (isAgg29 _) (sizeOf29 _))
     | 1, _ => exact fun w Y => OpV.g (ac (v := pt w5.hz) rfl kr)
     | 2, _ =>
      rintro _ _ ⟨rfl, rfl⟩
      intro w Y
      exact OpV.g (ld Y 0 rfl rfl (isAgg3 _) rfl)
     | 3, _ =>
      rintro _ _ ⟨rfl, rfl⟩
      intro w Y
      exact aT call68 rfl ((hnx ▸ jM now1.state _))
     | 4, _ => exact fun w Y => OpV.g (ac (v := po w5.hz 2) rfl kr)
     | 5, _ =>
      rintro _ _ ⟨rfl, rfl⟩
      intro w Y
      exact OpV.g (ld Y 0 rfl rfl (isAgg3 _) rfl)
     | 6, _ =>
      rintro _ _ ⟨rfl, rfl⟩ _ _ ⟨rfl, rfl⟩ _ _ ⟨rfl, rfl⟩
      intro w Y
      exact aT call67 rfl (ep rl (aQ now1.state) now1.next _ hr om om)
    rintro _ _ ⟨rfl, rfl⟩ _ _ ⟨rfl, rfl⟩ _ _ ⟨rfl, rfl⟩ _ _ ⟨rfl, rfl⟩ _ _ ⟨rfl, rfl⟩ _ _ ⟨rfl, rfl⟩ _ _ ⟨rfl, rfl⟩ a w24 Z Y
    have Z : Fr 107 [(54, _), (55, _), (56, _), (57, _), (58, _), (59, _), (60, _), (0, _), (1, _), (2, _), (3, _), (4, _), (5, _), (16, _), (17, _), (18, _), (19, _), (20, _), (12, _), (11, _), (21, _), (22, _), (23, _), (24, _), (27, _), (13, _), (28, _), (29, _), (30, _), (31, _), (14, _), (10, _), (53, _)] [] a := Z
    replace Y : St No w0 [_, _, _, _, _] w24 := Y
    refine am 0 Z Y rfl rfl rfl (sizeOf75 _) rfl (lb rfl) (ds := [iv ((begins rl (aQ now1.state) now1.next).state), iv ((begins rl (aQ now1.state) now1.next).since), iv ((begins rl (aQ now1.state) now1.next).next)]) rfl rfl fun a w25 Z Y => ab <| hK31 _ _ ?_
    replace Z := Z.p26 0 1 2 3 4 5 16 17 18 19 20 12 11 21 22 23 24 27 13 28 29 30 31 14 10 53 rfl
    refine ar <| wlm Z rfl fun a Z => wlv Z (ai (Y.g 0 rfl) rfl (isAgg75 _) (sizeOf75 _)) fun a Z => aI (E := 75) (sz := 3) rfl [[iv ((begins rl (aQ now1.state) now1.next).state), iv ((begins rl (aQ now1.state) now1.next).since), iv ((begins rl (aQ now1.state) now1.next).next)]] kr sm rfl de de Z Y fun a w26 Z Y => bG (i := 2) (sT := 70) (inf := Tryz.t75) (z := .agg #[iv 0, iv 0, iv 0]) (b := 0) (off := 0) (m := 0) (c := 0) rfl rfl rfl (Y.ow 0 rfl) sm underlying70 rfl rfl rfl rfl de (by simp [Value.oneCell']) (by have hby : Tryz.t3.bytes = 8 := rfl; have hby2 : Tryz.t75.bytes = 24 := rfl; simp [big, hby, hby2]; omega) (by have hby : Tryz.t3.bytes = 8 := rfl; have hby2 : Tryz.t75.bytes = 24 := rfl; simp [big, hby, hby2]; omega) de Z Y fun a w27 s20 Z Y _ => wla Z rfl fun a Z => ab ?_
    rw [show ((d0 ++ nw :: dn).map Stt.cells) ++ [[iv (begins rl (aQ now1.state) now1.next).state, iv (begins rl (aQ now1.state) now1.next).since, iv (begins rl (aQ now1.state) now1.next).next]] = (d0 ++ nw :: (dn ++ [begins rl (aQ now1.state) now1.next])).map Stt.cells from by simp [Stt.cells]] at Y
    refine ⟨_, ?_, n, begins rl (aQ now1.state) now1.next, dn ++ [begins rl (aQ now1.state) now1.next], s20, rfl, (by rw [hal, ct (by assumption) (by assumption)]; simp), (by rw [cT, cb]; rfl), hstep.1, (by simp only [begins]; omega), (by simp; omega), Z.pick [0, 1, 2, 3, 4, 5, 16, 17, 18, 19, 20, 12, 11, 21, 22, 23, 24, 27, 13, 28, 29, 30, 31, 14, 10], Y.select [1, 2, 3, 4, 5] de⟩
    omega
   rw [hc19] at Z
   try simp only [qz] at hc19
   refine aX <| hK28 _ _ <| ah fun K32 hK32 => ?_
   have hdn0 : alone rl to nw = dn := by rw [hal, ca (now := now1) (u := to) (r := rl) om, List.append_nil]
   have hdn : alone rl t nw = dn := by rw [hto]; exact hdn0
   refine aa fun K33 hK33 => wlm Z rfl fun a Z => wlm Z rfl fun a Z => wlv Z ((aL (sT := 32) (Y.arg hsv) rfl rfl (runUnderlying32 _)).asi (m' := (l.length : Int)) sm) fun a Z => wlv Z ((v_eq rfl rfl).asb (b' := true) (by simp; omega)) fun a Z => wlm Z rfl fun a Z => wln Z fun a Z => wln Z fun a Z => wln Z fun a Z => wln Z fun a Z => wln Z fun a Z => wln Z fun a Z => ?_
   refine wln Z fun a Z => wlv Z (au rfl rfl) fun a Z => ab (hK33 _ _ ?_)
   replace Z := Z.p27 0 1 2 3 4 5 16 17 18 19 20 12 11 21 22 23 24 27 13 28 29 30 31 14 10 53 77 rfl
   refine aN Z rfl ?_
   have hres : runS rl cl l t = d0 ++ nw :: dn := by rw [hsp, fY om]; simp [hdn]
   have hresv : runV rl cl l t = vo := by rw [hvo, fY om]; simp
   refine aa fun K34 hK34 => wlm Z rfl fun a Z => wlm Z rfl fun a Z => wla Z rfl fun a Z => wla Z rfl fun a Z => ab (hK34 _ _ <| ap ?_)
   refine aj Z results50 (ae rfl (ae rfl ag)) ?_
   exact ⟨(v1, u), rfl, trivial, Y.ext, St.out (E := [own v1 75 3 ((runS rl cl l t).map Stt.cells), own u 3 1 ((runV rl cl l t).map fun i => [iv i])]) (H := []) (by rw [hres, hresv]; exact Y.select [1, 2] de)⟩
  rw [hb18] at Z
  try simp only [qz] at hb18
  refine wln Z fun a Z => wln Z fun a Z => wln Z fun a Z => wln Z fun a Z => wlv Z (aq rfl rfl) fun a Z => ab (hK30 _ _ ?_)
  replace Z := Z.p26 0 1 2 3 4 5 16 17 18 19 20 12 11 21 22 23 24 27 13 28 29 30 31 14 10 53 rfl
  refine bC Z rfl ?_
  refine aX <| hK28 _ _ <| ah fun K35 hK35 => ?_
  have hdn0 : alone rl to nw = dn := by rw [hal, ca (now := now1) (u := to) (r := rl) om, List.append_nil]
  have hdn : alone rl t nw = dn := by rw [hto]; exact hdn0
  refine aa fun K36 hK36 => wlm Z rfl fun a Z => wlm Z rfl fun a Z => wlv Z ((aL (sT := 32) (Y.arg hsv) rfl rfl (runUnderlying32 _)).asi (m' := (l.length : Int)) sm) fun a Z => wlv Z ((v_eq rfl rfl).asb (b' := true) (by simp; omega)) fun a Z => wlm Z rfl fun a Z => wln Z fun a Z => wln Z fun a Z => wln Z fun a Z => wln Z fun a Z => wln Z fun a Z => wln Z fun a Z => ?_
  refine wln Z fun a Z => wlv Z (au rfl rfl) fun a Z => ab (hK36 _ _ ?_)
  replace Z := Z.p27 0 1 2 3 4 5 16 17 18 19 20 12 11 21 22 23 24 27 13 28 29 30 31 14 10 53 77 rfl
  refine aN Z rfl ?_
  have hres : runS rl cl l t = d0 ++ nw :: dn := by rw [hsp, fY om]; simp [hdn]
  have hresv : runV rl cl l t = vo := by rw [hvo, fY om]; simp
  refine aa fun K37 hK37 => wlm Z rfl fun a Z => wlm Z rfl fun a Z => wla Z rfl fun a Z => wla Z rfl fun a Z => ab (hK37 _ _ <| ap ?_)
  refine aj Z results50 (ae rfl (ae rfl ag)) ?_
  exact ⟨(v1, u), rfl, trivial, Y.ext, St.out (E := [own v1 75 3 ((runS rl cl l t).map Stt.cells), own u 3 1 ((runV rl cl l t).map fun i => [iv i])]) (H := []) (by rw [hres, hresv]; exact Y.select [1, 2] de)⟩
 rw [hc1] at Z
 try simp only [qz] at hc1
 exact absurd hk om
theorem pX (rl : Rul) (cl : Clm) (sv : Value) (l : List Evt) (t : Int) (w0 : World) (hsv : SlAt w0 sv 3 (l.map Evt.cells)) (hv : valid rl cl l = true) (h0 : 0 ≤ t) (h1 : t ≤ 40000000) {d0 : List Stt} {ls : Stt} (hls : runS rl cl l t = d0 ++ [ls]) :
  Ret Tryz.prog 50 #[.agg #[iv rl.answer, iv rl.cooling, iv rl.settle, iv rl.reverse], .agg #[iv cl.number, iv cl.frm, iv cl.to, iv cl.holder, iv cl.asked, .bool cl.backed], sv, iv t] w0 (MemR w0 (fun x : Value × Value => .tuple #[x.1, x.2]) (fun x => [own x.1 75 3 ((d0 ++ [ls]).map Stt.cells), own x.2 3 1 ((runV rl cl l t).map fun i => [iv i])]) (fun _ => True)) := by
 rw [← hls]; exact oI rl cl sv l t w0 hsv hv h0 h1
theorem fe (rl : Rul) (cl : Clm) (sv : Value) (l : List Evt) (t : Int) (w0 : World) (hsv : SlAt w0 sv 3 (l.map Evt.cells)) (hv : valid rl cl l = true) (hin : isIn t 0 20000000 = true) :
  Ret Tryz.prog 27 #[.agg #[iv rl.answer, iv rl.cooling, iv rl.settle, iv rl.reverse], .agg #[iv cl.number, iv cl.frm, iv cl.to, iv cl.holder, iv cl.asked, .bool cl.backed], sv, iv t] w0 fun v w => v = .tuple #[(outR rl cl l t).val, iv 0] ∧ Ext No w0 w := by
 have h0 : 0 ≤ t ∧ t ≤ 20000000 := by simpa [isIn] using hin
 obtain ⟨h0, h1⟩ := h0
 obtain ⟨d0, ls, hls⟩ : ∃ d0 ls, runS rl cl l t = d0 ++ [ls] := by
  rcases List.eq_nil_or_concat (runS rl cl l t) with h | ⟨q, s, h⟩
  ·simp [runS] at h
  ·exact ⟨q, s, by simpa using h⟩
 refine aD func27 rfl ntmps27 (lb rfl) fun a Z => ?_
 replace Z := Z.p4 0 1 2 3 rfl
 have Y : St No w0 [] w0 := St.init w0
 refine aa fun K1 hK1 => aG Z Y de rfl (cs := [iv rl.answer, iv rl.cooling, iv rl.settle, iv rl.reverse]) rfl fun a w1 Z Y => aG Z Y de rfl (cs := [iv cl.number, iv cl.frm, iv cl.to, iv cl.holder, iv cl.asked, .bool cl.backed]) rfl fun a w2 Z Y => aH Z Y de (zeroValue75 _) (cs := [iv 0, iv 0, iv 0]) rfl fun a w3 Z Y => wla Z rfl fun a Z => ab (hK1 _ _ <| ah fun K2 hK2 => ?_)
 refine aa fun K3 hK3 => wlv Z (ai (Y.g 2 rfl) rfl (isAgg29 _) (sizeOf29 _)) fun a Z => wlv Z (ai (Y.g 1 rfl) rfl (isAgg31 _) (sizeOf31 _)) fun a Z => wlm Z rfl fun a Z => aA Z Y de call32 rfl ((hv ▸ rvalid_ok rl cl sv l _ (Y.arg hsv) : Ret Tryz.prog 32 _ _ fun v w => v = .bool true ∧ _)) fun a w4 Z Y => wlv Z ((bu rfl).asb (b' := false) rfl) fun a Z => wlm Z rfl fun a Z => wly Z (ak rfl) fun a Z => aF Z Y de rfl de rfl call49 rfl ((hin ▸ cV _ _ _ _)) fun a w5 Z Y => wly Z ((bu rfl).asb (b' := false) rfl) fun a Z => wlv Z (aq rfl rfl) fun a Z => ab (hK3 _ _ ?_)
 replace Z := Z.p9 0 1 2 3 4 5 8 9 21 rfl
 refine bC Z rfl ?_
 refine az <| hK2 _ _ <| ah fun K4 hK4 => aa fun K5 hK5 => wlm Z rfl fun a Z => wlv Z (ac (v := po w1.hz 4) rfl kr) fun a Z => wlv Z (ld Y 1 rfl rfl (isAgg3 _) rfl) fun a Z => wlv Z (v_lt rfl rfl) fun a Z => ab (hK5 _ _ ?_)
 refine ax Z rfl (fun hc1 => ?_) (fun hc1 => ?_)
 ·rw [hc1] at Z
  try simp only [qz] at hc1
  refine aa fun K6 hK6 => wlv Z (ac (v := po w1.hz 4) rfl kr) fun a Z => wlv Z (ld Y 1 rfl rfl (isAgg3 _) rfl) fun a Z => wlv Z (aY (v := .agg #[iv 0, iv 0, iv cl.asked]) rfl kr) fun a Z => am 0 Z Y rfl rfl rfl (sizeOf75 _) rfl (lb rfl) (ds := [iv 0, iv 0, iv cl.asked]) rfl rfl fun a w6 Z Y => wla Z rfl fun a Z => ab (hK6 _ _ <| ap ?_)
  refine aj Z results27 (aB rfl (bB (Y.g 0 rfl) (isAgg75 _) (sizeOf75 _)) (ae rfl ag)) ?_
  exact ⟨by simp only [retv, outR]; rw [if_pos (by assumption)]; rfl, Y.ext⟩
 rw [hc1] at Z
 try simp only [qz] at hc1
 refine az <| hK4 _ _ <| aa fun K7 hK7 => wlv Z (ai (Y.g 2 rfl) rfl (isAgg29 _) (sizeOf29 _)) fun a Z => wlv Z (ai (Y.g 1 rfl) rfl (isAgg31 _) (sizeOf31 _)) fun a Z => wlm Z rfl fun a Z => wlm Z rfl fun a Z => bI Z Y de call50 rfl (pX rl cl sv l t _ (Y.arg hsv) hv h0 om hls) fun a w7 x3 hp Z Y => ?_
 revert x3 hp Z Y; rintro x2 hp Z Y
 clear hp
 replace Y : St No w0 [_, _, _, _, _] w7 := Y
 have hbig := (Y.ow 0 rfl).2.1
 simp only [List.length_map, List.length_append, List.length_singleton, big] at hbig
 refine wlm Z rfl fun a Z => wlv Z (aw rfl rfl) fun a Z => wlv Z (aw rfl rfl) fun a Z => wla Z rfl fun a Z => wla Z rfl fun a Z => ab (hK7 _ _ ?_)
 replace Z := Z.p14 0 1 2 3 4 5 8 9 21 23 24 25 26 10 rfl
 replace Y := Y.k4 29 rfl
 refine aa fun K8 hK8 => wlm Z rfl fun a Z => wlm Z rfl fun a Z => wlv Z ((aL (sT := 70) (Y.ow 0 rfl) rfl rfl (runUnderlying70 _)).asi (m' := (d0.length : Int) + 1) sm) fun a Z => wlv Z (ci rfl rfl ⟨om, om⟩) fun a Z => wlv Z ((ao (i := ((d0.length : Int) + 1) - 1) (sT := 70) (Y.ow 0 rfl) rfl rfl (runUnderlying70 _) (sizeOf75 _) om sm).as (v' := slAddr x2.1 (d0.length * 3)) (by rw [show (((d0.length : Int) + 1) - 1).toNat = d0.length from by omega])) fun a Z => wlv Z ((bN (Y.ow 0 rfl) (i := d0.length) sm rfl (isAgg75 _) (sizeOf75 _)).as (v' := .agg #[iv ls.state, iv ls.since, iv ls.next]) (by simp [Stt.cells])) fun a Z => am 1 Z Y rfl rfl rfl (sizeOf75 _) rfl (lb rfl) (ds := [iv ls.state, iv ls.since, iv ls.next]) rfl rfl fun a w8 Z Y => wla Z rfl fun a Z => ab (hK8 _ _ ?_)
 replace Z := Z.p14 0 1 2 3 4 5 8 21 23 24 25 26 10 9 rfl
 refine ap ?_
 refine aj Z results27 (aB rfl (bB (Y.g 1 rfl) (isAgg75 _) (sizeOf75 _)) (ae rfl ag)) ?_
 exact ⟨by simp only [retv, outR]; rw [if_neg om, hls, gE]; rfl, Y.ext⟩
theorem kb (x0 x1 x2 x3 : Int) (w0 : World) (h0 : isI64 x0) (h1 : isI64 x1) (h2 : isI64 x2) (h3 : isI64 x3) :
  Ret Tryz.prog 25 #[.agg #[iv x0, iv x1, iv x2, iv x3]] w0 fun v w => v = (mkRul x0 x1 x2 x3).val ∧ Ext No w0 w := by
 have q0 := ew x0 16 om h0
 have p0 := bF x0 12 om
 have r0 := bF x0 86400 om
 have q1 := ew x1 16 om h1
 have p1 := bF x1 12 om
 have r1 := bF x1 86400 om
 have q2 := ew x2 16 om h2
 have p2 := bF x2 12 om
 have r2 := bF x2 86400 om
 have q3 := ew x3 16 om h3
 have p3 := bF x3 12 om
 have r3 := bF x3 86400 om
 unfold isI64 at h0 h1 h2 h3 q0 q1 q2 q3
 refine aD func25 rfl ntmps25 (lb rfl) fun a Z => ?_
 replace Z := Z.p1 0 rfl
 have Y : St No w0 [] w0 := St.init w0
 refine aa fun K1 hK1 => aG Z Y de rfl (cs := [iv x0, iv x1, iv x2, iv x3]) rfl fun a w1 Z Y => aH Z Y de (zeroValue29 _) (cs := [iv 0, iv 0, iv 0, iv 0]) rfl fun a w2 Z Y => ab (hK1 _ _ <| aa fun K2 hK2 => ?_)
 refine aH Z Y de (zeroValue22 _) (cs := [iv 0, iv 0, iv 0, iv 0]) rfl fun a w3 Z Y => ab (hK2 _ _ <| ah fun K3 hK3 => ?_)
 refine aa fun K4 hK4 => wla Z rfl fun a Z => ab (hK4 _ _ <| ay ?_)
 refine jm 5 ?_
 refine dz ?_
 refine ah fun K5 hK5 => aa fun K6 hK6 => wlm Z rfl fun a Z => wlv Z ((v_lt rfl rfl).asb (b' := true) rfl) fun a Z => ab (hK6 _ _ <| aN Z rfl ?_)
 refine az <| hK5 _ _ <| ah fun K7 hK7 => ?_
 refine cO (fun a w => ∃ (yy0 : Int), (yy0 = mkRule x0) ∧ Fr 38 [(1, pt w0.hz), (2, pt w1.hz), (3, pt w2.hz), (4, iv 0)] [] a ∧ St No w0 [blk w2.hz [iv yy0, iv 0, iv 0, iv 0] 22, blk w1.hz [iv 0, iv 0, iv 0, iv 0] 29, blk w0.hz [iv x0, iv x1, iv x2, iv x3] 22] w) ?_ ?_
 ·refine ay <| aa fun K8 hK8 => wlm Z rfl fun a Z => wlm Z rfl fun a Z => wlv Z (aC (v := pt w0.hz) rfl rfl kr) fun a Z => wlv Z (ld Y 2 rfl rfl (isAgg3 _) rfl) fun a Z => aA Z Y de call26 rfl (bA _ _ _ om om om om) fun a w4 Z Y => wlv Z (aS rfl rfl ⟨om, om⟩) fun a Z => wlv Z (aC (v := pt w2.hz) rfl rfl kr) fun a Z => am 0 Z Y rfl rfl rfl (sizeOf3 _) rfl (lb rfl) (ds := [iv (1 + (pick x0 12)), iv 0, iv 0, iv 0]) rfl rfl fun a w5 Z Y => ab (hK8 _ _ ?_)
  replace Z := Z.p7 0 1 2 3 4 5 6 rfl
  refine aa fun K9 hK9 => wlm Z rfl fun a Z => wlv Z (aC (v := pt w0.hz) rfl rfl kr) fun a Z => wlv Z (ld Y 2 rfl rfl (isAgg3 _) rfl) fun a Z => wlv Z (ic rfl rfl om ⟨om, om⟩) fun a Z => aA Z Y de call26 rfl (bA _ _ _ om om om om) fun a w6 Z Y => wlv Z (v_eq rfl rfl) fun a Z => ab (hK9 _ _ ?_)
  refine ax Z rfl (fun hc1 => ?_) (fun hc1 => ?_)
  ·rw [hc1] at Z
   try simp only [qz] at hc1
   refine ar <| wlm Z rfl fun a Z => wlm Z rfl fun a Z => wlv Z (aC (v := pt w0.hz) rfl rfl kr) fun a Z => wlv Z (ld Y 2 rfl rfl (isAgg3 _) rfl) fun a Z => aA Z Y de call26 rfl (bA _ _ _ om om om om) fun a w7 Z Y => wlv Z (aS rfl rfl ⟨om, om⟩) fun a Z => wlv Z (aC (v := pt w2.hz) rfl rfl kr) fun a Z => am 0 Z Y rfl rfl rfl (sizeOf3 _) rfl (lb rfl) (ds := [iv (1 + (pick x0 86400)), iv 0, iv 0, iv 0]) rfl rfl fun a w8 Z Y => ab ?_
   exact ⟨1 + (pick x0 86400), (by unfold mkRule; rw [if_pos hc1]), Z.pick [1, 2, 3, 4], Y.select [0, 1, 2] de⟩
  rw [hc1] at Z
  try simp only [qz] at hc1
  refine az ?_
  exact ⟨1 + (pick x0 12), (by unfold mkRule; rw [if_neg hc1]), Z.pick [1, 2, 3, 4], Y.select [0, 1, 2] de⟩
 rintro a w9 ⟨yy0, hyy0, Z, Y⟩
 refine hK7 _ _ <| ar <| wlm Z rfl fun a Z => wlv Z ((aS rfl rfl de).asi (m' := 1) rfl) fun a Z => wla Z rfl fun a Z => ab <| dz ?_
 refine ah fun K10 hK10 => aa fun K11 hK11 => wlm Z rfl fun a Z => wlv Z ((v_lt rfl rfl).asb (b' := true) rfl) fun a Z => ab (hK11 _ _ <| aN Z rfl ?_)
 refine az <| hK10 _ _ <| ah fun K12 hK12 => ?_
 refine cO (fun a w => ∃ (yy1 : Int), (yy1 = mkRule x1) ∧ Fr 38 [(1, pt w0.hz), (2, pt w1.hz), (3, pt w2.hz), (4, iv 1)] [] a ∧ St No w0 [blk w2.hz [iv yy0, iv yy1, iv 0, iv 0] 22, blk w1.hz [iv 0, iv 0, iv 0, iv 0] 29, blk w0.hz [iv x0, iv x1, iv x2, iv x3] 22] w) ?_ ?_
 ·refine ay <| aa fun K13 hK13 => wlm Z rfl fun a Z => wlm Z rfl fun a Z => wlv Z (aC (v := po w0.hz 1) rfl rfl kr) fun a Z => wlv Z (ld Y 2 rfl rfl (isAgg3 _) rfl) fun a Z => aA Z Y de call26 rfl (bA _ _ _ om om om om) fun a w10 Z Y => wlv Z (aS rfl rfl ⟨om, om⟩) fun a Z => wlv Z (aC (v := po w2.hz 1) rfl rfl kr) fun a Z => am 0 Z Y rfl rfl rfl (sizeOf3 _) rfl (lb rfl) (ds := [iv yy0, iv (1 + (pick x1 12)), iv 0, iv 0]) rfl rfl fun a w11 Z Y => ab (hK13 _ _ ?_)
  replace Z := Z.p8 1 2 3 7 8 4 5 6 rfl
  refine aa fun K14 hK14 => wlm Z rfl fun a Z => wlv Z (aC (v := po w0.hz 1) rfl rfl kr) fun a Z => wlv Z (ld Y 2 rfl rfl (isAgg3 _) rfl) fun a Z => wlv Z (ic rfl rfl om ⟨om, om⟩) fun a Z => aA Z Y de call26 rfl (bA _ _ _ om om om om) fun a w12 Z Y => wlv Z (v_eq rfl rfl) fun a Z => ab (hK14 _ _ ?_)
  refine ax Z rfl (fun hc2 => ?_) (fun hc2 => ?_)
  ·rw [hc2] at Z
   try simp only [qz] at hc2
   refine ar <| wlm Z rfl fun a Z => wlm Z rfl fun a Z => wlv Z (aC (v := po w0.hz 1) rfl rfl kr) fun a Z => wlv Z (ld Y 2 rfl rfl (isAgg3 _) rfl) fun a Z => aA Z Y de call26 rfl (bA _ _ _ om om om om) fun a w13 Z Y => wlv Z (aS rfl rfl ⟨om, om⟩) fun a Z => wlv Z (aC (v := po w2.hz 1) rfl rfl kr) fun a Z => am 0 Z Y rfl rfl rfl (sizeOf3 _) rfl (lb rfl) (ds := [iv yy0, iv (1 + (pick x1 86400)), iv 0, iv 0]) rfl rfl fun a w14 Z Y => ab ?_
   exact ⟨1 + (pick x1 86400), (by unfold mkRule; rw [if_pos hc2]), Z.pick [1, 2, 3, 4], Y.select [0, 1, 2] de⟩
  rw [hc2] at Z
  try simp only [qz] at hc2
  refine az ?_
  exact ⟨1 + (pick x1 12), (by unfold mkRule; rw [if_neg hc2]), Z.pick [1, 2, 3, 4], Y.select [0, 1, 2] de⟩
 rintro a w15 ⟨yy1, hyy1, Z, Y⟩
 refine hK12 _ _ <| ar <| wlm Z rfl fun a Z => wlv Z ((aS rfl rfl de).asi (m' := 2) rfl) fun a Z => wla Z rfl fun a Z => ab <| dz ?_
 refine ah fun K15 hK15 => aa fun K16 hK16 => wlm Z rfl fun a Z => wlv Z ((v_lt rfl rfl).asb (b' := true) rfl) fun a Z => ab (hK16 _ _ <| aN Z rfl ?_)
 refine az <| hK15 _ _ <| ah fun K17 hK17 => ?_
 refine cO (fun a w => ∃ (yy2 : Int), (yy2 = mkRule x2) ∧ Fr 38 [(1, pt w0.hz), (2, pt w1.hz), (3, pt w2.hz), (4, iv 2)] [] a ∧ St No w0 [blk w2.hz [iv yy0, iv yy1, iv yy2, iv 0] 22, blk w1.hz [iv 0, iv 0, iv 0, iv 0] 29, blk w0.hz [iv x0, iv x1, iv x2, iv x3] 22] w) ?_ ?_
 ·refine ay <| aa fun K18 hK18 => wlm Z rfl fun a Z => wlm Z rfl fun a Z => wlv Z (aC (v := po w0.hz 2) rfl rfl kr) fun a Z => wlv Z (ld Y 2 rfl rfl (isAgg3 _) rfl) fun a Z => aA Z Y de call26 rfl (bA _ _ _ om om om om) fun a w16 Z Y => wlv Z (aS rfl rfl ⟨om, om⟩) fun a Z => wlv Z (aC (v := po w2.hz 2) rfl rfl kr) fun a Z => am 0 Z Y rfl rfl rfl (sizeOf3 _) rfl (lb rfl) (ds := [iv yy0, iv yy1, iv (1 + (pick x2 12)), iv 0]) rfl rfl fun a w17 Z Y => ab (hK18 _ _ ?_)
  replace Z := Z.p8 1 2 3 7 8 4 5 6 rfl
  refine aa fun K19 hK19 => wlm Z rfl fun a Z => wlv Z (aC (v := po w0.hz 2) rfl rfl kr) fun a Z => wlv Z (ld Y 2 rfl rfl (isAgg3 _) rfl) fun a Z => wlv Z (ic rfl rfl om ⟨om, om⟩) fun a Z => aA Z Y de call26 rfl (bA _ _ _ om om om om) fun a w18 Z Y => wlv Z (v_eq rfl rfl) fun a Z => ab (hK19 _ _ ?_)
  refine ax Z rfl (fun hc3 => ?_) (fun hc3 => ?_)
  ·rw [hc3] at Z
   try simp only [qz] at hc3
   refine ar <| wlm Z rfl fun a Z => wlm Z rfl fun a Z => wlv Z (aC (v := po w0.hz 2) rfl rfl kr) fun a Z => wlv Z (ld Y 2 rfl rfl (isAgg3 _) rfl) fun a Z => aA Z Y de call26 rfl (bA _ _ _ om om om om) fun a w19 Z Y => wlv Z (aS rfl rfl ⟨om, om⟩) fun a Z => wlv Z (aC (v := po w2.hz 2) rfl rfl kr) fun a Z => am 0 Z Y rfl rfl rfl (sizeOf3 _) rfl (lb rfl) (ds := [iv yy0, iv yy1, iv (1 + (pick x2 86400)), iv 0]) rfl rfl fun a w20 Z Y => ab ?_
   exact ⟨1 + (pick x2 86400), (by unfold mkRule; rw [if_pos hc3]), Z.pick [1, 2, 3, 4], Y.select [0, 1, 2] de⟩
  rw [hc3] at Z
  try simp only [qz] at hc3
  refine az ?_
  exact ⟨1 + (pick x2 12), (by unfold mkRule; rw [if_neg hc3]), Z.pick [1, 2, 3, 4], Y.select [0, 1, 2] de⟩
 rintro a w21 ⟨yy2, hyy2, Z, Y⟩
 refine hK17 _ _ <| ar <| wlm Z rfl fun a Z => wlv Z ((aS rfl rfl de).asi (m' := 3) rfl) fun a Z => wla Z rfl fun a Z => ab <| dz ?_
 refine ah fun K20 hK20 => aa fun K21 hK21 => wlm Z rfl fun a Z => wlv Z ((v_lt rfl rfl).asb (b' := true) rfl) fun a Z => ab (hK21 _ _ <| aN Z rfl ?_)
 refine az <| hK20 _ _ <| ah fun K22 hK22 => ?_
 refine cO (fun a w => ∃ (yy3 : Int), (yy3 = mkRule x3) ∧ Fr 38 [(1, pt w0.hz), (2, pt w1.hz), (3, pt w2.hz), (4, iv 3)] [] a ∧ St No w0 [blk w2.hz [iv yy0, iv yy1, iv yy2, iv yy3] 22, blk w1.hz [iv 0, iv 0, iv 0, iv 0] 29, blk w0.hz [iv x0, iv x1, iv x2, iv x3] 22] w) ?_ ?_
 ·refine ay <| aa fun K23 hK23 => wlm Z rfl fun a Z => wlm Z rfl fun a Z => wlv Z (aC (v := po w0.hz 3) rfl rfl kr) fun a Z => wlv Z (ld Y 2 rfl rfl (isAgg3 _) rfl) fun a Z => aA Z Y de call26 rfl (bA _ _ _ om om om om) fun a w22 Z Y => wlv Z (aS rfl rfl ⟨om, om⟩) fun a Z => wlv Z (aC (v := po w2.hz 3) rfl rfl kr) fun a Z => am 0 Z Y rfl rfl rfl (sizeOf3 _) rfl (lb rfl) (ds := [iv yy0, iv yy1, iv yy2, iv (1 + (pick x3 12))]) rfl rfl fun a w23 Z Y => ab (hK23 _ _ ?_)
  replace Z := Z.p8 1 2 3 7 8 4 5 6 rfl
  refine aa fun K24 hK24 => wlm Z rfl fun a Z => wlv Z (aC (v := po w0.hz 3) rfl rfl kr) fun a Z => wlv Z (ld Y 2 rfl rfl (isAgg3 _) rfl) fun a Z => wlv Z (ic rfl rfl om ⟨om, om⟩) fun a Z => aA Z Y de call26 rfl (bA _ _ _ om om om om) fun a w24 Z Y => wlv Z (v_eq rfl rfl) fun a Z => ab (hK24 _ _ ?_)
  refine ax Z rfl (fun hc4 => ?_) (fun hc4 => ?_)
  ·rw [hc4] at Z
   try simp only [qz] at hc4
   refine ar <| wlm Z rfl fun a Z => wlm Z rfl fun a Z => wlv Z (aC (v := po w0.hz 3) rfl rfl kr) fun a Z => wlv Z (ld Y 2 rfl rfl (isAgg3 _) rfl) fun a Z => aA Z Y de call26 rfl (bA _ _ _ om om om om) fun a w25 Z Y => wlv Z (aS rfl rfl ⟨om, om⟩) fun a Z => wlv Z (aC (v := po w2.hz 3) rfl rfl kr) fun a Z => am 0 Z Y rfl rfl rfl (sizeOf3 _) rfl (lb rfl) (ds := [iv yy0, iv yy1, iv yy2, iv (1 + (pick x3 86400))]) rfl rfl fun a w26 Z Y => ab ?_
   exact ⟨1 + (pick x3 86400), (by unfold mkRule; rw [if_pos hc4]), Z.pick [1, 2, 3, 4], Y.select [0, 1, 2] de⟩
  rw [hc4] at Z
  try simp only [qz] at hc4
  refine az ?_
  exact ⟨1 + (pick x3 12), (by unfold mkRule; rw [if_neg hc4]), Z.pick [1, 2, 3, 4], Y.select [0, 1, 2] de⟩
 rintro a w27 ⟨yy3, hyy3, Z, Y⟩
 refine hK22 _ _ <| ar <| wlm Z rfl fun a Z => wlv Z ((aS rfl rfl de).asi (m' := 4) rfl) fun a Z => wla Z rfl fun a Z => ab <| dz ?_
 refine ah fun K25 hK25 => aa fun K26 hK26 => wlm Z rfl fun a Z => wlv Z ((v_lt rfl rfl).asb (b' := false) rfl) fun a Z => ab (hK26 _ _ <| bC Z rfl ?_)
 refine aX <| hK3 _ _ <| aa fun K27 hK27 => wlv Z (aC (v := pt w2.hz) rfl rfl kr) fun a Z => wlv Z (ld Y 0 rfl rfl (isAgg3 _) rfl) fun a Z => wlv Z (aC (v := po w2.hz 1) rfl rfl kr) fun a Z => wlv Z (ld Y 0 rfl rfl (isAgg3 _) rfl) fun a Z => wlv Z (aC (v := po w2.hz 2) rfl rfl kr) fun a Z => wlv Z (ld Y 0 rfl rfl (isAgg3 _) rfl) fun a Z => wlv Z (aC (v := po w2.hz 3) rfl rfl kr) fun a Z => ?_
 refine wlv Z (ld Y 0 rfl rfl (isAgg3 _) rfl) fun a Z => wlv Z (aY (v := .agg #[iv yy0, iv yy1, iv yy2, iv yy3]) rfl kr) fun a Z => am 1 Z Y rfl rfl rfl (sizeOf29 _) rfl (lb rfl) (ds := [iv yy0, iv yy1, iv yy2, iv yy3]) rfl rfl fun a w28 Z Y => ab (hK27 _ _ ?_)
 replace Z := Z.p8 1 2 3 7 8 4 5 6 rfl
 refine ap ?_
 refine aj Z results25 (aB rfl (bB (Y.g 1 rfl) (isAgg29 _) (sizeOf29 _)) ag) ?_
 subst hyy0; subst hyy1; subst hyy2; subst hyy3
 exact ⟨rfl, Y.ext⟩
theorem kt (x0 x1 x2 x3 y0 y1 y2 y3 y4 y5 : Int) (xv : Value) (xs : List Tri) (w0 : World) (g0 : isI64 x0) (g1 : isI64 x1) (g2 : isI64 x2) (g3 : isI64 x3) (q0 : isI64 y0) (q1 : isI64 y1) (q2 : isI64 y2) (q3 : isI64 y3) (q4 : isI64 y4) (q5 : isI64 y5) (hxv : SlAt w0 xv 3 (xs.map Tri.cells)) (hfit : ∀ k, k < xs.length → (xs.getD k ⟨0, 0, 0⟩).fits) :
  Ret Tryz.prog 5 #[.agg #[iv x0, iv x1, iv x2, iv x3, iv y0, iv y1, iv y2, iv y3, iv y4, iv y5, xv]] w0 (MemR w0 (fun v : Value => .tuple #[(mkRul x0 x1 x2 x3).val, (mkClm y0 y1 y2 y3 y4 y5).val, v]) (fun v => [own v 64 3 ((mkL (mkRul x0 x1 x2 x3) (mkClm y0 y1 y2 y3 y4 y5) xs).map Evt.cells)]) (fun _ => True)) := by
 obtain ⟨rl, hrl⟩ : ∃ r, mkRul x0 x1 x2 x3 = r := ⟨_, rfl⟩
 obtain ⟨cl, hcl0⟩ : ∃ c, mkClm y0 y1 y2 y3 y4 y5 = c := ⟨_, rfl⟩
 rw [hrl, hcl0]
 have hr : aW rl = true := hrl ▸ gN x0 x1 x2 x3
 have hc : bS cl = true := hcl0 ▸ (dU y0 y1 y2 y3 y4 y5).1
 have ha : cl.asked < 1000 := hcl0 ▸ (dU y0 y1 y2 y3 y4 y5).2
 have hcl := co hc
 have k0 := bF y0 100000000 om
 have k1 := bF y1 8 om
 have k2 := bF y2 7 om
 have k3 := bF y3 64 om
 have k4 := bF y4 1000 om
 have k5 := bF y5 2 om
 have gg0 := q0; have gg1 := q1; have gg2 := q2; have gg3 := q3; have gg4 := q4; have gg5 := q5
 unfold isI64 at gg0 gg1 gg2 gg3 gg4 gg5
 refine aD func5 rfl ntmps5 (lb rfl) fun a Z => ?_
 replace Z := Z.p1 0 rfl
 replace Y : St No w0 [] w0 := St.init w0
 refine aa fun K1 hK1 => aG Z Y de rfl (cs := [iv x0, iv x1, iv x2, iv x3, iv y0, iv y1, iv y2, iv y3, iv y4, iv y5, xv]) rfl ?_
 clear Z Y
 intro a w1 Z Y
 refine aH Z Y de (zeroValue29 _) (cs := [iv 0, iv 0, iv 0, iv 0]) rfl ?_
 clear Z Y
 intro a w2 Z Y
 refine aH Z Y de (zeroValue31 _) (cs := [iv 0, iv 0, iv 0, iv 0, iv 0, .bool false]) rfl ?_
 clear Z Y
 intro a w3 Z Y
 refine wla Z rfl fun a Z => ab (hK1 _ _ <| aa fun K2 hK2 => ?_)
 refine wlv Z (ac (v := pt w0.hz) rfl kr) fun a Z => wlv Z (bJ (ds := [iv x0, iv x1, iv x2, iv x3]) (Y.g 2 rfl) rfl (isAgg22 _) (sizeOf22 _) rfl) fun a Z => aA Z Y de call25 rfl ((hrl ▸ kb x0 x1 x2 x3 _ g0 g1 g2 g3)) ?_
 clear Z Y
 intro a w4 Z Y
 refine aH Z Y de (zeroValue29 _) (cs := [iv 0, iv 0, iv 0, iv 0]) rfl ?_
 clear Z Y
 intro a w5 Z Y
 refine am 0 Z Y rfl rfl rfl (sizeOf29 _) rfl (lb rfl) (ds := [iv rl.answer, iv rl.cooling, iv rl.settle, iv rl.reverse]) rfl rfl ?_
 clear Z Y
 intro a w6 Z Y
 refine ab (hK2 _ _ <| aa fun K3 hK3 => ?_)
 refine wlv Z (ac (v := po w0.hz 4) rfl kr) fun a Z => wlv Z (bJ (ds := [iv y0, iv y1, iv y2, iv y3, iv y4, iv y5]) (Y.g 3 rfl) rfl (isAgg23 _) (sizeOf23 _) rfl) fun a Z => aH Z Y de (zeroValue23 _) (cs := [iv 0, iv 0, iv 0, iv 0, iv 0, iv 0]) rfl ?_
 clear Z Y
 intro a w7 Z Y
 refine am 0 Z Y rfl rfl rfl (sizeOf23 _) rfl (lb rfl) (ds := [iv y0, iv y1, iv y2, iv y3, iv y4, iv y5]) rfl rfl ?_
 clear Z Y
 intro a w8 Z Y
 refine ab (hK3 _ _ ?_)
 replace Z := Z.p6 1 2 3 4 5 6 rfl
 refine ah fun K4 hK4 => aK kr (aU kr fun w9 hxz => ?_)
 replace Y := Y.grow hxz
 refine aV (k := 0) 18 [16, 17] Z kr kr kr rfx ?_
 replace Z := Z.p6 1 2 3 4 5 6 rfl
 refine aM 18 [[], [0], [1], [], [3], [4], [], [6], [7], [], [9], [10], [], [12], [13], [14], [2, 5, 8, 11, 15], []] (fun i => match i with | 0 => pv (pt w6.hz) | 1 => pv (iv y0) | 2 => pv (iv (pick y0 100000000)) | 3 => pv (po w6.hz 1) | 4 => pv (iv y1) | 5 => pv (iv (pick y1 8)) | 6 => pv (po w6.hz 3) | 7 => pv (iv y3) | 8 => pv (iv (pick y3 64)) | 9 => pv (po w6.hz 4) | 10 => pv (iv y4) | 11 => pv (iv (pick y4 1000)) | 12 => pv (po w6.hz 5) | 13 => pv (iv y5) | 14 => pv (iv (pick y5 2)) | 15 => pv (.bool (decide (pick y5 2 = 0))) | 16 => pv (.agg #[iv (pick y0 100000000), iv (pick y1 8), iv 0, iv (pick y3 64), iv (pick y4 1000), .bool (decide (pick y5 2 = 0))]) | 17 => pm (fun b : Nat => pt b) (fun b => [blk b [iv 0, iv 0, iv 0, iv 0, iv 0, .bool false] 31]) (fun _ => True) | _ => fun _ _ => False) Z Y kr kr ?_ ?_
 ·intro i hi
  match i, hi with
  | 0, _ => exact fun w Y => OpV.g (aC (v := pt w6.hz) rfl rfl kr)
  | 1, _ =>
   rintro _ _ ⟨rfl, rfl⟩
   intro w Y
   exact OpV.g (ld Y 0 rfl rfl (isAgg3 _) rfl)
  | 2, _ =>
   rintro _ _ ⟨rfl, rfl⟩
   intro w Y
   exact aT call26 rfl (bA _ _ _ om om om om)
  | 3, _ => exact fun w Y => OpV.g (aC (v := po w6.hz 1) rfl rfl kr)
  | 4, _ =>
   rintro _ _ ⟨rfl, rfl⟩
   intro w Y
   exact OpV.g (ld Y 0 rfl rfl (isAgg3 _) rfl)
  | 5, _ =>
   rintro _ _ ⟨rfl, rfl⟩
   intro w Y
   exact aT call26 rfl (bA _ _ _ om om om om)
  | 6, _ => exact fun w Y => OpV.g (aC (v := po w6.hz 3) rfl rfl kr)
  | 7, _ =>
   rintro _ _ ⟨rfl, rfl⟩
   intro w Y
   exact OpV.g (ld Y 0 rfl rfl (isAgg3 _) rfl)
  | 8, _ =>
   rintro _ _ ⟨rfl, rfl⟩
   intro w Y
   exact aT call26 rfl (bA _ _ _ om om om om)
  | 9, _ => exact fun w Y => OpV.g (aC (v := po w6.hz 4) rfl rfl kr)
  | 10, _ =>
   rintro _ _ ⟨rfl, rfl⟩
   intro w Y
   exact OpV.g (ld Y 0 rfl rfl (isAgg3 _) rfl)
  | 11, _ =>
   rintro _ _ ⟨rfl, rfl⟩
   intro w Y
   exact aT call26 rfl (bA _ _ _ om om om om)
  | 12, _ => exact fun w Y => OpV.g (aC (v := po w6.hz 5) rfl rfl kr)
  | 13, _ =>
   rintro _ _ ⟨rfl, rfl⟩
   intro w Y
   exact OpV.g (ld Y 0 rfl rfl (isAgg3 _) rfl)
  | 14, _ =>
   rintro _ _ ⟨rfl, rfl⟩
   intro w Y
   exact aT call26 rfl (bA _ _ _ om om om om)
  | 15, _ =>
   rintro _ _ ⟨rfl, rfl⟩
   intro w Y
   exact OpV.g (v_eq rfl rfl)
  | 16, _ =>
   rintro _ _ ⟨rfl, rfl⟩ _ _ ⟨rfl, rfl⟩ _ _ ⟨rfl, rfl⟩ _ _ ⟨rfl, rfl⟩ _ _ ⟨rfl, rfl⟩
   intro w Y
   exact OpV.g (aY (v := .agg #[iv (pick y0 100000000), iv (pick y1 8), iv 0, iv (pick y3 64), iv (pick y4 1000), .bool (decide (pick y5 2 = 0))]) rfl kr)
  | 17, _ => exact fun w Y => f7 (zeroValue31 _) (cs := [iv 0, iv 0, iv 0, iv 0, iv 0, .bool false]) rfl
  | i + 18, h => exact absurd h om
 clear Z Y
 rintro _ _ ⟨rfl, rfl⟩ _ _ ⟨rfl, rfl⟩ _ _ ⟨rfl, rfl⟩ _ _ ⟨rfl, rfl⟩ _ _ ⟨rfl, rfl⟩ _ _ ⟨rfl, rfl⟩ _ _ ⟨rfl, rfl⟩ _ _ ⟨rfl, rfl⟩ _ _ ⟨rfl, rfl⟩ _ _ ⟨rfl, rfl⟩ _ _ ⟨rfl, rfl⟩ _ _ ⟨rfl, rfl⟩ _ _ ⟨rfl, rfl⟩ _ _ ⟨rfl, rfl⟩ _ _ ⟨rfl, rfl⟩ _ _ ⟨rfl, rfl⟩ _ _ ⟨rfl, rfl⟩ _ _ ⟨b1, rfl, -, rfl⟩ a w10 Z Y
 replace Z : Fr 124 [(20, _), (21, _), (22, _), (23, _), (24, _), (25, _), (26, _), (27, _), (28, _), (29, _), (30, _), (31, _), (32, _), (33, _), (34, _), (35, _), (36, _), (7, _), (1, _), (2, _), (3, _), (4, _), (5, _), (6, _)] [] a := Z
 replace Y : St No w0 [_, _, _, _, _, _] w10 := Y
 refine ab <| aP (k := 18) 19 [18] kr kr kr ?_
 refine am 0 Z Y rfl rfl rfl (sizeOf31 _) rfl (lb rfl) (ds := [iv (pick y0 100000000), iv (pick y1 8), iv 0, iv (pick y3 64), iv (pick y4 1000), .bool (decide (pick y5 2 = 0))]) rfl rfl ?_
 clear Z Y
 intro a w11 Z Y
 refine ab <| bt kr ?_
 refine hK4 _ _ ?_
 replace Z := Z.p7 1 2 3 4 5 6 7 rfl
 refine ah fun K5 hK5 => aK kr (aU kr fun w12 hxz => ?_)
 replace Y := Y.grow hxz
 refine aV (k := 0) 6 [2, 5] Z kr kr kr rfx ?_
 replace Z := Z.p7 1 2 3 4 5 6 7 rfl
 refine aM 6 [[], [0], [1], [], [3], [4]] (fun i => match i with | 0 => pv (po b1 1) | 1 => pv (iv (pick y1 8)) | 2 => pv (iv ((pick y1 8) + 1)) | 3 => pv (po w6.hz 2) | 4 => pv (iv y2) | 5 => pv (iv (pick y2 7)) | _ => fun _ _ => False) Z Y kr kr ?_ ?_
 ·intro i hi
  match i, hi with
  | 0, _ => exact fun w Y => OpV.g (ac (v := po b1 1) rfl kr)
  | 1, _ =>
   rintro _ _ ⟨rfl, rfl⟩
   intro w Y
   exact OpV.g (ld Y 0 rfl rfl (isAgg3 _) rfl)
  | 2, _ =>
   rintro _ _ ⟨rfl, rfl⟩
   intro w Y
   exact OpV.g (aS rfl rfl ⟨om, om⟩)
  | 3, _ => exact fun w Y => OpV.g (aC (v := po w6.hz 2) rfl rfl kr)
  | 4, _ =>
   rintro _ _ ⟨rfl, rfl⟩
   intro w Y
   exact OpV.g (ld Y 1 rfl rfl (isAgg3 _) rfl)
  | 5, _ =>
   rintro _ _ ⟨rfl, rfl⟩
   intro w Y
   exact aT call26 rfl (bA _ _ _ om om om om)
 clear Z Y
 rintro _ _ ⟨rfl, rfl⟩ _ _ ⟨rfl, rfl⟩ _ _ ⟨rfl, rfl⟩ _ _ ⟨rfl, rfl⟩ _ _ ⟨rfl, rfl⟩ _ _ ⟨rfl, rfl⟩ a w13 Z Y
 replace Z := Z.p13 37 38 39 40 41 42 1 2 3 4 5 6 7 rfl
 replace Y : St No w0 [_, _, _, _, _, _] w13 := Y
 refine ab <| aP (k := 6) 10 [9] kr kr kr ?_
 refine wlv Z (aS rfl rfl ⟨om, om⟩) fun a Z => wlv Z (eY rfl rfl om om) fun a Z => wlv Z (ac (v := po b1 2) rfl kr) fun a Z => am 0 Z Y rfl rfl rfl (sizeOf3 _) rfl (lb rfl) (ds := [iv (pick y0 100000000), iv (pick y1 8), iv ((((pick y1 8) + 1) + (pick y2 7)) % 8), iv (pick y3 64), iv (pick y4 1000), .bool (decide (pick y5 2 = 0))]) rfl rfl ?_
 clear Z Y
 intro a w14 Z Y
 refine ab <| bt kr ?_
 refine hK5 _ _ ?_
 replace Z := Z.p6 1 2 3 4 5 7 rfl
 replace Y := Y.k5 61 rfl
 replace Y : St No w0 [blk b1 [iv cl.number, iv cl.frm, iv cl.to, iv cl.holder, iv cl.asked, .bool cl.backed] 31, blk w4.hz [iv rl.answer, iv rl.cooling, iv rl.settle, iv rl.reverse] 29, blk w2.hz [iv 0, iv 0, iv 0, iv 0, iv 0, .bool false] 31, blk w1.hz [iv 0, iv 0, iv 0, iv 0] 29, blk w0.hz [iv x0, iv x1, iv x2, iv x3, iv y0, iv y1, iv y2, iv y3, iv y4, iv y5, xv] 26] w14 := by rw [← hcl0]; exact Y
 refine aa fun K6 hK6 => wla Z rfl fun a Z => ab (hK6 _ _ <| aa fun K7 hK7 => ?_)
 refine wlv Z (ac (v := po b1 4) rfl kr) fun a Z => wlv Z (ld Y 0 rfl rfl (isAgg3 _) rfl) fun a Z => wla Z rfl fun a Z => ab (hK7 _ _ <| ah fun K8 hK8 => ?_)
 refine aa fun K9 hK9 => wla Z rfl fun a Z => ab (hK9 _ _ <| ay ?_)
 replace Y : St No w0 (own (.slice none 0 0) 64 3 [] :: [blk b1 [iv cl.number, iv cl.frm, iv cl.to, iv cl.holder, iv cl.asked, .bool cl.backed] 31, blk w4.hz [iv rl.answer, iv rl.cooling, iv rl.settle, iv rl.reverse] 29, blk w2.hz [iv 0, iv 0, iv 0, iv 0, iv 0, .bool false] 31, blk w1.hz [iv 0, iv 0, iv 0, iv 0] 29, blk w0.hz [iv x0, iv x1, iv x2, iv x3, iv y0, iv y1, iv y2, iv y3, iv y4, iv y5, xv] 26]) w14 := Y.nil_own
 refine bj (fun m a w => ∃ (k : Nat) (v : Value), m = 10 - k ∧ (k ≤ 10) ∧ (k ≤ xs.length) ∧ Fr 124 [(1, pt w0.hz), (2, pt w1.hz), (3, pt w2.hz), (4, .slice none 0 0), (5, pt w4.hz), (7, pt b1), (10, iv (k : Int)), (8, v), (9, iv (lastAt cl.asked (mkN rl cl xs k) k))] [] a ∧ St No w0 [own v 64 3 ((mkN rl cl xs k).map Evt.cells), blk w0.hz [iv x0, iv x1, iv x2, iv x3, iv y0, iv y1, iv y2, iv y3, iv y4, iv y5, xv] 26, blk w1.hz [iv 0, iv 0, iv 0, iv 0] 29, blk w2.hz [iv 0, iv 0, iv 0, iv 0, iv 0, .bool false] 31, blk w4.hz [iv rl.answer, iv rl.cooling, iv rl.settle, iv rl.reverse] 29, blk b1 [iv cl.number, iv cl.frm, iv cl.to, iv cl.holder, iv cl.asked, .bool cl.backed] 31] w) _ ⟨0, .slice none 0 0, rfl, om, om, Z.pick [1, 2, 3, 4, 5, 7, 10, 8, 9], Y.select [0, 5, 4, 3, 2, 1] de⟩ ?_
 rintro _ a w15 ⟨k, v, rfl, hk10, hkx, Z, Y⟩
 refine ah fun K10 hK10 => ah fun K11 hK11 => ?_
 refine cO (fun a w => ∃ (bx : Bool), (bx = decide (k < xs.length ∧ k < 10)) ∧ Fr 124 [(1, pt w0.hz), (2, pt w1.hz), (3, pt w2.hz), (4, .slice none 0 0), (5, pt w4.hz), (7, pt b1), (10, iv (k : Int)), (8, v), (9, iv (lastAt cl.asked (mkN rl cl xs k) k)), (56, .bool bx)] [] a ∧ St No w0 [own v 64 3 ((mkN rl cl xs k).map Evt.cells), blk w0.hz [iv x0, iv x1, iv x2, iv x3, iv y0, iv y1, iv y2, iv y3, iv y4, iv y5, xv] 26, blk w1.hz [iv 0, iv 0, iv 0, iv 0] 29, blk w2.hz [iv 0, iv 0, iv 0, iv 0, iv 0, .bool false] 31, blk w4.hz [iv rl.answer, iv rl.cooling, iv rl.settle, iv rl.reverse] 29, blk b1 [iv cl.number, iv cl.frm, iv cl.to, iv cl.holder, iv cl.asked, .bool cl.backed] 31] w) ?_ ?_
 ·refine ar <| wlm Z rfl fun a Z => wlv Z (ac (v := po w0.hz 10) rfl kr) fun a Z => wlv Z (ld Y 1 rfl rfl (isAgg24 _) rfl) fun a Z => wlv Z ((aL (sT := 24) (Y.arg hxv) rfl rfl (runUnderlying24 _)).asi (m' := (xs.length : Int)) sm) fun a Z => wlv Z (v_lt rfl rfl) fun a Z => wlm Z rfl fun a Z => ?_
  rcases Bool.eq_false_or_eq_true (decide ((k : Int) < (xs.length : Int))) with hb2 | hb2
  ·rw [hb2] at Z
   try simp only [qz] at hb2
   have hkl : k < xs.length := by omega
   refine wly Z (ak rfl) fun a Z => wly Z (v_lt rfl rfl) fun a Z => wlv Z (au rfl rfl) fun a Z => ab ?_
   exact ⟨(decide ((k : Int) < 10)), (by rw [Bool.eq_iff_iff, decide_eq_true_eq, decide_eq_true_eq]; omega), Z.pick [1, 2, 3, 4, 5, 7, 10, 8, 9, 56], Y.select [0, 1, 2, 3, 4, 5] de⟩
  rw [hb2] at Z
  try simp only [qz] at hb2
  refine wln Z fun a Z => wln Z fun a Z => wlv Z (aq rfl rfl) fun a Z => ab ?_
  exact ⟨(false), (by rw [eq_comm, decide_eq_false_iff_not]; omega), Z.pick [1, 2, 3, 4, 5, 7, 10, 8, 9, 56], Y.select [0, 1, 2, 3, 4, 5] de⟩
 rintro a w16 ⟨bx, hbx, Z, Y⟩
 refine hK11 _ _ ?_
 refine ax Z rfl (fun hc3 => ?_) (fun hc3 => ?_)
 ·rw [hc3] at Z
  try simp only [qz] at hc3
  rw [hbx] at hc3
  simp only [decide_eq_true_eq] at hc3
  have hkl : k < xs.length := by omega
  obtain ⟨hvk, hl1, hl2⟩ := gw hr hc ha xs k om
  obtain ⟨la, hla⟩ : ∃ la, lastAt cl.asked (mkN rl cl xs k) k = la := ⟨_, rfl⟩
  obtain ⟨nw, hnw⟩ : ∃ nw, outR rl cl (mkN rl cl xs k) la = nw := ⟨_, rfl⟩
  rw [hla] at Z hl1 hl2
  obtain ⟨hn1, hn2, _⟩ := jj hvk hl1
  rw [hnw] at hn1 hn2
  obtain ⟨z, hz⟩ : ∃ z, xs.getD k ⟨0, 0, 0⟩ = z := ⟨_, rfl⟩
  have hzf : z.fits := hz ▸ hfit k hkl
  obtain ⟨hza, hzb, hzc⟩ := hzf
  have hzq := ew z.b 4 om hzb
  unfold isI64 at hza hzb hzc hzq
  have hin : isIn la 0 20000000 = true := by simp [isIn]; omega
  have pk1 := bF z.a 6 om
  have pk2 := bF z.b 4 om
  have pk3 := bF z.b 3 om
  have pk4 := bF z.c 4 om
  refine az <| hK10 _ _ <| ah fun K12 hK12 => ay <| aa fun K13 hK13 => wlv Z (ac (v := po w0.hz 10) rfl kr) fun a Z => wlv Z (ld Y 1 rfl rfl (isAgg24 _) rfl) fun a Z => wlm Z rfl fun a Z => wlv Z ((ao (i := (k : Int)) (sT := 24) (Y.arg hxv) rfl rfl (runUnderlying24 _) (sizeOf27 _) om (by simpa using hkl)).as (v' := slAddr xv (k * 3)) rfl) fun a Z => wlv Z ((bN (Y.arg hxv) (i := k) (by simpa using hkl) rfl (isAgg27 _) (sizeOf27 _)).as (v' := .agg #[iv z.a, iv z.b, iv z.c]) (by rw [← hz]; show _ = Value.agg (xs.getD k ⟨0, 0, 0⟩).cells.toArray; simp [hkl])) fun a Z => aH Z Y de (zeroValue27 _) (cs := [iv 0, iv 0, iv 0]) rfl ?_
  clear Z Y
  intro a w17 Z Y
  refine am 0 Z Y rfl rfl rfl (sizeOf27 _) rfl (lb rfl) (ds := [iv z.a, iv z.b, iv z.c]) rfl rfl ?_
  clear Z Y
  intro a w18 Z Y
  refine ab (hK13 _ _ ?_)
  replace Z := Z.p10 1 2 3 4 5 7 10 8 9 11 rfl
  refine ah fun K14 hK14 => aK kr (aU kr fun w19 hxz => ?_)
  replace Y := Y.grow hxz
  refine aV (k := 0) 11 [9, 10] Z kr kr kr rfx ?_
  replace Z := Z.p10 1 2 3 4 5 7 10 8 9 11 rfl
  refine aM 11 [[], [0], [1], [2], [], [], [5], [6], [4, 7], [3, 8], []] (fun i => match i with | 0 => pv (pt w16.hz) | 1 => pv (iv z.a) | 2 => pv (iv (pick z.a 6)) | 3 => pv (iv (1 + (pick z.a 6))) | 4 => pv (iv la) | 5 => pv (po w16.hz 1) | 6 => pv (iv z.b) | 7 => pv (iv (pick z.b 4)) | 8 => pv (iv (la + (pick z.b 4))) | 9 => pv (.agg #[iv (1 + (pick z.a 6)), iv (la + (pick z.b 4)), iv 0]) | 10 => pm (fun b : Nat => pt b) (fun b => [blk b [iv 0, iv 0, iv 0] 64]) (fun _ => True) | _ => fun _ _ => False) Z Y kr kr ?_ ?_
  ·intro i hi
   match i, hi with
   | 0, _ => exact fun w Y => OpV.g (aC (v := pt w16.hz) rfl rfl kr)
   | 1, _ =>
    rintro _ _ ⟨rfl, rfl⟩
    intro w Y
    exact OpV.g (ld Y 0 rfl rfl (isAgg3 _) rfl)
   | 2, _ =>
    rintro _ _ ⟨rfl, rfl⟩
    intro w Y
    exact aT call26 rfl (bA _ _ _ om om om om)
   | 3, _ =>
    rintro _ _ ⟨rfl, rfl⟩
    intro w Y
    exact OpV.g (aS rfl rfl ⟨om, om⟩)
   | 4, _ => exact fun w Y => OpV.g (ak rfl)
   | 5, _ => exact fun w Y => OpV.g (aC (v := po w16.hz 1) rfl rfl kr)
   | 6, _ =>
    rintro _ _ ⟨rfl, rfl⟩
    intro w Y
    exact OpV.g (ld Y 0 rfl rfl (isAgg3 _) rfl)
   | 7, _ =>
    rintro _ _ ⟨rfl, rfl⟩
    intro w Y
    exact aT call26 rfl (bA _ _ _ om om om om)
   | 8, _ =>
    rintro _ _ ⟨rfl, rfl⟩ _ _ ⟨rfl, rfl⟩
    intro w Y
    exact OpV.g (aS rfl rfl ⟨om, om⟩)
   | 9, _ =>
    rintro _ _ ⟨rfl, rfl⟩ _ _ ⟨rfl, rfl⟩
    intro w Y
    exact OpV.g (aY (v := .agg #[iv (1 + (pick z.a 6)), iv (la + (pick z.b 4)), iv 0]) rfl kr)
   | 10, _ => exact fun w Y => f7 (zeroValue64 _) (cs := [iv 0, iv 0, iv 0]) rfl
  clear Z Y
  rintro _ _ ⟨rfl, rfl⟩ _ _ ⟨rfl, rfl⟩ _ _ ⟨rfl, rfl⟩ _ _ ⟨rfl, rfl⟩ _ _ ⟨rfl, rfl⟩ _ _ ⟨rfl, rfl⟩ _ _ ⟨rfl, rfl⟩ _ _ ⟨rfl, rfl⟩ _ _ ⟨rfl, rfl⟩ _ _ ⟨rfl, rfl⟩ _ _ ⟨b4, rfl, -, rfl⟩ a w20 Z Y
  replace Z : Fr 124 [(64, _), (65, _), (66, _), (67, _), (68, _), (69, _), (70, _), (71, _), (72, _), (73, _), (12, _), (1, _), (2, _), (3, _), (4, _), (5, _), (7, _), (10, _), (8, _), (9, _), (11, _)] [] a := Z
  replace Y : St No w0 [_, _, _, _, _, _, _, _] w20 := Y
  refine ab <| aP (k := 11) 12 [11] kr kr kr ?_
  refine am 0 Z Y rfl rfl rfl (sizeOf64 _) rfl (lb rfl) (ds := [iv (1 + (pick z.a 6)), iv (la + (pick z.b 4)), iv 0]) rfl rfl ?_
  clear Z Y
  intro a w21 Z Y
  refine ab <| bt kr ?_
  refine hK14 _ _ ?_
  replace Z := Z.p11 1 2 3 4 5 7 10 8 9 11 12 rfl
  refine ah fun K15 hK15 => aa fun K16 hK16 => wlv Z (ai (Y.g 6 rfl) rfl (isAgg29 _) (sizeOf29 _)) fun a Z => wlv Z (ai (Y.g 7 rfl) rfl (isAgg31 _) (sizeOf31 _)) fun a Z => wlm Z rfl fun a Z => wlm Z rfl fun a Z => aA Z Y de call27 rfl ((hnw ▸ fe rl cl v (mkN rl cl xs k) la _ (Y.ow 2 rfl) hvk hin)) ?_
  clear Z Y
  intro a w22 Z Y
  refine wlm Z rfl fun a Z => wlv Z (aw rfl rfl) fun a Z => wlv Z (aw rfl rfl) fun a Z => aH Z Y de (zeroValue75 _) (cs := [iv 0, iv 0, iv 0]) rfl ?_
  clear Z Y
  intro a w23 Z Y
  refine am 0 Z Y rfl rfl rfl (sizeOf75 _) rfl (lb rfl) (ds := [iv nw.state, iv nw.since, iv nw.next]) rfl rfl ?_
  clear Z Y
  intro a w24 Z Y
  refine wla Z rfl fun a Z => ab (hK16 _ _ ?_)
  replace Z := Z.p12 1 2 3 4 5 7 10 8 9 11 12 13 rfl
  refine ah fun K17 hK17 => ?_
  refine cO (fun a w => ∃ (bb : Bool), (bb = decide (0 < nw.next ∧ 0 < pick (z.b.tdiv 4) 3)) ∧ Fr 124 [(1, pt w0.hz), (2, pt w1.hz), (3, pt w2.hz), (4, .slice none 0 0), (5, pt w4.hz), (7, pt b1), (10, iv (k : Int)), (8, v), (9, iv la), (11, pt w16.hz), (12, pt b4), (13, pt w22.hz), (91, .bool bb)] [] a ∧ St No w0 [blk w22.hz [iv nw.state, iv nw.since, iv nw.next] 75, blk b4 [iv (1 + (pick z.a 6)), iv (la + (pick z.b 4)), iv 0] 64, blk w16.hz [iv z.a, iv z.b, iv z.c] 27, own v 64 3 ((mkN rl cl xs k).map Evt.cells), blk w0.hz [iv x0, iv x1, iv x2, iv x3, iv y0, iv y1, iv y2, iv y3, iv y4, iv y5, xv] 26, blk w1.hz [iv 0, iv 0, iv 0, iv 0] 29, blk w2.hz [iv 0, iv 0, iv 0, iv 0, iv 0, .bool false] 31, blk w4.hz [iv rl.answer, iv rl.cooling, iv rl.settle, iv rl.reverse] 29, blk b1 [iv cl.number, iv cl.frm, iv cl.to, iv cl.holder, iv cl.asked, .bool cl.backed] 31] w) ?_ ?_
  ·refine ar <| wlv Z (ac (v := po w22.hz 2) rfl kr) fun a Z => wlv Z (ld Y 0 rfl rfl (isAgg3 _) rfl) fun a Z => wlv Z (v_gt rfl rfl) fun a Z => wlm Z rfl fun a Z => ?_
   rcases Bool.eq_false_or_eq_true (decide (0 < nw.next)) with hb5 | hb5
   ·rw [hb5] at Z
    try simp only [qz] at hb5
    refine wly Z (aC (v := po w16.hz 1) rfl rfl kr) fun a Z => wly Z (ld Y 2 rfl rfl (isAgg3 _) rfl) fun a Z => wly Z (ic rfl rfl om ⟨om, om⟩) fun a Z => aF Z Y de rfl de rfl call26 rfl (bA _ _ _ om om om om) ?_
    clear Z Y
    intro a w25 Z Y
    refine wly Z (v_gt rfl rfl) fun a Z => wlv Z (au rfl rfl) fun a Z => ab ?_
    exact ⟨(decide (0 < pick (z.b.tdiv 4) 3)), (by rw [Bool.eq_iff_iff, decide_eq_true_eq, decide_eq_true_eq]; omega), Z.pick [1, 2, 3, 4, 5, 7, 10, 8, 9, 11, 12, 13, 91], Y.select [0, 1, 2, 3, 4, 5, 6, 7, 8] de⟩
   rw [hb5] at Z
   try simp only [qz] at hb5
   refine wln Z fun a Z => wln Z fun a Z => wln Z fun a Z => wln Z fun a Z => wln Z fun a Z => wlv Z (aq rfl rfl) fun a Z => ab ?_
   exact ⟨(false), (by rw [eq_comm, decide_eq_false_iff_not]; omega), Z.pick [1, 2, 3, 4, 5, 7, 10, 8, 9, 11, 12, 13, 91], Y.select [0, 1, 2, 3, 4, 5, 6, 7, 8] de⟩
  rintro a w26 ⟨bb, hbb, Z, Y⟩
  refine hK17 _ _ ?_
  refine cO (fun a w => ∃ (ta : Int), (ta = if 0 < nw.next ∧ 0 < pick (z.b.tdiv 4) 3 then max la ((nw.next - 1) + (pick z.b 3)) else la + (pick z.b 4)) ∧ Fr 124 [(1, pt w0.hz), (2, pt w1.hz), (3, pt w2.hz), (4, .slice none 0 0), (5, pt w4.hz), (7, pt b1), (10, iv (k : Int)), (8, v), (11, pt w16.hz), (12, pt b4)] [] a ∧ St No w0 [blk w22.hz [iv nw.state, iv nw.since, iv nw.next] 75, blk b4 [iv (1 + (pick z.a 6)), iv ta, iv 0] 64, blk w16.hz [iv z.a, iv z.b, iv z.c] 27, own v 64 3 ((mkN rl cl xs k).map Evt.cells), blk w0.hz [iv x0, iv x1, iv x2, iv x3, iv y0, iv y1, iv y2, iv y3, iv y4, iv y5, xv] 26, blk w1.hz [iv 0, iv 0, iv 0, iv 0] 29, blk w2.hz [iv 0, iv 0, iv 0, iv 0, iv 0, .bool false] 31, blk w4.hz [iv rl.answer, iv rl.cooling, iv rl.settle, iv rl.reverse] 29, blk b1 [iv cl.number, iv cl.frm, iv cl.to, iv cl.holder, iv cl.asked, .bool cl.backed] 31] w) ?_ ?_
  ·refine ax Z rfl (fun hc6 => ?_) (fun hc6 => ?_)
   ·rw [hc6] at Z
    try simp only [qz] at hc6
    rw [hbb] at hc6
    simp only [decide_eq_true_eq, decide_eq_false_iff_not] at hc6
    refine aK kr (aU kr fun w27 hxz => ?_)
    replace Y := Y.grow hxz
    refine aV (k := 0) 8 [0, 7] Z kr kr kr rfx ?_
    replace Z := Z.p13 1 2 3 4 5 7 10 8 9 11 12 13 91 rfl
    refine aM 8 [[], [], [1], [2], [], [4], [5], [3, 6]] (fun i => match i with | 0 => pv (iv la) | 1 => pv (po w22.hz 2) | 2 => pv (iv nw.next) | 3 => pv (iv (nw.next - 1)) | 4 => pv (po w16.hz 1) | 5 => pv (iv z.b) | 6 => pv (iv (pick z.b 3)) | 7 => pv (iv ((nw.next - 1) + (pick z.b 3))) | _ => fun _ _ => False) Z Y kr kr ?_ ?_
    ·intro i hi
     match i, hi with
     | 0, _ => exact fun w Y => OpV.g (ak rfl)
     | 1, _ => exact fun w Y => OpV.g (ac (v := po w22.hz 2) rfl kr)
     | 2, _ =>
      rintro _ _ ⟨rfl, rfl⟩
      intro w Y
      exact OpV.g (ld Y 0 rfl rfl (isAgg3 _) rfl)
     | 3, _ =>
      rintro _ _ ⟨rfl, rfl⟩
      intro w Y
      exact OpV.g (ci rfl rfl ⟨om, om⟩)
     | 4, _ => exact fun w Y => OpV.g (aC (v := po w16.hz 1) rfl rfl kr)
     | 5, _ =>
      rintro _ _ ⟨rfl, rfl⟩
      intro w Y
      exact OpV.g (ld Y 2 rfl rfl (isAgg3 _) rfl)
     | 6, _ =>
      rintro _ _ ⟨rfl, rfl⟩
      intro w Y
      exact aT call26 rfl (bA _ _ _ om om om om)
     | 7, _ =>
      rintro _ _ ⟨rfl, rfl⟩ _ _ ⟨rfl, rfl⟩
      intro w Y
      exact OpV.g (aS rfl rfl ⟨om, om⟩)
    clear Z Y
    rintro _ _ ⟨rfl, rfl⟩ _ _ ⟨rfl, rfl⟩ _ _ ⟨rfl, rfl⟩ _ _ ⟨rfl, rfl⟩ _ _ ⟨rfl, rfl⟩ _ _ ⟨rfl, rfl⟩ _ _ ⟨rfl, rfl⟩ _ _ ⟨rfl, rfl⟩ a w28 Z Y
    replace Z : Fr 124 [(92, _), (93, _), (94, _), (95, _), (96, _), (97, _), (98, _), (99, _), (1, _), (2, _), (3, _), (4, _), (5, _), (7, _), (10, _), (8, _), (9, _), (11, _), (12, _), (13, _), (91, _)] [] a := Z
    replace Y : St No w0 [_, _, _, _, _, _, _, _, _] w28 := Y
    refine ab <| aP (k := 8) 11 [10] kr kr kr ?_
    refine wlv Z (ri rfl rfl) fun a Z => wlv Z (ac (v := po b4 1) rfl kr) fun a Z => am 1 Z Y rfl rfl rfl (sizeOf3 _) rfl (lb rfl) (ds := [iv (1 + (pick z.a 6)), iv (max la ((nw.next - 1) + (pick z.b 3))), iv 0]) rfl rfl ?_
    clear Z Y
    intro a w29 Z Y
    refine ab <| bt kr ?_
    exact ⟨max la ((nw.next - 1) + (pick z.b 3)), (by rw [if_pos om]), Z.pick [1, 2, 3, 4, 5, 7, 10, 8, 11, 12], Y.select [0, 1, 2, 3, 4, 5, 6, 7, 8] de⟩
   rw [hc6] at Z
   try simp only [qz] at hc6
   rw [hbb] at hc6
   simp only [decide_eq_true_eq, decide_eq_false_iff_not] at hc6
   refine az ?_
   exact ⟨la + (pick z.b 4), (by rw [if_neg om]), Z.pick [1, 2, 3, 4, 5, 7, 10, 8, 11, 12], Y.select [0, 1, 2, 3, 4, 5, 6, 7, 8] de⟩
  rintro a w30 ⟨ta, hta, Z, Y⟩
  refine hK15 _ _ <| ah fun K18 hK18 => ah fun K19 hK19 => ?_
  refine cO (fun a w => ∃ (bk : Bool), (bk = decide (1 + pick z.a 6 = 2 ∨ 1 + pick z.a 6 = 6)) ∧ Fr 124 [(1, pt w0.hz), (2, pt w1.hz), (3, pt w2.hz), (4, .slice none 0 0), (5, pt w4.hz), (7, pt b1), (10, iv (k : Int)), (8, v), (11, pt w16.hz), (12, pt b4), (109, .bool bk)] [] a ∧ St No w0 [blk w22.hz [iv nw.state, iv nw.since, iv nw.next] 75, blk b4 [iv (1 + (pick z.a 6)), iv ta, iv 0] 64, blk w16.hz [iv z.a, iv z.b, iv z.c] 27, own v 64 3 ((mkN rl cl xs k).map Evt.cells), blk w0.hz [iv x0, iv x1, iv x2, iv x3, iv y0, iv y1, iv y2, iv y3, iv y4, iv y5, xv] 26, blk w1.hz [iv 0, iv 0, iv 0, iv 0] 29, blk w2.hz [iv 0, iv 0, iv 0, iv 0, iv 0, .bool false] 31, blk w4.hz [iv rl.answer, iv rl.cooling, iv rl.settle, iv rl.reverse] 29, blk b1 [iv cl.number, iv cl.frm, iv cl.to, iv cl.holder, iv cl.asked, .bool cl.backed] 31] w) ?_ ?_
  ·refine ar <| wlv Z (ac (v := pt b4) rfl kr) fun a Z => wlv Z (ld Y 1 rfl rfl (isAgg3 _) rfl) fun a Z => wlv Z (v_eq rfl rfl) fun a Z => wlm Z rfl fun a Z => ?_
   rcases Bool.eq_false_or_eq_true (decide (1 + (pick z.a 6) = 2)) with hb7 | hb7
   ·rw [hb7] at Z
    try simp only [qz] at hb7
    refine wln Z fun a Z => wln Z fun a Z => wln Z fun a Z => wlv Z (au rfl rfl) fun a Z => ab ?_
    exact ⟨(true), (by rw [eq_comm, decide_eq_true_eq]; omega), Z.pick [1, 2, 3, 4, 5, 7, 10, 8, 11, 12, 109], Y.select [0, 1, 2, 3, 4, 5, 6, 7, 8] de⟩
   rw [hb7] at Z
   try simp only [qz] at hb7
   refine wly Z (ac (v := pt b4) rfl kr) fun a Z => wly Z (ld Y 1 rfl rfl (isAgg3 _) rfl) fun a Z => wly Z (v_eq rfl rfl) fun a Z => wlv Z (aq rfl rfl) fun a Z => ab ?_
   exact ⟨(decide (1 + (pick z.a 6) = 6)), (by rw [Bool.eq_iff_iff, decide_eq_true_eq, decide_eq_true_eq]; omega), Z.pick [1, 2, 3, 4, 5, 7, 10, 8, 11, 12, 109], Y.select [0, 1, 2, 3, 4, 5, 6, 7, 8] de⟩
  rintro a w31 ⟨bk, hbk, Z, Y⟩
  refine hK19 _ _ ?_
  refine cO (fun a w => ∃ (tr : Int), (tr = if 1 + pick z.a 6 = 2 ∨ 1 + pick z.a 6 = 6 then 1 + (pick z.c 4) else 0) ∧ Fr 124 [(1, pt w0.hz), (2, pt w1.hz), (3, pt w2.hz), (4, .slice none 0 0), (5, pt w4.hz), (7, pt b1), (10, iv (k : Int)), (8, v), (12, pt b4)] [] a ∧ St No w0 [blk w22.hz [iv nw.state, iv nw.since, iv nw.next] 75, blk b4 [iv (1 + (pick z.a 6)), iv ta, iv tr] 64, blk w16.hz [iv z.a, iv z.b, iv z.c] 27, own v 64 3 ((mkN rl cl xs k).map Evt.cells), blk w0.hz [iv x0, iv x1, iv x2, iv x3, iv y0, iv y1, iv y2, iv y3, iv y4, iv y5, xv] 26, blk w1.hz [iv 0, iv 0, iv 0, iv 0] 29, blk w2.hz [iv 0, iv 0, iv 0, iv 0, iv 0, .bool false] 31, blk w4.hz [iv rl.answer, iv rl.cooling, iv rl.settle, iv rl.reverse] 29, blk b1 [iv cl.number, iv cl.frm, iv cl.to, iv cl.holder, iv cl.asked, .bool cl.backed] 31] w) ?_ ?_
  ·refine ax Z rfl (fun hc8 => ?_) (fun hc8 => ?_)
   ·rw [hc8] at Z
    try simp only [qz] at hc8
    rw [hbk] at hc8
    simp only [decide_eq_true_eq, decide_eq_false_iff_not] at hc8
    refine ar <| wlv Z (aC (v := po w16.hz 2) rfl rfl kr) fun a Z => wlv Z (ld Y 2 rfl rfl (isAgg3 _) rfl) fun a Z => aA Z Y de call26 rfl (bA _ _ _ om om om om) ?_
    clear Z Y
    intro a w32 Z Y
    refine wlv Z (aS rfl rfl ⟨om, om⟩) fun a Z => wlv Z (ac (v := po b4 2) rfl kr) fun a Z => am 1 Z Y rfl rfl rfl (sizeOf3 _) rfl (lb rfl) (ds := [iv (1 + (pick z.a 6)), iv ta, iv (1 + (pick z.c 4))]) rfl rfl ?_
    clear Z Y
    intro a w33 Z Y
    refine ab ?_
    exact ⟨1 + (pick z.c 4), (by rw [if_pos om]), Z.pick [1, 2, 3, 4, 5, 7, 10, 8, 12], Y.select [0, 1, 2, 3, 4, 5, 6, 7, 8] de⟩
   rw [hc8] at Z
   try simp only [qz] at hc8
   rw [hbk] at hc8
   simp only [decide_eq_true_eq, decide_eq_false_iff_not] at hc8
   refine az ?_
   exact ⟨0, (by rw [if_neg om]), Z.pick [1, 2, 3, 4, 5, 7, 10, 8, 12], Y.select [0, 1, 2, 3, 4, 5, 6, 7, 8] de⟩
  rintro a w34 ⟨tr, htr, Z, Y⟩
  refine hK18 _ _ <| aa fun K20 hK20 => wlm Z rfl fun a Z => wlv Z (ai (Y.g 1 rfl) rfl (isAgg64 _) (sizeOf64 _)) fun a Z => aI (E := 64) (sz := 3) rfl [[iv (1 + (pick z.a 6)), iv ta, iv tr]] kr sm rfl de de Z Y ?_
  clear Z Y
  intro a w35 Z Y
  refine bG (i := 4) (sT := 32) (inf := Tryz.t64) (z := .agg #[iv 0, iv 0, iv 0]) (b := 0) (off := 0) (m := 0) (c := 0) rfl rfl rfl (Y.ow 0 rfl) sm underlying32 rfl rfl rfl rfl de (by simp [Value.oneCell']) (by have hby : Tryz.t64.bytes = 24 := rfl; simp [big, hby, dq]; omega) (by have hby : Tryz.t64.bytes = 24 := rfl; simp [big, hby, dq]; omega) de Z Y fun a w36 s9 Z Y _ => wla Z rfl fun a Z => ab (hK20 _ _ <| ar ?_)
  refine wlv Z (ac (v := po b4 1) rfl kr) fun a Z => wlv Z (ld Y 2 rfl rfl (isAgg3 _) rfl) fun a Z => wla Z rfl fun a Z => ab <| hK12 _ _ ?_
  replace Z := Z.p9 1 2 3 4 5 7 10 8 9 rfl
  replace Y := Y.k6 1008 rfl
  refine ar <| wlm Z rfl fun a Z => wlv Z (aS rfl rfl ⟨om, om⟩) fun a Z => wla Z rfl fun a Z => ab ?_
  have hev : mkEvt rl cl (mkN rl cl xs k) la z = ⟨1 + pick z.a 6, ta, tr⟩ := by unfold mkEvt; rw [hnw, hta, htr]
  have hN : mkN rl cl xs (k + 1) = mkN rl cl xs k ++ [⟨1 + pick z.a 6, ta, tr⟩] := by rw [mkN, hla, hz, hev]
  have hl9 : ta = lastAt cl.asked (mkN rl cl xs (k + 1)) (k + 1) := by rw [hN]; simp [lastAt, List.getD_eq_getElem?_getD, dq]
  rw [hl9] at Z
  rw [show ((mkN rl cl xs k).map Evt.cells) ++ ([[iv (1 + (pick z.a 6)), iv ta, iv tr]]) = ((mkN rl cl xs (k + 1)).map Evt.cells) from by rw [hN]; simp [Evt.cells]] at Y
  refine ⟨_, ?_, k + 1, s9, rfl, om, om, Z.pick [1, 2, 3, 4, 5, 7, 10, 8, 9], Y.select [0, 1, 2, 3, 4, 5] de⟩
  omega
 rw [hc3] at Z
 try simp only [qz] at hc3
 rw [hbx] at hc3
 simp only [decide_eq_false_iff_not] at hc3
 refine aX <| hK8 _ _ <| ah fun K21 hK21 => aK kr (aU kr fun w37 hxz => ?_)
 replace Y := Y.grow hxz
 refine aV (k := 0) 5 [2, 4] Z kr kr kr rfx ?_
 replace Z := Z.p10 1 2 3 4 5 7 10 8 9 56 rfl
 replace Y : St No w0 [blk w1.hz [iv 0, iv 0, iv 0, iv 0] 29, blk w2.hz [iv 0, iv 0, iv 0, iv 0, iv 0, .bool false] 31, own v 64 3 ((mkN rl cl xs k).map Evt.cells), blk w0.hz [iv x0, iv x1, iv x2, iv x3, iv y0, iv y1, iv y2, iv y3, iv y4, iv y5, xv] 26, blk w4.hz [iv rl.answer, iv rl.cooling, iv rl.settle, iv rl.reverse] 29, blk b1 [iv cl.number, iv cl.frm, iv cl.to, iv cl.holder, iv cl.asked, .bool cl.backed] 31] w37 := Y.select [2, 3, 0, 1, 4, 5] de
 refine dA [3, 4] (fun q => if q = 3 then blk w1.hz [iv 0, iv 0, iv 0, iv 0] 29 else if q = 4 then blk w2.hz [iv 0, iv 0, iv 0, iv 0, iv 0, .bool false] 31 else join []) (fun q => if q = 3 then blk w1.hz [iv rl.answer, iv rl.cooling, iv rl.settle, iv rl.reverse] 29 else if q = 4 then blk w2.hz [iv cl.number, iv cl.frm, iv cl.to, iv cl.holder, iv cl.asked, .bool cl.backed] 31 else join []) 5 [[], [], [], [0], [1]] (fun i => match i with | 0 => pv (.agg #[iv rl.answer, iv rl.cooling, iv rl.settle, iv rl.reverse]) | 1 => pv (.agg #[iv cl.number, iv cl.frm, iv cl.to, iv cl.holder, iv cl.asked, .bool cl.backed]) | 2 => pv (v) | 3 => fun v E => v = undef ∧ E = [] | 4 => fun v E => v = undef ∧ E = [] | _ => fun _ _ => False) (by intro q; by_cases h3 : q = 3; (subst h3; rfl); by_cases h4 : q = 4; (subst h4; rfl); simp only [h3, h4, if_false]) Z (H := [own v 64 3 ((mkN rl cl xs k).map Evt.cells), blk w0.hz [iv x0, iv x1, iv x2, iv x3, iv y0, iv y1, iv y2, iv y3, iv y4, iv y5, xv] 26, blk w4.hz [iv rl.answer, iv rl.cooling, iv rl.settle, iv rl.reverse] 29, blk b1 [iv cl.number, iv cl.frm, iv cl.to, iv cl.holder, iv cl.asked, .bool cl.backed] 31]) Y kr kr kr kr de de ?_ ?_ ?_ ?_ ?_ ?_
 ·intro i v E h
  match i, h with
  | 0, _ => exact by decide
  | 1, _ => exact by decide
  | 2, _ => exact by decide
  | 3, _ => exact by decide
  | 4, _ => exact by decide
  | i + 5, h => exact h.elim
 ·intro q v E hq h
  simp only [List.mem_cons, List.not_mem_nil, or_false] at hq
  rcases hq with rfl | rfl <;> exact h
 ·intro q hq
  simp only [List.mem_cons, List.not_mem_nil, or_false] at hq
  rcases hq with rfl | rfl <;> exact ⟨rfl, rfl⟩
 ·intro i hi hiq e
  match i, hi, hiq with
  | 0, _, _ => exact fun w Y => OpV.g (ai (Y.g 3 rfl) rfl (isAgg29 _) (sizeOf29 _))
  | 1, _, _ => exact fun w Y => OpV.g (ai (Y.g 4 rfl) rfl (isAgg31 _) (sizeOf31 _))
  | 2, _, _ => exact fun w Y => OpV.g (ak rfl)
  | 3, _, h => exact absurd de h
  | 4, _, h => exact absurd de h
 ·intro q hq
  simp only [List.mem_cons, List.not_mem_nil, or_false] at hq
  rcases hq with rfl | rfl
  ·rintro _ _ ⟨rfl, rfl⟩
   intro w h
   exact cA (cs := [iv 0, iv 0, iv 0, iv 0]) (ds := [iv rl.answer, iv rl.cooling, iv rl.settle, iv rl.reverse]) rfl rfl h (sizeOf29 _) rfl (lb rfl) rfl
  ·rintro _ _ ⟨rfl, rfl⟩
   intro w h
   exact cA (cs := [iv 0, iv 0, iv 0, iv 0, iv 0, .bool false]) (ds := [iv cl.number, iv cl.frm, iv cl.to, iv cl.holder, iv cl.asked, .bool cl.backed]) rfl rfl h (sizeOf31 _) rfl (lb rfl) rfl
 clear Z Y
 rintro _ _ ⟨rfl, rfl⟩ _ _ ⟨rfl, rfl⟩ _ _ ⟨rfl, rfl⟩ a w38 Z Y
 replace Z := Z.p13 121 122 123 1 2 3 4 5 7 10 8 9 56 rfl
 replace Y : St No w0 [_, _, _, _, _, _] w38 := Y
 refine ab <| aP (k := 5) 6 [5] kr kr kr ?_
 refine wla Z rfl fun a Z => ab <| bt kr ?_
 refine hK21 _ _ ?_
 replace Z := Z.p3 2 3 4 rfl
 replace Y := Y.k3 7 rfl
 refine ap ?_
 refine aj Z results5 (aB rfl (bB (Y.g 0 rfl) (isAgg29 _) (sizeOf29 _)) (aB rfl (bB (Y.g 1 rfl) (isAgg31 _) (sizeOf31 _)) (ae rfl ag))) ?_
 have hkm : k = min xs.length 10 := by omega
 exact ⟨v, rfl, trivial, Y.ext, St.out (E := [own v 64 3 ((mkL rl cl xs).map Evt.cells)]) (H := []) (by rw [mkL, ← hkm]; exact Y.select [2] de)⟩
def exR : Rul := ⟨100, 50, 200, 300⟩
def exC : Clm := ⟨55, 1, 2, 9, 1000, false⟩
theorem ch {f : FuncId} {args : Array Value} {w : World} {x y : Value} (h : Ret Tryz.prog f args w fun v w' => v = x ∧ Ext No w w') (e : x = y) : Ret Tryz.prog f args w fun v w' => v = y ∧ Ext No w w' := e ▸ h
theorem iY {X : Type} {f : FuncId} {args : Array Value} {w : World} {g : X → Value} {E E' : X → List Ent} {Pr : X → Prop} (h : Ret Tryz.prog f args w (MemR w g E Pr)) (e : E = E') : Ret Tryz.prog f args w (MemR w g E' Pr) := e ▸ h
theorem cC (w0 : World) :
  Ret Tryz.prog 16 #[] w0 fun v w => v = .agg #[iv 100, iv 50, iv 200, iv 300] ∧ Ext No w0 w := by
 refine aD func16 rfl ntmps16 (lb rfl) fun a Z => ?_
 replace Z : Fr 2 [] [] a := Z
 replace Y : St No w0 [] w0 := St.init w0
 refine aa fun K1 hK1 => aH Z Y de (zeroValue29 _) (cs := [iv 0, iv 0, iv 0, iv 0]) rfl ?_
 clear Z Y
 intro a w1 Z Y
 refine ab (hK1 _ _ <| aa fun K2 hK2 => ?_)
 refine wlv Z (aY (v := .agg #[iv 100, iv 50, iv 200, iv 300]) rfl kr) fun a Z => am 0 Z Y rfl rfl rfl (sizeOf29 _) rfl (lb rfl) (ds := [iv 100, iv 50, iv 200, iv 300]) rfl rfl ?_
 clear Z Y
 intro a w2 Z Y
 refine ab (hK2 _ _ <| ap ?_)
 refine aj Z results16 (aB rfl (bB (Y.g 0 rfl) (isAgg29 _) (sizeOf29 _)) ag) ?_
 exact ⟨by rfl, Y.ext⟩
theorem iB (w0 : World) :
  Ret Tryz.prog 14 #[] w0 fun v w => v = .agg #[iv 55, iv 1, iv 2, iv 9, iv 1000, .bool false] ∧ Ext No w0 w := by
 refine aD func14 rfl ntmps14 (lb rfl) fun a Z => ?_
 replace Z : Fr 2 [] [] a := Z
 replace Y : St No w0 [] w0 := St.init w0
 refine aa fun K1 hK1 => aH Z Y de (zeroValue31 _) (cs := [iv 0, iv 0, iv 0, iv 0, iv 0, .bool false]) rfl ?_
 clear Z Y
 intro a w1 Z Y
 refine ab (hK1 _ _ <| aa fun K2 hK2 => ?_)
 refine wlv Z (aY (v := .agg #[iv 55, iv 1, iv 2, iv 9, iv 1000, .bool false]) rfl kr) fun a Z => am 0 Z Y rfl rfl rfl (sizeOf31 _) rfl (lb rfl) (ds := [iv 55, iv 1, iv 2, iv 9, iv 1000, .bool false]) rfl rfl ?_
 clear Z Y
 intro a w2 Z Y
 refine ab (hK2 _ _ <| ap ?_)
 refine aj Z results14 (aB rfl (bB (Y.g 0 rfl) (isAgg31 _) (sizeOf31 _)) ag) ?_
 exact ⟨by rfl, Y.ext⟩
theorem et (sv : Value) (l : List Evt) (t st si nx : Int) (w0 : World) (hsv : SlAt w0 sv 3 (l.map Evt.cells)) (hv : valid exR exC l = true) (hin : isIn t 0 20000000 = true) :
  Ret Tryz.prog 21 #[sv, iv t, iv st, iv si, iv nx] w0 fun v w => v = .bool (decide ((ce exR exC l t).state = st) && decide ((ce exR exC l t).since = si) && decide ((ce exR exC l t).next = nx)) ∧ Ext No w0 w := by
 refine aD func21 rfl ntmps21 (lb rfl) fun a Z => ?_
 replace Z := Z.p5 0 1 2 3 4 rfl
 replace Y : St No w0 [] w0 := St.init w0
 refine aa fun K1 hK1 => wla Z rfl fun a Z => ab (hK1 _ _ <| aa fun K2 hK2 => ?_)
 refine aA Z Y de call16 rfl (cC _) ?_
 clear Z Y
 intro a w1 Z Y
 refine aA Z Y de call14 rfl (iB _) ?_
 clear Z Y
 intro a w2 Z Y
 refine wlm Z rfl fun a Z => wlm Z rfl fun a Z => aA Z Y de call20 rfl (fL exR exC sv l t _ (Y.arg hsv) hv hin) ?_
 clear Z Y
 intro a w3 Z Y
 refine wlm Z rfl fun a Z => wlv Z (aw rfl rfl) fun a Z => wlv Z (aw rfl rfl) fun a Z => aH Z Y de (zeroValue75 _) (cs := [iv 0, iv 0, iv 0]) rfl ?_
 clear Z Y
 intro a w4 Z Y
 refine am 0 Z Y rfl rfl rfl (sizeOf75 _) rfl (lb rfl) (ds := [iv ((ce exR exC l t).state), iv ((ce exR exC l t).since), iv ((ce exR exC l t).next)]) rfl rfl ?_
 clear Z Y
 intro a w5 Z Y
 refine wla Z rfl fun a Z => ab (hK2 _ _ ?_)
 replace Z := Z.p6 2 3 4 10 11 12 rfl
 refine aa fun K3 hK3 => wlm Z rfl fun a Z => wlv Z ((v_eq rfl rfl).asb (b' := true) rfl) fun a Z => wlm Z rfl fun a Z => wly Z (ai (Y.g 0 rfl) rfl (isAgg75 _) (sizeOf75 _)) fun a Z => wly Z (ak rfl) fun a Z => wly Z (ak rfl) fun a Z => wly Z (ak rfl) fun a Z => wly Z (aY (v := .agg #[iv st, iv si, iv nx]) rfl kr) fun a Z => wly Z (kR rfl rfl kr (eqStt ((ce exR exC l t).state) ((ce exR exC l t).since) ((ce exR exC l t).next) st si nx _)) fun a Z => wlv Z (au rfl rfl) fun a Z => wla Z rfl fun a Z => ab (hK3 _ _ ?_)
 replace Z := Z.p1 10 rfl
 replace Y : St No w0 [] w5 := Y.mask [false]
 refine ap ?_
 refine aj Z results21 (ae rfl ag) ?_
 exact ⟨by rfl, Y.ext⟩
theorem qd (w0 : World) :
  Ret Tryz.prog 4 #[] w0 fun v w => v = .bool true ∧ Ext No w0 w := by
 refine aD func4 rfl ntmps4 (lb rfl) fun a Z => ?_
 replace Z : Fr 205 [] [] a := Z
 replace Y : St No w0 [] w0 := St.init w0
 refine aa fun K1 hK1 => wla Z rfl fun a Z => ab (hK1 _ _ <| aa fun K2 hK2 => ?_)
 refine aA Z Y de call14 rfl (iB _) ?_
 clear Z Y
 intro a w1 Z Y
 refine aH Z Y de (zeroValue31 _) (cs := [iv 0, iv 0, iv 0, iv 0, iv 0, .bool false]) rfl ?_
 clear Z Y
 intro a w2 Z Y
 refine am 0 Z Y rfl rfl rfl (sizeOf31 _) rfl (lb rfl) (ds := [iv 55, iv 1, iv 2, iv 9, iv 1000, .bool false]) rfl rfl ?_
 clear Z Y
 intro a w3 Z Y
 refine ab (hK2 _ _ <| aa fun K3 hK3 => ?_)
 refine wlv Z (aY (v := .agg #[iv 2, iv 1099, iv 3]) rfl kr) fun a Z => aI (E := 64) (sz := 3) rfl [[iv 2, iv 1099, iv 3]] kr sm rfl de de Z Y ?_
 clear Z Y
 intro a w4 Z Y
 refine wla Z rfl fun a Z => ab (hK3 _ _ <| aa fun K4 hK4 => ?_)
 refine wlv Z (aY (v := .agg #[iv 2, iv 1050, iv 1]) rfl kr) fun a Z => aI (E := 64) (sz := 3) rfl [[iv 2, iv 1050, iv 1]] kr sm rfl de de Z Y ?_
 clear Z Y
 intro a w5 Z Y
 refine wla Z rfl fun a Z => ab (hK4 _ _ <| aa fun K5 hK5 => ?_)
 refine wlv Z (aY (v := .agg #[iv 2, iv 1100, iv 1]) rfl kr) fun a Z => aI (E := 64) (sz := 3) rfl [[iv 2, iv 1100, iv 1]] kr sm rfl de de Z Y ?_
 clear Z Y
 intro a w6 Z Y
 refine wla Z rfl fun a Z => ab (hK5 _ _ ?_)
 replace Z := Z.p5 0 1 2 3 4 rfl
 refine aa fun K6 hK6 => wlv Z (aY (v := .agg #[iv 2, iv 1050, iv 3]) rfl kr) fun a Z => wlv Z (aY (v := .agg #[iv 3, iv 1050, iv 0]) rfl kr) fun a Z => wlv Z (aY (v := .agg #[iv 5, iv 1099, iv 0]) rfl kr) fun a Z => aI (E := 64) (sz := 3) rfl [[iv 2, iv 1050, iv 3], [iv 3, iv 1050, iv 0], [iv 5, iv 1099, iv 0]] kr sm rfl de de Z Y ?_
 clear Z Y
 intro a w7 Z Y
 refine wla Z rfl fun a Z => ab (hK6 _ _ <| ah fun K7 hK7 => ?_)
 refine aK kr (aU kr fun w8 hxz => ?_)
 replace Y := Y.grow hxz
 refine aV (k := 0) 2 [0, 1] Z kr kr kr rfx ?_
 replace Z := Z.p10 0 1 2 3 4 32 33 34 35 5 rfl
 refine aM 2 [[], []] (fun i => match i with | 0 => pv (.agg #[iv 100, iv 50, iv 200, iv 300]) | 1 => pv (.agg #[iv 55, iv 1, iv 2, iv 9, iv 1000, .bool false]) | _ => fun _ _ => False) Z Y kr kr ?_ ?_
 ·intro i hi
  match i, hi with
  | 0, _ => exact fun w Y => aT call16 rfl (cC _)
  | 1, _ => exact fun w Y => OpV.g (ai (Y.g 4 rfl) rfl (isAgg31 _) (sizeOf31 _))
 clear Z Y
 rintro _ _ ⟨rfl, rfl⟩ _ _ ⟨rfl, rfl⟩ a w9 Z Y
 replace Z := Z.p12 37 38 0 1 2 3 4 32 33 34 35 5 rfl
 replace Y : St No w0 [_, _, _, _, _] w9 := Y
 refine ab <| aP (k := 2) 4 [3] kr kr kr ?_
 refine aA Z Y de call15 rfl (ch (y := .tuple #[iv 1649, iv 0]) (m7 exR exC _) kr) ?_
 clear Z Y
 intro a w10 Z Y
 refine wlm Z rfl fun a Z => ab <| aV (k := 4) 7 [5, 6] Z kr kr kr rfx ?_
 replace Z := Z.p14 0 1 2 3 4 32 33 34 35 5 37 38 39 36 rfl
 refine aM 3 [[], [], [0]] (fun i => match i with | 0 => pv (iv 1649) | 1 => pv (iv 0) | 2 => pv (iv 1649) | _ => fun _ _ => False) Z Y kr kr ?_ ?_
 ·intro i hi
  match i, hi with
  | 0, _ => exact fun w Y => OpV.g (aw rfl rfl)
  | 1, _ => exact fun w Y => OpV.g (aw rfl rfl)
  | 2, _ =>
   rintro _ _ ⟨rfl, rfl⟩
   intro w Y
   exact OpV.g (cH rfl)
 clear Z Y
 rintro _ _ ⟨rfl, rfl⟩ _ _ ⟨rfl, rfl⟩ _ _ ⟨rfl, rfl⟩ a w11 Z Y
 replace Z := Z.p17 40 41 6 0 1 2 3 4 32 33 34 35 5 37 38 39 36 rfl
 replace Y : St No w0 [_, _, _, _, _] w11 := Y
 refine ab <| aP (k := 7) 8 [7] kr kr kr ?_
 refine wla Z rfl fun a Z => ab <| bt kr ?_
 refine hK7 _ _ ?_
 replace Z := Z.p8 0 1 2 3 4 5 6 7 rfl
 refine ah fun K8 hK8 => aK kr (aU kr fun w12 hxz => ?_)
 replace Y := Y.grow hxz
 refine aV (k := 0) 3 [0, 1, 2] Z kr kr kr rfx ?_
 replace Z := Z.p8 0 1 2 3 4 5 6 7 rfl
 refine aM 3 [[], [], []] (fun i => match i with | 0 => pv (.agg #[iv 100, iv 50, iv 200, iv 300]) | 1 => pv (.agg #[iv 55, iv 1, iv 2, iv 9, iv 1000, .bool false]) | 2 => pv ((.slice (some ⟨w5.hz, 0, none⟩) 1 1)) | _ => fun _ _ => False) Z Y kr kr ?_ ?_
 ·intro i hi
  match i, hi with
  | 0, _ => exact fun w Y => aT call16 rfl (cC _)
  | 1, _ => exact fun w Y => OpV.g (ai (Y.g 4 rfl) rfl (isAgg31 _) (sizeOf31 _))
  | 2, _ => exact fun w Y => OpV.g (ak rfl)
 clear Z Y
 rintro _ _ ⟨rfl, rfl⟩ _ _ ⟨rfl, rfl⟩ _ _ ⟨rfl, rfl⟩ a w13 Z Y
 replace Z := Z.p11 43 44 45 0 1 2 3 4 5 6 7 rfl
 replace Y : St No w0 [_, _, _, _, _] w13 := Y
 refine ab <| aP (k := 3) 5 [4] kr kr kr ?_
 refine bI Z Y de call17 rfl (iY (E' := fun v => [own v 3 1 [[iv 0]]]) (jZ exR exC (.slice (some ⟨w5.hz, 0, none⟩) 1 1) [⟨2, 1100, 1⟩] _ (Y.ow 1 rfl) kr) kr) ?_
 clear Z Y
 intro a w14 x2 hp Z Y
 revert x2 hp Z Y; rintro v1 hp Z Y
 clear hp
 replace Y : St No w0 [_, _, _, _, _, _] w14 := Y
 refine wlm Z rfl fun a Z => ab <| aV (k := 5) 8 [6, 7] Z kr kr kr rfx ?_
 replace Z := Z.p13 0 1 2 3 4 5 6 7 43 44 45 46 42 rfl
 refine aM 3 [[], [], [0]] (fun i => match i with | 0 => pv (v1) | 1 => pv (iv 0) | 2 => pv (v1) | _ => fun _ _ => False) Z Y kr kr ?_ ?_
 ·intro i hi
  match i, hi with
  | 0, _ => exact fun w Y => OpV.g (aw rfl rfl)
  | 1, _ => exact fun w Y => OpV.g (aw rfl rfl)
  | 2, _ =>
   rintro _ _ ⟨rfl, rfl⟩
   intro w Y
   exact OpV.g (cH rfl)
 clear Z Y
 rintro _ _ ⟨rfl, rfl⟩ _ _ ⟨rfl, rfl⟩ _ _ ⟨rfl, rfl⟩ a w15 Z Y
 replace Z := Z.p16 47 48 8 0 1 2 3 4 5 6 7 43 44 45 46 42 rfl
 replace Y : St No w0 [_, _, _, _, _, _] w15 := Y
 refine ab <| aP (k := 8) 9 [8] kr kr kr ?_
 refine wla Z rfl fun a Z => ab <| bt kr ?_
 refine hK8 _ _ ?_
 replace Z := Z.p10 0 1 2 3 4 5 6 7 8 9 rfl
 refine ah fun K9 hK9 => aK kr (aU kr fun w16 hxz => ?_)
 replace Y := Y.grow hxz
 refine aV (k := 0) 3 [0, 1, 2] Z kr kr kr rfx ?_
 replace Z := Z.p10 0 1 2 3 4 5 6 7 8 9 rfl
 refine aM 3 [[], [], []] (fun i => match i with | 0 => pv (.agg #[iv 100, iv 50, iv 200, iv 300]) | 1 => pv (.agg #[iv 55, iv 1, iv 2, iv 9, iv 1000, .bool false]) | 2 => pv ((.slice (some ⟨w6.hz, 0, none⟩) 3 3)) | _ => fun _ _ => False) Z Y kr kr ?_ ?_
 ·intro i hi
  match i, hi with
  | 0, _ => exact fun w Y => aT call16 rfl (cC _)
  | 1, _ => exact fun w Y => OpV.g (ai (Y.g 5 rfl) rfl (isAgg31 _) (sizeOf31 _))
  | 2, _ => exact fun w Y => OpV.g (ak rfl)
 clear Z Y
 rintro _ _ ⟨rfl, rfl⟩ _ _ ⟨rfl, rfl⟩ _ _ ⟨rfl, rfl⟩ a w17 Z Y
 replace Z := Z.p13 50 51 52 0 1 2 3 4 5 6 7 8 9 rfl
 replace Y : St No w0 [_, _, _, _, _, _] w17 := Y
 refine ab <| aP (k := 3) 5 [4] kr kr kr ?_
 refine bI Z Y de call17 rfl (iY (E' := fun v => [own v 3 1 []]) (jZ exR exC (.slice (some ⟨w6.hz, 0, none⟩) 3 3) [⟨2, 1050, 3⟩, ⟨3, 1050, 0⟩, ⟨5, 1099, 0⟩] _ (Y.ow 1 rfl) kr) kr) ?_
 clear Z Y
 intro a w18 x4 hp Z Y
 revert x4 hp Z Y; rintro v3 hp Z Y
 clear hp
 replace Y : St No w0 [_, _, _, _, _, _, _] w18 := Y
 refine wlm Z rfl fun a Z => ab <| aV (k := 5) 8 [6, 7] Z kr kr kr rfx ?_
 replace Z := Z.p15 0 1 2 3 4 5 6 7 8 9 50 51 52 53 49 rfl
 refine aM 3 [[], [], [0]] (fun i => match i with | 0 => pv (v3) | 1 => pv (iv 0) | 2 => pv (v3) | _ => fun _ _ => False) Z Y kr kr ?_ ?_
 ·intro i hi
  match i, hi with
  | 0, _ => exact fun w Y => OpV.g (aw rfl rfl)
  | 1, _ => exact fun w Y => OpV.g (aw rfl rfl)
  | 2, _ =>
   rintro _ _ ⟨rfl, rfl⟩
   intro w Y
   exact OpV.g (cH rfl)
 clear Z Y
 rintro _ _ ⟨rfl, rfl⟩ _ _ ⟨rfl, rfl⟩ _ _ ⟨rfl, rfl⟩ a w19 Z Y
 replace Z := Z.p18 54 55 10 0 1 2 3 4 5 6 7 8 9 50 51 52 53 49 rfl
 replace Y : St No w0 [_, _, _, _, _, _, _] w19 := Y
 refine ab <| aP (k := 8) 9 [8] kr kr kr ?_
 refine wla Z rfl fun a Z => ab <| bt kr ?_
 refine hK9 _ _ ?_
 replace Z := Z.p12 0 1 2 3 4 5 6 7 8 9 10 11 rfl
 refine ah fun K10 hK10 => aK kr (aU kr fun w20 hxz => ?_)
 replace Y := Y.grow hxz
 refine aV (k := 0) 3 [0, 1, 2] Z kr kr kr rfx ?_
 replace Z := Z.p12 0 1 2 3 4 5 6 7 8 9 10 11 rfl
 refine aM 3 [[], [], []] (fun i => match i with | 0 => pv (.agg #[iv 100, iv 50, iv 200, iv 300]) | 1 => pv (.agg #[iv 55, iv 1, iv 2, iv 9, iv 1000, .bool false]) | 2 => pv ((.slice (some ⟨w6.hz, 0, none⟩) 3 3)) | _ => fun _ _ => False) Z Y kr kr ?_ ?_
 ·intro i hi
  match i, hi with
  | 0, _ => exact fun w Y => aT call16 rfl (cC _)
  | 1, _ => exact fun w Y => OpV.g (ai (Y.g 6 rfl) rfl (isAgg31 _) (sizeOf31 _))
  | 2, _ => exact fun w Y => OpV.g (ak rfl)
 clear Z Y
 rintro _ _ ⟨rfl, rfl⟩ _ _ ⟨rfl, rfl⟩ _ _ ⟨rfl, rfl⟩ a w21 Z Y
 replace Z := Z.p15 57 58 59 0 1 2 3 4 5 6 7 8 9 10 11 rfl
 replace Y : St No w0 [_, _, _, _, _, _, _] w21 := Y
 refine ab <| aP (k := 3) 5 [4] kr kr kr ?_
 refine bI Z Y de call18 rfl (iY (E' := fun v => [own v 75 3 [[iv 1, iv 1000, iv 1100], [iv 2, iv 1050, iv 1250], [iv 3, iv 1050, iv 1100], [iv 7, iv 1099, iv (-1)]]]) (gJ exR exC (.slice (some ⟨w6.hz, 0, none⟩) 3 3) [⟨2, 1050, 3⟩, ⟨3, 1050, 0⟩, ⟨5, 1099, 0⟩] _ (Y.ow 2 rfl) kr) kr) ?_
 clear Z Y
 intro a w22 x6 hp Z Y
 revert x6 hp Z Y; rintro v5 hp Z Y
 clear hp
 replace Y : St No w0 [_, _, _, _, _, _, _, _] w22 := Y
 refine wlm Z rfl fun a Z => ab <| aV (k := 5) 8 [6, 7] Z kr kr kr rfx ?_
 replace Z := Z.p17 0 1 2 3 4 5 6 7 8 9 10 11 57 58 59 60 56 rfl
 refine aM 3 [[], [], [0]] (fun i => match i with | 0 => pv (v5) | 1 => pv (iv 0) | 2 => pv (v5) | _ => fun _ _ => False) Z Y kr kr ?_ ?_
 ·intro i hi
  match i, hi with
  | 0, _ => exact fun w Y => OpV.g (aw rfl rfl)
  | 1, _ => exact fun w Y => OpV.g (aw rfl rfl)
  | 2, _ =>
   rintro _ _ ⟨rfl, rfl⟩
   intro w Y
   exact OpV.g (cH rfl)
 clear Z Y
 rintro _ _ ⟨rfl, rfl⟩ _ _ ⟨rfl, rfl⟩ _ _ ⟨rfl, rfl⟩ a w23 Z Y
 replace Z : Fr 205 [(61, _), (62, _), (12, _), (0, _), (1, _), (2, _), (3, _), (4, _), (5, _), (6, _), (7, _), (8, _), (9, _), (10, _), (11, _), (57, _), (58, _), (59, _), (60, _), (56, _)] [] a := Z
 replace Y : St No w0 [_, _, _, _, _, _, _, _] w23 := Y
 refine ab <| aP (k := 8) 9 [8] kr kr kr ?_
 refine wla Z rfl fun a Z => ab <| bt kr ?_
 refine hK10 _ _ ?_
 replace Z := Z.p14 0 1 2 3 4 5 6 7 8 9 10 11 12 13 rfl
 refine ah fun K11 hK11 => aK kr (aU kr fun w24 hxz => ?_)
 replace Y := Y.grow hxz
 refine aV (k := 0) 2 [0, 1] Z kr kr kr rfx ?_
 replace Z := Z.p14 0 1 2 3 4 5 6 7 8 9 10 11 12 13 rfl
 refine aM 2 [[], []] (fun i => match i with | 0 => pv (.agg #[iv 100, iv 50, iv 200, iv 300]) | 1 => pv (.agg #[iv 55, iv 1, iv 2, iv 9, iv 1000, .bool false]) | _ => fun _ _ => False) Z Y kr kr ?_ ?_
 ·intro i hi
  match i, hi with
  | 0, _ => exact fun w Y => aT call16 rfl (cC _)
  | 1, _ => exact fun w Y => OpV.g (ai (Y.g 7 rfl) rfl (isAgg31 _) (sizeOf31 _))
 clear Z Y
 rintro _ _ ⟨rfl, rfl⟩ _ _ ⟨rfl, rfl⟩ a w25 Z Y
 replace Z := Z.p16 64 65 0 1 2 3 4 5 6 7 8 9 10 11 12 13 rfl
 replace Y : St No w0 [_, _, _, _, _, _, _, _] w25 := Y
 refine ab <| aP (k := 2) 4 [3] kr kr kr ?_
 refine aA Z Y de call19 rfl (ch (y := .tuple #[iv 1, iv 0]) (kE exR exC _ [] 1149 _ (cS _ _) kr kr) kr) ?_
 clear Z Y
 intro a w26 Z Y
 refine wlm Z rfl fun a Z => ab <| aV (k := 4) 7 [5, 6] Z kr kr kr rfx ?_
 replace Z := Z.p18 0 1 2 3 4 5 6 7 8 9 10 11 12 13 64 65 66 63 rfl
 refine aM 3 [[], [], [0]] (fun i => match i with | 0 => pv (iv 1) | 1 => pv (iv 0) | 2 => pv (iv 1) | _ => fun _ _ => False) Z Y kr kr ?_ ?_
 ·intro i hi
  match i, hi with
  | 0, _ => exact fun w Y => OpV.g (aw rfl rfl)
  | 1, _ => exact fun w Y => OpV.g (aw rfl rfl)
  | 2, _ =>
   rintro _ _ ⟨rfl, rfl⟩
   intro w Y
   exact OpV.g (cH rfl)
 clear Z Y
 rintro _ _ ⟨rfl, rfl⟩ _ _ ⟨rfl, rfl⟩ _ _ ⟨rfl, rfl⟩ a w27 Z Y
 replace Z : Fr 205 [(67, _), (68, _), (14, _), (0, _), (1, _), (2, _), (3, _), (4, _), (5, _), (6, _), (7, _), (8, _), (9, _), (10, _), (11, _), (12, _), (13, _), (64, _), (65, _), (66, _), (63, _)] [] a := Z
 replace Y : St No w0 [_, _, _, _, _, _, _, _] w27 := Y
 refine ab <| aP (k := 7) 8 [7] kr kr kr ?_
 refine wla Z rfl fun a Z => ab <| bt kr ?_
 refine hK11 _ _ ?_
 replace Z := Z.p16 0 1 2 3 4 5 6 7 8 9 10 11 12 13 14 15 rfl
 refine ah fun K12 hK12 => aK kr (aU kr fun w28 hxz => ?_)
 replace Y := Y.grow hxz
 refine aV (k := 0) 2 [0, 1] Z kr kr kr rfx ?_
 replace Z := Z.p16 0 1 2 3 4 5 6 7 8 9 10 11 12 13 14 15 rfl
 refine aM 2 [[], []] (fun i => match i with | 0 => pv (.agg #[iv 100, iv 50, iv 200, iv 300]) | 1 => pv (.agg #[iv 55, iv 1, iv 2, iv 9, iv 1000, .bool false]) | _ => fun _ _ => False) Z Y kr kr ?_ ?_
 ·intro i hi
  match i, hi with
  | 0, _ => exact fun w Y => aT call16 rfl (cC _)
  | 1, _ => exact fun w Y => OpV.g (ai (Y.g 7 rfl) rfl (isAgg31 _) (sizeOf31 _))
 clear Z Y
 rintro _ _ ⟨rfl, rfl⟩ _ _ ⟨rfl, rfl⟩ a w29 Z Y
 replace Z := Z.p18 70 71 0 1 2 3 4 5 6 7 8 9 10 11 12 13 14 15 rfl
 replace Y : St No w0 [_, _, _, _, _, _, _, _] w29 := Y
 refine ab <| aP (k := 2) 4 [3] kr kr kr ?_
 refine aA Z Y de call19 rfl (ch (y := .tuple #[iv 2, iv 0]) (kE exR exC _ [] 1150 _ (cS _ _) kr kr) kr) ?_
 clear Z Y
 intro a w30 Z Y
 refine wlm Z rfl fun a Z => ab <| aV (k := 4) 7 [5, 6] Z kr kr kr rfx ?_
 replace Z := Z.p20 0 1 2 3 4 5 6 7 8 9 10 11 12 13 14 15 70 71 72 69 rfl
 refine aM 3 [[], [], [0]] (fun i => match i with | 0 => pv (iv 2) | 1 => pv (iv 0) | 2 => pv (iv 2) | _ => fun _ _ => False) Z Y kr kr ?_ ?_
 ·intro i hi
  match i, hi with
  | 0, _ => exact fun w Y => OpV.g (aw rfl rfl)
  | 1, _ => exact fun w Y => OpV.g (aw rfl rfl)
  | 2, _ =>
   rintro _ _ ⟨rfl, rfl⟩
   intro w Y
   exact OpV.g (cH rfl)
 clear Z Y
 rintro _ _ ⟨rfl, rfl⟩ _ _ ⟨rfl, rfl⟩ _ _ ⟨rfl, rfl⟩ a w31 Z Y
 replace Z : Fr 205 [(73, _), (74, _), (16, _), (0, _), (1, _), (2, _), (3, _), (4, _), (5, _), (6, _), (7, _), (8, _), (9, _), (10, _), (11, _), (12, _), (13, _), (14, _), (15, _), (70, _), (71, _), (72, _), (69, _)] [] a := Z
 replace Y : St No w0 [_, _, _, _, _, _, _, _] w31 := Y
 refine ab <| aP (k := 7) 8 [7] kr kr kr ?_
 refine wla Z rfl fun a Z => ab <| bt kr ?_
 refine hK12 _ _ ?_
 replace Z := Z.p18 0 1 2 3 4 5 6 7 8 9 10 11 12 13 14 15 16 17 rfl
 refine ah fun K13 hK13 => aK kr (aU kr fun w32 hxz => ?_)
 replace Y := Y.grow hxz
 refine aV (k := 0) 8 [5, 7] Z kr kr kr rfx ?_
 replace Z := Z.p18 0 1 2 3 4 5 6 7 8 9 10 11 12 13 14 15 16 17 rfl
 refine cJ 6 7 75 [iv 0, iv 0, iv 0] [iv 0, iv 0, iv 0] 8 [[], [], [0, 1], [2], [3], [3], [], [4, 6]] (fun i => match i with | 0 => pv (.agg #[iv 100, iv 50, iv 200, iv 300]) | 1 => pv (.agg #[iv 55, iv 1, iv 2, iv 9, iv 1000, .bool false]) | 2 => pv (.tuple #[.agg #[iv 0, iv 0, iv 0], iv 160]) | 3 => pv (.tuple #[.agg #[iv 0, iv 0, iv 0], iv 160]) | 4 => pv (.agg #[iv 0, iv 0, iv 0]) | 5 => pv (iv 160) | 6 => fun v E => ∃ b, v = ptr b ∧ E = [] | 7 => fun v E => v = undef ∧ E = [] | _ => fun _ _ => False) Z (H := [own v5 75 3 ([[iv 1, iv 1000, iv 1100], [iv 2, iv 1050, iv 1250], [iv 3, iv 1050, iv 1100], [iv 7, iv 1099, iv (-1)]]), own v3 3 1 ([]), own v1 3 1 ([[iv 0]]), own (.slice (some ⟨w6.hz, 0, none⟩) 3 3) 64 3 ([[iv 2, iv 1050, iv 3], [iv 3, iv 1050, iv 0], [iv 5, iv 1099, iv 0]]), own (.slice (some ⟨w5.hz, 0, none⟩) 1 1) 64 3 ([[iv 2, iv 1100, iv 1]]), own (.slice (some ⟨w4.hz, 0, none⟩) 1 1) 64 3 ([[iv 2, iv 1050, iv 1]]), own (.slice (some ⟨w3.hz, 0, none⟩) 1 1) 64 3 ([[iv 2, iv 1099, iv 3]]), blk w1.hz [iv 55, iv 1, iv 2, iv 9, iv 1000, .bool false] 31]) Y kr kr kr kr de de de de de ?_ (fun v E h => h) ⟨rfl, rfl⟩ (fun v E => Iff.rfl) ?_ ?_ ?_ ?_
 ·intro i v E h
  match i, h with
  | 0, _ => exact by decide
  | 1, _ => exact by decide
  | 2, _ => exact by decide
  | 3, _ => exact by decide
  | 4, _ => exact by decide
  | 5, _ => exact by decide
  | 6, _ => exact by decide
  | 7, _ => exact by decide
  | i + 8, h => exact h.elim
 ·intro i hi hia hij e
  match i, hi, hia, hij with
  | 0, _, _, _ => exact fun w Y => aT call16 rfl (cC _)
  | 1, _, _, _ => exact fun w Y => OpV.g (ai (Y.g 8 rfl) rfl (isAgg31 _) (sizeOf31 _))
  | 2, _, _, _ =>
   rintro _ _ ⟨rfl, rfl⟩ _ _ ⟨rfl, rfl⟩
   intro w Y
   exact aT call20 rfl (iP exR exC _ [] (-1) _ (cS _ _) kr kr)
  | 3, _, _, _ =>
   rintro _ _ ⟨rfl, rfl⟩
   intro w Y
   exact OpV.g (ak rfl)
  | 4, _, _, _ =>
   rintro _ _ ⟨rfl, rfl⟩
   intro w Y
   exact OpV.g (aw rfl rfl)
  | 5, _, _, _ =>
   rintro _ _ ⟨rfl, rfl⟩
   intro w Y
   exact OpV.g (aw rfl rfl)
  | 6, _, h, _ => exact absurd rfl h
  | 7, _, _, h => exact absurd rfl h
 ·exact fun Lv w => dS (zeroValue75 _)
 ·rintro _ _ ⟨rfl, rfl⟩ _ _ ⟨b7, rfl, rfl⟩
  intro b hb w h
  have hb : some (ptr b7) = some (ptr b) := hb
  cases hb
  exact cA rfl rfl h (sizeOf75 _) rfl (lb rfl) rfl
 clear Z Y
 rintro bq _ _ ⟨⟨rfl, rfl⟩, -⟩ _ _ ⟨⟨rfl, rfl⟩, -⟩ _ _ ⟨⟨rfl, rfl⟩, -⟩ _ _ ⟨⟨rfl, rfl⟩, -⟩ _ _ ⟨⟨rfl, rfl⟩, -⟩ _ _ ⟨⟨rfl, rfl⟩, -⟩ _ _ ⟨⟨b7, rfl, rfl⟩, hva⟩ a w33 Z Y
 obtain rfl : b7 = bq := fq (hva rfl)
 replace Z : Fr 205 [(76, _), (77, _), (78, _), (75, _), (79, _), (80, _), (18, _), (0, _), (1, _), (2, _), (3, _), (4, _), (5, _), (6, _), (7, _), (8, _), (9, _), (10, _), (11, _), (12, _), (13, _), (14, _), (15, _), (16, _), (17, _)] [] a := Z
 replace Y : St No w0 [_, _, _, _, _, _, _, _, _] w33 := Y
 refine ab <| aP (k := 8) 9 [8] kr kr kr ?_
 refine wla Z rfl fun a Z => ab <| bt kr ?_
 refine hK13 _ _ ?_
 replace Z : Fr 205 [(0, _), (1, _), (2, _), (3, _), (4, _), (5, _), (6, _), (7, _), (8, _), (9, _), (10, _), (11, _), (12, _), (13, _), (14, _), (15, _), (16, _), (17, _), (19, _)] [] a := Z.pick [0, 1, 2, 3, 4, 5, 6, 7, 8, 9, 10, 11, 12, 13, 14, 15, 16, 17, 19]
 replace Y := Y.k8 510 rfl
 refine aa fun K14 hK14 => wlm Z rfl fun a Z => wlv Z ((v_eq rfl rfl).asb (b' := true) rfl) fun a Z => wlm Z rfl fun a Z => wly Z (ak rfl) fun a Z => wly Z ((v_eq rfl rfl).asb (b' := true) rfl) fun a Z => wlv Z (au rfl rfl) fun a Z => wlm Z rfl fun a Z => wly Z (ak rfl) fun a Z => wly Z ((v_eq rfl rfl).asb (b' := true) rfl) fun a Z => wlv Z (au rfl rfl) fun a Z => wlm Z rfl fun a Z => wly Z (ak rfl) fun a Z => wly Z ((v_eq rfl rfl).asb (b' := true) rfl) fun a Z => wlv Z (au rfl rfl) fun a Z => wlm Z rfl fun a Z => wly Z (ak rfl) fun a Z => wly Z ((v_eq rfl rfl).asb (b' := true) rfl) fun a Z => wlv Z (au rfl rfl) fun a Z => wlm Z rfl fun a Z => wly Z (ak rfl) fun a Z => wly Z ((v_eq rfl rfl).asb (b' := true) rfl) fun a Z => wlv Z (au rfl rfl) fun a Z => wlm Z rfl fun a Z => wly Z (ak rfl) fun a Z => wly Z ((v_eq rfl rfl).asb (b' := true) rfl) fun a Z => wlv Z (au rfl rfl) fun a Z => wla Z rfl fun a Z => ab (hK14 _ _ ?_)
 replace Z := Z.p13 0 1 2 3 4 5 6 8 10 12 14 16 20 rfl
 refine aa fun K15 hK15 => aA Z Y de call21 rfl (ch (y := .bool true) (et (.slice none 0 0) [] 999 0 0 1000 _ (cS _ _) kr kr) kr) ?_
 clear Z Y
 intro a w34 Z Y
 refine wlm Z rfl fun a Z => aF Z Y de rfl de rfl call21 rfl (ch (y := .bool true) (et (.slice none 0 0) [] 1099 1 1000 1100 _ (cS _ _) kr kr) kr) ?_
 clear Z Y
 intro a w35 Z Y
 refine wlv Z (au rfl rfl) fun a Z => wlm Z rfl fun a Z => aF Z Y de rfl de rfl call21 rfl (ch (y := .bool true) (et (.slice none 0 0) [] 1100 3 1100 1150 _ (cS _ _) kr kr) kr) ?_
 clear Z Y
 intro a w36 Z Y
 refine wlv Z (au rfl rfl) fun a Z => wlm Z rfl fun a Z => aF Z Y de rfl de rfl call21 rfl (ch (y := .bool true) (et (.slice none 0 0) [] 1150 4 1150 1450 _ (cS _ _) kr kr) kr) ?_
 clear Z Y
 intro a w37 Z Y
 refine wlv Z (au rfl rfl) fun a Z => wlm Z rfl fun a Z => aF Z Y de rfl de rfl call21 rfl (ch (y := .bool true) (et (.slice none 0 0) [] 1450 5 1450 (-1) _ (cS _ _) kr kr) kr) ?_
 clear Z Y
 intro a w38 Z Y
 refine wlv Z (au rfl rfl) fun a Z => wla Z rfl fun a Z => ab (hK15 _ _ ?_)
 replace Z := Z.p14 0 1 2 3 4 5 6 8 10 12 14 16 20 21 rfl
 refine aa fun K16 hK16 => wlv Z (aY (v := .agg #[iv 1, iv 1010, iv 0]) rfl kr) fun a Z => aI (E := 64) (sz := 3) rfl [[iv 1, iv 1010, iv 0]] kr sm rfl de de Z Y ?_
 clear Z Y
 intro a w39 Z Y
 refine aA Z Y de call21 rfl (ch (y := .bool true) (et (.slice (some ⟨w38.hz, 0, none⟩) 1 1) [⟨1, 1010, 0⟩] 1060 4 1060 1360 _ (Y.ow 0 rfl) kr kr) kr) ?_
 clear Z Y
 intro a w40 Z Y
 refine wlm Z rfl fun a Z => wly Z (ak rfl) fun a Z => aF Z Y de rfl de rfl call21 rfl (ch (y := .bool true) (et (.slice (some ⟨w3.hz, 0, none⟩) 1 1) [⟨2, 1099, 3⟩] 1648 4 1349 1649 _ (Y.ow 7 rfl) kr kr) kr) ?_
 clear Z Y
 intro a w41 Z Y
 refine wlv Z (au rfl rfl) fun a Z => wlm Z rfl fun a Z => wly Z (ak rfl) fun a Z => aF Z Y de rfl de rfl call21 rfl (ch (y := .bool true) (et (.slice (some ⟨w3.hz, 0, none⟩) 1 1) [⟨2, 1099, 3⟩] 1649 5 1649 (-1) _ (Y.ow 7 rfl) kr kr) kr) ?_
 clear Z Y
 intro a w42 Z Y
 refine wlv Z (au rfl rfl) fun a Z => wlm Z rfl fun a Z => wly Z (ak rfl) fun a Z => aF Z Y de rfl de rfl call21 rfl (ch (y := .bool true) (et (.slice (some ⟨w4.hz, 0, none⟩) 1 1) [⟨2, 1050, 1⟩] 1050 6 1050 (-1) _ (Y.ow 6 rfl) kr kr) kr) ?_
 clear Z Y
 intro a w43 Z Y
 refine wlv Z (au rfl rfl) fun a Z => wlm Z rfl fun a Z => wly Z (ak rfl) fun a Z => aF Z Y de rfl de rfl call21 rfl (ch (y := .bool true) (et (.slice (some ⟨w5.hz, 0, none⟩) 1 1) [⟨2, 1100, 1⟩] 1100 3 1100 1150 _ (Y.ow 5 rfl) kr kr) kr) ?_
 clear Z Y
 intro a w44 Z Y
 refine wlv Z (au rfl rfl) fun a Z => wlm Z rfl fun a Z => wly Z (ak rfl) fun a Z => aF Z Y de rfl de rfl call21 rfl (ch (y := .bool true) (et (.slice (some ⟨w6.hz, 0, none⟩) 3 3) [⟨2, 1050, 3⟩, ⟨3, 1050, 0⟩, ⟨5, 1099, 0⟩] 1200 7 1099 (-1) _ (Y.ow 4 rfl) kr kr) kr) ?_
 clear Z Y
 intro a w45 Z Y
 refine wlv Z (au rfl rfl) fun a Z => wla Z rfl fun a Z => ab (hK16 _ _ ?_)
 replace Z := Z.p12 0 1 5 6 8 10 12 14 16 20 21 22 rfl
 replace Y := Y.k5 286 rfl
 refine aa fun K17 hK17 => wlv Z (aY (v := .agg #[iv 6, iv 1449, iv 2]) rfl kr) fun a Z => aI (E := 64) (sz := 3) rfl [[iv 6, iv 1449, iv 2]] kr sm rfl de de Z Y ?_
 clear Z Y
 intro a w46 Z Y
 refine aA Z Y de call21 rfl (ch (y := .bool true) (et (.slice (some ⟨w45.hz, 0, none⟩) 1 1) [⟨6, 1449, 2⟩] 1449 8 1449 (-1) _ (Y.ow 0 rfl) kr kr) kr) ?_
 clear Z Y
 intro a w47 Z Y
 refine wlm Z rfl fun a Z => wly Z (aY (v := .agg #[iv 6, iv 1450, iv 2]) rfl kr) fun a Z => qy Z rfl rfl de rfl ?_
 refine aI (E := 64) (sz := 3) rfl [[iv 6, iv 1450, iv 2]] kr sm rfl de de Z Y ?_
 clear Z Y
 intro a w48 Z Y
 refine aF Z Y de rfl de rfl call21 rfl (ch (y := .bool true) (et (.slice (some ⟨w47.hz, 0, none⟩) 1 1) [⟨6, 1450, 2⟩] 1450 5 1450 (-1) _ (Y.ow 0 rfl) kr kr) kr) ?_
 clear Z Y
 intro a w49 Z Y
 refine wlv Z (au rfl rfl) fun a Z => wla Z rfl fun a Z => ab (hK17 _ _ ?_)
 replace Z := Z.p13 0 1 5 6 8 10 12 14 16 20 21 22 23 rfl
 replace Y := Y.k5 124 rfl
 refine aa fun K18 hK18 => wlm Z rfl fun a Z => wlv Z (aY (v := .agg #[iv 1, iv 1000, iv 1100]) rfl kr) fun a Z => wlv Z (aY (v := .agg #[iv 2, iv 1050, iv 1250]) rfl kr) fun a Z => wlv Z (aY (v := .agg #[iv 3, iv 1050, iv 1100]) rfl kr) fun a Z => wlv Z (aY (v := .agg #[iv 7, iv 1099, iv (-1)]) rfl kr) fun a Z => aI (E := 75) (sz := 3) rfl [[iv 1, iv 1000, iv 1100], [iv 2, iv 1050, iv 1250], [iv 3, iv 1050, iv 1100], [iv 7, iv 1099, iv (-1)]] kr sm rfl de de Z Y ?_
 clear Z Y
 intro a w50 Z Y
 refine aA Z Y de call22 rfl (ch (y := .bool true) (eI [⟨1, 1000, 1100⟩, ⟨2, 1050, 1250⟩, ⟨3, 1050, 1100⟩, ⟨7, 1099, -1⟩] [⟨1, 1000, 1100⟩, ⟨2, 1050, 1250⟩, ⟨3, 1050, 1100⟩, ⟨7, 1099, -1⟩] v5 (.slice (some ⟨w49.hz, 0, none⟩) 4 4) _ (Y.ow 1 rfl) (Y.ow 0 rfl)) kr) ?_
 clear Z Y
 intro a w51 Z Y
 refine wla Z rfl fun a Z => ab (hK18 _ _ ?_)
 replace Z := Z.p13 0 1 5 6 8 10 14 16 20 21 22 23 24 rfl
 replace Y := Y.k4 60 rfl
 refine ah fun K19 hK19 => aK kr (aU kr fun w52 hxz => ?_)
 replace Y := Y.grow hxz
 refine aP (k := 0) 18 [17] kr kr kr ?_
 refine wlm Z rfl fun a Z => wlm Z rfl fun a Z => wly Z (ak rfl) fun a Z => wlv Z (au rfl rfl) fun a Z => wlm Z rfl fun a Z => wly Z (ak rfl) fun a Z => wlv Z (au rfl rfl) fun a Z => wlm Z rfl fun a Z => wly Z (ak rfl) fun a Z => wlv Z (au rfl rfl) fun a Z => wlm Z rfl fun a Z => wly Z (ak rfl) fun a Z => wlv Z (au rfl rfl) fun a Z => wlm Z rfl fun a Z => wly Z (ak rfl) fun a Z => wly Z ((v_eq rfl rfl).asb (b' := true) rfl) fun a Z => wlv Z (au rfl rfl) fun a Z => wlm Z rfl fun a Z => ab <| aV (k := 18) 20 [18, 19] Z kr kr kr rfx ?_
 replace Z : Fr 205 [(0, _), (1, _), (5, _), (6, _), (8, _), (10, _), (14, _), (16, _), (20, _), (21, _), (22, _), (23, _), (24, _), (158, _), (159, _), (160, _), (161, _), (162, _), (163, _), (164, _), (165, _), (166, _), (167, _), (168, _), (169, _), (170, _), (171, _), (172, _), (173, _), (174, _), (175, _)] [] a := Z.pick [0, 1, 5, 6, 8, 10, 14, 16, 20, 21, 22, 23, 24, 158, 159, 160, 161, 162, 163, 164, 165, 166, 167, 168, 169, 170, 171, 172, 173, 174, 175]
 refine aM 2 [[], []] (fun i => match i with | 0 => pv (v1) | 1 => pm (fun b : Nat => .slice (some ⟨b, 0, none⟩) 1 1) (fun b => [own (.slice (some ⟨b, 0, none⟩) 1 1) 3 1 [[iv 0]]]) (fun _ => True) | _ => fun _ _ => False) Z Y kr kr ?_ ?_
 ·intro i hi
  match i, hi with
  | 0, _ => exact fun w Y => OpV.g (ak rfl)
  | 1, _ => exact fun w Y => bW (E := 3) (sz := 1) rfl [[iv 0]] (fun _ => by kernel_rfl) sm rfl de
 clear Z Y
 rintro _ _ ⟨rfl, rfl⟩ _ _ ⟨b8, rfl, -, rfl⟩ a w53 Z Y
 replace Z : Fr 205 [(176, _), (177, _), (0, _), (1, _), (5, _), (6, _), (8, _), (10, _), (14, _), (16, _), (20, _), (21, _), (22, _), (23, _), (24, _), (158, _), (159, _), (160, _), (161, _), (162, _), (163, _), (164, _), (165, _), (166, _), (167, _), (168, _), (169, _), (170, _), (171, _), (172, _), (173, _), (174, _), (175, _)] [] a := Z
 replace Y : St No w0 [_, _, _, _, _] w53 := Y
 refine ab <| aP (k := 20) 36 [35] kr kr kr ?_
 refine aF Z Y de rfl de rfl call23 rfl (ch (y := .bool true) (mS [0] [0] v1 (.slice (some ⟨b8, 0, none⟩) 1 1) _ (Y.ow 2 rfl) (Y.ow 0 rfl)) kr) ?_
 clear Z Y
 intro a w54 Z Y
 refine wlv Z (au rfl rfl) fun a Z => wlm Z rfl fun a Z => wly Z (ak rfl) fun a Z => wly Z ((aL (sT := 47) (Y.ow 1 rfl) rfl rfl (runUnderlying47 _)).asi (m' := 0) rfx) fun a Z => wly Z ((v_eq rfl rfl).asb (b' := true) rfl) fun a Z => wlv Z (au rfl rfl) fun a Z => wlm Z rfl fun a Z => wly Z (ak rfl) fun a Z => wly Z ((v_eq rfl rfl).asb (b' := true) rfl) fun a Z => wlv Z (au rfl rfl) fun a Z => wlm Z rfl fun a Z => wly Z (ak rfl) fun a Z => wly Z ((v_eq rfl rfl).asb (b' := true) rfl) fun a Z => wlv Z (au rfl rfl) fun a Z => wlm Z rfl fun a Z => ab <| aV (k := 36) 39 [36, 37, 38] Z kr kr kr rfx ?_
 replace Z : Fr 205 [(0, _), (1, _), (5, _), (6, _), (8, _), (10, _), (14, _), (16, _), (20, _), (21, _), (22, _), (23, _), (24, _), (158, _), (159, _), (160, _), (161, _), (162, _), (163, _), (164, _), (165, _), (166, _), (167, _), (168, _), (169, _), (170, _), (171, _), (172, _), (173, _), (174, _), (175, _), (176, _), (177, _), (178, _), (179, _), (180, _), (181, _), (182, _), (183, _), (184, _), (185, _), (186, _), (187, _), (188, _), (189, _), (190, _), (191, _), (192, _), (193, _)] [] a := Z.pick [0, 1, 5, 6, 8, 10, 14, 16, 20, 21, 22, 23, 24, 158, 159, 160, 161, 162, 163, 164, 165, 166, 167, 168, 169, 170, 171, 172, 173, 174, 175, 176, 177, 178, 179, 180, 181, 182, 183, 184, 185, 186, 187, 188, 189, 190, 191, 192, 193]
 refine aM 3 [[], [], []] (fun i => match i with | 0 => pv (.agg #[iv 100, iv 50, iv 200, iv 300]) | 1 => pv (.agg #[iv 55, iv 1, iv 2, iv 9, iv 1000, .bool false]) | 2 => pv ((.slice (some ⟨w6.hz, 0, none⟩) 3 3)) | _ => fun _ _ => False) Z Y kr kr ?_ ?_
 ·intro i hi
  match i, hi with
  | 0, _ => exact fun w Y => aT call16 rfl (cC _)
  | 1, _ => exact fun w Y => OpV.g (ai (Y.g 4 rfl) rfl (isAgg31 _) (sizeOf31 _))
  | 2, _ => exact fun w Y => OpV.g (ak rfl)
 clear Z Y
 rintro _ _ ⟨rfl, rfl⟩ _ _ ⟨rfl, rfl⟩ _ _ ⟨rfl, rfl⟩ a w55 Z Y
 replace Z : Fr 205 [(194, _), (195, _), (196, _), (0, _), (1, _), (5, _), (6, _), (8, _), (10, _), (14, _), (16, _), (20, _), (21, _), (22, _), (23, _), (24, _), (158, _), (159, _), (160, _), (161, _), (162, _), (163, _), (164, _), (165, _), (166, _), (167, _), (168, _), (169, _), (170, _), (171, _), (172, _), (173, _), (174, _), (175, _), (176, _), (177, _), (178, _), (179, _), (180, _), (181, _), (182, _), (183, _), (184, _), (185, _), (186, _), (187, _), (188, _), (189, _), (190, _), (191, _), (192, _), (193, _)] [] a := Z
 replace Y : St No w0 [_, _, _, _, _] w55 := Y
 refine ab <| aP (k := 39) 42 [41] kr kr kr ?_
 refine aF Z Y de rfl de rfl call24 rfl (ch (y := .bool true) (dL exR exC (.slice (some ⟨w6.hz, 0, none⟩) 3 3) [⟨2, 1050, 3⟩, ⟨3, 1050, 0⟩, ⟨5, 1099, 0⟩] _ (Y.ow 3 rfl)) kr) ?_
 clear Z Y
 intro a w56 Z Y
 refine wlv Z (au rfl rfl) fun a Z => wlm Z rfl fun a Z => ab <| aV (k := 42) 44 [42, 43] Z kr kr kr rfx ?_
 replace Z : Fr 205 [(0, _), (1, _), (5, _), (6, _), (8, _), (10, _), (14, _), (16, _), (20, _), (21, _), (22, _), (23, _), (24, _), (158, _), (159, _), (160, _), (161, _), (162, _), (163, _), (164, _), (165, _), (166, _), (167, _), (168, _), (169, _), (170, _), (171, _), (172, _), (173, _), (174, _), (175, _), (176, _), (177, _), (178, _), (179, _), (180, _), (181, _), (182, _), (183, _), (184, _), (185, _), (186, _), (187, _), (188, _), (189, _), (190, _), (191, _), (192, _), (193, _), (194, _), (195, _), (196, _), (197, _), (198, _), (199, _)] [] a := Z.pick [0, 1, 5, 6, 8, 10, 14, 16, 20, 21, 22, 23, 24, 158, 159, 160, 161, 162, 163, 164, 165, 166, 167, 168, 169, 170, 171, 172, 173, 174, 175, 176, 177, 178, 179, 180, 181, 182, 183, 184, 185, 186, 187, 188, 189, 190, 191, 192, 193, 194, 195, 196, 197, 198, 199]
 refine aM 2 [[], []] (fun i => match i with | 0 => pv (.agg #[iv 0, iv 0, iv 0, iv 0]) | 1 => pv (.agg #[iv 55, iv 1, iv 2, iv 9, iv 1000, .bool false]) | _ => fun _ _ => False) Z Y kr kr ?_ ?_
 ·intro i hi
  match i, hi with
  | 0, _ => exact fun w Y => OpV.g (aY (v := .agg #[iv 0, iv 0, iv 0, iv 0]) rfl kr)
  | 1, _ => exact fun w Y => OpV.g (ai (Y.g 4 rfl) rfl (isAgg31 _) (sizeOf31 _))
 clear Z Y
 rintro _ _ ⟨rfl, rfl⟩ _ _ ⟨rfl, rfl⟩ a w57 Z Y
 replace Z : Fr 205 [(200, _), (201, _), (0, _), (1, _), (5, _), (6, _), (8, _), (10, _), (14, _), (16, _), (20, _), (21, _), (22, _), (23, _), (24, _), (158, _), (159, _), (160, _), (161, _), (162, _), (163, _), (164, _), (165, _), (166, _), (167, _), (168, _), (169, _), (170, _), (171, _), (172, _), (173, _), (174, _), (175, _), (176, _), (177, _), (178, _), (179, _), (180, _), (181, _), (182, _), (183, _), (184, _), (185, _), (186, _), (187, _), (188, _), (189, _), (190, _), (191, _), (192, _), (193, _), (194, _), (195, _), (196, _), (197, _), (198, _), (199, _)] [] a := Z
 replace Y : St No w0 [_, _, _, _, _] w57 := Y
 refine ab <| aP (k := 44) 48 [47] kr kr kr ?_
 refine aF Z Y de rfl de rfl call24 rfl (ch (y := .bool false) (dL ⟨0, 0, 0, 0⟩ exC (.slice none 0 0) [] _ (cS _ _)) kr) ?_
 clear Z Y
 intro a w58 Z Y
 refine wly Z ((bu rfl).asb (b' := true) rfl) fun a Z => wlv Z (au rfl rfl) fun a Z => wla Z rfl fun a Z => ab <| bt kr ?_
 refine hK19 _ _ ?_
 replace Z := Z.p1 0 rfl
 replace Y : St No w0 [] w58 := Y.mask [false, false, false, false, false]
 refine ap ?_
 refine aj Z results4 (ae rfl ag) ?_
 exact ⟨by rfl, Y.ext⟩
end Go.Proofs.YtncbabejopafjaaGreatDoor.K16
namespace Go.Proofs.YtncbabejopafjaaGreatDoor.K16
theorem ie (now : Stt) : lastOf now [] = now := rfl
theorem f9 {r : Rul} {b : Bool} {i : Nat} {now now1 : Stt} {l : List Evt} {x : Evt} (hn : lastOf now (alone r x.at_ now) = now1) (ha : (after b now1.state x).2 = true) :
  runE r b i now (x :: l) = (alone r x.at_ now ++ begins r (after b now1.state x).1 x.at_ :: (runE r b (i + 1) (begins r (after b now1.state x).1 x.at_) l).1, (runE r b (i + 1) (begins r (after b now1.state x).1 x.at_) l).2) := by
 rw [runE]; simp only [hn, ha, if_true]
theorem gW {r : Rul} {b : Bool} {i : Nat} {now now1 : Stt} {l : List Evt} {x : Evt} (hn : lastOf now (alone r x.at_ now) = now1) (ha : (after b now1.state x).2 = false) :
  runE r b i now (x :: l) = (alone r x.at_ now ++ (runE r b (i + 1) now1 l).1, (i : Int) :: (runE r b (i + 1) now1 l).2) := by
 rw [runE]; simp only [hn, ha]; rfl
theorem gq {t : Int} {a : Stt} {l : List Stt} (h : a.since ≤ t) : (a :: l).takeWhile (fun s => decide (s.since ≤ t)) = a :: l.takeWhile (fun s => decide (s.since ≤ t)) := List.takeWhile_cons_of_pos (by simpa using h)
theorem jD {t : Int} {a : Stt} {l : List Stt} (h : t < a.since) : (a :: l).takeWhile (fun s => decide (s.since ≤ t)) = [] := List.takeWhile_cons_of_neg (by simpa using h)
def bnd (r : Rul) (c : Clm) (s : Int) : Int :=
 if s = 1 then c.asked else if s = 2 then c.asked + r.answer - 1 else if s = 3 then c.asked + r.answer - 1 + r.settle else if s = 4 then c.asked + r.answer - 1 + r.settle + r.cooling else ends r c
def Tame (r : Rul) (c : Clm) (now : Stt) : Prop := Sound r now ∧ now.since ≤ bnd r c now.state ∧ (1 ≤ now.state ∧ now.state ≤ 8)
theorem Tame.step {r : Rul} {c : Clm} {now : Stt} (hr : aW r = true) (h : Tame r c now) (h0 : 0 ≤ now.next) : Tame r c (begins r (aQ now.state) now.next) := by
 have hb := ck hr
 obtain ⟨hs, ht, hlo, hhi⟩ := h
 have hk := hs.step hr h0
 refine ⟨hk.1, ?_⟩
 have hn : now.next = (begins r now.state now.since).next := by rw [← hs.1]
 simp only [begins, dueSec, aQ, bnd, ends] at *
 by_cases e1 : now.state = 1
 ·simp [e1] at *; omega
 by_cases e2 : now.state = 2
 ·simp [e2] at *; omega
 by_cases e3 : now.state = 3
 ·simp [e3] at *; omega
 by_cases e4 : now.state = 4
 ·simp [e4] at *; omega
 ·simp [e1, e2, e3, e4] at hn; omega
theorem gK {k s n : Int} (h : effect k s = some n) : (k = 1 ∧ s = 1 ∧ n = 3) ∨ (k = 2 ∧ s = 1 ∧ n = 2) ∨ (k = 3 ∧ s = 2 ∧ n = 3) ∨ (k = 4 ∧ s = 2 ∧ n = 6) ∨ (k = 5 ∧ s = 1 ∧ n = 7) ∨ (k = 5 ∧ s = 2 ∧ n = 7) ∨ (k = 5 ∧ s = 3 ∧ n = 7) ∨ (k = 6 ∧ s = 4 ∧ n = 8) := by
 unfold effect at h
 repeat' split at h
 all_goals (first | (cases h; omega) | cases h)
theorem ng {b : Bool} {s : Int} {e : Evt} (h : (after b s e).2 = true) : (s = 1 ∧ (after b s e).1 = 3 ∧ e.kind = 1) ∨ (s = 1 ∧ (after b s e).1 = 2 ∧ e.kind = 2 ∧ e.reason ≠ 1) ∨ (s = 2 ∧ (after b s e).1 = 3) ∨ ((s = 1 ∨ s = 2 ∨ s = 3 ∨ s = 4) ∧ 6 ≤ (after b s e).1 ∧ (after b s e).1 ≤ 8) := by
 unfold after at *
 split at h
 ·rename_i hr
  simp only [Bool.and_eq_true] at h
  obtain ⟨n, hn⟩ := Option.isSome_iff_exists.1 h.1
  simp only [hr, if_true, hn, Option.getD_some]
  rcases gK hn with ⟨h1, h2, h3⟩ | ⟨h1, h2, h3⟩ | ⟨h1, h2, h3⟩ | ⟨h1, h2, h3⟩ | ⟨h1, h2, h3⟩ | ⟨h1, h2, h3⟩ | ⟨h1, h2, h3⟩ | ⟨h1, h2, h3⟩ <;> simp [h1, h2, h3]
 ·rename_i hr
  obtain ⟨n, hn⟩ := Option.isSome_iff_exists.1 h
  simp only [hr, if_false, hn, Option.getD_some]
  rcases gK hn with ⟨h1, h2, h3⟩ | ⟨h1, h2, h3⟩ | ⟨h1, h2, h3⟩ | ⟨h1, h2, h3⟩ | ⟨h1, h2, h3⟩ | ⟨h1, h2, h3⟩ | ⟨h1, h2, h3⟩ | ⟨h1, h2, h3⟩ <;> simp [h1, h2, h3, hr]
theorem lm {r : Rul} {u : Int} (hr : aW r = true) : ∀ (n : Nat) (now : Stt), rank now.state ≤ n → Sound r now → (lastOf now (aloneF n r u now)).next < 0 ∨ u < (lastOf now (aloneF n r u now)).next := by
 intro n
 induction n with
 | zero =>
  intro now h hs
  rw [aloneF, ie]
  rcases hs.next hr with ⟨h1, _⟩ | ⟨_, h2, _⟩
  ·exact .inl om
  ·omega
 | succ n ih =>
  intro now h hs
  unfold aloneF
  split
  ·rename_i hc
   have h1 := hs.step hr hc.1
   rw [cb]
   exact ih _ (by simp only [begins]; omega) h1.1
  ·rename_i hc
   rw [ie]; omega
theorem l8 {r : Rul} {u : Int} {now : Stt} (hr : aW r = true) (hs : Sound r now) : (lastOf now (alone r u now)).next < 0 ∨ u < (lastOf now (alone r u now)).next := lm hr 4 now (Nat.le_trans (gm _) om) hs
theorem Sound.ge {r : Rul} {now : Stt} (hr : aW r = true) (h : Sound r now) : 0 ≤ now.next → now.since < now.next := fun h0 => by
 rcases h.next hr with ⟨h1, _⟩ | ⟨_, _, h3, _⟩ <;> omega
end Go.Proofs.YtncbabejopafjaaGreatDoor.K16
namespace Go.Proofs.YtncbabejopafjaaGreatDoor.K16
theorem ky {p : Stt → Bool} : ∀ (a b : List Stt), (∀ s ∈ b, p s = false) → (a ++ b).takeWhile p = a.takeWhile p
 | [], b, h => by
  cases b with
  | nil => rfl
  | cons x b => rw [List.nil_append, List.takeWhile_cons_of_neg (by simp [h x])]; rfl
 | x :: a, b, h => by
  rw [List.cons_append, List.takeWhile_cons, List.takeWhile_cons, ky a b h]
theorem l5 {p : Stt → Bool} : ∀ (a b : List Stt), (∀ s ∈ a, p s = true) → (a ++ b).takeWhile p = a ++ b.takeWhile p
 | [], b, _ => rfl
 | x :: a, b, h => by rw [List.cons_append, List.takeWhile_cons_of_pos (h x sm), l5 a b fun s hs => h s (by simp [hs])]; rfl
theorem eR {r : Rul} {u t : Int} (htu : t ≤ u) : ∀ (n : Nat) (now : Stt), (aloneF n r u now).takeWhile (fun s => decide (s.since ≤ t)) = aloneF n r t now := by
 intro n
 induction n with
 | zero => intro now; rfl
 | succ n ih =>
  intro now
  by_cases hc : 0 ≤ now.next ∧ now.next ≤ u
  ·rw [ct hc.1 hc.2]
   by_cases ht : now.next ≤ t
   ·rw [gq (by simp only [begins]; exact ht), ih, ct hc.1 ht]
   ·rw [jD (by simp only [begins]; omega), ca om]
  ·rw [ca hc, ca om]; rfl
theorem kF {r : Rul} {u : Int} : ∀ (n : Nat) (now : Stt), ∀ s ∈ aloneF n r u now, s.since ≤ u := by
 intro n
 induction n with
 | zero => intro now s h; cases h
 | succ n ih =>
  intro now s h
  by_cases hc : 0 ≤ now.next ∧ now.next ≤ u
  ·rw [ct hc.1 hc.2] at h
   rcases List.mem_cons.1 h with rfl | h
   ·simp only [begins]; exact hc.2
   ·exact ih _ s h
  ·rw [ca hc] at h; cases h
theorem fw {r : Rul} {u t : Int} (hr : aW r = true) : ∀ (n : Nat) (now : Stt), Sound r now → (now.next < 0 ∨ t < now.next) → (∀ s ∈ aloneF n r u now, t < s.since) ∧ ((lastOf now (aloneF n r u now)).next < 0 ∨ t < (lastOf now (aloneF n r u now)).next) := by
 intro n
 induction n with
 | zero => intro now _ h; exact ⟨by simp [aloneF], h⟩
 | succ n ih =>
  intro now h hn
  by_cases hc : 0 ≤ now.next ∧ now.next ≤ u
  ·rw [ct hc.1 hc.2]
   have h1 := h.step hr hc.1
   have h2 := h1.1.ge hr
   have h3 : (begins r (aQ now.state) now.next).since = now.next := rfl
   obtain ⟨k1, k2⟩ := ih _ h1.1 (by
    rcases Int.lt_or_le (begins r (aQ now.state) now.next).next 0 with h4 | h4
    ·exact .inl h4
    ·have := h2 h4; exact .inr om)
   refine ⟨fun s hs => ?_, by rw [cb]; exact k2⟩
   rcases List.mem_cons.1 hs with rfl | hs
   ·omega
   ·exact k1 s hs
  ·rw [ca hc]; exact ⟨by simp, hn⟩
theorem dY {r : Rul} {b : Bool} {t : Int} (hr : aW r = true) : ∀ (l : List Evt) (i : Nat) (now : Stt) (last : Int), anyBad last l = false → 0 ≤ last → t < last → Sound r now → (now.next < 0 ∨ t < now.next) → ∀ s ∈ (runE r b i now l).1, t < s.since
 | [], i, now, last, _, _, _, h, hn, s, hs => by
  rw [runE] at hs
  exact (fw hr 4 now h hn).1 s hs
 | x :: l, i, now, last, hb, h0, hlt, h, hn, s, hs => by
  have hx := dv (x :: l) last hb 0 sm
  simp only [List.getD_cons_zero] at hx
  simp only [anyBad, Bool.or_eq_false_iff] at hb
  obtain ⟨k1, k2⟩ := fw (u := x.at_) hr 4 now h hn
  have hs1 : Sound r (lastOf now (alone r x.at_ now)) := cQ hr 4 now h
  cases ha : (after b (lastOf now (alone r x.at_ now)).state x).2 with
  | true =>
   rw [f9 rfl ha] at hs
   have hsb : Sound r (begins r (after b (lastOf now (alone r x.at_ now)).state x).1 x.at_) := Sound.begins _ _ om hx.2
   rcases List.mem_append.1 hs with hs | hs
   ·exact k1 s hs
   ·rcases List.mem_cons.1 hs with rfl | hs
    ·simp only [begins]; omega
    ·have h3 : (begins r (after b (lastOf now (alone r x.at_ now)).state x).1 x.at_).since = x.at_ := rfl
     exact dY hr l (i + 1) _ x.at_ hb.2 om om hsb (by
      rcases Int.lt_or_le (begins r (after b (lastOf now (alone r x.at_ now)).state x).1 x.at_).next 0 with h4 | h4
      ·exact .inl h4
      ·have := hsb.ge hr h4; exact .inr om) s hs
  | false =>
   rw [gW rfl ha] at hs
   rcases List.mem_append.1 hs with hs | hs
   ·exact k1 s hs
   ·exact dY hr l (i + 1) _ x.at_ hb.2 om om hs1 k2 s hs
theorem fy {b : Bool} {s last : Int} {e : Evt} (he : badEvt last e = false) : aO b s e = if (after b s e).2 = true then (after b s e).1 else -1 := by
 simp only [badEvt, Bool.or_eq_false_iff, Bool.not_eq_false', isIn, Bool.and_eq_true, decide_eq_true_eq] at he
 obtain ⟨⟨hk, _⟩, hq⟩ := he
 have hk6 : e.kind = 1 ∨ e.kind = 2 ∨ e.kind = 3 ∨ e.kind = 4 ∨ e.kind = 5 ∨ e.kind = 6 := by omega
 have hs : s = 1 ∨ s = 2 ∨ s = 3 ∨ s = 4 ∨ (s ≠ 1 ∧ s ≠ 2 ∧ s ≠ 3 ∧ s ≠ 4) := by omega
 rcases hk6 with h | h | h | h | h | h <;> simp [h, isIn] at hq
 ·have hq0 : e.reason = 0 := by omega
  rcases hs with g | g | g | g | ⟨g1, g2, g3, g4⟩ <;> simp [aO, after, effect, *]
 ·by_cases hr : e.reason = 1 <;> cases b <;> rcases hs with g | g | g | g | ⟨g1, g2, g3, g4⟩ <;> simp [aO, after, effect, *]
 ·have hq0 : e.reason = 0 := by omega
  rcases hs with g | g | g | g | ⟨g1, g2, g3, g4⟩ <;> simp [aO, after, effect, *]
 ·have hq0 : e.reason = 0 := by omega
  rcases hs with g | g | g | g | ⟨g1, g2, g3, g4⟩ <;> simp [aO, after, effect, *]
 ·have hq0 : e.reason = 0 := by omega
  rcases hs with g | g | g | g | ⟨g1, g2, g3, g4⟩ <;> simp [aO, after, effect, *]
 ·by_cases hr : e.reason = 1 <;> cases b <;> rcases hs with g | g | g | g | ⟨g1, g2, g3, g4⟩ <;> simp [aO, after, effect, *]
theorem gD {b : Bool} {s last : Int} {e : Evt} (he : badEvt last e = false) (h : (after b s e).2 = true) : ¬ aO b s e < 0 ∧ aO b s e = (after b s e).1 := by
 rw [fy he, if_pos h]
 refine ⟨?_, rfl⟩
 rcases ng h with ⟨_, e, _⟩ | ⟨_, e, _⟩ | ⟨_, e⟩ | ⟨_, e, _⟩ <;> omega
theorem iC {b : Bool} {s last : Int} {e : Evt} (he : badEvt last e = false) (h : (after b s e).2 = false) : aO b s e < 0 := by
 rw [fy he, if_neg (by rw [h]; simp)]; omega
theorem fa {r : Rul} {b : Bool} {u : Int} {i : Nat} {now : Stt} {x : Evt} {l : List Evt} :
  (u < x.at_ → runU r b u i now (x :: l) = (alone r u now, [])) ∧
  (¬ u < x.at_ → aO b (lastOf now (alone r x.at_ now)).state x < 0 → runU r b u i now (x :: l) = (alone r x.at_ now ++ (runU r b u (i + 1) (lastOf now (alone r x.at_ now)) l).1, (i : Int) :: (runU r b u (i + 1) (lastOf now (alone r x.at_ now)) l).2)) ∧
  (¬ u < x.at_ → ¬ aO b (lastOf now (alone r x.at_ now)).state x < 0 → runU r b u i now (x :: l) = (alone r x.at_ now ++ begins r (aO b (lastOf now (alone r x.at_ now)).state x) x.at_ :: (runU r b u (i + 1) (begins r (aO b (lastOf now (alone r x.at_ now)).state x) x.at_) l).1,
   (runU r b u (i + 1) (begins r (aO b (lastOf now (alone r x.at_ now)).state x) x.at_) l).2)) := by
 refine ⟨fun h => ?_, fun h h2 => ?_, fun h h2 => ?_⟩
 ·have e : min x.at_ u = u := by omega
  rw [runU]; simp only [h, e, if_true]
 ·have e : min x.at_ u = x.at_ := by omega
  rw [runU]; simp only [h, e, h2, if_true, if_false]
 ·have e : min x.at_ u = x.at_ := by omega
  rw [runU]; simp only [h, e, h2, if_false]
theorem kA {r : Rul} {b : Bool} {t : Int} (hr : aW r = true) (ht : t ≤ 4611686018427387904) : ∀ (l : List Evt) (i : Nat) (now : Stt) (last : Int), anyBad last l = false → 0 ≤ last → Sound r now →
  (runE r b i now l).1.takeWhile (fun s => decide (s.since ≤ t)) = (runU r b t i now l).1
 | [], i, now, last, _, _, h => by rw [runE, runU]; exact eR ht 4 now
 | x :: l, i, now, last, hb, h0, h => by
  have hx := dv (x :: l) last hb 0 sm
  simp only [List.getD_cons_zero] at hx
  simp only [anyBad, Bool.or_eq_false_iff] at hb
  have hs1 : Sound r (lastOf now (alone r x.at_ now)) := cQ hr 4 now h
  have hd := l8 (u := x.at_) hr h
  by_cases hf : t < x.at_
  ·rw [fa.1 hf]
   cases ha : (after b (lastOf now (alone r x.at_ now)).state x).2 with
   | true =>
    rw [f9 rfl ha]
    simp only
    have hsb : Sound r (begins r (after b (lastOf now (alone r x.at_ now)).state x).1 x.at_) := Sound.begins _ _ om hx.2
    rw [ky _ _ fun s hs => ?_]
    ·exact eR om 4 now
    ·have h3 : (begins r (after b (lastOf now (alone r x.at_ now)).state x).1 x.at_).since = x.at_ := rfl
     rcases List.mem_cons.1 hs with rfl | hs
     ·simp only [h3]; simp; omega
     ·have := dY (t := t) hr l (i + 1) _ x.at_ hb.2 om hf hsb (by
       rcases Int.lt_or_le (begins r (after b (lastOf now (alone r x.at_ now)).state x).1 x.at_).next 0 with h4 | h4
       ·exact .inl h4
       ·have := hsb.ge hr h4; exact .inr om) s hs
      simp; omega
   | false =>
    rw [gW rfl ha]
    simp only
    rw [ky _ _ fun s hs => ?_]
    ·exact eR om 4 now
    ·have := dY (t := t) hr l (i + 1) _ x.at_ hb.2 om hf hs1 om s hs
     simp; omega
  ·have hall : ∀ s ∈ alone r x.at_ now, (fun s : Stt => decide (s.since ≤ t)) s = true := fun s hs => by
    have := kF 4 now s hs
    simp; omega
   cases ha : (after b (lastOf now (alone r x.at_ now)).state x).2 with
   | true =>
    obtain ⟨k1, k2⟩ := gD hb.1 ha
    rw [fa.2.2 hf k1, f9 rfl ha]
    simp only
    rw [l5 _ _ hall, gq (by simp only [begins]; omega), k2, kA hr ht l (i + 1) _ x.at_ hb.2 om (Sound.begins _ _ om hx.2)]
   | false =>
    rw [fa.2.1 hf (iC hb.1 ha), gW rfl ha]
    simp only
    rw [l5 _ _ hall, kA hr ht l (i + 1) _ x.at_ hb.2 om hs1]
theorem fT {r : Rul} {c : Clm} {l : List Evt} {t : Int} (hv : valid r c l = true) (ht : t ≤ 4611686018427387904) : ce r c l t = outR r c l t := by
 obtain ⟨hr, hc, _, hb⟩ := cZ hv
 have h2 := co hc
 unfold ce outR bE runS
 by_cases h : t < c.asked
 ·rw [if_pos h, jD (by simp only [first, begins]; exact h)]; rfl
 ·rw [if_neg h, gq (by simp only [first, begins]; omega), kA hr ht l 0 (first r c) c.asked hb om (Sound.begins 1 c.asked om om), cb, cb]
end Go.Proofs.YtncbabejopafjaaGreatDoor.K16
namespace Go.Proofs.YtncbabejopafjaaGreatDoor.K16
theorem iK {r : Rul} {u v : Int} (hr : aW r = true) (hu : 30000000 ≤ u) (hv : 30000000 ≤ v) : ∀ (n : Nat) (now : Stt), Sound r now → aloneF n r u now = aloneF n r v now
 | 0, now, h => rfl
 | n + 1, now, h => by
  by_cases h0 : 0 ≤ now.next
  ·have hb : now.next ≤ 30000000 := by
    rcases Sound.next hr h with ⟨h1, _⟩ | ⟨_, h2, _, h4, _⟩
    ·omega
    ·have h3 := h.2.2
     have h5 : (1 : Int) ≤ (rank now.state : Int) := by omega
     omega
   rw [ct h0 om, ct h0 om, iK hr hu hv n _ (Sound.step hr h h0).1]
  ·rw [ca om, ca om]
theorem iq {r : Rul} {b : Bool} (hr : aW r = true) : ∀ (l : List Evt) (i : Nat) (now : Stt) (last : Int), anyBad last l = false → 0 ≤ last → Sound r now → runU r b 40000000 i now l = runE r b i now l
 | [], i, now, last, hb, h0, h => by rw [runU, runE]; unfold alone; rw [iK (u := 40000000) (v := 4611686018427387904) hr de de 4 now h]
 | x :: l, i, now, last, hb, h0, h => by
  have hx := dv (x :: l) last hb 0 sm
  simp only [List.getD_cons_zero] at hx
  simp only [anyBad, Bool.or_eq_false_iff] at hb
  have hs1 : Sound r (lastOf now (alone r x.at_ now)) := cQ hr 4 now h
  have hf : ¬ 40000000 < x.at_ := by omega
  cases ha : (after b (lastOf now (alone r x.at_ now)).state x).2 with
  | true =>
   obtain ⟨k1, k2⟩ := gD hb.1 ha
   rw [fa.2.2 hf k1, f9 rfl ha, k2, iq hr l (i + 1) _ x.at_ hb.2 om (Sound.begins _ _ om hx.2)]
  | false =>
   rw [fa.2.1 hf (iC hb.1 ha), gW rfl ha, iq hr l (i + 1) _ x.at_ hb.2 om hs1]
theorem jw {r : Rul} {c : Clm} {l : List Evt} (hv : valid r c l = true) : runS r c l 40000000 = bE r c l ∧ runV r c l 40000000 = voids r c l := by
 obtain ⟨hr, hc, _, hb⟩ := cZ hv
 have h2 := co hc
 unfold runS runV bE voids
 rw [iq hr l 0 (first r c) c.asked hb om (Sound.begins 1 c.asked om om)]
 exact ⟨rfl, rfl⟩
end Go.Proofs.YtncbabejopafjaaGreatDoor.K16
