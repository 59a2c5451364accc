/- Texts joined: ClaimF, ClaimG, ClaimH, ClaimR. -/
import Derived.Test.YtncbabejopafjaaGreatDoorPOE
import Derived.Test.YtncbabejopafjaaGreatDoorPOA
set_option linter.unusedVariables false
set_option linter.unusedSimpArgs false
set_option maxRecDepth 4000
set_option maxHeartbeats 4000000
namespace Go.Proofs.YtncbabejopafjaaGreatDoor.K16
open Go.RowKit Go.PW _root_.Go.Proofs.Tryz
theorem mG {r : Rul} {b : Bool} {k : Nat} {now : Stt} {l : List Evt} {ev : Evt} {p1 p2 : List Stt} (hk : k < l.length) (he : l.getD k ⟨0, 0, 0⟩ = ev) (hp : alone r ev.at_ now = p1 ++ p2) :
  ∃ q, (runE r b k now (l.drop k)).1 = p1 ++ (p2 ++ q) := by
 cases ha : (after b (lastOf now (alone r ev.at_ now)).state ev).2 with
 | true => rw [gY hk he rfl ha, hp]; exact ⟨_, List.append_assoc _ _ _⟩
 | false => rw [gp hk he rfl ha, hp]; exact ⟨_, List.append_assoc _ _ _⟩
theorem jX {M : Nat → Prop} {w0 : World} {er : Ent} (rl : Rul) (cl : Clm) (x : Mach) (sv : Value) (l : List Evt) (lp bp bl : Nat) (J Jx : List Stt → Ent → Prop) (hY : Rounds Tryz.prog M w0 lp encS NxS J Jx) (e0 : Ent) (ws : World)
  (hv : valid rl cl l = true) (hsv : ∀ H w, St M w0 H w → SlAt w sv 3 (l.map Evt.cells)) (hJ : J [] e0) (Y : St M w0 [e0, blk bp [pt x.bm] 97, blk bl [sv] 32, blk x.bm [iv rl.answer, iv rl.cooling, iv rl.settle, iv rl.reverse, iv cl.number, iv cl.frm, iv cl.to, iv cl.holder, iv cl.asked, .bool cl.backed, .map (some x.dm), .map (some x.em), .slice none 0 0] 106, mapE x.dm duesKV, mapE x.em effAll, own (.slice none 0 0) 3 1 (([]).map fun i => [iv i]), er] ws) :
  Ret Tryz.prog 61 #[.func (.yield lp) #[] #[], pt bp, pt bl] ws fun _ w => ∃ e1 Hi, St M w0 (e1 :: Hi) w ∧ ((∃ xs, (xs = bE rl cl l ∧ ∃ (vd : Value), Hi = [blk bp [pt x.bm] 97, blk bl [sv] 32, blk x.bm [iv rl.answer, iv rl.cooling, iv rl.settle, iv rl.reverse, iv cl.number, iv cl.frm, iv cl.to, iv cl.holder, iv cl.asked, .bool cl.backed, .map (some x.dm), .map (some x.em), vd] 106, mapE x.dm duesKV, mapE x.em effAll, own vd 3 1 ((voids rl cl l).map fun i => [iv i]), er]) ∧ J xs e1) ∨ (∃ pre, ((∃ rest, bE rl cl l = pre ++ rest) ∧ ∃ (vd : Value) (vo : List Int), Hi = [blk bp [pt x.bm] 97, blk bl [sv] 32, blk x.bm [iv rl.answer, iv rl.cooling, iv rl.settle, iv rl.reverse, iv cl.number, iv cl.frm, iv cl.to, iv cl.holder, iv cl.asked, .bool cl.backed, .map (some x.dm), .map (some x.em), vd] 106, mapE x.dm duesKV, mapE x.em effAll, own vd 3 1 (vo.map fun i => [iv i]), er]) ∧ Jx pre e1)) := by
 refine aD func61 rfl ntmps61 (lb rfl) fun a Z => ?_
 replace Z := Z.p3 0 1 2 rfl
 skip
 obtain ⟨hr, hc, hlen, hbad⟩ := cZ hv
 have hcl := co hc
 have hfs : Sound rl (first rl cl) := Sound.begins 1 cl.asked om om
 refine aa fun K1 hK1 => aG Z Y de rfl (cs := [.func (.yield lp) #[] #[]]) rfl fun a w1 Z Y => ab (hK1 _ _ <| ah fun K2 hK2 => ?_)
 refine aK kr ?_
 replace Z := Z.p4 0 1 2 3 rfl
 refine aM 8 [[], [], [1], [2], [3], [4], [0, 5], []] (fun i => match i with | 0 => pv (pt x.bm) | 1 => pv (pt x.bm) | 2 => pv (pt x.bm) | 3 => pv (po x.bm 4) | 4 => pv (po x.bm 8) | 5 => pv (iv cl.asked) | 6 => pv (.agg #[iv ((begins rl 1 cl.asked).state), iv ((begins rl 1 cl.asked).since), iv ((begins rl 1 cl.asked).next)]) | 7 => pm (fun b : Nat => pt b) (fun b => [blk b [iv 0, iv 0, iv 0] 75]) (fun _ => True) | _ => fun _ _ => False) Z Y kr kr ?_ ?_
 ·intro i hi
  match i, hi with
  | 0, _ => exact fun w Y => OpV.g (ld Y 2 rfl rfl (isAgg97 _) rfl)
  | 1, _ => exact fun w Y => OpV.g (ld Y 2 rfl rfl (isAgg97 _) rfl)
  | 2, _ =>
   rintro _ _ ⟨rfl, rfl⟩
   intro w Y
   exact OpV.g (bf rfl)
  | 3, _ =>
   rintro _ _ ⟨rfl, rfl⟩
   intro w Y
   exact OpV.g (ac (v := po x.bm 4) rfl kr)
  | 4, _ =>
   rintro _ _ ⟨rfl, rfl⟩
   intro w Y
   exact OpV.g (ac (v := po x.bm 8) rfl kr)
  | 5, _ =>
   rintro _ _ ⟨rfl, rfl⟩
   intro w Y
   exact OpV.g (ld Y 4 rfl rfl (isAgg3 _) rfl)
  | 6, _ =>
   rintro _ _ ⟨rfl, rfl⟩ _ _ ⟨rfl, rfl⟩
   intro w Y
   exact aT call62 rfl (gv 1 rl cl x (.slice none 0 0) cl.asked _ (Y.g 4 rfl) (Y.g 5 rfl) hr om om)
  | 7, _ => exact fun w Y => f7 (zeroValue75 _) (cs := [iv 0, iv 0, iv 0]) rfl
 rintro _ _ ⟨rfl, rfl⟩ _ _ ⟨rfl, rfl⟩ _ _ ⟨rfl, rfl⟩ _ _ ⟨rfl, rfl⟩ _ _ ⟨rfl, rfl⟩ _ _ ⟨rfl, rfl⟩ _ _ ⟨rfl, rfl⟩ _ _ ⟨b1, rfl, -, rfl⟩ a w2 Z Y
 replace Z := Z.p12 10 11 12 13 14 15 16 4 0 1 2 3 rfl
 replace Y : St M w0 [_, _, _, _, _, _, _, _, _, _] w2 := Y
 refine am 0 Z Y rfl rfl rfl (sizeOf75 _) rfl (lb rfl) (ds := [iv ((begins rl 1 cl.asked).state), iv ((begins rl 1 cl.asked).since), iv ((begins rl 1 cl.asked).next)]) rfl rfl fun a w3 Z Y => ab <| hK2 _ _ ?_
 replace Z := Z.p5 0 1 2 3 4 rfl
 refine ah fun K3 hK3 => aa fun K4 hK4 => wlv Z (ld Y 1 rfl rfl (isAgg123 _) rfl) fun a Z => wlv Z (ai (Y.g 0 rfl) rfl (isAgg75 _) (sizeOf75 _)) fun a Z => wl_r (eB rfl rfl (hY.yield (pre := []) (x := first rl cl) (by simp [NxS]) hJ (Y.only (i := 2) rfl))) rfl rfl Z fun a v w4 hR Z => ?_
 obtain ⟨y2, e3, rfl, hx, hok, hft, hJt, hJf⟩ := hR
 have Y := Y.exchange (k := 2) rfl hx hok hft
 replace Y : St M w0 [_, _, _, _, _, _, _, _, _, _] w4 := Y
 clear hx hok hft
 refine wlv Z (bu rfl) fun a Z => ab (hK4 _ _ ?_)
 refine ax Z rfl (fun hc4 => ?_) (fun hc4 => ?_)
 ·rw [hc4] at Z
  try simp only [qz] at hc4
  have hJx := hJf hc4
  refine ap ?_
  refine aj Z results61 ag ?_
  exact ⟨_, _, Y.select [2, 3, 4, 5, 6, 7, 8, 9] de, .inr ⟨[first rl cl], ⟨⟨_, rfl⟩, _, _, rfl⟩, hJx⟩⟩
 rw [hc4] at Z
 try simp only [qz] at hc4
 have hJ := hJt hc4
 refine az <| hK3 _ _ <| aa fun K5 hK5 => wlv Z (cG rfl rfl) fun a Z => wla Z rfl fun a Z => ab (hK5 _ _ <| ah fun K6 hK6 => ?_)
 refine aa fun K7 hK7 => wlv Z (ld Y 4 rfl rfl (isAgg32 _) rfl) fun a Z => wlv Z ((aL (sT := 32) (hsv _ _ Y) rfl rfl (runUnderlying32 _)).asi (m' := (l.length : Int)) sm) fun a Z => wlm Z rfl fun a Z => ab (hK7 _ _ <| ay ?_)
 refine bj (fun m a w => ∃ (k : Nat) (e : Ent) (nw : Stt) (dn : List Stt) (vo : List Int) (vd : Value), m = l.length - k ∧ (k ≤ l.length) ∧ (bE rl cl l = dn ++ (runE rl cl.backed k nw (l.drop k)).1) ∧ (voids rl cl l = vo ++ (runE rl cl.backed k nw (l.drop k)).2) ∧ (Sound rl nw) ∧ (dn.length ≤ 1 + 5 * k) ∧ (vo.length ≤ k) ∧ (J dn e) ∧ Fr 66 [(0, .func (.yield lp) #[] #[]), (1, pt bp), (2, pt bl), (3, pt ws.hz), (4, pt b1), (17, .func (.yield lp) #[] #[]), (18, .agg #[iv ((begins rl 1 cl.asked).state), iv ((begins rl 1 cl.asked).since), iv ((begins rl 1 cl.asked).next)]), (19, .bool y2), (20, .bool false), (21, .func (.func 63) #[] #[pt b1, pt bp, pt ws.hz]), (5, .func (.func 63) #[] #[pt b1, pt bp, pt ws.hz]), (22, sv), (23, iv (l.length : Int)), (24, iv (k : Int))] [] a ∧ St M w0 [e, blk b1 [iv nw.state, iv nw.since, iv nw.next] 75, blk ws.hz [.func (.yield lp) #[] #[]] 123, blk bp [pt x.bm] 97, blk bl [sv] 32, blk x.bm [iv rl.answer, iv rl.cooling, iv rl.settle, iv rl.reverse, iv cl.number, iv cl.frm, iv cl.to, iv cl.holder, iv cl.asked, .bool cl.backed, .map (some x.dm), .map (some x.em), vd] 106, mapE x.dm duesKV, mapE x.em effAll, own vd 3 1 (vo.map fun i => [iv i]), er] w) _ ⟨0, e3, first rl cl, [first rl cl], [], .slice none 0 0, rfl, Nat.zero_le _, rfl, rfl, hfs, sm, sm, hJ, Z.pick [0, 1, 2, 3, 4, 17, 18, 19, 20, 21, 5, 22, 23, 24], Y.select [2, 0, 1, 3, 4, 5, 6, 7, 8, 9] de⟩ ?_
 rintro _ a w5 ⟨k, e, nw, dn, vo, vd, rfl, hk, hsp, hvo, hso, hdl, hvl, hJ, Z, Y⟩
 refine aa fun K8 hK8 => wlv Z (v_lt rfl rfl) fun a Z => ab (hK8 _ _ <| ah fun K9 hK9 => ?_)
 refine ax Z rfl (fun hc5 => ?_) (fun hc5 => ?_)
 ·rw [hc5] at Z
  try simp only [qz] at hc5
  have hkl : k < l.length := by omega
  obtain ⟨ev, hev⟩ : ∃ ev, l.getD k ⟨0, 0, 0⟩ = ev := ⟨_, rfl⟩
  have hea := dv l cl.asked hbad k hkl
  rw [hev] at hea
  refine az <| hK9 _ _ <| ah fun K10 hK10 => ay <| aa fun K11 hK11 => wlm Z rfl fun a Z => wlv Z ((ao (i := (k : Int)) (sT := 32) (hsv _ _ Y) rfl rfl (runUnderlying32 _) (sizeOf64 _) om (by simpa using hkl)).as (v' := slAddr sv (k * 3)) rfl) fun a Z => wlv Z ((bN (hsv _ _ Y) (i := k) (by simpa using hkl) rfl (isAgg64 _) (sizeOf64 _)).as (v' := .agg #[iv ev.kind, iv ev.at_, iv ev.reason]) (by rw [← hev]; show _ = Value.agg (l.getD k ⟨0, 0, 0⟩).cells.toArray; simp [hkl])) fun a Z => aH Z Y de (zeroValue64 _) (cs := [iv 0, iv 0, iv 0]) rfl fun a w6 Z Y => wla Z rfl fun a Z => ?_
  refine am 0 Z Y rfl rfl rfl (sizeOf64 _) rfl (lb rfl) (ds := [iv ev.kind, iv ev.at_, iv ev.reason]) rfl rfl fun a w7 Z Y => ab (hK11 _ _ <| ah fun K12 hK12 => ?_)
  refine aa fun K13 hK13 => wlm Z rfl fun a Z => wlv Z (ac (v := po w5.hz 1) rfl kr) fun a Z => wlv Z (ld Y 0 rfl rfl (isAgg3 _) rfl) fun a Z => ?_
  have Y : St M w0 [e, blk b1 [iv nw.state, iv nw.since, iv nw.next] 75, blk ws.hz [.func (.yield lp) #[] #[]] 123, blk bp [pt x.bm] 97, blk x.bm [iv rl.answer, iv rl.cooling, iv rl.settle, iv rl.reverse, iv cl.number, iv cl.frm, iv cl.to, iv cl.holder, iv cl.asked, .bool cl.backed, .map (some x.dm), .map (some x.em), vd] 106, mapE x.dm duesKV, blk w5.hz [iv ev.kind, iv ev.at_, iv ev.reason] 64, blk bl [sv] 32, mapE x.em effAll, own vd 3 1 (vo.map fun i => [iv i]), er] w7 := Y.select [1, 2, 3, 4, 6, 7, 0, 5, 8, 9, 10] de
  have Y : St M w0 [e, blk b1 [iv nw.state, iv nw.since, iv nw.next] 75, blk ws.hz [.func (.yield lp) #[] #[]] 123, blk bp [pt x.bm] 97, blk x.bm [iv rl.answer, iv rl.cooling, iv rl.settle, iv rl.reverse, iv cl.number, iv cl.frm, iv cl.to, iv cl.holder, iv cl.asked, .bool cl.backed, .map (some x.dm), .map (some x.em), vd] 106, mapE x.dm duesKV, join [blk w5.hz [iv ev.kind, iv ev.at_, iv ev.reason] 64, blk bl [sv] 32, mapE x.em effAll, own vd 3 1 (vo.map fun i => [iv i]), er]] w7 := St.joinTail [e, blk b1 [iv nw.state, iv nw.since, iv nw.next] 75, blk ws.hz [.func (.yield lp) #[] #[]] 123, blk bp [pt x.bm] 97, blk x.bm [iv rl.answer, iv rl.cooling, iv rl.settle, iv rl.reverse, iv cl.number, iv cl.frm, iv cl.to, iv cl.holder, iv cl.asked, .bool cl.backed, .map (some x.dm), .map (some x.em), vd] 106, mapE x.dm duesKV] [blk w5.hz [iv ev.kind, iv ev.at_, iv ev.reason] 64, blk bl [sv] 32, mapE x.em effAll, own vd 3 1 (vo.map fun i => [iv i]), er] Y
  have hdl4 : dn.length + 4 < 200 := by omega
  have hcall := lP rl cl x vd lp b1 ws.hz bp J Jx hY ev.at_ nw dn e _ hr hso hJ hdl4 Y
  refine wl_r (dQ (cap := [pt b1, pt bp, pt ws.hz]) (vs := [iv ev.at_]) rfl call63 rfl hcall) rfl rfl Z fun a v w8 hR Z => ?_
  clear hcall
  obtain ⟨ya6, e1, rfl, hyt, hyf⟩ := hR
  refine wlv Z (bu rfl) fun a Z => ab (hK13 _ _ ?_)
  refine ax Z rfl (fun hc7 => ?_) (fun hc7 => ?_)
  ·rw [hc7] at Z
   try simp only [qz] at hc7
   obtain ⟨p1, p2, now1, hp12, hJx, Y⟩ := hyf hc7
   obtain ⟨qq, hqq⟩ := mG (b := cl.backed) hkl hev hp12
   have Y := St.unjoinTail [e1, blk b1 [iv now1.state, iv now1.since, iv now1.next] 75, blk ws.hz [.func (.yield lp) #[] #[]] 123, blk bp [pt x.bm] 97, blk x.bm [iv rl.answer, iv rl.cooling, iv rl.settle, iv rl.reverse, iv cl.number, iv cl.frm, iv cl.to, iv cl.holder, iv cl.asked, .bool cl.backed, .map (some x.dm), .map (some x.em), vd] 106, mapE x.dm duesKV] [blk w5.hz [iv ev.kind, iv ev.at_, iv ev.reason] 64, blk bl [sv] 32, mapE x.em effAll, own vd 3 1 (vo.map fun i => [iv i]), er] Y
   replace Y : St M w0 [_, _, _, _, _, _, _, _, _, _, _] w8 := Y
   refine ap ?_
   refine aj Z results61 ag ?_
   exact ⟨_, _, Y.select [0, 3, 7, 4, 5, 8, 9, 10] de, .inr ⟨dn ++ p1, ⟨⟨p2 ++ qq, (by rw [hsp, hqq]; simp)⟩, _, _, rfl⟩, hJx⟩⟩
  rw [hc7] at Z
  try simp only [qz] at hc7
  obtain ⟨hJ, Y⟩ := hyt hc7
  have Y := St.unjoinTail [e1, blk b1 [iv ((lastOf nw (alone rl ev.at_ nw)).state), iv ((lastOf nw (alone rl ev.at_ nw)).since), iv ((lastOf nw (alone rl ev.at_ nw)).next)] 75, blk ws.hz [.func (.yield lp) #[] #[]] 123, blk bp [pt x.bm] 97, blk x.bm [iv rl.answer, iv rl.cooling, iv rl.settle, iv rl.reverse, iv cl.number, iv cl.frm, iv cl.to, iv cl.holder, iv cl.asked, .bool cl.backed, .map (some x.dm), .map (some x.em), vd] 106, mapE x.dm duesKV] [blk w5.hz [iv ev.kind, iv ev.at_, iv ev.reason] 64, blk bl [sv] 32, mapE x.em effAll, own vd 3 1 (vo.map fun i => [iv i]), er] Y
  obtain ⟨now1, hn1⟩ : ∃ n, lastOf nw (alone rl ev.at_ nw) = n := ⟨_, rfl⟩
  rw [hn1] at Y
  replace Y : St M w0 [_, _, _, _, _, _, _, _, _, _, _] w8 := Y
  have hso1 : Sound rl now1 := hn1 ▸ cQ hr 4 nw hso
  refine az <| hK12 _ _ <| aa fun K14 hK14 => wlv Z (ld Y 3 rfl rfl (isAgg97 _) rfl) fun a Z => wlv Z (ac (v := pt b1) rfl kr) fun a Z => wlv Z (ld Y 1 rfl rfl (isAgg3 _) rfl) fun a Z => wlv Z (ai (Y.g 6 rfl) rfl (isAgg64 _) (sizeOf64 _)) fun a Z => aA Z Y de call64 rfl (oq now1.state ev rl cl x vd _ (Y.g 4 rfl) (Y.g 8 rfl)) fun a w9 Z Y => wlm Z rfl fun a Z => wlv Z (aw rfl rfl) fun a Z => ?_
  refine wlv Z (aw rfl rfl) fun a Z => wla Z rfl fun a Z => wla Z rfl fun a Z => ab (hK14 _ _ ?_)
  replace Z := Z.p27 0 1 2 3 4 17 18 19 20 21 5 22 23 24 25 26 27 28 7 6 29 30 31 32 33 8 9 rfl
  refine ah fun K15 hK15 => aa fun K16 hK16 => wlm Z rfl fun a Z => wlv Z (bu rfl) fun a Z => ab (hK16 _ _ ?_)
  refine ax Z rfl (fun hc8 => ?_) (fun hc8 => ?_)
  ·rw [hc8] at Z
   try simp only [qz] at hc8
   refine ah fun K17 hK17 => aK kr ?_
   have Z : Fr 66 [(0, _), (1, _), (2, _), (3, _), (4, _), (17, _), (18, _), (19, _), (20, _), (21, _), (5, _), (22, _), (23, _), (24, _), (25, _), (26, _), (27, _), (28, _), (7, _), (6, _), (29, _), (30, _), (31, _), (32, _), (33, _), (8, _), (9, _), (42, _), (43, _)] [] a := Z.pick [0, 1, 2, 3, 4, 17, 18, 19, 20, 21, 5, 22, 23, 24, 25, 26, 27, 28, 7, 6, 29, 30, 31, 32, 33, 8, 9, 42, 43]
   have Y : St M w0 (own vd 3 1 (vo.map fun i => [iv i]) :: [e1, blk b1 [iv now1.state, iv now1.since, iv now1.next] 75, blk ws.hz [.func (.yield lp) #[] #[]] 123, blk bp [pt x.bm] 97, blk x.bm [iv rl.answer, iv rl.cooling, iv rl.settle, iv rl.reverse, iv cl.number, iv cl.frm, iv cl.to, iv cl.holder, iv cl.asked, .bool cl.backed, .map (some x.dm), .map (some x.em), vd] 106, mapE x.dm duesKV, blk w5.hz [iv ev.kind, iv ev.at_, iv ev.reason] 64, blk bl [sv] 32, mapE x.em effAll, er]) w9 := Y.front (i := 9) rfl
   refine dB 7 (own vd 3 1 (vo.map fun i => [iv i])) (fun v => own v 3 1 ((vo.map fun i => [iv i]) ++ ([[iv (k : Int)]]))) 8 [[], [], [1], [2], [3], [], [5], [4, 6]] (fun i => match i with | 0 => pv (pt x.bm) | 1 => pv (pt x.bm) | 2 => pv (pt x.bm) | 3 => pv (po x.bm 12) | 4 => pv (vd) | 5 => pv (iv (k : Int)) | 6 => pm (fun b : Nat => .slice (some ⟨b, 0, none⟩) 1 1) (fun b => [own (.slice (some ⟨b, 0, none⟩) 1 1) 3 1 [[iv (k : Int)]]]) (fun _ => True) | 7 => fun v E => E = [] | _ => fun _ _ => False) Z Y kr kr kr de ?_ ?_ ?_ ?_
   ·intro i v E h
    match i, h with
    | 0, _ => exact by decide
    | 1, _ => exact by decide
    | 2, _ => exact by decide
    | 3, _ => exact by decide
    | 4, _ => exact by decide
    | 5, _ => exact by decide
    | 6, _ => exact by decide
    | 7, _ => exact by decide
    | i + 8, h => exact h.elim
   ·intro i hi hiq e
    match i, hi, hiq with
    | 0, _, _ => exact fun w Y => OpV.g (ld Y 4 rfl rfl (isAgg97 _) rfl)
    | 1, _, _ => exact fun w Y => OpV.g (ld Y 4 rfl rfl (isAgg97 _) rfl)
    | 2, _, _ =>
     rintro _ _ ⟨rfl, rfl⟩
     intro w Y
     exact OpV.g (bf rfl)
    | 3, _, _ =>
     rintro _ _ ⟨rfl, rfl⟩
     intro w Y
     exact OpV.g (ac (v := po x.bm 12) rfl kr)
    | 4, _, _ =>
     rintro _ _ ⟨rfl, rfl⟩
     intro w Y
     exact OpV.g (ld Y 5 rfl rfl (isAgg47 _) rfl)
    | 5, _, _ => exact fun w Y => OpV.g (ak rfl)
    | 6, _, _ =>
     rintro _ _ ⟨rfl, rfl⟩
     intro w Y
     exact bW (E := 3) (sz := 1) rfl [[iv (k : Int)]] (fun _ => by kernel_rfl) sm rfl de
    | 7, _, h => exact absurd rfl h
   ·rintro _ _ ⟨rfl, rfl⟩ _ _ ⟨b11, rfl, -, rfl⟩
    intro w Y
    exact (fb (Y.g 0 rfl) rfl rfl (Y.ow 1 rfl) sm underlying47 (inf := Tryz.t3) (z := iv 0) rfl rfl rfl rfl de (by simp [Value.oneCell']) (by have hby : Tryz.t3.bytes = 8 := rfl; simp [big, hby]; omega) (by have hby : Tryz.t3.bytes = 8 := rfl; simp [big, hby]; omega)).mono fun v w' ⟨h1, h2, h3, _⟩ => ⟨h1, h2, h3, rfl⟩
   rintro vq _ _ ⟨⟨rfl, rfl⟩, -⟩ _ _ ⟨⟨rfl, rfl⟩, -⟩ _ _ ⟨⟨rfl, rfl⟩, -⟩ _ _ ⟨⟨rfl, rfl⟩, -⟩ _ _ ⟨⟨rfl, rfl⟩, -⟩ _ _ ⟨⟨rfl, rfl⟩, -⟩ _ _ ⟨⟨b11, rfl, -, rfl⟩, -⟩ s10 _ ⟨rfl, hvq⟩ a w10 Z Y
   obtain rfl := hvq rfl
   have Z : Fr 66 [(44, _), (45, _), (46, _), (47, _), (48, _), (49, _), (50, _), (51, _), (0, _), (1, _), (2, _), (3, _), (4, _), (17, _), (18, _), (19, _), (20, _), (21, _), (5, _), (22, _), (23, _), (24, _), (25, _), (26, _), (27, _), (28, _), (7, _), (6, _), (29, _), (30, _), (31, _), (32, _), (33, _), (8, _), (9, _), (42, _), (43, _)] [] a := Z
   replace Y : St M w0 [_, _, _, _, _, _, _, _, _, _, _, _] w10 := Y
   refine wlv Z (bf rfl) fun a Z => wlv Z (ac (v := po x.bm 12) rfl kr) fun a Z => cY 6 Z Y (Y.ow 1 rfl) rfl rfl rfl (sizeOf47 _) (lb rfl) (ds := [iv rl.answer, iv rl.cooling, iv rl.settle, iv rl.reverse, iv cl.number, iv cl.frm, iv cl.to, iv cl.holder, iv cl.asked, .bool cl.backed, .map (some x.dm), .map (some x.em), s10]) rfl rfl fun a w11 Z Y => ab <| hK17 _ _ ?_
   have Z : Fr 66 [(0, _), (1, _), (2, _), (3, _), (4, _), (17, _), (18, _), (19, _), (20, _), (21, _), (5, _), (22, _), (23, _), (24, _), (25, _), (26, _), (27, _), (28, _), (7, _), (6, _), (29, _), (30, _), (31, _), (32, _), (33, _), (8, _), (9, _), (42, _), (43, _)] [] a := Z.pick [0, 1, 2, 3, 4, 17, 18, 19, 20, 21, 5, 22, 23, 24, 25, 26, 27, 28, 7, 6, 29, 30, 31, 32, 33, 8, 9, 42, 43]
   replace Y := Y.k11 4094 rfl
   refine aX <| hK10 _ _ <| ar <| wlv Z (aS rfl rfl ⟨om, om⟩) fun a Z => wlm Z rfl fun a Z => ab ?_
   rw [show (vo.map fun i => [iv i]) ++ [[iv (k : Int)]] = ((vo ++ [(k : Int)]).map fun i => [iv i]) from by simp] at Y
   refine ⟨_, ?_, k + 1, e1, now1, dn ++ alone rl ev.at_ nw, vo ++ [(k : Int)], s10, rfl, om, (by rw [hsp, gp hkl hev hn1 (by assumption)]; simp), (by rw [hvo, gp hkl hev hn1 (by assumption)]; simp), hso1, (by have := eF rl ev.at_ nw; simp; omega), (by first | omega | (simp; omega)), hJ, Z.pick [0, 1, 2, 3, 4, 17, 18, 19, 20, 21, 5, 22, 23, 24], Y.select [1, 2, 3, 4, 8, 5, 6, 9, 0, 10] de⟩
   omega
  rw [hc8] at Z
  try simp only [qz] at hc8
  refine az <| hK15 _ _ <| aa fun K18 hK18 => wlv Z (ld Y 3 rfl rfl (isAgg97 _) rfl) fun a Z => wlm Z rfl fun a Z => wlv Z (ac (v := po w5.hz 1) rfl kr) fun a Z => wlv Z (ld Y 6 rfl rfl (isAgg3 _) rfl) fun a Z => aA Z Y de call62 rfl (gv ((after cl.backed now1.state ev).1) rl cl x vd ev.at_ _ (Y.g 4 rfl) (Y.g 5 rfl) hr om om) fun a w12 Z Y => am 1 Z Y rfl rfl rfl (sizeOf75 _) rfl (lb rfl) (ds := [iv ((begins rl ((after cl.backed now1.state ev).1) ev.at_).state), iv ((begins rl ((after cl.backed now1.state ev).1) ev.at_).since), iv ((begins rl ((after cl.backed now1.state ev).1) ev.at_).next)]) rfl rfl fun a w13 Z Y => ab (hK18 _ _ <| aa fun K19 hK19 => ?_)
  refine wlv Z (ld Y 2 rfl rfl (isAgg123 _) rfl) fun a Z => wlv Z (ai (Y.g 1 rfl) rfl (isAgg75 _) (sizeOf75 _)) fun a Z => wl_r (eB rfl rfl (hY.yield (pre := dn ++ alone rl ev.at_ nw) (x := begins rl (after cl.backed now1.state ev).1 ev.at_) (by have := eF rl ev.at_ nw; simp only [NxS, List.length_append]; omega) hJ (Y.only (i := 0) rfl))) rfl rfl Z fun a v w14 hR Z => ?_
  obtain ⟨y12, e13, rfl, hx, hok, hft, hJt, hJf⟩ := hR
  have Y := Y.exchange (k := 0) rfl hx hok hft
  replace Y : St M w0 [_, _, _, _, _, _, _, _, _, _, _] w14 := Y
  clear hx hok hft
  refine wlv Z (bu rfl) fun a Z => ab (hK19 _ _ ?_)
  refine ax Z rfl (fun hc14 => ?_) (fun hc14 => ?_)
  ·rw [hc14] at Z
   try simp only [qz] at hc14
   have hJx := hJf hc14
   refine ap ?_
   refine aj Z results61 ag ?_
   exact ⟨_, _, Y.select [0, 3, 7, 4, 5, 8, 9, 10] de, .inr ⟨dn ++ alone rl ev.at_ nw ++ [begins rl (after cl.backed now1.state ev).1 ev.at_], ⟨⟨(runE rl cl.backed (k + 1) (begins rl (after cl.backed now1.state ev).1 ev.at_) (l.drop (k + 1))).1, (by rw [hsp, gY hkl hev hn1 (by assumption)]; simp)⟩, _, _, rfl⟩, hJx⟩⟩
  rw [hc14] at Z
  try simp only [qz] at hc14
  have hJ := hJt hc14
  refine az <| hK10 _ _ <| ar <| wlv Z (aS rfl rfl ⟨om, om⟩) fun a Z => wlm Z rfl fun a Z => ab ?_
  refine ⟨_, ?_, k + 1, e13, begins rl (after cl.backed now1.state ev).1 ev.at_, dn ++ alone rl ev.at_ nw ++ [begins rl (after cl.backed now1.state ev).1 ev.at_], vo, vd, rfl, om, (by rw [hsp, gY hkl hev hn1 (by assumption)]; simp), (by rw [hvo, gY hkl hev hn1 (by assumption)]), (Sound.begins _ _ om om), (by have := eF rl ev.at_ nw; simp; omega), (by first | omega | (simp; omega)), hJ, Z.pick [0, 1, 2, 3, 4, 17, 18, 19, 20, 21, 5, 22, 23, 24], Y.select [0, 1, 2, 3, 7, 4, 5, 8, 9, 10] de⟩
  omega
 rw [hc5] at Z
 try simp only [qz] at hc5
 refine aX <| hK6 _ _ <| ar <| wlm Z rfl fun a Z => ?_
 have Y : St M w0 [e, blk b1 [iv nw.state, iv nw.since, iv nw.next] 75, blk ws.hz [.func (.yield lp) #[] #[]] 123, blk bp [pt x.bm] 97, blk x.bm [iv rl.answer, iv rl.cooling, iv rl.settle, iv rl.reverse, iv cl.number, iv cl.frm, iv cl.to, iv cl.holder, iv cl.asked, .bool cl.backed, .map (some x.dm), .map (some x.em), vd] 106, mapE x.dm duesKV, blk bl [sv] 32, mapE x.em effAll, own vd 3 1 (vo.map fun i => [iv i]), er] w5 := Y.select [0, 1, 2, 3, 5, 6, 4, 7, 8, 9] de
 have Y : St M w0 [e, blk b1 [iv nw.state, iv nw.since, iv nw.next] 75, blk ws.hz [.func (.yield lp) #[] #[]] 123, blk bp [pt x.bm] 97, blk x.bm [iv rl.answer, iv rl.cooling, iv rl.settle, iv rl.reverse, iv cl.number, iv cl.frm, iv cl.to, iv cl.holder, iv cl.asked, .bool cl.backed, .map (some x.dm), .map (some x.em), vd] 106, mapE x.dm duesKV, join [blk bl [sv] 32, mapE x.em effAll, own vd 3 1 (vo.map fun i => [iv i]), er]] w5 := St.joinTail [e, blk b1 [iv nw.state, iv nw.since, iv nw.next] 75, blk ws.hz [.func (.yield lp) #[] #[]] 123, blk bp [pt x.bm] 97, blk x.bm [iv rl.answer, iv rl.cooling, iv rl.settle, iv rl.reverse, iv cl.number, iv cl.frm, iv cl.to, iv cl.holder, iv cl.asked, .bool cl.backed, .map (some x.dm), .map (some x.em), vd] 106, mapE x.dm duesKV] [blk bl [sv] 32, mapE x.em effAll, own vd 3 1 (vo.map fun i => [iv i]), er] Y
 have hdl4 : dn.length + 4 < 200 := by omega
 have hcall := lP rl cl x vd lp b1 ws.hz bp J Jx hY 4611686018427387904 nw dn e _ hr hso hJ hdl4 Y
 refine wl_r (dQ (cap := [pt b1, pt bp, pt ws.hz]) (vs := [iv 4611686018427387904]) rfl call63 rfl hcall) rfl rfl Z fun a v w15 hR Z => ?_
 clear hcall
 obtain ⟨ya15, e1, rfl, hyt, hyf⟩ := hR
 refine ab ?_
 refine dk Z results61 ag ?_
 have hk : k = l.length := by omega
 subst hk
 rw [List.drop_length, runE] at hsp hvo
 rw [List.append_nil] at hvo
 cases ya15 with
 | true =>
  obtain ⟨hJ, Y⟩ := hyt rfl
  have Y := St.unjoinTail [e1, blk b1 [iv ((lastOf nw (alone rl 4611686018427387904 nw)).state), iv ((lastOf nw (alone rl 4611686018427387904 nw)).since), iv ((lastOf nw (alone rl 4611686018427387904 nw)).next)] 75, blk ws.hz [.func (.yield lp) #[] #[]] 123, blk bp [pt x.bm] 97, blk x.bm [iv rl.answer, iv rl.cooling, iv rl.settle, iv rl.reverse, iv cl.number, iv cl.frm, iv cl.to, iv cl.holder, iv cl.asked, .bool cl.backed, .map (some x.dm), .map (some x.em), vd] 106, mapE x.dm duesKV] [blk bl [sv] 32, mapE x.em effAll, own vd 3 1 (vo.map fun i => [iv i]), er] Y
  exact ⟨_, _, Y.select [0, 3, 6, 4, 5, 7, 8, 9] de, .inl ⟨_, ⟨rfl, vd, by rw [hvo]; rfl⟩, by rw [hsp]; exact hJ⟩⟩
 | false =>
  obtain ⟨p1, p2, now1, hp12, hJx, Y⟩ := hyf rfl
  have Y := St.unjoinTail [e1, blk b1 [iv now1.state, iv now1.since, iv now1.next] 75, blk ws.hz [.func (.yield lp) #[] #[]] 123, blk bp [pt x.bm] 97, blk x.bm [iv rl.answer, iv rl.cooling, iv rl.settle, iv rl.reverse, iv cl.number, iv cl.frm, iv cl.to, iv cl.holder, iv cl.asked, .bool cl.backed, .map (some x.dm), .map (some x.em), vd] 106, mapE x.dm duesKV] [blk bl [sv] 32, mapE x.em effAll, own vd 3 1 (vo.map fun i => [iv i]), er] Y
  exact ⟨_, _, Y.select [0, 3, 6, 4, 5, 7, 8, 9] de, .inr ⟨dn ++ p1, ⟨⟨p2, by rw [hsp, hp12]; simp⟩, vd, vo, rfl⟩, hJx⟩⟩
theorem eb {M : Nat → Prop} {w0 : World} {er : Ent} (rl : Rul) (cl : Clm) (x : Mach) (sv : Value) (l : List Evt) (bp bl : Nat) (hv : valid rl cl l = true) (hsv : ∀ H w, St M w0 H w → SlAt w sv 3 (l.map Evt.cells)) :
  Iter Tryz.prog 61 [pt bp, pt bl] encS NxS (fun xs Hi => xs = bE rl cl l ∧ ∃ vd, Hi = [blk bp [pt x.bm] 97, blk bl [sv] 32, blk x.bm [iv rl.answer, iv rl.cooling, iv rl.settle, iv rl.reverse, iv cl.number, iv cl.frm, iv cl.to, iv cl.holder, iv cl.asked, .bool cl.backed, .map (some x.dm), .map (some x.em), vd] 106, mapE x.dm duesKV, mapE x.em effAll, own vd 3 1 ((voids rl cl l).map fun i => [iv i]), er]) (fun pre Hi => (∃ rest, bE rl cl l = pre ++ rest) ∧ ∃ (vd : Value) (vo : List Int), Hi = [blk bp [pt x.bm] 97, blk bl [sv] 32, blk x.bm [iv rl.answer, iv rl.cooling, iv rl.settle, iv rl.reverse, iv cl.number, iv cl.frm, iv cl.to, iv cl.holder, iv cl.asked, .bool cl.backed, .map (some x.dm), .map (some x.em), vd] 106, mapE x.dm duesKV, mapE x.em effAll, own vd 3 1 (vo.map fun i => [iv i]), er]) M w0 [blk bp [pt x.bm] 97, blk bl [sv] 32, blk x.bm [iv rl.answer, iv rl.cooling, iv rl.settle, iv rl.reverse, iv cl.number, iv cl.frm, iv cl.to, iv cl.holder, iv cl.asked, .bool cl.backed, .map (some x.dm), .map (some x.em), .slice none 0 0] 106, mapE x.dm duesKV, mapE x.em effAll, own (.slice none 0 0) 3 1 (([]).map fun i => [iv i]), er] :=
 fun lp J Jx w e hY hJ Y => jX rl cl x sv l lp bp bl J Jx hY e w hv hsv hJ Y
theorem ey (bm : Nat) (sv : Value) (els : List (List Value)) (w0 : World) (hsv : SlAt w0 sv 3 els) :
  Ret Tryz.prog 44 #[pt bm, sv] w0 (MemR w0 (fun z : Nat × Nat => .func (.func 61) #[] #[pt z.1, pt z.2]) (fun z => [blk z.2 [sv] 32, blk z.1 [pt bm] 97]) (fun _ => True)) := by
 refine aD func44 rfl ntmps44 (lb rfl) fun a Z => ?_
 replace Z := Z.p2 0 1 rfl
 have Y : St No w0 [] w0 := St.init w0
 refine aa fun K1 hK1 => aG Z Y de rfl (cs := [pt bm]) rfl fun a w1 Z Y => aG Z Y de rfl (cs := [sv]) (by rw [(Y.arg hsv).cells]) fun a w2 Z Y => wla Z rfl fun a Z => ab (hK1 _ _ <| aa fun K2 hK2 => ?_)
 refine wlv Z (cG rfl rfl) fun a Z => wla Z rfl fun a Z => ab (hK2 _ _ <| ap ?_)
 refine aj Z results44 (ae rfl ag) ?_
 exact ⟨(w0.hz, w1.hz), rfl, trivial, Y.ext, St.out (H := []) Y⟩
theorem fL (rl : Rul) (cl : Clm) (sv : Value) (l : List Evt) (t : Int) (w0 : World) (hsv : SlAt w0 sv 3 (l.map Evt.cells)) (hv : valid rl cl l = true) (hin : isIn t 0 20000000 = true) :
  Ret Tryz.prog 20 #[.agg #[iv rl.answer, iv rl.cooling, iv rl.settle, iv rl.reverse], .agg #[iv cl.number, iv cl.frm, iv cl.to, iv cl.holder, iv cl.asked, .bool cl.backed], sv, iv t] w0 fun v w => v = .tuple #[(ce rl cl l t).val, iv 0] ∧ Ext No w0 w := by
 refine aD func20 rfl ntmps20 (lb rfl) fun a Z => ?_
 replace Z := Z.p4 0 1 2 3 rfl
 have Y : St No w0 [] w0 := St.init w0
 refine aa fun K1 hK1 => aG Z Y de rfl (cs := [iv rl.answer, iv rl.cooling, iv rl.settle, iv rl.reverse]) rfl fun a w1 Z Y => aG Z Y de rfl (cs := [iv cl.number, iv cl.frm, iv cl.to, iv cl.holder, iv cl.asked, .bool cl.backed]) rfl fun a w2 Z Y => aG Z Y de rfl (cs := [iv t]) rfl fun a w3 Z Y => aH Z Y de (zeroValue75 _) (cs := [iv 0, iv 0, iv 0]) rfl fun a w4 Z Y => wla Z rfl fun a Z => ab (hK1 _ _ <| aa fun K2 hK2 => ?_)
 refine wlv Z (ai (Y.g 3 rfl) rfl (isAgg29 _) (sizeOf29 _)) fun a Z => wlv Z (ai (Y.g 2 rfl) rfl (isAgg31 _) (sizeOf31 _)) fun a Z => wlm Z rfl fun a Z => bI Z Y de call43 rfl (gX rl cl sv l _ (Y.arg hsv) hv) fun a w5 x2 hp Z Y => ?_
 revert x2 hp Z Y; rintro x1 hp Z Y
 clear hp
 replace Y : St No w0 [_, _, _, _, _, _, _] w5 := Y
 refine wlm Z rfl fun a Z => wlv Z (aw rfl rfl) fun a Z => wlv Z (aw rfl rfl) fun a Z => wla Z rfl fun a Z => wla Z rfl fun a Z => ab (hK2 _ _ ?_)
 replace Z := Z.p11 0 1 2 3 4 5 7 8 9 10 11 rfl
 refine ah fun K3 hK3 => aa fun K4 hK4 => wlm Z rfl fun a Z => wlv Z ((v_ne rfl rfl).asb (b' := false) rfl) fun a Z => wlm Z rfl fun a Z => wly Z (ld Y 4 rfl rfl (isAgg3 _) rfl) fun a Z => aF Z Y de rfl de rfl call46 rfl ((hin ▸ cd _ _ _ _)) fun a w6 Z Y => wly Z ((bu rfl).asb (b' := false) rfl) fun a Z => wlv Z (aq rfl rfl) fun a Z => ab (hK4 _ _ ?_)
 replace Z := Z.p12 0 1 2 3 4 5 7 8 9 10 11 27 rfl
 refine bC Z rfl ?_
 refine az <| hK3 _ _ <| aa fun K5 hK5 => wlv Z (ac (v := po w1.hz 4) rfl kr) fun a Z => wlv Z (ld Y 5 rfl rfl (isAgg3 _) rfl) fun a Z => wlv Z (aY (v := .agg #[iv 0, iv 0, iv cl.asked]) rfl kr) fun a Z => aH Z Y de (zeroValue75 _) (cs := [iv 0, iv 0, iv 0]) rfl fun a w7 Z Y => am 0 Z Y rfl rfl rfl (sizeOf75 _) rfl (lb rfl) (ds := [iv 0, iv 0, iv cl.asked]) rfl rfl fun a w8 Z Y => ab (hK5 _ _ <| ah fun K6 hK6 => ?_)
 refine aa fun K7 hK7 => wlm Z rfl fun a Z => wlm Z rfl fun a Z => bI Z Y de call44 rfl (ey _ _ _ _ (Y.arg hsv)) fun a w9 x5 hp Z Y => ?_
 obtain ⟨bp3, bl4⟩ := x5
 clear hp
 replace Y : St No w0 [_, _, _, _, _, _, _, _, _, _] w9 := Y
 refine ab (hK7 _ _ <| ay ?_)
 have Y : St No w0 (own (.slice none 0 0) 3 1 [] :: [blk bl4 [sv] 32, blk bp3 [pt x1.bm] 97, blk w6.hz [iv 0, iv 0, iv cl.asked] 75, blk x1.bm [iv rl.answer, iv rl.cooling, iv rl.settle, iv rl.reverse, iv cl.number, iv cl.frm, iv cl.to, iv cl.holder, iv cl.asked, .bool cl.backed, .map (some x1.dm), .map (some x1.em), .slice none 0 0] 106, mapE x1.dm duesKV, mapE x1.em effAll, blk w3.hz [iv 0, iv 0, iv 0] 75, blk w2.hz [iv t] 3, blk w1.hz [iv cl.number, iv cl.frm, iv cl.to, iv cl.holder, iv cl.asked, .bool cl.backed] 31, blk w0.hz [iv rl.answer, iv rl.cooling, iv rl.settle, iv rl.reverse] 29]) w9 := Y.nil_own
 have Y : St No w0 [blk w6.hz [iv 0, iv 0, iv cl.asked] 75, blk w2.hz [iv t] 3, blk bp3 [pt x1.bm] 97, blk bl4 [sv] 32, blk x1.bm [iv rl.answer, iv rl.cooling, iv rl.settle, iv rl.reverse, iv cl.number, iv cl.frm, iv cl.to, iv cl.holder, iv cl.asked, .bool cl.backed, .map (some x1.dm), .map (some x1.em), .slice none 0 0] 106, mapE x1.dm duesKV, mapE x1.em effAll, own (.slice none 0 0) 3 1 (([] : List Int).map fun i => [iv i]), blk w3.hz [iv 0, iv 0, iv 0] 75, blk w1.hz [iv cl.number, iv cl.frm, iv cl.to, iv cl.holder, iv cl.asked, .bool cl.backed] 31, blk w0.hz [iv rl.answer, iv rl.cooling, iv rl.settle, iv rl.reverse] 29] w9 := Y.select [3, 8, 2, 1, 4, 5, 6, 0, 7, 9, 10] de
 have Y : St No w0 [blk w6.hz [iv 0, iv 0, iv cl.asked] 75, blk w2.hz [iv t] 3, blk bp3 [pt x1.bm] 97, blk bl4 [sv] 32, blk x1.bm [iv rl.answer, iv rl.cooling, iv rl.settle, iv rl.reverse, iv cl.number, iv cl.frm, iv cl.to, iv cl.holder, iv cl.asked, .bool cl.backed, .map (some x1.dm), .map (some x1.em), .slice none 0 0] 106, mapE x1.dm duesKV, mapE x1.em effAll, own (.slice none 0 0) 3 1 (([] : List Int).map fun i => [iv i]), join [blk w3.hz [iv 0, iv 0, iv 0] 75, blk w1.hz [iv cl.number, iv cl.frm, iv cl.to, iv cl.holder, iv cl.asked, .bool cl.backed] 31, blk w0.hz [iv rl.answer, iv rl.cooling, iv rl.settle, iv rl.reverse] 29]] w9 := St.joinTail [blk w6.hz [iv 0, iv 0, iv cl.asked] 75, blk w2.hz [iv t] 3, blk bp3 [pt x1.bm] 97, blk bl4 [sv] 32, blk x1.bm [iv rl.answer, iv rl.cooling, iv rl.settle, iv rl.reverse, iv cl.number, iv cl.frm, iv cl.to, iv cl.holder, iv cl.asked, .bool cl.backed, .map (some x1.dm), .map (some x1.em), .slice none 0 0] 106, mapE x1.dm duesKV, mapE x1.em effAll, own (.slice none 0 0) 3 1 (([] : List Int).map fun i => [iv i])] [blk w3.hz [iv 0, iv 0, iv 0] 75, blk w1.hz [iv cl.number, iv cl.frm, iv cl.to, iv cl.holder, iv cl.asked, .bool cl.backed] 31, blk w0.hz [iv rl.answer, iv rl.cooling, iv rl.settle, iv rl.reverse] 29] Y
 have Y : St No w0 [blk w6.hz [iv ((lastOf ⟨0, 0, cl.asked⟩ ([])).state), iv ((lastOf ⟨0, 0, cl.asked⟩ ([])).since), iv ((lastOf ⟨0, 0, cl.asked⟩ ([])).next)] 75, blk w2.hz [iv t] 3, blk bp3 [pt x1.bm] 97, blk bl4 [sv] 32, blk x1.bm [iv rl.answer, iv rl.cooling, iv rl.settle, iv rl.reverse, iv cl.number, iv cl.frm, iv cl.to, iv cl.holder, iv cl.asked, .bool cl.backed, .map (some x1.dm), .map (some x1.em), .slice none 0 0] 106, mapE x1.dm duesKV, mapE x1.em effAll, own (.slice none 0 0) 3 1 (([] : List Int).map fun i => [iv i]), join [blk w3.hz [iv 0, iv 0, iv 0] 75, blk w1.hz [iv cl.number, iv cl.frm, iv cl.to, iv cl.holder, iv cl.asked, .bool cl.backed] 31, blk w0.hz [iv rl.answer, iv rl.cooling, iv rl.settle, iv rl.reverse] 29]] w9 := Y.select [0, 1, 2, 3, 4, 5, 6, 7, 8] de
 have Z : Fr 42 [(0, .agg #[iv rl.answer, iv rl.cooling, iv rl.settle, iv rl.reverse]), (1, .agg #[iv cl.number, iv cl.frm, iv cl.to, iv cl.holder, iv cl.asked, .bool cl.backed]), (2, sv), (3, iv t), (4, pt w0.hz), (5, pt w1.hz), (7, pt w2.hz), (8, pt w3.hz), (9, iv 0), (10, pt x1.bm), (11, iv 0), (27, .bool false), (29, po w1.hz 4), (30, iv cl.asked), (31, .agg #[iv 0, iv 0, iv cl.asked]), (12, pt w6.hz), (32, pt x1.bm), (33, sv), (34, .func (.func 61) #[] #[pt bp3, pt bl4])] [] a := Z.pick [0, 1, 2, 3, 4, 5, 7, 8, 9, 10, 11, 27, 29, 30, 31, 12, 32, 33, 34]
 refine eo (M := No) (w0 := w0) (encs := encS) (Hi := [blk bp3 [pt x1.bm] 97, blk bl4 [sv] 32, blk x1.bm [iv rl.answer, iv rl.cooling, iv rl.settle, iv rl.reverse, iv cl.number, iv cl.frm, iv cl.to, iv cl.holder, iv cl.asked, .bool cl.backed, .map (some x1.dm), .map (some x1.em), .slice none 0 0] 106, mapE x1.dm duesKV, mapE x1.em effAll, own (.slice none 0 0) 3 1 (([] : List Int).map fun i => [iv i]), join [blk w3.hz [iv 0, iv 0, iv 0] 75, blk w1.hz [iv cl.number, iv cl.frm, iv cl.to, iv cl.holder, iv cl.asked, .bool cl.backed] 31, blk w0.hz [iv rl.answer, iv rl.cooling, iv rl.settle, iv rl.reverse] 29]]) (Hc := [blk w6.hz [iv ((lastOf ⟨0, 0, cl.asked⟩ ([])).state), iv ((lastOf ⟨0, 0, cl.asked⟩ ([])).since), iv ((lastOf ⟨0, 0, cl.asked⟩ ([])).next)] 75, blk w2.hz [iv t] 3]) (fun pre H => (∀ s ∈ pre, s.since ≤ t) ∧ H = [blk w6.hz [iv ((lastOf ⟨0, 0, cl.asked⟩ pre).state), iv ((lastOf ⟨0, 0, cl.asked⟩ pre).since), iv ((lastOf ⟨0, 0, cl.asked⟩ pre).next)] 75, blk w2.hz [iv t] 3]) (fun c pre H => c = .exit 0 ∧ ∃ (pp : List Stt), ∃ (xx : Stt), (pre = pp ++ [xx]) ∧ (∀ s ∈ pp, s.since ≤ t) ∧ (t < xx.since) ∧ H = [blk w6.hz [iv ((lastOf ⟨0, 0, cl.asked⟩ pp).state), iv ((lastOf ⟨0, 0, cl.asked⟩ pp).since), iv ((lastOf ⟨0, 0, cl.asked⟩ pp).next)] 75, blk w2.hz [iv t] 3]) (fun pre xs H a => ∃ (bA0 : Nat), Fr 42 [(0, .agg #[iv rl.answer, iv rl.cooling, iv rl.settle, iv rl.reverse]), (1, .agg #[iv cl.number, iv cl.frm, iv cl.to, iv cl.holder, iv cl.asked, .bool cl.backed]), (2, sv), (3, iv t), (4, pt w0.hz), (5, pt w1.hz), (7, pt w2.hz), (8, pt w3.hz), (9, iv 0), (10, pt x1.bm), (11, iv 0), (27, .bool false), (29, po w1.hz 4), (30, iv cl.asked), (31, .agg #[iv 0, iv 0, iv cl.asked]), (12, pt w6.hz), (32, pt x1.bm), (33, sv), (34, .func (.func 61) #[] #[pt bp3, pt bl4]), (13, pt bA0)] [] a ∧ (∀ s ∈ pre, s.since ≤ t) ∧ H = [blk bA0 [iv xs.state, iv xs.since, iv xs.next] 75, blk w6.hz [iv ((lastOf ⟨0, 0, cl.asked⟩ pre).state), iv ((lastOf ⟨0, 0, cl.asked⟩ pre).since), iv ((lastOf ⟨0, 0, cl.asked⟩ pre).next)] 75, blk w2.hz [iv t] 3]) rfl call61 Z Y (eb rl cl x1 sv l bp3 bl4 hv (fun H w h => h.arg hsv)) de (fun _ => rfl) ⟨sm, rfl⟩ ?_ ?_ ?_ ?_
 ·rintro lp pre xs _ a w10 hnx ⟨hle, rfl⟩ Z Y
  generalize (join [blk w6.hz [iv ((lastOf ⟨0, 0, cl.asked⟩ pre).state), iv ((lastOf ⟨0, 0, cl.asked⟩ pre).since), iv ((lastOf ⟨0, 0, cl.asked⟩ pre).next)] 75, blk w2.hz [iv t] 3]).foot = M1 at Y ⊢
  have Z : Fr 42 [(35, .agg #[iv xs.state, iv xs.since, iv xs.next]), (0, .agg #[iv rl.answer, iv rl.cooling, iv rl.settle, iv rl.reverse]), (1, .agg #[iv cl.number, iv cl.frm, iv cl.to, iv cl.holder, iv cl.asked, .bool cl.backed]), (2, sv), (3, iv t), (4, pt w0.hz), (5, pt w1.hz), (7, pt w2.hz), (8, pt w3.hz), (9, iv 0), (10, pt x1.bm), (11, iv 0), (27, .bool false), (29, po w1.hz 4), (30, iv cl.asked), (31, .agg #[iv 0, iv 0, iv cl.asked]), (12, pt w6.hz), (32, pt x1.bm), (33, sv), (34, .func (.func 61) #[] #[pt bp3, pt bl4])] [] a := Z
  refine ar <| aH Z Y de (zeroValue75 _) (cs := [iv 0, iv 0, iv 0]) rfl fun a w11 Z Y => am 0 Z Y rfl rfl rfl (sizeOf75 _) rfl (lb rfl) (ds := [iv xs.state, iv xs.since, iv xs.next]) rfl rfl fun a w12 Z Y => ab ?_
  exact ⟨_, ⟨w10.hz, Z.pick [0, 1, 2, 3, 4, 5, 7, 8, 9, 10, 11, 27, 29, 30, 31, 12, 32, 33, 34, 13], hle, rfl⟩, Y⟩
 ·rintro lp pre xs _ a w13 hnx ⟨bA0, Z, hle, rfl⟩ hout hrec hnl Y
  clear hrec hnl
  generalize (join [blk bA0 [iv xs.state, iv xs.since, iv xs.next] 75, blk w6.hz [iv ((lastOf ⟨0, 0, cl.asked⟩ pre).state), iv ((lastOf ⟨0, 0, cl.asked⟩ pre).since), iv ((lastOf ⟨0, 0, cl.asked⟩ pre).next)] 75, blk w2.hz [iv t] 3]).foot = M1 at Y hout ⊢
  refine ay <| ah fun K8 hK8 => aa fun K9 hK9 => wlv Z (ac (v := po bA0 1) rfl kr) fun a Z => wlv Z (ld Y 0 rfl rfl (isAgg3 _) rfl) fun a Z => wlv Z (ld Y 2 rfl rfl (isAgg3 _) rfl) fun a Z => wlv Z (v_gt rfl rfl) fun a Z => ab (hK9 _ _ ?_)
  refine ax Z rfl (fun hc6 => ?_) (fun hc6 => ?_)
  ·rw [hc6] at Z
   try simp only [qz] at hc6
   refine aX ?_
   exact ⟨_, ⟨rfl, pre, xs, rfl, hle, om, rfl⟩, Y.select [1, 2] de⟩
  rw [hc6] at Z
  try simp only [qz] at hc6
  refine az <| hK8 _ _ <| ar <| wlv Z (ai (Y.g 0 rfl) rfl (isAgg75 _) (sizeOf75 _)) fun a Z => am 1 Z Y rfl rfl rfl (sizeOf75 _) rfl (lb rfl) (ds := [iv xs.state, iv xs.since, iv xs.next]) rfl rfl fun a w14 Z Y => ab ?_
  rw [← gE ⟨0, 0, cl.asked⟩ xs pre] at Y
  exact ⟨_, ⟨(by intro s hs; rcases List.mem_append.1 hs with h | h; exact hle s h; simp at h; subst h; omega), rfl⟩, Y.select [1, 2] de⟩
 ·rintro D pre _ _ a w15 ⟨rfl, vd, rfl⟩ ⟨hle, rfl⟩ Y Z
  have Z : Fr 42 [(0, .agg #[iv rl.answer, iv rl.cooling, iv rl.settle, iv rl.reverse]), (1, .agg #[iv cl.number, iv cl.frm, iv cl.to, iv cl.holder, iv cl.asked, .bool cl.backed]), (2, sv), (3, iv t), (4, pt w0.hz), (5, pt w1.hz), (7, pt w2.hz), (8, pt w3.hz), (9, iv 0), (10, pt x1.bm), (11, iv 0), (27, .bool false), (29, po w1.hz 4), (30, iv cl.asked), (31, .agg #[iv 0, iv 0, iv cl.asked]), (12, pt w6.hz), (32, pt x1.bm), (33, sv), (34, .func (.func 61) #[] #[pt bp3, pt bl4])] [{ target := .collected D, args := #[] }] a := Z
  replace Y : St No w0 [_, _, _, _, _, _, _, _, _, _] w15 := Y
  have Y : St No w0 [obj D (.deferred (some [])), blk w6.hz [iv ((lastOf ⟨0, 0, cl.asked⟩ (bE rl cl l)).state), iv ((lastOf ⟨0, 0, cl.asked⟩ (bE rl cl l)).since), iv ((lastOf ⟨0, 0, cl.asked⟩ (bE rl cl l)).next)] 75, blk w2.hz [iv t] 3, blk bp3 [pt x1.bm] 97, blk bl4 [sv] 32, blk x1.bm [iv rl.answer, iv rl.cooling, iv rl.settle, iv rl.reverse, iv cl.number, iv cl.frm, iv cl.to, iv cl.holder, iv cl.asked, .bool cl.backed, .map (some x1.dm), .map (some x1.em), vd] 106, mapE x1.dm duesKV, mapE x1.em effAll, own vd 3 1 ((voids rl cl l).map fun i => [iv i]), blk w3.hz [iv 0, iv 0, iv 0] 75, blk w1.hz [iv cl.number, iv cl.frm, iv cl.to, iv cl.holder, iv cl.asked, .bool cl.backed] 31, blk w0.hz [iv rl.answer, iv rl.cooling, iv rl.settle, iv rl.reverse] 29] w15 := St.unjoinTail [obj D (.deferred (some [])), blk w6.hz [iv ((lastOf ⟨0, 0, cl.asked⟩ (bE rl cl l)).state), iv ((lastOf ⟨0, 0, cl.asked⟩ (bE rl cl l)).since), iv ((lastOf ⟨0, 0, cl.asked⟩ (bE rl cl l)).next)] 75, blk w2.hz [iv t] 3, blk bp3 [pt x1.bm] 97, blk bl4 [sv] 32, blk x1.bm [iv rl.answer, iv rl.cooling, iv rl.settle, iv rl.reverse, iv cl.number, iv cl.frm, iv cl.to, iv cl.holder, iv cl.asked, .bool cl.backed, .map (some x1.dm), .map (some x1.em), vd] 106, mapE x1.dm duesKV, mapE x1.em effAll, own vd 3 1 ((voids rl cl l).map fun i => [iv i])] [blk w3.hz [iv 0, iv 0, iv 0] 75, blk w1.hz [iv cl.number, iv cl.frm, iv cl.to, iv cl.holder, iv cl.asked, .bool cl.backed] 31, blk w0.hz [iv rl.answer, iv rl.cooling, iv rl.settle, iv rl.reverse] 29] Y
  refine hK6 _ _ <| aa fun K10 hK10 => wlv Z (ai (Y.g 1 rfl) rfl (isAgg75 _) (sizeOf75 _)) fun a Z => am 9 Z Y rfl rfl rfl (sizeOf75 _) rfl (lb rfl) (ds := [iv ((lastOf ⟨0, 0, cl.asked⟩ (bE rl cl l)).state), iv ((lastOf ⟨0, 0, cl.asked⟩ (bE rl cl l)).since), iv ((lastOf ⟨0, 0, cl.asked⟩ (bE rl cl l)).next)]) rfl rfl fun a w16 Z Y => wla Z rfl fun a Z => ab (hK10 _ _ <| ap ?_)
  have hD := Y.g 0 rfl
  have Y := Y.unmark (i := 0) (o' := .deferred none) rfl
  replace Y : St No w0 [_, _, _, _, _, _, _, _, _, _, _] _ := Y
  refine cy Z hD results20 (aB rfl (bB (Y.g 8 rfl) (isAgg75 _) (sizeOf75 _)) (ae rfl ag)) ?_
  exact ⟨by simp only [retv]; rw [jV hle]; rfl, Y.ext⟩
 ·rintro D _ pre _ _ a w17 ⟨⟨rest, hrest⟩, vd, vo, rfl⟩ ⟨rfl, pp, xx, hpp, hle, hxx, rfl⟩ Y Z
  have Z : Fr 42 [(0, .agg #[iv rl.answer, iv rl.cooling, iv rl.settle, iv rl.reverse]), (1, .agg #[iv cl.number, iv cl.frm, iv cl.to, iv cl.holder, iv cl.asked, .bool cl.backed]), (2, sv), (3, iv t), (4, pt w0.hz), (5, pt w1.hz), (7, pt w2.hz), (8, pt w3.hz), (9, iv 0), (10, pt x1.bm), (11, iv 0), (27, .bool false), (29, po w1.hz 4), (30, iv cl.asked), (31, .agg #[iv 0, iv 0, iv cl.asked]), (12, pt w6.hz), (32, pt x1.bm), (33, sv), (34, .func (.func 61) #[] #[pt bp3, pt bl4])] [{ target := .collected D, args := #[] }] a := Z
  replace Y : St No w0 [_, _, _, _, _, _, _, _, _, _] w17 := Y
  have Y : St No w0 [obj D (.deferred (some [])), blk w6.hz [iv ((lastOf ⟨0, 0, cl.asked⟩ pp).state), iv ((lastOf ⟨0, 0, cl.asked⟩ pp).since), iv ((lastOf ⟨0, 0, cl.asked⟩ pp).next)] 75, blk w2.hz [iv t] 3, blk bp3 [pt x1.bm] 97, blk bl4 [sv] 32, blk x1.bm [iv rl.answer, iv rl.cooling, iv rl.settle, iv rl.reverse, iv cl.number, iv cl.frm, iv cl.to, iv cl.holder, iv cl.asked, .bool cl.backed, .map (some x1.dm), .map (some x1.em), vd] 106, mapE x1.dm duesKV, mapE x1.em effAll, own vd 3 1 (vo.map fun i => [iv i]), blk w3.hz [iv 0, iv 0, iv 0] 75, blk w1.hz [iv cl.number, iv cl.frm, iv cl.to, iv cl.holder, iv cl.asked, .bool cl.backed] 31, blk w0.hz [iv rl.answer, iv rl.cooling, iv rl.settle, iv rl.reverse] 29] w17 := St.unjoinTail [obj D (.deferred (some [])), blk w6.hz [iv ((lastOf ⟨0, 0, cl.asked⟩ pp).state), iv ((lastOf ⟨0, 0, cl.asked⟩ pp).since), iv ((lastOf ⟨0, 0, cl.asked⟩ pp).next)] 75, blk w2.hz [iv t] 3, blk bp3 [pt x1.bm] 97, blk bl4 [sv] 32, blk x1.bm [iv rl.answer, iv rl.cooling, iv rl.settle, iv rl.reverse, iv cl.number, iv cl.frm, iv cl.to, iv cl.holder, iv cl.asked, .bool cl.backed, .map (some x1.dm), .map (some x1.em), vd] 106, mapE x1.dm duesKV, mapE x1.em effAll, own vd 3 1 (vo.map fun i => [iv i])] [blk w3.hz [iv 0, iv 0, iv 0] 75, blk w1.hz [iv cl.number, iv cl.frm, iv cl.to, iv cl.holder, iv cl.asked, .bool cl.backed] 31, blk w0.hz [iv rl.answer, iv rl.cooling, iv rl.settle, iv rl.reverse] 29] Y
  refine aX <| hK6 _ _ <| aa fun K11 hK11 => wlv Z (ai (Y.g 1 rfl) rfl (isAgg75 _) (sizeOf75 _)) fun a Z => am 9 Z Y rfl rfl rfl (sizeOf75 _) rfl (lb rfl) (ds := [iv ((lastOf ⟨0, 0, cl.asked⟩ pp).state), iv ((lastOf ⟨0, 0, cl.asked⟩ pp).since), iv ((lastOf ⟨0, 0, cl.asked⟩ pp).next)]) rfl rfl fun a w18 Z Y => wla Z rfl fun a Z => ab (hK11 _ _ <| ap ?_)
  have hD := Y.g 0 rfl
  have Y := Y.unmark (i := 0) (o' := .deferred none) rfl
  replace Y : St No w0 [_, _, _, _, _, _, _, _, _, _, _] _ := Y
  refine cy Z hD results20 (aB rfl (bB (Y.g 8 rfl) (isAgg75 _) (sizeOf75 _)) (ae rfl ag)) ?_
  exact ⟨by simp only [retv]; rw [kp (by rw [hrest, hpp]) hle hxx]; rfl, Y.ext⟩
theorem iP (rl : Rul) (cl : Clm) (sv : Value) (l : List Evt) (t : Int) (w0 : World) (hsv : SlAt w0 sv 3 (l.map Evt.cells)) (hv : valid rl cl l = true) (hin : isIn t 0 20000000 = false) :
  Ret Tryz.prog 20 #[.agg #[iv rl.answer, iv rl.cooling, iv rl.settle, iv rl.reverse], .agg #[iv cl.number, iv cl.frm, iv cl.to, iv cl.holder, iv cl.asked, .bool cl.backed], sv, iv t] w0 fun v w => v = .tuple #[.agg #[iv 0, iv 0, iv 0], iv 160] ∧ Ext No w0 w := by
 refine aD func20 rfl ntmps20 (lb rfl) fun a Z => ?_
 replace Z := Z.p4 0 1 2 3 rfl
 have Y : St No w0 [] w0 := St.init w0
 refine aa fun K1 hK1 => aG Z Y de rfl (cs := [iv rl.answer, iv rl.cooling, iv rl.settle, iv rl.reverse]) rfl fun a w1 Z Y => aG Z Y de rfl (cs := [iv cl.number, iv cl.frm, iv cl.to, iv cl.holder, iv cl.asked, .bool cl.backed]) rfl fun a w2 Z Y => aG Z Y de rfl (cs := [iv t]) rfl fun a w3 Z Y => aH Z Y de (zeroValue75 _) (cs := [iv 0, iv 0, iv 0]) rfl fun a w4 Z Y => wla Z rfl fun a Z => ab (hK1 _ _ <| aa fun K2 hK2 => ?_)
 refine wlv Z (ai (Y.g 3 rfl) rfl (isAgg29 _) (sizeOf29 _)) fun a Z => wlv Z (ai (Y.g 2 rfl) rfl (isAgg31 _) (sizeOf31 _)) fun a Z => wlm Z rfl fun a Z => bI Z Y de call43 rfl (gX rl cl sv l _ (Y.arg hsv) hv) fun a w5 x2 hp Z Y => ?_
 revert x2 hp Z Y; rintro x1 hp Z Y
 clear hp
 replace Y : St No w0 [_, _, _, _, _, _, _] w5 := Y
 refine wlm Z rfl fun a Z => wlv Z (aw rfl rfl) fun a Z => wlv Z (aw rfl rfl) fun a Z => wla Z rfl fun a Z => wla Z rfl fun a Z => ab (hK2 _ _ ?_)
 replace Z := Z.p11 0 1 2 3 4 5 7 8 9 10 11 rfl
 refine ah fun K3 hK3 => aa fun K4 hK4 => wlm Z rfl fun a Z => wlv Z ((v_ne rfl rfl).asb (b' := false) rfl) fun a Z => wlm Z rfl fun a Z => wly Z (ld Y 4 rfl rfl (isAgg3 _) rfl) fun a Z => aF Z Y de rfl de rfl call46 rfl ((hin ▸ cd _ _ _ _)) fun a w6 Z Y => wly Z ((bu rfl).asb (b' := true) rfl) fun a Z => wlv Z (aq rfl rfl) fun a Z => ab (hK4 _ _ ?_)
 replace Z := Z.p12 0 1 2 3 4 5 7 8 9 10 11 27 rfl
 refine aN Z rfl ?_
 refine aa fun K5 hK5 => wlv Z (aY (v := .agg #[iv 0, iv 0, iv 0]) rfl kr) fun a Z => am 3 Z Y rfl rfl rfl (sizeOf75 _) rfl (lb rfl) (ds := [iv 0, iv 0, iv 0]) rfl rfl fun a w7 Z Y => wla Z rfl fun a Z => ab (hK5 _ _ <| ap ?_)
 refine aj Z results20 (aB rfl (bB (Y.g 3 rfl) (isAgg75 _) (sizeOf75 _)) (ae rfl ag)) ?_
 exact ⟨rfl, Y.ext⟩
theorem kE (rl : Rul) (cl : Clm) (sv : Value) (l : List Evt) (t : Int) (w0 : World) (hsv : SlAt w0 sv 3 (l.map Evt.cells)) (hv : valid rl cl l = true) (hin : isIn t 0 20000000 = true) :
  Ret Tryz.prog 19 #[.agg #[iv rl.answer, iv rl.cooling, iv rl.settle, iv rl.reverse], .agg #[iv cl.number, iv cl.frm, iv cl.to, iv cl.holder, iv cl.asked, .bool cl.backed], sv, iv t] w0 fun v w => v = .tuple #[iv (withAt rl cl l t), iv 0] ∧ Ext No w0 w := by
 refine aD func19 rfl ntmps19 (lb rfl) fun a Z => ?_
 replace Z := Z.p4 0 1 2 3 rfl
 have Y : St No w0 [] w0 := St.init w0
 refine aa fun K1 hK1 => aG Z Y de rfl (cs := [iv rl.answer, iv rl.cooling, iv rl.settle, iv rl.reverse]) rfl fun a w1 Z Y => aG Z Y de rfl (cs := [iv cl.number, iv cl.frm, iv cl.to, iv cl.holder, iv cl.asked, .bool cl.backed]) rfl fun a w2 Z Y => wla Z rfl fun a Z => wla Z rfl fun a Z => ab (hK1 _ _ <| aa fun K2 hK2 => ?_)
 refine wlv Z (ai (Y.g 1 rfl) rfl (isAgg29 _) (sizeOf29 _)) fun a Z => wlv Z (ai (Y.g 0 rfl) rfl (isAgg31 _) (sizeOf31 _)) fun a Z => wlm Z rfl fun a Z => wlm Z rfl fun a Z => aA Z Y de call20 rfl (fL rl cl sv l t _ (Y.arg hsv) hv hin) fun a w3 Z Y => wlm Z rfl fun a Z => wlv Z (aw rfl rfl) fun a Z => wlv Z (aw rfl rfl) fun a Z => aH Z Y de (zeroValue75 _) (cs := [iv 0, iv 0, iv 0]) rfl fun a w4 Z Y => am 0 Z Y rfl rfl rfl (sizeOf75 _) rfl (lb rfl) (ds := [iv ((ce rl cl l t).state), iv ((ce rl cl l t).since), iv ((ce rl cl l t).next)]) rfl rfl fun a w5 Z Y => wla Z rfl fun a Z => ab (hK2 _ _ ?_)
 replace Z := Z.p10 0 1 2 3 4 5 8 9 10 11 rfl
 refine ah fun K3 hK3 => ay <| aa fun K4 hK4 => wlm Z rfl fun a Z => wlv Z ((v_ne rfl rfl).asb (b' := false) rfl) fun a Z => wla Z rfl fun a Z => ab (hK4 _ _ <| bC Z rfl ?_)
 refine aa fun K5 hK5 => wlv Z (ac (v := pt w3.hz) rfl kr) fun a Z => wlv Z (ld Y 0 rfl rfl (isAgg3 _) rfl) fun a Z => wlv Z (v_eq rfl rfl) fun a Z => wlm Z rfl fun a Z => ?_
 rcases Bool.eq_false_or_eq_true (decide ((ce rl cl l t).state = 4)) with hb1 | hb1
 ·rw [hb1] at Z
  try simp only [qz] at hb1
  refine wln Z fun a Z => wln Z fun a Z => wln Z fun a Z => wlv Z (au rfl rfl) fun a Z => wla Z rfl fun a Z => ab (hK5 _ _ ?_)
  replace Z := Z.p14 0 1 2 3 4 5 8 9 10 11 21 22 20 24 rfl
  refine aN Z rfl ?_
  refine aa fun K6 hK6 => wlv Z (ac (v := po w1.hz 2) rfl kr) fun a Z => wlv Z (ld Y 1 rfl rfl (isAgg3 _) rfl) fun a Z => wla Z rfl fun a Z => wla Z rfl fun a Z => ab (hK6 _ _ <| ap ?_)
  refine aj Z results19 (ae rfl (ae rfl ag)) ?_
  exact ⟨by simp only [retv, withAt]; simp [*], Y.ext⟩
 rw [hb1] at Z
 try simp only [qz] at hb1
 refine wly Z (ac (v := pt w3.hz) rfl kr) fun a Z => wly Z (ld Y 0 rfl rfl (isAgg3 _) rfl) fun a Z => wly Z (v_eq rfl rfl) fun a Z => wlv Z (aq rfl rfl) fun a Z => wla Z rfl fun a Z => ab (hK5 _ _ ?_)
 replace Z := Z.p14 0 1 2 3 4 5 8 9 10 11 21 22 20 24 rfl
 refine ax Z rfl (fun hc2 => ?_) (fun hc2 => ?_)
 ·rw [hc2] at Z
  try simp only [qz] at hc2
  refine aa fun K7 hK7 => wlv Z (ac (v := po w1.hz 2) rfl kr) fun a Z => wlv Z (ld Y 1 rfl rfl (isAgg3 _) rfl) fun a Z => wla Z rfl fun a Z => wla Z rfl fun a Z => ab (hK7 _ _ <| ap ?_)
  refine aj Z results19 (ae rfl (ae rfl ag)) ?_
  exact ⟨by simp only [retv, withAt]; simp [*], Y.ext⟩
 rw [hc2] at Z
 try simp only [qz] at hc2
 refine az <| hK3 _ _ <| aa fun K8 hK8 => wlv Z (ac (v := po w1.hz 1) rfl kr) fun a Z => wlv Z (ld Y 1 rfl rfl (isAgg3 _) rfl) fun a Z => wla Z rfl fun a Z => wla Z rfl fun a Z => ab (hK8 _ _ <| ap ?_)
 refine aj Z results19 (ae rfl (ae rfl ag)) ?_
 exact ⟨by simp only [retv, withAt]; simp [*], Y.ext⟩
theorem jZ (rl : Rul) (cl : Clm) (sv : Value) (l : List Evt) (w0 : World) (hsv : SlAt w0 sv 3 (l.map Evt.cells)) (hv : valid rl cl l = true) :
  Ret Tryz.prog 17 #[.agg #[iv rl.answer, iv rl.cooling, iv rl.settle, iv rl.reverse], .agg #[iv cl.number, iv cl.frm, iv cl.to, iv cl.holder, iv cl.asked, .bool cl.backed], sv] w0 (MemR w0 (fun v : Value => .tuple #[v, iv 0]) (fun v => [own v 3 1 ((voids rl cl l).map fun i => [iv i])]) (fun _ => True)) := by
 refine aD func17 rfl ntmps17 (lb rfl) fun a Z => ?_
 replace Z := Z.p3 0 1 2 rfl
 have Y : St No w0 [] w0 := St.init w0
 refine aa fun K1 hK1 => aG Z Y de rfl (cs := [iv rl.answer, iv rl.cooling, iv rl.settle, iv rl.reverse]) rfl fun a w1 Z Y => aG Z Y de rfl (cs := [iv cl.number, iv cl.frm, iv cl.to, iv cl.holder, iv cl.asked, .bool cl.backed]) rfl fun a w2 Z Y => wla Z rfl fun a Z => wla Z rfl fun a Z => ab (hK1 _ _ <| aa fun K2 hK2 => ?_)
 refine wlv Z (ai (Y.g 1 rfl) rfl (isAgg29 _) (sizeOf29 _)) fun a Z => wlv Z (ai (Y.g 0 rfl) rfl (isAgg31 _) (sizeOf31 _)) fun a Z => wlm Z rfl fun a Z => bI Z Y de call43 rfl (gX rl cl sv l _ (Y.arg hsv) hv) fun a w3 x2 hp Z Y => ?_
 revert x2 hp Z Y; rintro x1 hp Z Y
 clear hp
 replace Y : St No w0 [_, _, _, _, _] w3 := Y
 refine wlm Z rfl fun a Z => wlv Z (aw rfl rfl) fun a Z => wlv Z (aw rfl rfl) fun a Z => wla Z rfl fun a Z => wla Z rfl fun a Z => ab (hK2 _ _ ?_)
 replace Z := Z.p9 0 1 2 3 4 6 7 8 9 rfl
 refine ah fun K3 hK3 => aa fun K4 hK4 => wlm Z rfl fun a Z => wlv Z ((v_ne rfl rfl).asb (b' := false) rfl) fun a Z => ab (hK4 _ _ <| bC Z rfl ?_)
 refine az <| hK3 _ _ <| ah fun K5 hK5 => aa fun K6 hK6 => wlm Z rfl fun a Z => wlm Z rfl fun a Z => bI Z Y de call44 rfl (ey _ _ _ _ (Y.arg hsv)) fun a w4 x5 hp Z Y => ?_
 obtain ⟨bp3, bl4⟩ := x5
 clear hp
 replace Y : St No w0 [_, _, _, _, _, _, _] w4 := Y
 refine ab (hK6 _ _ <| ay ?_)
 have Y : St No w0 (own (.slice none 0 0) 3 1 [] :: [blk bl4 [sv] 32, blk bp3 [pt x1.bm] 97, blk x1.bm [iv rl.answer, iv rl.cooling, iv rl.settle, iv rl.reverse, iv cl.number, iv cl.frm, iv cl.to, iv cl.holder, iv cl.asked, .bool cl.backed, .map (some x1.dm), .map (some x1.em), .slice none 0 0] 106, mapE x1.dm duesKV, mapE x1.em effAll, blk w1.hz [iv cl.number, iv cl.frm, iv cl.to, iv cl.holder, iv cl.asked, .bool cl.backed] 31, blk w0.hz [iv rl.answer, iv rl.cooling, iv rl.settle, iv rl.reverse] 29]) w4 := Y.nil_own
 have Y : St No w0 [blk bp3 [pt x1.bm] 97, blk bl4 [sv] 32, blk x1.bm [iv rl.answer, iv rl.cooling, iv rl.settle, iv rl.reverse, iv cl.number, iv cl.frm, iv cl.to, iv cl.holder, iv cl.asked, .bool cl.backed, .map (some x1.dm), .map (some x1.em), .slice none 0 0] 106, mapE x1.dm duesKV, mapE x1.em effAll, own (.slice none 0 0) 3 1 (([] : List Int).map fun i => [iv i]), blk w1.hz [iv cl.number, iv cl.frm, iv cl.to, iv cl.holder, iv cl.asked, .bool cl.backed] 31, blk w0.hz [iv rl.answer, iv rl.cooling, iv rl.settle, iv rl.reverse] 29] w4 := Y.select [2, 1, 3, 4, 5, 0, 6, 7] de
 have Y : St No w0 [blk bp3 [pt x1.bm] 97, blk bl4 [sv] 32, blk x1.bm [iv rl.answer, iv rl.cooling, iv rl.settle, iv rl.reverse, iv cl.number, iv cl.frm, iv cl.to, iv cl.holder, iv cl.asked, .bool cl.backed, .map (some x1.dm), .map (some x1.em), .slice none 0 0] 106, mapE x1.dm duesKV, mapE x1.em effAll, own (.slice none 0 0) 3 1 (([] : List Int).map fun i => [iv i]), join [blk w1.hz [iv cl.number, iv cl.frm, iv cl.to, iv cl.holder, iv cl.asked, .bool cl.backed] 31, blk w0.hz [iv rl.answer, iv rl.cooling, iv rl.settle, iv rl.reverse] 29]] w4 := St.joinTail [blk bp3 [pt x1.bm] 97, blk bl4 [sv] 32, blk x1.bm [iv rl.answer, iv rl.cooling, iv rl.settle, iv rl.reverse, iv cl.number, iv cl.frm, iv cl.to, iv cl.holder, iv cl.asked, .bool cl.backed, .map (some x1.dm), .map (some x1.em), .slice none 0 0] 106, mapE x1.dm duesKV, mapE x1.em effAll, own (.slice none 0 0) 3 1 (([] : List Int).map fun i => [iv i])] [blk w1.hz [iv cl.number, iv cl.frm, iv cl.to, iv cl.holder, iv cl.asked, .bool cl.backed] 31, blk w0.hz [iv rl.answer, iv rl.cooling, iv rl.settle, iv rl.reverse] 29] Y
 have Y : St No w0 [blk bp3 [pt x1.bm] 97, blk bl4 [sv] 32, blk x1.bm [iv rl.answer, iv rl.cooling, iv rl.settle, iv rl.reverse, iv cl.number, iv cl.frm, iv cl.to, iv cl.holder, iv cl.asked, .bool cl.backed, .map (some x1.dm), .map (some x1.em), .slice none 0 0] 106, mapE x1.dm duesKV, mapE x1.em effAll, own (.slice none 0 0) 3 1 (([] : List Int).map fun i => [iv i]), join [blk w1.hz [iv cl.number, iv cl.frm, iv cl.to, iv cl.holder, iv cl.asked, .bool cl.backed] 31, blk w0.hz [iv rl.answer, iv rl.cooling, iv rl.settle, iv rl.reverse] 29]] w4 := Y.select [0, 1, 2, 3, 4, 5, 6] de
 have Z : Fr 28 [(0, .agg #[iv rl.answer, iv rl.cooling, iv rl.settle, iv rl.reverse]), (1, .agg #[iv cl.number, iv cl.frm, iv cl.to, iv cl.holder, iv cl.asked, .bool cl.backed]), (2, sv), (3, pt w0.hz), (4, pt w1.hz), (6, .slice none 0 0), (7, iv 0), (8, pt x1.bm), (9, iv 0), (17, iv 0), (18, .bool false), (20, pt x1.bm), (21, sv), (22, .func (.func 61) #[] #[pt bp3, pt bl4])] [] a := Z.pick [0, 1, 2, 3, 4, 6, 7, 8, 9, 17, 18, 20, 21, 22]
 refine eo (M := No) (w0 := w0) (encs := encS) (Hi := [blk bp3 [pt x1.bm] 97, blk bl4 [sv] 32, blk x1.bm [iv rl.answer, iv rl.cooling, iv rl.settle, iv rl.reverse, iv cl.number, iv cl.frm, iv cl.to, iv cl.holder, iv cl.asked, .bool cl.backed, .map (some x1.dm), .map (some x1.em), .slice none 0 0] 106, mapE x1.dm duesKV, mapE x1.em effAll, own (.slice none 0 0) 3 1 (([] : List Int).map fun i => [iv i]), join [blk w1.hz [iv cl.number, iv cl.frm, iv cl.to, iv cl.holder, iv cl.asked, .bool cl.backed] 31, blk w0.hz [iv rl.answer, iv rl.cooling, iv rl.settle, iv rl.reverse] 29]]) (Hc := []) (fun pre H => (True) ∧ H = []) (fun _ _ _ => False) (fun pre xs H a => Fr 28 [(0, .agg #[iv rl.answer, iv rl.cooling, iv rl.settle, iv rl.reverse]), (1, .agg #[iv cl.number, iv cl.frm, iv cl.to, iv cl.holder, iv cl.asked, .bool cl.backed]), (2, sv), (3, pt w0.hz), (4, pt w1.hz), (6, .slice none 0 0), (7, iv 0), (8, pt x1.bm), (9, iv 0), (17, iv 0), (18, .bool false), (20, pt x1.bm), (21, sv), (22, .func (.func 61) #[] #[pt bp3, pt bl4])] [] a ∧ (True) ∧ H = []) rfl call61 Z Y (eb rl cl x1 sv l bp3 bl4 hv (fun H w h => h.arg hsv)) de (fun _ => rfl) ⟨trivial, rfl⟩ ?_ ?_ ?_ ?_
 ·rintro lp pre xs _ a w5 hnx ⟨htr, rfl⟩ Z Y
  generalize (join []).foot = M1 at Y ⊢
  have Z : Fr 28 [(23, .agg #[iv xs.state, iv xs.since, iv xs.next]), (0, .agg #[iv rl.answer, iv rl.cooling, iv rl.settle, iv rl.reverse]), (1, .agg #[iv cl.number, iv cl.frm, iv cl.to, iv cl.holder, iv cl.asked, .bool cl.backed]), (2, sv), (3, pt w0.hz), (4, pt w1.hz), (6, .slice none 0 0), (7, iv 0), (8, pt x1.bm), (9, iv 0), (17, iv 0), (18, .bool false), (20, pt x1.bm), (21, sv), (22, .func (.func 61) #[] #[pt bp3, pt bl4])] [] a := Z
  refine az ?_
  exact ⟨_, ⟨Z.pick [0, 1, 2, 3, 4, 6, 7, 8, 9, 17, 18, 20, 21, 22], htr, rfl⟩, Y⟩
 ·rintro lp pre xs _ a w6 hnx ⟨Z, htr, rfl⟩ hout hrec hnl Y
  clear hrec hnl
  generalize (join []).foot = M1 at Y hout ⊢
  refine ay <| az ?_
  exact ⟨_, ⟨trivial, rfl⟩, Y.select [] de⟩
 ·rintro D pre _ _ a w7 ⟨rfl, vd, rfl⟩ ⟨htr, rfl⟩ Y Z
  have Z : Fr 28 [(0, .agg #[iv rl.answer, iv rl.cooling, iv rl.settle, iv rl.reverse]), (1, .agg #[iv cl.number, iv cl.frm, iv cl.to, iv cl.holder, iv cl.asked, .bool cl.backed]), (2, sv), (3, pt w0.hz), (4, pt w1.hz), (6, .slice none 0 0), (7, iv 0), (8, pt x1.bm), (9, iv 0), (17, iv 0), (18, .bool false), (20, pt x1.bm), (21, sv), (22, .func (.func 61) #[] #[pt bp3, pt bl4])] [{ target := .collected D, args := #[] }] a := Z
  replace Y : St No w0 [_, _, _, _, _, _, _, _] w7 := Y
  have Y : St No w0 [obj D (.deferred (some [])), blk bp3 [pt x1.bm] 97, blk bl4 [sv] 32, blk x1.bm [iv rl.answer, iv rl.cooling, iv rl.settle, iv rl.reverse, iv cl.number, iv cl.frm, iv cl.to, iv cl.holder, iv cl.asked, .bool cl.backed, .map (some x1.dm), .map (some x1.em), vd] 106, mapE x1.dm duesKV, mapE x1.em effAll, own vd 3 1 ((voids rl cl l).map fun i => [iv i]), blk w1.hz [iv cl.number, iv cl.frm, iv cl.to, iv cl.holder, iv cl.asked, .bool cl.backed] 31, blk w0.hz [iv rl.answer, iv rl.cooling, iv rl.settle, iv rl.reverse] 29] w7 := St.unjoinTail [obj D (.deferred (some [])), blk bp3 [pt x1.bm] 97, blk bl4 [sv] 32, blk x1.bm [iv rl.answer, iv rl.cooling, iv rl.settle, iv rl.reverse, iv cl.number, iv cl.frm, iv cl.to, iv cl.holder, iv cl.asked, .bool cl.backed, .map (some x1.dm), .map (some x1.em), vd] 106, mapE x1.dm duesKV, mapE x1.em effAll, own vd 3 1 ((voids rl cl l).map fun i => [iv i])] [blk w1.hz [iv cl.number, iv cl.frm, iv cl.to, iv cl.holder, iv cl.asked, .bool cl.backed] 31, blk w0.hz [iv rl.answer, iv rl.cooling, iv rl.settle, iv rl.reverse] 29] Y
  refine hK5 _ _ <| aa fun K7 hK7 => wlm Z rfl fun a Z => wlv Z (bf rfl) fun a Z => wlv Z (ac (v := po x1.bm 12) rfl kr) fun a Z => wlv Z (ld Y 3 rfl rfl (isAgg47 _) rfl) fun a Z => wla Z rfl fun a Z => wla Z rfl fun a Z => ab (hK7 _ _ <| ap ?_)
  have hD := Y.g 0 rfl
  have Y := Y.unmark (i := 0) (o' := .deferred none) rfl
  replace Y : St No w0 [_, _, _, _, _, _, _, _] _ := Y
  refine cy Z hD results17 (ae rfl (ae rfl ag)) ?_
  exact ⟨vd, rfl, trivial, Y.ext, St.out (E := [own vd 3 1 ((voids rl cl l).map fun i => [iv i])]) (H := []) (Y.select [5] de)⟩
 ·rintro D c pre _ _ a w8 _ h
  exact h.elim
theorem kw {M : Nat → Prop} {w0 : World} {er : Ent} (rl : Rul) (cl : Clm) (x : Mach) (sv : Value) (l : List Evt) (bp bl : Nat) (ws : World)
  (hv : valid rl cl l = true) (hsv : ∀ H w, St M w0 H w → SlAt w sv 3 (l.map Evt.cells)) (Y : St M w0 [blk bp [pt x.bm] 97, blk bl [sv] 32, blk x.bm [iv rl.answer, iv rl.cooling, iv rl.settle, iv rl.reverse, iv cl.number, iv cl.frm, iv cl.to, iv cl.holder, iv cl.asked, .bool cl.backed, .map (some x.dm), .map (some x.em), .slice none 0 0] 106, mapE x.dm duesKV, mapE x.em effAll, own (.slice none 0 0) 3 1 (([] : List Int).map fun i => [iv i]), er] ws) :
  Ret Tryz.prog 65 #[.slice none 0 0, .func (.func 61) #[] #[pt bp, pt bl]] ws fun v w => ∃ vd, St M w0 (own v 75 3 ((bE rl cl l).map Stt.cells) :: [blk bp [pt x.bm] 97, blk bl [sv] 32, blk x.bm [iv rl.answer, iv rl.cooling, iv rl.settle, iv rl.reverse, iv cl.number, iv cl.frm, iv cl.to, iv cl.holder, iv cl.asked, .bool cl.backed, .map (some x.dm), .map (some x.em), vd] 106, mapE x.dm duesKV, mapE x.em effAll, own vd 3 1 ((voids rl cl l).map fun i => [iv i]), er]) w := by
 refine aD func65 rfl ntmps65 (lb rfl) fun a Z => ?_
 replace Z := Z.p2 0 1 rfl
 skip
 refine aa fun K1 hK1 => aG Z Y de rfl (cs := [.slice none 0 0]) rfl fun a w1 Z Y => wla Z rfl fun a Z => ab (hK1 _ _ <| ah fun K2 hK2 => ?_)
 refine aa fun K3 hK3 => wlm Z rfl fun a Z => ab (hK3 _ _ <| ay ?_)
 have Y : St M w0 (own (.slice none 0 0) 75 3 [] :: [blk ws.hz [.slice none 0 0] 70, blk bp [pt x.bm] 97, blk bl [sv] 32, blk x.bm [iv rl.answer, iv rl.cooling, iv rl.settle, iv rl.reverse, iv cl.number, iv cl.frm, iv cl.to, iv cl.holder, iv cl.asked, .bool cl.backed, .map (some x.dm), .map (some x.em), .slice none 0 0] 106, mapE x.dm duesKV, mapE x.em effAll, own (.slice none 0 0) 3 1 (([] : List Int).map fun i => [iv i]), er]) w1 := Y.nil_own
 have Y : St M w0 [blk ws.hz [.slice none 0 0] 70, own (.slice none 0 0) 75 3 (([] : List Stt).map Stt.cells), blk bp [pt x.bm] 97, blk bl [sv] 32, blk x.bm [iv rl.answer, iv rl.cooling, iv rl.settle, iv rl.reverse, iv cl.number, iv cl.frm, iv cl.to, iv cl.holder, iv cl.asked, .bool cl.backed, .map (some x.dm), .map (some x.em), .slice none 0 0] 106, mapE x.dm duesKV, mapE x.em effAll, own (.slice none 0 0) 3 1 (([] : List Int).map fun i => [iv i]), er] w1 := Y.select [1, 0, 2, 3, 4, 5, 6, 7, 8] de
 have Z : Fr 13 [(0, .slice none 0 0), (1, .func (.func 61) #[] #[pt bp, pt bl]), (2, pt ws.hz), (4, .slice none 0 0), (6, .func (.func 61) #[] #[pt bp, pt bl])] [] a := Z.pick [0, 1, 2, 4, 6]
 refine eo (M := M) (w0 := w0) (encs := encS) (Hi := [blk bp [pt x.bm] 97, blk bl [sv] 32, blk x.bm [iv rl.answer, iv rl.cooling, iv rl.settle, iv rl.reverse, iv cl.number, iv cl.frm, iv cl.to, iv cl.holder, iv cl.asked, .bool cl.backed, .map (some x.dm), .map (some x.em), .slice none 0 0] 106, mapE x.dm duesKV, mapE x.em effAll, own (.slice none 0 0) 3 1 (([] : List Int).map fun i => [iv i]), er]) (Hc := [blk ws.hz [.slice none 0 0] 70, own (.slice none 0 0) 75 3 (([] : List Stt).map Stt.cells)]) (fun pre H => ∃ (v : Value), H = [blk ws.hz [v] 70, own v 75 3 (pre.map Stt.cells)]) (fun _ _ _ => False) (fun pre xs H a => ∃ (bA0 : Nat), Fr 13 [(0, .slice none 0 0), (1, .func (.func 61) #[] #[pt bp, pt bl]), (2, pt ws.hz), (4, .slice none 0 0), (6, .func (.func 61) #[] #[pt bp, pt bl]), (5, pt bA0)] [] a ∧ ∃ (v : Value), H = [blk bA0 [iv xs.state, iv xs.since, iv xs.next] 75, blk ws.hz [v] 70, own v 75 3 (pre.map Stt.cells)]) rfl call61 Z Y (eb rl cl x sv l bp bl hv hsv) de (fun _ => rfl) ⟨.slice none 0 0, rfl⟩ ?_ ?_ ?_ ?_
 ·rintro lp pre xs _ a w2 hnx ⟨v, rfl⟩ Z Y
  generalize (join [blk ws.hz [v] 70, own v 75 3 (pre.map Stt.cells)]).foot = M1 at Y ⊢
  have Z : Fr 13 [(7, .agg #[iv xs.state, iv xs.since, iv xs.next]), (0, .slice none 0 0), (1, .func (.func 61) #[] #[pt bp, pt bl]), (2, pt ws.hz), (4, .slice none 0 0), (6, .func (.func 61) #[] #[pt bp, pt bl])] [] a := Z
  refine ar <| aH Z Y de (zeroValue75 _) (cs := [iv 0, iv 0, iv 0]) rfl fun a w3 Z Y => am 0 Z Y rfl rfl rfl (sizeOf75 _) rfl (lb rfl) (ds := [iv xs.state, iv xs.since, iv xs.next]) rfl rfl fun a w4 Z Y => ab ?_
  exact ⟨_, ⟨w2.hz, Z.pick [0, 1, 2, 4, 6, 5], v, rfl⟩, Y⟩
 ·rintro lp pre xs _ a w5 hnx ⟨bA0, Z, v, rfl⟩ hout hrec hnl Y
  clear hrec hnl
  generalize (join [blk bA0 [iv xs.state, iv xs.since, iv xs.next] 75, blk ws.hz [v] 70, own v 75 3 (pre.map Stt.cells)]).foot = M1 at Y hout ⊢
  refine ay <| ar <| wlv Z (ld Y 1 rfl rfl (isAgg70 _) rfl) fun a Z => wlv Z (ai (Y.g 0 rfl) rfl (isAgg75 _) (sizeOf75 _)) fun a Z => aI (E := 75) (sz := 3) rfl [[iv xs.state, iv xs.since, iv xs.next]] kr sm rfl de de Z Y fun a w6 Z Y => bG (i := 3) (sT := 70) (inf := Tryz.t75) (z := .agg #[iv 0, iv 0, iv 0]) (b := 0) (off := 0) (m := 0) (c := 0) rfl rfl rfl (Y.ow 0 rfl) sm underlying70 rfl rfl rfl rfl de (by simp [Value.oneCell']) (by have hby : Tryz.t75.bytes = 24 := rfl; have : pre.length < 200 := hnx; simp [big, hby]; omega) (by have hby : Tryz.t75.bytes = 24 := rfl; have : pre.length < 200 := hnx; simp [big, hby]; omega) de Z Y fun a w7 s1 Z Y _ => cY 2 Z Y (Y.ow 3 rfl) rfl rfl rfl (sizeOf70 _) (lb rfl) (ds := [s1]) rfl rfl fun a w8 Z Y => ab ?_
  rw [show pre.map Stt.cells ++ [[iv xs.state, iv xs.since, iv xs.next]] = (pre ++ [xs]).map Stt.cells from by simp [Stt.cells]] at Y
  exact ⟨_, ⟨s1, rfl⟩, Y.select [2, 3] de⟩
 ·rintro D pre _ _ a w9 ⟨rfl, vd, rfl⟩ ⟨v, rfl⟩ Y Z
  have Z : Fr 13 [(0, .slice none 0 0), (1, .func (.func 61) #[] #[pt bp, pt bl]), (2, pt ws.hz), (4, .slice none 0 0), (6, .func (.func 61) #[] #[pt bp, pt bl])] [{ target := .collected D, args := #[] }] a := Z
  replace Y : St M w0 [_, _, _, _, _, _, _, _, _, _] w9 := Y
  refine hK2 _ _ <| aa fun K4 hK4 => wlv Z (ld Y 1 rfl rfl (isAgg70 _) rfl) fun a Z => wla Z rfl fun a Z => ab (hK4 _ _ <| ap ?_)
  have hD := Y.g 0 rfl
  have Y := Y.unmark (i := 0) (o' := .deferred none) rfl
  replace Y : St M w0 [_, _, _, _, _, _, _, _, _] _ := Y
  refine cy Z hD results65 (ae rfl ag) ?_
  exact ⟨vd, Y.select [1, 2, 3, 4, 5, 6, 7, 8] de⟩
 ·rintro D c pre _ _ a w10 _ h
  exact h.elim
theorem mu {M : Nat → Prop} {w0 : World} {er : Ent} (rl : Rul) (cl : Clm) (x : Mach) (sv : Value) (l : List Evt) (bp bl : Nat) (ws : World)
  (hv : valid rl cl l = true) (hsv : ∀ H w, St M w0 H w → SlAt w sv 3 (l.map Evt.cells)) (Y : St M w0 [blk bp [pt x.bm] 97, blk bl [sv] 32, blk x.bm [iv rl.answer, iv rl.cooling, iv rl.settle, iv rl.reverse, iv cl.number, iv cl.frm, iv cl.to, iv cl.holder, iv cl.asked, .bool cl.backed, .map (some x.dm), .map (some x.em), .slice none 0 0] 106, mapE x.dm duesKV, mapE x.em effAll, own (.slice none 0 0) 3 1 (([] : List Int).map fun i => [iv i]), er] ws) :
  Ret Tryz.prog 45 #[.func (.func 61) #[] #[pt bp, pt bl]] ws fun v w => ∃ vd, St M w0 (own v 75 3 ((bE rl cl l).map Stt.cells) :: [blk bp [pt x.bm] 97, blk bl [sv] 32, blk x.bm [iv rl.answer, iv rl.cooling, iv rl.settle, iv rl.reverse, iv cl.number, iv cl.frm, iv cl.to, iv cl.holder, iv cl.asked, .bool cl.backed, .map (some x.dm), .map (some x.em), vd] 106, mapE x.dm duesKV, mapE x.em effAll, own vd 3 1 ((voids rl cl l).map fun i => [iv i]), er]) w := by
 refine aD func45 rfl ntmps45 (lb rfl) fun a Z => ?_
 replace Z := Z.p1 0 rfl
 skip
 refine aa fun K1 hK1 => wla Z rfl fun a Z => ab (hK1 _ _ <| aa fun K2 hK2 => ?_)
 refine wlm Z rfl fun a Z => wl_r (dF call65 rfl (kw rl cl x sv l bp bl _ hv hsv Y)) rfl rfl Z fun a v1 w1 hR Z => ?_
 obtain ⟨vd, Y⟩ := hR
 refine wla Z rfl fun a Z => ab (hK2 _ _ <| ap ?_)
 refine aj Z results45 (ae rfl ag) ?_
 exact ⟨vd, Y⟩
theorem gJ (rl : Rul) (cl : Clm) (sv : Value) (l : List Evt) (w0 : World) (hsv : SlAt w0 sv 3 (l.map Evt.cells)) (hv : valid rl cl l = true) :
  Ret Tryz.prog 18 #[.agg #[iv rl.answer, iv rl.cooling, iv rl.settle, iv rl.reverse], .agg #[iv cl.number, iv cl.frm, iv cl.to, iv cl.holder, iv cl.asked, .bool cl.backed], sv] w0 (MemR w0 (fun v : Value => .tuple #[v, iv 0]) (fun v => [own v 75 3 ((bE rl cl l).map Stt.cells)]) (fun _ => True)) := by
 refine aD func18 rfl ntmps18 (lb rfl) fun a Z => ?_
 replace Z := Z.p3 0 1 2 rfl
 have Y : St No w0 [] w0 := St.init w0
 refine aa fun K1 hK1 => aG Z Y de rfl (cs := [iv rl.answer, iv rl.cooling, iv rl.settle, iv rl.reverse]) rfl fun a w1 Z Y => aG Z Y de rfl (cs := [iv cl.number, iv cl.frm, iv cl.to, iv cl.holder, iv cl.asked, .bool cl.backed]) rfl fun a w2 Z Y => wla Z rfl fun a Z => wla Z rfl fun a Z => ab (hK1 _ _ <| aa fun K2 hK2 => ?_)
 refine wlv Z (ai (Y.g 1 rfl) rfl (isAgg29 _) (sizeOf29 _)) fun a Z => wlv Z (ai (Y.g 0 rfl) rfl (isAgg31 _) (sizeOf31 _)) fun a Z => wlm Z rfl fun a Z => bI Z Y de call43 rfl (gX rl cl sv l _ (Y.arg hsv) hv) fun a w3 x2 hp Z Y => ?_
 revert x2 hp Z Y; rintro x1 hp Z Y
 clear hp
 replace Y : St No w0 [_, _, _, _, _] w3 := Y
 refine wlm Z rfl fun a Z => wlv Z (aw rfl rfl) fun a Z => wlv Z (aw rfl rfl) fun a Z => wla Z rfl fun a Z => wla Z rfl fun a Z => ab (hK2 _ _ ?_)
 replace Z := Z.p9 0 1 2 3 4 6 7 8 9 rfl
 refine ah fun K3 hK3 => aa fun K4 hK4 => wlm Z rfl fun a Z => wlv Z ((v_ne rfl rfl).asb (b' := false) rfl) fun a Z => ab (hK4 _ _ <| bC Z rfl ?_)
 refine az <| hK3 _ _ <| aa fun K5 hK5 => wlm Z rfl fun a Z => wlm Z rfl fun a Z => bI Z Y de call44 rfl (ey _ _ _ _ (Y.arg hsv)) fun a w4 x5 hp Z Y => ?_
 obtain ⟨bp3, bl4⟩ := x5
 clear hp
 replace Y : St No w0 [_, _, _, _, _, _, _] w4 := Y
 have Y : St No w0 (own (.slice none 0 0) 3 1 [] :: [blk bl4 [sv] 32, blk bp3 [pt x1.bm] 97, blk x1.bm [iv rl.answer, iv rl.cooling, iv rl.settle, iv rl.reverse, iv cl.number, iv cl.frm, iv cl.to, iv cl.holder, iv cl.asked, .bool cl.backed, .map (some x1.dm), .map (some x1.em), .slice none 0 0] 106, mapE x1.dm duesKV, mapE x1.em effAll, blk w1.hz [iv cl.number, iv cl.frm, iv cl.to, iv cl.holder, iv cl.asked, .bool cl.backed] 31, blk w0.hz [iv rl.answer, iv rl.cooling, iv rl.settle, iv rl.reverse] 29]) w4 := Y.nil_own
 have Y : St No w0 [blk bp3 [pt x1.bm] 97, blk bl4 [sv] 32, blk x1.bm [iv rl.answer, iv rl.cooling, iv rl.settle, iv rl.reverse, iv cl.number, iv cl.frm, iv cl.to, iv cl.holder, iv cl.asked, .bool cl.backed, .map (some x1.dm), .map (some x1.em), .slice none 0 0] 106, mapE x1.dm duesKV, mapE x1.em effAll, own (.slice none 0 0) 3 1 (([] : List Int).map fun i => [iv i]), blk w1.hz [iv cl.number, iv cl.frm, iv cl.to, iv cl.holder, iv cl.asked, .bool cl.backed] 31, blk w0.hz [iv rl.answer, iv rl.cooling, iv rl.settle, iv rl.reverse] 29] w4 := Y.select [2, 1, 3, 4, 5, 0, 6, 7] de
 have Y : St No w0 [blk bp3 [pt x1.bm] 97, blk bl4 [sv] 32, blk x1.bm [iv rl.answer, iv rl.cooling, iv rl.settle, iv rl.reverse, iv cl.number, iv cl.frm, iv cl.to, iv cl.holder, iv cl.asked, .bool cl.backed, .map (some x1.dm), .map (some x1.em), .slice none 0 0] 106, mapE x1.dm duesKV, mapE x1.em effAll, own (.slice none 0 0) 3 1 (([] : List Int).map fun i => [iv i]), join [blk w1.hz [iv cl.number, iv cl.frm, iv cl.to, iv cl.holder, iv cl.asked, .bool cl.backed] 31, blk w0.hz [iv rl.answer, iv rl.cooling, iv rl.settle, iv rl.reverse] 29]] w4 := St.joinTail [blk bp3 [pt x1.bm] 97, blk bl4 [sv] 32, blk x1.bm [iv rl.answer, iv rl.cooling, iv rl.settle, iv rl.reverse, iv cl.number, iv cl.frm, iv cl.to, iv cl.holder, iv cl.asked, .bool cl.backed, .map (some x1.dm), .map (some x1.em), .slice none 0 0] 106, mapE x1.dm duesKV, mapE x1.em effAll, own (.slice none 0 0) 3 1 (([] : List Int).map fun i => [iv i])] [blk w1.hz [iv cl.number, iv cl.frm, iv cl.to, iv cl.holder, iv cl.asked, .bool cl.backed] 31, blk w0.hz [iv rl.answer, iv rl.cooling, iv rl.settle, iv rl.reverse] 29] Y
 refine wl_r (dF call45 rfl (mu rl cl x1 sv l bp3 bl4 _ hv (fun H w h => h.arg hsv) Y)) rfl rfl Z fun a v6 w5 hR Z => ?_
 obtain ⟨vd, Y⟩ := hR
 refine wla Z rfl fun a Z => wla Z rfl fun a Z => ab (hK5 _ _ <| ap ?_)
 refine aj Z results18 (ae rfl (ae rfl ag)) ?_
 exact ⟨v6, rfl, trivial, Y.ext, St.out (E := [own v6 75 3 ((bE rl cl l).map Stt.cells)]) (H := []) (Y.select [0] de)⟩
theorem cV (n lo hi : Int) (w0 : World) :
  Ret Tryz.prog 49 #[iv n, iv lo, iv hi] w0 fun v w => v = .bool (isIn n lo hi) ∧ Ext No w0 w := by
 refine aD func49 rfl ntmps49 (lb rfl) fun a Z => ?_
 replace Z := Z.p3 0 1 2 rfl
 have Y : St No w0 [] w0 := St.init w0
 refine aa fun K1 hK1 => wla Z rfl fun a Z => ab (hK1 _ _ <| aa fun K2 hK2 => ?_)
 refine wlm Z rfl fun a Z => wlm Z rfl fun a Z => wlv Z (v_ge rfl rfl) fun a Z => wlm Z rfl fun a Z => ?_
 rcases Bool.eq_false_or_eq_true (decide (lo ≤ n)) with hb1 | hb1
 ·rw [hb1] at Z
  try simp only [qz] at hb1
  refine wly Z (ak rfl) fun a Z => wly Z (ak rfl) fun a Z => wly Z (v_le rfl rfl) fun a Z => wlv Z (au rfl rfl) fun a Z => wla Z rfl fun a Z => ab (hK2 _ _ ?_)
  replace Z := Z.p4 0 1 2 6 rfl
  refine ap ?_
  refine aj Z results49 (ae rfl ag) ?_
  exact ⟨by simp [retv, isIn, *], Y.ext⟩
 rw [hb1] at Z
 try simp only [qz] at hb1
 refine wln Z fun a Z => wln Z fun a Z => wln Z fun a Z => wlv Z (aq rfl rfl) fun a Z => wla Z rfl fun a Z => ab (hK2 _ _ ?_)
 replace Z := Z.p4 0 1 2 6 rfl
 refine ap ?_
 refine aj Z results49 (ae rfl ag) ?_
 exact ⟨by simp [retv, isIn, *], Y.ext⟩
theorem jt (ra rc rs rr : Int) (w0 : World) :
  Ret Tryz.prog 51 #[.agg #[iv ra, iv rc, iv rs, iv rr]] w0 fun v w => v = .bool (aW ⟨ra, rc, rs, rr⟩) ∧ Ext No w0 w := by
 refine aD func51 rfl ntmps51 (lb rfl) fun a Z => ?_
 replace Z := Z.p1 0 rfl
 have Y : St No w0 [] w0 := St.init w0
 refine aa fun K1 hK1 => aG Z Y de rfl (cs := [iv ra, iv rc, iv rs, iv rr]) rfl fun a w1 Z Y => wla Z rfl fun a Z => ab (hK1 _ _ <| aa fun K2 hK2 => ?_)
 refine wlv Z (ac (v := pt w0.hz) rfl kr) fun a Z => wlv Z (ld Y 0 rfl rfl (isAgg3 _) rfl) fun a Z => aA Z Y de call49 rfl (cV _ _ _ _) fun a w2 Z Y => wlm Z rfl fun a Z => ?_
 rcases Bool.eq_false_or_eq_true (isIn ra 1 1000000) with hb1 | hb1
 ·rw [hb1] at Z
  try simp only [qz] at hb1
  refine wly Z (ac (v := po w0.hz 1) rfl kr) fun a Z => wly Z (ld Y 0 rfl rfl (isAgg3 _) rfl) fun a Z => aF Z Y de rfl de rfl call49 rfl (cV _ _ _ _) fun a w3 Z Y => wlv Z (au rfl rfl) fun a Z => wlm Z rfl fun a Z => ?_
  rcases Bool.eq_false_or_eq_true (isIn rc 1 1000000) with hb2 | hb2
  ·rw [hb2] at Z
   try simp only [qz] at hb2
   refine wly Z (ac (v := po w0.hz 2) rfl kr) fun a Z => wly Z (ld Y 0 rfl rfl (isAgg3 _) rfl) fun a Z => aF Z Y de rfl de rfl call49 rfl (cV _ _ _ _) fun a w4 Z Y => wlv Z (au rfl rfl) fun a Z => wlm Z rfl fun a Z => ?_
   rcases Bool.eq_false_or_eq_true (isIn rs 1 1000000) with hb3 | hb3
   ·rw [hb3] at Z
    try simp only [qz] at hb3
    refine wly Z (ac (v := po w0.hz 3) rfl kr) fun a Z => wly Z (ld Y 0 rfl rfl (isAgg3 _) rfl) fun a Z => aF Z Y de rfl de rfl call49 rfl (cV _ _ _ _) fun a w5 Z Y => wlv Z (au rfl rfl) fun a Z => wla Z rfl fun a Z => ab (hK2 _ _ ?_)
    replace Z := Z.p3 0 1 2 rfl
    refine ap ?_
    refine aj Z results51 (ae rfl ag) ?_
    exact ⟨by simp_all [retv, aW], Y.ext⟩
   rw [hb3] at Z
   try simp only [qz] at hb3
   refine wln Z fun a Z => wln Z fun a Z => wln Z fun a Z => wlv Z (aq rfl rfl) fun a Z => wla Z rfl fun a Z => ab (hK2 _ _ ?_)
   replace Z := Z.p3 0 1 2 rfl
   refine ap ?_
   refine aj Z results51 (ae rfl ag) ?_
   exact ⟨by simp_all [retv, aW], Y.ext⟩
  rw [hb2] at Z
  try simp only [qz] at hb2
  refine wln Z fun a Z => wln Z fun a Z => wln Z fun a Z => wlv Z (aq rfl rfl) fun a Z => wlm Z rfl fun a Z => wln Z fun a Z => wln Z fun a Z => wln Z fun a Z => wlv Z (aq rfl rfl) fun a Z => wla Z rfl fun a Z => ab (hK2 _ _ ?_)
  replace Z := Z.p3 0 1 2 rfl
  refine ap ?_
  refine aj Z results51 (ae rfl ag) ?_
  exact ⟨by simp_all [retv, aW], Y.ext⟩
 rw [hb1] at Z
 try simp only [qz] at hb1
 refine wln Z fun a Z => wln Z fun a Z => wln Z fun a Z => wlv Z (aq rfl rfl) fun a Z => wlm Z rfl fun a Z => wln Z fun a Z => wln Z fun a Z => wln Z fun a Z => wlv Z (aq rfl rfl) fun a Z => wlm Z rfl fun a Z => wln Z fun a Z => wln Z fun a Z => ?_
 refine wln Z fun a Z => wlv Z (aq rfl rfl) fun a Z => wla Z rfl fun a Z => ab (hK2 _ _ ?_)
 replace Z := Z.p3 0 1 2 rfl
 refine ap ?_
 refine aj Z results51 (ae rfl ag) ?_
 exact ⟨by simp_all [retv, aW], Y.ext⟩
theorem gn (cl : Clm) (w0 : World) :
  Ret Tryz.prog 40 #[.agg #[iv cl.number, iv cl.frm, iv cl.to, iv cl.holder, iv cl.asked, .bool cl.backed]] w0 fun v w => v = .bool (bS cl) ∧ Ext No w0 w := by
 refine aD func40 rfl ntmps40 (lb rfl) fun a Z => ?_
 replace Z := Z.p1 0 rfl
 have Y : St No w0 [] w0 := St.init w0
 refine aa fun K1 hK1 => aG Z Y de rfl (cs := [iv cl.number, iv cl.frm, iv cl.to, iv cl.holder, iv cl.asked, .bool cl.backed]) rfl fun a w1 Z Y => wla Z rfl fun a Z => ab (hK1 _ _ <| aa fun K2 hK2 => ?_)
 refine wlv Z (ac (v := pt w0.hz) rfl kr) fun a Z => wlv Z (ld Y 0 rfl rfl (isAgg3 _) rfl) fun a Z => aA Z Y de call49 rfl (cV _ _ _ _) fun a w2 Z Y => wlm Z rfl fun a Z => ?_
 rcases Bool.eq_false_or_eq_true (isIn cl.number 0 99999999) with hb1 | hb1
 ·rw [hb1] at Z
  try simp only [qz] at hb1
  refine wly Z (ac (v := po w0.hz 1) rfl kr) fun a Z => wly Z (ld Y 0 rfl rfl (isAgg3 _) rfl) fun a Z => aF Z Y de rfl de rfl call49 rfl (cV _ _ _ _) fun a w3 Z Y => wlv Z (au rfl rfl) fun a Z => wlm Z rfl fun a Z => ?_
  rcases Bool.eq_false_or_eq_true (isIn cl.frm 0 7) with hb2 | hb2
  ·rw [hb2] at Z
   try simp only [qz] at hb2
   refine wly Z (ac (v := po w0.hz 2) rfl kr) fun a Z => wly Z (ld Y 0 rfl rfl (isAgg3 _) rfl) fun a Z => aF Z Y de rfl de rfl call49 rfl (cV _ _ _ _) fun a w4 Z Y => wlv Z (au rfl rfl) fun a Z => wlm Z rfl fun a Z => ?_
   rcases Bool.eq_false_or_eq_true (isIn cl.to 0 7) with hb3 | hb3
   ·rw [hb3] at Z
    try simp only [qz] at hb3
    refine wly Z (ac (v := po w0.hz 1) rfl kr) fun a Z => wly Z (ld Y 0 rfl rfl (isAgg3 _) rfl) fun a Z => wly Z (ac (v := po w0.hz 2) rfl kr) fun a Z => wly Z (ld Y 0 rfl rfl (isAgg3 _) rfl) fun a Z => wly Z (v_ne rfl rfl) fun a Z => wlv Z (au rfl rfl) fun a Z => wlm Z rfl fun a Z => ?_
    rcases Bool.eq_false_or_eq_true (!decide (cl.frm = cl.to)) with hb4 | hb4
    ·rw [hb4] at Z
     try simp only [qz] at hb4
     refine wly Z (ac (v := po w0.hz 3) rfl kr) fun a Z => wly Z (ld Y 0 rfl rfl (isAgg3 _) rfl) fun a Z => aF Z Y de rfl de rfl call49 rfl (cV _ _ _ _) fun a w5 Z Y => wlv Z (au rfl rfl) fun a Z => wlm Z rfl fun a Z => ?_
     rcases Bool.eq_false_or_eq_true (isIn cl.holder 0 63) with hb5 | hb5
     ·rw [hb5] at Z
      try simp only [qz] at hb5
      refine wly Z (ac (v := po w0.hz 4) rfl kr) fun a Z => wly Z (ld Y 0 rfl rfl (isAgg3 _) rfl) fun a Z => aF Z Y de rfl de rfl call49 rfl (cV _ _ _ _) fun a w6 Z Y => wlv Z (au rfl rfl) fun a Z => wla Z rfl fun a Z => ab (hK2 _ _ ?_)
      replace Z := Z.p3 0 1 2 rfl
      refine ap ?_
      refine aj Z results40 (ae rfl ag) ?_
      exact ⟨by simp_all [retv, bS], Y.ext⟩
     rw [hb5] at Z
     try simp only [qz] at hb5
     refine wln Z fun a Z => wln Z fun a Z => wln Z fun a Z => wlv Z (aq rfl rfl) fun a Z => wla Z rfl fun a Z => ab (hK2 _ _ ?_)
     replace Z := Z.p3 0 1 2 rfl
     refine ap ?_
     refine aj Z results40 (ae rfl ag) ?_
     exact ⟨by simp_all [retv, bS], Y.ext⟩
    rw [hb4] at Z
    try simp only [qz] at hb4
    refine wln Z fun a Z => wln Z fun a Z => wln Z fun a Z => wlv Z (aq rfl rfl) fun a Z => wlm Z rfl fun a Z => wln Z fun a Z => wln Z fun a Z => wln Z fun a Z => wlv Z (aq rfl rfl) fun a Z => wla Z rfl fun a Z => ab (hK2 _ _ ?_)
    replace Z := Z.p3 0 1 2 rfl
    refine ap ?_
    refine aj Z results40 (ae rfl ag) ?_
    exact ⟨by simp_all [retv, bS], Y.ext⟩
   rw [hb3] at Z
   try simp only [qz] at hb3
   refine wln Z fun a Z => wln Z fun a Z => wln Z fun a Z => wln Z fun a Z => wln Z fun a Z => wlv Z (aq rfl rfl) fun a Z => wlm Z rfl fun a Z => wln Z fun a Z => wln Z fun a Z => wln Z fun a Z => wlv Z (aq rfl rfl) fun a Z => wlm Z rfl fun a Z => ?_
   refine wln Z fun a Z => wln Z fun a Z => wln Z fun a Z => wlv Z (aq rfl rfl) fun a Z => wla Z rfl fun a Z => ab (hK2 _ _ ?_)
   replace Z := Z.p3 0 1 2 rfl
   refine ap ?_
   refine aj Z results40 (ae rfl ag) ?_
   exact ⟨by simp_all [retv, bS], Y.ext⟩
  rw [hb2] at Z
  try simp only [qz] at hb2
  refine wln Z fun a Z => wln Z fun a Z => wln Z fun a Z => wlv Z (aq rfl rfl) fun a Z => wlm Z rfl fun a Z => wln Z fun a Z => wln Z fun a Z => wln Z fun a Z => wln Z fun a Z => wln Z fun a Z => wlv Z (aq rfl rfl) fun a Z => wlm Z rfl fun a Z => ?_
  refine wln Z fun a Z => wln Z fun a Z => wln Z fun a Z => wlv Z (aq rfl rfl) fun a Z => wlm Z rfl fun a Z => wln Z fun a Z => wln Z fun a Z => wln Z fun a Z => wlv Z (aq rfl rfl) fun a Z => wla Z rfl fun a Z => ab (hK2 _ _ ?_)
  replace Z := Z.p3 0 1 2 rfl
  refine ap ?_
  refine aj Z results40 (ae rfl ag) ?_
  exact ⟨by simp_all [retv, bS], Y.ext⟩
 rw [hb1] at Z
 try simp only [qz] at hb1
 refine wln Z fun a Z => wln Z fun a Z => wln Z fun a Z => wlv Z (aq rfl rfl) fun a Z => wlm Z rfl fun a Z => wln Z fun a Z => wln Z fun a Z => wln Z fun a Z => wlv Z (aq rfl rfl) fun a Z => wlm Z rfl fun a Z => wln Z fun a Z => wln Z fun a Z => ?_
 refine wln Z fun a Z => wln Z fun a Z => wln Z fun a Z => wlv Z (aq rfl rfl) fun a Z => wlm Z rfl fun a Z => wln Z fun a Z => wln Z fun a Z => wln Z fun a Z => wlv Z (aq rfl rfl) fun a Z => wlm Z rfl fun a Z => wln Z fun a Z => wln Z fun a Z => ?_
 refine wln Z fun a Z => wlv Z (aq rfl rfl) fun a Z => wla Z rfl fun a Z => ab (hK2 _ _ ?_)
 replace Z := Z.p3 0 1 2 rfl
 refine ap ?_
 refine aj Z results40 (ae rfl ag) ?_
 exact ⟨by simp_all [retv, bS], Y.ext⟩
theorem iG (cl : Clm) (s : Int) (ev : Evt) (w0 : World) :
  Ret Tryz.prog 69 #[.agg #[iv cl.number, iv cl.frm, iv cl.to, iv cl.holder, iv cl.asked, .bool cl.backed], iv s, .agg #[iv ev.kind, iv ev.at_, iv ev.reason]] w0 fun v w => v = iv (aO cl.backed s ev) ∧ Ext No w0 w := by
 refine aD func69 rfl ntmps69 (lb rfl) fun a Z => ?_
 replace Z := Z.p3 0 1 2 rfl
 have Y : St No w0 [] w0 := St.init w0
 refine aa fun K1 hK1 => aG Z Y de rfl (cs := [iv cl.number, iv cl.frm, iv cl.to, iv cl.holder, iv cl.asked, .bool cl.backed]) rfl fun a w1 Z Y => aG Z Y de rfl (cs := [iv ev.kind, iv ev.at_, iv ev.reason]) rfl fun a w2 Z Y => wla Z rfl fun a Z => ab (hK1 _ _ <| aa fun K2 hK2 => ?_)
 refine wlv Z (ac (v := po w1.hz 2) rfl kr) fun a Z => wlv Z (ld Y 0 rfl rfl (isAgg3 _) rfl) fun a Z => wlv Z (v_eq rfl rfl) fun a Z => wla Z rfl fun a Z => ab (hK2 _ _ <| ah fun K3 hK3 => ?_)
 refine ay <| aa fun K4 hK4 => wlv Z (ac (v := pt w1.hz) rfl kr) fun a Z => wlv Z (ld Y 0 rfl rfl (isAgg3 _) rfl) fun a Z => wlv Z (v_eq rfl rfl) fun a Z => wlm Z rfl fun a Z => ?_
 refine bO (N := 96) (df := []) 3 [(18, .bool ((decide (ev.kind = 1)) && (decide (s = 1)))), (0, .agg #[iv cl.number, iv cl.frm, iv cl.to, iv cl.holder, iv cl.asked, .bool cl.backed]), (1, iv s), (2, .agg #[iv ev.kind, iv ev.at_, iv ev.reason]), (3, pt w0.hz), (5, pt w1.hz), (6, iv 0), (8, po w1.hz 2), (9, iv ev.reason), (10, .bool (decide (ev.reason = 1))), (7, .bool (decide (ev.reason = 1)))] ?_ (fun hj => ?_)
 rotate_left
 ·rcases Bool.eq_false_or_eq_true (decide (ev.kind = 1)) with hb1 | hb1
  ·rw [hb1] at Z
   have hb1b := hb1
   try simp only [qz, Bool.and_eq_true, Bool.or_eq_true, Bool.and_eq_false_iff, Bool.or_eq_false_iff] at hb1
   refine wly Z (ak rfl) fun a Z => wly Z (v_eq rfl rfl) fun a Z => wlv Z (au rfl rfl) fun a Z => ?_
   refine hj _ ?_
   try rw [hb1b]
   exact Z.pick [18, 0, 1, 2, 3, 5, 6, 8, 9, 10, 7]
  rw [hb1] at Z
  have hb1b := hb1
  try simp only [qz, Bool.and_eq_true, Bool.or_eq_true, Bool.and_eq_false_iff, Bool.or_eq_false_iff] at hb1
  refine wln Z fun a Z => wln Z fun a Z => wlv Z (aq rfl rfl) fun a Z => ?_
  refine hj _ ?_
  try rw [hb1b]
  exact Z.pick [18, 0, 1, 2, 3, 5, 6, 8, 9, 10, 7]
 intro a Z
 refine wla Z rfl fun a Z => ab (hK4 _ _ ?_)
 refine ax Z rfl (fun hc2 => ?_) (fun hc2 => ?_)
 ·rw [hc2] at Z
  refine aa fun K5 hK5 => wla Z rfl fun a Z => ab (hK5 _ _ <| ap ?_)
  refine aj Z results69 (ae rfl ag) ?_
  exact ⟨by simp only [retv, aO, cond_true, cond_false, hc2], Y.ext⟩
 rw [hc2] at Z
 refine aa fun K6 hK6 => wlv Z (ac (v := pt w1.hz) rfl kr) fun a Z => wlv Z (ld Y 0 rfl rfl (isAgg3 _) rfl) fun a Z => wlv Z (v_eq rfl rfl) fun a Z => wlm Z rfl fun a Z => ?_
 refine bO (N := 96) (df := []) 3 [(26, .bool ((decide (ev.kind = 2)) && (decide (s = 1)))), (18, .bool false), (0, .agg #[iv cl.number, iv cl.frm, iv cl.to, iv cl.holder, iv cl.asked, .bool cl.backed]), (1, iv s), (2, .agg #[iv ev.kind, iv ev.at_, iv ev.reason]), (3, pt w0.hz), (5, pt w1.hz), (6, iv 0), (8, po w1.hz 2), (9, iv ev.reason), (10, .bool (decide (ev.reason = 1))), (7, .bool (decide (ev.reason = 1))), (11, .bool false)] ?_ (fun hj => ?_)
 rotate_left
 ·rcases Bool.eq_false_or_eq_true (decide (ev.kind = 2)) with hb3 | hb3
  ·rw [hb3] at Z
   have hb3b := hb3
   try simp only [qz, Bool.and_eq_true, Bool.or_eq_true, Bool.and_eq_false_iff, Bool.or_eq_false_iff] at hb3
   refine wly Z (ak rfl) fun a Z => wly Z (v_eq rfl rfl) fun a Z => wlv Z (au rfl rfl) fun a Z => ?_
   refine hj _ ?_
   try rw [hb3b]
   exact Z.pick [26, 18, 0, 1, 2, 3, 5, 6, 8, 9, 10, 7, 11]
  rw [hb3] at Z
  have hb3b := hb3
  try simp only [qz, Bool.and_eq_true, Bool.or_eq_true, Bool.and_eq_false_iff, Bool.or_eq_false_iff] at hb3
  refine wln Z fun a Z => wln Z fun a Z => wlv Z (aq rfl rfl) fun a Z => ?_
  refine hj _ ?_
  try rw [hb3b]
  exact Z.pick [26, 18, 0, 1, 2, 3, 5, 6, 8, 9, 10, 7, 11]
 intro a Z
 refine wlm Z rfl fun a Z => ?_
 refine bO (N := 96) (df := []) 2 [(29, .bool (((decide (ev.kind = 2)) && (decide (s = 1))) && (decide (ev.reason = 1)))), (18, .bool false), (0, .agg #[iv cl.number, iv cl.frm, iv cl.to, iv cl.holder, iv cl.asked, .bool cl.backed]), (1, iv s), (2, .agg #[iv ev.kind, iv ev.at_, iv ev.reason]), (3, pt w0.hz), (5, pt w1.hz), (6, iv 0), (8, po w1.hz 2), (9, iv ev.reason), (10, .bool (decide (ev.reason = 1))), (7, .bool (decide (ev.reason = 1))), (11, .bool false)] ?_ (fun hj => ?_)
 rotate_left
 ·rcases Bool.eq_false_or_eq_true ((decide (ev.kind = 2)) && (decide (s = 1))) with hb4 | hb4
  ·rw [hb4] at Z
   have hb4b := hb4
   try simp only [qz, Bool.and_eq_true, Bool.or_eq_true, Bool.and_eq_false_iff, Bool.or_eq_false_iff] at hb4
   refine wly Z (ak rfl) fun a Z => wlv Z (au rfl rfl) fun a Z => ?_
   refine hj _ ?_
   try rw [hb4b]
   exact Z.pick [29, 18, 0, 1, 2, 3, 5, 6, 8, 9, 10, 7, 11]
  rw [hb4] at Z
  have hb4b := hb4
  try simp only [qz, Bool.and_eq_true, Bool.or_eq_true, Bool.and_eq_false_iff, Bool.or_eq_false_iff] at hb4
  refine wln Z fun a Z => wlv Z (aq rfl rfl) fun a Z => ?_
  refine hj _ ?_
  try rw [hb4b]
  exact Z.pick [29, 18, 0, 1, 2, 3, 5, 6, 8, 9, 10, 7, 11]
 intro a Z
 refine wlm Z rfl fun a Z => ?_
 refine bO (N := 96) (df := []) 4 [(34, .bool ((((decide (ev.kind = 2)) && (decide (s = 1))) && (decide (ev.reason = 1))) && (!cl.backed))), (18, .bool false), (0, .agg #[iv cl.number, iv cl.frm, iv cl.to, iv cl.holder, iv cl.asked, .bool cl.backed]), (1, iv s), (2, .agg #[iv ev.kind, iv ev.at_, iv ev.reason]), (3, pt w0.hz), (5, pt w1.hz), (6, iv 0), (8, po w1.hz 2), (9, iv ev.reason), (10, .bool (decide (ev.reason = 1))), (7, .bool (decide (ev.reason = 1))), (11, .bool false)] ?_ (fun hj => ?_)
 rotate_left
 ·rcases Bool.eq_false_or_eq_true (((decide (ev.kind = 2)) && (decide (s = 1))) && (decide (ev.reason = 1))) with hb5 | hb5
  ·rw [hb5] at Z
   have hb5b := hb5
   try simp only [qz, Bool.and_eq_true, Bool.or_eq_true, Bool.and_eq_false_iff, Bool.or_eq_false_iff] at hb5
   refine wly Z (ac (v := po w0.hz 5) rfl kr) fun a Z => wly Z (ld Y 1 rfl rfl (isAgg4 _) rfl) fun a Z => wly Z (bu rfl) fun a Z => wlv Z (au rfl rfl) fun a Z => ?_
   refine hj _ ?_
   try rw [hb5b]
   exact Z.pick [34, 18, 0, 1, 2, 3, 5, 6, 8, 9, 10, 7, 11]
  rw [hb5] at Z
  have hb5b := hb5
  try simp only [qz, Bool.and_eq_true, Bool.or_eq_true, Bool.and_eq_false_iff, Bool.or_eq_false_iff] at hb5
  refine wln Z fun a Z => wln Z fun a Z => wln Z fun a Z => wlv Z (aq rfl rfl) fun a Z => ?_
  refine hj _ ?_
  try rw [hb5b]
  exact Z.pick [34, 18, 0, 1, 2, 3, 5, 6, 8, 9, 10, 7, 11]
 intro a Z
 refine wla Z rfl fun a Z => ab (hK6 _ _ ?_)
 refine ax Z rfl (fun hc6 => ?_) (fun hc6 => ?_)
 ·rw [hc6] at Z
  refine aa fun K7 hK7 => wla Z rfl fun a Z => ab (hK7 _ _ <| ap ?_)
  refine aj Z results69 (ae rfl ag) ?_
  exact ⟨by simp only [retv, aO, cond_true, cond_false, hc2, hc6], Y.ext⟩
 rw [hc6] at Z
 refine aa fun K8 hK8 => wlv Z (ac (v := pt w1.hz) rfl kr) fun a Z => wlv Z (ld Y 0 rfl rfl (isAgg3 _) rfl) fun a Z => wlv Z (v_eq rfl rfl) fun a Z => wlm Z rfl fun a Z => ?_
 refine bO (N := 96) (df := []) 3 [(42, .bool ((decide (ev.kind = 2)) && (decide (s = 1)))), (34, .bool false), (18, .bool false), (0, .agg #[iv cl.number, iv cl.frm, iv cl.to, iv cl.holder, iv cl.asked, .bool cl.backed]), (1, iv s), (2, .agg #[iv ev.kind, iv ev.at_, iv ev.reason]), (3, pt w0.hz), (5, pt w1.hz), (6, iv 0), (8, po w1.hz 2), (9, iv ev.reason), (10, .bool (decide (ev.reason = 1))), (7, .bool (decide (ev.reason = 1))), (11, .bool false), (19, .bool false)] ?_ (fun hj => ?_)
 rotate_left
 ·rcases Bool.eq_false_or_eq_true (decide (ev.kind = 2)) with hb7 | hb7
  ·rw [hb7] at Z
   have hb7b := hb7
   try simp only [qz, Bool.and_eq_true, Bool.or_eq_true, Bool.and_eq_false_iff, Bool.or_eq_false_iff] at hb7
   refine wly Z (ak rfl) fun a Z => wly Z (v_eq rfl rfl) fun a Z => wlv Z (au rfl rfl) fun a Z => ?_
   refine hj _ ?_
   try rw [hb7b]
   exact Z.pick [42, 34, 18, 0, 1, 2, 3, 5, 6, 8, 9, 10, 7, 11, 19]
  rw [hb7] at Z
  have hb7b := hb7
  try simp only [qz, Bool.and_eq_true, Bool.or_eq_true, Bool.and_eq_false_iff, Bool.or_eq_false_iff] at hb7
  refine wln Z fun a Z => wln Z fun a Z => wlv Z (aq rfl rfl) fun a Z => ?_
  refine hj _ ?_
  try rw [hb7b]
  exact Z.pick [42, 34, 18, 0, 1, 2, 3, 5, 6, 8, 9, 10, 7, 11, 19]
 intro a Z
 refine wlm Z rfl fun a Z => ?_
 refine bO (N := 96) (df := []) 3 [(46, .bool (((decide (ev.kind = 2)) && (decide (s = 1))) && (!(decide (ev.reason = 1))))), (34, .bool false), (18, .bool false), (0, .agg #[iv cl.number, iv cl.frm, iv cl.to, iv cl.holder, iv cl.asked, .bool cl.backed]), (1, iv s), (2, .agg #[iv ev.kind, iv ev.at_, iv ev.reason]), (3, pt w0.hz), (5, pt w1.hz), (6, iv 0), (8, po w1.hz 2), (9, iv ev.reason), (10, .bool (decide (ev.reason = 1))), (7, .bool (decide (ev.reason = 1))), (11, .bool false), (19, .bool false)] ?_ (fun hj => ?_)
 rotate_left
 ·rcases Bool.eq_false_or_eq_true ((decide (ev.kind = 2)) && (decide (s = 1))) with hb8 | hb8
  ·rw [hb8] at Z
   have hb8b := hb8
   try simp only [qz, Bool.and_eq_true, Bool.or_eq_true, Bool.and_eq_false_iff, Bool.or_eq_false_iff] at hb8
   refine wly Z (ak rfl) fun a Z => wly Z (bu rfl) fun a Z => wlv Z (au rfl rfl) fun a Z => ?_
   refine hj _ ?_
   try rw [hb8b]
   exact Z.pick [46, 34, 18, 0, 1, 2, 3, 5, 6, 8, 9, 10, 7, 11, 19]
  rw [hb8] at Z
  have hb8b := hb8
  try simp only [qz, Bool.and_eq_true, Bool.or_eq_true, Bool.and_eq_false_iff, Bool.or_eq_false_iff] at hb8
  refine wln Z fun a Z => wln Z fun a Z => wlv Z (aq rfl rfl) fun a Z => ?_
  refine hj _ ?_
  try rw [hb8b]
  exact Z.pick [46, 34, 18, 0, 1, 2, 3, 5, 6, 8, 9, 10, 7, 11, 19]
 intro a Z
 refine wla Z rfl fun a Z => ab (hK8 _ _ ?_)
 refine ax Z rfl (fun hc9 => ?_) (fun hc9 => ?_)
 ·rw [hc9] at Z
  refine aa fun K9 hK9 => wla Z rfl fun a Z => ab (hK9 _ _ <| ap ?_)
  refine aj Z results69 (ae rfl ag) ?_
  exact ⟨by simp only [retv, aO, cond_true, cond_false, hc2, hc6, hc9], Y.ext⟩
 rw [hc9] at Z
 refine aa fun K10 hK10 => wlv Z (ac (v := pt w1.hz) rfl kr) fun a Z => wlv Z (ld Y 0 rfl rfl (isAgg3 _) rfl) fun a Z => wlv Z (v_eq rfl rfl) fun a Z => wlm Z rfl fun a Z => ?_
 refine bO (N := 96) (df := []) 3 [(54, .bool ((decide (ev.kind = 3)) && (decide (s = 2)))), (46, .bool false), (34, .bool false), (18, .bool false), (0, .agg #[iv cl.number, iv cl.frm, iv cl.to, iv cl.holder, iv cl.asked, .bool cl.backed]), (1, iv s), (2, .agg #[iv ev.kind, iv ev.at_, iv ev.reason]), (3, pt w0.hz), (5, pt w1.hz), (6, iv 0), (8, po w1.hz 2), (9, iv ev.reason), (10, .bool (decide (ev.reason = 1))), (7, .bool (decide (ev.reason = 1))), (11, .bool false), (19, .bool false), (35, .bool false)] ?_ (fun hj => ?_)
 rotate_left
 ·rcases Bool.eq_false_or_eq_true (decide (ev.kind = 3)) with hb10 | hb10
  ·rw [hb10] at Z
   have hb10b := hb10
   try simp only [qz, Bool.and_eq_true, Bool.or_eq_true, Bool.and_eq_false_iff, Bool.or_eq_false_iff] at hb10
   refine wly Z (ak rfl) fun a Z => wly Z (v_eq rfl rfl) fun a Z => wlv Z (au rfl rfl) fun a Z => ?_
   refine hj _ ?_
   try rw [hb10b]
   exact Z.pick [54, 46, 34, 18, 0, 1, 2, 3, 5, 6, 8, 9, 10, 7, 11, 19, 35]
  rw [hb10] at Z
  have hb10b := hb10
  try simp only [qz, Bool.and_eq_true, Bool.or_eq_true, Bool.and_eq_false_iff, Bool.or_eq_false_iff] at hb10
  refine wln Z fun a Z => wln Z fun a Z => wlv Z (aq rfl rfl) fun a Z => ?_
  refine hj _ ?_
  try rw [hb10b]
  exact Z.pick [54, 46, 34, 18, 0, 1, 2, 3, 5, 6, 8, 9, 10, 7, 11, 19, 35]
 intro a Z
 refine wla Z rfl fun a Z => ab (hK10 _ _ ?_)
 refine ax Z rfl (fun hc11 => ?_) (fun hc11 => ?_)
 ·rw [hc11] at Z
  refine aa fun K11 hK11 => wla Z rfl fun a Z => ab (hK11 _ _ <| ap ?_)
  refine aj Z results69 (ae rfl ag) ?_
  exact ⟨by simp only [retv, aO, cond_true, cond_false, hc2, hc6, hc9, hc11], Y.ext⟩
 rw [hc11] at Z
 refine aa fun K12 hK12 => wlv Z (ac (v := pt w1.hz) rfl kr) fun a Z => wlv Z (ld Y 0 rfl rfl (isAgg3 _) rfl) fun a Z => wlv Z (v_eq rfl rfl) fun a Z => wlm Z rfl fun a Z => ?_
 refine bO (N := 96) (df := []) 3 [(62, .bool ((decide (ev.kind = 4)) && (decide (s = 2)))), (54, .bool false), (46, .bool false), (34, .bool false), (18, .bool false), (0, .agg #[iv cl.number, iv cl.frm, iv cl.to, iv cl.holder, iv cl.asked, .bool cl.backed]), (1, iv s), (2, .agg #[iv ev.kind, iv ev.at_, iv ev.reason]), (3, pt w0.hz), (5, pt w1.hz), (6, iv 0), (8, po w1.hz 2), (9, iv ev.reason), (10, .bool (decide (ev.reason = 1))), (7, .bool (decide (ev.reason = 1))), (11, .bool false), (19, .bool false), (35, .bool false), (47, .bool false)] ?_ (fun hj => ?_)
 rotate_left
 ·rcases Bool.eq_false_or_eq_true (decide (ev.kind = 4)) with hb12 | hb12
  ·rw [hb12] at Z
   have hb12b := hb12
   try simp only [qz, Bool.and_eq_true, Bool.or_eq_true, Bool.and_eq_false_iff, Bool.or_eq_false_iff] at hb12
   refine wly Z (ak rfl) fun a Z => wly Z (v_eq rfl rfl) fun a Z => wlv Z (au rfl rfl) fun a Z => ?_
   refine hj _ ?_
   try rw [hb12b]
   exact Z.pick [62, 54, 46, 34, 18, 0, 1, 2, 3, 5, 6, 8, 9, 10, 7, 11, 19, 35, 47]
  rw [hb12] at Z
  have hb12b := hb12
  try simp only [qz, Bool.and_eq_true, Bool.or_eq_true, Bool.and_eq_false_iff, Bool.or_eq_false_iff] at hb12
  refine wln Z fun a Z => wln Z fun a Z => wlv Z (aq rfl rfl) fun a Z => ?_
  refine hj _ ?_
  try rw [hb12b]
  exact Z.pick [62, 54, 46, 34, 18, 0, 1, 2, 3, 5, 6, 8, 9, 10, 7, 11, 19, 35, 47]
 intro a Z
 refine wla Z rfl fun a Z => ab (hK12 _ _ ?_)
 refine ax Z rfl (fun hc13 => ?_) (fun hc13 => ?_)
 ·rw [hc13] at Z
  refine aa fun K13 hK13 => wla Z rfl fun a Z => ab (hK13 _ _ <| ap ?_)
  refine aj Z results69 (ae rfl ag) ?_
  exact ⟨by simp only [retv, aO, cond_true, cond_false, hc2, hc6, hc9, hc11, hc13], Y.ext⟩
 rw [hc13] at Z
 refine aa fun K14 hK14 => wlv Z (ac (v := pt w1.hz) rfl kr) fun a Z => wlv Z (ld Y 0 rfl rfl (isAgg3 _) rfl) fun a Z => wlv Z (v_eq rfl rfl) fun a Z => wlm Z rfl fun a Z => ?_
 refine bO (N := 96) (df := []) 11 [(78, .bool ((decide (ev.kind = 5)) && (((decide (s = 1)) || (decide (s = 2))) || (decide (s = 3))))), (62, .bool false), (54, .bool false), (46, .bool false), (34, .bool false), (18, .bool false), (0, .agg #[iv cl.number, iv cl.frm, iv cl.to, iv cl.holder, iv cl.asked, .bool cl.backed]), (1, iv s), (2, .agg #[iv ev.kind, iv ev.at_, iv ev.reason]), (3, pt w0.hz), (5, pt w1.hz), (6, iv 0), (8, po w1.hz 2), (9, iv ev.reason), (10, .bool (decide (ev.reason = 1))), (7, .bool (decide (ev.reason = 1))), (11, .bool false), (19, .bool false), (35, .bool false), (47, .bool false), (55, .bool false)] ?_ (fun hj => ?_)
 rotate_left
 ·rcases Bool.eq_false_or_eq_true (decide (ev.kind = 5)) with hb14 | hb14
  ·rw [hb14] at Z
   have hb14b := hb14
   try simp only [qz, Bool.and_eq_true, Bool.or_eq_true, Bool.and_eq_false_iff, Bool.or_eq_false_iff] at hb14
   refine wly Z (ak rfl) fun a Z => wly Z (v_eq rfl rfl) fun a Z => wly Z (ak rfl) fun a Z => ?_
   refine bO (N := 96) (df := []) 3 [(73, .bool ((decide (s = 1)) || (decide (s = 2)))), (62, .bool false), (54, .bool false), (46, .bool false), (34, .bool false), (18, .bool false), (0, .agg #[iv cl.number, iv cl.frm, iv cl.to, iv cl.holder, iv cl.asked, .bool cl.backed]), (1, iv s), (2, .agg #[iv ev.kind, iv ev.at_, iv ev.reason]), (3, pt w0.hz), (5, pt w1.hz), (6, iv 0), (8, po w1.hz 2), (9, iv ev.reason), (10, .bool (decide (ev.reason = 1))), (7, .bool (decide (ev.reason = 1))), (11, .bool false), (19, .bool false), (35, .bool false), (47, .bool false), (55, .bool false), (67, .bool true)] ?_ (fun hj => ?_)
   rotate_left
   ·rcases Bool.eq_false_or_eq_true (decide (s = 1)) with hb15 | hb15
    ·rw [hb15] at Z
     have hb15b := hb15
     try simp only [qz, Bool.and_eq_true, Bool.or_eq_true, Bool.and_eq_false_iff, Bool.or_eq_false_iff] at hb15
     refine wln Z fun a Z => wln Z fun a Z => wly Z (au rfl rfl) fun a Z => ?_
     refine hj _ ?_
     try rw [hb15b]
     exact Z.pick [73, 62, 54, 46, 34, 18, 0, 1, 2, 3, 5, 6, 8, 9, 10, 7, 11, 19, 35, 47, 55, 67]
    rw [hb15] at Z
    have hb15b := hb15
    try simp only [qz, Bool.and_eq_true, Bool.or_eq_true, Bool.and_eq_false_iff, Bool.or_eq_false_iff] at hb15
    refine wly Z (ak rfl) fun a Z => wly Z (v_eq rfl rfl) fun a Z => wly Z (aq rfl rfl) fun a Z => ?_
    refine hj _ ?_
    try rw [hb15b]
    exact Z.pick [73, 62, 54, 46, 34, 18, 0, 1, 2, 3, 5, 6, 8, 9, 10, 7, 11, 19, 35, 47, 55, 67]
   intro a Z
   refine wly Z (ak rfl) fun a Z => ?_
   refine bO (N := 96) (df := []) 3 [(77, .bool (((decide (s = 1)) || (decide (s = 2))) || (decide (s = 3)))), (62, .bool false), (54, .bool false), (46, .bool false), (34, .bool false), (18, .bool false), (0, .agg #[iv cl.number, iv cl.frm, iv cl.to, iv cl.holder, iv cl.asked, .bool cl.backed]), (1, iv s), (2, .agg #[iv ev.kind, iv ev.at_, iv ev.reason]), (3, pt w0.hz), (5, pt w1.hz), (6, iv 0), (8, po w1.hz 2), (9, iv ev.reason), (10, .bool (decide (ev.reason = 1))), (7, .bool (decide (ev.reason = 1))), (11, .bool false), (19, .bool false), (35, .bool false), (47, .bool false), (55, .bool false), (67, .bool true)] ?_ (fun hj => ?_)
   rotate_left
   ·rcases Bool.eq_false_or_eq_true ((decide (s = 1)) || (decide (s = 2))) with hb16 | hb16
    ·rw [hb16] at Z
     have hb16b := hb16
     try simp only [qz, Bool.and_eq_true, Bool.or_eq_true, Bool.and_eq_false_iff, Bool.or_eq_false_iff] at hb16
     refine wln Z fun a Z => wln Z fun a Z => wly Z (au rfl rfl) fun a Z => ?_
     refine hj _ ?_
     try rw [hb16b]
     exact Z.pick [77, 62, 54, 46, 34, 18, 0, 1, 2, 3, 5, 6, 8, 9, 10, 7, 11, 19, 35, 47, 55, 67]
    rw [hb16] at Z
    have hb16b := hb16
    try simp only [qz, Bool.and_eq_true, Bool.or_eq_true, Bool.and_eq_false_iff, Bool.or_eq_false_iff] at hb16
    refine wly Z (ak rfl) fun a Z => wly Z (v_eq rfl rfl) fun a Z => wly Z (aq rfl rfl) fun a Z => ?_
    refine hj _ ?_
    try rw [hb16b]
    exact Z.pick [77, 62, 54, 46, 34, 18, 0, 1, 2, 3, 5, 6, 8, 9, 10, 7, 11, 19, 35, 47, 55, 67]
   intro a Z
   refine wlv Z (au rfl rfl) fun a Z => ?_
   refine hj _ ?_
   try rw [hb14b]
   exact Z.pick [78, 62, 54, 46, 34, 18, 0, 1, 2, 3, 5, 6, 8, 9, 10, 7, 11, 19, 35, 47, 55]
  rw [hb14] at Z
  have hb14b := hb14
  try simp only [qz, Bool.and_eq_true, Bool.or_eq_true, Bool.and_eq_false_iff, Bool.or_eq_false_iff] at hb14
  refine wln Z fun a Z => wln Z fun a Z => wln Z fun a Z => eM Z de rfl de rfl fun a Z => eM Z de rfl de rfl fun a Z => wln Z fun a Z => wln Z fun a Z => eM Z de rfl de rfl fun a Z => eM Z de rfl de rfl fun a Z => wln Z fun a Z => ?_
  refine wlv Z (aq rfl rfl) fun a Z => ?_
  refine hj _ ?_
  try rw [hb14b]
  exact Z.pick [78, 62, 54, 46, 34, 18, 0, 1, 2, 3, 5, 6, 8, 9, 10, 7, 11, 19, 35, 47, 55]
 intro a Z
 refine wla Z rfl fun a Z => ab (hK14 _ _ ?_)
 refine ax Z rfl (fun hc17 => ?_) (fun hc17 => ?_)
 ·rw [hc17] at Z
  refine aa fun K15 hK15 => wla Z rfl fun a Z => ab (hK15 _ _ <| ap ?_)
  refine aj Z results69 (ae rfl ag) ?_
  exact ⟨by simp only [retv, aO, cond_true, cond_false, hc2, hc6, hc9, hc11, hc13, hc17], Y.ext⟩
 rw [hc17] at Z
 refine aa fun K16 hK16 => wlv Z (ac (v := pt w1.hz) rfl kr) fun a Z => wlv Z (ld Y 0 rfl rfl (isAgg3 _) rfl) fun a Z => wlv Z (v_eq rfl rfl) fun a Z => wlm Z rfl fun a Z => ?_
 refine bO (N := 96) (df := []) 3 [(86, .bool ((decide (ev.kind = 6)) && (decide (s = 4)))), (78, .bool false), (62, .bool false), (54, .bool false), (46, .bool false), (34, .bool false), (18, .bool false), (0, .agg #[iv cl.number, iv cl.frm, iv cl.to, iv cl.holder, iv cl.asked, .bool cl.backed]), (1, iv s), (2, .agg #[iv ev.kind, iv ev.at_, iv ev.reason]), (3, pt w0.hz), (5, pt w1.hz), (6, iv 0), (8, po w1.hz 2), (9, iv ev.reason), (10, .bool (decide (ev.reason = 1))), (7, .bool (decide (ev.reason = 1))), (11, .bool false), (19, .bool false), (35, .bool false), (47, .bool false), (55, .bool false), (63, .bool false)] ?_ (fun hj => ?_)
 rotate_left
 ·rcases Bool.eq_false_or_eq_true (decide (ev.kind = 6)) with hb18 | hb18
  ·rw [hb18] at Z
   have hb18b := hb18
   try simp only [qz, Bool.and_eq_true, Bool.or_eq_true, Bool.and_eq_false_iff, Bool.or_eq_false_iff] at hb18
   refine wly Z (ak rfl) fun a Z => wly Z (v_eq rfl rfl) fun a Z => wlv Z (au rfl rfl) fun a Z => ?_
   refine hj _ ?_
   try rw [hb18b]
   exact Z.pick [86, 78, 62, 54, 46, 34, 18, 0, 1, 2, 3, 5, 6, 8, 9, 10, 7, 11, 19, 35, 47, 55, 63]
  rw [hb18] at Z
  have hb18b := hb18
  try simp only [qz, Bool.and_eq_true, Bool.or_eq_true, Bool.and_eq_false_iff, Bool.or_eq_false_iff] at hb18
  refine wln Z fun a Z => wln Z fun a Z => wlv Z (aq rfl rfl) fun a Z => ?_
  refine hj _ ?_
  try rw [hb18b]
  exact Z.pick [86, 78, 62, 54, 46, 34, 18, 0, 1, 2, 3, 5, 6, 8, 9, 10, 7, 11, 19, 35, 47, 55, 63]
 intro a Z
 refine wlm Z rfl fun a Z => ?_
 refine bO (N := 96) (df := []) 8 [(95, .bool (((decide (ev.kind = 6)) && (decide (s = 4))) && ((!(decide (ev.reason = 1))) || (!cl.backed)))), (78, .bool false), (62, .bool false), (54, .bool false), (46, .bool false), (34, .bool false), (18, .bool false), (0, .agg #[iv cl.number, iv cl.frm, iv cl.to, iv cl.holder, iv cl.asked, .bool cl.backed]), (1, iv s), (2, .agg #[iv ev.kind, iv ev.at_, iv ev.reason]), (3, pt w0.hz), (5, pt w1.hz), (6, iv 0), (8, po w1.hz 2), (9, iv ev.reason), (10, .bool (decide (ev.reason = 1))), (7, .bool (decide (ev.reason = 1))), (11, .bool false), (19, .bool false), (35, .bool false), (47, .bool false), (55, .bool false), (63, .bool false)] ?_ (fun hj => ?_)
 rotate_left
 ·rcases Bool.eq_false_or_eq_true ((decide (ev.kind = 6)) && (decide (s = 4))) with hb19 | hb19
  ·rw [hb19] at Z
   have hb19b := hb19
   try simp only [qz, Bool.and_eq_true, Bool.or_eq_true, Bool.and_eq_false_iff, Bool.or_eq_false_iff] at hb19
   refine wly Z (ak rfl) fun a Z => wly Z (bu rfl) fun a Z => wly Z (ak rfl) fun a Z => ?_
   refine bO (N := 96) (df := []) 4 [(94, .bool ((!(decide (ev.reason = 1))) || (!cl.backed))), (78, .bool false), (62, .bool false), (54, .bool false), (46, .bool false), (34, .bool false), (18, .bool false), (0, .agg #[iv cl.number, iv cl.frm, iv cl.to, iv cl.holder, iv cl.asked, .bool cl.backed]), (1, iv s), (2, .agg #[iv ev.kind, iv ev.at_, iv ev.reason]), (3, pt w0.hz), (5, pt w1.hz), (6, iv 0), (8, po w1.hz 2), (9, iv ev.reason), (10, .bool (decide (ev.reason = 1))), (7, .bool (decide (ev.reason = 1))), (11, .bool false), (19, .bool false), (35, .bool false), (47, .bool false), (55, .bool false), (63, .bool false), (87, .bool true)] ?_ (fun hj => ?_)
   rotate_left
   ·rcases Bool.eq_false_or_eq_true (!(decide (ev.reason = 1))) with hb20 | hb20
    ·rw [hb20] at Z
     have hb20b := hb20
     try simp only [qz, Bool.and_eq_true, Bool.or_eq_true, Bool.and_eq_false_iff, Bool.or_eq_false_iff] at hb20
     refine wln Z fun a Z => wln Z fun a Z => wln Z fun a Z => wly Z (au rfl rfl) fun a Z => ?_
     refine hj _ ?_
     try rw [hb20b]
     exact Z.pick [94, 78, 62, 54, 46, 34, 18, 0, 1, 2, 3, 5, 6, 8, 9, 10, 7, 11, 19, 35, 47, 55, 63, 87]
    rw [hb20] at Z
    have hb20b := hb20
    try simp only [qz, Bool.and_eq_true, Bool.or_eq_true, Bool.and_eq_false_iff, Bool.or_eq_false_iff] at hb20
    refine wly Z (ac (v := po w0.hz 5) rfl kr) fun a Z => wly Z (ld Y 1 rfl rfl (isAgg4 _) rfl) fun a Z => wly Z (bu rfl) fun a Z => wly Z (aq rfl rfl) fun a Z => ?_
    refine hj _ ?_
    try rw [hb20b]
    exact Z.pick [94, 78, 62, 54, 46, 34, 18, 0, 1, 2, 3, 5, 6, 8, 9, 10, 7, 11, 19, 35, 47, 55, 63, 87]
   intro a Z
   refine wlv Z (au rfl rfl) fun a Z => ?_
   refine hj _ ?_
   try rw [hb19b]
   exact Z.pick [95, 78, 62, 54, 46, 34, 18, 0, 1, 2, 3, 5, 6, 8, 9, 10, 7, 11, 19, 35, 47, 55, 63]
  rw [hb19] at Z
  have hb19b := hb19
  try simp only [qz, Bool.and_eq_true, Bool.or_eq_true, Bool.and_eq_false_iff, Bool.or_eq_false_iff] at hb19
  refine wln Z fun a Z => wln Z fun a Z => wln Z fun a Z => eM Z de rfl de rfl fun a Z => eM Z de rfl de rfl fun a Z => eM Z de rfl de rfl fun a Z => wln Z fun a Z => wlv Z (aq rfl rfl) fun a Z => ?_
  refine hj _ ?_
  try rw [hb19b]
  exact Z.pick [95, 78, 62, 54, 46, 34, 18, 0, 1, 2, 3, 5, 6, 8, 9, 10, 7, 11, 19, 35, 47, 55, 63]
 intro a Z
 refine wla Z rfl fun a Z => ab (hK16 _ _ ?_)
 refine ax Z rfl (fun hc21 => ?_) (fun hc21 => ?_)
 ·rw [hc21] at Z
  refine aa fun K17 hK17 => wla Z rfl fun a Z => ab (hK17 _ _ <| ap ?_)
  refine aj Z results69 (ae rfl ag) ?_
  exact ⟨by simp only [retv, aO, cond_true, cond_false, hc2, hc6, hc9, hc11, hc13, hc17, hc21], Y.ext⟩
 rw [hc21] at Z
 refine az <| hK3 _ _ <| aa fun K18 hK18 => wla Z rfl fun a Z => ab (hK18 _ _ <| ap ?_)
 refine aj Z results69 (ae rfl ag) ?_
 exact ⟨by simp only [retv, aO, cond_true, cond_false, hc2, hc6, hc9, hc11, hc13, hc17, hc21], Y.ext⟩
theorem ep (rl : Rul) (s since : Int) (w0 : World) (hr : aW rl = true) (h0 : 0 ≤ since) (h1 : since ≤ 40000000) :
  Ret Tryz.prog 67 #[.agg #[iv rl.answer, iv rl.cooling, iv rl.settle, iv rl.reverse], iv s, iv since] w0 fun v w => v = (begins rl s since).val ∧ Ext No w0 w := by
 have hr := ck hr
 refine aD func67 rfl ntmps67 (lb rfl) fun a Z => ?_
 replace Z := Z.p3 0 1 2 rfl
 have Y : St No w0 [] w0 := St.init w0
 refine aa fun K1 hK1 => aG Z Y de rfl (cs := [iv rl.answer, iv rl.cooling, iv rl.settle, iv rl.reverse]) rfl fun a w1 Z Y => aH Z Y de (zeroValue75 _) (cs := [iv 0, iv 0, iv 0]) rfl fun a w2 Z Y => ab (hK1 _ _ <| aa fun K2 hK2 => ?_)
 refine wlm Z rfl fun a Z => wlm Z rfl fun a Z => wlv Z (aY (v := .agg #[iv s, iv since, iv (-1)]) rfl kr) fun a Z => aH Z Y de (zeroValue75 _) (cs := [iv 0, iv 0, iv 0]) rfl fun a w3 Z Y => am 0 Z Y rfl rfl rfl (sizeOf75 _) rfl (lb rfl) (ds := [iv s, iv since, iv (-1)]) rfl rfl fun a w4 Z Y => ab (hK2 _ _ <| ah fun K3 hK3 => ?_)
 refine aa fun K4 hK4 => wlm Z rfl fun a Z => ab (hK4 _ _ <| ay ?_)
 refine aa fun K5 hK5 => wlv Z (v_eq rfl rfl) fun a Z => wla Z rfl fun a Z => ab (hK5 _ _ ?_)
 refine ax Z rfl (fun hc1 => ?_) (fun hc1 => ?_)
 ·rw [hc1] at Z
  try simp only [qz] at hc1
  refine ar <| wlm Z rfl fun a Z => wlv Z (ac (v := pt w0.hz) rfl kr) fun a Z => wlv Z (ld Y 2 rfl rfl (isAgg3 _) rfl) fun a Z => wlv Z (aS rfl rfl ⟨om, om⟩) fun a Z => wlv Z (ac (v := po w2.hz 2) rfl kr) fun a Z => am 0 Z Y rfl rfl rfl (sizeOf3 _) rfl (lb rfl) (ds := [iv s, iv since, iv (since + rl.answer)]) rfl rfl fun a w5 Z Y => ab <| hK3 _ _ <| aa fun K6 hK6 => ?_
  refine wlv Z (ai (Y.g 0 rfl) rfl (isAgg75 _) (sizeOf75 _)) fun a Z => am 1 Z Y rfl rfl rfl (sizeOf75 _) rfl (lb rfl) (ds := [iv s, iv since, iv (since + rl.answer)]) rfl rfl fun a w6 Z Y => ab (hK6 _ _ <| ap ?_)
  refine aj Z results67 (aB rfl (bB (Y.g 1 rfl) (isAgg75 _) (sizeOf75 _)) ag) ?_
  exact ⟨by simp only [retv]; simp [begins, dueSec, Stt.val, *], Y.ext⟩
 rw [hc1] at Z
 try simp only [qz] at hc1
 refine aa fun K7 hK7 => wlv Z (v_eq rfl rfl) fun a Z => wla Z rfl fun a Z => ab (hK7 _ _ ?_)
 refine ax Z rfl (fun hc2 => ?_) (fun hc2 => ?_)
 ·rw [hc2] at Z
  try simp only [qz] at hc2
  refine ar <| wlm Z rfl fun a Z => wlv Z (ac (v := po w0.hz 2) rfl kr) fun a Z => wlv Z (ld Y 2 rfl rfl (isAgg3 _) rfl) fun a Z => wlv Z (aS rfl rfl ⟨om, om⟩) fun a Z => wlv Z (ac (v := po w2.hz 2) rfl kr) fun a Z => am 0 Z Y rfl rfl rfl (sizeOf3 _) rfl (lb rfl) (ds := [iv s, iv since, iv (since + rl.settle)]) rfl rfl fun a w7 Z Y => ab <| hK3 _ _ <| aa fun K8 hK8 => ?_
  refine wlv Z (ai (Y.g 0 rfl) rfl (isAgg75 _) (sizeOf75 _)) fun a Z => am 1 Z Y rfl rfl rfl (sizeOf75 _) rfl (lb rfl) (ds := [iv s, iv since, iv (since + rl.settle)]) rfl rfl fun a w8 Z Y => ab (hK8 _ _ <| ap ?_)
  refine aj Z results67 (aB rfl (bB (Y.g 1 rfl) (isAgg75 _) (sizeOf75 _)) ag) ?_
  exact ⟨by simp only [retv]; simp [begins, dueSec, Stt.val, *], Y.ext⟩
 rw [hc2] at Z
 try simp only [qz] at hc2
 refine aa fun K9 hK9 => wlv Z (v_eq rfl rfl) fun a Z => wla Z rfl fun a Z => ab (hK9 _ _ ?_)
 refine ax Z rfl (fun hc3 => ?_) (fun hc3 => ?_)
 ·rw [hc3] at Z
  try simp only [qz] at hc3
  refine ar <| wlm Z rfl fun a Z => wlv Z (ac (v := po w0.hz 1) rfl kr) fun a Z => wlv Z (ld Y 2 rfl rfl (isAgg3 _) rfl) fun a Z => wlv Z (aS rfl rfl ⟨om, om⟩) fun a Z => wlv Z (ac (v := po w2.hz 2) rfl kr) fun a Z => am 0 Z Y rfl rfl rfl (sizeOf3 _) rfl (lb rfl) (ds := [iv s, iv since, iv (since + rl.cooling)]) rfl rfl fun a w9 Z Y => ab <| hK3 _ _ <| aa fun K10 hK10 => ?_
  refine wlv Z (ai (Y.g 0 rfl) rfl (isAgg75 _) (sizeOf75 _)) fun a Z => am 1 Z Y rfl rfl rfl (sizeOf75 _) rfl (lb rfl) (ds := [iv s, iv since, iv (since + rl.cooling)]) rfl rfl fun a w10 Z Y => ab (hK10 _ _ <| ap ?_)
  refine aj Z results67 (aB rfl (bB (Y.g 1 rfl) (isAgg75 _) (sizeOf75 _)) ag) ?_
  exact ⟨by simp only [retv]; simp [begins, dueSec, Stt.val, *], Y.ext⟩
 rw [hc3] at Z
 try simp only [qz] at hc3
 refine aa fun K11 hK11 => wlv Z (v_eq rfl rfl) fun a Z => wla Z rfl fun a Z => ab (hK11 _ _ ?_)
 refine ax Z rfl (fun hc4 => ?_) (fun hc4 => ?_)
 ·rw [hc4] at Z
  try simp only [qz] at hc4
  refine ar <| wlm Z rfl fun a Z => wlv Z (ac (v := po w0.hz 3) rfl kr) fun a Z => wlv Z (ld Y 2 rfl rfl (isAgg3 _) rfl) fun a Z => wlv Z (aS rfl rfl ⟨om, om⟩) fun a Z => wlv Z (ac (v := po w2.hz 2) rfl kr) fun a Z => am 0 Z Y rfl rfl rfl (sizeOf3 _) rfl (lb rfl) (ds := [iv s, iv since, iv (since + rl.reverse)]) rfl rfl fun a w11 Z Y => ab <| hK3 _ _ <| aa fun K12 hK12 => ?_
  refine wlv Z (ai (Y.g 0 rfl) rfl (isAgg75 _) (sizeOf75 _)) fun a Z => am 1 Z Y rfl rfl rfl (sizeOf75 _) rfl (lb rfl) (ds := [iv s, iv since, iv (since + rl.reverse)]) rfl rfl fun a w12 Z Y => ab (hK12 _ _ <| ap ?_)
  refine aj Z results67 (aB rfl (bB (Y.g 1 rfl) (isAgg75 _) (sizeOf75 _)) ag) ?_
  exact ⟨by simp only [retv]; simp [begins, dueSec, Stt.val, *], Y.ext⟩
 rw [hc4] at Z
 try simp only [qz] at hc4
 refine az <| hK3 _ _ <| aa fun K13 hK13 => wlv Z (ai (Y.g 0 rfl) rfl (isAgg75 _) (sizeOf75 _)) fun a Z => am 1 Z Y rfl rfl rfl (sizeOf75 _) rfl (lb rfl) (ds := [iv s, iv since, iv (-1)]) rfl rfl fun a w13 Z Y => ab (hK13 _ _ <| ap ?_)
 refine aj Z results67 (aB rfl (bB (Y.g 1 rfl) (isAgg75 _) (sizeOf75 _)) ag) ?_
 exact ⟨by simp only [retv]; simp [begins, dueSec, Stt.val, *], Y.ext⟩
theorem jM (s : Int) (w0 : World) :
  Ret Tryz.prog 68 #[iv s] w0 fun v w => v = iv (if s = 3 then 4 else if s = 4 then 5 else 3) ∧ Ext No w0 w := by
 refine aD func68 rfl ntmps68 (lb rfl) fun a Z => ?_
 replace Z := Z.p1 0 rfl
 have Y : St No w0 [] w0 := St.init w0
 refine aa fun K1 hK1 => wla Z rfl fun a Z => ab (hK1 _ _ <| ah fun K2 hK2 => ?_)
 refine aa fun K3 hK3 => wlm Z rfl fun a Z => wlv Z (v_eq rfl rfl) fun a Z => ab (hK3 _ _ ?_)
 refine ax Z rfl (fun hc1 => ?_) (fun hc1 => ?_)
 ·rw [hc1] at Z
  try simp only [qz] at hc1
  refine aa fun K4 hK4 => wla Z rfl fun a Z => ab (hK4 _ _ <| ap ?_)
  refine aj Z results68 (ae rfl ag) ?_
  exact ⟨by simp [retv, *], Y.ext⟩
 rw [hc1] at Z
 try simp only [qz] at hc1
 refine az <| hK2 _ _ <| ah fun K5 hK5 => aa fun K6 hK6 => wlm Z rfl fun a Z => wlv Z (v_eq rfl rfl) fun a Z => ab (hK6 _ _ ?_)
 refine ax Z rfl (fun hc2 => ?_) (fun hc2 => ?_)
 ·rw [hc2] at Z
  try simp only [qz] at hc2
  refine aa fun K7 hK7 => wla Z rfl fun a Z => ab (hK7 _ _ <| ap ?_)
  refine aj Z results68 (ae rfl ag) ?_
  exact ⟨by simp [retv, *], Y.ext⟩
 rw [hc2] at Z
 try simp only [qz] at hc2
 refine az <| hK5 _ _ <| aa fun K8 hK8 => wla Z rfl fun a Z => ab (hK8 _ _ <| ap ?_)
 refine aj Z results68 (ae rfl ag) ?_
 exact ⟨by simp [retv, *], Y.ext⟩
theorem rvalid_ok (rl : Rul) (cl : Clm) (sv : Value) (l : List Evt) (w0 : World) (hsv : SlAt w0 sv 3 (l.map Evt.cells)) :
  Ret Tryz.prog 32 #[.agg #[iv rl.answer, iv rl.cooling, iv rl.settle, iv rl.reverse], .agg #[iv cl.number, iv cl.frm, iv cl.to, iv cl.holder, iv cl.asked, .bool cl.backed], sv] w0 fun v w => v = .bool (valid rl cl l) ∧ Ext No w0 w := by
 refine aD func32 rfl ntmps32 (lb rfl) fun a Z => ?_
 replace Z := Z.p3 0 1 2 rfl
 have Y : St No w0 [] w0 := St.init w0
 refine aa fun K1 hK1 => aG Z Y de rfl (cs := [iv rl.answer, iv rl.cooling, iv rl.settle, iv rl.reverse]) rfl fun a w1 Z Y => aG Z Y de rfl (cs := [iv cl.number, iv cl.frm, iv cl.to, iv cl.holder, iv cl.asked, .bool cl.backed]) rfl fun a w2 Z Y => wla Z rfl fun a Z => ab (hK1 _ _ <| ah fun K2 hK2 => ?_)
 refine aa fun K3 hK3 => wlv Z (ai (Y.g 1 rfl) rfl (isAgg29 _) (sizeOf29 _)) fun a Z => aA Z Y de call51 rfl (jt _ _ _ _ _) fun a w3 Z Y => wlv Z (bu rfl) fun a Z => wlm Z rfl fun a Z => ?_
 rcases Bool.eq_false_or_eq_true (!(aW rl)) with hb1 | hb1
 ·rw [hb1] at Z
  try simp only [qz] at hb1
  refine wln Z fun a Z => wln Z fun a Z => wln Z fun a Z => wlv Z (au rfl rfl) fun a Z => wlm Z rfl fun a Z => wln Z fun a Z => wln Z fun a Z => wln Z fun a Z => wlv Z (au rfl rfl) fun a Z => ab (hK3 _ _ ?_)
  replace Z := Z.p7 0 1 2 3 4 6 22 rfl
  refine aN Z rfl ?_
  refine aa fun K4 hK4 => wla Z rfl fun a Z => ab (hK4 _ _ <| ap ?_)
  refine aj Z results32 (ae rfl ag) ?_
  exact ⟨by simp [retv, valid, hb1] <;> omega, Y.ext⟩
 rw [hb1] at Z
 try simp only [qz] at hb1
 refine wly Z (ai (Y.g 0 rfl) rfl (isAgg31 _) (sizeOf31 _)) fun a Z => aF Z Y de rfl de rfl call40 rfl (gn cl _) fun a w4 Z Y => wly Z (bu rfl) fun a Z => wlv Z (aq rfl rfl) fun a Z => wlm Z rfl fun a Z => ?_
 rcases Bool.eq_false_or_eq_true (!(bS cl)) with hb2 | hb2
 ·rw [hb2] at Z
  try simp only [qz] at hb2
  refine wln Z fun a Z => wln Z fun a Z => wln Z fun a Z => wlv Z (au rfl rfl) fun a Z => ab (hK3 _ _ ?_)
  replace Z := Z.p7 0 1 2 3 4 6 22 rfl
  refine aN Z rfl ?_
  refine aa fun K5 hK5 => wla Z rfl fun a Z => ab (hK5 _ _ <| ap ?_)
  refine aj Z results32 (ae rfl ag) ?_
  exact ⟨by simp [retv, valid, hb1, hb2] <;> omega, Y.ext⟩
 rw [hb2] at Z
 try simp only [qz] at hb2
 refine wly Z (ak rfl) fun a Z => wly Z ((aL (sT := 32) (Y.arg hsv) rfl rfl (runUnderlying32 _)).asi (m' := (l.length : Int)) sm) fun a Z => wly Z (v_gt rfl rfl) fun a Z => wlv Z (aq rfl rfl) fun a Z => ab (hK3 _ _ ?_)
 replace Z := Z.p7 0 1 2 3 4 6 22 rfl
 refine ax Z rfl (fun hc3 => ?_) (fun hc3 => ?_)
 ·rw [hc3] at Z
  try simp only [qz] at hc3
  refine aa fun K6 hK6 => wla Z rfl fun a Z => ab (hK6 _ _ <| ap ?_)
  refine aj Z results32 (ae rfl ag) ?_
  exact ⟨by simp [retv, valid, hb1, hb2, hc3] <;> omega, Y.ext⟩
 rw [hc3] at Z
 try simp only [qz] at hc3
 refine az <| hK2 _ _ <| aa fun K7 hK7 => wlv Z (ac (v := po w1.hz 4) rfl kr) fun a Z => wlv Z (ld Y 0 rfl rfl (isAgg3 _) rfl) fun a Z => wla Z rfl fun a Z => ab (hK7 _ _ <| ah fun K8 hK8 => ?_)
 refine aa fun K9 hK9 => wla Z rfl fun a Z => ab (hK9 _ _ <| ay ?_)
 refine bj (fun m a w => ∃ (k : Nat) (last : Int), m = l.length - k ∧ (k ≤ l.length) ∧ (anyBad cl.asked l = anyBad last (l.drop k)) ∧ Fr 63 [(0, .agg #[iv rl.answer, iv rl.cooling, iv rl.settle, iv rl.reverse]), (1, .agg #[iv cl.number, iv cl.frm, iv cl.to, iv cl.holder, iv cl.asked, .bool cl.backed]), (2, sv), (3, pt w0.hz), (4, pt w1.hz), (22, .bool false), (23, po w1.hz 4), (24, iv cl.asked), (8, iv (k : Int)), (7, iv last)] [] a ∧ St No w0 [blk w1.hz [iv cl.number, iv cl.frm, iv cl.to, iv cl.holder, iv cl.asked, .bool cl.backed] 31, blk w0.hz [iv rl.answer, iv rl.cooling, iv rl.settle, iv rl.reverse] 29] w) _ ⟨0, cl.asked, rfl, Nat.zero_le _, rfl, Z.pick [0, 1, 2, 3, 4, 22, 23, 24, 8, 7], Y⟩ ?_
 rintro _ a w5 ⟨k, last, rfl, hk, hab, Z, Y⟩
 refine ah fun K10 hK10 => aa fun K11 hK11 => wlm Z rfl fun a Z => wlm Z rfl fun a Z => wlv Z ((aL (sT := 32) (Y.arg hsv) rfl rfl (runUnderlying32 _)).asi (m' := (l.length : Int)) sm) fun a Z => wlv Z (v_lt rfl rfl) fun a Z => ab (hK11 _ _ ?_)
 refine ax Z rfl (fun hc4 => ?_) (fun hc4 => ?_)
 ·rw [hc4] at Z
  try simp only [qz] at hc4
  have hkl : k < l.length := by omega
  obtain ⟨ev, hev⟩ : ∃ ev, l.getD k ⟨0, 0, 0⟩ = ev := ⟨_, rfl⟩
  refine az <| hK10 _ _ <| ah fun K12 hK12 => ay <| aa fun K13 hK13 => wlm Z rfl fun a Z => wlm Z rfl fun a Z => wlv Z ((ao (i := (k : Int)) (sT := 32) (Y.arg hsv) rfl rfl (runUnderlying32 _) (sizeOf64 _) om (by simpa using hkl)).as (v' := slAddr sv (k * 3)) rfl) fun a Z => wlv Z ((bN (Y.arg hsv) (i := k) (by simpa using hkl) rfl (isAgg64 _) (sizeOf64 _)).as (v' := .agg #[iv ev.kind, iv ev.at_, iv ev.reason]) (by rw [← hev]; show _ = Value.agg (l.getD k ⟨0, 0, 0⟩).cells.toArray; simp [hkl])) fun a Z => aH Z Y de (zeroValue64 _) (cs := [iv 0, iv 0, iv 0]) rfl fun a w6 Z Y => am 0 Z Y rfl rfl rfl (sizeOf64 _) rfl (lb rfl) (ds := [iv ev.kind, iv ev.at_, iv ev.reason]) rfl rfl fun a w7 Z Y => ?_
  refine ab (hK13 _ _ <| ah fun K14 hK14 => ?_)
  refine aa fun K15 hK15 => wlv Z (ac (v := pt w5.hz) rfl kr) fun a Z => wlv Z (ld Y 0 rfl rfl (isAgg3 _) rfl) fun a Z => aA Z Y de call49 rfl (cV _ _ _ _) fun a w8 Z Y => wlv Z (bu rfl) fun a Z => wlm Z rfl fun a Z => ?_
  rcases Bool.eq_false_or_eq_true (!(isIn ev.kind 1 6)) with hb5 | hb5
  ·rw [hb5] at Z
   try simp only [qz] at hb5
   refine wln Z fun a Z => wln Z fun a Z => wln Z fun a Z => wln Z fun a Z => wln Z fun a Z => wlv Z (au rfl rfl) fun a Z => ab (hK15 _ _ ?_)
   replace Z := Z.p20 0 1 2 3 4 22 23 24 8 7 25 26 27 28 31 32 33 34 9 45 rfl
   refine aN Z rfl ?_
   refine aa fun K16 hK16 => wla Z rfl fun a Z => ab (hK16 _ _ <| ap ?_)
   refine aj Z results32 (ae rfl ag) ?_
   have hb : anyBad cl.asked l = true := by
    rw [hab, cm l k hkl, hev, anyBad, badEvt]; simp [hb1, hb2, hc3, hc4, hb5] <;> (try simp [isIn, hb1, hb2, hc3, hc4, hb5]) <;> (try omega)
   exact ⟨by simp [retv, valid, hb], Y.ext⟩
  rw [hb5] at Z
  try simp only [qz] at hb5
  refine wly Z (ac (v := po w5.hz 1) rfl kr) fun a Z => wly Z (ld Y 0 rfl rfl (isAgg3 _) rfl) fun a Z => wly Z (ak rfl) fun a Z => aF Z Y de rfl de rfl call49 rfl (cV _ _ _ _) fun a w9 Z Y => wly Z (bu rfl) fun a Z => wlv Z (aq rfl rfl) fun a Z => ab (hK15 _ _ ?_)
  replace Z := Z.p20 0 1 2 3 4 22 23 24 8 7 25 26 27 28 31 32 33 34 9 45 rfl
  refine ax Z rfl (fun hc6 => ?_) (fun hc6 => ?_)
  ·rw [hc6] at Z
   try simp only [qz] at hc6
   refine aa fun K17 hK17 => wla Z rfl fun a Z => ab (hK17 _ _ <| ap ?_)
   refine aj Z results32 (ae rfl ag) ?_
   have hb : anyBad cl.asked l = true := by
    rw [hab, cm l k hkl, hev, anyBad, badEvt]; simp [hb1, hb2, hc3, hc4, hb5, hc6] <;> (try simp [isIn, hb1, hb2, hc3, hc4, hb5, hc6]) <;> (try omega)
   exact ⟨by simp [retv, valid, hb], Y.ext⟩
  rw [hc6] at Z
  try simp only [qz] at hc6
  refine az <| hK14 _ _ <| ah fun K18 hK18 => aa fun K19 hK19 => wlv Z (ac (v := pt w5.hz) rfl kr) fun a Z => wlv Z (ld Y 0 rfl rfl (isAgg3 _) rfl) fun a Z => wlv Z (v_eq rfl rfl) fun a Z => wlm Z rfl fun a Z => ?_
  rcases Bool.eq_false_or_eq_true (decide (ev.kind = 2)) with hb7 | hb7
  ·rw [hb7] at Z
   try simp only [qz] at hb7
   refine wln Z fun a Z => wln Z fun a Z => wln Z fun a Z => wlv Z (au rfl rfl) fun a Z => ab (hK19 _ _ ?_)
   replace Z := Z.p21 0 1 2 3 4 22 23 24 8 7 25 26 27 28 31 32 33 34 9 45 53 rfl
   refine aN Z rfl ?_
   refine aa fun K20 hK20 => wlv Z (ac (v := po w5.hz 2) rfl kr) fun a Z => wlv Z (ld Y 0 rfl rfl (isAgg3 _) rfl) fun a Z => aA Z Y de call49 rfl (cV _ _ _ _) fun a w10 Z Y => wlv Z (bu rfl) fun a Z => ab (hK20 _ _ ?_)
   refine ax Z rfl (fun hc8 => ?_) (fun hc8 => ?_)
   ·rw [hc8] at Z
    try simp only [qz] at hc8
    refine aa fun K21 hK21 => wla Z rfl fun a Z => ab (hK21 _ _ <| ap ?_)
    refine aj Z results32 (ae rfl ag) ?_
    have hb : anyBad cl.asked l = true := by
     rw [hab, cm l k hkl, hev, anyBad, badEvt]; simp [hb1, hb2, hc3, hc4, hb5, hc6, hb7, hc8] <;> (try simp [isIn, hb1, hb2, hc3, hc4, hb5, hc6, hb7, hc8]) <;> (try omega)
    exact ⟨by simp [retv, valid, hb], Y.ext⟩
   rw [hc8] at Z
   try simp only [qz] at hc8
   refine az <| hK18 _ _ <| ar <| wlv Z (ac (v := po w5.hz 1) rfl kr) fun a Z => wlv Z (ld Y 0 rfl rfl (isAgg3 _) rfl) fun a Z => wla Z rfl fun a Z => ab <| hK12 _ _ <| ar <| wlm Z rfl fun a Z => wlv Z (aS rfl rfl ⟨om, om⟩) fun a Z => wla Z rfl fun a Z => ?_
   refine ab ?_
   have hbe : badEvt last ev = false := by
    rw [badEvt]; simp [hb1, hb2, hc3, hc4, hb5, hc6, hb7, hc8] <;> (try simp [isIn, hb1, hb2, hc3, hc4, hb5, hc6, hb7, hc8]) <;> (try omega)
   refine ⟨_, ?_, k + 1, ev.at_, rfl, om, (by rw [hab, cm l k hkl, hev, anyBad, hbe]; rfl), Z.pick [0, 1, 2, 3, 4, 22, 23, 24, 8, 7], Y.mask [false, true, true]⟩
   omega
  rw [hb7] at Z
  try simp only [qz] at hb7
  refine wly Z (ac (v := pt w5.hz) rfl kr) fun a Z => wly Z (ld Y 0 rfl rfl (isAgg3 _) rfl) fun a Z => wly Z (v_eq rfl rfl) fun a Z => wlv Z (aq rfl rfl) fun a Z => ab (hK19 _ _ ?_)
  replace Z := Z.p21 0 1 2 3 4 22 23 24 8 7 25 26 27 28 31 32 33 34 9 45 53 rfl
  refine ax Z rfl (fun hc9 => ?_) (fun hc9 => ?_)
  ·rw [hc9] at Z
   try simp only [qz] at hc9
   refine aa fun K22 hK22 => wlv Z (ac (v := po w5.hz 2) rfl kr) fun a Z => wlv Z (ld Y 0 rfl rfl (isAgg3 _) rfl) fun a Z => aA Z Y de call49 rfl (cV _ _ _ _) fun a w11 Z Y => wlv Z (bu rfl) fun a Z => ab (hK22 _ _ ?_)
   refine ax Z rfl (fun hc10 => ?_) (fun hc10 => ?_)
   ·rw [hc10] at Z
    try simp only [qz] at hc10
    refine aa fun K23 hK23 => wla Z rfl fun a Z => ab (hK23 _ _ <| ap ?_)
    refine aj Z results32 (ae rfl ag) ?_
    have hb : anyBad cl.asked l = true := by
     rw [hab, cm l k hkl, hev, anyBad, badEvt]; simp [hb1, hb2, hc3, hc4, hb5, hc6, hb7, hc9, hc10] <;> (try simp [isIn, hb1, hb2, hc3, hc4, hb5, hc6, hb7, hc9, hc10]) <;> (try omega)
    exact ⟨by simp [retv, valid, hb], Y.ext⟩
   rw [hc10] at Z
   try simp only [qz] at hc10
   refine az <| hK18 _ _ <| ar <| wlv Z (ac (v := po w5.hz 1) rfl kr) fun a Z => wlv Z (ld Y 0 rfl rfl (isAgg3 _) rfl) fun a Z => wla Z rfl fun a Z => ab <| hK12 _ _ <| ar <| wlm Z rfl fun a Z => wlv Z (aS rfl rfl ⟨om, om⟩) fun a Z => wla Z rfl fun a Z => ?_
   refine ab ?_
   have hbe : badEvt last ev = false := by
    rw [badEvt]; simp [hb1, hb2, hc3, hc4, hb5, hc6, hb7, hc9, hc10] <;> (try simp [isIn, hb1, hb2, hc3, hc4, hb5, hc6, hb7, hc9, hc10]) <;> (try omega)
   refine ⟨_, ?_, k + 1, ev.at_, rfl, om, (by rw [hab, cm l k hkl, hev, anyBad, hbe]; rfl), Z.pick [0, 1, 2, 3, 4, 22, 23, 24, 8, 7], Y.mask [false, true, true]⟩
   omega
  rw [hc9] at Z
  try simp only [qz] at hc9
  refine aa fun K24 hK24 => wlv Z (ac (v := po w5.hz 2) rfl kr) fun a Z => wlv Z (ld Y 0 rfl rfl (isAgg3 _) rfl) fun a Z => wlv Z (v_ne rfl rfl) fun a Z => ab (hK24 _ _ ?_)
  refine ax Z rfl (fun hc11 => ?_) (fun hc11 => ?_)
  ·rw [hc11] at Z
   try simp only [qz] at hc11
   refine aa fun K25 hK25 => wla Z rfl fun a Z => ab (hK25 _ _ <| ap ?_)
   refine aj Z results32 (ae rfl ag) ?_
   have hb : anyBad cl.asked l = true := by
    rw [hab, cm l k hkl, hev, anyBad, badEvt]; simp [hb1, hb2, hc3, hc4, hb5, hc6, hb7, hc9, hc11] <;> (try simp [isIn, hb1, hb2, hc3, hc4, hb5, hc6, hb7, hc9, hc11]) <;> (try omega)
   exact ⟨by simp [retv, valid, hb], Y.ext⟩
  rw [hc11] at Z
  try simp only [qz] at hc11
  refine az <| hK18 _ _ <| ar <| wlv Z (ac (v := po w5.hz 1) rfl kr) fun a Z => wlv Z (ld Y 0 rfl rfl (isAgg3 _) rfl) fun a Z => wla Z rfl fun a Z => ab <| hK12 _ _ <| ar <| wlm Z rfl fun a Z => wlv Z (aS rfl rfl ⟨om, om⟩) fun a Z => wla Z rfl fun a Z => ?_
  refine ab ?_
  have hbe : badEvt last ev = false := by
   rw [badEvt]; simp [hb1, hb2, hc3, hc4, hb5, hc6, hb7, hc9, hc11] <;> (try simp [isIn, hb1, hb2, hc3, hc4, hb5, hc6, hb7, hc9, hc11]) <;> (try omega)
  refine ⟨_, ?_, k + 1, ev.at_, rfl, om, (by rw [hab, cm l k hkl, hev, anyBad, hbe]; rfl), Z.pick [0, 1, 2, 3, 4, 22, 23, 24, 8, 7], Y.mask [false, true, true]⟩
  omega
 rw [hc4] at Z
 try simp only [qz] at hc4
 refine aX <| hK8 _ _ <| aa fun K26 hK26 => wla Z rfl fun a Z => ab (hK26 _ _ <| ap ?_)
 refine aj Z results32 (ae rfl ag) ?_
 have hb : anyBad cl.asked l = false := by
  rw [hab, List.drop_eq_nil_of_le om, anyBad]
 exact ⟨by simp only [retv, valid]; rw [hb]; simp [hb1, hb2, hc3, hc4]; try omega, Y.ext⟩
theorem eqStt (a0 a1 a2 c0 c1 c2 : Int) (w : World) : (Op.equal 75 (.agg #[iv a0, iv a1, iv a2]) (.agg #[iv c0, iv c1, iv c2])).run Tryz.prog w = .ok (decide (a0 = c0) && decide (a1 = c1) && decide (a2 = c2)) w := by
 unfold Op.equal Op.maxDepth
 obtain ⟨dd, hd⟩ : ∃ dd, 10000 = dd + 1 + 1 := ⟨9998, rfl⟩
 rw [hd, run_equalIn_struct w (dd + 1) 75 _ _ kr kr]
 simp only [Program.fieldsOf, underlying75, Op.eqFields]
 simp [part, isAgg3, Op.equalIn, run_underlying underlying3]
 by_cases h0 : a0 = c0 <;> by_cases h1 : a1 = c1 <;> by_cases h2 : a2 = c2 <;> simp [h0, h1, h2]
theorem lM {α : Type} {d : α} {xs ys : List α} {k : Nat} (hl : xs.length = ys.length) (hk : xs.length ≤ k) (h : ∀ j, j < k → xs.getD j d = ys.getD j d) : xs = ys := by
 refine List.ext_getElem hl fun j h1 h2 => ?_
 have := h j om
 simpa [List.getD_eq_getElem?_getD, h1, h2] using this
theorem mL {α : Type} {d : α} {xs ys : List α} {k : Nat} (h : xs.getD k d ≠ ys.getD k d) : xs ≠ ys := fun e => h (by rw [e])
theorem mS (xs ys : List Int) (av bv : Value) (w0 : World) (hav : SlAt w0 av 1 (xs.map (fun i => [iv i]))) (hbv : SlAt w0 bv 1 (ys.map (fun i => [iv i]))) :
  Ret Tryz.prog 23 #[av, bv] w0 fun v w => v = .bool (decide (xs = ys)) ∧ Ext No w0 w := by
 have hxb := hav.2.1
 simp only [List.length_map, big] at hxb
 refine aD func23 rfl ntmps23 (lb rfl) fun a Z => ?_
 replace Z := Z.p2 0 1 rfl
 have Y : St No w0 [] w0 := St.init w0
 refine aa fun K1 hK1 => wla Z rfl fun a Z => ab (hK1 _ _ <| ah fun K2 hK2 => ?_)
 refine aa fun K3 hK3 => wlm Z rfl fun a Z => wlv Z ((aL (sT := 47) (Y.arg hav) rfl rfl (runUnderlying47 _)).asi (m' := (xs.length : Int)) sm) fun a Z => wlm Z rfl fun a Z => wlv Z ((aL (sT := 47) (Y.arg hbv) rfl rfl (runUnderlying47 _)).asi (m' := (ys.length : Int)) sm) fun a Z => wlv Z (v_ne rfl rfl) fun a Z => ab (hK3 _ _ ?_)
 refine ax Z rfl (fun hc1 => ?_) (fun hc1 => ?_)
 ·rw [hc1] at Z
  try simp only [qz] at hc1
  refine aa fun K4 hK4 => wla Z rfl fun a Z => ab (hK4 _ _ <| ap ?_)
  refine aj Z results23 (ae rfl ag) ?_
  exact ⟨by simp only [retv]; congr 1; exact (decide_eq_false (fun h => by subst h; simp_all)).symm, Y.ext⟩
 rw [hc1] at Z
 try simp only [qz] at hc1
 refine az <| hK2 _ _ <| ah fun K5 hK5 => aa fun K6 hK6 => wla Z rfl fun a Z => ab (hK6 _ _ <| ay ?_)
 refine bj (fun m a w => ∃ (k : Nat), m = xs.length - k ∧ (k ≤ xs.length) ∧ (xs.length = ys.length) ∧ (∀ j, j < k → xs.getD j 0 = ys.getD j 0) ∧ Fr 26 [(0, av), (1, bv), (6, av), (7, iv (xs.length : Int)), (8, bv), (9, iv (ys.length : Int)), (10, .bool false), (5, iv (k : Int))] [] a ∧ St No w0 [] w) _ ⟨0, rfl, Nat.zero_le _, om, (by intro j hj; omega), Z.pick [0, 1, 6, 7, 8, 9, 10, 5], Y⟩ ?_
 rintro _ a w1 ⟨k, rfl, hk, hlen, hsame, Z, Y⟩
 refine ah fun K7 hK7 => aa fun K8 hK8 => wlm Z rfl fun a Z => wlm Z rfl fun a Z => wlv Z ((aL (sT := 47) (Y.arg hav) rfl rfl (runUnderlying47 _)).asi (m' := (xs.length : Int)) sm) fun a Z => wlv Z (v_lt rfl rfl) fun a Z => ab (hK8 _ _ ?_)
 refine ax Z rfl (fun hc2 => ?_) (fun hc2 => ?_)
 ·rw [hc2] at Z
  try simp only [qz] at hc2
  have hkx : k < xs.length := by omega
  have hky : k < ys.length := by omega
  obtain ⟨p, hp⟩ : ∃ p, xs.getD k 0 = p := ⟨_, rfl⟩
  obtain ⟨q, hq⟩ : ∃ q, ys.getD k 0 = q := ⟨_, rfl⟩
  refine az <| hK7 _ _ <| ah fun K9 hK9 => ay <| ah fun K10 hK10 => aK kr ?_
  replace Z := Z.p12 0 1 6 7 8 9 10 5 11 12 13 14 rfl
  refine aM 9 [[], [], [0, 1], [2], [], [], [4, 5], [6], [3, 7]] (fun i => match i with | 0 => pv (av) | 1 => pv (iv (k : Int)) | 2 => pv (slAddr av (k * 1)) | 3 => pv (iv p) | 4 => pv (bv) | 5 => pv (iv (k : Int)) | 6 => pv (slAddr bv (k * 1)) | 7 => pv (iv q) | 8 => pv (.bool (!decide (p = q))) | _ => fun _ _ => False) Z Y kr kr ?_ ?_
  ·intro i hi
   match i, hi with
   | 0, _ => exact fun w Y => OpV.g (ak rfl)
   | 1, _ => exact fun w Y => OpV.g (ak rfl)
   | 2, _ =>
    rintro _ _ ⟨rfl, rfl⟩ _ _ ⟨rfl, rfl⟩
    intro w Y
    exact OpV.g ((ao (i := (k : Int)) (sT := 47) (Y.arg hav) rfl rfl (runUnderlying47 _) (sizeOf3 _) om (by simpa using hkx)).as (v' := slAddr av (k * 1)) rfl)
   | 3, _ =>
    rintro _ _ ⟨rfl, rfl⟩
    intro w Y
    exact OpV.g (aE (u := iv p) (i := k) (j := 0) (Y.arg hav) (by simpa using hkx) rfl (isAgg3 _) (by rw [← hp]; simp [hkx]))
   | 4, _ => exact fun w Y => OpV.g (ak rfl)
   | 5, _ => exact fun w Y => OpV.g (ak rfl)
   | 6, _ =>
    rintro _ _ ⟨rfl, rfl⟩ _ _ ⟨rfl, rfl⟩
    intro w Y
    exact OpV.g ((ao (i := (k : Int)) (sT := 47) (Y.arg hbv) rfl rfl (runUnderlying47 _) (sizeOf3 _) om (by simpa using hky)).as (v' := slAddr bv (k * 1)) rfl)
   | 7, _ =>
    rintro _ _ ⟨rfl, rfl⟩
    intro w Y
    exact OpV.g (aE (u := iv q) (i := k) (j := 0) (Y.arg hbv) (by simpa using hky) rfl (isAgg3 _) (by rw [← hq]; simp [hky]))
   | 8, _ =>
    rintro _ _ ⟨rfl, rfl⟩ _ _ ⟨rfl, rfl⟩
    intro w Y
    exact OpV.g (v_ne rfl rfl)
  rintro _ _ ⟨rfl, rfl⟩ _ _ ⟨rfl, rfl⟩ _ _ ⟨rfl, rfl⟩ _ _ ⟨rfl, rfl⟩ _ _ ⟨rfl, rfl⟩ _ _ ⟨rfl, rfl⟩ _ _ ⟨rfl, rfl⟩ _ _ ⟨rfl, rfl⟩ _ _ ⟨rfl, rfl⟩ a w2 Z Y
  have Z : Fr 26 [(17, _), (18, _), (19, _), (20, _), (21, _), (22, _), (23, _), (24, _), (25, _), (0, _), (1, _), (6, _), (7, _), (8, _), (9, _), (10, _), (5, _), (11, _), (12, _), (13, _), (14, _)] [] a := Z
  have Y : St No w0 [] w2 := Y
  refine ab <| hK10 _ _ ?_
  replace Z := Z.p13 0 1 6 7 8 9 10 5 11 12 13 14 25 rfl
  refine ax Z rfl (fun hc3 => ?_) (fun hc3 => ?_)
  ·rw [hc3] at Z
   try simp only [qz] at hc3
   refine aa fun K11 hK11 => wla Z rfl fun a Z => ab (hK11 _ _ <| ap ?_)
   refine aj Z results23 (ae rfl ag) ?_
   exact ⟨by simp only [retv]; congr 1; exact (decide_eq_false (mL (d := 0) (k := k) (by rw [hp, hq]; intro h; subst h; simp_all))).symm, Y.ext⟩
  rw [hc3] at Z
  try simp only [qz] at hc3
  refine az <| hK9 _ _ <| ar <| wlm Z rfl fun a Z => wlv Z (aS rfl rfl ⟨om, om⟩) fun a Z => wla Z rfl fun a Z => ab ?_
  refine ⟨_, ?_, k + 1, rfl, om, hlen, (by intro j hj; by_cases h : j = k; (subst h; rw [hp, hq]; simp_all); exact hsame j om), Z.pick [0, 1, 6, 7, 8, 9, 10, 5], Y⟩
  omega
 rw [hc2] at Z
 try simp only [qz] at hc2
 refine aX <| hK5 _ _ <| aa fun K12 hK12 => wla Z rfl fun a Z => ab (hK12 _ _ <| ap ?_)
 refine aj Z results23 (ae rfl ag) ?_
 exact ⟨by simp only [retv]; congr 1; exact (decide_eq_true (lM hlen om hsame)).symm, Y.ext⟩
theorem eI (xs ys : List Stt) (av bv : Value) (w0 : World) (hav : SlAt w0 av 3 (xs.map Stt.cells)) (hbv : SlAt w0 bv 3 (ys.map Stt.cells)) :
  Ret Tryz.prog 22 #[av, bv] w0 fun v w => v = .bool (decide (xs = ys)) ∧ Ext No w0 w := by
 have hxb := hav.2.1
 simp only [List.length_map, big] at hxb
 refine aD func22 rfl ntmps22 (lb rfl) fun a Z => ?_
 replace Z := Z.p2 0 1 rfl
 have Y : St No w0 [] w0 := St.init w0
 refine aa fun K1 hK1 => wla Z rfl fun a Z => ab (hK1 _ _ <| ah fun K2 hK2 => ?_)
 refine aa fun K3 hK3 => wlm Z rfl fun a Z => wlv Z ((aL (sT := 70) (Y.arg hav) rfl rfl (runUnderlying70 _)).asi (m' := (xs.length : Int)) sm) fun a Z => wlm Z rfl fun a Z => wlv Z ((aL (sT := 70) (Y.arg hbv) rfl rfl (runUnderlying70 _)).asi (m' := (ys.length : Int)) sm) fun a Z => wlv Z (v_ne rfl rfl) fun a Z => ab (hK3 _ _ ?_)
 refine ax Z rfl (fun hc1 => ?_) (fun hc1 => ?_)
 ·rw [hc1] at Z
  try simp only [qz] at hc1
  refine aa fun K4 hK4 => wla Z rfl fun a Z => ab (hK4 _ _ <| ap ?_)
  refine aj Z results22 (ae rfl ag) ?_
  exact ⟨by simp only [retv]; congr 1; exact (decide_eq_false (fun h => by subst h; simp_all)).symm, Y.ext⟩
 rw [hc1] at Z
 try simp only [qz] at hc1
 refine az <| hK2 _ _ <| ah fun K5 hK5 => aa fun K6 hK6 => wla Z rfl fun a Z => ab (hK6 _ _ <| ay ?_)
 refine bj (fun m a w => ∃ (k : Nat), m = xs.length - k ∧ (k ≤ xs.length) ∧ (xs.length = ys.length) ∧ (∀ j, j < k → xs.getD j ⟨0, 0, 0⟩ = ys.getD j ⟨0, 0, 0⟩) ∧ Fr 26 [(0, av), (1, bv), (6, av), (7, iv (xs.length : Int)), (8, bv), (9, iv (ys.length : Int)), (10, .bool false), (5, iv (k : Int))] [] a ∧ St No w0 [] w) _ ⟨0, rfl, Nat.zero_le _, om, (by intro j hj; omega), Z.pick [0, 1, 6, 7, 8, 9, 10, 5], Y⟩ ?_
 rintro _ a w1 ⟨k, rfl, hk, hlen, hsame, Z, Y⟩
 refine ah fun K7 hK7 => aa fun K8 hK8 => wlm Z rfl fun a Z => wlm Z rfl fun a Z => wlv Z ((aL (sT := 70) (Y.arg hav) rfl rfl (runUnderlying70 _)).asi (m' := (xs.length : Int)) sm) fun a Z => wlv Z (v_lt rfl rfl) fun a Z => ab (hK8 _ _ ?_)
 refine ax Z rfl (fun hc2 => ?_) (fun hc2 => ?_)
 ·rw [hc2] at Z
  try simp only [qz] at hc2
  have hkx : k < xs.length := by omega
  have hky : k < ys.length := by omega
  obtain ⟨p, hp⟩ : ∃ p, xs.getD k ⟨0, 0, 0⟩ = p := ⟨_, rfl⟩
  obtain ⟨q, hq⟩ : ∃ q, ys.getD k ⟨0, 0, 0⟩ = q := ⟨_, rfl⟩
  refine az <| hK7 _ _ <| ah fun K9 hK9 => ay <| ah fun K10 hK10 => aK kr ?_
  replace Z := Z.p12 0 1 6 7 8 9 10 5 11 12 13 14 rfl
  refine aM 9 [[], [], [0, 1], [2], [], [], [4, 5], [6], [3, 7]] (fun i => match i with | 0 => pv (av) | 1 => pv (iv (k : Int)) | 2 => pv (slAddr av (k * 3)) | 3 => pv (.agg #[iv p.state, iv p.since, iv p.next]) | 4 => pv (bv) | 5 => pv (iv (k : Int)) | 6 => pv (slAddr bv (k * 3)) | 7 => pv (.agg #[iv q.state, iv q.since, iv q.next]) | 8 => pv (.bool (!(decide (p.state = q.state) && decide (p.since = q.since) && decide (p.next = q.next)))) | _ => fun _ _ => False) Z Y kr kr ?_ ?_
  ·intro i hi
   match i, hi with
   | 0, _ => exact fun w Y => OpV.g (ak rfl)
   | 1, _ => exact fun w Y => OpV.g (ak rfl)
   | 2, _ =>
    rintro _ _ ⟨rfl, rfl⟩ _ _ ⟨rfl, rfl⟩
    intro w Y
    exact OpV.g ((ao (i := (k : Int)) (sT := 70) (Y.arg hav) rfl rfl (runUnderlying70 _) (sizeOf75 _) om (by simpa using hkx)).as (v' := slAddr av (k * 3)) rfl)
   | 3, _ =>
    rintro _ _ ⟨rfl, rfl⟩
    intro w Y
    exact OpV.g ((bN (Y.arg hav) (i := k) (by simpa using hkx) rfl (isAgg75 _) (sizeOf75 _)).as (v' := .agg #[iv p.state, iv p.since, iv p.next]) (by rw [← hp]; simp [hkx, Stt.cells]))
   | 4, _ => exact fun w Y => OpV.g (ak rfl)
   | 5, _ => exact fun w Y => OpV.g (ak rfl)
   | 6, _ =>
    rintro _ _ ⟨rfl, rfl⟩ _ _ ⟨rfl, rfl⟩
    intro w Y
    exact OpV.g ((ao (i := (k : Int)) (sT := 70) (Y.arg hbv) rfl rfl (runUnderlying70 _) (sizeOf75 _) om (by simpa using hky)).as (v' := slAddr bv (k * 3)) rfl)
   | 7, _ =>
    rintro _ _ ⟨rfl, rfl⟩
    intro w Y
    exact OpV.g ((bN (Y.arg hbv) (i := k) (by simpa using hky) rfl (isAgg75 _) (sizeOf75 _)).as (v' := .agg #[iv q.state, iv q.since, iv q.next]) (by rw [← hq]; simp [hky, Stt.cells]))
   | 8, _ =>
    rintro _ _ ⟨rfl, rfl⟩ _ _ ⟨rfl, rfl⟩
    intro w Y
    exact OpV.g (io rfl rfl kr (eqStt p.state p.since p.next q.state q.since q.next _))
  rintro _ _ ⟨rfl, rfl⟩ _ _ ⟨rfl, rfl⟩ _ _ ⟨rfl, rfl⟩ _ _ ⟨rfl, rfl⟩ _ _ ⟨rfl, rfl⟩ _ _ ⟨rfl, rfl⟩ _ _ ⟨rfl, rfl⟩ _ _ ⟨rfl, rfl⟩ _ _ ⟨rfl, rfl⟩ a w2 Z Y
  have Z : Fr 26 [(17, _), (18, _), (19, _), (20, _), (21, _), (22, _), (23, _), (24, _), (25, _), (0, _), (1, _), (6, _), (7, _), (8, _), (9, _), (10, _), (5, _), (11, _), (12, _), (13, _), (14, _)] [] a := Z
  have Y : St No w0 [] w2 := Y
  refine ab <| hK10 _ _ ?_
  replace Z := Z.p13 0 1 6 7 8 9 10 5 11 12 13 14 25 rfl
  refine ax Z rfl (fun hc3 => ?_) (fun hc3 => ?_)
  ·rw [hc3] at Z
   try simp only [qz] at hc3
   refine aa fun K11 hK11 => wla Z rfl fun a Z => ab (hK11 _ _ <| ap ?_)
   refine aj Z results22 (ae rfl ag) ?_
   exact ⟨by simp only [retv]; congr 1; exact (decide_eq_false (mL (d := ⟨0, 0, 0⟩) (k := k) (by rw [hp, hq]; intro h; subst h; simp_all))).symm, Y.ext⟩
  rw [hc3] at Z
  try simp only [qz] at hc3
  refine az <| hK9 _ _ <| ar <| wlm Z rfl fun a Z => wlv Z (aS rfl rfl ⟨om, om⟩) fun a Z => wla Z rfl fun a Z => ab ?_
  refine ⟨_, ?_, k + 1, rfl, om, hlen, (by intro j hj; by_cases h : j = k; (subst h; rw [hp, hq]; cases p; cases q; simp_all); exact hsame j om), Z.pick [0, 1, 6, 7, 8, 9, 10, 5], Y⟩
  omega
 rw [hc2] at Z
 try simp only [qz] at hc2
 refine aX <| hK5 _ _ <| aa fun K12 hK12 => wla Z rfl fun a Z => ab (hK12 _ _ <| ap ?_)
 refine aj Z results22 (ae rfl ag) ?_
 exact ⟨by simp only [retv]; congr 1; exact (decide_eq_true (lM hlen om hsame)).symm, Y.ext⟩
end Go.Proofs.YtncbabejopafjaaGreatDoor.K16
