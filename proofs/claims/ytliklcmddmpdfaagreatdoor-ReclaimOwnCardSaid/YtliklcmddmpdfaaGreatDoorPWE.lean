/- Texts joined: BldA, BldB, WshE, WshF, WshG, WshH, WshI, WshJ, WshK, WshL, WshM, WshN. -/
import Derived.Test.YtliklcmddmpdfaaGreatDoorPWD
import Derived.Test.YtliklcmddmpdfaaGreatDoorPWB
import Derived.Test.YtliklcmddmpdfaaGreatDoorPWA
set_option linter.unusedVariables false
set_option linter.unusedSimpArgs false
set_option maxRecDepth 4000
set_option maxHeartbeats 4000000
namespace Go.Proofs.YtliklcmddmpdfaaGreatDoor
open Go.RowKit Go.PW _root_.Go.Proofs.Tryz
def bld (T : TypeId) (b : Nat) (ad v : Value) (bs : By) : Ent := join [blk b [ad, v] T, own v 5 1 ((bs).map fun b => [yv b])]
theorem lr {M : Nat → Prop} {w0 w : World} {T : TypeId} {b : Nat} {ad v : Value} {bs : By} {H : List Ent} (h : St M w0 (bld T b ad v bs :: H) w) : St M w0 ([blk b [ad, v] T, own v 5 1 ((bs).map fun b => [yv b])] ++ H) w := St.unjoin _ _ h
theorem oS (T : TypeId) (b : Nat) (v : Value) (w0 : World) (hlie : liesAt Tryz.prog Tryz.prog.depth T (2 / Tryz.prog.cellsOf T) 0 160 1 = true) (hb : (blk b [.pointer none, v] T).ok w0) :
  Ret Tryz.prog 142 #[pq b] w0 fun u w => u = .tuple #[] ∧ Ext (· = b) w0 w ∧ (blk b [pq b, v] T).ok w := by
 refine aC func142 O ntmps142 (lb O) fun a Y => ?_
 replace U : St (· = b) w0 [blk b [.pointer none, v] T] w0 := St.one hb
 refine aa fun _ G1 => nv (Y.p1 0 O) <| yp O <| yo (aT O) <| yo (ac (v := pq b) O kr) <| yo (ld U 0 O O (isAgg158 _) O) <| yo (xS O O underlying158) <| fun a Y => G1 <| aG Y O ?_
 refine al <| nv Y <| yp O <| yp O <| yo (pL (j := Tryz.t160) (U.g 0 O) O underlying158 underlying235 O O sm) <| yo (pM func179 kr kr kr kr O) <| yo (nd (j := Tryz.t160) (U.g 0 O) O underlying235 underlying158 O hlie) <| yo (aT O) <| yo (ac (v := pq b) O kr) <| fun a Y => az 0 Y U [pq b, v] O (sizeOf158 _) fun a w2 Y U => ab ?_
 refine cS Y results142 ag ?_
 exact ⟨O, U.ext, U.g 0 O⟩
theorem pC (T : TypeId) (b : Nat) (v : Value) (w0 : World) (hlie : liesAt Tryz.prog Tryz.prog.depth T (2 / Tryz.prog.cellsOf T) 0 160 1 = true) (hb : (blk b [pq b, v] T).ok w0) :
  Ret Tryz.prog 142 #[pq b] w0 fun u w => u = .tuple #[] ∧ Ext (· = b) w0 w ∧ (blk b [pq b, v] T).ok w := by
 refine aC func142 O ntmps142 (lb O) fun a Y => ?_
 replace U : St (· = b) w0 [blk b [pq b, v] T] w0 := St.one hb
 refine aa fun _ G1 => nv (Y.p1 0 O) <| yp O <| yo (aT O) <| yo (ac (v := pq b) O kr) <| yo (ld U 0 O O (isAgg158 _) O) <| yo (uO O O underlying158) <| fun a Y => G1 <| aJ Y O ?_
 refine aa fun _ G2 => nv Y <| yp O <| yo (aT O) <| yo (ac (v := pq b) O kr) <| yo (ld U 0 O O (isAgg158 _) O) <| yp O <| yo (vH (j := Tryz.t160) O O underlying158 O) <| fun a Y => G2 ?_
 replace Y := Y.p1 19 O
 refine aJ Y O ?_
 refine ar <| cS Y results142 ag ?_
 exact ⟨O, U.ext, U.g 0 O⟩
theorem pX {M : Nat → Prop} {w0 : World} (T : TypeId) (b : Nat) (v : Value) (bs : By) (s : By) (ws : World) (hlie : liesAt Tryz.prog Tryz.prog.depth T (2 / Tryz.prog.cellsOf T) 0 160 1 = true) (hne : s ≠ []) (hbn : bs.length + s.length ≤ 1000000000) (U : St M w0 [bld T b (.pointer none) v bs] ws) :
  Ret Tryz.prog 94 #[pq b, sv s] ws fun u w => u = .tuple #[jv (s.length : Int), .nilIface] ∧ ∃ v2, St M w0 [bld T b (pq b) v2 (bs ++ s)] w := by
 refine aC func94 O ntmps94 (lb O) fun a Y => ?_
 replace U : St M w0 [blk b [.pointer none, v] T, own v 5 1 ((bs).map fun b => [yv b])] ws := lr U
 refine aa fun _ G1 => nv (Y.p2 0 1 O) <| yq O <| yq O <| fun a Y => G1 <| aa fun _ G2 => wlm Y O fun a Y => lg 0 Y U de call142 O O (oS T b _ _ hlie (U.g 0 O)) O fun a w1 Y U => G2 <| aa fun _ G3 => nv Y <| yp O <| yp O <| yo (aT O) <| yo (ac (v := po b 1) O kr) <| yo (ld U 0 O O (isAgg60 _) O) <| yp O <| fun a Y => gL (i := 1) (sT := 60) (uT := 9) (inf := Tryz.t5) (bs := bs) (s := s) O O O hne underlying60 underlying9 O O O O om de Y U fun a w2 s1 Y U => nv Y <| yo (aT O) <| yo (ac (v := po b 1) O kr) <| fun a Y => ce 0 Y U (U.ow 1 O) O O O (sizeOf60 _) (lb O) (ds := [pq b, s1]) O O fun a w3 Y U => G3 ?_
 refine aa fun _ G4 => nv (Y.p3 1 4 5 O) <| yp O <| yo (bd O O (runUnderlying9 _)) <| yq O <| yq O <| fun a Y => G4 <| aq <| am Y results94 (ae O (ae O ag)) ?_
 replace U := U.s2 [0, 1] de rfl
 exact ⟨O, s1, St.join [blk b [pq b, s1] T, own s1 5 1 ((bs ++ s).map fun b => [yv b])] [] U⟩
theorem rU {M : Nat → Prop} {w0 : World} (T : TypeId) (b : Nat) (v : Value) (bs : By) (s : By) (ws : World) (hlie : liesAt Tryz.prog Tryz.prog.depth T (2 / Tryz.prog.cellsOf T) 0 160 1 = true) (hne : s ≠ []) (hbn : bs.length + s.length ≤ 1000000000) (U : St M w0 [bld T b (pq b) v bs] ws) :
  Ret Tryz.prog 94 #[pq b, sv s] ws fun u w => u = .tuple #[jv (s.length : Int), .nilIface] ∧ ∃ v2, St M w0 [bld T b (pq b) v2 (bs ++ s)] w := by
 refine aC func94 O ntmps94 (lb O) fun a Y => ?_
 replace U : St M w0 [blk b [pq b, v] T, own v 5 1 ((bs).map fun b => [yv b])] ws := lr U
 refine aa fun _ G1 => nv (Y.p2 0 1 O) <| yq O <| yq O <| fun a Y => G1 <| aa fun _ G2 => wlm Y O fun a Y => lg 0 Y U de call142 O O (pC T b _ _ hlie (U.g 0 O)) O fun a w1 Y U => G2 <| aa fun _ G3 => nv Y <| yp O <| yp O <| yo (aT O) <| yo (ac (v := po b 1) O kr) <| yo (ld U 0 O O (isAgg60 _) O) <| yp O <| fun a Y => gL (i := 1) (sT := 60) (uT := 9) (inf := Tryz.t5) (bs := bs) (s := s) O O O hne underlying60 underlying9 O O O O om de Y U fun a w2 s1 Y U => nv Y <| yo (aT O) <| yo (ac (v := po b 1) O kr) <| fun a Y => ce 0 Y U (U.ow 1 O) O O O (sizeOf60 _) (lb O) (ds := [pq b, s1]) O O fun a w3 Y U => G3 ?_
 refine aa fun _ G4 => nv (Y.p3 1 4 5 O) <| yp O <| yo (bd O O (runUnderlying9 _)) <| yq O <| yq O <| fun a Y => G4 <| aq <| am Y results94 (ae O (ae O ag)) ?_
 replace U := U.s2 [0, 1] de rfl
 exact ⟨O, s1, St.join [blk b [pq b, s1] T, own s1 5 1 ((bs ++ s).map fun b => [yv b])] [] U⟩
theorem wP {w : World} {E : TypeId} {v : Value} {bs : By} (h : (own v E 1 ((bs).map fun b => [yv b])).ok w) (hne : bs ≠ []) : ∃ g cap, v = .slice (some ⟨g, 0, none⟩) bs.length cap ∧ cap ≠ 0 := by
 obtain ⟨h1, h2, h3, h4⟩ := h
 have hn : bs.length ≠ 0 := by simpa using hne
 rcases h4 with ⟨_, h0⟩ | ⟨g, cap, cur, fz, hv, _, _, hnc, _⟩
 ·rw [yu] at h0; exact absurd h0 hn
 ·rw [yu] at hv hnc; exact ⟨g, cap, hv, by omega⟩
theorem oY {M : Nat → Prop} {w0 : World} (T : TypeId) (b g cap : Nat) (bs : By) (ws : World) (hne : bs ≠ []) (hcap : cap ≠ 0) (U : St M w0 [blk b [pq b, .slice (some ⟨g, 0, none⟩) bs.length cap] T, own (.slice (some ⟨g, 0, none⟩) bs.length cap) 5 1 ((bs).map fun b => [yv b])] ws) :
  Ret Tryz.prog 95 #[pq b] ws fun u w => u = sv bs ∧ St M w0 [blk b [pq b, .slice (some ⟨g, 0, none⟩) bs.length cap] T] w := by
 refine aC func95 O ntmps95 (lb O) fun a Y => ?_
 replace Y := Y.p1 0 O
 skip
 refine aa fun _ G1 => wla Y O fun a Y => G1 <| ah fun _ G2 => aH ?_
 replace Y := Y.p2 0 2 O
 replace U : St M w0 (own (.slice (some ⟨g, 0, none⟩) bs.length cap) 5 1 ((bs).map fun b => [yv b]) :: [blk b [pq b, .slice (some ⟨g, 0, none⟩) bs.length cap] T]) ws := U.front (i := 1) rfl
 refine lG 10 (own (.slice (some ⟨g, 0, none⟩) bs.length cap) 5 1 ((bs).map fun b => [yv b])) (fun _ => sl (.slice (some ⟨g, 0, none⟩) bs.length cap) 1 ((bs).map fun b => [yv b])) 11 [[], [0], [1], [2], [3], [], [5], [6], [7], [8], [4, 9]] (fun i => match i with | 0 => pv (pq b) | 1 => pv (pq b) | 2 => pv (po b 1) | 3 => pv (.slice (some ⟨g, 0, none⟩) bs.length cap) | 4 => pv (pq g) | 5 => pv (pq b) | 6 => pv (pq b) | 7 => pv (po b 1) | 8 => pv (.slice (some ⟨g, 0, none⟩) bs.length cap) | 9 => pv (jv (bs.length : Int)) | 10 => fun v E => v = sv bs ∧ E = [] | _ => fun _ _ => False) Y U kr kr kr de ?_ ?_ ?_ ?_
 ·intro i v E h
  match i, h with
  | 0, _ => exact by decide
  | 1, _ => exact by decide
  | 2, _ => exact by decide
  | 3, _ => exact by decide
  | 4, _ => exact by decide
  | 5, _ => exact by decide
  | 6, _ => exact by decide
  | 7, _ => exact by decide
  | 8, _ => exact by decide
  | 9, _ => exact by decide
  | 10, _ => exact by decide
  | i + 11, h => exact h.elim
 ·intro i hi hiq e
  match i, hi, hiq with
  | 0, _, _ => exact fun w U => OpV.g (ay O)
  | 1, _, _ =>
   rintro _ _ ⟨rfl, rfl⟩
   intro w U
   exact OpV.g (aT O)
  | 2, _, _ =>
   rintro _ _ ⟨rfl, rfl⟩
   intro w U
   exact OpV.g (ac (v := po b 1) O kr)
  | 3, _, _ =>
   rintro _ _ ⟨rfl, rfl⟩
   intro w U
   exact OpV.g (ld U 1 O O (isAgg60 _) O)
  | 4, _, _ =>
   rintro _ _ ⟨rfl, rfl⟩
   intro w U
   exact OpV.g (o4 O hcap)
  | 5, _, _ => exact fun w U => OpV.g (ay O)
  | 6, _, _ =>
   rintro _ _ ⟨rfl, rfl⟩
   intro w U
   exact OpV.g (aT O)
  | 7, _, _ =>
   rintro _ _ ⟨rfl, rfl⟩
   intro w U
   exact OpV.g (ac (v := po b 1) O kr)
  | 8, _, _ =>
   rintro _ _ ⟨rfl, rfl⟩
   intro w U
   exact OpV.g (ld U 1 O O (isAgg60 _) O)
  | 9, _, _ =>
   rintro _ _ ⟨rfl, rfl⟩
   intro w U
   exact OpV.g ((dY (v := jv (bs.length : Int)) (vs := [.slice (some ⟨g, 0, none⟩) bs.length cap]) (by simp [evs]; rfl) (by simp [builtin, Builtin.len_, runUnderlying60]; rfl)).as O)
  | 10, _, h => exact absurd O h
 ·rintro _ _ ⟨rfl, rfl⟩ _ _ ⟨rfl, rfl⟩
  intro w U
  exact (kg (U.g 0 O) hne O O underlying205 kr).mono fun v w' ⟨h1, h2, h3, h4⟩ => ⟨h2, h3, h4, ⟨h1, O⟩⟩
 clear Y U
 rintro vq _ _ ⟨⟨rfl, rfl⟩, -⟩ _ _ ⟨⟨rfl, rfl⟩, -⟩ _ _ ⟨⟨rfl, rfl⟩, -⟩ _ _ ⟨⟨rfl, rfl⟩, -⟩ _ _ ⟨⟨rfl, rfl⟩, -⟩ _ _ ⟨⟨rfl, rfl⟩, -⟩ _ _ ⟨⟨rfl, rfl⟩, -⟩ _ _ ⟨⟨rfl, rfl⟩, -⟩ _ _ ⟨⟨rfl, rfl⟩, -⟩ _ _ ⟨⟨rfl, rfl⟩, -⟩ _ _ ⟨⟨rfl, rfl⟩, -⟩ a w1 Y U
 replace Y := Y.p13 3 4 5 6 7 8 9 10 11 12 13 0 2 O
 try dsimp only at U
 replace U := U.n2 O
 refine wla Y O fun a Y => ab <| G2 ?_
 replace Y := Y.p1 2 O
 refine aq <| am Y results95 (ae O ag) ?_
 exact ⟨O, U.select [1] de⟩
theorem hT {M : Nat → Prop} {w0 : World} (T : TypeId) (b : Nat) (v : Value) (bs : By) (ws : World) (hne : bs ≠ []) (U : St M w0 [bld T b (pq b) v bs] ws) :
  Ret Tryz.prog 95 #[pq b] ws fun u w => u = sv bs ∧ St M w0 [blk b [pq b, v] T] w := by
 have U : St M w0 [blk b [pq b, v] T, own v 5 1 ((bs).map fun b => [yv b])] ws := lr U
 obtain ⟨g, cap, rfl, hcap⟩ := wP (U.g 1 rfl) hne
 exact oY T b g cap bs ws hne hcap U
theorem gp {M : Nat → Prop} {w0 : World} (T : TypeId) (b : Nat) (ad v : Value) (bs s : By) (ws : World) (hlie : liesAt Tryz.prog Tryz.prog.depth T (2 / Tryz.prog.cellsOf T) 0 160 1 = true) (had : ad = .pointer none ∨ ad = pq b) (hne : s ≠ []) (hbn : bs.length + s.length ≤ 1000000000) (U : St M w0 [bld T b ad v bs] ws) :
  Ret Tryz.prog 94 #[pq b, sv s] ws fun u w => u = .tuple #[jv (s.length : Int), .nilIface] ∧ ∃ v2, St M w0 [bld T b (pq b) v2 (bs ++ s)] w := by
 rcases had with rfl | rfl
 ·exact pX T b v bs s ws hlie hne hbn U
 ·exact rU T b v bs s ws hlie hne hbn U
theorem qN (n : Int) : putI n ≠ [] := fun h => by have := (bW n).1; rw [h] at this; simp at this
theorem hO {M : Nat → Prop} {w0 : World} (T : TypeId) (b : Nat) (ad v lv : Value) (bs : By) (ns : List Int) (ws : World) (hlie : liesAt Tryz.prog Tryz.prog.depth T (2 / Tryz.prog.cellsOf T) 0 160 1 = true) (had : ad = .pointer none ∨ ad = pq b) (hns : smalls ns) (hnn : ns ≠ []) (hbn : bs.length + 9 * ns.length ≤ 1000000000) (U : St M w0 [bld T b (ad) v bs, own lv 3 1 ((ns).map fun n => [jv n])] ws) :
  Ret Tryz.prog 92 #[pq b, lv] ws fun u w => u = .tuple #[] ∧ ∃ v2, St M w0 [bld T b (pq b) v2 (bs ++ puts ns)] w := by
 refine aC func92 O ntmps92 (lb O) fun a Y => ?_
 replace Y := Y.p2 0 1 O
 skip
 refine aa fun _ G1 => nv Y <| yp O <| yo ((aO (sT := 24) (U.ow 1 O) O O (runUnderlying24 _)).asi (m' := (ns.length : Int)) AO) <| yp O <| fun a Y => G1 <| au ?_
 replace U : St M w0 [bld T b ad v (bs ++ puts (ns.take 0)), own lv 3 1 ((ns).map fun n => [jv n])] ws := by rw [show bs ++ puts (ns.take 0) = bs from by simp [puts]]; exact U
 refine aZ (fun m a w => ∃ (k : Nat) (ad : Value) (v : Value), m = ns.length - k ∧ (k ≤ ns.length) ∧ (ad = .pointer none ∨ ad = pq b) ∧ (0 < k → ad = pq b) ∧ Fr 25 [(0, pq b), (8, lv), (9, jv (ns.length : Int)), (10, jv (k : Int))] [] a ∧ St M w0 [bld T b (ad) v (bs ++ puts (ns.take k)), own lv 3 1 ((ns).map fun n => [jv n])] w) _ ⟨0, ad, v, O, yQ _, had, (fun h => absurd h (zW 0)), Y.pick [0, 8, 9, 10], U⟩ ?_
 rintro _ a w1 ⟨k, ad, v, rfl, hk, had, hak, Y, U⟩
 refine aa fun _ G2 => wlv Y (v_lt O O) fun a Y => G2 <| ah fun _ G3 => aA Y O (fun hc1 => ?_) (fun hc1 => ?_)
 ·refine ar <| G3 <| ah fun _ G4 => au <| aa fun _ G5 => nv Y <| yo ((aj (i := (k : Int)) (sT := 24) (U.ow 1 O) O O (runUnderlying24 _) (sizeOf3 _) om Aw).as (v' := slAddr lv (k * 1)) O) <| yo (aB (u := jv (ns.getD k 0)) (i := k) (j := 0) (U.ow 1 O) Aw O (isAgg3 _) AM) <| yq O <| fun a Y => G5 <| aa fun _ G6 => wlm Y O fun a Y => aw Y U call60 O (ft (ns.getD k 0) _ (hns _ (bD om))) fun a w2 Y U => nv Y <| yp O <| yo (ao O O) <| yo (ao O O) <| yq O <| yq O <| fun a Y => G6 ?_
  refine al <| nv (Y.p5 0 8 9 10 6 O) <| yp O <| yo (aT O) <| yo (ac (v := pq b) O kr) <| yp O <| fun a Y => bc (R := fun u e' => u = .tuple #[jv ((putI (ns.getD k 0)).length : Int), .nilIface] ∧ ∃ v2, e' = bld T b (pq b) v2 ((bs ++ puts (ns.take k)) ++ (putI (ns.getD k 0)))) 0 Y U O de call94 O (fun h => (gp T b _ _ _ _ _ hlie (had) (qN _) (by have h1 := dT (ns.take k); have h2 := (bW (ns.getD k 0)).2; rw [yC] at h1; rw [yx]; omega) h).mono fun u w ⟨h1, v2, h2⟩ => ⟨_, ⟨h1, v2, O⟩, h2⟩) ?_
  clear Y U
  rintro a w3 _ _ ⟨rfl, v2, rfl⟩ Y U
  try dsimp only at U
  replace U := U.n2 O
  refine ab <| G4 <| al <| nv (Y.p4 0 8 9 10 O) <| yo (aM O O ⟨om, om⟩) <| yp O <| fun a Y => ab ?_
  replace U : St M w0 [bld T b (pq b) v2 (bs ++ puts (ns.take (k + 1))), own lv 3 1 ((ns).map fun n => [jv n])] w3 := by rw [show bs ++ puts (ns.take (k + 1)) = (bs ++ puts (ns.take k)) ++ (putI (ns.getD k 0)) from by rw [cF 0 om, mq, za]]; exact U
  refine ⟨_, ?_, k + 1, pq b, v2, O, om, (.inr O), (fun _ => O), Y.pick [0, 8, 9, 10], U⟩
  omega
 obtain rfl : k = ns.length := by omega
 rw [List.take_length] at U
 obtain rfl := hak (List.length_pos_iff.2 hnn)
 refine aP <| cS Y results92 ag ?_
 exact ⟨O, _, U.select [0] de⟩
theorem kA {M : Nat → Prop} {w0 : World} (T : TypeId) (b : Nat) (ad v : Value) (bs : By) (x : Wsh) (ws : World) (hlie : liesAt Tryz.prog Tryz.prog.depth T (2 / Tryz.prog.cellsOf T) 0 160 1 = true) (had : ad = .pointer none ∨ ad = pq b) (hx : smalls x.nums) (hbn : bs.length ≤ 1000000) (U : St M w0 [bld T b (ad) v bs] ws) :
  Ret Tryz.prog 88 #[pq b, .agg #[jv x.signer, jv x.holder, jv x.rf, jv x.rt, jv x.carrier, jv x.serial, jv x.sf, jv x.st, sv x.sig]] ws fun u w => u = .tuple #[] ∧ ∃ v2, St M w0 [bld T b (pq b) v2 (bs ++ x.content)] w := by
 refine aC func88 O ntmps88 (lb O) fun a Y => ?_
 replace Y := Y.p2 0 1 O
 skip
 refine aa fun _ G1 => aV Y U O [jv x.signer, jv x.holder, jv x.rf, jv x.rt, jv x.carrier, jv x.serial, jv x.sf, jv x.st, sv x.sig] O fun a w1 Y U => G1 <| al <| nv Y <| yp O <| yo (ac (v := pq ws.hz) O kr) <| yo (ld U 0 O O (isAgg3 _) O) <| yo (ac (v := po ws.hz 1) O kr) <| yo (ld U 0 O O (isAgg3 _) O) <| yo (ac (v := po ws.hz 2) O kr) <| yo (ac (v := po ws.hz 2) O kr) <| yo (ld U 0 O O (isAgg3 _) O) <| yo (ac (v := po ws.hz 2) O kr) <| yo (ac (v := po ws.hz 3) O kr) <| fun a Y => nv Y <| yo (ld U 0 O O (isAgg3 _) O) <| yo (ac (v := po ws.hz 4) O kr) <| yo (ld U 0 O O (isAgg3 _) O) <| yo (ac (v := po ws.hz 5) O kr) <| yo (ld U 0 O O (isAgg3 _) O) <| yo (ac (v := po ws.hz 6) O kr) <| yo (ac (v := po ws.hz 6) O kr) <| yo (ld U 0 O O (isAgg3 _) O) <| yo (ac (v := po ws.hz 6) O kr) <| yo (ac (v := po ws.hz 7) O kr) <| yo (ld U 0 O O (isAgg3 _) O) <| fun a Y => aE (E := 3) (sz := 1) O [[jv 1], [jv x.signer], [jv x.holder], [jv x.rf], [jv x.rt], [jv x.carrier], [jv x.serial], [jv x.sf], [jv x.st]] kr sm O de de Y U fun a w2 Y U => ?_
 replace U := U.s3 [2, 0, 1] de rfl
 replace U := St.join [bld T b (ad) v bs, own (.slice (some ⟨w1.hz, 0, none⟩) 9 9) 3 1 ([[jv 1], [jv x.signer], [jv x.holder], [jv x.rf], [jv x.rt], [jv x.carrier], [jv x.serial], [jv x.sf], [jv x.st]])] [blk ws.hz [jv x.signer, jv x.holder, jv x.rf, jv x.rt, jv x.carrier, jv x.serial, jv x.sf, jv x.st, sv x.sig] 90] U
 refine bc (R := fun u e' => u = .tuple #[] ∧ ∃ v2, e' = bld T b (pq b) v2 (bs ++ puts [1, x.signer, x.holder, x.rf, x.rt, x.carrier, x.serial, x.sf, x.st])) 0 Y U O de call92 O (fun h => (hO T b _ _ _ _ [1, x.signer, x.holder, x.rf, x.rt, x.carrier, x.serial, x.sf, x.st] _ hlie (had) (hx) sm (by simp <;> omega) (St.unjoin [bld T b (ad) v bs, own (.slice (some ⟨w1.hz, 0, none⟩) 9 9) 3 1 ([[jv 1], [jv x.signer], [jv x.holder], [jv x.rf], [jv x.rt], [jv x.carrier], [jv x.serial], [jv x.sf], [jv x.st]])] [] h)).mono fun u w ⟨h1, v2, h2⟩ => ⟨_, ⟨h1, v2, O⟩, h2⟩) ?_
 clear Y U
 rintro a w3 _ _ ⟨rfl, v1, rfl⟩ Y U
 try dsimp only at U
 replace U := U.n2 O
 refine ab <| cS Y results88 ag ?_
 exact ⟨O, _, U.select [0] de⟩
theorem jd {M : Nat → Prop} {w0 : World} (T : TypeId) (b : Nat) (ad v : Value) (bs : By) (x : Pxy) (ws : World) (hlie : liesAt Tryz.prog Tryz.prog.depth T (2 / Tryz.prog.cellsOf T) 0 160 1 = true) (had : ad = .pointer none ∨ ad = pq b) (hx : smalls x.nums) (hbn : bs.length ≤ 1000000) (U : St M w0 [bld T b (ad) v bs] ws) :
  Ret Tryz.prog 93 #[pq b, .agg #[jv x.frm, jv x.to, jv x.rf, jv x.rt, jv x.sf, jv x.st, sv x.sig]] ws fun u w => u = .tuple #[] ∧ ∃ v2, St M w0 [bld T b (pq b) v2 (bs ++ x.content)] w := by
 refine aC func93 O ntmps93 (lb O) fun a Y => ?_
 replace Y := Y.p2 0 1 O
 skip
 refine aa fun _ G1 => aV Y U O [jv x.frm, jv x.to, jv x.rf, jv x.rt, jv x.sf, jv x.st, sv x.sig] O fun a w1 Y U => G1 <| al <| nv Y <| yp O <| yo (ac (v := pq ws.hz) O kr) <| yo (ld U 0 O O (isAgg3 _) O) <| yo (ac (v := po ws.hz 1) O kr) <| yo (ld U 0 O O (isAgg3 _) O) <| yo (ac (v := po ws.hz 2) O kr) <| yo (ac (v := po ws.hz 2) O kr) <| yo (ld U 0 O O (isAgg3 _) O) <| yo (ac (v := po ws.hz 2) O kr) <| yo (ac (v := po ws.hz 3) O kr) <| fun a Y => nv Y <| yo (ld U 0 O O (isAgg3 _) O) <| yo (ac (v := po ws.hz 4) O kr) <| yo (ac (v := po ws.hz 4) O kr) <| yo (ld U 0 O O (isAgg3 _) O) <| yo (ac (v := po ws.hz 4) O kr) <| yo (ac (v := po ws.hz 5) O kr) <| yo (ld U 0 O O (isAgg3 _) O) <| fun a Y => aE (E := 3) (sz := 1) O [[jv 2], [jv x.frm], [jv x.to], [jv x.rf], [jv x.rt], [jv x.sf], [jv x.st]] kr sm O de de Y U fun a w2 Y U => ?_
 replace U := U.s3 [2, 0, 1] de rfl
 replace U := St.join [bld T b (ad) v bs, own (.slice (some ⟨w1.hz, 0, none⟩) 7 7) 3 1 ([[jv 2], [jv x.frm], [jv x.to], [jv x.rf], [jv x.rt], [jv x.sf], [jv x.st]])] [blk ws.hz [jv x.frm, jv x.to, jv x.rf, jv x.rt, jv x.sf, jv x.st, sv x.sig] 144] U
 refine bc (R := fun u e' => u = .tuple #[] ∧ ∃ v2, e' = bld T b (pq b) v2 (bs ++ puts [2, x.frm, x.to, x.rf, x.rt, x.sf, x.st])) 0 Y U O de call92 O (fun h => (hO T b _ _ _ _ [2, x.frm, x.to, x.rf, x.rt, x.sf, x.st] _ hlie (had) (hx) sm (by simp <;> omega) (St.unjoin [bld T b (ad) v bs, own (.slice (some ⟨w1.hz, 0, none⟩) 7 7) 3 1 ([[jv 2], [jv x.frm], [jv x.to], [jv x.rf], [jv x.rt], [jv x.sf], [jv x.st]])] [] h)).mono fun u w ⟨h1, v2, h2⟩ => ⟨_, ⟨h1, v2, O⟩, h2⟩) ?_
 clear Y U
 rintro a w3 _ _ ⟨rfl, v1, rfl⟩ Y U
 try dsimp only at U
 replace U := U.n2 O
 refine ab <| cS Y results93 ag ?_
 exact ⟨O, _, U.select [0] de⟩
theorem nj {M : Nat → Prop} {w0 : World} (key content : By) (g : FuncId) (caps : List Value) (ec : Ent) (ws : World) (hen : ∀ args w, (callFunc g args).run Tryz.prog w = .ok (.enter g args) w)
  (hc : ∀ {M : Nat → Prop} {w0 : World} (b : Nat) (v : Value) (ws : World), St M w0 [bld 162 b (.pointer none) v [], ec] ws → Ret Tryz.prog g ([pq b] ++ caps).toArray ws fun u w => u = .tuple #[] ∧ ∃ v2, St M w0 [bld 162 b (pq b) v2 content, ec] w)
  (hne : content ≠ []) (hkl : key.length ≤ 40000000) (hcl : content.length ≤ 40000000) (U : St M w0 [blk 0 (kOf.map wv) 258, ec] ws) :
  Ret Tryz.prog 86 #[sv key, .func (.func g) #[] caps.toArray] ws fun u w => u = sv (sealH key content) ∧ St M w0 [blk 0 (kOf.map wv) 258, ec] w := by
 refine aC func86 O ntmps86 (lb O) fun a Y => ?_
 replace Y := Y.p2 0 1 O
 skip
 refine aa fun _ G1 => wla Y O fun a Y => G1 <| aa fun _ G2 => aD Y U (zeroValue162 _) [.pointer none, .slice none 0 0] O fun a w1 Y U => G2 <| aa fun _ G3 => wlm Y O fun a Y => ?_
 replace U : St M w0 (own (.slice none 0 0) 5 1 [] :: [blk ws.hz [.pointer none, .slice none 0 0] 162, blk 0 (kOf.map wv) 258, ec]) w1 := U.nil_own
 replace U := U.s4 [1, 0, 3, 2] de rfl
 replace U : St M w0 ([bld 162 (ws.hz) (.pointer none) (.slice none 0 0) [], ec] ++ [blk 0 (kOf.map wv) 258]) w1 := St.join [blk ws.hz [.pointer none, .slice none 0 0] 162, own (.slice none 0 0) 5 1 ([])] [ec, blk 0 (kOf.map wv) 258] U
 replace U := St.join _ _ U
 refine sX (R := fun u e' => u = .tuple #[] ∧ ∃ v2, e' = join [bld 162 (ws.hz) (pq ws.hz) v2 content, ec]) 0 Y U O de O hen O (fun h => (hc (ws.hz) _ _ (St.unjoin [bld 162 (ws.hz) (.pointer none) (.slice none 0 0) [], ec] [] h)).mono fun u w ⟨h1, v2, h2⟩ => ⟨_, ⟨h1, v2, O⟩, St.join _ [] h2⟩) ?_
 clear Y U
 rintro a w2 _ _ ⟨rfl, v1, rfl⟩ Y U
 replace U : St M w0 [bld 162 (ws.hz) (pq ws.hz) v1 content, ec, blk 0 (kOf.map wv) 258] w2 := St.unjoin [bld 162 (ws.hz) (pq ws.hz) v1 content, ec] [blk 0 (kOf.map wv) 258] U
 refine G3 <| aa fun _ G4 => nv Y <| yp O <| yo (ac (v := pq ws.hz) O kr) <| fun a Y => bc (R := fun u e' => u = sv (content) ∧ e' = blk (ws.hz) [pq ws.hz, v1] 162) 0 Y U O de call95 O (fun h => (hT 162 (ws.hz) _ _ _ hne h).mono fun u w ⟨h1, h2⟩ => ⟨_, ⟨h1, O⟩, h2⟩) ?_
 clear Y U
 rintro a w3 _ _ ⟨rfl, rfl⟩ Y U
 try dsimp only at U
 replace U := U.n3 O
 refine aw Y U call139 O (j2 content _ om (U.g 2 O)) fun a w4 Y U => aw Y U call138 O (gz key (leafH sha content) _ om (by rw [iR dH]; decide) (U.g 2 O)) fun a w5 Y U => wla Y O fun a Y => G4 ?_
 replace Y := Y.p1 4 O
 refine aq <| am Y results86 (ae O ag) ?_
 exact ⟨O, U.select [2, 1] de⟩
theorem kl (s : By) (w0 : World) :
  Ret Tryz.prog 84 #[sv s] w0 fun v w => v = .bool (decide ((s.length : Int) = 32)) ∧ Ext No w0 w := by
 refine An func84 O ntmps84 (lb O) fun a Y U => aa fun _ G1 => wla Y O fun a Y => G1 <| aa fun _ G2 => nv Y <| yp O <| yo (bd O O (runUnderlying9 _)) <| yo (v_eq O O) <| yq O <| fun a Y => G2 <| aq <| am Y results84 (ae O ag) ?_
 exact ⟨by rfl, U.ext⟩
theorem cX (n lo hi : Int) (w0 : World) :
  Ret Tryz.prog 100 #[jv n, jv lo, jv hi] w0 fun v w => v = .bool (inB n lo hi) ∧ Ext No w0 w := by
 refine Ao func100 O ntmps100 (lb O) fun a Y U => aa fun _ G1 => wla Y O fun a Y => G1 <| aa fun _ G2 => nv Y <| yp O <| yp O <| yo (v_le O O) <| yp O <| fun a Y => dk (N := 15) (df := []) 4 [(14, .bool ((decide (lo ≤ n)) && (decide (n ≤ hi)))), (0, jv n), (1, jv lo), (2, jv hi), (6, .bool false)] ?_ (fun hj => ?_)
 rotate_left
 ·rcases yz (decide (lo ≤ n)) with hb1 | hb1
  ·rw [hb1] at Y
   have hb1b := hb1
   try simp only [qz, yw, yS, yM, yU] at hb1
   refine nv Y <| yr (ay O) <| yr (ay O) <| yr (v_le O O) <| yo (ax O O) <| fun a Y => hj _ ?_
   try rw [hb1b]
   exact Y.pick [14, 0, 1, 2, 6]
  rw [hb1] at Y
  have hb1b := hb1
  try simp only [qz, yw, yS, yM, yU] at hb1
  refine nv Y <| yt <| yt <| yt <| yo (ak O O) <| fun a Y => hj _ ?_
  try rw [hb1b]
  exact Y.pick [14, 0, 1, 2, 6]
 intro a Y
 refine wla Y O fun a Y => G2 <| aq <| am Y results100 (ae O ag) ?_
 exact ⟨by rfl, U.ext⟩
theorem kY (b d : Int) (w0 : World) :
  Ret Tryz.prog 136 #[.agg #[jv b, jv d]] w0 fun v w => v = .bool (cy b d) ∧ Ext No w0 w := by
 refine An func136 O ntmps136 (lb O) fun a Y U => aa fun _ G1 => aV Y U O [jv b, jv d] O fun a w1 Y U => wla Y O fun a Y => G1 <| aa fun _ G2 => nv Y <| yo (ac (v := pq w0.hz) O kr) <| yo (ld U 0 O O (isAgg3 _) O) <| yo (v_le O O) <| yp O <| fun a Y => dk (N := 18) (df := []) 6 [(12, .bool ((decide (0 ≤ b)) && (decide (b < d)))), (0, .agg #[jv b, jv d]), (1, pq w0.hz), (2, .bool false)] ?_ (fun hj => ?_)
 rotate_left
 ·rcases yz (decide (0 ≤ b)) with hb1 | hb1
  ·rw [hb1] at Y
   have hb1b := hb1
   try simp only [qz, yw, yS, yM, yU] at hb1
   refine nv Y <| yr (ac (v := pq w0.hz) O kr) <| yr (ld U 0 O O (isAgg3 _) O) <| yr (ac (v := po w0.hz 1) O kr) <| yr (ld U 0 O O (isAgg3 _) O) <| yr (v_lt O O) <| yo (ax O O) <| fun a Y => hj _ ?_
   try rw [hb1b]
   exact Y.pick [12, 0, 1, 2]
  rw [hb1] at Y
  have hb1b := hb1
  try simp only [qz, yw, yS, yM, yU] at hb1
  refine nv Y <| yt <| yt <| yt <| yt <| yt <| yo (ak O O) <| fun a Y => hj _ ?_
  try rw [hb1b]
  exact Y.pick [12, 0, 1, 2]
 intro a Y
 refine wlm Y O fun a Y => dk (N := 18) (df := []) 4 [(17, .bool (((decide (0 ≤ b)) && (decide (b < d))) && (decide (d ≤ 100000000)))), (0, .agg #[jv b, jv d]), (1, pq w0.hz), (2, .bool false)] ?_ (fun hj => ?_)
 rotate_left
 ·rcases yz ((decide (0 ≤ b)) && (decide (b < d))) with hb2 | hb2
  ·rw [hb2] at Y
   have hb2b := hb2
   try simp only [qz, yw, yS, yM, yU] at hb2
   refine nv Y <| yr (ac (v := po w0.hz 1) O kr) <| yr (ld U 0 O O (isAgg3 _) O) <| yr (v_le O O) <| yo (ax O O) <| fun a Y => hj _ ?_
   try rw [hb2b]
   exact Y.pick [17, 0, 1, 2]
  rw [hb2] at Y
  have hb2b := hb2
  try simp only [qz, yw, yS, yM, yU] at hb2
  refine nv Y <| yt <| yt <| yt <| yo (ak O O) <| fun a Y => hj _ ?_
  try rw [hb2b]
  exact Y.pick [17, 0, 1, 2]
 intro a Y
 refine wla Y O fun a Y => G2 <| aq <| am Y results136 (ae O ag) ?_
 exact ⟨by rfl, U.ext⟩
theorem kV (b d : Int) (w0 : World) :
  Ret Tryz.prog 137 #[.agg #[jv b, jv d]] w0 fun v w => v = .bool (cZ b d) ∧ Ext No w0 w := by
 refine An func137 O ntmps137 (lb O) fun a Y U => aa fun _ G1 => aV Y U O [jv b, jv d] O fun a w1 Y U => wla Y O fun a Y => G1 <| aa fun _ G2 => nv Y <| yo (ac (v := pq w0.hz) O kr) <| yo (ld U 0 O O (isAgg3 _) O) <| yo (v_le O O) <| yp O <| fun a Y => dk (N := 18) (df := []) 6 [(12, .bool ((decide (0 ≤ b)) && (decide (b < d)))), (0, .agg #[jv b, jv d]), (1, pq w0.hz), (2, .bool false)] ?_ (fun hj => ?_)
 rotate_left
 ·rcases yz (decide (0 ≤ b)) with hb1 | hb1
  ·rw [hb1] at Y
   have hb1b := hb1
   try simp only [qz, yw, yS, yM, yU] at hb1
   refine nv Y <| yr (ac (v := pq w0.hz) O kr) <| yr (ld U 0 O O (isAgg3 _) O) <| yr (ac (v := po w0.hz 1) O kr) <| yr (ld U 0 O O (isAgg3 _) O) <| yr (v_lt O O) <| yo (ax O O) <| fun a Y => hj _ ?_
   try rw [hb1b]
   exact Y.pick [12, 0, 1, 2]
  rw [hb1] at Y
  have hb1b := hb1
  try simp only [qz, yw, yS, yM, yU] at hb1
  refine nv Y <| yt <| yt <| yt <| yt <| yt <| yo (ak O O) <| fun a Y => hj _ ?_
  try rw [hb1b]
  exact Y.pick [12, 0, 1, 2]
 intro a Y
 refine wlm Y O fun a Y => dk (N := 18) (df := []) 4 [(17, .bool (((decide (0 ≤ b)) && (decide (b < d))) && (decide (d ≤ 10000001)))), (0, .agg #[jv b, jv d]), (1, pq w0.hz), (2, .bool false)] ?_ (fun hj => ?_)
 rotate_left
 ·rcases yz ((decide (0 ≤ b)) && (decide (b < d))) with hb2 | hb2
  ·rw [hb2] at Y
   have hb2b := hb2
   try simp only [qz, yw, yS, yM, yU] at hb2
   refine nv Y <| yr (ac (v := po w0.hz 1) O kr) <| yr (ld U 0 O O (isAgg3 _) O) <| yr (v_le O O) <| yo (ax O O) <| fun a Y => hj _ ?_
   try rw [hb2b]
   exact Y.pick [17, 0, 1, 2]
  rw [hb2] at Y
  have hb2b := hb2
  try simp only [qz, yw, yS, yM, yU] at hb2
  refine nv Y <| yt <| yt <| yt <| yo (ak O O) <| fun a Y => hj _ ?_
  try rw [hb2b]
  exact Y.pick [17, 0, 1, 2]
 intro a Y
 refine wla Y O fun a Y => G2 <| aq <| am Y results137 (ae O ag) ?_
 exact ⟨by rfl, U.ext⟩
theorem jt (x : Wsh) (w0 : World) :
  Ret Tryz.prog 85 #[.agg #[jv x.signer, jv x.holder, jv x.rf, jv x.rt, jv x.carrier, jv x.serial, jv x.sf, jv x.st, sv x.sig]] w0 fun v w => v = .bool x.ok ∧ Ext No w0 w := by
 refine An func85 O ntmps85 (lb O) fun a Y U => aa fun _ G1 => aV Y U O [jv x.signer, jv x.holder, jv x.rf, jv x.rt, jv x.carrier, jv x.serial, jv x.sf, jv x.st, sv x.sig] O fun a w1 Y U => wla Y O fun a Y => G1 <| aa fun _ G2 => nv Y <| yo (ac (v := pq w0.hz) O kr) <| yo (ld U 0 O O (isAgg3 _) O) <| fun a Y => aw Y U call100 O (cX x.signer 0 63 _) fun a w2 Y U => wlm Y O fun a Y => ?_
 rcases yz (inB x.signer 0 63) with hb1 | hb1
 ·rw [hb1] at Y
  refine nv Y <| yr (ac (v := po w0.hz 1) O kr) <| yr (ld U 0 O O (isAgg3 _) O) <| fun a Y => aF Y U call100 O (cX x.holder 0 63 _) fun a w3 Y U => nv Y <| yo (ax O O) <| yq O <| fun a Y => G2 ?_
  refine aa fun _ G3 => nv (Y.p3 1 2 3 O) <| yp O <| yp O <| fun a Y => ?_
  rcases yz (inB x.holder 0 63) with hb2 | hb2
  ·rw [hb2] at Y
   refine nv Y <| yr (ac (v := po w0.hz 2) O kr) <| yr (bS (ds := [jv x.rf, jv x.rt]) (U.g 0 O) O (isAgg87 _) (sizeOf87 _) O) <| fun a Y => aF Y U call136 O (kY x.rf x.rt _) fun a w4 Y U => nv Y <| yo (ax O O) <| yp O <| fun a Y => ?_
   rcases yz (cy x.rf x.rt) with hb3 | hb3
   ·rw [hb3] at Y
    refine nv Y <| yr (ac (v := po w0.hz 4) O kr) <| yr (ld U 0 O O (isAgg3 _) O) <| fun a Y => aF Y U call100 O (cX x.carrier 0 7 _) fun a w5 Y U => nv Y <| yo (ax O O) <| yp O <| fun a Y => ?_
    rcases yz (inB x.carrier 0 7) with hb4 | hb4
    ·rw [hb4] at Y
     refine nv Y <| yr (ac (v := po w0.hz 5) O kr) <| yr (ld U 0 O O (isAgg3 _) O) <| fun a Y => aF Y U call100 O (cX x.serial 0 1000000 _) fun a w6 Y U => nv Y <| yo (ax O O) <| yp O <| fun a Y => ?_
     rcases yz (inB x.serial 0 1000000) with hb5 | hb5
     ·rw [hb5] at Y
      refine nv Y <| yr (ac (v := po w0.hz 6) O kr) <| yr (bS (ds := [jv x.sf, jv x.st]) (U.g 0 O) O (isAgg88 _) (sizeOf88 _) O) <| fun a Y => aF Y U call137 O (kV x.sf x.st _) fun a w7 Y U => nv Y <| yo (ax O O) <| yq O <| fun a Y => G3 ?_
      replace Y := Y.p1 2 O
      replace U := U.k0 0 O
      refine aq <| am Y results85 (ae O ag) ?_
      exact ⟨by simp only [retv]; unfold Wsh.ok; simp [hb1, hb2, hb3, hb4, hb5], U.ext⟩
     rw [hb5] at Y
     refine nv Y <| yt <| yt <| yt <| yo (ak O O) <| yq O <| fun a Y => G3 ?_
     replace Y := Y.p1 2 O
     replace U := U.k0 0 O
     refine aq <| am Y results85 (ae O ag) ?_
     exact ⟨by simp only [retv]; unfold Wsh.ok; simp [hb1, hb2, hb3, hb4, hb5], U.ext⟩
    rw [hb4] at Y
    refine nv Y <| yt <| yt <| yt <| yo (ak O O) <| yp O <| yt <| yt <| yt <| yo (ak O O) <| yq O <| fun a Y => G3 ?_
    replace Y := Y.p1 2 O
    replace U := U.k0 0 O
    refine aq <| am Y results85 (ae O ag) ?_
    exact ⟨by simp only [retv]; unfold Wsh.ok; simp [hb1, hb2, hb3, hb4], U.ext⟩
   rw [hb3] at Y
   refine nv Y <| yt <| yt <| yt <| yo (ak O O) <| yp O <| yt <| yt <| yt <| yo (ak O O) <| yp O <| yt <| yt <| yt <| yo (ak O O) <| yq O <| fun a Y => G3 ?_
   replace Y := Y.p1 2 O
   replace U := U.k0 0 O
   refine aq <| am Y results85 (ae O ag) ?_
   exact ⟨by simp only [retv]; unfold Wsh.ok; simp [hb1, hb2, hb3], U.ext⟩
  rw [hb2] at Y
  refine nv Y <| yt <| yt <| yt <| yo (ak O O) <| yp O <| yt <| yt <| yt <| yo (ak O O) <| yp O <| yt <| yt <| yt <| yo (ak O O) <| yp O <| yt <| yt <| yt <| yo (ak O O) <| yq O <| fun a Y => G3 ?_
  replace Y := Y.p1 2 O
  replace U := U.k0 0 O
  refine aq <| am Y results85 (ae O ag) ?_
  exact ⟨by simp only [retv]; unfold Wsh.ok; simp [hb1, hb2], U.ext⟩
 rw [hb1] at Y
 refine nv Y <| yt <| yt <| yt <| yo (ak O O) <| yq O <| fun a Y => G2 ?_
 refine aa fun _ G4 => nv (Y.p3 1 2 3 O) <| yp O <| yp O <| yt <| yt <| yt <| yo (ak O O) <| yp O <| yt <| yt <| yt <| yo (ak O O) <| yp O <| yt <| yt <| yt <| yo (ak O O) <| yp O <| yt <| yt <| yt <| yo (ak O O) <| yq O <| fun a Y => G4 ?_
 replace Y := Y.p1 2 O
 replace U := U.k0 0 O
 refine aq <| am Y results85 (ae O ag) ?_
 exact ⟨by simp only [retv]; unfold Wsh.ok; simp [hb1], U.ext⟩
theorem kw (x : Pxy) (w0 : World) :
  Ret Tryz.prog 178 #[.agg #[jv x.frm, jv x.to, jv x.rf, jv x.rt, jv x.sf, jv x.st, sv x.sig]] w0 fun v w => v = .bool x.ok ∧ Ext No w0 w := by
 refine An func178 O ntmps178 (lb O) fun a Y U => aa fun _ G1 => aV Y U O [jv x.frm, jv x.to, jv x.rf, jv x.rt, jv x.sf, jv x.st, sv x.sig] O fun a w1 Y U => wla Y O fun a Y => G1 <| aa fun _ G2 => nv Y <| yo (ac (v := pq w0.hz) O kr) <| yo (ld U 0 O O (isAgg3 _) O) <| fun a Y => aw Y U call100 O (cX x.frm 0 63 _) fun a w2 Y U => wlm Y O fun a Y => ?_
 rcases yz (inB x.frm 0 63) with hb1 | hb1
 ·rw [hb1] at Y
  refine nv Y <| yr (ac (v := po w0.hz 1) O kr) <| yr (ld U 0 O O (isAgg3 _) O) <| fun a Y => aF Y U call100 O (cX x.to 0 63 _) fun a w3 Y U => nv Y <| yo (ax O O) <| yp O <| fun a Y => ?_
  rcases yz (inB x.to 0 63) with hb2 | hb2
  ·rw [hb2] at Y
   refine nv Y <| yr (ac (v := pq w0.hz) O kr) <| yr (ld U 0 O O (isAgg3 _) O) <| yr (ac (v := po w0.hz 1) O kr) <| yr (ld U 0 O O (isAgg3 _) O) <| yr (v_ne O O) <| yo (ax O O) <| yq O <| fun a Y => G2 ?_
   refine aa fun _ G3 => nv (Y.p3 1 2 3 O) <| yp O <| yp O <| fun a Y => ?_
   rcases (Decidable.em (x.frm = x.to)).symm with hb3 | hb3
   ·rw [yD hb3] at Y
    refine nv Y <| yr (ac (v := po w0.hz 2) O kr) <| yr (bS (ds := [jv x.rf, jv x.rt]) (U.g 0 O) O (isAgg87 _) (sizeOf87 _) O) <| fun a Y => aF Y U call136 O (kY x.rf x.rt _) fun a w4 Y U => nv Y <| yo (ax O O) <| yp O <| fun a Y => ?_
    rcases yz (cy x.rf x.rt) with hb4 | hb4
    ·rw [hb4] at Y
     refine nv Y <| yr (ac (v := po w0.hz 4) O kr) <| yr (bS (ds := [jv x.sf, jv x.st]) (U.g 0 O) O (isAgg88 _) (sizeOf88 _) O) <| fun a Y => aF Y U call137 O (kV x.sf x.st _) fun a w5 Y U => nv Y <| yo (ax O O) <| yq O <| fun a Y => G3 ?_
     replace Y := Y.p1 2 O
     replace U := U.k0 0 O
     refine aq <| am Y results178 (ae O ag) ?_
     exact ⟨by simp only [retv]; unfold Pxy.ok; simp [hb1, hb2, hb3, hb4], U.ext⟩
    rw [hb4] at Y
    refine nv Y <| yt <| yt <| yt <| yo (ak O O) <| yq O <| fun a Y => G3 ?_
    replace Y := Y.p1 2 O
    replace U := U.k0 0 O
    refine aq <| am Y results178 (ae O ag) ?_
    exact ⟨by simp only [retv]; unfold Pxy.ok; simp [hb1, hb2, hb3, hb4], U.ext⟩
   rw [yy hb3] at Y
   refine nv Y <| yt <| yt <| yt <| yo (ak O O) <| yp O <| yt <| yt <| yt <| yo (ak O O) <| yq O <| fun a Y => G3 ?_
   replace Y := Y.p1 2 O
   replace U := U.k0 0 O
   refine aq <| am Y results178 (ae O ag) ?_
   exact ⟨by simp only [retv]; unfold Pxy.ok; simp [hb1, hb2, hb3], U.ext⟩
  rw [hb2] at Y
  refine nv Y <| yt <| yt <| yt <| yt <| yt <| yo (ak O O) <| yq O <| fun a Y => G2 ?_
  refine aa fun _ G4 => nv (Y.p3 1 2 3 O) <| yp O <| yp O <| yt <| yt <| yt <| yo (ak O O) <| yp O <| yt <| yt <| yt <| yo (ak O O) <| yq O <| fun a Y => G4 ?_
  replace Y := Y.p1 2 O
  replace U := U.k0 0 O
  refine aq <| am Y results178 (ae O ag) ?_
  exact ⟨by simp only [retv]; unfold Pxy.ok; simp [hb1, hb2], U.ext⟩
 rw [hb1] at Y
 refine nv Y <| yt <| yt <| yt <| yo (ak O O) <| yp O <| yt <| yt <| yt <| yt <| yt <| yo (ak O O) <| yq O <| fun a Y => G2 ?_
 refine aa fun _ G5 => nv (Y.p3 1 2 3 O) <| yp O <| yp O <| yt <| yt <| yt <| yo (ak O O) <| yp O <| yt <| yt <| yt <| yo (ak O O) <| yq O <| fun a Y => G5 ?_
 replace Y := Y.p1 2 O
 replace U := U.k0 0 O
 refine aq <| am Y results178 (ae O ag) ?_
 exact ⟨by simp only [retv]; unfold Pxy.ok; simp [hb1], U.ext⟩
theorem vW {M : Nat → Prop} {w0 : World} (b bx : Nat) (v : Value) (x : Wsh) (ws : World) (hx : smalls x.nums) (U : St M w0 [bld 162 b (.pointer none) v ([] : By), blk bx [jv x.signer, jv x.holder, jv x.rf, jv x.rt, jv x.carrier, jv x.serial, jv x.sf, jv x.st, sv x.sig] 90] ws) :
  Ret Tryz.prog 87 #[pq b, pq bx] ws fun u w => u = .tuple #[] ∧ ∃ v2, St M w0 [bld 162 b (pq b) v2 x.content, blk bx [jv x.signer, jv x.holder, jv x.rf, jv x.rt, jv x.carrier, jv x.serial, jv x.sf, jv x.st, sv x.sig] 90] w := by
 refine aC func87 O ntmps87 (lb O) fun a Y => ?_
 replace Y := Y.p2 0 1 O
 skip
 refine al <| nv Y <| yp O <| yo (ap (U.g 1 O) O (isAgg90 _) (sizeOf90 _)) <| fun a Y => bc (R := fun u e' => u = .tuple #[] ∧ ∃ v2, e' = bld 162 b (pq b) v2 (([] : By) ++ x.content)) 0 Y U O de call88 O (fun h => (kA 162 b _ _ _ x _ kr (.inl O) hx sm h).mono fun u w ⟨h1, v2, h2⟩ => ⟨_, ⟨h1, v2, O⟩, h2⟩) ?_
 clear Y U
 rintro a w1 _ _ ⟨rfl, v1, rfl⟩ Y U
 try dsimp only at U
 replace U := U.n2 O
 refine ab <| cS Y results87 ag ?_
 exact ⟨O, _, U.select [0, 1] de⟩
theorem xj {M : Nat → Prop} {w0 : World} (b bx : Nat) (v : Value) (x : Pxy) (ws : World) (hx : smalls x.nums) (U : St M w0 [bld 162 b (.pointer none) v ([] : By), blk bx [jv x.frm, jv x.to, jv x.rf, jv x.rt, jv x.sf, jv x.st, sv x.sig] 144] ws) :
  Ret Tryz.prog 185 #[pq b, pq bx] ws fun u w => u = .tuple #[] ∧ ∃ v2, St M w0 [bld 162 b (pq b) v2 x.content, blk bx [jv x.frm, jv x.to, jv x.rf, jv x.rt, jv x.sf, jv x.st, sv x.sig] 144] w := by
 refine aC func185 O ntmps185 (lb O) fun a Y => ?_
 replace Y := Y.p2 0 1 O
 skip
 refine al <| nv Y <| yp O <| yo (ap (U.g 1 O) O (isAgg144 _) (sizeOf144 _)) <| fun a Y => bc (R := fun u e' => u = .tuple #[] ∧ ∃ v2, e' = bld 162 b (pq b) v2 (([] : By) ++ x.content)) 0 Y U O de call93 O (fun h => (jd 162 b _ _ _ x _ kr (.inl O) hx sm h).mono fun u w ⟨h1, v2, h2⟩ => ⟨_, ⟨h1, v2, O⟩, h2⟩) ?_
 clear Y U
 rintro a w1 _ _ ⟨rfl, v1, rfl⟩ Y U
 try dsimp only at U
 replace U := U.n2 O
 refine ab <| cS Y results185 ag ?_
 exact ⟨O, _, U.select [0, 1] de⟩
theorem vQ {M : Nat → Prop} {w0 : World} (b bx : Nat) (v : Value) (x : Pxy) (ws : World) (hx : smalls x.nums) (U : St M w0 [bld 162 b (.pointer none) v ([] : By), blk bx [jv x.frm, jv x.to, jv x.rf, jv x.rt, jv x.sf, jv x.st, sv x.sig] 144] ws) :
  Ret Tryz.prog 149 #[pq b, pq bx] ws fun u w => u = .tuple #[] ∧ ∃ v2, St M w0 [bld 162 b (pq b) v2 x.content, blk bx [jv x.frm, jv x.to, jv x.rf, jv x.rt, jv x.sf, jv x.st, sv x.sig] 144] w := by
 refine aC func149 O ntmps149 (lb O) fun a Y => ?_
 replace Y := Y.p2 0 1 O
 skip
 refine al <| nv Y <| yp O <| yo (ap (U.g 1 O) O (isAgg144 _) (sizeOf144 _)) <| fun a Y => bc (R := fun u e' => u = .tuple #[] ∧ ∃ v2, e' = bld 162 b (pq b) v2 (([] : By) ++ x.content)) 0 Y U O de call93 O (fun h => (jd 162 b _ _ _ x _ kr (.inl O) hx sm h).mono fun u w ⟨h1, v2, h2⟩ => ⟨_, ⟨h1, v2, O⟩, h2⟩) ?_
 clear Y U
 rintro a w1 _ _ ⟨rfl, v1, rfl⟩ Y U
 try dsimp only at U
 replace U := U.n2 O
 refine ab <| cS Y results149 ag ?_
 exact ⟨O, _, U.select [0, 1] de⟩
theorem wl {M : Nat → Prop} {w0 : World} (b bx : Nat) (v : Value) (x : Wsh) (ws : World) (hx : smalls x.nums) (U : St M w0 [bld 162 b (.pointer none) v ([] : By), blk bx [jv x.signer, jv x.holder, jv x.rf, jv x.rt, jv x.carrier, jv x.serial, jv x.sf, jv x.st, sv x.sig] 90] ws) :
  Ret Tryz.prog 150 #[pq b, pq bx] ws fun u w => u = .tuple #[] ∧ ∃ v2, St M w0 [bld 162 b (pq b) v2 x.content, blk bx [jv x.signer, jv x.holder, jv x.rf, jv x.rt, jv x.carrier, jv x.serial, jv x.sf, jv x.st, sv x.sig] 90] w := by
 refine aC func150 O ntmps150 (lb O) fun a Y => ?_
 replace Y := Y.p2 0 1 O
 skip
 refine al <| nv Y <| yp O <| yo (ap (U.g 1 O) O (isAgg90 _) (sizeOf90 _)) <| fun a Y => bc (R := fun u e' => u = .tuple #[] ∧ ∃ v2, e' = bld 162 b (pq b) v2 (([] : By) ++ x.content)) 0 Y U O de call88 O (fun h => (kA 162 b _ _ _ x _ kr (.inl O) hx sm h).mono fun u w ⟨h1, v2, h2⟩ => ⟨_, ⟨h1, v2, O⟩, h2⟩) ?_
 clear Y U
 rintro a w1 _ _ ⟨rfl, v1, rfl⟩ Y U
 try dsimp only at U
 replace U := U.n2 O
 refine ab <| cS Y results150 ag ?_
 exact ⟨O, _, U.select [0, 1] de⟩
theorem iY {n : Int} {l : List Int} : puts (n :: l) ≠ [] := fun h => by
 have := (bW n).1
 simp only [puts, zd, List.append_eq_nil_iff] at h
 rw [h.1] at this; simp at this
theorem oI (key : By) (x : Wsh) (w0 : World) (hk : key.length = 32) (hok : x.ok = true) (hk0 : (blk 0 (kOf.map wv) 258).ok w0) :
  Ret Tryz.prog 34 #[sv key, .agg #[jv x.signer, jv x.holder, jv x.rf, jv x.rt, jv x.carrier, jv x.serial, jv x.sf, jv x.st, sv x.sig]] w0 fun v w => v = .tuple #[.agg (x.sealed key).cells.toArray, jv 0] ∧ Ext No w0 w := by
 refine aC func34 O ntmps34 (lb O) fun a Y => ?_
 replace U : St (· = 0) w0 [blk 0 (kOf.map wv) 258] w0 := St.one hk0
 refine aa fun _ G1 => aV (Y.p2 0 1 O) U O [jv x.signer, jv x.holder, jv x.rf, jv x.rt, jv x.carrier, jv x.serial, jv x.sf, jv x.st, sv x.sig] O fun a w1 Y U => aD Y U (zeroValue90 _) [jv 0, jv 0, jv 0, jv 0, jv 0, jv 0, jv 0, jv 0, .string (⟨#[]⟩)] O fun a w2 Y U => wla Y O fun a Y => G1 <| ah fun _ G2 => aa fun _ G3 => wlm Y O fun a Y => aw Y U call84 O (kl key _) fun a w3 Y U => nv Y <| yo (bB O) <| yp O <| fun a Y => ?_
 rcases (Decidable.em ((key.length : Int) = 32)).symm with hb1 | hb1
 ·rw [yD hb1] at Y
  exfalso; omega
 rw [yy hb1] at Y
 refine wly Y (ap (U.g 1 O) O (isAgg90 _) (sizeOf90 _)) fun a Y => aF Y U call85 O (jt x _) fun a w4 Y U => nv Y <| yr (bB O) <| yo (ak O O) <| fun a Y => G3 ?_
 replace Y := Y.p5 0 3 4 5 13 O
 refine bC Y O (fun hc2 => ?_) (fun hc2 => ?_)
 ·try simp only [qz] at hc2
  simp [hok] at hc2
 try simp only [qz] at hc2
 refine ar <| G2 <| aa fun _ G4 => nv Y <| yp O <| yo (cb O O) <| fun a Y => ?_
 replace U := U.s3 [2, 1, 0] de rfl
 replace U := St.join [blk 0 (kOf.map wv) 258, blk w0.hz [jv x.signer, jv x.holder, jv x.rf, jv x.rt, jv x.carrier, jv x.serial, jv x.sf, jv x.st, sv x.sig] 90] [blk w1.hz [jv 0, jv 0, jv 0, jv 0, jv 0, jv 0, jv 0, jv 0, .string (⟨#[]⟩)] 90] U
 refine bc (R := fun u e' => u = sv (sealH key x.content) ∧ e' = join [blk 0 (kOf.map wv) 258, blk w0.hz [jv x.signer, jv x.holder, jv x.rf, jv x.rt, jv x.carrier, jv x.serial, jv x.sf, jv x.st, sv x.sig] 90]) 0 Y U O de call86 O (fun h => (nj key x.content 87 [pq w0.hz] (blk w0.hz [jv x.signer, jv x.holder, jv x.rf, jv x.rt, jv x.carrier, jv x.serial, jv x.sf, jv x.st, sv x.sig] 90) _ call87 (fun b v ws h => vW b _ v x ws (Wsh.smalls_of hok) h) iY om (zl x.content_len de) (St.unjoin [blk 0 (kOf.map wv) 258, blk w0.hz [jv x.signer, jv x.holder, jv x.rf, jv x.rt, jv x.carrier, jv x.serial, jv x.sf, jv x.st, sv x.sig] 90] [] h)).mono fun u w ⟨h1, h2⟩ => ⟨_, ⟨h1, O⟩, St.join _ [] h2⟩) ?_
 clear Y U
 rintro a w5 _ _ ⟨rfl, rfl⟩ Y U
 replace U : St (· = 0) w0 [blk 0 (kOf.map wv) 258, blk w0.hz [jv x.signer, jv x.holder, jv x.rf, jv x.rt, jv x.carrier, jv x.serial, jv x.sf, jv x.st, sv x.sig] 90, blk w1.hz [jv 0, jv 0, jv 0, jv 0, jv 0, jv 0, jv 0, jv 0, .string (⟨#[]⟩)] 90] w5 := St.unjoin [blk 0 (kOf.map wv) 258, blk w0.hz [jv x.signer, jv x.holder, jv x.rf, jv x.rt, jv x.carrier, jv x.serial, jv x.sf, jv x.st, sv x.sig] 90] [blk w1.hz [jv 0, jv 0, jv 0, jv 0, jv 0, jv 0, jv 0, jv 0, .string (⟨#[]⟩)] 90] U
 refine wlv Y (ac (v := po w0.hz 8) O kr) fun a Y => az 1 Y U [jv x.signer, jv x.holder, jv x.rf, jv x.rt, jv x.carrier, jv x.serial, jv x.sf, jv x.st, sv (sealH key x.content)] O (sizeOf9 _) fun a w6 Y U => G4 ?_
 refine aa fun _ G5 => wlv (Y.p3 3 4 5 O) (ap (U.g 1 O) O (isAgg90 _) (sizeOf90 _)) fun a Y => az 2 Y U [jv x.signer, jv x.holder, jv x.rf, jv x.rt, jv x.carrier, jv x.serial, jv x.sf, jv x.st, sv (sealH key x.content)] O (sizeOf90 _) fun a w7 Y U => wla Y O fun a Y => G5 <| aq <| am Y results34 (ai O (aY (U.g 2 O) (isAgg90 _) (sizeOf90 _)) (ae O ag)) ?_
 exact ⟨O, U.ext.const hk0 (U.g 0 O)⟩
theorem mV (key : By) (x : Pxy) (w0 : World) (hk : key.length = 32) (hok : x.ok = true) (hk0 : (blk 0 (kOf.map wv) 258).ok w0) :
  Ret Tryz.prog 151 #[sv key, .agg #[jv x.frm, jv x.to, jv x.rf, jv x.rt, jv x.sf, jv x.st, sv x.sig]] w0 fun v w => v = .tuple #[.agg (x.sealed key).cells.toArray, jv 0] ∧ Ext No w0 w := by
 refine aC func151 O ntmps151 (lb O) fun a Y => ?_
 replace U : St (· = 0) w0 [blk 0 (kOf.map wv) 258] w0 := St.one hk0
 refine aa fun _ G1 => aV (Y.p2 0 1 O) U O [jv x.frm, jv x.to, jv x.rf, jv x.rt, jv x.sf, jv x.st, sv x.sig] O fun a w1 Y U => aD Y U (zeroValue144 _) [jv 0, jv 0, jv 0, jv 0, jv 0, jv 0, .string (⟨#[]⟩)] O fun a w2 Y U => wla Y O fun a Y => G1 <| ah fun _ G2 => aa fun _ G3 => wlm Y O fun a Y => aw Y U call84 O (kl key _) fun a w3 Y U => nv Y <| yo (bB O) <| yp O <| fun a Y => ?_
 rcases (Decidable.em ((key.length : Int) = 32)).symm with hb1 | hb1
 ·rw [yD hb1] at Y
  exfalso; omega
 rw [yy hb1] at Y
 refine wly Y (ap (U.g 1 O) O (isAgg144 _) (sizeOf144 _)) fun a Y => aF Y U call178 O (kw x _) fun a w4 Y U => nv Y <| yr (bB O) <| yo (ak O O) <| fun a Y => G3 ?_
 replace Y := Y.p5 0 3 4 5 13 O
 refine bC Y O (fun hc2 => ?_) (fun hc2 => ?_)
 ·try simp only [qz] at hc2
  simp [hok] at hc2
 try simp only [qz] at hc2
 refine ar <| G2 <| aa fun _ G4 => nv Y <| yp O <| yo (cb O O) <| fun a Y => ?_
 replace U := U.s3 [2, 1, 0] de rfl
 replace U := St.join [blk 0 (kOf.map wv) 258, blk w0.hz [jv x.frm, jv x.to, jv x.rf, jv x.rt, jv x.sf, jv x.st, sv x.sig] 144] [blk w1.hz [jv 0, jv 0, jv 0, jv 0, jv 0, jv 0, .string (⟨#[]⟩)] 144] U
 refine bc (R := fun u e' => u = sv (sealH key x.content) ∧ e' = join [blk 0 (kOf.map wv) 258, blk w0.hz [jv x.frm, jv x.to, jv x.rf, jv x.rt, jv x.sf, jv x.st, sv x.sig] 144]) 0 Y U O de call86 O (fun h => (nj key x.content 185 [pq w0.hz] (blk w0.hz [jv x.frm, jv x.to, jv x.rf, jv x.rt, jv x.sf, jv x.st, sv x.sig] 144) _ call185 (fun b v ws h => xj b _ v x ws (Pxy.smalls_of hok) h) iY om (zl x.content_len de) (St.unjoin [blk 0 (kOf.map wv) 258, blk w0.hz [jv x.frm, jv x.to, jv x.rf, jv x.rt, jv x.sf, jv x.st, sv x.sig] 144] [] h)).mono fun u w ⟨h1, h2⟩ => ⟨_, ⟨h1, O⟩, St.join _ [] h2⟩) ?_
 clear Y U
 rintro a w5 _ _ ⟨rfl, rfl⟩ Y U
 replace U : St (· = 0) w0 [blk 0 (kOf.map wv) 258, blk w0.hz [jv x.frm, jv x.to, jv x.rf, jv x.rt, jv x.sf, jv x.st, sv x.sig] 144, blk w1.hz [jv 0, jv 0, jv 0, jv 0, jv 0, jv 0, .string (⟨#[]⟩)] 144] w5 := St.unjoin [blk 0 (kOf.map wv) 258, blk w0.hz [jv x.frm, jv x.to, jv x.rf, jv x.rt, jv x.sf, jv x.st, sv x.sig] 144] [blk w1.hz [jv 0, jv 0, jv 0, jv 0, jv 0, jv 0, .string (⟨#[]⟩)] 144] U
 refine wlv Y (ac (v := po w0.hz 6) O kr) fun a Y => az 1 Y U [jv x.frm, jv x.to, jv x.rf, jv x.rt, jv x.sf, jv x.st, sv (sealH key x.content)] O (sizeOf9 _) fun a w6 Y U => G4 ?_
 refine aa fun _ G5 => wlv (Y.p3 3 4 5 O) (ap (U.g 1 O) O (isAgg144 _) (sizeOf144 _)) fun a Y => az 2 Y U [jv x.frm, jv x.to, jv x.rf, jv x.rt, jv x.sf, jv x.st, sv (sealH key x.content)] O (sizeOf144 _) fun a w7 Y U => wla Y O fun a Y => G5 <| aq <| am Y results151 (ai O (aY (U.g 2 O) (isAgg144 _) (sizeOf144 _)) (ae O ag)) ?_
 exact ⟨O, U.ext.const hk0 (U.g 0 O)⟩
theorem mD {M : Nat → Prop} {wb : World} {H : List Ent} {sv : Value} {els : List (List Value)} {caps : List Value} {g : FuncId} (p : Nat → Bool) (ev_ : Nat → Value) (J : Nat → Ent → Prop) (e0 : Ent) (w0 : World)
  (hen : ∀ args w, (callFunc g args).run Tryz.prog w = .ok (.enter g args) w) (hs : ∀ e w, St M wb (e :: H) w → SlAt w sv 7 els)
  (hev : ∀ k (h : k < els.length), .agg (els[k]).toArray = ev_ k) (hJ0 : J 0 e0) (U : St M wb (e0 :: H) w0)
  (hcl : ∀ k e w, k < els.length → J k e → e.ok w → (∀ b, e.foot b → b < w.hz) → Ret Tryz.prog g ([ev_ k] ++ caps).toArray w fun v w' => v = .bool (p k) ∧ ∃ e', Ext e.foot w w' ∧ e'.ok w' ∧ (∀ b, e'.foot b → b < w'.heap.size ∧ (e.foot b ∨ w.hz ≤ b)) ∧ J (k + 1) e') :
  Ret Tryz.prog 141 #[sv, .func (.func g) #[] caps.toArray] w0 fun v w => v = jv (fstIdx p els.length) ∧ ∃ k e', J k e' ∧ St M wb (e' :: H) w := by
 have hsl := (hs _ _ U).le
 refine aC func141 O ntmps141 (lb O) fun a Y => aa fun _ G1 => wla (Y.p2 0 1 O) O fun a Y => G1 <| ah fun _ G2 => aa fun _ G3 => nv Y <| yp O <| yo (aO (sT := 91) (hs _ _ U) O O (runUnderlying91 _)) <| yp O <| fun a Y => G3 <| au <| aZ (fun m a w => ∃ (k : Nat) (e : Ent), m = els.length - k ∧ (k ≤ els.length) ∧ (∀ j, j < k → p j = false) ∧ (J k e) ∧ Fr 19 [(0, sv), (1, .func (.func g) #[] caps.toArray), (6, sv), (7, jv els.length), (8, jv (k : Int))] [] a ∧ St M wb (e :: H) w) _ ⟨0, e0, O, yQ _, (by intro j hj; omega), hJ0, Y.pick [0, 1, 6, 7, 8], U⟩ ?_
 rintro _ a w1 ⟨k, e, rfl, hk, hp, hJ, Y, U⟩
 refine aa fun _ G4 => wlv Y (v_lt O O) fun a Y => G4 <| ah fun _ G5 => aA Y O (fun hc1 => ?_) (fun hc1 => ?_)
 ·rw [yy hc1] at Y
  refine ar <| G5 <| ah fun _ G6 => au <| aa fun _ G7 => nv Y <| yp O <| yq O <| fun a Y => G7 <| aa fun _ G8 => nv Y <| yp O <| yp O <| yp O <| yo ((aj (i := (k : Int)) (sT := 91) (hs _ _ U) O O (runUnderlying91 _) (sizeOf144 _) om om).as (v' := slAddr sv (k * 7)) O) <| yo ((bP (hs _ _ U) (i := k) om O (isAgg144 _) (sizeOf144 _)).as (v' := ev_ k) (hev k om)) <| fun a Y => wl_r (gF (cap := caps) O hen O (hcl k _ _ om hJ (U.g 0 O) (fun b hb => U.lt (k := 0) O hb))) O O Y fun a v w2 hR Y => ?_
  obtain ⟨rfl, e1, hx, hok, hft, hJ1⟩ := hR
  have U := U.exchange (k := 0) rfl hx hok hft
  have U : St M wb (e1 :: H) w2 := U
  refine G8 <| bC Y O (fun hc2 => ?_) (fun hc2 => ?_)
  ·rw [hc2] at Y
   refine aa fun _ G9 => nv Y <| yp O <| yq O <| fun a Y => G9 <| aq <| am Y results141 (ae O ag) ?_
   exact ⟨by rw [eV (k := k) om hp Ay]; rfl, _, _, hJ1, U⟩
  rw [hc2] at Y
  refine ar <| G6 <| al <| nv Y <| yo (aM O O ⟨om, om⟩) <| yp O <| fun a Y => ab ?_
  refine ⟨_, ?_, k + 1, e1, O, om, Bq, hJ1, Y.pick [0, 1, 6, 7, 8], U⟩
  omega
 rw [yD hc1] at Y
 refine aP <| G2 <| aa fun _ G10 => wla Y O fun a Y => G10 <| aq <| am Y results141 (ae O ag) ?_
 have hkl : k = els.length := by omega
 subst hkl
 exact ⟨by rw [eY hp]; rfl, _, _, hJ, U⟩
theorem sr {sv : Value} {xs : List Pxy} {g : FuncId} (p : Pxy → Bool) (w0 : World) (hen : ∀ args w, (callFunc g args).run Tryz.prog w = .ok (.enter g args) w) (hs : SlAt w0 sv 7 (xs.map Pxy.cells))
  (hcl : ∀ (x : Pxy) (w : World), Ret Tryz.prog g #[.agg x.cells.toArray] w fun v w' => v = .bool (p x) ∧ Ext No w w') :
  Ret Tryz.prog 141 #[sv, .func (.func g) #[] #[]] w0 fun v w => v = jv (fstIdx (fun k => p (xs.getD k Pxy.z)) xs.length) ∧ Ext No w0 w := by
 have U : St No w0 [join []] w0 := St.join [] [] (St.init w0)
 have h := mD (M := No) (wb := w0) (H := []) (sv := sv) (els := xs.map Pxy.cells) (caps := []) (g := g) (fun k => p (xs.getD k Pxy.z)) (fun k => .agg (xs.getD k Pxy.z).cells.toArray) (fun _ e => e = join []) (join []) w0 hen
  (fun e w h => h.arg hs) (fun k h => by rw [bf Pxy.z]) rfl U (fun k e w hk he hok hlt => by
   subst he
   refine (hcl _ w).mono fun v w' ⟨h1, h2⟩ => ⟨h1, join [], h2.mono (fun k _ hk => hk.elim), ?_, ?_, O⟩
   ·exact ⟨fun e he => (by cases he), List.Pairwise.nil⟩
   ·rintro b ⟨e, he, _⟩
    cases he)
 refine h.mono fun v w ⟨h1, k, e, he, U⟩ => ⟨by rw [h1, yu], U.ext⟩
theorem ul (x : Pxy) (w0 : World) :
  Ret Tryz.prog 177 #[.agg #[jv x.frm, jv x.to, jv x.rf, jv x.rt, jv x.sf, jv x.st, sv x.sig]] w0 fun v w => v = .bool (!x.ok) ∧ Ext No w0 w := by
 refine An func177 O ntmps177 (lb O) fun a Y U => aa fun _ G1 => aV Y U O [jv x.frm, jv x.to, jv x.rf, jv x.rt, jv x.sf, jv x.st, sv x.sig] O fun a w1 Y U => wla Y O fun a Y => G1 <| aa fun _ G2 => wlv Y (ap (U.g 0 O) O (isAgg144 _) (sizeOf144 _)) fun a Y => aw Y U call178 O (kw x _) fun a w2 Y U => nv Y <| yo (bB O) <| yq O <| fun a Y => G2 <| aq <| am Y results177 (ae O ag) ?_
 exact ⟨by rfl, U.ext⟩
def badN (xs : List Pxy) : Int := fstIdx (fun k => !(xs.getD k Pxy.z).ok) xs.length
theorem sN (v : Value) (xs : List Pxy) (w0 : World) (hv : SlAt w0 v 7 (xs.map Pxy.cells)) : Ret Tryz.prog 141 #[v, .func (.func 177) #[] #[]] w0 fun v w => v = jv (badN xs) ∧ Ext No w0 w :=
 sr (fun x => !x.ok) w0 call177 hv (fun x w => ul x w)
theorem jA (lv : Value) (xs : List Pxy) (w0 : World) (hlv : SlAt w0 lv 7 (xs.map Pxy.cells)) :
  Ret Tryz.prog 140 #[lv] w0 fun v w => v = jv (badN xs) ∧ Ext No w0 w := by
 refine An func140 O ntmps140 (lb O) fun a Y U => aa fun _ G1 => wla Y O fun a Y => G1 <| aa fun _ G2 => wlm Y O fun a Y => aw Y U call141 O (sN lv xs _ (U.arg hlv)) fun a w1 Y U => wla Y O fun a Y => G2 <| aq <| am Y results140 (ae O ag) ?_
 exact ⟨by rfl, U.ext⟩
theorem si (x : Wsh) (lv : Value) (xs : List Pxy) (w0 : World) (hlv : SlAt w0 lv 7 (xs.map Pxy.cells)) :
  Ret Tryz.prog 90 #[.agg #[jv x.signer, jv x.holder, jv x.rf, jv x.rt, jv x.carrier, jv x.serial, jv x.sf, jv x.st, sv x.sig], lv] w0 fun v w => v = .bool (x.ok && decide ((xs.length : Int) ≤ 4) && decide (badN xs < 0)) ∧ Ext No w0 w := by
 refine Am func90 O ntmps90 (lb O) fun a Y U => aa fun _ G1 => aV Y U O [jv x.signer, jv x.holder, jv x.rf, jv x.rt, jv x.carrier, jv x.serial, jv x.sf, jv x.st, sv x.sig] O fun a w1 Y U => wla Y O fun a Y => G1 <| aa fun _ G2 => wlv Y (ap (U.g 0 O) O (isAgg90 _) (sizeOf90 _)) fun a Y => aw Y U call85 O (jt x _) fun a w2 Y U => wlm Y O fun a Y => ?_
 rcases yz (x.ok) with hb1 | hb1
 ·rw [hb1] at Y
  refine nv Y <| yr (ay O) <| yr ((aO (sT := 91) (U.arg hlv) O O (runUnderlying91 _)).asi (m' := (xs.length : Int)) AO) <| yr (v_le O O) <| yo (ax O O) <| yp O <| fun a Y => ?_
  rcases Decidable.em ((xs.length : Int) ≤ 4) with hb2 | hb2
  ·rw [yy hb2] at Y
   refine wly Y (ay O) fun a Y => aF Y U call140 O (jA lv xs _ (U.arg hlv)) fun a w3 Y U => nv Y <| yr (v_lt O O) <| yo (ax O O) <| yq O <| fun a Y => G2 ?_
   replace Y := Y.p4 0 1 2 4 O
   refine aq <| am Y results90 (ae O ag) ?_
   exact ⟨by simp only [retv]; simp [hb1, hb2], U.ext⟩
  rw [yD hb2] at Y
  refine nv Y <| yt <| yt <| yt <| yo (ak O O) <| yq O <| fun a Y => G2 ?_
  replace Y := Y.p4 0 1 2 4 O
  refine aq <| am Y results90 (ae O ag) ?_
  exact ⟨by simp only [retv]; simp [hb1, hb2], U.ext⟩
 rw [hb1] at Y
 refine nv Y <| yt <| yt <| yt <| yo (ak O O) <| yp O <| yt <| yt <| yt <| yo (ak O O) <| yq O <| fun a Y => G2 ?_
 replace Y := Y.p4 0 1 2 4 O
 refine aq <| am Y results90 (ae O ag) ?_
 exact ⟨by simp only [retv]; simp [hb1], U.ext⟩
theorem rd (rf rt sf st : Int) (x : Pxy) (w0 : World) :
  Ret Tryz.prog 184 #[.agg #[jv rf, jv rt], .agg #[jv sf, jv st], .agg #[jv x.frm, jv x.to, jv x.rf, jv x.rt, jv x.sf, jv x.st, sv x.sig]] w0 fun v w => v = .bool (isInH rf rt sf st x) ∧ Ext No w0 w := by
 refine Ao func184 O ntmps184 (lb O) fun a Y U => aa fun _ G1 => aV Y U O [jv rf, jv rt] O fun a w1 Y U => aV Y U O [jv sf, jv st] O fun a w2 Y U => aV Y U O [jv x.frm, jv x.to, jv x.rf, jv x.rt, jv x.sf, jv x.st, sv x.sig] O fun a w3 Y U => wla Y O fun a Y => G1 <| aa fun _ G2 => nv Y <| yo (ac (v := po w2.hz 2) O kr) <| yo (ac (v := po w2.hz 2) O kr) <| yo (ld U 0 O O (isAgg3 _) O) <| yo (ac (v := pq w0.hz) O kr) <| yo (ld U 2 O O (isAgg3 _) O) <| yo (v_le O O) <| yp O <| fun a Y => dk (N := 37) (df := []) 7 [(20, .bool ((decide (x.rf ≤ rf)) && (decide (rt ≤ x.rt)))), (0, .agg #[jv rf, jv rt]), (1, .agg #[jv sf, jv st]), (2, .agg #[jv x.frm, jv x.to, jv x.rf, jv x.rt, jv x.sf, jv x.st, sv x.sig]), (3, pq w0.hz), (4, pq w1.hz), (5, pq w2.hz), (6, .bool false)] ?_ (fun hj => ?_)
 rotate_left
 ·rcases yz (decide (x.rf ≤ rf)) with hb1 | hb1
  ·rw [hb1] at Y
   have hb1b := hb1
   try simp only [qz, yw, yS, yM, yU] at hb1
   refine nv Y <| yr (ac (v := po w0.hz 1) O kr) <| yr (ld U 2 O O (isAgg3 _) O) <| yr (ac (v := po w2.hz 2) O kr) <| yr (ac (v := po w2.hz 3) O kr) <| yr (ld U 0 O O (isAgg3 _) O) <| yr (v_le O O) <| yo (ax O O) <| fun a Y => hj _ ?_
   try rw [hb1b]
   exact Y.pick [20, 0, 1, 2, 3, 4, 5, 6]
  rw [hb1] at Y
  have hb1b := hb1
  try simp only [qz, yw, yS, yM, yU] at hb1
  refine nv Y <| yt <| yt <| yt <| yt <| yt <| yt <| yo (ak O O) <| fun a Y => hj _ ?_
  try rw [hb1b]
  exact Y.pick [20, 0, 1, 2, 3, 4, 5, 6]
 intro a Y
 refine wlm Y O fun a Y => dk (N := 37) (df := []) 7 [(28, .bool (((decide (x.rf ≤ rf)) && (decide (rt ≤ x.rt))) && (decide (x.sf ≤ sf)))), (0, .agg #[jv rf, jv rt]), (1, .agg #[jv sf, jv st]), (2, .agg #[jv x.frm, jv x.to, jv x.rf, jv x.rt, jv x.sf, jv x.st, sv x.sig]), (3, pq w0.hz), (4, pq w1.hz), (5, pq w2.hz), (6, .bool false)] ?_ (fun hj => ?_)
 rotate_left
 ·rcases yz ((decide (x.rf ≤ rf)) && (decide (rt ≤ x.rt))) with hb2 | hb2
  ·rw [hb2] at Y
   have hb2b := hb2
   try simp only [qz, yw, yS, yM, yU] at hb2
   refine nv Y <| yr (ac (v := po w2.hz 4) O kr) <| yr (ac (v := po w2.hz 4) O kr) <| yr (ld U 0 O O (isAgg3 _) O) <| yr (ac (v := pq w1.hz) O kr) <| yr (ld U 1 O O (isAgg3 _) O) <| yr (v_le O O) <| yo (ax O O) <| fun a Y => hj _ ?_
   try rw [hb2b]
   exact Y.pick [28, 0, 1, 2, 3, 4, 5, 6]
  rw [hb2] at Y
  have hb2b := hb2
  try simp only [qz, yw, yS, yM, yU] at hb2
  refine nv Y <| yt <| yt <| yt <| yt <| yt <| yt <| yo (ak O O) <| fun a Y => hj _ ?_
  try rw [hb2b]
  exact Y.pick [28, 0, 1, 2, 3, 4, 5, 6]
 intro a Y
 refine wlm Y O fun a Y => dk (N := 37) (df := []) 7 [(36, .bool ((((decide (x.rf ≤ rf)) && (decide (rt ≤ x.rt))) && (decide (x.sf ≤ sf))) && (decide (st ≤ x.st)))), (0, .agg #[jv rf, jv rt]), (1, .agg #[jv sf, jv st]), (2, .agg #[jv x.frm, jv x.to, jv x.rf, jv x.rt, jv x.sf, jv x.st, sv x.sig]), (3, pq w0.hz), (4, pq w1.hz), (5, pq w2.hz), (6, .bool false)] ?_ (fun hj => ?_)
 rotate_left
 ·rcases yz (((decide (x.rf ≤ rf)) && (decide (rt ≤ x.rt))) && (decide (x.sf ≤ sf))) with hb3 | hb3
  ·rw [hb3] at Y
   have hb3b := hb3
   try simp only [qz, yw, yS, yM, yU] at hb3
   refine nv Y <| yr (ac (v := po w1.hz 1) O kr) <| yr (ld U 1 O O (isAgg3 _) O) <| yr (ac (v := po w2.hz 4) O kr) <| yr (ac (v := po w2.hz 5) O kr) <| yr (ld U 0 O O (isAgg3 _) O) <| yr (v_le O O) <| yo (ax O O) <| fun a Y => hj _ ?_
   try rw [hb3b]
   exact Y.pick [36, 0, 1, 2, 3, 4, 5, 6]
  rw [hb3] at Y
  have hb3b := hb3
  try simp only [qz, yw, yS, yM, yU] at hb3
  refine nv Y <| yt <| yt <| yt <| yt <| yt <| yt <| yo (ak O O) <| fun a Y => hj _ ?_
  try rw [hb3b]
  exact Y.pick [36, 0, 1, 2, 3, 4, 5, 6]
 intro a Y
 refine wla Y O fun a Y => G2 ?_
 replace Y := Y.p1 6 O
 replace U := U.k0 0 O
 refine aq <| am Y results184 (ae O ag) ?_
 exact ⟨by rfl, U.ext⟩
def prevP (xs : List Pxy) (k : Nat) : Option Pxy := if k = 0 then none else some (xs.getD (k - 1) Pxy.z)
theorem dA {α : Type} {xs : List α} {k : Nat} (d : α) (h : k < xs.length) : xs.drop k = xs.getD k d :: xs.drop (k + 1) := by
 rw [zm h, yA, yF h]; rfl
def scopeV (x : Wsh) (xs : List Pxy) : Int × Bool := match bE x none xs 0 with | some n => (n, true) | none => (-1, false)
theorem kT {x : Wsh} {xs : List Pxy} (h : bE x none xs 0 = none) : scopeV x xs = (-1, false) := by unfold scopeV; rw [h]
theorem kC {x : Wsh} {xs : List Pxy} {n : Int} (h : bE x none xs 0 = some n) : scopeV x xs = (n, true) := by unfold scopeV; rw [h]
theorem ki {x : Wsh} {xs : List Pxy} {k : Nat} (hk : k < xs.length) (h : k = 0 ∨ isInH (xs.getD k Pxy.z).rf (xs.getD k Pxy.z).rt (xs.getD k Pxy.z).sf (xs.getD k Pxy.z).st (xs.getD (k - 1) Pxy.z) = true) :
  bE x (prevP xs k) (xs.drop k) k = bE x (prevP xs (k + 1)) (xs.drop (k + 1)) (k + 1) := by
 rw [dA Pxy.z hk]
 by_cases h0 : k = 0
 ·subst h0; rfl
 ·unfold prevP
  rw [yO h0, yO om, bE, yR (h.resolve_left h0)]; rfl
theorem rR {x : Wsh} {xs : List Pxy} {k : Nat} (hk : k < xs.length) (h0 : 0 < k) (h : isInH (xs.getD k Pxy.z).rf (xs.getD k Pxy.z).rt (xs.getD k Pxy.z).sf (xs.getD k Pxy.z).st (xs.getD (k - 1) Pxy.z) = false) :
  bE x (prevP xs k) (xs.drop k) k = some (k : Int) := by
 rw [dA Pxy.z hk]
 unfold prevP
 rw [yO om, bE, yO (by rw [h]; simp)]
theorem rA {x : Wsh} {xs : List Pxy} : bE x (prevP xs xs.length) (xs.drop xs.length) xs.length = if xs.length = 0 ∨ isInH x.rf x.rt x.sf x.st (xs.getD (xs.length - 1) Pxy.z) = true then none else some (-1) := by
 rw [List.drop_length]
 unfold prevP
 by_cases h0 : xs.length = 0
 ·rw [yR h0, yR (.inl h0)]; rfl
 ·rw [yO h0, bE]; simp [h0]
theorem pE {x : Wsh} {xs : List Pxy} (h : xs.length = 0) (hs : bE x none xs 0 = if xs.length = 0 ∨ isInH x.rf x.rt x.sf x.st (xs.getD (xs.length - 1) Pxy.z) = true then none else some (-1)) : scopeV x xs = (-1, false) := by
 rw [yR (.inl h)] at hs; exact kT hs
theorem pN {x : Wsh} {xs : List Pxy} (h : 0 < xs.length) (hs : bE x none xs 0 = if xs.length = 0 ∨ isInH x.rf x.rt x.sf x.st (xs.getD (xs.length - 1) Pxy.z) = true then none else some (-1)) : scopeV x xs = (-1, !isInH x.rf x.rt x.sf x.st (xs.getD (xs.length - 1) Pxy.z)) := by
 cases hc : isInH x.rf x.rt x.sf x.st (xs.getD (xs.length - 1) Pxy.z) with
 | true => rw [yR (.inr hc)] at hs; exact kT hs
 | false => rw [yO (fun hh => by rcases hh with hh | hh; omega; rw [hc] at hh; cases hh)] at hs; exact kC hs
theorem ur (x : Wsh) (lv : Value) (xs : List Pxy) (w0 : World) (hlv : SlAt w0 lv 7 (xs.map Pxy.cells)) :
  Ret Tryz.prog 148 #[.agg #[jv x.signer, jv x.holder, jv x.rf, jv x.rt, jv x.carrier, jv x.serial, jv x.sf, jv x.st, sv x.sig], lv] w0 fun v w => v = .tuple #[jv (scopeV x xs).1, .bool (scopeV x xs).2] ∧ Ext No w0 w := by
 have hxb := hlv.2.1
 simp only [yu, big] at hxb
 refine Am func148 O ntmps148 (lb O) fun a Y U => aa fun _ G1 => aV Y U O [jv x.signer, jv x.holder, jv x.rf, jv x.rt, jv x.carrier, jv x.serial, jv x.sf, jv x.st, sv x.sig] O fun a w1 Y U => nv Y <| yq O <| yq O <| fun a Y => G1 <| ah fun _ G2 => aa fun _ G3 => nv Y <| yp O <| yo ((aO (sT := 91) (U.arg hlv) O O (runUnderlying91 _)).asi (m' := (xs.length : Int)) AO) <| yp O <| fun a Y => G3 <| au <| aZ (fun m a w => ∃ (k : Nat), m = xs.length - k ∧ (k ≤ xs.length) ∧ (bE x none xs 0 = bE x (prevP xs k) (xs.drop k) k) ∧ Fr 49 [(1, lv), (2, pq w0.hz), (8, lv), (9, jv (xs.length : Int)), (10, jv (k : Int))] [] a ∧ St No w0 [blk w0.hz [jv x.signer, jv x.holder, jv x.rf, jv x.rt, jv x.carrier, jv x.serial, jv x.sf, jv x.st, sv x.sig] 90] w) _ ⟨0, O, yQ _, O, Y.pick [1, 2, 8, 9, 10], U.select [0] de⟩ ?_
 rintro _ a w2 ⟨k, rfl, hk, hs, Y, U⟩
 refine aa fun _ G4 => wlv Y (v_lt O O) fun a Y => G4 <| ah fun _ G5 => aA Y O (fun hc1 => ?_) (fun hc1 => ?_)
 ·have hkx : k < xs.length := by omega
  refine ar <| G5 <| ah fun _ G6 => au <| aa fun _ G7 => nv Y <| yp O <| yo ((aj (i := (k : Int)) (sT := 91) (U.arg hlv) O O (runUnderlying91 _) (sizeOf144 _) om Aw).as (v' := slAddr lv (k * 7)) O) <| yo ((bP (U.arg hlv) (i := k) Aw O (isAgg144 _) (sizeOf144 _)).as (v' := .agg #[jv ((xs.getD k Pxy.z).frm), jv ((xs.getD k Pxy.z).to), jv ((xs.getD k Pxy.z).rf), jv ((xs.getD k Pxy.z).rt), jv ((xs.getD k Pxy.z).sf), jv ((xs.getD k Pxy.z).st), sv ((xs.getD k Pxy.z).sig)]) Ba) <| fun a Y => aD Y U (zeroValue144 _) [jv 0, jv 0, jv 0, jv 0, jv 0, jv 0, .string (⟨#[]⟩)] O fun a w3 Y U => wla Y O fun a Y => az 0 Y U [jv ((xs.getD k Pxy.z).frm), jv ((xs.getD k Pxy.z).to), jv ((xs.getD k Pxy.z).rf), jv ((xs.getD k Pxy.z).rt), jv ((xs.getD k Pxy.z).sf), jv ((xs.getD k Pxy.z).st), sv ((xs.getD k Pxy.z).sig)] O (sizeOf144 _) fun a w4 Y U => G7 <| ah fun _ G8 => aH (aI fun w5 hxz => ?_)
  replace U := U.grow hxz
  refine aL (k := 0) 3 [2] ?_
  refine nv Y <| yp O <| yo (v_gt O O) <| yp O <| fun a Y => ab ?_
  rcases Decidable.em (0 < (k : Int)) with hb2 | hb2
  ·rw [yy hb2] at Y
   refine aR (k := 3) 12 [4, 6, 11] Y ?_
   replace Y := Y.p13 1 2 8 9 10 12 13 14 7 6 15 16 17 O
   refine bL 9 Y U <| pl_v (ac (v := po w2.hz 2) O kr) <| pl_w (fun U => bS (ds := [jv ((xs.getD k Pxy.z).rf), jv ((xs.getD k Pxy.z).rt)]) (U.g 0 O) O (isAgg87 _) (sizeOf87 _) O) <| pl_v (ac (v := po w2.hz 4) O kr) <| pl_w (fun U => bS (ds := [jv ((xs.getD k Pxy.z).sf), jv ((xs.getD k Pxy.z).st)]) (U.g 0 O) O (isAgg88 _) (sizeOf88 _) O) <| pl_m O <| pl_m O <| pl_v (bK O O ⟨om, om⟩) <| pl_w (fun U => (aj (i := (k : Int) - 1) (sT := 91) (U.arg hlv) O O (runUnderlying91 _) (sizeOf144 _) om Aw).as (v' := slAddr lv ((k - 1) * 7)) Bh) ?_
   refine pl_w (fun U => (bP (U.arg hlv) (i := (k - 1)) Aw O (isAgg144 _) (sizeOf144 _)).as (v' := .agg #[jv ((xs.getD (k - 1) Pxy.z).frm), jv ((xs.getD (k - 1) Pxy.z).to), jv ((xs.getD (k - 1) Pxy.z).rf), jv ((xs.getD (k - 1) Pxy.z).rt), jv ((xs.getD (k - 1) Pxy.z).sf), jv ((xs.getD (k - 1) Pxy.z).st), sv ((xs.getD (k - 1) Pxy.z).sig)]) Ba) fun a w6 Y U => ?_
   replace Y := Y.p10 1 2 8 9 10 6 17 19 21 26 O
   refine ab <| aL (k := 12) 15 [14] ?_
   refine aF Y U call184 O (rd ((xs.getD k Pxy.z).rf) ((xs.getD k Pxy.z).rt) ((xs.getD k Pxy.z).sf) ((xs.getD k Pxy.z).st) (xs.getD (k - 1) Pxy.z) _) fun a w7 Y U => nv Y <| yr (bB O) <| yo (ax O O) <| fun a Y => ab <| aS <| G8 ?_
   replace Y := Y.p7 1 2 8 9 10 6 29 O
   replace U := U.k1 2 O
   refine bC Y O (fun hc3 => ?_) (fun hc3 => ?_)
   ·try simp only [qz] at hc3
    refine aa fun _ G9 => nv Y <| yp O <| yq O <| yq O <| fun a Y => G9 <| aq <| am Y results148 (ae O (ae O ag)) ?_
    exact ⟨by simp only [retv]; rw [kC (by rw [hs]; exact rR hkx om (by simpa using hc3))]; try rfl, U.ext⟩
   try simp only [qz] at hc3
   refine ar <| G6 <| al <| nv Y <| yo (aM O O ⟨om, om⟩) <| yp O <| fun a Y => ab ?_
   refine ⟨_, ?_, k + 1, O, om, (by rw [hs]; exact ki hkx (by first | (left; omega) | (right; simpa using hc3))), Y.pick [1, 2, 8, 9, 10], U.select [0] de⟩
   omega
  rw [yD hb2] at Y
  refine dw (k := 3) 12 [4, 6, 11] (Y.p13 1 2 8 9 10 12 13 14 7 6 15 16 17 O) fun a Y => ?_
  replace Y : Fr 49 [(18, undef), (19, undef), (20, undef), (21, undef), (22, undef), (23, undef), (24, undef), (25, undef), (26, undef), (1, lv), (2, pq w0.hz), (8, lv), (9, jv (xs.length : Int)), (10, jv (k : Int)), (12, jv (k : Int)), (13, slAddr lv (k * 7)), (14, .agg #[jv ((xs.getD k Pxy.z).frm), jv ((xs.getD k Pxy.z).to), jv ((xs.getD k Pxy.z).rf), jv ((xs.getD k Pxy.z).rt), jv ((xs.getD k Pxy.z).sf), jv ((xs.getD k Pxy.z).st), sv ((xs.getD k Pxy.z).sig)]), (7, pq w2.hz), (6, jv (k : Int)), (15, jv (k : Int)), (16, .bool false), (17, .bool false)] [] a := Y
  refine aL (k := 12) 15 [14] ?_
  refine nv Y <| yt <| yt <| yo (ak O O) <| fun a Y => ab <| aS <| G8 ?_
  replace Y := Y.p7 1 2 8 9 10 6 29 O
  replace U := U.k1 2 O
  refine aJ Y O ?_
  refine ar <| G6 <| al <| nv Y <| yo (aM O O ⟨om, om⟩) <| yp O <| fun a Y => ab ?_
  refine ⟨_, ?_, k + 1, O, om, (by rw [hs]; exact ki hkx (by first | (left; omega) | (right; simpa using hb2))), Y.pick [1, 2, 8, 9, 10], U.select [0] de⟩
  omega
 have hke : k = xs.length := by omega
 rw [hke, rA] at hs
 refine aP <| G2 <| ah fun _ G10 => aH (aI fun w8 hxz => ?_)
 replace U := U.grow hxz
 refine aL (k := 0) 4 [3] ?_
 refine nv Y <| yp O <| yo ((aO (sT := 91) (U.arg hlv) O O (runUnderlying91 _)).asi (m' := (xs.length : Int)) AO) <| yo (v_gt O O) <| yp O <| fun a Y => ab ?_
 rcases Decidable.em (0 < (xs.length : Int)) with hb4 | hb4
 ·rw [yy hb4] at Y
  refine aR (k := 4) 14 [5, 7, 13] Y ?_
  replace Y := Y.p9 1 2 8 9 10 32 33 34 35 O
  refine bL 10 Y U <| pl_v (ac (v := po w0.hz 2) O kr) <| pl_w (fun U => bS (ds := [jv x.rf, jv x.rt]) (U.g 0 O) O (isAgg87 _) (sizeOf87 _) O) <| pl_v (ac (v := po w0.hz 6) O kr) <| pl_w (fun U => bS (ds := [jv x.sf, jv x.st]) (U.g 0 O) O (isAgg88 _) (sizeOf88 _) O) <| pl_m O <| pl_m O <| pl_w (fun U => (aO (sT := 91) (U.arg hlv) O O (runUnderlying91 _)).asi (m' := (xs.length : Int)) AO) <| pl_v (bK O O ⟨om, om⟩) ?_
  refine pl_w (fun U => (aj (i := (xs.length : Int) - 1) (sT := 91) (U.arg hlv) O O (runUnderlying91 _) (sizeOf144 _) om Aw).as (v' := slAddr lv ((xs.length - 1) * 7)) B4) <| pl_w (fun U => (bP (U.arg hlv) (i := (xs.length - 1)) Aw O (isAgg144 _) (sizeOf144 _)).as (v' := .agg #[jv ((xs.getD (xs.length - 1) Pxy.z).frm), jv ((xs.getD (xs.length - 1) Pxy.z).to), jv ((xs.getD (xs.length - 1) Pxy.z).rf), jv ((xs.getD (xs.length - 1) Pxy.z).rt), jv ((xs.getD (xs.length - 1) Pxy.z).sf), jv ((xs.getD (xs.length - 1) Pxy.z).st), sv ((xs.getD (xs.length - 1) Pxy.z).sig)]) Ba) fun a w9 Y U => ?_
  replace Y := Y.p4 35 37 39 45 O
  refine ab <| aL (k := 14) 15 [14] ?_
  refine aF Y U call184 O (rd x.rf x.rt x.sf x.st (xs.getD (xs.length - 1) Pxy.z) _) fun a w10 Y U => ab <| aR (k := 15) 18 [16, 17] Y ?_
  refine bL 3 (Y.p5 35 37 39 45 46 O) U <| pl_v (bB O) <| pl_v (ax O O) <| pl_v (cz O) fun a w11 Y U => ?_
  replace Y := Y.p2 48 4 O
  refine ab <| aL (k := 18) 19 [18] ?_
  refine wla Y O fun a Y => ab <| aS <| G10 <| aq <| am Y results148 (ae O (ae O ag)) ?_
  exact ⟨by simp only [retv]; rw [pN om hs]; try rfl, U.ext⟩
 rw [yD hb4] at Y
 refine dw (k := 4) 14 [5, 7, 13] (Y.p9 1 2 8 9 10 32 33 34 35 O) fun a Y => ?_
 replace Y : Fr 49 [(36, undef), (37, undef), (38, undef), (39, undef), (40, undef), (41, undef), (42, undef), (43, undef), (44, undef), (45, undef), (1, lv), (2, pq w0.hz), (8, lv), (9, jv (xs.length : Int)), (10, jv (k : Int)), (32, lv), (33, jv (xs.length : Int)), (34, .bool false), (35, .bool false)] [] a := Y
 refine aL (k := 14) 15 [14] ?_
 refine wln Y fun a Y => ab ?_
 replace Y := Y.p20 36 37 38 39 40 41 42 43 44 45 1 2 8 9 10 32 33 34 35 46 O
 refine xF (k := 15) 18 [16, 17] (fun i => match i with | 15 => undef | 16 => .bool false | 17 => jv (-1) | _ => undef) Y ?_ ?_
 ·intro i h1 h2
  have hi : i = 15 ∨ i = 16 ∨ i = 17 := by omega
  rcases hi with rfl | rfl | rfl
  ·exact ⟨fun _ => O, fun h => by cases h⟩
  ·exact ⟨fun h => BJ, fun _ => ak O O⟩
  ·exact ⟨fun h => BJ, fun _ => cz O⟩
 intro a Y
 replace Y : Fr 49 [(47, undef), (48, .bool false), (4, jv (-1)), (36, undef), (37, undef), (38, undef), (39, undef), (40, undef), (41, undef), (42, undef), (43, undef), (44, undef), (45, undef), (1, lv), (2, pq w0.hz), (8, lv), (9, jv (xs.length : Int)), (10, jv (k : Int)), (32, lv), (33, jv (xs.length : Int)), (34, .bool false), (35, .bool false), (46, undef)] [] a := Y
 refine aL (k := 18) 19 [18] ?_
 refine wla Y O fun a Y => ab <| aS <| G10 ?_
 replace Y := Y.p2 4 5 O
 replace U := U.k0 0 O
 refine aq <| am Y results148 (ae O (ae O ag)) ?_
 exact ⟨by simp only [retv]; rw [pE om hs]; try rfl, U.ext⟩
def pers : Int → List Pxy → Nat → List (Int × Int)
 | who, [], _ => [(-1, who)]
 | who, p :: l, k => ((k : Int), who) :: pers p.to l (k + 1)
def encQ (x : Int × Int) : List Value := [jv x.1, jv x.2]
def NxQ (h : Int) (xs : List Pxy) (pre : List (Int × Int)) (x : Int × Int) : Prop := ∃ suf, pers h xs 0 = pre ++ x :: suf
theorem pg {M : Nat → Prop} {w0 : World} (h : Int) (lv : Value) (xs : List Pxy) (lp bh bl : Nat) (J Jx : List (Int × Int) → Ent → Prop) (hY : Rounds Tryz.prog M w0 lp encQ (NxQ h xs) J Jx) (e0 : Ent) (ws : World) (hsv : ∀ H w, St M w0 H w → SlAt w lv 7 (xs.map Pxy.cells)) (hJ : J [] e0) (U : St M w0 [e0, blk bh [jv h] 3, blk bl [lv] 91] ws) :
  Ret Tryz.prog 183 #[.func (.yield lp) #[] #[], pq bh, pq bl] ws fun _ w => ∃ e1 Hi1, St M w0 (e1 :: Hi1) w ∧ ((∃ zs, (zs = pers h xs 0 ∧ Hi1 = [blk bh [jv h] 3, blk bl [lv] 91]) ∧ J zs e1) ∨ (∃ pre, Hi1 = [blk bh [jv h] 3, blk bl [lv] 91] ∧ Jx pre e1)) := by
 refine aC func183 O ntmps183 (lb O) fun a Y => ?_
 replace Y := Y.p3 0 1 2 O
 have hlb := (hsv _ _ U).2.1
 rw [yu] at hlb
 unfold big at hlb
 refine aa fun _ G1 => nv Y <| yo (ld U 1 O O (isAgg3 _) O) <| yq O <| fun a Y => G1 <| ah fun _ G2 => aa fun _ G3 => nv Y <| yo (ld U 2 O O (isAgg91 _) O) <| yo ((aO (sT := 91) (hsv _ _ U) O O (runUnderlying91 _)).asi (m' := (xs.length : Int)) AO) <| yp O <| fun a Y => G3 <| au <| aZ (fun m a w => ∃ (k : Nat) (who : Int) (e : Ent) (dn : List (Int × Int)), m = xs.length - k ∧ (k ≤ xs.length) ∧ (pers h xs 0 = dn ++ pers who (xs.drop k) k) ∧ (J dn e) ∧ Fr 26 [(0, .func (.yield lp) #[] #[]), (8, lv), (9, jv (xs.length : Int)), (4, jv who), (10, jv (k : Int))] [] a ∧ St M w0 [e, blk bh [jv h] 3, blk bl [lv] 91] w) _ ⟨0, h, e0, [], O, yQ _, O, hJ, Y.pick [0, 8, 9, 4, 10], U.select [0, 1, 2] de⟩ ?_
 rintro _ a w1 ⟨k, who, e, dn, rfl, hk, hp, hJ, Y, U⟩
 refine aa fun _ G4 => wlv Y (v_lt O O) fun a Y => G4 <| ah fun _ G5 => aA Y O (fun hc1 => ?_) (fun hc1 => ?_)
 ·have hkx : k < xs.length := by omega
  refine ar <| G5 <| ah fun _ G6 => au <| aa fun _ G7 => nv Y <| yp O <| yo ((aj (i := (k : Int)) (sT := 91) (hsv _ _ U) O O (runUnderlying91 _) (sizeOf144 _) om Aw).as (v' := slAddr lv (k * 7)) O) <| yo ((bP (hsv _ _ U) (i := k) Aw O (isAgg144 _) (sizeOf144 _)).as (v' := .agg #[jv ((xs.getD k Pxy.z).frm), jv ((xs.getD k Pxy.z).to), jv ((xs.getD k Pxy.z).rf), jv ((xs.getD k Pxy.z).rt), jv ((xs.getD k Pxy.z).sf), jv ((xs.getD k Pxy.z).st), sv ((xs.getD k Pxy.z).sig)]) Ba) <| fun a Y => aD Y U (zeroValue144 _) [jv 0, jv 0, jv 0, jv 0, jv 0, jv 0, .string (⟨#[]⟩)] O fun a w2 Y U => wla Y O fun a Y => az 0 Y U [jv ((xs.getD k Pxy.z).frm), jv ((xs.getD k Pxy.z).to), jv ((xs.getD k Pxy.z).rf), jv ((xs.getD k Pxy.z).rt), jv ((xs.getD k Pxy.z).sf), jv ((xs.getD k Pxy.z).st), sv ((xs.getD k Pxy.z).sig)] O (sizeOf144 _) fun a w3 Y U => G7 <| ah fun _ G8 => aa fun _ G9 => nv Y <| yp O <| yp O <| yp O <| fun a Y => wl_r (fL O O (hY.yield (pre := dn) (x := ((k : Int), who)) ⟨_, by rw [hp, dA Pxy.z hkx]; rfl⟩ hJ (U.only (i := 1) O))) O O Y fun a v w4 hR Y => ?_
  obtain ⟨y2, e3, rfl, hx, hok, hft, hJt, hJf⟩ := hR
  replace U := U.exchange (k := 1) rfl hx hok hft
  replace U := U.n4 O
  clear hx hok hft
  refine wlv Y (bB O) fun a Y => G9 ?_
  replace Y := Y.p6 0 8 9 10 6 19 O
  refine bC Y O (fun hc4 => ?_) (fun hc4 => ?_)
  ·try simp only [qz] at hc4
   have hJ := hJf hc4
   refine aq <| am Y results183 ag ?_
   exact ⟨_, _, U.select [1, 2, 3] de, .inr ⟨_, O, hJ⟩⟩
  try simp only [qz] at hc4
  have hJ := hJt hc4
  refine ar <| G8 <| al <| nv Y <| yo (ac (v := po w1.hz 1) O kr) <| yo (ld U 0 O O (isAgg3 _) O) <| yq O <| fun a Y => ab <| G6 <| al <| nv Y <| yo (aM O O ⟨om, om⟩) <| yp O <| fun a Y => ab ?_
  refine ⟨_, ?_, k + 1, (xs.getD k Pxy.z).to, e3, dn ++ [((k : Int), who)], O, om, (by rw [hp, dA Pxy.z hkx, pers, za]; rfl), hJ, Y.pick [0, 8, 9, 4, 10], U.select [1, 2, 3] de⟩
  omega
 obtain rfl : k = xs.length := by omega
 rw [List.drop_length] at hp
 refine aP <| G2 <| al <| nv Y <| yp O <| yp O <| fun a Y => wl_r (fL O O (hY.yield (pre := dn) (x := ((-1 : Int), who)) ⟨[], hp⟩ hJ (U.only (i := 0) O))) O O Y fun a v w5 hR Y => ?_
 obtain ⟨y5, e6, rfl, hx, hok, hft, hJt, hJf⟩ := hR
 replace U := U.exchange (k := 0) rfl hx hok hft
 replace U := U.n3 O
 clear hx hok hft
 refine ab <| cS Y results183 ag ?_
 rcases yz y5 with hyy | hyy
 ·exact ⟨_, _, U.select [0, 1, 2] de, .inl ⟨_, ⟨hp.symm.symm ▸ O, O⟩, hJt hyy⟩⟩
 ·exact ⟨_, _, U.select [0, 1, 2] de, .inr ⟨_, O, hJf hyy⟩⟩
theorem nF {M : Nat → Prop} {w0 : World} (h : Int) (lv : Value) (xs : List Pxy) (bh bl : Nat) (hsv : ∀ H w, St M w0 H w → SlAt w lv 7 (xs.map Pxy.cells)) :
  Iter Tryz.prog 183 [pq bh, pq bl] encQ (NxQ h xs) (fun zs Hi1 => zs = pers h xs 0 ∧ Hi1 = [blk bh [jv h] 3, blk bl [lv] 91]) (fun pre Hi1 => Hi1 = [blk bh [jv h] 3, blk bl [lv] 91]) M w0 [blk bh [jv h] 3, blk bl [lv] 91] :=
 fun lp J Jx w e hY hJ U => pg h lv xs lp bh bl J Jx hY e w hsv hJ U
theorem pl (h : Int) (lv : Value) (xs : List Pxy) (w0 : World) (hlv : SlAt w0 lv 7 (xs.map Pxy.cells)) :
  Ret Tryz.prog 147 #[jv h, lv] w0 (MemR w0 (fun z : Nat × Nat => .func (.func 183) #[] #[pq z.1, pq z.2]) (fun z => [blk z.2 [lv] 91, blk z.1 [jv h] 3]) (fun _ => True)) := by
 refine Am func147 O ntmps147 (lb O) fun a Y U => aa fun _ G1 => aV Y U O [jv h] O fun a w1 Y U => aV Y U O [lv] (by rw [(U.arg hlv).cells]) fun a w2 Y U => wla Y O fun a Y => G1 <| aa fun _ G2 => nv Y <| yo (cb O O) <| yq O <| fun a Y => G2 <| aq <| am Y results147 (ae O ag) ?_
 exact ⟨(w0.hz, w1.hz), O, trivial, U.ext, St.out (H := []) U⟩
theorem nB {M : Nat → Prop} {wb : World} {H : List Ent} {sv : Value} {els : List (List Value)} {caps : List Value} {g : FuncId} (p : Nat → Bool) (ev_ : Nat → Value) (J : Nat → Ent → Prop) (e0 : Ent) (w0 : World)
  (hen : ∀ args w, (callFunc g args).run Tryz.prog w = .ok (.enter g args) w) (hs : ∀ e w, St M wb (e :: H) w → SlAt w sv 7 els)
  (hev : ∀ k (h : k < els.length), .agg (els[k]).toArray = ev_ k) (hJ0 : J 0 e0) (U : St M wb (e0 :: H) w0)
  (hcl : ∀ k e w, k < els.length → J k e → e.ok w → (∀ b, e.foot b → b < w.hz) → Ret Tryz.prog g ([ev_ k] ++ caps).toArray w fun v w' => v = .bool (p k) ∧ ∃ e', Ext e.foot w w' ∧ e'.ok w' ∧ (∀ b, e'.foot b → b < w'.heap.size ∧ (e.foot b ∨ w.hz ≤ b)) ∧ J (k + 1) e') :
  Ret Tryz.prog 91 #[sv, .func (.func g) #[] caps.toArray] w0 fun v w => v = .bool ((List.range els.length).any p) ∧ ∃ k e', J k e' ∧ St M wb (e' :: H) w := by
 refine aC func91 O ntmps91 (lb O) fun a Y => aa fun _ G1 => wla (Y.p2 0 1 O) O fun a Y => G1 <| aa fun _ G2 => nv Y <| yp O <| yp O <| fun a Y => wl_r (eI call141 O (mD p ev_ J e0 _ hen hs hev hJ0 U hcl)) O O Y fun a v w1 hR Y => ?_
 obtain ⟨rfl, kk, e1, hJ1, U⟩ := hR
 refine nv Y <| yo (v_ge O O) <| yq O <| fun a Y => G2 <| aq <| am Y results91 (ae O ag) ?_
 exact ⟨by rw [gP]; rfl, _, _, hJ1, U⟩
theorem vI {u : Value} {xs : List Pxy} {g : FuncId} (p : Pxy → Bool) (w0 : World) (hen : ∀ args w, (callFunc g args).run Tryz.prog w = .ok (.enter g args) w) (hs : SlAt w0 u 7 (xs.map Pxy.cells))
  (hcl : ∀ (x : Pxy) (w : World), x ∈ xs → Ret Tryz.prog g #[.agg x.cells.toArray] w fun v w' => v = .bool (p x) ∧ Ext No w w') :
  Ret Tryz.prog 91 #[u, .func (.func g) #[] #[]] w0 fun v w => v = .bool (xs.any p) ∧ Ext No w0 w := by
 have U : St No w0 [join []] w0 := St.join [] [] (St.init w0)
 have h := nB (M := No) (wb := w0) (H := []) (sv := u) (els := xs.map Pxy.cells) (caps := []) (g := g) (fun k => p (xs.getD k Pxy.z)) (fun k => .agg (xs.getD k Pxy.z).cells.toArray) (fun _ e => e = join []) (join []) w0 hen
  (fun e w h => h.arg hs) (fun k h => by rw [bf Pxy.z]) rfl U (fun k e w hk he hok hlt => by
   subst he
   refine (hcl _ w (bD BW)).mono fun v w' ⟨h1, h2⟩ => ⟨h1, join [], h2.mono (fun k _ hk => hk.elim), ?_, ?_, O⟩
   ·exact ⟨fun e he => (by cases he), List.Pairwise.nil⟩
   ·rintro b ⟨e, he, _⟩
    cases he)
 refine h.mono fun v w ⟨h1, k, e, he, U⟩ => ⟨?_, U.ext⟩
 rw [h1, yu]
 congr 1
 rw [Bool.eq_iff_iff, zp, zp]
 constructor
 ·rintro ⟨k, hk, hp⟩
  exact ⟨_, bD (yH.1 hk), hp⟩
 ·rintro ⟨x, hx, hp⟩
  obtain ⟨k, hk, rfl⟩ := zq hx
  exact ⟨k, yH.2 hk, by rw [yA, yF hk]; exact hp⟩
theorem qM {u : Value} {xs : List By} {g : FuncId} (p : By → Bool) (w0 : World) (hen : ∀ args w, (callFunc g args).run Tryz.prog w = .ok (.enter g args) w) (hs : SlAt w0 u 1 (xs.map (fun s => [sv s])))
  (hcl : ∀ (x : By) (w : World), x ∈ xs → Ret Tryz.prog g #[sv x] w fun v w' => v = .bool (p x) ∧ Ext No w w') :
  Ret Tryz.prog 146 #[u, .func (.func g) #[] #[]] w0 fun v w => v = .bool (xs.any p) ∧ Ext No w0 w := by
 have U : St No w0 [join []] w0 := St.join [] [] (St.init w0)
 have h := iN (M := No) (wb := w0) (H := []) (sv := u) (els := xs.map (fun s => [sv s])) (caps := []) (g := g) (fun k => p (xs.getD k [])) (fun k => sv (xs.getD k [])) (fun _ e => e = join []) (join []) w0 hen
  (fun e w h => h.arg hs) (fun k h => by rw [bf []]; rfl) rfl U (fun k e w hk he hok hlt => by
   subst he
   refine (hcl _ w (bD BW)).mono fun v w' ⟨h1, h2⟩ => ⟨h1, join [], h2.mono (fun k _ hk => hk.elim), ?_, ?_, O⟩
   ·exact ⟨fun e he => (by cases he), List.Pairwise.nil⟩
   ·rintro b ⟨e, he, _⟩
    cases he)
 refine h.mono fun v w ⟨h1, k, e, he, U⟩ => ⟨?_, U.ext⟩
 rw [h1, yu]
 congr 1
 rw [Bool.eq_iff_iff, zp, zp]
 constructor
 ·rintro ⟨k, hk, hp⟩
  exact ⟨_, bD (yH.1 hk), hp⟩
 ·rintro ⟨x, hx, hp⟩
  obtain ⟨k, hk, rfl⟩ := zq hx
  exact ⟨k, yH.2 hk, by rw [yA, yF hk]; exact hp⟩
theorem xp (s : By) (w0 : World) :
  Ret Tryz.prog 145 #[sv s] w0 fun v w => v = .bool (!decide ((s.length : Int) = 32)) ∧ Ext No w0 w := by
 refine An func145 O ntmps145 (lb O) fun a Y U => aa fun _ G1 => wla Y O fun a Y => G1 <| aa fun _ G2 => wlm Y O fun a Y => aw Y U call84 O (kl s _) fun a w1 Y U => nv Y <| yo (bB O) <| yq O <| fun a Y => G2 <| aq <| am Y results145 (ae O ag) ?_
 exact ⟨by rfl, U.ext⟩
theorem vX (x : Pxy) (w0 : World) :
  Ret Tryz.prog 89 #[.agg #[jv x.frm, jv x.to, jv x.rf, jv x.rt, jv x.sf, jv x.st, sv x.sig]] w0 fun v w => v = .bool (!decide ((x.sig.length : Int) = 32)) ∧ Ext No w0 w := by
 refine An func89 O ntmps89 (lb O) fun a Y U => aa fun _ G1 => aV Y U O [jv x.frm, jv x.to, jv x.rf, jv x.rt, jv x.sf, jv x.st, sv x.sig] O fun a w1 Y U => wla Y O fun a Y => G1 <| aa fun _ G2 => nv Y <| yo (ac (v := po w0.hz 6) O kr) <| yo (ld U 0 O O (isAgg9 _) O) <| yo (bd O O (runUnderlying9 _)) <| yo (v_ne O O) <| yq O <| fun a Y => G2 ?_
 replace Y := Y.p1 2 O
 replace U := U.k0 0 O
 refine aq <| am Y results89 (ae O ag) ?_
 exact ⟨by rfl, U.ext⟩
theorem qu {w0 w : World} {b1 b2 : Nat} {c1 c2 : List Value} {T1 T2 : TypeId} (h : Ext (fun k => k = b1 ∨ k = b2) w0 w) (h1 : (blk b1 c1 T1).ok w0) (h1' : (blk b1 c1 T1).ok w) (h2 : (blk b2 c2 T2).ok w0) (h2' : (blk b2 c2 T2).ok w) : Ext No w0 w := by
 refine ⟨h.os, h.tape, h.output, h.size, fun k hk _ => ?_⟩
 by_cases e1 : k = b1
 ·subst e1; exact Eq.trans h1' (Eq.symm h1)
 ·by_cases e2 : k = b2
  ·subst e2; exact Eq.trans h2' (Eq.symm h2)
  ·exact h.same k hk fun hh => hh.elim e1 e2
theorem oE {w0 w : World} {H : List Ent} {i b g : Nat} {cs c1 : List Value} {T T1 : TypeId} (h : St No w0 H w) (hi : H[i]? = some (blk b cs T)) (hg : (blk g c1 T1).ok w0) : b ≠ g := by
 rintro rfl
 exact ((h.ok _ (zG hi)).2 b O).2 (yK.1 hg).1
theorem ma (key content : By) (g : FuncId) (bx : Nat) (cs : List Value) (T : TypeId) (w0 : World) (hen : ∀ args w, (callFunc g args).run Tryz.prog w = .ok (.enter g args) w)
  (hc : ∀ {M : Nat → Prop} {w0 : World} (b : Nat) (v : Value) (ws : World), St M w0 [bld 162 b (.pointer none) v [], blk bx cs T] ws → Ret Tryz.prog g ([pq b] ++ [pq bx]).toArray ws fun u w => u = .tuple #[] ∧ ∃ v2, St M w0 [bld 162 b (pq b) v2 content, blk bx cs T] w)
  (hne : content ≠ []) (hkl : key.length ≤ 40000000) (hcl : content.length ≤ 40000000) (hk0 : (blk 0 (kOf.map wv) 258).ok w0) (hbx : (blk bx cs T).ok w0) (hgb : bx ≠ 0) :
  Ret Tryz.prog 86 #[sv key, .func (.func g) #[] #[pq bx]] w0 fun v w => v = sv (sealH key content) ∧ Ext No w0 w := by
 have U : St (fun k => k = 0 ∨ k = bx) w0 [(blk 0 (kOf.map wv) 258), blk bx cs T] w0 := by
  refine ⟨Ext.refl _ _, fun e he => ?_, ?_⟩
  ·simp only [yE, yI, y9] at he
   rcases he with rfl | rfl
   ·exact ⟨hk0, fun k hk => by cases hk; exact ⟨(yK.1 hk0).1, fun _ => .inl O⟩⟩
   ·exact ⟨hbx, fun k hk => by cases hk; exact ⟨(yK.1 hbx).1, fun _ => .inr O⟩⟩
  ·refine List.Pairwise.cons (fun e he k hk hk' => ?_) (List.pairwise_singleton _ _)
   simp only [yE, yI, y9] at he
   subst he
   cases hk
   exact hgb (Eq.symm hk')
 exact (nj key content g [pq bx] (blk bx cs T) w0 hen hc hne hkl hcl U).mono fun v w ⟨h1, h2⟩ => ⟨h1, qu h2.ext hk0 (h2.get (k := 0) O) hbx (h2.get (k := 1) O)⟩
theorem o7 : ∀ {l : List Pxy} {k i : Nat}, badIdx l k = some i → k ≤ i ∧ i - k < l.length ∧ (l.getD (i - k) Pxy.z).ok = false ∧ ∀ j, j < i - k → (l.getD j Pxy.z).ok = true
 | [], k, i, h => by cases h
 | p :: l, k, i, h => by
  rw [badIdx] at h
  split at h
  ·rename_i hp
   obtain ⟨h1, h2, h3, h4⟩ := o7 h
   have e : i - k = (i - (k + 1)) + 1 := by omega
   refine ⟨by omega, by simp; omega, by rw [e]; exact h3, fun j hj => ?_⟩
   cases j with
   | zero => exact hp
   | succ j => exact h4 j om
  ·rename_i hp
   cases h
   refine ⟨zb _, by simp, by rw [Ae]; simpa using hp, fun j hj => by omega⟩
theorem j1 (l : List Pxy) : badN l = match badIdx l 0 with | some i => (i : Int) | none => -1 := by
 cases h : badIdx l 0 with
 | none =>
  refine eY fun j hj => ?_
  rw [dK h _ (bD hj)]; rfl
 | some i =>
  obtain ⟨_, h2, h3, h4⟩ := o7 h
  rw [Nat.sub_zero] at h2 h3 h4
  exact eV h2 (fun j hj => by rw [h4 j hj]; rfl) (by rw [h3]; rfl)
theorem nR {l : List Pxy} (h : badN l < 0) : badIdx l 0 = none := by
 rw [j1] at h
 cases hb : badIdx l 0 with
 | none => rfl
 | some i => rw [hb] at h; simp only at h; omega
theorem pA (x : Wsh) (l : List Pxy) : (x.ok && decide ((l.length : Int) ≤ 4) && decide (badN l < 0)) = bV x l := by
 unfold bV
 rw [j1]
 congr 1
 ·congr 1
  exact decide_eq_decide.2 om
 ·cases badIdx l 0 with
  | none => rfl
  | some i => exact yD (by simp only; omega)
section
variable {ks : List By} {x : Wsh} {ps : List Pxy} {number t : Int}
abbrev formB (ks : List By) (x : Wsh) (ps : List Pxy) : Prop := 64 < ks.length ∨ (ks.all fun s => decide (s.length = 32)) = false ∨ x.ok = false ∨ 4 < ps.length
theorem gh : (ks.any fun s => !decide ((s.length : Int) = 32)) = !(ks.all fun s => decide (s.length = 32)) := by
 rw [List.all_eq_not_any_not, Bool.not_not]
 congr 1
 funext s
 congr 1
 exact decide_eq_decide.2 om
theorem vG (h : ¬ formB ks x ps) : ∀ s ∈ ks, s.length = 32 := by
 have : (ks.all fun s => decide (s.length = 32)) = true := by
  cases hh : (ks.all fun s => decide (s.length = 32)) with
  | true => rfl
  | false => exact absurd (.inr (.inl hh)) h
 intro s hs
 exact of_decide_eq_true (yN.1 this s hs)
theorem fY (h : formB ks x ps) : whyH ks x ps number t = (1, -1) := by unfold whyH; rw [yR h]
theorem rq (h : ¬ formB ks x ps) (hb : 0 ≤ badN ps) : whyH ks x ps number t = (1, badN ps) := by
 unfold whyH; rw [yO h]
 rw [j1] at hb ⊢
 cases he : badIdx ps 0 with
 | none => rw [he] at hb; simp only at hb; omega
 | some i => rfl
def whyP (ks : List By) (x : Wsh) (ps : List Pxy) (number t : Int) : Prop := ¬ formB ks x ps ∧ badIdx ps 0 = none ∧ inB t x.sf (x.st - 1) = true ∧ inB number x.rf (x.rt - 1) = true
theorem lu (h : ¬ formB ks x ps) (hb : badIdx ps 0 = none) (ht : inB t x.sf (x.st - 1) = false) : whyH ks x ps number t = (2, -1) := by
 unfold whyH; rw [yO h, hb]; simp only; rw [yR ht]
theorem m7 (h : ¬ formB ks x ps) (hb : badIdx ps 0 = none) (ht : inB t x.sf (x.st - 1) = true) (hn : inB number x.rf (x.rt - 1) = false) : whyH ks x ps number t = (3, -1) := by
 unfold whyH; rw [yO h, hb]; simp only; rw [yO Cc, yR hn]
theorem mw {i : Int} (h : whyP ks x ps number t) (hc : ct x.signer x.holder ps 0 = some i) : whyH ks x ps number t = (4, i) := by
 obtain ⟨h, hb, ht, hn⟩ := h
 unfold whyH; rw [yO h, hb]; simp only; rw [yO Cc, yO (by rw [hn]; decide), hc]
theorem mz {i : Int} (h : whyP ks x ps number t) (hc : ct x.signer x.holder ps 0 = none) (hs : bE x none ps 0 = some i) : whyH ks x ps number t = (5, i) := by
 obtain ⟨h, hb, ht, hn⟩ := h
 unfold whyH; rw [yO h, hb]; simp only; rw [yO Cc, yO (by rw [hn]; decide), hc]; simp only; rw [hs]
theorem go {i : Int} (h : whyP ks x ps number t) (hc : ct x.signer x.holder ps 0 = none) (hs : bE x none ps 0 = none) (hl : bQ ks x ps 0 = some i) : whyH ks x ps number t = (6, i) := by
 obtain ⟨h, hb, ht, hn⟩ := h
 unfold whyH; rw [yO h, hb]; simp only; rw [yO Cc, yO (by rw [hn]; decide), hc]; simp only; rw [hs]; simp only; rw [hl]
theorem kx (h : whyP ks x ps number t) (hc : ct x.signer x.holder ps 0 = none) (hs : bE x none ps 0 = none) (hl : bQ ks x ps 0 = none) : whyH ks x ps number t = (0, -1) := by
 obtain ⟨h, hb, ht, hn⟩ := h
 unfold whyH; rw [yO h, hb]; simp only; rw [yO Cc, yO (by rw [hn]; decide), hc]; simp only; rw [hs]; simp only; rw [hl]
def okQ (ps : List Pxy) (sg : Int) (z : Int × Int) : Bool := if 0 ≤ z.1 then decide ((ps.getD z.1.toNat Pxy.z).frm = z.2) else decide (sg = z.2)
theorem wR {sg : Int} {z : Int × Int} (h : 0 ≤ z.1) (h2 : (ps.getD z.1.toNat Pxy.z).frm = z.2) : okQ ps sg z = true := by unfold okQ; rw [yR h]; exact yy h2
theorem vY {sg : Int} {z : Int × Int} (h : ¬ 0 ≤ z.1) (h2 : sg = z.2) : okQ ps sg z = true := by unfold okQ; rw [yO h]; exact yy h2
theorem wS {sg : Int} {z : Int × Int} (h : 0 ≤ z.1) (h2 : ¬ (ps.getD z.1.toNat Pxy.z).frm = z.2) : okQ ps sg z = false := by unfold okQ; rw [yR h]; exact yD h2
theorem ww {sg : Int} {z : Int × Int} (h : ¬ 0 ≤ z.1) (h2 : ¬ sg = z.2) : okQ ps sg z = false := by unfold okQ; rw [yO h]; exact yD h2
theorem g8 {sg : Int} : ∀ (l : List Pxy) (k : Nat) (who : Int), l = ps.drop k → ct sg who l k = ((pers who l k).find? fun z => !okQ ps sg z).map (·.1)
 | [], k, who, h => by
  rw [ct, pers, List.find?_cons, List.find?_nil]
  unfold okQ
  rw [yO (show ¬ (0 : Int) ≤ -1 by decide)]
  by_cases hs : sg = who
  ·rw [yR hs, yy hs]; rfl
  ·rw [yO hs, yD hs]; rfl
 | p :: l, k, who, h => by
  have hp : ps.getD k Pxy.z = p := by rw [yA, show ps[k]? = some p from by rw [← List.head?_drop, ← h]; rfl]; rfl
  have hl : l = ps.drop (k + 1) := by rw [← Aa, ← h, List.drop_one]; rfl
  rw [ct, pers, List.find?_cons, g8 l (k + 1) p.to hl]
  unfold okQ
  rw [yR (Int.natCast_nonneg k), zj, hp]
  by_cases hs : p.frm = who
  ·rw [yR hs, yy hs]; rfl
  ·rw [yO hs, yD hs]; rfl
theorem nY {who : Int} : ∀ {l : List Pxy} {k : Nat} {who : Int} {z : Int × Int}, z ∈ pers who l k → z.1 < ((k + l.length : Nat) : Int) ∧ -1 ≤ z.1
 | [], k, who, z, h => by
  rw [pers, yT] at h
  subst h
  exact ⟨by simp only; omega, by simp only; omega⟩
 | p :: l, k, who, z, h => by
  rw [pers] at h
  rcases yE.1 h with rfl | h
  ·exact ⟨by simp only [yG]; omega, by simp only; omega⟩
  ·have := nY (who := who) h
   rw [yG]
   exact ⟨by omega, this.2⟩
theorem rm {who : Int} {pre : List (Int × Int)} {z : Int × Int} (h : NxQ who ps pre z) : z.1 < (ps.length : Int) := by
 obtain ⟨suf, h⟩ := h
 have := (nY (who := who) (l := ps) (k := 0) (z := z) (by rw [h]; simp)).1
 rwa [Nat.zero_add] at this
theorem ru {sg : Int} {pre : List (Int × Int)} {z : Int × Int} (h : ∀ y ∈ pre, okQ ps sg y = true) (hz : okQ ps sg z = true) : ∀ y ∈ pre ++ [z], okQ ps sg y = true := by
 intro y hy
 rcases zC.1 hy with h1 | h1
 ·exact h y h1
 ·rw [yT.1 h1]; exact hz
theorem lS {sg who : Int} {pre : List (Int × Int)} {z : Int × Int} (hn : NxQ who ps pre z) (h : ∀ y ∈ pre, okQ ps sg y = true) (hz : okQ ps sg z = false) : ct sg who ps 0 = some z.1 := by
 obtain ⟨suf, e⟩ := hn
 rw [g8 ps 0 who rfl, e, List.find?_append, zU.2 (fun y hy => by rw [h y hy]; simp), Option.none_or, List.find?_cons, hz]
 rfl
theorem sa {sg who : Int} (h : ∀ y ∈ pers who ps 0, okQ ps sg y = true) : ct sg who ps 0 = none := by
 rw [g8 ps 0 who rfl, zU.2 (fun y hy => by rw [h y hy]; simp)]
 rfl
theorem Pxy.ok_frm {p : Pxy} (h : p.ok = true) : 0 ≤ p.frm ∧ p.frm ≤ 63 := by
 simp only [Pxy.ok, inB, yw, yB] at h; omega
theorem Wsh.ok_signer {x : Wsh} (h : x.ok = true) : 0 ≤ x.signer ∧ x.signer ≤ 63 := by
 simp only [Wsh.ok, inB, yw, yB] at h; omega
theorem Wsh.ok_bnd {x : Wsh} (h : x.ok = true) : 0 ≤ x.rf ∧ x.rf < x.rt ∧ x.rt ≤ 100000000 ∧ 0 ≤ x.sf ∧ x.sf < x.st ∧ x.st ≤ 10000001 := by
 simp only [Wsh.ok, cy, cZ, yw, yB] at h; omega
theorem iB {n : Int} (h0 : 0 ≤ n) (h1 : n.toNat < ks.length) : keyAt ks n = some (ks.getD n.toNat []) := by
 unfold keyAt; rw [yO om, yA, yF h1]; rfl
theorem lN {n : Int} (h0 : 0 ≤ n) (h1 : ks.length ≤ n.toNat) : keyAt ks n = none := by
 unfold keyAt; rw [yO om, z7 h1]
theorem r5 {k : Nat} (hk : k < ps.length) (h0 : 0 ≤ (ps.getD k Pxy.z).frm) (h1 : (ps.getD k Pxy.z).frm.toNat < ks.length) (h2 : (ps.getD k Pxy.z).sig = sealH (ks.getD (ps.getD k Pxy.z).frm.toNat []) (ps.getD k Pxy.z).content) :
  bQ ks x (ps.drop k) k = bQ ks x (ps.drop (k + 1)) (k + 1) := by
 rw [dA Pxy.z hk, bQ, iB h0 h1, yR]
 exact yy h2
theorem oP {k : Nat} (hk : k < ps.length) (h0 : 0 ≤ (ps.getD k Pxy.z).frm) (h1 : ks.length ≤ (ps.getD k Pxy.z).frm.toNat) : bQ ks x (ps.drop k) k = some (k : Int) := by
 rw [dA Pxy.z hk, bQ, lN h0 h1, yO]; simp
theorem ov {k : Nat} (hk : k < ps.length) (h0 : 0 ≤ (ps.getD k Pxy.z).frm) (h1 : (ps.getD k Pxy.z).frm.toNat < ks.length) (h2 : ¬ (ps.getD k Pxy.z).sig = sealH (ks.getD (ps.getD k Pxy.z).frm.toNat []) (ps.getD k Pxy.z).content) :
  bQ ks x (ps.drop k) k = some (k : Int) := by
 rw [dA Pxy.z hk, bQ, iB h0 h1, yO]
 rw [Option.any_some, yD h2]; simp
theorem mE {k : Nat} (h0 : 0 ≤ x.signer) (h1 : ks.length ≤ x.signer.toNat) : bQ ks x [] k = some (-1) := by
 rw [bQ, lN h0 h1, yO]; simp
theorem mN {k : Nat} (h0 : 0 ≤ x.signer) (h1 : x.signer.toNat < ks.length) (h2 : ¬ x.sig = sealH (ks.getD x.signer.toNat []) x.content) : bQ ks x [] k = some (-1) := by
 rw [bQ, iB h0 h1, yO]
 rw [Option.any_some, yD h2]; simp
theorem sb {k : Nat} (h0 : 0 ≤ x.signer) (h1 : x.signer.toNat < ks.length) (h2 : x.sig = sealH (ks.getD x.signer.toNat []) x.content) : bQ ks x [] k = none := by
 rw [bQ, iB h0 h1, yR]
 exact yy h2
end
theorem uC {x : Wsh} {ps : List Pxy} (h : (scopeV x ps).2 = false) : bE x none ps 0 = none := by
 unfold scopeV at h
 cases hs : bE x none ps 0 with
 | none => rfl
 | some n => rw [hs] at h; cases h
theorem tb {x : Wsh} {ps : List Pxy} (h : (scopeV x ps).2 = true) : bE x none ps 0 = some (scopeV x ps).1 := by
 unfold scopeV at h ⊢
 cases hs : bE x none ps 0 with
 | none => rw [hs] at h; cases h
 | some n => rfl
theorem xV (kv lv : Value) (ks : List By) (x : Wsh) (ps : List Pxy) (number t : Int) (w0 : World) (hkv : SlAt w0 kv 1 (ks.map fun s => [sv s])) (hlv : SlAt w0 lv 7 (ps.map Pxy.cells)) (hk0 : (blk 0 (kOf.map wv) 258).ok w0) :
  Ret Tryz.prog 103 #[kv, .agg #[jv x.signer, jv x.holder, jv x.rf, jv x.rt, jv x.carrier, jv x.serial, jv x.sf, jv x.st, sv x.sig], lv, jv number, jv t] w0 fun v w => v = .tuple #[jv (whyH ks x ps number t).1, jv (whyH ks x ps number t).2] ∧ Ext No w0 w := by
 have hxb := hlv.2.1
 simp only [yu, big] at hxb
 have hyb := hkv.2.1
 simp only [yu, big] at hyb
 refine Aq func103 O ntmps103 (lb O) fun a Y U => aa fun _ G1 => aV Y U O [jv x.signer, jv x.holder, jv x.rf, jv x.rt, jv x.carrier, jv x.serial, jv x.sf, jv x.st, sv x.sig] O fun a w1 Y U => aV Y U O [lv] (by rw [(U.arg hlv).cells]) fun a w2 Y U => aD Y U (zeroValue3 _) [jv 0] O fun a w3 Y U => aD Y U (zeroValue3 _) [jv 0] O fun a w4 Y U => G1 <| aa fun _ G2 => wla Y O fun a Y => G2 <| ah fun _ G3 => aa fun _ G4 => nv Y <| yp O <| yo ((aO (sT := 44) (U.arg hkv) O O (runUnderlying44 _)).asi (m' := (ks.length : Int)) AO) <| yo (v_gt O O) <| yp O <| fun a Y => ?_
 rcases Decidable.em (64 < (ks.length : Int)) with hb1 | hb1
 ·rw [yy hb1] at Y
  refine nv Y <| yt <| yt <| yt <| yo (ax O O) <| yp O <| yt <| yt <| yt <| yo (ax O O) <| yp O <| yt <| yt <| yt <| yo (ax O O) <| fun a Y => G4 ?_
  replace Y := Y.p8 0 3 4 6 7 10 11 37 O
  refine aG Y O ?_
  refine aa fun _ G5 => az 1 Y U [jv 1] O (sizeOf3 _) fun a w5 Y U => az 0 Y U [jv (-1)] O (sizeOf3 _) fun a w6 Y U => G5 <| aq <| am Y results103 (ai O (aK (U.g 1 O) (isAgg3 _)) (ai O (aK (U.g 0 O) (isAgg3 _)) ag)) ?_
  exact ⟨by rw [fY (by unfold formB; first | exact .inl om | exact .inr (.inr (.inr om)) | exact .inr (.inr (.inl hb1)) | exact .inr (.inl (by rw [gh] at hb1; simpa using hb1)))]; rfl, U.ext⟩
 rw [yD hb1] at Y
 refine nv Y <| yr (ay O) <| yr (ay O) <| fun a Y => aF Y U call146 O (qM (fun s => !decide ((s.length : Int) = 32)) _ call145 (U.arg hkv) (fun x w _ => xp x w)) fun a w7 Y U => nv Y <| yo (ak O O) <| yp O <| fun a Y => ?_
 rcases yz (ks.any fun s => !decide ((s.length : Int) = 32)) with hb2 | hb2
 ·rw [hb2] at Y
  try simp only [qz] at hb2
  refine nv Y <| yt <| yt <| yt <| yo (ax O O) <| yp O <| yt <| yt <| yt <| yo (ax O O) <| fun a Y => G4 ?_
  replace Y := Y.p8 0 3 4 6 7 10 11 37 O
  refine aG Y O ?_
  refine aa fun _ G6 => az 1 Y U [jv 1] O (sizeOf3 _) fun a w8 Y U => az 0 Y U [jv (-1)] O (sizeOf3 _) fun a w9 Y U => G6 <| aq <| am Y results103 (ai O (aK (U.g 1 O) (isAgg3 _)) (ai O (aK (U.g 0 O) (isAgg3 _)) ag)) ?_
  exact ⟨by rw [fY (by unfold formB; first | exact .inl om | exact .inr (.inr (.inr om)) | exact .inr (.inr (.inl hb2)) | exact .inr (.inl (by rw [gh] at hb2; simpa using hb2)))]; rfl, U.ext⟩
 rw [hb2] at Y
 try simp only [qz] at hb2
 refine wly Y (ap (U.g 3 O) O (isAgg90 _) (sizeOf90 _)) fun a Y => aF Y U call85 O (jt x _) fun a w10 Y U => nv Y <| yr (bB O) <| yo (ak O O) <| yp O <| fun a Y => ?_
 rcases yz (!x.ok) with hb3 | hb3
 ·rw [hb3] at Y
  try simp only [qz] at hb3
  refine nv Y <| yt <| yt <| yt <| yo (ax O O) <| fun a Y => G4 ?_
  replace Y := Y.p8 0 3 4 6 7 10 11 37 O
  refine aG Y O ?_
  refine aa fun _ G7 => az 1 Y U [jv 1] O (sizeOf3 _) fun a w11 Y U => az 0 Y U [jv (-1)] O (sizeOf3 _) fun a w12 Y U => G7 <| aq <| am Y results103 (ai O (aK (U.g 1 O) (isAgg3 _)) (ai O (aK (U.g 0 O) (isAgg3 _)) ag)) ?_
  exact ⟨by rw [fY (by unfold formB; first | exact .inl om | exact .inr (.inr (.inr om)) | exact .inr (.inr (.inl hb3)) | exact .inr (.inl (by rw [gh] at hb3; simpa using hb3)))]; rfl, U.ext⟩
 rw [hb3] at Y
 try simp only [qz] at hb3
 refine nv Y <| yr (ld U 2 O O (isAgg91 _) O) <| yr ((aO (sT := 91) (U.arg hlv) O O (runUnderlying91 _)).asi (m' := (ps.length : Int)) AO) <| yr (v_gt O O) <| yo (ak O O) <| fun a Y => G4 ?_
 replace Y := Y.p8 0 3 4 6 7 10 11 37 O
 refine aA Y O (fun hc4 => ?_) (fun hc4 => ?_)
 ·refine aa fun _ G8 => az 1 Y U [jv 1] O (sizeOf3 _) fun a w13 Y U => az 0 Y U [jv (-1)] O (sizeOf3 _) fun a w14 Y U => G8 <| aq <| am Y results103 (ai O (aK (U.g 1 O) (isAgg3 _)) (ai O (aK (U.g 0 O) (isAgg3 _)) ag)) ?_
  exact ⟨by rw [fY (by unfold formB; first | exact .inl om | exact .inr (.inr (.inr om)) | exact .inr (.inr (.inl hc4)) | exact .inr (.inl (by rw [gh] at hc4; simpa using hc4)))]; rfl, U.ext⟩
 refine ar <| G3 <| ah fun _ G9 => ?_
 have hxo : x.ok = true := hb3
 have hnf : ¬ formB ks x ps := by
  rintro (h | h | h | h)
  ·omega
  ·rw [gh, h] at hb2; simp at hb2
  ·rw [hxo] at h; cases h
  ·omega
 have hk32 := vG hnf
 have hxd := Wsh.ok_bnd hxo
 have hxg := Wsh.ok_signer hxo
 refine aa fun _ G10 => wlv Y (ld U 2 O O (isAgg91 _) O) fun a Y => aw Y U call140 O (jA lv ps _ (U.arg hlv)) fun a w15 Y U => wla Y O fun a Y => G10 <| aa fun _ G11 => nv Y <| yp O <| yo (v_ge O O) <| fun a Y => G11 <| aA Y O (fun hc5 => ?_) (fun hc5 => ?_)
 ·refine aa fun _ G12 => wlm Y O fun a Y => az 1 Y U [jv 1] O (sizeOf3 _) fun a w16 Y U => az 0 Y U [jv (badN ps)] O (sizeOf3 _) fun a w17 Y U => G12 ?_
  replace Y := Y.p7 0 3 4 6 7 10 11 O
  refine aq <| am Y results103 (ai O (aK (U.g 1 O) (isAgg3 _)) (ai O (aK (U.g 0 O) (isAgg3 _)) ag)) ?_
  exact ⟨by rw [rq hnf hc5]; rfl, U.ext⟩
 refine ar <| G9 <| ah fun _ G13 => ?_
 have hbn := nR (l := ps) om
 refine aa fun _ G14 => nv Y <| yp O <| yo (ac (v := po w0.hz 6) O kr) <| yo (ac (v := po w0.hz 6) O kr) <| yo (ld U 3 O O (isAgg3 _) O) <| yo (ac (v := po w0.hz 6) O kr) <| yo (ac (v := po w0.hz 7) O kr) <| yo (ld U 3 O O (isAgg3 _) O) <| yo (bK O O ⟨om, om⟩) <| fun a Y => aw Y U call100 O (cX t x.sf (x.st - 1) _) fun a w18 Y U => wlv Y (bB O) fun a Y => G14 ?_
 replace Y := Y.p7 0 3 6 7 10 11 52 O
 refine bC Y O (fun hc6 => ?_) (fun hc6 => ?_)
 ·try simp only [qz] at hc6
  refine aa fun _ G15 => az 1 Y U [jv 2] O (sizeOf3 _) fun a w19 Y U => az 0 Y U [jv (-1)] O (sizeOf3 _) fun a w20 Y U => G15 <| aq <| am Y results103 (ai O (aK (U.g 1 O) (isAgg3 _)) (ai O (aK (U.g 0 O) (isAgg3 _)) ag)) ?_
  exact ⟨by rw [lu hnf hbn hc6]; rfl, U.ext⟩
 try simp only [qz] at hc6
 refine ar <| G13 <| ah fun _ G16 => aa fun _ G17 => nv Y <| yp O <| yo (ac (v := po w0.hz 2) O kr) <| yo (ac (v := po w0.hz 2) O kr) <| yo (ld U 3 O O (isAgg3 _) O) <| yo (ac (v := po w0.hz 2) O kr) <| yo (ac (v := po w0.hz 3) O kr) <| yo (ld U 3 O O (isAgg3 _) O) <| yo (bK O O ⟨om, om⟩) <| fun a Y => aw Y U call100 O (cX number x.rf (x.rt - 1) _) fun a w21 Y U => wlv Y (bB O) fun a Y => G17 ?_
 replace Y := Y.p6 0 6 7 10 11 62 O
 refine bC Y O (fun hc7 => ?_) (fun hc7 => ?_)
 ·try simp only [qz] at hc7
  refine aa fun _ G18 => az 1 Y U [jv 3] O (sizeOf3 _) fun a w22 Y U => az 0 Y U [jv (-1)] O (sizeOf3 _) fun a w23 Y U => G18 <| aq <| am Y results103 (ai O (aK (U.g 1 O) (isAgg3 _)) (ai O (aK (U.g 0 O) (isAgg3 _)) ag)) ?_
  exact ⟨by rw [m7 hnf hbn hc6 hc7]; rfl, U.ext⟩
 try simp only [qz] at hc7
 refine ar <| G16 <| ah fun _ G19 => ?_
 have hwp : whyP ks x ps number t := ⟨hnf, hbn, hc6, hc7⟩
 refine aa fun _ G20 => nv Y <| yo (ac (v := po w0.hz 1) O kr) <| yo (ld U 3 O O (isAgg3 _) O) <| yo (ld U 2 O O (isAgg91 _) O) <| fun a Y => bu Y U call147 O (pl x.holder lv ps _ (U.arg hlv)) fun a w24 x8 hp Y U => ?_
 obtain ⟨bh, bl⟩ := x8
 clear hp
 try dsimp only at U
 replace U := U.n6 O
 refine G20 <| au ?_
 replace U := U.s6 [5, 4, 3, 2, 1, 0] de rfl
 replace Y := Y.p9 0 6 7 10 11 63 64 65 66 O
 refine dD (M := No) (w0 := w0) (encs := encQ) (Hi := [blk bh [jv x.holder] 3, blk bl [lv] 91]) (Hc := [blk w0.hz [jv x.signer, jv x.holder, jv x.rf, jv x.rt, jv x.carrier, jv x.serial, jv x.sf, jv x.st, sv x.sig] 90, blk w1.hz [lv] 91, blk w2.hz [jv 0] 3, blk w3.hz [jv 0] 3]) (fun pre H => (∀ z ∈ pre, okQ ps x.signer z = true) ∧ H = [blk w0.hz [jv x.signer, jv x.holder, jv x.rf, jv x.rt, jv x.carrier, jv x.serial, jv x.sf, jv x.st, sv x.sig] 90, blk w1.hz [lv] 91, blk w2.hz [jv 0] 3, blk w3.hz [jv 0] 3]) (fun c pre H => c = .ret ∧ ∃ (i : Int), (ct x.signer x.holder ps 0 = some i) ∧ H = [blk w0.hz [jv x.signer, jv x.holder, jv x.rf, jv x.rt, jv x.carrier, jv x.serial, jv x.sf, jv x.st, sv x.sig] 90, blk w1.hz [lv] 91, blk w2.hz [jv 4] 3, blk w3.hz [jv i] 3]) (fun pre xs H a => Fr 142 [(6, pq w0.hz), (7, pq w1.hz), (10, pq w2.hz), (11, pq w3.hz), (14, jv xs.1), (15, jv xs.2)] [] a ∧ (∀ z ∈ pre, okQ ps x.signer z = true) ∧ H = [blk w0.hz [jv x.signer, jv x.holder, jv x.rf, jv x.rt, jv x.carrier, jv x.serial, jv x.sf, jv x.st, sv x.sig] 90, blk w1.hz [lv] 91, blk w2.hz [jv 0] 3, blk w3.hz [jv 0] 3]) O call183 Y U (nF x.holder lv ps bh bl (fun H w h => h.arg hlv)) de (fun _ => O) ⟨sm, O⟩ ?_ ?_ ?_ ?_
 ·clear Y U
  rintro lp pre xs _ a w25 hnx ⟨hpq, rfl⟩ Y U
  generalize (join [blk w0.hz [jv x.signer, jv x.holder, jv x.rf, jv x.rt, jv x.carrier, jv x.serial, jv x.sf, jv x.st, sv x.sig] 90, blk w1.hz [lv] 91, blk w2.hz [jv 0] 3, blk w3.hz [jv 0] 3]).foot = M1 at U ⊢
  refine aa fun _ G21 => wla (Y.p11 68 67 0 6 7 10 11 63 64 65 66 O) O fun a Y => G21 ?_
  refine al <| wla (Y.p6 68 6 7 10 11 14 O) O fun a Y => ab ?_
  exact ⟨_, ⟨Y.pick [6, 7, 10, 11, 14, 15], hpq, O⟩, U⟩
 ·rintro lp pre xs _ a w26 hnx ⟨Y, hpq, rfl⟩ hout hrec hnl U
  clear hrec hnl
  generalize (join [blk w0.hz [jv x.signer, jv x.holder, jv x.rf, jv x.rt, jv x.carrier, jv x.serial, jv x.sf, jv x.st, sv x.sig] 90, blk w1.hz [lv] 91, blk w2.hz [jv 0] 3, blk w3.hz [jv 0] 3]).foot = M1 at U hout ⊢
  refine au <| aa fun _ G22 => nv Y <| yp O <| yo (v_ge O O) <| yp O <| fun a Y => ?_
  rcases Decidable.em (0 ≤ xs.1) with hb9 | hb9
  ·rw [yy hb9] at Y
   have hqlt := rm hnx
   refine nv Y <| yr (ld U 1 O O (isAgg91 _) O) <| yr (ay O) <| yr ((aj (i := xs.1) (sT := 91) (hlv.grow (hout _ U.ext)) O O (runUnderlying91 _) (sizeOf144 _) om Aw).as (v' := slAddr lv (xs.1.toNat * 7)) (by rw [show (xs.1).toNat = xs.1.toNat from by omega])) <| yr (cI (k := xs.1.toNat * 7) (j := 0) (hlv.grow (hout _ U.ext)) (i := xs.1.toNat) Aw O (fun _ _ => by kernel_rfl)) <| yr (aB (u := jv ((ps.getD xs.1.toNat Pxy.z).frm)) (i := xs.1.toNat) (j := 0) (hlv.grow (hout _ U.ext)) Aw O (isAgg3 _) Ba) <| yr (ay O) <| yr (v_ne O O) <| yo (ax O O) <| yp O <| fun a Y => ?_
   rcases (Decidable.em ((ps.getD xs.1.toNat Pxy.z).frm = xs.2)).symm with hb10 | hb10
   ·rw [yD hb10] at Y
    refine nv Y <| yt <| yt <| yt <| fun a Y => bX Y fun a Y => bX Y fun a Y => bX Y fun a Y => bX Y fun a Y => nv Y <| yt <| yo (ax O O) <| fun a Y => G22 ?_
    replace Y := Y.p4 10 11 14 89 O
    refine aG Y O ?_
    refine aa fun _ G23 => wlm Y O fun a Y => az 2 Y U [jv 4] O (sizeOf3 _) fun a w27 Y U => az 3 Y U [jv xs.1] O (sizeOf3 _) fun a w28 Y U => G23 <| aq ?_
    exact ⟨_, ⟨O, xs.1, lS hnx hpq (wS hb9 hb10), O⟩, U.select [0, 1, 2, 3] de⟩
   rw [yy hb10] at Y
   refine nv Y <| yr (ay O) <| yr ((v_lt O O).asb (b' := false) Bs) <| yr (ay O) <| yt <| yt <| yt <| yt <| yr (ak O O) <| yo (ak O O) <| fun a Y => G22 ?_
   replace Y := Y.p4 10 11 14 89 O
   refine aJ Y O ?_
   refine ar ?_
   exact ⟨_, ⟨ru hpq (wR hb9 hb10), O⟩, U.select [0, 1, 2, 3] de⟩
  rw [yD hb9] at Y
  have hqlt := rm hnx
  refine nv Y <| yt <| yt <| yt <| yt <| yt <| yt <| yt <| yo (ak O O) <| yp O <| yr (ay O) <| yr ((v_lt O O).asb (b' := true) (by exact yy om)) <| yr (ay O) <| yr (ac (v := pq w0.hz) O kr) <| yr (ld U 0 O O (isAgg3 _) O) <| yr (ay O) <| yr (v_ne O O) <| yr (ax O O) <| yo (ak O O) <| fun a Y => G22 ?_
  replace Y := Y.p4 10 11 14 89 O
  refine cG Y O (fun hc11 => ?_) (fun hc11 => ?_)
  ·refine aa fun _ G24 => wlm Y O fun a Y => az 2 Y U [jv 4] O (sizeOf3 _) fun a w29 Y U => az 3 Y U [jv xs.1] O (sizeOf3 _) fun a w30 Y U => G24 <| aq ?_
   exact ⟨_, ⟨O, xs.1, lS hnx hpq (ww om hc11), O⟩, U.select [0, 1, 2, 3] de⟩
  refine ar ?_
  exact ⟨_, ⟨ru hpq (vY om hc11), O⟩, U.select [0, 1, 2, 3] de⟩
 ·rintro D pre _ _ a w31 ⟨rfl, rfl⟩ ⟨hpq, rfl⟩ U Y
  replace Y := Y.p9 0 6 7 10 11 63 64 65 66 O
  replace U := U.n7 O
  refine G19 <| ah fun _ G25 => ?_
  have hch := sa hpq
  refine aa fun _ G26 => nv Y <| yo (ap (U.g 1 O) O (isAgg90 _) (sizeOf90 _)) <| yo (ld U 2 O O (isAgg91 _) O) <| fun a Y => aw Y U call148 O (ur x lv ps _ (U.arg hlv)) fun a w32 Y U => nv Y <| yp O <| yo (ao O O) <| yo (ao O O) <| yq O <| yq O <| fun a Y => G26 ?_
  replace Y := Y.p7 0 6 7 10 11 16 17 O
  refine aa fun _ G27 => wlm Y O fun a Y => G27 <| bC Y O (fun hc12 => ?_) (fun hc12 => ?_)
  ·refine aa fun _ G28 => wlm Y O fun a Y => az 3 Y U [jv 5] O (sizeOf3 _) fun a w33 Y U => az 4 Y U [jv ((scopeV x ps).1)] O (sizeOf3 _) fun a w34 Y U => G28 <| aq ?_
   have hD := U.g 0 rfl
   replace U := U.unmark (i := 0) (o' := .deferred none) O
   replace U := U.n6 O
   refine cx Y hD results103 (ai O (aK (U.g 2 O) (isAgg3 _)) (ai O (aK (U.g 3 O) (isAgg3 _)) ag)) ?_
   exact ⟨by rw [mz hwp hch (tb hc12)]; rfl, U.ext⟩
  refine ar <| G25 <| ah fun _ G29 => ?_
  have hsc : bE x none ps 0 = none := uC hc12
  refine aa fun _ G30 => nv Y <| yo (ld U 2 O O (isAgg91 _) O) <| yo ((aO (sT := 91) (U.arg hlv) O O (runUnderlying91 _)).asi (m' := (ps.length : Int)) AO) <| yp O <| fun a Y => G30 <| au <| aZ (fun m a w => ∃ (k : Nat), m = ps.length - k ∧ (k ≤ ps.length) ∧ (bQ ks x ps 0 = bQ ks x (ps.drop k) k) ∧ Fr 142 [(0, kv), (6, pq w0.hz), (10, pq w2.hz), (11, pq w3.hz), (99, lv), (100, jv (ps.length : Int)), (101, jv (k : Int))] [{ target := .collected D, args := #[] }] a ∧ St No w0 [obj D (.deferred (some [])), blk w0.hz [jv x.signer, jv x.holder, jv x.rf, jv x.rt, jv x.carrier, jv x.serial, jv x.sf, jv x.st, sv x.sig] 90, blk w1.hz [lv] 91, blk w2.hz [jv 0] 3, blk w3.hz [jv 0] 3, blk bh [jv x.holder] 3, blk bl [lv] 91] w) _ ⟨0, O, yQ _, O, Y.pick [0, 6, 10, 11, 99, 100, 101], U.select [0, 1, 2, 3, 4, 5, 6] de⟩ ?_
  rintro _ a w35 ⟨k, rfl, hk, hsb, Y, U⟩
  refine aa fun _ G31 => wlv Y (v_lt O O) fun a Y => G31 <| ah fun _ G32 => aA Y O (fun hc13 => ?_) (fun hc13 => ?_)
  ·have hkx : k < ps.length := by omega
   have hpk := dK hbn _ (bD (d := Pxy.z) hkx)
   have hp0 := Pxy.ok_frm hpk
   refine ar <| G32 <| ah fun _ G33 => au <| aa fun _ G34 => nv Y <| yp O <| yo ((aj (i := (k : Int)) (sT := 91) (U.arg hlv) O O (runUnderlying91 _) (sizeOf144 _) om Aw).as (v' := slAddr lv (k * 7)) O) <| yo ((bP (U.arg hlv) (i := k) Aw O (isAgg144 _) (sizeOf144 _)).as (v' := .agg #[jv ((ps.getD k Pxy.z).frm), jv ((ps.getD k Pxy.z).to), jv ((ps.getD k Pxy.z).rf), jv ((ps.getD k Pxy.z).rt), jv ((ps.getD k Pxy.z).sf), jv ((ps.getD k Pxy.z).st), sv ((ps.getD k Pxy.z).sig)]) Ba) <| fun a Y => aD Y U (zeroValue144 _) [jv 0, jv 0, jv 0, jv 0, jv 0, jv 0, .string (⟨#[]⟩)] O fun a w36 Y U => wla Y O fun a Y => az 0 Y U [jv ((ps.getD k Pxy.z).frm), jv ((ps.getD k Pxy.z).to), jv ((ps.getD k Pxy.z).rf), jv ((ps.getD k Pxy.z).rt), jv ((ps.getD k Pxy.z).sf), jv ((ps.getD k Pxy.z).st), sv ((ps.getD k Pxy.z).sig)] O (sizeOf144 _) fun a w37 Y U => G34 ?_
   replace Y := Y.p9 0 6 10 11 99 100 101 19 18 O
   refine ah fun _ G35 => aH (aI fun w38 hxz => ?_)
   replace U := U.grow hxz
   refine aR (k := 0) 4 [1, 3] Y ?_
   refine bL 4 (Y.p9 0 6 10 11 99 100 101 19 18 O) U <| pl_v (ac (v := pq w35.hz) O kr) <| pl_w (fun U => ld U 0 O O (isAgg3 _) O) <| pl_m O <| pl_w (fun U => (aO (sT := 44) (U.arg hkv) O O (runUnderlying44 _)).asi (m' := (ks.length : Int)) AO) fun a w39 Y U => ab <| aL (k := 4) 6 [5] ?_
   refine nv Y <| yo (v_ge O O) <| yp O <| fun a Y => ab ?_
   rcases Decidable.em ((ks.length : Int) ≤ (ps.getD k Pxy.z).frm) with hb14 | hb14
   ·rw [yy hb14] at Y
    refine dw (k := 6) 15 [7, 14] (Y.p15 0 6 10 11 99 100 101 19 18 106 107 108 109 110 111 O) fun a Y => ?_
    replace Y : Fr 142 [(112, undef), (113, undef), (114, undef), (115, undef), (116, undef), (117, undef), (118, undef), (119, undef), (120, undef), (0, kv), (6, pq w0.hz), (10, pq w2.hz), (11, pq w3.hz), (99, lv), (100, jv (ps.length : Int)), (101, jv (k : Int)), (19, pq w35.hz), (18, jv (k : Int)), (106, pq w35.hz), (107, jv ((ps.getD k Pxy.z).frm)), (108, kv), (109, jv (ks.length : Int)), (110, .bool true), (111, .bool true)] [{ target := .collected D, args := #[] }] a := Y
    refine aL (k := 15) 17 [16] ?_
    refine nv Y <| yt <| yo (ax O O) <| fun a Y => ab <| aS <| G35 ?_
    replace Y := Y.p9 0 6 10 11 99 100 101 18 122 O
    replace U := U.k7 254 O
    refine aG Y O ?_
    refine aa fun _ G36 => wlm Y O fun a Y => az 3 Y U [jv 6] O (sizeOf3 _) fun a w40 Y U => az 4 Y U [jv (k : Int)] O (sizeOf3 _) fun a w41 Y U => G36 <| aq ?_
    have hD := U.g 0 rfl
    replace U := U.unmark (i := 0) (o' := .deferred none) O
    replace U := U.n6 O
    refine cx Y hD results103 (ai O (aK (U.g 2 O) (isAgg3 _)) (ai O (aK (U.g 3 O) (isAgg3 _)) ag)) ?_
    exact ⟨by rw [go hwp hch hsc (by rw [hsb]; first | exact oP hkx hp0.1 om | exact ov hkx hp0.1 om hb14)]; rfl, U.ext⟩
   rw [yD hb14] at Y
   refine aR (k := 6) 15 [7, 14] Y ?_
   replace Y := Y.p15 0 6 10 11 99 100 101 19 18 106 107 108 109 110 111 O
   refine bL 9 Y U <| pl_v (ac (v := po w35.hz 6) O kr) <| pl_w (fun U => ld U 0 O O (isAgg9 _) O) <| pl_m O <| pl_v (ac (v := pq w35.hz) O kr) <| pl_w (fun U => ld U 0 O O (isAgg3 _) O) <| pl_w (fun U => (aj (i := (ps.getD k Pxy.z).frm) (sT := 44) (U.arg hkv) O O (runUnderlying44 _) (sizeOf9 _) om Aw).as (v' := slAddr kv (((ps.getD k Pxy.z).frm.toNat) * 1)) (by rw [show ((ps.getD k Pxy.z).frm).toNat = (ps.getD k Pxy.z).frm.toNat from by omega])) ?_
   refine pl_w (fun U => aB (u := sv (ks.getD ((ps.getD k Pxy.z).frm.toNat) [])) (i := ((ps.getD k Pxy.z).frm.toNat)) (j := 0) (U.arg hkv) Aw O (isAgg9 _) B7) <| pl_v (cb O O) ?_
   refine pl_r (fun U => br call86 O (ma (ks.getD ((ps.getD k Pxy.z).frm.toNat) []) (ps.getD k Pxy.z).content 149 w35.hz [jv ((ps.getD k Pxy.z).frm), jv ((ps.getD k Pxy.z).to), jv ((ps.getD k Pxy.z).rf), jv ((ps.getD k Pxy.z).rt), jv ((ps.getD k Pxy.z).sf), jv ((ps.getD k Pxy.z).st), sv ((ps.getD k Pxy.z).sig)] 144 _ call149 (fun b v ws h => vQ b w35.hz v (ps.getD k Pxy.z) ws (Pxy.smalls_of hpk) h) iY (by have := hk32 _ (bD (d := []) (by omega : ((ps.getD k Pxy.z).frm.toNat) < ks.length)); omega) (zl ((ps.getD k Pxy.z).content_len) de) (U.keepb hk0) (U.g 0 O) (oE U (i := 0) O hk0))) fun a w42 Y U => ?_
   replace Y := Y.p11 0 6 10 11 99 100 101 18 111 113 120 O
   refine ab <| aL (k := 15) 17 [16] ?_
   refine nv Y <| yr (nJ O O) <| yo (ak O O) <| fun a Y => ab <| aS <| G35 <| cG Y O (fun hc15 => ?_) (fun hc15 => ?_)
   ·refine aa fun _ G37 => wlm Y O fun a Y => az 4 Y U [jv 6] O (sizeOf3 _) fun a w43 Y U => az 5 Y U [jv (k : Int)] O (sizeOf3 _) fun a w44 Y U => G37 ?_
    replace Y := Y.p7 0 6 10 11 99 100 101 O
    replace U := U.k7 254 O
    refine aq ?_
    have hD := U.g 0 rfl
    replace U := U.unmark (i := 0) (o' := .deferred none) O
    replace U := U.n6 O
    refine cx Y hD results103 (ai O (aK (U.g 2 O) (isAgg3 _)) (ai O (aK (U.g 3 O) (isAgg3 _)) ag)) ?_
    exact ⟨by rw [go hwp hch hsc (by rw [hsb]; first | exact oP hkx hp0.1 om | exact ov hkx hp0.1 om hc15)]; rfl, U.ext⟩
   refine ar <| G33 <| al <| nv Y <| yo (aM O O ⟨om, om⟩) <| yp O <| fun a Y => ab ?_
   refine ⟨_, ?_, k + 1, O, om, (by rw [hsb]; exact r5 hkx hp0.1 om hc15), Y.pick [0, 6, 10, 11, 99, 100, 101], U.select [1, 2, 3, 4, 5, 6, 7] de⟩
   omega
  have hke : k = ps.length := by omega
  rw [hke, List.drop_length] at hsb
  refine aP <| G29 <| ah fun _ G38 => ah fun _ G39 => aH (aI fun w45 hxz => ?_)
  replace U := U.grow hxz
  refine aR (k := 0) 4 [1, 3] Y ?_
  refine bL 4 (Y.p7 0 6 10 11 99 100 101 O) U <| pl_v (ac (v := pq w0.hz) O kr) <| pl_w (fun U => ld U 1 O O (isAgg3 _) O) <| pl_m O <| pl_w (fun U => (aO (sT := 44) (U.arg hkv) O O (runUnderlying44 _)).asi (m' := (ks.length : Int)) AO) fun a w46 Y U => ?_
  replace Y := Y.p6 0 6 10 11 126 128 O
  refine ab <| aL (k := 4) 6 [5] ?_
  refine nv Y <| yo (v_ge O O) <| yp O <| fun a Y => ab ?_
  rcases Decidable.em ((ks.length : Int) ≤ x.signer) with hb16 | hb16
  ·rw [yy hb16] at Y
   refine dw (k := 6) 15 [7, 14] (Y.p8 0 6 10 11 126 128 129 130 O) fun a Y => ?_
   replace Y : Fr 142 [(131, undef), (132, undef), (133, undef), (134, undef), (135, undef), (136, undef), (137, undef), (138, undef), (139, undef), (0, kv), (6, pq w0.hz), (10, pq w2.hz), (11, pq w3.hz), (126, jv x.signer), (128, jv (ks.length : Int)), (129, .bool true), (130, .bool true)] [{ target := .collected D, args := #[] }] a := Y
   refine aL (k := 15) 17 [16] ?_
   refine nv Y <| yt <| yo (ax O O) <| fun a Y => ab <| aS <| G39 ?_
   replace Y := Y.p3 10 11 141 O
   refine aG Y O ?_
   refine aa fun _ G40 => az 3 Y U [jv 6] O (sizeOf3 _) fun a w47 Y U => az 4 Y U [jv (-1)] O (sizeOf3 _) fun a w48 Y U => G40 <| aq ?_
   have hD := U.g 0 rfl
   replace U := U.unmark (i := 0) (o' := .deferred none) O
   replace U := U.n6 O
   refine cx Y hD results103 (ai O (aK (U.g 2 O) (isAgg3 _)) (ai O (aK (U.g 3 O) (isAgg3 _)) ag)) ?_
   exact ⟨by rw [go hwp hch hsc (by rw [hsb]; first | exact mE (Wsh.ok_signer hxo).1 om | exact mN (Wsh.ok_signer hxo).1 om hb16)]; rfl, U.ext⟩
  rw [yD hb16] at Y
  refine aR (k := 6) 15 [7, 14] Y ?_
  replace Y := Y.p8 0 6 10 11 126 128 129 130 O
  refine bL 9 Y U <| pl_v (ac (v := po w0.hz 8) O kr) <| pl_w (fun U => ld U 1 O O (isAgg9 _) O) <| pl_m O <| pl_v (ac (v := pq w0.hz) O kr) <| pl_w (fun U => ld U 1 O O (isAgg3 _) O) <| pl_w (fun U => (aj (i := x.signer) (sT := 44) (U.arg hkv) O O (runUnderlying44 _) (sizeOf9 _) om Aw).as (v' := slAddr kv (x.signer.toNat * 1)) (by rw [show (x.signer).toNat = x.signer.toNat from by omega])) <| pl_w (fun U => aB (u := sv (ks.getD x.signer.toNat [])) (i := x.signer.toNat) (j := 0) (U.arg hkv) Aw O (isAgg9 _) B7) <| pl_v (cb O O) ?_
  refine pl_r (fun U => br call86 O (ma (ks.getD x.signer.toNat []) x.content 150 w0.hz [jv x.signer, jv x.holder, jv x.rf, jv x.rt, jv x.carrier, jv x.serial, jv x.sf, jv x.st, sv x.sig] 90 _ call150 (fun b v ws h => wl b w0.hz v x ws (Wsh.smalls_of hxo) h) iY (by have := hk32 _ (bD (d := []) (by omega : x.signer.toNat < ks.length)); omega) (zl (x.content_len) de) (U.keepb hk0) (U.g 1 O) (oE U (i := 1) O hk0))) fun a w49 Y U => ?_
  replace Y := Y.p5 10 11 130 132 139 O
  refine ab <| aL (k := 15) 17 [16] ?_
  refine nv Y <| yr (nJ O O) <| yo (ak O O) <| fun a Y => ab <| aS <| G39 <| cG Y O (fun hc17 => ?_) (fun hc17 => ?_)
  ·refine aa fun _ G41 => az 3 Y U [jv 6] O (sizeOf3 _) fun a w50 Y U => az 4 Y U [jv (-1)] O (sizeOf3 _) fun a w51 Y U => G41 <| aq ?_
   have hD := U.g 0 rfl
   replace U := U.unmark (i := 0) (o' := .deferred none) O
   replace U := U.n6 O
   refine cx Y hD results103 (ai O (aK (U.g 2 O) (isAgg3 _)) (ai O (aK (U.g 3 O) (isAgg3 _)) ag)) ?_
   exact ⟨by rw [go hwp hch hsc (by rw [hsb]; first | exact mE (Wsh.ok_signer hxo).1 om | exact mN (Wsh.ok_signer hxo).1 om hc17)]; rfl, U.ext⟩
  refine ar <| G38 <| aa fun _ G42 => az 3 Y U [jv 0] O (sizeOf3 _) fun a w52 Y U => az 4 Y U [jv (-1)] O (sizeOf3 _) fun a w53 Y U => G42 <| aq ?_
  have hD := U.g 0 rfl
  replace U := U.unmark (i := 0) (o' := .deferred none) O
  replace U := U.n6 O
  refine cx Y hD results103 (ai O (aK (U.g 2 O) (isAgg3 _)) (ai O (aK (U.g 3 O) (isAgg3 _)) ag)) ?_
  exact ⟨by rw [kx hwp hch hsc (by rw [hsb]; exact sb (Wsh.ok_signer hxo).1 om hc17)]; rfl, U.ext⟩
 ·rintro D _ pre _ _ a w54 rfl ⟨rfl, i, hci, rfl⟩ U Y
  replace Y := Y.p9 0 6 7 10 11 63 64 65 66 O
  replace U := U.n7 O
  refine aq ?_
  have hD := U.g 0 rfl
  replace U := U.unmark (i := 0) (o' := .deferred none) O
  replace U := U.n6 O
  refine cx Y hD results103 (ai O (aK (U.g 2 O) (isAgg3 _)) (ai O (aK (U.g 3 O) (isAgg3 _)) ag)) ?_
  exact ⟨by rw [mw hwp hci]; rfl, U.ext⟩
end Go.Proofs.YtliklcmddmpdfaaGreatDoor
namespace Go.Proofs.YtliklcmddmpdfaaGreatDoor
open Go.RowKit Go.PW _root_.Go.Proofs.Tryz
theorem vj (kv lv : Value) (ks : List By) (x : Wsh) (ps : List Pxy) (number t : Int) (w0 : World) (hkv : SlAt w0 kv 1 (ks.map fun s => [sv s])) (hlv : SlAt w0 lv 7 (ps.map Pxy.cells)) (hk0 : (blk 0 (kOf.map wv) 258).ok w0) :
  Ret Tryz.prog 40 #[kv, .agg #[jv x.signer, jv x.holder, jv x.rf, jv x.rt, jv x.carrier, jv x.serial, jv x.sf, jv x.st, sv x.sig], lv, jv number, jv t] w0 fun v w => v = .bool (validH ks x ps number t) ∧ Ext No w0 w := by
 refine Aq func40 O ntmps40 (lb O) fun a Y U => aa fun _ G1 => aV Y U O [jv x.signer, jv x.holder, jv x.rf, jv x.rt, jv x.carrier, jv x.serial, jv x.sf, jv x.st, sv x.sig] O fun a w1 Y U => wla Y O fun a Y => G1 <| aa fun _ G2 => nv Y <| yp O <| yo (ap (U.g 0 O) O (isAgg90 _) (sizeOf90 _)) <| yp O <| yp O <| yp O <| fun a Y => aw Y U call103 O (xV kv lv ks x ps number t _ (U.arg hkv) (U.arg hlv) (U.keepb hk0)) fun a w2 Y U => nv Y <| yp O <| yo (ao O O) <| yo (ao O O) <| yq O <| yq O <| fun a Y => G2 ?_
 replace U := U.k0 0 O
 refine aa fun _ G3 => nv (Y.p2 10 11 O) <| yp O <| yo (v_eq O O) <| yq O <| fun a Y => G3 <| aq <| am Y results40 (ae O ag) ?_
 exact ⟨by rfl, U.ext⟩
theorem pb {x : Wsh} {lv : Value} {ps : List Pxy} {w0 : World} (hlv : SlAt w0 lv 7 (ps.map Pxy.cells)) : Ret Tryz.prog 90 #[.agg #[jv x.signer, jv x.holder, jv x.rf, jv x.rt, jv x.carrier, jv x.serial, jv x.sf, jv x.st, sv x.sig], lv] w0 fun v w => v = .bool (bV x ps) ∧ Ext No w0 w := by
 have := si x lv ps w0 hlv
 rwa [pA] at this
theorem jg : ∀ {l : List Pxy}, (∀ p ∈ l, p.sig.length = 32) → (l.flatMap Pxy.text).length ≤ 1000 * l.length
 | [], h => by simp
 | p :: l, h => by
  have h1 := h p sm
  have h2 := jg (l := l) (fun q hq => h q Bk)
  have h3 : p.content.length ≤ 9 * 7 := dT _
  rw [zd, yx, Pxy.text, yx, yG]
  omega
theorem gR {x : Wsh} {ps : List Pxy} (h : bV x ps = true) : ps.length ≤ 4 := by
 simp only [bV, yw, yB] at h; exact h.1.2
theorem gY {x : Wsh} {ps : List Pxy} (h : bV x ps = true) : x.ok = true := by
 simp only [bV, yw, yB] at h; exact h.1.1
theorem kI {x : Wsh} {ps : List Pxy} (h : bV x ps = true) : ∀ p ∈ ps, p.ok = true := by
 simp only [bV, yw, yB, Option.isNone_iff_eq_none] at h; exact dK h.2
theorem vF {ps : List Pxy} (h : (ps.any fun p => !decide ((p.sig.length : Int) = 32)) = false) : ∀ p ∈ ps, p.sig.length = 32 := by
 intro p hp
 have := zF.1 h p hp
 simp only [zh, Ag, yX, Classical.not_not] at this
 omega
theorem rZ {ps : List Pxy} (h : (ps.any fun p => !decide ((p.sig.length : Int) = 32)) = true) : ¬ ∀ p ∈ ps, p.sig.length = 32 := by
 intro hh
 obtain ⟨p, hp, h⟩ := zp.1 h
 simp [hh p hp] at h
theorem gc {x : Wsh} {ps : List Pxy} (h : bV x ps = false ∨ ¬ (x.sig.length : Int) = 32 ∨ (ps.any fun p => !decide ((p.sig.length : Int) = 32)) = true) : ch x ps = none := by
 cases he : ch x ps with
 | none => rfl
 | some s =>
  obtain ⟨h1, h2, h3, _⟩ := cQ.1 he
  rcases h with h | h | h
  ·rw [h1] at h; cases h
  ·omega
  ·exact absurd h3 (rZ h)
def encX (ps : List Pxy) (k : Nat) : By := puts [(ps.length : Int)] ++ (ps.take k).flatMap Pxy.text
theorem mT {ps : List Pxy} {k : Nat} (h : k < ps.length) : encX ps (k + 1) = encX ps k ++ (ps.getD k Pxy.z).content ++ (ps.getD k Pxy.z).sig := by
 unfold encX
 rw [cF Pxy.z h, List.flatMap_append]
 simp [Pxy.text, za]
theorem ip {ps : List Pxy} {k : Nat} (h4 : ps.length ≤ 4) (h : ∀ p ∈ ps, p.sig.length = 32) : (encX ps k).length ≤ 10000 := by
 unfold encX
 have h1 := dT [(ps.length : Int)]
 have h2 := jg (l := ps.take k) (fun p hp => h p (zB hp))
 rw [yx]
 rw [yC] at h2
 simp only [yG, yJ] at h1
 omega
theorem uR {x : Wsh} {ps : List Pxy} : encX ps ps.length ++ x.content ++ x.sig = putI (ps.length : Int) ++ (ps.flatMap Pxy.text ++ x.text) := by
 unfold encX Wsh.text; simp [puts, za]
theorem qP {x : Wsh} {ps : List Pxy} (h1 : bV x ps = true) (h2 : x.sig.length = 32) (h3 : ∀ p ∈ ps, p.sig.length = 32) : ch x ps = some (encX ps ps.length ++ x.content ++ x.sig) :=
 cQ.2 ⟨h1, h2, h3, uR⟩
theorem wF {ps : List Pxy} {k : Nat} {a b : By} : encX ps k ++ a ++ b ≠ [] := by
 intro h
 unfold encX at h
 simp only [List.append_eq_nil_iff] at h
 exact iY h.1.1.1
theorem fu (x : Pxy) : x.content.length ≤ 63 := dT _
theorem fj (x : Wsh) : x.content.length ≤ 81 := dT _
theorem sS (x : Wsh) (lv : Value) (ps : List Pxy) (w0 : World) (hlv : SlAt w0 lv 7 (ps.map Pxy.cells)) :
  Ret Tryz.prog 35 #[.agg #[jv x.signer, jv x.holder, jv x.rf, jv x.rt, jv x.carrier, jv x.serial, jv x.sf, jv x.st, sv x.sig], lv] w0 fun v w => v = (match ch x ps with | some s => .tuple #[sv s, jv 0] | none => .tuple #[sv [], jv 150]) ∧ Ext No w0 w := by
 have hxb := hlv.2.1
 simp only [yu, big] at hxb
 refine Am func35 O ntmps35 (lb O) fun a Y U => aa fun _ G1 => aV Y U O [jv x.signer, jv x.holder, jv x.rf, jv x.rt, jv x.carrier, jv x.serial, jv x.sf, jv x.st, sv x.sig] O fun a w1 Y U => nv Y <| yq O <| yq O <| fun a Y => G1 <| aa fun _ G2 => wla Y O fun a Y => G2 <| ah fun _ G3 => aa fun _ G4 => nv Y <| yo (ap (U.g 0 O) O (isAgg90 _) (sizeOf90 _)) <| yp O <| fun a Y => aw Y U call90 O (pb (U.arg hlv)) fun a w2 Y U => nv Y <| yo (bB O) <| yp O <| fun a Y => ?_
 rcases yz (!(bV x ps)) with hb1 | hb1
 ·rw [hb1] at Y
  try simp only [qz] at hb1
  refine nv Y <| yt <| yt <| yt <| yt <| yo (ax O O) <| yp O <| yt <| yt <| yt <| yo (ax O O) <| fun a Y => G4 ?_
  replace Y := Y.p5 1 2 4 5 24 O
  refine aG Y O ?_
  refine aa fun _ G5 => nv Y <| yq O <| yq O <| fun a Y => G5 <| aq <| am Y results35 (ae O (ae O ag)) ?_
  exact ⟨by simp only [retv]; rw [gc (.inl hb1)]; rfl, U.ext⟩
 rw [hb1] at Y
 try simp only [qz] at hb1
 refine nv Y <| yr (ac (v := po w0.hz 8) O kr) <| yr (ld U 0 O O (isAgg9 _) O) <| yr (bd O O (runUnderlying9 _)) <| yr (v_ne O O) <| yo (ak O O) <| yp O <| fun a Y => ?_
 rcases (Decidable.em ((x.sig.length : Int) = 32)).symm with hb2 | hb2
 ·rw [yD hb2] at Y
  refine nv Y <| yt <| yt <| yt <| yo (ax O O) <| fun a Y => G4 ?_
  replace Y := Y.p5 1 2 4 5 24 O
  refine aG Y O ?_
  refine aa fun _ G6 => nv Y <| yq O <| yq O <| fun a Y => G6 <| aq <| am Y results35 (ae O (ae O ag)) ?_
  exact ⟨by simp only [retv]; rw [gc (.inr (.inl hb2))]; rfl, U.ext⟩
 rw [yy hb2] at Y
 refine nv Y <| yr (ay O) <| yr (ay O) <| fun a Y => aF Y U call91 O (vI (fun p => !decide ((p.sig.length : Int) = 32)) _ call89 (U.arg hlv) (fun x w _ => vX x w)) fun a w3 Y U => wlv Y (ak O O) fun a Y => G4 ?_
 replace Y := Y.p5 1 2 4 5 24 O
 refine bC Y O (fun hc3 => ?_) (fun hc3 => ?_)
 ·try simp only [qz] at hc3
  refine aa fun _ G7 => nv Y <| yq O <| yq O <| fun a Y => G7 <| aq <| am Y results35 (ae O (ae O ag)) ?_
  exact ⟨by simp only [retv]; rw [gc (.inr (.inr hc3))]; rfl, U.ext⟩
 try simp only [qz] at hc3
 refine ar <| G3 ?_
 have hfo := hb1
 have hsx : x.sig.length = 32 := by omega
 have hop := vF hc3
 have h4 := gR hfo
 have hxo := gY hfo
 refine aa fun _ G8 => aD Y U (zeroValue162 _) [.pointer none, .slice none 0 0] O fun a w4 Y U => G8 ?_
 replace U : St No w0 (own (.slice none 0 0) 5 1 [] :: [blk w3.hz [.pointer none, .slice none 0 0] 162, blk w0.hz [jv x.signer, jv x.holder, jv x.rf, jv x.rt, jv x.carrier, jv x.serial, jv x.sf, jv x.st, sv x.sig] 90]) w4 := U.nil_own
 replace U := U.s3 [1, 0, 2] de rfl
 replace U : St No w0 [bld 162 w3.hz (.pointer none) (.slice none 0 0) ([] : By), blk w0.hz [jv x.signer, jv x.holder, jv x.rf, jv x.rt, jv x.carrier, jv x.serial, jv x.sf, jv x.st, sv x.sig] 90] w4 := St.join [blk w3.hz [.pointer none, .slice none 0 0] 162, own (.slice none 0 0) 5 1 ([])] [blk w0.hz [jv x.signer, jv x.holder, jv x.rf, jv x.rt, jv x.carrier, jv x.serial, jv x.sf, jv x.st, sv x.sig] 90] U
 refine aa fun _ G9 => nv Y <| yp O <| yo ((aO (sT := 91) (U.arg hlv) O O (runUnderlying91 _)).asi (m' := (ps.length : Int)) AO) <| fun a Y => aE (E := 3) (sz := 1) O [[jv (ps.length : Int)]] kr sm O de de Y U fun a w5 Y U => ?_
 replace U := U.s3 [1, 0, 2] de rfl
 replace U := St.join [bld 162 w3.hz (.pointer none) (.slice none 0 0) ([] : By), own (.slice (some ⟨w4.hz, 0, none⟩) 1 1) 3 1 ([[jv (ps.length : Int)]])] [blk w0.hz [jv x.signer, jv x.holder, jv x.rf, jv x.rt, jv x.carrier, jv x.serial, jv x.sf, jv x.st, sv x.sig] 90] U
 refine bc (R := fun u e' => u = .tuple #[] ∧ ∃ v2, e' = bld 162 w3.hz (pq w3.hz) v2 (puts [(ps.length : Int)])) 0 Y U O de call92 O (fun h => (hO 162 w3.hz _ _ _ [] [(ps.length : Int)] _ kr (.inl O) (fun z hz => by rw [yT.1 hz]; unfold small; omega) sm sm (St.unjoin [bld 162 w3.hz (.pointer none) (.slice none 0 0) ([] : By), own (.slice (some ⟨w4.hz, 0, none⟩) 1 1) 3 1 ([[jv (ps.length : Int)]])] [] h)).mono fun u w ⟨h1, v2, h2⟩ => ⟨_, ⟨h1, v2, O⟩, h2⟩) ?_
 clear Y U
 rintro a w6 _ _ ⟨rfl, v4, rfl⟩ Y U
 replace U : St No w0 [bld 162 w3.hz (pq w3.hz) v4 (encX ps 0), blk w0.hz [jv x.signer, jv x.holder, jv x.rf, jv x.rt, jv x.carrier, jv x.serial, jv x.sf, jv x.st, sv x.sig] 90] w6 := by rw [show encX ps 0 = puts [(ps.length : Int)] from by unfold encX; simp]; exact U
 refine G9 <| ah fun _ G10 => aa fun _ G11 => nv Y <| yp O <| yo ((aO (sT := 91) (U.arg hlv) O O (runUnderlying91 _)).asi (m' := (ps.length : Int)) AO) <| yp O <| fun a Y => G11 ?_
 replace Y := Y.p7 2 4 5 7 29 30 31 O
 refine au <| aZ (fun m a w => ∃ (k : Nat) (v : Value), m = ps.length - k ∧ (k ≤ ps.length) ∧ Fr 50 [(2, pq w0.hz), (4, sv ([])), (5, jv 0), (7, pq w3.hz), (29, lv), (30, jv (ps.length : Int)), (31, jv (k : Int))] [] a ∧ St No w0 [bld 162 w3.hz (pq w3.hz) v (encX ps k), blk w0.hz [jv x.signer, jv x.holder, jv x.rf, jv x.rt, jv x.carrier, jv x.serial, jv x.sf, jv x.st, sv x.sig] 90] w) _ ⟨0, v4, O, yQ _, Y.pick [2, 4, 5, 7, 29, 30, 31], U.select [0, 1] de⟩ ?_
 rintro _ a w7 ⟨k, v, rfl, hk, Y, U⟩
 refine aa fun _ G12 => wlv Y (v_lt O O) fun a Y => G12 <| ah fun _ G13 => aA Y O (fun hc5 => ?_) (fun hc5 => ?_)
 ·have hkx : k < ps.length := by omega
  have hpk := kI hfo _ (bD (d := Pxy.z) hkx)
  have hsk := hop _ (bD (d := Pxy.z) hkx)
  refine ar <| G13 <| ah fun _ G14 => au <| aa fun _ G15 => nv Y <| yo ((aj (i := (k : Int)) (sT := 91) (U.arg hlv) O O (runUnderlying91 _) (sizeOf144 _) om Aw).as (v' := slAddr lv (k * 7)) O) <| yo ((bP (U.arg hlv) (i := k) Aw O (isAgg144 _) (sizeOf144 _)).as (v' := .agg #[jv ((ps.getD k Pxy.z).frm), jv ((ps.getD k Pxy.z).to), jv ((ps.getD k Pxy.z).rf), jv ((ps.getD k Pxy.z).rt), jv ((ps.getD k Pxy.z).sf), jv ((ps.getD k Pxy.z).st), sv ((ps.getD k Pxy.z).sig)]) Ba) <| fun a Y => aD Y U (zeroValue144 _) [jv 0, jv 0, jv 0, jv 0, jv 0, jv 0, .string (⟨#[]⟩)] O fun a w8 Y U => az 0 Y U [jv ((ps.getD k Pxy.z).frm), jv ((ps.getD k Pxy.z).to), jv ((ps.getD k Pxy.z).rf), jv ((ps.getD k Pxy.z).rt), jv ((ps.getD k Pxy.z).sf), jv ((ps.getD k Pxy.z).st), sv ((ps.getD k Pxy.z).sig)] O (sizeOf144 _) fun a w9 Y U => G15 <| aa fun _ G16 => wlv Y (ap (U.g 0 O) O (isAgg144 _) (sizeOf144 _)) fun a Y => bc (R := fun u e' => u = .tuple #[] ∧ ∃ v2, e' = bld 162 w3.hz (pq w3.hz) v2 ((encX ps k) ++ (ps.getD k Pxy.z).content)) 1 Y U O de call93 O (fun h => (jd 162 w3.hz _ _ _ (ps.getD k Pxy.z) _ kr (.inr O) (Pxy.smalls_of hpk) (by have := ip (k := k) h4 hop; omega) h).mono fun u w ⟨h1, v2, h2⟩ => ⟨_, ⟨h1, v2, O⟩, h2⟩) ?_
  clear Y U
  rintro a w10 _ _ ⟨rfl, v6, rfl⟩ Y U
  try dsimp only at U
  replace U := U.n3 O
  refine G16 <| al <| nv Y <| yo (ac (v := pq w3.hz) O kr) <| yo (ac (v := po w7.hz 6) O kr) <| yo (ld U 0 O O (isAgg9 _) O) <| fun a Y => bc (R := fun u e' => u = .tuple #[jv (((ps.getD k Pxy.z).sig).length : Int), .nilIface] ∧ ∃ v2, e' = bld 162 w3.hz (pq w3.hz) v2 (((encX ps k) ++ (ps.getD k Pxy.z).content) ++ ((ps.getD k Pxy.z).sig))) 1 Y U O de call94 O (fun h => (gp 162 w3.hz _ _ _ ((ps.getD k Pxy.z).sig) _ kr (.inr O) (by intro h; have h9 := yZ List.length h; rw [yJ] at h9; omega) (by have h7 := ip (k := k) h4 hop; have h8 := fu (ps.getD k Pxy.z); rw [yx]; omega) h).mono fun u w ⟨h1, v2, h2⟩ => ⟨_, ⟨h1, v2, O⟩, h2⟩) ?_
  clear Y U
  rintro a w11 _ _ ⟨rfl, v7, rfl⟩ Y U
  try dsimp only at U
  replace U := U.n3 O
  refine ab <| G14 ?_
  replace U := U.k2 6 O
  refine al <| nv (Y.p7 2 4 5 7 29 30 31 O) <| yo (aM O O ⟨om, om⟩) <| yp O <| fun a Y => ab ?_
  replace U : St No w0 [bld 162 w3.hz (pq w3.hz) v7 (encX ps (k + 1)), blk w0.hz [jv x.signer, jv x.holder, jv x.rf, jv x.rt, jv x.carrier, jv x.serial, jv x.sf, jv x.st, sv x.sig] 90] w11 := by rw [mT hkx]; exact U
  refine ⟨_, ?_, k + 1, v7, O, om, Y.pick [2, 4, 5, 7, 29, 30, 31], U.select [0, 1] de⟩
  omega
 have hke : k = ps.length := by omega
 subst hke
 refine aP <| G10 <| aa fun _ G17 => wlv Y (ap (U.g 1 O) O (isAgg90 _) (sizeOf90 _)) fun a Y => bc (R := fun u e' => u = .tuple #[] ∧ ∃ v2, e' = bld 162 w3.hz (pq w3.hz) v2 ((encX ps ps.length) ++ x.content)) 0 Y U O de call88 O (fun h => (kA 162 w3.hz _ _ _ x _ kr (.inr O) (Wsh.smalls_of hxo) (by have := ip (k := ps.length) h4 hop; omega) h).mono fun u w ⟨h1, v2, h2⟩ => ⟨_, ⟨h1, v2, O⟩, h2⟩) ?_
 clear Y U
 rintro a w12 _ _ ⟨rfl, v8, rfl⟩ Y U
 try dsimp only at U
 replace U := U.n2 O
 refine G17 <| aa fun _ G18 => nv (Y.p4 2 4 5 7 O) <| yo (ac (v := pq w3.hz) O kr) <| yo (ac (v := po w0.hz 8) O kr) <| yo (ld U 1 O O (isAgg9 _) O) <| fun a Y => bc (R := fun u e' => u = .tuple #[jv (x.sig.length : Int), .nilIface] ∧ ∃ v2, e' = bld 162 w3.hz (pq w3.hz) v2 (((encX ps ps.length) ++ x.content) ++ x.sig)) 0 Y U O de call94 O (fun h => (gp 162 w3.hz _ _ _ x.sig _ kr (.inr O) (by intro h; have h9 := yZ List.length h; rw [yJ] at h9; omega) (by have h7 := ip (k := ps.length) h4 hop; have h8 := fj x; rw [yx]; omega) h).mono fun u w ⟨h1, v2, h2⟩ => ⟨_, ⟨h1, v2, O⟩, h2⟩) ?_
 clear Y U
 rintro a w13 _ _ ⟨rfl, v9, rfl⟩ Y U
 try dsimp only at U
 replace U := U.n2 O
 refine G18 <| aa fun _ G19 => wlv Y (ac (v := pq w3.hz) O kr) fun a Y => bc (R := fun u e' => u = sv (((encX ps ps.length) ++ x.content) ++ x.sig) ∧ e' = blk w3.hz [pq w3.hz, v9] 162) 0 Y U O de call95 O (fun h => (hT 162 w3.hz _ _ _ wF h).mono fun u w ⟨h1, h2⟩ => ⟨_, ⟨h1, O⟩, h2⟩) ?_
 clear Y U
 rintro a w14 _ _ ⟨rfl, rfl⟩ Y U
 try dsimp only at U
 replace U := U.n2 O
 refine nv Y <| yq O <| yq O <| fun a Y => G19 ?_
 replace Y := Y.p2 4 5 O
 refine aq <| am Y results35 (ae O (ae O ag)) ?_
 exact ⟨by simp only [retv]; rw [qP hfo hsx hop]; try rfl, U.ext⟩
theorem p128 (i : Nat) : (128 : Nat) ^ i = 2 ^ (7 * i) := by rw [Nat.pow_mul]
theorem v_ixz {P : Program} {w : World} {L : List (Nat × Value)} {dst : Option Tmp} {T T' ty : TypeId} {pos : String} {af : Array Edge} {gd : Option (Nat × Bool)} {x y : Operand} {z : Nat} (hz : z < 9223372036854775808)
  (hx : ev L x = some (jv ((z / 2 : Nat) : Int))) (hy : ev L y = some (jv (-((z % 2 : Nat) : Int)))) : OpV P ⟨dst, .binOp .xor T x y T', ty, pos, af, gd⟩ L w (jv (uz z)) := by
 have h := xK (P := P) (w := w) (dst := dst) (T := T) (T' := T') (ty := ty) (pos := pos) (af := af) (gd := gd) (n := ((z / 2 : Nat) : Int)) (decide (z % 2 = 1)) om om hx (hy.trans (by
  congr 2
  by_cases h : z % 2 = 1
  ·rw [yy h, h]; rfl
  ·rw [yD h, show z % 2 = 0 from by omega]; rfl))
 refine h.as ?_
 congr 1
 unfold uz
 by_cases h : z % 2 = 1
 ·rw [yy h, yR rfl, yO om]
 ·rw [yD h, yO de, yR om]
theorem xU {f i z : Nat} : wI f i z [] = none := by cases f <;> rfl
theorem j7 {s : By} {p : Nat} (h : p < s.length) : s.drop p = s.getD p 0 :: s.drop (p + 1) := by
 rw [zm h, yA, yF h]; rfl
theorem xi {s : By} {p i z : Nat} (hi : i < 9) (hp : p + i < s.length) (hb : 128 ≤ (s.getD (p + i) 0).toNat) :
  wI (9 - i) i z (s.drop (p + i)) = wI (9 - (i + 1)) (i + 1) (z + (s.getD (p + i) 0).toNat % 128 * 2 ^ (7 * i)) (s.drop (p + (i + 1))) := by
 rw [j7 hp, show 9 - i = (9 - (i + 1)) + 1 from by omega, wI, yO om, p128]; rfl
theorem qE {s : By} {p i z : Nat} (hi : i < 9) (hp : p + i < s.length) (hb : (s.getD (p + i) 0).toNat < 128) (h : ((s.getD (p + i) 0).toNat = 0 ∧ 0 < i) ∨ uz (z + (s.getD (p + i) 0).toNat % 128 * 2 ^ (7 * i)) < -4611686018427387903) :
  wI (9 - i) i z (s.drop (p + i)) = none := by
 rw [j7 hp, show 9 - i = (9 - (i + 1)) + 1 from by omega, wI, yR hb, p128, yR]
 exact h.imp_left fun ⟨h1, h2⟩ => ⟨UInt8.toNat_inj.1 (by rw [h1]; rfl), h2⟩
theorem rh {s : By} {p i z : Nat} (hi : i < 9) (hp : p + i < s.length) (hb : (s.getD (p + i) 0).toNat < 128) (h : ¬ ((s.getD (p + i) 0).toNat = 0 ∧ 0 < i)) (h2 : ¬ uz (z + (s.getD (p + i) 0).toNat % 128 * 2 ^ (7 * i)) < -4611686018427387903) :
  wI (9 - i) i z (s.drop (p + i)) = some (uz (z + (s.getD (p + i) 0).toNat % 128 * 2 ^ (7 * i)), i + 1) := by
 rw [j7 hp, show 9 - i = (9 - (i + 1)) + 1 from by omega, wI, yR hb, p128, yO]
 rintro (⟨h3, h4⟩ | h3)
 ·exact h ⟨by rw [h3]; rfl, h4⟩
 ·exact h2 h3
theorem tE {z i b : Nat} (hz : z < 2 ^ (7 * i)) (hb : b < 128) : z + b * 2 ^ (7 * i) < 2 ^ (7 * (i + 1)) := by
 have e : 2 ^ (7 * (i + 1)) = 128 * 2 ^ (7 * i) := by rw [Nat.mul_add, Nat.pow_add, Nat.mul_comm]
 rw [e]
 have : (b + 1) * 2 ^ (7 * i) ≤ 128 * 2 ^ (7 * i) := Nat.mul_le_mul_right _ om
 rw [Nat.add_mul] at this
 omega
theorem z_63 {z i : Nat} (hi : i < 9) (hz : z < 2 ^ (7 * (i + 1))) : z < 9223372036854775808 := by
 have : (2 : Nat) ^ (7 * (i + 1)) ≤ 2 ^ 63 := Nat.pow_le_pow_right de om
 omega
def intV (s : By) (p : Nat) : Value := match rdI (s.drop p) with
 | some (n, r) => .tuple #[jv n, jv ((s.length - r.length : Nat) : Int), jv 0]
 | none => .tuple #[jv 0, jv 0, jv 10]
theorem gr {s : By} {p : Nat} (h : wI 9 0 0 (s.drop p) = none) : intV s p = .tuple #[jv 0, jv 0, jv 10] := by
 rw [vA] at h
 unfold intV
 cases hr : rdI (s.drop p) with
 | none => rfl
 | some x => rw [hr] at h; cases h
theorem nS {s : By} {p k : Nat} {n : Int} (hp : p ≤ s.length) (h : wI 9 0 0 (s.drop p) = some (n, k)) : intV s p = .tuple #[jv n, jv ((p + k : Nat) : Int), jv 0] := by
 rw [vA] at h
 unfold intV
 cases hr : rdI (s.drop p) with
 | none => rw [hr] at h; cases h
 | some x =>
  obtain ⟨n2, r⟩ := x
  rw [hr] at h
  simp only [Option.map_some, Option.some.injEq, Prod.mk.injEq] at h
  obtain ⟨rfl, rfl⟩ := h
  obtain ⟨_, h2⟩ := eh hr
  have h3 := yZ List.length h2
  rw [yV, yx] at h3
  have h4 := (bW n2).1
  simp only
  rw [yV, show p + (s.length - p - r.length) = s.length - r.length from by omega]
theorem iF (s : By) (p : Nat) (w0 : World) (hp : p ≤ s.length) (hsl : s.length ≤ 1000000) :
  Ret Tryz.prog 63 #[sv s, jv (p : Int)] w0 fun v w => v = intV s p ∧ Ext No w0 w := by
 refine Am func63 O ntmps63 (lb O) fun a Y U => aa fun _ G1 => nv Y <| yq O <| yq O <| yq O <| fun a Y => G1 <| ah fun _ G2 => aa fun _ G3 => nv Y <| yp O <| yo ((v_lt O O).asb (b' := false) Bs) <| yp O <| yr (ay O) <| yr (ay O) <| yr (bd O O (runUnderlying9 _)) <| yr ((v_gt O O).asb (b' := false) Bs) <| yo (ak O O) <| fun a Y => G3 ?_
 replace Y := Y.p6 0 1 4 5 6 18 O
 refine aJ Y O ?_
 refine ar <| G2 <| aa fun _ G4 => wla Y O fun a Y => G4 <| ah fun _ G5 => aa fun _ G6 => wlm Y O fun a Y => G6 <| au <| aZ (fun m a w => ∃ (i : Nat) (z : Nat), m = 9 - i ∧ (i ≤ 9) ∧ (wI 9 0 0 (s.drop p) = wI (9 - i) i z (s.drop (p + i))) ∧ (z < 2 ^ (7 * i)) ∧ Fr 67 [(0, sv s), (1, jv (p : Int)), (7, .int .u64 (z : Int)), (19, jv (i : Int))] [] a ∧ St No w0 [] w) _ ⟨0, 0, O, de, O, de, Y.pick [0, 1, 7, 19], U.select [] de⟩ ?_
 rintro _ a w1 ⟨i, z, rfl, hi, hw, hz, Y, U⟩
 refine aa fun _ G7 => wlv Y (v_lt O O) fun a Y => G7 <| ah fun _ G8 => aA Y O (fun hc1 => ?_) (fun hc1 => ?_)
 ·refine ar <| G8 <| ah fun _ G9 => au <| aa fun _ G10 => nv Y <| yp O <| yq O <| fun a Y => G10 <| ah fun _ G11 => aa fun _ G12 => nv Y <| yp O <| yp O <| yo (aM O O ⟨om, om⟩) <| yp O <| yo (bd O O (runUnderlying9 _)) <| yo (v_ge O O) <| fun a Y => G12 ?_
  replace Y := Y.p6 0 1 7 19 8 27 O
  refine aA Y O (fun hc2 => ?_) (fun hc2 => ?_)
  ·have hwn : wI 9 0 0 (s.drop p) = none := by rw [hw, List.drop_eq_nil_of_le om]; exact xU
   refine aP <| G5 <| aa fun _ G13 => nv Y <| yq O <| yq O <| yq O <| fun a Y => G13 ?_
   replace Y := Y.p3 4 5 6 O
   refine aq <| am Y results63 (ae O (ae O (ae O ag))) ?_
   exact ⟨(gr hwn).symm, U.ext⟩
  have hpi : p + i < s.length := by omega
  have hm8 : (s.getD (p + i) 0).toNat % 128 < 128 := Nat.mod_lt _ de
  have hzl := tE hz hm8
  have hz6 := z_63 (i := i) om hzl
  refine ar <| G11 <| aa fun _ G14 => nv Y <| yp O <| yp O <| yp O <| yo (aM O O ⟨om, om⟩) <| yo (gn (k := (p + i)) O O (runUnderlying9 _) om om) <| yq O <| fun a Y => G14 ?_
  refine aa fun _ G15 => nv (Y.p6 0 1 7 19 8 9 O) <| yp O <| yp O <| yo (xY (a := s.getD (p + i) 0) (b := (127 : UInt8)) O O) <| yo ((lT O kr underlying190).asi (m' := (((s.getD (p + i) 0).toNat % 128 : Nat) : Int)) (by rw [y127])) <| yp O <| yo ((eo O O ⟨om, om⟩).asi (m' := ((7 * i : Nat) : Int)) om) <| yo ((qG (m := (s.getD (p + i) 0).toNat % 128) (n := 7 * i) om O O).asi (m' := (((s.getD (p + i) 0).toNat % 128 * 2 ^ (7 * i) : Nat) : Int)) (by rw [Nat.mod_eq_of_lt om])) <| yo (v_uor (m := z) (n := (s.getD (p + i) 0).toNat % 128) (k := 7 * i) hz om O O) <| yq O <| fun a Y => G15 ?_
  replace Y := Y.p6 0 1 19 8 9 7 O
  refine ah fun _ G16 => aa fun _ G17 => nv Y <| yp O <| yo (v_ge O O) <| fun a Y => G17 <| aA Y O (fun hc3 => ?_) (fun hc3 => ?_)
  ·refine aP <| G9 <| al <| nv Y <| yo (aM O O ⟨om, om⟩) <| yp O <| fun a Y => ab ?_
   refine ⟨_, ?_, i + 1, (z + (s.getD (p + i) 0).toNat % 128 * 2 ^ (7 * i)), O, om, (by rw [hw]; exact xi om hpi om), hzl, Y.pick [0, 1, 7, 19], U.select [] de⟩
   omega
  refine ar <| G16 <| aa fun _ G18 => nv Y <| yp O <| yo ((qf (m := (z + (s.getD (p + i) 0).toNat % 128 * 2 ^ (7 * i))) (n := 1) de O O).asi (m' := (((z + (s.getD (p + i) 0).toNat % 128 * 2 ^ (7 * i)) / 2 : Nat) : Int)) O) <| yo (gC (n := (z + (s.getD (p + i) 0).toNat % 128 * 2 ^ (7 * i)) / 2) om O kr underlying3) <| yp O <| yo ((t6 (m := (z + (s.getD (p + i) 0).toNat % 128 * 2 ^ (7 * i))) (k := 1) om de O O).asi (m' := (((z + (s.getD (p + i) 0).toNat % 128 * 2 ^ (7 * i)) % 2 : Nat) : Int)) O) <| yo (gC (n := (z + (s.getD (p + i) 0).toNat % 128 * 2 ^ (7 * i)) % 2) om O kr underlying3) <| yo (kc O om om) <| yo (v_ixz (z := (z + (s.getD (p + i) 0).toNat % 128 * 2 ^ (7 * i))) om O O) <| yq O <| fun a Y => G18 ?_
  refine ah fun _ G19 => aa fun _ G20 => nv (Y.p7 0 1 19 8 9 7 10 O) <| yp O <| yo (v_eq O O) <| yp O <| fun a Y => ?_
  rcases Decidable.em (((s.getD (p + i) 0).toNat : Int) = 0) with hb4 | hb4
  ·rw [yy hb4] at Y
   refine nv Y <| yr (ay O) <| yr (v_gt O O) <| yo (ax O O) <| yp O <| fun a Y => ?_
   rcases Decidable.em (0 < (i : Int)) with hb5 | hb5
   ·rw [yy hb5] at Y
    have hwn : wI 9 0 0 (s.drop p) = none := by rw [hw]; exact qE om hpi om (.inl ⟨om, om⟩)
    refine nv Y <| yt <| yt <| yo (ax O O) <| fun a Y => G20 ?_
    replace Y := Y.p7 0 1 19 8 7 10 60 O
    refine aG Y O ?_
    refine aP <| G5 <| aa fun _ G21 => nv Y <| yq O <| yq O <| yq O <| fun a Y => G21 ?_
    replace Y := Y.p3 4 5 6 O
    refine aq <| am Y results63 (ae O (ae O (ae O ag))) ?_
    exact ⟨(gr hwn).symm, U.ext⟩
   rw [yD hb5] at Y
   have hng : ¬ ((s.getD (p + i) 0).toNat = 0 ∧ 0 < i) := by omega
   refine nv Y <| yr (ay O) <| yr (v_lt O O) <| yo (ak O O) <| fun a Y => G20 ?_
   replace Y := Y.p7 0 1 19 8 7 10 60 O
   refine aA Y O (fun hc6 => ?_) (fun hc6 => ?_)
   ·have hwn : wI 9 0 0 (s.drop p) = none := by rw [hw]; exact qE om hpi om (.inr hc6)
    refine aP <| G5 <| aa fun _ G22 => nv Y <| yq O <| yq O <| yq O <| fun a Y => G22 ?_
    replace Y := Y.p3 4 5 6 O
    refine aq <| am Y results63 (ae O (ae O (ae O ag))) ?_
    exact ⟨(gr hwn).symm, U.ext⟩
   have hwg := hw.trans (rh om hpi om om hc6)
   refine ar <| G19 <| aa fun _ G23 => nv Y <| yp O <| yp O <| yp O <| yo (aM O O ⟨om, om⟩) <| yo (aM O O ⟨om, om⟩) <| yq O <| yq O <| yq O <| fun a Y => G23 ?_
   replace Y := Y.p7 0 1 19 7 4 5 6 O
   refine aq <| am Y results63 (ae O (ae O (ae O ag))) ?_
   exact ⟨((nS hp hwg).trans (by simp only [retv]; congr 3; all_goals omega)).symm, U.ext⟩
  rw [yD hb4] at Y
  refine nv Y <| yt <| yt <| yo (ak O O) <| yp O <| yr (ay O) <| yr (v_lt O O) <| yo (ak O O) <| fun a Y => G20 ?_
  replace Y := Y.p7 0 1 19 8 7 10 60 O
  refine aA Y O (fun hc7 => ?_) (fun hc7 => ?_)
  ·have hwn : wI 9 0 0 (s.drop p) = none := by rw [hw]; exact qE om hpi om (.inr hc7)
   refine aP <| G5 <| aa fun _ G24 => nv Y <| yq O <| yq O <| yq O <| fun a Y => G24 ?_
   replace Y := Y.p3 4 5 6 O
   refine aq <| am Y results63 (ae O (ae O (ae O ag))) ?_
   exact ⟨(gr hwn).symm, U.ext⟩
  have hwg := hw.trans (rh om hpi om om hc7)
  refine ar <| G19 <| aa fun _ G25 => nv Y <| yp O <| yp O <| yp O <| yo (aM O O ⟨om, om⟩) <| yo (aM O O ⟨om, om⟩) <| yq O <| yq O <| yq O <| fun a Y => G25 ?_
  replace Y := Y.p7 0 1 19 7 4 5 6 O
  refine aq <| am Y results63 (ae O (ae O (ae O ag))) ?_
  exact ⟨((nS hp hwg).trans (by simp only [retv]; congr 3; all_goals omega)).symm, U.ext⟩
 have hwn : wI 9 0 0 (s.drop p) = none := by rw [hw, show 9 - i = 0 from by omega]; rfl
 refine aP <| G5 <| aa fun _ G26 => nv Y <| yq O <| yq O <| yq O <| fun a Y => G26 <| aq <| am Y results63 (ae O (ae O (ae O ag))) ?_
 exact ⟨(gr hwn).symm, U.ext⟩
end Go.Proofs.YtliklcmddmpdfaaGreatDoor
