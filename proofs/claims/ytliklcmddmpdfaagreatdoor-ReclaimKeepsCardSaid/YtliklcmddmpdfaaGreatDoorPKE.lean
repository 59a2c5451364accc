/- Texts joined: BldA, BldB, WshE, WshF, WshG, WshH, WshI, WshJ, WshK, WshL, WshM, WshN. -/
import Derived.Test.YtliklcmddmpdfaaGreatDoorPKD
import Derived.Test.YtliklcmddmpdfaaGreatDoorPKB
import Derived.Test.YtliklcmddmpdfaaGreatDoorPKA
set_option linter.unusedVariables false
set_option linter.unusedSimpArgs false
set_option maxRecDepth 4000
set_option maxHeartbeats 4000000
namespace Go.Proofs.YtliklcmddmpdfaaGreatDoor
open Go.RowKit Go.PW _root_.Go.Proofs.Tryz
def bld (T : TypeId) (b : Nat) (ad v : Value) (bs : By) : Ent := join [blk b [ad, v] T, own v 5 1 ((bs).map fun b => [yv b])]
theorem kN {M : Nat → Prop} {w0 w : World} {T : TypeId} {b : Nat} {ad v : Value} {bs : By} {H : List Ent} (h : St M w0 (bld T b ad v bs :: H) w) : St M w0 ([blk b [ad, v] T, own v 5 1 ((bs).map fun b => [yv b])] ++ H) w := St.unjoin _ _ h
theorem oV (T : TypeId) (b : Nat) (v : Value) (w0 : World) (hlie : liesAt Tryz.prog Tryz.prog.depth T (2 / Tryz.prog.cellsOf T) 0 160 1 = true) (hb : (blk b [.pointer none, v] T).ok w0) :
  Ret Tryz.prog 142 #[pq b] w0 fun u w => u = .tuple #[] ∧ Ext (· = b) w0 w ∧ (blk b [pq b, v] T).ok w := by
 refine aB func142 O ntmps142 (lb O) fun a Z => ?_
 replace Y : St (· = b) w0 [blk b [.pointer none, v] T] w0 := St.one hb
 refine aa fun _ G1 => nv (Z.p1 0 O) <| xy O <| xx (aQ O) <| xx (ac (v := pq b) O kr) <| xx (ld Y 0 O O (isAgg158 _) O) <| xx (xr O O underlying158) <| fun a Z => G1 <| aH Z O ?_
 refine aj <| nv Z <| xy O <| xy O <| xx (pW (j := Tryz.t160) (Y.g 0 O) O underlying158 underlying235 O O sm) <| xx (pL func179 kr kr kr kr O) <| xx (np (j := Tryz.t160) (Y.g 0 O) O underlying235 underlying158 O hlie) <| xx (aQ O) <| xx (ac (v := pq b) O kr) <| fun a Z => az 0 Z Y [pq b, v] O (sizeOf158 _) fun a w2 Z Y => ab ?_
 refine cN Z results142 ae ?_
 exact ⟨O, Y.ext, Y.g 0 O⟩
theorem pQ (T : TypeId) (b : Nat) (v : Value) (w0 : World) (hlie : liesAt Tryz.prog Tryz.prog.depth T (2 / Tryz.prog.cellsOf T) 0 160 1 = true) (hb : (blk b [pq b, v] T).ok w0) :
  Ret Tryz.prog 142 #[pq b] w0 fun u w => u = .tuple #[] ∧ Ext (· = b) w0 w ∧ (blk b [pq b, v] T).ok w := by
 refine aB func142 O ntmps142 (lb O) fun a Z => ?_
 replace Y : St (· = b) w0 [blk b [pq b, v] T] w0 := St.one hb
 refine aa fun _ G1 => nv (Z.p1 0 O) <| xy O <| xx (aQ O) <| xx (ac (v := pq b) O kr) <| xx (ld Y 0 O O (isAgg158 _) O) <| xx (tL O O underlying158) <| fun a Z => G1 <| aJ Z O ?_
 refine aa fun _ G2 => nv Z <| xy O <| xx (aQ O) <| xx (ac (v := pq b) O kr) <| xx (ld Y 0 O O (isAgg158 _) O) <| xy O <| xx (vW (j := Tryz.t160) O O underlying158 O) <| fun a Z => G2 ?_
 replace Z := Z.p1 19 O
 refine aJ Z O ?_
 refine au <| cN Z results142 ae ?_
 exact ⟨O, Y.ext, Y.g 0 O⟩
theorem qb {M : Nat → Prop} {w0 : World} (T : TypeId) (b : Nat) (v : Value) (bs : By) (s : By) (ws : World) (hlie : liesAt Tryz.prog Tryz.prog.depth T (2 / Tryz.prog.cellsOf T) 0 160 1 = true) (hne : s ≠ []) (hbn : bs.length + s.length ≤ 1000000000) (Y : St M w0 [bld T b (.pointer none) v bs] ws) :
  Ret Tryz.prog 94 #[pq b, sv s] ws fun u w => u = .tuple #[jv (s.length : Int), .nilIface] ∧ ∃ v2, St M w0 [bld T b (pq b) v2 (bs ++ s)] w := by
 refine aB func94 O ntmps94 (lb O) fun a Z => ?_
 replace Y : St M w0 [blk b [.pointer none, v] T, own v 5 1 ((bs).map fun b => [yv b])] ws := kN Y
 refine aa fun _ G1 => nv (Z.p2 0 1 O) <| xz O <| xz O <| fun a Z => G1 <| aa fun _ G2 => ?_
 refine wlm Z O fun a Z => kA 0 Z Y de call142 O O (oV T b _ _ hlie (Y.g 0 O)) O fun a w1 Z Y => G2 <| aa fun _ G3 => ?_
 refine nv Z <| xy O <| xy O <| xx (aQ O) <| xx (ac (v := po b 1) O kr) <| xx (ld Y 0 O O (isAgg60 _) O) <| xy O <| fun a Z => gC (i := 1) (sT := 60) (uT := 9) (inf := Tryz.t5) (bs := bs) (s := s) O O O hne underlying60 underlying9 O O O O om de Z Y fun a w2 s1 Z Y => nv Z <| xx (aQ O) <| xx (ac (v := po b 1) O kr) <| fun a Z => ce 0 Z Y (Y.ow 1 O) O O O (sizeOf60 _) (lb O) (ds := [pq b, s1]) O O fun a w3 Z Y => G3 ?_
 refine aa fun _ G4 => nv (Z.p3 1 4 5 O) <| xy O <| xx (bn O O (runUnderlying9 _)) <| xz O <| xz O <| fun a Z => G4 <| ap ?_
 refine al Z results94 (ag O (ag O ae)) ?_
 replace Y := Y.s2 [0, 1] de rfl
 exact ⟨O, s1, St.join [blk b [pq b, s1] T, own s1 5 1 ((bs ++ s).map fun b => [yv b])] [] Y⟩
theorem rq {M : Nat → Prop} {w0 : World} (T : TypeId) (b : Nat) (v : Value) (bs : By) (s : By) (ws : World) (hlie : liesAt Tryz.prog Tryz.prog.depth T (2 / Tryz.prog.cellsOf T) 0 160 1 = true) (hne : s ≠ []) (hbn : bs.length + s.length ≤ 1000000000) (Y : St M w0 [bld T b (pq b) v bs] ws) :
  Ret Tryz.prog 94 #[pq b, sv s] ws fun u w => u = .tuple #[jv (s.length : Int), .nilIface] ∧ ∃ v2, St M w0 [bld T b (pq b) v2 (bs ++ s)] w := by
 refine aB func94 O ntmps94 (lb O) fun a Z => ?_
 replace Y : St M w0 [blk b [pq b, v] T, own v 5 1 ((bs).map fun b => [yv b])] ws := kN Y
 refine aa fun _ G1 => nv (Z.p2 0 1 O) <| xz O <| xz O <| fun a Z => G1 <| aa fun _ G2 => ?_
 refine wlm Z O fun a Z => kA 0 Z Y de call142 O O (pQ T b _ _ hlie (Y.g 0 O)) O fun a w1 Z Y => G2 <| aa fun _ G3 => ?_
 refine nv Z <| xy O <| xy O <| xx (aQ O) <| xx (ac (v := po b 1) O kr) <| xx (ld Y 0 O O (isAgg60 _) O) <| xy O <| fun a Z => gC (i := 1) (sT := 60) (uT := 9) (inf := Tryz.t5) (bs := bs) (s := s) O O O hne underlying60 underlying9 O O O O om de Z Y fun a w2 s1 Z Y => nv Z <| xx (aQ O) <| xx (ac (v := po b 1) O kr) <| fun a Z => ce 0 Z Y (Y.ow 1 O) O O O (sizeOf60 _) (lb O) (ds := [pq b, s1]) O O fun a w3 Z Y => G3 ?_
 refine aa fun _ G4 => nv (Z.p3 1 4 5 O) <| xy O <| xx (bn O O (runUnderlying9 _)) <| xz O <| xz O <| fun a Z => G4 <| ap ?_
 refine al Z results94 (ag O (ag O ae)) ?_
 replace Y := Y.s2 [0, 1] de rfl
 exact ⟨O, s1, St.join [blk b [pq b, s1] T, own s1 5 1 ((bs ++ s).map fun b => [yv b])] [] Y⟩
theorem wr {w : World} {E : TypeId} {v : Value} {bs : By} (h : (own v E 1 ((bs).map fun b => [yv b])).ok w) (hne : bs ≠ []) : ∃ g cap, v = .slice (some ⟨g, 0, none⟩) bs.length cap ∧ cap ≠ 0 := by
 obtain ⟨h1, h2, h3, h4⟩ := h
 have hn : bs.length ≠ 0 := by simpa using hne
 rcases h4 with ⟨_, h0⟩ | ⟨g, cap, cur, fz, hv, _, _, hnc, _⟩
 ·rw [xC] at h0; exact absurd h0 hn
 ·rw [xC] at hv hnc; exact ⟨g, cap, hv, by omega⟩
theorem oq {M : Nat → Prop} {w0 : World} (T : TypeId) (b g cap : Nat) (bs : By) (ws : World) (hne : bs ≠ []) (hcap : cap ≠ 0) (Y : St M w0 [blk b [pq b, .slice (some ⟨g, 0, none⟩) bs.length cap] T, own (.slice (some ⟨g, 0, none⟩) bs.length cap) 5 1 ((bs).map fun b => [yv b])] ws) :
  Ret Tryz.prog 95 #[pq b] ws fun u w => u = sv bs ∧ St M w0 [blk b [pq b, .slice (some ⟨g, 0, none⟩) bs.length cap] T] w := by
 refine aB func95 O ntmps95 (lb O) fun a Z => ?_
 replace Z := Z.p1 0 O
 skip
 refine aa fun _ G1 => wla Z O fun a Z => G1 <| ah fun _ G2 => ?_
 refine aM ?_
 replace Z := Z.p2 0 2 O
 replace Y : St M w0 (own (.slice (some ⟨g, 0, none⟩) bs.length cap) 5 1 ((bs).map fun b => [yv b]) :: [blk b [pq b, .slice (some ⟨g, 0, none⟩) bs.length cap] T]) ws := Y.front (i := 1) rfl
 refine lc 10 (own (.slice (some ⟨g, 0, none⟩) bs.length cap) 5 1 ((bs).map fun b => [yv b])) (fun _ => sl (.slice (some ⟨g, 0, none⟩) bs.length cap) 1 ((bs).map fun b => [yv b])) 11 [[], [0], [1], [2], [3], [], [5], [6], [7], [8], [4, 9]] (fun i => match i with | 0 => pv (pq b) | 1 => pv (pq b) | 2 => pv (po b 1) | 3 => pv (.slice (some ⟨g, 0, none⟩) bs.length cap) | 4 => pv (pq g) | 5 => pv (pq b) | 6 => pv (pq b) | 7 => pv (po b 1) | 8 => pv (.slice (some ⟨g, 0, none⟩) bs.length cap) | 9 => pv (jv (bs.length : Int)) | 10 => fun v E => v = sv bs ∧ E = [] | _ => fun _ _ => False) Z Y kr kr kr de ?_ ?_ ?_ ?_
 ·intro i v E h
  match i, h with
  | 0, _ => exact by decide
  | 1, _ => exact by decide
  | 2, _ => exact by decide
  | 3, _ => exact by decide
  | 4, _ => exact by decide
  | 5, _ => exact by decide
  | 6, _ => exact by decide
  | 7, _ => exact by decide
  | 8, _ => exact by decide
  | 9, _ => exact by decide
  | 10, _ => exact by decide
  | i + 11, h => exact h.elim
 ·intro i hi hiq e
  match i, hi, hiq with
  | 0, _, _ => exact fun w Y => OpV.g (ay O)
  | 1, _, _ =>
   rintro _ _ ⟨rfl, rfl⟩
   intro w Y
   exact OpV.g (aQ O)
  | 2, _, _ =>
   rintro _ _ ⟨rfl, rfl⟩
   intro w Y
   exact OpV.g (ac (v := po b 1) O kr)
  | 3, _, _ =>
   rintro _ _ ⟨rfl, rfl⟩
   intro w Y
   exact OpV.g (ld Y 1 O O (isAgg60 _) O)
  | 4, _, _ =>
   rintro _ _ ⟨rfl, rfl⟩
   intro w Y
   exact OpV.g (oF O hcap)
  | 5, _, _ => exact fun w Y => OpV.g (ay O)
  | 6, _, _ =>
   rintro _ _ ⟨rfl, rfl⟩
   intro w Y
   exact OpV.g (aQ O)
  | 7, _, _ =>
   rintro _ _ ⟨rfl, rfl⟩
   intro w Y
   exact OpV.g (ac (v := po b 1) O kr)
  | 8, _, _ =>
   rintro _ _ ⟨rfl, rfl⟩
   intro w Y
   exact OpV.g (ld Y 1 O O (isAgg60 _) O)
  | 9, _, _ =>
   rintro _ _ ⟨rfl, rfl⟩
   intro w Y
   exact OpV.g ((ey (v := jv (bs.length : Int)) (vs := [.slice (some ⟨g, 0, none⟩) bs.length cap]) (by simp [evs]; rfl) (by simp [builtin, Builtin.len_, runUnderlying60]; rfl)).as O)
  | 10, _, h => exact absurd O h
 ·rintro _ _ ⟨rfl, rfl⟩ _ _ ⟨rfl, rfl⟩
  intro w Y
  exact (jP (Y.g 0 O) hne O O underlying205 kr).mono fun v w' ⟨h1, h2, h3, h4⟩ => ⟨h2, h3, h4, ⟨h1, O⟩⟩
 clear Z Y
 rintro vq _ _ ⟨⟨rfl, rfl⟩, -⟩ _ _ ⟨⟨rfl, rfl⟩, -⟩ _ _ ⟨⟨rfl, rfl⟩, -⟩ _ _ ⟨⟨rfl, rfl⟩, -⟩ _ _ ⟨⟨rfl, rfl⟩, -⟩ _ _ ⟨⟨rfl, rfl⟩, -⟩ _ _ ⟨⟨rfl, rfl⟩, -⟩ _ _ ⟨⟨rfl, rfl⟩, -⟩ _ _ ⟨⟨rfl, rfl⟩, -⟩ _ _ ⟨⟨rfl, rfl⟩, -⟩ _ _ ⟨⟨rfl, rfl⟩, -⟩ a w1 Z Y
 replace Z := Z.p13 3 4 5 6 7 8 9 10 11 12 13 0 2 O
 try dsimp only at Y
 replace Y := Y.n2 O
 refine wla Z O fun a Z => ab <| G2 ?_
 replace Z := Z.p1 2 O
 refine ap <| al Z results95 (ag O ae) ?_
 exact ⟨O, Y.select [1] de⟩
theorem gV {M : Nat → Prop} {w0 : World} (T : TypeId) (b : Nat) (v : Value) (bs : By) (ws : World) (hne : bs ≠ []) (Y : St M w0 [bld T b (pq b) v bs] ws) :
  Ret Tryz.prog 95 #[pq b] ws fun u w => u = sv bs ∧ St M w0 [blk b [pq b, v] T] w := by
 have Y : St M w0 [blk b [pq b, v] T, own v 5 1 ((bs).map fun b => [yv b])] ws := kN Y
 obtain ⟨g, cap, rfl, hcap⟩ := wr (Y.g 1 rfl) hne
 exact oq T b g cap bs ws hne hcap Y
theorem fY {M : Nat → Prop} {w0 : World} (T : TypeId) (b : Nat) (ad v : Value) (bs s : By) (ws : World) (hlie : liesAt Tryz.prog Tryz.prog.depth T (2 / Tryz.prog.cellsOf T) 0 160 1 = true) (had : ad = .pointer none ∨ ad = pq b) (hne : s ≠ []) (hbn : bs.length + s.length ≤ 1000000000) (Y : St M w0 [bld T b ad v bs] ws) :
  Ret Tryz.prog 94 #[pq b, sv s] ws fun u w => u = .tuple #[jv (s.length : Int), .nilIface] ∧ ∃ v2, St M w0 [bld T b (pq b) v2 (bs ++ s)] w := by
 rcases had with rfl | rfl
 ·exact qb T b v bs s ws hlie hne hbn Y
 ·exact rq T b v bs s ws hlie hne hbn Y
theorem qB (n : Int) : putI n ≠ [] := fun h => by have := (bY n).1; rw [h] at this; simp at this
theorem gQ {M : Nat → Prop} {w0 : World} (T : TypeId) (b : Nat) (ad v lv : Value) (bs : By) (ns : List Int) (ws : World) (hlie : liesAt Tryz.prog Tryz.prog.depth T (2 / Tryz.prog.cellsOf T) 0 160 1 = true) (had : ad = .pointer none ∨ ad = pq b) (hns : smalls ns) (hnn : ns ≠ []) (hbn : bs.length + 9 * ns.length ≤ 1000000000) (Y : St M w0 [bld T b (ad) v bs, own lv 3 1 ((ns).map fun n => [jv n])] ws) :
  Ret Tryz.prog 92 #[pq b, lv] ws fun u w => u = .tuple #[] ∧ ∃ v2, St M w0 [bld T b (pq b) v2 (bs ++ puts ns)] w := by
 refine aB func92 O ntmps92 (lb O) fun a Z => ?_
 replace Z := Z.p2 0 1 O
 skip
 refine aa fun _ G1 => nv Z <| xy O <| xx ((aL (sT := 24) (Y.ow 1 O) O O (runUnderlying24 _)).asi (m' := (ns.length : Int)) z6) <| xy O <| fun a Z => G1 <| ar ?_
 replace Y : St M w0 [bld T b ad v (bs ++ puts (ns.take 0)), own lv 3 1 ((ns).map fun n => [jv n])] ws := by rw [show bs ++ puts (ns.take 0) = bs from by simp [puts]]; exact Y
 refine aW (fun m a w => ∃ (k : Nat) (ad : Value) (v : Value), m = ns.length - k ∧ (k ≤ ns.length) ∧ (ad = .pointer none ∨ ad = pq b) ∧ (0 < k → ad = pq b) ∧ Fr 25 [(0, pq b), (8, lv), (9, jv (ns.length : Int)), (10, jv (k : Int))] [] a ∧ St M w0 [bld T b (ad) v (bs ++ puts (ns.take k)), own lv 3 1 ((ns).map fun n => [jv n])] w) _ ⟨0, ad, v, O, yc _, had, (fun h => absurd h (zd 0)), Z.pick [0, 8, 9, 10], Y⟩ ?_
 rintro _ a w1 ⟨k, ad, v, rfl, hk, had, hak, Z, Y⟩
 refine aa fun _ G2 => wlv Z (v_lt O O) fun a Z => G2 <| ah fun _ G3 => ?_
 refine aA Z O (fun hc1 => ?_) (fun hc1 => ?_)
 ·refine au <| G3 <| ah fun _ G4 => ar <| aa fun _ G5 => nv Z <| xx ((am (i := (k : Int)) (sT := 24) (Y.ow 1 O) O O (runUnderlying24 _) (sizeOf3 _) om zL).as (v' := slAddr lv (k * 1)) O) <| xx (aD (u := jv (ns.getD k 0)) (i := k) (j := 0) (Y.ow 1 O) zL O (isAgg3 _) AW) <| xz O <| fun a Z => G5 <| aa fun _ G6 => ?_
  refine wlm Z O fun a Z => ax Z Y call60 O (fg (ns.getD k 0) _ (hns _ (bt om))) fun a w2 Z Y => nv Z <| xy O <| xx (aq O O) <| xx (aq O O) <| xz O <| xz O <| fun a Z => G6 ?_
  refine aj <| nv (Z.p5 0 8 9 10 6 O) <| xy O <| xx (aQ O) <| xx (ac (v := pq b) O kr) <| xy O <| fun a Z => aZ (R := fun u e' => u = .tuple #[jv ((putI (ns.getD k 0)).length : Int), .nilIface] ∧ ∃ v2, e' = bld T b (pq b) v2 ((bs ++ puts (ns.take k)) ++ (putI (ns.getD k 0)))) 0 Z Y O de call94 O (fun h => (fY T b _ _ _ _ _ hlie (had) (qB _) (by have h1 := dO (ns.take k); have h2 := (bY (ns.getD k 0)).2; rw [xI] at h1; rw [xE]; omega) h).mono fun u w ⟨h1, v2, h2⟩ => ⟨_, ⟨h1, v2, O⟩, h2⟩) ?_
  clear Z Y
  rintro a w3 _ _ ⟨rfl, v2, rfl⟩ Z Y
  try dsimp only at Y
  replace Y := Y.n2 O
  refine ab <| G4 ?_
  refine aj <| nv (Z.p4 0 8 9 10 O) <| xx (aP O O ⟨om, om⟩) <| xy O <| fun a Z => ab ?_
  replace Y : St M w0 [bld T b (pq b) v2 (bs ++ puts (ns.take (k + 1))), own lv 3 1 ((ns).map fun n => [jv n])] w3 := by rw [show bs ++ puts (ns.take (k + 1)) = (bs ++ puts (ns.take k)) ++ (putI (ns.getD k 0)) from by rw [cz 0 om, mq, yq]]; exact Y
  refine ⟨_, ?_, k + 1, pq b, v2, O, om, (.inr O), (fun _ => O), Z.pick [0, 8, 9, 10], Y⟩
  omega
 obtain rfl : k = ns.length := by omega
 rw [List.take_length] at Y
 obtain rfl := hak (List.length_pos_iff.2 hnn)
 refine aO <| cN Z results92 ae ?_
 exact ⟨O, _, Y.select [0] de⟩
theorem kE {M : Nat → Prop} {w0 : World} (T : TypeId) (b : Nat) (ad v : Value) (bs : By) (x : Wsh) (ws : World) (hlie : liesAt Tryz.prog Tryz.prog.depth T (2 / Tryz.prog.cellsOf T) 0 160 1 = true) (had : ad = .pointer none ∨ ad = pq b) (hx : smalls x.nums) (hbn : bs.length ≤ 1000000) (Y : St M w0 [bld T b (ad) v bs] ws) :
  Ret Tryz.prog 88 #[pq b, .agg #[jv x.signer, jv x.holder, jv x.rf, jv x.rt, jv x.carrier, jv x.serial, jv x.sf, jv x.st, sv x.sig]] ws fun u w => u = .tuple #[] ∧ ∃ v2, St M w0 [bld T b (pq b) v2 (bs ++ x.content)] w := by
 refine aB func88 O ntmps88 (lb O) fun a Z => ?_
 replace Z := Z.p2 0 1 O
 skip
 refine aa fun _ G1 => aS Z Y O [jv x.signer, jv x.holder, jv x.rf, jv x.rt, jv x.carrier, jv x.serial, jv x.sf, jv x.st, sv x.sig] O fun a w1 Z Y => G1 <| aj ?_
 refine nv Z <| xy O <| xx (ac (v := pq ws.hz) O kr) <| xx (ld Y 0 O O (isAgg3 _) O) <| xx (ac (v := po ws.hz 1) O kr) <| xx (ld Y 0 O O (isAgg3 _) O) <| xx (ac (v := po ws.hz 2) O kr) <| xx (ac (v := po ws.hz 2) O kr) <| xx (ld Y 0 O O (isAgg3 _) O) <| xx (ac (v := po ws.hz 2) O kr) <| xx (ac (v := po ws.hz 3) O kr) <| fun a Z => ?_
 refine nv Z <| xx (ld Y 0 O O (isAgg3 _) O) <| xx (ac (v := po ws.hz 4) O kr) <| xx (ld Y 0 O O (isAgg3 _) O) <| xx (ac (v := po ws.hz 5) O kr) <| xx (ld Y 0 O O (isAgg3 _) O) <| xx (ac (v := po ws.hz 6) O kr) <| xx (ac (v := po ws.hz 6) O kr) <| xx (ld Y 0 O O (isAgg3 _) O) <| xx (ac (v := po ws.hz 6) O kr) <| xx (ac (v := po ws.hz 7) O kr) <| xx (ld Y 0 O O (isAgg3 _) O) <| fun a Z => aE (E := 3) (sz := 1) O [[jv 1], [jv x.signer], [jv x.holder], [jv x.rf], [jv x.rt], [jv x.carrier], [jv x.serial], [jv x.sf], [jv x.st]] kr sm O de de Z Y fun a w2 Z Y => ?_
 replace Y := Y.s3 [2, 0, 1] de rfl
 replace Y := St.join [bld T b (ad) v bs, own (.slice (some ⟨w1.hz, 0, none⟩) 9 9) 3 1 ([[jv 1], [jv x.signer], [jv x.holder], [jv x.rf], [jv x.rt], [jv x.carrier], [jv x.serial], [jv x.sf], [jv x.st]])] [blk ws.hz [jv x.signer, jv x.holder, jv x.rf, jv x.rt, jv x.carrier, jv x.serial, jv x.sf, jv x.st, sv x.sig] 90] Y
 refine aZ (R := fun u e' => u = .tuple #[] ∧ ∃ v2, e' = bld T b (pq b) v2 (bs ++ puts [1, x.signer, x.holder, x.rf, x.rt, x.carrier, x.serial, x.sf, x.st])) 0 Z Y O de call92 O (fun h => (gQ T b _ _ _ _ [1, x.signer, x.holder, x.rf, x.rt, x.carrier, x.serial, x.sf, x.st] _ hlie (had) (hx) sm (by simp <;> omega) (St.unjoin [bld T b (ad) v bs, own (.slice (some ⟨w1.hz, 0, none⟩) 9 9) 3 1 ([[jv 1], [jv x.signer], [jv x.holder], [jv x.rf], [jv x.rt], [jv x.carrier], [jv x.serial], [jv x.sf], [jv x.st]])] [] h)).mono fun u w ⟨h1, v2, h2⟩ => ⟨_, ⟨h1, v2, O⟩, h2⟩) ?_
 clear Z Y
 rintro a w3 _ _ ⟨rfl, v1, rfl⟩ Z Y
 try dsimp only at Y
 replace Y := Y.n2 O
 refine ab <| cN Z results88 ae ?_
 exact ⟨O, _, Y.select [0] de⟩
theorem iW {M : Nat → Prop} {w0 : World} (T : TypeId) (b : Nat) (ad v : Value) (bs : By) (x : Pxy) (ws : World) (hlie : liesAt Tryz.prog Tryz.prog.depth T (2 / Tryz.prog.cellsOf T) 0 160 1 = true) (had : ad = .pointer none ∨ ad = pq b) (hx : smalls x.nums) (hbn : bs.length ≤ 1000000) (Y : St M w0 [bld T b (ad) v bs] ws) :
  Ret Tryz.prog 93 #[pq b, .agg #[jv x.frm, jv x.to, jv x.rf, jv x.rt, jv x.sf, jv x.st, sv x.sig]] ws fun u w => u = .tuple #[] ∧ ∃ v2, St M w0 [bld T b (pq b) v2 (bs ++ x.content)] w := by
 refine aB func93 O ntmps93 (lb O) fun a Z => ?_
 replace Z := Z.p2 0 1 O
 skip
 refine aa fun _ G1 => aS Z Y O [jv x.frm, jv x.to, jv x.rf, jv x.rt, jv x.sf, jv x.st, sv x.sig] O fun a w1 Z Y => G1 <| aj ?_
 refine nv Z <| xy O <| xx (ac (v := pq ws.hz) O kr) <| xx (ld Y 0 O O (isAgg3 _) O) <| xx (ac (v := po ws.hz 1) O kr) <| xx (ld Y 0 O O (isAgg3 _) O) <| xx (ac (v := po ws.hz 2) O kr) <| xx (ac (v := po ws.hz 2) O kr) <| xx (ld Y 0 O O (isAgg3 _) O) <| xx (ac (v := po ws.hz 2) O kr) <| xx (ac (v := po ws.hz 3) O kr) <| fun a Z => ?_
 refine nv Z <| xx (ld Y 0 O O (isAgg3 _) O) <| xx (ac (v := po ws.hz 4) O kr) <| xx (ac (v := po ws.hz 4) O kr) <| xx (ld Y 0 O O (isAgg3 _) O) <| xx (ac (v := po ws.hz 4) O kr) <| xx (ac (v := po ws.hz 5) O kr) <| xx (ld Y 0 O O (isAgg3 _) O) <| fun a Z => aE (E := 3) (sz := 1) O [[jv 2], [jv x.frm], [jv x.to], [jv x.rf], [jv x.rt], [jv x.sf], [jv x.st]] kr sm O de de Z Y fun a w2 Z Y => ?_
 replace Y := Y.s3 [2, 0, 1] de rfl
 replace Y := St.join [bld T b (ad) v bs, own (.slice (some ⟨w1.hz, 0, none⟩) 7 7) 3 1 ([[jv 2], [jv x.frm], [jv x.to], [jv x.rf], [jv x.rt], [jv x.sf], [jv x.st]])] [blk ws.hz [jv x.frm, jv x.to, jv x.rf, jv x.rt, jv x.sf, jv x.st, sv x.sig] 144] Y
 refine aZ (R := fun u e' => u = .tuple #[] ∧ ∃ v2, e' = bld T b (pq b) v2 (bs ++ puts [2, x.frm, x.to, x.rf, x.rt, x.sf, x.st])) 0 Z Y O de call92 O (fun h => (gQ T b _ _ _ _ [2, x.frm, x.to, x.rf, x.rt, x.sf, x.st] _ hlie (had) (hx) sm (by simp <;> omega) (St.unjoin [bld T b (ad) v bs, own (.slice (some ⟨w1.hz, 0, none⟩) 7 7) 3 1 ([[jv 2], [jv x.frm], [jv x.to], [jv x.rf], [jv x.rt], [jv x.sf], [jv x.st]])] [] h)).mono fun u w ⟨h1, v2, h2⟩ => ⟨_, ⟨h1, v2, O⟩, h2⟩) ?_
 clear Z Y
 rintro a w3 _ _ ⟨rfl, v1, rfl⟩ Z Y
 try dsimp only at Y
 replace Y := Y.n2 O
 refine ab <| cN Z results93 ae ?_
 exact ⟨O, _, Y.select [0] de⟩
theorem nh {M : Nat → Prop} {w0 : World} (key content : By) (g : FuncId) (caps : List Value) (ec : Ent) (ws : World) (hen : ∀ args w, (callFunc g args).run Tryz.prog w = .ok (.enter g args) w)
  (hc : ∀ {M : Nat → Prop} {w0 : World} (b : Nat) (v : Value) (ws : World), St M w0 [bld 162 b (.pointer none) v [], ec] ws → Ret Tryz.prog g ([pq b] ++ caps).toArray ws fun u w => u = .tuple #[] ∧ ∃ v2, St M w0 [bld 162 b (pq b) v2 content, ec] w)
  (hne : content ≠ []) (hkl : key.length ≤ 40000000) (hcl : content.length ≤ 40000000) (Y : St M w0 [blk 0 (kOf.map wv) 258, ec] ws) :
  Ret Tryz.prog 86 #[sv key, .func (.func g) #[] caps.toArray] ws fun u w => u = sv (sealH key content) ∧ St M w0 [blk 0 (kOf.map wv) 258, ec] w := by
 refine aB func86 O ntmps86 (lb O) fun a Z => ?_
 replace Z := Z.p2 0 1 O
 skip
 refine aa fun _ G1 => wla Z O fun a Z => G1 <| aa fun _ G2 => ?_
 refine aC Z Y (zeroValue162 _) [.pointer none, .slice none 0 0] O fun a w1 Z Y => G2 <| aa fun _ G3 => ?_
 refine wlm Z O fun a Z => ?_
 replace Y : St M w0 (own (.slice none 0 0) 5 1 [] :: [blk ws.hz [.pointer none, .slice none 0 0] 162, blk 0 (kOf.map wv) 258, ec]) w1 := Y.nil_own
 replace Y := Y.s4 [1, 0, 3, 2] de rfl
 replace Y : St M w0 ([bld 162 (ws.hz) (.pointer none) (.slice none 0 0) [], ec] ++ [blk 0 (kOf.map wv) 258]) w1 := St.join [blk ws.hz [.pointer none, .slice none 0 0] 162, own (.slice none 0 0) 5 1 ([])] [ec, blk 0 (kOf.map wv) 258] Y
 replace Y := St.join _ _ Y
 refine ri (R := fun u e' => u = .tuple #[] ∧ ∃ v2, e' = join [bld 162 (ws.hz) (pq ws.hz) v2 content, ec]) 0 Z Y O de O hen O (fun h => (hc (ws.hz) _ _ (St.unjoin [bld 162 (ws.hz) (.pointer none) (.slice none 0 0) [], ec] [] h)).mono fun u w ⟨h1, v2, h2⟩ => ⟨_, ⟨h1, v2, O⟩, St.join _ [] h2⟩) ?_
 clear Z Y
 rintro a w2 _ _ ⟨rfl, v1, rfl⟩ Z Y
 replace Y : St M w0 [bld 162 (ws.hz) (pq ws.hz) v1 content, ec, blk 0 (kOf.map wv) 258] w2 := St.unjoin [bld 162 (ws.hz) (pq ws.hz) v1 content, ec] [blk 0 (kOf.map wv) 258] Y
 refine G3 <| aa fun _ G4 => ?_
 refine nv Z <| xy O <| xx (ac (v := pq ws.hz) O kr) <| fun a Z => aZ (R := fun u e' => u = sv (content) ∧ e' = blk (ws.hz) [pq ws.hz, v1] 162) 0 Z Y O de call95 O (fun h => (gV 162 (ws.hz) _ _ _ hne h).mono fun u w ⟨h1, h2⟩ => ⟨_, ⟨h1, O⟩, h2⟩) ?_
 clear Z Y
 rintro a w3 _ _ ⟨rfl, rfl⟩ Z Y
 try dsimp only at Y
 replace Y := Y.n3 O
 refine ax Z Y call139 O (jG content _ om (Y.g 2 O)) fun a w4 Z Y => ax Z Y call138 O (gw key (leafH sha content) _ om (by rw [hU dG]; decide) (Y.g 2 O)) fun a w5 Z Y => wla Z O fun a Z => G4 ?_
 replace Z := Z.p1 4 O
 refine ap <| al Z results86 (ag O ae) ?_
 exact ⟨O, Y.select [2, 1] de⟩
theorem j7 (s : By) (w0 : World) :
  Ret Tryz.prog 84 #[sv s] w0 fun v w => v = .bool (decide ((s.length : Int) = 32)) ∧ Ext No w0 w := by
 refine zA func84 O ntmps84 (lb O) fun a Z Y => ?_
 refine aa fun _ G1 => wla Z O fun a Z => G1 <| aa fun _ G2 => ?_
 refine nv Z <| xy O <| xx (bn O O (runUnderlying9 _)) <| xx (v_eq O O) <| xz O <| fun a Z => G2 <| ap ?_
 refine al Z results84 (ag O ae) ?_
 exact ⟨by rfl, Y.ext⟩
theorem cY (n lo hi : Int) (w0 : World) :
  Ret Tryz.prog 100 #[jv n, jv lo, jv hi] w0 fun v w => v = .bool (inB n lo hi) ∧ Ext No w0 w := by
 refine zB func100 O ntmps100 (lb O) fun a Z Y => ?_
 refine aa fun _ G1 => wla Z O fun a Z => G1 <| aa fun _ G2 => ?_
 refine nv Z <| xy O <| xy O <| xx (v_le O O) <| xy O <| fun a Z => di (N := 15) (df := []) 4 [(14, .bool ((decide (lo ≤ n)) && (decide (n ≤ hi)))), (0, jv n), (1, jv lo), (2, jv hi), (6, .bool false)] ?_ (fun hj => ?_)
 rotate_left
 ·rcases xH (decide (lo ≤ n)) with hb1 | hb1
  ·rw [hb1] at Z
   have hb1b := hb1
   try simp only [qz, xD, xX, xT, xZ] at hb1
   refine nv Z <| xA (ay O) <| xA (ay O) <| xA (v_le O O) <| xx (aw O O) <| fun a Z => hj _ ?_
   try rw [hb1b]
   exact Z.pick [14, 0, 1, 2, 6]
  rw [hb1] at Z
  have hb1b := hb1
  try simp only [qz, xD, xX, xT, xZ] at hb1
  refine nv Z <| xB <| xB <| xB <| xx (ai O O) <| fun a Z => hj _ ?_
  try rw [hb1b]
  exact Z.pick [14, 0, 1, 2, 6]
 intro a Z
 refine wla Z O fun a Z => G2 <| ap ?_
 refine al Z results100 (ag O ae) ?_
 exact ⟨by rfl, Y.ext⟩
theorem kH (b d : Int) (w0 : World) :
  Ret Tryz.prog 136 #[.agg #[jv b, jv d]] w0 fun v w => v = .bool (cF b d) ∧ Ext No w0 w := by
 refine zA func136 O ntmps136 (lb O) fun a Z Y => ?_
 refine aa fun _ G1 => aS Z Y O [jv b, jv d] O fun a w1 Z Y => wla Z O fun a Z => G1 <| aa fun _ G2 => ?_
 refine nv Z <| xx (ac (v := pq w0.hz) O kr) <| xx (ld Y 0 O O (isAgg3 _) O) <| xx (v_le O O) <| xy O <| fun a Z => di (N := 18) (df := []) 6 [(12, .bool ((decide (0 ≤ b)) && (decide (b < d)))), (0, .agg #[jv b, jv d]), (1, pq w0.hz), (2, .bool false)] ?_ (fun hj => ?_)
 rotate_left
 ·rcases xH (decide (0 ≤ b)) with hb1 | hb1
  ·rw [hb1] at Z
   have hb1b := hb1
   try simp only [qz, xD, xX, xT, xZ] at hb1
   refine nv Z <| xA (ac (v := pq w0.hz) O kr) <| xA (ld Y 0 O O (isAgg3 _) O) <| xA (ac (v := po w0.hz 1) O kr) <| xA (ld Y 0 O O (isAgg3 _) O) <| xA (v_lt O O) <| xx (aw O O) <| fun a Z => hj _ ?_
   try rw [hb1b]
   exact Z.pick [12, 0, 1, 2]
  rw [hb1] at Z
  have hb1b := hb1
  try simp only [qz, xD, xX, xT, xZ] at hb1
  refine nv Z <| xB <| xB <| xB <| xB <| xB <| xx (ai O O) <| fun a Z => hj _ ?_
  try rw [hb1b]
  exact Z.pick [12, 0, 1, 2]
 intro a Z
 refine wlm Z O fun a Z => di (N := 18) (df := []) 4 [(17, .bool (((decide (0 ≤ b)) && (decide (b < d))) && (decide (d ≤ 100000000)))), (0, .agg #[jv b, jv d]), (1, pq w0.hz), (2, .bool false)] ?_ (fun hj => ?_)
 rotate_left
 ·rcases xH ((decide (0 ≤ b)) && (decide (b < d))) with hb2 | hb2
  ·rw [hb2] at Z
   have hb2b := hb2
   try simp only [qz, xD, xX, xT, xZ] at hb2
   refine nv Z <| xA (ac (v := po w0.hz 1) O kr) <| xA (ld Y 0 O O (isAgg3 _) O) <| xA (v_le O O) <| xx (aw O O) <| fun a Z => hj _ ?_
   try rw [hb2b]
   exact Z.pick [17, 0, 1, 2]
  rw [hb2] at Z
  have hb2b := hb2
  try simp only [qz, xD, xX, xT, xZ] at hb2
  refine nv Z <| xB <| xB <| xB <| xx (ai O O) <| fun a Z => hj _ ?_
  try rw [hb2b]
  exact Z.pick [17, 0, 1, 2]
 intro a Z
 refine wla Z O fun a Z => G2 <| ap ?_
 refine al Z results136 (ag O ae) ?_
 exact ⟨by rfl, Y.ext⟩
theorem kh (b d : Int) (w0 : World) :
  Ret Tryz.prog 137 #[.agg #[jv b, jv d]] w0 fun v w => v = .bool (du b d) ∧ Ext No w0 w := by
 refine zA func137 O ntmps137 (lb O) fun a Z Y => ?_
 refine aa fun _ G1 => aS Z Y O [jv b, jv d] O fun a w1 Z Y => wla Z O fun a Z => G1 <| aa fun _ G2 => ?_
 refine nv Z <| xx (ac (v := pq w0.hz) O kr) <| xx (ld Y 0 O O (isAgg3 _) O) <| xx (v_le O O) <| xy O <| fun a Z => di (N := 18) (df := []) 6 [(12, .bool ((decide (0 ≤ b)) && (decide (b < d)))), (0, .agg #[jv b, jv d]), (1, pq w0.hz), (2, .bool false)] ?_ (fun hj => ?_)
 rotate_left
 ·rcases xH (decide (0 ≤ b)) with hb1 | hb1
  ·rw [hb1] at Z
   have hb1b := hb1
   try simp only [qz, xD, xX, xT, xZ] at hb1
   refine nv Z <| xA (ac (v := pq w0.hz) O kr) <| xA (ld Y 0 O O (isAgg3 _) O) <| xA (ac (v := po w0.hz 1) O kr) <| xA (ld Y 0 O O (isAgg3 _) O) <| xA (v_lt O O) <| xx (aw O O) <| fun a Z => hj _ ?_
   try rw [hb1b]
   exact Z.pick [12, 0, 1, 2]
  rw [hb1] at Z
  have hb1b := hb1
  try simp only [qz, xD, xX, xT, xZ] at hb1
  refine nv Z <| xB <| xB <| xB <| xB <| xB <| xx (ai O O) <| fun a Z => hj _ ?_
  try rw [hb1b]
  exact Z.pick [12, 0, 1, 2]
 intro a Z
 refine wlm Z O fun a Z => di (N := 18) (df := []) 4 [(17, .bool (((decide (0 ≤ b)) && (decide (b < d))) && (decide (d ≤ 10000001)))), (0, .agg #[jv b, jv d]), (1, pq w0.hz), (2, .bool false)] ?_ (fun hj => ?_)
 rotate_left
 ·rcases xH ((decide (0 ≤ b)) && (decide (b < d))) with hb2 | hb2
  ·rw [hb2] at Z
   have hb2b := hb2
   try simp only [qz, xD, xX, xT, xZ] at hb2
   refine nv Z <| xA (ac (v := po w0.hz 1) O kr) <| xA (ld Y 0 O O (isAgg3 _) O) <| xA (v_le O O) <| xx (aw O O) <| fun a Z => hj _ ?_
   try rw [hb2b]
   exact Z.pick [17, 0, 1, 2]
  rw [hb2] at Z
  have hb2b := hb2
  try simp only [qz, xD, xX, xT, xZ] at hb2
  refine nv Z <| xB <| xB <| xB <| xx (ai O O) <| fun a Z => hj _ ?_
  try rw [hb2b]
  exact Z.pick [17, 0, 1, 2]
 intro a Z
 refine wla Z O fun a Z => G2 <| ap ?_
 refine al Z results137 (ag O ae) ?_
 exact ⟨by rfl, Y.ext⟩
theorem iM (x : Wsh) (w0 : World) :
  Ret Tryz.prog 85 #[.agg #[jv x.signer, jv x.holder, jv x.rf, jv x.rt, jv x.carrier, jv x.serial, jv x.sf, jv x.st, sv x.sig]] w0 fun v w => v = .bool x.ok ∧ Ext No w0 w := by
 refine zA func85 O ntmps85 (lb O) fun a Z Y => ?_
 refine aa fun _ G1 => aS Z Y O [jv x.signer, jv x.holder, jv x.rf, jv x.rt, jv x.carrier, jv x.serial, jv x.sf, jv x.st, sv x.sig] O fun a w1 Z Y => wla Z O fun a Z => G1 <| aa fun _ G2 => ?_
 refine nv Z <| xx (ac (v := pq w0.hz) O kr) <| xx (ld Y 0 O O (isAgg3 _) O) <| fun a Z => ax Z Y call100 O (cY x.signer 0 63 _) fun a w2 Z Y => wlm Z O fun a Z => ?_
 rcases xH (inB x.signer 0 63) with hb1 | hb1
 ·rw [hb1] at Z
  refine nv Z <| xA (ac (v := po w0.hz 1) O kr) <| xA (ld Y 0 O O (isAgg3 _) O) <| fun a Z => aF Z Y call100 O (cY x.holder 0 63 _) fun a w3 Z Y => nv Z <| xx (aw O O) <| xz O <| fun a Z => G2 ?_
  refine aa fun _ G3 => nv (Z.p3 1 2 3 O) <| xy O <| xy O <| fun a Z => ?_
  rcases xH (inB x.holder 0 63) with hb2 | hb2
  ·rw [hb2] at Z
   refine nv Z <| xA (ac (v := po w0.hz 2) O kr) <| xA (bO (ds := [jv x.rf, jv x.rt]) (Y.g 0 O) O (isAgg87 _) (sizeOf87 _) O) <| fun a Z => aF Z Y call136 O (kH x.rf x.rt _) fun a w4 Z Y => nv Z <| xx (aw O O) <| xy O <| fun a Z => ?_
   rcases xH (cF x.rf x.rt) with hb3 | hb3
   ·rw [hb3] at Z
    refine nv Z <| xA (ac (v := po w0.hz 4) O kr) <| xA (ld Y 0 O O (isAgg3 _) O) <| fun a Z => aF Z Y call100 O (cY x.carrier 0 7 _) fun a w5 Z Y => nv Z <| xx (aw O O) <| xy O <| fun a Z => ?_
    rcases xH (inB x.carrier 0 7) with hb4 | hb4
    ·rw [hb4] at Z
     refine nv Z <| xA (ac (v := po w0.hz 5) O kr) <| xA (ld Y 0 O O (isAgg3 _) O) <| fun a Z => aF Z Y call100 O (cY x.serial 0 1000000 _) fun a w6 Z Y => nv Z <| xx (aw O O) <| xy O <| fun a Z => ?_
     rcases xH (inB x.serial 0 1000000) with hb5 | hb5
     ·rw [hb5] at Z
      refine nv Z <| xA (ac (v := po w0.hz 6) O kr) <| xA (bO (ds := [jv x.sf, jv x.st]) (Y.g 0 O) O (isAgg88 _) (sizeOf88 _) O) <| fun a Z => aF Z Y call137 O (kh x.sf x.st _) fun a w7 Z Y => nv Z <| xx (aw O O) <| xz O <| fun a Z => G3 ?_
      replace Z := Z.p1 2 O
      replace Y := Y.k0 0 O
      refine ap <| al Z results85 (ag O ae) ?_
      exact ⟨by simp only [retv]; unfold Wsh.ok; simp [hb1, hb2, hb3, hb4, hb5], Y.ext⟩
     rw [hb5] at Z
     refine nv Z <| xB <| xB <| xB <| xx (ai O O) <| xz O <| fun a Z => G3 ?_
     replace Z := Z.p1 2 O
     replace Y := Y.k0 0 O
     refine ap <| al Z results85 (ag O ae) ?_
     exact ⟨by simp only [retv]; unfold Wsh.ok; simp [hb1, hb2, hb3, hb4, hb5], Y.ext⟩
    rw [hb4] at Z
    refine nv Z <| xB <| xB <| xB <| xx (ai O O) <| xy O <| xB <| xB <| xB <| xx (ai O O) <| xz O <| fun a Z => G3 ?_
    replace Z := Z.p1 2 O
    replace Y := Y.k0 0 O
    refine ap <| al Z results85 (ag O ae) ?_
    exact ⟨by simp only [retv]; unfold Wsh.ok; simp [hb1, hb2, hb3, hb4], Y.ext⟩
   rw [hb3] at Z
   refine nv Z <| xB <| xB <| xB <| xx (ai O O) <| xy O <| xB <| xB <| xB <| xx (ai O O) <| xy O <| xB <| xB <| xB <| xx (ai O O) <| xz O <| fun a Z => G3 ?_
   replace Z := Z.p1 2 O
   replace Y := Y.k0 0 O
   refine ap <| al Z results85 (ag O ae) ?_
   exact ⟨by simp only [retv]; unfold Wsh.ok; simp [hb1, hb2, hb3], Y.ext⟩
  rw [hb2] at Z
  refine nv Z <| xB <| xB <| xB <| xx (ai O O) <| xy O <| xB <| xB <| xB <| xx (ai O O) <| xy O <| xB <| xB <| xB <| xx (ai O O) <| xy O <| xB <| xB <| xB <| xx (ai O O) <| xz O <| fun a Z => G3 ?_
  replace Z := Z.p1 2 O
  replace Y := Y.k0 0 O
  refine ap <| al Z results85 (ag O ae) ?_
  exact ⟨by simp only [retv]; unfold Wsh.ok; simp [hb1, hb2], Y.ext⟩
 rw [hb1] at Z
 refine nv Z <| xB <| xB <| xB <| xx (ai O O) <| xz O <| fun a Z => G2 ?_
 refine aa fun _ G4 => nv (Z.p3 1 2 3 O) <| xy O <| xy O <| xB <| xB <| xB <| xx (ai O O) <| xy O <| xB <| xB <| xB <| xx (ai O O) <| xy O <| xB <| xB <| xB <| xx (ai O O) <| xy O <| xB <| xB <| xB <| xx (ai O O) <| xz O <| fun a Z => G4 ?_
 replace Z := Z.p1 2 O
 replace Y := Y.k0 0 O
 refine ap <| al Z results85 (ag O ae) ?_
 exact ⟨by simp only [retv]; unfold Wsh.ok; simp [hb1], Y.ext⟩
theorem kX (x : Pxy) (w0 : World) :
  Ret Tryz.prog 178 #[.agg #[jv x.frm, jv x.to, jv x.rf, jv x.rt, jv x.sf, jv x.st, sv x.sig]] w0 fun v w => v = .bool x.ok ∧ Ext No w0 w := by
 refine zA func178 O ntmps178 (lb O) fun a Z Y => ?_
 refine aa fun _ G1 => aS Z Y O [jv x.frm, jv x.to, jv x.rf, jv x.rt, jv x.sf, jv x.st, sv x.sig] O fun a w1 Z Y => wla Z O fun a Z => G1 <| aa fun _ G2 => ?_
 refine nv Z <| xx (ac (v := pq w0.hz) O kr) <| xx (ld Y 0 O O (isAgg3 _) O) <| fun a Z => ax Z Y call100 O (cY x.frm 0 63 _) fun a w2 Z Y => wlm Z O fun a Z => ?_
 rcases xH (inB x.frm 0 63) with hb1 | hb1
 ·rw [hb1] at Z
  refine nv Z <| xA (ac (v := po w0.hz 1) O kr) <| xA (ld Y 0 O O (isAgg3 _) O) <| fun a Z => aF Z Y call100 O (cY x.to 0 63 _) fun a w3 Z Y => nv Z <| xx (aw O O) <| xy O <| fun a Z => ?_
  rcases xH (inB x.to 0 63) with hb2 | hb2
  ·rw [hb2] at Z
   refine nv Z <| xA (ac (v := pq w0.hz) O kr) <| xA (ld Y 0 O O (isAgg3 _) O) <| xA (ac (v := po w0.hz 1) O kr) <| xA (ld Y 0 O O (isAgg3 _) O) <| xA (v_ne O O) <| xx (aw O O) <| xz O <| fun a Z => G2 ?_
   refine aa fun _ G3 => nv (Z.p3 1 2 3 O) <| xy O <| xy O <| fun a Z => ?_
   rcases (Decidable.em (x.frm = x.to)).symm with hb3 | hb3
   ·rw [xK hb3] at Z
    refine nv Z <| xA (ac (v := po w0.hz 2) O kr) <| xA (bO (ds := [jv x.rf, jv x.rt]) (Y.g 0 O) O (isAgg87 _) (sizeOf87 _) O) <| fun a Z => aF Z Y call136 O (kH x.rf x.rt _) fun a w4 Z Y => nv Z <| xx (aw O O) <| xy O <| fun a Z => ?_
    rcases xH (cF x.rf x.rt) with hb4 | hb4
    ·rw [hb4] at Z
     refine nv Z <| xA (ac (v := po w0.hz 4) O kr) <| xA (bO (ds := [jv x.sf, jv x.st]) (Y.g 0 O) O (isAgg88 _) (sizeOf88 _) O) <| fun a Z => aF Z Y call137 O (kh x.sf x.st _) fun a w5 Z Y => nv Z <| xx (aw O O) <| xz O <| fun a Z => G3 ?_
     replace Z := Z.p1 2 O
     replace Y := Y.k0 0 O
     refine ap <| al Z results178 (ag O ae) ?_
     exact ⟨by simp only [retv]; unfold Pxy.ok; simp [hb1, hb2, hb3, hb4], Y.ext⟩
    rw [hb4] at Z
    refine nv Z <| xB <| xB <| xB <| xx (ai O O) <| xz O <| fun a Z => G3 ?_
    replace Z := Z.p1 2 O
    replace Y := Y.k0 0 O
    refine ap <| al Z results178 (ag O ae) ?_
    exact ⟨by simp only [retv]; unfold Pxy.ok; simp [hb1, hb2, hb3, hb4], Y.ext⟩
   rw [xF hb3] at Z
   refine nv Z <| xB <| xB <| xB <| xx (ai O O) <| xy O <| xB <| xB <| xB <| xx (ai O O) <| xz O <| fun a Z => G3 ?_
   replace Z := Z.p1 2 O
   replace Y := Y.k0 0 O
   refine ap <| al Z results178 (ag O ae) ?_
   exact ⟨by simp only [retv]; unfold Pxy.ok; simp [hb1, hb2, hb3], Y.ext⟩
  rw [hb2] at Z
  refine nv Z <| xB <| xB <| xB <| xB <| xB <| xx (ai O O) <| xz O <| fun a Z => G2 ?_
  refine aa fun _ G4 => nv (Z.p3 1 2 3 O) <| xy O <| xy O <| xB <| xB <| xB <| xx (ai O O) <| xy O <| xB <| xB <| xB <| xx (ai O O) <| xz O <| fun a Z => G4 ?_
  replace Z := Z.p1 2 O
  replace Y := Y.k0 0 O
  refine ap <| al Z results178 (ag O ae) ?_
  exact ⟨by simp only [retv]; unfold Pxy.ok; simp [hb1, hb2], Y.ext⟩
 rw [hb1] at Z
 refine nv Z <| xB <| xB <| xB <| xx (ai O O) <| xy O <| xB <| xB <| xB <| xB <| xB <| xx (ai O O) <| xz O <| fun a Z => G2 ?_
 refine aa fun _ G5 => nv (Z.p3 1 2 3 O) <| xy O <| xy O <| xB <| xB <| xB <| xx (ai O O) <| xy O <| xB <| xB <| xB <| xx (ai O O) <| xz O <| fun a Z => G5 ?_
 replace Z := Z.p1 2 O
 replace Y := Y.k0 0 O
 refine ap <| al Z results178 (ag O ae) ?_
 exact ⟨by simp only [retv]; unfold Pxy.ok; simp [hb1], Y.ext⟩
theorem wa {M : Nat → Prop} {w0 : World} (b bx : Nat) (v : Value) (x : Wsh) (ws : World) (hx : smalls x.nums) (Y : St M w0 [bld 162 b (.pointer none) v ([] : By), blk bx [jv x.signer, jv x.holder, jv x.rf, jv x.rt, jv x.carrier, jv x.serial, jv x.sf, jv x.st, sv x.sig] 90] ws) :
  Ret Tryz.prog 87 #[pq b, pq bx] ws fun u w => u = .tuple #[] ∧ ∃ v2, St M w0 [bld 162 b (pq b) v2 x.content, blk bx [jv x.signer, jv x.holder, jv x.rf, jv x.rt, jv x.carrier, jv x.serial, jv x.sf, jv x.st, sv x.sig] 90] w := by
 refine aB func87 O ntmps87 (lb O) fun a Z => ?_
 replace Z := Z.p2 0 1 O
 skip
 refine aj <| nv Z <| xy O <| xx (ao (Y.g 1 O) O (isAgg90 _) (sizeOf90 _)) <| fun a Z => aZ (R := fun u e' => u = .tuple #[] ∧ ∃ v2, e' = bld 162 b (pq b) v2 (([] : By) ++ x.content)) 0 Z Y O de call88 O (fun h => (kE 162 b _ _ _ x _ kr (.inl O) hx sm h).mono fun u w ⟨h1, v2, h2⟩ => ⟨_, ⟨h1, v2, O⟩, h2⟩) ?_
 clear Z Y
 rintro a w1 _ _ ⟨rfl, v1, rfl⟩ Z Y
 try dsimp only at Y
 replace Y := Y.n2 O
 refine ab <| cN Z results87 ae ?_
 exact ⟨O, _, Y.select [0, 1] de⟩
theorem uR {M : Nat → Prop} {w0 : World} (b bx : Nat) (v : Value) (x : Pxy) (ws : World) (hx : smalls x.nums) (Y : St M w0 [bld 162 b (.pointer none) v ([] : By), blk bx [jv x.frm, jv x.to, jv x.rf, jv x.rt, jv x.sf, jv x.st, sv x.sig] 144] ws) :
  Ret Tryz.prog 185 #[pq b, pq bx] ws fun u w => u = .tuple #[] ∧ ∃ v2, St M w0 [bld 162 b (pq b) v2 x.content, blk bx [jv x.frm, jv x.to, jv x.rf, jv x.rt, jv x.sf, jv x.st, sv x.sig] 144] w := by
 refine aB func185 O ntmps185 (lb O) fun a Z => ?_
 replace Z := Z.p2 0 1 O
 skip
 refine aj <| nv Z <| xy O <| xx (ao (Y.g 1 O) O (isAgg144 _) (sizeOf144 _)) <| fun a Z => aZ (R := fun u e' => u = .tuple #[] ∧ ∃ v2, e' = bld 162 b (pq b) v2 (([] : By) ++ x.content)) 0 Z Y O de call93 O (fun h => (iW 162 b _ _ _ x _ kr (.inl O) hx sm h).mono fun u w ⟨h1, v2, h2⟩ => ⟨_, ⟨h1, v2, O⟩, h2⟩) ?_
 clear Z Y
 rintro a w1 _ _ ⟨rfl, v1, rfl⟩ Z Y
 try dsimp only at Y
 replace Y := Y.n2 O
 refine ab <| cN Z results185 ae ?_
 exact ⟨O, _, Y.select [0, 1] de⟩
theorem uX {M : Nat → Prop} {w0 : World} (b bx : Nat) (v : Value) (x : Pxy) (ws : World) (hx : smalls x.nums) (Y : St M w0 [bld 162 b (.pointer none) v ([] : By), blk bx [jv x.frm, jv x.to, jv x.rf, jv x.rt, jv x.sf, jv x.st, sv x.sig] 144] ws) :
  Ret Tryz.prog 149 #[pq b, pq bx] ws fun u w => u = .tuple #[] ∧ ∃ v2, St M w0 [bld 162 b (pq b) v2 x.content, blk bx [jv x.frm, jv x.to, jv x.rf, jv x.rt, jv x.sf, jv x.st, sv x.sig] 144] w := by
 refine aB func149 O ntmps149 (lb O) fun a Z => ?_
 replace Z := Z.p2 0 1 O
 skip
 refine aj <| nv Z <| xy O <| xx (ao (Y.g 1 O) O (isAgg144 _) (sizeOf144 _)) <| fun a Z => aZ (R := fun u e' => u = .tuple #[] ∧ ∃ v2, e' = bld 162 b (pq b) v2 (([] : By) ++ x.content)) 0 Z Y O de call93 O (fun h => (iW 162 b _ _ _ x _ kr (.inl O) hx sm h).mono fun u w ⟨h1, v2, h2⟩ => ⟨_, ⟨h1, v2, O⟩, h2⟩) ?_
 clear Z Y
 rintro a w1 _ _ ⟨rfl, v1, rfl⟩ Z Y
 try dsimp only at Y
 replace Y := Y.n2 O
 refine ab <| cN Z results149 ae ?_
 exact ⟨O, _, Y.select [0, 1] de⟩
theorem wl {M : Nat → Prop} {w0 : World} (b bx : Nat) (v : Value) (x : Wsh) (ws : World) (hx : smalls x.nums) (Y : St M w0 [bld 162 b (.pointer none) v ([] : By), blk bx [jv x.signer, jv x.holder, jv x.rf, jv x.rt, jv x.carrier, jv x.serial, jv x.sf, jv x.st, sv x.sig] 90] ws) :
  Ret Tryz.prog 150 #[pq b, pq bx] ws fun u w => u = .tuple #[] ∧ ∃ v2, St M w0 [bld 162 b (pq b) v2 x.content, blk bx [jv x.signer, jv x.holder, jv x.rf, jv x.rt, jv x.carrier, jv x.serial, jv x.sf, jv x.st, sv x.sig] 90] w := by
 refine aB func150 O ntmps150 (lb O) fun a Z => ?_
 replace Z := Z.p2 0 1 O
 skip
 refine aj <| nv Z <| xy O <| xx (ao (Y.g 1 O) O (isAgg90 _) (sizeOf90 _)) <| fun a Z => aZ (R := fun u e' => u = .tuple #[] ∧ ∃ v2, e' = bld 162 b (pq b) v2 (([] : By) ++ x.content)) 0 Z Y O de call88 O (fun h => (kE 162 b _ _ _ x _ kr (.inl O) hx sm h).mono fun u w ⟨h1, v2, h2⟩ => ⟨_, ⟨h1, v2, O⟩, h2⟩) ?_
 clear Z Y
 rintro a w1 _ _ ⟨rfl, v1, rfl⟩ Z Y
 try dsimp only at Y
 replace Y := Y.n2 O
 refine ab <| cN Z results150 ae ?_
 exact ⟨O, _, Y.select [0, 1] de⟩
theorem iu {n : Int} {l : List Int} : puts (n :: l) ≠ [] := fun h => by
 have := (bY n).1
 simp only [puts, yn, List.append_eq_nil_iff] at h
 rw [h.1] at this; simp at this
theorem oo (key : By) (x : Wsh) (w0 : World) (hk : key.length = 32) (hok : x.ok = true) (hk0 : (blk 0 (kOf.map wv) 258).ok w0) :
  Ret Tryz.prog 34 #[sv key, .agg #[jv x.signer, jv x.holder, jv x.rf, jv x.rt, jv x.carrier, jv x.serial, jv x.sf, jv x.st, sv x.sig]] w0 fun v w => v = .tuple #[.agg (x.sealed key).cells.toArray, jv 0] ∧ Ext No w0 w := by
 refine aB func34 O ntmps34 (lb O) fun a Z => ?_
 replace Y : St (· = 0) w0 [blk 0 (kOf.map wv) 258] w0 := St.one hk0
 refine aa fun _ G1 => aS (Z.p2 0 1 O) Y O [jv x.signer, jv x.holder, jv x.rf, jv x.rt, jv x.carrier, jv x.serial, jv x.sf, jv x.st, sv x.sig] O fun a w1 Z Y => aC Z Y (zeroValue90 _) [jv 0, jv 0, jv 0, jv 0, jv 0, jv 0, jv 0, jv 0, .string (⟨#[]⟩)] O fun a w2 Z Y => wla Z O fun a Z => G1 <| ah fun _ G2 => ?_
 refine aa fun _ G3 => wlm Z O fun a Z => ax Z Y call84 O (j7 key _) fun a w3 Z Y => nv Z <| xx (bD O) <| xy O <| fun a Z => ?_
 rcases (Decidable.em ((key.length : Int) = 32)).symm with hb1 | hb1
 ·rw [xK hb1] at Z
  exfalso; omega
 rw [xF hb1] at Z
 refine wly Z (ao (Y.g 1 O) O (isAgg90 _) (sizeOf90 _)) fun a Z => aF Z Y call85 O (iM x _) fun a w4 Z Y => nv Z <| xA (bD O) <| xx (ai O O) <| fun a Z => G3 ?_
 replace Z := Z.p5 0 3 4 5 13 O
 refine bu Z O (fun hc2 => ?_) (fun hc2 => ?_)
 ·try simp only [qz] at hc2
  simp [hok] at hc2
 try simp only [qz] at hc2
 refine au <| G2 <| aa fun _ G4 => nv Z <| xy O <| xx (cd O O) <| fun a Z => ?_
 replace Y := Y.s3 [2, 1, 0] de rfl
 replace Y := St.join [blk 0 (kOf.map wv) 258, blk w0.hz [jv x.signer, jv x.holder, jv x.rf, jv x.rt, jv x.carrier, jv x.serial, jv x.sf, jv x.st, sv x.sig] 90] [blk w1.hz [jv 0, jv 0, jv 0, jv 0, jv 0, jv 0, jv 0, jv 0, .string (⟨#[]⟩)] 90] Y
 refine aZ (R := fun u e' => u = sv (sealH key x.content) ∧ e' = join [blk 0 (kOf.map wv) 258, blk w0.hz [jv x.signer, jv x.holder, jv x.rf, jv x.rt, jv x.carrier, jv x.serial, jv x.sf, jv x.st, sv x.sig] 90]) 0 Z Y O de call86 O (fun h => (nh key x.content 87 [pq w0.hz] (blk w0.hz [jv x.signer, jv x.holder, jv x.rf, jv x.rt, jv x.carrier, jv x.serial, jv x.sf, jv x.st, sv x.sig] 90) _ call87 (fun b v ws h => wa b _ v x ws (Wsh.smalls_of hok) h) iu om (yB x.content_len de) (St.unjoin [blk 0 (kOf.map wv) 258, blk w0.hz [jv x.signer, jv x.holder, jv x.rf, jv x.rt, jv x.carrier, jv x.serial, jv x.sf, jv x.st, sv x.sig] 90] [] h)).mono fun u w ⟨h1, h2⟩ => ⟨_, ⟨h1, O⟩, St.join _ [] h2⟩) ?_
 clear Z Y
 rintro a w5 _ _ ⟨rfl, rfl⟩ Z Y
 replace Y : St (· = 0) w0 [blk 0 (kOf.map wv) 258, blk w0.hz [jv x.signer, jv x.holder, jv x.rf, jv x.rt, jv x.carrier, jv x.serial, jv x.sf, jv x.st, sv x.sig] 90, blk w1.hz [jv 0, jv 0, jv 0, jv 0, jv 0, jv 0, jv 0, jv 0, .string (⟨#[]⟩)] 90] w5 := St.unjoin [blk 0 (kOf.map wv) 258, blk w0.hz [jv x.signer, jv x.holder, jv x.rf, jv x.rt, jv x.carrier, jv x.serial, jv x.sf, jv x.st, sv x.sig] 90] [blk w1.hz [jv 0, jv 0, jv 0, jv 0, jv 0, jv 0, jv 0, jv 0, .string (⟨#[]⟩)] 90] Y
 refine wlv Z (ac (v := po w0.hz 8) O kr) fun a Z => az 1 Z Y [jv x.signer, jv x.holder, jv x.rf, jv x.rt, jv x.carrier, jv x.serial, jv x.sf, jv x.st, sv (sealH key x.content)] O (sizeOf9 _) fun a w6 Z Y => G4 ?_
 refine aa fun _ G5 => wlv (Z.p3 3 4 5 O) (ao (Y.g 1 O) O (isAgg90 _) (sizeOf90 _)) fun a Z => az 2 Z Y [jv x.signer, jv x.holder, jv x.rf, jv x.rt, jv x.carrier, jv x.serial, jv x.sf, jv x.st, sv (sealH key x.content)] O (sizeOf90 _) fun a w7 Z Y => wla Z O fun a Z => G5 <| ap ?_
 refine al Z results34 (ak O (bf (Y.g 2 O) (isAgg90 _) (sizeOf90 _)) (ag O ae)) ?_
 exact ⟨O, Y.ext.const hk0 (Y.g 0 O)⟩
theorem ni (key : By) (x : Pxy) (w0 : World) (hk : key.length = 32) (hok : x.ok = true) (hk0 : (blk 0 (kOf.map wv) 258).ok w0) :
  Ret Tryz.prog 151 #[sv key, .agg #[jv x.frm, jv x.to, jv x.rf, jv x.rt, jv x.sf, jv x.st, sv x.sig]] w0 fun v w => v = .tuple #[.agg (x.sealed key).cells.toArray, jv 0] ∧ Ext No w0 w := by
 refine aB func151 O ntmps151 (lb O) fun a Z => ?_
 replace Y : St (· = 0) w0 [blk 0 (kOf.map wv) 258] w0 := St.one hk0
 refine aa fun _ G1 => aS (Z.p2 0 1 O) Y O [jv x.frm, jv x.to, jv x.rf, jv x.rt, jv x.sf, jv x.st, sv x.sig] O fun a w1 Z Y => aC Z Y (zeroValue144 _) [jv 0, jv 0, jv 0, jv 0, jv 0, jv 0, .string (⟨#[]⟩)] O fun a w2 Z Y => wla Z O fun a Z => G1 <| ah fun _ G2 => ?_
 refine aa fun _ G3 => wlm Z O fun a Z => ax Z Y call84 O (j7 key _) fun a w3 Z Y => nv Z <| xx (bD O) <| xy O <| fun a Z => ?_
 rcases (Decidable.em ((key.length : Int) = 32)).symm with hb1 | hb1
 ·rw [xK hb1] at Z
  exfalso; omega
 rw [xF hb1] at Z
 refine wly Z (ao (Y.g 1 O) O (isAgg144 _) (sizeOf144 _)) fun a Z => aF Z Y call178 O (kX x _) fun a w4 Z Y => nv Z <| xA (bD O) <| xx (ai O O) <| fun a Z => G3 ?_
 replace Z := Z.p5 0 3 4 5 13 O
 refine bu Z O (fun hc2 => ?_) (fun hc2 => ?_)
 ·try simp only [qz] at hc2
  simp [hok] at hc2
 try simp only [qz] at hc2
 refine au <| G2 <| aa fun _ G4 => nv Z <| xy O <| xx (cd O O) <| fun a Z => ?_
 replace Y := Y.s3 [2, 1, 0] de rfl
 replace Y := St.join [blk 0 (kOf.map wv) 258, blk w0.hz [jv x.frm, jv x.to, jv x.rf, jv x.rt, jv x.sf, jv x.st, sv x.sig] 144] [blk w1.hz [jv 0, jv 0, jv 0, jv 0, jv 0, jv 0, .string (⟨#[]⟩)] 144] Y
 refine aZ (R := fun u e' => u = sv (sealH key x.content) ∧ e' = join [blk 0 (kOf.map wv) 258, blk w0.hz [jv x.frm, jv x.to, jv x.rf, jv x.rt, jv x.sf, jv x.st, sv x.sig] 144]) 0 Z Y O de call86 O (fun h => (nh key x.content 185 [pq w0.hz] (blk w0.hz [jv x.frm, jv x.to, jv x.rf, jv x.rt, jv x.sf, jv x.st, sv x.sig] 144) _ call185 (fun b v ws h => uR b _ v x ws (Pxy.smalls_of hok) h) iu om (yB x.content_len de) (St.unjoin [blk 0 (kOf.map wv) 258, blk w0.hz [jv x.frm, jv x.to, jv x.rf, jv x.rt, jv x.sf, jv x.st, sv x.sig] 144] [] h)).mono fun u w ⟨h1, h2⟩ => ⟨_, ⟨h1, O⟩, St.join _ [] h2⟩) ?_
 clear Z Y
 rintro a w5 _ _ ⟨rfl, rfl⟩ Z Y
 replace Y : St (· = 0) w0 [blk 0 (kOf.map wv) 258, blk w0.hz [jv x.frm, jv x.to, jv x.rf, jv x.rt, jv x.sf, jv x.st, sv x.sig] 144, blk w1.hz [jv 0, jv 0, jv 0, jv 0, jv 0, jv 0, .string (⟨#[]⟩)] 144] w5 := St.unjoin [blk 0 (kOf.map wv) 258, blk w0.hz [jv x.frm, jv x.to, jv x.rf, jv x.rt, jv x.sf, jv x.st, sv x.sig] 144] [blk w1.hz [jv 0, jv 0, jv 0, jv 0, jv 0, jv 0, .string (⟨#[]⟩)] 144] Y
 refine wlv Z (ac (v := po w0.hz 6) O kr) fun a Z => az 1 Z Y [jv x.frm, jv x.to, jv x.rf, jv x.rt, jv x.sf, jv x.st, sv (sealH key x.content)] O (sizeOf9 _) fun a w6 Z Y => G4 ?_
 refine aa fun _ G5 => wlv (Z.p3 3 4 5 O) (ao (Y.g 1 O) O (isAgg144 _) (sizeOf144 _)) fun a Z => az 2 Z Y [jv x.frm, jv x.to, jv x.rf, jv x.rt, jv x.sf, jv x.st, sv (sealH key x.content)] O (sizeOf144 _) fun a w7 Z Y => wla Z O fun a Z => G5 <| ap ?_
 refine al Z results151 (ak O (bf (Y.g 2 O) (isAgg144 _) (sizeOf144 _)) (ag O ae)) ?_
 exact ⟨O, Y.ext.const hk0 (Y.g 0 O)⟩
theorem ma {M : Nat → Prop} {wb : World} {H : List Ent} {sv : Value} {els : List (List Value)} {caps : List Value} {g : FuncId} (p : Nat → Bool) (ev_ : Nat → Value) (J : Nat → Ent → Prop) (e0 : Ent) (w0 : World)
  (hen : ∀ args w, (callFunc g args).run Tryz.prog w = .ok (.enter g args) w) (hs : ∀ e w, St M wb (e :: H) w → SlAt w sv 7 els)
  (hev : ∀ k (h : k < els.length), .agg (els[k]).toArray = ev_ k) (hJ0 : J 0 e0) (Y : St M wb (e0 :: H) w0)
  (hcl : ∀ k e w, k < els.length → J k e → e.ok w → (∀ b, e.foot b → b < w.hz) → Ret Tryz.prog g ([ev_ k] ++ caps).toArray w fun v w' => v = .bool (p k) ∧ ∃ e', Ext e.foot w w' ∧ e'.ok w' ∧ (∀ b, e'.foot b → b < w'.heap.size ∧ (e.foot b ∨ w.hz ≤ b)) ∧ J (k + 1) e') :
  Ret Tryz.prog 141 #[sv, .func (.func g) #[] caps.toArray] w0 fun v w => v = jv (fstIdx p els.length) ∧ ∃ k e', J k e' ∧ St M wb (e' :: H) w := by
 have hsl := (hs _ _ Y).le
 refine aB func141 O ntmps141 (lb O) fun a Z => aa fun _ G1 => wla (Z.p2 0 1 O) O fun a Z => G1 <| ah fun _ G2 => ?_
 refine aa fun _ G3 => nv Z <| xy O <| xx (aL (sT := 91) (hs _ _ Y) O O (runUnderlying91 _)) <| xy O <| fun a Z => G3 <| ar ?_
 refine aW (fun m a w => ∃ (k : Nat) (e : Ent), m = els.length - k ∧ (k ≤ els.length) ∧ (∀ j, j < k → p j = false) ∧ (J k e) ∧ Fr 19 [(0, sv), (1, .func (.func g) #[] caps.toArray), (6, sv), (7, jv els.length), (8, jv (k : Int))] [] a ∧ St M wb (e :: H) w) _ ⟨0, e0, O, yc _, (by intro j hj; omega), hJ0, Z.pick [0, 1, 6, 7, 8], Y⟩ ?_
 rintro _ a w1 ⟨k, e, rfl, hk, hp, hJ, Z, Y⟩
 refine aa fun _ G4 => wlv Z (v_lt O O) fun a Z => G4 <| ah fun _ G5 => ?_
 refine aA Z O (fun hc1 => ?_) (fun hc1 => ?_)
 ·rw [xF hc1] at Z
  refine au <| G5 <| ah fun _ G6 => ar <| aa fun _ G7 => nv Z <| xy O <| xz O <| fun a Z => G7 <| aa fun _ G8 => ?_
  refine nv Z <| xy O <| xy O <| xy O <| xx ((am (i := (k : Int)) (sT := 91) (hs _ _ Y) O O (runUnderlying91 _) (sizeOf144 _) om om).as (v' := slAddr sv (k * 7)) O) <| xx ((bL (hs _ _ Y) (i := k) om O (isAgg144 _) (sizeOf144 _)).as (v' := ev_ k) (hev k om)) <| fun a Z => wl_r (gn (cap := caps) O hen O (hcl k _ _ om hJ (Y.g 0 O) (fun b hb => Y.lt (k := 0) O hb))) O O Z fun a v w2 hR Z => ?_
  obtain ⟨rfl, e1, hx, hok, hft, hJ1⟩ := hR
  have Y := Y.exchange (k := 0) rfl hx hok hft
  have Y : St M wb (e1 :: H) w2 := Y
  refine G8 <| bu Z O (fun hc2 => ?_) (fun hc2 => ?_)
  ·rw [hc2] at Z
   refine aa fun _ G9 => nv Z <| xy O <| xz O <| fun a Z => G9 <| ap ?_
   refine al Z results141 (ag O ae) ?_
   exact ⟨by rw [eR (k := k) om hp zM]; rfl, _, _, hJ1, Y⟩
  rw [hc2] at Z
  refine au <| G6 <| aj <| nv Z <| xx (aP O O ⟨om, om⟩) <| xy O <| fun a Z => ab ?_
  refine ⟨_, ?_, k + 1, e1, O, om, AD, hJ1, Z.pick [0, 1, 6, 7, 8], Y⟩
  omega
 rw [xK hc1] at Z
 refine aO <| G2 <| aa fun _ G10 => wla Z O fun a Z => G10 <| ap ?_
 refine al Z results141 (ag O ae) ?_
 have hkl : k = els.length := by omega
 subst hkl
 exact ⟨by rw [eV hp]; rfl, _, _, hJ, Y⟩
theorem rT {sv : Value} {xs : List Pxy} {g : FuncId} (p : Pxy → Bool) (w0 : World) (hen : ∀ args w, (callFunc g args).run Tryz.prog w = .ok (.enter g args) w) (hs : SlAt w0 sv 7 (xs.map Pxy.cells))
  (hcl : ∀ (x : Pxy) (w : World), Ret Tryz.prog g #[.agg x.cells.toArray] w fun v w' => v = .bool (p x) ∧ Ext No w w') :
  Ret Tryz.prog 141 #[sv, .func (.func g) #[] #[]] w0 fun v w => v = jv (fstIdx (fun k => p (xs.getD k Pxy.z)) xs.length) ∧ Ext No w0 w := by
 have Y : St No w0 [join []] w0 := St.join [] [] (St.init w0)
 have h := ma (M := No) (wb := w0) (H := []) (sv := sv) (els := xs.map Pxy.cells) (caps := []) (g := g) (fun k => p (xs.getD k Pxy.z)) (fun k => .agg (xs.getD k Pxy.z).cells.toArray) (fun _ e => e = join []) (join []) w0 hen
  (fun e w h => h.arg hs) (fun k h => by rw [bA Pxy.z]) rfl Y (fun k e w hk he hok hlt => by
   subst he
   refine (hcl _ w).mono fun v w' ⟨h1, h2⟩ => ⟨h1, join [], h2.mono (fun k _ hk => hk.elim), ?_, ?_, O⟩
   ·exact ⟨fun e he => (by cases he), List.Pairwise.nil⟩
   ·rintro b ⟨e, he, _⟩
    cases he)
 refine h.mono fun v w ⟨h1, k, e, he, Y⟩ => ⟨by rw [h1, xC], Y.ext⟩
theorem ul (x : Pxy) (w0 : World) :
  Ret Tryz.prog 177 #[.agg #[jv x.frm, jv x.to, jv x.rf, jv x.rt, jv x.sf, jv x.st, sv x.sig]] w0 fun v w => v = .bool (!x.ok) ∧ Ext No w0 w := by
 refine zA func177 O ntmps177 (lb O) fun a Z Y => ?_
 refine aa fun _ G1 => aS Z Y O [jv x.frm, jv x.to, jv x.rf, jv x.rt, jv x.sf, jv x.st, sv x.sig] O fun a w1 Z Y => wla Z O fun a Z => G1 <| aa fun _ G2 => ?_
 refine wlv Z (ao (Y.g 0 O) O (isAgg144 _) (sizeOf144 _)) fun a Z => ax Z Y call178 O (kX x _) fun a w2 Z Y => nv Z <| xx (bD O) <| xz O <| fun a Z => G2 <| ap ?_
 refine al Z results177 (ag O ae) ?_
 exact ⟨by rfl, Y.ext⟩
def badN (xs : List Pxy) : Int := fstIdx (fun k => !(xs.getD k Pxy.z).ok) xs.length
theorem rB (v : Value) (xs : List Pxy) (w0 : World) (hv : SlAt w0 v 7 (xs.map Pxy.cells)) : Ret Tryz.prog 141 #[v, .func (.func 177) #[] #[]] w0 fun v w => v = jv (badN xs) ∧ Ext No w0 w :=
 rT (fun x => !x.ok) w0 call177 hv (fun x w => ul x w)
theorem jg (lv : Value) (xs : List Pxy) (w0 : World) (hlv : SlAt w0 lv 7 (xs.map Pxy.cells)) :
  Ret Tryz.prog 140 #[lv] w0 fun v w => v = jv (badN xs) ∧ Ext No w0 w := by
 refine zA func140 O ntmps140 (lb O) fun a Z Y => ?_
 refine aa fun _ G1 => wla Z O fun a Z => G1 <| aa fun _ G2 => ?_
 refine wlm Z O fun a Z => ax Z Y call141 O (rB lv xs _ (Y.arg hlv)) fun a w1 Z Y => wla Z O fun a Z => G2 <| ap ?_
 refine al Z results140 (ag O ae) ?_
 exact ⟨by rfl, Y.ext⟩
theorem rg (x : Wsh) (lv : Value) (xs : List Pxy) (w0 : World) (hlv : SlAt w0 lv 7 (xs.map Pxy.cells)) :
  Ret Tryz.prog 90 #[.agg #[jv x.signer, jv x.holder, jv x.rf, jv x.rt, jv x.carrier, jv x.serial, jv x.sf, jv x.st, sv x.sig], lv] w0 fun v w => v = .bool (x.ok && decide ((xs.length : Int) ≤ 4) && decide (badN xs < 0)) ∧ Ext No w0 w := by
 refine zy func90 O ntmps90 (lb O) fun a Z Y => ?_
 refine aa fun _ G1 => aS Z Y O [jv x.signer, jv x.holder, jv x.rf, jv x.rt, jv x.carrier, jv x.serial, jv x.sf, jv x.st, sv x.sig] O fun a w1 Z Y => wla Z O fun a Z => G1 <| aa fun _ G2 => ?_
 refine wlv Z (ao (Y.g 0 O) O (isAgg90 _) (sizeOf90 _)) fun a Z => ax Z Y call85 O (iM x _) fun a w2 Z Y => wlm Z O fun a Z => ?_
 rcases xH (x.ok) with hb1 | hb1
 ·rw [hb1] at Z
  refine nv Z <| xA (ay O) <| xA ((aL (sT := 91) (Y.arg hlv) O O (runUnderlying91 _)).asi (m' := (xs.length : Int)) z6) <| xA (v_le O O) <| xx (aw O O) <| xy O <| fun a Z => ?_
  rcases Decidable.em ((xs.length : Int) ≤ 4) with hb2 | hb2
  ·rw [xF hb2] at Z
   refine wly Z (ay O) fun a Z => aF Z Y call140 O (jg lv xs _ (Y.arg hlv)) fun a w3 Z Y => nv Z <| xA (v_lt O O) <| xx (aw O O) <| xz O <| fun a Z => G2 ?_
   replace Z := Z.p4 0 1 2 4 O
   refine ap <| al Z results90 (ag O ae) ?_
   exact ⟨by simp only [retv]; simp [hb1, hb2], Y.ext⟩
  rw [xK hb2] at Z
  refine nv Z <| xB <| xB <| xB <| xx (ai O O) <| xz O <| fun a Z => G2 ?_
  replace Z := Z.p4 0 1 2 4 O
  refine ap <| al Z results90 (ag O ae) ?_
  exact ⟨by simp only [retv]; simp [hb1, hb2], Y.ext⟩
 rw [hb1] at Z
 refine nv Z <| xB <| xB <| xB <| xx (ai O O) <| xy O <| xB <| xB <| xB <| xx (ai O O) <| xz O <| fun a Z => G2 ?_
 replace Z := Z.p4 0 1 2 4 O
 refine ap <| al Z results90 (ag O ae) ?_
 exact ⟨by simp only [retv]; simp [hb1], Y.ext⟩
theorem qW (rf rt sf st : Int) (x : Pxy) (w0 : World) :
  Ret Tryz.prog 184 #[.agg #[jv rf, jv rt], .agg #[jv sf, jv st], .agg #[jv x.frm, jv x.to, jv x.rf, jv x.rt, jv x.sf, jv x.st, sv x.sig]] w0 fun v w => v = .bool (isInH rf rt sf st x) ∧ Ext No w0 w := by
 refine zB func184 O ntmps184 (lb O) fun a Z Y => ?_
 refine aa fun _ G1 => aS Z Y O [jv rf, jv rt] O fun a w1 Z Y => aS Z Y O [jv sf, jv st] O fun a w2 Z Y => aS Z Y O [jv x.frm, jv x.to, jv x.rf, jv x.rt, jv x.sf, jv x.st, sv x.sig] O fun a w3 Z Y => wla Z O fun a Z => G1 <| aa fun _ G2 => ?_
 refine nv Z <| xx (ac (v := po w2.hz 2) O kr) <| xx (ac (v := po w2.hz 2) O kr) <| xx (ld Y 0 O O (isAgg3 _) O) <| xx (ac (v := pq w0.hz) O kr) <| xx (ld Y 2 O O (isAgg3 _) O) <| xx (v_le O O) <| xy O <| fun a Z => di (N := 37) (df := []) 7 [(20, .bool ((decide (x.rf ≤ rf)) && (decide (rt ≤ x.rt)))), (0, .agg #[jv rf, jv rt]), (1, .agg #[jv sf, jv st]), (2, .agg #[jv x.frm, jv x.to, jv x.rf, jv x.rt, jv x.sf, jv x.st, sv x.sig]), (3, pq w0.hz), (4, pq w1.hz), (5, pq w2.hz), (6, .bool false)] ?_ (fun hj => ?_)
 rotate_left
 ·rcases xH (decide (x.rf ≤ rf)) with hb1 | hb1
  ·rw [hb1] at Z
   have hb1b := hb1
   try simp only [qz, xD, xX, xT, xZ] at hb1
   refine nv Z <| xA (ac (v := po w0.hz 1) O kr) <| xA (ld Y 2 O O (isAgg3 _) O) <| xA (ac (v := po w2.hz 2) O kr) <| xA (ac (v := po w2.hz 3) O kr) <| xA (ld Y 0 O O (isAgg3 _) O) <| xA (v_le O O) <| xx (aw O O) <| fun a Z => hj _ ?_
   try rw [hb1b]
   exact Z.pick [20, 0, 1, 2, 3, 4, 5, 6]
  rw [hb1] at Z
  have hb1b := hb1
  try simp only [qz, xD, xX, xT, xZ] at hb1
  refine nv Z <| xB <| xB <| xB <| xB <| xB <| xB <| xx (ai O O) <| fun a Z => hj _ ?_
  try rw [hb1b]
  exact Z.pick [20, 0, 1, 2, 3, 4, 5, 6]
 intro a Z
 refine wlm Z O fun a Z => di (N := 37) (df := []) 7 [(28, .bool (((decide (x.rf ≤ rf)) && (decide (rt ≤ x.rt))) && (decide (x.sf ≤ sf)))), (0, .agg #[jv rf, jv rt]), (1, .agg #[jv sf, jv st]), (2, .agg #[jv x.frm, jv x.to, jv x.rf, jv x.rt, jv x.sf, jv x.st, sv x.sig]), (3, pq w0.hz), (4, pq w1.hz), (5, pq w2.hz), (6, .bool false)] ?_ (fun hj => ?_)
 rotate_left
 ·rcases xH ((decide (x.rf ≤ rf)) && (decide (rt ≤ x.rt))) with hb2 | hb2
  ·rw [hb2] at Z
   have hb2b := hb2
   try simp only [qz, xD, xX, xT, xZ] at hb2
   refine nv Z <| xA (ac (v := po w2.hz 4) O kr) <| xA (ac (v := po w2.hz 4) O kr) <| xA (ld Y 0 O O (isAgg3 _) O) <| xA (ac (v := pq w1.hz) O kr) <| xA (ld Y 1 O O (isAgg3 _) O) <| xA (v_le O O) <| xx (aw O O) <| fun a Z => hj _ ?_
   try rw [hb2b]
   exact Z.pick [28, 0, 1, 2, 3, 4, 5, 6]
  rw [hb2] at Z
  have hb2b := hb2
  try simp only [qz, xD, xX, xT, xZ] at hb2
  refine nv Z <| xB <| xB <| xB <| xB <| xB <| xB <| xx (ai O O) <| fun a Z => hj _ ?_
  try rw [hb2b]
  exact Z.pick [28, 0, 1, 2, 3, 4, 5, 6]
 intro a Z
 refine wlm Z O fun a Z => di (N := 37) (df := []) 7 [(36, .bool ((((decide (x.rf ≤ rf)) && (decide (rt ≤ x.rt))) && (decide (x.sf ≤ sf))) && (decide (st ≤ x.st)))), (0, .agg #[jv rf, jv rt]), (1, .agg #[jv sf, jv st]), (2, .agg #[jv x.frm, jv x.to, jv x.rf, jv x.rt, jv x.sf, jv x.st, sv x.sig]), (3, pq w0.hz), (4, pq w1.hz), (5, pq w2.hz), (6, .bool false)] ?_ (fun hj => ?_)
 rotate_left
 ·rcases xH (((decide (x.rf ≤ rf)) && (decide (rt ≤ x.rt))) && (decide (x.sf ≤ sf))) with hb3 | hb3
  ·rw [hb3] at Z
   have hb3b := hb3
   try simp only [qz, xD, xX, xT, xZ] at hb3
   refine nv Z <| xA (ac (v := po w1.hz 1) O kr) <| xA (ld Y 1 O O (isAgg3 _) O) <| xA (ac (v := po w2.hz 4) O kr) <| xA (ac (v := po w2.hz 5) O kr) <| xA (ld Y 0 O O (isAgg3 _) O) <| xA (v_le O O) <| xx (aw O O) <| fun a Z => hj _ ?_
   try rw [hb3b]
   exact Z.pick [36, 0, 1, 2, 3, 4, 5, 6]
  rw [hb3] at Z
  have hb3b := hb3
  try simp only [qz, xD, xX, xT, xZ] at hb3
  refine nv Z <| xB <| xB <| xB <| xB <| xB <| xB <| xx (ai O O) <| fun a Z => hj _ ?_
  try rw [hb3b]
  exact Z.pick [36, 0, 1, 2, 3, 4, 5, 6]
 intro a Z
 refine wla Z O fun a Z => G2 ?_
 replace Z := Z.p1 6 O
 replace Y := Y.k0 0 O
 refine ap <| al Z results184 (ag O ae) ?_
 exact ⟨by rfl, Y.ext⟩
def prevP (xs : List Pxy) (k : Nat) : Option Pxy := if k = 0 then none else some (xs.getD (k - 1) Pxy.z)
theorem dB {α : Type} {xs : List α} {k : Nat} (d : α) (h : k < xs.length) : xs.drop k = xs.getD k d :: xs.drop (k + 1) := by
 rw [yz h, xJ, xM h]; rfl
def scopeV (x : Wsh) (xs : List Pxy) : Int × Bool := match bB x none xs 0 with | some n => (n, true) | none => (-1, false)
theorem jW {x : Wsh} {xs : List Pxy} (h : bB x none xs 0 = none) : scopeV x xs = (-1, false) := by unfold scopeV; rw [h]
theorem kK {x : Wsh} {xs : List Pxy} {n : Int} (h : bB x none xs 0 = some n) : scopeV x xs = (n, true) := by unfold scopeV; rw [h]
theorem kp {x : Wsh} {xs : List Pxy} {k : Nat} (hk : k < xs.length) (h : k = 0 ∨ isInH (xs.getD k Pxy.z).rf (xs.getD k Pxy.z).rt (xs.getD k Pxy.z).sf (xs.getD k Pxy.z).st (xs.getD (k - 1) Pxy.z) = true) :
  bB x (prevP xs k) (xs.drop k) k = bB x (prevP xs (k + 1)) (xs.drop (k + 1)) (k + 1) := by
 rw [dB Pxy.z hk]
 by_cases h0 : k = 0
 ·subst h0; rfl
 ·unfold prevP
  rw [xW h0, xW om, bB, xY (h.resolve_left h0)]; rfl
theorem sN {x : Wsh} {xs : List Pxy} {k : Nat} (hk : k < xs.length) (h0 : 0 < k) (h : isInH (xs.getD k Pxy.z).rf (xs.getD k Pxy.z).rt (xs.getD k Pxy.z).sf (xs.getD k Pxy.z).st (xs.getD (k - 1) Pxy.z) = false) :
  bB x (prevP xs k) (xs.drop k) k = some (k : Int) := by
 rw [dB Pxy.z hk]
 unfold prevP
 rw [xW om, bB, xW (by rw [h]; simp)]
theorem sI {x : Wsh} {xs : List Pxy} : bB x (prevP xs xs.length) (xs.drop xs.length) xs.length = if xs.length = 0 ∨ isInH x.rf x.rt x.sf x.st (xs.getD (xs.length - 1) Pxy.z) = true then none else some (-1) := by
 rw [List.drop_length]
 unfold prevP
 by_cases h0 : xs.length = 0
 ·rw [xY h0, xY (.inl h0)]; rfl
 ·rw [xW h0, bB]; simp [h0]
theorem pk {x : Wsh} {xs : List Pxy} (h : xs.length = 0) (hs : bB x none xs 0 = if xs.length = 0 ∨ isInH x.rf x.rt x.sf x.st (xs.getD (xs.length - 1) Pxy.z) = true then none else some (-1)) : scopeV x xs = (-1, false) := by
 rw [xY (.inl h)] at hs; exact jW hs
theorem pC {x : Wsh} {xs : List Pxy} (h : 0 < xs.length) (hs : bB x none xs 0 = if xs.length = 0 ∨ isInH x.rf x.rt x.sf x.st (xs.getD (xs.length - 1) Pxy.z) = true then none else some (-1)) : scopeV x xs = (-1, !isInH x.rf x.rt x.sf x.st (xs.getD (xs.length - 1) Pxy.z)) := by
 cases hc : isInH x.rf x.rt x.sf x.st (xs.getD (xs.length - 1) Pxy.z) with
 | true => rw [xY (.inr hc)] at hs; exact jW hs
 | false => rw [xW (fun hh => by rcases hh with hh | hh; omega; rw [hc] at hh; cases hh)] at hs; exact kK hs
theorem sW (x : Wsh) (lv : Value) (xs : List Pxy) (w0 : World) (hlv : SlAt w0 lv 7 (xs.map Pxy.cells)) :
  Ret Tryz.prog 148 #[.agg #[jv x.signer, jv x.holder, jv x.rf, jv x.rt, jv x.carrier, jv x.serial, jv x.sf, jv x.st, sv x.sig], lv] w0 fun v w => v = .tuple #[jv (scopeV x xs).1, .bool (scopeV x xs).2] ∧ Ext No w0 w := by
 have hxb := hlv.2.1
 simp only [xC, big] at hxb
 refine zy func148 O ntmps148 (lb O) fun a Z Y => ?_
 refine aa fun _ G1 => aS Z Y O [jv x.signer, jv x.holder, jv x.rf, jv x.rt, jv x.carrier, jv x.serial, jv x.sf, jv x.st, sv x.sig] O fun a w1 Z Y => nv Z <| xz O <| xz O <| fun a Z => G1 <| ah fun _ G2 => ?_
 refine aa fun _ G3 => nv Z <| xy O <| xx ((aL (sT := 91) (Y.arg hlv) O O (runUnderlying91 _)).asi (m' := (xs.length : Int)) z6) <| xy O <| fun a Z => G3 <| ar ?_
 refine aW (fun m a w => ∃ (k : Nat), m = xs.length - k ∧ (k ≤ xs.length) ∧ (bB x none xs 0 = bB x (prevP xs k) (xs.drop k) k) ∧ Fr 49 [(1, lv), (2, pq w0.hz), (8, lv), (9, jv (xs.length : Int)), (10, jv (k : Int))] [] a ∧ St No w0 [blk w0.hz [jv x.signer, jv x.holder, jv x.rf, jv x.rt, jv x.carrier, jv x.serial, jv x.sf, jv x.st, sv x.sig] 90] w) _ ⟨0, O, yc _, O, Z.pick [1, 2, 8, 9, 10], Y.select [0] de⟩ ?_
 rintro _ a w2 ⟨k, rfl, hk, hs, Z, Y⟩
 refine aa fun _ G4 => wlv Z (v_lt O O) fun a Z => G4 <| ah fun _ G5 => ?_
 refine aA Z O (fun hc1 => ?_) (fun hc1 => ?_)
 ·have hkx : k < xs.length := by omega
  refine au <| G5 <| ah fun _ G6 => ar <| aa fun _ G7 => nv Z <| xy O <| xx ((am (i := (k : Int)) (sT := 91) (Y.arg hlv) O O (runUnderlying91 _) (sizeOf144 _) om zL).as (v' := slAddr lv (k * 7)) O) <| xx ((bL (Y.arg hlv) (i := k) zL O (isAgg144 _) (sizeOf144 _)).as (v' := .agg #[jv ((xs.getD k Pxy.z).frm), jv ((xs.getD k Pxy.z).to), jv ((xs.getD k Pxy.z).rf), jv ((xs.getD k Pxy.z).rt), jv ((xs.getD k Pxy.z).sf), jv ((xs.getD k Pxy.z).st), sv ((xs.getD k Pxy.z).sig)]) Ap) <| fun a Z => aC Z Y (zeroValue144 _) [jv 0, jv 0, jv 0, jv 0, jv 0, jv 0, .string (⟨#[]⟩)] O fun a w3 Z Y => ?_
  refine wla Z O fun a Z => az 0 Z Y [jv ((xs.getD k Pxy.z).frm), jv ((xs.getD k Pxy.z).to), jv ((xs.getD k Pxy.z).rf), jv ((xs.getD k Pxy.z).rt), jv ((xs.getD k Pxy.z).sf), jv ((xs.getD k Pxy.z).st), sv ((xs.getD k Pxy.z).sig)] O (sizeOf144 _) fun a w4 Z Y => G7 <| ah fun _ G8 => ?_
  refine aM (aN fun w5 hxz => ?_)
  replace Y := Y.grow hxz
  refine aK (k := 0) 3 [2] ?_
  refine nv Z <| xy O <| xx (v_gt O O) <| xy O <| fun a Z => ab ?_
  rcases Decidable.em (0 < (k : Int)) with hb2 | hb2
  ·rw [xF hb2] at Z
   refine aU (k := 3) 12 [4, 6, 11] Z ?_
   replace Z := Z.p13 1 2 8 9 10 12 13 14 7 6 15 16 17 O
   refine bQ 9 Z Y <| pl_v (ac (v := po w2.hz 2) O kr) <| pl_w (fun Y => bO (ds := [jv ((xs.getD k Pxy.z).rf), jv ((xs.getD k Pxy.z).rt)]) (Y.g 0 O) O (isAgg87 _) (sizeOf87 _) O) <| pl_v (ac (v := po w2.hz 4) O kr) <| pl_w (fun Y => bO (ds := [jv ((xs.getD k Pxy.z).sf), jv ((xs.getD k Pxy.z).st)]) (Y.g 0 O) O (isAgg88 _) (sizeOf88 _) O) <| pl_m O <| pl_m O <| pl_v (bH O O ⟨om, om⟩) <| pl_w (fun Y => (am (i := (k : Int) - 1) (sT := 91) (Y.arg hlv) O O (runUnderlying91 _) (sizeOf144 _) om zL).as (v' := slAddr lv ((k - 1) * 7)) Au) ?_
   refine pl_w (fun Y => (bL (Y.arg hlv) (i := (k - 1)) zL O (isAgg144 _) (sizeOf144 _)).as (v' := .agg #[jv ((xs.getD (k - 1) Pxy.z).frm), jv ((xs.getD (k - 1) Pxy.z).to), jv ((xs.getD (k - 1) Pxy.z).rf), jv ((xs.getD (k - 1) Pxy.z).rt), jv ((xs.getD (k - 1) Pxy.z).sf), jv ((xs.getD (k - 1) Pxy.z).st), sv ((xs.getD (k - 1) Pxy.z).sig)]) Ap) fun a w6 Z Y => ?_
   replace Z := Z.p10 1 2 8 9 10 6 17 19 21 26 O
   refine ab <| aK (k := 12) 15 [14] ?_
   refine aF Z Y call184 O (qW ((xs.getD k Pxy.z).rf) ((xs.getD k Pxy.z).rt) ((xs.getD k Pxy.z).sf) ((xs.getD k Pxy.z).st) (xs.getD (k - 1) Pxy.z) _) fun a w7 Z Y => nv Z <| xA (bD O) <| xx (aw O O) <| fun a Z => ab <| aT <| G8 ?_
   replace Z := Z.p7 1 2 8 9 10 6 29 O
   replace Y := Y.k1 2 O
   refine bu Z O (fun hc3 => ?_) (fun hc3 => ?_)
   ·try simp only [qz] at hc3
    refine aa fun _ G9 => nv Z <| xy O <| xz O <| xz O <| fun a Z => G9 <| ap ?_
    refine al Z results148 (ag O (ag O ae)) ?_
    exact ⟨by simp only [retv]; rw [kK (by rw [hs]; exact sN hkx om (by simpa using hc3))]; try rfl, Y.ext⟩
   try simp only [qz] at hc3
   refine au <| G6 <| aj <| nv Z <| xx (aP O O ⟨om, om⟩) <| xy O <| fun a Z => ab ?_
   refine ⟨_, ?_, k + 1, O, om, (by rw [hs]; exact kp hkx (by first | (left; omega) | (right; simpa using hc3))), Z.pick [1, 2, 8, 9, 10], Y.select [0] de⟩
   omega
  rw [xK hb2] at Z
  refine cW (k := 3) 12 [4, 6, 11] (Z.p13 1 2 8 9 10 12 13 14 7 6 15 16 17 O) fun a Z => ?_
  replace Z : Fr 49 [(18, undef), (19, undef), (20, undef), (21, undef), (22, undef), (23, undef), (24, undef), (25, undef), (26, undef), (1, lv), (2, pq w0.hz), (8, lv), (9, jv (xs.length : Int)), (10, jv (k : Int)), (12, jv (k : Int)), (13, slAddr lv (k * 7)), (14, .agg #[jv ((xs.getD k Pxy.z).frm), jv ((xs.getD k Pxy.z).to), jv ((xs.getD k Pxy.z).rf), jv ((xs.getD k Pxy.z).rt), jv ((xs.getD k Pxy.z).sf), jv ((xs.getD k Pxy.z).st), sv ((xs.getD k Pxy.z).sig)]), (7, pq w2.hz), (6, jv (k : Int)), (15, jv (k : Int)), (16, .bool false), (17, .bool false)] [] a := Z
  refine aK (k := 12) 15 [14] ?_
  refine nv Z <| xB <| xB <| xx (ai O O) <| fun a Z => ab <| aT <| G8 ?_
  replace Z := Z.p7 1 2 8 9 10 6 29 O
  replace Y := Y.k1 2 O
  refine aJ Z O ?_
  refine au <| G6 <| aj <| nv Z <| xx (aP O O ⟨om, om⟩) <| xy O <| fun a Z => ab ?_
  refine ⟨_, ?_, k + 1, O, om, (by rw [hs]; exact kp hkx (by first | (left; omega) | (right; simpa using hb2))), Z.pick [1, 2, 8, 9, 10], Y.select [0] de⟩
  omega
 have hke : k = xs.length := by omega
 rw [hke, sI] at hs
 refine aO <| G2 <| ah fun _ G10 => aM (aN fun w8 hxz => ?_)
 replace Y := Y.grow hxz
 refine aK (k := 0) 4 [3] ?_
 refine nv Z <| xy O <| xx ((aL (sT := 91) (Y.arg hlv) O O (runUnderlying91 _)).asi (m' := (xs.length : Int)) z6) <| xx (v_gt O O) <| xy O <| fun a Z => ab ?_
 rcases Decidable.em (0 < (xs.length : Int)) with hb4 | hb4
 ·rw [xF hb4] at Z
  refine aU (k := 4) 14 [5, 7, 13] Z ?_
  replace Z := Z.p9 1 2 8 9 10 32 33 34 35 O
  refine bQ 10 Z Y <| pl_v (ac (v := po w0.hz 2) O kr) <| pl_w (fun Y => bO (ds := [jv x.rf, jv x.rt]) (Y.g 0 O) O (isAgg87 _) (sizeOf87 _) O) <| pl_v (ac (v := po w0.hz 6) O kr) <| pl_w (fun Y => bO (ds := [jv x.sf, jv x.st]) (Y.g 0 O) O (isAgg88 _) (sizeOf88 _) O) <| pl_m O <| pl_m O <| pl_w (fun Y => (aL (sT := 91) (Y.arg hlv) O O (runUnderlying91 _)).asi (m' := (xs.length : Int)) z6) <| pl_v (bH O O ⟨om, om⟩) ?_
  refine pl_w (fun Y => (am (i := (xs.length : Int) - 1) (sT := 91) (Y.arg hlv) O O (runUnderlying91 _) (sizeOf144 _) om zL).as (v' := slAddr lv ((xs.length - 1) * 7)) Bk) <| pl_w (fun Y => (bL (Y.arg hlv) (i := (xs.length - 1)) zL O (isAgg144 _) (sizeOf144 _)).as (v' := .agg #[jv ((xs.getD (xs.length - 1) Pxy.z).frm), jv ((xs.getD (xs.length - 1) Pxy.z).to), jv ((xs.getD (xs.length - 1) Pxy.z).rf), jv ((xs.getD (xs.length - 1) Pxy.z).rt), jv ((xs.getD (xs.length - 1) Pxy.z).sf), jv ((xs.getD (xs.length - 1) Pxy.z).st), sv ((xs.getD (xs.length - 1) Pxy.z).sig)]) Ap) fun a w9 Z Y => ?_
  replace Z := Z.p4 35 37 39 45 O
  refine ab <| aK (k := 14) 15 [14] ?_
  refine aF Z Y call184 O (qW x.rf x.rt x.sf x.st (xs.getD (xs.length - 1) Pxy.z) _) fun a w10 Z Y => ab <| aU (k := 15) 18 [16, 17] Z ?_
  refine bQ 3 (Z.p5 35 37 39 45 46 O) Y <| pl_v (bD O) <| pl_v (aw O O) <| pl_v (cG O) fun a w11 Z Y => ?_
  replace Z := Z.p2 48 4 O
  refine ab <| aK (k := 18) 19 [18] ?_
  refine wla Z O fun a Z => ab <| aT <| G10 <| ap <| al Z results148 (ag O (ag O ae)) ?_
  exact ⟨by simp only [retv]; rw [pC om hs]; try rfl, Y.ext⟩
 rw [xK hb4] at Z
 refine cW (k := 4) 14 [5, 7, 13] (Z.p9 1 2 8 9 10 32 33 34 35 O) fun a Z => ?_
 replace Z : Fr 49 [(36, undef), (37, undef), (38, undef), (39, undef), (40, undef), (41, undef), (42, undef), (43, undef), (44, undef), (45, undef), (1, lv), (2, pq w0.hz), (8, lv), (9, jv (xs.length : Int)), (10, jv (k : Int)), (32, lv), (33, jv (xs.length : Int)), (34, .bool false), (35, .bool false)] [] a := Z
 refine aK (k := 14) 15 [14] ?_
 refine wln Z fun a Z => ab ?_
 replace Z := Z.p20 36 37 38 39 40 41 42 43 44 45 1 2 8 9 10 32 33 34 35 46 O
 refine wR (k := 15) 18 [16, 17] (fun i => match i with | 15 => undef | 16 => .bool false | 17 => jv (-1) | _ => undef) Z ?_ ?_
 ·intro i h1 h2
  have hi : i = 15 ∨ i = 16 ∨ i = 17 := by omega
  rcases hi with rfl | rfl | rfl
  ·exact ⟨fun _ => O, fun h => by cases h⟩
  ·exact ⟨fun h => AQ, fun _ => ai O O⟩
  ·exact ⟨fun h => AQ, fun _ => cG O⟩
 intro a Z
 replace Z : Fr 49 [(47, undef), (48, .bool false), (4, jv (-1)), (36, undef), (37, undef), (38, undef), (39, undef), (40, undef), (41, undef), (42, undef), (43, undef), (44, undef), (45, undef), (1, lv), (2, pq w0.hz), (8, lv), (9, jv (xs.length : Int)), (10, jv (k : Int)), (32, lv), (33, jv (xs.length : Int)), (34, .bool false), (35, .bool false), (46, undef)] [] a := Z
 refine aK (k := 18) 19 [18] ?_
 refine wla Z O fun a Z => ab <| aT <| G10 ?_
 replace Z := Z.p2 4 5 O
 replace Y := Y.k0 0 O
 refine ap <| al Z results148 (ag O (ag O ae)) ?_
 exact ⟨by simp only [retv]; rw [pk om hs]; try rfl, Y.ext⟩
def pers : Int → List Pxy → Nat → List (Int × Int)
 | who, [], _ => [(-1, who)]
 | who, p :: l, k => ((k : Int), who) :: pers p.to l (k + 1)
def encQ (x : Int × Int) : List Value := [jv x.1, jv x.2]
def NxQ (h : Int) (xs : List Pxy) (pre : List (Int × Int)) (x : Int × Int) : Prop := ∃ suf, pers h xs 0 = pre ++ x :: suf
theorem ov {M : Nat → Prop} {w0 : World} (h : Int) (lv : Value) (xs : List Pxy) (lp bh bl : Nat) (J Jx : List (Int × Int) → Ent → Prop) (hY : Rounds Tryz.prog M w0 lp encQ (NxQ h xs) J Jx) (e0 : Ent) (ws : World) (hsv : ∀ H w, St M w0 H w → SlAt w lv 7 (xs.map Pxy.cells)) (hJ : J [] e0) (Y : St M w0 [e0, blk bh [jv h] 3, blk bl [lv] 91] ws) :
  Ret Tryz.prog 183 #[.func (.yield lp) #[] #[], pq bh, pq bl] ws fun _ w => ∃ e1 Hi1, St M w0 (e1 :: Hi1) w ∧ ((∃ zs, (zs = pers h xs 0 ∧ Hi1 = [blk bh [jv h] 3, blk bl [lv] 91]) ∧ J zs e1) ∨ (∃ pre, Hi1 = [blk bh [jv h] 3, blk bl [lv] 91] ∧ Jx pre e1)) := by
 refine aB func183 O ntmps183 (lb O) fun a Z => ?_
 replace Z := Z.p3 0 1 2 O
 have hlb := (hsv _ _ Y).2.1
 rw [xC] at hlb
 unfold big at hlb
 refine aa fun _ G1 => nv Z <| xx (ld Y 1 O O (isAgg3 _) O) <| xz O <| fun a Z => G1 <| ah fun _ G2 => ?_
 refine aa fun _ G3 => nv Z <| xx (ld Y 2 O O (isAgg91 _) O) <| xx ((aL (sT := 91) (hsv _ _ Y) O O (runUnderlying91 _)).asi (m' := (xs.length : Int)) z6) <| xy O <| fun a Z => G3 <| ar ?_
 refine aW (fun m a w => ∃ (k : Nat) (who : Int) (e : Ent) (dn : List (Int × Int)), m = xs.length - k ∧ (k ≤ xs.length) ∧ (pers h xs 0 = dn ++ pers who (xs.drop k) k) ∧ (J dn e) ∧ Fr 26 [(0, .func (.yield lp) #[] #[]), (8, lv), (9, jv (xs.length : Int)), (4, jv who), (10, jv (k : Int))] [] a ∧ St M w0 [e, blk bh [jv h] 3, blk bl [lv] 91] w) _ ⟨0, h, e0, [], O, yc _, O, hJ, Z.pick [0, 8, 9, 4, 10], Y.select [0, 1, 2] de⟩ ?_
 rintro _ a w1 ⟨k, who, e, dn, rfl, hk, hp, hJ, Z, Y⟩
 refine aa fun _ G4 => wlv Z (v_lt O O) fun a Z => G4 <| ah fun _ G5 => ?_
 refine aA Z O (fun hc1 => ?_) (fun hc1 => ?_)
 ·have hkx : k < xs.length := by omega
  refine au <| G5 <| ah fun _ G6 => ar <| aa fun _ G7 => nv Z <| xy O <| xx ((am (i := (k : Int)) (sT := 91) (hsv _ _ Y) O O (runUnderlying91 _) (sizeOf144 _) om zL).as (v' := slAddr lv (k * 7)) O) <| xx ((bL (hsv _ _ Y) (i := k) zL O (isAgg144 _) (sizeOf144 _)).as (v' := .agg #[jv ((xs.getD k Pxy.z).frm), jv ((xs.getD k Pxy.z).to), jv ((xs.getD k Pxy.z).rf), jv ((xs.getD k Pxy.z).rt), jv ((xs.getD k Pxy.z).sf), jv ((xs.getD k Pxy.z).st), sv ((xs.getD k Pxy.z).sig)]) Ap) <| fun a Z => aC Z Y (zeroValue144 _) [jv 0, jv 0, jv 0, jv 0, jv 0, jv 0, .string (⟨#[]⟩)] O fun a w2 Z Y => ?_
  refine wla Z O fun a Z => az 0 Z Y [jv ((xs.getD k Pxy.z).frm), jv ((xs.getD k Pxy.z).to), jv ((xs.getD k Pxy.z).rf), jv ((xs.getD k Pxy.z).rt), jv ((xs.getD k Pxy.z).sf), jv ((xs.getD k Pxy.z).st), sv ((xs.getD k Pxy.z).sig)] O (sizeOf144 _) fun a w3 Z Y => G7 <| ah fun _ G8 => ?_
  refine aa fun _ G9 => nv Z <| xy O <| xy O <| xy O <| fun a Z => wl_r (fG O O (hY.yield (pre := dn) (x := ((k : Int), who)) ⟨_, by rw [hp, dB Pxy.z hkx]; rfl⟩ hJ (Y.only (i := 1) O))) O O Z fun a v w4 hR Z => ?_
  obtain ⟨y2, e3, rfl, hx, hok, hft, hJt, hJf⟩ := hR
  replace Y := Y.exchange (k := 1) rfl hx hok hft
  replace Y := Y.n4 O
  clear hx hok hft
  refine wlv Z (bD O) fun a Z => G9 ?_
  replace Z := Z.p6 0 8 9 10 6 19 O
  refine bu Z O (fun hc4 => ?_) (fun hc4 => ?_)
  ·try simp only [qz] at hc4
   have hJ := hJf hc4
   refine ap <| al Z results183 ae ?_
   exact ⟨_, _, Y.select [1, 2, 3] de, .inr ⟨_, O, hJ⟩⟩
  try simp only [qz] at hc4
  have hJ := hJt hc4
  refine au <| G8 <| aj <| nv Z <| xx (ac (v := po w1.hz 1) O kr) <| xx (ld Y 0 O O (isAgg3 _) O) <| xz O <| fun a Z => ab <| G6 <| aj <| nv Z <| xx (aP O O ⟨om, om⟩) <| xy O <| fun a Z => ab ?_
  refine ⟨_, ?_, k + 1, (xs.getD k Pxy.z).to, e3, dn ++ [((k : Int), who)], O, om, (by rw [hp, dB Pxy.z hkx, pers, yq]; rfl), hJ, Z.pick [0, 8, 9, 4, 10], Y.select [1, 2, 3] de⟩
  omega
 obtain rfl : k = xs.length := by omega
 rw [List.drop_length] at hp
 refine aO <| G2 <| aj <| nv Z <| xy O <| xy O <| fun a Z => wl_r (fG O O (hY.yield (pre := dn) (x := ((-1 : Int), who)) ⟨[], hp⟩ hJ (Y.only (i := 0) O))) O O Z fun a v w5 hR Z => ?_
 obtain ⟨y5, e6, rfl, hx, hok, hft, hJt, hJf⟩ := hR
 replace Y := Y.exchange (k := 0) rfl hx hok hft
 replace Y := Y.n3 O
 clear hx hok hft
 refine ab <| cN Z results183 ae ?_
 rcases xH y5 with hyy | hyy
 ·exact ⟨_, _, Y.select [0, 1, 2] de, .inl ⟨_, ⟨hp.symm.symm ▸ O, O⟩, hJt hyy⟩⟩
 ·exact ⟨_, _, Y.select [0, 1, 2] de, .inr ⟨_, O, hJf hyy⟩⟩
theorem mS {M : Nat → Prop} {w0 : World} (h : Int) (lv : Value) (xs : List Pxy) (bh bl : Nat) (hsv : ∀ H w, St M w0 H w → SlAt w lv 7 (xs.map Pxy.cells)) :
  Iter Tryz.prog 183 [pq bh, pq bl] encQ (NxQ h xs) (fun zs Hi1 => zs = pers h xs 0 ∧ Hi1 = [blk bh [jv h] 3, blk bl [lv] 91]) (fun pre Hi1 => Hi1 = [blk bh [jv h] 3, blk bl [lv] 91]) M w0 [blk bh [jv h] 3, blk bl [lv] 91] :=
 fun lp J Jx w e hY hJ Y => ov h lv xs lp bh bl J Jx hY e w hsv hJ Y
theorem pn (h : Int) (lv : Value) (xs : List Pxy) (w0 : World) (hlv : SlAt w0 lv 7 (xs.map Pxy.cells)) :
  Ret Tryz.prog 147 #[jv h, lv] w0 (MemR w0 (fun z : Nat × Nat => .func (.func 183) #[] #[pq z.1, pq z.2]) (fun z => [blk z.2 [lv] 91, blk z.1 [jv h] 3]) (fun _ => True)) := by
 refine zy func147 O ntmps147 (lb O) fun a Z Y => ?_
 refine aa fun _ G1 => aS Z Y O [jv h] O fun a w1 Z Y => aS Z Y O [lv] (by rw [(Y.arg hlv).cells]) fun a w2 Z Y => wla Z O fun a Z => G1 <| aa fun _ G2 => ?_
 refine nv Z <| xx (cd O O) <| xz O <| fun a Z => G2 <| ap ?_
 refine al Z results147 (ag O ae) ?_
 exact ⟨(w0.hz, w1.hz), O, trivial, Y.ext, St.out (H := []) Y⟩
theorem nq {M : Nat → Prop} {wb : World} {H : List Ent} {sv : Value} {els : List (List Value)} {caps : List Value} {g : FuncId} (p : Nat → Bool) (ev_ : Nat → Value) (J : Nat → Ent → Prop) (e0 : Ent) (w0 : World)
  (hen : ∀ args w, (callFunc g args).run Tryz.prog w = .ok (.enter g args) w) (hs : ∀ e w, St M wb (e :: H) w → SlAt w sv 7 els)
  (hev : ∀ k (h : k < els.length), .agg (els[k]).toArray = ev_ k) (hJ0 : J 0 e0) (Y : St M wb (e0 :: H) w0)
  (hcl : ∀ k e w, k < els.length → J k e → e.ok w → (∀ b, e.foot b → b < w.hz) → Ret Tryz.prog g ([ev_ k] ++ caps).toArray w fun v w' => v = .bool (p k) ∧ ∃ e', Ext e.foot w w' ∧ e'.ok w' ∧ (∀ b, e'.foot b → b < w'.heap.size ∧ (e.foot b ∨ w.hz ≤ b)) ∧ J (k + 1) e') :
  Ret Tryz.prog 91 #[sv, .func (.func g) #[] caps.toArray] w0 fun v w => v = .bool ((List.range els.length).any p) ∧ ∃ k e', J k e' ∧ St M wb (e' :: H) w := by
 refine aB func91 O ntmps91 (lb O) fun a Z => aa fun _ G1 => wla (Z.p2 0 1 O) O fun a Z => G1 <| aa fun _ G2 => ?_
 refine nv Z <| xy O <| xy O <| fun a Z => wl_r (eD call141 O (ma p ev_ J e0 _ hen hs hev hJ0 Y hcl)) O O Z fun a v w1 hR Z => ?_
 obtain ⟨rfl, kk, e1, hJ1, Y⟩ := hR
 refine nv Z <| xx (v_ge O O) <| xz O <| fun a Z => G2 <| ap ?_
 refine al Z results91 (ag O ae) ?_
 exact ⟨by rw [gO]; rfl, _, _, hJ1, Y⟩
theorem va {u : Value} {xs : List Pxy} {g : FuncId} (p : Pxy → Bool) (w0 : World) (hen : ∀ args w, (callFunc g args).run Tryz.prog w = .ok (.enter g args) w) (hs : SlAt w0 u 7 (xs.map Pxy.cells))
  (hcl : ∀ (x : Pxy) (w : World), x ∈ xs → Ret Tryz.prog g #[.agg x.cells.toArray] w fun v w' => v = .bool (p x) ∧ Ext No w w') :
  Ret Tryz.prog 91 #[u, .func (.func g) #[] #[]] w0 fun v w => v = .bool (xs.any p) ∧ Ext No w0 w := by
 have Y : St No w0 [join []] w0 := St.join [] [] (St.init w0)
 have h := nq (M := No) (wb := w0) (H := []) (sv := u) (els := xs.map Pxy.cells) (caps := []) (g := g) (fun k => p (xs.getD k Pxy.z)) (fun k => .agg (xs.getD k Pxy.z).cells.toArray) (fun _ e => e = join []) (join []) w0 hen
  (fun e w h => h.arg hs) (fun k h => by rw [bA Pxy.z]) rfl Y (fun k e w hk he hok hlt => by
   subst he
   refine (hcl _ w (bt Bc)).mono fun v w' ⟨h1, h2⟩ => ⟨h1, join [], h2.mono (fun k _ hk => hk.elim), ?_, ?_, O⟩
   ·exact ⟨fun e he => (by cases he), List.Pairwise.nil⟩
   ·rintro b ⟨e, he, _⟩
    cases he)
 refine h.mono fun v w ⟨h1, k, e, he, Y⟩ => ⟨?_, Y.ext⟩
 rw [h1, xC]
 congr 1
 rw [Bool.eq_iff_iff, yD, yD]
 constructor
 ·rintro ⟨k, hk, hp⟩
  exact ⟨_, bt (xO.1 hk), hp⟩
 ·rintro ⟨x, hx, hp⟩
  obtain ⟨k, hk, rfl⟩ := yG hx
  exact ⟨k, xO.2 hk, by rw [xJ, xM hk]; exact hp⟩
theorem qX {u : Value} {xs : List By} {g : FuncId} (p : By → Bool) (w0 : World) (hen : ∀ args w, (callFunc g args).run Tryz.prog w = .ok (.enter g args) w) (hs : SlAt w0 u 1 (xs.map (fun s => [sv s])))
  (hcl : ∀ (x : By) (w : World), x ∈ xs → Ret Tryz.prog g #[sv x] w fun v w' => v = .bool (p x) ∧ Ext No w w') :
  Ret Tryz.prog 146 #[u, .func (.func g) #[] #[]] w0 fun v w => v = .bool (xs.any p) ∧ Ext No w0 w := by
 have Y : St No w0 [join []] w0 := St.join [] [] (St.init w0)
 have h := ib (M := No) (wb := w0) (H := []) (sv := u) (els := xs.map (fun s => [sv s])) (caps := []) (g := g) (fun k => p (xs.getD k [])) (fun k => sv (xs.getD k [])) (fun _ e => e = join []) (join []) w0 hen
  (fun e w h => h.arg hs) (fun k h => by rw [bA []]; rfl) rfl Y (fun k e w hk he hok hlt => by
   subst he
   refine (hcl _ w (bt Bc)).mono fun v w' ⟨h1, h2⟩ => ⟨h1, join [], h2.mono (fun k _ hk => hk.elim), ?_, ?_, O⟩
   ·exact ⟨fun e he => (by cases he), List.Pairwise.nil⟩
   ·rintro b ⟨e, he, _⟩
    cases he)
 refine h.mono fun v w ⟨h1, k, e, he, Y⟩ => ⟨?_, Y.ext⟩
 rw [h1, xC]
 congr 1
 rw [Bool.eq_iff_iff, yD, yD]
 constructor
 ·rintro ⟨k, hk, hp⟩
  exact ⟨_, bt (xO.1 hk), hp⟩
 ·rintro ⟨x, hx, hp⟩
  obtain ⟨k, hk, rfl⟩ := yG hx
  exact ⟨k, xO.2 hk, by rw [xJ, xM hk]; exact hp⟩
theorem vY (s : By) (w0 : World) :
  Ret Tryz.prog 145 #[sv s] w0 fun v w => v = .bool (!decide ((s.length : Int) = 32)) ∧ Ext No w0 w := by
 refine zA func145 O ntmps145 (lb O) fun a Z Y => ?_
 refine aa fun _ G1 => wla Z O fun a Z => G1 <| aa fun _ G2 => ?_
 refine wlm Z O fun a Z => ax Z Y call84 O (j7 s _) fun a w1 Z Y => nv Z <| xx (bD O) <| xz O <| fun a Z => G2 <| ap ?_
 refine al Z results145 (ag O ae) ?_
 exact ⟨by rfl, Y.ext⟩
theorem vt (x : Pxy) (w0 : World) :
  Ret Tryz.prog 89 #[.agg #[jv x.frm, jv x.to, jv x.rf, jv x.rt, jv x.sf, jv x.st, sv x.sig]] w0 fun v w => v = .bool (!decide ((x.sig.length : Int) = 32)) ∧ Ext No w0 w := by
 refine zA func89 O ntmps89 (lb O) fun a Z Y => ?_
 refine aa fun _ G1 => aS Z Y O [jv x.frm, jv x.to, jv x.rf, jv x.rt, jv x.sf, jv x.st, sv x.sig] O fun a w1 Z Y => wla Z O fun a Z => G1 <| aa fun _ G2 => ?_
 refine nv Z <| xx (ac (v := po w0.hz 6) O kr) <| xx (ld Y 0 O O (isAgg9 _) O) <| xx (bn O O (runUnderlying9 _)) <| xx (v_ne O O) <| xz O <| fun a Z => G2 ?_
 replace Z := Z.p1 2 O
 replace Y := Y.k0 0 O
 refine ap <| al Z results89 (ag O ae) ?_
 exact ⟨by rfl, Y.ext⟩
theorem pV {w0 w : World} {b1 b2 : Nat} {c1 c2 : List Value} {T1 T2 : TypeId} (h : Ext (fun k => k = b1 ∨ k = b2) w0 w) (h1 : (blk b1 c1 T1).ok w0) (h1' : (blk b1 c1 T1).ok w) (h2 : (blk b2 c2 T2).ok w0) (h2' : (blk b2 c2 T2).ok w) : Ext No w0 w := by
 refine ⟨h.os, h.tape, h.output, h.size, fun k hk _ => ?_⟩
 by_cases e1 : k = b1
 ·subst e1; exact Eq.trans h1' (Eq.symm h1)
 ·by_cases e2 : k = b2
  ·subst e2; exact Eq.trans h2' (Eq.symm h2)
  ·exact h.same k hk fun hh => hh.elim e1 e2
theorem nG {w0 w : World} {H : List Ent} {i b g : Nat} {cs c1 : List Value} {T T1 : TypeId} (h : St No w0 H w) (hi : H[i]? = some (blk b cs T)) (hg : (blk g c1 T1).ok w0) : b ≠ g := by
 rintro rfl
 exact ((h.ok _ (yQ hi)).2 b O).2 (xR.1 hg).1
theorem lw (key content : By) (g : FuncId) (bx : Nat) (cs : List Value) (T : TypeId) (w0 : World) (hen : ∀ args w, (callFunc g args).run Tryz.prog w = .ok (.enter g args) w)
  (hc : ∀ {M : Nat → Prop} {w0 : World} (b : Nat) (v : Value) (ws : World), St M w0 [bld 162 b (.pointer none) v [], blk bx cs T] ws → Ret Tryz.prog g ([pq b] ++ [pq bx]).toArray ws fun u w => u = .tuple #[] ∧ ∃ v2, St M w0 [bld 162 b (pq b) v2 content, blk bx cs T] w)
  (hne : content ≠ []) (hkl : key.length ≤ 40000000) (hcl : content.length ≤ 40000000) (hk0 : (blk 0 (kOf.map wv) 258).ok w0) (hbx : (blk bx cs T).ok w0) (hgb : bx ≠ 0) :
  Ret Tryz.prog 86 #[sv key, .func (.func g) #[] #[pq bx]] w0 fun v w => v = sv (sealH key content) ∧ Ext No w0 w := by
 have Y : St (fun k => k = 0 ∨ k = bx) w0 [(blk 0 (kOf.map wv) 258), blk bx cs T] w0 := by
  refine ⟨Ext.refl _ _, fun e he => ?_, ?_⟩
  ·simp only [xL, xQ, yj] at he
   rcases he with rfl | rfl
   ·exact ⟨hk0, fun k hk => by cases hk; exact ⟨(xR.1 hk0).1, fun _ => .inl O⟩⟩
   ·exact ⟨hbx, fun k hk => by cases hk; exact ⟨(xR.1 hbx).1, fun _ => .inr O⟩⟩
  ·refine List.Pairwise.cons (fun e he k hk hk' => ?_) (List.pairwise_singleton _ _)
   simp only [xL, xQ, yj] at he
   subst he
   cases hk
   exact hgb (Eq.symm hk')
 exact (nh key content g [pq bx] (blk bx cs T) w0 hen hc hne hkl hcl Y).mono fun v w ⟨h1, h2⟩ => ⟨h1, pV h2.ext hk0 (h2.get (k := 0) O) hbx (h2.get (k := 1) O)⟩
theorem nU : ∀ {l : List Pxy} {k i : Nat}, badIdx l k = some i → k ≤ i ∧ i - k < l.length ∧ (l.getD (i - k) Pxy.z).ok = false ∧ ∀ j, j < i - k → (l.getD j Pxy.z).ok = true
 | [], k, i, h => by cases h
 | p :: l, k, i, h => by
  rw [badIdx] at h
  split at h
  ·rename_i hp
   obtain ⟨h1, h2, h3, h4⟩ := nU h
   have e : i - k = (i - (k + 1)) + 1 := by omega
   refine ⟨by omega, by simp; omega, by rw [e]; exact h3, fun j hj => ?_⟩
   cases j with
   | zero => exact hp
   | succ j => exact h4 j om
  ·rename_i hp
   cases h
   refine ⟨yk _, by simp, by rw [zo]; simpa using hp, fun j hj => by omega⟩
theorem jK (l : List Pxy) : badN l = match badIdx l 0 with | some i => (i : Int) | none => -1 := by
 cases h : badIdx l 0 with
 | none =>
  refine eV fun j hj => ?_
  rw [dW h _ (bt hj)]; rfl
 | some i =>
  obtain ⟨_, h2, h3, h4⟩ := nU h
  rw [Nat.sub_zero] at h2 h3 h4
  exact eR h2 (fun j hj => by rw [h4 j hj]; rfl) (by rw [h3]; rfl)
theorem nS {l : List Pxy} (h : badN l < 0) : badIdx l 0 = none := by
 rw [jK] at h
 cases hb : badIdx l 0 with
 | none => rfl
 | some i => rw [hb] at h; simp only at h; omega
theorem py (x : Wsh) (l : List Pxy) : (x.ok && decide ((l.length : Int) ≤ 4) && decide (badN l < 0)) = bT x l := by
 unfold bT
 rw [jK]
 congr 1
 ·congr 1
  exact decide_eq_decide.2 om
 ·cases badIdx l 0 with
  | none => rfl
  | some i => exact xK (by simp only; omega)
section
variable {ks : List By} {x : Wsh} {ps : List Pxy} {number t : Int}
abbrev formB (ks : List By) (x : Wsh) (ps : List Pxy) : Prop := 64 < ks.length ∨ (ks.all fun s => decide (s.length = 32)) = false ∨ x.ok = false ∨ 4 < ps.length
theorem fQ : (ks.any fun s => !decide ((s.length : Int) = 32)) = !(ks.all fun s => decide (s.length = 32)) := by
 rw [List.all_eq_not_any_not, Bool.not_not]
 congr 1
 funext s
 congr 1
 exact decide_eq_decide.2 om
theorem uU (h : ¬ formB ks x ps) : ∀ s ∈ ks, s.length = 32 := by
 have : (ks.all fun s => decide (s.length = 32)) = true := by
  cases hh : (ks.all fun s => decide (s.length = 32)) with
  | true => rfl
  | false => exact absurd (.inr (.inl hh)) h
 intro s hs
 exact of_decide_eq_true (xU.1 this s hs)
theorem fW (h : formB ks x ps) : whyH ks x ps number t = (1, -1) := by unfold whyH; rw [xY h]
theorem qC (h : ¬ formB ks x ps) (hb : 0 ≤ badN ps) : whyH ks x ps number t = (1, badN ps) := by
 unfold whyH; rw [xW h]
 rw [jK] at hb ⊢
 cases he : badIdx ps 0 with
 | none => rw [he] at hb; simp only at hb; omega
 | some i => rfl
def whyP (ks : List By) (x : Wsh) (ps : List Pxy) (number t : Int) : Prop := ¬ formB ks x ps ∧ badIdx ps 0 = none ∧ inB t x.sf (x.st - 1) = true ∧ inB number x.rf (x.rt - 1) = true
theorem kd (h : ¬ formB ks x ps) (hb : badIdx ps 0 = none) (ht : inB t x.sf (x.st - 1) = false) : whyH ks x ps number t = (2, -1) := by
 unfold whyH; rw [xW h, hb]; simp only; rw [xY ht]
theorem mN (h : ¬ formB ks x ps) (hb : badIdx ps 0 = none) (ht : inB t x.sf (x.st - 1) = true) (hn : inB number x.rf (x.rt - 1) = false) : whyH ks x ps number t = (3, -1) := by
 unfold whyH; rw [xW h, hb]; simp only; rw [xW Br, xY hn]
theorem lR {i : Int} (h : whyP ks x ps number t) (hc : ck x.signer x.holder ps 0 = some i) : whyH ks x ps number t = (4, i) := by
 obtain ⟨h, hb, ht, hn⟩ := h
 unfold whyH; rw [xW h, hb]; simp only; rw [xW Br, xW (by rw [hn]; decide), hc]
theorem mf {i : Int} (h : whyP ks x ps number t) (hc : ck x.signer x.holder ps 0 = none) (hs : bB x none ps 0 = some i) : whyH ks x ps number t = (5, i) := by
 obtain ⟨h, hb, ht, hn⟩ := h
 unfold whyH; rw [xW h, hb]; simp only; rw [xW Br, xW (by rw [hn]; decide), hc]; simp only; rw [hs]
theorem gj {i : Int} (h : whyP ks x ps number t) (hc : ck x.signer x.holder ps 0 = none) (hs : bB x none ps 0 = none) (hl : bM ks x ps 0 = some i) : whyH ks x ps number t = (6, i) := by
 obtain ⟨h, hb, ht, hn⟩ := h
 unfold whyH; rw [xW h, hb]; simp only; rw [xW Br, xW (by rw [hn]; decide), hc]; simp only; rw [hs]; simp only; rw [hl]
theorem kn (h : whyP ks x ps number t) (hc : ck x.signer x.holder ps 0 = none) (hs : bB x none ps 0 = none) (hl : bM ks x ps 0 = none) : whyH ks x ps number t = (0, -1) := by
 obtain ⟨h, hb, ht, hn⟩ := h
 unfold whyH; rw [xW h, hb]; simp only; rw [xW Br, xW (by rw [hn]; decide), hc]; simp only; rw [hs]; simp only; rw [hl]
def okQ (ps : List Pxy) (sg : Int) (z : Int × Int) : Bool := if 0 ≤ z.1 then decide ((ps.getD z.1.toNat Pxy.z).frm = z.2) else decide (sg = z.2)
theorem wg {sg : Int} {z : Int × Int} (h : 0 ≤ z.1) (h2 : (ps.getD z.1.toNat Pxy.z).frm = z.2) : okQ ps sg z = true := by unfold okQ; rw [xY h]; exact xF h2
theorem vd {sg : Int} {z : Int × Int} (h : ¬ 0 ≤ z.1) (h2 : sg = z.2) : okQ ps sg z = true := by unfold okQ; rw [xW h]; exact xF h2
theorem vz {sg : Int} {z : Int × Int} (h : 0 ≤ z.1) (h2 : ¬ (ps.getD z.1.toNat Pxy.z).frm = z.2) : okQ ps sg z = false := by unfold okQ; rw [xY h]; exact xK h2
theorem vK {sg : Int} {z : Int × Int} (h : ¬ 0 ≤ z.1) (h2 : ¬ sg = z.2) : okQ ps sg z = false := by unfold okQ; rw [xW h]; exact xK h2
theorem gP {sg : Int} : ∀ (l : List Pxy) (k : Nat) (who : Int), l = ps.drop k → ck sg who l k = ((pers who l k).find? fun z => !okQ ps sg z).map (·.1)
 | [], k, who, h => by
  rw [ck, pers, List.find?_cons, List.find?_nil]
  unfold okQ
  rw [xW (show ¬ (0 : Int) ≤ -1 by decide)]
  by_cases hs : sg = who
  ·rw [xY hs, xF hs]; rfl
  ·rw [xW hs, xK hs]; rfl
 | p :: l, k, who, h => by
  have hp : ps.getD k Pxy.z = p := by rw [xJ, show ps[k]? = some p from by rw [← List.head?_drop, ← h]; rfl]; rfl
  have hl : l = ps.drop (k + 1) := by rw [← zx, ← h, List.drop_one]; rfl
  rw [ck, pers, List.find?_cons, gP l (k + 1) p.to hl]
  unfold okQ
  rw [xY (Int.natCast_nonneg k), yw, hp]
  by_cases hs : p.frm = who
  ·rw [xY hs, xF hs]; rfl
  ·rw [xW hs, xK hs]; rfl
theorem oN {who : Int} : ∀ {l : List Pxy} {k : Nat} {who : Int} {z : Int × Int}, z ∈ pers who l k → z.1 < ((k + l.length : Nat) : Int) ∧ -1 ≤ z.1
 | [], k, who, z, h => by
  rw [pers, ya] at h
  subst h
  exact ⟨by simp only; omega, by simp only; omega⟩
 | p :: l, k, who, z, h => by
  rw [pers] at h
  rcases xL.1 h with rfl | h
  ·exact ⟨by simp only [xN]; omega, by simp only; omega⟩
  ·have := oN (who := who) h
   rw [xN]
   exact ⟨by omega, this.2⟩
theorem qu {who : Int} {pre : List (Int × Int)} {z : Int × Int} (h : NxQ who ps pre z) : z.1 < (ps.length : Int) := by
 obtain ⟨suf, h⟩ := h
 have := (oN (who := who) (l := ps) (k := 0) (z := z) (by rw [h]; simp)).1
 rwa [Nat.zero_add] at this
theorem qw {sg : Int} {pre : List (Int × Int)} {z : Int × Int} (h : ∀ y ∈ pre, okQ ps sg y = true) (hz : okQ ps sg z = true) : ∀ y ∈ pre ++ [z], okQ ps sg y = true := by
 intro y hy
 rcases yF.1 hy with h1 | h1
 ·exact h y h1
 ·rw [ya.1 h1]; exact hz
theorem lT {sg who : Int} {pre : List (Int × Int)} {z : Int × Int} (hn : NxQ who ps pre z) (h : ∀ y ∈ pre, okQ ps sg y = true) (hz : okQ ps sg z = false) : ck sg who ps 0 = some z.1 := by
 obtain ⟨suf, e⟩ := hn
 rw [gP ps 0 who rfl, e, List.find?_append, zb.2 (fun y hy => by rw [h y hy]; simp), Option.none_or, List.find?_cons, hz]
 rfl
theorem ru {sg who : Int} (h : ∀ y ∈ pers who ps 0, okQ ps sg y = true) : ck sg who ps 0 = none := by
 rw [gP ps 0 who rfl, zb.2 (fun y hy => by rw [h y hy]; simp)]
 rfl
theorem Pxy.ok_frm {p : Pxy} (h : p.ok = true) : 0 ≤ p.frm ∧ p.frm ≤ 63 := by
 simp only [Pxy.ok, inB, xD, xG] at h; omega
theorem Wsh.ok_signer {x : Wsh} (h : x.ok = true) : 0 ≤ x.signer ∧ x.signer ≤ 63 := by
 simp only [Wsh.ok, inB, xD, xG] at h; omega
theorem Wsh.ok_bnd {x : Wsh} (h : x.ok = true) : 0 ≤ x.rf ∧ x.rf < x.rt ∧ x.rt ≤ 100000000 ∧ 0 ≤ x.sf ∧ x.sf < x.st ∧ x.st ≤ 10000001 := by
 simp only [Wsh.ok, cF, du, xD, xG] at h; omega
theorem hC {n : Int} (h0 : 0 ≤ n) (h1 : n.toNat < ks.length) : keyAt ks n = some (ks.getD n.toNat []) := by
 unfold keyAt; rw [xW om, xJ, xM h1]; rfl
theorem lC {n : Int} (h0 : 0 ≤ n) (h1 : ks.length ≤ n.toNat) : keyAt ks n = none := by
 unfold keyAt; rw [xW om, zh h1]
theorem sn {k : Nat} (hk : k < ps.length) (h0 : 0 ≤ (ps.getD k Pxy.z).frm) (h1 : (ps.getD k Pxy.z).frm.toNat < ks.length) (h2 : (ps.getD k Pxy.z).sig = sealH (ks.getD (ps.getD k Pxy.z).frm.toNat []) (ps.getD k Pxy.z).content) :
  bM ks x (ps.drop k) k = bM ks x (ps.drop (k + 1)) (k + 1) := by
 rw [dB Pxy.z hk, bM, hC h0 h1, xY]
 exact xF h2
theorem oM {k : Nat} (hk : k < ps.length) (h0 : 0 ≤ (ps.getD k Pxy.z).frm) (h1 : ks.length ≤ (ps.getD k Pxy.z).frm.toNat) : bM ks x (ps.drop k) k = some (k : Int) := by
 rw [dB Pxy.z hk, bM, lC h0 h1, xW]; simp
theorem nF {k : Nat} (hk : k < ps.length) (h0 : 0 ≤ (ps.getD k Pxy.z).frm) (h1 : (ps.getD k Pxy.z).frm.toNat < ks.length) (h2 : ¬ (ps.getD k Pxy.z).sig = sealH (ks.getD (ps.getD k Pxy.z).frm.toNat []) (ps.getD k Pxy.z).content) :
  bM ks x (ps.drop k) k = some (k : Int) := by
 rw [dB Pxy.z hk, bM, hC h0 h1, xW]
 rw [Option.any_some, xK h2]; simp
theorem lX {k : Nat} (h0 : 0 ≤ x.signer) (h1 : ks.length ≤ x.signer.toNat) : bM ks x [] k = some (-1) := by
 rw [bM, lC h0 h1, xW]; simp
theorem mC {k : Nat} (h0 : 0 ≤ x.signer) (h1 : x.signer.toNat < ks.length) (h2 : ¬ x.sig = sealH (ks.getD x.signer.toNat []) x.content) : bM ks x [] k = some (-1) := by
 rw [bM, hC h0 h1, xW]
 rw [Option.any_some, xK h2]; simp
theorem rQ {k : Nat} (h0 : 0 ≤ x.signer) (h1 : x.signer.toNat < ks.length) (h2 : x.sig = sealH (ks.getD x.signer.toNat []) x.content) : bM ks x [] k = none := by
 rw [bM, hC h0 h1, xY]
 exact xF h2
end
theorem ux {x : Wsh} {ps : List Pxy} (h : (scopeV x ps).2 = false) : bB x none ps 0 = none := by
 unfold scopeV at h
 cases hs : bB x none ps 0 with
 | none => rfl
 | some n => rw [hs] at h; cases h
theorem rl {x : Wsh} {ps : List Pxy} (h : (scopeV x ps).2 = true) : bB x none ps 0 = some (scopeV x ps).1 := by
 unfold scopeV at h ⊢
 cases hs : bB x none ps 0 with
 | none => rw [hs] at h; cases h
 | some n => rfl
theorem wP (kv lv : Value) (ks : List By) (x : Wsh) (ps : List Pxy) (number t : Int) (w0 : World) (hkv : SlAt w0 kv 1 (ks.map fun s => [sv s])) (hlv : SlAt w0 lv 7 (ps.map Pxy.cells)) (hk0 : (blk 0 (kOf.map wv) 258).ok w0) :
  Ret Tryz.prog 103 #[kv, .agg #[jv x.signer, jv x.holder, jv x.rf, jv x.rt, jv x.carrier, jv x.serial, jv x.sf, jv x.st, sv x.sig], lv, jv number, jv t] w0 fun v w => v = .tuple #[jv (whyH ks x ps number t).1, jv (whyH ks x ps number t).2] ∧ Ext No w0 w := by
 have hxb := hlv.2.1
 simp only [xC, big] at hxb
 have hyb := hkv.2.1
 simp only [xC, big] at hyb
 refine zD func103 O ntmps103 (lb O) fun a Z Y => ?_
 refine aa fun _ G1 => aS Z Y O [jv x.signer, jv x.holder, jv x.rf, jv x.rt, jv x.carrier, jv x.serial, jv x.sf, jv x.st, sv x.sig] O fun a w1 Z Y => aS Z Y O [lv] (by rw [(Y.arg hlv).cells]) fun a w2 Z Y => aC Z Y (zeroValue3 _) [jv 0] O fun a w3 Z Y => aC Z Y (zeroValue3 _) [jv 0] O fun a w4 Z Y => G1 <| aa fun _ G2 => ?_
 refine wla Z O fun a Z => G2 <| ah fun _ G3 => ?_
 refine aa fun _ G4 => nv Z <| xy O <| xx ((aL (sT := 44) (Y.arg hkv) O O (runUnderlying44 _)).asi (m' := (ks.length : Int)) z6) <| xx (v_gt O O) <| xy O <| fun a Z => ?_
 rcases Decidable.em (64 < (ks.length : Int)) with hb1 | hb1
 ·rw [xF hb1] at Z
  refine nv Z <| xB <| xB <| xB <| xx (aw O O) <| xy O <| xB <| xB <| xB <| xx (aw O O) <| xy O <| xB <| xB <| xB <| xx (aw O O) <| fun a Z => G4 ?_
  replace Z := Z.p8 0 3 4 6 7 10 11 37 O
  refine aH Z O ?_
  refine aa fun _ G5 => az 1 Z Y [jv 1] O (sizeOf3 _) fun a w5 Z Y => az 0 Z Y [jv (-1)] O (sizeOf3 _) fun a w6 Z Y => G5 <| ap ?_
  refine al Z results103 (ak O (aG (Y.g 1 O) (isAgg3 _)) (ak O (aG (Y.g 0 O) (isAgg3 _)) ae)) ?_
  exact ⟨by rw [fW (by unfold formB; first | exact .inl om | exact .inr (.inr (.inr om)) | exact .inr (.inr (.inl hb1)) | exact .inr (.inl (by rw [fQ] at hb1; simpa using hb1)))]; rfl, Y.ext⟩
 rw [xK hb1] at Z
 refine nv Z <| xA (ay O) <| xA (ay O) <| fun a Z => aF Z Y call146 O (qX (fun s => !decide ((s.length : Int) = 32)) _ call145 (Y.arg hkv) (fun x w _ => vY x w)) fun a w7 Z Y => nv Z <| xx (ai O O) <| xy O <| fun a Z => ?_
 rcases xH (ks.any fun s => !decide ((s.length : Int) = 32)) with hb2 | hb2
 ·rw [hb2] at Z
  try simp only [qz] at hb2
  refine nv Z <| xB <| xB <| xB <| xx (aw O O) <| xy O <| xB <| xB <| xB <| xx (aw O O) <| fun a Z => G4 ?_
  replace Z := Z.p8 0 3 4 6 7 10 11 37 O
  refine aH Z O ?_
  refine aa fun _ G6 => az 1 Z Y [jv 1] O (sizeOf3 _) fun a w8 Z Y => az 0 Z Y [jv (-1)] O (sizeOf3 _) fun a w9 Z Y => G6 <| ap ?_
  refine al Z results103 (ak O (aG (Y.g 1 O) (isAgg3 _)) (ak O (aG (Y.g 0 O) (isAgg3 _)) ae)) ?_
  exact ⟨by rw [fW (by unfold formB; first | exact .inl om | exact .inr (.inr (.inr om)) | exact .inr (.inr (.inl hb2)) | exact .inr (.inl (by rw [fQ] at hb2; simpa using hb2)))]; rfl, Y.ext⟩
 rw [hb2] at Z
 try simp only [qz] at hb2
 refine wly Z (ao (Y.g 3 O) O (isAgg90 _) (sizeOf90 _)) fun a Z => aF Z Y call85 O (iM x _) fun a w10 Z Y => nv Z <| xA (bD O) <| xx (ai O O) <| xy O <| fun a Z => ?_
 rcases xH (!x.ok) with hb3 | hb3
 ·rw [hb3] at Z
  try simp only [qz] at hb3
  refine nv Z <| xB <| xB <| xB <| xx (aw O O) <| fun a Z => G4 ?_
  replace Z := Z.p8 0 3 4 6 7 10 11 37 O
  refine aH Z O ?_
  refine aa fun _ G7 => az 1 Z Y [jv 1] O (sizeOf3 _) fun a w11 Z Y => az 0 Z Y [jv (-1)] O (sizeOf3 _) fun a w12 Z Y => G7 <| ap ?_
  refine al Z results103 (ak O (aG (Y.g 1 O) (isAgg3 _)) (ak O (aG (Y.g 0 O) (isAgg3 _)) ae)) ?_
  exact ⟨by rw [fW (by unfold formB; first | exact .inl om | exact .inr (.inr (.inr om)) | exact .inr (.inr (.inl hb3)) | exact .inr (.inl (by rw [fQ] at hb3; simpa using hb3)))]; rfl, Y.ext⟩
 rw [hb3] at Z
 try simp only [qz] at hb3
 refine nv Z <| xA (ld Y 2 O O (isAgg91 _) O) <| xA ((aL (sT := 91) (Y.arg hlv) O O (runUnderlying91 _)).asi (m' := (ps.length : Int)) z6) <| xA (v_gt O O) <| xx (ai O O) <| fun a Z => G4 ?_
 replace Z := Z.p8 0 3 4 6 7 10 11 37 O
 refine aA Z O (fun hc4 => ?_) (fun hc4 => ?_)
 ·refine aa fun _ G8 => az 1 Z Y [jv 1] O (sizeOf3 _) fun a w13 Z Y => az 0 Z Y [jv (-1)] O (sizeOf3 _) fun a w14 Z Y => G8 <| ap ?_
  refine al Z results103 (ak O (aG (Y.g 1 O) (isAgg3 _)) (ak O (aG (Y.g 0 O) (isAgg3 _)) ae)) ?_
  exact ⟨by rw [fW (by unfold formB; first | exact .inl om | exact .inr (.inr (.inr om)) | exact .inr (.inr (.inl hc4)) | exact .inr (.inl (by rw [fQ] at hc4; simpa using hc4)))]; rfl, Y.ext⟩
 refine au <| G3 <| ah fun _ G9 => ?_
 have hxo : x.ok = true := hb3
 have hnf : ¬ formB ks x ps := by
  rintro (h | h | h | h)
  ·omega
  ·rw [fQ, h] at hb2; simp at hb2
  ·rw [hxo] at h; cases h
  ·omega
 have hk32 := uU hnf
 have hxd := Wsh.ok_bnd hxo
 have hxg := Wsh.ok_signer hxo
 refine aa fun _ G10 => wlv Z (ld Y 2 O O (isAgg91 _) O) fun a Z => ax Z Y call140 O (jg lv ps _ (Y.arg hlv)) fun a w15 Z Y => wla Z O fun a Z => G10 <| aa fun _ G11 => ?_
 refine nv Z <| xy O <| xx (v_ge O O) <| fun a Z => G11 <| aA Z O (fun hc5 => ?_) (fun hc5 => ?_)
 ·refine aa fun _ G12 => wlm Z O fun a Z => az 1 Z Y [jv 1] O (sizeOf3 _) fun a w16 Z Y => az 0 Z Y [jv (badN ps)] O (sizeOf3 _) fun a w17 Z Y => G12 ?_
  replace Z := Z.p7 0 3 4 6 7 10 11 O
  refine ap <| al Z results103 (ak O (aG (Y.g 1 O) (isAgg3 _)) (ak O (aG (Y.g 0 O) (isAgg3 _)) ae)) ?_
  exact ⟨by rw [qC hnf hc5]; rfl, Y.ext⟩
 refine au <| G9 <| ah fun _ G13 => ?_
 have hbn := nS (l := ps) om
 refine aa fun _ G14 => nv Z <| xy O <| xx (ac (v := po w0.hz 6) O kr) <| xx (ac (v := po w0.hz 6) O kr) <| xx (ld Y 3 O O (isAgg3 _) O) <| xx (ac (v := po w0.hz 6) O kr) <| xx (ac (v := po w0.hz 7) O kr) <| xx (ld Y 3 O O (isAgg3 _) O) <| xx (bH O O ⟨om, om⟩) <| fun a Z => ax Z Y call100 O (cY t x.sf (x.st - 1) _) fun a w18 Z Y => wlv Z (bD O) fun a Z => G14 ?_
 replace Z := Z.p7 0 3 6 7 10 11 52 O
 refine bu Z O (fun hc6 => ?_) (fun hc6 => ?_)
 ·try simp only [qz] at hc6
  refine aa fun _ G15 => az 1 Z Y [jv 2] O (sizeOf3 _) fun a w19 Z Y => az 0 Z Y [jv (-1)] O (sizeOf3 _) fun a w20 Z Y => G15 <| ap ?_
  refine al Z results103 (ak O (aG (Y.g 1 O) (isAgg3 _)) (ak O (aG (Y.g 0 O) (isAgg3 _)) ae)) ?_
  exact ⟨by rw [kd hnf hbn hc6]; rfl, Y.ext⟩
 try simp only [qz] at hc6
 refine au <| G13 <| ah fun _ G16 => aa fun _ G17 => nv Z <| xy O <| xx (ac (v := po w0.hz 2) O kr) <| xx (ac (v := po w0.hz 2) O kr) <| xx (ld Y 3 O O (isAgg3 _) O) <| xx (ac (v := po w0.hz 2) O kr) <| xx (ac (v := po w0.hz 3) O kr) <| xx (ld Y 3 O O (isAgg3 _) O) <| xx (bH O O ⟨om, om⟩) <| fun a Z => ax Z Y call100 O (cY number x.rf (x.rt - 1) _) fun a w21 Z Y => wlv Z (bD O) fun a Z => G17 ?_
 replace Z := Z.p6 0 6 7 10 11 62 O
 refine bu Z O (fun hc7 => ?_) (fun hc7 => ?_)
 ·try simp only [qz] at hc7
  refine aa fun _ G18 => az 1 Z Y [jv 3] O (sizeOf3 _) fun a w22 Z Y => az 0 Z Y [jv (-1)] O (sizeOf3 _) fun a w23 Z Y => G18 <| ap ?_
  refine al Z results103 (ak O (aG (Y.g 1 O) (isAgg3 _)) (ak O (aG (Y.g 0 O) (isAgg3 _)) ae)) ?_
  exact ⟨by rw [mN hnf hbn hc6 hc7]; rfl, Y.ext⟩
 try simp only [qz] at hc7
 refine au <| G16 <| ah fun _ G19 => ?_
 have hwp : whyP ks x ps number t := ⟨hnf, hbn, hc6, hc7⟩
 refine aa fun _ G20 => nv Z <| xx (ac (v := po w0.hz 1) O kr) <| xx (ld Y 3 O O (isAgg3 _) O) <| xx (ld Y 2 O O (isAgg91 _) O) <| fun a Z => bC Z Y call147 O (pn x.holder lv ps _ (Y.arg hlv)) fun a w24 x8 hp Z Y => ?_
 obtain ⟨bh, bl⟩ := x8
 clear hp
 try dsimp only at Y
 replace Y := Y.n6 O
 refine G20 <| ar ?_
 replace Y := Y.s6 [5, 4, 3, 2, 1, 0] de rfl
 replace Z := Z.p9 0 6 7 10 11 63 64 65 66 O
 refine dE (M := No) (w0 := w0) (encs := encQ) (Hi := [blk bh [jv x.holder] 3, blk bl [lv] 91]) (Hc := [blk w0.hz [jv x.signer, jv x.holder, jv x.rf, jv x.rt, jv x.carrier, jv x.serial, jv x.sf, jv x.st, sv x.sig] 90, blk w1.hz [lv] 91, blk w2.hz [jv 0] 3, blk w3.hz [jv 0] 3]) (fun pre H => (∀ z ∈ pre, okQ ps x.signer z = true) ∧ H = [blk w0.hz [jv x.signer, jv x.holder, jv x.rf, jv x.rt, jv x.carrier, jv x.serial, jv x.sf, jv x.st, sv x.sig] 90, blk w1.hz [lv] 91, blk w2.hz [jv 0] 3, blk w3.hz [jv 0] 3]) (fun c pre H => c = .ret ∧ ∃ (i : Int), (ck x.signer x.holder ps 0 = some i) ∧ H = [blk w0.hz [jv x.signer, jv x.holder, jv x.rf, jv x.rt, jv x.carrier, jv x.serial, jv x.sf, jv x.st, sv x.sig] 90, blk w1.hz [lv] 91, blk w2.hz [jv 4] 3, blk w3.hz [jv i] 3]) (fun pre xs H a => Fr 142 [(6, pq w0.hz), (7, pq w1.hz), (10, pq w2.hz), (11, pq w3.hz), (14, jv xs.1), (15, jv xs.2)] [] a ∧ (∀ z ∈ pre, okQ ps x.signer z = true) ∧ H = [blk w0.hz [jv x.signer, jv x.holder, jv x.rf, jv x.rt, jv x.carrier, jv x.serial, jv x.sf, jv x.st, sv x.sig] 90, blk w1.hz [lv] 91, blk w2.hz [jv 0] 3, blk w3.hz [jv 0] 3]) O call183 Z Y (mS x.holder lv ps bh bl (fun H w h => h.arg hlv)) de (fun _ => O) ⟨sm, O⟩ ?_ ?_ ?_ ?_
 ·clear Z Y
  rintro lp pre xs _ a w25 hnx ⟨hpq, rfl⟩ Z Y
  generalize (join [blk w0.hz [jv x.signer, jv x.holder, jv x.rf, jv x.rt, jv x.carrier, jv x.serial, jv x.sf, jv x.st, sv x.sig] 90, blk w1.hz [lv] 91, blk w2.hz [jv 0] 3, blk w3.hz [jv 0] 3]).foot = M1 at Y ⊢
  refine aa fun _ G21 => wla (Z.p11 68 67 0 6 7 10 11 63 64 65 66 O) O fun a Z => G21 ?_
  refine aj <| wla (Z.p6 68 6 7 10 11 14 O) O fun a Z => ab ?_
  exact ⟨_, ⟨Z.pick [6, 7, 10, 11, 14, 15], hpq, O⟩, Y⟩
 ·rintro lp pre xs _ a w26 hnx ⟨Z, hpq, rfl⟩ hout hrec hnl Y
  clear hrec hnl
  generalize (join [blk w0.hz [jv x.signer, jv x.holder, jv x.rf, jv x.rt, jv x.carrier, jv x.serial, jv x.sf, jv x.st, sv x.sig] 90, blk w1.hz [lv] 91, blk w2.hz [jv 0] 3, blk w3.hz [jv 0] 3]).foot = M1 at Y hout ⊢
  refine ar <| aa fun _ G22 => nv Z <| xy O <| xx (v_ge O O) <| xy O <| fun a Z => ?_
  rcases Decidable.em (0 ≤ xs.1) with hb9 | hb9
  ·rw [xF hb9] at Z
   have hqlt := qu hnx
   refine nv Z <| xA (ld Y 1 O O (isAgg91 _) O) <| xA (ay O) <| xA ((am (i := xs.1) (sT := 91) (hlv.grow (hout _ Y.ext)) O O (runUnderlying91 _) (sizeOf144 _) om zL).as (v' := slAddr lv (xs.1.toNat * 7)) (by rw [show (xs.1).toNat = xs.1.toNat from by omega])) <| xA (cC (k := xs.1.toNat * 7) (j := 0) (hlv.grow (hout _ Y.ext)) (i := xs.1.toNat) zL O (fun _ _ => by kernel_rfl)) <| xA (aD (u := jv ((ps.getD xs.1.toNat Pxy.z).frm)) (i := xs.1.toNat) (j := 0) (hlv.grow (hout _ Y.ext)) zL O (isAgg3 _) Ap) <| xA (ay O) <| xA (v_ne O O) <| xx (aw O O) <| xy O <| fun a Z => ?_
   rcases (Decidable.em ((ps.getD xs.1.toNat Pxy.z).frm = xs.2)).symm with hb10 | hb10
   ·rw [xK hb10] at Z
    refine nv Z <| xB <| xB <| xB <| fun a Z => bW Z fun a Z => bW Z fun a Z => bW Z fun a Z => bW Z fun a Z => nv Z <| xB <| xx (aw O O) <| fun a Z => G22 ?_
    replace Z := Z.p4 10 11 14 89 O
    refine aH Z O ?_
    refine aa fun _ G23 => wlm Z O fun a Z => az 2 Z Y [jv 4] O (sizeOf3 _) fun a w27 Z Y => az 3 Z Y [jv xs.1] O (sizeOf3 _) fun a w28 Z Y => G23 <| ap ?_
    exact ⟨_, ⟨O, xs.1, lT hnx hpq (vz hb9 hb10), O⟩, Y.select [0, 1, 2, 3] de⟩
   rw [xF hb10] at Z
   refine nv Z <| xA (ay O) <| xA ((v_lt O O).asb (b' := false) AN) <| xA (ay O) <| xB <| xB <| xB <| xB <| xA (ai O O) <| xx (ai O O) <| fun a Z => G22 ?_
   replace Z := Z.p4 10 11 14 89 O
   refine aJ Z O ?_
   refine au ?_
   exact ⟨_, ⟨qw hpq (wg hb9 hb10), O⟩, Y.select [0, 1, 2, 3] de⟩
  rw [xK hb9] at Z
  have hqlt := qu hnx
  refine nv Z <| xB <| xB <| xB <| xB <| xB <| xB <| xB <| xx (ai O O) <| xy O <| xA (ay O) <| xA ((v_lt O O).asb (b' := true) (by exact xF om)) <| xA (ay O) <| xA (ac (v := pq w0.hz) O kr) <| xA (ld Y 0 O O (isAgg3 _) O) <| xA (ay O) <| xA (v_ne O O) <| xA (aw O O) <| xx (ai O O) <| fun a Z => G22 ?_
  replace Z := Z.p4 10 11 14 89 O
  refine dm Z O (fun hc11 => ?_) (fun hc11 => ?_)
  ·refine aa fun _ G24 => wlm Z O fun a Z => az 2 Z Y [jv 4] O (sizeOf3 _) fun a w29 Z Y => az 3 Z Y [jv xs.1] O (sizeOf3 _) fun a w30 Z Y => G24 <| ap ?_
   exact ⟨_, ⟨O, xs.1, lT hnx hpq (vK om hc11), O⟩, Y.select [0, 1, 2, 3] de⟩
  refine au ?_
  exact ⟨_, ⟨qw hpq (vd om hc11), O⟩, Y.select [0, 1, 2, 3] de⟩
 ·rintro D pre _ _ a w31 ⟨rfl, rfl⟩ ⟨hpq, rfl⟩ Y Z
  replace Z := Z.p9 0 6 7 10 11 63 64 65 66 O
  replace Y := Y.n7 O
  refine G19 <| ah fun _ G25 => ?_
  have hch := ru hpq
  refine aa fun _ G26 => nv Z <| xx (ao (Y.g 1 O) O (isAgg90 _) (sizeOf90 _)) <| xx (ld Y 2 O O (isAgg91 _) O) <| fun a Z => ax Z Y call148 O (sW x lv ps _ (Y.arg hlv)) fun a w32 Z Y => nv Z <| xy O <| xx (aq O O) <| xx (aq O O) <| xz O <| xz O <| fun a Z => G26 ?_
  replace Z := Z.p7 0 6 7 10 11 16 17 O
  refine aa fun _ G27 => wlm Z O fun a Z => G27 <| bu Z O (fun hc12 => ?_) (fun hc12 => ?_)
  ·refine aa fun _ G28 => wlm Z O fun a Z => az 3 Z Y [jv 5] O (sizeOf3 _) fun a w33 Z Y => az 4 Z Y [jv ((scopeV x ps).1)] O (sizeOf3 _) fun a w34 Z Y => G28 <| ap ?_
   have hD := Y.g 0 rfl
   replace Y := Y.unmark (i := 0) (o' := .deferred none) O
   replace Y := Y.n6 O
   refine co Z hD results103 (ak O (aG (Y.g 2 O) (isAgg3 _)) (ak O (aG (Y.g 3 O) (isAgg3 _)) ae)) ?_
   exact ⟨by rw [mf hwp hch (rl hc12)]; rfl, Y.ext⟩
  refine au <| G25 <| ah fun _ G29 => ?_
  have hsc : bB x none ps 0 = none := ux hc12
  refine aa fun _ G30 => nv Z <| xx (ld Y 2 O O (isAgg91 _) O) <| xx ((aL (sT := 91) (Y.arg hlv) O O (runUnderlying91 _)).asi (m' := (ps.length : Int)) z6) <| xy O <| fun a Z => G30 <| ar ?_
  refine aW (fun m a w => ∃ (k : Nat), m = ps.length - k ∧ (k ≤ ps.length) ∧ (bM ks x ps 0 = bM ks x (ps.drop k) k) ∧ Fr 142 [(0, kv), (6, pq w0.hz), (10, pq w2.hz), (11, pq w3.hz), (99, lv), (100, jv (ps.length : Int)), (101, jv (k : Int))] [{ target := .collected D, args := #[] }] a ∧ St No w0 [obj D (.deferred (some [])), blk w0.hz [jv x.signer, jv x.holder, jv x.rf, jv x.rt, jv x.carrier, jv x.serial, jv x.sf, jv x.st, sv x.sig] 90, blk w1.hz [lv] 91, blk w2.hz [jv 0] 3, blk w3.hz [jv 0] 3, blk bh [jv x.holder] 3, blk bl [lv] 91] w) _ ⟨0, O, yc _, O, Z.pick [0, 6, 10, 11, 99, 100, 101], Y.select [0, 1, 2, 3, 4, 5, 6] de⟩ ?_
  rintro _ a w35 ⟨k, rfl, hk, hsb, Z, Y⟩
  refine aa fun _ G31 => wlv Z (v_lt O O) fun a Z => G31 <| ah fun _ G32 => ?_
  refine aA Z O (fun hc13 => ?_) (fun hc13 => ?_)
  ·have hkx : k < ps.length := by omega
   have hpk := dW hbn _ (bt (d := Pxy.z) hkx)
   have hp0 := Pxy.ok_frm hpk
   refine au <| G32 <| ah fun _ G33 => ar <| aa fun _ G34 => nv Z <| xy O <| xx ((am (i := (k : Int)) (sT := 91) (Y.arg hlv) O O (runUnderlying91 _) (sizeOf144 _) om zL).as (v' := slAddr lv (k * 7)) O) <| xx ((bL (Y.arg hlv) (i := k) zL O (isAgg144 _) (sizeOf144 _)).as (v' := .agg #[jv ((ps.getD k Pxy.z).frm), jv ((ps.getD k Pxy.z).to), jv ((ps.getD k Pxy.z).rf), jv ((ps.getD k Pxy.z).rt), jv ((ps.getD k Pxy.z).sf), jv ((ps.getD k Pxy.z).st), sv ((ps.getD k Pxy.z).sig)]) Ap) <| fun a Z => aC Z Y (zeroValue144 _) [jv 0, jv 0, jv 0, jv 0, jv 0, jv 0, .string (⟨#[]⟩)] O fun a w36 Z Y => ?_
   refine wla Z O fun a Z => az 0 Z Y [jv ((ps.getD k Pxy.z).frm), jv ((ps.getD k Pxy.z).to), jv ((ps.getD k Pxy.z).rf), jv ((ps.getD k Pxy.z).rt), jv ((ps.getD k Pxy.z).sf), jv ((ps.getD k Pxy.z).st), sv ((ps.getD k Pxy.z).sig)] O (sizeOf144 _) fun a w37 Z Y => G34 ?_
   replace Z := Z.p9 0 6 10 11 99 100 101 19 18 O
   refine ah fun _ G35 => aM (aN fun w38 hxz => ?_)
   replace Y := Y.grow hxz
   refine aU (k := 0) 4 [1, 3] Z ?_
   refine bQ 4 (Z.p9 0 6 10 11 99 100 101 19 18 O) Y <| pl_v (ac (v := pq w35.hz) O kr) <| pl_w (fun Y => ld Y 0 O O (isAgg3 _) O) <| pl_m O <| pl_w (fun Y => (aL (sT := 44) (Y.arg hkv) O O (runUnderlying44 _)).asi (m' := (ks.length : Int)) z6) fun a w39 Z Y => ab <| aK (k := 4) 6 [5] ?_
   refine nv Z <| xx (v_ge O O) <| xy O <| fun a Z => ab ?_
   rcases Decidable.em ((ks.length : Int) ≤ (ps.getD k Pxy.z).frm) with hb14 | hb14
   ·rw [xF hb14] at Z
    refine cW (k := 6) 15 [7, 14] (Z.p15 0 6 10 11 99 100 101 19 18 106 107 108 109 110 111 O) fun a Z => ?_
    replace Z : Fr 142 [(112, undef), (113, undef), (114, undef), (115, undef), (116, undef), (117, undef), (118, undef), (119, undef), (120, undef), (0, kv), (6, pq w0.hz), (10, pq w2.hz), (11, pq w3.hz), (99, lv), (100, jv (ps.length : Int)), (101, jv (k : Int)), (19, pq w35.hz), (18, jv (k : Int)), (106, pq w35.hz), (107, jv ((ps.getD k Pxy.z).frm)), (108, kv), (109, jv (ks.length : Int)), (110, .bool true), (111, .bool true)] [{ target := .collected D, args := #[] }] a := Z
    refine aK (k := 15) 17 [16] ?_
    refine nv Z <| xB <| xx (aw O O) <| fun a Z => ab <| aT <| G35 ?_
    replace Z := Z.p9 0 6 10 11 99 100 101 18 122 O
    replace Y := Y.k7 254 O
    refine aH Z O ?_
    refine aa fun _ G36 => wlm Z O fun a Z => az 3 Z Y [jv 6] O (sizeOf3 _) fun a w40 Z Y => az 4 Z Y [jv (k : Int)] O (sizeOf3 _) fun a w41 Z Y => G36 <| ap ?_
    have hD := Y.g 0 rfl
    replace Y := Y.unmark (i := 0) (o' := .deferred none) O
    replace Y := Y.n6 O
    refine co Z hD results103 (ak O (aG (Y.g 2 O) (isAgg3 _)) (ak O (aG (Y.g 3 O) (isAgg3 _)) ae)) ?_
    exact ⟨by rw [gj hwp hch hsc (by rw [hsb]; first | exact oM hkx hp0.1 om | exact nF hkx hp0.1 om hb14)]; rfl, Y.ext⟩
   rw [xK hb14] at Z
   refine aU (k := 6) 15 [7, 14] Z ?_
   replace Z := Z.p15 0 6 10 11 99 100 101 19 18 106 107 108 109 110 111 O
   refine bQ 9 Z Y <| pl_v (ac (v := po w35.hz 6) O kr) <| pl_w (fun Y => ld Y 0 O O (isAgg9 _) O) <| pl_m O <| pl_v (ac (v := pq w35.hz) O kr) <| pl_w (fun Y => ld Y 0 O O (isAgg3 _) O) <| pl_w (fun Y => (am (i := (ps.getD k Pxy.z).frm) (sT := 44) (Y.arg hkv) O O (runUnderlying44 _) (sizeOf9 _) om zL).as (v' := slAddr kv (((ps.getD k Pxy.z).frm.toNat) * 1)) (by rw [show ((ps.getD k Pxy.z).frm).toNat = (ps.getD k Pxy.z).frm.toNat from by omega])) ?_
   refine pl_w (fun Y => aD (u := sv (ks.getD ((ps.getD k Pxy.z).frm.toNat) [])) (i := ((ps.getD k Pxy.z).frm.toNat)) (j := 0) (Y.arg hkv) zL O (isAgg9 _) Bn) <| pl_v (cd O O) ?_
   refine pl_r (fun Y => bF call86 O (lw (ks.getD ((ps.getD k Pxy.z).frm.toNat) []) (ps.getD k Pxy.z).content 149 w35.hz [jv ((ps.getD k Pxy.z).frm), jv ((ps.getD k Pxy.z).to), jv ((ps.getD k Pxy.z).rf), jv ((ps.getD k Pxy.z).rt), jv ((ps.getD k Pxy.z).sf), jv ((ps.getD k Pxy.z).st), sv ((ps.getD k Pxy.z).sig)] 144 _ call149 (fun b v ws h => uX b w35.hz v (ps.getD k Pxy.z) ws (Pxy.smalls_of hpk) h) iu (by have := hk32 _ (bt (d := []) (by omega : ((ps.getD k Pxy.z).frm.toNat) < ks.length)); omega) (yB ((ps.getD k Pxy.z).content_len) de) (Y.keepb hk0) (Y.g 0 O) (nG Y (i := 0) O hk0))) fun a w42 Z Y => ?_
   replace Z := Z.p11 0 6 10 11 99 100 101 18 111 113 120 O
   refine ab <| aK (k := 15) 17 [16] ?_
   refine nv Z <| xA (wJ O O) <| xx (ai O O) <| fun a Z => ab <| aT <| G35 <| dm Z O (fun hc15 => ?_) (fun hc15 => ?_)
   ·refine aa fun _ G37 => wlm Z O fun a Z => az 4 Z Y [jv 6] O (sizeOf3 _) fun a w43 Z Y => az 5 Z Y [jv (k : Int)] O (sizeOf3 _) fun a w44 Z Y => G37 ?_
    replace Z := Z.p7 0 6 10 11 99 100 101 O
    replace Y := Y.k7 254 O
    refine ap ?_
    have hD := Y.g 0 rfl
    replace Y := Y.unmark (i := 0) (o' := .deferred none) O
    replace Y := Y.n6 O
    refine co Z hD results103 (ak O (aG (Y.g 2 O) (isAgg3 _)) (ak O (aG (Y.g 3 O) (isAgg3 _)) ae)) ?_
    exact ⟨by rw [gj hwp hch hsc (by rw [hsb]; first | exact oM hkx hp0.1 om | exact nF hkx hp0.1 om hc15)]; rfl, Y.ext⟩
   refine au <| G33 <| aj <| nv Z <| xx (aP O O ⟨om, om⟩) <| xy O <| fun a Z => ab ?_
   refine ⟨_, ?_, k + 1, O, om, (by rw [hsb]; exact sn hkx hp0.1 om hc15), Z.pick [0, 6, 10, 11, 99, 100, 101], Y.select [1, 2, 3, 4, 5, 6, 7] de⟩
   omega
  have hke : k = ps.length := by omega
  rw [hke, List.drop_length] at hsb
  refine aO <| G29 <| ah fun _ G38 => ah fun _ G39 => aM (aN fun w45 hxz => ?_)
  replace Y := Y.grow hxz
  refine aU (k := 0) 4 [1, 3] Z ?_
  refine bQ 4 (Z.p7 0 6 10 11 99 100 101 O) Y <| pl_v (ac (v := pq w0.hz) O kr) <| pl_w (fun Y => ld Y 1 O O (isAgg3 _) O) <| pl_m O <| pl_w (fun Y => (aL (sT := 44) (Y.arg hkv) O O (runUnderlying44 _)).asi (m' := (ks.length : Int)) z6) fun a w46 Z Y => ?_
  replace Z := Z.p6 0 6 10 11 126 128 O
  refine ab <| aK (k := 4) 6 [5] ?_
  refine nv Z <| xx (v_ge O O) <| xy O <| fun a Z => ab ?_
  rcases Decidable.em ((ks.length : Int) ≤ x.signer) with hb16 | hb16
  ·rw [xF hb16] at Z
   refine cW (k := 6) 15 [7, 14] (Z.p8 0 6 10 11 126 128 129 130 O) fun a Z => ?_
   replace Z := Z.p17 131 132 133 134 135 136 137 138 139 0 6 10 11 126 128 129 130 O
   refine aK (k := 15) 17 [16] ?_
   refine nv Z <| xB <| xx (aw O O) <| fun a Z => ab <| aT <| G39 ?_
   replace Z := Z.p3 10 11 141 O
   refine aH Z O ?_
   refine aa fun _ G40 => az 3 Z Y [jv 6] O (sizeOf3 _) fun a w47 Z Y => az 4 Z Y [jv (-1)] O (sizeOf3 _) fun a w48 Z Y => G40 <| ap ?_
   have hD := Y.g 0 rfl
   replace Y := Y.unmark (i := 0) (o' := .deferred none) O
   replace Y := Y.n6 O
   refine co Z hD results103 (ak O (aG (Y.g 2 O) (isAgg3 _)) (ak O (aG (Y.g 3 O) (isAgg3 _)) ae)) ?_
   exact ⟨by rw [gj hwp hch hsc (by rw [hsb]; first | exact lX (Wsh.ok_signer hxo).1 om | exact mC (Wsh.ok_signer hxo).1 om hb16)]; rfl, Y.ext⟩
  rw [xK hb16] at Z
  refine aU (k := 6) 15 [7, 14] Z ?_
  replace Z := Z.p8 0 6 10 11 126 128 129 130 O
  refine bQ 9 Z Y <| pl_v (ac (v := po w0.hz 8) O kr) <| pl_w (fun Y => ld Y 1 O O (isAgg9 _) O) <| pl_m O <| pl_v (ac (v := pq w0.hz) O kr) <| pl_w (fun Y => ld Y 1 O O (isAgg3 _) O) <| pl_w (fun Y => (am (i := x.signer) (sT := 44) (Y.arg hkv) O O (runUnderlying44 _) (sizeOf9 _) om zL).as (v' := slAddr kv (x.signer.toNat * 1)) (by rw [show (x.signer).toNat = x.signer.toNat from by omega])) <| pl_w (fun Y => aD (u := sv (ks.getD x.signer.toNat [])) (i := x.signer.toNat) (j := 0) (Y.arg hkv) zL O (isAgg9 _) Bn) <| pl_v (cd O O) ?_
  refine pl_r (fun Y => bF call86 O (lw (ks.getD x.signer.toNat []) x.content 150 w0.hz [jv x.signer, jv x.holder, jv x.rf, jv x.rt, jv x.carrier, jv x.serial, jv x.sf, jv x.st, sv x.sig] 90 _ call150 (fun b v ws h => wl b w0.hz v x ws (Wsh.smalls_of hxo) h) iu (by have := hk32 _ (bt (d := []) (by omega : x.signer.toNat < ks.length)); omega) (yB (x.content_len) de) (Y.keepb hk0) (Y.g 1 O) (nG Y (i := 1) O hk0))) fun a w49 Z Y => ?_
  replace Z := Z.p5 10 11 130 132 139 O
  refine ab <| aK (k := 15) 17 [16] ?_
  refine nv Z <| xA (wJ O O) <| xx (ai O O) <| fun a Z => ab <| aT <| G39 <| dm Z O (fun hc17 => ?_) (fun hc17 => ?_)
  ·refine aa fun _ G41 => az 3 Z Y [jv 6] O (sizeOf3 _) fun a w50 Z Y => az 4 Z Y [jv (-1)] O (sizeOf3 _) fun a w51 Z Y => G41 <| ap ?_
   have hD := Y.g 0 rfl
   replace Y := Y.unmark (i := 0) (o' := .deferred none) O
   replace Y := Y.n6 O
   refine co Z hD results103 (ak O (aG (Y.g 2 O) (isAgg3 _)) (ak O (aG (Y.g 3 O) (isAgg3 _)) ae)) ?_
   exact ⟨by rw [gj hwp hch hsc (by rw [hsb]; first | exact lX (Wsh.ok_signer hxo).1 om | exact mC (Wsh.ok_signer hxo).1 om hc17)]; rfl, Y.ext⟩
  refine au <| G38 <| aa fun _ G42 => az 3 Z Y [jv 0] O (sizeOf3 _) fun a w52 Z Y => az 4 Z Y [jv (-1)] O (sizeOf3 _) fun a w53 Z Y => G42 <| ap ?_
  have hD := Y.g 0 rfl
  replace Y := Y.unmark (i := 0) (o' := .deferred none) O
  replace Y := Y.n6 O
  refine co Z hD results103 (ak O (aG (Y.g 2 O) (isAgg3 _)) (ak O (aG (Y.g 3 O) (isAgg3 _)) ae)) ?_
  exact ⟨by rw [kn hwp hch hsc (by rw [hsb]; exact rQ (Wsh.ok_signer hxo).1 om hc17)]; rfl, Y.ext⟩
 ·rintro D _ pre _ _ a w54 rfl ⟨rfl, i, hci, rfl⟩ Y Z
  replace Z := Z.p9 0 6 7 10 11 63 64 65 66 O
  replace Y := Y.n7 O
  refine ap ?_
  have hD := Y.g 0 rfl
  replace Y := Y.unmark (i := 0) (o' := .deferred none) O
  replace Y := Y.n6 O
  refine co Z hD results103 (ak O (aG (Y.g 2 O) (isAgg3 _)) (ak O (aG (Y.g 3 O) (isAgg3 _)) ae)) ?_
  exact ⟨by rw [lR hwp hci]; rfl, Y.ext⟩
end Go.Proofs.YtliklcmddmpdfaaGreatDoor
namespace Go.Proofs.YtliklcmddmpdfaaGreatDoor
open Go.RowKit Go.PW _root_.Go.Proofs.Tryz
theorem nQ (kv lv : Value) (ks : List By) (x : Wsh) (ps : List Pxy) (number t : Int) (w0 : World) (hkv : SlAt w0 kv 1 (ks.map fun s => [sv s])) (hlv : SlAt w0 lv 7 (ps.map Pxy.cells)) (hk0 : (blk 0 (kOf.map wv) 258).ok w0) :
  Ret Tryz.prog 40 #[kv, .agg #[jv x.signer, jv x.holder, jv x.rf, jv x.rt, jv x.carrier, jv x.serial, jv x.sf, jv x.st, sv x.sig], lv, jv number, jv t] w0 fun v w => v = .bool (validH ks x ps number t) ∧ Ext No w0 w := by
 refine zD func40 O ntmps40 (lb O) fun a Z Y => ?_
 refine aa fun _ G1 => aS Z Y O [jv x.signer, jv x.holder, jv x.rf, jv x.rt, jv x.carrier, jv x.serial, jv x.sf, jv x.st, sv x.sig] O fun a w1 Z Y => wla Z O fun a Z => G1 <| aa fun _ G2 => ?_
 refine nv Z <| xy O <| xx (ao (Y.g 0 O) O (isAgg90 _) (sizeOf90 _)) <| xy O <| xy O <| xy O <| fun a Z => ax Z Y call103 O (wP kv lv ks x ps number t _ (Y.arg hkv) (Y.arg hlv) (Y.keepb hk0)) fun a w2 Z Y => nv Z <| xy O <| xx (aq O O) <| xx (aq O O) <| xz O <| xz O <| fun a Z => G2 ?_
 replace Y := Y.k0 0 O
 refine aa fun _ G3 => nv (Z.p2 10 11 O) <| xy O <| xx (v_eq O O) <| xz O <| fun a Z => G3 <| ap ?_
 refine al Z results40 (ag O ae) ?_
 exact ⟨by rfl, Y.ext⟩
theorem ol {x : Wsh} {lv : Value} {ps : List Pxy} {w0 : World} (hlv : SlAt w0 lv 7 (ps.map Pxy.cells)) : Ret Tryz.prog 90 #[.agg #[jv x.signer, jv x.holder, jv x.rf, jv x.rt, jv x.carrier, jv x.serial, jv x.sf, jv x.st, sv x.sig], lv] w0 fun v w => v = .bool (bT x ps) ∧ Ext No w0 w := by
 have := rg x lv ps w0 hlv
 rwa [py] at this
theorem jc : ∀ {l : List Pxy}, (∀ p ∈ l, p.sig.length = 32) → (l.flatMap Pxy.text).length ≤ 1000 * l.length
 | [], h => by simp
 | p :: l, h => by
  have h1 := h p sm
  have h2 := jc (l := l) (fun q hq => h q Ax)
  have h3 : p.content.length ≤ 9 * 7 := dO _
  rw [yn, xE, Pxy.text, xE, xN]
  omega
theorem gU {x : Wsh} {ps : List Pxy} (h : bT x ps = true) : ps.length ≤ 4 := by
 simp only [bT, xD, xG] at h; exact h.1.2
theorem kL {x : Wsh} {ps : List Pxy} (h : bT x ps = true) : x.ok = true := by
 simp only [bT, xD, xG] at h; exact h.1.1
theorem j4 {x : Wsh} {ps : List Pxy} (h : bT x ps = true) : ∀ p ∈ ps, p.ok = true := by
 simp only [bT, xD, xG, Option.isNone_iff_eq_none] at h; exact dW h.2
theorem uW {ps : List Pxy} (h : (ps.any fun p => !decide ((p.sig.length : Int) = 32)) = false) : ∀ p ∈ ps, p.sig.length = 32 := by
 intro p hp
 have := yP.1 h p hp
 simp only [yt, zq, ye, Classical.not_not] at this
 omega
theorem sy {ps : List Pxy} (h : (ps.any fun p => !decide ((p.sig.length : Int) = 32)) = true) : ¬ ∀ p ∈ ps, p.sig.length = 32 := by
 intro hh
 obtain ⟨p, hp, h⟩ := yD.1 h
 simp [hh p hp] at h
theorem gi {x : Wsh} {ps : List Pxy} (h : bT x ps = false ∨ ¬ (x.sig.length : Int) = 32 ∨ (ps.any fun p => !decide ((p.sig.length : Int) = 32)) = true) : cO x ps = none := by
 cases he : cO x ps with
 | none => rfl
 | some s =>
  obtain ⟨h1, h2, h3, _⟩ := cU.1 he
  rcases h with h | h | h
  ·rw [h1] at h; cases h
  ·omega
  ·exact absurd h3 (sy h)
def encX (ps : List Pxy) (k : Nat) : By := puts [(ps.length : Int)] ++ (ps.take k).flatMap Pxy.text
theorem lq {ps : List Pxy} {k : Nat} (h : k < ps.length) : encX ps (k + 1) = encX ps k ++ (ps.getD k Pxy.z).content ++ (ps.getD k Pxy.z).sig := by
 unfold encX
 rw [cz Pxy.z h, List.flatMap_append]
 simp [Pxy.text, yq]
theorem iA {ps : List Pxy} {k : Nat} (h4 : ps.length ≤ 4) (h : ∀ p ∈ ps, p.sig.length = 32) : (encX ps k).length ≤ 10000 := by
 unfold encX
 have h1 := dO [(ps.length : Int)]
 have h2 := jc (l := ps.take k) (fun p hp => h p (yM hp))
 rw [xE]
 rw [xI] at h2
 simp only [xN, xP] at h1
 omega
theorem tG {x : Wsh} {ps : List Pxy} : encX ps ps.length ++ x.content ++ x.sig = putI (ps.length : Int) ++ (ps.flatMap Pxy.text ++ x.text) := by
 unfold encX Wsh.text; simp [puts, yq]
theorem qI {x : Wsh} {ps : List Pxy} (h1 : bT x ps = true) (h2 : x.sig.length = 32) (h3 : ∀ p ∈ ps, p.sig.length = 32) : cO x ps = some (encX ps ps.length ++ x.content ++ x.sig) :=
 cU.2 ⟨h1, h2, h3, tG⟩
theorem vJ {ps : List Pxy} {k : Nat} {a b : By} : encX ps k ++ a ++ b ≠ [] := by
 intro h
 unfold encX at h
 simp only [List.append_eq_nil_iff] at h
 exact iu h.1.1.1
theorem fe (x : Pxy) : x.content.length ≤ 63 := dO _
theorem fp (x : Wsh) : x.content.length ≤ 81 := dO _
theorem sx (x : Wsh) (lv : Value) (ps : List Pxy) (w0 : World) (hlv : SlAt w0 lv 7 (ps.map Pxy.cells)) :
  Ret Tryz.prog 35 #[.agg #[jv x.signer, jv x.holder, jv x.rf, jv x.rt, jv x.carrier, jv x.serial, jv x.sf, jv x.st, sv x.sig], lv] w0 fun v w => v = (match cO x ps with | some s => .tuple #[sv s, jv 0] | none => .tuple #[sv [], jv 150]) ∧ Ext No w0 w := by
 have hxb := hlv.2.1
 simp only [xC, big] at hxb
 refine zy func35 O ntmps35 (lb O) fun a Z Y => ?_
 refine aa fun _ G1 => aS Z Y O [jv x.signer, jv x.holder, jv x.rf, jv x.rt, jv x.carrier, jv x.serial, jv x.sf, jv x.st, sv x.sig] O fun a w1 Z Y => nv Z <| xz O <| xz O <| fun a Z => G1 <| aa fun _ G2 => ?_
 refine wla Z O fun a Z => G2 <| ah fun _ G3 => ?_
 refine aa fun _ G4 => nv Z <| xx (ao (Y.g 0 O) O (isAgg90 _) (sizeOf90 _)) <| xy O <| fun a Z => ax Z Y call90 O (ol (Y.arg hlv)) fun a w2 Z Y => nv Z <| xx (bD O) <| xy O <| fun a Z => ?_
 rcases xH (!(bT x ps)) with hb1 | hb1
 ·rw [hb1] at Z
  try simp only [qz] at hb1
  refine nv Z <| xB <| xB <| xB <| xB <| xx (aw O O) <| xy O <| xB <| xB <| xB <| xx (aw O O) <| fun a Z => G4 ?_
  replace Z := Z.p5 1 2 4 5 24 O
  refine aH Z O ?_
  refine aa fun _ G5 => nv Z <| xz O <| xz O <| fun a Z => G5 <| ap ?_
  refine al Z results35 (ag O (ag O ae)) ?_
  exact ⟨by simp only [retv]; rw [gi (.inl hb1)]; rfl, Y.ext⟩
 rw [hb1] at Z
 try simp only [qz] at hb1
 refine nv Z <| xA (ac (v := po w0.hz 8) O kr) <| xA (ld Y 0 O O (isAgg9 _) O) <| xA (bn O O (runUnderlying9 _)) <| xA (v_ne O O) <| xx (ai O O) <| xy O <| fun a Z => ?_
 rcases (Decidable.em ((x.sig.length : Int) = 32)).symm with hb2 | hb2
 ·rw [xK hb2] at Z
  refine nv Z <| xB <| xB <| xB <| xx (aw O O) <| fun a Z => G4 ?_
  replace Z := Z.p5 1 2 4 5 24 O
  refine aH Z O ?_
  refine aa fun _ G6 => nv Z <| xz O <| xz O <| fun a Z => G6 <| ap ?_
  refine al Z results35 (ag O (ag O ae)) ?_
  exact ⟨by simp only [retv]; rw [gi (.inr (.inl hb2))]; rfl, Y.ext⟩
 rw [xF hb2] at Z
 refine nv Z <| xA (ay O) <| xA (ay O) <| fun a Z => aF Z Y call91 O (va (fun p => !decide ((p.sig.length : Int) = 32)) _ call89 (Y.arg hlv) (fun x w _ => vt x w)) fun a w3 Z Y => wlv Z (ai O O) fun a Z => G4 ?_
 replace Z := Z.p5 1 2 4 5 24 O
 refine bu Z O (fun hc3 => ?_) (fun hc3 => ?_)
 ·try simp only [qz] at hc3
  refine aa fun _ G7 => nv Z <| xz O <| xz O <| fun a Z => G7 <| ap ?_
  refine al Z results35 (ag O (ag O ae)) ?_
  exact ⟨by simp only [retv]; rw [gi (.inr (.inr hc3))]; rfl, Y.ext⟩
 try simp only [qz] at hc3
 refine au <| G3 ?_
 have hfo := hb1
 have hsx : x.sig.length = 32 := by omega
 have hop := uW hc3
 have h4 := gU hfo
 have hxo := kL hfo
 refine aa fun _ G8 => aC Z Y (zeroValue162 _) [.pointer none, .slice none 0 0] O fun a w4 Z Y => G8 ?_
 replace Y : St No w0 (own (.slice none 0 0) 5 1 [] :: [blk w3.hz [.pointer none, .slice none 0 0] 162, blk w0.hz [jv x.signer, jv x.holder, jv x.rf, jv x.rt, jv x.carrier, jv x.serial, jv x.sf, jv x.st, sv x.sig] 90]) w4 := Y.nil_own
 replace Y := Y.s3 [1, 0, 2] de rfl
 replace Y : St No w0 [bld 162 w3.hz (.pointer none) (.slice none 0 0) ([] : By), blk w0.hz [jv x.signer, jv x.holder, jv x.rf, jv x.rt, jv x.carrier, jv x.serial, jv x.sf, jv x.st, sv x.sig] 90] w4 := St.join [blk w3.hz [.pointer none, .slice none 0 0] 162, own (.slice none 0 0) 5 1 ([])] [blk w0.hz [jv x.signer, jv x.holder, jv x.rf, jv x.rt, jv x.carrier, jv x.serial, jv x.sf, jv x.st, sv x.sig] 90] Y
 refine aa fun _ G9 => nv Z <| xy O <| xx ((aL (sT := 91) (Y.arg hlv) O O (runUnderlying91 _)).asi (m' := (ps.length : Int)) z6) <| fun a Z => aE (E := 3) (sz := 1) O [[jv (ps.length : Int)]] kr sm O de de Z Y fun a w5 Z Y => ?_
 replace Y := Y.s3 [1, 0, 2] de rfl
 replace Y := St.join [bld 162 w3.hz (.pointer none) (.slice none 0 0) ([] : By), own (.slice (some ⟨w4.hz, 0, none⟩) 1 1) 3 1 ([[jv (ps.length : Int)]])] [blk w0.hz [jv x.signer, jv x.holder, jv x.rf, jv x.rt, jv x.carrier, jv x.serial, jv x.sf, jv x.st, sv x.sig] 90] Y
 refine aZ (R := fun u e' => u = .tuple #[] ∧ ∃ v2, e' = bld 162 w3.hz (pq w3.hz) v2 (puts [(ps.length : Int)])) 0 Z Y O de call92 O (fun h => (gQ 162 w3.hz _ _ _ [] [(ps.length : Int)] _ kr (.inl O) (fun z hz => by rw [ya.1 hz]; unfold small; omega) sm sm (St.unjoin [bld 162 w3.hz (.pointer none) (.slice none 0 0) ([] : By), own (.slice (some ⟨w4.hz, 0, none⟩) 1 1) 3 1 ([[jv (ps.length : Int)]])] [] h)).mono fun u w ⟨h1, v2, h2⟩ => ⟨_, ⟨h1, v2, O⟩, h2⟩) ?_
 clear Z Y
 rintro a w6 _ _ ⟨rfl, v4, rfl⟩ Z Y
 replace Y : St No w0 [bld 162 w3.hz (pq w3.hz) v4 (encX ps 0), blk w0.hz [jv x.signer, jv x.holder, jv x.rf, jv x.rt, jv x.carrier, jv x.serial, jv x.sf, jv x.st, sv x.sig] 90] w6 := by rw [show encX ps 0 = puts [(ps.length : Int)] from by unfold encX; simp]; exact Y
 refine G9 <| ah fun _ G10 => ?_
 refine aa fun _ G11 => nv Z <| xy O <| xx ((aL (sT := 91) (Y.arg hlv) O O (runUnderlying91 _)).asi (m' := (ps.length : Int)) z6) <| xy O <| fun a Z => G11 ?_
 replace Z := Z.p7 2 4 5 7 29 30 31 O
 refine ar <| aW (fun m a w => ∃ (k : Nat) (v : Value), m = ps.length - k ∧ (k ≤ ps.length) ∧ Fr 50 [(2, pq w0.hz), (4, sv ([])), (5, jv 0), (7, pq w3.hz), (29, lv), (30, jv (ps.length : Int)), (31, jv (k : Int))] [] a ∧ St No w0 [bld 162 w3.hz (pq w3.hz) v (encX ps k), blk w0.hz [jv x.signer, jv x.holder, jv x.rf, jv x.rt, jv x.carrier, jv x.serial, jv x.sf, jv x.st, sv x.sig] 90] w) _ ⟨0, v4, O, yc _, Z.pick [2, 4, 5, 7, 29, 30, 31], Y.select [0, 1] de⟩ ?_
 rintro _ a w7 ⟨k, v, rfl, hk, Z, Y⟩
 refine aa fun _ G12 => wlv Z (v_lt O O) fun a Z => G12 <| ah fun _ G13 => ?_
 refine aA Z O (fun hc5 => ?_) (fun hc5 => ?_)
 ·have hkx : k < ps.length := by omega
  have hpk := j4 hfo _ (bt (d := Pxy.z) hkx)
  have hsk := hop _ (bt (d := Pxy.z) hkx)
  refine au <| G13 <| ah fun _ G14 => ar <| aa fun _ G15 => nv Z <| xx ((am (i := (k : Int)) (sT := 91) (Y.arg hlv) O O (runUnderlying91 _) (sizeOf144 _) om zL).as (v' := slAddr lv (k * 7)) O) <| xx ((bL (Y.arg hlv) (i := k) zL O (isAgg144 _) (sizeOf144 _)).as (v' := .agg #[jv ((ps.getD k Pxy.z).frm), jv ((ps.getD k Pxy.z).to), jv ((ps.getD k Pxy.z).rf), jv ((ps.getD k Pxy.z).rt), jv ((ps.getD k Pxy.z).sf), jv ((ps.getD k Pxy.z).st), sv ((ps.getD k Pxy.z).sig)]) Ap) <| fun a Z => aC Z Y (zeroValue144 _) [jv 0, jv 0, jv 0, jv 0, jv 0, jv 0, .string (⟨#[]⟩)] O fun a w8 Z Y => ?_
  refine az 0 Z Y [jv ((ps.getD k Pxy.z).frm), jv ((ps.getD k Pxy.z).to), jv ((ps.getD k Pxy.z).rf), jv ((ps.getD k Pxy.z).rt), jv ((ps.getD k Pxy.z).sf), jv ((ps.getD k Pxy.z).st), sv ((ps.getD k Pxy.z).sig)] O (sizeOf144 _) fun a w9 Z Y => G15 <| aa fun _ G16 => ?_
  refine wlv Z (ao (Y.g 0 O) O (isAgg144 _) (sizeOf144 _)) fun a Z => aZ (R := fun u e' => u = .tuple #[] ∧ ∃ v2, e' = bld 162 w3.hz (pq w3.hz) v2 ((encX ps k) ++ (ps.getD k Pxy.z).content)) 1 Z Y O de call93 O (fun h => (iW 162 w3.hz _ _ _ (ps.getD k Pxy.z) _ kr (.inr O) (Pxy.smalls_of hpk) (by have := iA (k := k) h4 hop; omega) h).mono fun u w ⟨h1, v2, h2⟩ => ⟨_, ⟨h1, v2, O⟩, h2⟩) ?_
  clear Z Y
  rintro a w10 _ _ ⟨rfl, v6, rfl⟩ Z Y
  try dsimp only at Y
  replace Y := Y.n3 O
  refine G16 <| aj ?_
  refine nv Z <| xx (ac (v := pq w3.hz) O kr) <| xx (ac (v := po w7.hz 6) O kr) <| xx (ld Y 0 O O (isAgg9 _) O) <| fun a Z => aZ (R := fun u e' => u = .tuple #[jv (((ps.getD k Pxy.z).sig).length : Int), .nilIface] ∧ ∃ v2, e' = bld 162 w3.hz (pq w3.hz) v2 (((encX ps k) ++ (ps.getD k Pxy.z).content) ++ ((ps.getD k Pxy.z).sig))) 1 Z Y O de call94 O (fun h => (fY 162 w3.hz _ _ _ ((ps.getD k Pxy.z).sig) _ kr (.inr O) (by intro h; have h9 := yf List.length h; rw [xP] at h9; omega) (by have h7 := iA (k := k) h4 hop; have h8 := fe (ps.getD k Pxy.z); rw [xE]; omega) h).mono fun u w ⟨h1, v2, h2⟩ => ⟨_, ⟨h1, v2, O⟩, h2⟩) ?_
  clear Z Y
  rintro a w11 _ _ ⟨rfl, v7, rfl⟩ Z Y
  try dsimp only at Y
  replace Y := Y.n3 O
  refine ab <| G14 ?_
  replace Y := Y.k2 6 O
  refine aj <| nv (Z.p7 2 4 5 7 29 30 31 O) <| xx (aP O O ⟨om, om⟩) <| xy O <| fun a Z => ab ?_
  replace Y : St No w0 [bld 162 w3.hz (pq w3.hz) v7 (encX ps (k + 1)), blk w0.hz [jv x.signer, jv x.holder, jv x.rf, jv x.rt, jv x.carrier, jv x.serial, jv x.sf, jv x.st, sv x.sig] 90] w11 := by rw [lq hkx]; exact Y
  refine ⟨_, ?_, k + 1, v7, O, om, Z.pick [2, 4, 5, 7, 29, 30, 31], Y.select [0, 1] de⟩
  omega
 have hke : k = ps.length := by omega
 subst hke
 refine aO <| G10 <| aa fun _ G17 => wlv Z (ao (Y.g 1 O) O (isAgg90 _) (sizeOf90 _)) fun a Z => aZ (R := fun u e' => u = .tuple #[] ∧ ∃ v2, e' = bld 162 w3.hz (pq w3.hz) v2 ((encX ps ps.length) ++ x.content)) 0 Z Y O de call88 O (fun h => (kE 162 w3.hz _ _ _ x _ kr (.inr O) (Wsh.smalls_of hxo) (by have := iA (k := ps.length) h4 hop; omega) h).mono fun u w ⟨h1, v2, h2⟩ => ⟨_, ⟨h1, v2, O⟩, h2⟩) ?_
 clear Z Y
 rintro a w12 _ _ ⟨rfl, v8, rfl⟩ Z Y
 try dsimp only at Y
 replace Y := Y.n2 O
 refine G17 ?_
 refine aa fun _ G18 => nv (Z.p4 2 4 5 7 O) <| xx (ac (v := pq w3.hz) O kr) <| xx (ac (v := po w0.hz 8) O kr) <| xx (ld Y 1 O O (isAgg9 _) O) <| fun a Z => aZ (R := fun u e' => u = .tuple #[jv (x.sig.length : Int), .nilIface] ∧ ∃ v2, e' = bld 162 w3.hz (pq w3.hz) v2 (((encX ps ps.length) ++ x.content) ++ x.sig)) 0 Z Y O de call94 O (fun h => (fY 162 w3.hz _ _ _ x.sig _ kr (.inr O) (by intro h; have h9 := yf List.length h; rw [xP] at h9; omega) (by have h7 := iA (k := ps.length) h4 hop; have h8 := fp x; rw [xE]; omega) h).mono fun u w ⟨h1, v2, h2⟩ => ⟨_, ⟨h1, v2, O⟩, h2⟩) ?_
 clear Z Y
 rintro a w13 _ _ ⟨rfl, v9, rfl⟩ Z Y
 try dsimp only at Y
 replace Y := Y.n2 O
 refine G18 <| aa fun _ G19 => ?_
 refine wlv Z (ac (v := pq w3.hz) O kr) fun a Z => aZ (R := fun u e' => u = sv (((encX ps ps.length) ++ x.content) ++ x.sig) ∧ e' = blk w3.hz [pq w3.hz, v9] 162) 0 Z Y O de call95 O (fun h => (gV 162 w3.hz _ _ _ vJ h).mono fun u w ⟨h1, h2⟩ => ⟨_, ⟨h1, O⟩, h2⟩) ?_
 clear Z Y
 rintro a w14 _ _ ⟨rfl, rfl⟩ Z Y
 try dsimp only at Y
 replace Y := Y.n2 O
 refine nv Z <| xz O <| xz O <| fun a Z => G19 ?_
 replace Z := Z.p2 4 5 O
 refine ap <| al Z results35 (ag O (ag O ae)) ?_
 exact ⟨by simp only [retv]; rw [qI hfo hsx hop]; try rfl, Y.ext⟩
theorem p128 (i : Nat) : (128 : Nat) ^ i = 2 ^ (7 * i) := by rw [Nat.pow_mul]
theorem v_ixz {P : Program} {w : World} {L : List (Nat × Value)} {dst : Option Tmp} {T T' ty : TypeId} {pos : String} {af : Array Edge} {gd : Option (Nat × Bool)} {x y : Operand} {z : Nat} (hz : z < 9223372036854775808)
  (hx : ev L x = some (jv ((z / 2 : Nat) : Int))) (hy : ev L y = some (jv (-((z % 2 : Nat) : Int)))) : OpV P ⟨dst, .binOp .xor T x y T', ty, pos, af, gd⟩ L w (jv (uz z)) := by
 have h := wN (P := P) (w := w) (dst := dst) (T := T) (T' := T') (ty := ty) (pos := pos) (af := af) (gd := gd) (n := ((z / 2 : Nat) : Int)) (decide (z % 2 = 1)) om om hx (hy.trans (by
  congr 2
  by_cases h : z % 2 = 1
  ·rw [xF h, h]; rfl
  ·rw [xK h, show z % 2 = 0 from by omega]; rfl))
 refine h.as ?_
 congr 1
 unfold uz
 by_cases h : z % 2 = 1
 ·rw [xF h, xY rfl, xW om]
 ·rw [xK h, xW de, xY om]
theorem wV {f i z : Nat} : wI f i z [] = none := by cases f <;> rfl
theorem mX {s : By} {p : Nat} (h : p < s.length) : s.drop p = s.getD p 0 :: s.drop (p + 1) := by
 rw [yz h, xJ, xM h]; rfl
theorem wu {s : By} {p i z : Nat} (hi : i < 9) (hp : p + i < s.length) (hb : 128 ≤ (s.getD (p + i) 0).toNat) :
  wI (9 - i) i z (s.drop (p + i)) = wI (9 - (i + 1)) (i + 1) (z + (s.getD (p + i) 0).toNat % 128 * 2 ^ (7 * i)) (s.drop (p + (i + 1))) := by
 rw [mX hp, show 9 - i = (9 - (i + 1)) + 1 from by omega, wI, xW om, p128]; rfl
theorem pX {s : By} {p i z : Nat} (hi : i < 9) (hp : p + i < s.length) (hb : (s.getD (p + i) 0).toNat < 128) (h : ((s.getD (p + i) 0).toNat = 0 ∧ 0 < i) ∨ uz (z + (s.getD (p + i) 0).toNat % 128 * 2 ^ (7 * i)) < -4611686018427387903) :
  wI (9 - i) i z (s.drop (p + i)) = none := by
 rw [mX hp, show 9 - i = (9 - (i + 1)) + 1 from by omega, wI, xY hb, p128, xY]
 exact h.imp_left fun ⟨h1, h2⟩ => ⟨UInt8.toNat_inj.1 (by rw [h1]; rfl), h2⟩
theorem qN {s : By} {p i z : Nat} (hi : i < 9) (hp : p + i < s.length) (hb : (s.getD (p + i) 0).toNat < 128) (h : ¬ ((s.getD (p + i) 0).toNat = 0 ∧ 0 < i)) (h2 : ¬ uz (z + (s.getD (p + i) 0).toNat % 128 * 2 ^ (7 * i)) < -4611686018427387903) :
  wI (9 - i) i z (s.drop (p + i)) = some (uz (z + (s.getD (p + i) 0).toNat % 128 * 2 ^ (7 * i)), i + 1) := by
 rw [mX hp, show 9 - i = (9 - (i + 1)) + 1 from by omega, wI, xY hb, p128, xW]
 rintro (⟨h3, h4⟩ | h3)
 ·exact h ⟨by rw [h3]; rfl, h4⟩
 ·exact h2 h3
theorem xt {z i b : Nat} (hz : z < 2 ^ (7 * i)) (hb : b < 128) : z + b * 2 ^ (7 * i) < 2 ^ (7 * (i + 1)) := by
 have e : 2 ^ (7 * (i + 1)) = 128 * 2 ^ (7 * i) := by rw [Nat.mul_add, Nat.pow_add, Nat.mul_comm]
 rw [e]
 have : (b + 1) * 2 ^ (7 * i) ≤ 128 * 2 ^ (7 * i) := Nat.mul_le_mul_right _ om
 rw [Nat.add_mul] at this
 omega
theorem z_63 {z i : Nat} (hi : i < 9) (hz : z < 2 ^ (7 * (i + 1))) : z < 9223372036854775808 := by
 have : (2 : Nat) ^ (7 * (i + 1)) ≤ 2 ^ 63 := Nat.pow_le_pow_right de om
 omega
def intV (s : By) (p : Nat) : Value := match rdI (s.drop p) with
 | some (n, r) => .tuple #[jv n, jv ((s.length - r.length : Nat) : Int), jv 0]
 | none => .tuple #[jv 0, jv 0, jv 10]
theorem ge {s : By} {p : Nat} (h : wI 9 0 0 (s.drop p) = none) : intV s p = .tuple #[jv 0, jv 0, jv 10] := by
 rw [tl] at h
 unfold intV
 cases hr : rdI (s.drop p) with
 | none => rfl
 | some x => rw [hr] at h; cases h
theorem ny {s : By} {p k : Nat} {n : Int} (hp : p ≤ s.length) (h : wI 9 0 0 (s.drop p) = some (n, k)) : intV s p = .tuple #[jv n, jv ((p + k : Nat) : Int), jv 0] := by
 rw [tl] at h
 unfold intV
 cases hr : rdI (s.drop p) with
 | none => rw [hr] at h; cases h
 | some x =>
  obtain ⟨n2, r⟩ := x
  rw [hr] at h
  simp only [Option.map_some, Option.some.injEq, Prod.mk.injEq] at h
  obtain ⟨rfl, rfl⟩ := h
  obtain ⟨_, h2⟩ := eL hr
  have h3 := yf List.length h2
  rw [ym, xE] at h3
  have h4 := (bY n2).1
  simp only
  rw [ym, show p + (s.length - p - r.length) = s.length - r.length from by omega]
theorem hZ (s : By) (p : Nat) (w0 : World) (hp : p ≤ s.length) (hsl : s.length ≤ 1000000) :
  Ret Tryz.prog 63 #[sv s, jv (p : Int)] w0 fun v w => v = intV s p ∧ Ext No w0 w := by
 refine zy func63 O ntmps63 (lb O) fun a Z Y => ?_
 refine aa fun _ G1 => nv Z <| xz O <| xz O <| xz O <| fun a Z => G1 <| ah fun _ G2 => ?_
 refine aa fun _ G3 => nv Z <| xy O <| xx ((v_lt O O).asb (b' := false) AN) <| xy O <| xA (ay O) <| xA (ay O) <| xA (bn O O (runUnderlying9 _)) <| xA ((v_gt O O).asb (b' := false) AN) <| xx (ai O O) <| fun a Z => G3 ?_
 replace Z := Z.p6 0 1 4 5 6 18 O
 refine aJ Z O ?_
 refine au <| G2 <| aa fun _ G4 => wla Z O fun a Z => G4 <| ah fun _ G5 => ?_
 refine aa fun _ G6 => wlm Z O fun a Z => G6 <| ar ?_
 refine aW (fun m a w => ∃ (i : Nat) (z : Nat), m = 9 - i ∧ (i ≤ 9) ∧ (wI 9 0 0 (s.drop p) = wI (9 - i) i z (s.drop (p + i))) ∧ (z < 2 ^ (7 * i)) ∧ Fr 67 [(0, sv s), (1, jv (p : Int)), (7, .int .u64 (z : Int)), (19, jv (i : Int))] [] a ∧ St No w0 [] w) _ ⟨0, 0, O, de, O, de, Z.pick [0, 1, 7, 19], Y.select [] de⟩ ?_
 rintro _ a w1 ⟨i, z, rfl, hi, hw, hz, Z, Y⟩
 refine aa fun _ G7 => wlv Z (v_lt O O) fun a Z => G7 <| ah fun _ G8 => ?_
 refine aA Z O (fun hc1 => ?_) (fun hc1 => ?_)
 ·refine au <| G8 <| ah fun _ G9 => ar <| aa fun _ G10 => nv Z <| xy O <| xz O <| fun a Z => G10 <| ah fun _ G11 => ?_
  refine aa fun _ G12 => nv Z <| xy O <| xy O <| xx (aP O O ⟨om, om⟩) <| xy O <| xx (bn O O (runUnderlying9 _)) <| xx (v_ge O O) <| fun a Z => G12 ?_
  replace Z := Z.p6 0 1 7 19 8 27 O
  refine aA Z O (fun hc2 => ?_) (fun hc2 => ?_)
  ·have hwn : wI 9 0 0 (s.drop p) = none := by rw [hw, List.drop_eq_nil_of_le om]; exact wV
   refine aO <| G5 <| aa fun _ G13 => nv Z <| xz O <| xz O <| xz O <| fun a Z => G13 ?_
   replace Z := Z.p3 4 5 6 O
   refine ap <| al Z results63 (ag O (ag O (ag O ae))) ?_
   exact ⟨(ge hwn).symm, Y.ext⟩
  have hpi : p + i < s.length := by omega
  have hm8 : (s.getD (p + i) 0).toNat % 128 < 128 := Nat.mod_lt _ de
  have hzl := xt hz hm8
  have hz6 := z_63 (i := i) om hzl
  refine au <| G11 <| aa fun _ G14 => nv Z <| xy O <| xy O <| xy O <| xx (aP O O ⟨om, om⟩) <| xx (jm (k := (p + i)) O O (runUnderlying9 _) om om) <| xz O <| fun a Z => G14 ?_
  refine aa fun _ G15 => nv (Z.p6 0 1 7 19 8 9 O) <| xy O <| xy O <| xx (wX (a := s.getD (p + i) 0) (b := (127 : UInt8)) O O) <| xx ((rN O kr underlying190).asi (m' := (((s.getD (p + i) 0).toNat % 128 : Nat) : Int)) (by rw [y127])) <| xy O <| xx ((ek O O ⟨om, om⟩).asi (m' := ((7 * i : Nat) : Int)) om) <| xx ((tF (m := (s.getD (p + i) 0).toNat % 128) (n := 7 * i) om O O).asi (m' := (((s.getD (p + i) 0).toNat % 128 * 2 ^ (7 * i) : Nat) : Int)) (by rw [Nat.mod_eq_of_lt om])) <| xx (v_uor (m := z) (n := (s.getD (p + i) 0).toNat % 128) (k := 7 * i) hz om O O) <| xz O <| fun a Z => G15 ?_
  replace Z := Z.p6 0 1 19 8 9 7 O
  refine ah fun _ G16 => aa fun _ G17 => nv Z <| xy O <| xx (v_ge O O) <| fun a Z => G17 <| aA Z O (fun hc3 => ?_) (fun hc3 => ?_)
  ·refine aO <| G9 <| aj <| nv Z <| xx (aP O O ⟨om, om⟩) <| xy O <| fun a Z => ab ?_
   refine ⟨_, ?_, i + 1, (z + (s.getD (p + i) 0).toNat % 128 * 2 ^ (7 * i)), O, om, (by rw [hw]; exact wu om hpi om), hzl, Z.pick [0, 1, 7, 19], Y.select [] de⟩
   omega
  refine au <| G16 <| aa fun _ G18 => nv Z <| xy O <| xx ((pi (m := (z + (s.getD (p + i) 0).toNat % 128 * 2 ^ (7 * i))) (n := 1) de O O).asi (m' := (((z + (s.getD (p + i) 0).toNat % 128 * 2 ^ (7 * i)) / 2 : Nat) : Int)) O) <| xx (je (n := (z + (s.getD (p + i) 0).toNat % 128 * 2 ^ (7 * i)) / 2) om O kr underlying3) <| xy O <| xx ((uG (m := (z + (s.getD (p + i) 0).toNat % 128 * 2 ^ (7 * i))) (k := 1) om de O O).asi (m' := (((z + (s.getD (p + i) 0).toNat % 128 * 2 ^ (7 * i)) % 2 : Nat) : Int)) O) <| xx (je (n := (z + (s.getD (p + i) 0).toNat % 128 * 2 ^ (7 * i)) % 2) om O kr underlying3) <| xx (j6 O om om) <| xx (v_ixz (z := (z + (s.getD (p + i) 0).toNat % 128 * 2 ^ (7 * i))) om O O) <| xz O <| fun a Z => G18 ?_
  refine ah fun _ G19 => aa fun _ G20 => nv (Z.p7 0 1 19 8 9 7 10 O) <| xy O <| xx (v_eq O O) <| xy O <| fun a Z => ?_
  rcases Decidable.em (((s.getD (p + i) 0).toNat : Int) = 0) with hb4 | hb4
  ·rw [xF hb4] at Z
   refine nv Z <| xA (ay O) <| xA (v_gt O O) <| xx (aw O O) <| xy O <| fun a Z => ?_
   rcases Decidable.em (0 < (i : Int)) with hb5 | hb5
   ·rw [xF hb5] at Z
    have hwn : wI 9 0 0 (s.drop p) = none := by rw [hw]; exact pX om hpi om (.inl ⟨om, om⟩)
    refine nv Z <| xB <| xB <| xx (aw O O) <| fun a Z => G20 ?_
    replace Z := Z.p7 0 1 19 8 7 10 60 O
    refine aH Z O ?_
    refine aO <| G5 <| aa fun _ G21 => nv Z <| xz O <| xz O <| xz O <| fun a Z => G21 ?_
    replace Z := Z.p3 4 5 6 O
    refine ap <| al Z results63 (ag O (ag O (ag O ae))) ?_
    exact ⟨(ge hwn).symm, Y.ext⟩
   rw [xK hb5] at Z
   have hng : ¬ ((s.getD (p + i) 0).toNat = 0 ∧ 0 < i) := by omega
   refine nv Z <| xA (ay O) <| xA (v_lt O O) <| xx (ai O O) <| fun a Z => G20 ?_
   replace Z := Z.p7 0 1 19 8 7 10 60 O
   refine aA Z O (fun hc6 => ?_) (fun hc6 => ?_)
   ·have hwn : wI 9 0 0 (s.drop p) = none := by rw [hw]; exact pX om hpi om (.inr hc6)
    refine aO <| G5 <| aa fun _ G22 => nv Z <| xz O <| xz O <| xz O <| fun a Z => G22 ?_
    replace Z := Z.p3 4 5 6 O
    refine ap <| al Z results63 (ag O (ag O (ag O ae))) ?_
    exact ⟨(ge hwn).symm, Y.ext⟩
   have hwg := hw.trans (qN om hpi om om hc6)
   refine au <| G19 <| aa fun _ G23 => nv Z <| xy O <| xy O <| xy O <| xx (aP O O ⟨om, om⟩) <| xx (aP O O ⟨om, om⟩) <| xz O <| xz O <| xz O <| fun a Z => G23 ?_
   replace Z := Z.p7 0 1 19 7 4 5 6 O
   refine ap <| al Z results63 (ag O (ag O (ag O ae))) ?_
   exact ⟨((ny hp hwg).trans (by simp only [retv]; congr 3; all_goals omega)).symm, Y.ext⟩
  rw [xK hb4] at Z
  refine nv Z <| xB <| xB <| xx (ai O O) <| xy O <| xA (ay O) <| xA (v_lt O O) <| xx (ai O O) <| fun a Z => G20 ?_
  replace Z := Z.p7 0 1 19 8 7 10 60 O
  refine aA Z O (fun hc7 => ?_) (fun hc7 => ?_)
  ·have hwn : wI 9 0 0 (s.drop p) = none := by rw [hw]; exact pX om hpi om (.inr hc7)
   refine aO <| G5 <| aa fun _ G24 => nv Z <| xz O <| xz O <| xz O <| fun a Z => G24 ?_
   replace Z := Z.p3 4 5 6 O
   refine ap <| al Z results63 (ag O (ag O (ag O ae))) ?_
   exact ⟨(ge hwn).symm, Y.ext⟩
  have hwg := hw.trans (qN om hpi om om hc7)
  refine au <| G19 <| aa fun _ G25 => nv Z <| xy O <| xy O <| xy O <| xx (aP O O ⟨om, om⟩) <| xx (aP O O ⟨om, om⟩) <| xz O <| xz O <| xz O <| fun a Z => G25 ?_
  replace Z := Z.p7 0 1 19 7 4 5 6 O
  refine ap <| al Z results63 (ag O (ag O (ag O ae))) ?_
  exact ⟨((ny hp hwg).trans (by simp only [retv]; congr 3; all_goals omega)).symm, Y.ext⟩
 have hwn : wI 9 0 0 (s.drop p) = none := by rw [hw, show 9 - i = 0 from by omega]; rfl
 refine aO <| G5 <| aa fun _ G26 => nv Z <| xz O <| xz O <| xz O <| fun a Z => G26 <| ap ?_
 refine al Z results63 (ag O (ag O (ag O ae))) ?_
 exact ⟨(ge hwn).symm, Y.ext⟩
end Go.Proofs.YtliklcmddmpdfaaGreatDoor
