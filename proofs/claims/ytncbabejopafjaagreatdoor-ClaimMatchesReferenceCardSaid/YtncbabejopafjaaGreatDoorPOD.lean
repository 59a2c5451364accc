/- Texts joined: BldA, BldB, WshE, WshF, WshG, WshH, WshI, WshJ, WshR, WshK, Rdr, WshL, WshT, WshV, Open, Laid, Door. -/
import Derived.Test.YtncbabejopafjaaGreatDoorPOC
import Derived.Test.YtncbabejopafjaaGreatDoorPOB
import Derived.Test.YtncbabejopafjaaGreatDoorPOA
import Derived.LaidMore
import Derived.OpenShut
import Derived.Stop.Joined
import Derived.SevenTiedAt
import Derived.ChangeMaps5
import Derived.Test.YtncbabejopafjaaGreatDoorRows
set_option linter.unusedVariables false
set_option linter.unusedSimpArgs false
set_option maxRecDepth 4000
set_option maxHeartbeats 4000000
namespace Go.Proofs.YtncbabejopafjaaGreatDoor
open Go.RowKit Go.PW _root_.Go.Proofs.Tryz
def bld (T : TypeId) (b : Nat) (ad v : Value) (bs : By) : Ent := join [blk b [ad, v] T, own v 5 1 ((bs).map fun b => [yv b])]
theorem iy {M : Nat → Prop} {w0 w : World} {T : TypeId} {b : Nat} {ad v : Value} {bs : By} {H : List Ent} (h : St M w0 (bld T b ad v bs :: H) w) : St M w0 ([blk b [ad, v] T, own v 5 1 ((bs).map fun b => [yv b])] ++ H) w := St.unjoin _ _ h
theorem lS (T : TypeId) (b : Nat) (v : Value) (w0 : World) (hlie : liesAt Tryz.prog Tryz.prog.depth T (2 / Tryz.prog.cellsOf T) 0 165 1 = true) (hb : (blk b [.pointer none, v] T).ok w0) :
  Ret Tryz.prog 120 #[pt b] w0 fun u w => u = .tuple #[] ∧ Ext (· = b) w0 w ∧ (blk b [pt b, v] T).ok w := by
 refine aD func120 rfl ntmps120 (lb rfl) fun a Z => ?_
 replace Z := Z.p1 0 rfl
 replace Y : St (· = b) w0 [blk b [.pointer none, v] T] w0 := St.one hb
 refine aa fun K1 hK1 => wlm Z rfl fun a Z => wlv Z (bf rfl) fun a Z => wlv Z (ac (v := pt b) rfl kr) fun a Z => wlv Z (ld Y 0 rfl rfl (isAgg163 _) rfl) fun a Z => wlv Z (rh rfl rfl underlying163) fun a Z => ab (hK1 _ _ <| aN Z rfl ?_)
 refine ar <| wlm Z rfl fun a Z => wlm Z rfl fun a Z => wlv Z (mc (j := Tryz.t165) (Y.g 0 rfl) rfl underlying163 underlying198 rfl rfl sm) fun a Z => wlv Z (l0 func126 kr kr kr kr rfl) fun a Z => wlv Z (jT (j := Tryz.t165) (Y.g 0 rfl) rfl underlying198 underlying163 rfl hlie) fun a Z => wlv Z (bf rfl) fun a Z => wlv Z (ac (v := pt b) rfl kr) fun a Z => am 0 Z Y rfl rfl rfl (sizeOf163 _) rfl (lb rfl) (ds := [pt b, v]) rfl rfl ?_
 clear Z Y
 intro a w2 Z Y
 refine ab ?_
 refine dk Z results120 ag ?_
 exact ⟨rfl, Y.ext, Y.g 0 rfl⟩
theorem ml (T : TypeId) (b : Nat) (v : Value) (w0 : World) (hlie : liesAt Tryz.prog Tryz.prog.depth T (2 / Tryz.prog.cellsOf T) 0 165 1 = true) (hb : (blk b [pt b, v] T).ok w0) :
  Ret Tryz.prog 120 #[pt b] w0 fun u w => u = .tuple #[] ∧ Ext (· = b) w0 w ∧ (blk b [pt b, v] T).ok w := by
 refine aD func120 rfl ntmps120 (lb rfl) fun a Z => ?_
 replace Z := Z.p1 0 rfl
 replace Y : St (· = b) w0 [blk b [pt b, v] T] w0 := St.one hb
 refine aa fun K1 hK1 => wlm Z rfl fun a Z => wlv Z (bf rfl) fun a Z => wlv Z (ac (v := pt b) rfl kr) fun a Z => wlv Z (ld Y 0 rfl rfl (isAgg163 _) rfl) fun a Z => wlv Z (pA rfl rfl underlying163) fun a Z => ab (hK1 _ _ <| bC Z rfl ?_)
 refine aa fun K2 hK2 => wlm Z rfl fun a Z => wlv Z (bf rfl) fun a Z => wlv Z (ac (v := pt b) rfl kr) fun a Z => wlv Z (ld Y 0 rfl rfl (isAgg163 _) rfl) fun a Z => wlm Z rfl fun a Z => wlv Z (qA (j := Tryz.t165) rfl rfl underlying163 rfl) fun a Z => ab (hK2 _ _ ?_)
 replace Z := Z.p1 19 rfl
 refine bC Z rfl ?_
 refine az ?_
 refine dk Z results120 ag ?_
 exact ⟨rfl, Y.ext, Y.g 0 rfl⟩
theorem lX {M : Nat → Prop} {w0 : World} (T : TypeId) (b : Nat) (v : Value) (bs : By) (s : By) (ws : World) (hlie : liesAt Tryz.prog Tryz.prog.depth T (2 / Tryz.prog.cellsOf T) 0 165 1 = true) (hne : s ≠ []) (hbn : bs.length + s.length ≤ 1000000000) (Y : St M w0 [bld T b (.pointer none) v bs] ws) :
  Ret Tryz.prog 113 #[pt b, sv s] ws fun u w => u = .tuple #[iv (s.length : Int), .nilIface] ∧ ∃ v2, St M w0 [bld T b (pt b) v2 (bs ++ s)] w := by
 refine aD func113 rfl ntmps113 (lb rfl) fun a Z => ?_
 replace Z := Z.p2 0 1 rfl
 replace Y : St M w0 [blk b [.pointer none, v] T, own v 5 1 ((bs).map fun b => [yv b])] ws := iy Y
 refine aa fun K1 hK1 => wla Z rfl fun a Z => wla Z rfl fun a Z => ab (hK1 _ _ <| aa fun K2 hK2 => ?_)
 refine wlm Z rfl fun a Z => il 0 Z Y de call120 rfl rfl (lS T b _ _ hlie (Y.g 0 rfl)) rfl ?_
 clear Z Y
 intro a w1 Z Y
 refine ab (hK2 _ _ <| aa fun K3 hK3 => ?_)
 refine wlm Z rfl fun a Z => wlm Z rfl fun a Z => wlv Z (bf rfl) fun a Z => wlv Z (ac (v := po b 1) rfl kr) fun a Z => wlv Z (ld Y 0 rfl rfl (isAgg117 _) rfl) fun a Z => wlm Z rfl fun a Z => ft (i := 1) (sT := 117) (uT := 9) (inf := Tryz.t5) (bs := bs) (s := s) rfl rfl rfl hne underlying117 underlying9 rfl rfl rfl rfl om de Z Y ?_
 clear Z Y
 intro a w2 s1 Z Y
 refine wlv Z (bf rfl) fun a Z => wlv Z (ac (v := po b 1) rfl kr) fun a Z => cY 0 Z Y (Y.ow 1 rfl) rfl rfl rfl (sizeOf117 _) (lb rfl) (ds := [pt b, s1]) rfl rfl ?_
 clear Z Y
 intro a w3 Z Y
 refine ab (hK3 _ _ ?_)
 replace Z := Z.p3 1 4 5 rfl
 refine aa fun K4 hK4 => wlm Z rfl fun a Z => wlv Z (cR rfl rfl (runUnderlying9 _)) fun a Z => wla Z rfl fun a Z => wla Z rfl fun a Z => ab (hK4 _ _ <| ap ?_)
 refine aj Z results113 (ae rfl (ae rfl ag)) ?_
 replace Y : St M w0 [blk b [pt b, s1] T, own s1 5 1 ((bs ++ s).map fun b => [yv b])] _ := Y.select [0, 1] de
 exact ⟨rfl, s1, St.join [blk b [pt b, s1] T, own s1 5 1 ((bs ++ s).map fun b => [yv b])] [] Y⟩
theorem nB {M : Nat → Prop} {w0 : World} (T : TypeId) (b : Nat) (v : Value) (bs : By) (s : By) (ws : World) (hlie : liesAt Tryz.prog Tryz.prog.depth T (2 / Tryz.prog.cellsOf T) 0 165 1 = true) (hne : s ≠ []) (hbn : bs.length + s.length ≤ 1000000000) (Y : St M w0 [bld T b (pt b) v bs] ws) :
  Ret Tryz.prog 113 #[pt b, sv s] ws fun u w => u = .tuple #[iv (s.length : Int), .nilIface] ∧ ∃ v2, St M w0 [bld T b (pt b) v2 (bs ++ s)] w := by
 refine aD func113 rfl ntmps113 (lb rfl) fun a Z => ?_
 replace Z := Z.p2 0 1 rfl
 replace Y : St M w0 [blk b [pt b, v] T, own v 5 1 ((bs).map fun b => [yv b])] ws := iy Y
 refine aa fun K1 hK1 => wla Z rfl fun a Z => wla Z rfl fun a Z => ab (hK1 _ _ <| aa fun K2 hK2 => ?_)
 refine wlm Z rfl fun a Z => il 0 Z Y de call120 rfl rfl (ml T b _ _ hlie (Y.g 0 rfl)) rfl ?_
 clear Z Y
 intro a w1 Z Y
 refine ab (hK2 _ _ <| aa fun K3 hK3 => ?_)
 refine wlm Z rfl fun a Z => wlm Z rfl fun a Z => wlv Z (bf rfl) fun a Z => wlv Z (ac (v := po b 1) rfl kr) fun a Z => wlv Z (ld Y 0 rfl rfl (isAgg117 _) rfl) fun a Z => wlm Z rfl fun a Z => ft (i := 1) (sT := 117) (uT := 9) (inf := Tryz.t5) (bs := bs) (s := s) rfl rfl rfl hne underlying117 underlying9 rfl rfl rfl rfl om de Z Y ?_
 clear Z Y
 intro a w2 s1 Z Y
 refine wlv Z (bf rfl) fun a Z => wlv Z (ac (v := po b 1) rfl kr) fun a Z => cY 0 Z Y (Y.ow 1 rfl) rfl rfl rfl (sizeOf117 _) (lb rfl) (ds := [pt b, s1]) rfl rfl ?_
 clear Z Y
 intro a w3 Z Y
 refine ab (hK3 _ _ ?_)
 replace Z := Z.p3 1 4 5 rfl
 refine aa fun K4 hK4 => wlm Z rfl fun a Z => wlv Z (cR rfl rfl (runUnderlying9 _)) fun a Z => wla Z rfl fun a Z => wla Z rfl fun a Z => ab (hK4 _ _ <| ap ?_)
 refine aj Z results113 (ae rfl (ae rfl ag)) ?_
 replace Y : St M w0 [blk b [pt b, s1] T, own s1 5 1 ((bs ++ s).map fun b => [yv b])] _ := Y.select [0, 1] de
 exact ⟨rfl, s1, St.join [blk b [pt b, s1] T, own s1 5 1 ((bs ++ s).map fun b => [yv b])] [] Y⟩
theorem pV {w : World} {E : TypeId} {v : Value} {bs : By} (h : (own v E 1 ((bs).map fun b => [yv b])).ok w) (hne : bs ≠ []) : ∃ g cap, v = .slice (some ⟨g, 0, none⟩) bs.length cap ∧ cap ≠ 0 := by
 obtain ⟨h1, h2, h3, h4⟩ := h
 have hn : bs.length ≠ 0 := by simpa using hne
 rcases h4 with ⟨_, h0⟩ | ⟨g, cap, cur, fz, hv, _, _, hnc, _⟩
 ·rw [List.length_map] at h0; exact absurd h0 hn
 ·rw [List.length_map] at hv hnc; exact ⟨g, cap, hv, by omega⟩
theorem ll {M : Nat → Prop} {w0 : World} (T : TypeId) (b g cap : Nat) (bs : By) (ws : World) (hne : bs ≠ []) (hcap : cap ≠ 0) (Y : St M w0 [blk b [pt b, .slice (some ⟨g, 0, none⟩) bs.length cap] T, own (.slice (some ⟨g, 0, none⟩) bs.length cap) 5 1 ((bs).map fun b => [yv b])] ws) :
  Ret Tryz.prog 106 #[pt b] ws fun u w => u = sv bs ∧ St M w0 [blk b [pt b, .slice (some ⟨g, 0, none⟩) bs.length cap] T] w := by
 refine aD func106 rfl ntmps106 (lb rfl) fun a Z => ?_
 replace Z := Z.p1 0 rfl
 skip
 refine aa fun K1 hK1 => wla Z rfl fun a Z => ab (hK1 _ _ <| ah fun K2 hK2 => ?_)
 refine aK kr ?_
 replace Z := Z.p2 0 2 rfl
 replace Y : St M w0 (own (.slice (some ⟨g, 0, none⟩) bs.length cap) 5 1 ((bs).map fun b => [yv b]) :: [blk b [pt b, .slice (some ⟨g, 0, none⟩) bs.length cap] T]) ws := Y.front (i := 1) rfl
 refine dB 10 (own (.slice (some ⟨g, 0, none⟩) bs.length cap) 5 1 ((bs).map fun b => [yv b])) (fun _ => sl (.slice (some ⟨g, 0, none⟩) bs.length cap) 1 ((bs).map fun b => [yv b])) 11 [[], [0], [1], [2], [3], [], [5], [6], [7], [8], [4, 9]] (fun i => match i with | 0 => pv (pt b) | 1 => pv (pt b) | 2 => pv (po b 1) | 3 => pv (.slice (some ⟨g, 0, none⟩) bs.length cap) | 4 => pv (pt g) | 5 => pv (pt b) | 6 => pv (pt b) | 7 => pv (po b 1) | 8 => pv (.slice (some ⟨g, 0, none⟩) bs.length cap) | 9 => pv (iv (bs.length : Int)) | 10 => fun v E => v = sv bs ∧ E = [] | _ => fun _ _ => False) Z Y kr kr kr de ?_ ?_ ?_ ?_
 ·intro i v E h
  match i, h with
  | 0, _ => exact by decide
  | 1, _ => exact by decide
  | 2, _ => exact by decide
  | 3, _ => exact by decide
  | 4, _ => exact by decide
  | 5, _ => exact by decide
  | 6, _ => exact by decide
  | 7, _ => exact by decide
  | 8, _ => exact by decide
  | 9, _ => exact by decide
  | 10, _ => exact by decide
  | i + 11, h => exact h.elim
 ·intro i hi hiq e
  match i, hi, hiq with
  | 0, _, _ => exact fun w Y => OpV.g (ak rfl)
  | 1, _, _ =>
   rintro _ _ ⟨rfl, rfl⟩
   intro w Y
   exact OpV.g (bf rfl)
  | 2, _, _ =>
   rintro _ _ ⟨rfl, rfl⟩
   intro w Y
   exact OpV.g (ac (v := po b 1) rfl kr)
  | 3, _, _ =>
   rintro _ _ ⟨rfl, rfl⟩
   intro w Y
   exact OpV.g (ld Y 1 rfl rfl (isAgg117 _) rfl)
  | 4, _, _ =>
   rintro _ _ ⟨rfl, rfl⟩
   intro w Y
   exact OpV.g (lF rfl hcap)
  | 5, _, _ => exact fun w Y => OpV.g (ak rfl)
  | 6, _, _ =>
   rintro _ _ ⟨rfl, rfl⟩
   intro w Y
   exact OpV.g (bf rfl)
  | 7, _, _ =>
   rintro _ _ ⟨rfl, rfl⟩
   intro w Y
   exact OpV.g (ac (v := po b 1) rfl kr)
  | 8, _, _ =>
   rintro _ _ ⟨rfl, rfl⟩
   intro w Y
   exact OpV.g (ld Y 1 rfl rfl (isAgg117 _) rfl)
  | 9, _, _ =>
   rintro _ _ ⟨rfl, rfl⟩
   intro w Y
   exact OpV.g ((dr (v := iv (bs.length : Int)) (vs := [.slice (some ⟨g, 0, none⟩) bs.length cap]) (by simp [evs]; rfl) (by simp [builtin, Builtin.len_, runUnderlying117]; rfl)).as rfl)
  | 10, _, h => exact absurd rfl h
 ·rintro _ _ ⟨rfl, rfl⟩ _ _ ⟨rfl, rfl⟩
  intro w Y
  exact (iA (Y.g 0 rfl) hne rfl rfl underlying179 kr).mono fun v w' ⟨h1, h2, h3, h4⟩ => ⟨h2, h3, h4, ⟨h1, rfl⟩⟩
 clear Z Y
 rintro vq _ _ ⟨⟨rfl, rfl⟩, -⟩ _ _ ⟨⟨rfl, rfl⟩, -⟩ _ _ ⟨⟨rfl, rfl⟩, -⟩ _ _ ⟨⟨rfl, rfl⟩, -⟩ _ _ ⟨⟨rfl, rfl⟩, -⟩ _ _ ⟨⟨rfl, rfl⟩, -⟩ _ _ ⟨⟨rfl, rfl⟩, -⟩ _ _ ⟨⟨rfl, rfl⟩, -⟩ _ _ ⟨⟨rfl, rfl⟩, -⟩ _ _ ⟨⟨rfl, rfl⟩, -⟩ _ _ ⟨⟨rfl, rfl⟩, -⟩ a w1 Z Y
 replace Z := Z.p13 3 4 5 6 7 8 9 10 11 12 13 0 2 rfl
 replace Y : St M w0 [_, _] w1 := Y
 refine wla Z rfl fun a Z => ab <| hK2 _ _ ?_
 replace Z := Z.p1 2 rfl
 refine ap ?_
 refine aj Z results106 (ae rfl ag) ?_
 exact ⟨rfl, Y.select [1] de⟩
theorem mi {M : Nat → Prop} {w0 : World} (T : TypeId) (b : Nat) (v : Value) (bs : By) (ws : World) (hne : bs ≠ []) (Y : St M w0 [bld T b (pt b) v bs] ws) :
  Ret Tryz.prog 106 #[pt b] ws fun u w => u = sv bs ∧ St M w0 [blk b [pt b, v] T] w := by
 have Y : St M w0 [blk b [pt b, v] T, own v 5 1 ((bs).map fun b => [yv b])] ws := iy Y
 obtain ⟨g, cap, rfl, hcap⟩ := pV (Y.g 1 rfl) hne
 exact ll T b g cap bs ws hne hcap Y
theorem oG {M : Nat → Prop} {w0 : World} (T : TypeId) (b : Nat) (ad v : Value) (bs s : By) (ws : World) (hlie : liesAt Tryz.prog Tryz.prog.depth T (2 / Tryz.prog.cellsOf T) 0 165 1 = true) (had : ad = .pointer none ∨ ad = pt b) (hne : s ≠ []) (hbn : bs.length + s.length ≤ 1000000000) (Y : St M w0 [bld T b ad v bs] ws) :
  Ret Tryz.prog 113 #[pt b, sv s] ws fun u w => u = .tuple #[iv (s.length : Int), .nilIface] ∧ ∃ v2, St M w0 [bld T b (pt b) v2 (bs ++ s)] w := by
 rcases had with rfl | rfl
 ·exact lX T b v bs s ws hlie hne hbn Y
 ·exact nB T b v bs s ws hlie hne hbn Y
theorem qx (n : Int) : putI n ≠ [] := fun h => by have := (eP n).1; rw [h] at this; simp at this
theorem ip {M : Nat → Prop} {w0 : World} (T : TypeId) (b : Nat) (ad v lv : Value) (bs : By) (ns : List Int) (ws : World) (hlie : liesAt Tryz.prog Tryz.prog.depth T (2 / Tryz.prog.cellsOf T) 0 165 1 = true) (had : ad = .pointer none ∨ ad = pt b) (hns : smalls ns) (hnn : ns ≠ []) (hbn : bs.length + 9 * ns.length ≤ 1000000000) (Y : St M w0 [bld T b (ad) v bs, own lv 3 1 ((ns).map fun n => [iv n])] ws) :
  Ret Tryz.prog 107 #[pt b, lv] ws fun u w => u = .tuple #[] ∧ ∃ v2, St M w0 [bld T b (pt b) v2 (bs ++ puts ns)] w := by
 refine aD func107 rfl ntmps107 (lb rfl) fun a Z => ?_
 replace Z := Z.p2 0 1 rfl
 skip
 refine aa fun K1 hK1 => wlm Z rfl fun a Z => wlv Z ((aL (sT := 47) (Y.ow 1 rfl) rfl rfl (runUnderlying47 _)).asi (m' := (ns.length : Int)) (by rw [List.length_map])) fun a Z => wlm Z rfl fun a Z => ab (hK1 _ _ <| ay ?_)
 replace Y : St M w0 [bld T b ad v (bs ++ puts (ns.take 0)), own lv 3 1 ((ns).map fun n => [iv n])] ws := by rw [show bs ++ puts (ns.take 0) = bs from by simp [puts]]; exact Y
 refine bj (fun m a w => ∃ (k : Nat) (ad : Value) (v : Value), m = ns.length - k ∧ (k ≤ ns.length) ∧ (ad = .pointer none ∨ ad = pt b) ∧ (0 < k → ad = pt b) ∧ Fr 25 [(0, pt b), (8, lv), (9, iv (ns.length : Int)), (10, iv (k : Int))] [] a ∧ St M w0 [bld T b (ad) v (bs ++ puts (ns.take k)), own lv 3 1 ((ns).map fun n => [iv n])] w) _ ⟨0, ad, v, rfl, Nat.zero_le _, had, (fun h => absurd h (Nat.lt_irrefl 0)), Z.pick [0, 8, 9, 10], Y⟩ ?_
 rintro _ a w1 ⟨k, ad, v, rfl, hk, had, hak, Z, Y⟩
 refine aa fun K2 hK2 => wlv Z (v_lt rfl rfl) fun a Z => ab (hK2 _ _ <| ah fun K3 hK3 => ?_)
 refine ax Z rfl (fun hc1 => ?_) (fun hc1 => ?_)
 ·rw [hc1] at Z
  try simp only [qz] at hc1
  refine az <| hK3 _ _ <| ah fun K4 hK4 => ay <| aa fun K5 hK5 => wlv Z ((ao (i := (k : Int)) (sT := 47) (Y.ow 1 rfl) rfl rfl (runUnderlying47 _) (sizeOf3 _) om (by rw [List.length_map]; omega)).as (v' := slAddr lv (k * 1)) rfl) fun a Z => wlv Z (aE (u := iv (ns.getD k 0)) (i := k) (j := 0) (Y.ow 1 rfl) (by rw [List.length_map]; omega) rfl (isAgg3 _) (by rw [bU (0 : Int)]; rfl)) fun a Z => wla Z rfl fun a Z => ab (hK5 _ _ <| aa fun K6 hK6 => ?_)
  refine wlm Z rfl fun a Z => aA Z Y de call112 rfl (nu (ns.getD k 0) _ (hns _ (cn om))) ?_
  clear Z Y
  intro a w2 Z Y
  refine wlm Z rfl fun a Z => wlv Z (aw rfl rfl) fun a Z => wlv Z (aw rfl rfl) fun a Z => wla Z rfl fun a Z => wla Z rfl fun a Z => ab (hK6 _ _ ?_)
  replace Z := Z.p5 0 8 9 10 6 rfl
  refine ar <| wlm Z rfl fun a Z => wlv Z (bf rfl) fun a Z => wlv Z (ac (v := pt b) rfl kr) fun a Z => wlm Z rfl fun a Z => eg (R := fun u e' => u = .tuple #[iv ((putI (ns.getD k 0)).length : Int), .nilIface] ∧ ∃ v2, e' = bld T b (pt b) v2 ((bs ++ puts (ns.take k)) ++ (putI (ns.getD k 0)))) 0 Z Y rfl de call113 rfl (fun h => (oG T b _ _ _ _ _ hlie (had) (qx _) (by have h1 := eu (ns.take k); have h2 := (eP (ns.getD k 0)).2; rw [List.length_take] at h1; rw [List.length_append]; omega) h).mono fun u w ⟨h1, v2, h2⟩ => ⟨_, ⟨h1, v2, rfl⟩, h2⟩) ?_
  clear Z Y
  rintro a w3 _ _ ⟨rfl, v2, rfl⟩ Z Y
  replace Y : St M w0 [_, _] w3 := Y
  refine ab <| hK4 _ _ ?_
  replace Z := Z.p4 0 8 9 10 rfl
  refine ar <| wlv Z (aS rfl rfl ⟨om, om⟩) fun a Z => wlm Z rfl fun a Z => ab ?_
  replace Y : St M w0 [bld T b (pt b) v2 (bs ++ puts (ns.take (k + 1))), own lv 3 1 ((ns).map fun n => [iv n])] w3 := by rw [show bs ++ puts (ns.take (k + 1)) = (bs ++ puts (ns.take k)) ++ (putI (ns.getD k 0)) from by rw [da 0 om, jy, List.append_assoc]]; exact Y
  refine ⟨_, ?_, k + 1, pt b, v2, rfl, om, (.inr rfl), (fun _ => rfl), Z.pick [0, 8, 9, 10], Y⟩
  omega
 rw [hc1] at Z
 try simp only [qz] at hc1
 obtain rfl : k = ns.length := by omega
 rw [List.take_length] at Y
 obtain rfl := hak (List.length_pos_iff.2 hnn)
 refine aX ?_
 refine dk Z results107 ag ?_
 exact ⟨rfl, _, Y.select [0] de⟩
theorem o0 {M : Nat → Prop} {w0 : World} (T : TypeId) (b : Nat) (ad v : Value) (bs : By) (x : Wsh) (ws : World) (hlie : liesAt Tryz.prog Tryz.prog.depth T (2 / Tryz.prog.cellsOf T) 0 165 1 = true) (had : ad = .pointer none ∨ ad = pt b) (hx : smalls x.nums) (hbn : bs.length ≤ 1000000) (Y : St M w0 [bld T b (ad) v bs] ws) :
  Ret Tryz.prog 88 #[pt b, .agg #[iv x.signer, iv x.holder, iv x.rf, iv x.rt, iv x.carrier, iv x.serial, iv x.sf, iv x.st, sv x.sig]] ws fun u w => u = .tuple #[] ∧ ∃ v2, St M w0 [bld T b (pt b) v2 (bs ++ x.content)] w := by
 refine aD func88 rfl ntmps88 (lb rfl) fun a Z => ?_
 replace Z := Z.p2 0 1 rfl
 skip
 refine aa fun K1 hK1 => aG Z Y de rfl (cs := [iv x.signer, iv x.holder, iv x.rf, iv x.rt, iv x.carrier, iv x.serial, iv x.sf, iv x.st, sv x.sig]) rfl ?_
 clear Z Y
 intro a w1 Z Y
 refine ab (hK1 _ _ <| ar ?_)
 refine wlm Z rfl fun a Z => wlv Z (ac (v := pt ws.hz) rfl kr) fun a Z => wlv Z (ld Y 0 rfl rfl (isAgg3 _) rfl) fun a Z => wlv Z (ac (v := po ws.hz 1) rfl kr) fun a Z => wlv Z (ld Y 0 rfl rfl (isAgg3 _) rfl) fun a Z => wlv Z (ac (v := po ws.hz 2) rfl kr) fun a Z => wlv Z (ac (v := po ws.hz 2) rfl kr) fun a Z => wlv Z (ld Y 0 rfl rfl (isAgg3 _) rfl) fun a Z => wlv Z (ac (v := po ws.hz 2) rfl kr) fun a Z => wlv Z (ac (v := po ws.hz 3) rfl kr) fun a Z => ?_
 refine wlv Z (ld Y 0 rfl rfl (isAgg3 _) rfl) fun a Z => wlv Z (ac (v := po ws.hz 4) rfl kr) fun a Z => wlv Z (ld Y 0 rfl rfl (isAgg3 _) rfl) fun a Z => wlv Z (ac (v := po ws.hz 5) rfl kr) fun a Z => wlv Z (ld Y 0 rfl rfl (isAgg3 _) rfl) fun a Z => wlv Z (ac (v := po ws.hz 6) rfl kr) fun a Z => wlv Z (ac (v := po ws.hz 6) rfl kr) fun a Z => wlv Z (ld Y 0 rfl rfl (isAgg3 _) rfl) fun a Z => wlv Z (ac (v := po ws.hz 6) rfl kr) fun a Z => wlv Z (ac (v := po ws.hz 7) rfl kr) fun a Z => ?_
 refine wlv Z (ld Y 0 rfl rfl (isAgg3 _) rfl) fun a Z => aI (E := 3) (sz := 1) rfl [[iv 1], [iv x.signer], [iv x.holder], [iv x.rf], [iv x.rt], [iv x.carrier], [iv x.serial], [iv x.sf], [iv x.st]] kr sm rfl de de Z Y ?_
 clear Z Y
 intro a w2 Z Y
 replace Y : St M w0 [bld T b (ad) v bs, own (.slice (some ⟨w1.hz, 0, none⟩) 9 9) 3 1 ([[iv 1], [iv x.signer], [iv x.holder], [iv x.rf], [iv x.rt], [iv x.carrier], [iv x.serial], [iv x.sf], [iv x.st]]), blk ws.hz [iv x.signer, iv x.holder, iv x.rf, iv x.rt, iv x.carrier, iv x.serial, iv x.sf, iv x.st, sv x.sig] 41] w2 := Y.select [2, 0, 1] de
 replace Y := St.join [bld T b (ad) v bs, own (.slice (some ⟨w1.hz, 0, none⟩) 9 9) 3 1 ([[iv 1], [iv x.signer], [iv x.holder], [iv x.rf], [iv x.rt], [iv x.carrier], [iv x.serial], [iv x.sf], [iv x.st]])] [blk ws.hz [iv x.signer, iv x.holder, iv x.rf, iv x.rt, iv x.carrier, iv x.serial, iv x.sf, iv x.st, sv x.sig] 41] Y
 refine eg (R := fun u e' => u = .tuple #[] ∧ ∃ v2, e' = bld T b (pt b) v2 (bs ++ puts [1, x.signer, x.holder, x.rf, x.rt, x.carrier, x.serial, x.sf, x.st])) 0 Z Y rfl de call107 rfl (fun h => (ip T b _ _ _ _ [1, x.signer, x.holder, x.rf, x.rt, x.carrier, x.serial, x.sf, x.st] _ hlie (had) (hx) sm (by simp <;> omega) (St.unjoin [bld T b (ad) v bs, own (.slice (some ⟨w1.hz, 0, none⟩) 9 9) 3 1 ([[iv 1], [iv x.signer], [iv x.holder], [iv x.rf], [iv x.rt], [iv x.carrier], [iv x.serial], [iv x.sf], [iv x.st]])] [] h)).mono fun u w ⟨h1, v2, h2⟩ => ⟨_, ⟨h1, v2, rfl⟩, h2⟩) ?_
 clear Z Y
 rintro a w3 _ _ ⟨rfl, v1, rfl⟩ Z Y
 replace Y : St M w0 [_, _] w3 := Y
 refine ab ?_
 refine dk Z results88 ag ?_
 exact ⟨rfl, _, Y.select [0] de⟩
theorem nO {M : Nat → Prop} {w0 : World} (T : TypeId) (b : Nat) (ad v : Value) (bs : By) (x : Pxy) (ws : World) (hlie : liesAt Tryz.prog Tryz.prog.depth T (2 / Tryz.prog.cellsOf T) 0 165 1 = true) (had : ad = .pointer none ∨ ad = pt b) (hx : smalls x.nums) (hbn : bs.length ≤ 1000000) (Y : St M w0 [bld T b (ad) v bs] ws) :
  Ret Tryz.prog 86 #[pt b, .agg #[iv x.frm, iv x.to, iv x.rf, iv x.rt, iv x.sf, iv x.st, sv x.sig]] ws fun u w => u = .tuple #[] ∧ ∃ v2, St M w0 [bld T b (pt b) v2 (bs ++ x.content)] w := by
 refine aD func86 rfl ntmps86 (lb rfl) fun a Z => ?_
 replace Z := Z.p2 0 1 rfl
 skip
 refine aa fun K1 hK1 => aG Z Y de rfl (cs := [iv x.frm, iv x.to, iv x.rf, iv x.rt, iv x.sf, iv x.st, sv x.sig]) rfl ?_
 clear Z Y
 intro a w1 Z Y
 refine ab (hK1 _ _ <| ar ?_)
 refine wlm Z rfl fun a Z => wlv Z (ac (v := pt ws.hz) rfl kr) fun a Z => wlv Z (ld Y 0 rfl rfl (isAgg3 _) rfl) fun a Z => wlv Z (ac (v := po ws.hz 1) rfl kr) fun a Z => wlv Z (ld Y 0 rfl rfl (isAgg3 _) rfl) fun a Z => wlv Z (ac (v := po ws.hz 2) rfl kr) fun a Z => wlv Z (ac (v := po ws.hz 2) rfl kr) fun a Z => wlv Z (ld Y 0 rfl rfl (isAgg3 _) rfl) fun a Z => wlv Z (ac (v := po ws.hz 2) rfl kr) fun a Z => wlv Z (ac (v := po ws.hz 3) rfl kr) fun a Z => ?_
 refine wlv Z (ld Y 0 rfl rfl (isAgg3 _) rfl) fun a Z => wlv Z (ac (v := po ws.hz 4) rfl kr) fun a Z => wlv Z (ac (v := po ws.hz 4) rfl kr) fun a Z => wlv Z (ld Y 0 rfl rfl (isAgg3 _) rfl) fun a Z => wlv Z (ac (v := po ws.hz 4) rfl kr) fun a Z => wlv Z (ac (v := po ws.hz 5) rfl kr) fun a Z => wlv Z (ld Y 0 rfl rfl (isAgg3 _) rfl) fun a Z => aI (E := 3) (sz := 1) rfl [[iv 2], [iv x.frm], [iv x.to], [iv x.rf], [iv x.rt], [iv x.sf], [iv x.st]] kr sm rfl de de Z Y ?_
 clear Z Y
 intro a w2 Z Y
 replace Y : St M w0 [bld T b (ad) v bs, own (.slice (some ⟨w1.hz, 0, none⟩) 7 7) 3 1 ([[iv 2], [iv x.frm], [iv x.to], [iv x.rf], [iv x.rt], [iv x.sf], [iv x.st]]), blk ws.hz [iv x.frm, iv x.to, iv x.rf, iv x.rt, iv x.sf, iv x.st, sv x.sig] 86] w2 := Y.select [2, 0, 1] de
 replace Y := St.join [bld T b (ad) v bs, own (.slice (some ⟨w1.hz, 0, none⟩) 7 7) 3 1 ([[iv 2], [iv x.frm], [iv x.to], [iv x.rf], [iv x.rt], [iv x.sf], [iv x.st]])] [blk ws.hz [iv x.frm, iv x.to, iv x.rf, iv x.rt, iv x.sf, iv x.st, sv x.sig] 86] Y
 refine eg (R := fun u e' => u = .tuple #[] ∧ ∃ v2, e' = bld T b (pt b) v2 (bs ++ puts [2, x.frm, x.to, x.rf, x.rt, x.sf, x.st])) 0 Z Y rfl de call107 rfl (fun h => (ip T b _ _ _ _ [2, x.frm, x.to, x.rf, x.rt, x.sf, x.st] _ hlie (had) (hx) sm (by simp <;> omega) (St.unjoin [bld T b (ad) v bs, own (.slice (some ⟨w1.hz, 0, none⟩) 7 7) 3 1 ([[iv 2], [iv x.frm], [iv x.to], [iv x.rf], [iv x.rt], [iv x.sf], [iv x.st]])] [] h)).mono fun u w ⟨h1, v2, h2⟩ => ⟨_, ⟨h1, v2, rfl⟩, h2⟩) ?_
 clear Z Y
 rintro a w3 _ _ ⟨rfl, v1, rfl⟩ Z Y
 replace Y : St M w0 [_, _] w3 := Y
 refine ab ?_
 refine dk Z results86 ag ?_
 exact ⟨rfl, _, Y.select [0] de⟩
theorem qH {M : Nat → Prop} {w0 : World} (key content : By) (g : FuncId) (caps : List Value) (ec : Ent) (ws : World) (hen : ∀ args w, (callFunc g args).run Tryz.prog w = .ok (.enter g args) w)
  (hc : ∀ {M : Nat → Prop} {w0 : World} (b : Nat) (v : Value) (ws : World), St M w0 [bld 167 b (.pointer none) v [], ec] ws → Ret Tryz.prog g ([pt b] ++ caps).toArray ws fun u w => u = .tuple #[] ∧ ∃ v2, St M w0 [bld 167 b (pt b) v2 content, ec] w)
  (hne : content ≠ []) (hkl : key.length ≤ 40000000) (hcl : content.length ≤ 40000000) (Y : St M w0 [blk 0 (kOf.map wv) 202, ec] ws) :
  Ret Tryz.prog 84 #[sv key, .func (.func g) #[] caps.toArray] ws fun u w => u = sv (sealH key content) ∧ St M w0 [blk 0 (kOf.map wv) 202, ec] w := by
 refine aD func84 rfl ntmps84 (lb rfl) fun a Z => ?_
 replace Z := Z.p2 0 1 rfl
 skip
 refine aa fun K1 hK1 => wla Z rfl fun a Z => ab (hK1 _ _ <| aa fun K2 hK2 => ?_)
 refine aH Z Y de (zeroValue167 _) (cs := [.pointer none, .slice none 0 0]) rfl ?_
 clear Z Y
 intro a w1 Z Y
 refine ab (hK2 _ _ <| aa fun K3 hK3 => ?_)
 refine wlm Z rfl fun a Z => ?_
 replace Y : St M w0 (own (.slice none 0 0) 5 1 [] :: [blk ws.hz [.pointer none, .slice none 0 0] 167, blk 0 (kOf.map wv) 202, ec]) w1 := Y.nil_own
 replace Y : St M w0 [blk ws.hz [.pointer none, .slice none 0 0] 167, own (.slice none 0 0) 5 1 ([]), ec, blk 0 (kOf.map wv) 202] w1 := Y.select [1, 0, 3, 2] de
 replace Y : St M w0 ([bld 167 (ws.hz) (.pointer none) (.slice none 0 0) [], ec] ++ [blk 0 (kOf.map wv) 202]) w1 := St.join [blk ws.hz [.pointer none, .slice none 0 0] 167, own (.slice none 0 0) 5 1 ([])] [ec, blk 0 (kOf.map wv) 202] Y
 replace Y := St.join _ _ Y
 refine na (R := fun u e' => u = .tuple #[] ∧ ∃ v2, e' = join [bld 167 (ws.hz) (pt ws.hz) v2 content, ec]) 0 Z Y rfl de rfl hen rfl (fun h => (hc (ws.hz) _ _ (St.unjoin [bld 167 (ws.hz) (.pointer none) (.slice none 0 0) [], ec] [] h)).mono fun u w ⟨h1, v2, h2⟩ => ⟨_, ⟨h1, v2, rfl⟩, St.join _ [] h2⟩) ?_
 clear Z Y
 rintro a w2 _ _ ⟨rfl, v1, rfl⟩ Z Y
 replace Y : St M w0 [bld 167 (ws.hz) (pt ws.hz) v1 content, ec, blk 0 (kOf.map wv) 202] w2 := St.unjoin [bld 167 (ws.hz) (pt ws.hz) v1 content, ec] [blk 0 (kOf.map wv) 202] Y
 refine ab (hK3 _ _ <| aa fun K4 hK4 => ?_)
 refine wlm Z rfl fun a Z => wlv Z (ac (v := pt ws.hz) rfl kr) fun a Z => eg (R := fun u e' => u = sv (content) ∧ e' = blk (ws.hz) [pt ws.hz, v1] 167) 0 Z Y rfl de call106 rfl (fun h => (mi 167 (ws.hz) _ _ _ hne h).mono fun u w ⟨h1, h2⟩ => ⟨_, ⟨h1, rfl⟩, h2⟩) ?_
 clear Z Y
 rintro a w3 _ _ ⟨rfl, rfl⟩ Z Y
 replace Y : St M w0 [_, _, _] w3 := Y
 refine aA Z Y de call105 rfl (pS content _ om (Y.g 2 rfl)) ?_
 clear Z Y
 intro a w4 Z Y
 refine aA Z Y de call104 rfl (qJ key (leafH sha content) _ om (by rw [kI kg]; decide) (Y.g 2 rfl)) ?_
 clear Z Y
 intro a w5 Z Y
 refine wla Z rfl fun a Z => ab (hK4 _ _ ?_)
 replace Z := Z.p1 4 rfl
 refine ap ?_
 refine aj Z results84 (ae rfl ag) ?_
 exact ⟨rfl, Y.select [2, 1] de⟩
theorem pj (s : By) (w0 : World) :
  Ret Tryz.prog 77 #[sv s] w0 fun v w => v = .bool (decide ((s.length : Int) = 32)) ∧ Ext No w0 w := by
 refine aD func77 rfl ntmps77 (lb rfl) fun a Z => ?_
 replace Z := Z.p1 0 rfl
 replace Y : St No w0 [] w0 := St.init w0
 refine aa fun K1 hK1 => wla Z rfl fun a Z => ab (hK1 _ _ <| aa fun K2 hK2 => ?_)
 refine wlm Z rfl fun a Z => wlv Z (cR rfl rfl (runUnderlying9 _)) fun a Z => wlv Z (v_eq rfl rfl) fun a Z => wla Z rfl fun a Z => ab (hK2 _ _ <| ap ?_)
 refine aj Z results77 (ae rfl ag) ?_
 exact ⟨by rfl, Y.ext⟩
theorem cB (n lo hi : Int) (w0 : World) :
  Ret Tryz.prog 81 #[iv n, iv lo, iv hi] w0 fun v w => v = .bool (inB n lo hi) ∧ Ext No w0 w := by
 refine aD func81 rfl ntmps81 (lb rfl) fun a Z => ?_
 replace Z := Z.p3 0 1 2 rfl
 replace Y : St No w0 [] w0 := St.init w0
 refine aa fun K1 hK1 => wla Z rfl fun a Z => ab (hK1 _ _ <| aa fun K2 hK2 => ?_)
 refine wlm Z rfl fun a Z => wlm Z rfl fun a Z => wlv Z (v_le rfl rfl) fun a Z => wlm Z rfl fun a Z => ?_
 refine bO (N := 15) (df := []) 4 [(14, .bool ((decide (lo ≤ n)) && (decide (n ≤ hi)))), (0, iv n), (1, iv lo), (2, iv hi), (6, .bool false)] ?_ (fun hj => ?_)
 rotate_left
 ·rcases Bool.eq_false_or_eq_true (decide (lo ≤ n)) with hb1 | hb1
  ·rw [hb1] at Z
   have hb1b := hb1
   try simp only [qz, Bool.and_eq_true, Bool.or_eq_true, Bool.and_eq_false_iff, Bool.or_eq_false_iff] at hb1
   refine wly Z (ak rfl) fun a Z => wly Z (ak rfl) fun a Z => wly Z (v_le rfl rfl) fun a Z => wlv Z (au rfl rfl) fun a Z => ?_
   refine hj _ ?_
   try rw [hb1b]
   exact Z.pick [14, 0, 1, 2, 6]
  rw [hb1] at Z
  have hb1b := hb1
  try simp only [qz, Bool.and_eq_true, Bool.or_eq_true, Bool.and_eq_false_iff, Bool.or_eq_false_iff] at hb1
  refine wln Z fun a Z => wln Z fun a Z => wln Z fun a Z => wlv Z (aq rfl rfl) fun a Z => ?_
  refine hj _ ?_
  try rw [hb1b]
  exact Z.pick [14, 0, 1, 2, 6]
 intro a Z
 refine wla Z rfl fun a Z => ab (hK2 _ _ <| ap ?_)
 refine aj Z results81 (ae rfl ag) ?_
 exact ⟨by rfl, Y.ext⟩
theorem iS (b d : Int) (w0 : World) :
  Ret Tryz.prog 97 #[.agg #[iv b, iv d]] w0 fun v w => v = .bool (cj b d) ∧ Ext No w0 w := by
 refine aD func97 rfl ntmps97 (lb rfl) fun a Z => ?_
 replace Z := Z.p1 0 rfl
 replace Y : St No w0 [] w0 := St.init w0
 refine aa fun K1 hK1 => aG Z Y de rfl (cs := [iv b, iv d]) rfl ?_
 clear Z Y
 intro a w1 Z Y
 refine wla Z rfl fun a Z => ab (hK1 _ _ <| aa fun K2 hK2 => ?_)
 refine wlv Z (ac (v := pt w0.hz) rfl kr) fun a Z => wlv Z (ld Y 0 rfl rfl (isAgg3 _) rfl) fun a Z => wlv Z (v_le rfl rfl) fun a Z => wlm Z rfl fun a Z => ?_
 refine bO (N := 18) (df := []) 6 [(12, .bool ((decide (0 ≤ b)) && (decide (b < d)))), (0, .agg #[iv b, iv d]), (1, pt w0.hz), (2, .bool false)] ?_ (fun hj => ?_)
 rotate_left
 ·rcases Bool.eq_false_or_eq_true (decide (0 ≤ b)) with hb1 | hb1
  ·rw [hb1] at Z
   have hb1b := hb1
   try simp only [qz, Bool.and_eq_true, Bool.or_eq_true, Bool.and_eq_false_iff, Bool.or_eq_false_iff] at hb1
   refine wly Z (ac (v := pt w0.hz) rfl kr) fun a Z => wly Z (ld Y 0 rfl rfl (isAgg3 _) rfl) fun a Z => wly Z (ac (v := po w0.hz 1) rfl kr) fun a Z => wly Z (ld Y 0 rfl rfl (isAgg3 _) rfl) fun a Z => wly Z (v_lt rfl rfl) fun a Z => wlv Z (au rfl rfl) fun a Z => ?_
   refine hj _ ?_
   try rw [hb1b]
   exact Z.pick [12, 0, 1, 2]
  rw [hb1] at Z
  have hb1b := hb1
  try simp only [qz, Bool.and_eq_true, Bool.or_eq_true, Bool.and_eq_false_iff, Bool.or_eq_false_iff] at hb1
  refine wln Z fun a Z => wln Z fun a Z => wln Z fun a Z => wln Z fun a Z => wln Z fun a Z => wlv Z (aq rfl rfl) fun a Z => ?_
  refine hj _ ?_
  try rw [hb1b]
  exact Z.pick [12, 0, 1, 2]
 intro a Z
 refine wlm Z rfl fun a Z => ?_
 refine bO (N := 18) (df := []) 4 [(17, .bool (((decide (0 ≤ b)) && (decide (b < d))) && (decide (d ≤ 100000000)))), (0, .agg #[iv b, iv d]), (1, pt w0.hz), (2, .bool false)] ?_ (fun hj => ?_)
 rotate_left
 ·rcases Bool.eq_false_or_eq_true ((decide (0 ≤ b)) && (decide (b < d))) with hb2 | hb2
  ·rw [hb2] at Z
   have hb2b := hb2
   try simp only [qz, Bool.and_eq_true, Bool.or_eq_true, Bool.and_eq_false_iff, Bool.or_eq_false_iff] at hb2
   refine wly Z (ac (v := po w0.hz 1) rfl kr) fun a Z => wly Z (ld Y 0 rfl rfl (isAgg3 _) rfl) fun a Z => wly Z (v_le rfl rfl) fun a Z => wlv Z (au rfl rfl) fun a Z => ?_
   refine hj _ ?_
   try rw [hb2b]
   exact Z.pick [17, 0, 1, 2]
  rw [hb2] at Z
  have hb2b := hb2
  try simp only [qz, Bool.and_eq_true, Bool.or_eq_true, Bool.and_eq_false_iff, Bool.or_eq_false_iff] at hb2
  refine wln Z fun a Z => wln Z fun a Z => wln Z fun a Z => wlv Z (aq rfl rfl) fun a Z => ?_
  refine hj _ ?_
  try rw [hb2b]
  exact Z.pick [17, 0, 1, 2]
 intro a Z
 refine wla Z rfl fun a Z => ab (hK2 _ _ <| ap ?_)
 refine aj Z results97 (ae rfl ag) ?_
 exact ⟨by rfl, Y.ext⟩
theorem ig (b d : Int) (w0 : World) :
  Ret Tryz.prog 98 #[.agg #[iv b, iv d]] w0 fun v w => v = .bool (cL b d) ∧ Ext No w0 w := by
 refine aD func98 rfl ntmps98 (lb rfl) fun a Z => ?_
 replace Z := Z.p1 0 rfl
 replace Y : St No w0 [] w0 := St.init w0
 refine aa fun K1 hK1 => aG Z Y de rfl (cs := [iv b, iv d]) rfl ?_
 clear Z Y
 intro a w1 Z Y
 refine wla Z rfl fun a Z => ab (hK1 _ _ <| aa fun K2 hK2 => ?_)
 refine wlv Z (ac (v := pt w0.hz) rfl kr) fun a Z => wlv Z (ld Y 0 rfl rfl (isAgg3 _) rfl) fun a Z => wlv Z (v_le rfl rfl) fun a Z => wlm Z rfl fun a Z => ?_
 refine bO (N := 18) (df := []) 6 [(12, .bool ((decide (0 ≤ b)) && (decide (b < d)))), (0, .agg #[iv b, iv d]), (1, pt w0.hz), (2, .bool false)] ?_ (fun hj => ?_)
 rotate_left
 ·rcases Bool.eq_false_or_eq_true (decide (0 ≤ b)) with hb1 | hb1
  ·rw [hb1] at Z
   have hb1b := hb1
   try simp only [qz, Bool.and_eq_true, Bool.or_eq_true, Bool.and_eq_false_iff, Bool.or_eq_false_iff] at hb1
   refine wly Z (ac (v := pt w0.hz) rfl kr) fun a Z => wly Z (ld Y 0 rfl rfl (isAgg3 _) rfl) fun a Z => wly Z (ac (v := po w0.hz 1) rfl kr) fun a Z => wly Z (ld Y 0 rfl rfl (isAgg3 _) rfl) fun a Z => wly Z (v_lt rfl rfl) fun a Z => wlv Z (au rfl rfl) fun a Z => ?_
   refine hj _ ?_
   try rw [hb1b]
   exact Z.pick [12, 0, 1, 2]
  rw [hb1] at Z
  have hb1b := hb1
  try simp only [qz, Bool.and_eq_true, Bool.or_eq_true, Bool.and_eq_false_iff, Bool.or_eq_false_iff] at hb1
  refine wln Z fun a Z => wln Z fun a Z => wln Z fun a Z => wln Z fun a Z => wln Z fun a Z => wlv Z (aq rfl rfl) fun a Z => ?_
  refine hj _ ?_
  try rw [hb1b]
  exact Z.pick [12, 0, 1, 2]
 intro a Z
 refine wlm Z rfl fun a Z => ?_
 refine bO (N := 18) (df := []) 4 [(17, .bool (((decide (0 ≤ b)) && (decide (b < d))) && (decide (d ≤ 10000001)))), (0, .agg #[iv b, iv d]), (1, pt w0.hz), (2, .bool false)] ?_ (fun hj => ?_)
 rotate_left
 ·rcases Bool.eq_false_or_eq_true ((decide (0 ≤ b)) && (decide (b < d))) with hb2 | hb2
  ·rw [hb2] at Z
   have hb2b := hb2
   try simp only [qz, Bool.and_eq_true, Bool.or_eq_true, Bool.and_eq_false_iff, Bool.or_eq_false_iff] at hb2
   refine wly Z (ac (v := po w0.hz 1) rfl kr) fun a Z => wly Z (ld Y 0 rfl rfl (isAgg3 _) rfl) fun a Z => wly Z (v_le rfl rfl) fun a Z => wlv Z (au rfl rfl) fun a Z => ?_
   refine hj _ ?_
   try rw [hb2b]
   exact Z.pick [17, 0, 1, 2]
  rw [hb2] at Z
  have hb2b := hb2
  try simp only [qz, Bool.and_eq_true, Bool.or_eq_true, Bool.and_eq_false_iff, Bool.or_eq_false_iff] at hb2
  refine wln Z fun a Z => wln Z fun a Z => wln Z fun a Z => wlv Z (aq rfl rfl) fun a Z => ?_
  refine hj _ ?_
  try rw [hb2b]
  exact Z.pick [17, 0, 1, 2]
 intro a Z
 refine wla Z rfl fun a Z => ab (hK2 _ _ <| ap ?_)
 refine aj Z results98 (ae rfl ag) ?_
 exact ⟨by rfl, Y.ext⟩
theorem nH (x : Wsh) (w0 : World) :
  Ret Tryz.prog 79 #[.agg #[iv x.signer, iv x.holder, iv x.rf, iv x.rt, iv x.carrier, iv x.serial, iv x.sf, iv x.st, sv x.sig]] w0 fun v w => v = .bool x.ok ∧ Ext No w0 w := by
 refine aD func79 rfl ntmps79 (lb rfl) fun a Z => ?_
 replace Z := Z.p1 0 rfl
 replace Y : St No w0 [] w0 := St.init w0
 refine aa fun K1 hK1 => aG Z Y de rfl (cs := [iv x.signer, iv x.holder, iv x.rf, iv x.rt, iv x.carrier, iv x.serial, iv x.sf, iv x.st, sv x.sig]) rfl ?_
 clear Z Y
 intro a w1 Z Y
 refine wla Z rfl fun a Z => ab (hK1 _ _ <| aa fun K2 hK2 => ?_)
 refine wlv Z (ac (v := pt w0.hz) rfl kr) fun a Z => wlv Z (ld Y 0 rfl rfl (isAgg3 _) rfl) fun a Z => aA Z Y de call81 rfl (cB x.signer 0 63 _) ?_
 clear Z Y
 intro a w2 Z Y
 refine wlm Z rfl fun a Z => ?_
 rcases Bool.eq_false_or_eq_true (inB x.signer 0 63) with hb1 | hb1
 ·rw [hb1] at Z
  try simp only [qz] at hb1
  refine wly Z (ac (v := po w0.hz 1) rfl kr) fun a Z => wly Z (ld Y 0 rfl rfl (isAgg3 _) rfl) fun a Z => aF Z Y de rfl de rfl call81 rfl (cB x.holder 0 63 _) ?_
  clear Z Y
  intro a w3 Z Y
  refine wlv Z (au rfl rfl) fun a Z => wla Z rfl fun a Z => ab (hK2 _ _ ?_)
  replace Z := Z.p3 1 2 3 rfl
  refine aa fun K3 hK3 => wlm Z rfl fun a Z => wlm Z rfl fun a Z => ?_
  rcases Bool.eq_false_or_eq_true (inB x.holder 0 63) with hb2 | hb2
  ·rw [hb2] at Z
   try simp only [qz] at hb2
   refine wly Z (ac (v := po w0.hz 2) rfl kr) fun a Z => wly Z (bJ (ds := [iv x.rf, iv x.rt]) (Y.g 0 rfl) rfl (isAgg38 _) (sizeOf38 _) rfl) fun a Z => aF Z Y de rfl de rfl call97 rfl (iS x.rf x.rt _) ?_
   clear Z Y
   intro a w4 Z Y
   refine wlv Z (au rfl rfl) fun a Z => wlm Z rfl fun a Z => ?_
   rcases Bool.eq_false_or_eq_true (cj x.rf x.rt) with hb3 | hb3
   ·rw [hb3] at Z
    try simp only [qz] at hb3
    refine wly Z (ac (v := po w0.hz 4) rfl kr) fun a Z => wly Z (ld Y 0 rfl rfl (isAgg3 _) rfl) fun a Z => aF Z Y de rfl de rfl call81 rfl (cB x.carrier 0 7 _) ?_
    clear Z Y
    intro a w5 Z Y
    refine wlv Z (au rfl rfl) fun a Z => wlm Z rfl fun a Z => ?_
    rcases Bool.eq_false_or_eq_true (inB x.carrier 0 7) with hb4 | hb4
    ·rw [hb4] at Z
     try simp only [qz] at hb4
     refine wly Z (ac (v := po w0.hz 5) rfl kr) fun a Z => wly Z (ld Y 0 rfl rfl (isAgg3 _) rfl) fun a Z => aF Z Y de rfl de rfl call81 rfl (cB x.serial 0 1000000 _) ?_
     clear Z Y
     intro a w6 Z Y
     refine wlv Z (au rfl rfl) fun a Z => wlm Z rfl fun a Z => ?_
     rcases Bool.eq_false_or_eq_true (inB x.serial 0 1000000) with hb5 | hb5
     ·rw [hb5] at Z
      try simp only [qz] at hb5
      refine wly Z (ac (v := po w0.hz 6) rfl kr) fun a Z => wly Z (bJ (ds := [iv x.sf, iv x.st]) (Y.g 0 rfl) rfl (isAgg39 _) (sizeOf39 _) rfl) fun a Z => aF Z Y de rfl de rfl call98 rfl (ig x.sf x.st _) ?_
      clear Z Y
      intro a w7 Z Y
      refine wlv Z (au rfl rfl) fun a Z => wla Z rfl fun a Z => ab (hK3 _ _ ?_)
      replace Z := Z.p1 2 rfl
      replace Y : St No w0 [] w7 := Y.mask [false]
      refine ap ?_
      refine aj Z results79 (ae rfl ag) ?_
      exact ⟨by simp only [retv]; unfold Wsh.ok; simp [hb1, hb2, hb3, hb4, hb5], Y.ext⟩
     rw [hb5] at Z
     try simp only [qz] at hb5
     refine wln Z fun a Z => wln Z fun a Z => wln Z fun a Z => wlv Z (aq rfl rfl) fun a Z => wla Z rfl fun a Z => ab (hK3 _ _ ?_)
     replace Z := Z.p1 2 rfl
     replace Y : St No w0 [] w6 := Y.mask [false]
     refine ap ?_
     refine aj Z results79 (ae rfl ag) ?_
     exact ⟨by simp only [retv]; unfold Wsh.ok; simp [hb1, hb2, hb3, hb4, hb5], Y.ext⟩
    rw [hb4] at Z
    try simp only [qz] at hb4
    refine wln Z fun a Z => wln Z fun a Z => wln Z fun a Z => wlv Z (aq rfl rfl) fun a Z => wlm Z rfl fun a Z => wln Z fun a Z => wln Z fun a Z => wln Z fun a Z => wlv Z (aq rfl rfl) fun a Z => wla Z rfl fun a Z => ab (hK3 _ _ ?_)
    replace Z := Z.p1 2 rfl
    replace Y : St No w0 [] w5 := Y.mask [false]
    refine ap ?_
    refine aj Z results79 (ae rfl ag) ?_
    exact ⟨by simp only [retv]; unfold Wsh.ok; simp [hb1, hb2, hb3, hb4], Y.ext⟩
   rw [hb3] at Z
   try simp only [qz] at hb3
   refine wln Z fun a Z => wln Z fun a Z => wln Z fun a Z => wlv Z (aq rfl rfl) fun a Z => wlm Z rfl fun a Z => wln Z fun a Z => wln Z fun a Z => wln Z fun a Z => wlv Z (aq rfl rfl) fun a Z => wlm Z rfl fun a Z => wln Z fun a Z => wln Z fun a Z => ?_
   refine wln Z fun a Z => wlv Z (aq rfl rfl) fun a Z => wla Z rfl fun a Z => ab (hK3 _ _ ?_)
   replace Z := Z.p1 2 rfl
   replace Y : St No w0 [] w4 := Y.mask [false]
   refine ap ?_
   refine aj Z results79 (ae rfl ag) ?_
   exact ⟨by simp only [retv]; unfold Wsh.ok; simp [hb1, hb2, hb3], Y.ext⟩
  rw [hb2] at Z
  try simp only [qz] at hb2
  refine wln Z fun a Z => wln Z fun a Z => wln Z fun a Z => wlv Z (aq rfl rfl) fun a Z => wlm Z rfl fun a Z => wln Z fun a Z => wln Z fun a Z => wln Z fun a Z => wlv Z (aq rfl rfl) fun a Z => wlm Z rfl fun a Z => wln Z fun a Z => wln Z fun a Z => ?_
  refine wln Z fun a Z => wlv Z (aq rfl rfl) fun a Z => wlm Z rfl fun a Z => wln Z fun a Z => wln Z fun a Z => wln Z fun a Z => wlv Z (aq rfl rfl) fun a Z => wla Z rfl fun a Z => ab (hK3 _ _ ?_)
  replace Z := Z.p1 2 rfl
  replace Y : St No w0 [] w3 := Y.mask [false]
  refine ap ?_
  refine aj Z results79 (ae rfl ag) ?_
  exact ⟨by simp only [retv]; unfold Wsh.ok; simp [hb1, hb2], Y.ext⟩
 rw [hb1] at Z
 try simp only [qz] at hb1
 refine wln Z fun a Z => wln Z fun a Z => wln Z fun a Z => wlv Z (aq rfl rfl) fun a Z => wla Z rfl fun a Z => ab (hK2 _ _ ?_)
 replace Z := Z.p3 1 2 3 rfl
 refine aa fun K4 hK4 => wlm Z rfl fun a Z => wlm Z rfl fun a Z => wln Z fun a Z => wln Z fun a Z => wln Z fun a Z => wlv Z (aq rfl rfl) fun a Z => wlm Z rfl fun a Z => wln Z fun a Z => wln Z fun a Z => wln Z fun a Z => wlv Z (aq rfl rfl) fun a Z => wlm Z rfl fun a Z => ?_
 refine wln Z fun a Z => wln Z fun a Z => wln Z fun a Z => wlv Z (aq rfl rfl) fun a Z => wlm Z rfl fun a Z => wln Z fun a Z => wln Z fun a Z => wln Z fun a Z => wlv Z (aq rfl rfl) fun a Z => wla Z rfl fun a Z => ab (hK4 _ _ ?_)
 replace Z := Z.p1 2 rfl
 replace Y : St No w0 [] w2 := Y.mask [false]
 refine ap ?_
 refine aj Z results79 (ae rfl ag) ?_
 exact ⟨by simp only [retv]; unfold Wsh.ok; simp [hb1], Y.ext⟩
theorem mh (x : Pxy) (w0 : World) :
  Ret Tryz.prog 101 #[.agg #[iv x.frm, iv x.to, iv x.rf, iv x.rt, iv x.sf, iv x.st, sv x.sig]] w0 fun v w => v = .bool x.ok ∧ Ext No w0 w := by
 refine aD func101 rfl ntmps101 (lb rfl) fun a Z => ?_
 replace Z := Z.p1 0 rfl
 replace Y : St No w0 [] w0 := St.init w0
 refine aa fun K1 hK1 => aG Z Y de rfl (cs := [iv x.frm, iv x.to, iv x.rf, iv x.rt, iv x.sf, iv x.st, sv x.sig]) rfl ?_
 clear Z Y
 intro a w1 Z Y
 refine wla Z rfl fun a Z => ab (hK1 _ _ <| aa fun K2 hK2 => ?_)
 refine wlv Z (ac (v := pt w0.hz) rfl kr) fun a Z => wlv Z (ld Y 0 rfl rfl (isAgg3 _) rfl) fun a Z => aA Z Y de call81 rfl (cB x.frm 0 63 _) ?_
 clear Z Y
 intro a w2 Z Y
 refine wlm Z rfl fun a Z => ?_
 rcases Bool.eq_false_or_eq_true (inB x.frm 0 63) with hb1 | hb1
 ·rw [hb1] at Z
  try simp only [qz] at hb1
  refine wly Z (ac (v := po w0.hz 1) rfl kr) fun a Z => wly Z (ld Y 0 rfl rfl (isAgg3 _) rfl) fun a Z => aF Z Y de rfl de rfl call81 rfl (cB x.to 0 63 _) ?_
  clear Z Y
  intro a w3 Z Y
  refine wlv Z (au rfl rfl) fun a Z => wlm Z rfl fun a Z => ?_
  rcases Bool.eq_false_or_eq_true (inB x.to 0 63) with hb2 | hb2
  ·rw [hb2] at Z
   try simp only [qz] at hb2
   refine wly Z (ac (v := pt w0.hz) rfl kr) fun a Z => wly Z (ld Y 0 rfl rfl (isAgg3 _) rfl) fun a Z => wly Z (ac (v := po w0.hz 1) rfl kr) fun a Z => wly Z (ld Y 0 rfl rfl (isAgg3 _) rfl) fun a Z => wly Z (v_ne rfl rfl) fun a Z => wlv Z (au rfl rfl) fun a Z => wla Z rfl fun a Z => ab (hK2 _ _ ?_)
   replace Z := Z.p3 1 2 3 rfl
   refine aa fun K3 hK3 => wlm Z rfl fun a Z => wlm Z rfl fun a Z => ?_
   rcases Bool.eq_false_or_eq_true (!decide (x.frm = x.to)) with hb3 | hb3
   ·rw [hb3] at Z
    try simp only [qz] at hb3
    refine wly Z (ac (v := po w0.hz 2) rfl kr) fun a Z => wly Z (bJ (ds := [iv x.rf, iv x.rt]) (Y.g 0 rfl) rfl (isAgg38 _) (sizeOf38 _) rfl) fun a Z => aF Z Y de rfl de rfl call97 rfl (iS x.rf x.rt _) ?_
    clear Z Y
    intro a w4 Z Y
    refine wlv Z (au rfl rfl) fun a Z => wlm Z rfl fun a Z => ?_
    rcases Bool.eq_false_or_eq_true (cj x.rf x.rt) with hb4 | hb4
    ·rw [hb4] at Z
     try simp only [qz] at hb4
     refine wly Z (ac (v := po w0.hz 4) rfl kr) fun a Z => wly Z (bJ (ds := [iv x.sf, iv x.st]) (Y.g 0 rfl) rfl (isAgg39 _) (sizeOf39 _) rfl) fun a Z => aF Z Y de rfl de rfl call98 rfl (ig x.sf x.st _) ?_
     clear Z Y
     intro a w5 Z Y
     refine wlv Z (au rfl rfl) fun a Z => wla Z rfl fun a Z => ab (hK3 _ _ ?_)
     replace Z := Z.p1 2 rfl
     replace Y : St No w0 [] w5 := Y.mask [false]
     refine ap ?_
     refine aj Z results101 (ae rfl ag) ?_
     exact ⟨by simp only [retv]; unfold Pxy.ok; simp [hb1, hb2, hb3, hb4], Y.ext⟩
    rw [hb4] at Z
    try simp only [qz] at hb4
    refine wln Z fun a Z => wln Z fun a Z => wln Z fun a Z => wlv Z (aq rfl rfl) fun a Z => wla Z rfl fun a Z => ab (hK3 _ _ ?_)
    replace Z := Z.p1 2 rfl
    replace Y : St No w0 [] w4 := Y.mask [false]
    refine ap ?_
    refine aj Z results101 (ae rfl ag) ?_
    exact ⟨by simp only [retv]; unfold Pxy.ok; simp [hb1, hb2, hb3, hb4], Y.ext⟩
   rw [hb3] at Z
   try simp only [qz] at hb3
   refine wln Z fun a Z => wln Z fun a Z => wln Z fun a Z => wlv Z (aq rfl rfl) fun a Z => wlm Z rfl fun a Z => wln Z fun a Z => wln Z fun a Z => wln Z fun a Z => wlv Z (aq rfl rfl) fun a Z => wla Z rfl fun a Z => ab (hK3 _ _ ?_)
   replace Z := Z.p1 2 rfl
   replace Y : St No w0 [] w3 := Y.mask [false]
   refine ap ?_
   refine aj Z results101 (ae rfl ag) ?_
   exact ⟨by simp only [retv]; unfold Pxy.ok; simp [hb1, hb2, hb3], Y.ext⟩
  rw [hb2] at Z
  try simp only [qz] at hb2
  refine wln Z fun a Z => wln Z fun a Z => wln Z fun a Z => wln Z fun a Z => wln Z fun a Z => wlv Z (aq rfl rfl) fun a Z => wla Z rfl fun a Z => ab (hK2 _ _ ?_)
  replace Z := Z.p3 1 2 3 rfl
  refine aa fun K4 hK4 => wlm Z rfl fun a Z => wlm Z rfl fun a Z => wln Z fun a Z => wln Z fun a Z => wln Z fun a Z => wlv Z (aq rfl rfl) fun a Z => wlm Z rfl fun a Z => wln Z fun a Z => wln Z fun a Z => wln Z fun a Z => wlv Z (aq rfl rfl) fun a Z => wla Z rfl fun a Z => ?_
  refine ab (hK4 _ _ ?_)
  replace Z := Z.p1 2 rfl
  replace Y : St No w0 [] w3 := Y.mask [false]
  refine ap ?_
  refine aj Z results101 (ae rfl ag) ?_
  exact ⟨by simp only [retv]; unfold Pxy.ok; simp [hb1, hb2], Y.ext⟩
 rw [hb1] at Z
 try simp only [qz] at hb1
 refine wln Z fun a Z => wln Z fun a Z => wln Z fun a Z => wlv Z (aq rfl rfl) fun a Z => wlm Z rfl fun a Z => wln Z fun a Z => wln Z fun a Z => wln Z fun a Z => wln Z fun a Z => wln Z fun a Z => wlv Z (aq rfl rfl) fun a Z => wla Z rfl fun a Z => ?_
 refine ab (hK2 _ _ ?_)
 replace Z := Z.p3 1 2 3 rfl
 refine aa fun K5 hK5 => wlm Z rfl fun a Z => wlm Z rfl fun a Z => wln Z fun a Z => wln Z fun a Z => wln Z fun a Z => wlv Z (aq rfl rfl) fun a Z => wlm Z rfl fun a Z => wln Z fun a Z => wln Z fun a Z => wln Z fun a Z => wlv Z (aq rfl rfl) fun a Z => wla Z rfl fun a Z => ?_
 refine ab (hK5 _ _ ?_)
 replace Z := Z.p1 2 rfl
 replace Y : St No w0 [] w2 := Y.mask [false]
 refine ap ?_
 refine aj Z results101 (ae rfl ag) ?_
 exact ⟨by simp only [retv]; unfold Pxy.ok; simp [hb1], Y.ext⟩
theorem qv {M : Nat → Prop} {w0 : World} (b bx : Nat) (v : Value) (x : Pxy) (ws : World) (hx : smalls x.nums) (Y : St M w0 [bld 167 b (.pointer none) v ([] : By), blk bx [iv x.frm, iv x.to, iv x.rf, iv x.rt, iv x.sf, iv x.st, sv x.sig] 86] ws) :
  Ret Tryz.prog 85 #[pt b, pt bx] ws fun u w => u = .tuple #[] ∧ ∃ v2, St M w0 [bld 167 b (pt b) v2 x.content, blk bx [iv x.frm, iv x.to, iv x.rf, iv x.rt, iv x.sf, iv x.st, sv x.sig] 86] w := by
 refine aD func85 rfl ntmps85 (lb rfl) fun a Z => ?_
 replace Z := Z.p2 0 1 rfl
 skip
 refine ar <| wlm Z rfl fun a Z => wlv Z (ai (Y.g 1 rfl) rfl (isAgg86 _) (sizeOf86 _)) fun a Z => eg (R := fun u e' => u = .tuple #[] ∧ ∃ v2, e' = bld 167 b (pt b) v2 (([] : By) ++ x.content)) 0 Z Y rfl de call86 rfl (fun h => (nO 167 b _ _ _ x _ kr (.inl rfl) hx sm h).mono fun u w ⟨h1, v2, h2⟩ => ⟨_, ⟨h1, v2, rfl⟩, h2⟩) ?_
 clear Z Y
 rintro a w1 _ _ ⟨rfl, v1, rfl⟩ Z Y
 replace Y : St M w0 [_, _] w1 := Y
 refine ab ?_
 refine dk Z results85 ag ?_
 exact ⟨rfl, _, Y.select [0, 1] de⟩
theorem qF {M : Nat → Prop} {w0 : World} (b bx : Nat) (v : Value) (x : Wsh) (ws : World) (hx : smalls x.nums) (Y : St M w0 [bld 167 b (.pointer none) v ([] : By), blk bx [iv x.signer, iv x.holder, iv x.rf, iv x.rt, iv x.carrier, iv x.serial, iv x.sf, iv x.st, sv x.sig] 41] ws) :
  Ret Tryz.prog 87 #[pt b, pt bx] ws fun u w => u = .tuple #[] ∧ ∃ v2, St M w0 [bld 167 b (pt b) v2 x.content, blk bx [iv x.signer, iv x.holder, iv x.rf, iv x.rt, iv x.carrier, iv x.serial, iv x.sf, iv x.st, sv x.sig] 41] w := by
 refine aD func87 rfl ntmps87 (lb rfl) fun a Z => ?_
 replace Z := Z.p2 0 1 rfl
 skip
 refine ar <| wlm Z rfl fun a Z => wlv Z (ai (Y.g 1 rfl) rfl (isAgg41 _) (sizeOf41 _)) fun a Z => eg (R := fun u e' => u = .tuple #[] ∧ ∃ v2, e' = bld 167 b (pt b) v2 (([] : By) ++ x.content)) 0 Z Y rfl de call88 rfl (fun h => (o0 167 b _ _ _ x _ kr (.inl rfl) hx sm h).mono fun u w ⟨h1, v2, h2⟩ => ⟨_, ⟨h1, v2, rfl⟩, h2⟩) ?_
 clear Z Y
 rintro a w1 _ _ ⟨rfl, v1, rfl⟩ Z Y
 replace Y : St M w0 [_, _] w1 := Y
 refine ab ?_
 refine dk Z results87 ag ?_
 exact ⟨rfl, _, Y.select [0, 1] de⟩
theorem mX {n : Int} {l : List Int} : puts (n :: l) ≠ [] := fun h => by
 have := (eP n).1
 simp only [puts, List.flatMap_cons, List.append_eq_nil_iff] at h
 rw [h.1] at this; simp at this
theorem nD {M : Nat → Prop} {wb : World} {H : List Ent} {sv : Value} {els : List (List Value)} {caps : List Value} {g : FuncId} (p : Nat → Bool) (ev_ : Nat → Value) (J : Nat → Ent → Prop) (e0 : Ent) (w0 : World)
  (hen : ∀ args w, (callFunc g args).run Tryz.prog w = .ok (.enter g args) w) (hs : ∀ e w, St M wb (e :: H) w → SlAt w sv 7 els)
  (hev : ∀ k (h : k < els.length), .agg (els[k]).toArray = ev_ k) (hJ0 : J 0 e0) (Y : St M wb (e0 :: H) w0)
  (hcl : ∀ k e w, k < els.length → J k e → e.ok w → (∀ b, e.foot b → b < w.hz) → Ret Tryz.prog g ([ev_ k] ++ caps).toArray w fun v w' => v = .bool (p k) ∧ ∃ e', Ext e.foot w w' ∧ e'.ok w' ∧ (∀ b, e'.foot b → b < w'.heap.size ∧ (e.foot b ∨ w.hz ≤ b)) ∧ J (k + 1) e') :
  Ret Tryz.prog 99 #[sv, .func (.func g) #[] caps.toArray] w0 fun v w => v = iv (fstIdx p els.length) ∧ ∃ k e', J k e' ∧ St M wb (e' :: H) w := by
 have hsl := (hs _ _ Y).le
 refine aD func99 rfl ntmps99 (lb rfl) fun a Z => ?_
 replace Z := Z.p2 0 1 rfl
 refine aa fun K1 hK1 => wla Z rfl fun a Z => ab (hK1 _ _ <| ah fun K2 hK2 => ?_)
 refine aa fun K3 hK3 => wlm Z rfl fun a Z => wlv Z (aL (sT := 49) (hs _ _ Y) rfl rfl (runUnderlying49 _)) fun a Z => wlm Z rfl fun a Z => ab (hK3 _ _ <| ay ?_)
 refine bj (fun m a w => ∃ (k : Nat) (e : Ent), m = els.length - k ∧ (k ≤ els.length) ∧ (∀ j, j < k → p j = false) ∧ (J k e) ∧ Fr 19 [(0, sv), (1, .func (.func g) #[] caps.toArray), (6, sv), (7, iv els.length), (8, iv (k : Int))] [] a ∧ St M wb (e :: H) w) _ ⟨0, e0, rfl, Nat.zero_le _, (by intro j hj; omega), hJ0, Z.pick [0, 1, 6, 7, 8], Y⟩ ?_
 rintro _ a w1 ⟨k, e, rfl, hk, hp, hJ, Z, Y⟩
 refine aa fun K4 hK4 => wlv Z (v_lt rfl rfl) fun a Z => ab (hK4 _ _ <| ah fun K5 hK5 => ?_)
 refine ax Z rfl (fun hc1 => ?_) (fun hc1 => ?_)
 ·rw [hc1] at Z
  try simp only [qz] at hc1
  refine az <| hK5 _ _ <| ah fun K6 hK6 => ay <| aa fun K7 hK7 => wlm Z rfl fun a Z => wla Z rfl fun a Z => ab (hK7 _ _ <| aa fun K8 hK8 => ?_)
  refine wlm Z rfl fun a Z => wlm Z rfl fun a Z => wlm Z rfl fun a Z => wlv Z ((ao (i := (k : Int)) (sT := 49) (hs _ _ Y) rfl rfl (runUnderlying49 _) (sizeOf86 _) om om).as (v' := slAddr sv (k * 7)) rfl) fun a Z => wlv Z ((bN (hs _ _ Y) (i := k) om rfl (isAgg86 _) (sizeOf86 _)).as (v' := ev_ k) (hev k om)) fun a Z => wl_r (dQ (cap := caps) rfl hen rfl (hcl k _ _ om hJ (Y.g 0 rfl) (fun b hb => Y.lt (k := 0) rfl hb))) rfl rfl Z fun a v w2 hR Z => ?_
  obtain ⟨rfl, e1, hx, hok, hft, hJ1⟩ := hR
  have Y := Y.exchange (k := 0) rfl hx hok hft
  have Y : St M wb (e1 :: H) w2 := Y
  refine ab (hK8 _ _ ?_)
  refine ax Z rfl (fun hc2 => ?_) (fun hc2 => ?_)
  ·rw [hc2] at Z
   try simp only [qz] at hc2
   refine aa fun K9 hK9 => wlm Z rfl fun a Z => wla Z rfl fun a Z => ab (hK9 _ _ <| ap ?_)
   refine aj Z results99 (ae rfl ag) ?_
   exact ⟨by rw [dW (k := k) om hp (by assumption)]; rfl, _, _, hJ1, Y⟩
  rw [hc2] at Z
  try simp only [qz] at hc2
  refine az <| hK6 _ _ <| ar <| wlv Z (aS rfl rfl ⟨om, om⟩) fun a Z => wlm Z rfl fun a Z => ab ?_
  refine ⟨_, ?_, k + 1, e1, rfl, om, (by intro j hj; by_cases h : j = k; (subst h; assumption); exact hp j om), hJ1, Z.pick [0, 1, 6, 7, 8], Y⟩
  omega
 rw [hc1] at Z
 try simp only [qz] at hc1
 refine aX <| hK2 _ _ <| aa fun K10 hK10 => wla Z rfl fun a Z => ab (hK10 _ _ <| ap ?_)
 refine aj Z results99 (ae rfl ag) ?_
 have hkl : k = els.length := by omega
 subst hkl
 exact ⟨by rw [dT hp]; rfl, _, _, hJ, Y⟩
theorem ni {sv : Value} {xs : List Pxy} {g : FuncId} (p : Pxy → Bool) (w0 : World) (hen : ∀ args w, (callFunc g args).run Tryz.prog w = .ok (.enter g args) w) (hs : SlAt w0 sv 7 (xs.map Pxy.cells))
  (hcl : ∀ (x : Pxy) (w : World), Ret Tryz.prog g #[.agg x.cells.toArray] w fun v w' => v = .bool (p x) ∧ Ext No w w') :
  Ret Tryz.prog 99 #[sv, .func (.func g) #[] #[]] w0 fun v w => v = iv (fstIdx (fun k => p (xs.getD k Pxy.z)) xs.length) ∧ Ext No w0 w := by
 have Y : St No w0 [join []] w0 := St.join [] [] (St.init w0)
 have h := nD (M := No) (wb := w0) (H := []) (sv := sv) (els := xs.map Pxy.cells) (caps := []) (g := g) (fun k => p (xs.getD k Pxy.z)) (fun k => .agg (xs.getD k Pxy.z).cells.toArray) (fun _ e => e = join []) (join []) w0 hen
  (fun e w h => h.arg hs) (fun k h => by rw [bU Pxy.z]) rfl Y (fun k e w hk he hok hlt => by
   subst he
   refine (hcl _ w).mono fun v w' ⟨h1, h2⟩ => ⟨h1, join [], h2.mono (fun k _ hk => hk.elim), ?_, ?_, rfl⟩
   ·exact ⟨fun e he => (by cases he), List.Pairwise.nil⟩
   ·rintro b ⟨e, he, _⟩
    cases he)
 refine h.mono fun v w ⟨h1, k, e, he, Y⟩ => ⟨by rw [h1, List.length_map], Y.ext⟩
theorem oi (x : Pxy) (w0 : World) :
  Ret Tryz.prog 100 #[.agg #[iv x.frm, iv x.to, iv x.rf, iv x.rt, iv x.sf, iv x.st, sv x.sig]] w0 fun v w => v = .bool (!x.ok) ∧ Ext No w0 w := by
 refine aD func100 rfl ntmps100 (lb rfl) fun a Z => ?_
 replace Z := Z.p1 0 rfl
 have Y : St No w0 [] w0 := St.init w0
 refine aa fun K1 hK1 => aG Z Y de rfl (cs := [iv x.frm, iv x.to, iv x.rf, iv x.rt, iv x.sf, iv x.st, sv x.sig]) rfl fun a w1 Z Y => wla Z rfl fun a Z => ab (hK1 _ _ <| aa fun K2 hK2 => ?_)
 refine wlv Z (ai (Y.g 0 rfl) rfl (isAgg86 _) (sizeOf86 _)) fun a Z => aA Z Y de call101 rfl (mh x _) fun a w2 Z Y => wlv Z (bu rfl) fun a Z => wla Z rfl fun a Z => ab (hK2 _ _ <| ap ?_)
 refine aj Z results100 (ae rfl ag) ?_
 exact ⟨by rfl, Y.ext⟩
def badN (xs : List Pxy) : Int := fstIdx (fun k => !(xs.getD k Pxy.z).ok) xs.length
theorem nG (v : Value) (xs : List Pxy) (w0 : World) (hv : SlAt w0 v 7 (xs.map Pxy.cells)) : Ret Tryz.prog 99 #[v, .func (.func 100) #[] #[]] w0 fun v w => v = iv (badN xs) ∧ Ext No w0 w :=
 ni (fun x => !x.ok) w0 call100 hv (fun x w => oi x w)
theorem lw (lv : Value) (xs : List Pxy) (w0 : World) (hlv : SlAt w0 lv 7 (xs.map Pxy.cells)) :
  Ret Tryz.prog 80 #[lv] w0 fun v w => v = iv (badN xs) ∧ Ext No w0 w := by
 refine aD func80 rfl ntmps80 (lb rfl) fun a Z => ?_
 replace Z := Z.p1 0 rfl
 have Y : St No w0 [] w0 := St.init w0
 refine aa fun K1 hK1 => wla Z rfl fun a Z => ab (hK1 _ _ <| aa fun K2 hK2 => ?_)
 refine wlm Z rfl fun a Z => aA Z Y de call99 rfl (nG lv xs _ (Y.arg hlv)) fun a w1 Z Y => wla Z rfl fun a Z => ab (hK2 _ _ <| ap ?_)
 refine aj Z results80 (ae rfl ag) ?_
 exact ⟨by rfl, Y.ext⟩
theorem cd (rf rt sf st : Int) (x : Pxy) (w0 : World) :
  Ret Tryz.prog 103 #[.agg #[iv rf, iv rt], .agg #[iv sf, iv st], .agg #[iv x.frm, iv x.to, iv x.rf, iv x.rt, iv x.sf, iv x.st, sv x.sig]] w0 fun v w => v = .bool (isInH rf rt sf st x) ∧ Ext No w0 w := by
 refine aD func103 rfl ntmps103 (lb rfl) fun a Z => ?_
 replace Z := Z.p3 0 1 2 rfl
 replace Y : St No w0 [] w0 := St.init w0
 refine aa fun K1 hK1 => aG Z Y de rfl (cs := [iv rf, iv rt]) rfl ?_
 clear Z Y
 intro a w1 Z Y
 refine aG Z Y de rfl (cs := [iv sf, iv st]) rfl ?_
 clear Z Y
 intro a w2 Z Y
 refine aG Z Y de rfl (cs := [iv x.frm, iv x.to, iv x.rf, iv x.rt, iv x.sf, iv x.st, sv x.sig]) rfl ?_
 clear Z Y
 intro a w3 Z Y
 refine wla Z rfl fun a Z => ab (hK1 _ _ <| aa fun K2 hK2 => ?_)
 refine wlv Z (ac (v := po w2.hz 2) rfl kr) fun a Z => wlv Z (ac (v := po w2.hz 2) rfl kr) fun a Z => wlv Z (ld Y 0 rfl rfl (isAgg3 _) rfl) fun a Z => wlv Z (ac (v := pt w0.hz) rfl kr) fun a Z => wlv Z (ld Y 2 rfl rfl (isAgg3 _) rfl) fun a Z => wlv Z (v_le rfl rfl) fun a Z => wlm Z rfl fun a Z => ?_
 refine bO (N := 37) (df := []) 7 [(20, .bool ((decide (x.rf ≤ rf)) && (decide (rt ≤ x.rt)))), (0, .agg #[iv rf, iv rt]), (1, .agg #[iv sf, iv st]), (2, .agg #[iv x.frm, iv x.to, iv x.rf, iv x.rt, iv x.sf, iv x.st, sv x.sig]), (3, pt w0.hz), (4, pt w1.hz), (5, pt w2.hz), (6, .bool false)] ?_ (fun hj => ?_)
 rotate_left
 ·rcases Bool.eq_false_or_eq_true (decide (x.rf ≤ rf)) with hb1 | hb1
  ·rw [hb1] at Z
   have hb1b := hb1
   try simp only [qz, Bool.and_eq_true, Bool.or_eq_true, Bool.and_eq_false_iff, Bool.or_eq_false_iff] at hb1
   refine wly Z (ac (v := po w0.hz 1) rfl kr) fun a Z => wly Z (ld Y 2 rfl rfl (isAgg3 _) rfl) fun a Z => wly Z (ac (v := po w2.hz 2) rfl kr) fun a Z => wly Z (ac (v := po w2.hz 3) rfl kr) fun a Z => wly Z (ld Y 0 rfl rfl (isAgg3 _) rfl) fun a Z => wly Z (v_le rfl rfl) fun a Z => wlv Z (au rfl rfl) fun a Z => ?_
   refine hj _ ?_
   try rw [hb1b]
   exact Z.pick [20, 0, 1, 2, 3, 4, 5, 6]
  rw [hb1] at Z
  have hb1b := hb1
  try simp only [qz, Bool.and_eq_true, Bool.or_eq_true, Bool.and_eq_false_iff, Bool.or_eq_false_iff] at hb1
  refine wln Z fun a Z => wln Z fun a Z => wln Z fun a Z => wln Z fun a Z => wln Z fun a Z => wln Z fun a Z => wlv Z (aq rfl rfl) fun a Z => ?_
  refine hj _ ?_
  try rw [hb1b]
  exact Z.pick [20, 0, 1, 2, 3, 4, 5, 6]
 intro a Z
 refine wlm Z rfl fun a Z => ?_
 refine bO (N := 37) (df := []) 7 [(28, .bool (((decide (x.rf ≤ rf)) && (decide (rt ≤ x.rt))) && (decide (x.sf ≤ sf)))), (0, .agg #[iv rf, iv rt]), (1, .agg #[iv sf, iv st]), (2, .agg #[iv x.frm, iv x.to, iv x.rf, iv x.rt, iv x.sf, iv x.st, sv x.sig]), (3, pt w0.hz), (4, pt w1.hz), (5, pt w2.hz), (6, .bool false)] ?_ (fun hj => ?_)
 rotate_left
 ·rcases Bool.eq_false_or_eq_true ((decide (x.rf ≤ rf)) && (decide (rt ≤ x.rt))) with hb2 | hb2
  ·rw [hb2] at Z
   have hb2b := hb2
   try simp only [qz, Bool.and_eq_true, Bool.or_eq_true, Bool.and_eq_false_iff, Bool.or_eq_false_iff] at hb2
   refine wly Z (ac (v := po w2.hz 4) rfl kr) fun a Z => wly Z (ac (v := po w2.hz 4) rfl kr) fun a Z => wly Z (ld Y 0 rfl rfl (isAgg3 _) rfl) fun a Z => wly Z (ac (v := pt w1.hz) rfl kr) fun a Z => wly Z (ld Y 1 rfl rfl (isAgg3 _) rfl) fun a Z => wly Z (v_le rfl rfl) fun a Z => wlv Z (au rfl rfl) fun a Z => ?_
   refine hj _ ?_
   try rw [hb2b]
   exact Z.pick [28, 0, 1, 2, 3, 4, 5, 6]
  rw [hb2] at Z
  have hb2b := hb2
  try simp only [qz, Bool.and_eq_true, Bool.or_eq_true, Bool.and_eq_false_iff, Bool.or_eq_false_iff] at hb2
  refine wln Z fun a Z => wln Z fun a Z => wln Z fun a Z => wln Z fun a Z => wln Z fun a Z => wln Z fun a Z => wlv Z (aq rfl rfl) fun a Z => ?_
  refine hj _ ?_
  try rw [hb2b]
  exact Z.pick [28, 0, 1, 2, 3, 4, 5, 6]
 intro a Z
 refine wlm Z rfl fun a Z => ?_
 refine bO (N := 37) (df := []) 7 [(36, .bool ((((decide (x.rf ≤ rf)) && (decide (rt ≤ x.rt))) && (decide (x.sf ≤ sf))) && (decide (st ≤ x.st)))), (0, .agg #[iv rf, iv rt]), (1, .agg #[iv sf, iv st]), (2, .agg #[iv x.frm, iv x.to, iv x.rf, iv x.rt, iv x.sf, iv x.st, sv x.sig]), (3, pt w0.hz), (4, pt w1.hz), (5, pt w2.hz), (6, .bool false)] ?_ (fun hj => ?_)
 rotate_left
 ·rcases Bool.eq_false_or_eq_true (((decide (x.rf ≤ rf)) && (decide (rt ≤ x.rt))) && (decide (x.sf ≤ sf))) with hb3 | hb3
  ·rw [hb3] at Z
   have hb3b := hb3
   try simp only [qz, Bool.and_eq_true, Bool.or_eq_true, Bool.and_eq_false_iff, Bool.or_eq_false_iff] at hb3
   refine wly Z (ac (v := po w1.hz 1) rfl kr) fun a Z => wly Z (ld Y 1 rfl rfl (isAgg3 _) rfl) fun a Z => wly Z (ac (v := po w2.hz 4) rfl kr) fun a Z => wly Z (ac (v := po w2.hz 5) rfl kr) fun a Z => wly Z (ld Y 0 rfl rfl (isAgg3 _) rfl) fun a Z => wly Z (v_le rfl rfl) fun a Z => wlv Z (au rfl rfl) fun a Z => ?_
   refine hj _ ?_
   try rw [hb3b]
   exact Z.pick [36, 0, 1, 2, 3, 4, 5, 6]
  rw [hb3] at Z
  have hb3b := hb3
  try simp only [qz, Bool.and_eq_true, Bool.or_eq_true, Bool.and_eq_false_iff, Bool.or_eq_false_iff] at hb3
  refine wln Z fun a Z => wln Z fun a Z => wln Z fun a Z => wln Z fun a Z => wln Z fun a Z => wln Z fun a Z => wlv Z (aq rfl rfl) fun a Z => ?_
  refine hj _ ?_
  try rw [hb3b]
  exact Z.pick [36, 0, 1, 2, 3, 4, 5, 6]
 intro a Z
 refine wla Z rfl fun a Z => ab (hK2 _ _ ?_)
 replace Z := Z.p1 6 rfl
 replace Y : St No w0 [] w3 := Y.mask [false, false, false]
 refine ap ?_
 refine aj Z results103 (ae rfl ag) ?_
 exact ⟨by rfl, Y.ext⟩
def prevP (xs : List Pxy) (k : Nat) : Option Pxy := if k = 0 then none else some (xs.getD (k - 1) Pxy.z)
theorem cx {α : Type} {xs : List α} {k : Nat} (d : α) (h : k < xs.length) : xs.drop k = xs.getD k d :: xs.drop (k + 1) := by
 rw [List.drop_eq_getElem_cons h, List.getD_eq_getElem?_getD, List.getElem?_eq_getElem h]; rfl
def scopeV (x : Wsh) (xs : List Pxy) : Int × Bool := match bd x none xs 0 with | some n => (n, true) | none => (-1, false)
theorem ib {x : Wsh} {xs : List Pxy} (h : bd x none xs 0 = none) : scopeV x xs = (-1, false) := by unfold scopeV; rw [h]
theorem iO {x : Wsh} {xs : List Pxy} {n : Int} (h : bd x none xs 0 = some n) : scopeV x xs = (n, true) := by unfold scopeV; rw [h]
theorem fE {x : Wsh} {xs : List Pxy} {k : Nat} (hk : k < xs.length) (h : k = 0 ∨ isInH (xs.getD k Pxy.z).rf (xs.getD k Pxy.z).rt (xs.getD k Pxy.z).sf (xs.getD k Pxy.z).st (xs.getD (k - 1) Pxy.z) = true) :
  bd x (prevP xs k) (xs.drop k) k = bd x (prevP xs (k + 1)) (xs.drop (k + 1)) (k + 1) := by
 rw [cx Pxy.z hk]
 by_cases h0 : k = 0
 ·subst h0; rfl
 ·unfold prevP
  rw [if_neg h0, if_neg om, bd, if_pos (h.resolve_left h0)]; rfl
theorem jJ {x : Wsh} {xs : List Pxy} {k : Nat} (hk : k < xs.length) (h0 : 0 < k) (h : isInH (xs.getD k Pxy.z).rf (xs.getD k Pxy.z).rt (xs.getD k Pxy.z).sf (xs.getD k Pxy.z).st (xs.getD (k - 1) Pxy.z) = false) :
  bd x (prevP xs k) (xs.drop k) k = some (k : Int) := by
 rw [cx Pxy.z hk]
 unfold prevP
 rw [if_neg om, bd, if_neg (by rw [h]; simp)]
theorem jo {x : Wsh} {xs : List Pxy} : bd x (prevP xs xs.length) (xs.drop xs.length) xs.length = if xs.length = 0 ∨ isInH x.rf x.rt x.sf x.st (xs.getD (xs.length - 1) Pxy.z) = true then none else some (-1) := by
 rw [List.drop_length]
 unfold prevP
 by_cases h0 : xs.length = 0
 ·rw [if_pos h0, if_pos (.inl h0)]; rfl
 ·rw [if_neg h0, bd]; simp [h0]
theorem mA {x : Wsh} {xs : List Pxy} (h : xs.length = 0) (hs : bd x none xs 0 = if xs.length = 0 ∨ isInH x.rf x.rt x.sf x.st (xs.getD (xs.length - 1) Pxy.z) = true then none else some (-1)) : scopeV x xs = (-1, false) := by
 rw [if_pos (.inl h)] at hs; exact ib hs
theorem mf {x : Wsh} {xs : List Pxy} (h : 0 < xs.length) (hs : bd x none xs 0 = if xs.length = 0 ∨ isInH x.rf x.rt x.sf x.st (xs.getD (xs.length - 1) Pxy.z) = true then none else some (-1)) : scopeV x xs = (-1, !isInH x.rf x.rt x.sf x.st (xs.getD (xs.length - 1) Pxy.z)) := by
 cases hc : isInH x.rf x.rt x.sf x.st (xs.getD (xs.length - 1) Pxy.z) with
 | true => rw [if_pos (.inr hc)] at hs; exact ib hs
 | false => rw [if_neg (fun hh => by rcases hh with hh | hh; omega; rw [hc] at hh; cases hh)] at hs; exact iO hs
theorem oA (x : Wsh) (lv : Value) (xs : List Pxy) (w0 : World) (hlv : SlAt w0 lv 7 (xs.map Pxy.cells)) :
  Ret Tryz.prog 83 #[.agg #[iv x.signer, iv x.holder, iv x.rf, iv x.rt, iv x.carrier, iv x.serial, iv x.sf, iv x.st, sv x.sig], lv] w0 fun v w => v = .tuple #[iv (scopeV x xs).1, .bool (scopeV x xs).2] ∧ Ext No w0 w := by
 have hxb := hlv.2.1
 simp only [List.length_map, big] at hxb
 refine aD func83 rfl ntmps83 (lb rfl) fun a Z => ?_
 replace Z := Z.p2 0 1 rfl
 replace Y : St No w0 [] w0 := St.init w0
 refine aa fun K1 hK1 => aG Z Y de rfl (cs := [iv x.signer, iv x.holder, iv x.rf, iv x.rt, iv x.carrier, iv x.serial, iv x.sf, iv x.st, sv x.sig]) rfl ?_
 clear Z Y
 intro a w1 Z Y
 refine wla Z rfl fun a Z => wla Z rfl fun a Z => ab (hK1 _ _ <| ah fun K2 hK2 => ?_)
 refine aa fun K3 hK3 => wlm Z rfl fun a Z => wlv Z ((aL (sT := 49) (Y.arg hlv) rfl rfl (runUnderlying49 _)).asi (m' := (xs.length : Int)) (by rw [List.length_map])) fun a Z => wlm Z rfl fun a Z => ab (hK3 _ _ <| ay ?_)
 refine bj (fun m a w => ∃ (k : Nat), m = xs.length - k ∧ (k ≤ xs.length) ∧ (bd x none xs 0 = bd x (prevP xs k) (xs.drop k) k) ∧ Fr 49 [(1, lv), (2, pt w0.hz), (8, lv), (9, iv (xs.length : Int)), (10, iv (k : Int))] [] a ∧ St No w0 [blk w0.hz [iv x.signer, iv x.holder, iv x.rf, iv x.rt, iv x.carrier, iv x.serial, iv x.sf, iv x.st, sv x.sig] 41] w) _ ⟨0, rfl, Nat.zero_le _, rfl, Z.pick [1, 2, 8, 9, 10], Y.select [0] de⟩ ?_
 rintro _ a w2 ⟨k, rfl, hk, hs, Z, Y⟩
 refine aa fun K4 hK4 => wlv Z (v_lt rfl rfl) fun a Z => ab (hK4 _ _ <| ah fun K5 hK5 => ?_)
 refine ax Z rfl (fun hc1 => ?_) (fun hc1 => ?_)
 ·rw [hc1] at Z
  try simp only [qz] at hc1
  have hkx : k < xs.length := by omega
  refine az <| hK5 _ _ <| ah fun K6 hK6 => ay <| aa fun K7 hK7 => wlm Z rfl fun a Z => wlv Z ((ao (i := (k : Int)) (sT := 49) (Y.arg hlv) rfl rfl (runUnderlying49 _) (sizeOf86 _) om (by rw [List.length_map]; omega)).as (v' := slAddr lv (k * 7)) rfl) fun a Z => wlv Z ((bN (Y.arg hlv) (i := k) (by rw [List.length_map]; omega) rfl (isAgg86 _) (sizeOf86 _)).as (v' := .agg #[iv ((xs.getD k Pxy.z).frm), iv ((xs.getD k Pxy.z).to), iv ((xs.getD k Pxy.z).rf), iv ((xs.getD k Pxy.z).rt), iv ((xs.getD k Pxy.z).sf), iv ((xs.getD k Pxy.z).st), sv ((xs.getD k Pxy.z).sig)]) (by rw [bU Pxy.z]; rfl)) fun a Z => aH Z Y de (zeroValue86 _) (cs := [iv 0, iv 0, iv 0, iv 0, iv 0, iv 0, .string (⟨#[]⟩)]) rfl ?_
  clear Z Y
  intro a w3 Z Y
  refine wla Z rfl fun a Z => am 0 Z Y rfl rfl rfl (sizeOf86 _) rfl (lb rfl) (ds := [iv ((xs.getD k Pxy.z).frm), iv ((xs.getD k Pxy.z).to), iv ((xs.getD k Pxy.z).rf), iv ((xs.getD k Pxy.z).rt), iv ((xs.getD k Pxy.z).sf), iv ((xs.getD k Pxy.z).st), sv ((xs.getD k Pxy.z).sig)]) rfl rfl ?_
  clear Z Y
  intro a w4 Z Y
  refine ab (hK7 _ _ <| ah fun K8 hK8 => ?_)
  refine aK kr (aU kr fun w5 hxz => ?_)
  replace Y := Y.grow hxz
  refine aP (k := 0) 3 [2] kr kr kr ?_
  refine wlm Z rfl fun a Z => wlv Z (v_gt rfl rfl) fun a Z => wlm Z rfl fun a Z => ab ?_
  rcases Bool.eq_false_or_eq_true (decide (0 < (k : Int))) with hb2 | hb2
  ·rw [hb2] at Z
   try simp only [qz] at hb2
   refine aV (k := 3) 12 [4, 6, 11] Z kr kr kr rfx ?_
   replace Z := Z.p14 1 2 8 9 10 11 12 13 14 7 6 15 16 17 rfl
   refine aR [] (fun i => match i with | _ => fun _ _ => False) 9 [[], [0], [], [2], [], [], [5], [4, 6], [7]] [po w2.hz 2, .agg #[iv ((xs.getD k Pxy.z).rf), iv ((xs.getD k Pxy.z).rt)], po w2.hz 4, .agg #[iv ((xs.getD k Pxy.z).sf), iv ((xs.getD k Pxy.z).st)], lv, iv (k : Int), iv ((k : Int) - 1), slAddr lv ((k - 1) * 7), .agg #[iv ((xs.getD (k - 1) Pxy.z).frm), iv ((xs.getD (k - 1) Pxy.z).to), iv ((xs.getD (k - 1) Pxy.z).rf), iv ((xs.getD (k - 1) Pxy.z).rt), iv ((xs.getD (k - 1) Pxy.z).sf), iv ((xs.getD (k - 1) Pxy.z).st), sv ((xs.getD (k - 1) Pxy.z).sig)]] Z Y kr kr kr ?_ ?_ ?_
   ·intro i hi hiq
    match i, hi, hiq with
    | 0, _, _ => exact fun w Y => OpV.g (ac (v := po w2.hz 2) rfl kr)
    | 1, _, _ => exact fun w Y => OpV.g (bJ (ds := [iv ((xs.getD k Pxy.z).rf), iv ((xs.getD k Pxy.z).rt)]) (Y.g 0 rfl) rfl (isAgg38 _) (sizeOf38 _) rfl)
    | 2, _, _ => exact fun w Y => OpV.g (ac (v := po w2.hz 4) rfl kr)
    | 3, _, _ => exact fun w Y => OpV.g (bJ (ds := [iv ((xs.getD k Pxy.z).sf), iv ((xs.getD k Pxy.z).st)]) (Y.g 0 rfl) rfl (isAgg39 _) (sizeOf39 _) rfl)
    | 4, _, _ => exact fun w Y => OpV.g (ak rfl)
    | 5, _, _ => exact fun w Y => OpV.g (ak rfl)
    | 6, _, _ => exact fun w Y => OpV.g (ci rfl rfl ⟨om, om⟩)
    | 7, _, _ => exact fun w Y => OpV.g ((ao (i := (k : Int) - 1) (sT := 49) (Y.arg hlv) rfl rfl (runUnderlying49 _) (sizeOf86 _) om (by rw [List.length_map]; omega)).as (v' := slAddr lv ((k - 1) * 7)) (by rw [show ((k : Int) - 1).toNat = (k - 1) from by omega]))
    | 8, _, _ => exact fun w Y => OpV.g ((bN (Y.arg hlv) (i := (k - 1)) (by rw [List.length_map]; omega) rfl (isAgg86 _) (sizeOf86 _)).as (v' := .agg #[iv ((xs.getD (k - 1) Pxy.z).frm), iv ((xs.getD (k - 1) Pxy.z).to), iv ((xs.getD (k - 1) Pxy.z).rf), iv ((xs.getD (k - 1) Pxy.z).rt), iv ((xs.getD (k - 1) Pxy.z).sf), iv ((xs.getD (k - 1) Pxy.z).st), sv ((xs.getD (k - 1) Pxy.z).sig)]) (by rw [bU Pxy.z]; rfl))
   ·intro i hi
    exact absurd hi sm
   clear Z Y
   intro  a w6 Z Y
   replace Z : Fr 49 [(18, po w2.hz 2), (19, .agg #[iv ((xs.getD k Pxy.z).rf), iv ((xs.getD k Pxy.z).rt)]), (20, po w2.hz 4), (21, .agg #[iv ((xs.getD k Pxy.z).sf), iv ((xs.getD k Pxy.z).st)]), (22, lv), (23, iv (k : Int)), (24, iv ((k : Int) - 1)), (25, slAddr lv ((k - 1) * 7)), (26, .agg #[iv ((xs.getD (k - 1) Pxy.z).frm), iv ((xs.getD (k - 1) Pxy.z).to), iv ((xs.getD (k - 1) Pxy.z).rf), iv ((xs.getD (k - 1) Pxy.z).rt), iv ((xs.getD (k - 1) Pxy.z).sf), iv ((xs.getD (k - 1) Pxy.z).st), sv ((xs.getD (k - 1) Pxy.z).sig)]), (1, _), (2, _), (8, _), (9, _), (10, _), (11, _), (12, _), (13, _), (14, _), (7, _), (6, _), (15, _), (16, _), (17, _)] [] a := Z
   refine ab <| aP (k := 12) 15 [14] kr kr kr ?_
   refine aF Z Y de rfl de rfl call103 rfl (cd ((xs.getD k Pxy.z).rf) ((xs.getD k Pxy.z).rt) ((xs.getD k Pxy.z).sf) ((xs.getD k Pxy.z).st) (xs.getD (k - 1) Pxy.z) _) ?_
   clear Z Y
   intro a w7 Z Y
   refine wly Z (bu rfl) fun a Z => wlv Z (au rfl rfl) fun a Z => ab <| bt kr ?_
   refine hK8 _ _ ?_
   replace Z := Z.p7 1 2 8 9 10 6 29 rfl
   replace Y := Y.k1 2 rfl
   refine ax Z rfl (fun hc3 => ?_) (fun hc3 => ?_)
   ·rw [hc3] at Z
    try simp only [qz] at hc3
    refine aa fun K9 hK9 => wlm Z rfl fun a Z => wla Z rfl fun a Z => wla Z rfl fun a Z => ab (hK9 _ _ <| ap ?_)
    refine aj Z results83 (ae rfl (ae rfl ag)) ?_
    exact ⟨by simp only [retv]; rw [iO (by rw [hs]; exact jJ hkx om (by simpa using hc3))]; try rfl, Y.ext⟩
   rw [hc3] at Z
   try simp only [qz] at hc3
   refine az <| hK6 _ _ <| ar <| wlv Z (aS rfl rfl ⟨om, om⟩) fun a Z => wlm Z rfl fun a Z => ab ?_
   refine ⟨_, ?_, k + 1, rfl, om, (by rw [hs]; exact fE hkx (by first | (left; omega) | (right; simpa using hc3))), Z.pick [1, 2, 8, 9, 10], Y.select [0] de⟩
   omega
  rw [hb2] at Z
  try simp only [qz] at hb2
  replace Z : Fr 49 [(1, lv), (2, pt w0.hz), (8, lv), (9, iv (xs.length : Int)), (10, iv (k : Int)), (11, .bool true), (12, iv (k : Int)), (13, slAddr lv (k * 7)), (14, .agg #[iv ((xs.getD k Pxy.z).frm), iv ((xs.getD k Pxy.z).to), iv ((xs.getD k Pxy.z).rf), iv ((xs.getD k Pxy.z).rt), iv ((xs.getD k Pxy.z).sf), iv ((xs.getD k Pxy.z).st), sv ((xs.getD k Pxy.z).sig)]), (7, pt w2.hz), (6, iv (k : Int)), (15, iv (k : Int)), (16, .bool false), (17, .bool false)] [] a := Z.pick [1, 2, 8, 9, 10, 11, 12, 13, 14, 7, 6, 15, 16, 17]
  refine eC (k := 3) 12 [4, 6, 11] Z kr kr kr rfx fun a Z => ?_
  replace Z : Fr 49 [(18, undef), (19, undef), (20, undef), (21, undef), (22, undef), (23, undef), (24, undef), (25, undef), (26, undef), (1, lv), (2, pt w0.hz), (8, lv), (9, iv (xs.length : Int)), (10, iv (k : Int)), (11, .bool true), (12, iv (k : Int)), (13, slAddr lv (k * 7)), (14, .agg #[iv ((xs.getD k Pxy.z).frm), iv ((xs.getD k Pxy.z).to), iv ((xs.getD k Pxy.z).rf), iv ((xs.getD k Pxy.z).rt), iv ((xs.getD k Pxy.z).sf), iv ((xs.getD k Pxy.z).st), sv ((xs.getD k Pxy.z).sig)]), (7, pt w2.hz), (6, iv (k : Int)), (15, iv (k : Int)), (16, .bool false), (17, .bool false)] [] a := Z
  refine aP (k := 12) 15 [14] kr kr kr ?_
  refine wln Z fun a Z => wln Z fun a Z => wlv Z (aq rfl rfl) fun a Z => ab <| bt kr ?_
  refine hK8 _ _ ?_
  replace Z := Z.p7 1 2 8 9 10 6 29 rfl
  replace Y := Y.k1 2 rfl
  refine bC Z rfl ?_
  refine az <| hK6 _ _ <| ar <| wlv Z (aS rfl rfl ⟨om, om⟩) fun a Z => wlm Z rfl fun a Z => ab ?_
  refine ⟨_, ?_, k + 1, rfl, om, (by rw [hs]; exact fE hkx (by first | (left; omega) | (right; simpa using hb2))), Z.pick [1, 2, 8, 9, 10], Y.select [0] de⟩
  omega
 rw [hc1] at Z
 try simp only [qz] at hc1
 have hke : k = xs.length := by omega
 rw [hke, jo] at hs
 refine aX <| hK2 _ _ <| ah fun K10 hK10 => aK kr (aU kr fun w8 hxz => ?_)
 replace Y := Y.grow hxz
 refine aP (k := 0) 4 [3] kr kr kr ?_
 refine wlm Z rfl fun a Z => wlv Z ((aL (sT := 49) (Y.arg hlv) rfl rfl (runUnderlying49 _)).asi (m' := (xs.length : Int)) (by rw [List.length_map])) fun a Z => wlv Z (v_gt rfl rfl) fun a Z => wlm Z rfl fun a Z => ab ?_
 rcases Bool.eq_false_or_eq_true (decide (0 < (xs.length : Int))) with hb4 | hb4
 ·rw [hb4] at Z
  try simp only [qz] at hb4
  refine aV (k := 4) 14 [5, 7, 13] Z kr kr kr rfx ?_
  replace Z := Z.p10 1 2 8 9 10 11 32 33 34 35 rfl
  refine aR [] (fun i => match i with | _ => fun _ _ => False) 10 [[], [0], [], [2], [], [], [5], [6], [4, 7], [8]] [po w0.hz 2, .agg #[iv x.rf, iv x.rt], po w0.hz 6, .agg #[iv x.sf, iv x.st], lv, lv, iv (xs.length : Int), iv ((xs.length : Int) - 1), slAddr lv ((xs.length - 1) * 7), .agg #[iv ((xs.getD (xs.length - 1) Pxy.z).frm), iv ((xs.getD (xs.length - 1) Pxy.z).to), iv ((xs.getD (xs.length - 1) Pxy.z).rf), iv ((xs.getD (xs.length - 1) Pxy.z).rt), iv ((xs.getD (xs.length - 1) Pxy.z).sf), iv ((xs.getD (xs.length - 1) Pxy.z).st), sv ((xs.getD (xs.length - 1) Pxy.z).sig)]] Z Y kr kr kr ?_ ?_ ?_
  ·intro i hi hiq
   match i, hi, hiq with
   | 0, _, _ => exact fun w Y => OpV.g (ac (v := po w0.hz 2) rfl kr)
   | 1, _, _ => exact fun w Y => OpV.g (bJ (ds := [iv x.rf, iv x.rt]) (Y.g 0 rfl) rfl (isAgg38 _) (sizeOf38 _) rfl)
   | 2, _, _ => exact fun w Y => OpV.g (ac (v := po w0.hz 6) rfl kr)
   | 3, _, _ => exact fun w Y => OpV.g (bJ (ds := [iv x.sf, iv x.st]) (Y.g 0 rfl) rfl (isAgg39 _) (sizeOf39 _) rfl)
   | 4, _, _ => exact fun w Y => OpV.g (ak rfl)
   | 5, _, _ => exact fun w Y => OpV.g (ak rfl)
   | 6, _, _ => exact fun w Y => OpV.g ((aL (sT := 49) (Y.arg hlv) rfl rfl (runUnderlying49 _)).asi (m' := (xs.length : Int)) (by rw [List.length_map]))
   | 7, _, _ => exact fun w Y => OpV.g (ci rfl rfl ⟨om, om⟩)
   | 8, _, _ => exact fun w Y => OpV.g ((ao (i := (xs.length : Int) - 1) (sT := 49) (Y.arg hlv) rfl rfl (runUnderlying49 _) (sizeOf86 _) om (by rw [List.length_map]; omega)).as (v' := slAddr lv ((xs.length - 1) * 7)) (by rw [show ((xs.length : Int) - 1).toNat = (xs.length - 1) from by omega]))
   | 9, _, _ => exact fun w Y => OpV.g ((bN (Y.arg hlv) (i := (xs.length - 1)) (by rw [List.length_map]; omega) rfl (isAgg86 _) (sizeOf86 _)).as (v' := .agg #[iv ((xs.getD (xs.length - 1) Pxy.z).frm), iv ((xs.getD (xs.length - 1) Pxy.z).to), iv ((xs.getD (xs.length - 1) Pxy.z).rf), iv ((xs.getD (xs.length - 1) Pxy.z).rt), iv ((xs.getD (xs.length - 1) Pxy.z).sf), iv ((xs.getD (xs.length - 1) Pxy.z).st), sv ((xs.getD (xs.length - 1) Pxy.z).sig)]) (by rw [bU Pxy.z]; rfl))
  ·intro i hi
   exact absurd hi sm
  clear Z Y
  intro  a w9 Z Y
  replace Z : Fr 49 [(36, po w0.hz 2), (37, .agg #[iv x.rf, iv x.rt]), (38, po w0.hz 6), (39, .agg #[iv x.sf, iv x.st]), (40, lv), (41, lv), (42, iv (xs.length : Int)), (43, iv ((xs.length : Int) - 1)), (44, slAddr lv ((xs.length - 1) * 7)), (45, .agg #[iv ((xs.getD (xs.length - 1) Pxy.z).frm), iv ((xs.getD (xs.length - 1) Pxy.z).to), iv ((xs.getD (xs.length - 1) Pxy.z).rf), iv ((xs.getD (xs.length - 1) Pxy.z).rt), iv ((xs.getD (xs.length - 1) Pxy.z).sf), iv ((xs.getD (xs.length - 1) Pxy.z).st), sv ((xs.getD (xs.length - 1) Pxy.z).sig)]), (1, _), (2, _), (8, _), (9, _), (10, _), (11, _), (32, _), (33, _), (34, _), (35, _)] [] a := Z
  refine ab <| aP (k := 14) 15 [14] kr kr kr ?_
  refine aF Z Y de rfl de rfl call103 rfl (cd x.rf x.rt x.sf x.st (xs.getD (xs.length - 1) Pxy.z) _) ?_
  clear Z Y
  intro a w10 Z Y
  refine ab <| aV (k := 15) 18 [16, 17] Z kr kr kr rfx ?_
  replace Z := Z.p21 1 2 8 9 10 11 32 33 34 35 36 37 38 39 40 41 42 43 44 45 46 rfl
  refine aR [] (fun i => match i with | _ => fun _ _ => False) 3 [[], [0], []] [.bool (!(isInH x.rf x.rt x.sf x.st (xs.getD (xs.length - 1) Pxy.z))), .bool (!(isInH x.rf x.rt x.sf x.st (xs.getD (xs.length - 1) Pxy.z))), iv (-1)] Z Y kr kr kr ?_ ?_ ?_
  ·intro i hi hiq
   match i, hi, hiq with
   | 0, _, _ => exact fun w Y => OpV.g (bu rfl)
   | 1, _, _ => exact fun w Y => OpV.g (au rfl rfl)
   | 2, _, _ => exact fun w Y => OpV.g (cH rfl)
  ·intro i hi
   exact absurd hi sm
  clear Z Y
  intro  a w11 Z Y
  replace Z : Fr 49 [(47, .bool (!(isInH x.rf x.rt x.sf x.st (xs.getD (xs.length - 1) Pxy.z)))), (48, .bool (!(isInH x.rf x.rt x.sf x.st (xs.getD (xs.length - 1) Pxy.z)))), (4, iv (-1)), (1, _), (2, _), (8, _), (9, _), (10, _), (11, _), (32, _), (33, _), (34, _), (35, _), (36, _), (37, _), (38, _), (39, _), (40, _), (41, _), (42, _), (43, _), (44, _), (45, _), (46, _)] [] a := Z
  refine ab <| aP (k := 18) 19 [18] kr kr kr ?_
  refine wla Z rfl fun a Z => ab <| bt kr ?_
  refine hK10 _ _ ?_
  replace Z := Z.p2 4 5 rfl
  replace Y : St No w0 [] w11 := Y.mask [false]
  refine ap ?_
  refine aj Z results83 (ae rfl (ae rfl ag)) ?_
  exact ⟨by simp only [retv]; rw [mf om hs]; try rfl, Y.ext⟩
 rw [hb4] at Z
 try simp only [qz] at hb4
 replace Z : Fr 49 [(1, lv), (2, pt w0.hz), (8, lv), (9, iv (xs.length : Int)), (10, iv (k : Int)), (11, .bool false), (32, lv), (33, iv (xs.length : Int)), (34, .bool false), (35, .bool false)] [] a := Z.pick [1, 2, 8, 9, 10, 11, 32, 33, 34, 35]
 refine eC (k := 4) 14 [5, 7, 13] Z kr kr kr rfx fun a Z => ?_
 replace Z : Fr 49 [(36, undef), (37, undef), (38, undef), (39, undef), (40, undef), (41, undef), (42, undef), (43, undef), (44, undef), (45, undef), (1, lv), (2, pt w0.hz), (8, lv), (9, iv (xs.length : Int)), (10, iv (k : Int)), (11, .bool false), (32, lv), (33, iv (xs.length : Int)), (34, .bool false), (35, .bool false)] [] a := Z
 refine aP (k := 14) 15 [14] kr kr kr ?_
 refine wln Z fun a Z => ab ?_
 replace Z : Fr 49 [(36, undef), (37, undef), (38, undef), (39, undef), (40, undef), (41, undef), (42, undef), (43, undef), (44, undef), (45, undef), (1, lv), (2, pt w0.hz), (8, lv), (9, iv (xs.length : Int)), (10, iv (k : Int)), (11, .bool false), (32, lv), (33, iv (xs.length : Int)), (34, .bool false), (35, .bool false), (46, undef)] [] a := Z.pick [36, 37, 38, 39, 40, 41, 42, 43, 44, 45, 1, 2, 8, 9, 10, 11, 32, 33, 34, 35, 46]
 refine qZ (k := 15) 18 [16, 17] (fun i => match i with | 15 => undef | 16 => .bool false | 17 => iv (-1) | _ => undef) Z kr kr kr rfx ?_ ?_
 ·intro i h1 h2
  have hi : i = 15 ∨ i = 16 ∨ i = 17 := by omega
  rcases hi with rfl | rfl | rfl
  ·exact ⟨fun _ => rfl, fun h => by cases h⟩
  ·exact ⟨fun h => (by cases h), fun _ => aq rfl rfl⟩
  ·exact ⟨fun h => (by cases h), fun _ => cH rfl⟩
 intro a Z
 replace Z : Fr 49 [(47, undef), (48, .bool false), (4, iv (-1)), (36, undef), (37, undef), (38, undef), (39, undef), (40, undef), (41, undef), (42, undef), (43, undef), (44, undef), (45, undef), (1, lv), (2, pt w0.hz), (8, lv), (9, iv (xs.length : Int)), (10, iv (k : Int)), (11, .bool false), (32, lv), (33, iv (xs.length : Int)), (34, .bool false), (35, .bool false), (46, undef)] [] a := Z
 refine aP (k := 18) 19 [18] kr kr kr ?_
 refine wla Z rfl fun a Z => ab <| bt kr ?_
 refine hK10 _ _ ?_
 replace Z := Z.p2 4 5 rfl
 replace Y : St No w0 [] w8 := Y.mask [false]
 refine ap ?_
 refine aj Z results83 (ae rfl (ae rfl ag)) ?_
 exact ⟨by simp only [retv]; rw [mA om hs]; try rfl, Y.ext⟩
def pers : Int → List Pxy → Nat → List (Int × Int)
 | who, [], _ => [(-1, who)]
 | who, p :: l, k => ((k : Int), who) :: pers p.to l (k + 1)
def encQ (x : Int × Int) : List Value := [iv x.1, iv x.2]
def NxQ (h : Int) (xs : List Pxy) (pre : List (Int × Int)) (x : Int × Int) : Prop := ∃ suf, pers h xs 0 = pre ++ x :: suf
theorem lN {M : Nat → Prop} {w0 : World} (h : Int) (lv : Value) (xs : List Pxy) (lp bh bl : Nat) (J Jx : List (Int × Int) → Ent → Prop) (hY : Rounds Tryz.prog M w0 lp encQ (NxQ h xs) J Jx) (e0 : Ent) (ws : World) (hsv : ∀ H w, St M w0 H w → SlAt w lv 7 (xs.map Pxy.cells)) (hJ : J [] e0) (Y : St M w0 [e0, blk bh [iv h] 3, blk bl [lv] 49] ws) :
  Ret Tryz.prog 102 #[.func (.yield lp) #[] #[], pt bh, pt bl] ws fun _ w => ∃ e1 Hi1, St M w0 (e1 :: Hi1) w ∧ ((∃ zs, (zs = pers h xs 0 ∧ Hi1 = [blk bh [iv h] 3, blk bl [lv] 49]) ∧ J zs e1) ∨ (∃ pre, Hi1 = [blk bh [iv h] 3, blk bl [lv] 49] ∧ Jx pre e1)) := by
 refine aD func102 rfl ntmps102 (lb rfl) fun a Z => ?_
 replace Z := Z.p3 0 1 2 rfl
 have hlb := (hsv _ _ Y).2.1
 rw [List.length_map] at hlb
 unfold big at hlb
 refine aa fun K1 hK1 => wlv Z (ld Y 1 rfl rfl (isAgg3 _) rfl) fun a Z => wla Z rfl fun a Z => ab (hK1 _ _ <| ah fun K2 hK2 => ?_)
 refine aa fun K3 hK3 => wlv Z (ld Y 2 rfl rfl (isAgg49 _) rfl) fun a Z => wlv Z ((aL (sT := 49) (hsv _ _ Y) rfl rfl (runUnderlying49 _)).asi (m' := (xs.length : Int)) (by rw [List.length_map])) fun a Z => wlm Z rfl fun a Z => ab (hK3 _ _ <| ay ?_)
 refine bj (fun m a w => ∃ (k : Nat) (who : Int) (e : Ent) (dn : List (Int × Int)), m = xs.length - k ∧ (k ≤ xs.length) ∧ (pers h xs 0 = dn ++ pers who (xs.drop k) k) ∧ (J dn e) ∧ Fr 26 [(0, .func (.yield lp) #[] #[]), (8, lv), (9, iv (xs.length : Int)), (4, iv who), (10, iv (k : Int))] [] a ∧ St M w0 [e, blk bh [iv h] 3, blk bl [lv] 49] w) _ ⟨0, h, e0, [], rfl, Nat.zero_le _, rfl, hJ, Z.pick [0, 8, 9, 4, 10], Y.select [0, 1, 2] de⟩ ?_
 rintro _ a w1 ⟨k, who, e, dn, rfl, hk, hp, hJ, Z, Y⟩
 refine aa fun K4 hK4 => wlv Z (v_lt rfl rfl) fun a Z => ab (hK4 _ _ <| ah fun K5 hK5 => ?_)
 refine ax Z rfl (fun hc1 => ?_) (fun hc1 => ?_)
 ·rw [hc1] at Z
  try simp only [qz] at hc1
  have hkx : k < xs.length := by omega
  refine az <| hK5 _ _ <| ah fun K6 hK6 => ay <| aa fun K7 hK7 => wlm Z rfl fun a Z => wlv Z ((ao (i := (k : Int)) (sT := 49) (hsv _ _ Y) rfl rfl (runUnderlying49 _) (sizeOf86 _) om (by rw [List.length_map]; omega)).as (v' := slAddr lv (k * 7)) rfl) fun a Z => wlv Z ((bN (hsv _ _ Y) (i := k) (by rw [List.length_map]; omega) rfl (isAgg86 _) (sizeOf86 _)).as (v' := .agg #[iv ((xs.getD k Pxy.z).frm), iv ((xs.getD k Pxy.z).to), iv ((xs.getD k Pxy.z).rf), iv ((xs.getD k Pxy.z).rt), iv ((xs.getD k Pxy.z).sf), iv ((xs.getD k Pxy.z).st), sv ((xs.getD k Pxy.z).sig)]) (by rw [bU Pxy.z]; rfl)) fun a Z => aH Z Y de (zeroValue86 _) (cs := [iv 0, iv 0, iv 0, iv 0, iv 0, iv 0, .string (⟨#[]⟩)]) rfl ?_
  clear Z Y
  intro a w2 Z Y
  refine wla Z rfl fun a Z => am 0 Z Y rfl rfl rfl (sizeOf86 _) rfl (lb rfl) (ds := [iv ((xs.getD k Pxy.z).frm), iv ((xs.getD k Pxy.z).to), iv ((xs.getD k Pxy.z).rf), iv ((xs.getD k Pxy.z).rt), iv ((xs.getD k Pxy.z).sf), iv ((xs.getD k Pxy.z).st), sv ((xs.getD k Pxy.z).sig)]) rfl rfl ?_
  clear Z Y
  intro a w3 Z Y
  refine ab (hK7 _ _ <| ah fun K8 hK8 => ?_)
  refine aa fun K9 hK9 => wlm Z rfl fun a Z => wlm Z rfl fun a Z => wlm Z rfl fun a Z => wl_r (eB rfl rfl (hY.yield (pre := dn) (x := ((k : Int), who)) ⟨_, by rw [hp, cx Pxy.z hkx]; rfl⟩ hJ (Y.only (i := 1) rfl))) rfl rfl Z ?_
  clear Z
  intro a v w4 hR Z
  obtain ⟨y2, e3, rfl, hx, hok, hft, hJt, hJf⟩ := hR
  replace Y := Y.exchange (k := 1) rfl hx hok hft
  replace Y : St M w0 [_, _, _, _] w4 := Y
  clear hx hok hft
  refine wlv Z (bu rfl) fun a Z => ab (hK9 _ _ ?_)
  replace Z := Z.p6 0 8 9 10 6 19 rfl
  refine ax Z rfl (fun hc4 => ?_) (fun hc4 => ?_)
  ·rw [hc4] at Z
   try simp only [qz] at hc4
   have hJ := hJf hc4
   refine ap ?_
   refine aj Z results102 ag ?_
   exact ⟨_, _, Y.select [1, 2, 3] de, .inr ⟨_, rfl, hJ⟩⟩
  rw [hc4] at Z
  try simp only [qz] at hc4
  have hJ := hJt hc4
  refine az <| hK8 _ _ <| ar <| wlv Z (ac (v := po w1.hz 1) rfl kr) fun a Z => wlv Z (ld Y 0 rfl rfl (isAgg3 _) rfl) fun a Z => wla Z rfl fun a Z => ab <| hK6 _ _ <| ar <| wlv Z (aS rfl rfl ⟨om, om⟩) fun a Z => wlm Z rfl fun a Z => ab ?_
  refine ⟨_, ?_, k + 1, (xs.getD k Pxy.z).to, e3, dn ++ [((k : Int), who)], rfl, om, (by rw [hp, cx Pxy.z hkx, pers, List.append_assoc]; rfl), hJ, Z.pick [0, 8, 9, 4, 10], Y.select [1, 2, 3] de⟩
  omega
 rw [hc1] at Z
 try simp only [qz] at hc1
 obtain rfl : k = xs.length := by omega
 rw [List.drop_length] at hp
 refine aX <| hK2 _ _ <| ar <| wlm Z rfl fun a Z => wlm Z rfl fun a Z => wl_r (eB rfl rfl (hY.yield (pre := dn) (x := ((-1 : Int), who)) ⟨[], hp⟩ hJ (Y.only (i := 0) rfl))) rfl rfl Z ?_
 clear Z
 intro a v w5 hR Z
 obtain ⟨y5, e6, rfl, hx, hok, hft, hJt, hJf⟩ := hR
 replace Y := Y.exchange (k := 0) rfl hx hok hft
 replace Y : St M w0 [_, _, _] w5 := Y
 clear hx hok hft
 refine ab ?_
 refine dk Z results102 ag ?_
 rcases Bool.eq_false_or_eq_true y5 with hyy | hyy
 ·exact ⟨_, _, Y.select [0, 1, 2] de, .inl ⟨_, ⟨hp.symm.symm ▸ rfl, rfl⟩, hJt hyy⟩⟩
 ·exact ⟨_, _, Y.select [0, 1, 2] de, .inr ⟨_, rfl, hJf hyy⟩⟩
theorem j8 {M : Nat → Prop} {w0 : World} (h : Int) (lv : Value) (xs : List Pxy) (bh bl : Nat) (hsv : ∀ H w, St M w0 H w → SlAt w lv 7 (xs.map Pxy.cells)) :
  Iter Tryz.prog 102 [pt bh, pt bl] encQ (NxQ h xs) (fun zs Hi1 => zs = pers h xs 0 ∧ Hi1 = [blk bh [iv h] 3, blk bl [lv] 49]) (fun pre Hi1 => Hi1 = [blk bh [iv h] 3, blk bl [lv] 49]) M w0 [blk bh [iv h] 3, blk bl [lv] 49] :=
 fun lp J Jx w e hY hJ Y => lN h lv xs lp bh bl J Jx hY e w hsv hJ Y
theorem mq (h : Int) (lv : Value) (xs : List Pxy) (w0 : World) (hlv : SlAt w0 lv 7 (xs.map Pxy.cells)) :
  Ret Tryz.prog 82 #[iv h, lv] w0 (MemR w0 (fun z : Nat × Nat => .func (.func 102) #[] #[pt z.1, pt z.2]) (fun z => [blk z.2 [lv] 49, blk z.1 [iv h] 3]) (fun _ => True)) := by
 refine aD func82 rfl ntmps82 (lb rfl) fun a Z => ?_
 replace Z := Z.p2 0 1 rfl
 replace Y : St No w0 [] w0 := St.init w0
 refine aa fun K1 hK1 => aG Z Y de rfl (cs := [iv h]) rfl ?_
 clear Z Y
 intro a w1 Z Y
 refine aG Z Y de rfl (cs := [lv]) (by rw [(Y.arg hlv).cells]) ?_
 clear Z Y
 intro a w2 Z Y
 refine wla Z rfl fun a Z => ab (hK1 _ _ <| aa fun K2 hK2 => ?_)
 refine wlv Z (cG rfl rfl) fun a Z => wla Z rfl fun a Z => ab (hK2 _ _ <| ap ?_)
 refine aj Z results82 (ae rfl ag) ?_
 exact ⟨(w0.hz, w1.hz), rfl, trivial, Y.ext, St.out (H := []) Y⟩
theorem nm {M : Nat → Prop} {wb : World} {H : List Ent} {sv : Value} {els : List (List Value)} {caps : List Value} {g : FuncId} (p : Nat → Bool) (ev_ : Nat → Value) (J : Nat → Ent → Prop) (e0 : Ent) (w0 : World)
  (hen : ∀ args w, (callFunc g args).run Tryz.prog w = .ok (.enter g args) w) (hs : ∀ e w, St M wb (e :: H) w → SlAt w sv 1 els)
  (hev : ∀ k (h : k < els.length), (els[k])[0]? = some (ev_ k)) (hJ0 : J 0 e0) (Y : St M wb (e0 :: H) w0)
  (hcl : ∀ k e w, k < els.length → J k e → e.ok w → (∀ b, e.foot b → b < w.hz) → Ret Tryz.prog g ([ev_ k] ++ caps).toArray w fun v w' => v = .bool (p k) ∧ ∃ e', Ext e.foot w w' ∧ e'.ok w' ∧ (∀ b, e'.foot b → b < w'.heap.size ∧ (e.foot b ∨ w.hz ≤ b)) ∧ J (k + 1) e') :
  Ret Tryz.prog 96 #[sv, .func (.func g) #[] caps.toArray] w0 fun v w => v = iv (fstIdx p els.length) ∧ ∃ k e', J k e' ∧ St M wb (e' :: H) w := by
 have hsl := (hs _ _ Y).le
 refine aD func96 rfl ntmps96 (lb rfl) fun a Z => ?_
 replace Z := Z.p2 0 1 rfl
 refine aa fun K1 hK1 => wla Z rfl fun a Z => ab (hK1 _ _ <| ah fun K2 hK2 => ?_)
 refine aa fun K3 hK3 => wlm Z rfl fun a Z => wlv Z (aL (sT := 59) (hs _ _ Y) rfl rfl (runUnderlying59 _)) fun a Z => wlm Z rfl fun a Z => ab (hK3 _ _ <| ay ?_)
 refine bj (fun m a w => ∃ (k : Nat) (e : Ent), m = els.length - k ∧ (k ≤ els.length) ∧ (∀ j, j < k → p j = false) ∧ (J k e) ∧ Fr 19 [(0, sv), (1, .func (.func g) #[] caps.toArray), (6, sv), (7, iv els.length), (8, iv (k : Int))] [] a ∧ St M wb (e :: H) w) _ ⟨0, e0, rfl, Nat.zero_le _, (by intro j hj; omega), hJ0, Z.pick [0, 1, 6, 7, 8], Y⟩ ?_
 rintro _ a w1 ⟨k, e, rfl, hk, hp, hJ, Z, Y⟩
 refine aa fun K4 hK4 => wlv Z (v_lt rfl rfl) fun a Z => ab (hK4 _ _ <| ah fun K5 hK5 => ?_)
 refine ax Z rfl (fun hc1 => ?_) (fun hc1 => ?_)
 ·rw [hc1] at Z
  try simp only [qz] at hc1
  refine az <| hK5 _ _ <| ah fun K6 hK6 => ay <| aa fun K7 hK7 => wlm Z rfl fun a Z => wla Z rfl fun a Z => ab (hK7 _ _ <| aa fun K8 hK8 => ?_)
  refine wlm Z rfl fun a Z => wlm Z rfl fun a Z => wlm Z rfl fun a Z => wlv Z ((ao (i := (k : Int)) (sT := 59) (hs _ _ Y) rfl rfl (runUnderlying59 _) (sizeOf9 _) om om).as (v' := slAddr sv (k * 1)) rfl) fun a Z => wlv Z ((aE (u := ev_ k) (i := k) (j := 0) (hs _ _ Y) om rfl (isAgg9 _) (hev k om))) fun a Z => wl_r (dQ (cap := caps) rfl hen rfl (hcl k _ _ om hJ (Y.g 0 rfl) (fun b hb => Y.lt (k := 0) rfl hb))) rfl rfl Z fun a v w2 hR Z => ?_
  obtain ⟨rfl, e1, hx, hok, hft, hJ1⟩ := hR
  have Y := Y.exchange (k := 0) rfl hx hok hft
  have Y : St M wb (e1 :: H) w2 := Y
  refine ab (hK8 _ _ ?_)
  refine ax Z rfl (fun hc2 => ?_) (fun hc2 => ?_)
  ·rw [hc2] at Z
   try simp only [qz] at hc2
   refine aa fun K9 hK9 => wlm Z rfl fun a Z => wla Z rfl fun a Z => ab (hK9 _ _ <| ap ?_)
   refine aj Z results96 (ae rfl ag) ?_
   exact ⟨by rw [dW (k := k) om hp (by assumption)]; rfl, _, _, hJ1, Y⟩
  rw [hc2] at Z
  try simp only [qz] at hc2
  refine az <| hK6 _ _ <| ar <| wlv Z (aS rfl rfl ⟨om, om⟩) fun a Z => wlm Z rfl fun a Z => ab ?_
  refine ⟨_, ?_, k + 1, e1, rfl, om, (by intro j hj; by_cases h : j = k; (subst h; assumption); exact hp j om), hJ1, Z.pick [0, 1, 6, 7, 8], Y⟩
  omega
 rw [hc1] at Z
 try simp only [qz] at hc1
 refine aX <| hK2 _ _ <| aa fun K10 hK10 => wla Z rfl fun a Z => ab (hK10 _ _ <| ap ?_)
 refine aj Z results96 (ae rfl ag) ?_
 have hkl : k = els.length := by omega
 subst hkl
 exact ⟨by rw [dT hp]; rfl, _, _, hJ, Y⟩
theorem kh {M : Nat → Prop} {wb : World} {H : List Ent} {sv : Value} {els : List (List Value)} {caps : List Value} {g : FuncId} (p : Nat → Bool) (ev_ : Nat → Value) (J : Nat → Ent → Prop) (e0 : Ent) (w0 : World)
  (hen : ∀ args w, (callFunc g args).run Tryz.prog w = .ok (.enter g args) w) (hs : ∀ e w, St M wb (e :: H) w → SlAt w sv 1 els)
  (hev : ∀ k (h : k < els.length), (els[k])[0]? = some (ev_ k)) (hJ0 : J 0 e0) (Y : St M wb (e0 :: H) w0)
  (hcl : ∀ k e w, k < els.length → J k e → e.ok w → (∀ b, e.foot b → b < w.hz) → Ret Tryz.prog g ([ev_ k] ++ caps).toArray w fun v w' => v = .bool (p k) ∧ ∃ e', Ext e.foot w w' ∧ e'.ok w' ∧ (∀ b, e'.foot b → b < w'.heap.size ∧ (e.foot b ∨ w.hz ≤ b)) ∧ J (k + 1) e') :
  Ret Tryz.prog 78 #[sv, .func (.func g) #[] caps.toArray] w0 fun v w => v = .bool ((List.range els.length).any p) ∧ ∃ k e', J k e' ∧ St M wb (e' :: H) w := by
 refine aD func78 rfl ntmps78 (lb rfl) fun a Z => ?_
 replace Z := Z.p2 0 1 rfl
 refine aa fun K1 hK1 => wla Z rfl fun a Z => ab (hK1 _ _ <| aa fun K2 hK2 => ?_)
 refine wlm Z rfl fun a Z => wlm Z rfl fun a Z => wl_r (dF call96 rfl (nm p ev_ J e0 _ hen hs hev hJ0 Y hcl)) rfl rfl Z fun a v w1 hR Z => ?_
 obtain ⟨rfl, kk, e1, hJ1, Y⟩ := hR
 refine wlv Z (v_ge rfl rfl) fun a Z => wla Z rfl fun a Z => ab (hK2 _ _ <| ap ?_)
 refine aj Z results78 (ae rfl ag) ?_
 exact ⟨by rw [iL]; rfl, _, _, hJ1, Y⟩
theorem pZ {u : Value} {xs : List By} {g : FuncId} (p : By → Bool) (w0 : World) (hen : ∀ args w, (callFunc g args).run Tryz.prog w = .ok (.enter g args) w) (hs : SlAt w0 u 1 (xs.map (fun s => [sv s])))
  (hcl : ∀ (x : By) (w : World), x ∈ xs → Ret Tryz.prog g #[sv x] w fun v w' => v = .bool (p x) ∧ Ext No w w') :
  Ret Tryz.prog 78 #[u, .func (.func g) #[] #[]] w0 fun v w => v = .bool (xs.any p) ∧ Ext No w0 w := by
 have Y : St No w0 [join []] w0 := St.join [] [] (St.init w0)
 have h := kh (M := No) (wb := w0) (H := []) (sv := u) (els := xs.map (fun s => [sv s])) (caps := []) (g := g) (fun k => p (xs.getD k [])) (fun k => sv (xs.getD k [])) (fun _ e => e = join []) (join []) w0 hen
  (fun e w h => h.arg hs) (fun k h => by rw [bU []]; rfl) rfl Y (fun k e w hk he hok hlt => by
   subst he
   refine (hcl _ w (cn (by simpa using hk))).mono fun v w' ⟨h1, h2⟩ => ⟨h1, join [], h2.mono (fun k _ hk => hk.elim), ?_, ?_, rfl⟩
   ·exact ⟨fun e he => (by cases he), List.Pairwise.nil⟩
   ·rintro b ⟨e, he, _⟩
    cases he)
 refine h.mono fun v w ⟨h1, k, e, he, Y⟩ => ⟨?_, Y.ext⟩
 rw [h1, List.length_map]
 congr 1
 rw [Bool.eq_iff_iff, List.any_eq_true, List.any_eq_true]
 constructor
 ·rintro ⟨k, hk, hp⟩
  exact ⟨_, cn (List.mem_range.1 hk), hp⟩
 ·rintro ⟨x, hx, hp⟩
  obtain ⟨k, hk, rfl⟩ := List.getElem_of_mem hx
  exact ⟨k, List.mem_range.2 hk, by rw [List.getD_eq_getElem?_getD, List.getElem?_eq_getElem hk]; exact hp⟩
theorem qf (s : By) (w0 : World) :
  Ret Tryz.prog 76 #[sv s] w0 fun v w => v = .bool (!decide ((s.length : Int) = 32)) ∧ Ext No w0 w := by
 refine aD func76 rfl ntmps76 (lb rfl) fun a Z => ?_
 replace Z := Z.p1 0 rfl
 replace Y : St No w0 [] w0 := St.init w0
 refine aa fun K1 hK1 => wla Z rfl fun a Z => ab (hK1 _ _ <| aa fun K2 hK2 => ?_)
 refine wlm Z rfl fun a Z => aA Z Y de call77 rfl (pj s _) ?_
 clear Z Y
 intro a w1 Z Y
 refine wlv Z (bu rfl) fun a Z => wla Z rfl fun a Z => ab (hK2 _ _ <| ap ?_)
 refine aj Z results76 (ae rfl ag) ?_
 exact ⟨by rfl, Y.ext⟩
end Go.Proofs.YtncbabejopafjaaGreatDoor
namespace Go.Proofs.YtncbabejopafjaaGreatDoor
section
variable {α : Type}
def Pxy.text (p : Pxy) : By := p.content ++ p.sig
def Wsh.text (w : Wsh) : By := w.content ++ w.sig
end
theorem cU : ∀ {l : List Pxy} {k : Nat}, badIdx l k = none → ∀ p ∈ l, p.ok = true
 | [], k, h => by simp
 | q :: l, k, h => by
  rw [badIdx] at h
  split at h
  ·rename_i hq
   intro p hp
   rcases List.mem_cons.1 hp with rfl | hp
   ·exact hq
   ·exact cU h p hp
  ·cases h
def mQ (w : Wsh) (l : List Pxy) : Bool := decide (w.sig.length = 32) && l.all fun p => decide (p.sig.length = 32)
def kf (w : Wsh) (l : List Pxy) : Option By := if hC w l && mQ w l then some (putI (l.length : Int) ++ (l.flatMap Pxy.text ++ w.text)) else none
theorem kW {w : Wsh} {l : List Pxy} {s : By} : kf w l = some s ↔ hC w l = true ∧ w.sig.length = 32 ∧ (∀ p ∈ l, p.sig.length = 32) ∧ s = putI (l.length : Int) ++ (l.flatMap Pxy.text ++ w.text) := by
 unfold kf mQ
 constructor
 ·intro h
  split at h
  ·rename_i hc
   cases h
   simpa [and_assoc] using hc
  ·cases h
 ·rintro ⟨h1, h2, h3, rfl⟩
  rw [if_pos (by simp [h1, h2]; exact h3)]
end Go.Proofs.YtncbabejopafjaaGreatDoor
namespace Go.Proofs.YtncbabejopafjaaGreatDoor
open Go.RowKit Go.PW _root_.Go.Proofs.Tryz
theorem ms {w0 w : World} {b1 b2 : Nat} {c1 c2 : List Value} {T1 T2 : TypeId} (h : Ext (fun k => k = b1 ∨ k = b2) w0 w) (h1 : (blk b1 c1 T1).ok w0) (h1' : (blk b1 c1 T1).ok w) (h2 : (blk b2 c2 T2).ok w0) (h2' : (blk b2 c2 T2).ok w) : Ext No w0 w := by
 refine ⟨h.os, h.tape, h.output, h.size, fun k hk _ => ?_⟩
 by_cases e1 : k = b1
 ·subst e1; exact Eq.trans h1' (Eq.symm h1)
 ·by_cases e2 : k = b2
  ·subst e2; exact Eq.trans h2' (Eq.symm h2)
  ·exact h.same k hk fun hh => hh.elim e1 e2
theorem kX {w0 w : World} {H : List Ent} {i b g : Nat} {cs c1 : List Value} {T T1 : TypeId} (h : St No w0 H w) (hi : H[i]? = some (blk b cs T)) (hg : (blk g c1 T1).ok w0) : b ≠ g := by
 rintro rfl
 exact ((h.ok _ (List.mem_of_getElem? hi)).2 b rfl).2 (Array.getElem?_eq_some_iff.1 hg).1
theorem ji (key content : By) (g : FuncId) (bx : Nat) (cs : List Value) (T : TypeId) (w0 : World) (hen : ∀ args w, (callFunc g args).run Tryz.prog w = .ok (.enter g args) w)
  (hc : ∀ {M : Nat → Prop} {w0 : World} (b : Nat) (v : Value) (ws : World), St M w0 [bld 167 b (.pointer none) v [], blk bx cs T] ws → Ret Tryz.prog g ([pt b] ++ [pt bx]).toArray ws fun u w => u = .tuple #[] ∧ ∃ v2, St M w0 [bld 167 b (pt b) v2 content, blk bx cs T] w)
  (hne : content ≠ []) (hkl : key.length ≤ 40000000) (hcl : content.length ≤ 40000000) (hk0 : (blk 0 (kOf.map wv) 202).ok w0) (hbx : (blk bx cs T).ok w0) (hgb : bx ≠ 0) :
  Ret Tryz.prog 84 #[sv key, .func (.func g) #[] #[pt bx]] w0 fun v w => v = sv (sealH key content) ∧ Ext No w0 w := by
 have Y : St (fun k => k = 0 ∨ k = bx) w0 [(blk 0 (kOf.map wv) 202), blk bx cs T] w0 := by
  refine ⟨Ext.refl _ _, fun e he => ?_, ?_⟩
  ·simp only [List.mem_cons, List.not_mem_nil, or_false] at he
   rcases he with rfl | rfl
   ·exact ⟨hk0, fun k hk => by cases hk; exact ⟨(Array.getElem?_eq_some_iff.1 hk0).1, fun _ => .inl rfl⟩⟩
   ·exact ⟨hbx, fun k hk => by cases hk; exact ⟨(Array.getElem?_eq_some_iff.1 hbx).1, fun _ => .inr rfl⟩⟩
  ·refine List.Pairwise.cons (fun e he k hk hk' => ?_) (List.pairwise_singleton _ _)
   simp only [List.mem_cons, List.not_mem_nil, or_false] at he
   subst he
   cases hk
   exact hgb (Eq.symm hk')
 exact (qH key content g [pt bx] (blk bx cs T) w0 hen hc hne hkl hcl Y).mono fun v w ⟨h1, h2⟩ => ⟨h1, ms h2.ext hk0 (h2.get (k := 0) rfl) hbx (h2.get (k := 1) rfl)⟩
theorem lR : ∀ {l : List Pxy} {k i : Nat}, badIdx l k = some i → k ≤ i ∧ i - k < l.length ∧ (l.getD (i - k) Pxy.z).ok = false ∧ ∀ j, j < i - k → (l.getD j Pxy.z).ok = true
 | [], k, i, h => by cases h
 | p :: l, k, i, h => by
  rw [badIdx] at h
  split at h
  ·rename_i hp
   obtain ⟨h1, h2, h3, h4⟩ := lR h
   have e : i - k = (i - (k + 1)) + 1 := by omega
   refine ⟨by omega, by simp; omega, by rw [e]; exact h3, fun j hj => ?_⟩
   cases j with
   | zero => exact hp
   | succ j => exact h4 j om
  ·rename_i hp
   cases h
   refine ⟨Nat.le_refl _, by simp, by rw [Nat.sub_self]; simpa using hp, fun j hj => by omega⟩
theorem kD (l : List Pxy) : badN l = match badIdx l 0 with | some i => (i : Int) | none => -1 := by
 cases h : badIdx l 0 with
 | none =>
  refine dT fun j hj => ?_
  rw [cU h _ (cn hj)]; rfl
 | some i =>
  obtain ⟨_, h2, h3, h4⟩ := lR h
  rw [Nat.sub_zero] at h2 h3 h4
  exact dW h2 (fun j hj => by rw [h4 j hj]; rfl) (by rw [h3]; rfl)
theorem lH {l : List Pxy} (h : badN l < 0) : badIdx l 0 = none := by
 rw [kD] at h
 cases hb : badIdx l 0 with
 | none => rfl
 | some i => rw [hb] at h; simp only at h; omega
section
variable {ks : List By} {x : Wsh} {ps : List Pxy} {number t : Int}
abbrev formB (ks : List By) (x : Wsh) (ps : List Pxy) : Prop := 64 < ks.length ∨ (ks.all fun s => decide (s.length = 32)) = false ∨ x.ok = false ∨ 4 < ps.length
theorem eZ : (ks.any fun s => !decide ((s.length : Int) = 32)) = !(ks.all fun s => decide (s.length = 32)) := by
 rw [List.all_eq_not_any_not, Bool.not_not]
 congr 1
 funext s
 congr 1
 exact decide_eq_decide.2 om
theorem m8 (h : ¬ formB ks x ps) : ∀ s ∈ ks, s.length = 32 := by
 have : (ks.all fun s => decide (s.length = 32)) = true := by
  cases hh : (ks.all fun s => decide (s.length = 32)) with
  | true => rfl
  | false => exact absurd (.inr (.inl hh)) h
 intro s hs
 exact of_decide_eq_true (List.all_eq_true.1 this s hs)
theorem dg (h : formB ks x ps) : whyH ks x ps number t = (1, -1) := by unfold whyH; rw [if_pos h]
theorem mK (h : ¬ formB ks x ps) (hb : 0 ≤ badN ps) : whyH ks x ps number t = (1, badN ps) := by
 unfold whyH; rw [if_neg h]
 rw [kD] at hb ⊢
 cases he : badIdx ps 0 with
 | none => rw [he] at hb; simp only at hb; omega
 | some i => rfl
def whyP (ks : List By) (x : Wsh) (ps : List Pxy) (number t : Int) : Prop := ¬ formB ks x ps ∧ badIdx ps 0 = none ∧ inB t x.sf (x.st - 1) = true ∧ inB number x.rf (x.rt - 1) = true
theorem eS (h : ¬ formB ks x ps) (hb : badIdx ps 0 = none) (ht : inB t x.sf (x.st - 1) = false) : whyH ks x ps number t = (2, -1) := by
 unfold whyH; rw [if_neg h, hb]; simp only; rw [if_pos ht]
theorem ga (h : ¬ formB ks x ps) (hb : badIdx ps 0 = none) (ht : inB t x.sf (x.st - 1) = true) (hn : inB number x.rf (x.rt - 1) = false) : whyH ks x ps number t = (3, -1) := by
 unfold whyH; rw [if_neg h, hb]; simp only; rw [if_neg (by rw [ht]; decide), if_pos hn]
theorem fi {i : Int} (h : whyP ks x ps number t) (hc : bD x.signer x.holder ps 0 = some i) : whyH ks x ps number t = (4, i) := by
 obtain ⟨h, hb, ht, hn⟩ := h
 unfold whyH; rw [if_neg h, hb]; simp only; rw [if_neg (by rw [ht]; decide), if_neg (by rw [hn]; decide), hc]
theorem fk {i : Int} (h : whyP ks x ps number t) (hc : bD x.signer x.holder ps 0 = none) (hs : bd x none ps 0 = some i) : whyH ks x ps number t = (5, i) := by
 obtain ⟨h, hb, ht, hn⟩ := h
 unfold whyH; rw [if_neg h, hb]; simp only; rw [if_neg (by rw [ht]; decide), if_neg (by rw [hn]; decide), hc]; simp only; rw [hs]
theorem dj {i : Int} (h : whyP ks x ps number t) (hc : bD x.signer x.holder ps 0 = none) (hs : bd x none ps 0 = none) (hl : bP ks x ps 0 = some i) : whyH ks x ps number t = (6, i) := by
 obtain ⟨h, hb, ht, hn⟩ := h
 unfold whyH; rw [if_neg h, hb]; simp only; rw [if_neg (by rw [ht]; decide), if_neg (by rw [hn]; decide), hc]; simp only; rw [hs]; simp only; rw [hl]
theorem fO (h : whyP ks x ps number t) (hc : bD x.signer x.holder ps 0 = none) (hs : bd x none ps 0 = none) (hl : bP ks x ps 0 = none) : whyH ks x ps number t = (0, -1) := by
 obtain ⟨h, hb, ht, hn⟩ := h
 unfold whyH; rw [if_neg h, hb]; simp only; rw [if_neg (by rw [ht]; decide), if_neg (by rw [hn]; decide), hc]; simp only; rw [hs]; simp only; rw [hl]
def okQ (ps : List Pxy) (sg : Int) (z : Int × Int) : Bool := if 0 ≤ z.1 then decide ((ps.getD z.1.toNat Pxy.z).frm = z.2) else decide (sg = z.2)
theorem pO {sg : Int} {z : Int × Int} (h : 0 ≤ z.1) (h2 : (ps.getD z.1.toNat Pxy.z).frm = z.2) : okQ ps sg z = true := by unfold okQ; rw [if_pos h]; exact decide_eq_true h2
theorem pP {sg : Int} {z : Int × Int} (h : ¬ 0 ≤ z.1) (h2 : sg = z.2) : okQ ps sg z = true := by unfold okQ; rw [if_neg h]; exact decide_eq_true h2
theorem qo {sg : Int} {z : Int × Int} (h : 0 ≤ z.1) (h2 : ¬ (ps.getD z.1.toNat Pxy.z).frm = z.2) : okQ ps sg z = false := by unfold okQ; rw [if_pos h]; exact decide_eq_false h2
theorem qI {sg : Int} {z : Int × Int} (h : ¬ 0 ≤ z.1) (h2 : ¬ sg = z.2) : okQ ps sg z = false := by unfold okQ; rw [if_neg h]; exact decide_eq_false h2
theorem fC {sg : Int} : ∀ (l : List Pxy) (k : Nat) (who : Int), l = ps.drop k → bD sg who l k = ((pers who l k).find? fun z => !okQ ps sg z).map (·.1)
 | [], k, who, h => by
  rw [bD, pers, List.find?_cons, List.find?_nil]
  unfold okQ
  rw [if_neg (show ¬ (0 : Int) ≤ -1 by decide)]
  by_cases hs : sg = who
  ·rw [if_pos hs, decide_eq_true hs]; rfl
  ·rw [if_neg hs, decide_eq_false hs]; rfl
 | p :: l, k, who, h => by
  have hp : ps.getD k Pxy.z = p := by rw [List.getD_eq_getElem?_getD, show ps[k]? = some p from by rw [← List.head?_drop, ← h]; rfl]; rfl
  have hl : l = ps.drop (k + 1) := by rw [← List.drop_drop, ← h, List.drop_one]; rfl
  rw [bD, pers, List.find?_cons, fC l (k + 1) p.to hl]
  unfold okQ
  rw [if_pos (Int.natCast_nonneg k), Int.toNat_natCast, hp]
  by_cases hs : p.frm = who
  ·rw [if_pos hs, decide_eq_true hs]; rfl
  ·rw [if_neg hs, decide_eq_false hs]; rfl
theorem kK {who : Int} : ∀ {l : List Pxy} {k : Nat} {who : Int} {z : Int × Int}, z ∈ pers who l k → z.1 < ((k + l.length : Nat) : Int) ∧ -1 ≤ z.1
 | [], k, who, z, h => by
  rw [pers, List.mem_singleton] at h
  subst h
  exact ⟨by simp only; omega, by simp only; omega⟩
 | p :: l, k, who, z, h => by
  rw [pers] at h
  rcases List.mem_cons.1 h with rfl | h
  ·exact ⟨by simp only [List.length_cons]; omega, by simp only; omega⟩
  ·have := kK (who := who) h
   rw [List.length_cons]
   exact ⟨by omega, this.2⟩
theorem mN {who : Int} {pre : List (Int × Int)} {z : Int × Int} (h : NxQ who ps pre z) : z.1 < (ps.length : Int) := by
 obtain ⟨suf, h⟩ := h
 have := (kK (who := who) (l := ps) (k := 0) (z := z) (by rw [h]; simp)).1
 rwa [Nat.zero_add] at this
theorem mT {sg : Int} {pre : List (Int × Int)} {z : Int × Int} (h : ∀ y ∈ pre, okQ ps sg y = true) (hz : okQ ps sg z = true) : ∀ y ∈ pre ++ [z], okQ ps sg y = true := by
 intro y hy
 rcases List.mem_append.1 hy with h1 | h1
 ·exact h y h1
 ·rw [List.mem_singleton.1 h1]; exact hz
theorem jP {sg who : Int} {pre : List (Int × Int)} {z : Int × Int} (hn : NxQ who ps pre z) (h : ∀ y ∈ pre, okQ ps sg y = true) (hz : okQ ps sg z = false) : bD sg who ps 0 = some z.1 := by
 obtain ⟨suf, e⟩ := hn
 rw [fC ps 0 who rfl, e, List.find?_append, List.find?_eq_none.2 (fun y hy => by rw [h y hy]; simp), Option.none_or, List.find?_cons, hz]
 rfl
theorem ne {sg who : Int} (h : ∀ y ∈ pers who ps 0, okQ ps sg y = true) : bD sg who ps 0 = none := by
 rw [fC ps 0 who rfl, List.find?_eq_none.2 (fun y hy => by rw [h y hy]; simp)]
 rfl
theorem Pxy.ok_frm {p : Pxy} (h : p.ok = true) : 0 ≤ p.frm ∧ p.frm ≤ 63 := by
 simp only [Pxy.ok, inB, Bool.and_eq_true, decide_eq_true_eq] at h; omega
theorem Wsh.ok_signer {x : Wsh} (h : x.ok = true) : 0 ≤ x.signer ∧ x.signer ≤ 63 := by
 simp only [Wsh.ok, inB, Bool.and_eq_true, decide_eq_true_eq] at h; omega
theorem Wsh.ok_bnd {x : Wsh} (h : x.ok = true) : 0 ≤ x.rf ∧ x.rf < x.rt ∧ x.rt ≤ 100000000 ∧ 0 ≤ x.sf ∧ x.sf < x.st ∧ x.st ≤ 10000001 := by
 simp only [Wsh.ok, cj, cL, Bool.and_eq_true, decide_eq_true_eq] at h; omega
theorem f5 {n : Int} (h0 : 0 ≤ n) (h1 : n.toNat < ks.length) : keyAt ks n = some (ks.getD n.toNat []) := by
 unfold keyAt; rw [if_neg om, List.getD_eq_getElem?_getD, List.getElem?_eq_getElem h1]; rfl
theorem jS {n : Int} (h0 : 0 ≤ n) (h1 : ks.length ≤ n.toNat) : keyAt ks n = none := by
 unfold keyAt; rw [if_neg om, List.getElem?_eq_none h1]
theorem jA {k : Nat} (hk : k < ps.length) (h0 : 0 ≤ (ps.getD k Pxy.z).frm) (h1 : (ps.getD k Pxy.z).frm.toNat < ks.length) (h2 : (ps.getD k Pxy.z).sig = sealH (ks.getD (ps.getD k Pxy.z).frm.toNat []) (ps.getD k Pxy.z).content) :
  bP ks x (ps.drop k) k = bP ks x (ps.drop (k + 1)) (k + 1) := by
 rw [cx Pxy.z hk, bP, f5 h0 h1, if_pos]
 exact decide_eq_true h2
theorem gg {k : Nat} (hk : k < ps.length) (h0 : 0 ≤ (ps.getD k Pxy.z).frm) (h1 : ks.length ≤ (ps.getD k Pxy.z).frm.toNat) : bP ks x (ps.drop k) k = some (k : Int) := by
 rw [cx Pxy.z hk, bP, jS h0 h1, if_neg]; simp
theorem fW {k : Nat} (hk : k < ps.length) (h0 : 0 ≤ (ps.getD k Pxy.z).frm) (h1 : (ps.getD k Pxy.z).frm.toNat < ks.length) (h2 : ¬ (ps.getD k Pxy.z).sig = sealH (ks.getD (ps.getD k Pxy.z).frm.toNat []) (ps.getD k Pxy.z).content) :
  bP ks x (ps.drop k) k = some (k : Int) := by
 rw [cx Pxy.z hk, bP, f5 h0 h1, if_neg]
 rw [Option.any_some, decide_eq_false h2]; simp
theorem fj {k : Nat} (h0 : 0 ≤ x.signer) (h1 : ks.length ≤ x.signer.toNat) : bP ks x [] k = some (-1) := by
 rw [bP, jS h0 h1, if_neg]; simp
theorem fg {k : Nat} (h0 : 0 ≤ x.signer) (h1 : x.signer.toNat < ks.length) (h2 : ¬ x.sig = sealH (ks.getD x.signer.toNat []) x.content) : bP ks x [] k = some (-1) := by
 rw [bP, f5 h0 h1, if_neg]
 rw [Option.any_some, decide_eq_false h2]; simp
theorem jL {k : Nat} (h0 : 0 ≤ x.signer) (h1 : x.signer.toNat < ks.length) (h2 : x.sig = sealH (ks.getD x.signer.toNat []) x.content) : bP ks x [] k = none := by
 rw [bP, f5 h0 h1, if_pos]
 exact decide_eq_true h2
end
theorem oT {x : Wsh} {ps : List Pxy} (h : (scopeV x ps).2 = false) : bd x none ps 0 = none := by
 unfold scopeV at h
 cases hs : bd x none ps 0 with
 | none => rfl
 | some n => rw [hs] at h; cases h
theorem ny {x : Wsh} {ps : List Pxy} (h : (scopeV x ps).2 = true) : bd x none ps 0 = some (scopeV x ps).1 := by
 unfold scopeV at h ⊢
 cases hs : bd x none ps 0 with
 | none => rw [hs] at h; cases h
 | some n => rfl
theorem rd (kv lv : Value) (ks : List By) (x : Wsh) (ps : List Pxy) (number t : Int) (w0 : World) (hkv : SlAt w0 kv 1 (ks.map fun s => [sv s])) (hlv : SlAt w0 lv 7 (ps.map Pxy.cells)) (hk0 : (blk 0 (kOf.map wv) 202).ok w0) :
  Ret Tryz.prog 57 #[kv, .agg #[iv x.signer, iv x.holder, iv x.rf, iv x.rt, iv x.carrier, iv x.serial, iv x.sf, iv x.st, sv x.sig], lv, iv number, iv t] w0 fun v w => v = .tuple #[iv (whyH ks x ps number t).1, iv (whyH ks x ps number t).2] ∧ Ext No w0 w := by
 have hxb := hlv.2.1
 simp only [List.length_map, big] at hxb
 have hyb := hkv.2.1
 simp only [List.length_map, big] at hyb
 refine aD func57 rfl ntmps57 (lb rfl) fun a Z => ?_
 replace Z := Z.p5 0 1 2 3 4 rfl
 replace Y : St No w0 [] w0 := St.init w0
 refine aa fun K1 hK1 => aG Z Y de rfl (cs := [iv x.signer, iv x.holder, iv x.rf, iv x.rt, iv x.carrier, iv x.serial, iv x.sf, iv x.st, sv x.sig]) rfl ?_
 clear Z Y
 intro a w1 Z Y
 refine aG Z Y de rfl (cs := [lv]) (by rw [(Y.arg hlv).cells]) ?_
 clear Z Y
 intro a w2 Z Y
 refine aH Z Y de (zeroValue3 _) (cs := [iv 0]) rfl ?_
 clear Z Y
 intro a w3 Z Y
 refine aH Z Y de (zeroValue3 _) (cs := [iv 0]) rfl ?_
 clear Z Y
 intro a w4 Z Y
 refine ab (hK1 _ _ <| aa fun K2 hK2 => ?_)
 refine wla Z rfl fun a Z => ab (hK2 _ _ <| ah fun K3 hK3 => ?_)
 refine aa fun K4 hK4 => wlm Z rfl fun a Z => wlv Z ((aL (sT := 59) (Y.arg hkv) rfl rfl (runUnderlying59 _)).asi (m' := (ks.length : Int)) (by rw [List.length_map])) fun a Z => wlv Z (v_gt rfl rfl) fun a Z => wlm Z rfl fun a Z => ?_
 rcases Bool.eq_false_or_eq_true (decide (64 < (ks.length : Int))) with hb1 | hb1
 ·rw [hb1] at Z
  try simp only [qz] at hb1
  refine wln Z fun a Z => wln Z fun a Z => wln Z fun a Z => wlv Z (au rfl rfl) fun a Z => wlm Z rfl fun a Z => wln Z fun a Z => wln Z fun a Z => wln Z fun a Z => wlv Z (au rfl rfl) fun a Z => wlm Z rfl fun a Z => wln Z fun a Z => wln Z fun a Z => ?_
  refine wln Z fun a Z => wlv Z (au rfl rfl) fun a Z => ab (hK4 _ _ ?_)
  replace Z := Z.p8 0 3 4 6 7 10 11 37 rfl
  refine aN Z rfl ?_
  refine aa fun K5 hK5 => am 1 Z Y rfl rfl rfl (sizeOf3 _) rfl (lb rfl) (ds := [iv 1]) rfl rfl ?_
  clear Z Y
  intro a w5 Z Y
  refine am 0 Z Y rfl rfl rfl (sizeOf3 _) rfl (lb rfl) (ds := [iv (-1)]) rfl rfl ?_
  clear Z Y
  intro a w6 Z Y
  refine ab (hK5 _ _ <| ap ?_)
  refine aj Z results57 (aB rfl (bV (Y.g 1 rfl) (isAgg3 _)) (aB rfl (bV (Y.g 0 rfl) (isAgg3 _)) ag)) ?_
  exact ⟨by rw [dg (by unfold formB; first | exact .inl om | exact .inr (.inr (.inr om)) | exact .inr (.inr (.inl hb1)) | exact .inr (.inl (by rw [eZ] at hb1; simpa using hb1)))]; rfl, Y.ext⟩
 rw [hb1] at Z
 try simp only [qz] at hb1
 refine wly Z (ak rfl) fun a Z => wly Z (ak rfl) fun a Z => aF Z Y de rfl de rfl call78 rfl (pZ (fun s => !decide ((s.length : Int) = 32)) _ call76 (Y.arg hkv) (fun x w _ => qf x w)) ?_
 clear Z Y
 intro a w7 Z Y
 refine wlv Z (aq rfl rfl) fun a Z => wlm Z rfl fun a Z => ?_
 rcases Bool.eq_false_or_eq_true (ks.any fun s => !decide ((s.length : Int) = 32)) with hb2 | hb2
 ·rw [hb2] at Z
  try simp only [qz] at hb2
  refine wln Z fun a Z => wln Z fun a Z => wln Z fun a Z => wlv Z (au rfl rfl) fun a Z => wlm Z rfl fun a Z => wln Z fun a Z => wln Z fun a Z => wln Z fun a Z => wlv Z (au rfl rfl) fun a Z => ab (hK4 _ _ ?_)
  replace Z := Z.p8 0 3 4 6 7 10 11 37 rfl
  refine aN Z rfl ?_
  refine aa fun K6 hK6 => am 1 Z Y rfl rfl rfl (sizeOf3 _) rfl (lb rfl) (ds := [iv 1]) rfl rfl ?_
  clear Z Y
  intro a w8 Z Y
  refine am 0 Z Y rfl rfl rfl (sizeOf3 _) rfl (lb rfl) (ds := [iv (-1)]) rfl rfl ?_
  clear Z Y
  intro a w9 Z Y
  refine ab (hK6 _ _ <| ap ?_)
  refine aj Z results57 (aB rfl (bV (Y.g 1 rfl) (isAgg3 _)) (aB rfl (bV (Y.g 0 rfl) (isAgg3 _)) ag)) ?_
  exact ⟨by rw [dg (by unfold formB; first | exact .inl om | exact .inr (.inr (.inr om)) | exact .inr (.inr (.inl hb2)) | exact .inr (.inl (by rw [eZ] at hb2; simpa using hb2)))]; rfl, Y.ext⟩
 rw [hb2] at Z
 try simp only [qz] at hb2
 refine wly Z (ai (Y.g 3 rfl) rfl (isAgg41 _) (sizeOf41 _)) fun a Z => aF Z Y de rfl de rfl call79 rfl (nH x _) ?_
 clear Z Y
 intro a w10 Z Y
 refine wly Z (bu rfl) fun a Z => wlv Z (aq rfl rfl) fun a Z => wlm Z rfl fun a Z => ?_
 rcases Bool.eq_false_or_eq_true (!x.ok) with hb3 | hb3
 ·rw [hb3] at Z
  try simp only [qz] at hb3
  refine wln Z fun a Z => wln Z fun a Z => wln Z fun a Z => wlv Z (au rfl rfl) fun a Z => ab (hK4 _ _ ?_)
  replace Z := Z.p8 0 3 4 6 7 10 11 37 rfl
  refine aN Z rfl ?_
  refine aa fun K7 hK7 => am 1 Z Y rfl rfl rfl (sizeOf3 _) rfl (lb rfl) (ds := [iv 1]) rfl rfl ?_
  clear Z Y
  intro a w11 Z Y
  refine am 0 Z Y rfl rfl rfl (sizeOf3 _) rfl (lb rfl) (ds := [iv (-1)]) rfl rfl ?_
  clear Z Y
  intro a w12 Z Y
  refine ab (hK7 _ _ <| ap ?_)
  refine aj Z results57 (aB rfl (bV (Y.g 1 rfl) (isAgg3 _)) (aB rfl (bV (Y.g 0 rfl) (isAgg3 _)) ag)) ?_
  exact ⟨by rw [dg (by unfold formB; first | exact .inl om | exact .inr (.inr (.inr om)) | exact .inr (.inr (.inl hb3)) | exact .inr (.inl (by rw [eZ] at hb3; simpa using hb3)))]; rfl, Y.ext⟩
 rw [hb3] at Z
 try simp only [qz] at hb3
 refine wly Z (ld Y 2 rfl rfl (isAgg49 _) rfl) fun a Z => wly Z ((aL (sT := 49) (Y.arg hlv) rfl rfl (runUnderlying49 _)).asi (m' := (ps.length : Int)) (by rw [List.length_map])) fun a Z => wly Z (v_gt rfl rfl) fun a Z => wlv Z (aq rfl rfl) fun a Z => ab (hK4 _ _ ?_)
 replace Z := Z.p8 0 3 4 6 7 10 11 37 rfl
 refine ax Z rfl (fun hc4 => ?_) (fun hc4 => ?_)
 ·rw [hc4] at Z
  try simp only [qz] at hc4
  refine aa fun K8 hK8 => am 1 Z Y rfl rfl rfl (sizeOf3 _) rfl (lb rfl) (ds := [iv 1]) rfl rfl ?_
  clear Z Y
  intro a w13 Z Y
  refine am 0 Z Y rfl rfl rfl (sizeOf3 _) rfl (lb rfl) (ds := [iv (-1)]) rfl rfl ?_
  clear Z Y
  intro a w14 Z Y
  refine ab (hK8 _ _ <| ap ?_)
  refine aj Z results57 (aB rfl (bV (Y.g 1 rfl) (isAgg3 _)) (aB rfl (bV (Y.g 0 rfl) (isAgg3 _)) ag)) ?_
  exact ⟨by rw [dg (by unfold formB; first | exact .inl om | exact .inr (.inr (.inr om)) | exact .inr (.inr (.inl hc4)) | exact .inr (.inl (by rw [eZ] at hc4; simpa using hc4)))]; rfl, Y.ext⟩
 rw [hc4] at Z
 try simp only [qz] at hc4
 refine az <| hK3 _ _ <| ah fun K9 hK9 => ?_
 have hxo : x.ok = true := hb3
 have hnf : ¬ formB ks x ps := by
  rintro (h | h | h | h)
  ·omega
  ·rw [eZ, h] at hb2; simp at hb2
  ·rw [hxo] at h; cases h
  ·omega
 have hk32 := m8 hnf
 have hxd := Wsh.ok_bnd hxo
 have hxg := Wsh.ok_signer hxo
 refine aa fun K10 hK10 => wlv Z (ld Y 2 rfl rfl (isAgg49 _) rfl) fun a Z => aA Z Y de call80 rfl (lw lv ps _ (Y.arg hlv)) ?_
 clear Z Y
 intro a w15 Z Y
 refine wla Z rfl fun a Z => ab (hK10 _ _ <| aa fun K11 hK11 => ?_)
 refine wlm Z rfl fun a Z => wlv Z (v_ge rfl rfl) fun a Z => ab (hK11 _ _ ?_)
 refine ax Z rfl (fun hc5 => ?_) (fun hc5 => ?_)
 ·rw [hc5] at Z
  try simp only [qz] at hc5
  refine aa fun K12 hK12 => wlm Z rfl fun a Z => am 1 Z Y rfl rfl rfl (sizeOf3 _) rfl (lb rfl) (ds := [iv 1]) rfl rfl ?_
  clear Z Y
  intro a w16 Z Y
  refine am 0 Z Y rfl rfl rfl (sizeOf3 _) rfl (lb rfl) (ds := [iv (badN ps)]) rfl rfl ?_
  clear Z Y
  intro a w17 Z Y
  refine ab (hK12 _ _ ?_)
  replace Z := Z.p7 0 3 4 6 7 10 11 rfl
  refine ap ?_
  refine aj Z results57 (aB rfl (bV (Y.g 1 rfl) (isAgg3 _)) (aB rfl (bV (Y.g 0 rfl) (isAgg3 _)) ag)) ?_
  exact ⟨by rw [mK hnf hc5]; rfl, Y.ext⟩
 rw [hc5] at Z
 try simp only [qz] at hc5
 refine az <| hK9 _ _ <| ah fun K13 hK13 => ?_
 have hbn := lH (l := ps) om
 refine aa fun K14 hK14 => wlm Z rfl fun a Z => wlv Z (ac (v := po w0.hz 6) rfl kr) fun a Z => wlv Z (ac (v := po w0.hz 6) rfl kr) fun a Z => wlv Z (ld Y 3 rfl rfl (isAgg3 _) rfl) fun a Z => wlv Z (ac (v := po w0.hz 6) rfl kr) fun a Z => wlv Z (ac (v := po w0.hz 7) rfl kr) fun a Z => wlv Z (ld Y 3 rfl rfl (isAgg3 _) rfl) fun a Z => wlv Z (ci rfl rfl ⟨om, om⟩) fun a Z => aA Z Y de call81 rfl (cB t x.sf (x.st - 1) _) ?_
 clear Z Y
 intro a w18 Z Y
 refine wlv Z (bu rfl) fun a Z => ab (hK14 _ _ ?_)
 replace Z := Z.p7 0 3 6 7 10 11 52 rfl
 refine ax Z rfl (fun hc6 => ?_) (fun hc6 => ?_)
 ·rw [hc6] at Z
  try simp only [qz] at hc6
  refine aa fun K15 hK15 => am 1 Z Y rfl rfl rfl (sizeOf3 _) rfl (lb rfl) (ds := [iv 2]) rfl rfl ?_
  clear Z Y
  intro a w19 Z Y
  refine am 0 Z Y rfl rfl rfl (sizeOf3 _) rfl (lb rfl) (ds := [iv (-1)]) rfl rfl ?_
  clear Z Y
  intro a w20 Z Y
  refine ab (hK15 _ _ <| ap ?_)
  refine aj Z results57 (aB rfl (bV (Y.g 1 rfl) (isAgg3 _)) (aB rfl (bV (Y.g 0 rfl) (isAgg3 _)) ag)) ?_
  exact ⟨by rw [eS hnf hbn hc6]; rfl, Y.ext⟩
 rw [hc6] at Z
 try simp only [qz] at hc6
 refine az <| hK13 _ _ <| ah fun K16 hK16 => aa fun K17 hK17 => wlm Z rfl fun a Z => wlv Z (ac (v := po w0.hz 2) rfl kr) fun a Z => wlv Z (ac (v := po w0.hz 2) rfl kr) fun a Z => wlv Z (ld Y 3 rfl rfl (isAgg3 _) rfl) fun a Z => wlv Z (ac (v := po w0.hz 2) rfl kr) fun a Z => wlv Z (ac (v := po w0.hz 3) rfl kr) fun a Z => ?_
 refine wlv Z (ld Y 3 rfl rfl (isAgg3 _) rfl) fun a Z => wlv Z (ci rfl rfl ⟨om, om⟩) fun a Z => aA Z Y de call81 rfl (cB number x.rf (x.rt - 1) _) ?_
 clear Z Y
 intro a w21 Z Y
 refine wlv Z (bu rfl) fun a Z => ab (hK17 _ _ ?_)
 replace Z := Z.p6 0 6 7 10 11 62 rfl
 refine ax Z rfl (fun hc7 => ?_) (fun hc7 => ?_)
 ·rw [hc7] at Z
  try simp only [qz] at hc7
  refine aa fun K18 hK18 => am 1 Z Y rfl rfl rfl (sizeOf3 _) rfl (lb rfl) (ds := [iv 3]) rfl rfl ?_
  clear Z Y
  intro a w22 Z Y
  refine am 0 Z Y rfl rfl rfl (sizeOf3 _) rfl (lb rfl) (ds := [iv (-1)]) rfl rfl ?_
  clear Z Y
  intro a w23 Z Y
  refine ab (hK18 _ _ <| ap ?_)
  refine aj Z results57 (aB rfl (bV (Y.g 1 rfl) (isAgg3 _)) (aB rfl (bV (Y.g 0 rfl) (isAgg3 _)) ag)) ?_
  exact ⟨by rw [ga hnf hbn hc6 hc7]; rfl, Y.ext⟩
 rw [hc7] at Z
 try simp only [qz] at hc7
 refine az <| hK16 _ _ <| ah fun K19 hK19 => ?_
 have hwp : whyP ks x ps number t := ⟨hnf, hbn, hc6, hc7⟩
 refine aa fun K20 hK20 => wlv Z (ac (v := po w0.hz 1) rfl kr) fun a Z => wlv Z (ld Y 3 rfl rfl (isAgg3 _) rfl) fun a Z => wlv Z (ld Y 2 rfl rfl (isAgg49 _) rfl) fun a Z => bI Z Y de call82 rfl (mq x.holder lv ps _ (Y.arg hlv)) ?_
 clear Z Y
 intro a w24 x8 hp Z Y
 obtain ⟨bh, bl⟩ := x8
 clear hp
 replace Y : St No w0 [_, _, _, _, _, _] w24 := Y
 refine ab (hK20 _ _ <| ay ?_)
 replace Y : St No w0 [blk w0.hz [iv x.signer, iv x.holder, iv x.rf, iv x.rt, iv x.carrier, iv x.serial, iv x.sf, iv x.st, sv x.sig] 41, blk w1.hz [lv] 49, blk w2.hz [iv 0] 3, blk w3.hz [iv 0] 3, blk bh [iv x.holder] 3, blk bl [lv] 49] w24 := Y.select [5, 4, 3, 2, 1, 0] de
 replace Z : Fr 142 [(0, kv), (6, pt w0.hz), (7, pt w1.hz), (10, pt w2.hz), (11, pt w3.hz), (62, .bool false), (63, po w0.hz 1), (64, iv x.holder), (65, lv), (66, .func (.func 102) #[] #[pt bh, pt bl])] [] a := Z.pick [0, 6, 7, 10, 11, 62, 63, 64, 65, 66]
 refine eo (M := No) (w0 := w0) (encs := encQ) (Hi := [blk bh [iv x.holder] 3, blk bl [lv] 49]) (Hc := [blk w0.hz [iv x.signer, iv x.holder, iv x.rf, iv x.rt, iv x.carrier, iv x.serial, iv x.sf, iv x.st, sv x.sig] 41, blk w1.hz [lv] 49, blk w2.hz [iv 0] 3, blk w3.hz [iv 0] 3]) (fun pre H => (∀ z ∈ pre, okQ ps x.signer z = true) ∧ H = [blk w0.hz [iv x.signer, iv x.holder, iv x.rf, iv x.rt, iv x.carrier, iv x.serial, iv x.sf, iv x.st, sv x.sig] 41, blk w1.hz [lv] 49, blk w2.hz [iv 0] 3, blk w3.hz [iv 0] 3]) (fun c pre H => c = .ret ∧ ∃ (i : Int), (bD x.signer x.holder ps 0 = some i) ∧ H = [blk w0.hz [iv x.signer, iv x.holder, iv x.rf, iv x.rt, iv x.carrier, iv x.serial, iv x.sf, iv x.st, sv x.sig] 41, blk w1.hz [lv] 49, blk w2.hz [iv 4] 3, blk w3.hz [iv i] 3]) (fun pre xs H a => Fr 142 [(6, pt w0.hz), (7, pt w1.hz), (10, pt w2.hz), (11, pt w3.hz), (14, iv xs.1), (15, iv xs.2)] [] a ∧ (∀ z ∈ pre, okQ ps x.signer z = true) ∧ H = [blk w0.hz [iv x.signer, iv x.holder, iv x.rf, iv x.rt, iv x.carrier, iv x.serial, iv x.sf, iv x.st, sv x.sig] 41, blk w1.hz [lv] 49, blk w2.hz [iv 0] 3, blk w3.hz [iv 0] 3]) rfl call102 Z Y (j8 x.holder lv ps bh bl (fun H w h => h.arg hlv)) de (fun _ => rfl) ⟨sm, rfl⟩ ?_ ?_ ?_ ?_
 ·clear Z Y
  rintro lp pre xs _ a w25 hnx ⟨hpq, rfl⟩ Z Y
  generalize (join [blk w0.hz [iv x.signer, iv x.holder, iv x.rf, iv x.rt, iv x.carrier, iv x.serial, iv x.sf, iv x.st, sv x.sig] 41, blk w1.hz [lv] 49, blk w2.hz [iv 0] 3, blk w3.hz [iv 0] 3]).foot = M1 at Y ⊢
  replace Z : Fr 142 [(68, iv xs.2), (67, iv xs.1), (0, kv), (6, pt w0.hz), (7, pt w1.hz), (10, pt w2.hz), (11, pt w3.hz), (62, .bool false), (63, po w0.hz 1), (64, iv x.holder), (65, lv), (66, .func (.func 102) #[] #[pt bh, pt bl])] [] a := Z
  refine aa fun K21 hK21 => wla Z rfl fun a Z => ab (hK21 _ _ ?_)
  replace Z := Z.p6 68 6 7 10 11 14 rfl
  refine ar <| wla Z rfl fun a Z => ab ?_
  exact ⟨_, ⟨Z.pick [6, 7, 10, 11, 14, 15], hpq, rfl⟩, Y⟩
 ·rintro lp pre xs _ a w26 hnx ⟨Z, hpq, rfl⟩ hout hrec hnl Y
  clear hrec hnl
  generalize (join [blk w0.hz [iv x.signer, iv x.holder, iv x.rf, iv x.rt, iv x.carrier, iv x.serial, iv x.sf, iv x.st, sv x.sig] 41, blk w1.hz [lv] 49, blk w2.hz [iv 0] 3, blk w3.hz [iv 0] 3]).foot = M1 at Y hout ⊢
  refine ay <| aa fun K22 hK22 => wlm Z rfl fun a Z => wlv Z (v_ge rfl rfl) fun a Z => wlm Z rfl fun a Z => ?_
  rcases Bool.eq_false_or_eq_true (decide (0 ≤ xs.1)) with hb9 | hb9
  ·rw [hb9] at Z
   try simp only [qz] at hb9
   have hqlt := mN hnx
   refine wly Z (ld Y 1 rfl rfl (isAgg49 _) rfl) fun a Z => wly Z (ak rfl) fun a Z => wly Z ((ao (i := xs.1) (sT := 49) (hlv.grow (hout _ Y.ext)) rfl rfl (runUnderlying49 _) (sizeOf86 _) om (by rw [List.length_map]; omega)).as (v' := slAddr lv (xs.1.toNat * 7)) (by rw [show (xs.1).toNat = xs.1.toNat from by omega])) fun a Z => wly Z (bo (k := xs.1.toNat * 7) (j := 0) (hlv.grow (hout _ Y.ext)) (i := xs.1.toNat) (by rw [List.length_map]; omega) rfl (fun _ _ => by kernel_rfl)) fun a Z => wly Z (aE (u := iv ((ps.getD xs.1.toNat Pxy.z).frm)) (i := xs.1.toNat) (j := 0) (hlv.grow (hout _ Y.ext)) (by rw [List.length_map]; omega) rfl (isAgg3 _) (by rw [bU Pxy.z]; rfl)) fun a Z => wly Z (ak rfl) fun a Z => wly Z (v_ne rfl rfl) fun a Z => wlv Z (au rfl rfl) fun a Z => wlm Z rfl fun a Z => ?_
   rcases Bool.eq_false_or_eq_true (!decide ((ps.getD xs.1.toNat Pxy.z).frm = xs.2)) with hb10 | hb10
   ·rw [hb10] at Z
    try simp only [qz] at hb10
    refine wln Z fun a Z => wln Z fun a Z => wln Z fun a Z => eM Z de rfl de rfl fun a Z => eM Z de rfl de rfl fun a Z => eM Z de rfl de rfl fun a Z => eM Z de rfl de rfl fun a Z => wln Z fun a Z => wlv Z (au rfl rfl) fun a Z => ab (hK22 _ _ ?_)
    replace Z := Z.p4 10 11 14 89 rfl
    refine aN Z rfl ?_
    refine aa fun K23 hK23 => wlm Z rfl fun a Z => am 2 Z Y rfl rfl rfl (sizeOf3 _) rfl (lb rfl) (ds := [iv 4]) rfl rfl ?_
    clear Z Y
    intro a w27 Z Y
    refine am 3 Z Y rfl rfl rfl (sizeOf3 _) rfl (lb rfl) (ds := [iv xs.1]) rfl rfl ?_
    clear Z Y
    intro a w28 Z Y
    refine ab (hK23 _ _ <| ap ?_)
    exact ⟨_, ⟨rfl, xs.1, jP hnx hpq (qo hb9 hb10), rfl⟩, Y.select [0, 1, 2, 3] de⟩
   rw [hb10] at Z
   try simp only [qz] at hb10
   refine wly Z (ak rfl) fun a Z => wly Z ((v_lt rfl rfl).asb (b' := false) (by exact decide_eq_false om)) fun a Z => wly Z (ak rfl) fun a Z => wln Z fun a Z => wln Z fun a Z => wln Z fun a Z => wln Z fun a Z => wly Z (aq rfl rfl) fun a Z => wlv Z (aq rfl rfl) fun a Z => ab (hK22 _ _ ?_)
   replace Z := Z.p4 10 11 14 89 rfl
   refine bC Z rfl ?_
   refine az ?_
   exact ⟨_, ⟨mT hpq (pO hb9 hb10), rfl⟩, Y.select [0, 1, 2, 3] de⟩
  rw [hb9] at Z
  try simp only [qz] at hb9
  have hqlt := mN hnx
  refine wln Z fun a Z => wln Z fun a Z => wln Z fun a Z => wln Z fun a Z => wln Z fun a Z => wln Z fun a Z => wln Z fun a Z => wlv Z (aq rfl rfl) fun a Z => wlm Z rfl fun a Z => wly Z (ak rfl) fun a Z => wly Z ((v_lt rfl rfl).asb (b' := true) (by exact decide_eq_true om)) fun a Z => wly Z (ak rfl) fun a Z => wly Z (ac (v := pt w0.hz) rfl kr) fun a Z => wly Z (ld Y 0 rfl rfl (isAgg3 _) rfl) fun a Z => wly Z (ak rfl) fun a Z => wly Z (v_ne rfl rfl) fun a Z => wly Z (au rfl rfl) fun a Z => wlv Z (aq rfl rfl) fun a Z => ?_
  refine ab (hK22 _ _ ?_)
  replace Z := Z.p4 10 11 14 89 rfl
  refine ax Z rfl (fun hc11 => ?_) (fun hc11 => ?_)
  ·rw [hc11] at Z
   try simp only [qz] at hc11
   refine aa fun K24 hK24 => wlm Z rfl fun a Z => am 2 Z Y rfl rfl rfl (sizeOf3 _) rfl (lb rfl) (ds := [iv 4]) rfl rfl ?_
   clear Z Y
   intro a w29 Z Y
   refine am 3 Z Y rfl rfl rfl (sizeOf3 _) rfl (lb rfl) (ds := [iv xs.1]) rfl rfl ?_
   clear Z Y
   intro a w30 Z Y
   refine ab (hK24 _ _ <| ap ?_)
   exact ⟨_, ⟨rfl, xs.1, jP hnx hpq (qI om hc11), rfl⟩, Y.select [0, 1, 2, 3] de⟩
  rw [hc11] at Z
  try simp only [qz] at hc11
  refine az ?_
  exact ⟨_, ⟨mT hpq (pP om hc11), rfl⟩, Y.select [0, 1, 2, 3] de⟩
 ·rintro D pre _ _ a w31 ⟨rfl, rfl⟩ ⟨hpq, rfl⟩ Y Z
  replace Z : Fr 142 [(0, kv), (6, pt w0.hz), (7, pt w1.hz), (10, pt w2.hz), (11, pt w3.hz), (62, .bool false), (63, po w0.hz 1), (64, iv x.holder), (65, lv), (66, .func (.func 102) #[] #[pt bh, pt bl])] [{ target := .collected D, args := #[] }] a := Z
  replace Y : St No w0 [_, _, _, _, _, _, _] w31 := Y
  refine hK19 _ _ <| ah fun K25 hK25 => ?_
  have hch := ne hpq
  refine aa fun K26 hK26 => wlv Z (ai (Y.g 1 rfl) rfl (isAgg41 _) (sizeOf41 _)) fun a Z => wlv Z (ld Y 2 rfl rfl (isAgg49 _) rfl) fun a Z => aA Z Y de call83 rfl (oA x lv ps _ (Y.arg hlv)) ?_
  clear Z Y
  intro a w32 Z Y
  refine wlm Z rfl fun a Z => wlv Z (aw rfl rfl) fun a Z => wlv Z (aw rfl rfl) fun a Z => wla Z rfl fun a Z => wla Z rfl fun a Z => ab (hK26 _ _ ?_)
  replace Z := Z.p7 0 6 7 10 11 16 17 rfl
  refine aa fun K27 hK27 => wlm Z rfl fun a Z => ab (hK27 _ _ ?_)
  refine ax Z rfl (fun hc12 => ?_) (fun hc12 => ?_)
  ·rw [hc12] at Z
   try simp only [qz] at hc12
   refine aa fun K28 hK28 => wlm Z rfl fun a Z => am 3 Z Y rfl rfl rfl (sizeOf3 _) rfl (lb rfl) (ds := [iv 5]) rfl rfl ?_
   clear Z Y
   intro a w33 Z Y
   refine am 4 Z Y rfl rfl rfl (sizeOf3 _) rfl (lb rfl) (ds := [iv ((scopeV x ps).1)]) rfl rfl ?_
   clear Z Y
   intro a w34 Z Y
   refine ab (hK28 _ _ <| ap ?_)
   have hD := Y.g 0 rfl
   replace Y := Y.unmark (i := 0) (o' := .deferred none) rfl
   replace Y : St No w0 [_, _, _, _, _, _] _ := Y
   refine cy Z hD results57 (aB rfl (bV (Y.g 2 rfl) (isAgg3 _)) (aB rfl (bV (Y.g 3 rfl) (isAgg3 _)) ag)) ?_
   exact ⟨by rw [fk hwp hch (ny hc12)]; rfl, Y.ext⟩
  rw [hc12] at Z
  try simp only [qz] at hc12
  refine az <| hK25 _ _ <| ah fun K29 hK29 => ?_
  have hsc : bd x none ps 0 = none := oT hc12
  refine aa fun K30 hK30 => wlv Z (ld Y 2 rfl rfl (isAgg49 _) rfl) fun a Z => wlv Z ((aL (sT := 49) (Y.arg hlv) rfl rfl (runUnderlying49 _)).asi (m' := (ps.length : Int)) (by rw [List.length_map])) fun a Z => wlm Z rfl fun a Z => ab (hK30 _ _ <| ay ?_)
  refine bj (fun m a w => ∃ (k : Nat), m = ps.length - k ∧ (k ≤ ps.length) ∧ (bP ks x ps 0 = bP ks x (ps.drop k) k) ∧ Fr 142 [(0, kv), (6, pt w0.hz), (10, pt w2.hz), (11, pt w3.hz), (99, lv), (100, iv (ps.length : Int)), (101, iv (k : Int))] [{ target := .collected D, args := #[] }] a ∧ St No w0 [obj D (.deferred (some [])), blk w0.hz [iv x.signer, iv x.holder, iv x.rf, iv x.rt, iv x.carrier, iv x.serial, iv x.sf, iv x.st, sv x.sig] 41, blk w1.hz [lv] 49, blk w2.hz [iv 0] 3, blk w3.hz [iv 0] 3, blk bh [iv x.holder] 3, blk bl [lv] 49] w) _ ⟨0, rfl, Nat.zero_le _, rfl, Z.pick [0, 6, 10, 11, 99, 100, 101], Y.select [0, 1, 2, 3, 4, 5, 6] de⟩ ?_
  rintro _ a w35 ⟨k, rfl, hk, hsb, Z, Y⟩
  refine aa fun K31 hK31 => wlv Z (v_lt rfl rfl) fun a Z => ab (hK31 _ _ <| ah fun K32 hK32 => ?_)
  refine ax Z rfl (fun hc13 => ?_) (fun hc13 => ?_)
  ·rw [hc13] at Z
   try simp only [qz] at hc13
   have hkx : k < ps.length := by omega
   have hpk := cU hbn _ (cn (d := Pxy.z) hkx)
   have hp0 := Pxy.ok_frm hpk
   refine az <| hK32 _ _ <| ah fun K33 hK33 => ay <| aa fun K34 hK34 => wlm Z rfl fun a Z => wlv Z ((ao (i := (k : Int)) (sT := 49) (Y.arg hlv) rfl rfl (runUnderlying49 _) (sizeOf86 _) om (by rw [List.length_map]; omega)).as (v' := slAddr lv (k * 7)) rfl) fun a Z => wlv Z ((bN (Y.arg hlv) (i := k) (by rw [List.length_map]; omega) rfl (isAgg86 _) (sizeOf86 _)).as (v' := .agg #[iv ((ps.getD k Pxy.z).frm), iv ((ps.getD k Pxy.z).to), iv ((ps.getD k Pxy.z).rf), iv ((ps.getD k Pxy.z).rt), iv ((ps.getD k Pxy.z).sf), iv ((ps.getD k Pxy.z).st), sv ((ps.getD k Pxy.z).sig)]) (by rw [bU Pxy.z]; rfl)) fun a Z => aH Z Y de (zeroValue86 _) (cs := [iv 0, iv 0, iv 0, iv 0, iv 0, iv 0, .string (⟨#[]⟩)]) rfl ?_
   clear Z Y
   intro a w36 Z Y
   refine wla Z rfl fun a Z => am 0 Z Y rfl rfl rfl (sizeOf86 _) rfl (lb rfl) (ds := [iv ((ps.getD k Pxy.z).frm), iv ((ps.getD k Pxy.z).to), iv ((ps.getD k Pxy.z).rf), iv ((ps.getD k Pxy.z).rt), iv ((ps.getD k Pxy.z).sf), iv ((ps.getD k Pxy.z).st), sv ((ps.getD k Pxy.z).sig)]) rfl rfl ?_
   clear Z Y
   intro a w37 Z Y
   refine ab (hK34 _ _ <| ah fun K35 hK35 => ?_)
   refine aK kr (aU kr fun w38 hxz => ?_)
   replace Y := Y.grow hxz
   refine aV (k := 0) 4 [1, 3] Z kr kr kr rfx ?_
   replace Z := Z.p13 0 6 10 11 99 100 101 102 103 104 105 19 18 rfl
   refine aR [] (fun i => match i with | _ => fun _ _ => False) 4 [[], [0], [], [2]] [pt w35.hz, iv ((ps.getD k Pxy.z).frm), kv, iv (ks.length : Int)] Z Y kr kr kr ?_ ?_ ?_
   ·intro i hi hiq
    match i, hi, hiq with
    | 0, _, _ => exact fun w Y => OpV.g (ac (v := pt w35.hz) rfl kr)
    | 1, _, _ => exact fun w Y => OpV.g (ld Y 0 rfl rfl (isAgg3 _) rfl)
    | 2, _, _ => exact fun w Y => OpV.g (ak rfl)
    | 3, _, _ => exact fun w Y => OpV.g ((aL (sT := 59) (Y.arg hkv) rfl rfl (runUnderlying59 _)).asi (m' := (ks.length : Int)) (by rw [List.length_map]))
   ·intro i hi
    exact absurd hi sm
   clear Z Y
   intro  a w39 Z Y
   replace Z : Fr 142 [(106, pt w35.hz), (107, iv ((ps.getD k Pxy.z).frm)), (108, kv), (109, iv (ks.length : Int)), (0, _), (6, _), (10, _), (11, _), (99, _), (100, _), (101, _), (102, _), (103, _), (104, _), (105, _), (19, _), (18, _)] [{ target := .collected D, args := #[] }] a := Z
   refine ab <| aP (k := 4) 6 [5] kr kr kr ?_
   refine wlv Z (v_ge rfl rfl) fun a Z => wlm Z rfl fun a Z => ab ?_
   rcases Bool.eq_false_or_eq_true (decide ((ks.length : Int) ≤ (ps.getD k Pxy.z).frm)) with hb14 | hb14
   ·rw [hb14] at Z
    try simp only [qz] at hb14
    replace Z : Fr 142 [(0, kv), (6, pt w0.hz), (10, pt w2.hz), (11, pt w3.hz), (99, lv), (100, iv (ps.length : Int)), (101, iv (k : Int)), (102, .bool true), (103, iv (k : Int)), (104, slAddr lv (k * 7)), (105, .agg #[iv ((ps.getD k Pxy.z).frm), iv ((ps.getD k Pxy.z).to), iv ((ps.getD k Pxy.z).rf), iv ((ps.getD k Pxy.z).rt), iv ((ps.getD k Pxy.z).sf), iv ((ps.getD k Pxy.z).st), sv ((ps.getD k Pxy.z).sig)]), (19, pt w35.hz), (18, iv (k : Int)), (106, pt w35.hz), (107, iv ((ps.getD k Pxy.z).frm)), (108, kv), (109, iv (ks.length : Int)), (110, .bool true), (111, .bool true)] [{ target := .collected D, args := #[] }] a := Z.pick [0, 6, 10, 11, 99, 100, 101, 102, 103, 104, 105, 19, 18, 106, 107, 108, 109, 110, 111]
    refine eC (k := 6) 15 [7, 14] Z kr kr kr rfx fun a Z => ?_
    replace Z : Fr 142 [(112, undef), (113, undef), (114, undef), (115, undef), (116, undef), (117, undef), (118, undef), (119, undef), (120, undef), (0, kv), (6, pt w0.hz), (10, pt w2.hz), (11, pt w3.hz), (99, lv), (100, iv (ps.length : Int)), (101, iv (k : Int)), (102, .bool true), (103, iv (k : Int)), (104, slAddr lv (k * 7)), (105, .agg #[iv ((ps.getD k Pxy.z).frm), iv ((ps.getD k Pxy.z).to), iv ((ps.getD k Pxy.z).rf), iv ((ps.getD k Pxy.z).rt), iv ((ps.getD k Pxy.z).sf), iv ((ps.getD k Pxy.z).st), sv ((ps.getD k Pxy.z).sig)]), (19, pt w35.hz), (18, iv (k : Int)), (106, pt w35.hz), (107, iv ((ps.getD k Pxy.z).frm)), (108, kv), (109, iv (ks.length : Int)), (110, .bool true), (111, .bool true)] [{ target := .collected D, args := #[] }] a := Z
    refine aP (k := 15) 17 [16] kr kr kr ?_
    refine wln Z fun a Z => wlv Z (au rfl rfl) fun a Z => ab <| bt kr ?_
    refine hK35 _ _ ?_
    replace Z := Z.p9 0 6 10 11 99 100 101 18 122 rfl
    replace Y := Y.k7 254 rfl
    refine aN Z rfl ?_
    refine aa fun K36 hK36 => wlm Z rfl fun a Z => am 3 Z Y rfl rfl rfl (sizeOf3 _) rfl (lb rfl) (ds := [iv 6]) rfl rfl ?_
    clear Z Y
    intro a w40 Z Y
    refine am 4 Z Y rfl rfl rfl (sizeOf3 _) rfl (lb rfl) (ds := [iv (k : Int)]) rfl rfl ?_
    clear Z Y
    intro a w41 Z Y
    refine ab (hK36 _ _ <| ap ?_)
    have hD := Y.g 0 rfl
    replace Y := Y.unmark (i := 0) (o' := .deferred none) rfl
    replace Y : St No w0 [_, _, _, _, _, _] _ := Y
    refine cy Z hD results57 (aB rfl (bV (Y.g 2 rfl) (isAgg3 _)) (aB rfl (bV (Y.g 3 rfl) (isAgg3 _)) ag)) ?_
    exact ⟨by rw [dj hwp hch hsc (by rw [hsb]; first | exact gg hkx hp0.1 om | exact fW hkx hp0.1 om hb14)]; rfl, Y.ext⟩
   rw [hb14] at Z
   try simp only [qz] at hb14
   refine aV (k := 6) 15 [7, 14] Z kr kr kr rfx ?_
   replace Z : Fr 142 [(0, _), (6, _), (10, _), (11, _), (99, _), (100, _), (101, _), (102, _), (103, _), (104, _), (105, _), (19, _), (18, _), (106, _), (107, _), (108, _), (109, _), (110, _), (111, _)] [{ target := .collected D, args := #[] }] a := Z.pick [0, 6, 10, 11, 99, 100, 101, 102, 103, 104, 105, 19, 18, 106, 107, 108, 109, 110, 111]
   refine aR [] (fun i => match i with | _ => fun _ _ => False) 9 [[], [0], [], [], [3], [2, 4], [5], [], [6, 7]] [po w35.hz 6, sv ((ps.getD k Pxy.z).sig), kv, pt w35.hz, iv ((ps.getD k Pxy.z).frm), slAddr kv (((ps.getD k Pxy.z).frm.toNat) * 1), sv (ks.getD ((ps.getD k Pxy.z).frm.toNat) []), .func (.func 85) #[] #[pt w35.hz], sv (sealH (ks.getD ((ps.getD k Pxy.z).frm.toNat) []) (ps.getD k Pxy.z).content)] Z Y kr kr kr ?_ ?_ ?_
   ·intro i hi hiq
    match i, hi, hiq with
    | 0, _, _ => exact fun w Y => OpV.g (ac (v := po w35.hz 6) rfl kr)
    | 1, _, _ => exact fun w Y => OpV.g (ld Y 0 rfl rfl (isAgg9 _) rfl)
    | 2, _, _ => exact fun w Y => OpV.g (ak rfl)
    | 3, _, _ => exact fun w Y => OpV.g (ac (v := pt w35.hz) rfl kr)
    | 4, _, _ => exact fun w Y => OpV.g (ld Y 0 rfl rfl (isAgg3 _) rfl)
    | 5, _, _ => exact fun w Y => OpV.g ((ao (i := (ps.getD k Pxy.z).frm) (sT := 59) (Y.arg hkv) rfl rfl (runUnderlying59 _) (sizeOf9 _) om (by rw [List.length_map]; omega)).as (v' := slAddr kv (((ps.getD k Pxy.z).frm.toNat) * 1)) (by rw [show ((ps.getD k Pxy.z).frm).toNat = (ps.getD k Pxy.z).frm.toNat from by omega]))
    | 6, _, _ => exact fun w Y => OpV.g (aE (u := sv (ks.getD ((ps.getD k Pxy.z).frm.toNat) [])) (i := ((ps.getD k Pxy.z).frm.toNat)) (j := 0) (Y.arg hkv) (by rw [List.length_map]; omega) rfl (isAgg9 _) (by rw [bU ([] : By)]; rfl))
    | 7, _, _ => exact fun w Y => OpV.g (cG rfl rfl)
    | 8, _, _ => exact fun w Y => aT call84 rfl (ji (ks.getD ((ps.getD k Pxy.z).frm.toNat) []) (ps.getD k Pxy.z).content 85 w35.hz [iv ((ps.getD k Pxy.z).frm), iv ((ps.getD k Pxy.z).to), iv ((ps.getD k Pxy.z).rf), iv ((ps.getD k Pxy.z).rt), iv ((ps.getD k Pxy.z).sf), iv ((ps.getD k Pxy.z).st), sv ((ps.getD k Pxy.z).sig)] 86 _ call85 (fun b v ws h => qv b w35.hz v (ps.getD k Pxy.z) ws (Pxy.smalls_of hpk) h) mX (by have := hk32 _ (cn (d := []) (by omega : ((ps.getD k Pxy.z).frm.toNat) < ks.length)); omega) (Nat.le_trans ((ps.getD k Pxy.z).content_len) de) (Y.keepb hk0) (Y.g 0 rfl) (kX Y (i := 0) rfl hk0))
   ·intro i hi
    exact absurd hi sm
   clear Z Y
   intro  a w42 Z Y
   replace Z : Fr 142 [(112, po w35.hz 6), (113, sv ((ps.getD k Pxy.z).sig)), (114, kv), (115, pt w35.hz), (116, iv ((ps.getD k Pxy.z).frm)), (117, slAddr kv (((ps.getD k Pxy.z).frm.toNat) * 1)), (118, sv (ks.getD ((ps.getD k Pxy.z).frm.toNat) [])), (119, .func (.func 85) #[] #[pt w35.hz]), (120, sv (sealH (ks.getD ((ps.getD k Pxy.z).frm.toNat) []) (ps.getD k Pxy.z).content)), (0, _), (6, _), (10, _), (11, _), (99, _), (100, _), (101, _), (102, _), (103, _), (104, _), (105, _), (19, _), (18, _), (106, _), (107, _), (108, _), (109, _), (110, _), (111, _)] [{ target := .collected D, args := #[] }] a := Z
   refine ab <| aP (k := 15) 17 [16] kr kr kr ?_
   refine wly Z (mP rfl rfl) fun a Z => wlv Z (aq rfl rfl) fun a Z => ab <| bt kr ?_
   refine hK35 _ _ ?_
   replace Z := Z.p9 0 6 10 11 99 100 101 18 122 rfl
   replace Y := Y.k7 254 rfl
   refine ax Z rfl (fun hc15 => ?_) (fun hc15 => ?_)
   ·rw [hc15] at Z
    try simp only [qz] at hc15
    refine aa fun K37 hK37 => wlm Z rfl fun a Z => am 3 Z Y rfl rfl rfl (sizeOf3 _) rfl (lb rfl) (ds := [iv 6]) rfl rfl ?_
    clear Z Y
    intro a w43 Z Y
    refine am 4 Z Y rfl rfl rfl (sizeOf3 _) rfl (lb rfl) (ds := [iv (k : Int)]) rfl rfl ?_
    clear Z Y
    intro a w44 Z Y
    refine ab (hK37 _ _ <| ap ?_)
    have hD := Y.g 0 rfl
    replace Y := Y.unmark (i := 0) (o' := .deferred none) rfl
    replace Y : St No w0 [_, _, _, _, _, _] _ := Y
    refine cy Z hD results57 (aB rfl (bV (Y.g 2 rfl) (isAgg3 _)) (aB rfl (bV (Y.g 3 rfl) (isAgg3 _)) ag)) ?_
    exact ⟨by rw [dj hwp hch hsc (by rw [hsb]; first | exact gg hkx hp0.1 om | exact fW hkx hp0.1 om hc15)]; rfl, Y.ext⟩
   rw [hc15] at Z
   try simp only [qz] at hc15
   refine az <| hK33 _ _ <| ar <| wlv Z (aS rfl rfl ⟨om, om⟩) fun a Z => wlm Z rfl fun a Z => ab ?_
   refine ⟨_, ?_, k + 1, rfl, om, (by rw [hsb]; exact jA hkx hp0.1 om hc15), Z.pick [0, 6, 10, 11, 99, 100, 101], Y.select [0, 1, 2, 3, 4, 5, 6] de⟩
   omega
  rw [hc13] at Z
  try simp only [qz] at hc13
  have hke : k = ps.length := by omega
  rw [hke, List.drop_length] at hsb
  refine aX <| hK29 _ _ <| ah fun K38 hK38 => ah fun K39 hK39 => aK kr (aU kr fun w45 hxz => ?_)
  replace Y := Y.grow hxz
  refine aV (k := 0) 4 [1, 3] Z kr kr kr rfx ?_
  replace Z := Z.p8 0 6 10 11 99 100 101 102 rfl
  refine aR [] (fun i => match i with | _ => fun _ _ => False) 4 [[], [0], [], [2]] [pt w0.hz, iv x.signer, kv, iv (ks.length : Int)] Z Y kr kr kr ?_ ?_ ?_
  ·intro i hi hiq
   match i, hi, hiq with
   | 0, _, _ => exact fun w Y => OpV.g (ac (v := pt w0.hz) rfl kr)
   | 1, _, _ => exact fun w Y => OpV.g (ld Y 1 rfl rfl (isAgg3 _) rfl)
   | 2, _, _ => exact fun w Y => OpV.g (ak rfl)
   | 3, _, _ => exact fun w Y => OpV.g ((aL (sT := 59) (Y.arg hkv) rfl rfl (runUnderlying59 _)).asi (m' := (ks.length : Int)) (by rw [List.length_map]))
  ·intro i hi
   exact absurd hi sm
  clear Z Y
  intro  a w46 Z Y
  replace Z : Fr 142 [(125, pt w0.hz), (126, iv x.signer), (127, kv), (128, iv (ks.length : Int)), (0, _), (6, _), (10, _), (11, _), (99, _), (100, _), (101, _), (102, _)] [{ target := .collected D, args := #[] }] a := Z
  refine ab <| aP (k := 4) 6 [5] kr kr kr ?_
  refine wlv Z (v_ge rfl rfl) fun a Z => wlm Z rfl fun a Z => ab ?_
  rcases Bool.eq_false_or_eq_true (decide ((ks.length : Int) ≤ x.signer)) with hb16 | hb16
  ·rw [hb16] at Z
   try simp only [qz] at hb16
   replace Z : Fr 142 [(0, kv), (6, pt w0.hz), (10, pt w2.hz), (11, pt w3.hz), (99, lv), (100, iv (ps.length : Int)), (101, iv (k : Int)), (102, .bool false), (125, pt w0.hz), (126, iv x.signer), (127, kv), (128, iv (ks.length : Int)), (129, .bool true), (130, .bool true)] [{ target := .collected D, args := #[] }] a := Z.pick [0, 6, 10, 11, 99, 100, 101, 102, 125, 126, 127, 128, 129, 130]
   refine eC (k := 6) 15 [7, 14] Z kr kr kr rfx fun a Z => ?_
   replace Z : Fr 142 [(131, undef), (132, undef), (133, undef), (134, undef), (135, undef), (136, undef), (137, undef), (138, undef), (139, undef), (0, kv), (6, pt w0.hz), (10, pt w2.hz), (11, pt w3.hz), (99, lv), (100, iv (ps.length : Int)), (101, iv (k : Int)), (102, .bool false), (125, pt w0.hz), (126, iv x.signer), (127, kv), (128, iv (ks.length : Int)), (129, .bool true), (130, .bool true)] [{ target := .collected D, args := #[] }] a := Z
   refine aP (k := 15) 17 [16] kr kr kr ?_
   refine wln Z fun a Z => wlv Z (au rfl rfl) fun a Z => ab <| bt kr ?_
   refine hK39 _ _ ?_
   replace Z := Z.p3 10 11 141 rfl
   refine aN Z rfl ?_
   refine aa fun K40 hK40 => am 3 Z Y rfl rfl rfl (sizeOf3 _) rfl (lb rfl) (ds := [iv 6]) rfl rfl ?_
   clear Z Y
   intro a w47 Z Y
   refine am 4 Z Y rfl rfl rfl (sizeOf3 _) rfl (lb rfl) (ds := [iv (-1)]) rfl rfl ?_
   clear Z Y
   intro a w48 Z Y
   refine ab (hK40 _ _ <| ap ?_)
   have hD := Y.g 0 rfl
   replace Y := Y.unmark (i := 0) (o' := .deferred none) rfl
   replace Y : St No w0 [_, _, _, _, _, _] _ := Y
   refine cy Z hD results57 (aB rfl (bV (Y.g 2 rfl) (isAgg3 _)) (aB rfl (bV (Y.g 3 rfl) (isAgg3 _)) ag)) ?_
   exact ⟨by rw [dj hwp hch hsc (by rw [hsb]; first | exact fj (Wsh.ok_signer hxo).1 om | exact fg (Wsh.ok_signer hxo).1 om hb16)]; rfl, Y.ext⟩
  rw [hb16] at Z
  try simp only [qz] at hb16
  refine aV (k := 6) 15 [7, 14] Z kr kr kr rfx ?_
  replace Z := Z.p14 0 6 10 11 99 100 101 102 125 126 127 128 129 130 rfl
  refine aR [] (fun i => match i with | _ => fun _ _ => False) 9 [[], [0], [], [], [3], [2, 4], [5], [], [6, 7]] [po w0.hz 8, sv x.sig, kv, pt w0.hz, iv x.signer, slAddr kv (x.signer.toNat * 1), sv (ks.getD x.signer.toNat []), .func (.func 87) #[] #[pt w0.hz], sv (sealH (ks.getD x.signer.toNat []) x.content)] Z Y kr kr kr ?_ ?_ ?_
  ·intro i hi hiq
   match i, hi, hiq with
   | 0, _, _ => exact fun w Y => OpV.g (ac (v := po w0.hz 8) rfl kr)
   | 1, _, _ => exact fun w Y => OpV.g (ld Y 1 rfl rfl (isAgg9 _) rfl)
   | 2, _, _ => exact fun w Y => OpV.g (ak rfl)
   | 3, _, _ => exact fun w Y => OpV.g (ac (v := pt w0.hz) rfl kr)
   | 4, _, _ => exact fun w Y => OpV.g (ld Y 1 rfl rfl (isAgg3 _) rfl)
   | 5, _, _ => exact fun w Y => OpV.g ((ao (i := x.signer) (sT := 59) (Y.arg hkv) rfl rfl (runUnderlying59 _) (sizeOf9 _) om (by rw [List.length_map]; omega)).as (v' := slAddr kv (x.signer.toNat * 1)) (by rw [show (x.signer).toNat = x.signer.toNat from by omega]))
   | 6, _, _ => exact fun w Y => OpV.g (aE (u := sv (ks.getD x.signer.toNat [])) (i := x.signer.toNat) (j := 0) (Y.arg hkv) (by rw [List.length_map]; omega) rfl (isAgg9 _) (by rw [bU ([] : By)]; rfl))
   | 7, _, _ => exact fun w Y => OpV.g (cG rfl rfl)
   | 8, _, _ => exact fun w Y => aT call84 rfl (ji (ks.getD x.signer.toNat []) x.content 87 w0.hz [iv x.signer, iv x.holder, iv x.rf, iv x.rt, iv x.carrier, iv x.serial, iv x.sf, iv x.st, sv x.sig] 41 _ call87 (fun b v ws h => qF b w0.hz v x ws (Wsh.smalls_of hxo) h) mX (by have := hk32 _ (cn (d := []) (by omega : x.signer.toNat < ks.length)); omega) (Nat.le_trans (x.content_len) de) (Y.keepb hk0) (Y.g 1 rfl) (kX Y (i := 1) rfl hk0))
  ·intro i hi
   exact absurd hi sm
  clear Z Y
  intro  a w49 Z Y
  replace Z : Fr 142 [(131, po w0.hz 8), (132, sv x.sig), (133, kv), (134, pt w0.hz), (135, iv x.signer), (136, slAddr kv (x.signer.toNat * 1)), (137, sv (ks.getD x.signer.toNat [])), (138, .func (.func 87) #[] #[pt w0.hz]), (139, sv (sealH (ks.getD x.signer.toNat []) x.content)), (0, _), (6, _), (10, _), (11, _), (99, _), (100, _), (101, _), (102, _), (125, _), (126, _), (127, _), (128, _), (129, _), (130, _)] [{ target := .collected D, args := #[] }] a := Z
  refine ab <| aP (k := 15) 17 [16] kr kr kr ?_
  refine wly Z (mP rfl rfl) fun a Z => wlv Z (aq rfl rfl) fun a Z => ab <| bt kr ?_
  refine hK39 _ _ ?_
  replace Z := Z.p3 10 11 141 rfl
  refine ax Z rfl (fun hc17 => ?_) (fun hc17 => ?_)
  ·rw [hc17] at Z
   try simp only [qz] at hc17
   refine aa fun K41 hK41 => am 3 Z Y rfl rfl rfl (sizeOf3 _) rfl (lb rfl) (ds := [iv 6]) rfl rfl ?_
   clear Z Y
   intro a w50 Z Y
   refine am 4 Z Y rfl rfl rfl (sizeOf3 _) rfl (lb rfl) (ds := [iv (-1)]) rfl rfl ?_
   clear Z Y
   intro a w51 Z Y
   refine ab (hK41 _ _ <| ap ?_)
   have hD := Y.g 0 rfl
   replace Y := Y.unmark (i := 0) (o' := .deferred none) rfl
   replace Y : St No w0 [_, _, _, _, _, _] _ := Y
   refine cy Z hD results57 (aB rfl (bV (Y.g 2 rfl) (isAgg3 _)) (aB rfl (bV (Y.g 3 rfl) (isAgg3 _)) ag)) ?_
   exact ⟨by rw [dj hwp hch hsc (by rw [hsb]; first | exact fj (Wsh.ok_signer hxo).1 om | exact fg (Wsh.ok_signer hxo).1 om hc17)]; rfl, Y.ext⟩
  rw [hc17] at Z
  try simp only [qz] at hc17
  refine az <| hK38 _ _ <| aa fun K42 hK42 => am 3 Z Y rfl rfl rfl (sizeOf3 _) rfl (lb rfl) (ds := [iv 0]) rfl rfl ?_
  clear Z Y
  intro a w52 Z Y
  refine am 4 Z Y rfl rfl rfl (sizeOf3 _) rfl (lb rfl) (ds := [iv (-1)]) rfl rfl ?_
  clear Z Y
  intro a w53 Z Y
  refine ab (hK42 _ _ <| ap ?_)
  have hD := Y.g 0 rfl
  replace Y := Y.unmark (i := 0) (o' := .deferred none) rfl
  replace Y : St No w0 [_, _, _, _, _, _] _ := Y
  refine cy Z hD results57 (aB rfl (bV (Y.g 2 rfl) (isAgg3 _)) (aB rfl (bV (Y.g 3 rfl) (isAgg3 _)) ag)) ?_
  exact ⟨by rw [fO hwp hch hsc (by rw [hsb]; exact jL (Wsh.ok_signer hxo).1 om hc17)]; rfl, Y.ext⟩
 ·rintro D _ pre _ _ a w54 rfl ⟨rfl, i, hci, rfl⟩ Y Z
  replace Z : Fr 142 [(0, kv), (6, pt w0.hz), (7, pt w1.hz), (10, pt w2.hz), (11, pt w3.hz), (62, .bool false), (63, po w0.hz 1), (64, iv x.holder), (65, lv), (66, .func (.func 102) #[] #[pt bh, pt bl])] [{ target := .collected D, args := #[] }] a := Z
  replace Y : St No w0 [_, _, _, _, _, _, _] w54 := Y
  refine ap ?_
  have hD := Y.g 0 rfl
  replace Y := Y.unmark (i := 0) (o' := .deferred none) rfl
  replace Y : St No w0 [_, _, _, _, _, _] _ := Y
  refine cy Z hD results57 (aB rfl (bV (Y.g 2 rfl) (isAgg3 _)) (aB rfl (bV (Y.g 3 rfl) (isAgg3 _)) ag)) ?_
  exact ⟨by rw [fi hwp hci]; rfl, Y.ext⟩
end Go.Proofs.YtncbabejopafjaaGreatDoor
namespace Go.PW
open Go.RowKit
end Go.PW
namespace Go.Proofs.YtncbabejopafjaaGreatDoor
open Go.RowKit Go.PW _root_.Go.Proofs.Tryz
theorem dL (kv lv : Value) (ks : List By) (x : Wsh) (ps : List Pxy) (number t : Int) (w0 : World) (hkv : SlAt w0 kv 1 (ks.map fun s => [sv s])) (hlv : SlAt w0 lv 7 (ps.map Pxy.cells)) (hk0 : (blk 0 (kOf.map wv) 202).ok w0) :
  Ret Tryz.prog 39 #[kv, .agg #[iv x.signer, iv x.holder, iv x.rf, iv x.rt, iv x.carrier, iv x.serial, iv x.sf, iv x.st, sv x.sig], lv, iv number, iv t] w0 fun v w => v = .bool (validH ks x ps number t) ∧ Ext No w0 w := by
 refine aD func39 rfl ntmps39 (lb rfl) fun a Z => ?_
 replace Z := Z.p5 0 1 2 3 4 rfl
 replace Y : St No w0 [] w0 := St.init w0
 refine aa fun K1 hK1 => aG Z Y de rfl (cs := [iv x.signer, iv x.holder, iv x.rf, iv x.rt, iv x.carrier, iv x.serial, iv x.sf, iv x.st, sv x.sig]) rfl ?_
 clear Z Y
 intro a w1 Z Y
 refine wla Z rfl fun a Z => ab (hK1 _ _ <| aa fun K2 hK2 => ?_)
 refine wlm Z rfl fun a Z => wlv Z (ai (Y.g 0 rfl) rfl (isAgg41 _) (sizeOf41 _)) fun a Z => wlm Z rfl fun a Z => wlm Z rfl fun a Z => wlm Z rfl fun a Z => aA Z Y de call57 rfl (rd kv lv ks x ps number t _ (Y.arg hkv) (Y.arg hlv) (Y.keepb hk0)) ?_
 clear Z Y
 intro a w2 Z Y
 refine wlm Z rfl fun a Z => wlv Z (aw rfl rfl) fun a Z => wlv Z (aw rfl rfl) fun a Z => wla Z rfl fun a Z => wla Z rfl fun a Z => ab (hK2 _ _ ?_)
 replace Z := Z.p2 10 11 rfl
 replace Y : St No w0 [] w2 := Y.mask [false]
 refine aa fun K3 hK3 => wlm Z rfl fun a Z => wlv Z (v_eq rfl rfl) fun a Z => wla Z rfl fun a Z => ab (hK3 _ _ <| ap ?_)
 refine aj Z results39 (ae rfl ag) ?_
 exact ⟨by rfl, Y.ext⟩
def exZ : Wsh := ⟨0, 0, 0, 0, 0, 0, 0, 0, []⟩
theorem pK (x : Pxy) : x.content.length ≤ 63 := eu _
theorem ou (x : Wsh) : x.content.length ≤ 81 := eu _
theorem jl (key c : By) : (sealH key c).length = 32 := by unfold sealH nodeH; exact kg _
theorem oD {kv lv : Value} {ks : List By} {x : Wsh} {ps : List Pxy} {n t : Int} {b : Bool} {w0 : World} (hkv : SlAt w0 kv 1 (ks.map fun s => [sv s])) (hlv : SlAt w0 lv 7 (ps.map Pxy.cells)) (hk0 : (blk 0 (kOf.map wv) 202).ok w0) (h : validH ks x ps n t = b) :
  Ret Tryz.prog 39 #[kv, .agg #[iv x.signer, iv x.holder, iv x.rf, iv x.rt, iv x.carrier, iv x.serial, iv x.sf, iv x.st, sv x.sig], lv, iv n, iv t] w0 fun v w => v = .bool b ∧ Ext No w0 w := by
 have := dL kv lv ks x ps n t w0 hkv hlv hk0
 rw [h] at this
 exact this
section
variable {ks : List By} {x : Wsh} {ps : List Pxy} {n t : Int}
theorem jE : validH ks x ps n t = true ↔ (¬ formB ks x ps ∧ badIdx ps 0 = none ∧ inB t x.sf (x.st - 1) = true ∧ inB n x.rf (x.rt - 1) = true ∧ bD x.signer x.holder ps 0 = none ∧ bd x none ps 0 = none ∧ bP ks x ps 0 = none) := by
 unfold validH
 rw [decide_eq_true_eq]
 constructor
 ·intro h
  by_cases h0 : formB ks x ps
  ·rw [dg h0] at h; cases h
  ·cases hb : badIdx ps 0 with
   | some i => rw [mK h0 (by rw [kD, hb]; exact Int.natCast_nonneg i)] at h; cases h
   | none =>
    cases ht : inB t x.sf (x.st - 1) with
    | false => rw [eS h0 hb ht] at h; cases h
    | true =>
     cases hn : inB n x.rf (x.rt - 1) with
     | false => rw [ga h0 hb ht hn] at h; cases h
     | true =>
      have hp : whyP ks x ps n t := ⟨h0, hb, ht, hn⟩
      cases hc : bD x.signer x.holder ps 0 with
      | some i => rw [fi hp hc] at h; cases h
      | none =>
       cases hs : bd x none ps 0 with
       | some i => rw [fk hp hc hs] at h; cases h
       | none =>
        cases hl : bP ks x ps 0 with
        | some i => rw [dj hp hc hs hl] at h; cases h
        | none => exact ⟨h0, rfl, rfl, rfl, rfl, rfl, rfl⟩
 ·rintro ⟨h0, hb, ht, hn, hc, hs, hl⟩
  rw [fO ⟨h0, hb, ht, hn⟩ hc hs hl]
theorem ka {n0 t0 : Int} (h : validH ks x ps n0 t0 = true) (n t : Int) : whyH ks x ps n t = if inB t x.sf (x.st - 1) = false then (2, -1) else if inB n x.rf (x.rt - 1) = false then (3, -1) else (0, -1) := by
 obtain ⟨h0, hb, _, _, hc, hs, hl⟩ := jE.1 h
 by_cases ht : inB t x.sf (x.st - 1) = false
 ·rw [if_pos ht, eS h0 hb ht]
 ·rw [if_neg ht]
  by_cases hn : inB n x.rf (x.rt - 1) = false
  ·rw [if_pos hn, ga h0 hb (by simpa using ht) hn]
  ·rw [if_neg hn, fO ⟨h0, hb, by simpa using ht, by simpa using hn⟩ hc hs hl]
theorem iU {n0 t0 : Int} (h : validH ks x ps n0 t0 = true) (n t : Int) : validH ks x ps n t = (inB t x.sf (x.st - 1) && inB n x.rf (x.rt - 1)) := by
 unfold validH
 rw [ka h]
 cases inB t x.sf (x.st - 1) <;> cases inB n x.rf (x.rt - 1) <;> rfl
theorem ik : ∀ {l : List Pxy} {k : Nat}, bP ks x l k = none → (∀ p ∈ l, ∃ key, keyAt ks p.frm = some key ∧ p.sig = sealH key p.content) ∧ ∃ key, keyAt ks x.signer = some key ∧ x.sig = sealH key x.content
 | [], k, h => by
  rw [bP] at h
  split at h
  ·rename_i hc
   cases hq : keyAt ks x.signer with
   | none => rw [hq] at hc; cases hc
   | some key => rw [hq] at hc; exact ⟨by simp, key, rfl, by simpa using hc⟩
  ·cases h
 | p :: l, k, h => by
  rw [bP] at h
  split at h
  ·rename_i hc
   obtain ⟨h1, h2⟩ := ik h
   refine ⟨fun q hq => ?_, h2⟩
   rcases List.mem_cons.1 hq with rfl | hq
   ·cases he : keyAt ks q.frm with
    | none => rw [he] at hc; cases hc
    | some key => rw [he] at hc; exact ⟨key, rfl, by simpa using hc⟩
   ·exact h1 q hq
  ·cases h
theorem ju {h : Int} {key : By} (hk : keyAt keysH h = some key) : 0 ≤ h ∧ h < 10 ∧ key = keyH h := by
 unfold keyAt at hk
 split at hk
 ·cases hk
 ·rename_i h0
  have hl := (List.getElem?_eq_some_iff.1 hk).1
  rw [jR] at hl
  have h1 : h < 10 := by omega
  have := iN (h := h) om h1
  unfold keyAt at this
  rw [if_neg h0, hk] at this
  exact ⟨by omega, h1, Option.some.inj this⟩
end
def Mk (x : Wsh) (ps : List Pxy) : Prop := validH keysH x ps x.rf x.sf = true
section
variable {x : Wsh} {ps : List Pxy}
theorem Mk.pieces (h : Mk x ps) : ¬ formB keysH x ps ∧ badIdx ps 0 = none ∧ bD x.signer x.holder ps 0 = none ∧ bd x none ps 0 = none ∧ bP keysH x ps 0 = none := by
 obtain ⟨h0, hb, _, _, hc, hs, hl⟩ := jE.1 h
 exact ⟨h0, hb, hc, hs, hl⟩
theorem Mk.ok (h : Mk x ps) : x.ok = true := by
 have := h.pieces.1
 cases hx : x.ok with
 | true => rfl
 | false => exact absurd (.inr (.inr (.inl hx))) this
theorem Mk.len (h : Mk x ps) : ps.length ≤ 4 := Nat.le_of_not_lt fun hl => h.pieces.1 (.inr (.inr (.inr hl)))
theorem Mk.formed (h : Mk x ps) : hC x ps = true := by
 unfold hC
 rw [h.ok, h.pieces.2.1, decide_eq_true h.len]; rfl
theorem Mk.sgn (h : Mk x ps) : 0 ≤ x.signer ∧ x.signer < 10 ∧ x.sig = sealH (keyH x.signer) x.content := by
 obtain ⟨key, h1, h2⟩ := (ik h.pieces.2.2.2.2).2
 obtain ⟨h3, h4, rfl⟩ := ju h1
 exact ⟨h3, h4, h2⟩
theorem Mk.each (h : Mk x ps) {p : Pxy} (hp : p ∈ ps) : 0 ≤ p.frm ∧ p.frm < 10 ∧ p.sig = sealH (keyH p.frm) p.content ∧ p.ok = true := by
 obtain ⟨key, h1, h2⟩ := (ik h.pieces.2.2.2.2).1 p hp
 obtain ⟨h3, h4, rfl⟩ := ju h1
 exact ⟨h3, h4, h2, cU h.pieces.2.1 p hp⟩
theorem Mk.same (h : Mk x ps) : x.sealed (keyH x.signer) = x := by
 have := h.sgn.2.2
 unfold Wsh.sealed
 rw [← this]
theorem Mk.xsig (h : Mk x ps) : x.sig.length = 32 := by rw [h.sgn.2.2]; exact jl _ _
theorem Mk.psig (h : Mk x ps) : ∀ p ∈ ps, p.sig.length = 32 := fun p hp => by rw [(h.each hp).2.2.1]; exact jl _ _
theorem Mk.enc (h : Mk x ps) : ∃ s, kf x ps = some s := ⟨_, kW.2 ⟨h.formed, h.xsig, h.psig, rfl⟩⟩
theorem Mk.valid (h : Mk x ps) (n t : Int) : validH keysH x ps n t = (inB t x.sf (x.st - 1) && inB n x.rf (x.rt - 1)) := iU h n t
theorem Mk.here (h : Mk x ps) : validH keysH x ps x.rf x.sf = true := h
end
theorem qG (holder r0 r1 s0 s1 carrier serial : Int) (l : List Cin) : Mk (madeW holder r0 r1 s0 s1 carrier serial l) (madeL holder r0 r1 s0 s1 l) := by
 have hb := Wsh.ok_bnd (lE holder r0 r1 s0 s1 carrier serial l)
 unfold Mk validH
 rw [oH, if_neg, if_neg]
 ·rfl
 ·simp [inB]; omega
 ·simp [inB]; omega
theorem qU {holder r0 r1 s0 s1 carrier serial : Int} {cv : Value} {ys : List Cin} {w0 : World} {x : Wsh} {ps : List Pxy} (hx : madeW holder r0 r1 s0 s1 carrier serial ys = x) (hps : madeL holder r0 r1 s0 s1 ys = ps) (hcv : SlAt w0 cv 5 (ys.map Cin.cells)) (hys : ∀ y ∈ ys, y.wt) (h0 : i64 holder) (h1 : i64 r0) (h2 : i64 r1) (h3 : i64 s0) (h4 : i64 s1) (h5 : i64 carrier) (h6 : i64 serial) :
  Ret Tryz.prog 9 #[.agg #[iv holder, iv r0, iv r1, iv s0, iv s1, iv carrier, iv serial, cv]] w0 (MemR w0 (fun v : Value => .tuple #[.agg #[iv x.signer, iv x.holder, iv x.rf, iv x.rt, iv x.carrier, iv x.serial, iv x.sf, iv x.st, sv x.sig], v]) (fun v => [own v 86 7 (ps.map Pxy.cells)]) (fun _ => True)) := by
 subst hx; subst hps
 exact kt holder r0 r1 s0 s1 carrier serial cv ys w0 hcv hys h0 h1 h2 h3 h4 h5 h6
end Go.Proofs.YtncbabejopafjaaGreatDoor
namespace Go.Proofs.YtncbabejopafjaaGreatDoor
open Go.RowKit Go.PW _root_.Go.Proofs.Tryz
theorem len2 {α : Type} {l : List α} (h : l.length = 2) : ∃ a0 a1, l = [a0, a1] := by
 match l, h with
 | [a0, a1], _ => exact ⟨_, _, rfl⟩
theorem len5 {α : Type} {l : List α} (h : l.length = 5) : ∃ a0 a1 a2 a3 a4, l = [a0, a1, a2, a3, a4] := by
 match l, h with
 | [a0, a1, a2, a3, a4], _ => exact ⟨_, _, _, _, _, rfl⟩
theorem len8 {α : Type} {l : List α} (h : l.length = 8) : ∃ a0 a1 a2 a3 a4 a5 a6 a7, l = [a0, a1, a2, a3, a4, a5, a6, a7] := by
 match l, h with
 | [a0, a1, a2, a3, a4, a5, a6, a7], _ => exact ⟨_, _, _, _, _, _, _, _, rfl⟩
open Go.ChangeShapes Go.WideShapes Go.ChangeAt
section
variable {H : Type} {enc : TypeId × Value → H} {W : World} {base b0 : Nat} {sp : Nat → Bool} {hd : Bool} {v : Value} {d : DataW H} {ps : List MemPlace} {r : Reach}
theorem qS {n : Int} (h : Go.PW.i64 n) : i64 n := h
theorem nM {t : TypeId} (ht : Tryz.prog.underlying t = some (.slice 84)) {fuel : Nat} {x : DataW H × List MemPlace} (hok : Cell.okWide Tryz.prog W r b0 t v) (hw : Wt Tryz.prog t x.1) (h : DataW.trod enc Tryz.prog W base sp hd fuel t [v] = some x) :
  ∃ ys : List Cin, SlAt W v 5 (ys.map Cin.cells) ∧ ∀ y ∈ ys, y.wt := by
 obtain ⟨els, h1, h2⟩ := j3 5 ht kr de (of_decide_eq_true kr) hok hw h
 exact l6 (f := Cin.cells) (q := Cin.wt) h1 fun i hi => by
  obtain ⟨n, y, hy, _⟩ := h2 i hi
  obtain ⟨zs, hz, he, hw⟩ := du 5 underlying84 underlying3 kr hy (h1.1 _ (List.getElem_mem hi))
  obtain ⟨a0, a1, a2, a3, a4, rfl⟩ := len5 hz
  exact ⟨⟨a0, a1, a2, a3, a4⟩, he, hw a0 sm, hw a1 sm, hw a2 sm, hw a3 sm, hw a4 sm⟩
theorem nF {t : TypeId} (ht : Tryz.prog.underlying t = some (.array 2 3)) (hc : Tryz.prog.cellsOf t = 2) (hval : Value.okWide Tryz.prog W r b0 t v) (hd0 : DataW.Trod enc Tryz.prog W base sp hd t v d ps) : ∃ a b : Int, v = .agg #[iv a, iv b] ∧ i64 a ∧ i64 b := by
 obtain ⟨csA, rfl, hsz, hrow⟩ := cK (by rw [ht]) hval
 obtain ⟨fuel, hf⟩ := hd0
 obtain ⟨a0, a1, hcs⟩ := len2 (l := csA.toList) (by rw [Array.length_toList, hsz, hc])
 obtain rfl : csA = #[a0, a1] := by cases csA; simp at hcs; rw [hcs]
 obtain ⟨zs, hz, he, hw⟩ := du 2 ht underlying3 kr hf rfl
 obtain ⟨b0, b1, rfl⟩ := len2 hz
 simp [Value.cells] at he
 obtain ⟨rfl, rfl⟩ := he
 exact ⟨b0, b1, rfl, hw b0 sm, hw b1 sm⟩
theorem j7 (hval : Value.okWide Tryz.prog W r b0 36 v) (hw : Wt Tryz.prog 36 d) (hd0 : DataW.Trod enc Tryz.prog W base sp hd 36 v d ps) :
  ∃ (holder r0 r1 s0 s1 carrier serial : Int) (cv : Value) (ys : List Cin), v = .agg #[iv holder, iv r0, iv r1, iv s0, iv s1, iv carrier, iv serial, cv] ∧ SlAt W cv 5 (ys.map Cin.cells) ∧ (∀ y ∈ ys, y.wt) ∧ i64 holder ∧ i64 r0 ∧ i64 r1 ∧ i64 s0 ∧ i64 s1 ∧ i64 carrier ∧ i64 serial := by
 obtain ⟨csA, rfl, hsz, hrow⟩ := cK kr hval
 obtain ⟨fuel, hf⟩ := hd0
 have hc : Tryz.prog.cellsOf 36 = 8 := by kernel_rfl
 obtain ⟨a0, a1, a2, a3, a4, a5, a6, a7, hcs⟩ := len8 (l := csA.toList) (by rw [Array.length_toList, hsz, hc])
 obtain rfl : csA = #[a0, a1, a2, a3, a4, a5, a6, a7] := by cases csA; simp at hcs; rw [hcs]
 obtain ⟨n0, z0, h0, w0⟩ := aZ 0 _ underlying36 hw hf rfl
 obtain ⟨n1, z1, h1, w1⟩ := aZ 1 _ underlying36 hw hf rfl
 obtain ⟨n2, z2, h2, w2⟩ := aZ 2 _ underlying36 hw hf rfl
 obtain ⟨n3, z3, h3, w3⟩ := aZ 3 _ underlying36 hw hf rfl
 obtain ⟨n4, z4, h4, w4⟩ := aZ 4 _ underlying36 hw hf rfl
 obtain ⟨n5, z5, h5, w5⟩ := aZ 5 _ underlying36 hw hf rfl
 have c1 : Tryz.prog.cellsOf 3 = 1 := by kernel_rfl
 have c2 : Tryz.prog.cellsOf 33 = 2 := by kernel_rfl
 have c5 : Tryz.prog.cellsOf 34 = 1 := by kernel_rfl
 simp only [Value.cells, c1] at h0 h3 h4
 simp only [Value.cells, c2] at h1 h2
 simp only [Value.cells, c5] at h5
 obtain ⟨m0, e0, g0⟩ := bT underlying3 h0
 obtain ⟨m3, e3, g3⟩ := bT underlying3 h3
 obtain ⟨m4, e4, g4⟩ := bT underlying3 h4
 obtain ⟨q1, hq1, e1, y1⟩ := du 2 underlying33 underlying3 kr h1 rfl
 obtain ⟨q2, hq2, e2, y2⟩ := du 2 underlying33 underlying3 kr h2 rfl
 obtain ⟨b0_, b1, rfl⟩ := len2 hq1
 obtain ⟨c0_, c1_, rfl⟩ := len2 hq2
 simp [c1] at e0 e3 e4
 simp at e1 e2
 obtain ⟨rfl, rfl⟩ := e1
 obtain ⟨rfl, rfl⟩ := e2
 subst e0; subst e3; subst e4
 have hok : Cell.okWide Tryz.prog W r b0 34 a7 := lO (i := 7) (ts := [3, 3, 3, 3, 3, 3, 3, 34]) kr rfl hrow rfl
 obtain ⟨ys, k1, k2⟩ := nM underlying34 hok w5 h5
 exact ⟨m0, b0_, b1, c0_, c1_, m3, m4, a7, ys, rfl, k1, k2, g0, y1 b0_ sm, y1 b1 sm, y2 c0_ sm, y2 c1_ sm, g3, g4⟩
end
end Go.Proofs.YtncbabejopafjaaGreatDoor
namespace Go.PW
open Go.RowKit Go.ChangeShapes Go.WideShapes Go.ChangeAt
section
variable {H : Type} {enc : TypeId × Value → H}
theorem lh {a : Assume} {C : Checked} {os : Os} {f : FuncId} {fn : Func} {s : ChangeSpec} {conds : List PathCond} {apart fresh handsOn again : Bool} {X : World → Array Value → Prop}
  (hX : ∀ (w w' : World) (args : Array Value), w.heap = w'.heap → X w args → X w' args)
  (own : ownKnob C.prog.godebug = none) (started : os.Started) (noInit : C.prog.inits.idxOf? f = none) (hfn : C.prog.funcs[f]? = some fn)
  (witness : ∃ (w : World) (tape : Tape) (i : Input), w.os = os ∧ (w.forCall tape i).Shaped C.prog ∧ i.vars = [] ∧ Input.okWide C.prog (w.forCall tape i) .any w.heap.size f i ∧
   ((s.pre enc C.prog fn conds apart (w.forCall tape i).memory i.args ∧ X (w.forCall tape i).memory i.args) ∧ sizedMet enc C.prog fn (OpenSpec.ofChange s) apart (w.forCall tape i).memory i.args) ∧ a.holds C.prog (lone (Frame.enter C.prog f i.args .normal) [] (w.forCall tape i)))
  (contract : ∀ (W : World) (base : Nat) (args : Array Value) (ds gs : List (DataW H)) (before : List MemPlace),
   (∀ (j : Nat) t v, fn.params[j]? = some t → args[j]? = some v → Value.okWide C.prog W .any base t v) →
   DataW.Whole enc C.prog fn.params.toList s.vars apart W args.toList ds gs before →
   conds.all (PathCond.test C.prog ⟨fn.params.toList, ds, s.plain.varTypes C.prog, gs⟩) = true →
   (DataW.weightsEach C.prog (fn.params.toList ++ s.plain.varTypes C.prog) (ds ++ gs)).all (· ≤ reachBytes) = true → X W args → W.ShapedOpen C.prog →
   Calls C.prog f args W fun e W' => ∃ v, e = .returned v ∧ s.post enc C.prog fn apart fresh handsOn again W args v W') :
  ReturnsInHanded a C os f .any (fun w args => (s.pre enc C.prog fn conds apart w args ∧ X w args) ∧ sizedMet enc C.prog fn (OpenSpec.ofChange s) apart w args) (s.post enc C.prog fn apart fresh handsOn again) := by
 refine returnsInHanded_of_calls own started noInit witness ?_
 intro w tape i _ hsh _ hok hpre _
 obtain ⟨_, _, _, fn', hfn', _, _, _, _, hval⟩ := hok
 have e : fn' = fn := Option.some.inj (hfn'.symm.trans hfn)
 subst e
 obtain ⟨⟨⟨ds, gs, before, hw, hc⟩, hx⟩, hz⟩ := hpre
 have hw' := DataW.Whole.of_heap (w' := w.forCall tape i) rfx hw
 refine (contract (w.forCall tape i) w.heap.size i.args ds gs before hval hw' hc (hz.weights hw) (hX _ _ _ rfx hx) hsh).mono fun e W' ⟨v, he, hp⟩ => ?_
 subst he
 exact ChangeSpec.post_blind hp
end
section
variable {H : Type} {enc : TypeId × Value → H} {P : Program} {w : World} {base : Nat} {spare : Nat → Bool} {held : Bool} {fuel : Nat} {t e : TypeId} {cs : List Value} {x : DataW H × List MemPlace}
theorem l7 {n : Nat} {ks : List Int} (ht : P.underlying t = some (.array n e)) (he : P.underlying e = some (.int .u32)) (hc : P.cellsOf e = 1) (hct : P.cellsOf t = n) (h : DataW.trod enc P w base spare held fuel t cs = some x) (hx : x.1 = .agg (ks.map fun k => .lit (.int .u32 k))) : cs = ks.map (fun k => .int .u32 k) := by
 obtain ⟨xs, m, rfl, rfl, hlen, hxs, hel⟩ := DataW.trod_array ht h
 simp only [DataW.agg.injEq] at hx
 have hl : ks.length = n := by
  have h := congrArg List.length hx
  rw [List.length_map, List.length_map] at h
  omega
 refine List.ext_getElem (by rw [hlen, hct, List.length_map, hl]) fun i h1 h2 => ?_
 have hi : i < n := by rw [← hct, ← hlen]; exact h1
 have hi2 : i < ks.length := by omega
 have h3 := hel i hi
 rw [hc, Nat.mul_one, List.getElem?_eq_getElem om] at h3
 obtain ⟨k, e1, e2, _⟩ := DataW.trod_int he h3
 rw [List.drop_eq_getElem_cons h1, List.take_succ_cons] at e1
 injection e1 with e1 _
 have h4 : (xs.map (·.1))[i]? = (ks.map fun k => DataW.lit (H := H) (.int .u32 k))[i]? := by rw [hx]
 rw [List.getElem?_map, List.getElem?_map, List.getElem?_eq_getElem om, List.getElem?_eq_getElem hi2, Option.map_some, Option.map_some, e2] at h4
 simp only [Option.some.injEq, DataW.lit.injEq, Lit.int.injEq, true_and] at h4
 rw [e1, List.getElem_map, h4]
theorem pr (ht : P.underlying t = some .string) (hw : Wt P t x.1) (h : DataW.trod enc P w base spare held fuel t cs = some x) : ∃ s : List UInt8, cs = [sv s] ∧ s.length ≤ 140737488355328 := by
 obtain ⟨s', hcs, hx, hs⟩ := DataW.trod_string ht h
 subst hx
 refine ⟨s'.data.toList, hcs, ?_⟩
 have h1 := hw s'.data.toList.length (by simp [DataW.weights])
 have h2 := reachBytes_lt
 omega
end
end Go.PW
namespace Go.Proofs.YtncbabejopafjaaGreatDoor
open Go.RowKit Go.PW _root_.Go.Proofs.Tryz
open Go.ChangeShapes Go.WideShapes Go.ChangeAt Go.RowKit Go.PW
theorem ownD : ownKnob Tryz.prog.godebug = none := by kernel_rfl
theorem di : laidOutB Tryz.prog = true := by kernel_rfl
def laid1 : List (String × DataW Unit) := [("dialtone/digest.round", Rows.laid_dialtone_digest_round)]
theorem gRound : Tryz.prog.globalNamed "dialtone/digest.round" = some 0 := by kernel_rfl
theorem tRound : (Tryz.prog.globals[0]?).map (·.type) = some 202 := by kernel_rfl
theorem pQ : (Rows.laid_dialtone_digest_round : DataW Unit) = .agg ((kOf.map fun k => (k.toNat : Int)).map fun k => .lit (.int .u32 k)) := by kernel_rfl
theorem o3 (os : Os) (args : Array Value) : laidMetH Tryz.prog laid1 ((World.doorLaid Tryz.prog 4000 os).forCall (fun _ _ => 0) ⟨#[], args, []⟩).memory :=
 laidMetH_of_parts3 (fuel := 8) (laidMet_of_run' 8 kr kr) kr kr
theorem mt (os : Os) (args : Array Value) : ((World.doorLaid Tryz.prog 4000 os).forCall (fun _ _ => 0) ⟨#[], args, []⟩).Shaped Tryz.prog := World.shaped_of_RefB kr kr
theorem qT {W : World} (h : laidMetH Tryz.prog laid1 W) (hs : W.ShapedOpen Tryz.prog) : (blk 0 (kOf.map wv) 202).ok W := by
 rw [MakeChecks.laidMetH_plain _ _ _ kr] at h
 obtain ⟨ps, ⟨g0, t0, cs0, f0, p0, q0, hg0, ht0, hv0, hd0, _, _⟩, _, _⟩ := h
 obtain rfl := Option.some.inj (gRound.symm.trans hg0)
 obtain rfl := Option.some.inj (tRound.symm.trans ht0)
 obtain ⟨cs, hcs, _, _⟩ := hs.1 0 (List.replicate 64 (.int .u32 0)).toArray 202 (of_decide_eq_true kr) kr
 have e : cs0 = cs := by
  have := hv0
  simp only [World.var?, gRound, Option.bind_some, hcs, Option.some.injEq] at this
  exact this.symm
 subst e
 have hw := l7 (ks := kOf.map fun k => (k.toNat : Int)) underlying202 underlying170 kr kr hd0 pQ
 have hl : cs0 = (kOf.map wv).toArray := by
  apply Array.toList_inj.1
  rw [hw, List.map_map]; rfl
 show W.heap[0]? = some (.cells (kOf.map wv).toArray 202)
 rw [← hl]; exact hcs
end Go.Proofs.YtncbabejopafjaaGreatDoor
