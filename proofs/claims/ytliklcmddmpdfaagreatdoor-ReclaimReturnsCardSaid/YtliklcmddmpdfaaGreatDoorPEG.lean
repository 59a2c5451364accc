/- Texts joined: RegA, RegB, RclC. -/
import Derived.Test.YtliklcmddmpdfaaGreatDoorPEF
import Derived.Test.YtliklcmddmpdfaaGreatDoorPEE
import Derived.Test.YtliklcmddmpdfaaGreatDoorPEC
import Derived.Test.YtliklcmddmpdfaaGreatDoorPEB
import Derived.Test.YtliklcmddmpdfaaGreatDoorPEA
set_option linter.unusedVariables false
set_option linter.unusedSimpArgs false
set_option maxRecDepth 4000
set_option maxHeartbeats 4000000
namespace Go.Proofs.YtliklcmddmpdfaaGreatDoor
open Go.RowKit Go.PW _root_.Go.Proofs.Tryz
theorem qt {n a b : Int} (h : inB n a b = true) : a ≤ n ∧ n ≤ b := by simpa [inB] using h
theorem oJ {s : By} (h : s.length = 32) : s ≠ [] := fun e => by rw [e] at h; cases h
theorem vD {a b : By} (h : b ≠ []) : a ++ b ≠ [] := fun e => h (List.append_eq_nil_iff.1 e).2
theorem jP (n lo hi : Int) (w0 : World) :
  Ret Tryz.prog 122 #[jv n, jv lo, jv hi] w0 fun v w => v = .bool (inB n lo hi) ∧ Ext No w0 w := by
 refine zO func122 O ntmps122 (lb O) fun a Z Y => ?_
 refine aa fun _ G1 => wla Z O fun a Z => G1 <| aa fun _ G2 => ?_
 refine nv Z <| xK O <| xK O <| xJ (v_le O O) <| xK O <| fun a Z => dj (N := 15) (df := []) 4 [(14, .bool ((decide (lo ≤ n)) && (decide (n ≤ hi)))), (0, jv n), (1, jv lo), (2, jv hi), (6, .bool false)] ?_ (fun hj => ?_)
 rotate_left
 ·rcases xU (decide (lo ≤ n)) with hb1 | hb1
  ·rw [hb1] at Z
   have hb1b := hb1
   try simp only [qz, xP, yh, yd, yg] at hb1
   refine nv Z <| xM (ay O) <| xM (ay O) <| xM (v_le O O) <| xJ (ax O O) <| fun a Z => hj _ ?_
   try rw [hb1b]
   exact Z.pick [14, 0, 1, 2, 6]
  rw [hb1] at Z
  have hb1b := hb1
  try simp only [qz, xP, yh, yd, yg] at hb1
  refine nv Z <| xN <| xN <| xN <| xJ (ak O O) <| fun a Z => hj _ ?_
  try rw [hb1b]
  exact Z.pick [14, 0, 1, 2, 6]
 intro a Z
 refine wla Z O fun a Z => G2 <| ap ?_
 refine am Z results122 (ag O ae) ?_
 exact ⟨by rfl, Y.ext⟩
theorem hZ (s : By) (w0 : World) :
  Ret Tryz.prog 120 #[sv s] w0 fun v w => v = .bool (decide ((s.length : Int) = 32)) ∧ Ext No w0 w := by
 refine zN func120 O ntmps120 (lb O) fun a Z Y => ?_
 refine aa fun _ G1 => wla Z O fun a Z => G1 <| aa fun _ G2 => ?_
 refine nv Z <| xK O <| xJ (br O O (runUnderlying9 _)) <| xJ (v_eq O O) <| xL O <| fun a Z => G2 <| ap ?_
 refine am Z results120 (ag O ae) ?_
 exact ⟨by rfl, Y.ext⟩
theorem vX (s : By) (w0 : World) :
  Ret Tryz.prog 167 #[sv s] w0 fun v w => v = .bool (longE s) ∧ Ext No w0 w := by
 refine zN func167 O ntmps167 (lb O) fun a Z Y => ?_
 refine aa fun _ G1 => wla Z O fun a Z => G1 <| aa fun _ G2 => ?_
 refine nv Z <| xK O <| xJ (br O O (runUnderlying9 _)) <| xJ (v_gt O O) <| xL O <| fun a Z => G2 <| ap ?_
 refine am Z results167 (ag O ae) ?_
 exact ⟨by simp only [retv]; refine yr Value.bool ?_; unfold longE; exact decide_eq_decide.2 om, Y.ext⟩
theorem vZ (c : Int) (ev : Value) (es : List By) (w0 : World) (hev : SlAt w0 ev 1 (es.map fun s => [sv s])) :
  Ret Tryz.prog 121 #[.agg #[jv c, ev]] w0 fun v w => v = .bool (regOk c es) ∧ Ext No w0 w := by
 refine zN func121 O ntmps121 (lb O) fun a Z Y => ?_
 refine aa fun _ G1 => aS Z Y O [jv c, ev] O fun a w1 Z Y => wla Z O fun a Z => G1 <| aa fun _ G2 => ?_
 refine wla Z O fun a Z => G2 <| aa fun _ G3 => ?_
 refine nv Z <| xJ (ac (v := pq w0.hz) O kr) <| xJ (ld Y 0 O O (isAgg3 _) O) <| fun a Z => aw Z Y call122 O (jP c 0 7 _) fun a w2 Z Y => wlm Z O fun a Z => ?_
 rcases xU (inB c 0 7) with hb1 | hb1
 ·rw [hb1] at Z
  refine nv Z <| xM (ac (v := pw2 w0.hz 1) O kr) <| xM (ld Y 0 O O (isAgg44 _) O) <| xM ((aI (sT := 44) (Y.arg hev) O O (runUnderlying44 _)).asi (m' := (es.length : Int)) Ai) <| xM (v_le O O) <| xJ (ax O O) <| xK O <| fun a Z => ?_
  rcases Decidable.em ((es.length : Int) ≤ 60) with hb2 | hb2
  ·rw [xS hb2] at Z
   refine nv Z <| xM (ac (v := pw2 w0.hz 1) O kr) <| xM (ld Y 0 O O (isAgg44 _) O) <| xM (ay O) <| fun a Z => aF Z Y call146 O (qL longE _ call167 (Y.arg hev) (fun x w _ => vX x w)) fun a w3 Z Y => nv Z <| xM (bE O) <| xJ (ax O O) <| xL O <| fun a Z => G3 ?_
   replace Z := Z.p1 2 O
   replace Y := Y.k0 0 O
   refine ap <| am Z results121 (ag O ae) ?_
   refine ⟨?_, Y.ext⟩
   simp only [retv]
   refine yr Value.bool ?_
   unfold regOk
   rw [hb1, show decide (es.length ≤ 60) = true from xS om]; rfl
  rw [xW hb2] at Z
  refine nv Z <| xN <| xN <| xN <| xN <| xN <| xJ (ak O O) <| xL O <| fun a Z => G3 ?_
  replace Z := Z.p1 2 O
  replace Y := Y.k0 0 O
  refine ap <| am Z results121 (ag O ae) ?_
  refine ⟨?_, Y.ext⟩
  simp only [retv]
  refine yr Value.bool ?_
  unfold regOk
  first | (rw [hb2]; rfl) | (rw [show decide (es.length ≤ 60) = false from xW om, yR]; rfl)
 rw [hb1] at Z
 refine nv Z <| xN <| xN <| xN <| xN <| xJ (ak O O) <| xK O <| xN <| xN <| xN <| xN <| xN <| xJ (ak O O) <| xL O <| fun a Z => G3 ?_
 replace Z := Z.p1 2 O
 replace Y := Y.k0 0 O
 refine ap <| am Z results121 (ag O ae) ?_
 refine ⟨?_, Y.ext⟩
 simp only [retv]
 refine yr Value.bool ?_
 unfold regOk
 first | (rw [hb1]; rfl) | (rw [show decide (es.length ≤ 60) = false from xW om, yR]; rfl)
theorem gL {M : Nat → Prop} {w0 : World} (T : TypeId) (b : Nat) (ad v : Value) (bs : By) (n : Int) (ws : World) (hlie : liesAt Tryz.prog Tryz.prog.depth T (2 / Tryz.prog.cellsOf T) 0 160 1 = true) (had : ad = .pointer none ∨ ad = pq b) (hn : small n) (hbn : bs.length + 9 ≤ 1000000000) (Y : St M w0 [bld T b (ad) v bs] ws) :
  Ret Tryz.prog 170 #[pq b, jv n] ws fun u w => u = .tuple #[] ∧ ∃ v2, St M w0 [bld T b (pq b) v2 (bs ++ putI n)] w := by
 refine aC func170 O ntmps170 (lb O) fun a Z => ?_
 replace Z := Z.p2 0 1 O
 skip
 refine aa fun _ G1 => wlm Z O fun a Z => aw Z Y call60 O (fk n _ hn) fun a w1 Z Y => nv Z <| xK O <| xJ (aq O O) <| xJ (aq O O) <| xL O <| xL O <| fun a Z => G1 ?_
 refine ai <| nv (Z.p2 0 4 O) <| xK O <| xJ (aQ O) <| xJ (ac (v := pq b) O kr) <| xK O <| fun a Z => aZ (R := fun u e' => u = .tuple #[jv ((putI n).length : Int), .nilIface] ∧ ∃ v2, e' = bld T b (pq b) v2 (bs ++ (putI n))) 0 Z Y O de call94 O (fun h => (gc T b _ _ _ _ _ hlie had (qA _) (by have := (bX n).2; omega) h).mono fun u w ⟨h1, v2, h2⟩ => ⟨_, ⟨h1, v2, O⟩, h2⟩) ?_
 clear Z Y
 rintro a w2 _ _ ⟨rfl, v1, rfl⟩ Z Y
 try dsimp only at Y
 replace Y := Y.n1 O
 refine ab <| cQ Z results170 ae ?_
 exact ⟨O, _, Y.select [0] de⟩
theorem ma (key : By) (hd : Hd) (w0 : World) (hc : small hd.c) (hn : small hd.n) (hr : hd.root.length = 32) (hk : key.length ≤ 1000) (hk0 : (blk 0 (kOf.map wv) 258).ok w0) :
  Ret Tryz.prog 124 #[sv key, .agg #[jv hd.c, jv hd.n, sv hd.root, sv hd.tag]] w0 fun v w => v = sv (sealR sha key hd.c hd.n hd.root) ∧ Ext No w0 w := by
 have hp4 := bX 4
 have hpc := bX hd.c
 have hpn := bX hd.n
 have hxl : (([] : By) ++ putI 4 ++ putI hd.c ++ putI hd.n ++ hd.root).length ≤ 80 := by simp only [xQ, ya]; omega
 refine zM func124 O ntmps124 (lb O) fun a Z Y => ?_
 refine aa fun _ G1 => aS Z Y O [jv hd.c, jv hd.n, sv hd.root, sv hd.tag] O fun a w1 Z Y => wla Z O fun a Z => G1 <| aa fun _ G2 => ?_
 refine aD Z Y (zeroValue230 _) [.pointer none, .slice none 0 0] O fun a w2 Z Y => G2 ?_
 replace Y : St No w0 (own (.slice none 0 0) 5 1 [] :: [blk w1.hz [.pointer none, .slice none 0 0] 230, blk w0.hz [jv hd.c, jv hd.n, sv hd.root, sv hd.tag] 47]) w2 := Y.nil_own
 replace Y := Y.s3 [1, 0, 2] de rfl
 replace Y : St No w0 [bld 230 w1.hz (.pointer none) (.slice none 0 0) ([] : By), blk w0.hz [jv hd.c, jv hd.n, sv hd.root, sv hd.tag] 47] w2 := St.join [blk w1.hz [.pointer none, .slice none 0 0] 230, own (.slice none 0 0) 5 1 ([])] [blk w0.hz [jv hd.c, jv hd.n, sv hd.root, sv hd.tag] 47] Y
 refine aa fun _ G3 => aZ (R := fun u e' => u = .tuple #[] ∧ ∃ v2, e' = bld 230 w1.hz (pq w1.hz) v2 (([] : By) ++ putI 4)) 0 Z Y O de call170 O (fun h => (gL 230 w1.hz _ _ _ 4 _ kr (.inl O) Af Bq h).mono fun u w ⟨h1, v2, h2⟩ => ⟨_, ⟨h1, v2, O⟩, h2⟩) ?_
 clear Z Y
 rintro a w3 _ _ ⟨rfl, v1, rfl⟩ Z Y
 try dsimp only at Y
 replace Y := Y.n2 O
 refine G3 <| aa fun _ G4 => ?_
 refine nv Z <| xJ (ac (v := pq w0.hz) O kr) <| xJ (ld Y 1 O O (isAgg3 _) O) <| fun a Z => aZ (R := fun u e' => u = .tuple #[] ∧ ∃ v2, e' = bld 230 w1.hz (pq w1.hz) v2 ((([] : By) ++ putI 4) ++ putI hd.c)) 0 Z Y O de call170 O (fun h => (gL 230 w1.hz _ _ _ hd.c _ kr (.inr O) hc Bq h).mono fun u w ⟨h1, v2, h2⟩ => ⟨_, ⟨h1, v2, O⟩, h2⟩) ?_
 clear Z Y
 rintro a w4 _ _ ⟨rfl, v2, rfl⟩ Z Y
 try dsimp only at Y
 replace Y := Y.n2 O
 refine G4 <| aa fun _ G5 => ?_
 refine nv Z <| xJ (ac (v := pw2 w0.hz 1) O kr) <| xJ (ld Y 1 O O (isAgg3 _) O) <| fun a Z => aZ (R := fun u e' => u = .tuple #[] ∧ ∃ v2, e' = bld 230 w1.hz (pq w1.hz) v2 (((([] : By) ++ putI 4) ++ putI hd.c) ++ putI hd.n)) 0 Z Y O de call170 O (fun h => (gL 230 w1.hz _ _ _ hd.n _ kr (.inr O) hn Bq h).mono fun u w ⟨h1, v2, h2⟩ => ⟨_, ⟨h1, v2, O⟩, h2⟩) ?_
 clear Z Y
 rintro a w5 _ _ ⟨rfl, v3, rfl⟩ Z Y
 try dsimp only at Y
 replace Y := Y.n2 O
 refine G5 ?_
 refine aa fun _ G6 => nv (Z.p4 0 3 4 5 O) <| xJ (ac (v := pq w1.hz) O kr) <| xJ (ac (v := pw2 w0.hz 2) O kr) <| xJ (ld Y 1 O O (isAgg9 _) O) <| fun a Z => aZ (R := fun u e' => u = .tuple #[jv (hd.root.length : Int), .nilIface] ∧ ∃ v2, e' = bld 230 w1.hz (pq w1.hz) v2 ((((([] : By) ++ putI 4) ++ putI hd.c) ++ putI hd.n) ++ hd.root)) 0 Z Y O de call94 O (fun h => (gc 230 w1.hz _ _ _ _ _ kr (.inr O) (oJ hr) Bq h).mono fun u w ⟨h1, v2, h2⟩ => ⟨_, ⟨h1, v2, O⟩, h2⟩) ?_
 clear Z Y
 rintro a w6 _ _ ⟨rfl, v4, rfl⟩ Z Y
 try dsimp only at Y
 replace Y := Y.n2 O
 refine G6 <| aa fun _ G7 => ?_
 refine nv Z <| xK O <| xJ (ac (v := pq w1.hz) O kr) <| fun a Z => aZ (R := fun u e' => u = sv ((((([] : By) ++ putI 4) ++ putI hd.c) ++ putI hd.n) ++ hd.root) ∧ e' = blk w1.hz [pq w1.hz, v4] 230) 0 Z Y O de call95 O (fun h => (gQ 230 w1.hz _ _ _ (vD (oJ hr)) h).mono fun u w ⟨h1, h2⟩ => ⟨_, ⟨h1, O⟩, h2⟩) ?_
 clear Z Y
 rintro a w7 _ _ ⟨rfl, rfl⟩ Z Y
 try dsimp only at Y
 replace Y := Y.n2 O
 refine aw Z Y call139 O (jE ((((([] : By) ++ putI 4) ++ putI hd.c) ++ putI hd.n) ++ hd.root) _ om (Y.keepb hk0)) fun a w8 Z Y => aw Z Y call138 O (gr key (leafH sha ((((([] : By) ++ putI 4) ++ putI hd.c) ++ putI hd.n) ++ hd.root)) _ om (by first | omega | (rw [dm cD]; decide)) (Y.keepb hk0)) fun a w9 Z Y => wla Z O fun a Z => G7 ?_
 replace Z := Z.p1 4 O
 replace Y := Y.k1 1 O
 refine ap <| am Z results124 (ag O ae) ?_
 exact ⟨by simp only [retv]; simp [sealR, hdText, puts, nodeH], Y.ext⟩
theorem mH (key : By) (n : Nat) (hd : Hd) (c : Int) (ev : Value) (es : List By) (w0 : World) (hev : SlAt w0 ev 1 (es.map fun s => [sv s])) (hk32 : key.length = 32) (hr : regOk c es = true) (hn : n ≤ es.length) (hhd : hdOf sha key c es n = hd) (hk0 : (blk 0 (kOf.map wv) 258).ok w0) :
  Ret Tryz.prog 73 #[sv key, .agg #[jv c, ev], jv (n : Int)] w0 fun v w => v = .tuple #[.agg #[jv hd.c, jv hd.n, sv hd.root, sv hd.tag], jv 0] ∧ Ext No w0 w := by
 obtain ⟨hrc0, hrc1, hrl, hel⟩ := fc hr
 have hc : small c := by unfold small; omega
 have hn' : small (n : Int) := by unfold small; omega
 refine zO func73 O ntmps73 (lb O) fun a Z Y => ?_
 refine aa fun _ G1 => aS Z Y O [jv c, ev] O fun a w1 Z Y => aD Z Y (zeroValue47 _) [jv 0, jv 0, .string (⟨#[]⟩), .string (⟨#[]⟩)] O fun a w2 Z Y => wla Z O fun a Z => G1 <| ah fun _ G2 => ?_
 refine aa fun _ G3 => wlm Z O fun a Z => aw Z Y call120 O (hZ key _) fun a w3 Z Y => nv Z <| xJ (bE O) <| xK O <| fun a Z => ?_
 rcases (Decidable.em ((key.length : Int) = 32)).symm with hb1 | hb1
 ·rw [xW hb1] at Z
  exfalso; omega
 rw [xS hb1] at Z
 refine wly Z (ao (Y.g 1 O) O (isAgg75 _) (sizeOf75 _)) fun a Z => aF Z Y call121 O (vZ c ev es _ (Y.arg hev)) fun a w4 Z Y => nv Z <| xM (bE O) <| xJ (ak O O) <| xK O <| fun a Z => ?_
 rcases xU (!(regOk c es)) with hb2 | hb2
 ·rw [hb2] at Z
  try simp only [qz] at hb2
  rw [hr] at hb2; cases hb2
 rw [hb2] at Z
 try simp only [qz] at hb2
 refine nv Z <| xM (ay O) <| xM (ac (v := pw2 w0.hz 1) O kr) <| xM (ld Y 1 O O (isAgg44 _) O) <| xM ((aI (sT := 44) (Y.arg hev) O O (runUnderlying44 _)).asi (m' := (es.length : Int)) Ai) <| fun a Z => aF Z Y call122 O (jP (n : Int) 0 (es.length : Int) _) fun a w5 Z Y => nv Z <| xM (bE O) <| xJ (ak O O) <| fun a Z => G3 ?_
 replace Z := Z.p6 0 2 4 6 7 24 O
 refine bt Z O (fun hc3 => ?_) (fun hc3 => ?_)
 ·try simp only [qz] at hc3
  rw [show inB (n : Int) 0 (es.length : Int) = true from by simp [inB]; omega] at hc3; cases hc3
 try simp only [qz] at hc3
 refine au <| G2 <| ah fun _ G4 => aL (aN fun w6 hxz => ?_)
 replace Y := Y.grow hxz
 refine aU (k := 0) 10 [8, 9] Z ?_
 replace Z := Z.p5 0 2 4 6 7 O
 refine bO [9] (fun i => match i with | 9 => pm (fun b : Nat => pq b) (fun b => [blk b [jv 0, jv 0, .string (⟨#[]⟩), .string (⟨#[]⟩)] 47]) (fun _ => True) | _ => fun _ _ => False) 10 [[], [0], [], [], [3], [], [4, 5], [6], [1, 2, 7], []] [pq w0.hz, jv c, jv (n : Int), pw2 w0.hz 1, ev, jv (n : Int), (cut ev 1 0 n (slCap ev)), sv (rootH sha (es.take n)), .agg #[jv c, jv (n : Int), sv (rootH sha (es.take n)), sv ([] : By)], undef] Z Y ?_ ?_ ?_
 ·exact zV <| hqv (ac (v := pq w0.hz) rfl kr) <| hqw (fun Y => ld Y 1 rfl rfl (isAgg3 _) rfl) <| hqv (ay rfl) <| hqv (ac (v := pw2 w0.hz 1) rfl kr) <| hqw (fun Y => ld Y 1 rfl rfl (isAgg44 _) rfl) <| hqv (ay rfl) <| hqw (fun Y => dt (l := 0) (h := n) (Y.arg hev) rfl rfl rfl underlying44 kr (.inl ⟨rfl, rfl⟩) (.inr rfl) (ym _) Au) <| zT (fun _ _ Y => bF call123 rfl (mX (cut ev 1 0 n (slCap ev)) (es.take n) _ ((Y.arg hev).cut0 (h := n) AB) AD (fun k hk => yL (hel _ (y6 (bc hk))) de) (Y.keepb hk0))) <| hqv (aX (v := .agg #[jv c, jv (n : Int), sv (rootH sha (es.take n)), sv ([] : By)]) rfl kr) <| zT (fun h => absurd sm h) <| zU
 ·intro i hi
  simp only [xX, yc, yz] at hi
  subst hi
  ·intro w Y
   exact jJ (zeroValue47 _) (cs := [jv 0, jv 0, .string (⟨#[]⟩), .string (⟨#[]⟩)]) O
 clear Z Y
 rintro _ _ ⟨b4, rfl, -, rfl⟩ a w7 Z Y
 replace Z := Z.p5 34 8 0 6 7 O
 replace Y := Y.n3 O
 refine ab <| aM (k := 10) 11 [10] ?_
 refine az 0 Z Y [jv c, jv (n : Int), sv (rootH sha (es.take n)), sv ([] : By)] O (sizeOf47 _) fun a w8 Z Y => ab <| aT <| G4 ?_
 replace Y := Y.k2 3 O
 refine aa fun _ G5 => nv (Z.p4 0 6 7 8 O) <| xK O <| xJ (ao (Y.g 0 O) O (isAgg47 _) (sizeOf47 _)) <| fun a Z => aw Z Y call124 O (ma key (⟨c, (n : Int), rootH sha (es.take n), ([] : By)⟩ : Hd) _ zZ zZ (by first | assumption | exact ft cD _) om (Y.keepb hk0)) fun a w9 Z Y => wlv Z (ac (v := pw2 b4 3) O kr) fun a Z => az 0 Z Y [jv c, jv (n : Int), sv (rootH sha (es.take n)), sv (sealR sha key c (n : Int) (rootH sha (es.take n)))] O (sizeOf9 _) fun a w10 Z Y => G5 <| aa fun _ G6 => ?_
 refine wlv Z (ao (Y.g 0 O) O (isAgg47 _) (sizeOf47 _)) fun a Z => az 1 Z Y [jv c, jv (n : Int), sv (rootH sha (es.take n)), sv (sealR sha key c (n : Int) (rootH sha (es.take n)))] O (sizeOf47 _) fun a w11 Z Y => wla Z O fun a Z => G6 ?_
 replace Z := Z.p2 6 7 O
 replace Y := Y.k1 2 O
 refine ap <| am Z results73 (al O (bj (Y.g 0 O) (isAgg47 _) (sizeOf47 _)) (ag O ae)) ?_
 subst hhd
 exact ⟨O, Y.ext⟩
theorem tF (key : By) (hd : Hd) (w0 : World) (hk0 : (blk 0 (kOf.map wv) 258).ok w0) :
  Ret Tryz.prog 113 #[sv key, .agg #[jv hd.c, jv hd.n, sv hd.root, sv hd.tag]] w0 fun v w => v = .bool (genHd sha key hd) ∧ Ext No w0 w := by
 refine zM func113 O ntmps113 (lb O) fun a Z Y => ?_
 refine aa fun _ G1 => aS Z Y O [jv hd.c, jv hd.n, sv hd.root, sv hd.tag] O fun a w1 Z Y => wla Z O fun a Z => G1 <| aa fun _ G2 => ?_
 refine nv Z <| xJ (ac (v := pq w0.hz) O kr) <| xJ (ld Y 0 O O (isAgg3 _) O) <| fun a Z => aw Z Y call122 O (jP hd.c 0 7 _) fun a w2 Z Y => wlm Z O fun a Z => ?_
 rcases xU (inB hd.c 0 7) with hb1 | hb1
 ·rw [hb1] at Z
  have hcb := qt hb1
  have hc : small hd.c := by unfold small; omega
  refine nv Z <| xM (ac (v := pw2 w0.hz 1) O kr) <| xM (ld Y 0 O O (isAgg3 _) O) <| fun a Z => aF Z Y call122 O (jP hd.n 0 60 _) fun a w3 Z Y => nv Z <| xJ (ax O O) <| xK O <| fun a Z => ?_
  rcases xU (inB hd.n 0 60) with hb2 | hb2
  ·rw [hb2] at Z
   have hnb := qt hb2
   have hn : small hd.n := by unfold small; omega
   refine nv Z <| xM (ac (v := pw2 w0.hz 2) O kr) <| xM (ld Y 0 O O (isAgg9 _) O) <| xM (br O O (runUnderlying9 _)) <| xM (v_eq O O) <| xJ (ax O O) <| xL O <| fun a Z => G2 ?_
   replace Z := Z.p4 0 3 4 5 O
   refine ah fun _ G3 => aL (aN fun w4 hxz => ?_)
   replace Y := Y.grow hxz
   refine aM (k := 0) 6 [5] ?_
   refine wlm Z O fun a Z => aw Z Y call120 O (hZ key _) fun a w5 Z Y => wlm Z O fun a Z => ?_
   rcases Decidable.em ((key.length : Int) = 32) with hb3 | hb3
   ·rw [xS hb3] at Z
    refine nv Z <| xM (ay O) <| xJ (ax O O) <| xK O <| fun a Z => ab ?_
    rcases Decidable.em ((hd.root.length : Int) = 32) with hb4 | hb4
    ·rw [xS hb4] at Z
     have hr32 : hd.root.length = 32 := by omega
     refine aU (k := 6) 11 [7, 10] Z ?_
     refine bN 5 (Z.p10 0 3 4 5 20 21 22 23 24 25 O) Y <| pl_v (ac (v := pw2 w0.hz 3) O kr) <| pl_w (fun Y => ld Y 0 O O (isAgg9 _) O) <| pl_m O <| pl_w (fun Y => ao (Y.g 0 O) O (isAgg47 _) (sizeOf47 _)) <| pl_r (fun Y => bF call124 O (ma key hd _ zZ zZ (by first | assumption | exact ft cD _) om (Y.keepb hk0))) fun a w6 Z Y => ?_
     replace Z := Z.p3 25 27 30 O
     refine ab <| aM (k := 11) 14 [13] ?_
     refine nv Z <| xM (uW O O) <| xJ (ax O O) <| xL O <| fun a Z => ab <| aT <| G3 <| ap <| am Z results113 (ag O ae) ?_
     refine ⟨?_, Y.ext⟩
     simp only [retv]
     refine yr Value.bool ?_
     unfold genHd
     rw [hb1, hb2, show decide (hd.root.length = 32) = true from xS om, show decide (key.length = 32) = true from xS om]; rfl
    rw [xW hb4] at Z
    refine dr (k := 6) 11 [7, 10] (Z.p10 0 3 4 5 20 21 22 23 24 25 O) fun a Z => ?_
    replace Z := Z.p15 26 27 28 29 30 0 3 4 5 20 21 22 23 24 25 O
    refine aM (k := 11) 14 [13] ?_
    refine nv Z <| xN <| xJ (ak O O) <| xL O <| fun a Z => ab <| aT <| G3 ?_
    replace Z := Z.p1 4 O
    replace Y := Y.k0 0 O
    refine ap <| am Z results113 (ag O ae) ?_
    refine ⟨?_, Y.ext⟩
    simp only [retv]
    refine yr Value.bool ?_
    unfold genHd
    first | (rw [hb4]; simp; done) | (rw [hb3]; simp; done) | (rw [hb2]; simp; done) | (rw [hb1]; simp; done) | (rw [show decide (hd.root.length = 32) = false from xW om]; simp; done) | (rw [show decide (key.length = 32) = false from xW om]; rfl)
   rw [xW hb3] at Z
   refine nv Z <| xN <| xJ (ak O O) <| xK O <| fun a Z => ab <| dr (k := 6) 11 [7, 10] (Z.p10 0 3 4 5 20 21 22 23 24 25 O) fun a Z => ?_
   replace Z := Z.p15 26 27 28 29 30 0 3 4 5 20 21 22 23 24 25 O
   refine aM (k := 11) 14 [13] ?_
   refine nv Z <| xN <| xJ (ak O O) <| xL O <| fun a Z => ab <| aT <| G3 ?_
   replace Z := Z.p1 4 O
   replace Y := Y.k0 0 O
   refine ap <| am Z results113 (ag O ae) ?_
   refine ⟨?_, Y.ext⟩
   simp only [retv]
   refine yr Value.bool ?_
   unfold genHd
   first | (rw [hb3]; simp; done) | (rw [hb2]; simp; done) | (rw [hb1]; simp; done) | (rw [show decide (hd.root.length = 32) = false from xW om]; simp; done) | (rw [show decide (key.length = 32) = false from xW om]; rfl)
  rw [hb2] at Z
  refine nv Z <| xN <| xN <| xN <| xN <| xJ (ak O O) <| xL O <| fun a Z => G2 ?_
  replace Z := Z.p4 0 3 4 5 O
  refine ah fun _ G4 => aL (aN fun w7 hxz => ?_)
  replace Y := Y.grow hxz
  refine aM (k := 0) 6 [5] ?_
  refine wlm Z O fun a Z => aw Z Y call120 O (hZ key _) fun a w8 Z Y => wlm Z O fun a Z => ?_
  rcases Decidable.em ((key.length : Int) = 32) with hb5 | hb5
  ·rw [xS hb5] at Z
   refine nv Z <| xM (ay O) <| xJ (ax O O) <| xK O <| fun a Z => ab <| dr (k := 6) 11 [7, 10] (Z.p10 0 3 4 5 20 21 22 23 24 25 O) fun a Z => ?_
   replace Z := Z.p15 26 27 28 29 30 0 3 4 5 20 21 22 23 24 25 O
   refine aM (k := 11) 14 [13] ?_
   refine nv Z <| xN <| xJ (ak O O) <| xL O <| fun a Z => ab <| aT <| G4 ?_
   replace Z := Z.p1 4 O
   replace Y := Y.k0 0 O
   refine ap <| am Z results113 (ag O ae) ?_
   refine ⟨?_, Y.ext⟩
   simp only [retv]
   refine yr Value.bool ?_
   unfold genHd
   first | (rw [hb5]; simp; done) | (rw [hb2]; simp; done) | (rw [hb1]; simp; done) | (rw [show decide (hd.root.length = 32) = false from xW om]; simp; done) | (rw [show decide (key.length = 32) = false from xW om]; rfl)
  rw [xW hb5] at Z
  refine nv Z <| xN <| xJ (ak O O) <| xK O <| fun a Z => ab <| dr (k := 6) 11 [7, 10] (Z.p10 0 3 4 5 20 21 22 23 24 25 O) fun a Z => ?_
  replace Z := Z.p15 26 27 28 29 30 0 3 4 5 20 21 22 23 24 25 O
  refine aM (k := 11) 14 [13] ?_
  refine nv Z <| xN <| xJ (ak O O) <| xL O <| fun a Z => ab <| aT <| G4 ?_
  replace Z := Z.p1 4 O
  replace Y := Y.k0 0 O
  refine ap <| am Z results113 (ag O ae) ?_
  refine ⟨?_, Y.ext⟩
  simp only [retv]
  refine yr Value.bool ?_
  unfold genHd
  first | (rw [hb5]; simp; done) | (rw [hb2]; simp; done) | (rw [hb1]; simp; done) | (rw [show decide (hd.root.length = 32) = false from xW om]; simp; done) | (rw [show decide (key.length = 32) = false from xW om]; rfl)
 rw [hb1] at Z
 refine nv Z <| xN <| xN <| xN <| xJ (ak O O) <| xK O <| xN <| xN <| xN <| xN <| xJ (ak O O) <| xL O <| fun a Z => G2 ?_
 replace Z := Z.p4 0 3 4 5 O
 refine ah fun _ G5 => aL (aN fun w9 hxz => ?_)
 replace Y := Y.grow hxz
 refine aM (k := 0) 6 [5] ?_
 refine wlm Z O fun a Z => aw Z Y call120 O (hZ key _) fun a w10 Z Y => wlm Z O fun a Z => ?_
 rcases Decidable.em ((key.length : Int) = 32) with hb6 | hb6
 ·rw [xS hb6] at Z
  refine nv Z <| xM (ay O) <| xJ (ax O O) <| xK O <| fun a Z => ab <| dr (k := 6) 11 [7, 10] (Z.p10 0 3 4 5 20 21 22 23 24 25 O) fun a Z => ?_
  replace Z := Z.p15 26 27 28 29 30 0 3 4 5 20 21 22 23 24 25 O
  refine aM (k := 11) 14 [13] ?_
  refine nv Z <| xN <| xJ (ak O O) <| xL O <| fun a Z => ab <| aT <| G5 ?_
  replace Z := Z.p1 4 O
  replace Y := Y.k0 0 O
  refine ap <| am Z results113 (ag O ae) ?_
  refine ⟨?_, Y.ext⟩
  simp only [retv]
  refine yr Value.bool ?_
  unfold genHd
  first | (rw [hb6]; simp; done) | (rw [hb1]; simp; done) | (rw [show decide (hd.root.length = 32) = false from xW om]; simp; done) | (rw [show decide (key.length = 32) = false from xW om]; rfl)
 rw [xW hb6] at Z
 refine nv Z <| xN <| xJ (ak O O) <| xK O <| fun a Z => ab <| dr (k := 6) 11 [7, 10] (Z.p10 0 3 4 5 20 21 22 23 24 25 O) fun a Z => ?_
 replace Z := Z.p15 26 27 28 29 30 0 3 4 5 20 21 22 23 24 25 O
 refine aM (k := 11) 14 [13] ?_
 refine nv Z <| xN <| xJ (ak O O) <| xL O <| fun a Z => ab <| aT <| G5 ?_
 replace Z := Z.p1 4 O
 replace Y := Y.k0 0 O
 refine ap <| am Z results113 (ag O ae) ?_
 refine ⟨?_, Y.ext⟩
 simp only [retv]
 refine yr Value.bool ?_
 unfold genHd
 first | (rw [hb6]; simp; done) | (rw [hb1]; simp; done) | (rw [show decide (hd.root.length = 32) = false from xW om]; simp; done) | (rw [show decide (key.length = 32) = false from xW om]; rfl)
theorem qR {n : Int} : ∀ {l : List Int} {p : Int} {k : Nat}, ascI n p l = true → k < l.length → p < l.getD k 0 ∧ l.getD k 0 < n ∧ (0 < k → l.getD (k - 1) 0 < l.getD k 0)
 | [], p, k, h, hk => absurd hk (zC _)
 | i :: l, p, k, h, hk => by
  rw [ascI, xP, xP, xT, xT] at h
  cases k with
  | zero => exact ⟨h.1.1, h.1.2, fun h => absurd h (zq 0)⟩
  | succ k =>
   obtain ⟨h1, h2, h3⟩ := qR (k := k) h.2 Br
   refine ⟨by show p < l.getD k 0; omega, h2, fun _ => ?_⟩
   show (i :: l).getD k 0 < l.getD k 0
   cases k with
   | zero => exact h1
   | succ k => exact h3 (Nat.succ_pos _)
theorem lI {es : List By} {n k i : Nat} {ix : List Int} {L : List Itw} {pv : Value} (hL : itsM L = showIs sha es n (ix.take k)) (hk : k < ix.length) (hi : ix.getD k 0 = (i : Int)) :
  itsM (L ++ [⟨⟨(i : Int), es.getD i [], proofH sha (es.take n) i⟩, pv⟩]) = showIs sha es n (ix.take (k + 1)) := by
 rw [cz 0 hk, showIs, yU, ← showIs, ← hL, itsM, yU, hi]
 simp only [itsM, yQ, zu, itmAt, yM]
theorem wr {es : List By} {n : Nat} {ix : List Int} {L : List Itw} (hL : itsM L = showIs sha es n ix) (hn : n ≤ 60) : ∀ x ∈ L, x.m.pf.length ≤ 6 := by
 intro x hx
 have hm : x.m ∈ showIs sha es n ix := by rw [← hL]; exact yD.2 ⟨x, hx, rfl⟩
 obtain ⟨i, _, he⟩ := dH hm
 rw [he]
 exact rL _ (es.take n) i.toNat 6 O AD
def prevX (L : List Itw) : Nat → Int
 | 0 => -1
 | k + 1 => (L.getD k Itw.z).m.ix
theorem rr {L : List Itw} {k : Nat} (h : 0 < k) : prevX L k = (L.getD (k - 1) Itw.z).m.ix := by
 cases k with
 | zero => exact absurd h (zq 0)
 | succ k => rfl
section
variable {L : List Itw} {k : Nat} {root : By} {n p : Int} {x : Itw}
theorem fy (hk : k < L.length) (hx : L.getD k Itw.z = x) : chkIs sha root n p ((itsM L).drop k) = (decide (p < x.m.ix) && decide (x.m.e.length ≤ 1000) && cC sha root n x.m.ix x.m.e x.m.pf && chkIs sha root n x.m.ix ((itsM L).drop (k + 1))) := by
 rw [rG hk, hx, chkIs]
theorem oR (hk : k < L.length) (hx : L.getD k Itw.z = x) (h1 : p < x.m.ix) (h2 : x.m.e.length ≤ 1000) (h3 : cC sha root n x.m.ix x.m.e x.m.pf = true) : chkIs sha root n p ((itsM L).drop k) = chkIs sha root n (prevX L (k + 1)) ((itsM L).drop (k + 1)) := by
 rw [fy hk hx, xS h1, xS h2, h3, prevX, hx]; rfl
end
theorem iU (key : By) (n : Nat) (hd : Hd) (lv : Value) (ix : List Int) (c : Int) (ev : Value) (es : List By) (w0 : World) (hev : SlAt w0 ev 1 (es.map fun s => [sv s])) (hlv : SlAt w0 lv 1 ((ix).map fun n => [jv n])) (hk32 : key.length = 32) (hr : regOk c es = true) (hn : n ≤ es.length) (hix : ascI (n : Int) (-1) ix = true) (hil : ix.length ≤ 1000) (hhd : hdOf sha key c es n = hd) (hk0 : (blk 0 (kOf.map wv) 258).ok w0) :
  Ret Tryz.prog 26 #[sv key, .agg #[jv c, ev], jv (n : Int), lv] w0 (MemR w0 (fun x : Value × List Itw => .tuple #[.agg #[jv hd.c, jv hd.n, sv hd.root, sv hd.tag, x.1], jv 0]) (fun x => [itsE x.1 x.2]) (fun x => itsM x.2 = showIs sha es n ix)) := by
 obtain ⟨hrc0, hrc1, hrl, hel⟩ := fc hr
 have hxb := hlv.2.1
 simp only [xO, big] at hxb
 refine zP func26 O ntmps26 (lb O) fun a Z Y => ?_
 refine aa fun _ G1 => aS Z Y O [jv c, ev] O fun a w1 Z Y => aD Z Y (zeroValue50 _) [jv 0, jv 0, .string (⟨#[]⟩), .string (⟨#[]⟩), .slice none 0 0] O fun a w2 Z Y => wla Z O fun a Z => G1 <| aa fun _ G2 => ?_
 refine nv Z <| xK O <| xJ (ao (Y.g 1 O) O (isAgg75 _) (sizeOf75 _)) <| xK O <| fun a Z => aw Z Y call73 O (mH key n hd c ev es _ (Y.arg hev) hk32 hr hn hhd (Y.keepb hk0)) fun a w3 Z Y => nv Z <| xK O <| xJ (aq O O) <| xJ (aq O O) <| fun a Z => aD Z Y (zeroValue47 _) [jv 0, jv 0, .string (⟨#[]⟩), .string (⟨#[]⟩)] O fun a w4 Z Y => az 0 Z Y [jv hd.c, jv hd.n, sv hd.root, sv hd.tag] O (sizeOf47 _) fun a w5 Z Y => wla Z O fun a Z => G2 ?_
 refine ah fun _ G3 => aa fun _ G4 => nv (Z.p7 2 3 5 8 9 10 11 O) <| xK O <| xJ ((v_ne O O).asb (b' := false) O) <| fun a Z => G4 <| aG Z O ?_
 refine au <| G3 <| aa fun _ G5 => nv Z <| xJ (ao (Y.g 0 O) O (isAgg47 _) (sizeOf47 _)) <| xJ (aX (v := .agg #[jv hd.c, jv hd.n, sv hd.root, sv hd.tag, .slice none 0 0]) O kr) <| fun a Z => aD Z Y (zeroValue50 _) [jv 0, jv 0, .string (⟨#[]⟩), .string (⟨#[]⟩), .slice none 0 0] O fun a w6 Z Y => az 0 Z Y [jv hd.c, jv hd.n, sv hd.root, sv hd.tag, .slice none 0 0] O (sizeOf50 _) fun a w7 Z Y => G5 ?_
 replace Y := Y.k3 13 O
 refine ah fun _ G6 => aa fun _ G7 => nv (Z.p6 2 3 5 8 9 12 O) <| xK O <| xJ ((aI (sT := 24) (Y.arg hlv) O O (runUnderlying24 _)).asi (m' := (ix.length : Int)) Ai) <| xK O <| fun a Z => G7 <| ar ?_
 replace Y : St No w0 [own (.slice none 0 0) 110 3 (([]).map Itw.cells), blk w5.hz [jv hd.c, jv hd.n, sv hd.root, sv hd.tag, .slice none 0 0] 50, blk w1.hz [jv 0, jv 0, .string (⟨#[]⟩), .string (⟨#[]⟩), .slice none 0 0] 50, blk w0.hz [jv c, ev] 75] w7 := Y.nil_own
 replace Y : St No w0 [pfsE ([]), own (.slice none 0 0) 110 3 (([]).map Itw.cells), blk w5.hz [jv hd.c, jv hd.n, sv hd.root, sv hd.tag, .slice none 0 0] 50, blk w1.hz [jv 0, jv 0, .string (⟨#[]⟩), .string (⟨#[]⟩), .slice none 0 0] 50, blk w0.hz [jv c, ev] 75] w7 := ww Y
 refine aW (fun m a w => ∃ (k : Nat) (vi : Value) (L : List Itw), m = ix.length - k ∧ (k ≤ ix.length) ∧ (itsM L = showIs sha es n (ix.take k)) ∧ Fr 77 [(2, jv (n : Int)), (3, lv), (5, pq w0.hz), (8, pq w1.hz), (12, pq w5.hz), (30, lv), (31, jv (ix.length : Int)), (32, jv (k : Int))] [] a ∧ St No w0 [own vi 110 3 ((L).map Itw.cells), pfsE L, blk w5.hz [jv hd.c, jv hd.n, sv hd.root, sv hd.tag, vi] 50, blk w1.hz [jv 0, jv 0, .string (⟨#[]⟩), .string (⟨#[]⟩), .slice none 0 0] 50, blk w0.hz [jv c, ev] 75] w) _ ⟨0, .slice none 0 0, [], O, ym _, O, Z.pick [2, 3, 5, 8, 12, 30, 31, 32], Y.select [1, 0, 2, 3, 4] de⟩ ?_
 rintro _ a w8 ⟨k, vi, L, rfl, hk, hL, Z, Y⟩
 refine aa fun _ G8 => wlv Z (v_lt O O) fun a Z => G8 <| ah fun _ G9 => ?_
 refine aA Z O (fun hc1 => ?_) (fun hc1 => ?_)
 ·have hkx : k < ix.length := by omega
  refine au <| G9 <| ah fun _ G10 => ar ?_
  obtain ⟨hia, hib, hic⟩ := qR hix (k := k) hkx
  obtain ⟨iq, hki⟩ : ∃ iq : Nat, ix.getD k 0 = (iq : Int) := ⟨(ix.getD k 0).toNat, by omega⟩
  rw [hki] at hia hib hic
  refine aa fun _ G11 => nv Z <| xK O <| xJ ((aj (i := (k : Int)) (sT := 24) (Y.arg hlv) O O (runUnderlying24 _) (sizeOf3 _) om zY).as (v' := slAddr lv (k * 1)) O) <| xJ (aB (u := jv (iq : Int)) (i := k) (j := 0) (Y.arg hlv) zY O (isAgg3 _) (by rw [bn (0 : Int), hki]; rfl)) <| xL O <| xL O <| fun a Z => G11 <| aa fun _ G12 => ?_
  refine nv Z <| xJ (ac (v := pw2 w0.hz 1) O kr) <| xJ (ld Y 4 O O (isAgg44 _) O) <| xK O <| xJ (dt (l := 0) (h := n) (Y.arg hev) O O O underlying44 kr (.inl ⟨O, O⟩) (.inr O) (ym _) Au) <| xK O <| fun a Z => bD Z Y call75 O (tO (cut ev 1 0 n (slCap ev)) (es.take n) iq _ ((Y.arg hev).cut0 (h := n) AB) AD AD (fun s h => yL (hel _ (y6 h)) de) (Y.keepb hk0)) fun a w9 x3 hp Z Y => ?_
  revert x3 hp Z Y; rintro pv2 hp Z Y
  clear hp
  replace Y := Y.n6 O
  refine nv Z <| xK O <| xJ (aq O O) <| xJ (aq O O) <| xL O <| xL O <| fun a Z => G12 ?_
  refine ah fun _ G13 => aa fun _ G14 => nv (Z.p12 2 3 5 8 12 30 31 32 13 14 15 16 O) <| xK O <| xJ ((v_ne O O).asb (b' := false) O) <| xK O <| xM (ay O) <| xM (v_gt O O) <| xM (ay O) <| fun a Z => ?_
  rcases Decidable.em (0 < (k : Int)) with hb4 | hb4
  ·rw [xS hb4] at Z
   have hic := hic om
   refine nv Z <| xM (ay O) <| xM (ay O) <| xM (ay O) <| xM (bH O O ⟨om, om⟩) <| xM ((aj (i := (k : Int) - 1) (sT := 24) (Y.arg hlv) O O (runUnderlying24 _) (sizeOf3 _) om zY).as (v' := slAddr lv ((k - 1) * 1)) AL) <| xM (aB (u := jv (ix.getD (k - 1) 0)) (i := (k - 1)) (j := 0) (Y.arg hlv) zY O (isAgg3 _) Bb) <| xM ((v_le O O).asb (b' := false) A5) <| xM (ax O O) <| xJ (ak O O) <| fun a Z => G14 ?_
   replace Z := Z.p11 2 3 5 8 12 30 31 32 14 15 60 O
   refine aG Z O ?_
   refine au <| G13 <| aL (aN fun w10 hxz => ?_)
   replace Y := Y.grow hxz
   refine aU (k := 0) 11 [1, 10] Z ?_
   replace Z := Z.p11 2 3 5 8 12 30 31 32 14 15 60 O
   refine bO [10] (fun i => match i with | 10 => pm (fun b : Nat => .slice (some ⟨b, 0, none⟩) 1 1) (fun b => [own (.slice (some ⟨b, 0, none⟩) 1 1) 110 3 [[jv (iq : Int), sv ((es).getD iq []), pv2]]]) (fun _ => True) | _ => fun _ _ => False) 11 [[], [0], [], [], [3], [], [4, 5], [6], [], [2, 7, 8], [9]] [pw2 w5.hz 4, vi, jv (iq : Int), pw2 w0.hz 1, ev, jv (iq : Int), slAddr ev (iq * 1), sv ((es).getD iq []), pv2, .agg #[jv (iq : Int), sv ((es).getD iq []), pv2], undef] Z Y ?_ ?_ ?_
   ·exact zV <| hqv (ac (v := pw2 w5.hz 4) rfl kr) <| hqw (fun Y => ld Y 3 rfl rfl (isAgg48 _) rfl) <| hqv (ay rfl) <| hqv (ac (v := pw2 w0.hz 1) rfl kr) <| hqw (fun Y => ld Y 5 rfl rfl (isAgg44 _) rfl) <| hqv (ay rfl) <| hqw (fun Y => (aj (i := (iq : Int)) (sT := 44) (Y.arg hev) rfl rfl (runUnderlying44 _) (sizeOf9 _) om zY).as (v' := slAddr ev (iq * 1)) Ap) <| hqw (fun Y => aB (u := sv ((es).getD iq [])) (i := iq) (j := 0) (Y.arg hev) zY rfl (isAgg9 _) BD) <| hqv (ay rfl) <| hqw (fun Y => aX (v := .agg #[jv (iq : Int), sv ((es).getD iq []), pv2]) rfl BE) <| zT (fun h => absurd sm h) <| zU
   ·intro i hi
    simp only [xX, yc, yz] at hi
    subst hi
    ·intro w Y
     exact bR (E := 110) (sz := 3) O [[jv (iq : Int), sv ((es).getD iq []), pv2]] (fun _ => by obtain ⟨_, _, _, e0_⟩ := cX (Y.ow 0 rfl); rw [e0_]; kernel_rfl) sm O de
   clear Z Y
   rintro _ _ ⟨b5, rfl, -, rfl⟩ a w11 Z Y
   replace Z := Z.p10 63 72 2 3 5 8 12 30 31 32 O
   replace Y := Y.n7 O
   refine ab <| aM (k := 11) 14 [13] ?_
   refine aY (i := 2) (sT := 48) (inf := Tryz.t110) (z := .agg #[jv 0, .string (⟨#[]⟩), .slice none 0 0]) (b := 0) (off := 0) (m := 0) (c := 0) O O O (Y.ow 0 O) sm underlying48 O O O O de Bd Aj Aj de Z Y fun a w12 s6 Z Y _ => ?_
   replace Y : St No w0 [own (.slice (some ⟨b5, 0, none⟩) 1 1) 110 3 ([[jv (iq : Int), sv ((es).getD iq []), pv2]]), own pv2 9 1 ((proofH sha (es.take n) iq).map fun s => [sv s]), own s6 110 3 (((L ++ [(⟨⟨(iq : Int), es.getD iq [], proofH sha (es.take n) iq⟩, pv2⟩ : Itw)])).map Itw.cells), pfsE L, blk w5.hz [jv hd.c, jv hd.n, sv hd.root, sv hd.tag, vi] 50, blk w1.hz [jv 0, jv 0, .string (⟨#[]⟩), .string (⟨#[]⟩), .slice none 0 0] 50, blk w0.hz [jv c, ev] 75] w12 := by rw [show (((L ++ [(⟨⟨(iq : Int), es.getD iq [], proofH sha (es.take n) iq⟩, pv2⟩ : Itw)])).map Itw.cells) = ((L).map Itw.cells) ++ ([[jv (iq : Int), sv ((es).getD iq []), pv2]]) from by rw [yU]; rfl]; exact Y
   refine wlv Z (ac (v := pw2 w5.hz 4) O kr) fun a Z => cf 4 Z Y (Y.ow 2 O) O O O (sizeOf48 _) (lb O) (ds := [jv hd.c, jv hd.n, sv hd.root, sv hd.tag, s6]) O O fun a w13 Z Y => ab <| aT <| G10 ?_
   replace Y := Y.k6 126 O
   refine ai <| nv (Z.p8 2 3 5 8 12 30 31 32 O) <| xJ (aP O O ⟨om, om⟩) <| xK O <| fun a Z => ab ?_
   replace Y := Y.s6 [0, 2, 1, 3, 4, 5] de rfl
   replace Y : St No w0 [pfsE (L ++ [(⟨⟨(iq : Int), es.getD iq [], proofH sha (es.take n) iq⟩, pv2⟩ : Itw)]), own s6 110 3 (((L ++ [(⟨⟨(iq : Int), es.getD iq [], proofH sha (es.take n) iq⟩, pv2⟩ : Itw)])).map Itw.cells), blk w5.hz [jv hd.c, jv hd.n, sv hd.root, sv hd.tag, s6] 50, blk w1.hz [jv 0, jv 0, .string (⟨#[]⟩), .string (⟨#[]⟩), .slice none 0 0] 50, blk w0.hz [jv c, ev] 75] w13 := og ⟨⟨(iq : Int), es.getD iq [], proofH sha (es.take n) iq⟩, pv2⟩ Y
   refine ⟨_, ?_, k + 1, s6, (L ++ [(⟨⟨(iq : Int), es.getD iq [], proofH sha (es.take n) iq⟩, pv2⟩ : Itw)]), O, om, (lI hL hkx hki), Z.pick [2, 3, 5, 8, 12, 30, 31, 32], Y.select [1, 0, 2, 3, 4] de⟩
   omega
  rw [xW hb4] at Z
  refine nv Z <| xN <| xN <| xN <| xN <| xN <| xN <| xN <| xM (ak O O) <| xJ (ak O O) <| fun a Z => G14 ?_
  replace Z := Z.p11 2 3 5 8 12 30 31 32 14 15 60 O
  refine aG Z O ?_
  refine au <| G13 <| aL (aN fun w14 hxz => ?_)
  replace Y := Y.grow hxz
  refine aU (k := 0) 11 [1, 10] Z ?_
  replace Z := Z.p11 2 3 5 8 12 30 31 32 14 15 60 O
  refine bO [10] (fun i => match i with | 10 => pm (fun b : Nat => .slice (some ⟨b, 0, none⟩) 1 1) (fun b => [own (.slice (some ⟨b, 0, none⟩) 1 1) 110 3 [[jv (iq : Int), sv ((es).getD iq []), pv2]]]) (fun _ => True) | _ => fun _ _ => False) 11 [[], [0], [], [], [3], [], [4, 5], [6], [], [2, 7, 8], [9]] [pw2 w5.hz 4, vi, jv (iq : Int), pw2 w0.hz 1, ev, jv (iq : Int), slAddr ev (iq * 1), sv ((es).getD iq []), pv2, .agg #[jv (iq : Int), sv ((es).getD iq []), pv2], undef] Z Y ?_ ?_ ?_
  ·exact zV <| hqv (ac (v := pw2 w5.hz 4) rfl kr) <| hqw (fun Y => ld Y 3 rfl rfl (isAgg48 _) rfl) <| hqv (ay rfl) <| hqv (ac (v := pw2 w0.hz 1) rfl kr) <| hqw (fun Y => ld Y 5 rfl rfl (isAgg44 _) rfl) <| hqv (ay rfl) <| hqw (fun Y => (aj (i := (iq : Int)) (sT := 44) (Y.arg hev) rfl rfl (runUnderlying44 _) (sizeOf9 _) om zY).as (v' := slAddr ev (iq * 1)) Ap) <| hqw (fun Y => aB (u := sv ((es).getD iq [])) (i := iq) (j := 0) (Y.arg hev) zY rfl (isAgg9 _) BD) <| hqv (ay rfl) <| hqw (fun Y => aX (v := .agg #[jv (iq : Int), sv ((es).getD iq []), pv2]) rfl BE) <| zT (fun h => absurd sm h) <| zU
  ·intro i hi
   simp only [xX, yc, yz] at hi
   subst hi
   ·intro w Y
    exact bR (E := 110) (sz := 3) O [[jv (iq : Int), sv ((es).getD iq []), pv2]] (fun _ => by obtain ⟨_, _, _, e0_⟩ := cX (Y.ow 0 rfl); rw [e0_]; kernel_rfl) sm O de
  clear Z Y
  rintro _ _ ⟨b7, rfl, -, rfl⟩ a w15 Z Y
  replace Z := Z.p10 63 72 2 3 5 8 12 30 31 32 O
  replace Y := Y.n7 O
  refine ab <| aM (k := 11) 14 [13] ?_
  refine aY (i := 2) (sT := 48) (inf := Tryz.t110) (z := .agg #[jv 0, .string (⟨#[]⟩), .slice none 0 0]) (b := 0) (off := 0) (m := 0) (c := 0) O O O (Y.ow 0 O) sm underlying48 O O O O de Bd Aj Aj de Z Y fun a w16 s8 Z Y _ => ?_
  replace Y : St No w0 [own (.slice (some ⟨b7, 0, none⟩) 1 1) 110 3 ([[jv (iq : Int), sv ((es).getD iq []), pv2]]), own pv2 9 1 ((proofH sha (es.take n) iq).map fun s => [sv s]), own s8 110 3 (((L ++ [(⟨⟨(iq : Int), es.getD iq [], proofH sha (es.take n) iq⟩, pv2⟩ : Itw)])).map Itw.cells), pfsE L, blk w5.hz [jv hd.c, jv hd.n, sv hd.root, sv hd.tag, vi] 50, blk w1.hz [jv 0, jv 0, .string (⟨#[]⟩), .string (⟨#[]⟩), .slice none 0 0] 50, blk w0.hz [jv c, ev] 75] w16 := by rw [show (((L ++ [(⟨⟨(iq : Int), es.getD iq [], proofH sha (es.take n) iq⟩, pv2⟩ : Itw)])).map Itw.cells) = ((L).map Itw.cells) ++ ([[jv (iq : Int), sv ((es).getD iq []), pv2]]) from by rw [yU]; rfl]; exact Y
  refine wlv Z (ac (v := pw2 w5.hz 4) O kr) fun a Z => cf 4 Z Y (Y.ow 2 O) O O O (sizeOf48 _) (lb O) (ds := [jv hd.c, jv hd.n, sv hd.root, sv hd.tag, s8]) O O fun a w17 Z Y => ab <| aT <| G10 ?_
  replace Y := Y.k6 126 O
  refine ai <| nv (Z.p8 2 3 5 8 12 30 31 32 O) <| xJ (aP O O ⟨om, om⟩) <| xK O <| fun a Z => ab ?_
  replace Y := Y.s6 [0, 2, 1, 3, 4, 5] de rfl
  replace Y : St No w0 [pfsE (L ++ [(⟨⟨(iq : Int), es.getD iq [], proofH sha (es.take n) iq⟩, pv2⟩ : Itw)]), own s8 110 3 (((L ++ [(⟨⟨(iq : Int), es.getD iq [], proofH sha (es.take n) iq⟩, pv2⟩ : Itw)])).map Itw.cells), blk w5.hz [jv hd.c, jv hd.n, sv hd.root, sv hd.tag, s8] 50, blk w1.hz [jv 0, jv 0, .string (⟨#[]⟩), .string (⟨#[]⟩), .slice none 0 0] 50, blk w0.hz [jv c, ev] 75] w17 := og ⟨⟨(iq : Int), es.getD iq [], proofH sha (es.take n) iq⟩, pv2⟩ Y
  refine ⟨_, ?_, k + 1, s8, (L ++ [(⟨⟨(iq : Int), es.getD iq [], proofH sha (es.take n) iq⟩, pv2⟩ : Itw)]), O, om, (lI hL hkx hki), Z.pick [2, 3, 5, 8, 12, 30, 31, 32], Y.select [1, 0, 2, 3, 4] de⟩
  omega
 obtain rfl : k = ix.length := by omega
 rw [List.take_length] at hL
 refine aO <| G6 <| aa fun _ G15 => wlv Z (ao (Y.g 2 O) O (isAgg50 _) (sizeOf50 _)) fun a Z => bp (us := [jv hd.c, jv hd.n, sv hd.root, sv hd.tag, vi]) 3 Z Y O O O (sizeOf50 _) (by intro z hz; simp only [xX, yc, yz] at hz; rcases hz with rfl | rfl | rfl | rfl | rfl <;> first | rfl | exact SlAt.one (Y.ow 0 rfl)) (lb O) (ds := [jv hd.c, jv hd.n, sv hd.root, sv hd.tag, vi]) O O fun a w18 Z Y => ?_
 refine wla Z O fun a Z => G15 ?_
 replace Z := Z.p2 8 9 O
 replace Y := Y.k3 11 O
 refine ap <| am Z results26 (al O (bj (Y.g 2 O) (isAgg50 _) (sizeOf50 _)) (ag O ae)) ?_
 replace Y := Y.s3 [0, 1, 2] de rfl
 replace Y : St No w0 [itsE vi L, blk w1.hz [jv hd.c, jv hd.n, sv hd.root, sv hd.tag, vi] 50] w18 := xu Y
 exact ⟨(vi, L), O, hL, Y.ext, St.out (E := [itsE vi L]) (H := []) (Y.select [0] de)⟩
theorem eQ (key : By) (hd : Hd) (iv : Value) (L : List Itw) (w0 : World) (hiv : ItsAt w0 iv L) (hpf : ∀ x ∈ L, x.m.pf.length ≤ 1000) (hk0 : (blk 0 (kOf.map wv) 258).ok w0) :
  Ret Tryz.prog 52 #[sv key, .agg #[jv hd.c, jv hd.n, sv hd.root, sv hd.tag, iv]] w0 fun v w => v = .bool (checkP sha key hd (itsM L)) ∧ Ext No w0 w := by
 have hxb := hiv.len
 refine zM func52 O ntmps52 (lb O) fun a Z Y => ?_
 refine aa fun _ G1 => aS Z Y O [jv hd.c, jv hd.n, sv hd.root, sv hd.tag, iv] O fun a w1 Z Y => wla Z O fun a Z => G1 <| ah fun _ G2 => ?_
 refine aa fun _ G3 => nv Z <| xK O <| xJ (ac (v := pq w0.hz) O kr) <| xJ (bQ (ds := [jv hd.c, jv hd.n, sv hd.root, sv hd.tag]) (Y.g 0 O) O (isAgg47 _) (sizeOf47 _) O) <| fun a Z => aw Z Y call113 O (tF key hd _ (Y.keepb hk0)) fun a w2 Z Y => wlv Z (bE O) fun a Z => G3 ?_
 replace Z := Z.p3 3 4 12 O
 refine bt Z O (fun hc1 => ?_) (fun hc1 => ?_)
 ·try simp only [qz] at hc1
  have hgn : genHd sha key hd = false := by simpa using hc1
  refine aa fun _ G4 => wla Z O fun a Z => G4 <| ap ?_
  refine am Z results52 (ag O ae) ?_
  refine ⟨?_, Y.ext⟩
  simp only [retv]
  refine yr Value.bool ?_
  unfold checkP
  rw [hgn]; rfl
 try simp only [qz] at hc1
 have hgn : genHd sha key hd = true := by simpa using hc1
 have hgb : hd.n ≤ 60 := by have h := hgn; unfold genHd inB at h; simp only [xP, xT] at h; omega
 refine au <| G2 <| ah fun _ G5 => aa fun _ G6 => nv Z <| xJ (ac (v := pw2 w0.hz 4) O kr) <| xJ (ld Y 0 O O (isAgg48 _) O) <| xJ ((aI (sT := 48) (Y.arg hiv.1) O O (runUnderlying48 _)).asi (m' := (L.length : Int)) Ai) <| xK O <| fun a Z => G6 <| ar ?_
 refine aW (fun m a w => ∃ (k : Nat), m = L.length - k ∧ (k ≤ L.length) ∧ (chkIs sha hd.root hd.n (-1) (itsM L) = chkIs sha hd.root hd.n (prevX L k) ((itsM L).drop k)) ∧ Fr 60 [(3, pq w0.hz), (14, iv), (15, jv (L.length : Int)), (16, jv (k : Int))] [] a ∧ St No w0 [blk w0.hz [jv hd.c, jv hd.n, sv hd.root, sv hd.tag, iv] 50] w) _ ⟨0, O, ym _, O, Z.pick [3, 14, 15, 16], Y.select [0] de⟩ ?_
 rintro _ a w3 ⟨k, rfl, hk, hs, Z, Y⟩
 refine aa fun _ G7 => wlv Z (v_lt O O) fun a Z => G7 <| ah fun _ G8 => ?_
 refine aA Z O (fun hc2 => ?_) (fun hc2 => ?_)
 ·have hkx : k < L.length := by omega
  refine au <| G8 <| ah fun _ G9 => ar ?_
  obtain ⟨⟨⟨ix, e, pf⟩, pv⟩, hx⟩ : ∃ x, L.getD k Itw.z = x := ⟨_, rfl⟩
  have hxm := bc (d := Itw.z) hkx
  rw [hx] at hxm
  have hpv : SlAt w0 pv 1 (pf.map fun s => [sv s]) := hiv.2 _ hxm
  have hpl : pf.length ≤ 1000 := hpf _ hxm
  refine aa fun _ G10 => nv Z <| xK O <| xJ ((aj (i := (k : Int)) (sT := 48) (Y.arg hiv.1) O O (runUnderlying48 _) (sizeOf110 _) om zY).as (v' := slAddr iv (k * 3)) O) <| xJ ((bP (Y.arg hiv.1) (i := k) zY O (isAgg110 _) (sizeOf110 _)).as (v' := .agg #[jv ix, sv e, pv]) (by rw [bn Itw.z, hx]; rfl)) <| fun a Z => aD Z Y (zeroValue110 _) [jv 0, .string (⟨#[]⟩), .slice none 0 0] O fun a w4 Z Y => wla Z O fun a Z => bp (us := [jv ix, sv e, pv]) 0 Z Y O O O (sizeOf110 _) (by intro z hz; simp only [xX, yc, yz] at hz; rcases hz with rfl | rfl | rfl <;> first | rfl | exact SlAt.one (Y.arg hpv)) (lb O) (ds := [jv ix, sv e, pv]) O O fun a w5 Z Y => ?_
  refine G10 <| ah fun _ G11 => ?_
  refine aL (aN fun w6 hxz => ?_)
  replace Y := Y.grow hxz
  refine aM (k := 0) 3 [2] ?_
  refine nv Z <| xK O <| xJ (v_eq O O) <| xK O <| fun a Z => ab ?_
  rcases Decidable.em ((k : Int) = 0) with hb3 | hb3
  ·rw [xS hb3] at Z
   have hk0e : k = 0 := by omega
   refine dr (k := 3) 12 [9, 11] (Z.p12 3 14 15 16 18 19 20 6 5 21 22 23 O) fun a Z => ?_
   replace Z : Fr 60 [(24, undef), (25, undef), (26, undef), (27, undef), (28, undef), (29, undef), (30, undef), (31, undef), (32, undef), (3, pq w0.hz), (14, iv), (15, jv (L.length : Int)), (16, jv (k : Int)), (18, jv (k : Int)), (19, slAddr iv (k * 3)), (20, .agg #[jv ix, sv e, pv]), (6, pq w3.hz), (5, jv (k : Int)), (21, jv (k : Int)), (22, .bool true), (23, .bool true)] [] a := Z
   refine aM (k := 12) 15 [14] ?_
   refine nv Z <| xN <| xJ (ax O O) <| xL O <| fun a Z => ab <| aT <| G11 ?_
   refine aa fun _ G12 => nv (Z.p6 3 14 15 16 6 7 O) <| xK O <| xJ ((bE O).asb (b' := false) O) <| xK O <| xM (ac (v := pw2 w3.hz 1) O kr) <| xM (ld Y 0 O O (isAgg9 _) O) <| xM (br O O (runUnderlying9 _)) <| xM (v_gt O O) <| xJ (ak O O) <| xK O <| fun a Z => ?_
   rcases Decidable.em (1000 < (e.length : Int)) with hb4 | hb4
   ·rw [xS hb4] at Z
    have hbad : chkIs sha hd.root hd.n (-1) (itsM L) = false := by rw [hs, fy hkx hx]; rw [xW (show ¬ e.length ≤ 1000 by omega), yR]; rfl
    refine nv Z <| xN <| xN <| xN <| xN <| xN <| xN <| xN <| xN <| xN <| xN <| xN <| xN <| xN <| xN <| xJ (ax O O) <| fun a Z => G12 ?_
    replace Z := Z.p5 3 14 15 16 58 O
    replace Y := Y.k1 2 O
    refine aK Z O ?_
    refine aa fun _ G13 => wla Z O fun a Z => G13 <| ap ?_
    refine am Z results52 (ag O ae) ?_
    refine ⟨?_, Y.ext⟩
    simp only [retv]
    refine yr Value.bool ?_
    unfold checkP
    rw [hbad, yR]
   rw [xW hb4] at Z
   have hel : e.length ≤ 1000 := by omega
   refine nv Z <| xM (ac (v := pq w0.hz) O kr) <| xM (ac (v := pw2 w0.hz 2) O kr) <| xM (ld Y 1 O O (isAgg9 _) O) <| xM (ac (v := pq w0.hz) O kr) <| xM (ac (v := pw2 w0.hz 1) O kr) <| xM (ld Y 1 O O (isAgg3 _) O) <| xM (ac (v := pq w3.hz) O kr) <| xM (ld Y 0 O O (isAgg3 _) O) <| xM (ac (v := pw2 w3.hz 1) O kr) <| xM (ld Y 0 O O (isAgg9 _) O) <| xM (ac (v := pw2 w3.hz 2) O kr) <| xM (ld Y 0 O O (isAgg44 _) O) <| fun a Z => aF Z Y call114 O (lr hd.root e hd.n ix pv pf _ (Y.arg hpv) om om om (Y.keepb hk0)) fun a w7 Z Y => nv Z <| xM (bE O) <| xJ (ak O O) <| fun a Z => G12 ?_
   replace Z := Z.p5 3 14 15 16 58 O
   replace Y := Y.k1 2 O
   refine bt Z O (fun hc5 => ?_) (fun hc5 => ?_)
   ·try simp only [qz] at hc5
    have hvf : cC sha hd.root hd.n ix e pf = false := by simpa using hc5
    have hbad : chkIs sha hd.root hd.n (-1) (itsM L) = false := by rw [hs, fy hkx hx]; rw [show cC sha hd.root hd.n (⟨⟨ix, e, pf⟩, pv⟩ : Itw).m.ix (⟨⟨ix, e, pf⟩, pv⟩ : Itw).m.e (⟨⟨ix, e, pf⟩, pv⟩ : Itw).m.pf = false from hvf, yR]; rfl
    refine aa fun _ G14 => wla Z O fun a Z => G14 <| ap ?_
    refine am Z results52 (ag O ae) ?_
    refine ⟨?_, Y.ext⟩
    simp only [retv]
    refine yr Value.bool ?_
    unfold checkP
    rw [hbad, yR]
   try simp only [qz] at hc5
   have hvf : cC sha hd.root hd.n ix e pf = true := by simpa using hc5
   have hgo : prevX L k < ix := by rw [hk0e]; have := (hO hvf).1; show -1 < ix; omega
   refine au <| G9 <| ai <| nv Z <| xJ (aP O O ⟨om, om⟩) <| xK O <| fun a Z => ab ?_
   refine ⟨_, ?_, k + 1, O, om, (by rw [hs]; exact oR hkx hx hgo hel hvf), Z.pick [3, 14, 15, 16], Y.select [0] de⟩
   omega
  rw [xW hb3] at Z
  have hpvx := rr (L := L) (k := k) om
  refine aU (k := 3) 12 [9, 11] Z ?_
  replace Z := Z.p12 3 14 15 16 18 19 20 6 5 21 22 23 O
  refine bN 9 Z Y <| pl_v (ac (v := pw2 w0.hz 4) O kr) <| pl_w (fun Y => ld Y 1 O O (isAgg48 _) O) <| pl_m O <| pl_v (bH O O ⟨om, om⟩) <| pl_w (fun Y => (aj (i := (k : Int) - 1) (sT := 48) (Y.arg hiv.1) O O (runUnderlying48 _) (sizeOf110 _) om zY).as (v' := slAddr iv ((k - 1) * 3)) AL) <| pl_w (fun Y => bI (k := (k - 1) * 3) (j := 0) (Y.arg hiv.1) (i := (k - 1)) zY O (fun _ _ => by kernel_rfl)) <| pl_w (fun Y => aB (u := jv ((L.getD (k - 1) Itw.z).m.ix)) (i := (k - 1)) (j := 0) (Y.arg hiv.1) zY O (isAgg3 _) (by rw [bn Itw.z]; rfl)) ?_
  refine pl_v (ac (v := pq w3.hz) O kr) <| pl_w (fun Y => ld Y 0 O O (isAgg3 _) O) fun a w8 Z Y => ?_
  replace Z := Z.p8 3 14 15 16 6 23 30 32 O
  refine ab <| aM (k := 12) 15 [14] ?_
  refine nv Z <| xM (v_lt O O) <| xJ (ak O O) <| xL O <| fun a Z => ab <| aT <| G11 <| aa fun _ G15 => nv Z <| xK O <| xJ (bE O) <| xK O <| fun a Z => ?_
  rcases (Decidable.em ((L.getD (k - 1) Itw.z).m.ix < ix)).symm with hb6 | hb6
  ·rw [xW hb6] at Z
   have hbad : chkIs sha hd.root hd.n (-1) (itsM L) = false := by rw [hs, fy hkx hx]; rw [xW (by rw [hpvx]; show ¬ _ < ix; omega)]; rfl
   refine nv Z <| xN <| xN <| xN <| xN <| xJ (ax O O) <| xK O <| xN <| xN <| xN <| xN <| xN <| xN <| xN <| xN <| xN <| xN <| xN <| xN <| xN <| xN <| xJ (ax O O) <| fun a Z => G15 ?_
   replace Z := Z.p5 3 14 15 16 58 O
   replace Y := Y.k1 2 O
   refine aK Z O ?_
   refine aa fun _ G16 => wla Z O fun a Z => G16 <| ap ?_
   refine am Z results52 (ag O ae) ?_
   refine ⟨?_, Y.ext⟩
   simp only [retv]
   refine yr Value.bool ?_
   unfold checkP
   rw [hbad, yR]
  rw [xS hb6] at Z
  have hgo : prevX L k < ix := by rw [hpvx]; omega
  refine nv Z <| xM (ac (v := pw2 w3.hz 1) O kr) <| xM (ld Y 0 O O (isAgg9 _) O) <| xM (br O O (runUnderlying9 _)) <| xM (v_gt O O) <| xJ (ak O O) <| xK O <| fun a Z => ?_
  rcases Decidable.em (1000 < (e.length : Int)) with hb7 | hb7
  ·rw [xS hb7] at Z
   have hbad : chkIs sha hd.root hd.n (-1) (itsM L) = false := by rw [hs, fy hkx hx]; rw [xW (show ¬ e.length ≤ 1000 by omega), yR]; rfl
   refine nv Z <| xN <| xN <| xN <| xN <| xN <| xN <| xN <| xN <| xN <| xN <| xN <| xN <| xN <| xN <| xJ (ax O O) <| fun a Z => G15 ?_
   replace Z := Z.p5 3 14 15 16 58 O
   replace Y := Y.k1 2 O
   refine aK Z O ?_
   refine aa fun _ G17 => wla Z O fun a Z => G17 <| ap ?_
   refine am Z results52 (ag O ae) ?_
   refine ⟨?_, Y.ext⟩
   simp only [retv]
   refine yr Value.bool ?_
   unfold checkP
   rw [hbad, yR]
  rw [xW hb7] at Z
  have hel : e.length ≤ 1000 := by omega
  refine nv Z <| xM (ac (v := pq w0.hz) O kr) <| xM (ac (v := pw2 w0.hz 2) O kr) <| xM (ld Y 1 O O (isAgg9 _) O) <| xM (ac (v := pq w0.hz) O kr) <| xM (ac (v := pw2 w0.hz 1) O kr) <| xM (ld Y 1 O O (isAgg3 _) O) <| xM (ac (v := pq w3.hz) O kr) <| xM (ld Y 0 O O (isAgg3 _) O) <| xM (ac (v := pw2 w3.hz 1) O kr) <| xM (ld Y 0 O O (isAgg9 _) O) <| xM (ac (v := pw2 w3.hz 2) O kr) <| xM (ld Y 0 O O (isAgg44 _) O) <| fun a Z => aF Z Y call114 O (lr hd.root e hd.n ix pv pf _ (Y.arg hpv) om om om (Y.keepb hk0)) fun a w9 Z Y => nv Z <| xM (bE O) <| xJ (ak O O) <| fun a Z => G15 ?_
  replace Z := Z.p5 3 14 15 16 58 O
  replace Y := Y.k1 2 O
  refine bt Z O (fun hc8 => ?_) (fun hc8 => ?_)
  ·try simp only [qz] at hc8
   have hvf : cC sha hd.root hd.n ix e pf = false := by simpa using hc8
   have hbad : chkIs sha hd.root hd.n (-1) (itsM L) = false := by rw [hs, fy hkx hx]; rw [show cC sha hd.root hd.n (⟨⟨ix, e, pf⟩, pv⟩ : Itw).m.ix (⟨⟨ix, e, pf⟩, pv⟩ : Itw).m.e (⟨⟨ix, e, pf⟩, pv⟩ : Itw).m.pf = false from hvf, yR]; rfl
   refine aa fun _ G18 => wla Z O fun a Z => G18 <| ap ?_
   refine am Z results52 (ag O ae) ?_
   refine ⟨?_, Y.ext⟩
   simp only [retv]
   refine yr Value.bool ?_
   unfold checkP
   rw [hbad, yR]
  try simp only [qz] at hc8
  have hvf : cC sha hd.root hd.n ix e pf = true := by simpa using hc8
  refine au <| G9 <| ai <| nv Z <| xJ (aP O O ⟨om, om⟩) <| xK O <| fun a Z => ab ?_
  refine ⟨_, ?_, k + 1, O, om, (by rw [hs]; exact oR hkx hx hgo hel hvf), Z.pick [3, 14, 15, 16], Y.select [0] de⟩
  omega
 have hall : chkIs sha hd.root hd.n (-1) (itsM L) = true := by rw [hs, show k = (itsM L).length by rw [eJ]; omega, List.drop_length]; rfl
 refine aO <| G5 <| aa fun _ G19 => wla Z O fun a Z => G19 ?_
 replace Z := Z.p1 4 O
 replace Y := Y.k0 0 O
 refine ap <| am Z results52 (ag O ae) ?_
 refine ⟨?_, Y.ext⟩
 simp only [retv]
 refine yr Value.bool ?_
 unfold checkP
 rw [hgn, hall]; rfl
end Go.Proofs.YtliklcmddmpdfaaGreatDoor
namespace Go.Proofs.YtliklcmddmpdfaaGreatDoor
open Go.RowKit Go.PW _root_.Go.Proofs.Tryz
theorem qY {s : By} {x : Cas} {w0 : World} (h : decCas s = some x) (hsl : s.length ≤ 1000000) : Ret Tryz.prog 20 #[sv s] w0 fun v w => v = .tuple #[.agg x.cells.toArray, jv 0] ∧ Ext No w0 w := by
 have := t7 s w0 hsl
 unfold dcX dcE at this
 rw [h] at this
 exact this
theorem tu {s : By} {w0 : World} (h : decCas s = none) (hsl : s.length ≤ 1000000) : Ret Tryz.prog 20 #[sv s] w0 fun v w => v = .tuple #[.agg Cas.z.cells.toArray, jv 210] ∧ Ext No w0 w := by
 have := t7 s w0 hsl
 unfold dcX dcE at this
 rw [h] at this
 exact this
def encK (x : Int × Cas) : List Value := [jv x.1, .agg x.2.cells.toArray]
section
variable {L : List Itw} {k : Nat} {ix : Int} {en : By} {pf : List By} {pv : Value} {cc : Cas}
theorem ms {L : List Itw} {k : Nat} (hk : k < L.length) : (itsM L).take (k + 1) = (itsM L).take k ++ [(L.getD k Itw.z).m] := by
 unfold itsM
 rw [← List.map_take, cz Itw.z hk, yU, List.map_take]; rfl
theorem lM (hk : k < L.length) (hx : L.getD k Itw.z = ⟨⟨ix, en, pf⟩, pv⟩) (hd : decCas en = some cc) : casesF ((itsM L).take (k + 1)) = casesF ((itsM L).take k) ++ [(ix, cc)] := by
 rw [ms hk, hC, eh, hx]
 simp only [hd]
 rfl
theorem uV (hk : k < L.length) (hx : L.getD k Itw.z = ⟨⟨ix, en, pf⟩, pv⟩) (hd : decCas en = none) : casesF ((itsM L).take (k + 1)) = casesF ((itsM L).take k) := by
 rw [ms hk, hC, eh, hx]
 simp only [hd, yB]
 show _ ++ [] = _
 rw [zg]
theorem xt (hk : k < L.length) (hx : L.getD k Itw.z = ⟨⟨ix, en, pf⟩, pv⟩) (hd : decCas en = some cc) : NxK (casesF (itsM L)) (casesF ((itsM L).take k)) (ix, cc) := by
 refine ⟨casesF ((itsM L).drop (k + 1)), ?_⟩
 have h : itsM L = (itsM L).take (k + 1) ++ (itsM L).drop (k + 1) := (zp _ _).symm
 have h2 : casesF (itsM L) = casesF ((itsM L).take (k + 1)) ++ casesF ((itsM L).drop (k + 1)) := by rw [← hC, ← h]
 rw [h2, lM hk hx hd, yF]; rfl
end
def OkP (n : Int) (L : List Itw) : Prop := 0 ≤ n ∧ n ≤ 60 ∧ ∀ x ∈ L, 0 ≤ x.m.ix ∧ x.m.ix < n ∧ x.m.e.length ≤ 1000
theorem mC {root : By} {n : Int} : ∀ {l : List Itm} {p : Int}, chkIs sha root n p l = true → ∀ x ∈ l, 0 ≤ x.ix ∧ x.ix < n ∧ x.e.length ≤ 1000
 | [], p, h => by simp
 | y :: l, p, h => by
  simp only [chkIs, xP, xT] at h
  intro x hx
  rcases xX.1 hx with rfl | hx
  ·have := hO h.1.2
   exact ⟨this.1, this.2.1, h.1.1.2⟩
  ·exact mC h.2 x hx
theorem iZ {key : By} {hd : Hd} {L : List Itw} (h : checkP sha key hd (itsM L) = true) : OkP hd.n L := by
 unfold checkP at h
 rw [xP] at h
 have hg := h.1
 unfold genHd inB at hg
 simp only [xP, xT] at hg
 refine ⟨by omega, by omega, fun x hx => mC h.2 x.m (yD.2 ⟨x, hx, O⟩)⟩
theorem xr {n : Int} {L : List Itw} (h : OkP n L) {p : Int × Cas} (hp : p ∈ casesF (itsM L)) : 0 ≤ p.1 ∧ p.1 < n := by
 obtain ⟨x, hx, h1, _⟩ := dU.1 hp
 obtain ⟨y, hy, rfl⟩ := yD.1 hx
 have := h.2.2 y hy
 rw [← h1]; omega
def LHit (size num : Int) (p : Int × Cas) (la : Int) (fo : Bool) : Prop := (p.2.n < num ∧ p.1 = size - 1) ∨ (num < p.2.n ∧ (p.1 = 0 ∨ (fo = true ∧ la = p.1 - 1)))
theorem nS {size num la : Int} {p : Int × Cas} {fo : Bool} : ((decide (p.2.n < num) && decide (p.1 = size - 1)) || (decide (num < p.2.n) && (decide (p.1 = 0) || (fo && decide (la = p.1 - 1))))) = true ↔ LHit size num p la fo := by
 unfold LHit
 simp only [yh, xP, xT]
theorem gC {size num la : Int} {fo b : Bool} {l pre : List (Int × Cas)} {p : Int × Cas} (h : LackI size num l pre la fo) (hc : ¬ LHit size num p la fo) (hb : decide (p.2.n < num) = b) : LackI size num l (pre ++ [p]) p.1 b := by
 subst hb
 exact tW h (by rw [Bool.eq_false_iff]; exact fun h => hc (nS.1 h))
theorem fT {size num la : Int} {fo : Bool} {l pre : List (Int × Cas)} {p : Int × Cas} (h : LackI size num l pre la fo) (hx : NxK l pre p) (hc : LHit size num p la fo) : lackC size num (-1) false l = true := rJ h hx (nS.2 hc)
theorem dS (hd : Hd) (iv : Value) (L : List Itw) (w0 : World) (hiv : ItsAt w0 iv L) :
  Ret Tryz.prog 74 #[.agg #[jv hd.c, jv hd.n, sv hd.root, sv hd.tag, iv]] w0 (MemR w0 (fun z : Nat => .func (.func 125) #[] #[pq z]) (fun z => [blk z [jv hd.c, jv hd.n, sv hd.root, sv hd.tag, iv] 50]) (fun _ => True)) := by
 refine zN func74 O ntmps74 (lb O) fun a Z Y => ?_
 refine aa fun _ G1 => aS Z Y O [jv hd.c, jv hd.n, sv hd.root, sv hd.tag, iv] O fun a w1 Z Y => wla Z O fun a Z => G1 <| aa fun _ G2 => ?_
 refine nv Z <| xJ (cd O O) <| xL O <| fun a Z => G2 <| ap ?_
 refine am Z results74 (ag O ae) ?_
 exact ⟨w0.hz, O, trivial, Y.ext, St.out (H := []) Y⟩
theorem rv {M : Nat → Prop} {w0 : World} (hd : Hd) (iv : Value) (L : List Itw) (lp b1 : Nat) (J Jx : List (Int × Cas) → Ent → Prop) (hY : Rounds Tryz.prog M w0 lp encK (NxK (casesF (itsM L))) J Jx) (e0 : Ent) (ws : World) (hel : ∀ x ∈ L, x.m.e.length ≤ 1000) (hiv : ∀ (H : List Ent) (w : World), St M w0 H w → ItsAt w iv L) (hJ : J [] e0) (Y : St M w0 [e0, blk b1 [jv hd.c, jv hd.n, sv hd.root, sv hd.tag, iv] 50] ws) :
  Ret Tryz.prog 125 #[.func (.yield lp) #[] #[], pq b1] ws fun _ w => ∃ e1 Hi1, St M w0 (e1 :: Hi1) w ∧ ((∃ ys, (ys = casesF (itsM L) ∧ Hi1 = [blk b1 [jv hd.c, jv hd.n, sv hd.root, sv hd.tag, iv] 50]) ∧ J ys e1) ∨ (∃ pre, Hi1 = [blk b1 [jv hd.c, jv hd.n, sv hd.root, sv hd.tag, iv] 50] ∧ Jx pre e1)) := by
 have hxb := (hiv _ _ Y).len
 refine aC func125 O ntmps125 (lb O) fun a Z => ?_
 replace Z := Z.p2 0 1 O
 skip
 refine aa fun _ G1 => nv Z <| xJ (ac (v := pw2 b1 4) O kr) <| xJ (ld Y 1 O O (isAgg48 _) O) <| xJ ((aI (sT := 48) (hiv _ _ Y).1 O O (runUnderlying48 _)).asi (m' := (L.length : Int)) Ai) <| xK O <| fun a Z => G1 <| ar ?_
 refine aW (fun m a w => ∃ (k : Nat) (e : Ent), m = L.length - k ∧ (k ≤ L.length) ∧ (J (casesF ((itsM L).take k)) e) ∧ Fr 31 [(0, .func (.yield lp) #[] #[]), (8, iv), (9, jv (L.length : Int)), (10, jv (k : Int))] [] a ∧ St M w0 [e, blk b1 [jv hd.c, jv hd.n, sv hd.root, sv hd.tag, iv] 50] w) _ ⟨0, e0, O, ym _, hJ, Z.pick [0, 8, 9, 10], Y.select [0, 1] de⟩ ?_
 rintro _ a w1 ⟨k, e, rfl, hk, hJ, Z, Y⟩
 refine aa fun _ G2 => wlv Z (v_lt O O) fun a Z => G2 <| ah fun _ G3 => ?_
 refine aA Z O (fun hc1 => ?_) (fun hc1 => ?_)
 ·have hkx : k < L.length := by omega
  refine au <| G3 <| ah fun _ G4 => ar ?_
  obtain ⟨⟨⟨ix, en, pf⟩, pv⟩, hx⟩ : ∃ x, L.getD k Itw.z = x := ⟨_, rfl⟩
  have hxm := bc (d := Itw.z) hkx
  rw [hx] at hxm
  have hln : en.length ≤ 1000 := hel _ hxm
  refine aa fun _ G5 => nv Z <| xJ ((aj (i := (k : Int)) (sT := 48) (hiv _ _ Y).1 O O (runUnderlying48 _) (sizeOf110 _) om zY).as (v' := slAddr iv (k * 3)) O) <| xJ ((bP (hiv _ _ Y).1 (i := k) zY O (isAgg110 _) (sizeOf110 _)).as (v' := .agg #[jv ix, sv en, pv]) (by rw [bn Itw.z, hx]; rfl)) <| fun a Z => aD Z Y (zeroValue110 _) [jv 0, .string (⟨#[]⟩), .slice none 0 0] O fun a w2 Z Y => bp (us := [jv ix, sv en, pv]) 0 Z Y O O O (sizeOf110 _) (by intro z hz; simp only [xX, yc, yz] at hz; rcases hz with rfl | rfl | rfl <;> first | rfl | exact SlAt.one ((hiv _ _ Y).2 _ hxm)) (lb O) (ds := [jv ix, sv en, pv]) O O fun a w3 Z Y => ?_
  refine G5 <| aa fun _ G6 => ?_
  refine nv Z <| xJ (ac (v := pw2 w1.hz 1) O kr) <| xJ (ld Y 0 O O (isAgg9 _) O) <| fun a Z => ?_
  rcases xU ((decCas en).isSome) with hb2 | hb2
  ·obtain ⟨cc, hcc⟩ := yZ.1 hb2
   refine aw Z Y call20 O (qY hcc om) fun a w4 Z Y => nv Z <| xK O <| xJ (aq O O) <| xJ (aq O O) <| fun a Z => aD Z Y (zeroValue55 _) [jv 0, jv 0, .string (⟨#[]⟩)] O fun a w5 Z Y => az 0 Z Y [jv cc.n, jv cc.t, sv cc.ev] O (sizeOf55 _) fun a w6 Z Y => wla Z O fun a Z => G6 ?_
   refine aa fun _ G7 => nv (Z.p7 0 8 9 10 4 5 6 O) <| xK O <| xJ ((v_eq O O).asb (b' := true) O) <| xK O <| xM (ay O) <| xM (ac (v := pq w1.hz) O kr) <| xM (ld Y 1 O O (isAgg3 _) O) <| xM (ao (Y.g 0 O) O (isAgg55 _) (sizeOf55 _)) <| fun a Z => ez Z ?_
   refine wl_r (fD O O (hY.yield (pre := casesF ((itsM L).take k)) (x := (ix, cc)) (xt hkx hx hcc) hJ (Y.only (i := 2) O))) O O Z fun a v w7 hR Z => ?_
   obtain ⟨y3, e4, rfl, hx, hok, hft, hJt, hJf⟩ := hR
   replace Y := Y.exchange (k := 2) rfl hx hok hft
   replace Y := Y.n4 O
   clear hx hok hft
   refine nv Z <| xM (bE O) <| xJ (ax O O) <| fun a Z => G7 ?_
   replace Z := Z.p5 0 8 9 10 29 O
   replace Y := Y.k2 12 O
   refine bt Z O (fun hc5 => ?_) (fun hc5 => ?_)
   ·try simp only [qz] at hc5
    have hJ := hJf hc5
    refine ap <| am Z results125 ae ?_
    replace Y := Y.select [0, 1] de
    exact ⟨_, _, Y, .inr ⟨_, O, hJ⟩⟩
   try simp only [qz] at hc5
   have hJ := hJt hc5
   refine au <| G4 <| ai <| nv Z <| xJ (aP O O ⟨om, om⟩) <| xK O <| fun a Z => ab ?_
   refine ⟨_, ?_, k + 1, e4, O, om, (by rw [lM hkx hx hcc]; exact hJ), Z.pick [0, 8, 9, 10], Y.select [0, 1] de⟩
   omega
  have hcn : decCas en = none := by
   cases h : decCas en with
   | none => rfl
   | some z => rw [h] at hb2; cases hb2
  refine aw Z Y call20 O (tu hcn om) fun a w8 Z Y => nv Z <| xK O <| xJ (aq O O) <| xJ (aq O O) <| fun a Z => aD Z Y (zeroValue55 _) [jv 0, jv 0, .string (⟨#[]⟩)] O fun a w9 Z Y => az 0 Z Y [jv Cas.z.n, jv Cas.z.t, sv Cas.z.ev] O (sizeOf55 _) fun a w10 Z Y => wla Z O fun a Z => G6 ?_
  refine aa fun _ G8 => nv (Z.p7 0 8 9 10 4 5 6 O) <| xK O <| xJ ((v_eq O O).asb (b' := false) O) <| xK O <| xN <| xN <| xN <| xN <| xN <| xN <| xJ (ak O O) <| fun a Z => G8 ?_
  replace Z := Z.p5 0 8 9 10 29 O
  replace Y := Y.k2 12 O
  refine aG Z O ?_
  refine au <| G4 <| ai <| nv Z <| xJ (aP O O ⟨om, om⟩) <| xK O <| fun a Z => ab ?_
  refine ⟨_, ?_, k + 1, e, O, om, (by rw [uV hkx hx hcn]; exact hJ), Z.pick [0, 8, 9, 10], Y.select [0, 1] de⟩
  omega
 have hke : (itsM L).take k = itsM L := by rw [y9 (by rw [eJ]; omega)]
 rw [hke] at hJ
 refine aO <| cQ Z results125 ae ?_
 replace Y := Y.select [0, 1] de
 exact ⟨_, _, Y, .inl ⟨_, ⟨O, O⟩, hJ⟩⟩
theorem dw {M : Nat → Prop} {w0 : World} (hd : Hd) (iv : Value) (L : List Itw) (b1 : Nat) (hel : ∀ x ∈ L, x.m.e.length ≤ 1000) (hiv : ∀ (H : List Ent) (w : World), St M w0 H w → ItsAt w iv L) :
  Iter Tryz.prog 125 [pq b1] encK (NxK (casesF (itsM L))) (fun ys Hi => ys = casesF (itsM L) ∧ Hi = [blk b1 [jv hd.c, jv hd.n, sv hd.root, sv hd.tag, iv] 50]) (fun pre Hi => Hi = [blk b1 [jv hd.c, jv hd.n, sv hd.root, sv hd.tag, iv] 50]) M w0 [blk b1 [jv hd.c, jv hd.n, sv hd.root, sv hd.tag, iv] 50] :=
 fun lp J Jx w e hY hJ Y => rv hd iv L lp b1 J Jx hY e w hel hiv hJ Y
theorem uZ (key : By) (hd : Hd) (iv : Value) (L : List Itw) (num : Int) (w0 : World) (hiv : ItsAt w0 iv L) (hpf : ∀ x ∈ L, x.m.pf.length ≤ 1000) (hchk : checkP sha key hd (itsM L) = true) (hk0 : (blk 0 (kOf.map wv) 258).ok w0) :
  Ret Tryz.prog 24 #[sv key, .agg #[jv hd.c, jv hd.n, sv hd.root, sv hd.tag, iv], jv num] w0 fun v w => v = .tuple #[.agg ((hasF num (itsM L)).getD Cas.z).cells.toArray, .bool (hasF num (itsM L)).isSome] ∧ Ext No w0 w := by
 have hok := iZ hchk
 refine zO func24 O ntmps24 (lb O) fun a Z Y => ?_
 refine aa fun _ G1 => aS Z Y O [jv hd.c, jv hd.n, sv hd.root, sv hd.tag, iv] O fun a w1 Z Y => aS Z Y O [jv num] O fun a w2 Z Y => aD Z Y (zeroValue55 _) [jv 0, jv 0, .string (⟨#[]⟩)] O fun a w3 Z Y => aD Z Y (zeroValue4 _) [.bool false] O fun a w4 Z Y => G1 <| ah fun _ G2 => ?_
 refine aa fun _ G3 => nv Z <| xK O <| xJ (ao (Y.g 3 O) O (isAgg50 _) (sizeOf50 _)) <| fun a Z => aw Z Y call52 O (cw hchk (eQ key hd iv L _ (cA Y hiv) hpf (Y.keepb hk0))) fun a w5 Z Y => wlv Z ((bE O).asb (b' := false) O) fun a Z => G3 ?_
 replace Z := Z.p5 4 5 6 7 13 O
 refine aG Z O ?_
 refine au <| G2 <| ah fun _ G4 => aa fun _ G5 => wlv Z (ao (Y.g 3 O) O (isAgg50 _) (sizeOf50 _)) fun a Z => bD Z Y call74 O (dS hd iv L _ (cA Y hiv)) fun a w6 x2 hp Z Y => ?_
 revert x2 hp Z Y; rintro z1 hp Z Y
 clear hp
 replace Y := Y.n5 O
 refine G5 <| ar ?_
 replace Y := Y.s4 [3, 2, 1, 0] de rfl
 replace Z := Z.p7 4 5 6 7 13 15 16 O
 refine dG (M := No) (w0 := w0) (encs := encK) (Hi := [blk z1 [jv hd.c, jv hd.n, sv hd.root, sv hd.tag, iv] 50]) (Hc := [blk w1.hz [jv num] 3, blk w2.hz [jv 0, jv 0, .string (⟨#[]⟩)] 55, blk w3.hz [.bool false] 4]) (fun pre H => (∀ z ∈ pre, ¬ z.2.n = num) ∧ H = [blk w1.hz [jv num] 3, blk w2.hz [jv 0, jv 0, .string (⟨#[]⟩)] 55, blk w3.hz [.bool false] 4]) (fun c pre H => c = .ret ∧ ∃ (cc : Cas), (((casesF (itsM L)).find? fun p => decide (p.2.n = num)).map (·.2) = some cc) ∧ H = [blk w1.hz [jv num] 3, blk w2.hz [jv cc.n, jv cc.t, sv cc.ev] 55, blk w3.hz [.bool true] 4]) (fun pre xs H a => ∃ (bA0 : Nat), Fr 25 [(4, pq w0.hz), (5, pq w1.hz), (6, pq w2.hz), (7, pq w3.hz), (13, .bool false), (15, .agg #[jv hd.c, jv hd.n, sv hd.root, sv hd.tag, iv]), (16, .func (.func 125) #[] #[pq z1]), (9, pq bA0)] [] a ∧ (∀ z ∈ pre, ¬ z.2.n = num) ∧ H = [blk bA0 [jv xs.2.n, jv xs.2.t, sv xs.2.ev] 55, blk w1.hz [jv num] 3, blk w2.hz [jv 0, jv 0, .string (⟨#[]⟩)] 55, blk w3.hz [.bool false] 4]) O call125 Z Y (dw hd iv L z1 (fun x hx => (hok.2.2 x hx).2.2) (fun H w h => cA h hiv)) de (fun _ => O) ⟨sm, O⟩ ?_ ?_ ?_ ?_
 ·clear Z Y
  rintro lp pre xs _ a w7 hnx ⟨hno, rfl⟩ Z Y
  generalize (join [blk w1.hz [jv num] 3, blk w2.hz [jv 0, jv 0, .string (⟨#[]⟩)] 55, blk w3.hz [.bool false] 4]).foot = M1 at Y ⊢
  refine ai <| aD (Z.p9 18 17 4 5 6 7 13 15 16 O) Y (zeroValue55 _) [jv 0, jv 0, .string (⟨#[]⟩)] O fun a w8 Z Y => az 0 Z Y [jv xs.2.n, jv xs.2.t, sv xs.2.ev] O (sizeOf55 _) fun a w9 Z Y => ab ?_
  exact ⟨_, ⟨w7.hz, Z.pick [4, 5, 6, 7, 13, 15, 16, 9], hno, O⟩, Y⟩
 ·rintro lp pre xs _ a w10 hnx ⟨bA0, Z, hno, rfl⟩ hout hrec hnl Y
  clear hrec hnl
  generalize (join [blk bA0 [jv xs.2.n, jv xs.2.t, sv xs.2.ev] 55, blk w1.hz [jv num] 3, blk w2.hz [jv 0, jv 0, .string (⟨#[]⟩)] 55, blk w3.hz [.bool false] 4]).foot = M1 at Y hout ⊢
  refine ar <| aa fun _ G6 => nv Z <| xJ (ac (v := pq bA0) O kr) <| xJ (ld Y 0 O O (isAgg3 _) O) <| xJ (ld Y 1 O O (isAgg3 _) O) <| xJ (v_eq O O) <| fun a Z => G6 ?_
  replace Z := Z.p4 6 7 9 22 O
  refine aA Z O (fun hc3 => ?_) (fun hc3 => ?_)
  ·refine aa fun _ G7 => wlv Z (ao (Y.g 0 O) O (isAgg55 _) (sizeOf55 _)) fun a Z => az 2 Z Y [jv xs.2.n, jv xs.2.t, sv xs.2.ev] O (sizeOf55 _) fun a w11 Z Y => az 3 Z Y [.bool true] O (sizeOf4 _) fun a w12 Z Y => G7 <| ap ?_
   exact ⟨_, ⟨O, xs.2, tl hnx hno om, O⟩, Y.select [1, 2, 3] de⟩
  refine au ?_
  exact ⟨_, ⟨bY hno om, O⟩, Y.select [1, 2, 3] de⟩
 ·rintro D pre _ _ a w13 ⟨rfl, rfl⟩ ⟨hno, rfl⟩ Y Z
  replace Z := Z.p7 4 5 6 7 13 15 16 O
  replace Y := Y.n5 O
  refine G4 <| aa fun _ G8 => wlv Z (aX (v := .agg #[jv 0, jv 0, sv ([] : By)]) O kr) fun a Z => az 2 Z Y [jv 0, jv 0, sv ([] : By)] O (sizeOf55 _) fun a w14 Z Y => az 3 Z Y [.bool false] O (sizeOf4 _) fun a w15 Z Y => G8 ?_
  replace Z := Z.p2 6 7 O
  replace Y := Y.k4 15 O
  refine ap ?_
  have hD := Y.g 0 rfl
  replace Y := Y.unmark (i := 0) (o' := .deferred none) O
  replace Y := Y.n3 O
  refine ct Z hD results24 (al O (bj (Y.g 1 O) (isAgg55 _) (sizeOf55 _)) (al O (aH (Y.g 2 O) (isAgg4 _)) ae)) ?_
  exact ⟨by simp only [retv]; rw [fJ, vo hno]; rfl, Y.ext⟩
 ·rintro D _ pre _ _ a w16 rfl ⟨rfl, cc, hhit, rfl⟩ Y Z
  replace Z := Z.p7 4 5 6 7 13 15 16 O
  replace Y := Y.n5 O
  refine ap ?_
  have hD := Y.g 0 rfl
  replace Y := Y.unmark (i := 0) (o' := .deferred none) O
  replace Y := Y.n4 O
  refine ct Z hD results24 (al O (bj (Y.g 1 O) (isAgg55 _) (sizeOf55 _)) (al O (aH (Y.g 2 O) (isAgg4 _)) ae)) ?_
  exact ⟨by simp only [retv]; rw [fJ, hhit]; rfl, Y.ext⟩
theorem oB (hd : Hd) (iv : Value) (L : List Itw) (num : Int) (w0 : World) (hiv : ItsAt w0 iv L) (hok : OkP hd.n L) :
  Ret Tryz.prog 58 #[.agg #[jv hd.c, jv hd.n, sv hd.root, sv hd.tag, iv], jv num] w0 fun v w => v = .bool (lackF hd.n num (-1) false (itsM L)) ∧ Ext No w0 w := by
 refine zM func58 O ntmps58 (lb O) fun a Z Y => ?_
 refine aa fun _ G1 => aS Z Y O [jv hd.c, jv hd.n, sv hd.root, sv hd.tag, iv] O fun a w1 Z Y => aS Z Y O [jv num] O fun a w2 Z Y => aD Z Y (zeroValue4 _) [.bool false] O fun a w3 Z Y => G1 <| aa fun _ G2 => ?_
 refine aD Z Y (zeroValue3 _) [jv 0] O fun a w4 Z Y => aD Z Y (zeroValue4 _) [.bool false] O fun a w5 Z Y => az 1 Z Y [jv (-1)] O (sizeOf3 _) fun a w6 Z Y => az 0 Z Y [.bool false] O (sizeOf4 _) fun a w7 Z Y => G2 <| ah fun _ G3 => ?_
 refine aa fun _ G4 => wlv Z (ao (Y.g 4 O) O (isAgg50 _) (sizeOf50 _)) fun a Z => bD Z Y call74 O (dS hd iv L _ (cA Y hiv)) fun a w8 x2 hp Z Y => ?_
 revert x2 hp Z Y; rintro z1 hp Z Y
 clear hp
 replace Y := Y.n6 O
 refine G4 <| ar ?_
 replace Y := Y.s6 [5, 4, 3, 2, 1, 0] de rfl
 replace Z := Z.p9 0 1 2 3 4 5 6 10 11 O
 refine dG (M := No) (w0 := w0) (encs := encK) (Hi := [blk z1 [jv hd.c, jv hd.n, sv hd.root, sv hd.tag, iv] 50]) (Hc := [blk w0.hz [jv hd.c, jv hd.n, sv hd.root, sv hd.tag, iv] 50, blk w1.hz [jv num] 3, blk w2.hz [.bool false] 4, blk w3.hz [jv (-1)] 3, blk w4.hz [.bool false] 4]) (fun pre H => ∃ (la : Int), ∃ (fo : Bool), (LackI hd.n num (casesF (itsM L)) pre la fo) ∧ H = [blk w0.hz [jv hd.c, jv hd.n, sv hd.root, sv hd.tag, iv] 50, blk w1.hz [jv num] 3, blk w2.hz [.bool false] 4, blk w3.hz [jv la] 3, blk w4.hz [.bool fo] 4]) (fun c pre H => c = .ret ∧ ∃ (la : Int), ∃ (fo : Bool), (lackC hd.n num (-1) false (casesF (itsM L)) = true) ∧ H = [blk w0.hz [jv hd.c, jv hd.n, sv hd.root, sv hd.tag, iv] 50, blk w1.hz [jv num] 3, blk w2.hz [.bool true] 4, blk w3.hz [jv la] 3, blk w4.hz [.bool fo] 4]) (fun pre xs H a => ∃ (bA0 : Nat), Fr 52 [(0, .agg #[jv hd.c, jv hd.n, sv hd.root, sv hd.tag, iv]), (1, jv num), (2, pq w0.hz), (3, pq w1.hz), (4, pq w2.hz), (5, pq w3.hz), (6, pq w4.hz), (10, .agg #[jv hd.c, jv hd.n, sv hd.root, sv hd.tag, iv]), (11, .func (.func 125) #[] #[pq z1]), (7, jv xs.1), (8, pq bA0)] [] a ∧ ∃ (la : Int), ∃ (fo : Bool), (LackI hd.n num (casesF (itsM L)) pre la fo) ∧ H = [blk bA0 [jv xs.2.n, jv xs.2.t, sv xs.2.ev] 55, blk w0.hz [jv hd.c, jv hd.n, sv hd.root, sv hd.tag, iv] 50, blk w1.hz [jv num] 3, blk w2.hz [.bool false] 4, blk w3.hz [jv la] 3, blk w4.hz [.bool fo] 4]) O call125 Z Y (dw hd iv L z1 (fun x hx => (hok.2.2 x hx).2.2) (fun H w h => cA h hiv)) de (fun _ => O) ⟨-1, false, vN, O⟩ ?_ ?_ ?_ ?_
 ·clear Z Y
  rintro lp pre xs _ a w9 hnx ⟨la, fo, hla, rfl⟩ Z Y
  generalize (join [blk w0.hz [jv hd.c, jv hd.n, sv hd.root, sv hd.tag, iv] 50, blk w1.hz [jv num] 3, blk w2.hz [.bool false] 4, blk w3.hz [jv la] 3, blk w4.hz [.bool fo] 4]).foot = M1 at Y ⊢
  refine aa fun _ G5 => wla (Z.p11 13 12 0 1 2 3 4 5 6 10 11 O) O fun a Z => G5 <| ai ?_
  refine aD Z Y (zeroValue55 _) [jv 0, jv 0, .string (⟨#[]⟩)] O fun a w10 Z Y => az 0 Z Y [jv xs.2.n, jv xs.2.t, sv xs.2.ev] O (sizeOf55 _) fun a w11 Z Y => ab ?_
  exact ⟨_, ⟨w9.hz, Z.pick [0, 1, 2, 3, 4, 5, 6, 10, 11, 7, 8], la, fo, hla, O⟩, Y⟩
 ·rintro lp pre xs _ a w12 hnx ⟨bA0, Z, la, fo, hla, rfl⟩ hout hrec hnl Y
  clear hrec hnl
  generalize (join [blk bA0 [jv xs.2.n, jv xs.2.t, sv xs.2.ev] 55, blk w0.hz [jv hd.c, jv hd.n, sv hd.root, sv hd.tag, iv] 50, blk w1.hz [jv num] 3, blk w2.hz [.bool false] 4, blk w3.hz [jv la] 3, blk w4.hz [.bool fo] 4]).foot = M1 at Y hout ⊢
  refine ar ?_
  have hxb := xr hok (eO hnx)
  have hok1 := hok.1
  have hok2 := hok.2.1
  refine aa fun _ G6 => nv Z <| xJ (ac (v := pq bA0) O kr) <| xJ (ld Y 0 O O (isAgg3 _) O) <| xJ (ld Y 2 O O (isAgg3 _) O) <| xJ (v_lt O O) <| xL O <| fun a Z => G6 ?_
  refine ah fun _ G7 => aa fun _ G8 => nv (Z.p8 2 3 4 5 6 7 8 9 O) <| xK O <| xK O <| fun a Z => ?_
  rcases Decidable.em (xs.2.n < num) with hb3 | hb3
  ·rw [xS hb3] at Z
   refine nv Z <| xM (ay O) <| xM (ac (v := pq w0.hz) O kr) <| xM (ac (v := pw2 w0.hz 1) O kr) <| xM (ld Y 1 O O (isAgg3 _) O) <| xM (bH O O ⟨om, om⟩) <| xM (v_eq O O) <| xJ (ax O O) <| xK O <| fun a Z => ?_
   rcases Decidable.em (xs.1 = hd.n - 1) with hb4 | hb4
   ·rw [xS hb4] at Z
    refine nv Z <| xN <| xN <| xN <| xN <| xN <| fun a Z => bV Z fun a Z => bV Z fun a Z => bV Z fun a Z => bV Z fun a Z => bV Z fun a Z => bV Z fun a Z => bV Z fun a Z => bV Z fun a Z => bV Z fun a Z => bV Z fun a Z => bV Z fun a Z => nv Z <| xN <| xJ (ax O O) <| fun a Z => G8 ?_
    replace Z := Z.p6 4 5 6 7 9 45 O
    replace Y := Y.k5 62 O
    refine aK Z O ?_
    refine aa fun _ G9 => az 2 Z Y [.bool true] O (sizeOf4 _) fun a w13 Z Y => G9 <| ap ?_
    exact ⟨_, ⟨O, la, fo, fT hla hnx Ah, O⟩, Y.select [0, 1, 2, 3, 4] de⟩
   rw [xW hb4] at Z
   refine nv Z <| xM (ac (v := pq bA0) O kr) <| xM (ld Y 0 O O (isAgg3 _) O) <| xM (ld Y 2 O O (isAgg3 _) O) <| xM (v_gt O O) <| xM (ay O) <| fun a Z => ?_
   rcases Decidable.em (num < xs.2.n) with hb5 | hb5
   ·rw [xS hb5] at Z
    refine nv Z <| xM (ay O) <| xM (v_eq O O) <| xM (ay O) <| fun a Z => ?_
    rcases Decidable.em (xs.1 = 0) with hb6 | hb6
    ·rw [xS hb6] at Z
     refine nv Z <| xN <| xN <| fun a Z => bV Z fun a Z => bV Z fun a Z => bV Z fun a Z => bV Z fun a Z => nv Z <| xN <| xM (ax O O) <| xM (ax O O) <| xJ (ak O O) <| fun a Z => G8 ?_
     replace Z := Z.p6 4 5 6 7 9 45 O
     replace Y := Y.k5 62 O
     refine aK Z O ?_
     refine aa fun _ G10 => az 2 Z Y [.bool true] O (sizeOf4 _) fun a w14 Z Y => G10 <| ap ?_
     exact ⟨_, ⟨O, la, fo, fT hla hnx Ah, O⟩, Y.select [0, 1, 2, 3, 4] de⟩
    rw [xW hb6] at Z
    refine nv Z <| xM (ld Y 5 O O (isAgg4 _) O) <| xM (ay O) <| fun a Z => ?_
    rcases xU (fo) with hb7 | hb7
    ·rw [hb7] at Z
     have hfo := hb7
     refine nv Z <| xM (ld Y 4 O O (isAgg3 _) O) <| xM (ay O) <| xM (bH O O ⟨om, om⟩) <| xM (v_eq O O) <| xM (ax O O) <| xM (ak O O) <| xM (ax O O) <| xJ (ak O O) <| fun a Z => G8 ?_
     replace Z := Z.p6 4 5 6 7 9 45 O
     replace Y := Y.k5 62 O
     refine aA Z O (fun hc8 => ?_) (fun hc8 => ?_)
     ·refine aa fun _ G11 => az 2 Z Y [.bool true] O (sizeOf4 _) fun a w15 Z Y => G11 <| ap ?_
      exact ⟨_, ⟨O, la, fo, fT hla hnx Ah, O⟩, Y.select [0, 1, 2, 3, 4] de⟩
     refine au <| G7 <| ai <| nv Z <| xK O <| xK O <| fun a Z => az 3 Z Y [jv xs.1] O (sizeOf3 _) fun a w16 Z Y => az 4 Z Y [.bool true] O (sizeOf4 _) fun a w17 Z Y => ab ?_
     exact ⟨_, ⟨xs.1, true, gC hla Ag (xS om), O⟩, Y.select [0, 1, 2, 3, 4] de⟩
    rw [hb7] at Z
    have hfo := hb7
    refine nv Z <| xN <| xN <| xN <| xN <| xM (ak O O) <| xM (ak O O) <| xM (ax O O) <| xJ (ak O O) <| fun a Z => G8 ?_
    replace Z := Z.p6 4 5 6 7 9 45 O
    replace Y := Y.k5 62 O
    refine aG Z O ?_
    refine au <| G7 <| ai <| nv Z <| xK O <| xK O <| fun a Z => az 3 Z Y [jv xs.1] O (sizeOf3 _) fun a w18 Z Y => az 4 Z Y [.bool true] O (sizeOf4 _) fun a w19 Z Y => ab ?_
    exact ⟨_, ⟨xs.1, true, gC hla Ag (xS om), O⟩, Y.select [0, 1, 2, 3, 4] de⟩
   rw [xW hb5] at Z
   refine nv Z <| xN <| xN <| xN <| fun a Z => bV Z fun a Z => bV Z fun a Z => bV Z fun a Z => bV Z fun a Z => bV Z fun a Z => bV Z fun a Z => bV Z fun a Z => nv Z <| xN <| xM (ak O O) <| xJ (ak O O) <| fun a Z => G8 ?_
   replace Z := Z.p6 4 5 6 7 9 45 O
   replace Y := Y.k5 62 O
   refine aG Z O ?_
   refine au <| G7 <| ai <| nv Z <| xK O <| xK O <| fun a Z => az 3 Z Y [jv xs.1] O (sizeOf3 _) fun a w20 Z Y => az 4 Z Y [.bool true] O (sizeOf4 _) fun a w21 Z Y => ab ?_
   exact ⟨_, ⟨xs.1, true, gC hla Ag (xS om), O⟩, Y.select [0, 1, 2, 3, 4] de⟩
  rw [xW hb3] at Z
  refine nv Z <| xN <| xN <| xN <| xN <| xN <| xN <| xJ (ak O O) <| xK O <| xM (ac (v := pq bA0) O kr) <| xM (ld Y 0 O O (isAgg3 _) O) <| xM (ld Y 2 O O (isAgg3 _) O) <| xM (v_gt O O) <| xM (ay O) <| fun a Z => ?_
  rcases Decidable.em (num < xs.2.n) with hb9 | hb9
  ·rw [xS hb9] at Z
   refine nv Z <| xM (ay O) <| xM (v_eq O O) <| xM (ay O) <| fun a Z => ?_
   rcases Decidable.em (xs.1 = 0) with hb10 | hb10
   ·rw [xS hb10] at Z
    refine nv Z <| xN <| xN <| fun a Z => bV Z fun a Z => bV Z fun a Z => bV Z fun a Z => bV Z fun a Z => nv Z <| xN <| xM (ax O O) <| xM (ax O O) <| xJ (ak O O) <| fun a Z => G8 ?_
    replace Z := Z.p6 4 5 6 7 9 45 O
    replace Y := Y.k5 62 O
    refine aK Z O ?_
    refine aa fun _ G12 => az 2 Z Y [.bool true] O (sizeOf4 _) fun a w22 Z Y => G12 <| ap ?_
    exact ⟨_, ⟨O, la, fo, fT hla hnx Ah, O⟩, Y.select [0, 1, 2, 3, 4] de⟩
   rw [xW hb10] at Z
   refine nv Z <| xM (ld Y 5 O O (isAgg4 _) O) <| xM (ay O) <| fun a Z => ?_
   rcases xU (fo) with hb11 | hb11
   ·rw [hb11] at Z
    have hfo := hb11
    refine nv Z <| xM (ld Y 4 O O (isAgg3 _) O) <| xM (ay O) <| xM (bH O O ⟨om, om⟩) <| xM (v_eq O O) <| xM (ax O O) <| xM (ak O O) <| xM (ax O O) <| xJ (ak O O) <| fun a Z => G8 ?_
    replace Z := Z.p6 4 5 6 7 9 45 O
    replace Y := Y.k5 62 O
    refine aA Z O (fun hc12 => ?_) (fun hc12 => ?_)
    ·refine aa fun _ G13 => az 2 Z Y [.bool true] O (sizeOf4 _) fun a w23 Z Y => G13 <| ap ?_
     exact ⟨_, ⟨O, la, fo, fT hla hnx Ah, O⟩, Y.select [0, 1, 2, 3, 4] de⟩
    refine au <| G7 <| ai <| nv Z <| xK O <| xK O <| fun a Z => az 3 Z Y [jv xs.1] O (sizeOf3 _) fun a w24 Z Y => az 4 Z Y [.bool false] O (sizeOf4 _) fun a w25 Z Y => ab ?_
    exact ⟨_, ⟨xs.1, false, gC hla Ag (xW om), O⟩, Y.select [0, 1, 2, 3, 4] de⟩
   rw [hb11] at Z
   have hfo := hb11
   refine nv Z <| xN <| xN <| xN <| xN <| xM (ak O O) <| xM (ak O O) <| xM (ax O O) <| xJ (ak O O) <| fun a Z => G8 ?_
   replace Z := Z.p6 4 5 6 7 9 45 O
   replace Y := Y.k5 62 O
   refine aG Z O ?_
   refine au <| G7 <| ai <| nv Z <| xK O <| xK O <| fun a Z => az 3 Z Y [jv xs.1] O (sizeOf3 _) fun a w26 Z Y => az 4 Z Y [.bool false] O (sizeOf4 _) fun a w27 Z Y => ab ?_
   exact ⟨_, ⟨xs.1, false, gC hla Ag (xW om), O⟩, Y.select [0, 1, 2, 3, 4] de⟩
  rw [xW hb9] at Z
  refine nv Z <| xN <| xN <| xN <| fun a Z => bV Z fun a Z => bV Z fun a Z => bV Z fun a Z => bV Z fun a Z => bV Z fun a Z => bV Z fun a Z => bV Z fun a Z => nv Z <| xN <| xM (ak O O) <| xJ (ak O O) <| fun a Z => G8 ?_
  replace Z := Z.p6 4 5 6 7 9 45 O
  replace Y := Y.k5 62 O
  refine aG Z O ?_
  refine au <| G7 <| ai <| nv Z <| xK O <| xK O <| fun a Z => az 3 Z Y [jv xs.1] O (sizeOf3 _) fun a w28 Z Y => az 4 Z Y [.bool false] O (sizeOf4 _) fun a w29 Z Y => ab ?_
  exact ⟨_, ⟨xs.1, false, gC hla Ag (xW om), O⟩, Y.select [0, 1, 2, 3, 4] de⟩
 ·rintro D pre _ _ a w30 ⟨rfl, rfl⟩ ⟨la, fo, hla, rfl⟩ Y Z
  replace Z := Z.p9 0 1 2 3 4 5 6 10 11 O
  replace Y := Y.n7 O
  refine G3 <| aa fun _ G14 => nv Z <| xJ (ac (v := pq w0.hz) O kr) <| xJ (ac (v := pw2 w0.hz 1) O kr) <| xJ (ld Y 1 O O (isAgg3 _) O) <| xJ (v_eq O O) <| fun a Z => az 3 Z Y [.bool (decide (hd.n = 0))] O (sizeOf4 _) fun a w31 Z Y => G14 ?_
  replace Z := Z.p1 4 O
  replace Y := Y.k6 63 O
  refine ap ?_
  have hD := Y.g 0 rfl
  replace Y := Y.unmark (i := 0) (o' := .deferred none) O
  replace Y := Y.n5 O
  refine ct Z hD results58 (al O (aH (Y.g 2 O) (isAgg4 _)) ae) ?_
  exact ⟨by simp only [retv]; rw [fa, sy hla]; try rfl, Y.ext⟩
 ·rintro D _ pre _ _ a w32 rfl ⟨rfl, la, fo, hhit, rfl⟩ Y Z
  replace Z := Z.p9 0 1 2 3 4 5 6 10 11 O
  replace Y := Y.n7 O
  refine ap ?_
  have hD := Y.g 0 rfl
  replace Y := Y.unmark (i := 0) (o' := .deferred none) O
  replace Y := Y.n6 O
  refine ct Z hD results58 (al O (aH (Y.g 2 O) (isAgg4 _)) ae) ?_
  exact ⟨by simp only [retv]; rw [fa, hhit]; try rfl, Y.ext⟩
theorem il (key : By) (hd : Hd) (iv : Value) (L : List Itw) (num : Int) (w0 : World) (hiv : ItsAt w0 iv L) (hpf : ∀ x ∈ L, x.m.pf.length ≤ 1000) (hchk : checkP sha key hd (itsM L) = true) (hnum : 0 ≤ num ∧ num ≤ 99999999) (hk0 : (blk 0 (kOf.map wv) 258).ok w0) :
  Ret Tryz.prog 25 #[sv key, .agg #[jv hd.c, jv hd.n, sv hd.root, sv hd.tag, iv], jv num] w0 fun v w => v = .bool (lackF hd.n num (-1) false (itsM L)) ∧ Ext No w0 w := by
 have hok := iZ hchk
 refine zO func25 O ntmps25 (lb O) fun a Z Y => ?_
 refine aa fun _ G1 => aS Z Y O [jv hd.c, jv hd.n, sv hd.root, sv hd.tag, iv] O fun a w1 Z Y => wla Z O fun a Z => G1 <| aa fun _ G2 => ?_
 refine nv Z <| xK O <| xJ (ao (Y.g 0 O) O (isAgg50 _) (sizeOf50 _)) <| fun a Z => aw Z Y call52 O (cw hchk (eQ key hd iv L _ (cA Y hiv) hpf (Y.keepb hk0))) fun a w2 Z Y => nv Z <| xK O <| xM (ay O) <| fun a Z => aF Z Y call49 O (cw (show inB num 0 99999999 = true from by simp only [inB, xP, xT]; omega) (di num 0 99999999 _)) fun a w3 Z Y => nv Z <| xJ (ax O O) <| xK O <| xM (ao (Y.g 0 O) O (isAgg50 _) (sizeOf50 _)) <| xM (ay O) <| fun a Z => aF Z Y call58 O (oB hd iv L num _ (cA Y hiv) hok) fun a w4 Z Y => nv Z <| xJ (ax O O) <| xL O <| fun a Z => G2 ?_
 replace Z := Z.p1 6 O
 replace Y := Y.k0 0 O
 refine ap <| am Z results25 (ag O ae) ?_
 exact ⟨by rfl, Y.ext⟩
end Go.Proofs.YtliklcmddmpdfaaGreatDoor
