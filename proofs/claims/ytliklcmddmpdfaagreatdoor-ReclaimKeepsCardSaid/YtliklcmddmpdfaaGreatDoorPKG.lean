/- Texts joined: RegA, RegB, RclC. -/
import Derived.Test.YtliklcmddmpdfaaGreatDoorPKF
import Derived.Test.YtliklcmddmpdfaaGreatDoorPKE
import Derived.Test.YtliklcmddmpdfaaGreatDoorPKC
import Derived.Test.YtliklcmddmpdfaaGreatDoorPKB
import Derived.Test.YtliklcmddmpdfaaGreatDoorPKA
set_option linter.unusedVariables false
set_option linter.unusedSimpArgs false
set_option maxRecDepth 4000
set_option maxHeartbeats 4000000
namespace Go.Proofs.YtliklcmddmpdfaaGreatDoor
open Go.RowKit Go.PW _root_.Go.Proofs.Tryz
theorem qE {n a b : Int} (h : inB n a b = true) : a ≤ n ∧ n ≤ b := by simpa [inB] using h
theorem nP {s : By} (h : s.length = 32) : s ≠ [] := fun e => by rw [e] at h; cases h
theorem wi {a b : By} (h : b ≠ []) : a ++ b ≠ [] := fun e => h (List.append_eq_nil_iff.1 e).2
theorem jE (n lo hi : Int) (w0 : World) :
  Ret Tryz.prog 122 #[jv n, jv lo, jv hi] w0 fun v w => v = .bool (inB n lo hi) ∧ Ext No w0 w := by
 refine zB func122 O ntmps122 (lb O) fun a Z Y => ?_
 refine aa fun _ G1 => wla Z O fun a Z => G1 <| aa fun _ G2 => ?_
 refine nv Z <| xy O <| xy O <| xx (v_le O O) <| xy O <| fun a Z => di (N := 15) (df := []) 4 [(14, .bool ((decide (lo ≤ n)) && (decide (n ≤ hi)))), (0, jv n), (1, jv lo), (2, jv hi), (6, .bool false)] ?_ (fun hj => ?_)
 rotate_left
 ·rcases xH (decide (lo ≤ n)) with hb1 | hb1
  ·rw [hb1] at Z
   have hb1b := hb1
   try simp only [qz, xD, xX, xT, xZ] at hb1
   refine nv Z <| xA (ay O) <| xA (ay O) <| xA (v_le O O) <| xx (aw O O) <| fun a Z => hj _ ?_
   try rw [hb1b]
   exact Z.pick [14, 0, 1, 2, 6]
  rw [hb1] at Z
  have hb1b := hb1
  try simp only [qz, xD, xX, xT, xZ] at hb1
  refine nv Z <| xB <| xB <| xB <| xx (ai O O) <| fun a Z => hj _ ?_
  try rw [hb1b]
  exact Z.pick [14, 0, 1, 2, 6]
 intro a Z
 refine wla Z O fun a Z => G2 <| ap ?_
 refine al Z results122 (ag O ae) ?_
 exact ⟨by rfl, Y.ext⟩
theorem iI (s : By) (w0 : World) :
  Ret Tryz.prog 120 #[sv s] w0 fun v w => v = .bool (decide ((s.length : Int) = 32)) ∧ Ext No w0 w := by
 refine zA func120 O ntmps120 (lb O) fun a Z Y => ?_
 refine aa fun _ G1 => wla Z O fun a Z => G1 <| aa fun _ G2 => ?_
 refine nv Z <| xy O <| xx (bn O O (runUnderlying9 _)) <| xx (v_eq O O) <| xz O <| fun a Z => G2 <| ap ?_
 refine al Z results120 (ag O ae) ?_
 exact ⟨by rfl, Y.ext⟩
theorem u9 (s : By) (w0 : World) :
  Ret Tryz.prog 167 #[sv s] w0 fun v w => v = .bool (longE s) ∧ Ext No w0 w := by
 refine zA func167 O ntmps167 (lb O) fun a Z Y => ?_
 refine aa fun _ G1 => wla Z O fun a Z => G1 <| aa fun _ G2 => ?_
 refine nv Z <| xy O <| xx (bn O O (runUnderlying9 _)) <| xx (v_gt O O) <| xz O <| fun a Z => G2 <| ap ?_
 refine al Z results167 (ag O ae) ?_
 exact ⟨by simp only [retv]; refine yf Value.bool ?_; unfold longE; exact decide_eq_decide.2 om, Y.ext⟩
theorem uZ (c : Int) (ev : Value) (es : List By) (w0 : World) (hev : SlAt w0 ev 1 (es.map fun s => [sv s])) :
  Ret Tryz.prog 121 #[.agg #[jv c, ev]] w0 fun v w => v = .bool (regOk c es) ∧ Ext No w0 w := by
 refine zA func121 O ntmps121 (lb O) fun a Z Y => ?_
 refine aa fun _ G1 => aS Z Y O [jv c, ev] O fun a w1 Z Y => wla Z O fun a Z => G1 <| aa fun _ G2 => ?_
 refine wla Z O fun a Z => G2 <| aa fun _ G3 => ?_
 refine nv Z <| xx (ac (v := pq w0.hz) O kr) <| xx (ld Y 0 O O (isAgg3 _) O) <| fun a Z => ax Z Y call122 O (jE c 0 7 _) fun a w2 Z Y => wlm Z O fun a Z => ?_
 rcases xH (inB c 0 7) with hb1 | hb1
 ·rw [hb1] at Z
  refine nv Z <| xA (ac (v := po w0.hz 1) O kr) <| xA (ld Y 0 O O (isAgg44 _) O) <| xA ((aL (sT := 44) (Y.arg hev) O O (runUnderlying44 _)).asi (m' := (es.length : Int)) z6) <| xA (v_le O O) <| xx (aw O O) <| xy O <| fun a Z => ?_
  rcases Decidable.em ((es.length : Int) ≤ 60) with hb2 | hb2
  ·rw [xF hb2] at Z
   refine nv Z <| xA (ac (v := po w0.hz 1) O kr) <| xA (ld Y 0 O O (isAgg44 _) O) <| xA (ay O) <| fun a Z => aF Z Y call146 O (qX longE _ call167 (Y.arg hev) (fun x w _ => u9 x w)) fun a w3 Z Y => nv Z <| xA (bD O) <| xx (aw O O) <| xz O <| fun a Z => G3 ?_
   replace Z := Z.p1 2 O
   replace Y := Y.k0 0 O
   refine ap <| al Z results121 (ag O ae) ?_
   refine ⟨?_, Y.ext⟩
   simp only [retv]
   refine yf Value.bool ?_
   unfold regOk
   rw [hb1, show decide (es.length ≤ 60) = true from xF om]; rfl
  rw [xK hb2] at Z
  refine nv Z <| xB <| xB <| xB <| xB <| xB <| xx (ai O O) <| xz O <| fun a Z => G3 ?_
  replace Z := Z.p1 2 O
  replace Y := Y.k0 0 O
  refine ap <| al Z results121 (ag O ae) ?_
  refine ⟨?_, Y.ext⟩
  simp only [retv]
  refine yf Value.bool ?_
  unfold regOk
  first | (rw [hb2]; rfl) | (rw [show decide (es.length ≤ 60) = false from xK om, yL]; rfl)
 rw [hb1] at Z
 refine nv Z <| xB <| xB <| xB <| xB <| xx (ai O O) <| xy O <| xB <| xB <| xB <| xB <| xB <| xx (ai O O) <| xz O <| fun a Z => G3 ?_
 replace Z := Z.p1 2 O
 replace Y := Y.k0 0 O
 refine ap <| al Z results121 (ag O ae) ?_
 refine ⟨?_, Y.ext⟩
 simp only [retv]
 refine yf Value.bool ?_
 unfold regOk
 first | (rw [hb1]; rfl) | (rw [show decide (es.length ≤ 60) = false from xK om, yL]; rfl)
theorem gM {M : Nat → Prop} {w0 : World} (T : TypeId) (b : Nat) (ad v : Value) (bs : By) (n : Int) (ws : World) (hlie : liesAt Tryz.prog Tryz.prog.depth T (2 / Tryz.prog.cellsOf T) 0 160 1 = true) (had : ad = .pointer none ∨ ad = pq b) (hn : small n) (hbn : bs.length + 9 ≤ 1000000000) (Y : St M w0 [bld T b (ad) v bs] ws) :
  Ret Tryz.prog 170 #[pq b, jv n] ws fun u w => u = .tuple #[] ∧ ∃ v2, St M w0 [bld T b (pq b) v2 (bs ++ putI n)] w := by
 refine aB func170 O ntmps170 (lb O) fun a Z => ?_
 replace Z := Z.p2 0 1 O
 skip
 refine aa fun _ G1 => wlm Z O fun a Z => ax Z Y call60 O (fg n _ hn) fun a w1 Z Y => nv Z <| xy O <| xx (aq O O) <| xx (aq O O) <| xz O <| xz O <| fun a Z => G1 ?_
 refine aj <| nv (Z.p2 0 4 O) <| xy O <| xx (aQ O) <| xx (ac (v := pq b) O kr) <| xy O <| fun a Z => aZ (R := fun u e' => u = .tuple #[jv ((putI n).length : Int), .nilIface] ∧ ∃ v2, e' = bld T b (pq b) v2 (bs ++ (putI n))) 0 Z Y O de call94 O (fun h => (fY T b _ _ _ _ _ hlie had (qB _) (by have := (bY n).2; omega) h).mono fun u w ⟨h1, v2, h2⟩ => ⟨_, ⟨h1, v2, O⟩, h2⟩) ?_
 clear Z Y
 rintro a w2 _ _ ⟨rfl, v1, rfl⟩ Z Y
 try dsimp only at Y
 replace Y := Y.n1 O
 refine ab <| cN Z results170 ae ?_
 exact ⟨O, _, Y.select [0] de⟩
theorem lF (key : By) (hd : Hd) (w0 : World) (hc : small hd.c) (hn : small hd.n) (hr : hd.root.length = 32) (hk : key.length ≤ 1000) (hk0 : (blk 0 (kOf.map wv) 258).ok w0) :
  Ret Tryz.prog 124 #[sv key, .agg #[jv hd.c, jv hd.n, sv hd.root, sv hd.tag]] w0 fun v w => v = sv (sealR sha key hd.c hd.n hd.root) ∧ Ext No w0 w := by
 have hp4 := bY 4
 have hpc := bY hd.c
 have hpn := bY hd.n
 have hxl : (([] : By) ++ putI 4 ++ putI hd.c ++ putI hd.n ++ hd.root).length ≤ 80 := by simp only [xE, xP]; omega
 refine zy func124 O ntmps124 (lb O) fun a Z Y => ?_
 refine aa fun _ G1 => aS Z Y O [jv hd.c, jv hd.n, sv hd.root, sv hd.tag] O fun a w1 Z Y => wla Z O fun a Z => G1 <| aa fun _ G2 => ?_
 refine aC Z Y (zeroValue230 _) [.pointer none, .slice none 0 0] O fun a w2 Z Y => G2 ?_
 replace Y : St No w0 (own (.slice none 0 0) 5 1 [] :: [blk w1.hz [.pointer none, .slice none 0 0] 230, blk w0.hz [jv hd.c, jv hd.n, sv hd.root, sv hd.tag] 47]) w2 := Y.nil_own
 replace Y := Y.s3 [1, 0, 2] de rfl
 replace Y : St No w0 [bld 230 w1.hz (.pointer none) (.slice none 0 0) ([] : By), blk w0.hz [jv hd.c, jv hd.n, sv hd.root, sv hd.tag] 47] w2 := St.join [blk w1.hz [.pointer none, .slice none 0 0] 230, own (.slice none 0 0) 5 1 ([])] [blk w0.hz [jv hd.c, jv hd.n, sv hd.root, sv hd.tag] 47] Y
 refine aa fun _ G3 => aZ (R := fun u e' => u = .tuple #[] ∧ ∃ v2, e' = bld 230 w1.hz (pq w1.hz) v2 (([] : By) ++ putI 4)) 0 Z Y O de call170 O (fun h => (gM 230 w1.hz _ _ _ 4 _ kr (.inl O) zV Bb h).mono fun u w ⟨h1, v2, h2⟩ => ⟨_, ⟨h1, v2, O⟩, h2⟩) ?_
 clear Z Y
 rintro a w3 _ _ ⟨rfl, v1, rfl⟩ Z Y
 try dsimp only at Y
 replace Y := Y.n2 O
 refine G3 <| aa fun _ G4 => ?_
 refine nv Z <| xx (ac (v := pq w0.hz) O kr) <| xx (ld Y 1 O O (isAgg3 _) O) <| fun a Z => aZ (R := fun u e' => u = .tuple #[] ∧ ∃ v2, e' = bld 230 w1.hz (pq w1.hz) v2 ((([] : By) ++ putI 4) ++ putI hd.c)) 0 Z Y O de call170 O (fun h => (gM 230 w1.hz _ _ _ hd.c _ kr (.inr O) hc Bb h).mono fun u w ⟨h1, v2, h2⟩ => ⟨_, ⟨h1, v2, O⟩, h2⟩) ?_
 clear Z Y
 rintro a w4 _ _ ⟨rfl, v2, rfl⟩ Z Y
 try dsimp only at Y
 replace Y := Y.n2 O
 refine G4 <| aa fun _ G5 => ?_
 refine nv Z <| xx (ac (v := po w0.hz 1) O kr) <| xx (ld Y 1 O O (isAgg3 _) O) <| fun a Z => aZ (R := fun u e' => u = .tuple #[] ∧ ∃ v2, e' = bld 230 w1.hz (pq w1.hz) v2 (((([] : By) ++ putI 4) ++ putI hd.c) ++ putI hd.n)) 0 Z Y O de call170 O (fun h => (gM 230 w1.hz _ _ _ hd.n _ kr (.inr O) hn Bb h).mono fun u w ⟨h1, v2, h2⟩ => ⟨_, ⟨h1, v2, O⟩, h2⟩) ?_
 clear Z Y
 rintro a w5 _ _ ⟨rfl, v3, rfl⟩ Z Y
 try dsimp only at Y
 replace Y := Y.n2 O
 refine G5 ?_
 refine aa fun _ G6 => nv (Z.p4 0 3 4 5 O) <| xx (ac (v := pq w1.hz) O kr) <| xx (ac (v := po w0.hz 2) O kr) <| xx (ld Y 1 O O (isAgg9 _) O) <| fun a Z => aZ (R := fun u e' => u = .tuple #[jv (hd.root.length : Int), .nilIface] ∧ ∃ v2, e' = bld 230 w1.hz (pq w1.hz) v2 ((((([] : By) ++ putI 4) ++ putI hd.c) ++ putI hd.n) ++ hd.root)) 0 Z Y O de call94 O (fun h => (fY 230 w1.hz _ _ _ _ _ kr (.inr O) (nP hr) Bb h).mono fun u w ⟨h1, v2, h2⟩ => ⟨_, ⟨h1, v2, O⟩, h2⟩) ?_
 clear Z Y
 rintro a w6 _ _ ⟨rfl, v4, rfl⟩ Z Y
 try dsimp only at Y
 replace Y := Y.n2 O
 refine G6 <| aa fun _ G7 => ?_
 refine nv Z <| xy O <| xx (ac (v := pq w1.hz) O kr) <| fun a Z => aZ (R := fun u e' => u = sv ((((([] : By) ++ putI 4) ++ putI hd.c) ++ putI hd.n) ++ hd.root) ∧ e' = blk w1.hz [pq w1.hz, v4] 230) 0 Z Y O de call95 O (fun h => (gV 230 w1.hz _ _ _ (wi (nP hr)) h).mono fun u w ⟨h1, h2⟩ => ⟨_, ⟨h1, O⟩, h2⟩) ?_
 clear Z Y
 rintro a w7 _ _ ⟨rfl, rfl⟩ Z Y
 try dsimp only at Y
 replace Y := Y.n2 O
 refine ax Z Y call139 O (jG ((((([] : By) ++ putI 4) ++ putI hd.c) ++ putI hd.n) ++ hd.root) _ om (Y.keepb hk0)) fun a w8 Z Y => ax Z Y call138 O (gw key (leafH sha ((((([] : By) ++ putI 4) ++ putI hd.c) ++ putI hd.n) ++ hd.root)) _ om (by first | omega | (rw [hU dG]; decide)) (Y.keepb hk0)) fun a w9 Z Y => wla Z O fun a Z => G7 ?_
 replace Z := Z.p1 4 O
 replace Y := Y.k1 1 O
 refine ap <| al Z results124 (ag O ae) ?_
 exact ⟨by simp only [retv]; simp [sealR, hdText, puts, nodeH], Y.ext⟩
theorem mF (key : By) (n : Nat) (hd : Hd) (c : Int) (ev : Value) (es : List By) (w0 : World) (hev : SlAt w0 ev 1 (es.map fun s => [sv s])) (hk32 : key.length = 32) (hr : regOk c es = true) (hn : n ≤ es.length) (hhd : hdOf sha key c es n = hd) (hk0 : (blk 0 (kOf.map wv) 258).ok w0) :
  Ret Tryz.prog 73 #[sv key, .agg #[jv c, ev], jv (n : Int)] w0 fun v w => v = .tuple #[.agg #[jv hd.c, jv hd.n, sv hd.root, sv hd.tag], jv 0] ∧ Ext No w0 w := by
 obtain ⟨hrc0, hrc1, hrl, hel⟩ := eO hr
 have hc : small c := by unfold small; omega
 have hn' : small (n : Int) := by unfold small; omega
 refine zB func73 O ntmps73 (lb O) fun a Z Y => ?_
 refine aa fun _ G1 => aS Z Y O [jv c, ev] O fun a w1 Z Y => aC Z Y (zeroValue47 _) [jv 0, jv 0, .string (⟨#[]⟩), .string (⟨#[]⟩)] O fun a w2 Z Y => wla Z O fun a Z => G1 <| ah fun _ G2 => ?_
 refine aa fun _ G3 => wlm Z O fun a Z => ax Z Y call120 O (iI key _) fun a w3 Z Y => nv Z <| xx (bD O) <| xy O <| fun a Z => ?_
 rcases (Decidable.em ((key.length : Int) = 32)).symm with hb1 | hb1
 ·rw [xK hb1] at Z
  exfalso; omega
 rw [xF hb1] at Z
 refine wly Z (ao (Y.g 1 O) O (isAgg75 _) (sizeOf75 _)) fun a Z => aF Z Y call121 O (uZ c ev es _ (Y.arg hev)) fun a w4 Z Y => nv Z <| xA (bD O) <| xx (ai O O) <| xy O <| fun a Z => ?_
 rcases xH (!(regOk c es)) with hb2 | hb2
 ·rw [hb2] at Z
  try simp only [qz] at hb2
  rw [hr] at hb2; cases hb2
 rw [hb2] at Z
 try simp only [qz] at hb2
 refine nv Z <| xA (ay O) <| xA (ac (v := po w0.hz 1) O kr) <| xA (ld Y 1 O O (isAgg44 _) O) <| xA ((aL (sT := 44) (Y.arg hev) O O (runUnderlying44 _)).asi (m' := (es.length : Int)) z6) <| fun a Z => aF Z Y call122 O (jE (n : Int) 0 (es.length : Int) _) fun a w5 Z Y => nv Z <| xA (bD O) <| xx (ai O O) <| fun a Z => G3 ?_
 replace Z := Z.p6 0 2 4 6 7 24 O
 refine bu Z O (fun hc3 => ?_) (fun hc3 => ?_)
 ·try simp only [qz] at hc3
  rw [show inB (n : Int) 0 (es.length : Int) = true from by simp [inB]; omega] at hc3; cases hc3
 try simp only [qz] at hc3
 refine au <| G2 <| ah fun _ G4 => aM (aN fun w6 hxz => ?_)
 replace Y := Y.grow hxz
 refine aU (k := 0) 10 [8, 9] Z ?_
 replace Z := Z.p5 0 2 4 6 7 O
 refine bI [9] (fun i => match i with | 9 => pm (fun b : Nat => pq b) (fun b => [blk b [jv 0, jv 0, .string (⟨#[]⟩), .string (⟨#[]⟩)] 47]) (fun _ => True) | _ => fun _ _ => False) 10 [[], [0], [], [], [3], [], [4, 5], [6], [1, 2, 7], []] [pq w0.hz, jv c, jv (n : Int), po w0.hz 1, ev, jv (n : Int), (cut ev 1 0 n (slCap ev)), sv (rootH sha (es.take n)), .agg #[jv c, jv (n : Int), sv (rootH sha (es.take n)), sv ([] : By)], undef] Z Y ?_ ?_ ?_
 ·exact zI <| hqv (ac (v := pq w0.hz) rfl kr) <| hqw (fun Y => ld Y 1 rfl rfl (isAgg3 _) rfl) <| hqv (ay rfl) <| hqv (ac (v := po w0.hz 1) rfl kr) <| hqw (fun Y => ld Y 1 rfl rfl (isAgg44 _) rfl) <| hqv (ay rfl) <| hqw (fun Y => dp (l := 0) (h := n) (Y.arg hev) rfl rfl rfl underlying44 kr (.inl ⟨rfl, rfl⟩) (.inr rfl) (yc _) Af) <| zG (fun _ _ Y => bF call123 rfl (mR (cut ev 1 0 n (slCap ev)) (es.take n) _ ((Y.arg hev).cut0 (h := n) Al) An (fun k hk => yB (hel _ (yM (bt hk))) de) (Y.keepb hk0))) <| hqv (aX (v := .agg #[jv c, jv (n : Int), sv (rootH sha (es.take n)), sv ([] : By)]) rfl kr) <| zG (fun h => absurd sm h) <| zH
 ·intro i hi
  simp only [xL, xQ, yj] at hi
  subst hi
  ·intro w Y
   exact g9 (zeroValue47 _) (cs := [jv 0, jv 0, .string (⟨#[]⟩), .string (⟨#[]⟩)]) O
 clear Z Y
 rintro _ _ ⟨b4, rfl, -, rfl⟩ a w7 Z Y
 replace Z := Z.p5 34 8 0 6 7 O
 replace Y := Y.n3 O
 refine ab <| aK (k := 10) 11 [10] ?_
 refine az 0 Z Y [jv c, jv (n : Int), sv (rootH sha (es.take n)), sv ([] : By)] O (sizeOf47 _) fun a w8 Z Y => ab <| aT <| G4 ?_
 replace Y := Y.k2 3 O
 refine aa fun _ G5 => nv (Z.p4 0 6 7 8 O) <| xy O <| xx (ao (Y.g 0 O) O (isAgg47 _) (sizeOf47 _)) <| fun a Z => ax Z Y call124 O (lF key (⟨c, (n : Int), rootH sha (es.take n), ([] : By)⟩ : Hd) _ zM zM (by first | assumption | exact fq dG _) om (Y.keepb hk0)) fun a w9 Z Y => wlv Z (ac (v := po b4 3) O kr) fun a Z => az 0 Z Y [jv c, jv (n : Int), sv (rootH sha (es.take n)), sv (sealR sha key c (n : Int) (rootH sha (es.take n)))] O (sizeOf9 _) fun a w10 Z Y => G5 <| aa fun _ G6 => ?_
 refine wlv Z (ao (Y.g 0 O) O (isAgg47 _) (sizeOf47 _)) fun a Z => az 1 Z Y [jv c, jv (n : Int), sv (rootH sha (es.take n)), sv (sealR sha key c (n : Int) (rootH sha (es.take n)))] O (sizeOf47 _) fun a w11 Z Y => wla Z O fun a Z => G6 ?_
 replace Z := Z.p2 6 7 O
 replace Y := Y.k1 2 O
 refine ap <| al Z results73 (ak O (bf (Y.g 0 O) (isAgg47 _) (sizeOf47 _)) (ag O ae)) ?_
 subst hhd
 exact ⟨O, Y.ext⟩
theorem uH (key : By) (hd : Hd) (w0 : World) (hk0 : (blk 0 (kOf.map wv) 258).ok w0) :
  Ret Tryz.prog 113 #[sv key, .agg #[jv hd.c, jv hd.n, sv hd.root, sv hd.tag]] w0 fun v w => v = .bool (genHd sha key hd) ∧ Ext No w0 w := by
 refine zy func113 O ntmps113 (lb O) fun a Z Y => ?_
 refine aa fun _ G1 => aS Z Y O [jv hd.c, jv hd.n, sv hd.root, sv hd.tag] O fun a w1 Z Y => wla Z O fun a Z => G1 <| aa fun _ G2 => ?_
 refine nv Z <| xx (ac (v := pq w0.hz) O kr) <| xx (ld Y 0 O O (isAgg3 _) O) <| fun a Z => ax Z Y call122 O (jE hd.c 0 7 _) fun a w2 Z Y => wlm Z O fun a Z => ?_
 rcases xH (inB hd.c 0 7) with hb1 | hb1
 ·rw [hb1] at Z
  have hcb := qE hb1
  have hc : small hd.c := by unfold small; omega
  refine nv Z <| xA (ac (v := po w0.hz 1) O kr) <| xA (ld Y 0 O O (isAgg3 _) O) <| fun a Z => aF Z Y call122 O (jE hd.n 0 60 _) fun a w3 Z Y => nv Z <| xx (aw O O) <| xy O <| fun a Z => ?_
  rcases xH (inB hd.n 0 60) with hb2 | hb2
  ·rw [hb2] at Z
   have hnb := qE hb2
   have hn : small hd.n := by unfold small; omega
   refine nv Z <| xA (ac (v := po w0.hz 2) O kr) <| xA (ld Y 0 O O (isAgg9 _) O) <| xA (bn O O (runUnderlying9 _)) <| xA (v_eq O O) <| xx (aw O O) <| xz O <| fun a Z => G2 ?_
   replace Z := Z.p4 0 3 4 5 O
   refine ah fun _ G3 => aM (aN fun w4 hxz => ?_)
   replace Y := Y.grow hxz
   refine aK (k := 0) 6 [5] ?_
   refine wlm Z O fun a Z => ax Z Y call120 O (iI key _) fun a w5 Z Y => wlm Z O fun a Z => ?_
   rcases Decidable.em ((key.length : Int) = 32) with hb3 | hb3
   ·rw [xF hb3] at Z
    refine nv Z <| xA (ay O) <| xx (aw O O) <| xy O <| fun a Z => ab ?_
    rcases Decidable.em ((hd.root.length : Int) = 32) with hb4 | hb4
    ·rw [xF hb4] at Z
     have hr32 : hd.root.length = 32 := by omega
     refine aU (k := 6) 11 [7, 10] Z ?_
     refine bQ 5 (Z.p10 0 3 4 5 20 21 22 23 24 25 O) Y <| pl_v (ac (v := po w0.hz 3) O kr) <| pl_w (fun Y => ld Y 0 O O (isAgg9 _) O) <| pl_m O <| pl_w (fun Y => ao (Y.g 0 O) O (isAgg47 _) (sizeOf47 _)) <| pl_r (fun Y => bF call124 O (lF key hd _ zM zM (by first | assumption | exact fq dG _) om (Y.keepb hk0))) fun a w6 Z Y => ?_
     replace Z := Z.p3 25 27 30 O
     refine ab <| aK (k := 11) 14 [13] ?_
     refine nv Z <| xA (wF O O) <| xx (aw O O) <| xz O <| fun a Z => ab <| aT <| G3 <| ap <| al Z results113 (ag O ae) ?_
     refine ⟨?_, Y.ext⟩
     simp only [retv]
     refine yf Value.bool ?_
     unfold genHd
     rw [hb1, hb2, show decide (hd.root.length = 32) = true from xF om, show decide (key.length = 32) = true from xF om]; rfl
    rw [xK hb4] at Z
    refine cW (k := 6) 11 [7, 10] (Z.p10 0 3 4 5 20 21 22 23 24 25 O) fun a Z => ?_
    replace Z := Z.p15 26 27 28 29 30 0 3 4 5 20 21 22 23 24 25 O
    refine aK (k := 11) 14 [13] ?_
    refine nv Z <| xB <| xx (ai O O) <| xz O <| fun a Z => ab <| aT <| G3 ?_
    replace Z := Z.p1 4 O
    replace Y := Y.k0 0 O
    refine ap <| al Z results113 (ag O ae) ?_
    refine ⟨?_, Y.ext⟩
    simp only [retv]
    refine yf Value.bool ?_
    unfold genHd
    first | (rw [hb4]; simp; done) | (rw [hb3]; simp; done) | (rw [hb2]; simp; done) | (rw [hb1]; simp; done) | (rw [show decide (hd.root.length = 32) = false from xK om]; simp; done) | (rw [show decide (key.length = 32) = false from xK om]; rfl)
   rw [xK hb3] at Z
   refine nv Z <| xB <| xx (ai O O) <| xy O <| fun a Z => ab <| cW (k := 6) 11 [7, 10] (Z.p10 0 3 4 5 20 21 22 23 24 25 O) fun a Z => ?_
   replace Z := Z.p15 26 27 28 29 30 0 3 4 5 20 21 22 23 24 25 O
   refine aK (k := 11) 14 [13] ?_
   refine nv Z <| xB <| xx (ai O O) <| xz O <| fun a Z => ab <| aT <| G3 ?_
   replace Z := Z.p1 4 O
   replace Y := Y.k0 0 O
   refine ap <| al Z results113 (ag O ae) ?_
   refine ⟨?_, Y.ext⟩
   simp only [retv]
   refine yf Value.bool ?_
   unfold genHd
   first | (rw [hb3]; simp; done) | (rw [hb2]; simp; done) | (rw [hb1]; simp; done) | (rw [show decide (hd.root.length = 32) = false from xK om]; simp; done) | (rw [show decide (key.length = 32) = false from xK om]; rfl)
  rw [hb2] at Z
  refine nv Z <| xB <| xB <| xB <| xB <| xx (ai O O) <| xz O <| fun a Z => G2 ?_
  replace Z := Z.p4 0 3 4 5 O
  refine ah fun _ G4 => aM (aN fun w7 hxz => ?_)
  replace Y := Y.grow hxz
  refine aK (k := 0) 6 [5] ?_
  refine wlm Z O fun a Z => ax Z Y call120 O (iI key _) fun a w8 Z Y => wlm Z O fun a Z => ?_
  rcases Decidable.em ((key.length : Int) = 32) with hb5 | hb5
  ·rw [xF hb5] at Z
   refine nv Z <| xA (ay O) <| xx (aw O O) <| xy O <| fun a Z => ab <| cW (k := 6) 11 [7, 10] (Z.p10 0 3 4 5 20 21 22 23 24 25 O) fun a Z => ?_
   replace Z := Z.p15 26 27 28 29 30 0 3 4 5 20 21 22 23 24 25 O
   refine aK (k := 11) 14 [13] ?_
   refine nv Z <| xB <| xx (ai O O) <| xz O <| fun a Z => ab <| aT <| G4 ?_
   replace Z := Z.p1 4 O
   replace Y := Y.k0 0 O
   refine ap <| al Z results113 (ag O ae) ?_
   refine ⟨?_, Y.ext⟩
   simp only [retv]
   refine yf Value.bool ?_
   unfold genHd
   first | (rw [hb5]; simp; done) | (rw [hb2]; simp; done) | (rw [hb1]; simp; done) | (rw [show decide (hd.root.length = 32) = false from xK om]; simp; done) | (rw [show decide (key.length = 32) = false from xK om]; rfl)
  rw [xK hb5] at Z
  refine nv Z <| xB <| xx (ai O O) <| xy O <| fun a Z => ab <| cW (k := 6) 11 [7, 10] (Z.p10 0 3 4 5 20 21 22 23 24 25 O) fun a Z => ?_
  replace Z := Z.p15 26 27 28 29 30 0 3 4 5 20 21 22 23 24 25 O
  refine aK (k := 11) 14 [13] ?_
  refine nv Z <| xB <| xx (ai O O) <| xz O <| fun a Z => ab <| aT <| G4 ?_
  replace Z := Z.p1 4 O
  replace Y := Y.k0 0 O
  refine ap <| al Z results113 (ag O ae) ?_
  refine ⟨?_, Y.ext⟩
  simp only [retv]
  refine yf Value.bool ?_
  unfold genHd
  first | (rw [hb5]; simp; done) | (rw [hb2]; simp; done) | (rw [hb1]; simp; done) | (rw [show decide (hd.root.length = 32) = false from xK om]; simp; done) | (rw [show decide (key.length = 32) = false from xK om]; rfl)
 rw [hb1] at Z
 refine nv Z <| xB <| xB <| xB <| xx (ai O O) <| xy O <| xB <| xB <| xB <| xB <| xx (ai O O) <| xz O <| fun a Z => G2 ?_
 replace Z := Z.p4 0 3 4 5 O
 refine ah fun _ G5 => aM (aN fun w9 hxz => ?_)
 replace Y := Y.grow hxz
 refine aK (k := 0) 6 [5] ?_
 refine wlm Z O fun a Z => ax Z Y call120 O (iI key _) fun a w10 Z Y => wlm Z O fun a Z => ?_
 rcases Decidable.em ((key.length : Int) = 32) with hb6 | hb6
 ·rw [xF hb6] at Z
  refine nv Z <| xA (ay O) <| xx (aw O O) <| xy O <| fun a Z => ab <| cW (k := 6) 11 [7, 10] (Z.p10 0 3 4 5 20 21 22 23 24 25 O) fun a Z => ?_
  replace Z := Z.p15 26 27 28 29 30 0 3 4 5 20 21 22 23 24 25 O
  refine aK (k := 11) 14 [13] ?_
  refine nv Z <| xB <| xx (ai O O) <| xz O <| fun a Z => ab <| aT <| G5 ?_
  replace Z := Z.p1 4 O
  replace Y := Y.k0 0 O
  refine ap <| al Z results113 (ag O ae) ?_
  refine ⟨?_, Y.ext⟩
  simp only [retv]
  refine yf Value.bool ?_
  unfold genHd
  first | (rw [hb6]; simp; done) | (rw [hb1]; simp; done) | (rw [show decide (hd.root.length = 32) = false from xK om]; simp; done) | (rw [show decide (key.length = 32) = false from xK om]; rfl)
 rw [xK hb6] at Z
 refine nv Z <| xB <| xx (ai O O) <| xy O <| fun a Z => ab <| cW (k := 6) 11 [7, 10] (Z.p10 0 3 4 5 20 21 22 23 24 25 O) fun a Z => ?_
 replace Z := Z.p15 26 27 28 29 30 0 3 4 5 20 21 22 23 24 25 O
 refine aK (k := 11) 14 [13] ?_
 refine nv Z <| xB <| xx (ai O O) <| xz O <| fun a Z => ab <| aT <| G5 ?_
 replace Z := Z.p1 4 O
 replace Y := Y.k0 0 O
 refine ap <| al Z results113 (ag O ae) ?_
 refine ⟨?_, Y.ext⟩
 simp only [retv]
 refine yf Value.bool ?_
 unfold genHd
 first | (rw [hb6]; simp; done) | (rw [hb1]; simp; done) | (rw [show decide (hd.root.length = 32) = false from xK om]; simp; done) | (rw [show decide (key.length = 32) = false from xK om]; rfl)
theorem qV {n : Int} : ∀ {l : List Int} {p : Int} {k : Nat}, ascI n p l = true → k < l.length → p < l.getD k 0 ∧ l.getD k 0 < n ∧ (0 < k → l.getD (k - 1) 0 < l.getD k 0)
 | [], p, k, h, hk => absurd hk (Nat.not_lt_zero _)
 | i :: l, p, k, h, hk => by
  rw [ascI, xD, xD, xG, xG] at h
  cases k with
  | zero => exact ⟨h.1.1, h.1.2, fun h => absurd h (zd 0)⟩
  | succ k =>
   obtain ⟨h1, h2, h3⟩ := qV (k := k) h.2 Bc
   refine ⟨by show p < l.getD k 0; omega, h2, fun _ => ?_⟩
   show (i :: l).getD k 0 < l.getD k 0
   cases k with
   | zero => exact h1
   | succ k => exact h3 (Nat.succ_pos _)
theorem mr {es : List By} {n k i : Nat} {ix : List Int} {L : List Itw} {pv : Value} (hL : itsM L = showIs sha es n (ix.take k)) (hk : k < ix.length) (hi : ix.getD k 0 = (i : Int)) :
  itsM (L ++ [⟨⟨(i : Int), es.getD i [], proofH sha (es.take n) i⟩, pv⟩]) = showIs sha es n (ix.take (k + 1)) := by
 rw [cz 0 hk, showIs, yE, ← showIs, ← hL, itsM, yE, hi]
 simp only [itsM, yC, zf, itmAt, yw]
theorem vU {es : List By} {n : Nat} {ix : List Int} {L : List Itw} (hL : itsM L = showIs sha es n ix) (hn : n ≤ 60) : ∀ x ∈ L, x.m.pf.length ≤ 6 := by
 intro x hx
 have hm : x.m ∈ showIs sha es n ix := by rw [← hL]; exact yo.2 ⟨x, hx, rfl⟩
 obtain ⟨i, _, he⟩ := dR hm
 rw [he]
 exact sb _ (es.take n) i.toNat 6 O An
def prevX (L : List Itw) : Nat → Int
 | 0 => -1
 | k + 1 => (L.getD k Itw.z).m.ix
theorem sa {L : List Itw} {k : Nat} (h : 0 < k) : prevX L k = (L.getD (k - 1) Itw.z).m.ix := by
 cases k with
 | zero => exact absurd h (zd 0)
 | succ k => rfl
section
variable {L : List Itw} {k : Nat} {root : By} {n p : Int} {x : Itw}
theorem fi (hk : k < L.length) (hx : L.getD k Itw.z = x) : chkIs sha root n p ((itsM L).drop k) = (decide (p < x.m.ix) && decide (x.m.e.length ≤ 1000) && cA sha root n x.m.ix x.m.e x.m.pf && chkIs sha root n x.m.ix ((itsM L).drop (k + 1))) := by
 rw [rn hk, hx, chkIs]
theorem nB (hk : k < L.length) (hx : L.getD k Itw.z = x) (h1 : p < x.m.ix) (h2 : x.m.e.length ≤ 1000) (h3 : cA sha root n x.m.ix x.m.e x.m.pf = true) : chkIs sha root n p ((itsM L).drop k) = chkIs sha root n (prevX L (k + 1)) ((itsM L).drop (k + 1)) := by
 rw [fi hk hx, xF h1, xF h2, h3, prevX, hx]; rfl
end
theorem iR (key : By) (n : Nat) (hd : Hd) (lv : Value) (ix : List Int) (c : Int) (ev : Value) (es : List By) (w0 : World) (hev : SlAt w0 ev 1 (es.map fun s => [sv s])) (hlv : SlAt w0 lv 1 ((ix).map fun n => [jv n])) (hk32 : key.length = 32) (hr : regOk c es = true) (hn : n ≤ es.length) (hix : ascI (n : Int) (-1) ix = true) (hil : ix.length ≤ 1000) (hhd : hdOf sha key c es n = hd) (hk0 : (blk 0 (kOf.map wv) 258).ok w0) :
  Ret Tryz.prog 26 #[sv key, .agg #[jv c, ev], jv (n : Int), lv] w0 (MemR w0 (fun x : Value × List Itw => .tuple #[.agg #[jv hd.c, jv hd.n, sv hd.root, sv hd.tag, x.1], jv 0]) (fun x => [itsE x.1 x.2]) (fun x => itsM x.2 = showIs sha es n ix)) := by
 obtain ⟨hrc0, hrc1, hrl, hel⟩ := eO hr
 have hxb := hlv.2.1
 simp only [xC, big] at hxb
 refine zC func26 O ntmps26 (lb O) fun a Z Y => ?_
 refine aa fun _ G1 => aS Z Y O [jv c, ev] O fun a w1 Z Y => aC Z Y (zeroValue50 _) [jv 0, jv 0, .string (⟨#[]⟩), .string (⟨#[]⟩), .slice none 0 0] O fun a w2 Z Y => wla Z O fun a Z => G1 <| aa fun _ G2 => ?_
 refine nv Z <| xy O <| xx (ao (Y.g 1 O) O (isAgg75 _) (sizeOf75 _)) <| xy O <| fun a Z => ax Z Y call73 O (mF key n hd c ev es _ (Y.arg hev) hk32 hr hn hhd (Y.keepb hk0)) fun a w3 Z Y => nv Z <| xy O <| xx (aq O O) <| xx (aq O O) <| fun a Z => aC Z Y (zeroValue47 _) [jv 0, jv 0, .string (⟨#[]⟩), .string (⟨#[]⟩)] O fun a w4 Z Y => az 0 Z Y [jv hd.c, jv hd.n, sv hd.root, sv hd.tag] O (sizeOf47 _) fun a w5 Z Y => wla Z O fun a Z => G2 ?_
 refine ah fun _ G3 => aa fun _ G4 => nv (Z.p7 2 3 5 8 9 10 11 O) <| xy O <| xx ((v_ne O O).asb (b' := false) O) <| fun a Z => G4 <| aJ Z O ?_
 refine au <| G3 <| aa fun _ G5 => nv Z <| xx (ao (Y.g 0 O) O (isAgg47 _) (sizeOf47 _)) <| xx (aX (v := .agg #[jv hd.c, jv hd.n, sv hd.root, sv hd.tag, .slice none 0 0]) O kr) <| fun a Z => aC Z Y (zeroValue50 _) [jv 0, jv 0, .string (⟨#[]⟩), .string (⟨#[]⟩), .slice none 0 0] O fun a w6 Z Y => az 0 Z Y [jv hd.c, jv hd.n, sv hd.root, sv hd.tag, .slice none 0 0] O (sizeOf50 _) fun a w7 Z Y => G5 ?_
 replace Y := Y.k3 13 O
 refine ah fun _ G6 => aa fun _ G7 => nv (Z.p6 2 3 5 8 9 12 O) <| xy O <| xx ((aL (sT := 24) (Y.arg hlv) O O (runUnderlying24 _)).asi (m' := (ix.length : Int)) z6) <| xy O <| fun a Z => G7 <| ar ?_
 replace Y : St No w0 [own (.slice none 0 0) 110 3 (([]).map Itw.cells), blk w5.hz [jv hd.c, jv hd.n, sv hd.root, sv hd.tag, .slice none 0 0] 50, blk w1.hz [jv 0, jv 0, .string (⟨#[]⟩), .string (⟨#[]⟩), .slice none 0 0] 50, blk w0.hz [jv c, ev] 75] w7 := Y.nil_own
 replace Y : St No w0 [pfsE ([]), own (.slice none 0 0) 110 3 (([]).map Itw.cells), blk w5.hz [jv hd.c, jv hd.n, sv hd.root, sv hd.tag, .slice none 0 0] 50, blk w1.hz [jv 0, jv 0, .string (⟨#[]⟩), .string (⟨#[]⟩), .slice none 0 0] 50, blk w0.hz [jv c, ev] 75] w7 := vv Y
 refine aW (fun m a w => ∃ (k : Nat) (vi : Value) (L : List Itw), m = ix.length - k ∧ (k ≤ ix.length) ∧ (itsM L = showIs sha es n (ix.take k)) ∧ Fr 77 [(2, jv (n : Int)), (3, lv), (5, pq w0.hz), (8, pq w1.hz), (12, pq w5.hz), (30, lv), (31, jv (ix.length : Int)), (32, jv (k : Int))] [] a ∧ St No w0 [own vi 110 3 ((L).map Itw.cells), pfsE L, blk w5.hz [jv hd.c, jv hd.n, sv hd.root, sv hd.tag, vi] 50, blk w1.hz [jv 0, jv 0, .string (⟨#[]⟩), .string (⟨#[]⟩), .slice none 0 0] 50, blk w0.hz [jv c, ev] 75] w) _ ⟨0, .slice none 0 0, [], O, yc _, O, Z.pick [2, 3, 5, 8, 12, 30, 31, 32], Y.select [1, 0, 2, 3, 4] de⟩ ?_
 rintro _ a w8 ⟨k, vi, L, rfl, hk, hL, Z, Y⟩
 refine aa fun _ G8 => wlv Z (v_lt O O) fun a Z => G8 <| ah fun _ G9 => ?_
 refine aA Z O (fun hc1 => ?_) (fun hc1 => ?_)
 ·have hkx : k < ix.length := by omega
  refine au <| G9 <| ah fun _ G10 => ar ?_
  obtain ⟨hia, hib, hic⟩ := qV hix (k := k) hkx
  obtain ⟨iq, hki⟩ : ∃ iq : Nat, ix.getD k 0 = (iq : Int) := ⟨(ix.getD k 0).toNat, by omega⟩
  rw [hki] at hia hib hic
  refine aa fun _ G11 => nv Z <| xy O <| xx ((am (i := (k : Int)) (sT := 24) (Y.arg hlv) O O (runUnderlying24 _) (sizeOf3 _) om zL).as (v' := slAddr lv (k * 1)) O) <| xx (aD (u := jv (iq : Int)) (i := k) (j := 0) (Y.arg hlv) zL O (isAgg3 _) (by rw [bA (0 : Int), hki]; rfl)) <| xz O <| xz O <| fun a Z => G11 <| aa fun _ G12 => ?_
  refine nv Z <| xx (ac (v := po w0.hz 1) O kr) <| xx (ld Y 4 O O (isAgg44 _) O) <| xy O <| xx (dp (l := 0) (h := n) (Y.arg hev) O O O underlying44 kr (.inl ⟨O, O⟩) (.inr O) (yc _) Af) <| xy O <| fun a Z => bC Z Y call75 O (tk (cut ev 1 0 n (slCap ev)) (es.take n) iq _ ((Y.arg hev).cut0 (h := n) Al) An An (fun s h => yB (hel _ (yM h)) de) (Y.keepb hk0)) fun a w9 x3 hp Z Y => ?_
  revert x3 hp Z Y; rintro pv2 hp Z Y
  clear hp
  replace Y := Y.n6 O
  refine nv Z <| xy O <| xx (aq O O) <| xx (aq O O) <| xz O <| xz O <| fun a Z => G12 ?_
  refine ah fun _ G13 => aa fun _ G14 => nv (Z.p12 2 3 5 8 12 30 31 32 13 14 15 16 O) <| xy O <| xx ((v_ne O O).asb (b' := false) O) <| xy O <| xA (ay O) <| xA (v_gt O O) <| xA (ay O) <| fun a Z => ?_
  rcases Decidable.em (0 < (k : Int)) with hb4 | hb4
  ·rw [xF hb4] at Z
   have hic := hic om
   refine nv Z <| xA (ay O) <| xA (ay O) <| xA (ay O) <| xA (bH O O ⟨om, om⟩) <| xA ((am (i := (k : Int) - 1) (sT := 24) (Y.arg hlv) O O (runUnderlying24 _) (sizeOf3 _) om zL).as (v' := slAddr lv ((k - 1) * 1)) Au) <| xA (aD (u := jv (ix.getD (k - 1) 0)) (i := (k - 1)) (j := 0) (Y.arg hlv) zL O (isAgg3 _) AW) <| xA ((v_le O O).asb (b' := false) AN) <| xA (aw O O) <| xx (ai O O) <| fun a Z => G14 ?_
   replace Z := Z.p11 2 3 5 8 12 30 31 32 14 15 60 O
   refine aJ Z O ?_
   refine au <| G13 <| aM (aN fun w10 hxz => ?_)
   replace Y := Y.grow hxz
   refine aU (k := 0) 11 [1, 10] Z ?_
   replace Z := Z.p11 2 3 5 8 12 30 31 32 14 15 60 O
   refine bI [10] (fun i => match i with | 10 => pm (fun b : Nat => .slice (some ⟨b, 0, none⟩) 1 1) (fun b => [own (.slice (some ⟨b, 0, none⟩) 1 1) 110 3 [[jv (iq : Int), sv ((es).getD iq []), pv2]]]) (fun _ => True) | _ => fun _ _ => False) 11 [[], [0], [], [], [3], [], [4, 5], [6], [], [2, 7, 8], [9]] [po w5.hz 4, vi, jv (iq : Int), po w0.hz 1, ev, jv (iq : Int), slAddr ev (iq * 1), sv ((es).getD iq []), pv2, .agg #[jv (iq : Int), sv ((es).getD iq []), pv2], undef] Z Y ?_ ?_ ?_
   ·exact zI <| hqv (ac (v := po w5.hz 4) rfl kr) <| hqw (fun Y => ld Y 3 rfl rfl (isAgg48 _) rfl) <| hqv (ay rfl) <| hqv (ac (v := po w0.hz 1) rfl kr) <| hqw (fun Y => ld Y 5 rfl rfl (isAgg44 _) rfl) <| hqv (ay rfl) <| hqw (fun Y => (am (i := (iq : Int)) (sT := 44) (Y.arg hev) rfl rfl (runUnderlying44 _) (sizeOf9 _) om zL).as (v' := slAddr ev (iq * 1)) AR) <| hqw (fun Y => aD (u := sv ((es).getD iq [])) (i := iq) (j := 0) (Y.arg hev) zL rfl (isAgg9 _) Bn) <| hqv (ay rfl) <| hqw (fun Y => aX (v := .agg #[jv (iq : Int), sv ((es).getD iq []), pv2]) rfl Bo) <| zG (fun h => absurd sm h) <| zH
   ·intro i hi
    simp only [xL, xQ, yj] at hi
    subst hi
    ·intro w Y
     exact bP (E := 110) (sz := 3) O [[jv (iq : Int), sv ((es).getD iq []), pv2]] (fun _ => by obtain ⟨_, _, _, e0_⟩ := cQ (Y.ow 0 rfl); rw [e0_]; kernel_rfl) sm O de
   clear Z Y
   rintro _ _ ⟨b5, rfl, -, rfl⟩ a w11 Z Y
   replace Z := Z.p10 63 72 2 3 5 8 12 30 31 32 O
   replace Y := Y.n7 O
   refine ab <| aK (k := 11) 14 [13] ?_
   refine aY (i := 2) (sT := 48) (inf := Tryz.t110) (z := .agg #[jv 0, .string (⟨#[]⟩), .slice none 0 0]) (b := 0) (off := 0) (m := 0) (c := 0) O O O (Y.ow 0 O) sm underlying48 O O O O de AY zY zY de Z Y fun a w12 s6 Z Y _ => ?_
   replace Y : St No w0 [own (.slice (some ⟨b5, 0, none⟩) 1 1) 110 3 ([[jv (iq : Int), sv ((es).getD iq []), pv2]]), own pv2 9 1 ((proofH sha (es.take n) iq).map fun s => [sv s]), own s6 110 3 (((L ++ [(⟨⟨(iq : Int), es.getD iq [], proofH sha (es.take n) iq⟩, pv2⟩ : Itw)])).map Itw.cells), pfsE L, blk w5.hz [jv hd.c, jv hd.n, sv hd.root, sv hd.tag, vi] 50, blk w1.hz [jv 0, jv 0, .string (⟨#[]⟩), .string (⟨#[]⟩), .slice none 0 0] 50, blk w0.hz [jv c, ev] 75] w12 := by rw [show (((L ++ [(⟨⟨(iq : Int), es.getD iq [], proofH sha (es.take n) iq⟩, pv2⟩ : Itw)])).map Itw.cells) = ((L).map Itw.cells) ++ ([[jv (iq : Int), sv ((es).getD iq []), pv2]]) from by rw [yE]; rfl]; exact Y
   refine wlv Z (ac (v := po w5.hz 4) O kr) fun a Z => ce 4 Z Y (Y.ow 2 O) O O O (sizeOf48 _) (lb O) (ds := [jv hd.c, jv hd.n, sv hd.root, sv hd.tag, s6]) O O fun a w13 Z Y => ab <| aT <| G10 ?_
   replace Y := Y.k6 126 O
   refine aj <| nv (Z.p8 2 3 5 8 12 30 31 32 O) <| xx (aP O O ⟨om, om⟩) <| xy O <| fun a Z => ab ?_
   replace Y := Y.s6 [0, 2, 1, 3, 4, 5] de rfl
   replace Y : St No w0 [pfsE (L ++ [(⟨⟨(iq : Int), es.getD iq [], proofH sha (es.take n) iq⟩, pv2⟩ : Itw)]), own s6 110 3 (((L ++ [(⟨⟨(iq : Int), es.getD iq [], proofH sha (es.take n) iq⟩, pv2⟩ : Itw)])).map Itw.cells), blk w5.hz [jv hd.c, jv hd.n, sv hd.root, sv hd.tag, s6] 50, blk w1.hz [jv 0, jv 0, .string (⟨#[]⟩), .string (⟨#[]⟩), .slice none 0 0] 50, blk w0.hz [jv c, ev] 75] w13 := oW ⟨⟨(iq : Int), es.getD iq [], proofH sha (es.take n) iq⟩, pv2⟩ Y
   refine ⟨_, ?_, k + 1, s6, (L ++ [(⟨⟨(iq : Int), es.getD iq [], proofH sha (es.take n) iq⟩, pv2⟩ : Itw)]), O, om, (mr hL hkx hki), Z.pick [2, 3, 5, 8, 12, 30, 31, 32], Y.select [1, 0, 2, 3, 4] de⟩
   omega
  rw [xK hb4] at Z
  refine nv Z <| xB <| xB <| xB <| xB <| xB <| xB <| xB <| xA (ai O O) <| xx (ai O O) <| fun a Z => G14 ?_
  replace Z := Z.p11 2 3 5 8 12 30 31 32 14 15 60 O
  refine aJ Z O ?_
  refine au <| G13 <| aM (aN fun w14 hxz => ?_)
  replace Y := Y.grow hxz
  refine aU (k := 0) 11 [1, 10] Z ?_
  replace Z := Z.p11 2 3 5 8 12 30 31 32 14 15 60 O
  refine bI [10] (fun i => match i with | 10 => pm (fun b : Nat => .slice (some ⟨b, 0, none⟩) 1 1) (fun b => [own (.slice (some ⟨b, 0, none⟩) 1 1) 110 3 [[jv (iq : Int), sv ((es).getD iq []), pv2]]]) (fun _ => True) | _ => fun _ _ => False) 11 [[], [0], [], [], [3], [], [4, 5], [6], [], [2, 7, 8], [9]] [po w5.hz 4, vi, jv (iq : Int), po w0.hz 1, ev, jv (iq : Int), slAddr ev (iq * 1), sv ((es).getD iq []), pv2, .agg #[jv (iq : Int), sv ((es).getD iq []), pv2], undef] Z Y ?_ ?_ ?_
  ·exact zI <| hqv (ac (v := po w5.hz 4) rfl kr) <| hqw (fun Y => ld Y 3 rfl rfl (isAgg48 _) rfl) <| hqv (ay rfl) <| hqv (ac (v := po w0.hz 1) rfl kr) <| hqw (fun Y => ld Y 5 rfl rfl (isAgg44 _) rfl) <| hqv (ay rfl) <| hqw (fun Y => (am (i := (iq : Int)) (sT := 44) (Y.arg hev) rfl rfl (runUnderlying44 _) (sizeOf9 _) om zL).as (v' := slAddr ev (iq * 1)) AR) <| hqw (fun Y => aD (u := sv ((es).getD iq [])) (i := iq) (j := 0) (Y.arg hev) zL rfl (isAgg9 _) Bn) <| hqv (ay rfl) <| hqw (fun Y => aX (v := .agg #[jv (iq : Int), sv ((es).getD iq []), pv2]) rfl Bo) <| zG (fun h => absurd sm h) <| zH
  ·intro i hi
   simp only [xL, xQ, yj] at hi
   subst hi
   ·intro w Y
    exact bP (E := 110) (sz := 3) O [[jv (iq : Int), sv ((es).getD iq []), pv2]] (fun _ => by obtain ⟨_, _, _, e0_⟩ := cQ (Y.ow 0 rfl); rw [e0_]; kernel_rfl) sm O de
  clear Z Y
  rintro _ _ ⟨b7, rfl, -, rfl⟩ a w15 Z Y
  replace Z := Z.p10 63 72 2 3 5 8 12 30 31 32 O
  replace Y := Y.n7 O
  refine ab <| aK (k := 11) 14 [13] ?_
  refine aY (i := 2) (sT := 48) (inf := Tryz.t110) (z := .agg #[jv 0, .string (⟨#[]⟩), .slice none 0 0]) (b := 0) (off := 0) (m := 0) (c := 0) O O O (Y.ow 0 O) sm underlying48 O O O O de AY zY zY de Z Y fun a w16 s8 Z Y _ => ?_
  replace Y : St No w0 [own (.slice (some ⟨b7, 0, none⟩) 1 1) 110 3 ([[jv (iq : Int), sv ((es).getD iq []), pv2]]), own pv2 9 1 ((proofH sha (es.take n) iq).map fun s => [sv s]), own s8 110 3 (((L ++ [(⟨⟨(iq : Int), es.getD iq [], proofH sha (es.take n) iq⟩, pv2⟩ : Itw)])).map Itw.cells), pfsE L, blk w5.hz [jv hd.c, jv hd.n, sv hd.root, sv hd.tag, vi] 50, blk w1.hz [jv 0, jv 0, .string (⟨#[]⟩), .string (⟨#[]⟩), .slice none 0 0] 50, blk w0.hz [jv c, ev] 75] w16 := by rw [show (((L ++ [(⟨⟨(iq : Int), es.getD iq [], proofH sha (es.take n) iq⟩, pv2⟩ : Itw)])).map Itw.cells) = ((L).map Itw.cells) ++ ([[jv (iq : Int), sv ((es).getD iq []), pv2]]) from by rw [yE]; rfl]; exact Y
  refine wlv Z (ac (v := po w5.hz 4) O kr) fun a Z => ce 4 Z Y (Y.ow 2 O) O O O (sizeOf48 _) (lb O) (ds := [jv hd.c, jv hd.n, sv hd.root, sv hd.tag, s8]) O O fun a w17 Z Y => ab <| aT <| G10 ?_
  replace Y := Y.k6 126 O
  refine aj <| nv (Z.p8 2 3 5 8 12 30 31 32 O) <| xx (aP O O ⟨om, om⟩) <| xy O <| fun a Z => ab ?_
  replace Y := Y.s6 [0, 2, 1, 3, 4, 5] de rfl
  replace Y : St No w0 [pfsE (L ++ [(⟨⟨(iq : Int), es.getD iq [], proofH sha (es.take n) iq⟩, pv2⟩ : Itw)]), own s8 110 3 (((L ++ [(⟨⟨(iq : Int), es.getD iq [], proofH sha (es.take n) iq⟩, pv2⟩ : Itw)])).map Itw.cells), blk w5.hz [jv hd.c, jv hd.n, sv hd.root, sv hd.tag, s8] 50, blk w1.hz [jv 0, jv 0, .string (⟨#[]⟩), .string (⟨#[]⟩), .slice none 0 0] 50, blk w0.hz [jv c, ev] 75] w17 := oW ⟨⟨(iq : Int), es.getD iq [], proofH sha (es.take n) iq⟩, pv2⟩ Y
  refine ⟨_, ?_, k + 1, s8, (L ++ [(⟨⟨(iq : Int), es.getD iq [], proofH sha (es.take n) iq⟩, pv2⟩ : Itw)]), O, om, (mr hL hkx hki), Z.pick [2, 3, 5, 8, 12, 30, 31, 32], Y.select [1, 0, 2, 3, 4] de⟩
  omega
 obtain rfl : k = ix.length := by omega
 rw [List.take_length] at hL
 refine aO <| G6 <| aa fun _ G15 => wlv Z (ao (Y.g 2 O) O (isAgg50 _) (sizeOf50 _)) fun a Z => bd (us := [jv hd.c, jv hd.n, sv hd.root, sv hd.tag, vi]) 3 Z Y O O O (sizeOf50 _) (by intro z hz; simp only [xL, xQ, yj] at hz; rcases hz with rfl | rfl | rfl | rfl | rfl <;> first | rfl | exact SlAt.one (Y.ow 0 rfl)) (lb O) (ds := [jv hd.c, jv hd.n, sv hd.root, sv hd.tag, vi]) O O fun a w18 Z Y => ?_
 refine wla Z O fun a Z => G15 ?_
 replace Z := Z.p2 8 9 O
 replace Y := Y.k3 11 O
 refine ap <| al Z results26 (ak O (bf (Y.g 2 O) (isAgg50 _) (sizeOf50 _)) (ag O ae)) ?_
 replace Y := Y.s3 [0, 1, 2] de rfl
 replace Y : St No w0 [itsE vi L, blk w1.hz [jv hd.c, jv hd.n, sv hd.root, sv hd.tag, vi] 50] w18 := xh Y
 exact ⟨(vi, L), O, hL, Y.ext, St.out (E := [itsE vi L]) (H := []) (Y.select [0] de)⟩
theorem eH (key : By) (hd : Hd) (iv : Value) (L : List Itw) (w0 : World) (hiv : ItsAt w0 iv L) (hpf : ∀ x ∈ L, x.m.pf.length ≤ 1000) (hk0 : (blk 0 (kOf.map wv) 258).ok w0) :
  Ret Tryz.prog 52 #[sv key, .agg #[jv hd.c, jv hd.n, sv hd.root, sv hd.tag, iv]] w0 fun v w => v = .bool (checkP sha key hd (itsM L)) ∧ Ext No w0 w := by
 have hxb := hiv.len
 refine zy func52 O ntmps52 (lb O) fun a Z Y => ?_
 refine aa fun _ G1 => aS Z Y O [jv hd.c, jv hd.n, sv hd.root, sv hd.tag, iv] O fun a w1 Z Y => wla Z O fun a Z => G1 <| ah fun _ G2 => ?_
 refine aa fun _ G3 => nv Z <| xy O <| xx (ac (v := pq w0.hz) O kr) <| xx (bO (ds := [jv hd.c, jv hd.n, sv hd.root, sv hd.tag]) (Y.g 0 O) O (isAgg47 _) (sizeOf47 _) O) <| fun a Z => ax Z Y call113 O (uH key hd _ (Y.keepb hk0)) fun a w2 Z Y => wlv Z (bD O) fun a Z => G3 ?_
 replace Z := Z.p3 3 4 12 O
 refine bu Z O (fun hc1 => ?_) (fun hc1 => ?_)
 ·try simp only [qz] at hc1
  have hgn : genHd sha key hd = false := by simpa using hc1
  refine aa fun _ G4 => wla Z O fun a Z => G4 <| ap ?_
  refine al Z results52 (ag O ae) ?_
  refine ⟨?_, Y.ext⟩
  simp only [retv]
  refine yf Value.bool ?_
  unfold checkP
  rw [hgn]; rfl
 try simp only [qz] at hc1
 have hgn : genHd sha key hd = true := by simpa using hc1
 have hgb : hd.n ≤ 60 := by have h := hgn; unfold genHd inB at h; simp only [xD, xG] at h; omega
 refine au <| G2 <| ah fun _ G5 => aa fun _ G6 => nv Z <| xx (ac (v := po w0.hz 4) O kr) <| xx (ld Y 0 O O (isAgg48 _) O) <| xx ((aL (sT := 48) (Y.arg hiv.1) O O (runUnderlying48 _)).asi (m' := (L.length : Int)) z6) <| xy O <| fun a Z => G6 <| ar ?_
 refine aW (fun m a w => ∃ (k : Nat), m = L.length - k ∧ (k ≤ L.length) ∧ (chkIs sha hd.root hd.n (-1) (itsM L) = chkIs sha hd.root hd.n (prevX L k) ((itsM L).drop k)) ∧ Fr 60 [(3, pq w0.hz), (14, iv), (15, jv (L.length : Int)), (16, jv (k : Int))] [] a ∧ St No w0 [blk w0.hz [jv hd.c, jv hd.n, sv hd.root, sv hd.tag, iv] 50] w) _ ⟨0, O, yc _, O, Z.pick [3, 14, 15, 16], Y.select [0] de⟩ ?_
 rintro _ a w3 ⟨k, rfl, hk, hs, Z, Y⟩
 refine aa fun _ G7 => wlv Z (v_lt O O) fun a Z => G7 <| ah fun _ G8 => ?_
 refine aA Z O (fun hc2 => ?_) (fun hc2 => ?_)
 ·have hkx : k < L.length := by omega
  refine au <| G8 <| ah fun _ G9 => ar ?_
  obtain ⟨⟨⟨ix, e, pf⟩, pv⟩, hx⟩ : ∃ x, L.getD k Itw.z = x := ⟨_, rfl⟩
  have hxm := bt (d := Itw.z) hkx
  rw [hx] at hxm
  have hpv : SlAt w0 pv 1 (pf.map fun s => [sv s]) := hiv.2 _ hxm
  have hpl : pf.length ≤ 1000 := hpf _ hxm
  refine aa fun _ G10 => nv Z <| xy O <| xx ((am (i := (k : Int)) (sT := 48) (Y.arg hiv.1) O O (runUnderlying48 _) (sizeOf110 _) om zL).as (v' := slAddr iv (k * 3)) O) <| xx ((bL (Y.arg hiv.1) (i := k) zL O (isAgg110 _) (sizeOf110 _)).as (v' := .agg #[jv ix, sv e, pv]) (by rw [bA Itw.z, hx]; rfl)) <| fun a Z => aC Z Y (zeroValue110 _) [jv 0, .string (⟨#[]⟩), .slice none 0 0] O fun a w4 Z Y => wla Z O fun a Z => bd (us := [jv ix, sv e, pv]) 0 Z Y O O O (sizeOf110 _) (by intro z hz; simp only [xL, xQ, yj] at hz; rcases hz with rfl | rfl | rfl <;> first | rfl | exact SlAt.one (Y.arg hpv)) (lb O) (ds := [jv ix, sv e, pv]) O O fun a w5 Z Y => ?_
  refine G10 <| ah fun _ G11 => ?_
  refine aM (aN fun w6 hxz => ?_)
  replace Y := Y.grow hxz
  refine aK (k := 0) 3 [2] ?_
  refine nv Z <| xy O <| xx (v_eq O O) <| xy O <| fun a Z => ab ?_
  rcases Decidable.em ((k : Int) = 0) with hb3 | hb3
  ·rw [xF hb3] at Z
   have hk0e : k = 0 := by omega
   refine cW (k := 3) 12 [9, 11] (Z.p12 3 14 15 16 18 19 20 6 5 21 22 23 O) fun a Z => ?_
   replace Z : Fr 60 [(24, undef), (25, undef), (26, undef), (27, undef), (28, undef), (29, undef), (30, undef), (31, undef), (32, undef), (3, pq w0.hz), (14, iv), (15, jv (L.length : Int)), (16, jv (k : Int)), (18, jv (k : Int)), (19, slAddr iv (k * 3)), (20, .agg #[jv ix, sv e, pv]), (6, pq w3.hz), (5, jv (k : Int)), (21, jv (k : Int)), (22, .bool true), (23, .bool true)] [] a := Z
   refine aK (k := 12) 15 [14] ?_
   refine nv Z <| xB <| xx (aw O O) <| xz O <| fun a Z => ab <| aT <| G11 ?_
   refine aa fun _ G12 => nv (Z.p6 3 14 15 16 6 7 O) <| xy O <| xx ((bD O).asb (b' := false) O) <| xy O <| xA (ac (v := po w3.hz 1) O kr) <| xA (ld Y 0 O O (isAgg9 _) O) <| xA (bn O O (runUnderlying9 _)) <| xA (v_gt O O) <| xx (ai O O) <| xy O <| fun a Z => ?_
   rcases Decidable.em (1000 < (e.length : Int)) with hb4 | hb4
   ·rw [xF hb4] at Z
    have hbad : chkIs sha hd.root hd.n (-1) (itsM L) = false := by rw [hs, fi hkx hx]; rw [xK (show ¬ e.length ≤ 1000 by omega), yL]; rfl
    refine nv Z <| xB <| xB <| xB <| xB <| xB <| xB <| xB <| xB <| xB <| xB <| xB <| xB <| xB <| xB <| xx (aw O O) <| fun a Z => G12 ?_
    replace Z := Z.p5 3 14 15 16 58 O
    replace Y := Y.k1 2 O
    refine aH Z O ?_
    refine aa fun _ G13 => wla Z O fun a Z => G13 <| ap ?_
    refine al Z results52 (ag O ae) ?_
    refine ⟨?_, Y.ext⟩
    simp only [retv]
    refine yf Value.bool ?_
    unfold checkP
    rw [hbad, yL]
   rw [xK hb4] at Z
   have hel : e.length ≤ 1000 := by omega
   refine nv Z <| xA (ac (v := pq w0.hz) O kr) <| xA (ac (v := po w0.hz 2) O kr) <| xA (ld Y 1 O O (isAgg9 _) O) <| xA (ac (v := pq w0.hz) O kr) <| xA (ac (v := po w0.hz 1) O kr) <| xA (ld Y 1 O O (isAgg3 _) O) <| xA (ac (v := pq w3.hz) O kr) <| xA (ld Y 0 O O (isAgg3 _) O) <| xA (ac (v := po w3.hz 1) O kr) <| xA (ld Y 0 O O (isAgg9 _) O) <| xA (ac (v := po w3.hz 2) O kr) <| xA (ld Y 0 O O (isAgg44 _) O) <| fun a Z => aF Z Y call114 O (l7 hd.root e hd.n ix pv pf _ (Y.arg hpv) om om om (Y.keepb hk0)) fun a w7 Z Y => nv Z <| xA (bD O) <| xx (ai O O) <| fun a Z => G12 ?_
   replace Z := Z.p5 3 14 15 16 58 O
   replace Y := Y.k1 2 O
   refine bu Z O (fun hc5 => ?_) (fun hc5 => ?_)
   ·try simp only [qz] at hc5
    have hvf : cA sha hd.root hd.n ix e pf = false := by simpa using hc5
    have hbad : chkIs sha hd.root hd.n (-1) (itsM L) = false := by rw [hs, fi hkx hx]; rw [show cA sha hd.root hd.n (⟨⟨ix, e, pf⟩, pv⟩ : Itw).m.ix (⟨⟨ix, e, pf⟩, pv⟩ : Itw).m.e (⟨⟨ix, e, pf⟩, pv⟩ : Itw).m.pf = false from hvf, yL]; rfl
    refine aa fun _ G14 => wla Z O fun a Z => G14 <| ap ?_
    refine al Z results52 (ag O ae) ?_
    refine ⟨?_, Y.ext⟩
    simp only [retv]
    refine yf Value.bool ?_
    unfold checkP
    rw [hbad, yL]
   try simp only [qz] at hc5
   have hvf : cA sha hd.root hd.n ix e pf = true := by simpa using hc5
   have hgo : prevX L k < ix := by rw [hk0e]; have := (ir hvf).1; show -1 < ix; omega
   refine au <| G9 <| aj <| nv Z <| xx (aP O O ⟨om, om⟩) <| xy O <| fun a Z => ab ?_
   refine ⟨_, ?_, k + 1, O, om, (by rw [hs]; exact nB hkx hx hgo hel hvf), Z.pick [3, 14, 15, 16], Y.select [0] de⟩
   omega
  rw [xK hb3] at Z
  have hpvx := sa (L := L) (k := k) om
  refine aU (k := 3) 12 [9, 11] Z ?_
  replace Z := Z.p12 3 14 15 16 18 19 20 6 5 21 22 23 O
  refine bQ 9 Z Y <| pl_v (ac (v := po w0.hz 4) O kr) <| pl_w (fun Y => ld Y 1 O O (isAgg48 _) O) <| pl_m O <| pl_v (bH O O ⟨om, om⟩) <| pl_w (fun Y => (am (i := (k : Int) - 1) (sT := 48) (Y.arg hiv.1) O O (runUnderlying48 _) (sizeOf110 _) om zL).as (v' := slAddr iv ((k - 1) * 3)) Au) <| pl_w (fun Y => cC (k := (k - 1) * 3) (j := 0) (Y.arg hiv.1) (i := (k - 1)) zL O (fun _ _ => by kernel_rfl)) <| pl_w (fun Y => aD (u := jv ((L.getD (k - 1) Itw.z).m.ix)) (i := (k - 1)) (j := 0) (Y.arg hiv.1) zL O (isAgg3 _) (by rw [bA Itw.z]; rfl)) ?_
  refine pl_v (ac (v := pq w3.hz) O kr) <| pl_w (fun Y => ld Y 0 O O (isAgg3 _) O) fun a w8 Z Y => ?_
  replace Z := Z.p8 3 14 15 16 6 23 30 32 O
  refine ab <| aK (k := 12) 15 [14] ?_
  refine nv Z <| xA (v_lt O O) <| xx (ai O O) <| xz O <| fun a Z => ab <| aT <| G11 <| aa fun _ G15 => nv Z <| xy O <| xx (bD O) <| xy O <| fun a Z => ?_
  rcases (Decidable.em ((L.getD (k - 1) Itw.z).m.ix < ix)).symm with hb6 | hb6
  ·rw [xK hb6] at Z
   have hbad : chkIs sha hd.root hd.n (-1) (itsM L) = false := by rw [hs, fi hkx hx]; rw [xK (by rw [hpvx]; show ¬ _ < ix; omega)]; rfl
   refine nv Z <| xB <| xB <| xB <| xB <| xx (aw O O) <| xy O <| xB <| xB <| xB <| xB <| xB <| xB <| xB <| xB <| xB <| xB <| xB <| xB <| xB <| xB <| xx (aw O O) <| fun a Z => G15 ?_
   replace Z := Z.p5 3 14 15 16 58 O
   replace Y := Y.k1 2 O
   refine aH Z O ?_
   refine aa fun _ G16 => wla Z O fun a Z => G16 <| ap ?_
   refine al Z results52 (ag O ae) ?_
   refine ⟨?_, Y.ext⟩
   simp only [retv]
   refine yf Value.bool ?_
   unfold checkP
   rw [hbad, yL]
  rw [xF hb6] at Z
  have hgo : prevX L k < ix := by rw [hpvx]; omega
  refine nv Z <| xA (ac (v := po w3.hz 1) O kr) <| xA (ld Y 0 O O (isAgg9 _) O) <| xA (bn O O (runUnderlying9 _)) <| xA (v_gt O O) <| xx (ai O O) <| xy O <| fun a Z => ?_
  rcases Decidable.em (1000 < (e.length : Int)) with hb7 | hb7
  ·rw [xF hb7] at Z
   have hbad : chkIs sha hd.root hd.n (-1) (itsM L) = false := by rw [hs, fi hkx hx]; rw [xK (show ¬ e.length ≤ 1000 by omega), yL]; rfl
   refine nv Z <| xB <| xB <| xB <| xB <| xB <| xB <| xB <| xB <| xB <| xB <| xB <| xB <| xB <| xB <| xx (aw O O) <| fun a Z => G15 ?_
   replace Z := Z.p5 3 14 15 16 58 O
   replace Y := Y.k1 2 O
   refine aH Z O ?_
   refine aa fun _ G17 => wla Z O fun a Z => G17 <| ap ?_
   refine al Z results52 (ag O ae) ?_
   refine ⟨?_, Y.ext⟩
   simp only [retv]
   refine yf Value.bool ?_
   unfold checkP
   rw [hbad, yL]
  rw [xK hb7] at Z
  have hel : e.length ≤ 1000 := by omega
  refine nv Z <| xA (ac (v := pq w0.hz) O kr) <| xA (ac (v := po w0.hz 2) O kr) <| xA (ld Y 1 O O (isAgg9 _) O) <| xA (ac (v := pq w0.hz) O kr) <| xA (ac (v := po w0.hz 1) O kr) <| xA (ld Y 1 O O (isAgg3 _) O) <| xA (ac (v := pq w3.hz) O kr) <| xA (ld Y 0 O O (isAgg3 _) O) <| xA (ac (v := po w3.hz 1) O kr) <| xA (ld Y 0 O O (isAgg9 _) O) <| xA (ac (v := po w3.hz 2) O kr) <| xA (ld Y 0 O O (isAgg44 _) O) <| fun a Z => aF Z Y call114 O (l7 hd.root e hd.n ix pv pf _ (Y.arg hpv) om om om (Y.keepb hk0)) fun a w9 Z Y => nv Z <| xA (bD O) <| xx (ai O O) <| fun a Z => G15 ?_
  replace Z := Z.p5 3 14 15 16 58 O
  replace Y := Y.k1 2 O
  refine bu Z O (fun hc8 => ?_) (fun hc8 => ?_)
  ·try simp only [qz] at hc8
   have hvf : cA sha hd.root hd.n ix e pf = false := by simpa using hc8
   have hbad : chkIs sha hd.root hd.n (-1) (itsM L) = false := by rw [hs, fi hkx hx]; rw [show cA sha hd.root hd.n (⟨⟨ix, e, pf⟩, pv⟩ : Itw).m.ix (⟨⟨ix, e, pf⟩, pv⟩ : Itw).m.e (⟨⟨ix, e, pf⟩, pv⟩ : Itw).m.pf = false from hvf, yL]; rfl
   refine aa fun _ G18 => wla Z O fun a Z => G18 <| ap ?_
   refine al Z results52 (ag O ae) ?_
   refine ⟨?_, Y.ext⟩
   simp only [retv]
   refine yf Value.bool ?_
   unfold checkP
   rw [hbad, yL]
  try simp only [qz] at hc8
  have hvf : cA sha hd.root hd.n ix e pf = true := by simpa using hc8
  refine au <| G9 <| aj <| nv Z <| xx (aP O O ⟨om, om⟩) <| xy O <| fun a Z => ab ?_
  refine ⟨_, ?_, k + 1, O, om, (by rw [hs]; exact nB hkx hx hgo hel hvf), Z.pick [3, 14, 15, 16], Y.select [0] de⟩
  omega
 have hall : chkIs sha hd.root hd.n (-1) (itsM L) = true := by rw [hs, show k = (itsM L).length by rw [eK]; omega, List.drop_length]; rfl
 refine aO <| G5 <| aa fun _ G19 => wla Z O fun a Z => G19 ?_
 replace Z := Z.p1 4 O
 replace Y := Y.k0 0 O
 refine ap <| al Z results52 (ag O ae) ?_
 refine ⟨?_, Y.ext⟩
 simp only [retv]
 refine yf Value.bool ?_
 unfold checkP
 rw [hgn, hall]; rfl
end Go.Proofs.YtliklcmddmpdfaaGreatDoor
namespace Go.Proofs.YtliklcmddmpdfaaGreatDoor
open Go.RowKit Go.PW _root_.Go.Proofs.Tryz
theorem qL {s : By} {x : Cas} {w0 : World} (h : decCas s = some x) (hsl : s.length ≤ 1000000) : Ret Tryz.prog 20 #[sv s] w0 fun v w => v = .tuple #[.agg x.cells.toArray, jv 0] ∧ Ext No w0 w := by
 have := tC s w0 hsl
 unfold dcX dcE at this
 rw [h] at this
 exact this
theorem tj {s : By} {w0 : World} (h : decCas s = none) (hsl : s.length ≤ 1000000) : Ret Tryz.prog 20 #[sv s] w0 fun v w => v = .tuple #[.agg Cas.z.cells.toArray, jv 210] ∧ Ext No w0 w := by
 have := tC s w0 hsl
 unfold dcX dcE at this
 rw [h] at this
 exact this
def encK (x : Int × Cas) : List Value := [jv x.1, .agg x.2.cells.toArray]
section
variable {L : List Itw} {k : Nat} {ix : Int} {en : By} {pf : List By} {pv : Value} {cc : Cas}
theorem lE {L : List Itw} {k : Nat} (hk : k < L.length) : (itsM L).take (k + 1) = (itsM L).take k ++ [(L.getD k Itw.z).m] := by
 unfold itsM
 rw [← List.map_take, cz Itw.z hk, yE, List.map_take]; rfl
theorem lA (hk : k < L.length) (hx : L.getD k Itw.z = ⟨⟨ix, en, pf⟩, pv⟩) (hd : decCas en = some cc) : casesF ((itsM L).take (k + 1)) = casesF ((itsM L).take k) ++ [(ix, cc)] := by
 rw [lE hk, gI, eh, hx]
 simp only [hd]
 rfl
theorem ue (hk : k < L.length) (hx : L.getD k Itw.z = ⟨⟨ix, en, pf⟩, pv⟩) (hd : decCas en = none) : casesF ((itsM L).take (k + 1)) = casesF ((itsM L).take k) := by
 rw [lE hk, gI, eh, hx]
 simp only [hd, yl]
 show _ ++ [] = _
 rw [yU]
theorem wO (hk : k < L.length) (hx : L.getD k Itw.z = ⟨⟨ix, en, pf⟩, pv⟩) (hd : decCas en = some cc) : NxK (casesF (itsM L)) (casesF ((itsM L).take k)) (ix, cc) := by
 refine ⟨casesF ((itsM L).drop (k + 1)), ?_⟩
 have h : itsM L = (itsM L).take (k + 1) ++ (itsM L).drop (k + 1) := (y6 _ _).symm
 have h2 : casesF (itsM L) = casesF ((itsM L).take (k + 1)) ++ casesF ((itsM L).drop (k + 1)) := by rw [← gI, ← h]
 rw [h2, lA hk hx hd, yq]; rfl
end
def OkP (n : Int) (L : List Itw) : Prop := 0 ≤ n ∧ n ≤ 60 ∧ ∀ x ∈ L, 0 ≤ x.m.ix ∧ x.m.ix < n ∧ x.m.e.length ≤ 1000
theorem mc {root : By} {n : Int} : ∀ {l : List Itm} {p : Int}, chkIs sha root n p l = true → ∀ x ∈ l, 0 ≤ x.ix ∧ x.ix < n ∧ x.e.length ≤ 1000
 | [], p, h => by simp
 | y :: l, p, h => by
  simp only [chkIs, xD, xG] at h
  intro x hx
  rcases xL.1 hx with rfl | hx
  ·have := ir h.1.2
   exact ⟨this.1, this.2.1, h.1.1.2⟩
  ·exact mc h.2 x hx
theorem iJ {key : By} {hd : Hd} {L : List Itw} (h : checkP sha key hd (itsM L) = true) : OkP hd.n L := by
 unfold checkP at h
 rw [xD] at h
 have hg := h.1
 unfold genHd inB at hg
 simp only [xD, xG] at hg
 refine ⟨by omega, by omega, fun x hx => mc h.2 x.m (yo.2 ⟨x, hx, O⟩)⟩
theorem wZ {n : Int} {L : List Itw} (h : OkP n L) {p : Int × Cas} (hp : p ∈ casesF (itsM L)) : 0 ≤ p.1 ∧ p.1 < n := by
 obtain ⟨x, hx, h1, _⟩ := dZ.1 hp
 obtain ⟨y, hy, rfl⟩ := yo.1 hx
 have := h.2.2 y hy
 rw [← h1]; omega
def LHit (size num : Int) (p : Int × Cas) (la : Int) (fo : Bool) : Prop := (p.2.n < num ∧ p.1 = size - 1) ∨ (num < p.2.n ∧ (p.1 = 0 ∨ (fo = true ∧ la = p.1 - 1)))
theorem nz {size num la : Int} {p : Int × Cas} {fo : Bool} : ((decide (p.2.n < num) && decide (p.1 = size - 1)) || (decide (num < p.2.n) && (decide (p.1 = 0) || (fo && decide (la = p.1 - 1))))) = true ↔ LHit size num p la fo := by
 unfold LHit
 simp only [xX, xD, xG]
theorem gu {size num la : Int} {fo b : Bool} {l pre : List (Int × Cas)} {p : Int × Cas} (h : LackI size num l pre la fo) (hc : ¬ LHit size num p la fo) (hb : decide (p.2.n < num) = b) : LackI size num l (pre ++ [p]) p.1 b := by
 subst hb
 exact tm h (by rw [Bool.eq_false_iff]; exact fun h => hc (nz.1 h))
theorem fZ {size num la : Int} {fo : Bool} {l pre : List (Int × Cas)} {p : Int × Cas} (h : LackI size num l pre la fo) (hx : NxK l pre p) (hc : LHit size num p la fo) : lackC size num (-1) false l = true := rK h hx (nz.2 hc)
theorem dQ (hd : Hd) (iv : Value) (L : List Itw) (w0 : World) (hiv : ItsAt w0 iv L) :
  Ret Tryz.prog 74 #[.agg #[jv hd.c, jv hd.n, sv hd.root, sv hd.tag, iv]] w0 (MemR w0 (fun z : Nat => .func (.func 125) #[] #[pq z]) (fun z => [blk z [jv hd.c, jv hd.n, sv hd.root, sv hd.tag, iv] 50]) (fun _ => True)) := by
 refine zA func74 O ntmps74 (lb O) fun a Z Y => ?_
 refine aa fun _ G1 => aS Z Y O [jv hd.c, jv hd.n, sv hd.root, sv hd.tag, iv] O fun a w1 Z Y => wla Z O fun a Z => G1 <| aa fun _ G2 => ?_
 refine nv Z <| xx (cd O O) <| xz O <| fun a Z => G2 <| ap ?_
 refine al Z results74 (ag O ae) ?_
 exact ⟨w0.hz, O, trivial, Y.ext, St.out (H := []) Y⟩
theorem sr {M : Nat → Prop} {w0 : World} (hd : Hd) (iv : Value) (L : List Itw) (lp b1 : Nat) (J Jx : List (Int × Cas) → Ent → Prop) (hY : Rounds Tryz.prog M w0 lp encK (NxK (casesF (itsM L))) J Jx) (e0 : Ent) (ws : World) (hel : ∀ x ∈ L, x.m.e.length ≤ 1000) (hiv : ∀ (H : List Ent) (w : World), St M w0 H w → ItsAt w iv L) (hJ : J [] e0) (Y : St M w0 [e0, blk b1 [jv hd.c, jv hd.n, sv hd.root, sv hd.tag, iv] 50] ws) :
  Ret Tryz.prog 125 #[.func (.yield lp) #[] #[], pq b1] ws fun _ w => ∃ e1 Hi1, St M w0 (e1 :: Hi1) w ∧ ((∃ ys, (ys = casesF (itsM L) ∧ Hi1 = [blk b1 [jv hd.c, jv hd.n, sv hd.root, sv hd.tag, iv] 50]) ∧ J ys e1) ∨ (∃ pre, Hi1 = [blk b1 [jv hd.c, jv hd.n, sv hd.root, sv hd.tag, iv] 50] ∧ Jx pre e1)) := by
 have hxb := (hiv _ _ Y).len
 refine aB func125 O ntmps125 (lb O) fun a Z => ?_
 replace Z := Z.p2 0 1 O
 skip
 refine aa fun _ G1 => nv Z <| xx (ac (v := po b1 4) O kr) <| xx (ld Y 1 O O (isAgg48 _) O) <| xx ((aL (sT := 48) (hiv _ _ Y).1 O O (runUnderlying48 _)).asi (m' := (L.length : Int)) z6) <| xy O <| fun a Z => G1 <| ar ?_
 refine aW (fun m a w => ∃ (k : Nat) (e : Ent), m = L.length - k ∧ (k ≤ L.length) ∧ (J (casesF ((itsM L).take k)) e) ∧ Fr 31 [(0, .func (.yield lp) #[] #[]), (8, iv), (9, jv (L.length : Int)), (10, jv (k : Int))] [] a ∧ St M w0 [e, blk b1 [jv hd.c, jv hd.n, sv hd.root, sv hd.tag, iv] 50] w) _ ⟨0, e0, O, yc _, hJ, Z.pick [0, 8, 9, 10], Y.select [0, 1] de⟩ ?_
 rintro _ a w1 ⟨k, e, rfl, hk, hJ, Z, Y⟩
 refine aa fun _ G2 => wlv Z (v_lt O O) fun a Z => G2 <| ah fun _ G3 => ?_
 refine aA Z O (fun hc1 => ?_) (fun hc1 => ?_)
 ·have hkx : k < L.length := by omega
  refine au <| G3 <| ah fun _ G4 => ar ?_
  obtain ⟨⟨⟨ix, en, pf⟩, pv⟩, hx⟩ : ∃ x, L.getD k Itw.z = x := ⟨_, rfl⟩
  have hxm := bt (d := Itw.z) hkx
  rw [hx] at hxm
  have hln : en.length ≤ 1000 := hel _ hxm
  refine aa fun _ G5 => nv Z <| xx ((am (i := (k : Int)) (sT := 48) (hiv _ _ Y).1 O O (runUnderlying48 _) (sizeOf110 _) om zL).as (v' := slAddr iv (k * 3)) O) <| xx ((bL (hiv _ _ Y).1 (i := k) zL O (isAgg110 _) (sizeOf110 _)).as (v' := .agg #[jv ix, sv en, pv]) (by rw [bA Itw.z, hx]; rfl)) <| fun a Z => aC Z Y (zeroValue110 _) [jv 0, .string (⟨#[]⟩), .slice none 0 0] O fun a w2 Z Y => bd (us := [jv ix, sv en, pv]) 0 Z Y O O O (sizeOf110 _) (by intro z hz; simp only [xL, xQ, yj] at hz; rcases hz with rfl | rfl | rfl <;> first | rfl | exact SlAt.one ((hiv _ _ Y).2 _ hxm)) (lb O) (ds := [jv ix, sv en, pv]) O O fun a w3 Z Y => ?_
  refine G5 <| aa fun _ G6 => ?_
  refine nv Z <| xx (ac (v := po w1.hz 1) O kr) <| xx (ld Y 0 O O (isAgg9 _) O) <| fun a Z => ?_
  rcases xH ((decCas en).isSome) with hb2 | hb2
  ·obtain ⟨cc, hcc⟩ := yH.1 hb2
   refine ax Z Y call20 O (qL hcc om) fun a w4 Z Y => nv Z <| xy O <| xx (aq O O) <| xx (aq O O) <| fun a Z => aC Z Y (zeroValue55 _) [jv 0, jv 0, .string (⟨#[]⟩)] O fun a w5 Z Y => az 0 Z Y [jv cc.n, jv cc.t, sv cc.ev] O (sizeOf55 _) fun a w6 Z Y => wla Z O fun a Z => G6 ?_
   refine aa fun _ G7 => nv (Z.p7 0 8 9 10 4 5 6 O) <| xy O <| xx ((v_eq O O).asb (b' := true) O) <| xy O <| xA (ay O) <| xA (ac (v := pq w1.hz) O kr) <| xA (ld Y 1 O O (isAgg3 _) O) <| xA (ao (Y.g 0 O) O (isAgg55 _) (sizeOf55 _)) <| fun a Z => eo Z ?_
   refine wl_r (fG O O (hY.yield (pre := casesF ((itsM L).take k)) (x := (ix, cc)) (wO hkx hx hcc) hJ (Y.only (i := 2) O))) O O Z fun a v w7 hR Z => ?_
   obtain ⟨y3, e4, rfl, hx, hok, hft, hJt, hJf⟩ := hR
   replace Y := Y.exchange (k := 2) rfl hx hok hft
   replace Y := Y.n4 O
   clear hx hok hft
   refine nv Z <| xA (bD O) <| xx (aw O O) <| fun a Z => G7 ?_
   replace Z := Z.p5 0 8 9 10 29 O
   replace Y := Y.k2 12 O
   refine bu Z O (fun hc5 => ?_) (fun hc5 => ?_)
   ·try simp only [qz] at hc5
    have hJ := hJf hc5
    refine ap <| al Z results125 ae ?_
    replace Y := Y.select [0, 1] de
    exact ⟨_, _, Y, .inr ⟨_, O, hJ⟩⟩
   try simp only [qz] at hc5
   have hJ := hJt hc5
   refine au <| G4 <| aj <| nv Z <| xx (aP O O ⟨om, om⟩) <| xy O <| fun a Z => ab ?_
   refine ⟨_, ?_, k + 1, e4, O, om, (by rw [lA hkx hx hcc]; exact hJ), Z.pick [0, 8, 9, 10], Y.select [0, 1] de⟩
   omega
  have hcn : decCas en = none := by
   cases h : decCas en with
   | none => rfl
   | some z => rw [h] at hb2; cases hb2
  refine ax Z Y call20 O (tj hcn om) fun a w8 Z Y => nv Z <| xy O <| xx (aq O O) <| xx (aq O O) <| fun a Z => aC Z Y (zeroValue55 _) [jv 0, jv 0, .string (⟨#[]⟩)] O fun a w9 Z Y => az 0 Z Y [jv Cas.z.n, jv Cas.z.t, sv Cas.z.ev] O (sizeOf55 _) fun a w10 Z Y => wla Z O fun a Z => G6 ?_
  refine aa fun _ G8 => nv (Z.p7 0 8 9 10 4 5 6 O) <| xy O <| xx ((v_eq O O).asb (b' := false) O) <| xy O <| xB <| xB <| xB <| xB <| xB <| xB <| xx (ai O O) <| fun a Z => G8 ?_
  replace Z := Z.p5 0 8 9 10 29 O
  replace Y := Y.k2 12 O
  refine aJ Z O ?_
  refine au <| G4 <| aj <| nv Z <| xx (aP O O ⟨om, om⟩) <| xy O <| fun a Z => ab ?_
  refine ⟨_, ?_, k + 1, e, O, om, (by rw [ue hkx hx hcn]; exact hJ), Z.pick [0, 8, 9, 10], Y.select [0, 1] de⟩
  omega
 have hke : (itsM L).take k = itsM L := by rw [yR (by rw [eK]; omega)]
 rw [hke] at hJ
 refine aO <| cN Z results125 ae ?_
 replace Y := Y.select [0, 1] de
 exact ⟨_, _, Y, .inl ⟨_, ⟨O, O⟩, hJ⟩⟩
theorem dt {M : Nat → Prop} {w0 : World} (hd : Hd) (iv : Value) (L : List Itw) (b1 : Nat) (hel : ∀ x ∈ L, x.m.e.length ≤ 1000) (hiv : ∀ (H : List Ent) (w : World), St M w0 H w → ItsAt w iv L) :
  Iter Tryz.prog 125 [pq b1] encK (NxK (casesF (itsM L))) (fun ys Hi => ys = casesF (itsM L) ∧ Hi = [blk b1 [jv hd.c, jv hd.n, sv hd.root, sv hd.tag, iv] 50]) (fun pre Hi => Hi = [blk b1 [jv hd.c, jv hd.n, sv hd.root, sv hd.tag, iv] 50]) M w0 [blk b1 [jv hd.c, jv hd.n, sv hd.root, sv hd.tag, iv] 50] :=
 fun lp J Jx w e hY hJ Y => sr hd iv L lp b1 J Jx hY e w hel hiv hJ Y
theorem td (key : By) (hd : Hd) (iv : Value) (L : List Itw) (num : Int) (w0 : World) (hiv : ItsAt w0 iv L) (hpf : ∀ x ∈ L, x.m.pf.length ≤ 1000) (hchk : checkP sha key hd (itsM L) = true) (hk0 : (blk 0 (kOf.map wv) 258).ok w0) :
  Ret Tryz.prog 24 #[sv key, .agg #[jv hd.c, jv hd.n, sv hd.root, sv hd.tag, iv], jv num] w0 fun v w => v = .tuple #[.agg ((hasF num (itsM L)).getD Cas.z).cells.toArray, .bool (hasF num (itsM L)).isSome] ∧ Ext No w0 w := by
 have hok := iJ hchk
 refine zB func24 O ntmps24 (lb O) fun a Z Y => ?_
 refine aa fun _ G1 => aS Z Y O [jv hd.c, jv hd.n, sv hd.root, sv hd.tag, iv] O fun a w1 Z Y => aS Z Y O [jv num] O fun a w2 Z Y => aC Z Y (zeroValue55 _) [jv 0, jv 0, .string (⟨#[]⟩)] O fun a w3 Z Y => aC Z Y (zeroValue4 _) [.bool false] O fun a w4 Z Y => G1 <| ah fun _ G2 => ?_
 refine aa fun _ G3 => nv Z <| xy O <| xx (ao (Y.g 3 O) O (isAgg50 _) (sizeOf50 _)) <| fun a Z => ax Z Y call52 O (cB hchk (eH key hd iv L _ (cx Y hiv) hpf (Y.keepb hk0))) fun a w5 Z Y => wlv Z ((bD O).asb (b' := false) O) fun a Z => G3 ?_
 replace Z := Z.p5 4 5 6 7 13 O
 refine aJ Z O ?_
 refine au <| G2 <| ah fun _ G4 => aa fun _ G5 => wlv Z (ao (Y.g 3 O) O (isAgg50 _) (sizeOf50 _)) fun a Z => bC Z Y call74 O (dQ hd iv L _ (cx Y hiv)) fun a w6 x2 hp Z Y => ?_
 revert x2 hp Z Y; rintro z1 hp Z Y
 clear hp
 replace Y := Y.n5 O
 refine G5 <| ar ?_
 replace Y := Y.s4 [3, 2, 1, 0] de rfl
 replace Z := Z.p7 4 5 6 7 13 15 16 O
 refine dE (M := No) (w0 := w0) (encs := encK) (Hi := [blk z1 [jv hd.c, jv hd.n, sv hd.root, sv hd.tag, iv] 50]) (Hc := [blk w1.hz [jv num] 3, blk w2.hz [jv 0, jv 0, .string (⟨#[]⟩)] 55, blk w3.hz [.bool false] 4]) (fun pre H => (∀ z ∈ pre, ¬ z.2.n = num) ∧ H = [blk w1.hz [jv num] 3, blk w2.hz [jv 0, jv 0, .string (⟨#[]⟩)] 55, blk w3.hz [.bool false] 4]) (fun c pre H => c = .ret ∧ ∃ (cc : Cas), (((casesF (itsM L)).find? fun p => decide (p.2.n = num)).map (·.2) = some cc) ∧ H = [blk w1.hz [jv num] 3, blk w2.hz [jv cc.n, jv cc.t, sv cc.ev] 55, blk w3.hz [.bool true] 4]) (fun pre xs H a => ∃ (bA0 : Nat), Fr 25 [(4, pq w0.hz), (5, pq w1.hz), (6, pq w2.hz), (7, pq w3.hz), (13, .bool false), (15, .agg #[jv hd.c, jv hd.n, sv hd.root, sv hd.tag, iv]), (16, .func (.func 125) #[] #[pq z1]), (9, pq bA0)] [] a ∧ (∀ z ∈ pre, ¬ z.2.n = num) ∧ H = [blk bA0 [jv xs.2.n, jv xs.2.t, sv xs.2.ev] 55, blk w1.hz [jv num] 3, blk w2.hz [jv 0, jv 0, .string (⟨#[]⟩)] 55, blk w3.hz [.bool false] 4]) O call125 Z Y (dt hd iv L z1 (fun x hx => (hok.2.2 x hx).2.2) (fun H w h => cx h hiv)) de (fun _ => O) ⟨sm, O⟩ ?_ ?_ ?_ ?_
 ·clear Z Y
  rintro lp pre xs _ a w7 hnx ⟨hno, rfl⟩ Z Y
  generalize (join [blk w1.hz [jv num] 3, blk w2.hz [jv 0, jv 0, .string (⟨#[]⟩)] 55, blk w3.hz [.bool false] 4]).foot = M1 at Y ⊢
  refine aj <| aC (Z.p9 18 17 4 5 6 7 13 15 16 O) Y (zeroValue55 _) [jv 0, jv 0, .string (⟨#[]⟩)] O fun a w8 Z Y => az 0 Z Y [jv xs.2.n, jv xs.2.t, sv xs.2.ev] O (sizeOf55 _) fun a w9 Z Y => ab ?_
  exact ⟨_, ⟨w7.hz, Z.pick [4, 5, 6, 7, 13, 15, 16, 9], hno, O⟩, Y⟩
 ·rintro lp pre xs _ a w10 hnx ⟨bA0, Z, hno, rfl⟩ hout hrec hnl Y
  clear hrec hnl
  generalize (join [blk bA0 [jv xs.2.n, jv xs.2.t, sv xs.2.ev] 55, blk w1.hz [jv num] 3, blk w2.hz [jv 0, jv 0, .string (⟨#[]⟩)] 55, blk w3.hz [.bool false] 4]).foot = M1 at Y hout ⊢
  refine ar <| aa fun _ G6 => nv Z <| xx (ac (v := pq bA0) O kr) <| xx (ld Y 0 O O (isAgg3 _) O) <| xx (ld Y 1 O O (isAgg3 _) O) <| xx (v_eq O O) <| fun a Z => G6 ?_
  replace Z := Z.p4 6 7 9 22 O
  refine aA Z O (fun hc3 => ?_) (fun hc3 => ?_)
  ·refine aa fun _ G7 => wlv Z (ao (Y.g 0 O) O (isAgg55 _) (sizeOf55 _)) fun a Z => az 2 Z Y [jv xs.2.n, jv xs.2.t, sv xs.2.ev] O (sizeOf55 _) fun a w11 Z Y => az 3 Z Y [.bool true] O (sizeOf4 _) fun a w12 Z Y => G7 <| ap ?_
   exact ⟨_, ⟨O, xs.2, uI hnx hno om, O⟩, Y.select [1, 2, 3] de⟩
  refine au ?_
  exact ⟨_, ⟨bV hno om, O⟩, Y.select [1, 2, 3] de⟩
 ·rintro D pre _ _ a w13 ⟨rfl, rfl⟩ ⟨hno, rfl⟩ Y Z
  replace Z := Z.p7 4 5 6 7 13 15 16 O
  replace Y := Y.n5 O
  refine G4 <| aa fun _ G8 => wlv Z (aX (v := .agg #[jv 0, jv 0, sv ([] : By)]) O kr) fun a Z => az 2 Z Y [jv 0, jv 0, sv ([] : By)] O (sizeOf55 _) fun a w14 Z Y => az 3 Z Y [.bool false] O (sizeOf4 _) fun a w15 Z Y => G8 ?_
  replace Z := Z.p2 6 7 O
  replace Y := Y.k4 15 O
  refine ap ?_
  have hD := Y.g 0 rfl
  replace Y := Y.unmark (i := 0) (o' := .deferred none) O
  replace Y := Y.n3 O
  refine co Z hD results24 (ak O (bf (Y.g 1 O) (isAgg55 _) (sizeOf55 _)) (ak O (aG (Y.g 2 O) (isAgg4 _)) ae)) ?_
  exact ⟨by simp only [retv]; rw [fI, vo hno]; rfl, Y.ext⟩
 ·rintro D _ pre _ _ a w16 rfl ⟨rfl, cc, hhit, rfl⟩ Y Z
  replace Z := Z.p7 4 5 6 7 13 15 16 O
  replace Y := Y.n5 O
  refine ap ?_
  have hD := Y.g 0 rfl
  replace Y := Y.unmark (i := 0) (o' := .deferred none) O
  replace Y := Y.n4 O
  refine co Z hD results24 (ak O (bf (Y.g 1 O) (isAgg55 _) (sizeOf55 _)) (ak O (aG (Y.g 2 O) (isAgg4 _)) ae)) ?_
  exact ⟨by simp only [retv]; rw [fI, hhit]; rfl, Y.ext⟩
theorem oA (hd : Hd) (iv : Value) (L : List Itw) (num : Int) (w0 : World) (hiv : ItsAt w0 iv L) (hok : OkP hd.n L) :
  Ret Tryz.prog 58 #[.agg #[jv hd.c, jv hd.n, sv hd.root, sv hd.tag, iv], jv num] w0 fun v w => v = .bool (lackF hd.n num (-1) false (itsM L)) ∧ Ext No w0 w := by
 refine zy func58 O ntmps58 (lb O) fun a Z Y => ?_
 refine aa fun _ G1 => aS Z Y O [jv hd.c, jv hd.n, sv hd.root, sv hd.tag, iv] O fun a w1 Z Y => aS Z Y O [jv num] O fun a w2 Z Y => aC Z Y (zeroValue4 _) [.bool false] O fun a w3 Z Y => G1 <| aa fun _ G2 => ?_
 refine aC Z Y (zeroValue3 _) [jv 0] O fun a w4 Z Y => aC Z Y (zeroValue4 _) [.bool false] O fun a w5 Z Y => az 1 Z Y [jv (-1)] O (sizeOf3 _) fun a w6 Z Y => az 0 Z Y [.bool false] O (sizeOf4 _) fun a w7 Z Y => G2 <| ah fun _ G3 => ?_
 refine aa fun _ G4 => wlv Z (ao (Y.g 4 O) O (isAgg50 _) (sizeOf50 _)) fun a Z => bC Z Y call74 O (dQ hd iv L _ (cx Y hiv)) fun a w8 x2 hp Z Y => ?_
 revert x2 hp Z Y; rintro z1 hp Z Y
 clear hp
 replace Y := Y.n6 O
 refine G4 <| ar ?_
 replace Y := Y.s6 [5, 4, 3, 2, 1, 0] de rfl
 replace Z := Z.p9 0 1 2 3 4 5 6 10 11 O
 refine dE (M := No) (w0 := w0) (encs := encK) (Hi := [blk z1 [jv hd.c, jv hd.n, sv hd.root, sv hd.tag, iv] 50]) (Hc := [blk w0.hz [jv hd.c, jv hd.n, sv hd.root, sv hd.tag, iv] 50, blk w1.hz [jv num] 3, blk w2.hz [.bool false] 4, blk w3.hz [jv (-1)] 3, blk w4.hz [.bool false] 4]) (fun pre H => ∃ (la : Int), ∃ (fo : Bool), (LackI hd.n num (casesF (itsM L)) pre la fo) ∧ H = [blk w0.hz [jv hd.c, jv hd.n, sv hd.root, sv hd.tag, iv] 50, blk w1.hz [jv num] 3, blk w2.hz [.bool false] 4, blk w3.hz [jv la] 3, blk w4.hz [.bool fo] 4]) (fun c pre H => c = .ret ∧ ∃ (la : Int), ∃ (fo : Bool), (lackC hd.n num (-1) false (casesF (itsM L)) = true) ∧ H = [blk w0.hz [jv hd.c, jv hd.n, sv hd.root, sv hd.tag, iv] 50, blk w1.hz [jv num] 3, blk w2.hz [.bool true] 4, blk w3.hz [jv la] 3, blk w4.hz [.bool fo] 4]) (fun pre xs H a => ∃ (bA0 : Nat), Fr 52 [(0, .agg #[jv hd.c, jv hd.n, sv hd.root, sv hd.tag, iv]), (1, jv num), (2, pq w0.hz), (3, pq w1.hz), (4, pq w2.hz), (5, pq w3.hz), (6, pq w4.hz), (10, .agg #[jv hd.c, jv hd.n, sv hd.root, sv hd.tag, iv]), (11, .func (.func 125) #[] #[pq z1]), (7, jv xs.1), (8, pq bA0)] [] a ∧ ∃ (la : Int), ∃ (fo : Bool), (LackI hd.n num (casesF (itsM L)) pre la fo) ∧ H = [blk bA0 [jv xs.2.n, jv xs.2.t, sv xs.2.ev] 55, blk w0.hz [jv hd.c, jv hd.n, sv hd.root, sv hd.tag, iv] 50, blk w1.hz [jv num] 3, blk w2.hz [.bool false] 4, blk w3.hz [jv la] 3, blk w4.hz [.bool fo] 4]) O call125 Z Y (dt hd iv L z1 (fun x hx => (hok.2.2 x hx).2.2) (fun H w h => cx h hiv)) de (fun _ => O) ⟨-1, false, wo, O⟩ ?_ ?_ ?_ ?_
 ·clear Z Y
  rintro lp pre xs _ a w9 hnx ⟨la, fo, hla, rfl⟩ Z Y
  generalize (join [blk w0.hz [jv hd.c, jv hd.n, sv hd.root, sv hd.tag, iv] 50, blk w1.hz [jv num] 3, blk w2.hz [.bool false] 4, blk w3.hz [jv la] 3, blk w4.hz [.bool fo] 4]).foot = M1 at Y ⊢
  refine aa fun _ G5 => wla (Z.p11 13 12 0 1 2 3 4 5 6 10 11 O) O fun a Z => G5 <| aj ?_
  refine aC Z Y (zeroValue55 _) [jv 0, jv 0, .string (⟨#[]⟩)] O fun a w10 Z Y => az 0 Z Y [jv xs.2.n, jv xs.2.t, sv xs.2.ev] O (sizeOf55 _) fun a w11 Z Y => ab ?_
  exact ⟨_, ⟨w9.hz, Z.pick [0, 1, 2, 3, 4, 5, 6, 10, 11, 7, 8], la, fo, hla, O⟩, Y⟩
 ·rintro lp pre xs _ a w12 hnx ⟨bA0, Z, la, fo, hla, rfl⟩ hout hrec hnl Y
  clear hrec hnl
  generalize (join [blk bA0 [jv xs.2.n, jv xs.2.t, sv xs.2.ev] 55, blk w0.hz [jv hd.c, jv hd.n, sv hd.root, sv hd.tag, iv] 50, blk w1.hz [jv num] 3, blk w2.hz [.bool false] 4, blk w3.hz [jv la] 3, blk w4.hz [.bool fo] 4]).foot = M1 at Y hout ⊢
  refine ar ?_
  have hxb := wZ hok (eB hnx)
  have hok1 := hok.1
  have hok2 := hok.2.1
  refine aa fun _ G6 => nv Z <| xx (ac (v := pq bA0) O kr) <| xx (ld Y 0 O O (isAgg3 _) O) <| xx (ld Y 2 O O (isAgg3 _) O) <| xx (v_lt O O) <| xz O <| fun a Z => G6 ?_
  refine ah fun _ G7 => aa fun _ G8 => nv (Z.p8 2 3 4 5 6 7 8 9 O) <| xy O <| xy O <| fun a Z => ?_
  rcases Decidable.em (xs.2.n < num) with hb3 | hb3
  ·rw [xF hb3] at Z
   refine nv Z <| xA (ay O) <| xA (ac (v := pq w0.hz) O kr) <| xA (ac (v := po w0.hz 1) O kr) <| xA (ld Y 1 O O (isAgg3 _) O) <| xA (bH O O ⟨om, om⟩) <| xA (v_eq O O) <| xx (aw O O) <| xy O <| fun a Z => ?_
   rcases Decidable.em (xs.1 = hd.n - 1) with hb4 | hb4
   ·rw [xF hb4] at Z
    refine nv Z <| xB <| xB <| xB <| xB <| xB <| fun a Z => bW Z fun a Z => bW Z fun a Z => bW Z fun a Z => bW Z fun a Z => bW Z fun a Z => bW Z fun a Z => bW Z fun a Z => bW Z fun a Z => bW Z fun a Z => bW Z fun a Z => bW Z fun a Z => nv Z <| xB <| xx (aw O O) <| fun a Z => G8 ?_
    replace Z := Z.p6 4 5 6 7 9 45 O
    replace Y := Y.k5 62 O
    refine aH Z O ?_
    refine aa fun _ G9 => az 2 Z Y [.bool true] O (sizeOf4 _) fun a w13 Z Y => G9 <| ap ?_
    exact ⟨_, ⟨O, la, fo, fZ hla hnx zX, O⟩, Y.select [0, 1, 2, 3, 4] de⟩
   rw [xK hb4] at Z
   refine nv Z <| xA (ac (v := pq bA0) O kr) <| xA (ld Y 0 O O (isAgg3 _) O) <| xA (ld Y 2 O O (isAgg3 _) O) <| xA (v_gt O O) <| xA (ay O) <| fun a Z => ?_
   rcases Decidable.em (num < xs.2.n) with hb5 | hb5
   ·rw [xF hb5] at Z
    refine nv Z <| xA (ay O) <| xA (v_eq O O) <| xA (ay O) <| fun a Z => ?_
    rcases Decidable.em (xs.1 = 0) with hb6 | hb6
    ·rw [xF hb6] at Z
     refine nv Z <| xB <| xB <| fun a Z => bW Z fun a Z => bW Z fun a Z => bW Z fun a Z => bW Z fun a Z => nv Z <| xB <| xA (aw O O) <| xA (aw O O) <| xx (ai O O) <| fun a Z => G8 ?_
     replace Z := Z.p6 4 5 6 7 9 45 O
     replace Y := Y.k5 62 O
     refine aH Z O ?_
     refine aa fun _ G10 => az 2 Z Y [.bool true] O (sizeOf4 _) fun a w14 Z Y => G10 <| ap ?_
     exact ⟨_, ⟨O, la, fo, fZ hla hnx zX, O⟩, Y.select [0, 1, 2, 3, 4] de⟩
    rw [xK hb6] at Z
    refine nv Z <| xA (ld Y 5 O O (isAgg4 _) O) <| xA (ay O) <| fun a Z => ?_
    rcases xH (fo) with hb7 | hb7
    ·rw [hb7] at Z
     have hfo := hb7
     refine nv Z <| xA (ld Y 4 O O (isAgg3 _) O) <| xA (ay O) <| xA (bH O O ⟨om, om⟩) <| xA (v_eq O O) <| xA (aw O O) <| xA (ai O O) <| xA (aw O O) <| xx (ai O O) <| fun a Z => G8 ?_
     replace Z := Z.p6 4 5 6 7 9 45 O
     replace Y := Y.k5 62 O
     refine aA Z O (fun hc8 => ?_) (fun hc8 => ?_)
     ·refine aa fun _ G11 => az 2 Z Y [.bool true] O (sizeOf4 _) fun a w15 Z Y => G11 <| ap ?_
      exact ⟨_, ⟨O, la, fo, fZ hla hnx zX, O⟩, Y.select [0, 1, 2, 3, 4] de⟩
     refine au <| G7 <| aj <| nv Z <| xy O <| xy O <| fun a Z => az 3 Z Y [jv xs.1] O (sizeOf3 _) fun a w16 Z Y => az 4 Z Y [.bool true] O (sizeOf4 _) fun a w17 Z Y => ab ?_
     exact ⟨_, ⟨xs.1, true, gu hla zW (xF om), O⟩, Y.select [0, 1, 2, 3, 4] de⟩
    rw [hb7] at Z
    have hfo := hb7
    refine nv Z <| xB <| xB <| xB <| xB <| xA (ai O O) <| xA (ai O O) <| xA (aw O O) <| xx (ai O O) <| fun a Z => G8 ?_
    replace Z := Z.p6 4 5 6 7 9 45 O
    replace Y := Y.k5 62 O
    refine aJ Z O ?_
    refine au <| G7 <| aj <| nv Z <| xy O <| xy O <| fun a Z => az 3 Z Y [jv xs.1] O (sizeOf3 _) fun a w18 Z Y => az 4 Z Y [.bool true] O (sizeOf4 _) fun a w19 Z Y => ab ?_
    exact ⟨_, ⟨xs.1, true, gu hla zW (xF om), O⟩, Y.select [0, 1, 2, 3, 4] de⟩
   rw [xK hb5] at Z
   refine nv Z <| xB <| xB <| xB <| fun a Z => bW Z fun a Z => bW Z fun a Z => bW Z fun a Z => bW Z fun a Z => bW Z fun a Z => bW Z fun a Z => bW Z fun a Z => nv Z <| xB <| xA (ai O O) <| xx (ai O O) <| fun a Z => G8 ?_
   replace Z := Z.p6 4 5 6 7 9 45 O
   replace Y := Y.k5 62 O
   refine aJ Z O ?_
   refine au <| G7 <| aj <| nv Z <| xy O <| xy O <| fun a Z => az 3 Z Y [jv xs.1] O (sizeOf3 _) fun a w20 Z Y => az 4 Z Y [.bool true] O (sizeOf4 _) fun a w21 Z Y => ab ?_
   exact ⟨_, ⟨xs.1, true, gu hla zW (xF om), O⟩, Y.select [0, 1, 2, 3, 4] de⟩
  rw [xK hb3] at Z
  refine nv Z <| xB <| xB <| xB <| xB <| xB <| xB <| xx (ai O O) <| xy O <| xA (ac (v := pq bA0) O kr) <| xA (ld Y 0 O O (isAgg3 _) O) <| xA (ld Y 2 O O (isAgg3 _) O) <| xA (v_gt O O) <| xA (ay O) <| fun a Z => ?_
  rcases Decidable.em (num < xs.2.n) with hb9 | hb9
  ·rw [xF hb9] at Z
   refine nv Z <| xA (ay O) <| xA (v_eq O O) <| xA (ay O) <| fun a Z => ?_
   rcases Decidable.em (xs.1 = 0) with hb10 | hb10
   ·rw [xF hb10] at Z
    refine nv Z <| xB <| xB <| fun a Z => bW Z fun a Z => bW Z fun a Z => bW Z fun a Z => bW Z fun a Z => nv Z <| xB <| xA (aw O O) <| xA (aw O O) <| xx (ai O O) <| fun a Z => G8 ?_
    replace Z := Z.p6 4 5 6 7 9 45 O
    replace Y := Y.k5 62 O
    refine aH Z O ?_
    refine aa fun _ G12 => az 2 Z Y [.bool true] O (sizeOf4 _) fun a w22 Z Y => G12 <| ap ?_
    exact ⟨_, ⟨O, la, fo, fZ hla hnx zX, O⟩, Y.select [0, 1, 2, 3, 4] de⟩
   rw [xK hb10] at Z
   refine nv Z <| xA (ld Y 5 O O (isAgg4 _) O) <| xA (ay O) <| fun a Z => ?_
   rcases xH (fo) with hb11 | hb11
   ·rw [hb11] at Z
    have hfo := hb11
    refine nv Z <| xA (ld Y 4 O O (isAgg3 _) O) <| xA (ay O) <| xA (bH O O ⟨om, om⟩) <| xA (v_eq O O) <| xA (aw O O) <| xA (ai O O) <| xA (aw O O) <| xx (ai O O) <| fun a Z => G8 ?_
    replace Z := Z.p6 4 5 6 7 9 45 O
    replace Y := Y.k5 62 O
    refine aA Z O (fun hc12 => ?_) (fun hc12 => ?_)
    ·refine aa fun _ G13 => az 2 Z Y [.bool true] O (sizeOf4 _) fun a w23 Z Y => G13 <| ap ?_
     exact ⟨_, ⟨O, la, fo, fZ hla hnx zX, O⟩, Y.select [0, 1, 2, 3, 4] de⟩
    refine au <| G7 <| aj <| nv Z <| xy O <| xy O <| fun a Z => az 3 Z Y [jv xs.1] O (sizeOf3 _) fun a w24 Z Y => az 4 Z Y [.bool false] O (sizeOf4 _) fun a w25 Z Y => ab ?_
    exact ⟨_, ⟨xs.1, false, gu hla zW (xK om), O⟩, Y.select [0, 1, 2, 3, 4] de⟩
   rw [hb11] at Z
   have hfo := hb11
   refine nv Z <| xB <| xB <| xB <| xB <| xA (ai O O) <| xA (ai O O) <| xA (aw O O) <| xx (ai O O) <| fun a Z => G8 ?_
   replace Z := Z.p6 4 5 6 7 9 45 O
   replace Y := Y.k5 62 O
   refine aJ Z O ?_
   refine au <| G7 <| aj <| nv Z <| xy O <| xy O <| fun a Z => az 3 Z Y [jv xs.1] O (sizeOf3 _) fun a w26 Z Y => az 4 Z Y [.bool false] O (sizeOf4 _) fun a w27 Z Y => ab ?_
   exact ⟨_, ⟨xs.1, false, gu hla zW (xK om), O⟩, Y.select [0, 1, 2, 3, 4] de⟩
  rw [xK hb9] at Z
  refine nv Z <| xB <| xB <| xB <| fun a Z => bW Z fun a Z => bW Z fun a Z => bW Z fun a Z => bW Z fun a Z => bW Z fun a Z => bW Z fun a Z => bW Z fun a Z => nv Z <| xB <| xA (ai O O) <| xx (ai O O) <| fun a Z => G8 ?_
  replace Z := Z.p6 4 5 6 7 9 45 O
  replace Y := Y.k5 62 O
  refine aJ Z O ?_
  refine au <| G7 <| aj <| nv Z <| xy O <| xy O <| fun a Z => az 3 Z Y [jv xs.1] O (sizeOf3 _) fun a w28 Z Y => az 4 Z Y [.bool false] O (sizeOf4 _) fun a w29 Z Y => ab ?_
  exact ⟨_, ⟨xs.1, false, gu hla zW (xK om), O⟩, Y.select [0, 1, 2, 3, 4] de⟩
 ·rintro D pre _ _ a w30 ⟨rfl, rfl⟩ ⟨la, fo, hla, rfl⟩ Y Z
  replace Z := Z.p9 0 1 2 3 4 5 6 10 11 O
  replace Y := Y.n7 O
  refine G3 <| aa fun _ G14 => nv Z <| xx (ac (v := pq w0.hz) O kr) <| xx (ac (v := po w0.hz 1) O kr) <| xx (ld Y 1 O O (isAgg3 _) O) <| xx (v_eq O O) <| fun a Z => az 3 Z Y [.bool (decide (hd.n = 0))] O (sizeOf4 _) fun a w31 Z Y => G14 ?_
  replace Z := Z.p1 4 O
  replace Y := Y.k6 63 O
  refine ap ?_
  have hD := Y.g 0 rfl
  replace Y := Y.unmark (i := 0) (o' := .deferred none) O
  replace Y := Y.n5 O
  refine co Z hD results58 (ak O (aG (Y.g 2 O) (isAgg4 _)) ae) ?_
  exact ⟨by simp only [retv]; rw [eQ, rm hla]; try rfl, Y.ext⟩
 ·rintro D _ pre _ _ a w32 rfl ⟨rfl, la, fo, hhit, rfl⟩ Y Z
  replace Z := Z.p9 0 1 2 3 4 5 6 10 11 O
  replace Y := Y.n7 O
  refine ap ?_
  have hD := Y.g 0 rfl
  replace Y := Y.unmark (i := 0) (o' := .deferred none) O
  replace Y := Y.n6 O
  refine co Z hD results58 (ak O (aG (Y.g 2 O) (isAgg4 _)) ae) ?_
  exact ⟨by simp only [retv]; rw [eQ, hhit]; try rfl, Y.ext⟩
theorem ig (key : By) (hd : Hd) (iv : Value) (L : List Itw) (num : Int) (w0 : World) (hiv : ItsAt w0 iv L) (hpf : ∀ x ∈ L, x.m.pf.length ≤ 1000) (hchk : checkP sha key hd (itsM L) = true) (hnum : 0 ≤ num ∧ num ≤ 99999999) (hk0 : (blk 0 (kOf.map wv) 258).ok w0) :
  Ret Tryz.prog 25 #[sv key, .agg #[jv hd.c, jv hd.n, sv hd.root, sv hd.tag, iv], jv num] w0 fun v w => v = .bool (lackF hd.n num (-1) false (itsM L)) ∧ Ext No w0 w := by
 have hok := iJ hchk
 refine zB func25 O ntmps25 (lb O) fun a Z Y => ?_
 refine aa fun _ G1 => aS Z Y O [jv hd.c, jv hd.n, sv hd.root, sv hd.tag, iv] O fun a w1 Z Y => wla Z O fun a Z => G1 <| aa fun _ G2 => ?_
 refine nv Z <| xy O <| xx (ao (Y.g 0 O) O (isAgg50 _) (sizeOf50 _)) <| fun a Z => ax Z Y call52 O (cB hchk (eH key hd iv L _ (cx Y hiv) hpf (Y.keepb hk0))) fun a w2 Z Y => nv Z <| xy O <| xA (ay O) <| fun a Z => aF Z Y call49 O (cB (show inB num 0 99999999 = true from by simp only [inB, xD, xG]; omega) (dj num 0 99999999 _)) fun a w3 Z Y => nv Z <| xx (aw O O) <| xy O <| xA (ao (Y.g 0 O) O (isAgg50 _) (sizeOf50 _)) <| xA (ay O) <| fun a Z => aF Z Y call58 O (oA hd iv L num _ (cx Y hiv) hok) fun a w4 Z Y => nv Z <| xx (aw O O) <| xz O <| fun a Z => G2 ?_
 replace Z := Z.p1 6 O
 replace Y := Y.k0 0 O
 refine ap <| al Z results25 (ag O ae) ?_
 exact ⟨by rfl, Y.ext⟩
end Go.Proofs.YtliklcmddmpdfaaGreatDoor
