/- Texts joined: RegA, RegB, RclC. -/
import Derived.Test.YtliklcmddmpdfaaGreatDoorPRF
import Derived.Test.YtliklcmddmpdfaaGreatDoorPRE
import Derived.Test.YtliklcmddmpdfaaGreatDoorPRC
import Derived.Test.YtliklcmddmpdfaaGreatDoorPRB
import Derived.Test.YtliklcmddmpdfaaGreatDoorPRA
set_option linter.unusedVariables false
set_option linter.unusedSimpArgs false
set_option maxRecDepth 4000
set_option maxHeartbeats 4000000
namespace Go.Proofs.YtliklcmddmpdfaaGreatDoor
open Go.RowKit Go.PW _root_.Go.Proofs.Tryz
theorem pI {n a b : Int} (h : inB n a b = true) : a ≤ n ∧ n ≤ b := by simpa [inB] using h
theorem nL {s : By} (h : s.length = 32) : s ≠ [] := fun e => by rw [e] at h; cases h
theorem uo {a b : By} (h : b ≠ []) : a ++ b ≠ [] := fun e => h (List.append_eq_nil_iff.1 e).2
theorem jn (n lo hi : Int) (w0 : World) :
  Ret Tryz.prog 122 #[jv n, jv lo, jv hi] w0 fun v w => v = .bool (inB n lo hi) ∧ Ext No w0 w := by
 refine yH func122 O ntmps122 (lb O) fun a Z Y => ?_
 refine aa fun _ G1 => wla Z O fun a Z => G1 <| aa fun _ G2 => ?_
 refine nv Z <| wy O <| wy O <| pq (v_le O O) <| wy O <| fun a Z => cZ (N := 15) (df := []) 4 [(14, .bool ((decide (lo ≤ n)) && (decide (n ≤ hi)))), (0, jv n), (1, jv lo), (2, jv hi), (6, .bool false)] ?_ (fun hj => ?_)
 rotate_left
 ·rcases wE (decide (lo ≤ n)) with hb1 | hb1
  ·rw [hb1] at Z
   have hb1b := hb1
   try simp only [qz, wF, xa, wV, xe] at hb1
   refine nv Z <| wB (az O) <| wB (az O) <| wB (v_le O O) <| pq (ay O O) <| fun a Z => hj _ ?_
   try rw [hb1b]
   exact Z.pick [14, 0, 1, 2, 6]
  rw [hb1] at Z
  have hb1b := hb1
  try simp only [qz, wF, xa, wV, xe] at hb1
  refine nv Z <| wC <| wC <| wC <| pq (ai O O) <| fun a Z => hj _ ?_
  try rw [hb1b]
  exact Z.pick [14, 0, 1, 2, 6]
 intro a Z
 refine wla Z O fun a Z => G2 <| ar ?_
 refine ap Z results122 (ag O ae) ?_
 exact ⟨by rfl, Y.ext⟩
theorem hT (s : By) (w0 : World) :
  Ret Tryz.prog 120 #[sv s] w0 fun v w => v = .bool (decide ((s.length : Int) = 32)) ∧ Ext No w0 w := by
 refine yG func120 O ntmps120 (lb O) fun a Z Y => ?_
 refine aa fun _ G1 => wla Z O fun a Z => G1 <| aa fun _ G2 => ?_
 refine nv Z <| wy O <| pq (bj O O (runUnderlying9 _)) <| pq (v_eq O O) <| wA O <| fun a Z => G2 <| ar ?_
 refine ap Z results120 (ag O ae) ?_
 exact ⟨by rfl, Y.ext⟩
theorem uh (s : By) (w0 : World) :
  Ret Tryz.prog 167 #[sv s] w0 fun v w => v = .bool (longE s) ∧ Ext No w0 w := by
 refine yG func167 O ntmps167 (lb O) fun a Z Y => ?_
 refine aa fun _ G1 => wla Z O fun a Z => G1 <| aa fun _ G2 => ?_
 refine nv Z <| wy O <| pq (bj O O (runUnderlying9 _)) <| pq (v_gt O O) <| wA O <| fun a Z => G2 <| ar ?_
 refine ap Z results167 (ag O ae) ?_
 exact ⟨by simp only [retv]; refine xk Value.bool ?_; unfold longE; exact decide_eq_decide.2 om, Y.ext⟩
theorem uf (c : Int) (ev : Value) (es : List By) (w0 : World) (hev : SlAt w0 ev 1 (es.map fun s => [sv s])) :
  Ret Tryz.prog 121 #[.agg #[jv c, ev]] w0 fun v w => v = .bool (regOk c es) ∧ Ext No w0 w := by
 refine yG func121 O ntmps121 (lb O) fun a Z Y => ?_
 refine aa fun _ G1 => aS Z Y de O (cs := [jv c, ev]) O fun a w1 Z Y => wla Z O fun a Z => G1 <| aa fun _ G2 => ?_
 refine wla Z O fun a Z => G2 <| aa fun _ G3 => ?_
 refine nv Z <| pq (ac (v := pt w0.hz) O kr) <| pq (ld Y 0 O O (isAgg3 _) O) <| fun a Z => ax Z Y de call122 O (jn c 0 7 _) fun a w2 Z Y => wlm Z O fun a Z => ?_
 rcases wE (inB c 0 7) with hb1 | hb1
 ·rw [hb1] at Z
  refine nv Z <| wB (ac (v := po w0.hz 1) O kr) <| wB (ld Y 0 O O (isAgg44 _) O) <| wB ((aK (sT := 44) (Y.arg hev) O O (runUnderlying44 _)).asi (m' := (es.length : Int)) zd) <| wB (v_le O O) <| pq (ay O O) <| wy O <| fun a Z => ?_
  rcases wE (decide ((es.length : Int) ≤ 60)) with hb2 | hb2
  ·rw [hb2] at Z
   try simp only [qz] at hb2
   refine nv Z <| wB (ac (v := po w0.hz 1) O kr) <| wB (ld Y 0 O O (isAgg44 _) O) <| wB (az O) <| fun a Z => aG Z Y de O de O call146 O (qf longE _ call167 (Y.arg hev) (fun x w _ => uh x w)) fun a w3 Z Y => nv Z <| wB (bB O) <| pq (ay O O) <| wA O <| fun a Z => G3 ?_
   replace Z := Z.p1 2 O
   replace Y := Y.k0 0 O
   refine ar <| ap Z results121 (ag O ae) ?_
   refine ⟨?_, Y.ext⟩
   simp only [retv]
   refine xk Value.bool ?_
   unfold regOk
   rw [hb1, show decide (es.length ≤ 60) = true from wQ om]; rfl
  rw [hb2] at Z
  try simp only [qz] at hb2
  refine nv Z <| wC <| wC <| wC <| wC <| wC <| pq (ai O O) <| wA O <| fun a Z => G3 ?_
  replace Z := Z.p1 2 O
  replace Y := Y.k0 0 O
  refine ar <| ap Z results121 (ag O ae) ?_
  refine ⟨?_, Y.ext⟩
  simp only [retv]
  refine xk Value.bool ?_
  unfold regOk
  first | (rw [hb2]; rfl) | (rw [show decide (es.length ≤ 60) = false from wU om, xK]; rfl)
 rw [hb1] at Z
 refine nv Z <| wC <| wC <| wC <| wC <| pq (ai O O) <| wy O <| wC <| wC <| wC <| wC <| wC <| pq (ai O O) <| wA O <| fun a Z => G3 ?_
 replace Z := Z.p1 2 O
 replace Y := Y.k0 0 O
 refine ar <| ap Z results121 (ag O ae) ?_
 refine ⟨?_, Y.ext⟩
 simp only [retv]
 refine xk Value.bool ?_
 unfold regOk
 first | (rw [hb1]; rfl) | (rw [show decide (es.length ≤ 60) = false from wU om, xK]; rfl)
theorem gw {M : Nat → Prop} {w0 : World} (T : TypeId) (b : Nat) (ad v : Value) (bs : By) (n : Int) (ws : World) (hlie : liesAt Tryz.prog Tryz.prog.depth T (2 / Tryz.prog.cellsOf T) 0 160 1 = true) (had : ad = .pointer none ∨ ad = pt b) (hn : small n) (hbn : bs.length + 9 ≤ 1000000000) (Y : St M w0 [bld T b (ad) v bs] ws) :
  Ret Tryz.prog 170 #[pt b, jv n] ws fun u w => u = .tuple #[] ∧ ∃ v2, St M w0 [bld T b (pt b) v2 (bs ++ putI n)] w := by
 refine aC func170 O ntmps170 (lb O) fun a Z => ?_
 replace Z := Z.p2 0 1 O
 skip
 refine aa fun _ G1 => wlm Z O fun a Z => ax Z Y de call60 O (fb n _ hn) fun a w1 Z Y => nv Z <| wy O <| pq (aq O O) <| pq (aq O O) <| wA O <| wA O <| fun a Z => G1 ?_
 refine aj <| nv (Z.p2 0 4 O) <| wy O <| pq (aQ O) <| pq (ac (v := pt b) O kr) <| wy O <| fun a Z => aY (R := fun u e' => u = .tuple #[jv ((putI n).length : Int), .nilIface] ∧ ∃ v2, e' = bld T b (pt b) v2 (bs ++ (putI n))) 0 Z Y O de call94 O (fun h => (fS T b _ _ _ _ _ hlie had (pW _) (by have := (ct n).2; omega) h).mono fun u w ⟨h1, v2, h2⟩ => ⟨_, ⟨h1, v2, O⟩, h2⟩) ?_
 clear Z Y
 rintro a w2 _ _ ⟨rfl, v1, rfl⟩ Z Y
 try dsimp only at Y
 replace Y := Y.n1 O
 refine ab <| cK Z results170 ae ?_
 exact ⟨O, _, Y.select [0] de⟩
theorem kP (key : By) (hd : Hd) (w0 : World) (hc : small hd.c) (hn : small hd.n) (hr : hd.root.length = 32) (hk : key.length ≤ 1000) (hk0 : (blk 0 (kOf.map wv) 258).ok w0) :
  Ret Tryz.prog 124 #[sv key, .agg #[jv hd.c, jv hd.n, sv hd.root, sv hd.tag]] w0 fun v w => v = sv (sealR sha key hd.c hd.n hd.root) ∧ Ext No w0 w := by
 have hp4 := ct 4
 have hpc := ct hd.c
 have hpn := ct hd.n
 have hxl : (([] : By) ++ putI 4 ++ putI hd.c ++ putI hd.n ++ hd.root).length ≤ 80 := by simp only [wG, wP]; omega
 refine yF func124 O ntmps124 (lb O) fun a Z Y => ?_
 refine aa fun _ G1 => aS Z Y de O (cs := [jv hd.c, jv hd.n, sv hd.root, sv hd.tag]) O fun a w1 Z Y => wla Z O fun a Z => G1 <| aa fun _ G2 => ?_
 refine aB Z Y de (zeroValue230 _) (cs := [.pointer none, .slice none 0 0]) O fun a w2 Z Y => G2 ?_
 replace Y : St No w0 (own (.slice none 0 0) 5 1 [] :: [blk w1.hz [.pointer none, .slice none 0 0] 230, blk w0.hz [jv hd.c, jv hd.n, sv hd.root, sv hd.tag] 47]) w2 := Y.nil_own
 replace Y := Y.s3 [1, 0, 2] de rfl
 replace Y : St No w0 [bld 230 w1.hz (.pointer none) (.slice none 0 0) ([] : By), blk w0.hz [jv hd.c, jv hd.n, sv hd.root, sv hd.tag] 47] w2 := St.join [blk w1.hz [.pointer none, .slice none 0 0] 230, own (.slice none 0 0) 5 1 ([])] [blk w0.hz [jv hd.c, jv hd.n, sv hd.root, sv hd.tag] 47] Y
 refine aa fun _ G3 => aY (R := fun u e' => u = .tuple #[] ∧ ∃ v2, e' = bld 230 w1.hz (pt w1.hz) v2 (([] : By) ++ putI 4)) 0 Z Y O de call170 O (fun h => (gw 230 w1.hz _ _ _ 4 _ kr (.inl O) y9 Al h).mono fun u w ⟨h1, v2, h2⟩ => ⟨_, ⟨h1, v2, O⟩, h2⟩) ?_
 clear Z Y
 rintro a w3 _ _ ⟨rfl, v1, rfl⟩ Z Y
 try dsimp only at Y
 replace Y := Y.n2 O
 refine G3 <| aa fun _ G4 => ?_
 refine nv Z <| pq (ac (v := pt w0.hz) O kr) <| pq (ld Y 1 O O (isAgg3 _) O) <| fun a Z => aY (R := fun u e' => u = .tuple #[] ∧ ∃ v2, e' = bld 230 w1.hz (pt w1.hz) v2 ((([] : By) ++ putI 4) ++ putI hd.c)) 0 Z Y O de call170 O (fun h => (gw 230 w1.hz _ _ _ hd.c _ kr (.inr O) hc Al h).mono fun u w ⟨h1, v2, h2⟩ => ⟨_, ⟨h1, v2, O⟩, h2⟩) ?_
 clear Z Y
 rintro a w4 _ _ ⟨rfl, v2, rfl⟩ Z Y
 try dsimp only at Y
 replace Y := Y.n2 O
 refine G4 <| aa fun _ G5 => ?_
 refine nv Z <| pq (ac (v := po w0.hz 1) O kr) <| pq (ld Y 1 O O (isAgg3 _) O) <| fun a Z => aY (R := fun u e' => u = .tuple #[] ∧ ∃ v2, e' = bld 230 w1.hz (pt w1.hz) v2 (((([] : By) ++ putI 4) ++ putI hd.c) ++ putI hd.n)) 0 Z Y O de call170 O (fun h => (gw 230 w1.hz _ _ _ hd.n _ kr (.inr O) hn Al h).mono fun u w ⟨h1, v2, h2⟩ => ⟨_, ⟨h1, v2, O⟩, h2⟩) ?_
 clear Z Y
 rintro a w5 _ _ ⟨rfl, v3, rfl⟩ Z Y
 try dsimp only at Y
 replace Y := Y.n2 O
 refine G5 ?_
 refine aa fun _ G6 => nv (Z.p4 0 3 4 5 O) <| pq (ac (v := pt w1.hz) O kr) <| pq (ac (v := po w0.hz 2) O kr) <| pq (ld Y 1 O O (isAgg9 _) O) <| fun a Z => aY (R := fun u e' => u = .tuple #[jv (hd.root.length : Int), .nilIface] ∧ ∃ v2, e' = bld 230 w1.hz (pt w1.hz) v2 ((((([] : By) ++ putI 4) ++ putI hd.c) ++ putI hd.n) ++ hd.root)) 0 Z Y O de call94 O (fun h => (fS 230 w1.hz _ _ _ _ _ kr (.inr O) (nL hr) Al h).mono fun u w ⟨h1, v2, h2⟩ => ⟨_, ⟨h1, v2, O⟩, h2⟩) ?_
 clear Z Y
 rintro a w6 _ _ ⟨rfl, v4, rfl⟩ Z Y
 try dsimp only at Y
 replace Y := Y.n2 O
 refine G6 <| aa fun _ G7 => ?_
 refine nv Z <| wy O <| pq (ac (v := pt w1.hz) O kr) <| fun a Z => aY (R := fun u e' => u = sv ((((([] : By) ++ putI 4) ++ putI hd.c) ++ putI hd.n) ++ hd.root) ∧ e' = blk w1.hz [pt w1.hz, v4] 230) 0 Z Y O de call95 O (fun h => (gI 230 w1.hz _ _ _ (uo (nL hr)) h).mono fun u w ⟨h1, h2⟩ => ⟨_, ⟨h1, O⟩, h2⟩) ?_
 clear Z Y
 rintro a w7 _ _ ⟨rfl, rfl⟩ Z Y
 try dsimp only at Y
 replace Y := Y.n2 O
 refine ax Z Y de call139 O (jq ((((([] : By) ++ putI 4) ++ putI hd.c) ++ putI hd.n) ++ hd.root) _ om (Y.keepb hk0)) fun a w8 Z Y => ax Z Y de call138 O (gj key (leafH sha ((((([] : By) ++ putI 4) ++ putI hd.c) ++ putI hd.n) ++ hd.root)) _ om (by first | omega | (rw [g6 dB]; decide)) (Y.keepb hk0)) fun a w9 Z Y => wla Z O fun a Z => G7 ?_
 replace Z := Z.p1 4 O
 replace Y := Y.k1 1 O
 refine ar <| ap Z results124 (ag O ae) ?_
 exact ⟨by simp only [retv]; simp [sealR, hdText, puts, nodeH], Y.ext⟩
theorem ln (key : By) (n : Nat) (hd : Hd) (c : Int) (ev : Value) (es : List By) (w0 : World) (hev : SlAt w0 ev 1 (es.map fun s => [sv s])) (hk32 : key.length = 32) (hr : regOk c es = true) (hn : n ≤ es.length) (hhd : hdOf sha key c es n = hd) (hk0 : (blk 0 (kOf.map wv) 258).ok w0) :
  Ret Tryz.prog 73 #[sv key, .agg #[jv c, ev], jv (n : Int)] w0 fun v w => v = .tuple #[.agg #[jv hd.c, jv hd.n, sv hd.root, sv hd.tag], jv 0] ∧ Ext No w0 w := by
 obtain ⟨hrc0, hrc1, hrl, hel⟩ := eD hr
 have hc : small c := by unfold small; omega
 have hn' : small (n : Int) := by unfold small; omega
 refine yH func73 O ntmps73 (lb O) fun a Z Y => ?_
 refine aa fun _ G1 => aS Z Y de O (cs := [jv c, ev]) O fun a w1 Z Y => aB Z Y de (zeroValue47 _) (cs := [jv 0, jv 0, .string (⟨#[]⟩), .string (⟨#[]⟩)]) O fun a w2 Z Y => wla Z O fun a Z => G1 <| ah fun _ G2 => ?_
 refine aa fun _ G3 => wlm Z O fun a Z => ax Z Y de call120 O (hT key _) fun a w3 Z Y => nv Z <| pq (bB O) <| wy O <| fun a Z => ?_
 rcases wE (!(decide ((key.length : Int) = 32))) with hb1 | hb1
 ·rw [hb1] at Z
  try simp only [qz] at hb1
  exfalso; omega
 rw [hb1] at Z
 try simp only [qz] at hb1
 refine wly Z (am (Y.g 1 O) O (isAgg75 _) (sizeOf75 _)) fun a Z => aG Z Y de O de O call121 O (uf c ev es _ (Y.arg hev)) fun a w4 Z Y => nv Z <| wB (bB O) <| pq (ai O O) <| wy O <| fun a Z => ?_
 rcases wE (!(regOk c es)) with hb2 | hb2
 ·rw [hb2] at Z
  try simp only [qz] at hb2
  rw [hr] at hb2; cases hb2
 rw [hb2] at Z
 try simp only [qz] at hb2
 refine nv Z <| wB (az O) <| wB (ac (v := po w0.hz 1) O kr) <| wB (ld Y 1 O O (isAgg44 _) O) <| wB ((aK (sT := 44) (Y.arg hev) O O (runUnderlying44 _)).asi (m' := (es.length : Int)) zd) <| fun a Z => aG Z Y de O de O call122 O (jn (n : Int) 0 (es.length : Int) _) fun a w5 Z Y => nv Z <| wB (bB O) <| pq (ai O O) <| fun a Z => G3 ?_
 replace Z := Z.p6 0 2 4 6 7 24 O
 refine aA Z O (fun hc3 => ?_) (fun hc3 => ?_)
 ·try simp only [qz] at hc3
  rw [show inB (n : Int) 0 (es.length : Int) = true from by simp [inB]; omega] at hc3; cases hc3
 try simp only [qz] at hc3
 refine aw <| G2 <| ah fun _ G4 => aL kr (aN kr fun w6 hxz => ?_)
 replace Y := Y.grow hxz
 refine aU (k := 0) 10 [8, 9] Z kr kr kr rfx ?_
 replace Z := Z.p5 0 2 4 6 7 O
 refine bS [9] (fun i => match i with | 9 => pm (fun b : Nat => pt b) (fun b => [blk b [jv 0, jv 0, .string (⟨#[]⟩), .string (⟨#[]⟩)] 47]) (fun _ => True) | _ => fun _ _ => False) 10 [[], [0], [], [], [3], [], [4, 5], [6], [1, 2, 7], []] [pt w0.hz, jv c, jv (n : Int), po w0.hz 1, ev, jv (n : Int), (cut ev 1 0 n (slCap ev)), sv (rootH sha (es.take n)), .agg #[jv c, jv (n : Int), sv (rootH sha (es.take n)), sv ([] : By)], undef] Z Y kr kr kr ?_ ?_ ?_
 ·exact yN <| hqv (ac (v := pt w0.hz) rfl kr) <| hqw (fun Y => ld Y 1 rfl rfl (isAgg3 _) rfl) <| hqv (az rfl) <| hqv (ac (v := po w0.hz 1) rfl kr) <| hqw (fun Y => ld Y 1 rfl rfl (isAgg44 _) rfl) <| hqv (az rfl) <| hqw (fun Y => da (l := 0) (h := n) (Y.arg hev) rfl rfl rfl underlying44 kr (.inl ⟨rfl, rfl⟩) (.inr rfl) (xf _) zj) <| yL (fun _ _ Y => bH call123 rfl (ms (cut ev 1 0 n (slCap ev)) (es.take n) _ ((Y.arg hev).cut0 (h := n) zo) zq (fun k hk => xC (hel _ (xM (br hk))) de) (Y.keepb hk0))) <| hqv (aW (v := .agg #[jv c, jv (n : Int), sv (rootH sha (es.take n)), sv ([] : By)]) rfl kr) <| yL (fun h => absurd sm h) <| yM
 ·intro i hi
  simp only [wL, wR, xq] at hi
  subst hi
  ·intro w Y
   exact mg (zeroValue47 _) (cs := [jv 0, jv 0, .string (⟨#[]⟩), .string (⟨#[]⟩)]) O
 clear Z Y
 rintro _ _ ⟨b4, rfl, -, rfl⟩ a w7 Z Y
 replace Z := Z.p5 34 8 0 6 7 O
 replace Y := Y.n3 O
 refine ab <| aM (k := 10) 11 [10] kr kr kr ?_
 refine ao 0 Z Y O O O (sizeOf47 _) O (lb O) (ds := [jv c, jv (n : Int), sv (rootH sha (es.take n)), sv ([] : By)]) O O fun a w8 Z Y => ab <| aT kr ?_
 refine G4 ?_
 replace Y := Y.k2 3 O
 refine aa fun _ G5 => nv (Z.p4 0 6 7 8 O) <| wy O <| pq (am (Y.g 0 O) O (isAgg47 _) (sizeOf47 _)) <| fun a Z => ax Z Y de call124 O (kP key (⟨c, (n : Int), rootH sha (es.take n), ([] : By)⟩ : Hd) _ yR yR (by first | assumption | exact eW dB _) om (Y.keepb hk0)) fun a w9 Z Y => wlv Z (ac (v := po b4 3) O kr) fun a Z => ao 0 Z Y O O O (sizeOf9 _) O (lb O) (ds := [jv c, jv (n : Int), sv (rootH sha (es.take n)), sv (sealR sha key c (n : Int) (rootH sha (es.take n)))]) O O fun a w10 Z Y => G5 <| aa fun _ G6 => ?_
 refine wlv Z (am (Y.g 0 O) O (isAgg47 _) (sizeOf47 _)) fun a Z => ao 1 Z Y O O O (sizeOf47 _) O (lb O) (ds := [jv c, jv (n : Int), sv (rootH sha (es.take n)), sv (sealR sha key c (n : Int) (rootH sha (es.take n)))]) O O fun a w11 Z Y => wla Z O fun a Z => G6 ?_
 replace Z := Z.p2 6 7 O
 replace Y := Y.k1 2 O
 refine ar <| ap Z results73 (ak O (bf (Y.g 0 O) (isAgg47 _) (sizeOf47 _)) (ag O ae)) ?_
 subst hhd
 exact ⟨O, Y.ext⟩
theorem si (key : By) (hd : Hd) (w0 : World) (hk0 : (blk 0 (kOf.map wv) 258).ok w0) :
  Ret Tryz.prog 113 #[sv key, .agg #[jv hd.c, jv hd.n, sv hd.root, sv hd.tag]] w0 fun v w => v = .bool (genHd sha key hd) ∧ Ext No w0 w := by
 refine yF func113 O ntmps113 (lb O) fun a Z Y => ?_
 refine aa fun _ G1 => aS Z Y de O (cs := [jv hd.c, jv hd.n, sv hd.root, sv hd.tag]) O fun a w1 Z Y => wla Z O fun a Z => G1 <| aa fun _ G2 => ?_
 refine nv Z <| pq (ac (v := pt w0.hz) O kr) <| pq (ld Y 0 O O (isAgg3 _) O) <| fun a Z => ax Z Y de call122 O (jn hd.c 0 7 _) fun a w2 Z Y => wlm Z O fun a Z => ?_
 rcases wE (inB hd.c 0 7) with hb1 | hb1
 ·rw [hb1] at Z
  have hcb := pI hb1
  have hc : small hd.c := by unfold small; omega
  refine nv Z <| wB (ac (v := po w0.hz 1) O kr) <| wB (ld Y 0 O O (isAgg3 _) O) <| fun a Z => aG Z Y de O de O call122 O (jn hd.n 0 60 _) fun a w3 Z Y => nv Z <| pq (ay O O) <| wy O <| fun a Z => ?_
  rcases wE (inB hd.n 0 60) with hb2 | hb2
  ·rw [hb2] at Z
   have hnb := pI hb2
   have hn : small hd.n := by unfold small; omega
   refine nv Z <| wB (ac (v := po w0.hz 2) O kr) <| wB (ld Y 0 O O (isAgg9 _) O) <| wB (bj O O (runUnderlying9 _)) <| wB (v_eq O O) <| pq (ay O O) <| wA O <| fun a Z => G2 ?_
   replace Z := Z.p4 0 3 4 5 O
   refine ah fun _ G3 => aL kr (aN kr fun w4 hxz => ?_)
   replace Y := Y.grow hxz
   refine aM (k := 0) 6 [5] kr kr kr ?_
   refine wlm Z O fun a Z => ax Z Y de call120 O (hT key _) fun a w5 Z Y => wlm Z O fun a Z => ?_
   rcases wE (decide ((key.length : Int) = 32)) with hb3 | hb3
   ·rw [hb3] at Z
    try simp only [qz] at hb3
    refine nv Z <| wB (az O) <| pq (ay O O) <| wy O <| fun a Z => ab ?_
    rcases wE (decide ((hd.root.length : Int) = 32)) with hb4 | hb4
    ·rw [hb4] at Z
     try simp only [qz] at hb4
     have hr32 : hd.root.length = 32 := by omega
     refine aU (k := 6) 11 [7, 10] Z kr kr kr rfx ?_
     refine bQ 5 (Z.p10 0 3 4 5 20 21 22 23 24 25 O) Y kr kr <| pl_v (ac (v := po w0.hz 3) O kr) <| pl_w (fun Y => ld Y 0 O O (isAgg9 _) O) <| pl_m O <| pl_w (fun Y => am (Y.g 0 O) O (isAgg47 _) (sizeOf47 _)) <| pl_r (fun Y => bH call124 O (kP key hd _ yR yR (by first | assumption | exact eW dB _) om (Y.keepb hk0))) fun a w6 Z Y => ?_
     replace Z := Z.p3 25 27 30 O
     refine ab <| aM (k := 11) 14 [13] kr kr kr ?_
     refine nv Z <| wB (lH O O) <| pq (ay O O) <| wA O <| fun a Z => ab <| aT kr ?_
     refine G3 <| ar <| ap Z results113 (ag O ae) ?_
     refine ⟨?_, Y.ext⟩
     simp only [retv]
     refine xk Value.bool ?_
     unfold genHd
     rw [hb1, hb2, show decide (hd.root.length = 32) = true from wQ om, show decide (key.length = 32) = true from wQ om]; rfl
    rw [hb4] at Z
    try simp only [qz] at hb4
    refine dk (k := 6) 11 [7, 10] (Z.p10 0 3 4 5 20 21 22 23 24 25 O) kr kr kr rfx fun a Z => ?_
    replace Z := Z.p15 26 27 28 29 30 0 3 4 5 20 21 22 23 24 25 O
    refine aM (k := 11) 14 [13] kr kr kr ?_
    refine nv Z <| wC <| pq (ai O O) <| wA O <| fun a Z => ab <| aT kr ?_
    refine G3 ?_
    replace Z := Z.p1 4 O
    replace Y := Y.k0 0 O
    refine ar <| ap Z results113 (ag O ae) ?_
    refine ⟨?_, Y.ext⟩
    simp only [retv]
    refine xk Value.bool ?_
    unfold genHd
    first | (rw [hb4]; simp; done) | (rw [hb3]; simp; done) | (rw [hb2]; simp; done) | (rw [hb1]; simp; done) | (rw [show decide (hd.root.length = 32) = false from wU om]; simp; done) | (rw [show decide (key.length = 32) = false from wU om]; rfl)
   rw [hb3] at Z
   try simp only [qz] at hb3
   refine nv Z <| wC <| pq (ai O O) <| wy O <| fun a Z => ab <| dk (k := 6) 11 [7, 10] (Z.p10 0 3 4 5 20 21 22 23 24 25 O) kr kr kr rfx fun a Z => ?_
   replace Z := Z.p15 26 27 28 29 30 0 3 4 5 20 21 22 23 24 25 O
   refine aM (k := 11) 14 [13] kr kr kr ?_
   refine nv Z <| wC <| pq (ai O O) <| wA O <| fun a Z => ab <| aT kr ?_
   refine G3 ?_
   replace Z := Z.p1 4 O
   replace Y := Y.k0 0 O
   refine ar <| ap Z results113 (ag O ae) ?_
   refine ⟨?_, Y.ext⟩
   simp only [retv]
   refine xk Value.bool ?_
   unfold genHd
   first | (rw [hb3]; simp; done) | (rw [hb2]; simp; done) | (rw [hb1]; simp; done) | (rw [show decide (hd.root.length = 32) = false from wU om]; simp; done) | (rw [show decide (key.length = 32) = false from wU om]; rfl)
  rw [hb2] at Z
  refine nv Z <| wC <| wC <| wC <| wC <| pq (ai O O) <| wA O <| fun a Z => G2 ?_
  replace Z := Z.p4 0 3 4 5 O
  refine ah fun _ G4 => aL kr (aN kr fun w7 hxz => ?_)
  replace Y := Y.grow hxz
  refine aM (k := 0) 6 [5] kr kr kr ?_
  refine wlm Z O fun a Z => ax Z Y de call120 O (hT key _) fun a w8 Z Y => wlm Z O fun a Z => ?_
  rcases wE (decide ((key.length : Int) = 32)) with hb5 | hb5
  ·rw [hb5] at Z
   try simp only [qz] at hb5
   refine nv Z <| wB (az O) <| pq (ay O O) <| wy O <| fun a Z => ab <| dk (k := 6) 11 [7, 10] (Z.p10 0 3 4 5 20 21 22 23 24 25 O) kr kr kr rfx fun a Z => ?_
   replace Z := Z.p15 26 27 28 29 30 0 3 4 5 20 21 22 23 24 25 O
   refine aM (k := 11) 14 [13] kr kr kr ?_
   refine nv Z <| wC <| pq (ai O O) <| wA O <| fun a Z => ab <| aT kr ?_
   refine G4 ?_
   replace Z := Z.p1 4 O
   replace Y := Y.k0 0 O
   refine ar <| ap Z results113 (ag O ae) ?_
   refine ⟨?_, Y.ext⟩
   simp only [retv]
   refine xk Value.bool ?_
   unfold genHd
   first | (rw [hb5]; simp; done) | (rw [hb2]; simp; done) | (rw [hb1]; simp; done) | (rw [show decide (hd.root.length = 32) = false from wU om]; simp; done) | (rw [show decide (key.length = 32) = false from wU om]; rfl)
  rw [hb5] at Z
  try simp only [qz] at hb5
  refine nv Z <| wC <| pq (ai O O) <| wy O <| fun a Z => ab <| dk (k := 6) 11 [7, 10] (Z.p10 0 3 4 5 20 21 22 23 24 25 O) kr kr kr rfx fun a Z => ?_
  replace Z := Z.p15 26 27 28 29 30 0 3 4 5 20 21 22 23 24 25 O
  refine aM (k := 11) 14 [13] kr kr kr ?_
  refine nv Z <| wC <| pq (ai O O) <| wA O <| fun a Z => ab <| aT kr ?_
  refine G4 ?_
  replace Z := Z.p1 4 O
  replace Y := Y.k0 0 O
  refine ar <| ap Z results113 (ag O ae) ?_
  refine ⟨?_, Y.ext⟩
  simp only [retv]
  refine xk Value.bool ?_
  unfold genHd
  first | (rw [hb5]; simp; done) | (rw [hb2]; simp; done) | (rw [hb1]; simp; done) | (rw [show decide (hd.root.length = 32) = false from wU om]; simp; done) | (rw [show decide (key.length = 32) = false from wU om]; rfl)
 rw [hb1] at Z
 refine nv Z <| wC <| wC <| wC <| pq (ai O O) <| wy O <| wC <| wC <| wC <| wC <| pq (ai O O) <| wA O <| fun a Z => G2 ?_
 replace Z := Z.p4 0 3 4 5 O
 refine ah fun _ G5 => aL kr (aN kr fun w9 hxz => ?_)
 replace Y := Y.grow hxz
 refine aM (k := 0) 6 [5] kr kr kr ?_
 refine wlm Z O fun a Z => ax Z Y de call120 O (hT key _) fun a w10 Z Y => wlm Z O fun a Z => ?_
 rcases wE (decide ((key.length : Int) = 32)) with hb6 | hb6
 ·rw [hb6] at Z
  try simp only [qz] at hb6
  refine nv Z <| wB (az O) <| pq (ay O O) <| wy O <| fun a Z => ab <| dk (k := 6) 11 [7, 10] (Z.p10 0 3 4 5 20 21 22 23 24 25 O) kr kr kr rfx fun a Z => ?_
  replace Z := Z.p15 26 27 28 29 30 0 3 4 5 20 21 22 23 24 25 O
  refine aM (k := 11) 14 [13] kr kr kr ?_
  refine nv Z <| wC <| pq (ai O O) <| wA O <| fun a Z => ab <| aT kr ?_
  refine G5 ?_
  replace Z := Z.p1 4 O
  replace Y := Y.k0 0 O
  refine ar <| ap Z results113 (ag O ae) ?_
  refine ⟨?_, Y.ext⟩
  simp only [retv]
  refine xk Value.bool ?_
  unfold genHd
  first | (rw [hb6]; simp; done) | (rw [hb1]; simp; done) | (rw [show decide (hd.root.length = 32) = false from wU om]; simp; done) | (rw [show decide (key.length = 32) = false from wU om]; rfl)
 rw [hb6] at Z
 try simp only [qz] at hb6
 refine nv Z <| wC <| pq (ai O O) <| wy O <| fun a Z => ab <| dk (k := 6) 11 [7, 10] (Z.p10 0 3 4 5 20 21 22 23 24 25 O) kr kr kr rfx fun a Z => ?_
 replace Z := Z.p15 26 27 28 29 30 0 3 4 5 20 21 22 23 24 25 O
 refine aM (k := 11) 14 [13] kr kr kr ?_
 refine nv Z <| wC <| pq (ai O O) <| wA O <| fun a Z => ab <| aT kr ?_
 refine G5 ?_
 replace Z := Z.p1 4 O
 replace Y := Y.k0 0 O
 refine ar <| ap Z results113 (ag O ae) ?_
 refine ⟨?_, Y.ext⟩
 simp only [retv]
 refine xk Value.bool ?_
 unfold genHd
 first | (rw [hb6]; simp; done) | (rw [hb1]; simp; done) | (rw [show decide (hd.root.length = 32) = false from wU om]; simp; done) | (rw [show decide (key.length = 32) = false from wU om]; rfl)
theorem pF {n : Int} : ∀ {l : List Int} {p : Int} {k : Nat}, ascI n p l = true → k < l.length → p < l.getD k 0 ∧ l.getD k 0 < n ∧ (0 < k → l.getD (k - 1) 0 < l.getD k 0)
 | [], p, k, h, hk => absurd hk (Nat.not_lt_zero _)
 | i :: l, p, k, h, hk => by
  rw [ascI, wF, wF, wJ, wJ] at h
  cases k with
  | zero => exact ⟨h.1.1, h.1.2, fun h => absurd h (yk 0)⟩
  | succ k =>
   obtain ⟨h1, h2, h3⟩ := pF (k := k) h.2 An
   refine ⟨by show p < l.getD k 0; omega, h2, fun _ => ?_⟩
   show (i :: l).getD k 0 < l.getD k 0
   cases k with
   | zero => exact h1
   | succ k => exact h3 (Nat.succ_pos _)
theorem lO {es : List By} {n k i : Nat} {ix : List Int} {L : List Itw} {pv : Value} (hL : itsM L = showIs sha es n (ix.take k)) (hk : k < ix.length) (hi : ix.getD k 0 = (i : Int)) :
  itsM (L ++ [⟨⟨(i : Int), es.getD i [], proofH sha (es.take n) i⟩, pv⟩]) = showIs sha es n (ix.take (k + 1)) := by
 rw [cx 0 hk, showIs, xR, ← showIs, ← hL, itsM, xR, hi]
 simp only [itsM, xB, ym, itmAt, xz]
theorem uZ {es : List By} {n : Nat} {ix : List Int} {L : List Itw} (hL : itsM L = showIs sha es n ix) (hn : n ≤ 60) : ∀ x ∈ L, x.m.pf.length ≤ 6 := by
 intro x hx
 have hm : x.m ∈ showIs sha es n ix := by rw [← hL]; exact xt.2 ⟨x, hx, rfl⟩
 obtain ⟨i, _, he⟩ := dL hm
 rw [he]
 exact rv _ (es.take n) i.toNat 6 O zq
def prevX (L : List Itw) : Nat → Int
 | 0 => -1
 | k + 1 => (L.getD k Itw.z).m.ix
theorem rN {L : List Itw} {k : Nat} (h : 0 < k) : prevX L k = (L.getD (k - 1) Itw.z).m.ix := by
 cases k with
 | zero => exact absurd h (yk 0)
 | succ k => rfl
section
variable {L : List Itw} {k : Nat} {root : By} {n p : Int} {x : Itw}
theorem eU (hk : k < L.length) (hx : L.getD k Itw.z = x) : chkIs sha root n p ((itsM L).drop k) = (decide (p < x.m.ix) && decide (x.m.e.length ≤ 1000) && cy sha root n x.m.ix x.m.e x.m.pf && chkIs sha root n x.m.ix ((itsM L).drop (k + 1))) := by
 rw [qO hk, hx, chkIs]
theorem nc (hk : k < L.length) (hx : L.getD k Itw.z = x) (h1 : p < x.m.ix) (h2 : x.m.e.length ≤ 1000) (h3 : cy sha root n x.m.ix x.m.e x.m.pf = true) : chkIs sha root n p ((itsM L).drop k) = chkIs sha root n (prevX L (k + 1)) ((itsM L).drop (k + 1)) := by
 rw [eU hk hx, wQ h1, wQ h2, h3, prevX, hx]; rfl
end
theorem lK (key : By) (n : Nat) (hd : Hd) (lv : Value) (ix : List Int) (c : Int) (ev : Value) (es : List By) (w0 : World) (hev : SlAt w0 ev 1 (es.map fun s => [sv s])) (hlv : SlAt w0 lv 1 ((ix).map fun n => [jv n])) (hk32 : key.length = 32) (hr : regOk c es = true) (hn : n ≤ es.length) (hix : ascI (n : Int) (-1) ix = true) (hil : ix.length ≤ 1000) (hhd : hdOf sha key c es n = hd) (hk0 : (blk 0 (kOf.map wv) 258).ok w0) :
  Ret Tryz.prog 26 #[sv key, .agg #[jv c, ev], jv (n : Int), lv] w0 (MemR w0 (fun x : Value × List Itw => .tuple #[.agg #[jv hd.c, jv hd.n, sv hd.root, sv hd.tag, x.1], jv 0]) (fun x => [itsE x.1 x.2]) (fun x => itsM x.2 = showIs sha es n ix)) := by
 obtain ⟨hrc0, hrc1, hrl, hel⟩ := eD hr
 have hxb := hlv.2.1
 simp only [wD, big] at hxb
 refine yI func26 O ntmps26 (lb O) fun a Z Y => ?_
 refine aa fun _ G1 => aS Z Y de O (cs := [jv c, ev]) O fun a w1 Z Y => aB Z Y de (zeroValue50 _) (cs := [jv 0, jv 0, .string (⟨#[]⟩), .string (⟨#[]⟩), .slice none 0 0]) O fun a w2 Z Y => wla Z O fun a Z => G1 <| aa fun _ G2 => ?_
 refine nv Z <| wy O <| pq (am (Y.g 1 O) O (isAgg75 _) (sizeOf75 _)) <| wy O <| fun a Z => ax Z Y de call73 O (ln key n hd c ev es _ (Y.arg hev) hk32 hr hn hhd (Y.keepb hk0)) fun a w3 Z Y => nv Z <| wy O <| pq (aq O O) <| pq (aq O O) <| fun a Z => aB Z Y de (zeroValue47 _) (cs := [jv 0, jv 0, .string (⟨#[]⟩), .string (⟨#[]⟩)]) O fun a w4 Z Y => ao 0 Z Y O O O (sizeOf47 _) O (lb O) (ds := [jv hd.c, jv hd.n, sv hd.root, sv hd.tag]) O O fun a w5 Z Y => wla Z O fun a Z => G2 ?_
 refine ah fun _ G3 => aa fun _ G4 => nv (Z.p7 2 3 5 8 9 10 11 O) <| wy O <| pq ((v_ne O O).asb (b' := false) O) <| fun a Z => G4 <| aF Z O ?_
 refine aw <| G3 <| aa fun _ G5 => nv Z <| pq (am (Y.g 0 O) O (isAgg47 _) (sizeOf47 _)) <| pq (aW (v := .agg #[jv hd.c, jv hd.n, sv hd.root, sv hd.tag, .slice none 0 0]) O kr) <| fun a Z => aB Z Y de (zeroValue50 _) (cs := [jv 0, jv 0, .string (⟨#[]⟩), .string (⟨#[]⟩), .slice none 0 0]) O fun a w6 Z Y => ao 0 Z Y O O O (sizeOf50 _) O (lb O) (ds := [jv hd.c, jv hd.n, sv hd.root, sv hd.tag, .slice none 0 0]) O O fun a w7 Z Y => G5 ?_
 replace Y := Y.k3 13 O
 refine ah fun _ G6 => aa fun _ G7 => nv (Z.p6 2 3 5 8 9 12 O) <| wy O <| pq ((aK (sT := 24) (Y.arg hlv) O O (runUnderlying24 _)).asi (m' := (ix.length : Int)) zd) <| wy O <| fun a Z => G7 <| au ?_
 replace Y : St No w0 [own (.slice none 0 0) 110 3 (([]).map Itw.cells), blk w5.hz [jv hd.c, jv hd.n, sv hd.root, sv hd.tag, .slice none 0 0] 50, blk w1.hz [jv 0, jv 0, .string (⟨#[]⟩), .string (⟨#[]⟩), .slice none 0 0] 50, blk w0.hz [jv c, ev] 75] w7 := Y.nil_own
 replace Y : St No w0 [pfsE ([]), own (.slice none 0 0) 110 3 (([]).map Itw.cells), blk w5.hz [jv hd.c, jv hd.n, sv hd.root, sv hd.tag, .slice none 0 0] 50, blk w1.hz [jv 0, jv 0, .string (⟨#[]⟩), .string (⟨#[]⟩), .slice none 0 0] 50, blk w0.hz [jv c, ev] 75] w7 := uU Y
 refine aX (fun m a w => ∃ (k : Nat) (vi : Value) (L : List Itw), m = ix.length - k ∧ (k ≤ ix.length) ∧ (itsM L = showIs sha es n (ix.take k)) ∧ Fr 77 [(2, jv (n : Int)), (3, lv), (5, pt w0.hz), (8, pt w1.hz), (12, pt w5.hz), (30, lv), (31, jv (ix.length : Int)), (32, jv (k : Int))] [] a ∧ St No w0 [own vi 110 3 ((L).map Itw.cells), pfsE L, blk w5.hz [jv hd.c, jv hd.n, sv hd.root, sv hd.tag, vi] 50, blk w1.hz [jv 0, jv 0, .string (⟨#[]⟩), .string (⟨#[]⟩), .slice none 0 0] 50, blk w0.hz [jv c, ev] 75] w) _ ⟨0, .slice none 0 0, [], O, xf _, O, Z.pick [2, 3, 5, 8, 12, 30, 31, 32], Y.select [1, 0, 2, 3, 4] de⟩ ?_
 rintro _ a w8 ⟨k, vi, L, rfl, hk, hL, Z, Y⟩
 refine aa fun _ G8 => wlv Z (v_lt O O) fun a Z => G8 <| ah fun _ G9 => ?_
 refine aA Z O (fun hc1 => ?_) (fun hc1 => ?_)
 ·try simp only [qz] at hc1
  have hkx : k < ix.length := by omega
  refine aw <| G9 <| ah fun _ G10 => au ?_
  obtain ⟨hia, hib, hic⟩ := pF hix (k := k) hkx
  obtain ⟨iq, hki⟩ : ∃ iq : Nat, ix.getD k 0 = (iq : Int) := ⟨(ix.getD k 0).toNat, by omega⟩
  rw [hki] at hia hib hic
  refine aa fun _ G11 => nv Z <| wy O <| pq ((al (i := (k : Int)) (sT := 24) (Y.arg hlv) O O (runUnderlying24 _) (sizeOf3 _) om yQ).as (v' := slAddr lv (k * 1)) O) <| pq (aD (u := jv (iq : Int)) (i := k) (j := 0) (Y.arg hlv) yQ O (isAgg3 _) (by rw [bu (0 : Int), hki]; rfl)) <| wA O <| wA O <| fun a Z => G11 <| aa fun _ G12 => ?_
  refine nv Z <| pq (ac (v := po w0.hz 1) O kr) <| pq (ld Y 4 O O (isAgg44 _) O) <| wy O <| pq (da (l := 0) (h := n) (Y.arg hev) O O O underlying44 kr (.inl ⟨O, O⟩) (.inr O) (xf _) zj) <| wy O <| fun a Z => bC Z Y de call75 O (tu (cut ev 1 0 n (slCap ev)) (es.take n) iq _ ((Y.arg hev).cut0 (h := n) zo) zq zq (fun s h => xC (hel _ (xM h)) de) (Y.keepb hk0)) fun a w9 x3 hp Z Y => ?_
  revert x3 hp Z Y; rintro pv2 hp Z Y
  clear hp
  replace Y := Y.n6 O
  refine nv Z <| wy O <| pq (aq O O) <| pq (aq O O) <| wA O <| wA O <| fun a Z => G12 ?_
  refine ah fun _ G13 => aa fun _ G14 => nv (Z.p12 2 3 5 8 12 30 31 32 13 14 15 16 O) <| wy O <| pq ((v_ne O O).asb (b' := false) O) <| wy O <| wB (az O) <| wB (v_gt O O) <| wB (az O) <| fun a Z => ?_
  rcases wE (decide (0 < (k : Int))) with hb4 | hb4
  ·rw [hb4] at Z
   try simp only [qz] at hb4
   have hic := hic om
   refine nv Z <| wB (az O) <| wB (az O) <| wB (az O) <| wB (bG O O ⟨om, om⟩) <| wB ((al (i := (k : Int) - 1) (sT := 24) (Y.arg hlv) O O (runUnderlying24 _) (sizeOf3 _) om yQ).as (v' := slAddr lv ((k - 1) * 1)) zx) <| wB (aD (u := jv (ix.getD (k - 1) 0)) (i := (k - 1)) (j := 0) (Y.arg hlv) yQ O (isAgg3 _) zX) <| wB ((v_le O O).asb (b' := false) zR) <| wB (ay O O) <| pq (ai O O) <| fun a Z => G14 ?_
   replace Z := Z.p11 2 3 5 8 12 30 31 32 14 15 60 O
   refine aF Z O ?_
   refine aw <| G13 <| aL kr (aN kr fun w10 hxz => ?_)
   replace Y := Y.grow hxz
   refine aU (k := 0) 11 [1, 10] Z kr kr kr rfx ?_
   replace Z := Z.p11 2 3 5 8 12 30 31 32 14 15 60 O
   refine bS [10] (fun i => match i with | 10 => pm (fun b : Nat => .slice (some ⟨b, 0, none⟩) 1 1) (fun b => [own (.slice (some ⟨b, 0, none⟩) 1 1) 110 3 [[jv (iq : Int), sv ((es).getD iq []), pv2]]]) (fun _ => True) | _ => fun _ _ => False) 11 [[], [0], [], [], [3], [], [4, 5], [6], [], [2, 7, 8], [9]] [po w5.hz 4, vi, jv (iq : Int), po w0.hz 1, ev, jv (iq : Int), slAddr ev (iq * 1), sv ((es).getD iq []), pv2, .agg #[jv (iq : Int), sv ((es).getD iq []), pv2], undef] Z Y kr kr kr ?_ ?_ ?_
   ·exact yN <| hqv (ac (v := po w5.hz 4) rfl kr) <| hqw (fun Y => ld Y 3 rfl rfl (isAgg48 _) rfl) <| hqv (az rfl) <| hqv (ac (v := po w0.hz 1) rfl kr) <| hqw (fun Y => ld Y 5 rfl rfl (isAgg44 _) rfl) <| hqv (az rfl) <| hqw (fun Y => (al (i := (iq : Int)) (sT := 44) (Y.arg hev) rfl rfl (runUnderlying44 _) (sizeOf9 _) om yQ).as (v' := slAddr ev (iq * 1)) zU) <| hqw (fun Y => aD (u := sv ((es).getD iq [])) (i := iq) (j := 0) (Y.arg hev) yQ rfl (isAgg9 _) Aw) <| hqv (az rfl) <| hqw (fun Y => aW (v := .agg #[jv (iq : Int), sv ((es).getD iq []), pv2]) rfl Ax) <| yL (fun h => absurd sm h) <| yM
   ·intro i hi
    simp only [wL, wR, xq] at hi
    subst hi
    ·intro w Y
     exact bK (E := 110) (sz := 3) O [[jv (iq : Int), sv ((es).getD iq []), pv2]] (fun _ => by obtain ⟨_, _, _, e0_⟩ := dm (Y.ow 0 rfl); rw [e0_]; kernel_rfl) sm O de
   clear Z Y
   rintro _ _ ⟨b5, rfl, -, rfl⟩ a w11 Z Y
   replace Z := Z.p10 63 72 2 3 5 8 12 30 31 32 O
   replace Y := Y.n7 O
   refine ab <| aM (k := 11) 14 [13] kr kr kr ?_
   refine bc (i := 2) (sT := 48) (inf := Tryz.t110) (z := .agg #[jv 0, .string (⟨#[]⟩), .slice none 0 0]) (b := 0) (off := 0) (m := 0) (c := 0) O O O (Y.ow 0 O) sm underlying48 O O O O de zZ y7 y7 de Z Y fun a w12 s6 Z Y _ => ?_
   replace Y : St No w0 [own (.slice (some ⟨b5, 0, none⟩) 1 1) 110 3 ([[jv (iq : Int), sv ((es).getD iq []), pv2]]), own pv2 9 1 ((proofH sha (es.take n) iq).map fun s => [sv s]), own s6 110 3 (((L ++ [(⟨⟨(iq : Int), es.getD iq [], proofH sha (es.take n) iq⟩, pv2⟩ : Itw)])).map Itw.cells), pfsE L, blk w5.hz [jv hd.c, jv hd.n, sv hd.root, sv hd.tag, vi] 50, blk w1.hz [jv 0, jv 0, .string (⟨#[]⟩), .string (⟨#[]⟩), .slice none 0 0] 50, blk w0.hz [jv c, ev] 75] w12 := by rw [show (((L ++ [(⟨⟨(iq : Int), es.getD iq [], proofH sha (es.take n) iq⟩, pv2⟩ : Itw)])).map Itw.cells) = ((L).map Itw.cells) ++ ([[jv (iq : Int), sv ((es).getD iq []), pv2]]) from by rw [xR]; rfl]; exact Y
   refine wlv Z (ac (v := po w5.hz 4) O kr) fun a Z => cd 4 Z Y (Y.ow 2 O) O O O (sizeOf48 _) (lb O) (ds := [jv hd.c, jv hd.n, sv hd.root, sv hd.tag, s6]) O O fun a w13 Z Y => ab <| aT kr ?_
   refine G10 ?_
   replace Y := Y.k6 126 O
   refine aj <| nv (Z.p8 2 3 5 8 12 30 31 32 O) <| pq (aP O O ⟨om, om⟩) <| wy O <| fun a Z => ab ?_
   replace Y := Y.s6 [0, 2, 1, 3, 4, 5] de rfl
   replace Y : St No w0 [pfsE (L ++ [(⟨⟨(iq : Int), es.getD iq [], proofH sha (es.take n) iq⟩, pv2⟩ : Itw)]), own s6 110 3 (((L ++ [(⟨⟨(iq : Int), es.getD iq [], proofH sha (es.take n) iq⟩, pv2⟩ : Itw)])).map Itw.cells), blk w5.hz [jv hd.c, jv hd.n, sv hd.root, sv hd.tag, s6] 50, blk w1.hz [jv 0, jv 0, .string (⟨#[]⟩), .string (⟨#[]⟩), .slice none 0 0] 50, blk w0.hz [jv c, ev] 75] w13 := nH ⟨⟨(iq : Int), es.getD iq [], proofH sha (es.take n) iq⟩, pv2⟩ Y
   refine ⟨_, ?_, k + 1, s6, (L ++ [(⟨⟨(iq : Int), es.getD iq [], proofH sha (es.take n) iq⟩, pv2⟩ : Itw)]), O, om, (lO hL hkx hki), Z.pick [2, 3, 5, 8, 12, 30, 31, 32], Y.select [1, 0, 2, 3, 4] de⟩
   omega
  rw [hb4] at Z
  try simp only [qz] at hb4
  refine nv Z <| wC <| wC <| wC <| wC <| wC <| wC <| wC <| wB (ai O O) <| pq (ai O O) <| fun a Z => G14 ?_
  replace Z := Z.p11 2 3 5 8 12 30 31 32 14 15 60 O
  refine aF Z O ?_
  refine aw <| G13 <| aL kr (aN kr fun w14 hxz => ?_)
  replace Y := Y.grow hxz
  refine aU (k := 0) 11 [1, 10] Z kr kr kr rfx ?_
  replace Z := Z.p11 2 3 5 8 12 30 31 32 14 15 60 O
  refine bS [10] (fun i => match i with | 10 => pm (fun b : Nat => .slice (some ⟨b, 0, none⟩) 1 1) (fun b => [own (.slice (some ⟨b, 0, none⟩) 1 1) 110 3 [[jv (iq : Int), sv ((es).getD iq []), pv2]]]) (fun _ => True) | _ => fun _ _ => False) 11 [[], [0], [], [], [3], [], [4, 5], [6], [], [2, 7, 8], [9]] [po w5.hz 4, vi, jv (iq : Int), po w0.hz 1, ev, jv (iq : Int), slAddr ev (iq * 1), sv ((es).getD iq []), pv2, .agg #[jv (iq : Int), sv ((es).getD iq []), pv2], undef] Z Y kr kr kr ?_ ?_ ?_
  ·exact yN <| hqv (ac (v := po w5.hz 4) rfl kr) <| hqw (fun Y => ld Y 3 rfl rfl (isAgg48 _) rfl) <| hqv (az rfl) <| hqv (ac (v := po w0.hz 1) rfl kr) <| hqw (fun Y => ld Y 5 rfl rfl (isAgg44 _) rfl) <| hqv (az rfl) <| hqw (fun Y => (al (i := (iq : Int)) (sT := 44) (Y.arg hev) rfl rfl (runUnderlying44 _) (sizeOf9 _) om yQ).as (v' := slAddr ev (iq * 1)) zU) <| hqw (fun Y => aD (u := sv ((es).getD iq [])) (i := iq) (j := 0) (Y.arg hev) yQ rfl (isAgg9 _) Aw) <| hqv (az rfl) <| hqw (fun Y => aW (v := .agg #[jv (iq : Int), sv ((es).getD iq []), pv2]) rfl Ax) <| yL (fun h => absurd sm h) <| yM
  ·intro i hi
   simp only [wL, wR, xq] at hi
   subst hi
   ·intro w Y
    exact bK (E := 110) (sz := 3) O [[jv (iq : Int), sv ((es).getD iq []), pv2]] (fun _ => by obtain ⟨_, _, _, e0_⟩ := dm (Y.ow 0 rfl); rw [e0_]; kernel_rfl) sm O de
  clear Z Y
  rintro _ _ ⟨b7, rfl, -, rfl⟩ a w15 Z Y
  replace Z := Z.p10 63 72 2 3 5 8 12 30 31 32 O
  replace Y := Y.n7 O
  refine ab <| aM (k := 11) 14 [13] kr kr kr ?_
  refine bc (i := 2) (sT := 48) (inf := Tryz.t110) (z := .agg #[jv 0, .string (⟨#[]⟩), .slice none 0 0]) (b := 0) (off := 0) (m := 0) (c := 0) O O O (Y.ow 0 O) sm underlying48 O O O O de zZ y7 y7 de Z Y fun a w16 s8 Z Y _ => ?_
  replace Y : St No w0 [own (.slice (some ⟨b7, 0, none⟩) 1 1) 110 3 ([[jv (iq : Int), sv ((es).getD iq []), pv2]]), own pv2 9 1 ((proofH sha (es.take n) iq).map fun s => [sv s]), own s8 110 3 (((L ++ [(⟨⟨(iq : Int), es.getD iq [], proofH sha (es.take n) iq⟩, pv2⟩ : Itw)])).map Itw.cells), pfsE L, blk w5.hz [jv hd.c, jv hd.n, sv hd.root, sv hd.tag, vi] 50, blk w1.hz [jv 0, jv 0, .string (⟨#[]⟩), .string (⟨#[]⟩), .slice none 0 0] 50, blk w0.hz [jv c, ev] 75] w16 := by rw [show (((L ++ [(⟨⟨(iq : Int), es.getD iq [], proofH sha (es.take n) iq⟩, pv2⟩ : Itw)])).map Itw.cells) = ((L).map Itw.cells) ++ ([[jv (iq : Int), sv ((es).getD iq []), pv2]]) from by rw [xR]; rfl]; exact Y
  refine wlv Z (ac (v := po w5.hz 4) O kr) fun a Z => cd 4 Z Y (Y.ow 2 O) O O O (sizeOf48 _) (lb O) (ds := [jv hd.c, jv hd.n, sv hd.root, sv hd.tag, s8]) O O fun a w17 Z Y => ab <| aT kr ?_
  refine G10 ?_
  replace Y := Y.k6 126 O
  refine aj <| nv (Z.p8 2 3 5 8 12 30 31 32 O) <| pq (aP O O ⟨om, om⟩) <| wy O <| fun a Z => ab ?_
  replace Y := Y.s6 [0, 2, 1, 3, 4, 5] de rfl
  replace Y : St No w0 [pfsE (L ++ [(⟨⟨(iq : Int), es.getD iq [], proofH sha (es.take n) iq⟩, pv2⟩ : Itw)]), own s8 110 3 (((L ++ [(⟨⟨(iq : Int), es.getD iq [], proofH sha (es.take n) iq⟩, pv2⟩ : Itw)])).map Itw.cells), blk w5.hz [jv hd.c, jv hd.n, sv hd.root, sv hd.tag, s8] 50, blk w1.hz [jv 0, jv 0, .string (⟨#[]⟩), .string (⟨#[]⟩), .slice none 0 0] 50, blk w0.hz [jv c, ev] 75] w17 := nH ⟨⟨(iq : Int), es.getD iq [], proofH sha (es.take n) iq⟩, pv2⟩ Y
  refine ⟨_, ?_, k + 1, s8, (L ++ [(⟨⟨(iq : Int), es.getD iq [], proofH sha (es.take n) iq⟩, pv2⟩ : Itw)]), O, om, (lO hL hkx hki), Z.pick [2, 3, 5, 8, 12, 30, 31, 32], Y.select [1, 0, 2, 3, 4] de⟩
  omega
 try simp only [qz] at hc1
 obtain rfl : k = ix.length := by omega
 rw [List.take_length] at hL
 refine aO <| G6 <| aa fun _ G15 => wlv Z (am (Y.g 2 O) O (isAgg50 _) (sizeOf50 _)) fun a Z => bn (us := [jv hd.c, jv hd.n, sv hd.root, sv hd.tag, vi]) 3 Z Y O O O (sizeOf50 _) (by intro z hz; simp only [wL, wR, xq] at hz; rcases hz with rfl | rfl | rfl | rfl | rfl <;> first | rfl | exact SlAt.one (Y.ow 0 rfl)) (lb O) (ds := [jv hd.c, jv hd.n, sv hd.root, sv hd.tag, vi]) O O fun a w18 Z Y => ?_
 refine wla Z O fun a Z => G15 ?_
 replace Z := Z.p2 8 9 O
 replace Y := Y.k3 11 O
 refine ar <| ap Z results26 (ak O (bf (Y.g 2 O) (isAgg50 _) (sizeOf50 _)) (ag O ae)) ?_
 replace Y := Y.s3 [0, 1, 2] de rfl
 replace Y : St No w0 [itsE vi L, blk w1.hz [jv hd.c, jv hd.n, sv hd.root, sv hd.tag, vi] 50] w18 := wl Y
 exact ⟨(vi, L), O, hL, Y.ext, St.out (E := [itsE vi L]) (H := []) (Y.select [0] de)⟩
theorem ey (key : By) (hd : Hd) (iv : Value) (L : List Itw) (w0 : World) (hiv : ItsAt w0 iv L) (hpf : ∀ x ∈ L, x.m.pf.length ≤ 1000) (hk0 : (blk 0 (kOf.map wv) 258).ok w0) :
  Ret Tryz.prog 52 #[sv key, .agg #[jv hd.c, jv hd.n, sv hd.root, sv hd.tag, iv]] w0 fun v w => v = .bool (checkP sha key hd (itsM L)) ∧ Ext No w0 w := by
 have hxb := hiv.len
 refine yF func52 O ntmps52 (lb O) fun a Z Y => ?_
 refine aa fun _ G1 => aS Z Y de O (cs := [jv hd.c, jv hd.n, sv hd.root, sv hd.tag, iv]) O fun a w1 Z Y => wla Z O fun a Z => G1 <| ah fun _ G2 => ?_
 refine aa fun _ G3 => nv Z <| wy O <| pq (ac (v := pt w0.hz) O kr) <| pq (bN (ds := [jv hd.c, jv hd.n, sv hd.root, sv hd.tag]) (Y.g 0 O) O (isAgg47 _) (sizeOf47 _) O) <| fun a Z => ax Z Y de call113 O (si key hd _ (Y.keepb hk0)) fun a w2 Z Y => wlv Z (bB O) fun a Z => G3 ?_
 replace Z := Z.p3 3 4 12 O
 refine aA Z O (fun hc1 => ?_) (fun hc1 => ?_)
 ·try simp only [qz] at hc1
  have hgn : genHd sha key hd = false := by simpa using hc1
  refine aa fun _ G4 => wla Z O fun a Z => G4 <| ar ?_
  refine ap Z results52 (ag O ae) ?_
  refine ⟨?_, Y.ext⟩
  simp only [retv]
  refine xk Value.bool ?_
  unfold checkP
  rw [hgn]; rfl
 try simp only [qz] at hc1
 have hgn : genHd sha key hd = true := by simpa using hc1
 have hgb : hd.n ≤ 60 := by have h := hgn; unfold genHd inB at h; simp only [wF, wJ] at h; omega
 refine aw <| G2 <| ah fun _ G5 => aa fun _ G6 => nv Z <| pq (ac (v := po w0.hz 4) O kr) <| pq (ld Y 0 O O (isAgg48 _) O) <| pq ((aK (sT := 48) (Y.arg hiv.1) O O (runUnderlying48 _)).asi (m' := (L.length : Int)) zd) <| wy O <| fun a Z => G6 <| au ?_
 refine aX (fun m a w => ∃ (k : Nat), m = L.length - k ∧ (k ≤ L.length) ∧ (chkIs sha hd.root hd.n (-1) (itsM L) = chkIs sha hd.root hd.n (prevX L k) ((itsM L).drop k)) ∧ Fr 60 [(3, pt w0.hz), (14, iv), (15, jv (L.length : Int)), (16, jv (k : Int))] [] a ∧ St No w0 [blk w0.hz [jv hd.c, jv hd.n, sv hd.root, sv hd.tag, iv] 50] w) _ ⟨0, O, xf _, O, Z.pick [3, 14, 15, 16], Y.select [0] de⟩ ?_
 rintro _ a w3 ⟨k, rfl, hk, hs, Z, Y⟩
 refine aa fun _ G7 => wlv Z (v_lt O O) fun a Z => G7 <| ah fun _ G8 => ?_
 refine aA Z O (fun hc2 => ?_) (fun hc2 => ?_)
 ·try simp only [qz] at hc2
  have hkx : k < L.length := by omega
  refine aw <| G8 <| ah fun _ G9 => au ?_
  obtain ⟨⟨⟨ix, e, pf⟩, pv⟩, hx⟩ : ∃ x, L.getD k Itw.z = x := ⟨_, rfl⟩
  have hxm := br (d := Itw.z) hkx
  rw [hx] at hxm
  have hpv : SlAt w0 pv 1 (pf.map fun s => [sv s]) := hiv.2 _ hxm
  have hpl : pf.length ≤ 1000 := hpf _ hxm
  refine aa fun _ G10 => nv Z <| wy O <| pq ((al (i := (k : Int)) (sT := 48) (Y.arg hiv.1) O O (runUnderlying48 _) (sizeOf110 _) om yQ).as (v' := slAddr iv (k * 3)) O) <| pq ((bM (Y.arg hiv.1) (i := k) yQ O (isAgg110 _) (sizeOf110 _)).as (v' := .agg #[jv ix, sv e, pv]) (by rw [bu Itw.z, hx]; rfl)) <| fun a Z => aB Z Y de (zeroValue110 _) (cs := [jv 0, .string (⟨#[]⟩), .slice none 0 0]) O fun a w4 Z Y => wla Z O fun a Z => bn (us := [jv ix, sv e, pv]) 0 Z Y O O O (sizeOf110 _) (by intro z hz; simp only [wL, wR, xq] at hz; rcases hz with rfl | rfl | rfl <;> first | rfl | exact SlAt.one (Y.arg hpv)) (lb O) (ds := [jv ix, sv e, pv]) O O fun a w5 Z Y => ?_
  refine G10 <| ah fun _ G11 => ?_
  refine aL kr (aN kr fun w6 hxz => ?_)
  replace Y := Y.grow hxz
  refine aM (k := 0) 3 [2] kr kr kr ?_
  refine nv Z <| wy O <| pq (v_eq O O) <| wy O <| fun a Z => ab ?_
  rcases wE (decide ((k : Int) = 0)) with hb3 | hb3
  ·rw [hb3] at Z
   try simp only [qz] at hb3
   have hk0e : k = 0 := by omega
   refine dk (k := 3) 12 [9, 11] (Z.p12 3 14 15 16 18 19 20 6 5 21 22 23 O) kr kr kr rfx fun a Z => ?_
   replace Z : Fr 60 [(24, undef), (25, undef), (26, undef), (27, undef), (28, undef), (29, undef), (30, undef), (31, undef), (32, undef), (3, pt w0.hz), (14, iv), (15, jv (L.length : Int)), (16, jv (k : Int)), (18, jv (k : Int)), (19, slAddr iv (k * 3)), (20, .agg #[jv ix, sv e, pv]), (6, pt w3.hz), (5, jv (k : Int)), (21, jv (k : Int)), (22, .bool true), (23, .bool true)] [] a := Z
   refine aM (k := 12) 15 [14] kr kr kr ?_
   refine nv Z <| wC <| pq (ay O O) <| wA O <| fun a Z => ab <| aT kr ?_
   refine G11 ?_
   refine aa fun _ G12 => nv (Z.p6 3 14 15 16 6 7 O) <| wy O <| pq ((bB O).asb (b' := false) O) <| wy O <| wB (ac (v := po w3.hz 1) O kr) <| wB (ld Y 0 O O (isAgg9 _) O) <| wB (bj O O (runUnderlying9 _)) <| wB (v_gt O O) <| pq (ai O O) <| wy O <| fun a Z => ?_
   rcases wE (decide (1000 < (e.length : Int))) with hb4 | hb4
   ·rw [hb4] at Z
    try simp only [qz] at hb4
    have hbad : chkIs sha hd.root hd.n (-1) (itsM L) = false := by rw [hs, eU hkx hx]; rw [wU (show ¬ e.length ≤ 1000 by omega), xK]; rfl
    refine nv Z <| wC <| wC <| wC <| wC <| wC <| wC <| wC <| wC <| wC <| wC <| wC <| wC <| wC <| wC <| pq (ay O O) <| fun a Z => G12 ?_
    replace Z := Z.p5 3 14 15 16 58 O
    replace Y := Y.k1 2 O
    refine aH Z O ?_
    refine aa fun _ G13 => wla Z O fun a Z => G13 <| ar ?_
    refine ap Z results52 (ag O ae) ?_
    refine ⟨?_, Y.ext⟩
    simp only [retv]
    refine xk Value.bool ?_
    unfold checkP
    rw [hbad, xK]
   rw [hb4] at Z
   try simp only [qz] at hb4
   have hel : e.length ≤ 1000 := by omega
   refine nv Z <| wB (ac (v := pt w0.hz) O kr) <| wB (ac (v := po w0.hz 2) O kr) <| wB (ld Y 1 O O (isAgg9 _) O) <| wB (ac (v := pt w0.hz) O kr) <| wB (ac (v := po w0.hz 1) O kr) <| wB (ld Y 1 O O (isAgg3 _) O) <| wB (ac (v := pt w3.hz) O kr) <| wB (ld Y 0 O O (isAgg3 _) O) <| wB (ac (v := po w3.hz 1) O kr) <| wB (ld Y 0 O O (isAgg9 _) O) <| wB (ac (v := po w3.hz 2) O kr) <| wB (ld Y 0 O O (isAgg44 _) O) <| fun a Z => aG Z Y de O de O call114 O (lV hd.root e hd.n ix pv pf _ (Y.arg hpv) om om om (Y.keepb hk0)) fun a w7 Z Y => nv Z <| wB (bB O) <| pq (ai O O) <| fun a Z => G12 ?_
   replace Z := Z.p5 3 14 15 16 58 O
   replace Y := Y.k1 2 O
   refine aA Z O (fun hc5 => ?_) (fun hc5 => ?_)
   ·try simp only [qz] at hc5
    have hvf : cy sha hd.root hd.n ix e pf = false := by simpa using hc5
    have hbad : chkIs sha hd.root hd.n (-1) (itsM L) = false := by rw [hs, eU hkx hx]; rw [show cy sha hd.root hd.n (⟨⟨ix, e, pf⟩, pv⟩ : Itw).m.ix (⟨⟨ix, e, pf⟩, pv⟩ : Itw).m.e (⟨⟨ix, e, pf⟩, pv⟩ : Itw).m.pf = false from hvf, xK]; rfl
    refine aa fun _ G14 => wla Z O fun a Z => G14 <| ar ?_
    refine ap Z results52 (ag O ae) ?_
    refine ⟨?_, Y.ext⟩
    simp only [retv]
    refine xk Value.bool ?_
    unfold checkP
    rw [hbad, xK]
   try simp only [qz] at hc5
   have hvf : cy sha hd.root hd.n ix e pf = true := by simpa using hc5
   have hgo : prevX L k < ix := by rw [hk0e]; have := (gT hvf).1; show -1 < ix; omega
   refine aw <| G9 <| aj <| nv Z <| pq (aP O O ⟨om, om⟩) <| wy O <| fun a Z => ab ?_
   refine ⟨_, ?_, k + 1, O, om, (by rw [hs]; exact nc hkx hx hgo hel hvf), Z.pick [3, 14, 15, 16], Y.select [0] de⟩
   omega
  rw [hb3] at Z
  try simp only [qz] at hb3
  have hpvx := rN (L := L) (k := k) om
  refine aU (k := 3) 12 [9, 11] Z kr kr kr rfx ?_
  replace Z := Z.p12 3 14 15 16 18 19 20 6 5 21 22 23 O
  refine bQ 9 Z Y kr kr <| pl_v (ac (v := po w0.hz 4) O kr) <| pl_w (fun Y => ld Y 1 O O (isAgg48 _) O) <| pl_m O <| pl_v (bG O O ⟨om, om⟩) <| pl_w (fun Y => (al (i := (k : Int) - 1) (sT := 48) (Y.arg hiv.1) O O (runUnderlying48 _) (sizeOf110 _) om yQ).as (v' := slAddr iv ((k - 1) * 3)) zx) <| pl_w (fun Y => cA (k := (k - 1) * 3) (j := 0) (Y.arg hiv.1) (i := (k - 1)) yQ O (fun _ _ => by kernel_rfl)) ?_
  refine pl_w (fun Y => aD (u := jv ((L.getD (k - 1) Itw.z).m.ix)) (i := (k - 1)) (j := 0) (Y.arg hiv.1) yQ O (isAgg3 _) (by rw [bu Itw.z]; rfl)) <| pl_v (ac (v := pt w3.hz) O kr) <| pl_w (fun Y => ld Y 0 O O (isAgg3 _) O) fun a w8 Z Y => ?_
  replace Z := Z.p8 3 14 15 16 6 23 30 32 O
  refine ab <| aM (k := 12) 15 [14] kr kr kr ?_
  refine nv Z <| wB (v_lt O O) <| pq (ai O O) <| wA O <| fun a Z => ab <| aT kr ?_
  refine G11 <| aa fun _ G15 => nv Z <| wy O <| pq (bB O) <| wy O <| fun a Z => ?_
  rcases wE (!(decide ((L.getD (k - 1) Itw.z).m.ix < ix))) with hb6 | hb6
  ·rw [hb6] at Z
   try simp only [qz] at hb6
   have hbad : chkIs sha hd.root hd.n (-1) (itsM L) = false := by rw [hs, eU hkx hx]; rw [wU (by rw [hpvx]; show ¬ _ < ix; omega)]; rfl
   refine nv Z <| wC <| wC <| wC <| wC <| pq (ay O O) <| wy O <| wC <| wC <| wC <| wC <| wC <| wC <| wC <| wC <| wC <| wC <| wC <| wC <| wC <| wC <| pq (ay O O) <| fun a Z => G15 ?_
   replace Z := Z.p5 3 14 15 16 58 O
   replace Y := Y.k1 2 O
   refine aH Z O ?_
   refine aa fun _ G16 => wla Z O fun a Z => G16 <| ar ?_
   refine ap Z results52 (ag O ae) ?_
   refine ⟨?_, Y.ext⟩
   simp only [retv]
   refine xk Value.bool ?_
   unfold checkP
   rw [hbad, xK]
  rw [hb6] at Z
  try simp only [qz] at hb6
  have hgo : prevX L k < ix := by rw [hpvx]; omega
  refine nv Z <| wB (ac (v := po w3.hz 1) O kr) <| wB (ld Y 0 O O (isAgg9 _) O) <| wB (bj O O (runUnderlying9 _)) <| wB (v_gt O O) <| pq (ai O O) <| wy O <| fun a Z => ?_
  rcases wE (decide (1000 < (e.length : Int))) with hb7 | hb7
  ·rw [hb7] at Z
   try simp only [qz] at hb7
   have hbad : chkIs sha hd.root hd.n (-1) (itsM L) = false := by rw [hs, eU hkx hx]; rw [wU (show ¬ e.length ≤ 1000 by omega), xK]; rfl
   refine nv Z <| wC <| wC <| wC <| wC <| wC <| wC <| wC <| wC <| wC <| wC <| wC <| wC <| wC <| wC <| pq (ay O O) <| fun a Z => G15 ?_
   replace Z := Z.p5 3 14 15 16 58 O
   replace Y := Y.k1 2 O
   refine aH Z O ?_
   refine aa fun _ G17 => wla Z O fun a Z => G17 <| ar ?_
   refine ap Z results52 (ag O ae) ?_
   refine ⟨?_, Y.ext⟩
   simp only [retv]
   refine xk Value.bool ?_
   unfold checkP
   rw [hbad, xK]
  rw [hb7] at Z
  try simp only [qz] at hb7
  have hel : e.length ≤ 1000 := by omega
  refine nv Z <| wB (ac (v := pt w0.hz) O kr) <| wB (ac (v := po w0.hz 2) O kr) <| wB (ld Y 1 O O (isAgg9 _) O) <| wB (ac (v := pt w0.hz) O kr) <| wB (ac (v := po w0.hz 1) O kr) <| wB (ld Y 1 O O (isAgg3 _) O) <| wB (ac (v := pt w3.hz) O kr) <| wB (ld Y 0 O O (isAgg3 _) O) <| wB (ac (v := po w3.hz 1) O kr) <| wB (ld Y 0 O O (isAgg9 _) O) <| wB (ac (v := po w3.hz 2) O kr) <| wB (ld Y 0 O O (isAgg44 _) O) <| fun a Z => aG Z Y de O de O call114 O (lV hd.root e hd.n ix pv pf _ (Y.arg hpv) om om om (Y.keepb hk0)) fun a w9 Z Y => nv Z <| wB (bB O) <| pq (ai O O) <| fun a Z => G15 ?_
  replace Z := Z.p5 3 14 15 16 58 O
  replace Y := Y.k1 2 O
  refine aA Z O (fun hc8 => ?_) (fun hc8 => ?_)
  ·try simp only [qz] at hc8
   have hvf : cy sha hd.root hd.n ix e pf = false := by simpa using hc8
   have hbad : chkIs sha hd.root hd.n (-1) (itsM L) = false := by rw [hs, eU hkx hx]; rw [show cy sha hd.root hd.n (⟨⟨ix, e, pf⟩, pv⟩ : Itw).m.ix (⟨⟨ix, e, pf⟩, pv⟩ : Itw).m.e (⟨⟨ix, e, pf⟩, pv⟩ : Itw).m.pf = false from hvf, xK]; rfl
   refine aa fun _ G18 => wla Z O fun a Z => G18 <| ar ?_
   refine ap Z results52 (ag O ae) ?_
   refine ⟨?_, Y.ext⟩
   simp only [retv]
   refine xk Value.bool ?_
   unfold checkP
   rw [hbad, xK]
  try simp only [qz] at hc8
  have hvf : cy sha hd.root hd.n ix e pf = true := by simpa using hc8
  refine aw <| G9 <| aj <| nv Z <| pq (aP O O ⟨om, om⟩) <| wy O <| fun a Z => ab ?_
  refine ⟨_, ?_, k + 1, O, om, (by rw [hs]; exact nc hkx hx hgo hel hvf), Z.pick [3, 14, 15, 16], Y.select [0] de⟩
  omega
 try simp only [qz] at hc2
 have hall : chkIs sha hd.root hd.n (-1) (itsM L) = true := by rw [hs, show k = (itsM L).length by rw [eq]; omega, List.drop_length]; rfl
 refine aO <| G5 <| aa fun _ G19 => wla Z O fun a Z => G19 ?_
 replace Z := Z.p1 4 O
 replace Y := Y.k0 0 O
 refine ar <| ap Z results52 (ag O ae) ?_
 refine ⟨?_, Y.ext⟩
 simp only [retv]
 refine xk Value.bool ?_
 unfold checkP
 rw [hgn, hall]; rfl
end Go.Proofs.YtliklcmddmpdfaaGreatDoor
namespace Go.Proofs.YtliklcmddmpdfaaGreatDoor
open Go.RowKit Go.PW _root_.Go.Proofs.Tryz
theorem fB {s : By} {x : Cas} {w0 : World} (h : decCas s = some x) (hsl : s.length ≤ 1000000) : Ret Tryz.prog 20 #[sv s] w0 fun v w => v = .tuple #[.agg x.cells.toArray, jv 0] ∧ Ext No w0 w := by
 have := sW s w0 hsl
 unfold dcX dcE at this
 rw [h] at this
 exact this
theorem iO {s : By} {w0 : World} (h : decCas s = none) (hsl : s.length ≤ 1000000) : Ret Tryz.prog 20 #[sv s] w0 fun v w => v = .tuple #[.agg Cas.z.cells.toArray, jv 210] ∧ Ext No w0 w := by
 have := sW s w0 hsl
 unfold dcX dcE at this
 rw [h] at this
 exact this
def encK (x : Int × Cas) : List Value := [jv x.1, .agg x.2.cells.toArray]
section
variable {L : List Itw} {k : Nat} {ix : Int} {en : By} {pf : List By} {pv : Value} {cc : Cas}
theorem kW {L : List Itw} {k : Nat} (hk : k < L.length) : (itsM L).take (k + 1) = (itsM L).take k ++ [(L.getD k Itw.z).m] := by
 unfold itsM
 rw [← List.map_take, cx Itw.z hk, xR, List.map_take]; rfl
theorem lE (hk : k < L.length) (hx : L.getD k Itw.z = ⟨⟨ix, en, pf⟩, pv⟩) (hd : decCas en = some cc) : casesF ((itsM L).take (k + 1)) = casesF ((itsM L).take k) ++ [(ix, cc)] := by
 rw [kW hk, gJ, ea, hx]
 simp only [hd]
 rfl
theorem tT (hk : k < L.length) (hx : L.getD k Itw.z = ⟨⟨ix, en, pf⟩, pv⟩) (hd : decCas en = none) : casesF ((itsM L).take (k + 1)) = casesF ((itsM L).take k) := by
 rw [kW hk, gJ, ea, hx]
 simp only [hd, xo]
 show _ ++ [] = _
 rw [xZ]
theorem vO (hk : k < L.length) (hx : L.getD k Itw.z = ⟨⟨ix, en, pf⟩, pv⟩) (hd : decCas en = some cc) : NxK (casesF (itsM L)) (casesF ((itsM L).take k)) (ix, cc) := by
 refine ⟨casesF ((itsM L).drop (k + 1)), ?_⟩
 have h : itsM L = (itsM L).take (k + 1) ++ (itsM L).drop (k + 1) := (yi _ _).symm
 have h2 : casesF (itsM L) = casesF ((itsM L).take (k + 1)) ++ casesF ((itsM L).drop (k + 1)) := by rw [← gJ, ← h]
 rw [h2, lE hk hx hd, xu]; rfl
end
def OkP (n : Int) (L : List Itw) : Prop := 0 ≤ n ∧ n ≤ 60 ∧ ∀ x ∈ L, 0 ≤ x.m.ix ∧ x.m.ix < n ∧ x.m.e.length ≤ 1000
theorem lg {root : By} {n : Int} : ∀ {l : List Itm} {p : Int}, chkIs sha root n p l = true → ∀ x ∈ l, 0 ≤ x.ix ∧ x.ix < n ∧ x.e.length ≤ 1000
 | [], p, h => by simp
 | y :: l, p, h => by
  simp only [chkIs, wF, wJ] at h
  intro x hx
  rcases wL.1 hx with rfl | hx
  ·have := gT h.1.2
   exact ⟨this.1, this.2.1, h.1.1.2⟩
  ·exact lg h.2 x hx
theorem iS {key : By} {hd : Hd} {L : List Itw} (h : checkP sha key hd (itsM L) = true) : OkP hd.n L := by
 unfold checkP at h
 rw [wF] at h
 have hg := h.1
 unfold genHd inB at hg
 simp only [wF, wJ] at hg
 refine ⟨by omega, by omega, fun x hx => lg h.2 x.m (xt.2 ⟨x, hx, O⟩)⟩
theorem we {n : Int} {L : List Itw} (h : OkP n L) {p : Int × Cas} (hp : p ∈ casesF (itsM L)) : 0 ≤ p.1 ∧ p.1 < n := by
 obtain ⟨x, hx, h1, _⟩ := dT.1 hp
 obtain ⟨y, hy, rfl⟩ := xt.1 hx
 have := h.2.2 y hy
 rw [← h1]; omega
def LHit (size num : Int) (p : Int × Cas) (la : Int) (fo : Bool) : Prop := (p.2.n < num ∧ p.1 = size - 1) ∨ (num < p.2.n ∧ (p.1 = 0 ∨ (fo = true ∧ la = p.1 - 1)))
theorem oq {size num la : Int} {p : Int × Cas} {fo : Bool} : ((decide (p.2.n < num) && decide (p.1 = size - 1)) || (decide (num < p.2.n) && (decide (p.1 = 0) || (fo && decide (la = p.1 - 1))))) = true ↔ LHit size num p la fo := by
 unfold LHit
 simp only [xa, wF, wJ]
theorem f8 {size num la : Int} {fo b : Bool} {l pre : List (Int × Cas)} {p : Int × Cas} (h : LackI size num l pre la fo) (hc : ¬ LHit size num p la fo) (hb : decide (p.2.n < num) = b) : LackI size num l (pre ++ [p]) p.1 b := by
 subst hb
 exact tE h (by rw [Bool.eq_false_iff]; exact fun h => hc (oq.1 h))
theorem fW {size num la : Int} {fo : Bool} {l pre : List (Int × Cas)} {p : Int × Cas} (h : LackI size num l pre la fo) (hx : NxK l pre p) (hc : LHit size num p la fo) : lackC size num (-1) false l = true := rE h hx (oq.2 hc)
theorem dM (hd : Hd) (iv : Value) (L : List Itw) (w0 : World) (hiv : ItsAt w0 iv L) :
  Ret Tryz.prog 74 #[.agg #[jv hd.c, jv hd.n, sv hd.root, sv hd.tag, iv]] w0 (MemR w0 (fun z : Nat => .func (.func 125) #[] #[pt z]) (fun z => [blk z [jv hd.c, jv hd.n, sv hd.root, sv hd.tag, iv] 50]) (fun _ => True)) := by
 refine yG func74 O ntmps74 (lb O) fun a Z Y => ?_
 refine aa fun _ G1 => aS Z Y de O (cs := [jv hd.c, jv hd.n, sv hd.root, sv hd.tag, iv]) O fun a w1 Z Y => wla Z O fun a Z => G1 <| aa fun _ G2 => ?_
 refine nv Z <| pq (bX O O) <| wA O <| fun a Z => G2 <| ar ?_
 refine ap Z results74 (ag O ae) ?_
 exact ⟨w0.hz, O, trivial, Y.ext, St.out (H := []) Y⟩
theorem rK {M : Nat → Prop} {w0 : World} (hd : Hd) (iv : Value) (L : List Itw) (lp b1 : Nat) (J Jx : List (Int × Cas) → Ent → Prop) (hY : Rounds Tryz.prog M w0 lp encK (NxK (casesF (itsM L))) J Jx) (e0 : Ent) (ws : World) (hel : ∀ x ∈ L, x.m.e.length ≤ 1000) (hiv : ∀ (H : List Ent) (w : World), St M w0 H w → ItsAt w iv L) (hJ : J [] e0) (Y : St M w0 [e0, blk b1 [jv hd.c, jv hd.n, sv hd.root, sv hd.tag, iv] 50] ws) :
  Ret Tryz.prog 125 #[.func (.yield lp) #[] #[], pt b1] ws fun _ w => ∃ e1 Hi1, St M w0 (e1 :: Hi1) w ∧ ((∃ ys, (ys = casesF (itsM L) ∧ Hi1 = [blk b1 [jv hd.c, jv hd.n, sv hd.root, sv hd.tag, iv] 50]) ∧ J ys e1) ∨ (∃ pre, Hi1 = [blk b1 [jv hd.c, jv hd.n, sv hd.root, sv hd.tag, iv] 50] ∧ Jx pre e1)) := by
 have hxb := (hiv _ _ Y).len
 refine aC func125 O ntmps125 (lb O) fun a Z => ?_
 replace Z := Z.p2 0 1 O
 skip
 refine aa fun _ G1 => nv Z <| pq (ac (v := po b1 4) O kr) <| pq (ld Y 1 O O (isAgg48 _) O) <| pq ((aK (sT := 48) (hiv _ _ Y).1 O O (runUnderlying48 _)).asi (m' := (L.length : Int)) zd) <| wy O <| fun a Z => G1 <| au ?_
 refine aX (fun m a w => ∃ (k : Nat) (e : Ent), m = L.length - k ∧ (k ≤ L.length) ∧ (J (casesF ((itsM L).take k)) e) ∧ Fr 31 [(0, .func (.yield lp) #[] #[]), (8, iv), (9, jv (L.length : Int)), (10, jv (k : Int))] [] a ∧ St M w0 [e, blk b1 [jv hd.c, jv hd.n, sv hd.root, sv hd.tag, iv] 50] w) _ ⟨0, e0, O, xf _, hJ, Z.pick [0, 8, 9, 10], Y.select [0, 1] de⟩ ?_
 rintro _ a w1 ⟨k, e, rfl, hk, hJ, Z, Y⟩
 refine aa fun _ G2 => wlv Z (v_lt O O) fun a Z => G2 <| ah fun _ G3 => ?_
 refine aA Z O (fun hc1 => ?_) (fun hc1 => ?_)
 ·try simp only [qz] at hc1
  have hkx : k < L.length := by omega
  refine aw <| G3 <| ah fun _ G4 => au ?_
  obtain ⟨⟨⟨ix, en, pf⟩, pv⟩, hx⟩ : ∃ x, L.getD k Itw.z = x := ⟨_, rfl⟩
  have hxm := br (d := Itw.z) hkx
  rw [hx] at hxm
  have hln : en.length ≤ 1000 := hel _ hxm
  refine aa fun _ G5 => nv Z <| pq ((al (i := (k : Int)) (sT := 48) (hiv _ _ Y).1 O O (runUnderlying48 _) (sizeOf110 _) om yQ).as (v' := slAddr iv (k * 3)) O) <| pq ((bM (hiv _ _ Y).1 (i := k) yQ O (isAgg110 _) (sizeOf110 _)).as (v' := .agg #[jv ix, sv en, pv]) (by rw [bu Itw.z, hx]; rfl)) <| fun a Z => aB Z Y de (zeroValue110 _) (cs := [jv 0, .string (⟨#[]⟩), .slice none 0 0]) O fun a w2 Z Y => bn (us := [jv ix, sv en, pv]) 0 Z Y O O O (sizeOf110 _) (by intro z hz; simp only [wL, wR, xq] at hz; rcases hz with rfl | rfl | rfl <;> first | rfl | exact SlAt.one ((hiv _ _ Y).2 _ hxm)) (lb O) (ds := [jv ix, sv en, pv]) O O fun a w3 Z Y => ?_
  refine G5 <| aa fun _ G6 => ?_
  refine nv Z <| pq (ac (v := po w1.hz 1) O kr) <| pq (ld Y 0 O O (isAgg9 _) O) <| fun a Z => ?_
  rcases wE ((decCas en).isSome) with hb2 | hb2
  ·obtain ⟨cc, hcc⟩ := xG.1 hb2
   refine ax Z Y de call20 O (fB hcc om) fun a w4 Z Y => nv Z <| wy O <| pq (aq O O) <| pq (aq O O) <| fun a Z => aB Z Y de (zeroValue55 _) (cs := [jv 0, jv 0, .string (⟨#[]⟩)]) O fun a w5 Z Y => ao 0 Z Y O O O (sizeOf55 _) O (lb O) (ds := [jv cc.n, jv cc.t, sv cc.ev]) O O fun a w6 Z Y => wla Z O fun a Z => G6 ?_
   refine aa fun _ G7 => nv (Z.p7 0 8 9 10 4 5 6 O) <| wy O <| pq ((v_eq O O).asb (b' := true) O) <| wy O <| wB (az O) <| wB (ac (v := pt w1.hz) O kr) <| wB (ld Y 1 O O (isAgg3 _) O) <| wB (am (Y.g 0 O) O (isAgg55 _) (sizeOf55 _)) <| fun a Z => el Z O O de O ?_
   refine wl_r (fj O O (hY.yield (pre := casesF ((itsM L).take k)) (x := (ix, cc)) (vO hkx hx hcc) hJ (Y.only (i := 2) O))) O O Z fun a v w7 hR Z => ?_
   obtain ⟨y3, e4, rfl, hx, hok, hft, hJt, hJf⟩ := hR
   replace Y := Y.exchange (k := 2) rfl hx hok hft
   replace Y := Y.n4 O
   clear hx hok hft
   refine nv Z <| wB (bB O) <| pq (ay O O) <| fun a Z => G7 ?_
   replace Z := Z.p5 0 8 9 10 29 O
   replace Y := Y.k2 12 O
   refine aA Z O (fun hc5 => ?_) (fun hc5 => ?_)
   ·try simp only [qz] at hc5
    have hJ := hJf hc5
    refine ar <| ap Z results125 ae ?_
    replace Y := Y.select [0, 1] de
    exact ⟨_, _, Y, .inr ⟨_, O, hJ⟩⟩
   try simp only [qz] at hc5
   have hJ := hJt hc5
   refine aw <| G4 <| aj <| nv Z <| pq (aP O O ⟨om, om⟩) <| wy O <| fun a Z => ab ?_
   refine ⟨_, ?_, k + 1, e4, O, om, (by rw [lE hkx hx hcc]; exact hJ), Z.pick [0, 8, 9, 10], Y.select [0, 1] de⟩
   omega
  have hcn : decCas en = none := by
   cases h : decCas en with
   | none => rfl
   | some z => rw [h] at hb2; cases hb2
  refine ax Z Y de call20 O (iO hcn om) fun a w8 Z Y => nv Z <| wy O <| pq (aq O O) <| pq (aq O O) <| fun a Z => aB Z Y de (zeroValue55 _) (cs := [jv 0, jv 0, .string (⟨#[]⟩)]) O fun a w9 Z Y => ao 0 Z Y O O O (sizeOf55 _) O (lb O) (ds := [jv Cas.z.n, jv Cas.z.t, sv Cas.z.ev]) O O fun a w10 Z Y => wla Z O fun a Z => G6 ?_
  refine aa fun _ G8 => nv (Z.p7 0 8 9 10 4 5 6 O) <| wy O <| pq ((v_eq O O).asb (b' := false) O) <| wy O <| wC <| wC <| wC <| wC <| wC <| wC <| pq (ai O O) <| fun a Z => G8 ?_
  replace Z := Z.p5 0 8 9 10 29 O
  replace Y := Y.k2 12 O
  refine aF Z O ?_
  refine aw <| G4 <| aj <| nv Z <| pq (aP O O ⟨om, om⟩) <| wy O <| fun a Z => ab ?_
  refine ⟨_, ?_, k + 1, e, O, om, (by rw [tT hkx hx hcn]; exact hJ), Z.pick [0, 8, 9, 10], Y.select [0, 1] de⟩
  omega
 try simp only [qz] at hc1
 have hke : (itsM L).take k = itsM L := by rw [xL (by rw [eq]; omega)]
 rw [hke] at hJ
 refine aO <| cK Z results125 ae ?_
 replace Y := Y.select [0, 1] de
 exact ⟨_, _, Y, .inl ⟨_, ⟨O, O⟩, hJ⟩⟩
theorem dg {M : Nat → Prop} {w0 : World} (hd : Hd) (iv : Value) (L : List Itw) (b1 : Nat) (hel : ∀ x ∈ L, x.m.e.length ≤ 1000) (hiv : ∀ (H : List Ent) (w : World), St M w0 H w → ItsAt w iv L) :
  Iter Tryz.prog 125 [pt b1] encK (NxK (casesF (itsM L))) (fun ys Hi => ys = casesF (itsM L) ∧ Hi = [blk b1 [jv hd.c, jv hd.n, sv hd.root, sv hd.tag, iv] 50]) (fun pre Hi => Hi = [blk b1 [jv hd.c, jv hd.n, sv hd.root, sv hd.tag, iv] 50]) M w0 [blk b1 [jv hd.c, jv hd.n, sv hd.root, sv hd.tag, iv] 50] :=
 fun lp J Jx w e hY hJ Y => rK hd iv L lp b1 J Jx hY e w hel hiv hJ Y
theorem sd (key : By) (hd : Hd) (iv : Value) (L : List Itw) (num : Int) (w0 : World) (hiv : ItsAt w0 iv L) (hpf : ∀ x ∈ L, x.m.pf.length ≤ 1000) (hchk : checkP sha key hd (itsM L) = true) (hk0 : (blk 0 (kOf.map wv) 258).ok w0) :
  Ret Tryz.prog 24 #[sv key, .agg #[jv hd.c, jv hd.n, sv hd.root, sv hd.tag, iv], jv num] w0 fun v w => v = .tuple #[.agg ((hasF num (itsM L)).getD Cas.z).cells.toArray, .bool (hasF num (itsM L)).isSome] ∧ Ext No w0 w := by
 have hok := iS hchk
 refine yH func24 O ntmps24 (lb O) fun a Z Y => ?_
 refine aa fun _ G1 => aS Z Y de O (cs := [jv hd.c, jv hd.n, sv hd.root, sv hd.tag, iv]) O fun a w1 Z Y => aS Z Y de O (cs := [jv num]) O fun a w2 Z Y => aB Z Y de (zeroValue55 _) (cs := [jv 0, jv 0, .string (⟨#[]⟩)]) O fun a w3 Z Y => aB Z Y de (zeroValue4 _) (cs := [.bool false]) O fun a w4 Z Y => G1 <| ah fun _ G2 => ?_
 refine aa fun _ G3 => nv Z <| wy O <| pq (am (Y.g 3 O) O (isAgg50 _) (sizeOf50 _)) <| fun a Z => ax Z Y de call52 O (cF hchk (ey key hd iv L _ (cq Y hiv) hpf (Y.keepb hk0))) fun a w5 Z Y => wlv Z ((bB O).asb (b' := false) O) fun a Z => G3 ?_
 replace Z := Z.p5 4 5 6 7 13 O
 refine aF Z O ?_
 refine aw <| G2 <| ah fun _ G4 => aa fun _ G5 => wlv Z (am (Y.g 3 O) O (isAgg50 _) (sizeOf50 _)) fun a Z => bC Z Y de call74 O (dM hd iv L _ (cq Y hiv)) fun a w6 x2 hp Z Y => ?_
 revert x2 hp Z Y; rintro z1 hp Z Y
 clear hp
 replace Y := Y.n5 O
 refine G5 <| au ?_
 replace Y := Y.s4 [3, 2, 1, 0] de rfl
 replace Z := Z.p7 4 5 6 7 13 15 16 O
 refine dy (M := No) (w0 := w0) (encs := encK) (Hi := [blk z1 [jv hd.c, jv hd.n, sv hd.root, sv hd.tag, iv] 50]) (Hc := [blk w1.hz [jv num] 3, blk w2.hz [jv 0, jv 0, .string (⟨#[]⟩)] 55, blk w3.hz [.bool false] 4]) (fun pre H => (∀ z ∈ pre, ¬ z.2.n = num) ∧ H = [blk w1.hz [jv num] 3, blk w2.hz [jv 0, jv 0, .string (⟨#[]⟩)] 55, blk w3.hz [.bool false] 4]) (fun c pre H => c = .ret ∧ ∃ (cc : Cas), (((casesF (itsM L)).find? fun p => decide (p.2.n = num)).map (·.2) = some cc) ∧ H = [blk w1.hz [jv num] 3, blk w2.hz [jv cc.n, jv cc.t, sv cc.ev] 55, blk w3.hz [.bool true] 4]) (fun pre xs H a => ∃ (bA0 : Nat), Fr 25 [(4, pt w0.hz), (5, pt w1.hz), (6, pt w2.hz), (7, pt w3.hz), (13, .bool false), (15, .agg #[jv hd.c, jv hd.n, sv hd.root, sv hd.tag, iv]), (16, .func (.func 125) #[] #[pt z1]), (9, pt bA0)] [] a ∧ (∀ z ∈ pre, ¬ z.2.n = num) ∧ H = [blk bA0 [jv xs.2.n, jv xs.2.t, sv xs.2.ev] 55, blk w1.hz [jv num] 3, blk w2.hz [jv 0, jv 0, .string (⟨#[]⟩)] 55, blk w3.hz [.bool false] 4]) O call125 Z Y (dg hd iv L z1 (fun x hx => (hok.2.2 x hx).2.2) (fun H w h => cq h hiv)) de (fun _ => O) ⟨sm, O⟩ ?_ ?_ ?_ ?_
 ·clear Z Y
  rintro lp pre xs _ a w7 hnx ⟨hno, rfl⟩ Z Y
  generalize (join [blk w1.hz [jv num] 3, blk w2.hz [jv 0, jv 0, .string (⟨#[]⟩)] 55, blk w3.hz [.bool false] 4]).foot = M1 at Y ⊢
  refine aj <| aB (Z.p9 18 17 4 5 6 7 13 15 16 O) Y de (zeroValue55 _) (cs := [jv 0, jv 0, .string (⟨#[]⟩)]) O fun a w8 Z Y => ao 0 Z Y O O O (sizeOf55 _) O (lb O) (ds := [jv xs.2.n, jv xs.2.t, sv xs.2.ev]) O O fun a w9 Z Y => ab ?_
  exact ⟨_, ⟨w7.hz, Z.pick [4, 5, 6, 7, 13, 15, 16, 9], hno, O⟩, Y⟩
 ·rintro lp pre xs _ a w10 hnx ⟨bA0, Z, hno, rfl⟩ hout hrec hnl Y
  clear hrec hnl
  generalize (join [blk bA0 [jv xs.2.n, jv xs.2.t, sv xs.2.ev] 55, blk w1.hz [jv num] 3, blk w2.hz [jv 0, jv 0, .string (⟨#[]⟩)] 55, blk w3.hz [.bool false] 4]).foot = M1 at Y hout ⊢
  refine au <| aa fun _ G6 => nv Z <| pq (ac (v := pt bA0) O kr) <| pq (ld Y 0 O O (isAgg3 _) O) <| pq (ld Y 1 O O (isAgg3 _) O) <| pq (v_eq O O) <| fun a Z => G6 ?_
  replace Z := Z.p4 6 7 9 22 O
  refine aA Z O (fun hc3 => ?_) (fun hc3 => ?_)
  ·try simp only [qz] at hc3
   refine aa fun _ G7 => wlv Z (am (Y.g 0 O) O (isAgg55 _) (sizeOf55 _)) fun a Z => ao 2 Z Y O O O (sizeOf55 _) O (lb O) (ds := [jv xs.2.n, jv xs.2.t, sv xs.2.ev]) O O fun a w11 Z Y => ao 3 Z Y O O O (sizeOf4 _) O (lb O) (ds := [.bool true]) O O fun a w12 Z Y => G7 <| ar ?_
   exact ⟨_, ⟨O, xs.2, sX hnx hno om, O⟩, Y.select [1, 2, 3] de⟩
  try simp only [qz] at hc3
  refine aw ?_
  exact ⟨_, ⟨ce hno om, O⟩, Y.select [1, 2, 3] de⟩
 ·rintro D pre _ _ a w13 ⟨rfl, rfl⟩ ⟨hno, rfl⟩ Y Z
  replace Z := Z.p7 4 5 6 7 13 15 16 O
  replace Y := Y.n5 O
  refine G4 <| aa fun _ G8 => wlv Z (aW (v := .agg #[jv 0, jv 0, sv ([] : By)]) O kr) fun a Z => ao 2 Z Y O O O (sizeOf55 _) O (lb O) (ds := [jv 0, jv 0, sv ([] : By)]) O O fun a w14 Z Y => ao 3 Z Y O O O (sizeOf4 _) O (lb O) (ds := [.bool false]) O O fun a w15 Z Y => G8 ?_
  replace Z := Z.p2 6 7 O
  replace Y := Y.k4 15 O
  refine ar ?_
  have hD := Y.g 0 rfl
  replace Y := Y.unmark (i := 0) (o' := .deferred none) O
  replace Y := Y.n3 O
  refine ch Z hD results24 (ak O (bf (Y.g 1 O) (isAgg55 _) (sizeOf55 _)) (ak O (aI (Y.g 2 O) (isAgg4 _)) ae)) ?_
  exact ⟨by simp only [retv]; rw [ft, uq hno]; rfl, Y.ext⟩
 ·rintro D _ pre _ _ a w16 rfl ⟨rfl, cc, hhit, rfl⟩ Y Z
  replace Z := Z.p7 4 5 6 7 13 15 16 O
  replace Y := Y.n5 O
  refine ar ?_
  have hD := Y.g 0 rfl
  replace Y := Y.unmark (i := 0) (o' := .deferred none) O
  replace Y := Y.n4 O
  refine ch Z hD results24 (ak O (bf (Y.g 1 O) (isAgg55 _) (sizeOf55 _)) (ak O (aI (Y.g 2 O) (isAgg4 _)) ae)) ?_
  exact ⟨by simp only [retv]; rw [ft, hhit]; rfl, Y.ext⟩
theorem nW (hd : Hd) (iv : Value) (L : List Itw) (num : Int) (w0 : World) (hiv : ItsAt w0 iv L) (hok : OkP hd.n L) :
  Ret Tryz.prog 58 #[.agg #[jv hd.c, jv hd.n, sv hd.root, sv hd.tag, iv], jv num] w0 fun v w => v = .bool (lackF hd.n num (-1) false (itsM L)) ∧ Ext No w0 w := by
 refine yF func58 O ntmps58 (lb O) fun a Z Y => ?_
 refine aa fun _ G1 => aS Z Y de O (cs := [jv hd.c, jv hd.n, sv hd.root, sv hd.tag, iv]) O fun a w1 Z Y => aS Z Y de O (cs := [jv num]) O fun a w2 Z Y => aB Z Y de (zeroValue4 _) (cs := [.bool false]) O fun a w3 Z Y => G1 <| aa fun _ G2 => ?_
 refine aB Z Y de (zeroValue3 _) (cs := [jv 0]) O fun a w4 Z Y => aB Z Y de (zeroValue4 _) (cs := [.bool false]) O fun a w5 Z Y => ao 1 Z Y O O O (sizeOf3 _) O (lb O) (ds := [jv (-1)]) O O fun a w6 Z Y => ao 0 Z Y O O O (sizeOf4 _) O (lb O) (ds := [.bool false]) O O fun a w7 Z Y => G2 <| ah fun _ G3 => ?_
 refine aa fun _ G4 => wlv Z (am (Y.g 4 O) O (isAgg50 _) (sizeOf50 _)) fun a Z => bC Z Y de call74 O (dM hd iv L _ (cq Y hiv)) fun a w8 x2 hp Z Y => ?_
 revert x2 hp Z Y; rintro z1 hp Z Y
 clear hp
 replace Y := Y.n6 O
 refine G4 <| au ?_
 replace Y := Y.s6 [5, 4, 3, 2, 1, 0] de rfl
 replace Z := Z.p9 0 1 2 3 4 5 6 10 11 O
 refine dy (M := No) (w0 := w0) (encs := encK) (Hi := [blk z1 [jv hd.c, jv hd.n, sv hd.root, sv hd.tag, iv] 50]) (Hc := [blk w0.hz [jv hd.c, jv hd.n, sv hd.root, sv hd.tag, iv] 50, blk w1.hz [jv num] 3, blk w2.hz [.bool false] 4, blk w3.hz [jv (-1)] 3, blk w4.hz [.bool false] 4]) (fun pre H => ∃ (la : Int), ∃ (fo : Bool), (LackI hd.n num (casesF (itsM L)) pre la fo) ∧ H = [blk w0.hz [jv hd.c, jv hd.n, sv hd.root, sv hd.tag, iv] 50, blk w1.hz [jv num] 3, blk w2.hz [.bool false] 4, blk w3.hz [jv la] 3, blk w4.hz [.bool fo] 4]) (fun c pre H => c = .ret ∧ ∃ (la : Int), ∃ (fo : Bool), (lackC hd.n num (-1) false (casesF (itsM L)) = true) ∧ H = [blk w0.hz [jv hd.c, jv hd.n, sv hd.root, sv hd.tag, iv] 50, blk w1.hz [jv num] 3, blk w2.hz [.bool true] 4, blk w3.hz [jv la] 3, blk w4.hz [.bool fo] 4]) (fun pre xs H a => ∃ (bA0 : Nat), Fr 52 [(0, .agg #[jv hd.c, jv hd.n, sv hd.root, sv hd.tag, iv]), (1, jv num), (2, pt w0.hz), (3, pt w1.hz), (4, pt w2.hz), (5, pt w3.hz), (6, pt w4.hz), (10, .agg #[jv hd.c, jv hd.n, sv hd.root, sv hd.tag, iv]), (11, .func (.func 125) #[] #[pt z1]), (7, jv xs.1), (8, pt bA0)] [] a ∧ ∃ (la : Int), ∃ (fo : Bool), (LackI hd.n num (casesF (itsM L)) pre la fo) ∧ H = [blk bA0 [jv xs.2.n, jv xs.2.t, sv xs.2.ev] 55, blk w0.hz [jv hd.c, jv hd.n, sv hd.root, sv hd.tag, iv] 50, blk w1.hz [jv num] 3, blk w2.hz [.bool false] 4, blk w3.hz [jv la] 3, blk w4.hz [.bool fo] 4]) O call125 Z Y (dg hd iv L z1 (fun x hx => (hok.2.2 x hx).2.2) (fun H w h => cq h hiv)) de (fun _ => O) ⟨-1, false, uM, O⟩ ?_ ?_ ?_ ?_
 ·clear Z Y
  rintro lp pre xs _ a w9 hnx ⟨la, fo, hla, rfl⟩ Z Y
  generalize (join [blk w0.hz [jv hd.c, jv hd.n, sv hd.root, sv hd.tag, iv] 50, blk w1.hz [jv num] 3, blk w2.hz [.bool false] 4, blk w3.hz [jv la] 3, blk w4.hz [.bool fo] 4]).foot = M1 at Y ⊢
  refine aa fun _ G5 => wla (Z.p11 13 12 0 1 2 3 4 5 6 10 11 O) O fun a Z => G5 <| aj ?_
  refine aB Z Y de (zeroValue55 _) (cs := [jv 0, jv 0, .string (⟨#[]⟩)]) O fun a w10 Z Y => ao 0 Z Y O O O (sizeOf55 _) O (lb O) (ds := [jv xs.2.n, jv xs.2.t, sv xs.2.ev]) O O fun a w11 Z Y => ab ?_
  exact ⟨_, ⟨w9.hz, Z.pick [0, 1, 2, 3, 4, 5, 6, 10, 11, 7, 8], la, fo, hla, O⟩, Y⟩
 ·rintro lp pre xs _ a w12 hnx ⟨bA0, Z, la, fo, hla, rfl⟩ hout hrec hnl Y
  clear hrec hnl
  generalize (join [blk bA0 [jv xs.2.n, jv xs.2.t, sv xs.2.ev] 55, blk w0.hz [jv hd.c, jv hd.n, sv hd.root, sv hd.tag, iv] 50, blk w1.hz [jv num] 3, blk w2.hz [.bool false] 4, blk w3.hz [jv la] 3, blk w4.hz [.bool fo] 4]).foot = M1 at Y hout ⊢
  refine au ?_
  have hxb := we hok (eu hnx)
  have hok1 := hok.1
  have hok2 := hok.2.1
  refine aa fun _ G6 => nv Z <| pq (ac (v := pt bA0) O kr) <| pq (ld Y 0 O O (isAgg3 _) O) <| pq (ld Y 2 O O (isAgg3 _) O) <| pq (v_lt O O) <| wA O <| fun a Z => G6 ?_
  refine ah fun _ G7 => aa fun _ G8 => nv (Z.p8 2 3 4 5 6 7 8 9 O) <| wy O <| wy O <| fun a Z => ?_
  rcases wE (decide (xs.2.n < num)) with hb3 | hb3
  ·rw [hb3] at Z
   try simp only [qz] at hb3
   refine nv Z <| wB (az O) <| wB (ac (v := pt w0.hz) O kr) <| wB (ac (v := po w0.hz 1) O kr) <| wB (ld Y 1 O O (isAgg3 _) O) <| wB (bG O O ⟨om, om⟩) <| wB (v_eq O O) <| pq (ay O O) <| wy O <| fun a Z => ?_
   rcases wE (decide (xs.1 = hd.n - 1)) with hb4 | hb4
   ·rw [hb4] at Z
    try simp only [qz] at hb4
    refine nv Z <| wC <| wC <| wC <| wC <| wC <| fun a Z => bT Z de O de O fun a Z => bT Z de O de O fun a Z => bT Z de O de O fun a Z => bT Z de O de O fun a Z => bT Z de O de O fun a Z => bT Z de O de O fun a Z => bT Z de O de O fun a Z => bT Z de O de O fun a Z => bT Z de O de O fun a Z => bT Z de O de O fun a Z => bT Z de O de O fun a Z => nv Z <| wC <| pq (ay O O) <| fun a Z => G8 ?_
    replace Z := Z.p6 4 5 6 7 9 45 O
    replace Y := Y.k5 62 O
    refine aH Z O ?_
    refine aa fun _ G9 => ao 2 Z Y O O O (sizeOf4 _) O (lb O) (ds := [.bool true]) O O fun a w13 Z Y => G9 <| ar ?_
    exact ⟨_, ⟨O, la, fo, fW hla hnx y6, O⟩, Y.select [0, 1, 2, 3, 4] de⟩
   rw [hb4] at Z
   try simp only [qz] at hb4
   refine nv Z <| wB (ac (v := pt bA0) O kr) <| wB (ld Y 0 O O (isAgg3 _) O) <| wB (ld Y 2 O O (isAgg3 _) O) <| wB (v_gt O O) <| wB (az O) <| fun a Z => ?_
   rcases wE (decide (num < xs.2.n)) with hb5 | hb5
   ·rw [hb5] at Z
    try simp only [qz] at hb5
    refine nv Z <| wB (az O) <| wB (v_eq O O) <| wB (az O) <| fun a Z => ?_
    rcases wE (decide (xs.1 = 0)) with hb6 | hb6
    ·rw [hb6] at Z
     try simp only [qz] at hb6
     refine nv Z <| wC <| wC <| fun a Z => bT Z de O de O fun a Z => bT Z de O de O fun a Z => bT Z de O de O fun a Z => bT Z de O de O fun a Z => nv Z <| wC <| wB (ay O O) <| wB (ay O O) <| pq (ai O O) <| fun a Z => G8 ?_
     replace Z := Z.p6 4 5 6 7 9 45 O
     replace Y := Y.k5 62 O
     refine aH Z O ?_
     refine aa fun _ G10 => ao 2 Z Y O O O (sizeOf4 _) O (lb O) (ds := [.bool true]) O O fun a w14 Z Y => G10 <| ar ?_
     exact ⟨_, ⟨O, la, fo, fW hla hnx y6, O⟩, Y.select [0, 1, 2, 3, 4] de⟩
    rw [hb6] at Z
    try simp only [qz] at hb6
    refine nv Z <| wB (ld Y 5 O O (isAgg4 _) O) <| wB (az O) <| fun a Z => ?_
    rcases wE (fo) with hb7 | hb7
    ·rw [hb7] at Z
     have hfo := hb7
     refine nv Z <| wB (ld Y 4 O O (isAgg3 _) O) <| wB (az O) <| wB (bG O O ⟨om, om⟩) <| wB (v_eq O O) <| wB (ay O O) <| wB (ai O O) <| wB (ay O O) <| pq (ai O O) <| fun a Z => G8 ?_
     replace Z := Z.p6 4 5 6 7 9 45 O
     replace Y := Y.k5 62 O
     refine aA Z O (fun hc8 => ?_) (fun hc8 => ?_)
     ·try simp only [qz] at hc8
      refine aa fun _ G11 => ao 2 Z Y O O O (sizeOf4 _) O (lb O) (ds := [.bool true]) O O fun a w15 Z Y => G11 <| ar ?_
      exact ⟨_, ⟨O, la, fo, fW hla hnx y6, O⟩, Y.select [0, 1, 2, 3, 4] de⟩
     try simp only [qz] at hc8
     refine aw <| G7 <| aj <| nv Z <| wy O <| wy O <| fun a Z => ao 3 Z Y O O O (sizeOf3 _) O (lb O) (ds := [jv xs.1]) O O fun a w16 Z Y => ao 4 Z Y O O O (sizeOf4 _) O (lb O) (ds := [.bool true]) O O fun a w17 Z Y => ab ?_
     exact ⟨_, ⟨xs.1, true, f8 hla yZ (wQ om), O⟩, Y.select [0, 1, 2, 3, 4] de⟩
    rw [hb7] at Z
    have hfo := hb7
    refine nv Z <| wC <| wC <| wC <| wC <| wB (ai O O) <| wB (ai O O) <| wB (ay O O) <| pq (ai O O) <| fun a Z => G8 ?_
    replace Z := Z.p6 4 5 6 7 9 45 O
    replace Y := Y.k5 62 O
    refine aF Z O ?_
    refine aw <| G7 <| aj <| nv Z <| wy O <| wy O <| fun a Z => ao 3 Z Y O O O (sizeOf3 _) O (lb O) (ds := [jv xs.1]) O O fun a w18 Z Y => ao 4 Z Y O O O (sizeOf4 _) O (lb O) (ds := [.bool true]) O O fun a w19 Z Y => ab ?_
    exact ⟨_, ⟨xs.1, true, f8 hla yZ (wQ om), O⟩, Y.select [0, 1, 2, 3, 4] de⟩
   rw [hb5] at Z
   try simp only [qz] at hb5
   refine nv Z <| wC <| wC <| wC <| fun a Z => bT Z de O de O fun a Z => bT Z de O de O fun a Z => bT Z de O de O fun a Z => bT Z de O de O fun a Z => bT Z de O de O fun a Z => bT Z de O de O fun a Z => bT Z de O de O fun a Z => nv Z <| wC <| wB (ai O O) <| pq (ai O O) <| fun a Z => G8 ?_
   replace Z := Z.p6 4 5 6 7 9 45 O
   replace Y := Y.k5 62 O
   refine aF Z O ?_
   refine aw <| G7 <| aj <| nv Z <| wy O <| wy O <| fun a Z => ao 3 Z Y O O O (sizeOf3 _) O (lb O) (ds := [jv xs.1]) O O fun a w20 Z Y => ao 4 Z Y O O O (sizeOf4 _) O (lb O) (ds := [.bool true]) O O fun a w21 Z Y => ab ?_
   exact ⟨_, ⟨xs.1, true, f8 hla yZ (wQ om), O⟩, Y.select [0, 1, 2, 3, 4] de⟩
  rw [hb3] at Z
  try simp only [qz] at hb3
  refine nv Z <| wC <| wC <| wC <| wC <| wC <| wC <| pq (ai O O) <| wy O <| wB (ac (v := pt bA0) O kr) <| wB (ld Y 0 O O (isAgg3 _) O) <| wB (ld Y 2 O O (isAgg3 _) O) <| wB (v_gt O O) <| wB (az O) <| fun a Z => ?_
  rcases wE (decide (num < xs.2.n)) with hb9 | hb9
  ·rw [hb9] at Z
   try simp only [qz] at hb9
   refine nv Z <| wB (az O) <| wB (v_eq O O) <| wB (az O) <| fun a Z => ?_
   rcases wE (decide (xs.1 = 0)) with hb10 | hb10
   ·rw [hb10] at Z
    try simp only [qz] at hb10
    refine nv Z <| wC <| wC <| fun a Z => bT Z de O de O fun a Z => bT Z de O de O fun a Z => bT Z de O de O fun a Z => bT Z de O de O fun a Z => nv Z <| wC <| wB (ay O O) <| wB (ay O O) <| pq (ai O O) <| fun a Z => G8 ?_
    replace Z := Z.p6 4 5 6 7 9 45 O
    replace Y := Y.k5 62 O
    refine aH Z O ?_
    refine aa fun _ G12 => ao 2 Z Y O O O (sizeOf4 _) O (lb O) (ds := [.bool true]) O O fun a w22 Z Y => G12 <| ar ?_
    exact ⟨_, ⟨O, la, fo, fW hla hnx y6, O⟩, Y.select [0, 1, 2, 3, 4] de⟩
   rw [hb10] at Z
   try simp only [qz] at hb10
   refine nv Z <| wB (ld Y 5 O O (isAgg4 _) O) <| wB (az O) <| fun a Z => ?_
   rcases wE (fo) with hb11 | hb11
   ·rw [hb11] at Z
    have hfo := hb11
    refine nv Z <| wB (ld Y 4 O O (isAgg3 _) O) <| wB (az O) <| wB (bG O O ⟨om, om⟩) <| wB (v_eq O O) <| wB (ay O O) <| wB (ai O O) <| wB (ay O O) <| pq (ai O O) <| fun a Z => G8 ?_
    replace Z := Z.p6 4 5 6 7 9 45 O
    replace Y := Y.k5 62 O
    refine aA Z O (fun hc12 => ?_) (fun hc12 => ?_)
    ·try simp only [qz] at hc12
     refine aa fun _ G13 => ao 2 Z Y O O O (sizeOf4 _) O (lb O) (ds := [.bool true]) O O fun a w23 Z Y => G13 <| ar ?_
     exact ⟨_, ⟨O, la, fo, fW hla hnx y6, O⟩, Y.select [0, 1, 2, 3, 4] de⟩
    try simp only [qz] at hc12
    refine aw <| G7 <| aj <| nv Z <| wy O <| wy O <| fun a Z => ao 3 Z Y O O O (sizeOf3 _) O (lb O) (ds := [jv xs.1]) O O fun a w24 Z Y => ao 4 Z Y O O O (sizeOf4 _) O (lb O) (ds := [.bool false]) O O fun a w25 Z Y => ab ?_
    exact ⟨_, ⟨xs.1, false, f8 hla yZ (wU om), O⟩, Y.select [0, 1, 2, 3, 4] de⟩
   rw [hb11] at Z
   have hfo := hb11
   refine nv Z <| wC <| wC <| wC <| wC <| wB (ai O O) <| wB (ai O O) <| wB (ay O O) <| pq (ai O O) <| fun a Z => G8 ?_
   replace Z := Z.p6 4 5 6 7 9 45 O
   replace Y := Y.k5 62 O
   refine aF Z O ?_
   refine aw <| G7 <| aj <| nv Z <| wy O <| wy O <| fun a Z => ao 3 Z Y O O O (sizeOf3 _) O (lb O) (ds := [jv xs.1]) O O fun a w26 Z Y => ao 4 Z Y O O O (sizeOf4 _) O (lb O) (ds := [.bool false]) O O fun a w27 Z Y => ab ?_
   exact ⟨_, ⟨xs.1, false, f8 hla yZ (wU om), O⟩, Y.select [0, 1, 2, 3, 4] de⟩
  rw [hb9] at Z
  try simp only [qz] at hb9
  refine nv Z <| wC <| wC <| wC <| fun a Z => bT Z de O de O fun a Z => bT Z de O de O fun a Z => bT Z de O de O fun a Z => bT Z de O de O fun a Z => bT Z de O de O fun a Z => bT Z de O de O fun a Z => bT Z de O de O fun a Z => nv Z <| wC <| wB (ai O O) <| pq (ai O O) <| fun a Z => G8 ?_
  replace Z := Z.p6 4 5 6 7 9 45 O
  replace Y := Y.k5 62 O
  refine aF Z O ?_
  refine aw <| G7 <| aj <| nv Z <| wy O <| wy O <| fun a Z => ao 3 Z Y O O O (sizeOf3 _) O (lb O) (ds := [jv xs.1]) O O fun a w28 Z Y => ao 4 Z Y O O O (sizeOf4 _) O (lb O) (ds := [.bool false]) O O fun a w29 Z Y => ab ?_
  exact ⟨_, ⟨xs.1, false, f8 hla yZ (wU om), O⟩, Y.select [0, 1, 2, 3, 4] de⟩
 ·rintro D pre _ _ a w30 ⟨rfl, rfl⟩ ⟨la, fo, hla, rfl⟩ Y Z
  replace Z := Z.p9 0 1 2 3 4 5 6 10 11 O
  replace Y := Y.n7 O
  refine G3 <| aa fun _ G14 => nv Z <| pq (ac (v := pt w0.hz) O kr) <| pq (ac (v := po w0.hz 1) O kr) <| pq (ld Y 1 O O (isAgg3 _) O) <| pq (v_eq O O) <| fun a Z => ao 3 Z Y O O O (sizeOf4 _) O (lb O) (ds := [.bool (decide (hd.n = 0))]) O O fun a w31 Z Y => G14 ?_
  replace Z := Z.p1 4 O
  replace Y := Y.k6 63 O
  refine ar ?_
  have hD := Y.g 0 rfl
  replace Y := Y.unmark (i := 0) (o' := .deferred none) O
  replace Y := Y.n5 O
  refine ch Z hD results58 (ak O (aI (Y.g 2 O) (isAgg4 _)) ae) ?_
  exact ⟨by simp only [retv]; rw [eJ, rI hla]; try rfl, Y.ext⟩
 ·rintro D _ pre _ _ a w32 rfl ⟨rfl, la, fo, hhit, rfl⟩ Y Z
  replace Z := Z.p9 0 1 2 3 4 5 6 10 11 O
  replace Y := Y.n7 O
  refine ar ?_
  have hD := Y.g 0 rfl
  replace Y := Y.unmark (i := 0) (o' := .deferred none) O
  replace Y := Y.n6 O
  refine ch Z hD results58 (ak O (aI (Y.g 2 O) (isAgg4 _)) ae) ?_
  exact ⟨by simp only [retv]; rw [eJ, hhit]; try rfl, Y.ext⟩
theorem gN (key : By) (hd : Hd) (iv : Value) (L : List Itw) (num : Int) (w0 : World) (hiv : ItsAt w0 iv L) (hpf : ∀ x ∈ L, x.m.pf.length ≤ 1000) (hchk : checkP sha key hd (itsM L) = true) (hnum : 0 ≤ num ∧ num ≤ 99999999) (hk0 : (blk 0 (kOf.map wv) 258).ok w0) :
  Ret Tryz.prog 25 #[sv key, .agg #[jv hd.c, jv hd.n, sv hd.root, sv hd.tag, iv], jv num] w0 fun v w => v = .bool (lackF hd.n num (-1) false (itsM L)) ∧ Ext No w0 w := by
 have hok := iS hchk
 refine yH func25 O ntmps25 (lb O) fun a Z Y => ?_
 refine aa fun _ G1 => aS Z Y de O (cs := [jv hd.c, jv hd.n, sv hd.root, sv hd.tag, iv]) O fun a w1 Z Y => wla Z O fun a Z => G1 <| aa fun _ G2 => ?_
 refine nv Z <| wy O <| pq (am (Y.g 0 O) O (isAgg50 _) (sizeOf50 _)) <| fun a Z => ax Z Y de call52 O (cF hchk (ey key hd iv L _ (cq Y hiv) hpf (Y.keepb hk0))) fun a w2 Z Y => nv Z <| wy O <| wB (az O) <| fun a Z => aG Z Y de O de O call49 O (cF (show inB num 0 99999999 = true from by simp only [inB, wF, wJ]; omega) (cX num 0 99999999 _)) fun a w3 Z Y => nv Z <| pq (ay O O) <| wy O <| wB (am (Y.g 0 O) O (isAgg50 _) (sizeOf50 _)) <| wB (az O) <| fun a Z => aG Z Y de O de O call58 O (nW hd iv L num _ (cq Y hiv) hok) fun a w4 Z Y => nv Z <| pq (ay O O) <| wA O <| fun a Z => G2 ?_
 replace Z := Z.p1 6 O
 replace Y := Y.k0 0 O
 refine ar <| ap Z results25 (ag O ae) ?_
 exact ⟨by rfl, Y.ext⟩
end Go.Proofs.YtliklcmddmpdfaaGreatDoor
