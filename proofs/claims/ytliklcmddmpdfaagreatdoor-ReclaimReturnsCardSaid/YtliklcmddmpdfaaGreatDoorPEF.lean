/- Texts joined: WshM, WshN, WshO, WshS, RefI, LgA, WshV, RefV, RefJ, RefK, RclA, RclB. -/
import Derived.Test.YtliklcmddmpdfaaGreatDoorPEE
import Derived.Test.YtliklcmddmpdfaaGreatDoorPEB
import Derived.Test.YtliklcmddmpdfaaGreatDoorPED
import Derived.Test.YtliklcmddmpdfaaGreatDoorPEA
set_option linter.unusedVariables false
set_option linter.unusedSimpArgs false
set_option maxRecDepth 4000
set_option maxHeartbeats 4000000
namespace Go.Proofs.YtliklcmddmpdfaaGreatDoor
open Go.RowKit Go.PW _root_.Go.Proofs.Tryz
theorem oh {x : Wsh} {lv : Value} {ps : List Pxy} {w0 : World} (hlv : SlAt w0 lv 7 (ps.map Pxy.cells)) : Ret Tryz.prog 90 #[.agg #[jv x.signer, jv x.holder, jv x.rf, jv x.rt, jv x.carrier, jv x.serial, jv x.sf, jv x.st, sv x.sig], lv] w0 fun v w => v = .bool (bU x ps) ∧ Ext No w0 w := by
 have := sn x lv ps w0 hlv
 rwa [qe] at this
theorem iR : ∀ {l : List Pxy}, (∀ p ∈ l, p.sig.length = 32) → (l.flatMap Pxy.text).length ≤ 1000 * l.length
 | [], h => by simp
 | p :: l, h => by
  have h1 := h p sm
  have h2 := iR (l := l) (fun q hq => h q AO)
  have h3 : p.content.length ≤ 9 * 7 := dQ _
  rw [yC, xQ, Pxy.text, xQ, xZ]
  omega
theorem gM {x : Wsh} {ps : List Pxy} (h : bU x ps = true) : ps.length ≤ 4 := by
 simp only [bU, xP, xT] at h; exact h.1.2
theorem kF {x : Wsh} {ps : List Pxy} (h : bU x ps = true) : x.ok = true := by
 simp only [bU, xP, xT] at h; exact h.1.1
theorem kl {x : Wsh} {ps : List Pxy} (h : bU x ps = true) : ∀ p ∈ ps, p.ok = true := by
 simp only [bU, xP, xT, Option.isNone_iff_eq_none] at h; exact dV h.2
theorem vv {ps : List Pxy} (h : (ps.any fun p => !decide ((p.sig.length : Int) = 32)) = false) : ∀ p ∈ ps, p.sig.length = 32 := by
 intro p hp
 have := y7.1 h p hp
 simp only [yH, zG, yq, Classical.not_not] at this
 omega
theorem rQ {ps : List Pxy} (h : (ps.any fun p => !decide ((p.sig.length : Int) = 32)) = true) : ¬ ∀ p ∈ ps, p.sig.length = 32 := by
 intro hh
 obtain ⟨p, hp, h⟩ := yI.1 h
 simp [hh p hp] at h
theorem gl {x : Wsh} {ps : List Pxy} (h : bU x ps = false ∨ ¬ (x.sig.length : Int) = 32 ∨ (ps.any fun p => !decide ((p.sig.length : Int) = 32)) = true) : cI x ps = none := by
 cases he : cI x ps with
 | none => rfl
 | some s =>
  obtain ⟨h1, h2, h3, _⟩ := dq.1 he
  rcases h with h | h | h
  ·rw [h1] at h; cases h
  ·omega
  ·exact absurd h3 (rQ h)
def encX (ps : List Pxy) (k : Nat) : By := puts [(ps.length : Int)] ++ (ps.take k).flatMap Pxy.text
theorem lS {ps : List Pxy} {k : Nat} (h : k < ps.length) : encX ps (k + 1) = encX ps k ++ (ps.getD k Pxy.z).content ++ (ps.getD k Pxy.z).sig := by
 unfold encX
 rw [cz Pxy.z h, List.flatMap_append]
 simp [Pxy.text, yF]
theorem iM {ps : List Pxy} {k : Nat} (h4 : ps.length ≤ 4) (h : ∀ p ∈ ps, p.sig.length = 32) : (encX ps k).length ≤ 10000 := by
 unfold encX
 have h1 := dQ [(ps.length : Int)]
 have h2 := iR (l := ps.take k) (fun p hp => h p (y6 hp))
 rw [xQ]
 rw [xV] at h2
 simp only [xZ, ya] at h1
 omega
theorem t1 {x : Wsh} {ps : List Pxy} : encX ps ps.length ++ x.content ++ x.sig = putI (ps.length : Int) ++ (ps.flatMap Pxy.text ++ x.text) := by
 unfold encX Wsh.text; simp [puts, yF]
theorem qQ {x : Wsh} {ps : List Pxy} (h1 : bU x ps = true) (h2 : x.sig.length = 32) (h3 : ∀ p ∈ ps, p.sig.length = 32) : cI x ps = some (encX ps ps.length ++ x.content ++ x.sig) :=
 dq.2 ⟨h1, h2, h3, t1⟩
theorem ve {ps : List Pxy} {k : Nat} {a b : By} : encX ps k ++ a ++ b ≠ [] := by
 intro h
 unfold encX at h
 simp only [List.append_eq_nil_iff] at h
 exact iB h.1.1.1
theorem fA (x : Pxy) : x.content.length ≤ 63 := dQ _
theorem eg (x : Wsh) : x.content.length ≤ 81 := dQ _
theorem rx (x : Wsh) (lv : Value) (ps : List Pxy) (w0 : World) (hlv : SlAt w0 lv 7 (ps.map Pxy.cells)) :
  Ret Tryz.prog 35 #[.agg #[jv x.signer, jv x.holder, jv x.rf, jv x.rt, jv x.carrier, jv x.serial, jv x.sf, jv x.st, sv x.sig], lv] w0 fun v w => v = (match cI x ps with | some s => .tuple #[sv s, jv 0] | none => .tuple #[sv [], jv 150]) ∧ Ext No w0 w := by
 have hxb := hlv.2.1
 simp only [xO, big] at hxb
 refine zM func35 O ntmps35 (lb O) fun a Z Y => ?_
 refine aa fun _ G1 => aS Z Y O [jv x.signer, jv x.holder, jv x.rf, jv x.rt, jv x.carrier, jv x.serial, jv x.sf, jv x.st, sv x.sig] O fun a w1 Z Y => nv Z <| xL O <| xL O <| fun a Z => G1 <| aa fun _ G2 => ?_
 refine wla Z O fun a Z => G2 <| ah fun _ G3 => ?_
 refine aa fun _ G4 => nv Z <| xJ (ao (Y.g 0 O) O (isAgg90 _) (sizeOf90 _)) <| xK O <| fun a Z => aw Z Y call90 O (oh (Y.arg hlv)) fun a w2 Z Y => nv Z <| xJ (bE O) <| xK O <| fun a Z => ?_
 rcases xU (!(bU x ps)) with hb1 | hb1
 ·rw [hb1] at Z
  try simp only [qz] at hb1
  refine nv Z <| xN <| xN <| xN <| xN <| xJ (ax O O) <| xK O <| xN <| xN <| xN <| xJ (ax O O) <| fun a Z => G4 ?_
  replace Z := Z.p5 1 2 4 5 24 O
  refine aK Z O ?_
  refine aa fun _ G5 => nv Z <| xL O <| xL O <| fun a Z => G5 <| ap ?_
  refine am Z results35 (ag O (ag O ae)) ?_
  exact ⟨by simp only [retv]; rw [gl (.inl hb1)]; rfl, Y.ext⟩
 rw [hb1] at Z
 try simp only [qz] at hb1
 refine nv Z <| xM (ac (v := pw2 w0.hz 8) O kr) <| xM (ld Y 0 O O (isAgg9 _) O) <| xM (br O O (runUnderlying9 _)) <| xM (v_ne O O) <| xJ (ak O O) <| xK O <| fun a Z => ?_
 rcases (Decidable.em ((x.sig.length : Int) = 32)).symm with hb2 | hb2
 ·rw [xW hb2] at Z
  refine nv Z <| xN <| xN <| xN <| xJ (ax O O) <| fun a Z => G4 ?_
  replace Z := Z.p5 1 2 4 5 24 O
  refine aK Z O ?_
  refine aa fun _ G6 => nv Z <| xL O <| xL O <| fun a Z => G6 <| ap ?_
  refine am Z results35 (ag O (ag O ae)) ?_
  exact ⟨by simp only [retv]; rw [gl (.inr (.inl hb2))]; rfl, Y.ext⟩
 rw [xS hb2] at Z
 refine nv Z <| xM (ay O) <| xM (ay O) <| fun a Z => aF Z Y call91 O (wi (fun p => !decide ((p.sig.length : Int) = 32)) _ call89 (Y.arg hlv) (fun x w _ => vU x w)) fun a w3 Z Y => wlv Z (ak O O) fun a Z => G4 ?_
 replace Z := Z.p5 1 2 4 5 24 O
 refine bt Z O (fun hc3 => ?_) (fun hc3 => ?_)
 ·try simp only [qz] at hc3
  refine aa fun _ G7 => nv Z <| xL O <| xL O <| fun a Z => G7 <| ap ?_
  refine am Z results35 (ag O (ag O ae)) ?_
  exact ⟨by simp only [retv]; rw [gl (.inr (.inr hc3))]; rfl, Y.ext⟩
 try simp only [qz] at hc3
 refine au <| G3 ?_
 have hfo := hb1
 have hsx : x.sig.length = 32 := by omega
 have hop := vv hc3
 have h4 := gM hfo
 have hxo := kF hfo
 refine aa fun _ G8 => aD Z Y (zeroValue162 _) [.pointer none, .slice none 0 0] O fun a w4 Z Y => G8 ?_
 replace Y : St No w0 (own (.slice none 0 0) 5 1 [] :: [blk w3.hz [.pointer none, .slice none 0 0] 162, blk w0.hz [jv x.signer, jv x.holder, jv x.rf, jv x.rt, jv x.carrier, jv x.serial, jv x.sf, jv x.st, sv x.sig] 90]) w4 := Y.nil_own
 replace Y := Y.s3 [1, 0, 2] de rfl
 replace Y : St No w0 [bld 162 w3.hz (.pointer none) (.slice none 0 0) ([] : By), blk w0.hz [jv x.signer, jv x.holder, jv x.rf, jv x.rt, jv x.carrier, jv x.serial, jv x.sf, jv x.st, sv x.sig] 90] w4 := St.join [blk w3.hz [.pointer none, .slice none 0 0] 162, own (.slice none 0 0) 5 1 ([])] [blk w0.hz [jv x.signer, jv x.holder, jv x.rf, jv x.rt, jv x.carrier, jv x.serial, jv x.sf, jv x.st, sv x.sig] 90] Y
 refine aa fun _ G9 => nv Z <| xK O <| xJ ((aI (sT := 91) (Y.arg hlv) O O (runUnderlying91 _)).asi (m' := (ps.length : Int)) Ai) <| fun a Z => aE (E := 3) (sz := 1) O [[jv (ps.length : Int)]] kr sm O de de Z Y fun a w5 Z Y => ?_
 replace Y := Y.s3 [1, 0, 2] de rfl
 replace Y := St.join [bld 162 w3.hz (.pointer none) (.slice none 0 0) ([] : By), own (.slice (some ⟨w4.hz, 0, none⟩) 1 1) 3 1 ([[jv (ps.length : Int)]])] [blk w0.hz [jv x.signer, jv x.holder, jv x.rf, jv x.rt, jv x.carrier, jv x.serial, jv x.sf, jv x.st, sv x.sig] 90] Y
 refine aZ (R := fun u e' => u = .tuple #[] ∧ ∃ v2, e' = bld 162 w3.hz (pq w3.hz) v2 (puts [(ps.length : Int)])) 0 Z Y O de call92 O (fun h => (gX 162 w3.hz _ _ _ [] [(ps.length : Int)] _ kr (.inl O) (fun z hz => by rw [yo.1 hz]; unfold small; omega) sm sm (St.unjoin [bld 162 w3.hz (.pointer none) (.slice none 0 0) ([] : By), own (.slice (some ⟨w4.hz, 0, none⟩) 1 1) 3 1 ([[jv (ps.length : Int)]])] [] h)).mono fun u w ⟨h1, v2, h2⟩ => ⟨_, ⟨h1, v2, O⟩, h2⟩) ?_
 clear Z Y
 rintro a w6 _ _ ⟨rfl, v4, rfl⟩ Z Y
 replace Y : St No w0 [bld 162 w3.hz (pq w3.hz) v4 (encX ps 0), blk w0.hz [jv x.signer, jv x.holder, jv x.rf, jv x.rt, jv x.carrier, jv x.serial, jv x.sf, jv x.st, sv x.sig] 90] w6 := by rw [show encX ps 0 = puts [(ps.length : Int)] from by unfold encX; simp]; exact Y
 refine G9 <| ah fun _ G10 => ?_
 refine aa fun _ G11 => nv Z <| xK O <| xJ ((aI (sT := 91) (Y.arg hlv) O O (runUnderlying91 _)).asi (m' := (ps.length : Int)) Ai) <| xK O <| fun a Z => G11 ?_
 replace Z := Z.p7 2 4 5 7 29 30 31 O
 refine ar <| aW (fun m a w => ∃ (k : Nat) (v : Value), m = ps.length - k ∧ (k ≤ ps.length) ∧ Fr 50 [(2, pq w0.hz), (4, sv ([])), (5, jv 0), (7, pq w3.hz), (29, lv), (30, jv (ps.length : Int)), (31, jv (k : Int))] [] a ∧ St No w0 [bld 162 w3.hz (pq w3.hz) v (encX ps k), blk w0.hz [jv x.signer, jv x.holder, jv x.rf, jv x.rt, jv x.carrier, jv x.serial, jv x.sf, jv x.st, sv x.sig] 90] w) _ ⟨0, v4, O, ym _, Z.pick [2, 4, 5, 7, 29, 30, 31], Y.select [0, 1] de⟩ ?_
 rintro _ a w7 ⟨k, v, rfl, hk, Z, Y⟩
 refine aa fun _ G12 => wlv Z (v_lt O O) fun a Z => G12 <| ah fun _ G13 => ?_
 refine aA Z O (fun hc5 => ?_) (fun hc5 => ?_)
 ·have hkx : k < ps.length := by omega
  have hpk := kl hfo _ (bc (d := Pxy.z) hkx)
  have hsk := hop _ (bc (d := Pxy.z) hkx)
  refine au <| G13 <| ah fun _ G14 => ar <| aa fun _ G15 => nv Z <| xJ ((aj (i := (k : Int)) (sT := 91) (Y.arg hlv) O O (runUnderlying91 _) (sizeOf144 _) om zY).as (v' := slAddr lv (k * 7)) O) <| xJ ((bP (Y.arg hlv) (i := k) zY O (isAgg144 _) (sizeOf144 _)).as (v' := .agg #[jv ((ps.getD k Pxy.z).frm), jv ((ps.getD k Pxy.z).to), jv ((ps.getD k Pxy.z).rf), jv ((ps.getD k Pxy.z).rt), jv ((ps.getD k Pxy.z).sf), jv ((ps.getD k Pxy.z).st), sv ((ps.getD k Pxy.z).sig)]) AF) <| fun a Z => aD Z Y (zeroValue144 _) [jv 0, jv 0, jv 0, jv 0, jv 0, jv 0, .string (⟨#[]⟩)] O fun a w8 Z Y => ?_
  refine az 0 Z Y [jv ((ps.getD k Pxy.z).frm), jv ((ps.getD k Pxy.z).to), jv ((ps.getD k Pxy.z).rf), jv ((ps.getD k Pxy.z).rt), jv ((ps.getD k Pxy.z).sf), jv ((ps.getD k Pxy.z).st), sv ((ps.getD k Pxy.z).sig)] O (sizeOf144 _) fun a w9 Z Y => G15 <| aa fun _ G16 => ?_
  refine wlv Z (ao (Y.g 0 O) O (isAgg144 _) (sizeOf144 _)) fun a Z => aZ (R := fun u e' => u = .tuple #[] ∧ ∃ v2, e' = bld 162 w3.hz (pq w3.hz) v2 ((encX ps k) ++ (ps.getD k Pxy.z).content)) 1 Z Y O de call93 O (fun h => (ji 162 w3.hz _ _ _ (ps.getD k Pxy.z) _ kr (.inr O) (Pxy.smalls_of hpk) (by have := iM (k := k) h4 hop; omega) h).mono fun u w ⟨h1, v2, h2⟩ => ⟨_, ⟨h1, v2, O⟩, h2⟩) ?_
  clear Z Y
  rintro a w10 _ _ ⟨rfl, v6, rfl⟩ Z Y
  try dsimp only at Y
  replace Y := Y.n3 O
  refine G16 <| ai ?_
  refine nv Z <| xJ (ac (v := pq w3.hz) O kr) <| xJ (ac (v := pw2 w7.hz 6) O kr) <| xJ (ld Y 0 O O (isAgg9 _) O) <| fun a Z => aZ (R := fun u e' => u = .tuple #[jv (((ps.getD k Pxy.z).sig).length : Int), .nilIface] ∧ ∃ v2, e' = bld 162 w3.hz (pq w3.hz) v2 (((encX ps k) ++ (ps.getD k Pxy.z).content) ++ ((ps.getD k Pxy.z).sig))) 1 Z Y O de call94 O (fun h => (gc 162 w3.hz _ _ _ ((ps.getD k Pxy.z).sig) _ kr (.inr O) (by intro h; have h9 := yr List.length h; rw [ya] at h9; omega) (by have h7 := iM (k := k) h4 hop; have h8 := fA (ps.getD k Pxy.z); rw [xQ]; omega) h).mono fun u w ⟨h1, v2, h2⟩ => ⟨_, ⟨h1, v2, O⟩, h2⟩) ?_
  clear Z Y
  rintro a w11 _ _ ⟨rfl, v7, rfl⟩ Z Y
  try dsimp only at Y
  replace Y := Y.n3 O
  refine ab <| G14 ?_
  replace Y := Y.k2 6 O
  refine ai <| nv (Z.p7 2 4 5 7 29 30 31 O) <| xJ (aP O O ⟨om, om⟩) <| xK O <| fun a Z => ab ?_
  replace Y : St No w0 [bld 162 w3.hz (pq w3.hz) v7 (encX ps (k + 1)), blk w0.hz [jv x.signer, jv x.holder, jv x.rf, jv x.rt, jv x.carrier, jv x.serial, jv x.sf, jv x.st, sv x.sig] 90] w11 := by rw [lS hkx]; exact Y
  refine ⟨_, ?_, k + 1, v7, O, om, Z.pick [2, 4, 5, 7, 29, 30, 31], Y.select [0, 1] de⟩
  omega
 have hke : k = ps.length := by omega
 subst hke
 refine aO <| G10 <| aa fun _ G17 => wlv Z (ao (Y.g 1 O) O (isAgg90 _) (sizeOf90 _)) fun a Z => aZ (R := fun u e' => u = .tuple #[] ∧ ∃ v2, e' = bld 162 w3.hz (pq w3.hz) v2 ((encX ps ps.length) ++ x.content)) 0 Z Y O de call88 O (fun h => (kD 162 w3.hz _ _ _ x _ kr (.inr O) (Wsh.smalls_of hxo) (by have := iM (k := ps.length) h4 hop; omega) h).mono fun u w ⟨h1, v2, h2⟩ => ⟨_, ⟨h1, v2, O⟩, h2⟩) ?_
 clear Z Y
 rintro a w12 _ _ ⟨rfl, v8, rfl⟩ Z Y
 try dsimp only at Y
 replace Y := Y.n2 O
 refine G17 ?_
 refine aa fun _ G18 => nv (Z.p4 2 4 5 7 O) <| xJ (ac (v := pq w3.hz) O kr) <| xJ (ac (v := pw2 w0.hz 8) O kr) <| xJ (ld Y 1 O O (isAgg9 _) O) <| fun a Z => aZ (R := fun u e' => u = .tuple #[jv (x.sig.length : Int), .nilIface] ∧ ∃ v2, e' = bld 162 w3.hz (pq w3.hz) v2 (((encX ps ps.length) ++ x.content) ++ x.sig)) 0 Z Y O de call94 O (fun h => (gc 162 w3.hz _ _ _ x.sig _ kr (.inr O) (by intro h; have h9 := yr List.length h; rw [ya] at h9; omega) (by have h7 := iM (k := ps.length) h4 hop; have h8 := eg x; rw [xQ]; omega) h).mono fun u w ⟨h1, v2, h2⟩ => ⟨_, ⟨h1, v2, O⟩, h2⟩) ?_
 clear Z Y
 rintro a w13 _ _ ⟨rfl, v9, rfl⟩ Z Y
 try dsimp only at Y
 replace Y := Y.n2 O
 refine G18 <| aa fun _ G19 => ?_
 refine wlv Z (ac (v := pq w3.hz) O kr) fun a Z => aZ (R := fun u e' => u = sv (((encX ps ps.length) ++ x.content) ++ x.sig) ∧ e' = blk w3.hz [pq w3.hz, v9] 162) 0 Z Y O de call95 O (fun h => (gQ 162 w3.hz _ _ _ ve h).mono fun u w ⟨h1, h2⟩ => ⟨_, ⟨h1, O⟩, h2⟩) ?_
 clear Z Y
 rintro a w14 _ _ ⟨rfl, rfl⟩ Z Y
 try dsimp only at Y
 replace Y := Y.n2 O
 refine nv Z <| xL O <| xL O <| fun a Z => G19 ?_
 replace Z := Z.p2 4 5 O
 refine ap <| am Z results35 (ag O (ag O ae)) ?_
 exact ⟨by simp only [retv]; rw [qQ hfo hsx hop]; try rfl, Y.ext⟩
theorem p128 (i : Nat) : (128 : Nat) ^ i = 2 ^ (7 * i) := by rw [Nat.pow_mul]
theorem v_ixz {P : Program} {w : World} {L : List (Nat × Value)} {dst : Option Tmp} {T T' ty : TypeId} {pos : String} {af : Array Edge} {gd : Option (Nat × Bool)} {x y : Operand} {z : Nat} (hz : z < 9223372036854775808)
  (hx : ev L x = some (jv ((z / 2 : Nat) : Int))) (hy : ev L y = some (jv (-((z % 2 : Nat) : Int)))) : OpV P ⟨dst, .binOp .xor T x y T', ty, pos, af, gd⟩ L w (jv (uz z)) := by
 have h := xd (P := P) (w := w) (dst := dst) (T := T) (T' := T') (ty := ty) (pos := pos) (af := af) (gd := gd) (n := ((z / 2 : Nat) : Int)) (decide (z % 2 = 1)) om om hx (hy.trans (by
  congr 2
  by_cases h : z % 2 = 1
  ·rw [xS h, h]; rfl
  ·rw [xW h, show z % 2 = 0 from by omega]; rfl))
 refine h.as ?_
 congr 1
 unfold uz
 by_cases h : z % 2 = 1
 ·rw [xS h, yl rfl, yk om]
 ·rw [xW h, yk de, yl om]
theorem xx {f i z : Nat} : wI f i z [] = none := by cases f <;> rfl
theorem np {s : By} {p : Nat} (h : p < s.length) : s.drop p = s.getD p 0 :: s.drop (p + 1) := by
 rw [yO h, xR, xY h]; rfl
theorem wg {s : By} {p i z : Nat} (hi : i < 9) (hp : p + i < s.length) (hb : 128 ≤ (s.getD (p + i) 0).toNat) :
  wI (9 - i) i z (s.drop (p + i)) = wI (9 - (i + 1)) (i + 1) (z + (s.getD (p + i) 0).toNat % 128 * 2 ^ (7 * i)) (s.drop (p + (i + 1))) := by
 rw [np hp, show 9 - i = (9 - (i + 1)) + 1 from by omega, wI, yk om, p128]; rfl
theorem pY {s : By} {p i z : Nat} (hi : i < 9) (hp : p + i < s.length) (hb : (s.getD (p + i) 0).toNat < 128) (h : ((s.getD (p + i) 0).toNat = 0 ∧ 0 < i) ∨ uz (z + (s.getD (p + i) 0).toNat % 128 * 2 ^ (7 * i)) < -4611686018427387903) :
  wI (9 - i) i z (s.drop (p + i)) = none := by
 rw [np hp, show 9 - i = (9 - (i + 1)) + 1 from by omega, wI, yl hb, p128, yl]
 exact h.imp_left fun ⟨h1, h2⟩ => ⟨UInt8.toNat_inj.1 (by rw [h1]; rfl), h2⟩
theorem qX {s : By} {p i z : Nat} (hi : i < 9) (hp : p + i < s.length) (hb : (s.getD (p + i) 0).toNat < 128) (h : ¬ ((s.getD (p + i) 0).toNat = 0 ∧ 0 < i)) (h2 : ¬ uz (z + (s.getD (p + i) 0).toNat % 128 * 2 ^ (7 * i)) < -4611686018427387903) :
  wI (9 - i) i z (s.drop (p + i)) = some (uz (z + (s.getD (p + i) 0).toNat % 128 * 2 ^ (7 * i)), i + 1) := by
 rw [np hp, show 9 - i = (9 - (i + 1)) + 1 from by omega, wI, yl hb, p128, yk]
 rintro (⟨h3, h4⟩ | h3)
 ·exact h ⟨by rw [h3]; rfl, h4⟩
 ·exact h2 h3
theorem xp {z i b : Nat} (hz : z < 2 ^ (7 * i)) (hb : b < 128) : z + b * 2 ^ (7 * i) < 2 ^ (7 * (i + 1)) := by
 have e : 2 ^ (7 * (i + 1)) = 128 * 2 ^ (7 * i) := by rw [Nat.mul_add, Nat.pow_add, Nat.mul_comm]
 rw [e]
 have : (b + 1) * 2 ^ (7 * i) ≤ 128 * 2 ^ (7 * i) := Nat.mul_le_mul_right _ om
 rw [Nat.add_mul] at this
 omega
theorem z_63 {z i : Nat} (hi : i < 9) (hz : z < 2 ^ (7 * (i + 1))) : z < 9223372036854775808 := by
 have : (2 : Nat) ^ (7 * (i + 1)) ≤ 2 ^ 63 := Nat.pow_le_pow_right de om
 omega
def intV (s : By) (p : Nat) : Value := match rdI (s.drop p) with
 | some (n, r) => .tuple #[jv n, jv ((s.length - r.length : Nat) : Int), jv 0]
 | none => .tuple #[jv 0, jv 0, jv 10]
theorem gb {s : By} {p : Nat} (h : wI 9 0 0 (s.drop p) = none) : intV s p = .tuple #[jv 0, jv 0, jv 10] := by
 rw [tD] at h
 unfold intV
 cases hr : rdI (s.drop p) with
 | none => rfl
 | some x => rw [hr] at h; cases h
theorem nP {s : By} {p k : Nat} {n : Int} (hp : p ≤ s.length) (h : wI 9 0 0 (s.drop p) = some (n, k)) : intV s p = .tuple #[jv n, jv ((p + k : Nat) : Int), jv 0] := by
 rw [tD] at h
 unfold intV
 cases hr : rdI (s.drop p) with
 | none => rw [hr] at h; cases h
 | some x =>
  obtain ⟨n2, r⟩ := x
  rw [hr] at h
  simp only [Option.map_some, Option.some.injEq, Prod.mk.injEq] at h
  obtain ⟨rfl, rfl⟩ := h
  obtain ⟨_, h2⟩ := fq hr
  have h3 := yr List.length h2
  rw [yA, xQ] at h3
  have h4 := (bX n2).1
  simp only
  rw [yA, show p + (s.length - p - r.length) = s.length - r.length from by omega]
theorem ik (s : By) (p : Nat) (w0 : World) (hp : p ≤ s.length) (hsl : s.length ≤ 1000000) :
  Ret Tryz.prog 63 #[sv s, jv (p : Int)] w0 fun v w => v = intV s p ∧ Ext No w0 w := by
 refine zM func63 O ntmps63 (lb O) fun a Z Y => ?_
 refine aa fun _ G1 => nv Z <| xL O <| xL O <| xL O <| fun a Z => G1 <| ah fun _ G2 => ?_
 refine aa fun _ G3 => nv Z <| xK O <| xJ ((v_lt O O).asb (b' := false) A5) <| xK O <| xM (ay O) <| xM (ay O) <| xM (br O O (runUnderlying9 _)) <| xM ((v_gt O O).asb (b' := false) A5) <| xJ (ak O O) <| fun a Z => G3 ?_
 replace Z := Z.p6 0 1 4 5 6 18 O
 refine aG Z O ?_
 refine au <| G2 <| aa fun _ G4 => wla Z O fun a Z => G4 <| ah fun _ G5 => ?_
 refine aa fun _ G6 => wlm Z O fun a Z => G6 <| ar ?_
 refine aW (fun m a w => ∃ (i : Nat) (z : Nat), m = 9 - i ∧ (i ≤ 9) ∧ (wI 9 0 0 (s.drop p) = wI (9 - i) i z (s.drop (p + i))) ∧ (z < 2 ^ (7 * i)) ∧ Fr 67 [(0, sv s), (1, jv (p : Int)), (7, .int .u64 (z : Int)), (19, jv (i : Int))] [] a ∧ St No w0 [] w) _ ⟨0, 0, O, de, O, de, Z.pick [0, 1, 7, 19], Y.select [] de⟩ ?_
 rintro _ a w1 ⟨i, z, rfl, hi, hw, hz, Z, Y⟩
 refine aa fun _ G7 => wlv Z (v_lt O O) fun a Z => G7 <| ah fun _ G8 => ?_
 refine aA Z O (fun hc1 => ?_) (fun hc1 => ?_)
 ·refine au <| G8 <| ah fun _ G9 => ar <| aa fun _ G10 => nv Z <| xK O <| xL O <| fun a Z => G10 <| ah fun _ G11 => ?_
  refine aa fun _ G12 => nv Z <| xK O <| xK O <| xJ (aP O O ⟨om, om⟩) <| xK O <| xJ (br O O (runUnderlying9 _)) <| xJ (v_ge O O) <| fun a Z => G12 ?_
  replace Z := Z.p6 0 1 7 19 8 27 O
  refine aA Z O (fun hc2 => ?_) (fun hc2 => ?_)
  ·have hwn : wI 9 0 0 (s.drop p) = none := by rw [hw, List.drop_eq_nil_of_le om]; exact xx
   refine aO <| G5 <| aa fun _ G13 => nv Z <| xL O <| xL O <| xL O <| fun a Z => G13 ?_
   replace Z := Z.p3 4 5 6 O
   refine ap <| am Z results63 (ag O (ag O (ag O ae))) ?_
   exact ⟨(gb hwn).symm, Y.ext⟩
  have hpi : p + i < s.length := by omega
  have hm8 : (s.getD (p + i) 0).toNat % 128 < 128 := Nat.mod_lt _ de
  have hzl := xp hz hm8
  have hz6 := z_63 (i := i) om hzl
  refine au <| G11 <| aa fun _ G14 => nv Z <| xK O <| xK O <| xK O <| xJ (aP O O ⟨om, om⟩) <| xJ (jp (k := (p + i)) O O (runUnderlying9 _) om om) <| xL O <| fun a Z => G14 ?_
  refine aa fun _ G15 => nv (Z.p6 0 1 7 19 8 9 O) <| xK O <| xK O <| xJ (xD (a := s.getD (p + i) 0) (b := (127 : UInt8)) O O) <| xJ ((rl O kr underlying190).asi (m' := (((s.getD (p + i) 0).toNat % 128 : Nat) : Int)) (by rw [y127])) <| xK O <| xJ ((er O O ⟨om, om⟩).asi (m' := ((7 * i : Nat) : Int)) om) <| xJ ((tm (m := (s.getD (p + i) 0).toNat % 128) (n := 7 * i) om O O).asi (m' := (((s.getD (p + i) 0).toNat % 128 * 2 ^ (7 * i) : Nat) : Int)) (by rw [Nat.mod_eq_of_lt om])) <| xJ (v_uor (m := z) (n := (s.getD (p + i) 0).toNat % 128) (k := 7 * i) hz om O O) <| xL O <| fun a Z => G15 ?_
  replace Z := Z.p6 0 1 19 8 9 7 O
  refine ah fun _ G16 => aa fun _ G17 => nv Z <| xK O <| xJ (v_ge O O) <| fun a Z => G17 <| aA Z O (fun hc3 => ?_) (fun hc3 => ?_)
  ·refine aO <| G9 <| ai <| nv Z <| xJ (aP O O ⟨om, om⟩) <| xK O <| fun a Z => ab ?_
   refine ⟨_, ?_, i + 1, (z + (s.getD (p + i) 0).toNat % 128 * 2 ^ (7 * i)), O, om, (by rw [hw]; exact wg om hpi om), hzl, Z.pick [0, 1, 7, 19], Y.select [] de⟩
   omega
  refine au <| G16 <| aa fun _ G18 => nv Z <| xK O <| xJ ((pi (m := (z + (s.getD (p + i) 0).toNat % 128 * 2 ^ (7 * i))) (n := 1) de O O).asi (m' := (((z + (s.getD (p + i) 0).toNat % 128 * 2 ^ (7 * i)) / 2 : Nat) : Int)) O) <| xJ (iX (n := (z + (s.getD (p + i) 0).toNat % 128 * 2 ^ (7 * i)) / 2) om O kr underlying3) <| xK O <| xJ ((tj (m := (z + (s.getD (p + i) 0).toNat % 128 * 2 ^ (7 * i))) (k := 1) om de O O).asi (m' := (((z + (s.getD (p + i) 0).toNat % 128 * 2 ^ (7 * i)) % 2 : Nat) : Int)) O) <| xJ (iX (n := (z + (s.getD (p + i) 0).toNat % 128 * 2 ^ (7 * i)) % 2) om O kr underlying3) <| xJ (kG O om om) <| xJ (v_ixz (z := (z + (s.getD (p + i) 0).toNat % 128 * 2 ^ (7 * i))) om O O) <| xL O <| fun a Z => G18 ?_
  refine ah fun _ G19 => aa fun _ G20 => nv (Z.p7 0 1 19 8 9 7 10 O) <| xK O <| xJ (v_eq O O) <| xK O <| fun a Z => ?_
  rcases Decidable.em (((s.getD (p + i) 0).toNat : Int) = 0) with hb4 | hb4
  ·rw [xS hb4] at Z
   refine nv Z <| xM (ay O) <| xM (v_gt O O) <| xJ (ax O O) <| xK O <| fun a Z => ?_
   rcases Decidable.em (0 < (i : Int)) with hb5 | hb5
   ·rw [xS hb5] at Z
    have hwn : wI 9 0 0 (s.drop p) = none := by rw [hw]; exact pY om hpi om (.inl ⟨om, om⟩)
    refine nv Z <| xN <| xN <| xJ (ax O O) <| fun a Z => G20 ?_
    replace Z := Z.p7 0 1 19 8 7 10 60 O
    refine aK Z O ?_
    refine aO <| G5 <| aa fun _ G21 => nv Z <| xL O <| xL O <| xL O <| fun a Z => G21 ?_
    replace Z := Z.p3 4 5 6 O
    refine ap <| am Z results63 (ag O (ag O (ag O ae))) ?_
    exact ⟨(gb hwn).symm, Y.ext⟩
   rw [xW hb5] at Z
   have hng : ¬ ((s.getD (p + i) 0).toNat = 0 ∧ 0 < i) := by omega
   refine nv Z <| xM (ay O) <| xM (v_lt O O) <| xJ (ak O O) <| fun a Z => G20 ?_
   replace Z := Z.p7 0 1 19 8 7 10 60 O
   refine aA Z O (fun hc6 => ?_) (fun hc6 => ?_)
   ·have hwn : wI 9 0 0 (s.drop p) = none := by rw [hw]; exact pY om hpi om (.inr hc6)
    refine aO <| G5 <| aa fun _ G22 => nv Z <| xL O <| xL O <| xL O <| fun a Z => G22 ?_
    replace Z := Z.p3 4 5 6 O
    refine ap <| am Z results63 (ag O (ag O (ag O ae))) ?_
    exact ⟨(gb hwn).symm, Y.ext⟩
   have hwg := hw.trans (qX om hpi om om hc6)
   refine au <| G19 <| aa fun _ G23 => nv Z <| xK O <| xK O <| xK O <| xJ (aP O O ⟨om, om⟩) <| xJ (aP O O ⟨om, om⟩) <| xL O <| xL O <| xL O <| fun a Z => G23 ?_
   replace Z := Z.p7 0 1 19 7 4 5 6 O
   refine ap <| am Z results63 (ag O (ag O (ag O ae))) ?_
   exact ⟨((nP hp hwg).trans (by simp only [retv]; congr 3; all_goals omega)).symm, Y.ext⟩
  rw [xW hb4] at Z
  refine nv Z <| xN <| xN <| xJ (ak O O) <| xK O <| xM (ay O) <| xM (v_lt O O) <| xJ (ak O O) <| fun a Z => G20 ?_
  replace Z := Z.p7 0 1 19 8 7 10 60 O
  refine aA Z O (fun hc7 => ?_) (fun hc7 => ?_)
  ·have hwn : wI 9 0 0 (s.drop p) = none := by rw [hw]; exact pY om hpi om (.inr hc7)
   refine aO <| G5 <| aa fun _ G24 => nv Z <| xL O <| xL O <| xL O <| fun a Z => G24 ?_
   replace Z := Z.p3 4 5 6 O
   refine ap <| am Z results63 (ag O (ag O (ag O ae))) ?_
   exact ⟨(gb hwn).symm, Y.ext⟩
  have hwg := hw.trans (qX om hpi om om hc7)
  refine au <| G19 <| aa fun _ G25 => nv Z <| xK O <| xK O <| xK O <| xJ (aP O O ⟨om, om⟩) <| xJ (aP O O ⟨om, om⟩) <| xL O <| xL O <| xL O <| fun a Z => G25 ?_
  replace Z := Z.p7 0 1 19 7 4 5 6 O
  refine ap <| am Z results63 (ag O (ag O (ag O ae))) ?_
  exact ⟨((nP hp hwg).trans (by simp only [retv]; congr 3; all_goals omega)).symm, Y.ext⟩
 have hwn : wI 9 0 0 (s.drop p) = none := by rw [hw, show 9 - i = 0 from by omega]; rfl
 refine aO <| G5 <| aa fun _ G26 => nv Z <| xL O <| xL O <| xL O <| fun a Z => G26 <| ap ?_
 refine am Z results63 (ag O (ag O (ag O ae))) ?_
 exact ⟨(gb hwn).symm, Y.ext⟩
def kdI (x : Int) (r : By) : Option By := match rdI r with
 | some (n, q) => if n = x then some q else none
 | none => none
def dgI (r : By) : Option (By × By) := if 32 ≤ r.length then some (r.take 32, r.drop 32) else none
section
variable {α : Type} {r q g : By} {x n : Int}
theorem j4 (h : kdI x r = some q) : rdI r = some (x, q) := by
 unfold kdI at h
 split at h
 ·rename_i n q2 hq
  split at h
  ·rename_i e; cases h; rw [hq, e]
  ·cases h
 ·cases h
theorem ol (h : kdI x r = none) : rdI r = none ∨ ∃ n q, rdI r = some (n, q) ∧ ¬ n = x := by
 unfold kdI at h
 split at h
 ·rename_i n q2 hq
  split at h
  ·cases h
  ·rename_i e; exact .inr ⟨n, q2, hq, e⟩
 ·rename_i hq; exact .inl hq
theorem nW {k : By → Option α} (h : kdI x r = some q) : kindI x r k = k q := by
 unfold kindI; rw [cR (j4 h), yl rfl]
theorem lu {k : By → Option α} (h : kdI x r = none) : kindI x r k = none := by
 unfold kindI
 rcases ol h with h | ⟨n, q, h, e⟩
 ·exact cL h
 ·rw [cR h, yk e]
theorem l9 {k : By → By → Option α} (h : dgI r = some (g, q)) : getD32 r k = k g q := by
 unfold dgI at h; unfold getD32
 split at h
 ·rename_i hl; cases h; rw [yl hl]
 ·cases h
theorem kn {k : By → By → Option α} (h : dgI r = none) : getD32 r k = none := by
 unfold dgI at h; unfold getD32
 split at h
 ·cases h
 ·rename_i hl; rw [yk hl]
theorem dg (h : rdI r = some (n, q)) : q <:+ r := by
 obtain ⟨_, rfl⟩ := fq h; exact List.suffix_append _ _
theorem qq (h : kdI x r = some q) : q <:+ r := dg (j4 h)
theorem qB (h : dgI r = some (g, q)) : q <:+ r := by
 unfold dgI at h
 split at h
 ·cases h; exact List.drop_suffix _ _
 ·cases h
end
theorem xo {s r r2 : By} {n z : Int} {w0 : World} (hz : z = ((s.length - r.length : Nat) : Int)) (hsf : r <:+ s) (hsl : s.length ≤ 1000000) (hq : rdI r = some (n, r2)) :
  Ret Tryz.prog 63 #[sv s, jv z] w0 fun v w => v = .tuple #[jv n, jv ((s.length - r2.length : Nat) : Int), jv 0] ∧ Ext No w0 w := by
 subst hz
 have := ik s (s.length - r.length) w0 om hsl
 unfold intV at this
 rw [← List.suffix_iff_eq_drop.1 hsf, hq] at this
 exact this
theorem wJ {s r : By} {z : Int} {w0 : World} (hz : z = ((s.length - r.length : Nat) : Int)) (hsf : r <:+ s) (hsl : s.length ≤ 1000000) (hq : rdI r = none) :
  Ret Tryz.prog 63 #[sv s, jv z] w0 fun v w => v = .tuple #[jv 0, jv 0, jv 10] ∧ Ext No w0 w := by
 subst hz
 have := ik s (s.length - r.length) w0 om hsl
 unfold intV at this
 rw [← List.suffix_iff_eq_drop.1 hsf, hq] at this
 exact this
theorem co {M : Nat → Prop} {w0 : World} (b : Nat) (s r r2 : By) (n z : Int) (ws : World) (hz : z = ((s.length - r.length : Nat) : Int)) (hsf : r <:+ s) (hsl : s.length ≤ 1000000) (hq : rdI r = some (n, r2)) (Y : St M w0 [blk b [sv s, jv z] 174] ws) :
  Ret Tryz.prog 99 #[pq b] ws fun u w => u = jv n ∧ St M w0 [blk b [sv s, jv ((s.length - r2.length : Nat) : Int)] 174] w := by
 refine aC func99 O ntmps99 (lb O) fun a Z => ?_
 replace Z := Z.p1 0 O
 skip
 refine aa fun _ G1 => wla Z O fun a Z => G1 <| ah fun _ G2 => ?_
 refine aL (aN fun w1 hxz => ?_)
 replace Y := Y.grow hxz
 refine aU (k := 0) 8 [3, 7] Z ?_
 refine bN 8 (Z.p2 0 2 O) Y <| pl_m O <| pl_v (aQ O) <| pl_v (ac (v := pq b) O kr) <| pl_w (fun Y => ld Y 0 O O (isAgg9 _) O) <| pl_m O <| pl_v (aQ O) <| pl_v (ac (v := pw2 b 1) O kr) <| pl_w (fun Y => ld Y 0 O O (isAgg3 _) O) fun a w2 Z Y => ?_
 replace Z := Z.p4 0 2 10 14 O
 refine ab <| aM (k := 8) 10 [9] ?_
 refine aw Z Y call63 O (xo hz hsf hsl hq) fun a w3 Z Y => wlm Z O fun a Z => ab <| aU (k := 10) 15 [12, 14] Z ?_
 refine bN 5 (Z.p6 0 2 10 14 15 6 O) Y <| pl_v (aq O O) <| pl_v (aq O O) <| pl_v (aq O O) <| pl_v (cG O) <| pl_v (cG O) fun a w4 Z Y => ?_
 replace Z := Z.p5 0 2 18 3 4 O
 refine ab <| aM (k := 15) 16 [15] ?_
 refine wla Z O fun a Z => ab <| aT <| G2 <| ah fun _ G3 => aa fun _ G4 => nv Z <| xK O <| xJ ((v_ne O O).asb (b' := false) O) <| fun a Z => G4 <| aG Z O ?_
 refine au <| G3 <| aa fun _ G5 => nv Z <| xK O <| xK O <| xJ (aQ O) <| xJ (ac (v := pw2 b 1) O kr) <| fun a Z => az 0 Z Y [sv s, jv ((s.length - r2.length : Nat) : Int)] O (sizeOf3 _) fun a w5 Z Y => G5 ?_
 refine aa fun _ G6 => nv (Z.p2 2 3 O) <| xK O <| xL O <| fun a Z => G6 <| ap ?_
 refine am Z results99 (ag O ae) ?_
 exact ⟨O, Y.select [0] de⟩
theorem cb {M : Nat → Prop} {w0 : World} (b : Nat) (s r  : By) (z : Int) (ws : World) (hz : z = ((s.length - r.length : Nat) : Int)) (hsf : r <:+ s) (hsl : s.length ≤ 1000000) (hq : rdI r = none) (Y : St M w0 [blk b [sv s, jv z] 174] ws) :
  Pan Tryz.prog 99 #[pq b] ws fun c w => c = [{ v := .iface 171 (.agg #[]), recovered := false }] ∧ St M w0 [blk b [sv s, jv z] 174] w := by
 refine mL func99 O ntmps99 (lb O) fun a Z => ?_
 replace Z := Z.p1 0 O
 skip
 refine aa fun _ G1 => wla Z O fun a Z => G1 <| ah fun _ G2 => ?_
 refine aL (aN fun w1 hxz => ?_)
 replace Y := Y.grow hxz
 refine aU (k := 0) 8 [3, 7] Z ?_
 refine bN 8 (Z.p2 0 2 O) Y <| pl_m O <| pl_v (aQ O) <| pl_v (ac (v := pq b) O kr) <| pl_w (fun Y => ld Y 0 O O (isAgg9 _) O) <| pl_m O <| pl_v (aQ O) <| pl_v (ac (v := pw2 b 1) O kr) <| pl_w (fun Y => ld Y 0 O O (isAgg3 _) O) fun a w2 Z Y => ?_
 replace Z := Z.p4 0 2 10 14 O
 refine ab <| aM (k := 8) 10 [9] ?_
 refine aw Z Y call63 O (wJ hz hsf hsl hq) fun a w3 Z Y => wlm Z O fun a Z => ab <| aU (k := 10) 15 [12, 14] Z ?_
 refine bN 5 (Z.p6 0 2 10 14 15 6 O) Y <| pl_v (aq O O) <| pl_v (aq O O) <| pl_v (aq O O) <| pl_v (cG O) <| pl_v (cG O) fun a w4 Z Y => ?_
 replace Z := Z.p5 0 2 18 3 4 O
 refine ab <| aM (k := 15) 16 [15] ?_
 refine wla Z O fun a Z => ab <| aT <| G2 <| ah fun _ G3 => aa fun _ G4 => nv Z <| xK O <| xJ ((v_ne O O).asb (b' := true) O) <| fun a Z => G4 <| aK Z O ?_
 refine bC <| aR 2 ?_
 refine nv Z <| xJ (aX (v := .agg #[]) O kr) <| xJ (cV O underlying171) <| fun a Z => ab <| dR Z O ?_
 exact eH (X := fun c w => c = [{ v := .iface 171 (.agg #[]), recovered := false }] ∧ St M w0 [blk b [sv s, jv z] 174] w) Z ⟨O, Y.select [0] de⟩
theorem qU {M : Nat → Prop} {w0 : World} (b : Nat) (s r r2 : By) (x z : Int) (ws : World) (hz : z = ((s.length - r.length : Nat) : Int)) (hsf : r <:+ s) (hsl : s.length ≤ 1000000) (hq : kdI x r = some r2) (Y : St M w0 [blk b [sv s, jv z] 174] ws) :
  Ret Tryz.prog 101 #[pq b, jv x] ws fun u w => u = .tuple #[] ∧ St M w0 [blk b [sv s, jv ((s.length - r2.length : Nat) : Int)] 174] w := by
 refine aC func101 O ntmps101 (lb O) fun a Z => ?_
 replace Z := Z.p2 0 1 O
 skip
 refine aa fun _ G1 => wlm Z O fun a Z => aZ (R := fun u e' => u = jv x ∧ e' = blk b [sv s, jv ((s.length - r2.length : Nat) : Int)] 174) 0 Z Y O de call99 O (fun h => (co b s _ r2 x _ _ hz hsf hsl (j4 hq) h).mono fun u w ⟨h1, h2⟩ => ⟨_, ⟨h1, O⟩, h2⟩) ?_
 clear Z Y
 rintro a w1 _ _ ⟨rfl, rfl⟩ Z Y
 try dsimp only at Y
 replace Y := Y.n1 O
 refine nv Z <| xK O <| xJ ((v_ne O O).asb (b' := false) sm) <| fun a Z => G1 <| aG Z O ?_
 refine au <| cQ Z results101 ae ?_
 exact ⟨O, Y.select [0] de⟩
theorem oZ {M : Nat → Prop} {w0 : World} (b : Nat) (s r  : By) (x z : Int) (ws : World) (hz : z = ((s.length - r.length : Nat) : Int)) (hsf : r <:+ s) (hsl : s.length ≤ 1000000) (hq : kdI x r = none) (Y : St M w0 [blk b [sv s, jv z] 174] ws) :
  Pan Tryz.prog 101 #[pq b, jv x] ws fun c w => c = [{ v := .iface 171 (.agg #[]), recovered := false }] ∧ Ext M w0 w := by
 refine mL func101 O ntmps101 (lb O) fun a Z => ?_
 replace Z := Z.p2 0 1 O
 skip
 refine bS fun _ G1 hP1 => aR 1 ?_
 refine wlm Z O fun a Z => ab ?_
 rcases ol hq with hq1 | ⟨n, r2, hq1, hnx⟩
 ·refine cJ (X := fun c => c = [{ v := .iface 171 (.agg #[]), recovered := false }]) 0 Z Y O call99 O (fun h => (cb b s r z _ hz hsf hsl hq1 h).mono fun e w ⟨c, h1, h2, h3⟩ => ⟨c, h1, _, h2, h3⟩) ?_
  clear Y
  rintro _ w1 e9 rfl Y
  refine hP1 _ _ _ ?_
  exact eH (X := fun c w => c = [{ v := .iface 171 (.agg #[]), recovered := false }] ∧ Ext M w0 w) Z ⟨O, Y.ext⟩
 refine aR 1 ?_
 refine aZ (R := fun u e' => u = jv n ∧ e' = blk b [sv s, jv ((s.length - r2.length : Nat) : Int)] 174) 0 Z Y O de call99 O (fun h => (co b s _ r2 n _ _ hz hsf hsl hq1 h).mono fun u w ⟨h1, h2⟩ => ⟨_, ⟨h1, O⟩, h2⟩) ?_
 clear Z Y
 rintro a w2 _ _ ⟨rfl, rfl⟩ Z Y
 try dsimp only at Y
 replace Y := Y.n1 O
 refine ab <| dC <| nv Z <| xK O <| xJ (v_ne O O) <| fun a Z => G1 <| dk Z O (fun hc1 => ?_) (fun hc1 => ?_)
 ·refine bC <| aR 2 ?_
  refine nv Z <| xJ (aX (v := .agg #[]) O kr) <| xJ (cV O underlying171) <| fun a Z => ab <| dR Z O ?_
  exact eH (X := fun c w => c = [{ v := .iface 171 (.agg #[]), recovered := false }] ∧ Ext M w0 w) Z ⟨O, Y.ext⟩
 exact absurd hc1 hnx
theorem vc {r g q : By} (h : dgI r = some (g, q)) : 32 ≤ r.length ∧ q.length + 32 = r.length ∧ g = r.take 32 := by
 unfold dgI at h
 split at h
 ·rename_i hl; cases h; exact ⟨hl, by rw [yA]; omega, rfl⟩
 ·cases h
theorem xE {s r g q : By} (h : dgI r = some (g, q)) (hs : r <:+ s) : g = (s.drop (s.length - r.length)).take (s.length - r.length + 32 - (s.length - r.length)) := by
 rw [← List.suffix_iff_eq_drop.1 hs, show s.length - r.length + 32 - (s.length - r.length) = 32 from by omega]; exact (vc h).2.2
theorem dg_no {r : By} (h : dgI r = none) : r.length < 32 := by
 unfold dgI at h
 split at h
 ·cases h
 ·omega
theorem uh {M : Nat → Prop} {w0 : World} (b : Nat) (s r r2 g : By) (z : Int) (ws : World) (hz : z = ((s.length - r.length : Nat) : Int)) (hsf : r <:+ s) (hsl : s.length ≤ 1000000) (hq : dgI r = some (g, r2)) (Y : St M w0 [blk b [sv s, jv z] 174] ws) :
  Ret Tryz.prog 102 #[pq b] ws fun u w => u = sv g ∧ St M w0 [blk b [sv s, jv ((s.length - r2.length : Nat) : Int)] 174] w := by
 have hsu := hsf.length_le
 obtain ⟨hd1, hd2, -⟩ := vc hq
 have hzz := hz
 refine aC func102 O ntmps102 (lb O) fun a Z => ?_
 replace Z := Z.p1 0 O
 skip
 refine aa fun _ G1 => wla Z O fun a Z => G1 <| ah fun _ G2 => ?_
 refine ah fun _ G3 => aL (aN fun w1 hxz => ?_)
 replace Y := Y.grow hxz
 refine aU (k := 0) 9 [4, 8] Z ?_
 refine bN 9 (Z.p2 0 2 O) Y <| pl_m O <| pl_v (aQ O) <| pl_v (ac (v := pq b) O kr) <| pl_w (fun Y => ld Y 0 O O (isAgg9 _) O) <| pl_v (br O O (runUnderlying9 _)) <| pl_m O <| pl_v (aQ O) <| pl_v (ac (v := pw2 b 1) O kr) <| pl_w (fun Y => ld Y 0 O O (isAgg3 _) O) fun a w2 Z Y => ?_
 replace Z := Z.p4 0 2 8 12 O
 refine ab <| aM (k := 9) 11 [10] ?_
 refine nv Z <| xJ (bH O O ⟨om, om⟩) <| xJ ((v_lt O O).asb (b' := false) (by exact xW (by rw [hz]; omega))) <| fun a Z => ab <| aT <| G3 <| aG Z O ?_
 refine au <| G2 <| ah fun _ G4 => aL (aN fun w3 hxz => ?_)
 replace Y := Y.grow hxz
 refine aU (k := 0) 13 [3, 7, 12] Z ?_
 refine bN 13 (Z.p6 0 2 8 12 13 14 O) Y <| pl_m O <| pl_v (aQ O) <| pl_v (ac (v := pq b) O kr) <| pl_w (fun Y => ld Y 0 O O (isAgg9 _) O) <| pl_m O <| pl_v (aQ O) <| pl_v (ac (v := pw2 b 1) O kr) <| pl_w (fun Y => ld Y 0 O O (isAgg3 _) O) <| pl_m O <| pl_v (aQ O) <| pl_v (ac (v := pw2 b 1) O kr) <| pl_w (fun Y => ld Y 0 O O (isAgg3 _) O) <| pl_v ((aP O O ⟨om, om⟩).asi (m' := ((s.length - r2.length : Nat) : Int)) om) fun a w4 Z Y => ?_
 replace Z := Z.p5 0 2 20 24 29 O
 refine ab <| aM (k := 13) 15 [14] ?_
 refine nv Z <| xJ ((iP (xs := s) (l := s.length - r.length) (h := s.length - r.length + 32) O O O underlying9 (.inr ⟨.i64, yr (fun i => some (jv i)) hz⟩) (.inr ⟨.i64, yr (fun i => some (jv i)) om⟩) om om).as (v' := sv g) (by rw [← xE hq hsf])) <| xL O <| fun a Z => ab <| aT <| G4 <| aa fun _ G5 => nv Z <| xK O <| xJ (aQ O) <| xJ (ac (v := pw2 b 1) O kr) <| xJ (ld Y 0 O O (isAgg3 _) O) <| xJ ((aP O O ⟨om, om⟩).asi (m' := ((s.length - r2.length : Nat) : Int)) om) <| xJ (aQ O) <| xJ (ac (v := pw2 b 1) O kr) <| fun a Z => az 0 Z Y [sv s, jv ((s.length - r2.length : Nat) : Int)] O (sizeOf3 _) fun a w5 Z Y => G5 ?_
 refine aa fun _ G6 => nv (Z.p2 2 3 O) <| xK O <| xL O <| fun a Z => G6 <| ap ?_
 refine am Z results102 (ag O ae) ?_
 exact ⟨O, Y.select [0] de⟩
theorem qN {M : Nat → Prop} {w0 : World} (b : Nat) (s r  : By) (z : Int) (ws : World) (hz : z = ((s.length - r.length : Nat) : Int)) (hsf : r <:+ s) (hsl : s.length ≤ 1000000) (hq : dgI r = none) (Y : St M w0 [blk b [sv s, jv z] 174] ws) :
  Pan Tryz.prog 102 #[pq b] ws fun c w => c = [{ v := .iface 171 (.agg #[]), recovered := false }] ∧ St M w0 [blk b [sv s, jv z] 174] w := by
 have hsu := hsf.length_le
 have hd1 := dg_no hq
 refine mL func102 O ntmps102 (lb O) fun a Z => ?_
 replace Z := Z.p1 0 O
 skip
 refine aa fun _ G1 => wla Z O fun a Z => G1 <| ah fun _ G2 => ?_
 refine ah fun _ G3 => aL (aN fun w1 hxz => ?_)
 replace Y := Y.grow hxz
 refine aU (k := 0) 9 [4, 8] Z ?_
 refine bN 9 (Z.p2 0 2 O) Y <| pl_m O <| pl_v (aQ O) <| pl_v (ac (v := pq b) O kr) <| pl_w (fun Y => ld Y 0 O O (isAgg9 _) O) <| pl_v (br O O (runUnderlying9 _)) <| pl_m O <| pl_v (aQ O) <| pl_v (ac (v := pw2 b 1) O kr) <| pl_w (fun Y => ld Y 0 O O (isAgg3 _) O) fun a w2 Z Y => ?_
 replace Z := Z.p4 0 2 8 12 O
 refine ab <| aM (k := 9) 11 [10] ?_
 refine nv Z <| xJ (bH O O ⟨om, om⟩) <| xJ ((v_lt O O).asb (b' := true) (by exact xS (by rw [hz]; omega))) <| fun a Z => ab <| aT <| G3 <| aK Z O ?_
 refine bC <| aR 2 ?_
 refine nv Z <| xJ (aX (v := .agg #[]) O kr) <| xJ (cV O underlying171) <| fun a Z => ab <| dR Z O ?_
 exact eH (X := fun c w => c = [{ v := .iface 171 (.agg #[]), recovered := false }] ∧ St M w0 [blk b [sv s, jv z] 174] w) Z ⟨O, Y.select [0] de⟩
end Go.Proofs.YtliklcmddmpdfaaGreatDoor
namespace Go.Proofs.YtliklcmddmpdfaaGreatDoor
open Go.RowKit Go.PW _root_.Go.Proofs.Tryz
theorem sM {P : Program} {w : World} {L : List (Nat × Value)} {dst : Option Tmp} {T T' ty : TypeId} {pos : String} {af : Array Edge} {x y : Operand} (hx : ev L x = some .nilIface) (hy : ev L y = some .nilIface) (hr : (binOp .eql T .nilIface .nilIface).run P w = .ok (.bool true) w) (hg : (eqGuard .eql T x y .nilIface .nilIface).run P w = .ok () w) : OpV P ⟨dst, .binOp .eql T x y T', ty, pos, af, none⟩ L w (.bool true) :=
 ⟨rfl, fun N df a h => by
  simp only [execOp, h.eval hx, h.eval hy, yu, hg, hr, yj]; rfl⟩
theorem bZ {M : Nat → Prop} {w0 : World} (b2 b3 b4 : Nat) (c0 c1 c2 c3 c4 c5 c6 c7 c8 c9 c10 : Value) (ws : World) (Y : St M w0 [blk b2 [c0, c1, c2, c3, c4, c5, c6, c7, c8] 90, blk b3 [c9] 91, blk b4 [c10] 41] ws) :
  CallsDIn Fence.wide 0 Tryz.prog 98 #[pq b2, pq b3, pq b4] (.panicking [{ v := .iface 171 (.agg #[]), recovered := false }]) ws fun e u' w => u' = (.panicking [{ v := .iface 171 (.agg #[]), recovered := true }]) ∧ ∃ x, e = .returned x ∧ St M w0 [blk b2 [jv 0, jv 0, jv 0, jv 0, jv 0, jv 0, jv 0, jv 0, sv ([] : By)] 90, blk b3 [.slice none 0 0] 91, blk b4 [jv 150] 41] w  := by
 refine ne (args := [pq b2, pq b3, pq b4]) func98 O ntmps98 (lb O) O O de (fun _ _ => O) (.inr ⟨O, O⟩) fun a Z => ?_
 replace Z := Z.p4 6 0 1 2 O
 skip
 refine ar <| aa fun _ G1 => wlv Z (kO O O kr kr) fun a Z => G1 <| aG Z O ?_
 refine aa fun _ G2 => nv Z <| xJ (ij O underlying171) <| xJ (aq O O) <| xJ (aq O O) <| fun a Z => G2 <| aK Z O ?_
 refine aa fun _ G3 => aD Z Y (zeroValue171 _) [] O fun a w1 Z Y => az 0 Z Y [] O (sizeOf171 _) fun a w2 Z Y => G3 ?_
 replace Y := Y.k3 14 O
 refine ai <| wlv (Z.p3 0 1 2 O) (aX (v := .agg #[jv 0, jv 0, jv 0, jv 0, jv 0, jv 0, jv 0, jv 0, .string (⟨#[]⟩)]) O kr) fun a Z => az 0 Z Y [jv 0, jv 0, jv 0, jv 0, jv 0, jv 0, jv 0, jv 0, .string (⟨#[]⟩)] O (sizeOf90 _) fun a w3 Z Y => az 1 Z Y [.slice none 0 0] O (sizeOf91 _) fun a w4 Z Y => az 2 Z Y [jv 150] O (sizeOf41 _) fun a w5 Z Y => ab ?_
 refine iH Z results98 ae ?_
 exact Y.select [0, 1, 2] de
theorem tc (b2 b3 b4 : Nat) (ws : World) :
  CallsDIn Fence.wide 0 Tryz.prog 98 #[pq b2, pq b3, pq b4] .returning ws fun e u' w => u' = .returning ∧ ∃ x, e = .returned x ∧ Ext No ws w  := by
 refine ne (args := [pq b2, pq b3, pq b4]) func98 O ntmps98 (lb O) O O de (fun _ _ => O) (.inl ⟨O, O, O⟩) fun a Z => ?_
 replace Y : St No ws [] ws := St.init ws
 refine ar <| aa fun _ G1 => wlv (Z.p4 6 0 1 2 O) (sM O O kr kr) fun a Z => G1 <| aK Z O ?_
 refine ai <| wla Z O fun a Z => ab ?_
 refine iH Z results98 ae ?_
 exact Y.ext
theorem o3 {M : Nat → Prop} {w0 w : World} (h : Ext M w0 w) : St M w0 [join []] w :=
 ⟨h, fun e he => by rw [yo.1 he]; exact ⟨⟨fun e he => (by cases he), List.Pairwise.nil⟩, fun k ⟨e, he, _⟩ => (by cases he)⟩, List.pairwise_singleton _ _⟩
theorem sY {l : List Pxy} {w : Wsh} {r : By} (h : r ≠ []) : shutH l w r = none := yk fun hh => h hh.1
theorem uD {l : List Pxy} {w : Wsh} {r : By} (h : bU w l = false) : shutH l w r = none := yk fun hh => by rw [h] at hh; cases hh.2
theorem tX {l : List Pxy} {w : Wsh} {r : By} (h1 : r = []) (h2 : bU w l = true) : shutH l w r = some (w, l) := yl ⟨h1, h2⟩
theorem wS {n a b : Int} (h : inB n a b = true) : a ≤ n ∧ n ≤ b := by simpa [inB] using h
theorem jU (s : By) (w0 : World) (hsl : s.length ≤ 1000000) :
  Ret Tryz.prog 39 #[sv s] w0 fun v w => (∃ x ps, cq s = some (x, ps) ∧ MemR w0 (fun lv : Value => .tuple #[.agg x.cells.toArray, lv, jv 0]) (fun lv => [own lv 144 7 (ps.map Pxy.cells)]) (fun _ => True) v w) ∨ (cq s = none ∧ v = .tuple #[.agg #[jv 0, jv 0, jv 0, jv 0, jv 0, jv 0, jv 0, jv 0, sv ([] : By)], .slice none 0 0, jv 150] ∧ Ext No w0 w) := by
 refine qT func39 O ntmps39 (lb O) fun a Z => ?_
 replace Y : St No w0 [] w0 := St.init w0
 refine aa fun _ G1 => aD (Z.p1 0 O) Y (zeroValue90 _) [jv 0, jv 0, jv 0, jv 0, jv 0, jv 0, jv 0, jv 0, .string (⟨#[]⟩)] O fun a w1 Z Y => aD Z Y (zeroValue91 _) [.slice none 0 0] O fun a w2 Z Y => aD Z Y (zeroValue41 _) [jv 0] O fun a w3 Z Y => G1 <| aa fun _ G2 => ?_
 refine wlv Z (cd O O) fun a Z => oe Z O fun a Z => G2 <| aa fun _ G3 => ?_
 refine nv Z <| xK O <| xJ (aX (v := .agg #[sv s, jv 0]) O kr) <| fun a Z => aS Z Y O [sv s, jv 0] O fun a w4 Z Y => wla Z O fun a Z => G3 ?_
 have hd0 : cq s = getI s (fun n r => if inB n 0 4 = true then rdPxys n.toNat [] r tailH else none) := rfl
 refine bS fun _ G4 hP4 => aR 1 ?_
 refine wlm Z O fun a Z => ab ?_
 rcases hq1 : rdI s with _ | ⟨n3, r2⟩
 ·have hdn := hd0.trans (cL hq1)
  refine cJ (X := fun c => c = [{ v := .iface 171 (.agg #[]), recovered := false }]) 0 Z Y O call99 O (fun h => (cb w3.hz s s  0 _ sm (List.suffix_refl s) hsl hq1 h).mono fun e w ⟨c, h1, h2, h3⟩ => ⟨c, h1, _, h2, h3⟩) ?_
  clear Y
  rintro _ w5 e9 rfl Y
  refine hP4 _ _ _ ?_
  replace Y := Y.s3 [3, 2, 1] de rfl
  exact bu Z call98 (bZ _ _ _ _ _ _ _ _ _ _ _ _ _ _ _ Y) results39 (fun w9 Y => ⟨(al O (bj (Y.g 0 O) (isAgg90 _) (sizeOf90 _)) (al O (aH (Y.g 1 O) (isAgg91 _)) (al O (aH (Y.g 2 O) (isAgg41 _)) ae))), .inr ⟨hdn, O, Y.ext⟩⟩)
 have hd4 := hd0.trans (cR hq1)
 have hs5 := (dg hq1).trans (List.suffix_refl s)
 refine aR 1 ?_
 refine aZ (R := fun u e' => u = jv n3 ∧ e' = blk w3.hz [sv s, jv ((s.length - r2.length : Nat) : Int)] 174) 0 Z Y O de call99 O (fun h => (co w3.hz s s r2 n3 0 _ sm (List.suffix_refl s) hsl hq1 h).mono fun u w ⟨h1, h2⟩ => ⟨_, ⟨h1, O⟩, h2⟩) ?_
 clear Z Y
 rintro a w6 _ _ ⟨rfl, rfl⟩ Z Y
 try dsimp only at Y
 replace Y := Y.n4 O
 refine ab <| dC <| wla Z O fun a Z => G4 ?_
 replace Z := Z.p6 0 2 3 4 5 6 O
 refine ah fun _ G5 => aa fun _ G6 => wlm Z O fun a Z => aw Z Y call100 O (cU n3 0 4 _) fun a w7 Z Y => wlv Z (bE O) fun a Z => G6 <| bt Z O (fun hc6 => ?_) (fun hc6 => ?_)
 ·try simp only [qz] at hc6
  have hdn : cq s = none := hd4.trans (yk (by rw [hc6]; decide))
  refine bC <| aR 2 ?_
  refine nv Z <| xJ (aX (v := .agg #[]) O kr) <| xJ (cV O underlying171) <| fun a Z => ab <| dR Z O ?_
  replace Y := Y.s3 [3, 2, 1] de rfl
  exact bu Z call98 (bZ _ _ _ _ _ _ _ _ _ _ _ _ _ _ _ Y) results39 (fun w9 Y => ⟨(al O (bj (Y.g 0 O) (isAgg90 _) (sizeOf90 _)) (al O (aH (Y.g 1 O) (isAgg91 _)) (al O (aH (Y.g 2 O) (isAgg41 _)) ae))), .inr ⟨hdn, O, Y.ext⟩⟩)
 try simp only [qz] at hc6
 have hd9 := hd4.trans (yl hc6)
 have hib := wS hc6
 refine au <| G5 <| ah fun _ G7 => ?_
 replace Y : St No w0 [own (.slice none 0 0) 144 7 (([] : List Pxy).map Pxy.cells), blk w3.hz [sv s, jv ((s.length - r2.length : Nat) : Int)] 174, blk w2.hz [jv 0] 41, blk w1.hz [.slice none 0 0] 91, blk w0.hz [jv 0, jv 0, jv 0, jv 0, jv 0, jv 0, jv 0, jv 0, .string (⟨#[]⟩)] 90] w7 := Y.nil_own
 refine aa fun _ G8 => nv Z <| xK O <| xK O <| fun a Z => G8 <| ar ?_
 refine aW (fun m a w => ∃ (k : Nat) (acc : List Pxy) (r : By) (lv : Value), m = n3.toNat - k ∧ ((k : Int) ≤ n3) ∧ (cq s = rdPxys (n3.toNat - k) acc r tailH) ∧ (r <:+ s) ∧ (acc.length = k) ∧ Fr 98 [(0, sv s), (2, pq w0.hz), (3, pq w1.hz), (4, pq w2.hz), (5, pq w3.hz), (23, jv n3), (24, jv (k : Int))] [{ target := .fn (.func 98) #[pq w0.hz, pq w1.hz, pq w2.hz], args := #[] }] a ∧ St No w0 [blk w3.hz [sv s, jv ((s.length - r.length : Nat) : Int)] 174, blk w0.hz [jv 0, jv 0, jv 0, jv 0, jv 0, jv 0, jv 0, jv 0, .string (⟨#[]⟩)] 90, blk w1.hz [lv] 91, blk w2.hz [jv 0] 41, own lv 144 7 ((acc).map Pxy.cells)] w) _ ⟨0, [], r2, .slice none 0 0, O, om, hd9, hs5, O, Z.pick [0, 2, 3, 4, 5, 23, 24], Y.select [1, 4, 3, 2, 0] de⟩ ?_
 rintro _ a w8 ⟨k, acc, r, lv, rfl, hk, hdl, hsl2, hal, Z, Y⟩
 refine aa fun _ G9 => wlv Z (v_lt O O) fun a Z => G9 <| ah fun _ G10 => ?_
 refine aA Z O (fun hc7 => ?_) (fun hc7 => ?_)
 ·obtain ⟨mm, hm⟩ : ∃ m, n3.toNat - k = m + 1 := ⟨n3.toNat - k - 1, by omega⟩
  rw [hm] at hdl
  have hdk : cq s = kindI 2 r _ := hdl
  refine au <| G10 <| ah fun _ G11 => ar <| aa fun _ G12 => aD Z Y (zeroValue144 _) [jv 0, jv 0, jv 0, jv 0, jv 0, jv 0, .string (⟨#[]⟩)] O fun a w9 Z Y => G12 <| bS fun _ G13 hP13 => ?_
  refine aR 1 ?_
  refine wlm Z O fun a Z => ab ?_
  rcases hq8 : kdI 2 r with _ | r9
  ·have hdn := hdk.trans (lu hq8)
   refine cJ (X := fun c => c = [{ v := .iface 171 (.agg #[]), recovered := false }]) 1 Z Y O call101 O (fun h => (oZ w3.hz s r  2 ((s.length - r.length : Nat) : Int) _ O hsl2 hsl hq8 h).mono fun e w ⟨c, h1, h2, h3⟩ => ⟨c, h1, _, h2, o3 h3⟩) ?_
   clear Y
   rintro _ w10 e9 rfl Y
   refine hP13 _ _ _ ?_
   replace Y := Y.s3 [2, 3, 4] de rfl
   exact bu Z call98 (bZ _ _ _ _ _ _ _ _ _ _ _ _ _ _ _ Y) results39 (fun w9 Y => ⟨(al O (bj (Y.g 0 O) (isAgg90 _) (sizeOf90 _)) (al O (aH (Y.g 1 O) (isAgg91 _)) (al O (aH (Y.g 2 O) (isAgg41 _)) ae))), .inr ⟨hdn, O, Y.ext⟩⟩)
  have hd10 := hdk.trans (nW hq8)
  have hs11 := (qq hq8).trans hsl2
  refine aR 1 ?_
  refine aZ (R := fun u e' => u = .tuple #[] ∧ e' = blk w3.hz [sv s, jv ((s.length - r9.length : Nat) : Int)] 174) 1 Z Y O de call101 O (fun h => (qU w3.hz s r r9 2 ((s.length - r.length : Nat) : Int) _ O hsl2 hsl hq8 h).mono fun u w ⟨h1, h2⟩ => ⟨_, ⟨h1, O⟩, h2⟩) ?_
  clear Z Y
  rintro a w11 _ _ ⟨rfl, rfl⟩ Z Y
  try dsimp only at Y
  replace Y := Y.n6 O
  refine ab <| dC <| G13 <| ah fun _ G14 => ?_
  refine aa fun _ G15 => nv Z <| xJ (ac (v := pq w8.hz) O kr) <| xJ (ac (v := pw2 w8.hz 1) O kr) <| xJ (ac (v := pw2 w8.hz 2) O kr) <| xJ (ac (v := pw2 w8.hz 2) O kr) <| xJ (ac (v := pw2 w8.hz 2) O kr) <| xJ (ac (v := pw2 w8.hz 3) O kr) <| xJ (ac (v := pw2 w8.hz 4) O kr) <| xJ (ac (v := pw2 w8.hz 4) O kr) <| xJ (ac (v := pw2 w8.hz 4) O kr) <| xJ (ac (v := pw2 w8.hz 5) O kr) <| xJ (aX (v := .agg #[pq w8.hz, pw2 w8.hz 1, pw2 w8.hz 2, pw2 w8.hz 3, pw2 w8.hz 4, pw2 w8.hz 5]) O kr) <| xK O <| fun a Z => G15 ?_
  replace Z := Z.p10 0 2 3 4 5 23 24 7 38 39 O
  refine ar <| eF 7 ?_
  refine bM <| aa fun _ G16 => wlv Z ((v_lt O O).asb (b' := true) O) fun a Z => G16 <| ah fun _ G17 => ?_
  refine aK Z O ?_
  refine au <| G17 <| ah fun _ G18 => ar <| aa fun _ G19 => nv Z <| xJ (ch (v := pq w8.hz) O O kr) <| xL O <| fun a Z => G19 <| bC ?_
  refine aR 2 ?_
  refine nv Z <| xK O <| xK O <| fun a Z => ab ?_
  rcases hq12 : rdI r9 with _ | ⟨n14, r13⟩
  ·have hdn := hd10.trans (cL hq12)
   refine cJ (X := fun c => c = [{ v := .iface 171 (.agg #[]), recovered := false }]) 1 Z Y O call99 O (fun h => (cb w3.hz s r9  ((s.length - r9.length : Nat) : Int) _ O hs11 hsl hq12 h).mono fun e w ⟨c, h1, h2, h3⟩ => ⟨c, h1, _, h2, h3⟩) ?_
   clear Y
   rintro _ w12 e9 rfl Y
   replace Y := Y.s3 [2, 3, 4] de rfl
   exact bu Z call98 (bZ _ _ _ _ _ _ _ _ _ _ _ _ _ _ _ Y) results39 (fun w9 Y => ⟨(al O (bj (Y.g 0 O) (isAgg90 _) (sizeOf90 _)) (al O (aH (Y.g 1 O) (isAgg91 _)) (al O (aH (Y.g 2 O) (isAgg41 _)) ae))), .inr ⟨hdn, O, Y.ext⟩⟩)
  have hd15 := hd10.trans (cR hq12)
  have hs16 := (dg hq12).trans hs11
  refine aR 1 ?_
  refine aZ (R := fun u e' => u = jv n14 ∧ e' = blk w3.hz [sv s, jv ((s.length - r13.length : Nat) : Int)] 174) 1 Z Y O de call99 O (fun h => (co w3.hz s r9 r13 n14 ((s.length - r9.length : Nat) : Int) _ O hs11 hsl hq12 h).mono fun u w ⟨h1, h2⟩ => ⟨_, ⟨h1, O⟩, h2⟩) ?_
  clear Z Y
  rintro a w13 _ _ ⟨rfl, rfl⟩ Z Y
  try dsimp only at Y
  replace Y := Y.n6 O
  refine ab <| dC <| wlv Z (aQ O) fun a Z => az 0 Z Y [jv n14, jv 0, jv 0, jv 0, jv 0, jv 0, .string (⟨#[]⟩)] O (sizeOf3 _) fun a w14 Z Y => ab <| G18 ?_
  refine ai <| nv (Z.p10 0 2 3 4 5 23 24 7 38 39 O) <| xJ ((aP O O de).asi (m' := 1) O) <| xK O <| fun a Z => ab <| bM <| aa fun _ G20 => wlv Z ((v_lt O O).asb (b' := true) O) fun a Z => G20 <| ah fun _ G21 => ?_
  refine aK Z O ?_
  refine au <| G21 <| ah fun _ G22 => ar <| aa fun _ G23 => nv Z <| xJ (ch (v := pw2 w8.hz 1) O O kr) <| xL O <| fun a Z => G23 <| bC ?_
  refine aR 2 ?_
  refine nv Z <| xK O <| xK O <| fun a Z => ab ?_
  rcases hq17 : rdI r13 with _ | ⟨n19, r18⟩
  ·have hdn := hd15.trans (cL hq17)
   refine cJ (X := fun c => c = [{ v := .iface 171 (.agg #[]), recovered := false }]) 1 Z Y O call99 O (fun h => (cb w3.hz s r13  ((s.length - r13.length : Nat) : Int) _ O hs16 hsl hq17 h).mono fun e w ⟨c, h1, h2, h3⟩ => ⟨c, h1, _, h2, h3⟩) ?_
   clear Y
   rintro _ w15 e9 rfl Y
   replace Y := Y.s3 [2, 3, 4] de rfl
   exact bu Z call98 (bZ _ _ _ _ _ _ _ _ _ _ _ _ _ _ _ Y) results39 (fun w9 Y => ⟨(al O (bj (Y.g 0 O) (isAgg90 _) (sizeOf90 _)) (al O (aH (Y.g 1 O) (isAgg91 _)) (al O (aH (Y.g 2 O) (isAgg41 _)) ae))), .inr ⟨hdn, O, Y.ext⟩⟩)
  have hd20 := hd15.trans (cR hq17)
  have hs21 := (dg hq17).trans hs16
  refine aR 1 ?_
  refine aZ (R := fun u e' => u = jv n19 ∧ e' = blk w3.hz [sv s, jv ((s.length - r18.length : Nat) : Int)] 174) 1 Z Y O de call99 O (fun h => (co w3.hz s r13 r18 n19 ((s.length - r13.length : Nat) : Int) _ O hs16 hsl hq17 h).mono fun u w ⟨h1, h2⟩ => ⟨_, ⟨h1, O⟩, h2⟩) ?_
  clear Z Y
  rintro a w16 _ _ ⟨rfl, rfl⟩ Z Y
  try dsimp only at Y
  replace Y := Y.n6 O
  refine ab <| dC <| wlv Z (aQ O) fun a Z => az 0 Z Y [jv n14, jv n19, jv 0, jv 0, jv 0, jv 0, .string (⟨#[]⟩)] O (sizeOf3 _) fun a w17 Z Y => ab <| G22 ?_
  refine ai <| nv (Z.p10 0 2 3 4 5 23 24 7 38 39 O) <| xJ ((aP O O de).asi (m' := 2) O) <| xK O <| fun a Z => ab <| bM <| aa fun _ G24 => wlv Z ((v_lt O O).asb (b' := true) O) fun a Z => G24 <| ah fun _ G25 => ?_
  refine aK Z O ?_
  refine au <| G25 <| ah fun _ G26 => ar <| aa fun _ G27 => nv Z <| xJ (ch (v := pw2 w8.hz 2) O O kr) <| xL O <| fun a Z => G27 <| bC ?_
  refine aR 2 ?_
  refine nv Z <| xK O <| xK O <| fun a Z => ab ?_
  rcases hq22 : rdI r18 with _ | ⟨n24, r23⟩
  ·have hdn := hd20.trans (cL hq22)
   refine cJ (X := fun c => c = [{ v := .iface 171 (.agg #[]), recovered := false }]) 1 Z Y O call99 O (fun h => (cb w3.hz s r18  ((s.length - r18.length : Nat) : Int) _ O hs21 hsl hq22 h).mono fun e w ⟨c, h1, h2, h3⟩ => ⟨c, h1, _, h2, h3⟩) ?_
   clear Y
   rintro _ w18 e9 rfl Y
   replace Y := Y.s3 [2, 3, 4] de rfl
   exact bu Z call98 (bZ _ _ _ _ _ _ _ _ _ _ _ _ _ _ _ Y) results39 (fun w9 Y => ⟨(al O (bj (Y.g 0 O) (isAgg90 _) (sizeOf90 _)) (al O (aH (Y.g 1 O) (isAgg91 _)) (al O (aH (Y.g 2 O) (isAgg41 _)) ae))), .inr ⟨hdn, O, Y.ext⟩⟩)
  have hd25 := hd20.trans (cR hq22)
  have hs26 := (dg hq22).trans hs21
  refine aR 1 ?_
  refine aZ (R := fun u e' => u = jv n24 ∧ e' = blk w3.hz [sv s, jv ((s.length - r23.length : Nat) : Int)] 174) 1 Z Y O de call99 O (fun h => (co w3.hz s r18 r23 n24 ((s.length - r18.length : Nat) : Int) _ O hs21 hsl hq22 h).mono fun u w ⟨h1, h2⟩ => ⟨_, ⟨h1, O⟩, h2⟩) ?_
  clear Z Y
  rintro a w19 _ _ ⟨rfl, rfl⟩ Z Y
  try dsimp only at Y
  replace Y := Y.n6 O
  refine ab <| dC <| wlv Z (aQ O) fun a Z => az 0 Z Y [jv n14, jv n19, jv n24, jv 0, jv 0, jv 0, .string (⟨#[]⟩)] O (sizeOf3 _) fun a w20 Z Y => ab <| G26 ?_
  refine ai <| nv (Z.p10 0 2 3 4 5 23 24 7 38 39 O) <| xJ ((aP O O de).asi (m' := 3) O) <| xK O <| fun a Z => ab <| bM <| aa fun _ G28 => wlv Z ((v_lt O O).asb (b' := true) O) fun a Z => G28 <| ah fun _ G29 => ?_
  refine aK Z O ?_
  refine au <| G29 <| ah fun _ G30 => ar <| aa fun _ G31 => nv Z <| xJ (ch (v := pw2 w8.hz 3) O O kr) <| xL O <| fun a Z => G31 <| bC ?_
  refine aR 2 ?_
  refine nv Z <| xK O <| xK O <| fun a Z => ab ?_
  rcases hq27 : rdI r23 with _ | ⟨n29, r28⟩
  ·have hdn := hd25.trans (cL hq27)
   refine cJ (X := fun c => c = [{ v := .iface 171 (.agg #[]), recovered := false }]) 1 Z Y O call99 O (fun h => (cb w3.hz s r23  ((s.length - r23.length : Nat) : Int) _ O hs26 hsl hq27 h).mono fun e w ⟨c, h1, h2, h3⟩ => ⟨c, h1, _, h2, h3⟩) ?_
   clear Y
   rintro _ w21 e9 rfl Y
   replace Y := Y.s3 [2, 3, 4] de rfl
   exact bu Z call98 (bZ _ _ _ _ _ _ _ _ _ _ _ _ _ _ _ Y) results39 (fun w9 Y => ⟨(al O (bj (Y.g 0 O) (isAgg90 _) (sizeOf90 _)) (al O (aH (Y.g 1 O) (isAgg91 _)) (al O (aH (Y.g 2 O) (isAgg41 _)) ae))), .inr ⟨hdn, O, Y.ext⟩⟩)
  have hd30 := hd25.trans (cR hq27)
  have hs31 := (dg hq27).trans hs26
  refine aR 1 ?_
  refine aZ (R := fun u e' => u = jv n29 ∧ e' = blk w3.hz [sv s, jv ((s.length - r28.length : Nat) : Int)] 174) 1 Z Y O de call99 O (fun h => (co w3.hz s r23 r28 n29 ((s.length - r23.length : Nat) : Int) _ O hs26 hsl hq27 h).mono fun u w ⟨h1, h2⟩ => ⟨_, ⟨h1, O⟩, h2⟩) ?_
  clear Z Y
  rintro a w22 _ _ ⟨rfl, rfl⟩ Z Y
  try dsimp only at Y
  replace Y := Y.n6 O
  refine ab <| dC <| wlv Z (aQ O) fun a Z => az 0 Z Y [jv n14, jv n19, jv n24, jv n29, jv 0, jv 0, .string (⟨#[]⟩)] O (sizeOf3 _) fun a w23 Z Y => ab <| G30 ?_
  refine ai <| nv (Z.p10 0 2 3 4 5 23 24 7 38 39 O) <| xJ ((aP O O de).asi (m' := 4) O) <| xK O <| fun a Z => ab <| bM <| aa fun _ G32 => wlv Z ((v_lt O O).asb (b' := true) O) fun a Z => G32 <| ah fun _ G33 => ?_
  refine aK Z O ?_
  refine au <| G33 <| ah fun _ G34 => ar <| aa fun _ G35 => nv Z <| xJ (ch (v := pw2 w8.hz 4) O O kr) <| xL O <| fun a Z => G35 <| bC ?_
  refine aR 2 ?_
  refine nv Z <| xK O <| xK O <| fun a Z => ab ?_
  rcases hq32 : rdI r28 with _ | ⟨n34, r33⟩
  ·have hdn := hd30.trans (cL hq32)
   refine cJ (X := fun c => c = [{ v := .iface 171 (.agg #[]), recovered := false }]) 1 Z Y O call99 O (fun h => (cb w3.hz s r28  ((s.length - r28.length : Nat) : Int) _ O hs31 hsl hq32 h).mono fun e w ⟨c, h1, h2, h3⟩ => ⟨c, h1, _, h2, h3⟩) ?_
   clear Y
   rintro _ w24 e9 rfl Y
   replace Y := Y.s3 [2, 3, 4] de rfl
   exact bu Z call98 (bZ _ _ _ _ _ _ _ _ _ _ _ _ _ _ _ Y) results39 (fun w9 Y => ⟨(al O (bj (Y.g 0 O) (isAgg90 _) (sizeOf90 _)) (al O (aH (Y.g 1 O) (isAgg91 _)) (al O (aH (Y.g 2 O) (isAgg41 _)) ae))), .inr ⟨hdn, O, Y.ext⟩⟩)
  have hd35 := hd30.trans (cR hq32)
  have hs36 := (dg hq32).trans hs31
  refine aR 1 ?_
  refine aZ (R := fun u e' => u = jv n34 ∧ e' = blk w3.hz [sv s, jv ((s.length - r33.length : Nat) : Int)] 174) 1 Z Y O de call99 O (fun h => (co w3.hz s r28 r33 n34 ((s.length - r28.length : Nat) : Int) _ O hs31 hsl hq32 h).mono fun u w ⟨h1, h2⟩ => ⟨_, ⟨h1, O⟩, h2⟩) ?_
  clear Z Y
  rintro a w25 _ _ ⟨rfl, rfl⟩ Z Y
  try dsimp only at Y
  replace Y := Y.n6 O
  refine ab <| dC <| wlv Z (aQ O) fun a Z => az 0 Z Y [jv n14, jv n19, jv n24, jv n29, jv n34, jv 0, .string (⟨#[]⟩)] O (sizeOf3 _) fun a w26 Z Y => ab <| G34 ?_
  refine ai <| nv (Z.p10 0 2 3 4 5 23 24 7 38 39 O) <| xJ ((aP O O de).asi (m' := 5) O) <| xK O <| fun a Z => ab <| bM <| aa fun _ G36 => wlv Z ((v_lt O O).asb (b' := true) O) fun a Z => G36 <| ah fun _ G37 => ?_
  refine aK Z O ?_
  refine au <| G37 <| ah fun _ G38 => ar <| aa fun _ G39 => nv Z <| xJ (ch (v := pw2 w8.hz 5) O O kr) <| xL O <| fun a Z => G39 <| bC ?_
  refine aR 2 ?_
  refine nv Z <| xK O <| xK O <| fun a Z => ab ?_
  rcases hq37 : rdI r33 with _ | ⟨n39, r38⟩
  ·have hdn := hd35.trans (cL hq37)
   refine cJ (X := fun c => c = [{ v := .iface 171 (.agg #[]), recovered := false }]) 1 Z Y O call99 O (fun h => (cb w3.hz s r33  ((s.length - r33.length : Nat) : Int) _ O hs36 hsl hq37 h).mono fun e w ⟨c, h1, h2, h3⟩ => ⟨c, h1, _, h2, h3⟩) ?_
   clear Y
   rintro _ w27 e9 rfl Y
   replace Y := Y.s3 [2, 3, 4] de rfl
   exact bu Z call98 (bZ _ _ _ _ _ _ _ _ _ _ _ _ _ _ _ Y) results39 (fun w9 Y => ⟨(al O (bj (Y.g 0 O) (isAgg90 _) (sizeOf90 _)) (al O (aH (Y.g 1 O) (isAgg91 _)) (al O (aH (Y.g 2 O) (isAgg41 _)) ae))), .inr ⟨hdn, O, Y.ext⟩⟩)
  have hd40 := hd35.trans (cR hq37)
  have hs41 := (dg hq37).trans hs36
  refine aR 1 ?_
  refine aZ (R := fun u e' => u = jv n39 ∧ e' = blk w3.hz [sv s, jv ((s.length - r38.length : Nat) : Int)] 174) 1 Z Y O de call99 O (fun h => (co w3.hz s r33 r38 n39 ((s.length - r33.length : Nat) : Int) _ O hs36 hsl hq37 h).mono fun u w ⟨h1, h2⟩ => ⟨_, ⟨h1, O⟩, h2⟩) ?_
  clear Z Y
  rintro a w28 _ _ ⟨rfl, rfl⟩ Z Y
  try dsimp only at Y
  replace Y := Y.n6 O
  refine ab <| dC <| wlv Z (aQ O) fun a Z => az 0 Z Y [jv n14, jv n19, jv n24, jv n29, jv n34, jv n39, .string (⟨#[]⟩)] O (sizeOf3 _) fun a w29 Z Y => ab <| G38 ?_
  refine ai <| nv (Z.p10 0 2 3 4 5 23 24 7 38 39 O) <| xJ ((aP O O de).asi (m' := 6) O) <| xK O <| fun a Z => ab <| bM <| aa fun _ G40 => wlv Z ((v_lt O O).asb (b' := false) O) fun a Z => G40 <| ah fun _ G41 => ?_
  refine aG Z O ?_
  refine aO <| G14 <| bS fun _ G42 hP42 => aR 1 ?_
  refine wlm Z O fun a Z => ab ?_
  rcases hq42 : dgI r38 with _ | ⟨n44, r43⟩
  ·have hdn := hd40.trans (kn hq42)
   refine cJ (X := fun c => c = [{ v := .iface 171 (.agg #[]), recovered := false }]) 1 Z Y O call102 O (fun h => (qN w3.hz s r38  ((s.length - r38.length : Nat) : Int) _ O hs41 hsl hq42 h).mono fun e w ⟨c, h1, h2, h3⟩ => ⟨c, h1, _, h2, h3⟩) ?_
   clear Y
   rintro _ w30 e9 rfl Y
   refine hP42 _ _ _ ?_
   replace Y := Y.s3 [2, 3, 4] de rfl
   exact bu Z call98 (bZ _ _ _ _ _ _ _ _ _ _ _ _ _ _ _ Y) results39 (fun w9 Y => ⟨(al O (bj (Y.g 0 O) (isAgg90 _) (sizeOf90 _)) (al O (aH (Y.g 1 O) (isAgg91 _)) (al O (aH (Y.g 2 O) (isAgg41 _)) ae))), .inr ⟨hdn, O, Y.ext⟩⟩)
  have hd45 := hd40.trans (l9 hq42)
  have hs46 := (qB hq42).trans hs41
  refine aR 1 ?_
  refine aZ (R := fun u e' => u = sv n44 ∧ e' = blk w3.hz [sv s, jv ((s.length - r43.length : Nat) : Int)] 174) 1 Z Y O de call102 O (fun h => (uh w3.hz s r38 r43 n44 ((s.length - r38.length : Nat) : Int) _ O hs41 hsl hq42 h).mono fun u w ⟨h1, h2⟩ => ⟨_, ⟨h1, O⟩, h2⟩) ?_
  clear Z Y
  rintro a w31 _ _ ⟨rfl, rfl⟩ Z Y
  try dsimp only at Y
  replace Y := Y.n6 O
  refine ab <| dC <| wlv Z (ac (v := pw2 w8.hz 6) O kr) fun a Z => az 0 Z Y [jv n14, jv n19, jv n24, jv n29, jv n34, jv n39, sv n44] O (sizeOf9 _) fun a w32 Z Y => G42 ?_
  refine ai <| nv (Z.p8 0 2 3 4 5 23 24 7 O) <| xJ (ld Y 3 O O (isAgg91 _) O) <| xJ (ao (Y.g 0 O) O (isAgg144 _) (sizeOf144 _)) <| fun a Z => aE (E := 144) (sz := 7) O [[jv n14, jv n19, jv n24, jv n29, jv n34, jv n39, sv n44]] kr sm O de de Z Y fun a w33 Z Y => aY (i := 6) (sT := 91) (inf := Tryz.t144) (z := .agg #[jv 0, jv 0, jv 0, jv 0, jv 0, jv 0, .string (⟨#[]⟩)]) (b := 0) (off := 0) (m := 0) (c := 0) O O O (Y.ow 0 O) sm underlying91 O O O O de z6 (by have hby : Tryz.t144.bytes = 64 := O; simp [big, hby]; omega) (by have hby : Tryz.t144.bytes = 64 := O; simp [big, hby]; omega) de Z Y fun a w34 s47 Z Y _ => ?_
  replace Y : St No w0 [own (.slice (some ⟨w32.hz, 0, none⟩) 1 1) 144 7 ([[jv n14, jv n19, jv n24, jv n29, jv n34, jv n39, sv n44]]), blk w8.hz [jv n14, jv n19, jv n24, jv n29, jv n34, jv n39, sv n44] 144, blk w3.hz [sv s, jv ((s.length - r43.length : Nat) : Int)] 174, blk w0.hz [jv 0, jv 0, jv 0, jv 0, jv 0, jv 0, jv 0, jv 0, .string (⟨#[]⟩)] 90, blk w1.hz [lv] 91, blk w2.hz [jv 0] 41, own s47 144 7 ((acc ++ [(⟨n14, n19, n24, n29, n34, n39, n44⟩ : Pxy)]).map Pxy.cells)] w34 := by rw [yU]; exact Y
  refine cf 4 Z Y (Y.ow 6 O) O O O (sizeOf91 _) (lb O) (ds := [s47]) O O fun a w35 Z Y => ab <| G11 <| ai <| nv Z <| xJ (aP O O ⟨om, om⟩) <| xK O <| fun a Z => ab ?_
  refine ⟨_, ?_, k + 1, acc ++ [(⟨n14, n19, n24, n29, n34, n39, n44⟩ : Pxy)], r43, s47, O, om, (by rw [show n3.toNat - (k + 1) = mm from by omega]; exact hd45), hs46, (by rw [xQ, hal]; rfl), Z.pick [0, 2, 3, 4, 5, 23, 24], Y.select [2, 3, 4, 5, 6] de⟩
  omega
 have hm : n3.toNat - k = 0 := by omega
 rw [hm] at hdl
 have hdk : cq s = kindI 1 r _ := hdl
 refine aO <| G7 <| bS fun _ G43 hP43 => aR 1 ?_
 refine wlm Z O fun a Z => ab ?_
 rcases hq48 : kdI 1 r with _ | r49
 ·have hdn := hdk.trans (lu hq48)
  refine cJ (X := fun c => c = [{ v := .iface 171 (.agg #[]), recovered := false }]) 0 Z Y O call101 O (fun h => (oZ w3.hz s r  1 ((s.length - r.length : Nat) : Int) _ O hsl2 hsl hq48 h).mono fun e w ⟨c, h1, h2, h3⟩ => ⟨c, h1, _, h2, o3 h3⟩) ?_
  clear Y
  rintro _ w36 e9 rfl Y
  refine hP43 _ _ _ ?_
  replace Y := Y.s3 [1, 2, 3] de rfl
  exact bu Z call98 (bZ _ _ _ _ _ _ _ _ _ _ _ _ _ _ _ Y) results39 (fun w9 Y => ⟨(al O (bj (Y.g 0 O) (isAgg90 _) (sizeOf90 _)) (al O (aH (Y.g 1 O) (isAgg91 _)) (al O (aH (Y.g 2 O) (isAgg41 _)) ae))), .inr ⟨hdn, O, Y.ext⟩⟩)
 have hd50 := hdk.trans (nW hq48)
 have hs51 := (qq hq48).trans hsl2
 refine aR 1 ?_
 refine aZ (R := fun u e' => u = .tuple #[] ∧ e' = blk w3.hz [sv s, jv ((s.length - r49.length : Nat) : Int)] 174) 0 Z Y O de call101 O (fun h => (qU w3.hz s r r49 1 ((s.length - r.length : Nat) : Int) _ O hsl2 hsl hq48 h).mono fun u w ⟨h1, h2⟩ => ⟨_, ⟨h1, O⟩, h2⟩) ?_
 clear Z Y
 rintro a w37 _ _ ⟨rfl, rfl⟩ Z Y
 try dsimp only at Y
 replace Y := Y.n5 O
 refine ab <| dC <| G43 ?_
 refine ah fun _ G44 => aa fun _ G45 => nv (Z.p5 0 2 3 4 5 O) <| xJ (ac (v := pq w0.hz) O kr) <| xJ (ac (v := pw2 w0.hz 1) O kr) <| xJ (ac (v := pw2 w0.hz 2) O kr) <| xJ (ac (v := pw2 w0.hz 2) O kr) <| xJ (ac (v := pw2 w0.hz 2) O kr) <| xJ (ac (v := pw2 w0.hz 3) O kr) <| xJ (ac (v := pw2 w0.hz 4) O kr) <| xJ (ac (v := pw2 w0.hz 5) O kr) <| xJ (ac (v := pw2 w0.hz 6) O kr) <| xJ (ac (v := pw2 w0.hz 6) O kr) <| xJ (ac (v := pw2 w0.hz 6) O kr) <| xJ (ac (v := pw2 w0.hz 7) O kr) <| xJ (aX (v := .agg #[pq w0.hz, pw2 w0.hz 1, pw2 w0.hz 2, pw2 w0.hz 3, pw2 w0.hz 4, pw2 w0.hz 5, pw2 w0.hz 6, pw2 w0.hz 7]) O kr) <| xK O <| fun a Z => G45 ?_
 replace Z := Z.p7 0 2 3 4 5 69 70 O
 refine ar <| eF 9 ?_
 refine bM <| aa fun _ G46 => wlv Z ((v_lt O O).asb (b' := true) O) fun a Z => G46 <| ah fun _ G47 => ?_
 refine aK Z O ?_
 refine au <| G47 <| ah fun _ G48 => ar <| aa fun _ G49 => nv Z <| xJ (ch (v := pq w0.hz) O O kr) <| xL O <| fun a Z => G49 <| bC ?_
 refine aR 2 ?_
 refine nv Z <| xK O <| xK O <| fun a Z => ab ?_
 rcases hq52 : rdI r49 with _ | ⟨n54, r53⟩
 ·have hdn := hd50.trans (cL hq52)
  refine cJ (X := fun c => c = [{ v := .iface 171 (.agg #[]), recovered := false }]) 0 Z Y O call99 O (fun h => (cb w3.hz s r49  ((s.length - r49.length : Nat) : Int) _ O hs51 hsl hq52 h).mono fun e w ⟨c, h1, h2, h3⟩ => ⟨c, h1, _, h2, h3⟩) ?_
  clear Y
  rintro _ w38 e9 rfl Y
  replace Y := Y.s3 [1, 2, 3] de rfl
  exact bu Z call98 (bZ _ _ _ _ _ _ _ _ _ _ _ _ _ _ _ Y) results39 (fun w9 Y => ⟨(al O (bj (Y.g 0 O) (isAgg90 _) (sizeOf90 _)) (al O (aH (Y.g 1 O) (isAgg91 _)) (al O (aH (Y.g 2 O) (isAgg41 _)) ae))), .inr ⟨hdn, O, Y.ext⟩⟩)
 have hd55 := hd50.trans (cR hq52)
 have hs56 := (dg hq52).trans hs51
 refine aR 1 ?_
 refine aZ (R := fun u e' => u = jv n54 ∧ e' = blk w3.hz [sv s, jv ((s.length - r53.length : Nat) : Int)] 174) 0 Z Y O de call99 O (fun h => (co w3.hz s r49 r53 n54 ((s.length - r49.length : Nat) : Int) _ O hs51 hsl hq52 h).mono fun u w ⟨h1, h2⟩ => ⟨_, ⟨h1, O⟩, h2⟩) ?_
 clear Z Y
 rintro a w39 _ _ ⟨rfl, rfl⟩ Z Y
 try dsimp only at Y
 replace Y := Y.n5 O
 refine ab <| dC <| wlv Z (aQ O) fun a Z => az 1 Z Y [jv n54, jv 0, jv 0, jv 0, jv 0, jv 0, jv 0, jv 0, .string (⟨#[]⟩)] O (sizeOf3 _) fun a w40 Z Y => ab <| G48 ?_
 refine ai <| nv (Z.p7 0 2 3 4 5 69 70 O) <| xJ ((aP O O de).asi (m' := 1) O) <| xK O <| fun a Z => ab <| bM <| aa fun _ G50 => wlv Z ((v_lt O O).asb (b' := true) O) fun a Z => G50 <| ah fun _ G51 => ?_
 refine aK Z O ?_
 refine au <| G51 <| ah fun _ G52 => ar <| aa fun _ G53 => nv Z <| xJ (ch (v := pw2 w0.hz 1) O O kr) <| xL O <| fun a Z => G53 <| bC ?_
 refine aR 2 ?_
 refine nv Z <| xK O <| xK O <| fun a Z => ab ?_
 rcases hq57 : rdI r53 with _ | ⟨n59, r58⟩
 ·have hdn := hd55.trans (cL hq57)
  refine cJ (X := fun c => c = [{ v := .iface 171 (.agg #[]), recovered := false }]) 0 Z Y O call99 O (fun h => (cb w3.hz s r53  ((s.length - r53.length : Nat) : Int) _ O hs56 hsl hq57 h).mono fun e w ⟨c, h1, h2, h3⟩ => ⟨c, h1, _, h2, h3⟩) ?_
  clear Y
  rintro _ w41 e9 rfl Y
  replace Y := Y.s3 [1, 2, 3] de rfl
  exact bu Z call98 (bZ _ _ _ _ _ _ _ _ _ _ _ _ _ _ _ Y) results39 (fun w9 Y => ⟨(al O (bj (Y.g 0 O) (isAgg90 _) (sizeOf90 _)) (al O (aH (Y.g 1 O) (isAgg91 _)) (al O (aH (Y.g 2 O) (isAgg41 _)) ae))), .inr ⟨hdn, O, Y.ext⟩⟩)
 have hd60 := hd55.trans (cR hq57)
 have hs61 := (dg hq57).trans hs56
 refine aR 1 ?_
 refine aZ (R := fun u e' => u = jv n59 ∧ e' = blk w3.hz [sv s, jv ((s.length - r58.length : Nat) : Int)] 174) 0 Z Y O de call99 O (fun h => (co w3.hz s r53 r58 n59 ((s.length - r53.length : Nat) : Int) _ O hs56 hsl hq57 h).mono fun u w ⟨h1, h2⟩ => ⟨_, ⟨h1, O⟩, h2⟩) ?_
 clear Z Y
 rintro a w42 _ _ ⟨rfl, rfl⟩ Z Y
 try dsimp only at Y
 replace Y := Y.n5 O
 refine ab <| dC <| wlv Z (aQ O) fun a Z => az 1 Z Y [jv n54, jv n59, jv 0, jv 0, jv 0, jv 0, jv 0, jv 0, .string (⟨#[]⟩)] O (sizeOf3 _) fun a w43 Z Y => ab <| G52 ?_
 refine ai <| nv (Z.p7 0 2 3 4 5 69 70 O) <| xJ ((aP O O de).asi (m' := 2) O) <| xK O <| fun a Z => ab <| bM <| aa fun _ G54 => wlv Z ((v_lt O O).asb (b' := true) O) fun a Z => G54 <| ah fun _ G55 => ?_
 refine aK Z O ?_
 refine au <| G55 <| ah fun _ G56 => ar <| aa fun _ G57 => nv Z <| xJ (ch (v := pw2 w0.hz 2) O O kr) <| xL O <| fun a Z => G57 <| bC ?_
 refine aR 2 ?_
 refine nv Z <| xK O <| xK O <| fun a Z => ab ?_
 rcases hq62 : rdI r58 with _ | ⟨n64, r63⟩
 ·have hdn := hd60.trans (cL hq62)
  refine cJ (X := fun c => c = [{ v := .iface 171 (.agg #[]), recovered := false }]) 0 Z Y O call99 O (fun h => (cb w3.hz s r58  ((s.length - r58.length : Nat) : Int) _ O hs61 hsl hq62 h).mono fun e w ⟨c, h1, h2, h3⟩ => ⟨c, h1, _, h2, h3⟩) ?_
  clear Y
  rintro _ w44 e9 rfl Y
  replace Y := Y.s3 [1, 2, 3] de rfl
  exact bu Z call98 (bZ _ _ _ _ _ _ _ _ _ _ _ _ _ _ _ Y) results39 (fun w9 Y => ⟨(al O (bj (Y.g 0 O) (isAgg90 _) (sizeOf90 _)) (al O (aH (Y.g 1 O) (isAgg91 _)) (al O (aH (Y.g 2 O) (isAgg41 _)) ae))), .inr ⟨hdn, O, Y.ext⟩⟩)
 have hd65 := hd60.trans (cR hq62)
 have hs66 := (dg hq62).trans hs61
 refine aR 1 ?_
 refine aZ (R := fun u e' => u = jv n64 ∧ e' = blk w3.hz [sv s, jv ((s.length - r63.length : Nat) : Int)] 174) 0 Z Y O de call99 O (fun h => (co w3.hz s r58 r63 n64 ((s.length - r58.length : Nat) : Int) _ O hs61 hsl hq62 h).mono fun u w ⟨h1, h2⟩ => ⟨_, ⟨h1, O⟩, h2⟩) ?_
 clear Z Y
 rintro a w45 _ _ ⟨rfl, rfl⟩ Z Y
 try dsimp only at Y
 replace Y := Y.n5 O
 refine ab <| dC <| wlv Z (aQ O) fun a Z => az 1 Z Y [jv n54, jv n59, jv n64, jv 0, jv 0, jv 0, jv 0, jv 0, .string (⟨#[]⟩)] O (sizeOf3 _) fun a w46 Z Y => ab <| G56 ?_
 refine ai <| nv (Z.p7 0 2 3 4 5 69 70 O) <| xJ ((aP O O de).asi (m' := 3) O) <| xK O <| fun a Z => ab <| bM <| aa fun _ G58 => wlv Z ((v_lt O O).asb (b' := true) O) fun a Z => G58 <| ah fun _ G59 => ?_
 refine aK Z O ?_
 refine au <| G59 <| ah fun _ G60 => ar <| aa fun _ G61 => nv Z <| xJ (ch (v := pw2 w0.hz 3) O O kr) <| xL O <| fun a Z => G61 <| bC ?_
 refine aR 2 ?_
 refine nv Z <| xK O <| xK O <| fun a Z => ab ?_
 rcases hq67 : rdI r63 with _ | ⟨n69, r68⟩
 ·have hdn := hd65.trans (cL hq67)
  refine cJ (X := fun c => c = [{ v := .iface 171 (.agg #[]), recovered := false }]) 0 Z Y O call99 O (fun h => (cb w3.hz s r63  ((s.length - r63.length : Nat) : Int) _ O hs66 hsl hq67 h).mono fun e w ⟨c, h1, h2, h3⟩ => ⟨c, h1, _, h2, h3⟩) ?_
  clear Y
  rintro _ w47 e9 rfl Y
  replace Y := Y.s3 [1, 2, 3] de rfl
  exact bu Z call98 (bZ _ _ _ _ _ _ _ _ _ _ _ _ _ _ _ Y) results39 (fun w9 Y => ⟨(al O (bj (Y.g 0 O) (isAgg90 _) (sizeOf90 _)) (al O (aH (Y.g 1 O) (isAgg91 _)) (al O (aH (Y.g 2 O) (isAgg41 _)) ae))), .inr ⟨hdn, O, Y.ext⟩⟩)
 have hd70 := hd65.trans (cR hq67)
 have hs71 := (dg hq67).trans hs66
 refine aR 1 ?_
 refine aZ (R := fun u e' => u = jv n69 ∧ e' = blk w3.hz [sv s, jv ((s.length - r68.length : Nat) : Int)] 174) 0 Z Y O de call99 O (fun h => (co w3.hz s r63 r68 n69 ((s.length - r63.length : Nat) : Int) _ O hs66 hsl hq67 h).mono fun u w ⟨h1, h2⟩ => ⟨_, ⟨h1, O⟩, h2⟩) ?_
 clear Z Y
 rintro a w48 _ _ ⟨rfl, rfl⟩ Z Y
 try dsimp only at Y
 replace Y := Y.n5 O
 refine ab <| dC <| wlv Z (aQ O) fun a Z => az 1 Z Y [jv n54, jv n59, jv n64, jv n69, jv 0, jv 0, jv 0, jv 0, .string (⟨#[]⟩)] O (sizeOf3 _) fun a w49 Z Y => ab <| G60 ?_
 refine ai <| nv (Z.p7 0 2 3 4 5 69 70 O) <| xJ ((aP O O de).asi (m' := 4) O) <| xK O <| fun a Z => ab <| bM <| aa fun _ G62 => wlv Z ((v_lt O O).asb (b' := true) O) fun a Z => G62 <| ah fun _ G63 => ?_
 refine aK Z O ?_
 refine au <| G63 <| ah fun _ G64 => ar <| aa fun _ G65 => nv Z <| xJ (ch (v := pw2 w0.hz 4) O O kr) <| xL O <| fun a Z => G65 <| bC ?_
 refine aR 2 ?_
 refine nv Z <| xK O <| xK O <| fun a Z => ab ?_
 rcases hq72 : rdI r68 with _ | ⟨n74, r73⟩
 ·have hdn := hd70.trans (cL hq72)
  refine cJ (X := fun c => c = [{ v := .iface 171 (.agg #[]), recovered := false }]) 0 Z Y O call99 O (fun h => (cb w3.hz s r68  ((s.length - r68.length : Nat) : Int) _ O hs71 hsl hq72 h).mono fun e w ⟨c, h1, h2, h3⟩ => ⟨c, h1, _, h2, h3⟩) ?_
  clear Y
  rintro _ w50 e9 rfl Y
  replace Y := Y.s3 [1, 2, 3] de rfl
  exact bu Z call98 (bZ _ _ _ _ _ _ _ _ _ _ _ _ _ _ _ Y) results39 (fun w9 Y => ⟨(al O (bj (Y.g 0 O) (isAgg90 _) (sizeOf90 _)) (al O (aH (Y.g 1 O) (isAgg91 _)) (al O (aH (Y.g 2 O) (isAgg41 _)) ae))), .inr ⟨hdn, O, Y.ext⟩⟩)
 have hd75 := hd70.trans (cR hq72)
 have hs76 := (dg hq72).trans hs71
 refine aR 1 ?_
 refine aZ (R := fun u e' => u = jv n74 ∧ e' = blk w3.hz [sv s, jv ((s.length - r73.length : Nat) : Int)] 174) 0 Z Y O de call99 O (fun h => (co w3.hz s r68 r73 n74 ((s.length - r68.length : Nat) : Int) _ O hs71 hsl hq72 h).mono fun u w ⟨h1, h2⟩ => ⟨_, ⟨h1, O⟩, h2⟩) ?_
 clear Z Y
 rintro a w51 _ _ ⟨rfl, rfl⟩ Z Y
 try dsimp only at Y
 replace Y := Y.n5 O
 refine ab <| dC <| wlv Z (aQ O) fun a Z => az 1 Z Y [jv n54, jv n59, jv n64, jv n69, jv n74, jv 0, jv 0, jv 0, .string (⟨#[]⟩)] O (sizeOf3 _) fun a w52 Z Y => ab <| G64 ?_
 refine ai <| nv (Z.p7 0 2 3 4 5 69 70 O) <| xJ ((aP O O de).asi (m' := 5) O) <| xK O <| fun a Z => ab <| bM <| aa fun _ G66 => wlv Z ((v_lt O O).asb (b' := true) O) fun a Z => G66 <| ah fun _ G67 => ?_
 refine aK Z O ?_
 refine au <| G67 <| ah fun _ G68 => ar <| aa fun _ G69 => nv Z <| xJ (ch (v := pw2 w0.hz 5) O O kr) <| xL O <| fun a Z => G69 <| bC ?_
 refine aR 2 ?_
 refine nv Z <| xK O <| xK O <| fun a Z => ab ?_
 rcases hq77 : rdI r73 with _ | ⟨n79, r78⟩
 ·have hdn := hd75.trans (cL hq77)
  refine cJ (X := fun c => c = [{ v := .iface 171 (.agg #[]), recovered := false }]) 0 Z Y O call99 O (fun h => (cb w3.hz s r73  ((s.length - r73.length : Nat) : Int) _ O hs76 hsl hq77 h).mono fun e w ⟨c, h1, h2, h3⟩ => ⟨c, h1, _, h2, h3⟩) ?_
  clear Y
  rintro _ w53 e9 rfl Y
  replace Y := Y.s3 [1, 2, 3] de rfl
  exact bu Z call98 (bZ _ _ _ _ _ _ _ _ _ _ _ _ _ _ _ Y) results39 (fun w9 Y => ⟨(al O (bj (Y.g 0 O) (isAgg90 _) (sizeOf90 _)) (al O (aH (Y.g 1 O) (isAgg91 _)) (al O (aH (Y.g 2 O) (isAgg41 _)) ae))), .inr ⟨hdn, O, Y.ext⟩⟩)
 have hd80 := hd75.trans (cR hq77)
 have hs81 := (dg hq77).trans hs76
 refine aR 1 ?_
 refine aZ (R := fun u e' => u = jv n79 ∧ e' = blk w3.hz [sv s, jv ((s.length - r78.length : Nat) : Int)] 174) 0 Z Y O de call99 O (fun h => (co w3.hz s r73 r78 n79 ((s.length - r73.length : Nat) : Int) _ O hs76 hsl hq77 h).mono fun u w ⟨h1, h2⟩ => ⟨_, ⟨h1, O⟩, h2⟩) ?_
 clear Z Y
 rintro a w54 _ _ ⟨rfl, rfl⟩ Z Y
 try dsimp only at Y
 replace Y := Y.n5 O
 refine ab <| dC <| wlv Z (aQ O) fun a Z => az 1 Z Y [jv n54, jv n59, jv n64, jv n69, jv n74, jv n79, jv 0, jv 0, .string (⟨#[]⟩)] O (sizeOf3 _) fun a w55 Z Y => ab <| G68 ?_
 refine ai <| nv (Z.p7 0 2 3 4 5 69 70 O) <| xJ ((aP O O de).asi (m' := 6) O) <| xK O <| fun a Z => ab <| bM <| aa fun _ G70 => wlv Z ((v_lt O O).asb (b' := true) O) fun a Z => G70 <| ah fun _ G71 => ?_
 refine aK Z O ?_
 refine au <| G71 <| ah fun _ G72 => ar <| aa fun _ G73 => nv Z <| xJ (ch (v := pw2 w0.hz 6) O O kr) <| xL O <| fun a Z => G73 <| bC ?_
 refine aR 2 ?_
 refine nv Z <| xK O <| xK O <| fun a Z => ab ?_
 rcases hq82 : rdI r78 with _ | ⟨n84, r83⟩
 ·have hdn := hd80.trans (cL hq82)
  refine cJ (X := fun c => c = [{ v := .iface 171 (.agg #[]), recovered := false }]) 0 Z Y O call99 O (fun h => (cb w3.hz s r78  ((s.length - r78.length : Nat) : Int) _ O hs81 hsl hq82 h).mono fun e w ⟨c, h1, h2, h3⟩ => ⟨c, h1, _, h2, h3⟩) ?_
  clear Y
  rintro _ w56 e9 rfl Y
  replace Y := Y.s3 [1, 2, 3] de rfl
  exact bu Z call98 (bZ _ _ _ _ _ _ _ _ _ _ _ _ _ _ _ Y) results39 (fun w9 Y => ⟨(al O (bj (Y.g 0 O) (isAgg90 _) (sizeOf90 _)) (al O (aH (Y.g 1 O) (isAgg91 _)) (al O (aH (Y.g 2 O) (isAgg41 _)) ae))), .inr ⟨hdn, O, Y.ext⟩⟩)
 have hd85 := hd80.trans (cR hq82)
 have hs86 := (dg hq82).trans hs81
 refine aR 1 ?_
 refine aZ (R := fun u e' => u = jv n84 ∧ e' = blk w3.hz [sv s, jv ((s.length - r83.length : Nat) : Int)] 174) 0 Z Y O de call99 O (fun h => (co w3.hz s r78 r83 n84 ((s.length - r78.length : Nat) : Int) _ O hs81 hsl hq82 h).mono fun u w ⟨h1, h2⟩ => ⟨_, ⟨h1, O⟩, h2⟩) ?_
 clear Z Y
 rintro a w57 _ _ ⟨rfl, rfl⟩ Z Y
 try dsimp only at Y
 replace Y := Y.n5 O
 refine ab <| dC <| wlv Z (aQ O) fun a Z => az 1 Z Y [jv n54, jv n59, jv n64, jv n69, jv n74, jv n79, jv n84, jv 0, .string (⟨#[]⟩)] O (sizeOf3 _) fun a w58 Z Y => ab <| G72 ?_
 refine ai <| nv (Z.p7 0 2 3 4 5 69 70 O) <| xJ ((aP O O de).asi (m' := 7) O) <| xK O <| fun a Z => ab <| bM <| aa fun _ G74 => wlv Z ((v_lt O O).asb (b' := true) O) fun a Z => G74 <| ah fun _ G75 => ?_
 refine aK Z O ?_
 refine au <| G75 <| ah fun _ G76 => ar <| aa fun _ G77 => nv Z <| xJ (ch (v := pw2 w0.hz 7) O O kr) <| xL O <| fun a Z => G77 <| bC ?_
 refine aR 2 ?_
 refine nv Z <| xK O <| xK O <| fun a Z => ab ?_
 rcases hq87 : rdI r83 with _ | ⟨n89, r88⟩
 ·have hdn := hd85.trans (cL hq87)
  refine cJ (X := fun c => c = [{ v := .iface 171 (.agg #[]), recovered := false }]) 0 Z Y O call99 O (fun h => (cb w3.hz s r83  ((s.length - r83.length : Nat) : Int) _ O hs86 hsl hq87 h).mono fun e w ⟨c, h1, h2, h3⟩ => ⟨c, h1, _, h2, h3⟩) ?_
  clear Y
  rintro _ w59 e9 rfl Y
  replace Y := Y.s3 [1, 2, 3] de rfl
  exact bu Z call98 (bZ _ _ _ _ _ _ _ _ _ _ _ _ _ _ _ Y) results39 (fun w9 Y => ⟨(al O (bj (Y.g 0 O) (isAgg90 _) (sizeOf90 _)) (al O (aH (Y.g 1 O) (isAgg91 _)) (al O (aH (Y.g 2 O) (isAgg41 _)) ae))), .inr ⟨hdn, O, Y.ext⟩⟩)
 have hd90 := hd85.trans (cR hq87)
 have hs91 := (dg hq87).trans hs86
 refine aR 1 ?_
 refine aZ (R := fun u e' => u = jv n89 ∧ e' = blk w3.hz [sv s, jv ((s.length - r88.length : Nat) : Int)] 174) 0 Z Y O de call99 O (fun h => (co w3.hz s r83 r88 n89 ((s.length - r83.length : Nat) : Int) _ O hs86 hsl hq87 h).mono fun u w ⟨h1, h2⟩ => ⟨_, ⟨h1, O⟩, h2⟩) ?_
 clear Z Y
 rintro a w60 _ _ ⟨rfl, rfl⟩ Z Y
 try dsimp only at Y
 replace Y := Y.n5 O
 refine ab <| dC <| wlv Z (aQ O) fun a Z => az 1 Z Y [jv n54, jv n59, jv n64, jv n69, jv n74, jv n79, jv n84, jv n89, .string (⟨#[]⟩)] O (sizeOf3 _) fun a w61 Z Y => ab <| G76 ?_
 refine ai <| nv (Z.p7 0 2 3 4 5 69 70 O) <| xJ ((aP O O de).asi (m' := 8) O) <| xK O <| fun a Z => ab <| bM <| aa fun _ G78 => wlv Z ((v_lt O O).asb (b' := false) O) fun a Z => G78 <| ah fun _ G79 => ?_
 refine aG Z O ?_
 refine aO <| G44 <| bS fun _ G80 hP80 => aR 1 ?_
 refine wlm Z O fun a Z => ab ?_
 rcases hq92 : dgI r88 with _ | ⟨n94, r93⟩
 ·have hdn := hd90.trans (kn hq92)
  refine cJ (X := fun c => c = [{ v := .iface 171 (.agg #[]), recovered := false }]) 0 Z Y O call102 O (fun h => (qN w3.hz s r88  ((s.length - r88.length : Nat) : Int) _ O hs91 hsl hq92 h).mono fun e w ⟨c, h1, h2, h3⟩ => ⟨c, h1, _, h2, h3⟩) ?_
  clear Y
  rintro _ w62 e9 rfl Y
  refine hP80 _ _ _ ?_
  replace Y := Y.s3 [1, 2, 3] de rfl
  exact bu Z call98 (bZ _ _ _ _ _ _ _ _ _ _ _ _ _ _ _ Y) results39 (fun w9 Y => ⟨(al O (bj (Y.g 0 O) (isAgg90 _) (sizeOf90 _)) (al O (aH (Y.g 1 O) (isAgg91 _)) (al O (aH (Y.g 2 O) (isAgg41 _)) ae))), .inr ⟨hdn, O, Y.ext⟩⟩)
 have hd95 := hd90.trans (l9 hq92)
 have hs96 := (qB hq92).trans hs91
 refine aR 1 ?_
 refine aZ (R := fun u e' => u = sv n94 ∧ e' = blk w3.hz [sv s, jv ((s.length - r93.length : Nat) : Int)] 174) 0 Z Y O de call102 O (fun h => (uh w3.hz s r88 r93 n94 ((s.length - r88.length : Nat) : Int) _ O hs91 hsl hq92 h).mono fun u w ⟨h1, h2⟩ => ⟨_, ⟨h1, O⟩, h2⟩) ?_
 clear Z Y
 rintro a w63 _ _ ⟨rfl, rfl⟩ Z Y
 try dsimp only at Y
 replace Y := Y.n5 O
 refine ab <| dC <| wlv Z (ac (v := pw2 w0.hz 8) O kr) fun a Z => az 1 Z Y [jv n54, jv n59, jv n64, jv n69, jv n74, jv n79, jv n84, jv n89, sv n94] O (sizeOf9 _) fun a w64 Z Y => G80 ?_
 refine ah fun _ G81 => aa fun _ G82 => nv (Z.p5 0 2 3 4 5 O) <| xK O <| xJ (aQ O) <| xJ (ac (v := pw2 w3.hz 1) O kr) <| xJ (ld Y 0 O O (isAgg3 _) O) <| xK O <| xJ (br O O (runUnderlying9 _)) <| xJ (v_lt O O) <| xK O <| fun a Z => ?_
 rcases Decidable.em (((s.length - r93.length : Nat) : Int) < (s.length : Int)) with hb97 | hb97
 ·rw [xS hb97] at Z
  have hdn := hd95.trans (sY (by intro h0; have h1 := yr List.length h0; rw [ya] at h1; omega))
  refine nv Z <| xN <| xN <| xN <| xN <| xJ (ax O O) <| fun a Z => G82 ?_
  replace Z := Z.p4 2 3 4 93 O
  replace Y := Y.k4 30 O
  refine aK Z O ?_
  refine bC <| aR 2 ?_
  refine nv Z <| xJ (aX (v := .agg #[]) O kr) <| xJ (cV O underlying171) <| fun a Z => ab <| dR Z O ?_
  replace Y := Y.s3 [0, 1, 2] de rfl
  exact bu Z call98 (bZ _ _ _ _ _ _ _ _ _ _ _ _ _ _ _ Y) results39 (fun w9 Y => ⟨(al O (bj (Y.g 0 O) (isAgg90 _) (sizeOf90 _)) (al O (aH (Y.g 1 O) (isAgg91 _)) (al O (aH (Y.g 2 O) (isAgg41 _)) ae))), .inr ⟨hdn, O, Y.ext⟩⟩)
 rw [xW hb97] at Z
 have hrn : r93 = [] := yE (by have := hs96.length_le; omega)
 refine nv Z <| xM (ao (Y.g 1 O) O (isAgg90 _) (sizeOf90 _)) <| xM (ld Y 2 O O (isAgg91 _) O) <| fun a Z => aF Z Y call90 O (oh (x := (⟨n54, n59, n64, n69, n74, n79, n84, n89, n94⟩ : Wsh)) (ps := acc) (Y.ow 4 O)) fun a w65 Z Y => nv Z <| xM (bE O) <| xJ (ak O O) <| fun a Z => G82 ?_
 replace Z := Z.p4 2 3 4 93 O
 replace Y := Y.k4 30 O
 refine bt Z O (fun hc98 => ?_) (fun hc98 => ?_)
 ·try simp only [qz] at hc98
  have hdn := hd95.trans (uD hc98)
  refine bC <| aR 2 ?_
  refine nv Z <| xJ (aX (v := .agg #[]) O kr) <| xJ (cV O underlying171) <| fun a Z => ab <| dR Z O ?_
  replace Y := Y.s3 [0, 1, 2] de rfl
  exact bu Z call98 (bZ _ _ _ _ _ _ _ _ _ _ _ _ _ _ _ Y) results39 (fun w9 Y => ⟨(al O (bj (Y.g 0 O) (isAgg90 _) (sizeOf90 _)) (al O (aH (Y.g 1 O) (isAgg91 _)) (al O (aH (Y.g 2 O) (isAgg41 _)) ae))), .inr ⟨hdn, O, Y.ext⟩⟩)
 try simp only [qz] at hc98
 have hd8 := hd95.trans (tX hrn hc98)
 refine au <| G81 <| ah fun _ G83 => aL (aN fun w66 hxz => ?_)
 replace Y := Y.grow hxz
 refine aU (k := 0) 3 [1, 2] Z ?_
 replace Z := Z.p3 2 3 4 O
 replace Y := Y.s4 [0, 1, 2, 3] de rfl
 refine kb [2] (fun q => if q = 2 then blk w0.hz [jv n54, jv n59, jv n64, jv n69, jv n74, jv n79, jv n84, jv n89, sv n94] 90 else join []) (fun q => if q = 2 then blk w0.hz [jv n54, jv n59, jv n64, jv n69, jv n74, jv n79, jv n84, jv n89, sv n94] 90 else join []) 3 [[], [], [0]] (fun i => match i with | 0 => pv (.agg #[jv n54, jv n59, jv n64, jv n69, jv n74, jv n79, jv n84, jv n89, sv n94]) | 1 => pv (lv) | 2 => fun v E => v = undef ∧ E = [] | _ => fun _ _ => False) BB Z (H := [blk w1.hz [lv] 91, blk w2.hz [jv 0] 41, own lv 144 7 ((acc).map Pxy.cells)]) Y kr kr kr kr de de ?_ ?_ ?_ ?_ ?_ ?_
 ·intro i v E h
  match i, h with
  | 0, _ => exact by decide
  | 1, _ => exact by decide
  | 2, _ => exact by decide
  | i + 3, h => exact h.elim
 ·intro q v E hq h
  simp only [xX, yc, yz] at hq
  rcases hq with rfl <;> exact h
 ·intro q hq
  simp only [xX, yc, yz] at hq
  rcases hq with rfl <;> exact ⟨rfl, rfl⟩
 ·intro i hi hiq e
  match i, hi, hiq with
  | 0, _, _ => exact fun w Y => OpV.g (ao (vH (F := fun q => if q = 2 then blk w0.hz [jv n54, jv n59, jv n64, jv n69, jv n74, jv n79, jv n84, jv n89, sv n94] 90 else join []) (q := 2) (Y.g 0 O)) O (isAgg90 _) (sizeOf90 _))
  | 1, _, _ => exact fun w Y => OpV.g (ld Y 1 O O (isAgg91 _) O)
  | 2, _, h => exact absurd de h
 ·intro q hq
  simp only [xX, yc, yz] at hq
  rcases hq with rfl
  ·rintro _ _ ⟨rfl, rfl⟩
   intro w h
   exact dI (cs := [jv n54, jv n59, jv n64, jv n69, jv n74, jv n79, jv n84, jv n89, sv n94]) (ds := [jv n54, jv n59, jv n64, jv n69, jv n74, jv n79, jv n84, jv n89, sv n94]) O O h (sizeOf90 _) O (lb O) O
 clear Z Y
 rintro _ _ ⟨rfl, rfl⟩ _ _ ⟨rfl, rfl⟩ a w67 Z Y
 replace Z := Z.p5 96 97 2 3 4 O
 try dsimp only at Y
 replace Y := Y.n4 O
 refine ab <| aM (k := 3) 5 [4] ?_
 refine cf 1 Z Y (Y.ow 3 O) O O O (sizeOf91 _) (lb O) (ds := [lv]) O O fun a w68 Z Y => az 2 Z Y [jv 0] O (sizeOf41 _) fun a w69 Z Y => ab <| aT <| G83 <| ap <| oS (vs := [.agg #[jv n54, jv n59, jv n64, jv n69, jv n74, jv n79, jv n84, jv n89, sv n94], lv, jv 0]) Z call98 (tc _ _ _ _) results39 (fun w9 hx => ?_)
 have Y := Y.grow hx
 exact ⟨(al O (bj (Y.g 0 O) (isAgg90 _) (sizeOf90 _)) (al O (aH (Y.g 1 O) (isAgg91 _)) (al O (aH (Y.g 2 O) (isAgg41 _)) ae))), .inl ⟨_, _, hd8, _, O, trivial, Y.ext, St.out (H := []) (Y.select [3] de)⟩⟩
theorem iN {r q : By} {n : Int} (h : rdI r = some (n, q)) : q <:+ r := by
 obtain ⟨_, rfl⟩ := fq h; exact List.suffix_append _ _
theorem u0 {r x q : By} (h : rdS r = some (x, q)) : ∃ n r2, rdI r = some (n, r2) ∧ 0 ≤ n ∧ n ≤ 65536 ∧ n ≤ (r2.length : Int) ∧ x = r2.take n.toNat ∧ q = r2.drop n.toNat ∧ q.length = r2.length - n.toNat := by
 unfold rdS at h
 cases hq : rdI r with
 | none => rw [hq] at h; cases h
 | some p =>
  obtain ⟨n, t⟩ := p
  rw [hq] at h
  simp only at h
  split at h
  ·rename_i hc
   cases h
   exact ⟨n, t, O, hc.1, hc.2.1, hc.2.2, O, O, by rw [yA]⟩
  ·cases h
theorem xq {r : By} (h : rdS r = none) : rdI r = none ∨ ∃ n r2, rdI r = some (n, r2) ∧ (n < 0 ∨ 65536 < n ∨ (r2.length : Int) < n) := by
 unfold rdS at h
 cases hq : rdI r with
 | none => exact .inl rfl
 | some p =>
  obtain ⟨n, t⟩ := p
  rw [hq] at h
  simp only at h
  split at h
  ·cases h
  ·rename_i hc
   exact .inr ⟨n, t, O, by omega⟩
theorem wu {r x q : By} (h : rdS r = some (x, q)) : q <:+ r := by
 obtain ⟨n, r2, hi, _, _, _, _, rfl, _⟩ := u0 h
 exact (List.drop_suffix _ _).trans (iN hi)
theorem wd {s r2 q x : By} {n : Int} (hs : r2 <:+ s) (hx : x = r2.take n.toNat) (h0 : 0 ≤ n) (hn : n ≤ (r2.length : Int)) (hq : q.length = r2.length - n.toNat) : x = (s.drop (s.length - r2.length)).take (s.length - q.length - (s.length - r2.length)) := by
 have := hs.length_le
 rw [← List.suffix_iff_eq_drop.1 hs, hx]
 congr 1
 omega
theorem mU (s : By) (w0 : World) (hs : s.length ≤ 65536) :
  Ret Tryz.prog 61 #[sv s] w0 fun v w => v = .tuple #[sv (putS s), jv 0] ∧ Ext No w0 w := by
 have hpl := bX (s.length : Int)
 refine zN func61 O ntmps61 (lb O) fun a Z Y => ?_
 refine aa fun _ G1 => nv Z <| xL O <| xL O <| fun a Z => G1 <| ah fun _ G2 => ?_
 refine aa fun _ G3 => nv Z <| xK O <| xJ (br O O (runUnderlying9 _)) <| xJ ((v_gt O O).asb (b' := false) A5) <| fun a Z => G3 <| aG Z O ?_
 refine au <| G2 <| aa fun _ G4 => nv Z <| xK O <| xJ (br O O (runUnderlying9 _)) <| fun a Z => aw Z Y call60 O (fk (s.length : Int) _ Af) fun a w1 Z Y => nv Z <| xK O <| xJ (aq O O) <| xJ (aq O O) <| xL O <| xL O <| fun a Z => G4 ?_
 refine aa fun _ G5 => nv (Z.p4 0 2 3 4 O) <| xK O <| xK O <| xJ (cP O O AJ) <| xL O <| xL O <| fun a Z => G5 <| ap ?_
 refine am Z results61 (ag O (ag O ae)) ?_
 exact ⟨by rfl, Y.ext⟩
theorem jI {s r r2 : By} {n z : Int} {w0 : World} (hz : z = ((s.length - r.length : Nat) : Int)) (hsf : r <:+ s) (hsl : s.length ≤ 1000000) (hq : rdI r = some (n, r2)) :
  Ret Tryz.prog 63 #[sv s, jv z] w0 fun v w => v = .tuple #[jv n, jv ((s.length - r2.length : Nat) : Int), jv 0] ∧ Ext No w0 w := by
 subst hz
 have := ik s (s.length - r.length) w0 om hsl
 unfold intV at this
 rw [← List.suffix_iff_eq_drop.1 hsf, hq] at this
 exact this
theorem kh {s r : By} {z : Int} {w0 : World} (hz : z = ((s.length - r.length : Nat) : Int)) (hsf : r <:+ s) (hsl : s.length ≤ 1000000) (hq : rdI r = none) :
  Ret Tryz.prog 63 #[sv s, jv z] w0 fun v w => v = .tuple #[jv 0, jv 0, jv 10] ∧ Ext No w0 w := by
 subst hz
 have := ik s (s.length - r.length) w0 om hsl
 unfold intV at this
 rw [← List.suffix_iff_eq_drop.1 hsf, hq] at this
 exact this
theorem sC (s r x q : By) (z : Int) (w0 : World) (hz : z = ((s.length - r.length : Nat) : Int)) (hsf : r <:+ s) (hsl : s.length ≤ 1000000) (hq : rdS r = some (x, q)) :
  Ret Tryz.prog 65 #[sv s, jv z] w0 fun v w => v = .tuple #[sv x, jv ((s.length - q.length : Nat) : Int), jv 0] ∧ Ext No w0 w := by
 obtain ⟨n, r2, hi, h0, h6, hl, hx, -, hql⟩ := u0 hq
 have hsu := hsf.length_le
 have hsf2 := (iN hi).trans hsf
 have hsu2 := hsf2.length_le
 refine zM func65 O ntmps65 (lb O) fun a Z Y => ?_
 refine aa fun _ G1 => nv Z <| xL O <| xL O <| xL O <| fun a Z => G1 <| aa fun _ G2 => ?_
 refine nv Z <| xK O <| xK O <| fun a Z => aw Z Y call63 O (jI hz hsf hsl hi) fun a w1 Z Y => nv Z <| xK O <| xJ (aq O O) <| xJ (aq O O) <| xJ (aq O O) <| xL O <| xL O <| xL O <| fun a Z => G2 ?_
 refine ah fun _ G3 => aa fun _ G4 => nv (Z.p7 0 4 5 6 7 8 9 O) <| xK O <| xJ ((v_ne O O).asb (b' := false) O) <| fun a Z => G4 <| aG Z O ?_
 refine au <| G3 <| ah fun _ G5 => aa fun _ G6 => nv Z <| xK O <| xJ ((v_lt O O).asb (b' := false) A5) <| xK O <| xM (ay O) <| xM ((v_gt O O).asb (b' := false) A5) <| xJ (ak O O) <| xK O <| xM (ay O) <| xM (ay O) <| xM (br O O (runUnderlying9 _)) <| xM (ay O) <| xM (bH O O ⟨om, om⟩) <| xM ((v_gt O O).asb (b' := false) A5) <| xJ (ak O O) <| fun a Z => G6 ?_
 replace Z := Z.p7 0 4 5 6 7 8 33 O
 refine aG Z O ?_
 refine au <| G5 <| aa fun _ G7 => nv Z <| xK O <| xK O <| xK O <| xK O <| xJ ((aP O O ⟨om, om⟩).asi (m' := ((s.length - q.length : Nat) : Int)) om) <| xJ ((iP (xs := s) (l := s.length - r2.length) (h := s.length - q.length) O O O underlying9 (.inr ⟨.i64, O⟩) (.inr ⟨.i64, O⟩) om om).as (v' := sv x) (by rw [← wd hsf2 hx h0 hl hql])) <| xK O <| xK O <| xJ ((aP O O ⟨om, om⟩).asi (m' := ((s.length - q.length : Nat) : Int)) om) <| xL O <| xL O <| xL O <| fun a Z => G7 ?_
 replace Z := Z.p3 4 5 6 O
 refine ap <| am Z results65 (ag O (ag O (ag O ae))) ?_
 exact ⟨by rfl, Y.ext⟩
theorem ny (s r r2 : By) (n z : Int) (w0 : World) (hz : z = ((s.length - r.length : Nat) : Int)) (hsf : r <:+ s) (hsl : s.length ≤ 1000000) (hi : rdI r = some (n, r2)) (hb : n < 0 ∨ 65536 < n ∨ (r2.length : Int) < n) :
  Ret Tryz.prog 65 #[sv s, jv z] w0 fun v w => v = .tuple #[sv ([] : By), jv 0, jv 10] ∧ Ext No w0 w := by
 have hsu := hsf.length_le
 have hsf2 := (iN hi).trans hsf
 have hsu2 := hsf2.length_le
 refine zM func65 O ntmps65 (lb O) fun a Z Y => ?_
 refine aa fun _ G1 => nv Z <| xL O <| xL O <| xL O <| fun a Z => G1 <| aa fun _ G2 => ?_
 refine nv Z <| xK O <| xK O <| fun a Z => aw Z Y call63 O (jI hz hsf hsl hi) fun a w1 Z Y => nv Z <| xK O <| xJ (aq O O) <| xJ (aq O O) <| xJ (aq O O) <| xL O <| xL O <| xL O <| fun a Z => G2 ?_
 refine ah fun _ G3 => aa fun _ G4 => nv (Z.p7 0 4 5 6 7 8 9 O) <| xK O <| xJ ((v_ne O O).asb (b' := false) O) <| fun a Z => G4 <| aG Z O ?_
 refine au <| G3 <| ah fun _ G5 => aa fun _ G6 => nv Z <| xK O <| xJ (v_lt O O) <| xK O <| fun a Z => ?_
 rcases Decidable.em (n < 0) with hb1 | hb1
 ·rw [xS hb1] at Z
  refine nv Z <| xN <| xN <| xJ (ax O O) <| xK O <| xN <| xN <| xN <| xN <| xN <| xN <| xJ (ax O O) <| fun a Z => G6 ?_
  replace Z := Z.p7 0 4 5 6 7 8 33 O
  refine aK Z O ?_
  refine aa fun _ G7 => nv Z <| xL O <| xL O <| xL O <| fun a Z => G7 <| ap ?_
  refine am Z results65 (ag O (ag O (ag O ae))) ?_
  exact ⟨by rfl, Y.ext⟩
 rw [xW hb1] at Z
 refine nv Z <| xM (ay O) <| xM (v_gt O O) <| xJ (ak O O) <| xK O <| fun a Z => ?_
 rcases Decidable.em (65536 < n) with hb2 | hb2
 ·rw [xS hb2] at Z
  refine nv Z <| xN <| xN <| xN <| xN <| xN <| xN <| xJ (ax O O) <| fun a Z => G6 ?_
  replace Z := Z.p7 0 4 5 6 7 8 33 O
  refine aK Z O ?_
  refine aa fun _ G8 => nv Z <| xL O <| xL O <| xL O <| fun a Z => G8 <| ap ?_
  refine am Z results65 (ag O (ag O (ag O ae))) ?_
  exact ⟨by rfl, Y.ext⟩
 rw [xW hb2] at Z
 refine nv Z <| xM (ay O) <| xM (ay O) <| xM (br O O (runUnderlying9 _)) <| xM (ay O) <| xM (bH O O ⟨om, om⟩) <| xM (v_gt O O) <| xJ (ak O O) <| fun a Z => G6 ?_
 replace Z := Z.p7 0 4 5 6 7 8 33 O
 refine aA Z O (fun hc3 => ?_) (fun hc3 => ?_)
 ·refine aa fun _ G9 => nv Z <| xL O <| xL O <| xL O <| fun a Z => G9 <| ap ?_
  refine am Z results65 (ag O (ag O (ag O ae))) ?_
  exact ⟨by rfl, Y.ext⟩
 exfalso; omega
theorem oW (s r : By) (z : Int) (w0 : World) (hz : z = ((s.length - r.length : Nat) : Int)) (hsf : r <:+ s) (hsl : s.length ≤ 1000000) (hi : rdI r = none) :
  Ret Tryz.prog 65 #[sv s, jv z] w0 fun v w => v = .tuple #[sv ([] : By), jv 0, jv 10] ∧ Ext No w0 w := by
 refine zM func65 O ntmps65 (lb O) fun a Z Y => ?_
 refine aa fun _ G1 => nv Z <| xL O <| xL O <| xL O <| fun a Z => G1 <| aa fun _ G2 => ?_
 refine nv Z <| xK O <| xK O <| fun a Z => aw Z Y call63 O (kh hz hsf hsl hi) fun a w1 Z Y => nv Z <| xK O <| xJ (aq O O) <| xJ (aq O O) <| xJ (aq O O) <| xL O <| xL O <| xL O <| fun a Z => G2 ?_
 refine ah fun _ G3 => aa fun _ G4 => nv (Z.p7 0 4 5 6 7 8 9 O) <| xK O <| xJ ((v_ne O O).asb (b' := true) O) <| fun a Z => G4 <| aK Z O ?_
 refine aa fun _ G5 => nv Z <| xK O <| xL O <| xL O <| xL O <| fun a Z => G5 <| ap ?_
 refine am Z results65 (ag O (ag O (ag O ae))) ?_
 exact ⟨by rfl, Y.ext⟩
theorem pB {s r : By} {z : Int} {w0 : World} (hz : z = ((s.length - r.length : Nat) : Int)) (hsf : r <:+ s) (hsl : s.length ≤ 1000000) (hq : rdS r = none) :
  Ret Tryz.prog 65 #[sv s, jv z] w0 fun v w => v = .tuple #[sv ([] : By), jv 0, jv 10] ∧ Ext No w0 w := by
 rcases xq hq with hi | ⟨n, r2, hi, hb⟩
 ·exact oW s r z w0 hz hsf hsl hi
 ·exact ny s r r2 n z w0 hz hsf hsl hi hb
theorem li (s : By) (w0 : World) (hs : s.length ≤ 65536) :
  Ret Tryz.prog 130 #[sv s] w0 fun v w => v = .tuple #[sv (putS s), jv 0] ∧ Ext No w0 w := by
 have hpl := bX (s.length : Int)
 refine zN func130 O ntmps130 (lb O) fun a Z Y => ?_
 refine aa fun _ G1 => nv Z <| xL O <| xL O <| fun a Z => G1 <| ah fun _ G2 => ?_
 refine aa fun _ G3 => nv Z <| xK O <| xJ (br O O (runUnderlying9 _)) <| xJ ((v_gt O O).asb (b' := false) A5) <| fun a Z => G3 <| aG Z O ?_
 refine au <| G2 <| aa fun _ G4 => nv Z <| xK O <| xJ (br O O (runUnderlying9 _)) <| fun a Z => aw Z Y call129 O (fH (s.length : Int) _ Af) fun a w1 Z Y => nv Z <| xK O <| xJ (aq O O) <| xJ (aq O O) <| xL O <| xL O <| fun a Z => G4 ?_
 refine aa fun _ G5 => nv (Z.p4 0 2 3 4 O) <| xK O <| xK O <| xJ (cP O O AJ) <| xL O <| xL O <| fun a Z => G5 <| ap ?_
 refine am Z results130 (ag O (ag O ae)) ?_
 exact ⟨by rfl, Y.ext⟩
section
variable {ks : List By} {x : Wsh} {ps : List Pxy} {n t : Int}
theorem lD : validH ks x ps n t = true ↔ (¬ formB ks x ps ∧ badIdx ps 0 = none ∧ inB t x.sf (x.st - 1) = true ∧ inB n x.rf (x.rt - 1) = true ∧ cg x.signer x.holder ps 0 = none ∧ bA x none ps 0 = none ∧ bJ ks x ps 0 = none) := by
 unfold validH
 rw [xT]
 constructor
 ·intro h
  by_cases h0 : formB ks x ps
  ·rw [fX h0] at h; cases h
  ·cases hb : badIdx ps 0 with
   | some i => rw [q8 h0 (by rw [jQ, hb]; exact Int.natCast_nonneg i)] at h; cases h
   | none =>
    cases ht : inB t x.sf (x.st - 1) with
    | false => rw [kR h0 hb ht] at h; cases h
    | true =>
     cases hn : inB n x.rf (x.rt - 1) with
     | false => rw [nd h0 hb ht hn] at h; cases h
     | true =>
      have hp : whyP ks x ps n t := ⟨h0, hb, ht, hn⟩
      cases hc : cg x.signer x.holder ps 0 with
      | some i => rw [lO hp hc] at h; cases h
      | none =>
       cases hs : bA x none ps 0 with
       | some i => rw [mF hp hc hs] at h; cases h
       | none =>
        cases hl : bJ ks x ps 0 with
        | some i => rw [gj hp hc hs hl] at h; cases h
        | none => exact ⟨h0, rfl, rfl, rfl, rfl, rfl, rfl⟩
 ·rintro ⟨h0, hb, ht, hn, hc, hs, hl⟩
  rw [kH ⟨h0, hb, ht, hn⟩ hc hs hl]
theorem mP {n0 t0 : Int} (h : validH ks x ps n0 t0 = true) (n t : Int) : whyH ks x ps n t = if inB t x.sf (x.st - 1) = false then (2, -1) else if inB n x.rf (x.rt - 1) = false then (3, -1) else (0, -1) := by
 obtain ⟨h0, hb, _, _, hc, hs, hl⟩ := lD.1 h
 by_cases ht : inB t x.sf (x.st - 1) = false
 ·rw [yl ht, kR h0 hb ht]
 ·rw [yk ht]
  by_cases hn : inB n x.rf (x.rt - 1) = false
  ·rw [yl hn, nd h0 hb (by simpa using ht) hn]
  ·rw [yk hn, kH ⟨h0, hb, by simpa using ht, by simpa using hn⟩ hc hs hl]
theorem lc {n0 t0 : Int} (h : validH ks x ps n0 t0 = true) (n t : Int) : validH ks x ps n t = (inB t x.sf (x.st - 1) && inB n x.rf (x.rt - 1)) := by
 unfold validH
 rw [mP h]
 cases inB t x.sf (x.st - 1) <;> cases inB n x.rf (x.rt - 1) <;> rfl
theorem ki : ∀ {l : List Pxy} {k : Nat}, bJ ks x l k = none → (∀ p ∈ l, ∃ key, keyAt ks p.frm = some key ∧ p.sig = sealH key p.content) ∧ ∃ key, keyAt ks x.signer = some key ∧ x.sig = sealH key x.content
 | [], k, h => by
  rw [bJ] at h
  split at h
  ·rename_i hc
   cases hq : keyAt ks x.signer with
   | none => rw [hq] at hc; cases hc
   | some key => rw [hq] at hc; exact ⟨by simp, key, rfl, by simpa using hc⟩
  ·cases h
 | p :: l, k, h => by
  rw [bJ] at h
  split at h
  ·rename_i hc
   obtain ⟨h1, h2⟩ := ki h
   refine ⟨fun q hq => ?_, h2⟩
   rcases xX.1 hq with rfl | hq
   ·cases he : keyAt ks q.frm with
    | none => rw [he] at hc; cases hc
    | some key => rw [he] at hc; exact ⟨key, rfl, by simpa using hc⟩
   ·exact h1 q hq
  ·cases h
theorem lT {h : Int} {key : By} (hk : keyAt keysH h = some key) : 0 ≤ h ∧ h < 10 ∧ key = keyH h := by
 unfold keyAt at hk
 split at hk
 ·cases hk
 ·rename_i h0
  have hl := (yt.1 hk).1
  rw [l7] at hl
  have h1 : h < 10 := by omega
  have := fp (h := h) om h1
  unfold keyAt at this
  rw [yk h0, hk] at this
  exact ⟨by omega, h1, yW this⟩
end
def Mk (x : Wsh) (ps : List Pxy) : Prop := validH keysH x ps x.rf x.sf = true
section
variable {x : Wsh} {ps : List Pxy}
theorem Mk.pieces (h : Mk x ps) : ¬ formB keysH x ps ∧ badIdx ps 0 = none ∧ cg x.signer x.holder ps 0 = none ∧ bA x none ps 0 = none ∧ bJ keysH x ps 0 = none := by
 obtain ⟨h0, hb, _, _, hc, hs, hl⟩ := lD.1 h
 exact ⟨h0, hb, hc, hs, hl⟩
theorem Mk.ok (h : Mk x ps) : x.ok = true := by
 have := h.pieces.1
 cases hx : x.ok with
 | true => rfl
 | false => exact absurd (.inr (.inr (.inl hx))) this
theorem Mk.len (h : Mk x ps) : ps.length ≤ 4 := Nat.le_of_not_lt fun hl => h.pieces.1 (.inr (.inr (.inr hl)))
theorem Mk.formed (h : Mk x ps) : bU x ps = true := by
 unfold bU
 rw [h.ok, h.pieces.2.1, xS h.len]; rfl
theorem Mk.sgn (h : Mk x ps) : 0 ≤ x.signer ∧ x.signer < 10 ∧ x.sig = sealH (keyH x.signer) x.content := by
 obtain ⟨key, h1, h2⟩ := (ki h.pieces.2.2.2.2).2
 obtain ⟨h3, h4, rfl⟩ := lT h1
 exact ⟨h3, h4, h2⟩
theorem Mk.each (h : Mk x ps) {p : Pxy} (hp : p ∈ ps) : 0 ≤ p.frm ∧ p.frm < 10 ∧ p.sig = sealH (keyH p.frm) p.content ∧ p.ok = true := by
 obtain ⟨key, h1, h2⟩ := (ki h.pieces.2.2.2.2).1 p hp
 obtain ⟨h3, h4, rfl⟩ := lT h1
 exact ⟨h3, h4, h2, dV h.pieces.2.1 p hp⟩
theorem Mk.same (h : Mk x ps) : x.sealed (keyH x.signer) = x := by
 have := h.sgn.2.2
 unfold Wsh.sealed
 rw [← this]
theorem Mk.xsig (h : Mk x ps) : x.sig.length = 32 := by rw [h.sgn.2.2]; exact fj _ _
theorem Mk.psig (h : Mk x ps) : ∀ p ∈ ps, p.sig.length = 32 := fun p hp => by rw [(h.each hp).2.2.1]; exact fj _ _
theorem Mk.enc (h : Mk x ps) : ∃ s, cI x ps = some s := ⟨_, dq.2 ⟨h.formed, h.xsig, h.psig, rfl⟩⟩
theorem Mk.valid (h : Mk x ps) (n t : Int) : validH keysH x ps n t = (inB t x.sf (x.st - 1) && inB n x.rf (x.rt - 1)) := lc h n t
theorem Mk.here (h : Mk x ps) : validH keysH x ps x.rf x.sf = true := h
end
theorem qK (holder r0 r1 s0 s1 carrier serial : Int) (l : List Cin) : Mk (madeW holder r0 r1 s0 s1 carrier serial l) (madeL holder r0 r1 s0 s1 l) := by
 have hb := Wsh.ok_bnd (oD holder r0 r1 s0 s1 carrier serial l)
 unfold Mk validH
 rw [uO, yk, yk]
 ·rfl
 ·simp [inB]; omega
 ·simp [inB]; omega
theorem tJ {holder r0 r1 s0 s1 carrier serial : Int} {cv : Value} {ys : List Cin} {w0 : World} {x : Wsh} {ps : List Pxy} (hx : madeW holder r0 r1 s0 s1 carrier serial ys = x) (hps : madeL holder r0 r1 s0 s1 ys = ps) (hcv : SlAt w0 cv 5 (ys.map Cin.cells)) (hys : ∀ y ∈ ys, y.wt) (h0 : i64 holder) (h1 : i64 r0) (h2 : i64 r1) (h3 : i64 s0) (h4 : i64 s1) (h5 : i64 carrier) (h6 : i64 serial) :
  Ret Tryz.prog 32 #[.agg #[jv holder, jv r0, jv r1, jv s0, jv s1, jv carrier, jv serial, cv]] w0 (MemR w0 (fun v : Value => .tuple #[.agg #[jv x.signer, jv x.holder, jv x.rf, jv x.rt, jv x.carrier, jv x.serial, jv x.sf, jv x.st, sv x.sig], v]) (fun v => [own v 144 7 (ps.map Pxy.cells)]) (fun _ => True)) := by
 subst hx; subst hps
 exact wm holder r0 r1 s0 s1 carrier serial cv ys w0 hcv hys h0 h1 h2 h3 h4 h5 h6
end Go.Proofs.YtliklcmddmpdfaaGreatDoor
namespace Go.Proofs.YtliklcmddmpdfaaGreatDoor
open Go.RowKit Go.PW _root_.Go.Proofs.Tryz
theorem Pxy.ok_bnd {p : Pxy} (h : p.ok = true) : 0 ≤ p.rt ∧ p.rt ≤ 100000000 := by
 simp only [Pxy.ok, cF, xP, xT] at h; omega
theorem xa {x bw : Wsh} {how n : Int} {w0 : World} (hbw : bentW x how n = bw) (hh : -9223372036854775808 ≤ how ∧ how ≤ 9223372036854775807) (hx : x.rt < 9223372036854775807) (hx2 : -9223372036854775808 ≤ x.rt) :
  Ret Tryz.prog 105 #[.agg #[jv x.signer, jv x.holder, jv x.rf, jv x.rt, jv x.carrier, jv x.serial, jv x.sf, jv x.st, sv x.sig], jv how, jv n] w0 fun v w => v = .tuple #[.agg #[jv bw.signer, jv bw.holder, jv bw.rf, jv bw.rt, jv bw.carrier, jv bw.serial, jv bw.sf, jv bw.st, sv bw.sig], .bool (!(decide (bw = x)))] ∧ Ext No w0 w := by
 subst hbw; exact wo x how n w0 hh hx hx2
section
variable {ks : List By} {x : Wsh} {ps : List Pxy} {number t : Int}
theorem tq {k : Nat} (hk : k < ps.length) (h : (ps.getD k Pxy.z).ok = true) : badIdx (ps.drop k) k = badIdx (ps.drop (k + 1)) (k + 1) := by
 rw [dE Pxy.z hk, badIdx, yl h]
theorem mR {k : Nat} (hk : k < ps.length) (h : (ps.getD k Pxy.z).ok = false) : badIdx (ps.drop k) k = some k := by
 rw [dE Pxy.z hk, badIdx, yk (by rw [h]; simp)]
end
theorem pS (x : Wsh) (lv : Value) (ps : List Pxy) (w0 : World) (hlv : SlAt w0 lv 7 (ps.map Pxy.cells)) :
  Ret Tryz.prog 152 #[.agg #[jv x.signer, jv x.holder, jv x.rf, jv x.rt, jv x.carrier, jv x.serial, jv x.sf, jv x.st, sv x.sig], lv] w0 fun v w => v = .bool (bU x ps) ∧ Ext No w0 w := by
 have hxb := hlv.2.1
 simp only [xO, big] at hxb
 refine zM func152 O ntmps152 (lb O) fun a Z Y => ?_
 refine aa fun _ G1 => aS Z Y O [jv x.signer, jv x.holder, jv x.rf, jv x.rt, jv x.carrier, jv x.serial, jv x.sf, jv x.st, sv x.sig] O fun a w1 Z Y => wla Z O fun a Z => G1 <| ah fun _ G2 => ?_
 refine aa fun _ G3 => wlv Z (ao (Y.g 0 O) O (isAgg90 _) (sizeOf90 _)) fun a Z => aw Z Y call135 O (nG x _) fun a w2 Z Y => nv Z <| xJ (bE O) <| xK O <| fun a Z => ?_
 rcases xU (!x.ok) with hb1 | hb1
 ·rw [hb1] at Z
  try simp only [qz] at hb1
  refine nv Z <| xN <| xN <| xN <| xJ (ax O O) <| fun a Z => G3 ?_
  replace Z := Z.p3 1 4 13 O
  replace Y := Y.k0 0 O
  refine aK Z O ?_
  refine aa fun _ G4 => wla Z O fun a Z => G4 <| ap ?_
  refine am Z results152 (ag O ae) ?_
  refine ⟨?_, Y.ext⟩
  simp only [retv]
  unfold bU
  first | (rw [hbi, mR hkx (by simpa using hb1)]; simp; done) | (rw [xW (by omega : ¬ ps.length ≤ 4)]; simp; done) | (rw [(by simpa using hb1 : x.ok = false)]; rfl)
 rw [hb1] at Z
 try simp only [qz] at hb1
 refine nv Z <| xM (ay O) <| xM ((aI (sT := 91) (Y.arg hlv) O O (runUnderlying91 _)).asi (m' := (ps.length : Int)) Ai) <| xM (v_gt O O) <| xJ (ak O O) <| fun a Z => G3 ?_
 replace Z := Z.p3 1 4 13 O
 replace Y := Y.k0 0 O
 refine aA Z O (fun hc2 => ?_) (fun hc2 => ?_)
 ·refine aa fun _ G5 => wla Z O fun a Z => G5 <| ap ?_
  refine am Z results152 (ag O ae) ?_
  refine ⟨?_, Y.ext⟩
  simp only [retv]
  unfold bU
  first | (rw [hbi, mR hkx (by simpa using hc2)]; simp; done) | (rw [xW (by omega : ¬ ps.length ≤ 4)]; simp; done) | (rw [(by simpa using hc2 : x.ok = false)]; rfl)
 refine au <| G2 <| ah fun _ G6 => ?_
 have hxo : x.ok = true := by simpa using hb1
 refine aa fun _ G7 => wla Z O fun a Z => G7 <| ar ?_
 refine aW (fun m a w => ∃ (k : Nat), m = ps.length - k ∧ (k ≤ ps.length) ∧ (badIdx ps 0 = badIdx (ps.drop k) k) ∧ Fr 26 [(1, lv), (5, jv (k : Int))] [] a ∧ St No w0 [] w) _ ⟨0, O, ym _, O, Z.pick [1, 5], Y.select [] de⟩ ?_
 rintro _ a w3 ⟨k, rfl, hk, hbi, Z, Y⟩
 refine ah fun _ G8 => aa fun _ G9 => nv Z <| xK O <| xK O <| xJ ((aI (sT := 91) (Y.arg hlv) O O (runUnderlying91 _)).asi (m' := (ps.length : Int)) Ai) <| xJ (v_lt O O) <| fun a Z => G9 <| aA Z O (fun hc3 => ?_) (fun hc3 => ?_)
 ·have hkx : k < ps.length := by omega
  refine au <| G8 <| ah fun _ G10 => ar <| aa fun _ G11 => nv Z <| xK O <| xK O <| xJ ((aj (i := (k : Int)) (sT := 91) (Y.arg hlv) O O (runUnderlying91 _) (sizeOf144 _) om zY).as (v' := slAddr lv (k * 7)) O) <| xJ ((bP (Y.arg hlv) (i := k) zY O (isAgg144 _) (sizeOf144 _)).as (v' := .agg #[jv ((ps.getD k Pxy.z).frm), jv ((ps.getD k Pxy.z).to), jv ((ps.getD k Pxy.z).rf), jv ((ps.getD k Pxy.z).rt), jv ((ps.getD k Pxy.z).sf), jv ((ps.getD k Pxy.z).st), sv ((ps.getD k Pxy.z).sig)]) AF) <| fun a Z => aw Z Y call132 O (l8 (ps.getD k Pxy.z) _) fun a w4 Z Y => wlv Z (bE O) fun a Z => G11 ?_
  replace Z := Z.p3 1 5 25 O
  refine bt Z O (fun hc4 => ?_) (fun hc4 => ?_)
  ·try simp only [qz] at hc4
   refine aa fun _ G12 => wla Z O fun a Z => G12 <| ap ?_
   refine am Z results152 (ag O ae) ?_
   refine ⟨?_, Y.ext⟩
   simp only [retv]
   unfold bU
   first | (rw [hbi, mR hkx (by simpa using hc4)]; simp; done) | (rw [xW (by omega : ¬ ps.length ≤ 4)]; simp; done) | (rw [(by simpa using hc4 : x.ok = false)]; rfl)
  try simp only [qz] at hc4
  refine au <| G10 <| ai <| nv Z <| xK O <| xJ (aP O O ⟨om, om⟩) <| xL O <| fun a Z => ab ?_
  refine ⟨_, ?_, k + 1, O, om, (by rw [hbi]; exact tq hkx (by simpa using hc4)), Z.pick [1, 5], Y.select [] de⟩
  omega
 have hke : k = ps.length := by omega
 rw [hke, List.drop_length] at hbi
 refine aO <| G6 <| aa fun _ G13 => wla Z O fun a Z => G13 ?_
 replace Z := Z.p1 4 O
 refine ap <| am Z results152 (ag O ae) ?_
 exact ⟨by simp only [retv]; unfold bU; rw [hbi, badIdx, hxo, xS (by omega : ps.length ≤ 4)]; rfl, Y.ext⟩
end Go.Proofs.YtliklcmddmpdfaaGreatDoor
namespace Go.Proofs.YtliklcmddmpdfaaGreatDoor
open Go.RowKit Go.PW _root_.Go.Proofs.Tryz
theorem fF {ps : List Pxy} {k : Nat} (h : ∀ p ∈ ps.take k, p.sig.length = 32) (h4 : ps.length ≤ 4) : (encX ps k).length ≤ 10000 := by
 unfold encX
 have h1 := dQ [(ps.length : Int)]
 have h2 := iR (l := ps.take k) h
 rw [xQ]
 rw [xV] at h2
 simp only [xZ, ya] at h1
 omega
theorem wF {x : Wsh} {ps : List Pxy} {k : Nat} (hk : k < ps.length) (h : ¬ ((ps.getD k Pxy.z).sig.length : Int) = 32) : cI x ps = none := by
 cases he : cI x ps with
 | none => rfl
 | some s =>
  obtain ⟨_, _, h3, _⟩ := dq.1 he
  have := h3 _ (bc (d := Pxy.z) hk)
  omega
theorem uQ {ps : List Pxy} {k : Nat} (h : ∀ p ∈ ps.take k, p.sig.length = 32) (hk : k = ps.length) : ∀ p ∈ ps, p.sig.length = 32 := by
 subst hk; rwa [List.take_length] at h
def encT (x : Wsh) (ps : List Pxy) : By × Int := match cI x ps with
 | some s => (s, 0)
 | none => ([], 150)
theorem enc_T (x : Wsh) (ps : List Pxy) : (match cI x ps with | some s => Value.tuple #[sv s, jv 0] | none => .tuple #[sv [], jv 150]) = .tuple #[sv (encT x ps).1, jv (encT x ps).2] := by
 unfold encT; cases cI x ps <;> rfl
theorem pJ (x : Wsh) (lv : Value) (ps : List Pxy) (w0 : World) (hlv : SlAt w0 lv 7 (ps.map Pxy.cells)) :
  Ret Tryz.prog 106 #[.agg #[jv x.signer, jv x.holder, jv x.rf, jv x.rt, jv x.carrier, jv x.serial, jv x.sf, jv x.st, sv x.sig], lv] w0 fun v w => v = (match cI x ps with | some s => .tuple #[sv s, jv 0] | none => .tuple #[sv [], jv 150]) ∧ Ext No w0 w := by
 have hxb := hlv.2.1
 simp only [xO, big] at hxb
 refine zM func106 O ntmps106 (lb O) fun a Z Y => ?_
 refine aa fun _ G1 => aS Z Y O [jv x.signer, jv x.holder, jv x.rf, jv x.rt, jv x.carrier, jv x.serial, jv x.sf, jv x.st, sv x.sig] O fun a w1 Z Y => nv Z <| xL O <| xL O <| fun a Z => G1 <| ah fun _ G2 => ?_
 refine aa fun _ G3 => nv Z <| xJ (ao (Y.g 0 O) O (isAgg90 _) (sizeOf90 _)) <| xK O <| fun a Z => aw Z Y call152 O (pS x lv ps _ (Y.arg hlv)) fun a w2 Z Y => nv Z <| xJ (bE O) <| xK O <| fun a Z => ?_
 rcases xU (!(bU x ps)) with hb1 | hb1
 ·rw [hb1] at Z
  try simp only [qz] at hb1
  refine nv Z <| xN <| xN <| xN <| xN <| xJ (ax O O) <| fun a Z => G3 ?_
  replace Z := Z.p5 1 2 4 5 17 O
  refine aK Z O ?_
  refine aa fun _ G4 => nv Z <| xL O <| xL O <| fun a Z => G4 <| ap ?_
  refine am Z results106 (ag O (ag O ae)) ?_
  exact ⟨by simp only [retv]; rw [gl (.inl (by simpa using hb1))]; rfl, Y.ext⟩
 rw [hb1] at Z
 try simp only [qz] at hb1
 refine nv Z <| xM (ac (v := pw2 w0.hz 8) O kr) <| xM (ld Y 0 O O (isAgg9 _) O) <| xM (br O O (runUnderlying9 _)) <| xM (v_ne O O) <| xJ (ak O O) <| fun a Z => G3 ?_
 replace Z := Z.p5 1 2 4 5 17 O
 refine dk Z O (fun hc2 => ?_) (fun hc2 => ?_)
 ·refine aa fun _ G5 => nv Z <| xL O <| xL O <| fun a Z => G5 <| ap ?_
  refine am Z results106 (ag O (ag O ae)) ?_
  exact ⟨by simp only [retv]; rw [gl (.inr (.inl (by simpa using hc2)))]; rfl, Y.ext⟩
 refine au <| G2 ?_
 have hfo : bU x ps = true := by simpa using hb1
 have hsx : x.sig.length = 32 := by omega
 have h4 := gM hfo
 have hxo := kF hfo
 refine aa fun _ G6 => nv Z <| xK O <| xJ ((aI (sT := 91) (Y.arg hlv) O O (runUnderlying91 _)).asi (m' := (ps.length : Int)) Ai) <| fun a Z => aE (E := 3) (sz := 1) O [[jv (ps.length : Int)]] kr sm O de de Z Y fun a w3 Z Y => aw Z Y call97 O (kg [(ps.length : Int)] (.slice (some ⟨w2.hz, 0, none⟩) 1 1) _ (Y.ow 0 O) (by intro z hz; rw [yo.1 hz]; unfold small; omega) sm) fun a w4 Z Y => wla Z O fun a Z => G6 <| ah fun _ G7 => ?_
 refine aa fun _ G8 => wla Z O fun a Z => G8 <| ar ?_
 have hz0 : puts [(ps.length : Int)] = encX ps 0 := by unfold encX; simp
 rw [hz0] at Z
 refine aW (fun m a w => ∃ (k : Nat), m = ps.length - k ∧ (k ≤ ps.length) ∧ (∀ p ∈ ps.take k, p.sig.length = 32) ∧ Fr 55 [(1, lv), (2, pq w0.hz), (7, jv (k : Int)), (6, sv (encX ps k))] [] a ∧ St No w0 [blk w0.hz [jv x.signer, jv x.holder, jv x.rf, jv x.rt, jv x.carrier, jv x.serial, jv x.sf, jv x.st, sv x.sig] 90] w) _ ⟨0, O, ym _, sm, Z.pick [1, 2, 7, 6], Y.select [1] de⟩ ?_
 rintro _ a w5 ⟨k, rfl, hk, hsg, Z, Y⟩
 refine ah fun _ G9 => aa fun _ G10 => nv Z <| xK O <| xK O <| xJ ((aI (sT := 91) (Y.arg hlv) O O (runUnderlying91 _)).asi (m' := (ps.length : Int)) Ai) <| xJ (v_lt O O) <| fun a Z => G10 <| aA Z O (fun hc3 => ?_) (fun hc3 => ?_)
 ·have hkx : k < ps.length := by omega
  have hpk := kl hfo _ (bc (d := Pxy.z) hkx)
  refine au <| G9 <| ah fun _ G11 => ar <| ah fun _ G12 => aa fun _ G13 => nv Z <| xK O <| xK O <| xJ ((aj (i := (k : Int)) (sT := 91) (Y.arg hlv) O O (runUnderlying91 _) (sizeOf144 _) om zY).as (v' := slAddr lv (k * 7)) O) <| xJ (bI (k := k * 7) (j := 6) (Y.arg hlv) (i := k) zY O (fun _ _ => by kernel_rfl)) <| xJ (aB (u := sv ((ps.getD k Pxy.z).sig)) (i := k) (j := 6) (Y.arg hlv) zY O (isAgg9 _) AF) <| xJ (br O O (runUnderlying9 _)) <| xJ (v_ne O O) <| fun a Z => G13 ?_
  replace Z := Z.p5 1 2 7 6 34 O
  refine dk Z O (fun hc4 => ?_) (fun hc4 => ?_)
  ·refine aa fun _ G14 => nv Z <| xL O <| xL O <| fun a Z => G14 <| ap ?_
   refine am Z results106 (ag O (ag O ae)) ?_
   exact ⟨by simp only [retv]; rw [wF hkx hc4]; rfl, Y.ext⟩
  have hsk : (ps.getD k Pxy.z).sig.length = 32 := by omega
  refine au <| G12 <| aL (aN fun w6 hxz => ?_)
  replace Y := Y.grow hxz
  refine aU (k := 0) 12 [6, 11] Z ?_
  replace Z := Z.p4 1 2 7 6 O
  refine bN 12 Z Y <| pl_m O <| pl_m O <| pl_m O <| pl_w (fun Y => (aj (i := (k : Int)) (sT := 91) (Y.arg hlv) O O (runUnderlying91 _) (sizeOf144 _) om zY).as (v' := slAddr lv (k * 7)) O) <| pl_w (fun Y => (bP (Y.arg hlv) (i := k) zY O (isAgg144 _) (sizeOf144 _)).as (v' := .agg #[jv ((ps.getD k Pxy.z).frm), jv ((ps.getD k Pxy.z).to), jv ((ps.getD k Pxy.z).rf), jv ((ps.getD k Pxy.z).rt), jv ((ps.getD k Pxy.z).sf), jv ((ps.getD k Pxy.z).st), sv ((ps.getD k Pxy.z).sig)]) AF) <| pl_r (fun Y => bF call134 O (ig (ps.getD k Pxy.z) _ (Pxy.smalls_of hpk))) ?_
  refine pl_v (cP O O At) <| pl_m O <| pl_m O <| pl_w (fun Y => (aj (i := (k : Int)) (sT := 91) (Y.arg hlv) O O (runUnderlying91 _) (sizeOf144 _) om zY).as (v' := slAddr lv (k * 7)) O) <| pl_w (fun Y => bI (k := k * 7) (j := 6) (Y.arg hlv) (i := k) zY O (fun _ _ => by kernel_rfl)) <| pl_w (fun Y => aB (u := sv ((ps.getD k Pxy.z).sig)) (i := k) (j := 6) (Y.arg hlv) zY O (isAgg9 _) AF) fun a w7 Z Y => ?_
  replace Z := Z.p5 1 2 7 41 46 O
  refine ab <| aM (k := 12) 14 [13] ?_
  refine nv Z <| xJ (cP O O At) <| xL O <| fun a Z => ab <| aT <| G11 <| ai <| nv Z <| xK O <| xJ (aP O O ⟨om, om⟩) <| xL O <| fun a Z => ab ?_
  rw [show ((encX ps k) ++ ((ps.getD k Pxy.z).content)) ++ ((ps.getD k Pxy.z).sig) = encX ps (k + 1) from by rw [lS hkx]] at Z
  refine ⟨_, ?_, k + 1, O, om, (by intro p hp; rw [cz Pxy.z hkx] at hp; rcases yV.1 hp with hp | hp; exact hsg p hp; rw [yo.1 hp]; exact hsk), Z.pick [1, 2, 7, 6], Y.select [0] de⟩
  omega
 have hke : k = ps.length := by omega
 have hal := uQ hsg hke
 refine aO <| G7 <| ah fun _ G15 => aL (aN fun w8 hxz => ?_)
 replace Y := Y.grow hxz
 refine aU (k := 0) 6 [3, 5] Z ?_
 refine bN 6 (Z.p7 1 2 7 6 22 23 24 O) Y <| pl_m O <| pl_w (fun Y => ao (Y.g 0 O) O (isAgg90 _) (sizeOf90 _)) <| pl_r (fun Y => bF call37 O (eA x _ (Wsh.smalls_of hxo))) <| pl_v (cP O O At) <| pl_v (ac (v := pw2 w0.hz 8) O kr) <| pl_w (fun Y => ld Y 0 O O (isAgg9 _) O) fun a w9 Z Y => ?_
 replace Z := Z.p2 51 53 O
 refine ab <| aM (k := 6) 9 [8] ?_
 refine nv Z <| xJ (cP O O At) <| xL O <| xL O <| fun a Z => ab <| aT <| G15 <| ap <| am Z results106 (ag O (ag O ae)) ?_
 exact ⟨by simp only [retv]; rw [qQ hfo hsx hal, hke]; try rfl, Y.ext⟩
theorem lA {x : Wsh} {lv : Value} {ps : List Pxy} {t : By} {e : Int} {w0 : World} (h : encT x ps = (t, e)) (hlv : SlAt w0 lv 7 (ps.map Pxy.cells)) : Ret Tryz.prog 106 #[.agg #[jv x.signer, jv x.holder, jv x.rf, jv x.rt, jv x.carrier, jv x.serial, jv x.sf, jv x.st, sv x.sig], lv] w0 fun v w => v = .tuple #[sv t, jv e] ∧ Ext No w0 w := by
 have := pJ x lv ps w0 hlv
 rw [enc_T, h] at this
 exact this
theorem tP {f : FuncId} {args : Array Value} {w : World} {a b : Value} (h : a = b) (hr : Ret Tryz.prog f args w fun v w' => v = a ∧ Ext No w w') : Ret Tryz.prog f args w fun v w' => v = b ∧ Ext No w w' := by subst h; exact hr
theorem cw {f : FuncId} {args : Array Value} {w : World} {b c : Bool} (h : b = c) (hr : Ret Tryz.prog f args w fun v w' => v = .bool b ∧ Ext No w w') : Ret Tryz.prog f args w fun v w' => v = .bool c ∧ Ext No w w' := by subst h; exact hr
theorem eB {f : FuncId} {args : Array Value} {w : World} {b c : Int} (h : b = c) (hr : Ret Tryz.prog f args w fun v w' => v = jv b ∧ Ext No w w') : Ret Tryz.prog f args w fun v w' => v = jv c ∧ Ext No w w' := by subst h; exact hr
def Cas.cells (x : Cas) : List Value := [jv x.n, jv x.t, sv x.ev]
def cE (x : Cas) : Int := if x.ok = true then 0 else 210
theorem qu {acc : List Int} {m : Nat} {r q : By} {n : Int} (h : rdI r = some (n, q)) : decC acc (m + 1) r = decC (acc ++ [n]) m q := by
 unfold decC; rw [nK h]
 cases intsR m q with
 | none => rfl
 | some p => obtain ⟨l, t⟩ := p; simp
theorem nT {acc : List Int} {m : Nat} {r : By} (h : rdI r = none) : decC acc (m + 1) r = none := by unfold decC; rw [rI h]
theorem tR {s : By} : decCas s = decC [] 2 s := rfl
theorem px {P : Program} {w : World} {L : List (Nat × Value)} {dst : Option Tmp} {T T' ty : TypeId} {pos : String} {af : Array Edge} {x y : Operand} (hx : ev L x = some .nilIface) (hy : ev L y = some .nilIface) (hr : (binOp .eql T .nilIface .nilIface).run P w = .ok (.bool true) w) (hg : (eqGuard .eql T x y .nilIface .nilIface).run P w = .ok () w) : OpV P ⟨dst, .binOp .eql T x y T', ty, pos, af, none⟩ L w (.bool true) :=
 ⟨rfl, fun N df a h => by
  simp only [execOp, h.eval hx, h.eval hy, yu, hg, hr, yj]; rfl⟩
theorem di (n lo hi : Int) (w0 : World) :
  Ret Tryz.prog 49 #[jv n, jv lo, jv hi] w0 fun v w => v = .bool (inB n lo hi) ∧ Ext No w0 w := by
 refine zO func49 O ntmps49 (lb O) fun a Z Y => ?_
 refine aa fun _ G1 => wla Z O fun a Z => G1 <| aa fun _ G2 => ?_
 refine nv Z <| xK O <| xK O <| xJ (v_le O O) <| xK O <| fun a Z => dj (N := 15) (df := []) 4 [(14, .bool ((decide (lo ≤ n)) && (decide (n ≤ hi)))), (0, jv n), (1, jv lo), (2, jv hi), (6, .bool false)] ?_ (fun hj => ?_)
 rotate_left
 ·rcases xU (decide (lo ≤ n)) with hb1 | hb1
  ·rw [hb1] at Z
   have hb1b := hb1
   try simp only [qz, xP, yh, yd, yg] at hb1
   refine nv Z <| xM (ay O) <| xM (ay O) <| xM (v_le O O) <| xJ (ax O O) <| fun a Z => hj _ ?_
   try rw [hb1b]
   exact Z.pick [14, 0, 1, 2, 6]
  rw [hb1] at Z
  have hb1b := hb1
  try simp only [qz, xP, yh, yd, yg] at hb1
  refine nv Z <| xN <| xN <| xN <| xJ (ak O O) <| fun a Z => hj _ ?_
  try rw [hb1b]
  exact Z.pick [14, 0, 1, 2, 6]
 intro a Z
 refine wla Z O fun a Z => G2 <| ap ?_
 refine am Z results49 (ag O ae) ?_
 exact ⟨by rfl, Y.ext⟩
theorem gP (x : Cas) (w0 : World) :
  Ret Tryz.prog 59 #[.agg #[jv x.n, jv x.t, sv x.ev]] w0 fun v w => v = .bool x.ok ∧ Ext No w0 w := by
 refine zN func59 O ntmps59 (lb O) fun a Z Y => ?_
 refine aa fun _ G1 => aS Z Y O [jv x.n, jv x.t, sv x.ev] O fun a w1 Z Y => wla Z O fun a Z => G1 <| aa fun _ G2 => ?_
 refine nv Z <| xJ (ac (v := pq w0.hz) O kr) <| xJ (ld Y 0 O O (isAgg3 _) O) <| fun a Z => aw Z Y call49 O (di x.n 0 99999999 _) fun a w2 Z Y => wlm Z O fun a Z => ?_
 rcases xU (inB x.n 0 99999999) with hb1 | hb1
 ·rw [hb1] at Z
  refine nv Z <| xM (ac (v := pw2 w0.hz 1) O kr) <| xM (ld Y 0 O O (isAgg3 _) O) <| fun a Z => aF Z Y call49 O (di x.t 0 10000000 _) fun a w3 Z Y => nv Z <| xJ (ax O O) <| xK O <| fun a Z => ?_
  rcases xU (inB x.t 0 10000000) with hb2 | hb2
  ·rw [hb2] at Z
   refine nv Z <| xM (ac (v := pw2 w0.hz 2) O kr) <| xM (ld Y 0 O O (isAgg9 _) O) <| xM (br O O (runUnderlying9 _)) <| xM (v_le O O) <| xJ (ax O O) <| xL O <| fun a Z => G2 ?_
   replace Z := Z.p1 2 O
   replace Y := Y.k0 0 O
   refine ap <| am Z results59 (ag O ae) ?_
   refine ⟨?_, Y.ext⟩
   simp only [retv]
   refine yr Value.bool ?_
   unfold Cas.ok
   simp only [hb1, hb2, zb]
   exact decide_eq_decide.2 om
  rw [hb2] at Z
  refine nv Z <| xN <| xN <| xN <| xN <| xJ (ak O O) <| xL O <| fun a Z => G2 ?_
  replace Z := Z.p1 2 O
  replace Y := Y.k0 0 O
  refine ap <| am Z results59 (ag O ae) ?_
  refine ⟨?_, Y.ext⟩
  simp only [retv]
  refine yr Value.bool ?_
  unfold Cas.ok
  simp only [hb1, hb2, zb, zw]
 rw [hb1] at Z
 refine nv Z <| xN <| xN <| xN <| xJ (ak O O) <| xK O <| xN <| xN <| xN <| xN <| xJ (ak O O) <| xL O <| fun a Z => G2 ?_
 replace Z := Z.p1 2 O
 replace Y := Y.k0 0 O
 refine ap <| am Z results59 (ag O ae) ?_
 refine ⟨?_, Y.ext⟩
 simp only [retv]
 refine yr Value.bool ?_
 unfold Cas.ok
 simp only [hb1, zb, zw]
theorem vI (x : Cas) (w0 : World) :
  Ret Tryz.prog 19 #[.agg #[jv x.n, jv x.t, sv x.ev]] w0 fun v w => v = .tuple #[sv (encP x), jv (cE x)] ∧ Ext No w0 w := by
 refine zN func19 O ntmps19 (lb O) fun a Z Y => ?_
 refine aa fun _ G1 => aS Z Y O [jv x.n, jv x.t, sv x.ev] O fun a w1 Z Y => nv Z <| xL O <| xL O <| fun a Z => G1 <| ah fun _ G2 => ?_
 refine aa fun _ G3 => wlv Z (ao (Y.g 0 O) O (isAgg55 _) (sizeOf55 _)) fun a Z => aw Z Y call59 O (gP x _) fun a w2 Z Y => wlv Z (bE O) fun a Z => G3 <| bt Z O (fun hc1 => ?_) (fun hc1 => ?_)
 ·try simp only [qz] at hc1
  refine aa fun _ G4 => nv Z <| xL O <| xL O <| fun a Z => G4 <| ap ?_
  refine am Z results19 (ag O (ag O ae)) ?_
  exact ⟨by simp only [retv]; unfold encP cE; rw [yk (by rw [hc1]; decide), yk (by rw [hc1]; decide)]; rfl, Y.ext⟩
 try simp only [qz] at hc1
 have hbd := Cas.bnd hc1
 have hl1 := bX x.n
 have hl2 := bX x.t
 have hl3 := bX (x.ev.length : Int)
 have hl4 : (putS x.ev).length ≤ 1000 := by unfold putS; rw [xQ]; omega
 refine au <| G2 <| aa fun _ G5 => nv Z <| xJ (ac (v := pq w0.hz) O kr) <| xJ (ld Y 0 O O (isAgg3 _) O) <| fun a Z => aw Z Y call60 O (fk x.n _ Af) fun a w3 Z Y => nv Z <| xK O <| xJ (aq O O) <| xJ (aq O O) <| xL O <| xL O <| fun a Z => G5 ?_
 refine aa fun _ G6 => nv (Z.p4 1 2 3 4 O) <| xJ (ac (v := pw2 w0.hz 1) O kr) <| xJ (ld Y 0 O O (isAgg3 _) O) <| fun a Z => aw Z Y call60 O (fk x.t _ Af) fun a w4 Z Y => nv Z <| xK O <| xJ (aq O O) <| xJ (aq O O) <| xL O <| xL O <| fun a Z => G6 ?_
 refine aa fun _ G7 => nv (Z.p5 1 2 3 4 6 O) <| xJ (ac (v := pw2 w0.hz 2) O kr) <| xJ (ld Y 0 O O (isAgg9 _) O) <| fun a Z => aw Z Y call61 O (mU x.ev _ om) fun a w5 Z Y => nv Z <| xK O <| xJ (aq O O) <| xJ (aq O O) <| xL O <| xL O <| fun a Z => G7 ?_
 replace Y := Y.k0 0 O
 refine aa fun _ G8 => nv (Z.p5 2 3 4 6 8 O) <| xK O <| xK O <| xJ (cP O O AJ) <| xK O <| xJ (cP O O AJ) <| xL O <| xL O <| fun a Z => G8 ?_
 replace Z := Z.p2 2 3 O
 refine ap <| am Z results19 (ag O (ag O ae)) ?_
 exact ⟨by simp only [retv]; unfold encP cE; rw [yl hc1, yl hc1]; simp [Cas.enc, puts], Y.ext⟩
theorem kK (w0 : World) :
  Ret Tryz.prog 64 #[jv 0] w0 fun v w => v = .tuple #[] ∧ Ext No w0 w := by
 refine zN func64 O ntmps64 (lb O) fun a Z Y => ?_
 refine aa fun _ G1 => nv Z <| xK O <| xJ ((v_ne O O).asb (b' := false) O) <| fun a Z => G1 <| aG Z O ?_
 refine au <| cQ Z results64 ae ?_
 exact ⟨by rfl, Y.ext⟩
theorem jf (w0 : World) :
  Pan Tryz.prog 64 #[jv 10] w0 fun c w => c = [{ v := .iface 126 (.agg #[]), recovered := false }] ∧ Ext No w0 w := by
 refine mL func64 O ntmps64 (lb O) fun a Z => ?_
 replace Y : St No w0 [] w0 := St.init w0
 refine aa fun _ G1 => nv (Z.p1 0 O) <| xK O <| xJ ((v_ne O O).asb (b' := true) O) <| fun a Z => G1 <| aK Z O ?_
 refine bC <| aR 2 ?_
 refine nv Z <| xJ (aX (v := .agg #[]) O kr) <| xJ (cV O underlying126) <| fun a Z => ab <| dR Z O ?_
 exact eH (X := fun c w => c = [{ v := .iface 126 (.agg #[]), recovered := false }] ∧ Ext No w0 w) Z ⟨O, Y.ext⟩
theorem fu {M : Nat → Prop} {w0 : World} (b2 b3 : Nat) (c0 c1 c2 c5 : Value) (ws : World) (Y : St M w0 [blk b2 [c0, c1, c2] 55, blk b3 [c5] 41] ws) :
  CallsDIn Fence.wide 0 Tryz.prog 62 #[pq b2, pq b3] (.panicking [{ v := .iface 126 (.agg #[]), recovered := false }]) ws fun e u' w => u' = (.panicking [{ v := .iface 126 (.agg #[]), recovered := true }]) ∧ ∃ x, e = .returned x ∧ St M w0 [blk b2 [jv 0, jv 0, sv ([] : By)] 55, blk b3 [jv 210] 41] w  := by
 refine ne (args := [pq b2, pq b3]) func62 O ntmps62 (lb O) O O de (fun _ _ => O) (.inr ⟨O, O⟩) fun a Z => ?_
 replace Z := Z.p3 5 0 1 O
 skip
 refine ar <| aa fun _ G1 => wlv Z (kO O O kr kr) fun a Z => G1 <| aG Z O ?_
 refine aa fun _ G2 => nv Z <| xJ (ij O underlying126) <| xJ (aq O O) <| xJ (aq O O) <| fun a Z => G2 <| aK Z O ?_
 refine aa fun _ G3 => aD Z Y (zeroValue126 _) [] O fun a w1 Z Y => az 0 Z Y [] O (sizeOf126 _) fun a w2 Z Y => G3 ?_
 replace Y := Y.k2 6 O
 refine ai <| wlv (Z.p2 0 1 O) (aX (v := .agg #[jv 0, jv 0, .string (⟨#[]⟩)]) O kr) fun a Z => az 0 Z Y [jv 0, jv 0, .string (⟨#[]⟩)] O (sizeOf55 _) fun a w3 Z Y => az 1 Z Y [jv 210] O (sizeOf41 _) fun a w4 Z Y => ab ?_
 refine iH Z results62 ae ?_
 exact Y.select [0, 1] de
theorem rP (b2 b3 : Nat) (ws : World) :
  CallsDIn Fence.wide 0 Tryz.prog 62 #[pq b2, pq b3] .returning ws fun e u' w => u' = .returning ∧ ∃ x, e = .returned x ∧ Ext No ws w  := by
 refine ne (args := [pq b2, pq b3]) func62 O ntmps62 (lb O) O O de (fun _ _ => O) (.inl ⟨O, O, O⟩) fun a Z => ?_
 replace Y : St No ws [] ws := St.init ws
 refine ar <| aa fun _ G1 => wlv (Z.p3 5 0 1 O) (px O O kr kr) fun a Z => G1 <| aK Z O ?_
 refine ai <| wla Z O fun a Z => ab ?_
 refine iH Z results62 ae ?_
 exact Y.ext
theorem t7 (s : By) (w0 : World) (hsl : s.length ≤ 1000000) :
  Ret Tryz.prog 20 #[sv s] w0 fun v w => v = .tuple #[.agg (dcX s).cells.toArray, jv (dcE s)] ∧ Ext No w0 w := by
 refine qT func20 O ntmps20 (lb O) fun a Z => ?_
 replace Y : St No w0 [] w0 := St.init w0
 refine aa fun _ G1 => aD (Z.p1 0 O) Y (zeroValue55 _) [jv 0, jv 0, .string (⟨#[]⟩)] O fun a w1 Z Y => aD Z Y (zeroValue41 _) [jv 0] O fun a w2 Z Y => G1 <| aa fun _ G2 => ?_
 refine wlv Z (cd O O) fun a Z => oe Z O fun a Z => G2 <| aa fun _ G3 => ?_
 refine wlm Z O fun a Z => ?_
 rcases xU ((rdI s).isSome) with hb1 | hb1
 ·obtain ⟨⟨n1, r1⟩, hq1⟩ := yZ.1 hb1
  have hd1 := tR.trans (qu hq1)
  have hsf1 := (iN hq1).trans (List.suffix_refl s)
  refine aw Z Y call63 O (jI sm (List.suffix_refl s) hsl hq1) fun a w3 Z Y => nv Z <| xK O <| xJ (aq O O) <| xJ (aq O O) <| xJ (aq O O) <| xL O <| xL O <| xL O <| fun a Z => G3 ?_
  replace Z := Z.p6 0 2 3 4 5 6 O
  refine bS fun _ G4 hP4 => aR 1 ?_
  refine wlm Z O fun a Z => ab <| aR 1 ?_
  refine aw Z Y call64 O (kK _) fun a w4 Z Y => ab <| dC <| G4 <| aa fun _ G5 => ?_
  refine nv Z <| xK O <| xK O <| fun a Z => ?_
  rcases xU ((rdI r1).isSome) with hb2 | hb2
  ·obtain ⟨⟨n2, r2⟩, hq2⟩ := yZ.1 hb2
   have hd2 := hd1.trans (qu hq2)
   have hsf2 := (iN hq2).trans hsf1
   refine aw Z Y call63 O (jI O hsf1 hsl hq2) fun a w5 Z Y => nv Z <| xK O <| xJ (aq O O) <| xJ (aq O O) <| xJ (aq O O) <| xL O <| xL O <| xL O <| fun a Z => G5 ?_
   replace Z := Z.p7 0 2 3 4 7 5 6 O
   refine bS fun _ G6 hP6 => aR 1 ?_
   refine wlm Z O fun a Z => ab <| aR 1 ?_
   refine aw Z Y call64 O (kK _) fun a w6 Z Y => ab <| dC <| G6 <| aa fun _ G7 => ?_
   refine nv Z <| xK O <| xK O <| fun a Z => ?_
   rcases xU ((rdS r2).isSome) with hb3 | hb3
   ·obtain ⟨⟨x9, r3⟩, hq3⟩ := yZ.1 hb3
    have hd3 := hd2.trans (td.trans (un hq3))
    have hsf3 := (wu hq3).trans hsf2
    refine aw Z Y call65 O (sC s r2 x9 r3 _ _ O hsf2 hsl hq3) fun a w7 Z Y => nv Z <| xK O <| xJ (aq O O) <| xJ (aq O O) <| xJ (aq O O) <| xL O <| xL O <| xL O <| fun a Z => G7 ?_
    replace Z := Z.p8 0 2 3 4 7 8 5 6 O
    refine bS fun _ G8 hP8 => aR 1 ?_
    refine wlm Z O fun a Z => ab <| aR 1 ?_
    refine aw Z Y call64 O (kK _) fun a w8 Z Y => ab <| dC <| G8 <| aa fun _ G9 => ?_
    refine nv Z <| xK O <| xK O <| xK O <| xJ (aX (v := .agg #[jv n1, jv n2, sv x9]) O kr) <| fun a Z => az 1 Z Y [jv n1, jv n2, sv x9] O (sizeOf55 _) fun a w9 Z Y => G9 ?_
    refine ah fun _ G10 => aa fun _ G11 => nv (Z.p4 0 2 3 5 O) <| xK O <| xK O <| xJ (br O O (runUnderlying9 _)) <| xJ (v_ne O O) <| xK O <| fun a Z => ?_
    rcases (Decidable.em (((s.length - r3.length : Nat) : Int) = (s.length : Int))).symm with hb4 | hb4
    ·rw [xW hb4] at Z
     have hdn := hd3.trans (sH (by intro h0; have h1 := yr List.length h0; rw [ya] at h1; omega))
     refine nv Z <| xN <| xN <| xN <| xJ (ax O O) <| fun a Z => G11 ?_
     replace Z := Z.p3 2 3 48 O
     refine aK Z O ?_
     refine bC <| aR 2 ?_
     refine nv Z <| xJ (aX (v := .agg #[]) O kr) <| xJ (cV O underlying126) <| fun a Z => ab <| dR Z O ?_
     replace Y := Y.s2 [1, 0] de rfl
     exact bu Z call62 (fu _ _ _ _ _ _ _ Y) results20 (fun w9 Y => ⟨(al O (bj (Y.g 0 O) (isAgg55 _) (sizeOf55 _)) (al O (aH (Y.g 1 O) (isAgg41 _)) ae)), by simp only [retv]; unfold dcX dcE; rw [hdn]; rfl, Y.ext⟩)
    rw [xS hb4] at Z
    have hqn : r3 = [] := yE (by have := hsf3.length_le; omega)
    refine wly Z (ao (Y.g 1 O) O (isAgg55 _) (sizeOf55 _)) fun a Z => aF Z Y call59 O (gP (⟨n1, n2, x9⟩ : Cas) _) fun a w10 Z Y => nv Z <| xM (bE O) <| xJ (ak O O) <| fun a Z => G11 ?_
    replace Z := Z.p3 2 3 48 O
    refine bt Z O (fun hc5 => ?_) (fun hc5 => ?_)
    ·try simp only [qz] at hc5
     have hdn := hd3.trans (sk (by exact hc5))
     refine bC <| aR 2 ?_
     refine nv Z <| xJ (aX (v := .agg #[]) O kr) <| xJ (cV O underlying126) <| fun a Z => ab <| dR Z O ?_
     replace Y := Y.s2 [1, 0] de rfl
     exact bu Z call62 (fu _ _ _ _ _ _ _ Y) results20 (fun w9 Y => ⟨(al O (bj (Y.g 0 O) (isAgg55 _) (sizeOf55 _)) (al O (aH (Y.g 1 O) (isAgg41 _)) ae)), by simp only [retv]; unfold dcX dcE; rw [hdn]; rfl, Y.ext⟩)
    try simp only [qz] at hc5
    have hds := hd3.trans (su hqn (by exact hc5))
    refine au <| G10 <| aa fun _ G12 => wlv Z (ao (Y.g 1 O) O (isAgg55 _) (sizeOf55 _)) fun a Z => az 1 Z Y [jv n1, jv n2, sv x9] O (sizeOf55 _) fun a w11 Z Y => az 0 Z Y [jv 0] O (sizeOf41 _) fun a w12 Z Y => G12 <| ap ?_
    refine oS (vs := [.agg #[jv n1, jv n2, sv x9], jv 0]) Z call62 (rP _ _ _) results20 (fun w9 hx => ?_)
    have Y := Y.grow hx
    exact ⟨(al O (bj (Y.g 1 O) (isAgg55 _) (sizeOf55 _)) (al O (aH (Y.g 0 O) (isAgg41 _)) ae)), by simp only [retv]; unfold dcX dcE; rw [hds]; rfl, Y.ext⟩
   have hq3 : rdS r2 = none := by
    cases h : rdS r2 with
    | none => rfl
    | some z => rw [h] at hb3; cases hb3
   have hdn := hd2.trans (td.trans (ry hq3))
   refine aw Z Y call65 O (pB O hsf2 hsl hq3) fun a w13 Z Y => nv Z <| xK O <| xJ (aq O O) <| xJ (aq O O) <| xJ (aq O O) <| xL O <| xL O <| xL O <| fun a Z => G7 ?_
   replace Z := Z.p8 0 2 3 4 7 8 5 6 O
   refine bS fun _ G13 hP13 => aR 1 ?_
   refine wlm Z O fun a Z => ab <| m7 (X := fun c w2 => c = [{ v := .iface 126 (.agg #[]), recovered := false }] ∧ Ext No w13 w2) Z call64 O (jf _) ?_
   rintro _ w14 ⟨rfl, hx⟩
   have Y := Y.grow hx
   refine hP13 _ _ _ ?_
   replace Y := Y.s2 [1, 0] de rfl
   exact bu Z call62 (fu _ _ _ _ _ _ _ Y) results20 (fun w9 Y => ⟨(al O (bj (Y.g 0 O) (isAgg55 _) (sizeOf55 _)) (al O (aH (Y.g 1 O) (isAgg41 _)) ae)), by simp only [retv]; unfold dcX dcE; rw [hdn]; rfl, Y.ext⟩)
  have hq2 : rdI r1 = none := by
   cases h : rdI r1 with
   | none => rfl
   | some z => rw [h] at hb2; cases hb2
  have hdn := hd1.trans (nT hq2)
  refine aw Z Y call63 O (kh O hsf1 hsl hq2) fun a w15 Z Y => nv Z <| xK O <| xJ (aq O O) <| xJ (aq O O) <| xJ (aq O O) <| xL O <| xL O <| xL O <| fun a Z => G5 ?_
  replace Z := Z.p7 0 2 3 4 7 5 6 O
  refine bS fun _ G14 hP14 => aR 1 ?_
  refine wlm Z O fun a Z => ab <| m7 (X := fun c w2 => c = [{ v := .iface 126 (.agg #[]), recovered := false }] ∧ Ext No w15 w2) Z call64 O (jf _) ?_
  rintro _ w16 ⟨rfl, hx⟩
  have Y := Y.grow hx
  refine hP14 _ _ _ ?_
  replace Y := Y.s2 [1, 0] de rfl
  exact bu Z call62 (fu _ _ _ _ _ _ _ Y) results20 (fun w9 Y => ⟨(al O (bj (Y.g 0 O) (isAgg55 _) (sizeOf55 _)) (al O (aH (Y.g 1 O) (isAgg41 _)) ae)), by simp only [retv]; unfold dcX dcE; rw [hdn]; rfl, Y.ext⟩)
 have hq1 : rdI s = none := by
  cases h : rdI s with
  | none => rfl
  | some z => rw [h] at hb1; cases hb1
 have hdn := tR.trans (nT hq1)
 refine aw Z Y call63 O (kh sm (List.suffix_refl s) hsl hq1) fun a w17 Z Y => nv Z <| xK O <| xJ (aq O O) <| xJ (aq O O) <| xJ (aq O O) <| xL O <| xL O <| xL O <| fun a Z => G3 ?_
 replace Z := Z.p6 0 2 3 4 5 6 O
 refine bS fun _ G15 hP15 => aR 1 ?_
 refine wlm Z O fun a Z => ab <| m7 (X := fun c w2 => c = [{ v := .iface 126 (.agg #[]), recovered := false }] ∧ Ext No w17 w2) Z call64 O (jf _) ?_
 rintro _ w18 ⟨rfl, hx⟩
 have Y := Y.grow hx
 refine hP15 _ _ _ ?_
 replace Y := Y.s2 [1, 0] de rfl
 exact bu Z call62 (fu _ _ _ _ _ _ _ Y) results20 (fun w9 Y => ⟨(al O (bj (Y.g 0 O) (isAgg55 _) (sizeOf55 _)) (al O (aH (Y.g 1 O) (isAgg41 _)) ae)), by simp only [retv]; unfold dcX dcE; rw [hdn]; rfl, Y.ext⟩)
def prevN (l : List Cas) : Nat → Int
 | 0 => -1
 | k + 1 => (l.getD k Cas.z).n
theorem rU {l : List Cas} {k : Nat} (h : 0 < k) : prevN l k = (l.getD (k - 1) Cas.z).n := by
 cases k with
 | zero => exact absurd h (zq 0)
 | succ k => rfl
theorem jZ {l : List Cas} {k : Nat} (h : k < l.length) : l.drop k = l.getD k Cas.z :: l.drop (k + 1) := by
 rw [yO h, xR, xY h]; rfl
section
variable {l : List Cas} {k : Nat}
theorem tZ (hk : k < l.length) (ho : (l.getD k Cas.z).ok = true) (ht : prevN l k < (l.getD k Cas.z).n) : ascC (prevN l k) (l.drop k) = ascC (prevN l (k + 1)) (l.drop (k + 1)) := by
 rw [jZ hk, ascC, ho, xS ht]; rfl
theorem xw (hk : k < l.length) (ho : (l.getD k Cas.z).ok = false) : ascC (prevN l k) (l.drop k) = false := by rw [jZ hk, ascC, ho]; rfl
theorem xl (hk : k < l.length) (ht : (l.getD k Cas.z).n ≤ prevN l k) : ascC (prevN l k) (l.drop k) = false := by rw [jZ hk, ascC, xW om, yR]; rfl
theorem lz (hk : k < l.length) : entC (l.take (k + 1)) = entC (l.take k) ++ [encP (l.getD k Cas.z)] := by rw [cz Cas.z hk, entC, yU]; rfl
end
theorem iA (c : Int) (lv : Value) (l : List Cas) (w0 : World) (hlv : SlAt w0 lv 3 (l.map Cas.cells)) :
  Ret Tryz.prog 31 #[.agg #[jv c, lv]] w0 fun v w => v = .bool (docOk c l) ∧ Ext No w0 w := by
 have hxb := hlv.2.1
 simp only [xO, big] at hxb
 refine zN func31 O ntmps31 (lb O) fun a Z Y => ?_
 refine aa fun _ G1 => aS Z Y O [jv c, lv] O fun a w1 Z Y => wla Z O fun a Z => G1 <| ah fun _ G2 => ?_
 refine aa fun _ G3 => nv Z <| xJ (ac (v := pw2 w0.hz 1) O kr) <| xJ (ld Y 0 O O (isAgg30 _) O) <| xJ ((aI (sT := 30) (Y.arg hlv) O O (runUnderlying30 _)).asi (m' := (l.length : Int)) Ai) <| xK O <| fun a Z => G3 <| ar ?_
 refine aW (fun m a w => ∃ (k : Nat), m = l.length - k ∧ (k ≤ l.length) ∧ (ascC (-1) l = ascC (prevN l k) (l.drop k)) ∧ Fr 42 [(1, pq w0.hz), (6, lv), (7, jv (l.length : Int)), (8, jv (k : Int))] [] a ∧ St No w0 [blk w0.hz [jv c, lv] 32] w) _ ⟨0, O, ym _, O, Z.pick [1, 6, 7, 8], Y.select [0] de⟩ ?_
 rintro _ a w2 ⟨k, rfl, hk, hs, Z, Y⟩
 refine aa fun _ G4 => wlv Z (v_lt O O) fun a Z => G4 <| ah fun _ G5 => ?_
 refine aA Z O (fun hc1 => ?_) (fun hc1 => ?_)
 ·have hkx : k < l.length := by omega
  refine au <| G5 <| ah fun _ G6 => ar <| aa fun _ G7 => nv Z <| xK O <| xJ ((aj (i := (k : Int)) (sT := 30) (Y.arg hlv) O O (runUnderlying30 _) (sizeOf55 _) om zY).as (v' := slAddr lv (k * 3)) O) <| xJ ((bP (Y.arg hlv) (i := k) zY O (isAgg55 _) (sizeOf55 _)).as (v' := .agg #[jv ((l.getD k Cas.z).n), jv ((l.getD k Cas.z).t), sv ((l.getD k Cas.z).ev)]) AY) <| fun a Z => aD Z Y (zeroValue55 _) [jv 0, jv 0, .string (⟨#[]⟩)] O fun a w3 Z Y => wla Z O fun a Z => az 0 Z Y [jv ((l.getD k Cas.z).n), jv ((l.getD k Cas.z).t), sv ((l.getD k Cas.z).ev)] O (sizeOf55 _) fun a w4 Z Y => G7 <| ah fun _ G8 => ?_
  refine aL (aN fun w5 hxz => ?_)
  replace Y := Y.grow hxz
  refine aM (k := 0) 7 [6] ?_
  refine wlv Z (ao (Y.g 0 O) O (isAgg55 _) (sizeOf55 _)) fun a Z => aw Z Y call59 O (gP (l.getD k Cas.z) _) fun a w6 Z Y => nv Z <| xJ (bE O) <| xK O <| fun a Z => ?_
  rcases xU (!((l.getD k Cas.z).ok)) with hb2 | hb2
  ·rw [hb2] at Z
   try simp only [qz] at hb2
   have hbad : ascC (-1) l = false := by rw [hs]; exact xw hkx (by simpa using hb2)
   refine nv Z <| xN <| xN <| xN <| fun a Z => ab <| dr (k := 7) 16 [13, 15] (Z.p16 1 6 7 8 10 11 12 4 3 13 14 15 16 17 18 19 O) fun a Z => ?_
   replace Z : Fr 42 [(20, undef), (21, undef), (22, undef), (23, undef), (24, undef), (25, undef), (26, undef), (27, undef), (28, undef), (1, pq w0.hz), (6, lv), (7, jv (l.length : Int)), (8, jv (k : Int)), (10, jv (k : Int)), (11, slAddr lv (k * 3)), (12, .agg #[jv ((l.getD k Cas.z).n), jv ((l.getD k Cas.z).t), sv ((l.getD k Cas.z).ev)]), (4, pq w2.hz), (3, jv (k : Int)), (13, .agg #[jv ((l.getD k Cas.z).n), jv ((l.getD k Cas.z).t), sv ((l.getD k Cas.z).ev)]), (14, .bool ((l.getD k Cas.z).ok)), (15, .bool true), (16, .bool true), (17, undef), (18, undef), (19, undef)] [] a := Z
   refine aM (k := 16) 19 [18] ?_
   refine bV Z fun a Z => nv Z <| xN <| xJ (ax O O) <| fun a Z => ab <| aT <| G8 ?_
   replace Z := Z.p5 1 6 7 8 31 O
   replace Y := Y.k1 2 O
   refine aK Z O ?_
   refine aa fun _ G9 => wla Z O fun a Z => G9 <| ap ?_
   refine am Z results31 (ag O ae) ?_
   refine ⟨?_, Y.ext⟩
   simp only [retv]
   refine yr Value.bool ?_
   unfold docOk; rw [hbad]; rfl
  rw [hb2] at Z
  try simp only [qz] at hb2
  have hok : (l.getD k Cas.z).ok = true := by simpa using hb2
  have hbn := Cas.bnd hok
  refine nv Z <| xM (ay O) <| xM (v_gt O O) <| xM (ay O) <| fun a Z => ab ?_
  rcases Decidable.em (0 < (k : Int)) with hb3 | hb3
  ·rw [xS hb3] at Z
   have hpv := rU (l := l) (k := k) om
   refine aU (k := 7) 16 [13, 15] Z ?_
   replace Z := Z.p16 1 6 7 8 10 11 12 4 3 13 14 15 16 17 18 19 O
   refine bN 9 Z Y <| pl_v (ac (v := pw2 w0.hz 1) O kr) <| pl_w (fun Y => ld Y 1 O O (isAgg30 _) O) <| pl_m O <| pl_v (bH O O ⟨om, om⟩) <| pl_w (fun Y => (aj (i := (k : Int) - 1) (sT := 30) (Y.arg hlv) O O (runUnderlying30 _) (sizeOf55 _) om zY).as (v' := slAddr lv ((k - 1) * 3)) AL) <| pl_w (fun Y => bI (k := (k - 1) * 3) (j := 0) (Y.arg hlv) (i := (k - 1)) zY O (fun _ _ => by kernel_rfl)) <| pl_w (fun Y => aB (u := jv ((l.getD (k - 1) Cas.z).n)) (i := (k - 1)) (j := 0) (Y.arg hlv) zY O (isAgg3 _) AY) ?_
   refine pl_v (ac (v := pq w2.hz) O kr) <| pl_w (fun Y => ld Y 0 O O (isAgg3 _) O) fun a w7 Z Y => ?_
   replace Z := Z.p8 1 6 7 8 16 19 26 28 O
   refine ab <| aM (k := 16) 19 [18] ?_
   refine nv Z <| xM (v_ge O O) <| xM (ax O O) <| xJ (ak O O) <| fun a Z => ab <| aT <| G8 ?_
   replace Z := Z.p5 1 6 7 8 31 O
   replace Y := Y.k1 2 O
   refine aA Z O (fun hc4 => ?_) (fun hc4 => ?_)
   ·have hbad : ascC (-1) l = false := by rw [hs]; exact xl hkx (by rw [hpv]; exact hc4)
    refine aa fun _ G10 => wla Z O fun a Z => G10 <| ap ?_
    refine am Z results31 (ag O ae) ?_
    refine ⟨?_, Y.ext⟩
    simp only [retv]
    refine yr Value.bool ?_
    unfold docOk; rw [hbad]; rfl
   have hgo : prevN l k < (l.getD k Cas.z).n := by rw [hpv]; omega
   refine au <| G6 <| ai <| nv Z <| xJ (aP O O ⟨om, om⟩) <| xK O <| fun a Z => ab ?_
   refine ⟨_, ?_, k + 1, O, om, (by rw [hs]; exact tZ hkx hok hgo), Z.pick [1, 6, 7, 8], Y.select [0] de⟩
   omega
  rw [xW hb3] at Z
  have hgo : prevN l k < (l.getD k Cas.z).n := by
   have h0 : k = 0 := by omega
   rw [h0] at hbn ⊢; show -1 < _; omega
  refine dr (k := 7) 16 [13, 15] (Z.p16 1 6 7 8 10 11 12 4 3 13 14 15 16 17 18 19 O) fun a Z => ?_
  replace Z : Fr 42 [(20, undef), (21, undef), (22, undef), (23, undef), (24, undef), (25, undef), (26, undef), (27, undef), (28, undef), (1, pq w0.hz), (6, lv), (7, jv (l.length : Int)), (8, jv (k : Int)), (10, jv (k : Int)), (11, slAddr lv (k * 3)), (12, .agg #[jv ((l.getD k Cas.z).n), jv ((l.getD k Cas.z).t), sv ((l.getD k Cas.z).ev)]), (4, pq w2.hz), (3, jv (k : Int)), (13, .agg #[jv ((l.getD k Cas.z).n), jv ((l.getD k Cas.z).t), sv ((l.getD k Cas.z).ev)]), (14, .bool ((l.getD k Cas.z).ok)), (15, .bool false), (16, .bool false), (17, jv (k : Int)), (18, .bool false), (19, .bool false)] [] a := Z
  refine aM (k := 16) 19 [18] ?_
  refine nv Z <| xN <| xM (ak O O) <| xJ (ak O O) <| fun a Z => ab <| aT <| G8 ?_
  replace Z := Z.p5 1 6 7 8 31 O
  replace Y := Y.k1 2 O
  refine aG Z O ?_
  refine au <| G6 <| ai <| nv Z <| xJ (aP O O ⟨om, om⟩) <| xK O <| fun a Z => ab ?_
  refine ⟨_, ?_, k + 1, O, om, (by rw [hs]; exact tZ hkx hok hgo), Z.pick [1, 6, 7, 8], Y.select [0] de⟩
  omega
 have hall : ascC (-1) l = true := by rw [hs, show k = l.length by omega, List.drop_length]; rfl
 refine aO <| G2 <| aa fun _ G11 => nv Z <| xJ (ac (v := pq w0.hz) O kr) <| xJ (ld Y 0 O O (isAgg3 _) O) <| fun a Z => aw Z Y call49 O (di c 0 7 _) fun a w8 Z Y => wlm Z O fun a Z => ?_
 rcases xU (inB c 0 7) with hb5 | hb5
 ·rw [hb5] at Z
  refine nv Z <| xM (ac (v := pw2 w0.hz 1) O kr) <| xM (ld Y 0 O O (isAgg30 _) O) <| xM ((aI (sT := 30) (Y.arg hlv) O O (runUnderlying30 _)).asi (m' := (l.length : Int)) Ai) <| xM (v_le O O) <| xJ (ax O O) <| xL O <| fun a Z => G11 ?_
  replace Z := Z.p1 2 O
  replace Y := Y.k0 0 O
  refine ap <| am Z results31 (ag O ae) ?_
  refine ⟨?_, Y.ext⟩
  simp only [retv]
  refine yr Value.bool ?_
  unfold docOk; rw [hall, hb5]; simp only [zb]; exact decide_eq_decide.2 om
 rw [hb5] at Z
 refine nv Z <| xN <| xN <| xN <| xN <| xJ (ak O O) <| xL O <| fun a Z => G11 ?_
 replace Z := Z.p1 2 O
 replace Y := Y.k0 0 O
 refine ap <| am Z results31 (ag O ae) ?_
 refine ⟨?_, Y.ext⟩
 simp only [retv]
 refine yr Value.bool ?_
 unfold docOk; rw [hall, hb5]; rfl
theorem qr (c : Int) (lv : Value) (l : List Cas) (w0 : World) (hlv : SlAt w0 lv 3 (l.map Cas.cells)) (hle : l.length ≤ 1000) :
  Ret Tryz.prog 72 #[.agg #[jv c, lv]] w0 (MemR w0 (fun v : Value => .agg #[jv c, v]) (fun v => [own v 9 1 ((entC (l)).map fun s => [sv s])]) (fun _ => True)) := by
 have hxb := hlv.2.1
 simp only [xO, big] at hxb
 refine zN func72 O ntmps72 (lb O) fun a Z Y => ?_
 refine aa fun _ G1 => aS Z Y O [jv c, lv] O fun a w1 Z Y => aD Z Y (zeroValue75 _) [jv 0, .slice none 0 0] O fun a w2 Z Y => G1 <| aa fun _ G2 => ?_
 refine nv Z <| xJ (ac (v := pq w0.hz) O kr) <| xJ (ld Y 1 O O (isAgg3 _) O) <| xJ (aX (v := .agg #[jv c, .slice none 0 0]) O kr) <| fun a Z => aD Z Y (zeroValue75 _) [jv 0, .slice none 0 0] O fun a w3 Z Y => az 0 Z Y [jv c, .slice none 0 0] O (sizeOf75 _) fun a w4 Z Y => G2 <| ah fun _ G3 => ?_
 refine aa fun _ G4 => nv Z <| xJ (ac (v := pw2 w0.hz 1) O kr) <| xJ (ld Y 2 O O (isAgg30 _) O) <| xJ ((aI (sT := 30) (Y.arg hlv) O O (runUnderlying30 _)).asi (m' := (l.length : Int)) Ai) <| xK O <| fun a Z => G4 ?_
 replace Z := Z.p5 2 3 12 13 14 O
 replace Y := Y.k2 3 O
 refine ar ?_
 replace Y : St No w0 [own (.slice none 0 0) 9 1 ((entC (l.take 0)).map fun s => [sv s]), blk w2.hz [jv c, .slice none 0 0] 75, blk w1.hz [jv 0, .slice none 0 0] 75] w4 := Y.nil_own
 refine aW (fun m a w => ∃ (k : Nat) (v : Value), m = l.length - k ∧ (k ≤ l.length) ∧ Fr 31 [(2, pq w1.hz), (3, pq w2.hz), (12, lv), (13, jv (l.length : Int)), (14, jv (k : Int))] [] a ∧ St No w0 [own v 9 1 ((entC (l.take k)).map fun s => [sv s]), blk w2.hz [jv c, v] 75, blk w1.hz [jv 0, .slice none 0 0] 75] w) _ ⟨0, .slice none 0 0, O, ym _, Z.pick [2, 3, 12, 13, 14], Y.select [0, 1, 2] de⟩ ?_
 rintro _ a w5 ⟨k, v, rfl, hk, Z, Y⟩
 refine aa fun _ G5 => wlv Z (v_lt O O) fun a Z => G5 <| ah fun _ G6 => ?_
 refine aA Z O (fun hc1 => ?_) (fun hc1 => ?_)
 ·have hkx : k < l.length := by omega
  refine au <| G6 <| ah fun _ G7 => ar <| aa fun _ G8 => nv Z <| xJ ((aj (i := (k : Int)) (sT := 30) (Y.arg hlv) O O (runUnderlying30 _) (sizeOf55 _) om zY).as (v' := slAddr lv (k * 3)) O) <| xJ ((bP (Y.arg hlv) (i := k) zY O (isAgg55 _) (sizeOf55 _)).as (v' := .agg #[jv ((l.getD k Cas.z).n), jv ((l.getD k Cas.z).t), sv ((l.getD k Cas.z).ev)]) AY) <| fun a Z => aD Z Y (zeroValue55 _) [jv 0, jv 0, .string (⟨#[]⟩)] O fun a w6 Z Y => az 0 Z Y [jv ((l.getD k Cas.z).n), jv ((l.getD k Cas.z).t), sv ((l.getD k Cas.z).ev)] O (sizeOf55 _) fun a w7 Z Y => G8 <| aa fun _ G9 => ?_
  refine wlv Z (ao (Y.g 0 O) O (isAgg55 _) (sizeOf55 _)) fun a Z => aw Z Y call19 O (vI (l.getD k Cas.z) _) fun a w8 Z Y => nv Z <| xK O <| xJ (aq O O) <| xJ (aq O O) <| xL O <| xL O <| fun a Z => G9 ?_
  replace Y := Y.k3 14 O
  refine ai <| nv (Z.p6 2 3 12 13 14 6 O) <| xJ (ac (v := pw2 w2.hz 1) O kr) <| xJ (ld Y 1 O O (isAgg44 _) O) <| xK O <| fun a Z => aE (E := 9) (sz := 1) O [[sv (encP (l.getD k Cas.z))]] kr sm O de de Z Y fun a w9 Z Y => aY (i := 1) (sT := 44) (inf := Tryz.t9) (z := .string (⟨#[]⟩)) (b := 0) (off := 0) (m := 0) (c := 0) O O O (Y.ow 0 O) sm underlying44 O O O O de z6 Ay Ay de Z Y fun a w10 s2 Z Y _ => ?_
  rw [show ((entC (l.take k)).map fun s => [sv s]) ++ ([[sv (encP (l.getD k Cas.z))]]) = ((entC (l.take (k + 1))).map fun s => [sv s]) from by rw [lz hkx, yU]; rfl] at Y
  refine wlv Z (ac (v := pw2 w2.hz 1) O kr) fun a Z => cf 2 Z Y (Y.ow 1 O) O O O (sizeOf44 _) (lb O) (ds := [jv c, s2]) O O fun a w11 Z Y => ab <| G7 ?_
  replace Y := Y.k3 14 O
  refine ai <| nv (Z.p5 2 3 12 13 14 O) <| xJ (aP O O ⟨om, om⟩) <| xK O <| fun a Z => ab ?_
  refine ⟨_, ?_, k + 1, s2, O, om, Z.pick [2, 3, 12, 13, 14], Y.select [0, 1, 2] de⟩
  omega
 obtain rfl : k = l.length := by omega
 rw [List.take_length] at Y
 refine aO <| G3 <| aa fun _ G10 => wlv Z (ao (Y.g 1 O) O (isAgg75 _) (sizeOf75 _)) fun a Z => bp (us := [jv c, v]) 2 Z Y O O O (sizeOf75 _) Aq (lb O) (ds := [jv c, v]) O O fun a w12 Z Y => ?_
 refine G10 ?_
 replace Z := Z.p1 2 O
 refine ap <| am Z results72 (al O (bj (Y.g 2 O) (isAgg75 _) (sizeOf75 _)) ae) ?_
 exact ⟨v, O, trivial, Y.ext, St.out (E := [own v 9 1 ((entC (l)).map fun s => [sv s])]) (H := []) (Y.select [0] de)⟩
theorem qw (x : Cas) (n : Int) (w0 : World) (h0 : 0 ≤ x.n ∧ x.n ≤ 99999999) (h1 : 0 ≤ n ∧ n ≤ 99999999) :
  Ret Tryz.prog 71 #[.agg #[jv x.n, jv x.t, sv x.ev], jv n] w0 fun v w => v = jv (x.n - n) ∧ Ext No w0 w := by
 refine zM func71 O ntmps71 (lb O) fun a Z Y => ?_
 refine aa fun _ G1 => aS Z Y O [jv x.n, jv x.t, sv x.ev] O fun a w1 Z Y => wla Z O fun a Z => G1 <| aa fun _ G2 => ?_
 refine nv Z <| xJ (ac (v := pq w0.hz) O kr) <| xJ (ld Y 0 O O (isAgg3 _) O) <| xK O <| xJ (bH O O ⟨om, om⟩) <| xL O <| fun a Z => G2 ?_
 replace Z := Z.p1 4 O
 replace Y := Y.k0 0 O
 refine ap <| am Z results71 (ag O ae) ?_
 exact ⟨by rfl, Y.ext⟩
theorem o5 (lv : Value) (l : List Cas) (num : Int) (w0 : World) (hlv : SlAt w0 lv 3 (l.map Cas.cells)) (hasc : ascC (-1) l = true) (hnum : 0 ≤ num ∧ num ≤ 99999999) :
  Ret Tryz.prog 70 #[lv, jv num, .func (.func 71) #[] #[]] w0 fun v w => v = .tuple #[jv (lowC num l : Int), .bool (hitC l num)] ∧ Ext No w0 w := by
 have hxb := hlv.2.1
 simp only [xO, big] at hxb
 have hall : ∀ x ∈ l, 0 ≤ x.n ∧ x.n ≤ 99999999 := fun x hx => by have := Cas.bnd (fW hasc x hx).1; omega
 have hll := go num l
 refine zO func70 O ntmps70 (lb O) fun a Z Y => ?_
 refine aa fun _ G1 => nv Z <| xL O <| xL O <| fun a Z => G1 <| aa fun _ G2 => ?_
 refine nv Z <| xK O <| xJ ((aI (sT := 30) (Y.arg hlv) O O (runUnderlying30 _)).asi (m' := (l.length : Int)) Ai) <| xL O <| fun a Z => G2 <| aa fun _ G3 => ?_
 refine nv Z <| xK O <| xL O <| xL O <| fun a Z => G3 <| ah fun _ G4 => ?_
 refine ar <| aW (fun m a w => ∃ (i : Nat) (j : Nat), m = j - i ∧ (i ≤ j ∧ j ≤ l.length) ∧ (i ≤ lowC num l) ∧ (lowC num l ≤ j) ∧ Fr 49 [(0, lv), (1, jv num), (2, .func (.func 71) #[] #[]), (6, jv 0), (7, .bool false), (8, jv (l.length : Int)), (9, jv (i : Int)), (10, jv (j : Int))] [] a ∧ St No w0 [] w) _ ⟨0, l.length, O, ⟨ym _, yx _⟩, ym _, go num l, Z.pick [0, 1, 2, 6, 7, 8, 9, 10], Y.select [] de⟩ ?_
 rintro _ a w1 ⟨i, j, rfl, hij, hi, hj, Z, Y⟩
 refine ah fun _ G5 => aa fun _ G6 => nv Z <| xK O <| xK O <| xJ (v_lt O O) <| fun a Z => G6 <| aA Z O (fun hc1 => ?_) (fun hc1 => ?_)
 ·have hml : ((i + j) / 2) < j := by omega
  refine au <| G5 <| ar <| aa fun _ G7 => nv Z <| xK O <| xK O <| xJ (aP O O ⟨om, om⟩) <| xJ ((dX O kr underlying191).asi (m' := ((i + j : Nat) : Int)) om) <| xJ ((pi (m := (i + j)) (n := 1) om O O).asi (m' := (((i + j) / 2 : Nat) : Int)) O) <| xJ (iX (n := ((i + j) / 2)) om O kr underlying3) <| xL O <| fun a Z => G7 ?_
  refine aa fun _ G8 => nv (Z.p9 0 1 2 6 7 8 9 10 11 O) <| xK O <| xK O <| xK O <| xJ ((aj (i := ((((i + j) / 2) : Nat) : Int)) (sT := 30) (Y.arg hlv) O O (runUnderlying30 _) (sizeOf55 _) om zY).as (v' := slAddr lv (((i + j) / 2) * 3)) (by rw [show (((((i + j) / 2) : Nat) : Int)).toNat = ((i + j) / 2) from by omega])) <| xJ ((bP (Y.arg hlv) (i := ((i + j) / 2)) zY O (isAgg55 _) (sizeOf55 _)).as (v' := .agg #[jv ((l.getD ((i + j) / 2) Cas.z).n), jv ((l.getD ((i + j) / 2) Cas.z).t), sv ((l.getD ((i + j) / 2) Cas.z).ev)]) AY) <| xK O <| fun a Z => dF Z Y O call71 O (qw (l.getD ((i + j) / 2) Cas.z) num _ (hall _ (bc om)) hnum) fun a w2 Z Y => wlv Z (v_lt O O) fun a Z => G8 ?_
  replace Z := Z.p10 0 1 2 6 7 8 9 10 11 31 O
  refine aA Z O (fun hc2 => ?_) (fun hc2 => ?_)
  ·have hup : ((i + j) / 2) + 1 ≤ lowC num l := by
    refine Nat.lt_of_not_le fun hge => ?_
    have := jR hasc hge (show ((i + j) / 2) < l.length by omega)
    omega
   refine ai <| nv Z <| xK O <| xJ (aP O O ⟨om, om⟩) <| xL O <| fun a Z => ab ?_
   refine ⟨_, ?_, ((i + j) / 2) + 1, j, O, om, om, om, Z.pick [0, 1, 2, 6, 7, 8, 9, 10], Y.select [] de⟩
   omega
  have hdn : lowC num l ≤ ((i + j) / 2) := by
   refine Nat.le_of_not_lt fun hlt => ?_
   have := jT hlt
   omega
  refine ai <| nv Z <| xK O <| xL O <| fun a Z => ab ?_
  refine ⟨_, ?_, i, ((i + j) / 2), O, om, om, om, Z.pick [0, 1, 2, 6, 7, 8, 9, 10], Y.select [] de⟩
  omega
 have hil : i = lowC num l := by omega
 refine aO <| G4 <| aa fun _ G9 => nv Z <| xK O <| xK O <| xK O <| xJ (v_lt O O) <| xK O <| fun a Z => ?_
 rcases Decidable.em ((i : Int) < (l.length : Int)) with hb3 | hb3
 ·rw [xS hb3] at Z
  refine nv Z <| xM (ay O) <| xM (ay O) <| xM (ay O) <| xM ((aj (i := (i : Int)) (sT := 30) (Y.arg hlv) O O (runUnderlying30 _) (sizeOf55 _) om zY).as (v' := slAddr lv (i * 3)) O) <| xM ((bP (Y.arg hlv) (i := i) zY O (isAgg55 _) (sizeOf55 _)).as (v' := .agg #[jv ((l.getD i Cas.z).n), jv ((l.getD i Cas.z).t), sv ((l.getD i Cas.z).ev)]) AY) <| xM (ay O) <| fun a Z => ez Z ?_
  refine dF Z Y O call71 O (qw (l.getD i Cas.z) num _ (hall _ (bc om)) hnum) fun a w3 Z Y => nv Z <| xM (v_eq O O) <| xJ (ax O O) <| xL O <| xL O <| fun a Z => G9 ?_
  replace Z := Z.p2 6 7 O
  refine ap <| am Z results70 (ag O (ag O ae)) ?_
  subst hil
  refine ⟨?_, Y.ext⟩
  simp only [retv]
  refine yr (fun b => Value.tuple #[jv ((lowC num l : Nat) : Int), .bool b]) ?_
  unfold hitC
  rw [Bool.eq_iff_iff]
  simp only [xP, xT, zF, false_iff, eq_self_iff_true, true_iff]
  omega
 rw [xW hb3] at Z
 refine nv Z <| xN <| xN <| xN <| xN <| xN <| xN <| xN <| xN <| xJ (ak O O) <| xL O <| xL O <| fun a Z => G9 ?_
 replace Z := Z.p2 6 7 O
 refine ap <| am Z results70 (ag O (ag O ae)) ?_
 subst hil
 refine ⟨?_, Y.ext⟩
 simp only [retv]
 refine yr (fun b => Value.tuple #[jv ((lowC num l : Nat) : Int), .bool b]) ?_
 unfold hitC
 rw [Bool.eq_iff_iff]
 simp only [xP, xT, zF, false_iff, eq_self_iff_true, true_iff]
 omega
end Go.Proofs.YtliklcmddmpdfaaGreatDoor
