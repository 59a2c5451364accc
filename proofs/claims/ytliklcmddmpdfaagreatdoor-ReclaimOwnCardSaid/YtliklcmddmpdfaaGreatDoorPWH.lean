/- Texts joined: RclD, RclE, RclF, RclG, RclH. -/
import Derived.Test.YtliklcmddmpdfaaGreatDoorPWG
import Derived.Test.YtliklcmddmpdfaaGreatDoorPWF
import Derived.Test.YtliklcmddmpdfaaGreatDoorPWC
import Derived.Test.YtliklcmddmpdfaaGreatDoorPWD
import Derived.Test.YtliklcmddmpdfaaGreatDoorPWA
set_option linter.unusedVariables false
set_option linter.unusedSimpArgs false
set_option maxRecDepth 4000
set_option maxHeartbeats 4000000
namespace Go.Proofs.YtliklcmddmpdfaaGreatDoor
open Go.RowKit Go.PW _root_.Go.Proofs.Tryz
theorem ql {s : By} {x : Wsh} {ps : List Pxy} {w0 : World} (hsl : s.length ≤ 1000000) (h : bH s = some (x, ps)) : Ret Tryz.prog 39 #[sv s] w0 (MemR w0 (fun lv : Value => .tuple #[.agg x.cells.toArray, lv, jv 0]) (fun lv => [own lv 144 7 (ps.map Pxy.cells)]) (fun _ => True)) := by
 refine (kn s w0 hsl).mono fun v w hR => ?_
 rcases hR with ⟨x2, ps2, h2, hm⟩ | ⟨h2, _⟩
 ·rw [h] at h2
  simp only [Option.some.injEq, Prod.mk.injEq] at h2
  obtain ⟨rfl, rfl⟩ := h2
  exact hm
 ·rw [h] at h2; cases h2
theorem sA {s : By} {w0 : World} (hsl : s.length ≤ 1000000) (h : bH s = none) : Ret Tryz.prog 39 #[sv s] w0 fun v w => v = .tuple #[.agg [jv 0, jv 0, jv 0, jv 0, jv 0, jv 0, jv 0, jv 0, sv ([] : By)].toArray, .slice none 0 0, jv 150] ∧ Ext No w0 w := by
 refine (kn s w0 hsl).mono fun v w hR => ?_
 rcases hR with ⟨x2, ps2, h2, hm⟩ | ⟨_, h2⟩
 ·rw [h] at h2; cases h2
 ·exact h2
section
variable {ks : List By} {q : Chg} {x : Cas} {u : Wsh} {up : List Pxy}
theorem wa (h : ¬ x.n = q.n) : keepC ks q x = false := by unfold keepC; rw [yD h]; rfl
theorem xu (h : ¬ x.t = q.t) : keepC ks q x = false := by unfold keepC; rw [yD h, zy]; rfl
theorem j3 (h : ew ks q x = false) : keepC ks q x = false := by unfold keepC; rw [h, zy]
theorem rL (h : bH x.ev = none) : ew ks q x = false := by unfold ew; rw [h]
theorem gw (h : bH x.ev = some (u, up)) : ew ks q x = (decide (u.holder = q.h) && decide (u.carrier = q.c) && validH ks u up q.n q.t) := by unfold ew; rw [h]
theorem rN (h1 : x.n = q.n) (h2 : x.t = q.t) (h : bH x.ev = some (u, up)) (h3 : u.holder = q.h) (h4 : u.carrier = q.c) (h5 : validH ks u up q.n q.t = true) : keepC ks q x = true := by
 unfold keepC; rw [gw h, yy h1, yy h2, yy h3, yy h4, h5]; rfl
theorem wM {l : List Itm} {p : Int × Cas} (h : p ∈ casesF l) : p.2.ok = true := by
 obtain ⟨x, _, _, hd⟩ := dZ.1 h
 exact (nW hd).1
theorem vr {l : List Itm} (h : ∀ z ∈ casesF l, keepC ks q z.2 = false) : keepsF ks q l = false := by
 rw [fI, zF]
 intro z hz; rw [h z hz]; simp
theorem tm {l : List Itm} {p : Int × Cas} (hp : p ∈ casesF l) (h : keepC ks q p.2 = true) : keepsF ks q l = true := by
 rw [fI, zp]
 exact ⟨p, hp, h⟩
end
def NB (z : Int × Cas) (l : List (Int × Cas)) : Prop := ∀ y ∈ l, ¬ (z.1 < y.1 ∧ y.2.n ≤ z.2.n)
theorem jW {a b : List (Int × Cas)} (h : ∀ z ∈ a, NB z b) : bentF a b = false := by
 unfold bentF
 rw [zF]
 intro z hz
 rw [Ah, zF]
 intro y hy
 have := h z hz y hy
 rw [yw, yB, yB]; exact this
theorem iy {a b : List (Int × Cas)} {z y : Int × Cas} (hz : z ∈ a) (hy : y ∈ b) (h1 : z.1 < y.1) (h2 : y.2.n ≤ z.2.n) : bentF a b = true := by
 unfold bentF
 exact zp.2 ⟨z, hz, zp.2 ⟨y, hy, by rw [yy h1, yy h2]; rfl⟩⟩
theorem uV {a b : List Itm} (h1 : a.any noCase = false) (h2 : b.any noCase = false) (h3 : ∀ z ∈ casesF a, NB z (casesF a) ∧ NB z (casesF b)) (h4 : ∀ z ∈ casesF b, NB z (casesF a) ∧ NB z (casesF b)) : crookF a b = false := by
 unfold crookF
 rw [h1, h2, jW (fun z hz => (h3 z hz).1), jW (fun z hz => (h3 z hz).2), jW (fun z hz => (h4 z hz).1), jW (fun z hz => (h4 z hz).2)]; rfl
theorem oT {a b : List Itm} (h : a.any noCase = true) : crookF a b = true := by unfold crookF; rw [h]; simp
theorem nK {a b : List Itm} (h : b.any noCase = true) : crookF a b = true := by unfold crookF; rw [h]; simp
theorem pd {a b : List Itm} (h : bentF (casesF a) (casesF a) = true) : crookF a b = true := by unfold crookF; rw [h]; simp
theorem uE {a b : List Itm} (h : bentF (casesF a) (casesF b) = true) : crookF a b = true := by unfold crookF; rw [h]; simp
theorem tB {a b : List Itm} (h : bentF (casesF b) (casesF a) = true) : crookF a b = true := by unfold crookF; rw [h]; simp
theorem ua {a b : List Itm} (h : bentF (casesF b) (casesF b) = true) : crookF a b = true := by unfold crookF; rw [h]; simp
theorem eqHd (a0 : Int) (a1 : Int) (a2 : By) (a3 : By) (c0 : Int) (c1 : Int) (c2 : By) (c3 : By) (w : World) : (Op.equal 47 (.agg #[jv a0, jv a1, sv a2, sv a3]) (.agg #[jv c0, jv c1, sv c2, sv c3])).run Tryz.prog w = .ok (decide (Hd.mk a0 a1 a2 a3 = Hd.mk c0 c1 c2 c3)) w := by
 have e : decide (Hd.mk a0 a1 a2 a3 = Hd.mk c0 c1 c2 c3) = (decide (a0 = c0) && (decide (a1 = c1) && (decide (a2 = c2) && (decide (a3 = c3) && true)))) := by
  rw [Bool.eq_iff_iff]; simp [and_assoc]
 rw [e]
 unfold Op.equal Op.maxDepth
 obtain ⟨dd, hd⟩ : ∃ dd, 10000 = dd + 1 + 1 + 1 := ⟨9997, rfl⟩
 rw [hd, run_equalIn_struct w (dd + 1 + 1) 47 _ _ kr kr]
 simp only [Program.fieldsOf, underlying47]
 refine cD (a := jv a0) (b := jv c0) (r := decide (a0 = c0)) de AF AF (eqI _ _ _) ?_
 refine cD (a := jv a1) (b := jv c1) (r := decide (a1 = c1)) de AF AF (eqI _ _ _) ?_
 refine cD (a := sv a2) (b := sv c2) (r := decide (a2 = c2)) de Be Be (eqS _ _ _) ?_
 refine cD (a := sv a3) (b := sv c3) (r := decide (a3 = c3)) de Be Be (eqS _ _ _) ?_
 exact iS
theorem eqCas (a0 : Int) (a1 : Int) (a2 : By) (c0 : Int) (c1 : Int) (c2 : By) (w : World) : (Op.equal 55 (.agg #[jv a0, jv a1, sv a2]) (.agg #[jv c0, jv c1, sv c2])).run Tryz.prog w = .ok (decide (Cas.mk a0 a1 a2 = Cas.mk c0 c1 c2)) w := by
 have e : decide (Cas.mk a0 a1 a2 = Cas.mk c0 c1 c2) = (decide (a0 = c0) && (decide (a1 = c1) && (decide (a2 = c2) && true))) := by
  rw [Bool.eq_iff_iff]; simp [and_assoc]
 rw [e]
 unfold Op.equal Op.maxDepth
 obtain ⟨dd, hd⟩ : ∃ dd, 10000 = dd + 1 + 1 + 1 := ⟨9997, rfl⟩
 rw [hd, run_equalIn_struct w (dd + 1 + 1) 55 _ _ kr kr]
 simp only [Program.fieldsOf, underlying55]
 refine cD (a := jv a0) (b := jv c0) (r := decide (a0 = c0)) de AF AF (eqI _ _ _) ?_
 refine cD (a := jv a1) (b := jv c1) (r := decide (a1 = c1)) de AF AF (eqI _ _ _) ?_
 refine cD (a := sv a2) (b := sv c2) (r := decide (a2 = c2)) de Be Be (eqS _ _ _) ?_
 exact iS
theorem uZ (kv : Value) (ks : List By) (q : Chg) (hd : Hd) (iv : Value) (L : List Itw) (w0 : World) (hkv : SlAt w0 kv 1 (ks.map fun s => [sv s])) (hiv : ItsAt w0 iv L) (hok : OkP hd.n L) (hk0 : (blk 0 (kOf.map wv) 258).ok w0) :
  Ret Tryz.prog 56 #[kv, .agg #[jv q.n, jv q.h, jv q.c, jv q.t, jv q.a], .agg #[jv hd.c, jv hd.n, sv hd.root, sv hd.tag, iv]] w0 fun v w => v = .bool (keepsF ks q (itsM L)) ∧ Ext No w0 w := by
 refine Ao func56 O ntmps56 (lb O) fun a Y U => aa fun _ G1 => aV Y U O [kv] (by rw [(U.arg hkv).cells]) fun a w1 Y U => aV Y U O [jv q.n, jv q.h, jv q.c, jv q.t, jv q.a] O fun a w2 Y U => aV Y U O [jv hd.c, jv hd.n, sv hd.root, sv hd.tag, iv] O fun a w3 Y U => aD Y U (zeroValue4 _) [.bool false] O fun a w4 Y U => G1 <| ah fun _ G2 => aa fun _ G3 => wlv Y (ap (U.g 1 O) O (isAgg50 _) (sizeOf50 _)) fun a Y => bu Y U call74 O (dQ hd iv L _ (cC U hiv)) fun a w5 x2 hp Y U => ?_
 revert x2 hp Y U; rintro z1 hp Y U
 clear hp
 replace U := U.n5 O
 refine G3 <| au ?_
 replace U := U.s4 [4, 3, 1, 0] de rfl
 replace Y := Y.p9 0 1 2 3 4 5 6 12 13 O
 refine dD (M := No) (w0 := w0) (encs := encK) (Hi := [blk z1 [jv hd.c, jv hd.n, sv hd.root, sv hd.tag, iv] 50]) (Hc := [blk w0.hz [kv] 44, blk w1.hz [jv q.n, jv q.h, jv q.c, jv q.t, jv q.a] 36, blk w3.hz [.bool false] 4]) (fun pre H => (∀ z ∈ pre, keepC ks q z.2 = false) ∧ H = [blk w0.hz [kv] 44, blk w1.hz [jv q.n, jv q.h, jv q.c, jv q.t, jv q.a] 36, blk w3.hz [.bool false] 4]) (fun c pre H => c = .ret ∧ (keepsF ks q (itsM L) = true) ∧ H = [blk w0.hz [kv] 44, blk w1.hz [jv q.n, jv q.h, jv q.c, jv q.t, jv q.a] 36, blk w3.hz [.bool true] 4]) (fun pre xs H a => ∃ (bA0 : Nat), Fr 61 [(0, kv), (1, .agg #[jv q.n, jv q.h, jv q.c, jv q.t, jv q.a]), (2, .agg #[jv hd.c, jv hd.n, sv hd.root, sv hd.tag, iv]), (3, pq w0.hz), (4, pq w1.hz), (5, pq w2.hz), (6, pq w3.hz), (12, .agg #[jv hd.c, jv hd.n, sv hd.root, sv hd.tag, iv]), (13, .func (.func 125) #[] #[pq z1]), (8, pq bA0)] [] a ∧ (∀ z ∈ pre, keepC ks q z.2 = false) ∧ H = [blk bA0 [jv xs.2.n, jv xs.2.t, sv xs.2.ev] 55, blk w0.hz [kv] 44, blk w1.hz [jv q.n, jv q.h, jv q.c, jv q.t, jv q.a] 36, blk w3.hz [.bool false] 4]) O call125 Y U (dr hd iv L z1 (fun x hx => (hok.2.2 x hx).2.2) (fun H w h => cC h hiv)) de (fun _ => O) ⟨sm, O⟩ ?_ ?_ ?_ ?_
 ·clear Y U
  rintro lp pre xs _ a w6 hnx ⟨hno, rfl⟩ Y U
  generalize (join [blk w0.hz [kv] 44, blk w1.hz [jv q.n, jv q.h, jv q.c, jv q.t, jv q.a] 36, blk w3.hz [.bool false] 4]).foot = M1 at U ⊢
  refine al <| aD (Y.p11 15 14 0 1 2 3 4 5 6 12 13 O) U (zeroValue55 _) [jv 0, jv 0, .string (⟨#[]⟩)] O fun a w7 Y U => az 0 Y U [jv xs.2.n, jv xs.2.t, sv xs.2.ev] O (sizeOf55 _) fun a w8 Y U => ab ?_
  exact ⟨_, ⟨w6.hz, Y.pick [0, 1, 2, 3, 4, 5, 6, 12, 13, 8], hno, O⟩, U⟩
 ·rintro lp pre xs _ a w9 hnx ⟨bA0, Y, hno, rfl⟩ hout hrec hnl U
  clear hrec hnl
  generalize (join [blk bA0 [jv xs.2.n, jv xs.2.t, sv xs.2.ev] 55, blk w0.hz [kv] 44, blk w1.hz [jv q.n, jv q.h, jv q.c, jv q.t, jv q.a] 36, blk w3.hz [.bool false] 4]).foot = M1 at U hout ⊢
  refine au <| ah fun _ G4 => ?_
  have hco := wM (eE hnx)
  have hbd := Cas.bnd hco
  refine aa fun _ G5 => nv Y <| yo (ac (v := pq bA0) O kr) <| yo (ld U 0 O O (isAgg3 _) O) <| yo (ac (v := pq w1.hz) O kr) <| yo (ld U 2 O O (isAgg3 _) O) <| yo (v_ne O O) <| yp O <| fun a Y => ?_
  rcases (Decidable.em (xs.2.n = q.n)).symm with hb3 | hb3
  ·rw [yD hb3] at Y
   have hcf : keepC ks q xs.2 = false := wa om
   refine nv Y <| yt <| yt <| yt <| yt <| yt <| yo (ax O O) <| fun a Y => G5 ?_
   replace Y := Y.p5 3 4 6 8 27 O
   refine aG Y O ?_
   refine aP ?_
   exact ⟨_, ⟨co hno hcf, O⟩, U.select [1, 2, 3] de⟩
  rw [yy hb3] at Y
  refine nv Y <| yr (ac (v := po bA0 1) O kr) <| yr (ld U 0 O O (isAgg3 _) O) <| yr (ac (v := po w1.hz 3) O kr) <| yr (ld U 2 O O (isAgg3 _) O) <| yr (v_ne O O) <| yo (ak O O) <| fun a Y => G5 ?_
  replace Y := Y.p5 3 4 6 8 27 O
  refine cG Y O (fun hc4 => ?_) (fun hc4 => ?_)
  ·have hcf : keepC ks q xs.2 = false := xu om
   refine aP ?_
   exact ⟨_, ⟨co hno hcf, O⟩, U.select [1, 2, 3] de⟩
  refine ar <| G4 <| aa fun _ G6 => nv Y <| yo (ac (v := po bA0 2) O kr) <| yo (ld U 0 O O (isAgg9 _) O) <| fun a Y => ?_
  rcases yz ((bH xs.2.ev).isSome) with hb5 | hb5
  ·obtain ⟨⟨u, up⟩, hdz⟩ := zr.1 hb5
   refine bu Y U call39 O (ql om hdz) fun a w10 x7 hp Y U => ?_
   revert x7 hp Y U; rintro dv6 hp Y U
   clear hp
   replace U := U.n5 O
   refine nv Y <| yp O <| yo (ao O O) <| yo (ao O O) <| yo (ao O O) <| fun a Y => aD Y U (zeroValue90 _) [jv 0, jv 0, jv 0, jv 0, jv 0, jv 0, jv 0, jv 0, .string (⟨#[]⟩)] O fun a w11 Y U => az 0 Y U [jv u.signer, jv u.holder, jv u.rf, jv u.rt, jv u.carrier, jv u.serial, jv u.sf, jv u.st, sv u.sig] O (sizeOf90 _) fun a w12 Y U => nv Y <| yq O <| yq O <| fun a Y => G6 ?_
   replace U := U.k5 59 O
   refine aa fun _ G7 => nv (Y.p6 3 4 6 9 10 11 O) <| yp O <| yo ((v_eq O O).asb (b' := true) O) <| yp O <| yr (ac (v := po w10.hz 1) O kr) <| yr (ld U 0 O O (isAgg3 _) O) <| yr (ac (v := po w1.hz 1) O kr) <| yr (ld U 3 O O (isAgg3 _) O) <| yr (v_eq O O) <| yo (ax O O) <| yp O <| fun a Y => ?_
   rcases Decidable.em (u.holder = q.h) with hb8 | hb8
   ·rw [yy hb8] at Y
    refine nv Y <| yr (ac (v := po w10.hz 4) O kr) <| yr (ld U 0 O O (isAgg3 _) O) <| yr (ac (v := po w1.hz 2) O kr) <| yr (ld U 3 O O (isAgg3 _) O) <| yr (v_eq O O) <| yo (ax O O) <| yp O <| fun a Y => ?_
    rcases Decidable.em (u.carrier = q.c) with hb9 | hb9
    ·rw [yy hb9] at Y
     refine nv Y <| yr (ld U 2 O O (isAgg44 _) O) <| yr (ap (U.g 0 O) O (isAgg90 _) (sizeOf90 _)) <| yr (ay O) <| yr (ac (v := pq w1.hz) O kr) <| yr (ld U 3 O O (isAgg3 _) O) <| yr (ac (v := po w1.hz 3) O kr) <| yr (ld U 3 O O (isAgg3 _) O) <| fun a Y => aF Y U call40 O (vj kv dv6 ks u up q.n q.t _ (hkv.grow (hout _ U.ext)) (U.ow 1 O) (cW hk0 (hout _ U.ext))) fun a w13 Y U => wlv Y (ax O O) fun a Y => G7 ?_
     replace Y := Y.p2 6 60 O
     replace U := U.k3 28 O
     refine bC Y O (fun hc10 => ?_) (fun hc10 => ?_)
     ·have hvl := hc10
      refine aa fun _ G8 => az 2 Y U [.bool true] O (sizeOf4 _) fun a w14 Y U => G8 <| aq ?_
      exact ⟨_, ⟨O, tm (eE hnx) (rN om om hdz om om hvl), O⟩, U.select [0, 1, 2] de⟩
     have hcf : keepC ks q xs.2 = false := j3 (by rw [gw hdz, hc10, zy])
     refine ar ?_
     exact ⟨_, ⟨co hno hcf, O⟩, U.select [0, 1, 2] de⟩
    rw [yD hb9] at Y
    have hcf : keepC ks q xs.2 = false := j3 (by rw [gw hdz, yD (by omega : ¬ u.carrier = q.c), zy]; rfl)
    refine nv Y <| yt <| yt <| yt <| yt <| yt <| yt <| yt <| yt <| yo (ak O O) <| fun a Y => G7 ?_
    replace Y := Y.p2 6 60 O
    replace U := U.k3 28 O
    refine aJ Y O ?_
    refine ar ?_
    exact ⟨_, ⟨co hno hcf, O⟩, U.select [0, 1, 2] de⟩
   rw [yD hb8] at Y
   have hcf : keepC ks q xs.2 = false := j3 (by rw [gw hdz, yD om]; rfl)
   refine nv Y <| yt <| yt <| yt <| yt <| yt <| yo (ak O O) <| yp O <| yt <| yt <| yt <| yt <| yt <| yt <| yt <| yt <| yo (ak O O) <| fun a Y => G7 ?_
   replace Y := Y.p2 6 60 O
   replace U := U.k3 28 O
   refine aJ Y O ?_
   refine ar ?_
   exact ⟨_, ⟨co hno hcf, O⟩, U.select [0, 1, 2] de⟩
  have hdz : bH xs.2.ev = none := by
   cases h : bH xs.2.ev with
   | none => rfl
   | some z => rw [h] at hb5; cases hb5
  have hcf : keepC ks q xs.2 = false := j3 (rL hdz)
  refine aw Y U call39 O (sA om hdz) fun a w15 Y U => nv Y <| yp O <| yo (ao O O) <| yo (ao O O) <| yo (ao O O) <| fun a Y => aD Y U (zeroValue90 _) [jv 0, jv 0, jv 0, jv 0, jv 0, jv 0, jv 0, jv 0, .string (⟨#[]⟩)] O fun a w16 Y U => az 0 Y U [jv 0, jv 0, jv 0, jv 0, jv 0, jv 0, jv 0, jv 0, sv ([] : By)] O (sizeOf90 _) fun a w17 Y U => nv Y <| yq O <| yq O <| fun a Y => G6 ?_
  replace U := U.k4 29 O
  refine aa fun _ G9 => nv (Y.p6 3 4 6 9 10 11 O) <| yp O <| yo ((v_eq O O).asb (b' := false) O) <| yp O <| yt <| yt <| yt <| yt <| yt <| yo (ak O O) <| yp O <| yt <| yt <| yt <| yt <| yt <| yo (ak O O) <| yp O <| yt <| yt <| yt <| yt <| yt <| yt <| yt <| yt <| yo (ak O O) <| fun a Y => G9 ?_
  replace Y := Y.p2 6 60 O
  replace U := U.k3 14 O
  refine aJ Y O ?_
  refine ar ?_
  exact ⟨_, ⟨co hno hcf, O⟩, U.select [0, 1, 2] de⟩
 ·rintro D pre _ _ a w18 ⟨rfl, rfl⟩ ⟨hno, rfl⟩ U Y
  replace Y := Y.p9 0 1 2 3 4 5 6 12 13 O
  replace U := U.n5 O
  refine G2 <| aa fun _ G10 => az 3 Y U [.bool false] O (sizeOf4 _) fun a w19 Y U => G10 ?_
  replace Y := Y.p1 6 O
  replace U := U.k4 15 O
  refine aq ?_
  have hD := U.g 0 rfl
  replace U := U.unmark (i := 0) (o' := .deferred none) O
  replace U := U.n3 O
  refine cx Y hD results56 (ai O (aK (U.g 2 O) (isAgg4 _)) ag) ?_
  exact ⟨by simp only [retv]; rw [vr hno]; try rfl, U.ext⟩
 ·rintro D _ pre _ _ a w20 rfl ⟨rfl, hhit, rfl⟩ U Y
  replace Y := Y.p9 0 1 2 3 4 5 6 12 13 O
  replace U := U.n5 O
  refine aq ?_
  have hD := U.g 0 rfl
  replace U := U.unmark (i := 0) (o' := .deferred none) O
  replace U := U.n4 O
  refine cx Y hD results56 (ai O (aK (U.g 2 O) (isAgg4 _)) ag) ?_
  exact ⟨by simp only [retv]; rw [hhit]; try rfl, U.ext⟩
theorem wD (x : Itw) (w0 : World) (hln : x.m.e.length ≤ 1000) :
  Ret Tryz.prog 78 #[.agg #[jv x.m.ix, sv x.m.e, x.pv]] w0 fun v w => v = .bool (noCase x.m) ∧ Ext No w0 w := by
 refine An func78 O ntmps78 (lb O) fun a Y U => aa fun _ G1 => aV Y U O [jv x.m.ix, sv x.m.e, x.pv] O fun a w1 Y U => wla Y O fun a Y => G1 <| aa fun _ G2 => nv Y <| yo (ac (v := po w0.hz 1) O kr) <| yo (ld U 0 O O (isAgg9 _) O) <| fun a Y => ?_
 rcases yz ((decCas x.m.e).isSome) with hb1 | hb1
 ·obtain ⟨cc, hcc⟩ := zr.1 hb1
  refine aw Y U call20 O (q7 hcc om) fun a w2 Y U => nv Y <| yp O <| yo (ao O O) <| yo (ao O O) <| fun a Y => aD Y U (zeroValue55 _) [jv 0, jv 0, .string (⟨#[]⟩)] O fun a w3 Y U => az 0 Y U [jv cc.n, jv cc.t, sv cc.ev] O (sizeOf55 _) fun a w4 Y U => wla Y O fun a Y => G2 ?_
  replace U := U.k0 0 O
  refine aa fun _ G3 => nv (Y.p2 2 4 O) <| yp O <| yo ((v_ne O O).asb (b' := false) O) <| yq O <| fun a Y => G3 <| aq <| am Y results78 (ae O ag) ?_
  exact ⟨by simp only [retv]; unfold noCase; rw [hcc]; rfl, U.ext⟩
 have hcn : decCas x.m.e = none := by
  cases h : decCas x.m.e with
  | none => rfl
  | some z => rw [h] at hb1; cases hb1
 refine aw Y U call20 O (uU hcn om) fun a w5 Y U => nv Y <| yp O <| yo (ao O O) <| yo (ao O O) <| fun a Y => aD Y U (zeroValue55 _) [jv 0, jv 0, .string (⟨#[]⟩)] O fun a w6 Y U => az 0 Y U [jv Cas.z.n, jv Cas.z.t, sv Cas.z.ev] O (sizeOf55 _) fun a w7 Y U => wla Y O fun a Y => G2 ?_
 replace U := U.k0 0 O
 refine aa fun _ G4 => nv (Y.p2 2 4 O) <| yp O <| yo ((v_ne O O).asb (b' := true) O) <| yq O <| fun a Y => G4 <| aq <| am Y results78 (ae O ag) ?_
 exact ⟨by simp only [retv]; unfold noCase; rw [hcn]; rfl, U.ext⟩
theorem sn {M : Nat → Prop} {wb : World} {H : List Ent} {sv : Value} {els : List (List Value)} {caps : List Value} {g : FuncId} (p : Nat → Bool) (ev_ : Nat → Value) (J : Nat → Ent → Prop) (e0 : Ent) (w0 : World)
  (hen : ∀ args w, (callFunc g args).run Tryz.prog w = .ok (.enter g args) w) (hs : ∀ e w, St M wb (e :: H) w → SlAt w sv 3 els)
  (hev : ∀ k (h : k < els.length), .agg (els[k]).toArray = ev_ k) (hJ0 : J 0 e0) (U : St M wb (e0 :: H) w0)
  (hcl : ∀ k e w, k < els.length → J k e → e.ok w → (∀ b, e.foot b → b < w.hz) → Ret Tryz.prog g ([ev_ k] ++ caps).toArray w fun v w' => v = .bool (p k) ∧ ∃ e', Ext e.foot w w' ∧ e'.ok w' ∧ (∀ b, e'.foot b → b < w'.heap.size ∧ (e.foot b ∨ w.hz ≤ b)) ∧ J (k + 1) e') :
  Ret Tryz.prog 131 #[sv, .func (.func g) #[] caps.toArray] w0 fun v w => v = jv (fstIdx p els.length) ∧ ∃ k e', J k e' ∧ St M wb (e' :: H) w := by
 have hsl := (hs _ _ U).le
 refine aC func131 O ntmps131 (lb O) fun a Y => aa fun _ G1 => wla (Y.p2 0 1 O) O fun a Y => G1 <| ah fun _ G2 => aa fun _ G3 => nv Y <| yp O <| yo (aO (sT := 48) (hs _ _ U) O O (runUnderlying48 _)) <| yp O <| fun a Y => G3 <| au <| aZ (fun m a w => ∃ (k : Nat) (e : Ent), m = els.length - k ∧ (k ≤ els.length) ∧ (∀ j, j < k → p j = false) ∧ (J k e) ∧ Fr 19 [(0, sv), (1, .func (.func g) #[] caps.toArray), (6, sv), (7, jv els.length), (8, jv (k : Int))] [] a ∧ St M wb (e :: H) w) _ ⟨0, e0, O, yQ _, (by intro j hj; omega), hJ0, Y.pick [0, 1, 6, 7, 8], U⟩ ?_
 rintro _ a w1 ⟨k, e, rfl, hk, hp, hJ, Y, U⟩
 refine aa fun _ G4 => wlv Y (v_lt O O) fun a Y => G4 <| ah fun _ G5 => aA Y O (fun hc1 => ?_) (fun hc1 => ?_)
 ·rw [yy hc1] at Y
  refine ar <| G5 <| ah fun _ G6 => au <| aa fun _ G7 => nv Y <| yp O <| yq O <| fun a Y => G7 <| aa fun _ G8 => nv Y <| yp O <| yp O <| yp O <| yo ((aj (i := (k : Int)) (sT := 48) (hs _ _ U) O O (runUnderlying48 _) (sizeOf110 _) om om).as (v' := slAddr sv (k * 3)) O) <| yo ((bP (hs _ _ U) (i := k) om O (isAgg110 _) (sizeOf110 _)).as (v' := ev_ k) (hev k om)) <| fun a Y => wl_r (gF (cap := caps) O hen O (hcl k _ _ om hJ (U.g 0 O) (fun b hb => U.lt (k := 0) O hb))) O O Y fun a v w2 hR Y => ?_
  obtain ⟨rfl, e1, hx, hok, hft, hJ1⟩ := hR
  have U := U.exchange (k := 0) rfl hx hok hft
  have U : St M wb (e1 :: H) w2 := U
  refine G8 <| bC Y O (fun hc2 => ?_) (fun hc2 => ?_)
  ·rw [hc2] at Y
   refine aa fun _ G9 => nv Y <| yp O <| yq O <| fun a Y => G9 <| aq <| am Y results131 (ae O ag) ?_
   exact ⟨by rw [eV (k := k) om hp Ay]; rfl, _, _, hJ1, U⟩
  rw [hc2] at Y
  refine ar <| G6 <| al <| nv Y <| yo (aM O O ⟨om, om⟩) <| yp O <| fun a Y => ab ?_
  refine ⟨_, ?_, k + 1, e1, O, om, Bq, hJ1, Y.pick [0, 1, 6, 7, 8], U⟩
  omega
 rw [yD hc1] at Y
 refine aP <| G2 <| aa fun _ G10 => wla Y O fun a Y => G10 <| aq <| am Y results131 (ae O ag) ?_
 have hkl : k = els.length := by omega
 subst hkl
 exact ⟨by rw [eY hp]; rfl, _, _, hJ, U⟩
theorem nz {M : Nat → Prop} {wb : World} {H : List Ent} {sv : Value} {els : List (List Value)} {caps : List Value} {g : FuncId} (p : Nat → Bool) (ev_ : Nat → Value) (J : Nat → Ent → Prop) (e0 : Ent) (w0 : World)
  (hen : ∀ args w, (callFunc g args).run Tryz.prog w = .ok (.enter g args) w) (hs : ∀ e w, St M wb (e :: H) w → SlAt w sv 3 els)
  (hev : ∀ k (h : k < els.length), .agg (els[k]).toArray = ev_ k) (hJ0 : J 0 e0) (U : St M wb (e0 :: H) w0)
  (hcl : ∀ k e w, k < els.length → J k e → e.ok w → (∀ b, e.foot b → b < w.hz) → Ret Tryz.prog g ([ev_ k] ++ caps).toArray w fun v w' => v = .bool (p k) ∧ ∃ e', Ext e.foot w w' ∧ e'.ok w' ∧ (∀ b, e'.foot b → b < w'.heap.size ∧ (e.foot b ∨ w.hz ≤ b)) ∧ J (k + 1) e') :
  Ret Tryz.prog 79 #[sv, .func (.func g) #[] caps.toArray] w0 fun v w => v = .bool ((List.range els.length).any p) ∧ ∃ k e', J k e' ∧ St M wb (e' :: H) w := by
 refine aC func79 O ntmps79 (lb O) fun a Y => aa fun _ G1 => wla (Y.p2 0 1 O) O fun a Y => G1 <| aa fun _ G2 => nv Y <| yp O <| yp O <| fun a Y => wl_r (eI call131 O (sn p ev_ J e0 _ hen hs hev hJ0 U hcl)) O O Y fun a v w1 hR Y => ?_
 obtain ⟨rfl, kk, e1, hJ1, U⟩ := hR
 refine nv Y <| yo (v_ge O O) <| yq O <| fun a Y => G2 <| aq <| am Y results79 (ae O ag) ?_
 exact ⟨by rw [gP]; rfl, _, _, hJ1, U⟩
theorem qR {iv : Value} {L : List Itw} (w0 : World) (hiv : ItsAt w0 iv L) (hel : ∀ x ∈ L, x.m.e.length ≤ 1000) : Ret Tryz.prog 79 #[iv, .func (.func 78) #[] #[]] w0 fun v w => v = .bool ((itsM L).any noCase) ∧ Ext No w0 w := by
 have U : St No w0 [join []] w0 := St.join [] [] (St.init w0)
 have h := nz (M := No) (wb := w0) (H := []) (sv := iv) (els := L.map Itw.cells) (caps := []) (g := 78) (fun k => noCase (L.getD k Itw.z).m) (fun k => .agg (L.getD k Itw.z).cells.toArray) (fun _ e => e = join []) (join []) w0 call78
  (fun e w h => h.arg hiv.1) (fun k h => by rw [bf Itw.z]) rfl U (fun k e w hk he hok hlt => by
   subst he
   have hm := bD (d := Itw.z) (l := L) (i := k) BW
   refine (wD (L.getD k Itw.z) w (hel _ hm)).mono fun v w' ⟨h1, h2⟩ => ⟨h1, join [], h2.mono (fun k _ hk => hk.elim), ?_, ?_, O⟩
   ·exact ⟨fun e he => (by cases he), List.Pairwise.nil⟩
   ·rintro b ⟨e, he, _⟩
    cases he)
 refine h.mono fun v w ⟨h1, k, e, he, U⟩ => ⟨?_, U.ext⟩
 rw [h1, yu]
 congr 1
 rw [Bool.eq_iff_iff, zp, zp]
 constructor
 ·rintro ⟨k, hk, hp⟩
  exact ⟨_, zf.2 ⟨_, bD (yH.1 hk), O⟩, hp⟩
 ·rintro ⟨x, hx, hp⟩
  obtain ⟨y, hy, rfl⟩ := zf.1 hx
  obtain ⟨k, hk, rfl⟩ := zq hy
  exact ⟨k, yH.2 hk, by rw [yA, yF hk]; exact hp⟩
theorem kp (key : By) (hd : Hd) (iv1 iv2 : Value) (L1 L2 : List Itw) (w0 : World) (hiv1 : ItsAt w0 iv1 L1) (hiv2 : ItsAt w0 iv2 L2) (hpf1 : ∀ x ∈ L1, x.m.pf.length ≤ 1000) (hpf2 : ∀ x ∈ L2, x.m.pf.length ≤ 1000) (hc1 : checkP sha key hd (itsM L1) = true) (hc2 : checkP sha key hd (itsM L2) = true) (hk0 : (blk 0 (kOf.map wv) 258).ok w0) :
  Ret Tryz.prog 30 #[sv key, .agg #[jv hd.c, jv hd.n, sv hd.root, sv hd.tag, iv1], .agg #[jv hd.c, jv hd.n, sv hd.root, sv hd.tag, iv2]] w0 fun v w => v = .bool (crookF (itsM L1) (itsM L2)) ∧ Ext No w0 w := by
 have hok1 := ja hc1
 have hok2 := ja hc2
 refine Ao func30 O ntmps30 (lb O) fun a Y U => aa fun _ G1 => aV Y U O [jv hd.c, jv hd.n, sv hd.root, sv hd.tag, iv1] O fun a w1 Y U => aV Y U O [jv hd.c, jv hd.n, sv hd.root, sv hd.tag, iv2] O fun a w2 Y U => aD Y U (zeroValue4 _) [.bool false] O fun a w3 Y U => G1 <| ah fun _ G2 => aa fun _ G3 => nv Y <| yp O <| yo (ap (U.g 2 O) O (isAgg50 _) (sizeOf50 _)) <| fun a Y => aw Y U call52 O (cJ hc1 (eC key hd iv1 L1 _ (cC U hiv1) hpf1 (U.keepb hk0))) fun a w4 Y U => nv Y <| yo ((bB O).asb (b' := false) O) <| yp O <| yr (ay O) <| yr (ap (U.g 1 O) O (isAgg50 _) (sizeOf50 _)) <| fun a Y => aF Y U call52 O (cJ hc2 (eC key hd iv2 L2 _ (cC U hiv2) hpf2 (U.keepb hk0))) fun a w5 Y U => nv Y <| yr ((bB O).asb (b' := false) O) <| yo (ak O O) <| yp O <| yr (ac (v := pq w0.hz) O kr) <| yr (bS (ds := [jv hd.c, jv hd.n, sv hd.root, sv hd.tag]) (U.g 2 O) O (isAgg47 _) (sizeOf47 _) O) <| yr (ac (v := pq w1.hz) O kr) <| yr (bS (ds := [jv hd.c, jv hd.n, sv hd.root, sv hd.tag]) (U.g 1 O) O (isAgg47 _) (sizeOf47 _) O) <| yr ((oB O O kr (eqHd hd.c hd.n hd.root hd.tag hd.c hd.n hd.root hd.tag _)).asb (b' := false) sm) <| yo (ak O O) <| fun a Y => G3 ?_
 replace Y := Y.p4 4 5 6 32 O
 refine aJ Y O ?_
 refine ar <| G2 <| aa fun _ G4 => wla Y O fun a Y => G4 <| ah fun _ G5 => aa fun _ G6 => nv Y <| yo (ac (v := po w0.hz 4) O kr) <| yo (ld U 2 O O (isAgg48 _) O) <| yp O <| fun a Y => aw Y U call79 O (qR _ (cC U hiv1) (fun x hx => (hok1.2.2 x hx).2.2)) fun a w6 Y U => wlm Y O fun a Y => ?_
 rcases yz ((itsM L1).any noCase) with hb1 | hb1
 ·rw [hb1] at Y
  have hna := hb1
  refine nv Y <| yt <| yt <| yt <| yt <| yo (ax O O) <| fun a Y => G6 ?_
  replace Y := Y.p4 4 5 6 42 O
  refine aG Y O ?_
  refine aa fun _ G7 => az 0 Y U [.bool true] O (sizeOf4 _) fun a w7 Y U => G7 <| aq <| am Y results30 (ai O (aK (U.g 0 O) (isAgg4 _)) ag) ?_
  exact ⟨by simp only [retv]; rw [oT hna]; try rfl, U.ext⟩
 rw [hb1] at Y
 have hna := hb1
 refine nv Y <| yr (ac (v := po w1.hz 4) O kr) <| yr (ld U 1 O O (isAgg48 _) O) <| yr (ay O) <| fun a Y => aF Y U call79 O (qR _ (cC U hiv2) (fun x hx => (hok2.2.2 x hx).2.2)) fun a w8 Y U => wlv Y (ak O O) fun a Y => G6 ?_
 replace Y := Y.p4 4 5 6 42 O
 refine bC Y O (fun hc2 => ?_) (fun hc2 => ?_)
 ·have hnb := hc2
  refine aa fun _ G8 => az 0 Y U [.bool true] O (sizeOf4 _) fun a w9 Y U => G8 <| aq <| am Y results30 (ai O (aK (U.g 0 O) (isAgg4 _)) ag) ?_
  exact ⟨by simp only [retv]; rw [nK hnb]; try rfl, U.ext⟩
 have hnb := hc2
 refine ar <| G5 <| ah fun _ G9 => aa fun _ G10 => nv Y <| yo (ap (U.g 2 O) O (isAgg50 _) (sizeOf50 _)) <| yo (ap (U.g 1 O) O (isAgg50 _) (sizeOf50 _)) <| yo (aW (v := .agg #[jv hd.c, jv hd.n, sv hd.root, sv hd.tag, iv1, jv hd.c, jv hd.n, sv hd.root, sv hd.tag, iv2]) O (by obtain ⟨_, _, _, eb0_⟩ := cO (U.arg hiv1.1); obtain ⟨_, _, _, eb1_⟩ := cO (U.arg hiv2.1); rw [eb0_, eb1_]; kernel_rfl)) <| yp O <| fun a Y => G10 <| au <| ez 4 ?_
 refine bR <| aa fun _ G11 => wlv Y ((v_lt O O).asb (b' := true) O) fun a Y => G11 <| ah fun _ G12 => aG Y O ?_
 refine ar <| G12 <| ah fun _ G13 => au <| aa fun _ G14 => wlv Y (cj (v := .agg #[jv hd.c, jv hd.n, sv hd.root, sv hd.tag, iv1]) O O kr) fun a Y => aD Y U (zeroValue50 _) [jv 0, jv 0, .string (⟨#[]⟩), .string (⟨#[]⟩), .slice none 0 0] O fun a w10 Y U => bp (us := [jv hd.c, jv hd.n, sv hd.root, sv hd.tag, iv1]) 0 Y U O O O (sizeOf50 _) (by intro z hz; simp only [yE, yI, y9] at hz; rcases hz with rfl | rfl | rfl | rfl | rfl <;> first | rfl | exact SlAt.one (U.arg hiv1.1)) (lb O) (ds := [jv hd.c, jv hd.n, sv hd.root, sv hd.tag, iv1]) O O fun a w11 Y U => ?_
 refine G14 <| aa fun _ G15 => wlv Y (ap (U.g 0 O) O (isAgg50 _) (sizeOf50 _)) fun a Y => bu Y U call74 O (dQ hd iv1 L1 _ (cC U hiv1)) fun a w12 x4 hp Y U => ?_
 revert x4 hp Y U; rintro z3 hp Y U
 clear hp
 replace U := U.n5 O
 refine G15 ?_
 replace Y := Y.p6 4 5 6 45 46 50 O
 replace U := U.k4 29 O
 refine au ?_
 replace U := U.s4 [3, 2, 1, 0] de rfl
 replace Y := Y.p6 4 5 6 45 46 50 O
 refine dD (M := No) (w0 := w0) (encs := encK) (Hi := [blk z3 [jv hd.c, jv hd.n, sv hd.root, sv hd.tag, iv1] 50]) (Hc := [blk w0.hz [jv hd.c, jv hd.n, sv hd.root, sv hd.tag, iv1] 50, blk w1.hz [jv hd.c, jv hd.n, sv hd.root, sv hd.tag, iv2] 50, blk w2.hz [.bool false] 4]) (fun pre H => (∀ z ∈ pre, NB z (casesF (itsM L1)) ∧ NB z (casesF (itsM L2))) ∧ H = [blk w0.hz [jv hd.c, jv hd.n, sv hd.root, sv hd.tag, iv1] 50, blk w1.hz [jv hd.c, jv hd.n, sv hd.root, sv hd.tag, iv2] 50, blk w2.hz [.bool false] 4]) (fun c pre H => c = .ret ∧ (crookF (itsM L1) (itsM L2) = true) ∧ H = [blk w0.hz [jv hd.c, jv hd.n, sv hd.root, sv hd.tag, iv1] 50, blk w1.hz [jv hd.c, jv hd.n, sv hd.root, sv hd.tag, iv2] 50, blk w2.hz [.bool true] 4]) (fun pre xs H a => ∃ (bA0 : Nat), ∃ (bA1 : Nat), Fr 75 [(4, pq w0.hz), (5, pq w1.hz), (6, pq w2.hz), (45, .agg #[jv hd.c, jv hd.n, sv hd.root, sv hd.tag, iv1, jv hd.c, jv hd.n, sv hd.root, sv hd.tag, iv2]), (46, jv 0), (50, .func (.func 125) #[] #[pq z3]), (10, pq bA1), (11, pq bA0)] [] a ∧ (∀ z ∈ pre, NB z (casesF (itsM L1)) ∧ NB z (casesF (itsM L2))) ∧ H = [blk bA0 [jv xs.2.n, jv xs.2.t, sv xs.2.ev] 55, blk bA1 [jv xs.1] 3, blk w0.hz [jv hd.c, jv hd.n, sv hd.root, sv hd.tag, iv1] 50, blk w1.hz [jv hd.c, jv hd.n, sv hd.root, sv hd.tag, iv2] 50, blk w2.hz [.bool false] 4]) O call125 Y U (dr hd iv1 L1 z3 (fun x hx => (hok1.2.2 x hx).2.2) (fun H w h => cC h hiv1)) de (fun _ => O) ⟨sm, O⟩ ?_ ?_ ?_ ?_
 ·clear Y U
  rintro lp pre xs _ a w13 hnx ⟨ho1, rfl⟩ Y U
  generalize (join [blk w0.hz [jv hd.c, jv hd.n, sv hd.root, sv hd.tag, iv1] 50, blk w1.hz [jv hd.c, jv hd.n, sv hd.root, sv hd.tag, iv2] 50, blk w2.hz [.bool false] 4]).foot = M1 at U ⊢
  refine aa fun _ G16 => aD (Y.p8 52 51 4 5 6 45 46 50 O) U (zeroValue3 _) [jv 0] O fun a w14 Y U => az 0 Y U [jv xs.1] O (sizeOf3 _) fun a w15 Y U => G16 <| al <| aD Y U (zeroValue55 _) [jv 0, jv 0, .string (⟨#[]⟩)] O fun a w16 Y U => az 0 Y U [jv xs.2.n, jv xs.2.t, sv xs.2.ev] O (sizeOf55 _) fun a w17 Y U => ab ?_
  exact ⟨_, ⟨w15.hz, w13.hz, Y.pick [4, 5, 6, 45, 46, 50, 10, 11], ho1, O⟩, U⟩
 ·rintro lp pre xs _ a w18 hnx ⟨bA0, bA1, Y, ho1, rfl⟩ hout hrec hnl U
  generalize (join [blk bA0 [jv xs.2.n, jv xs.2.t, sv xs.2.ev] 55, blk bA1 [jv xs.1] 3, blk w0.hz [jv hd.c, jv hd.n, sv hd.root, sv hd.tag, iv1] 50, blk w1.hz [jv hd.c, jv hd.n, sv hd.root, sv hd.tag, iv2] 50, blk w2.hz [.bool false] 4]).foot = M1 at U hout hnl ⊢
  refine au <| aa fun _ G17 => nv Y <| yo (ap (U.g 2 O) O (isAgg50 _) (sizeOf50 _)) <| yo (ap (U.g 3 O) O (isAgg50 _) (sizeOf50 _)) <| yo (aW (v := .agg #[jv hd.c, jv hd.n, sv hd.root, sv hd.tag, iv1, jv hd.c, jv hd.n, sv hd.root, sv hd.tag, iv2]) O Bj) <| yp O <| fun a Y => G17 ?_
  replace Y := Y.p5 6 10 11 55 56 O
  refine au <| ez 4 ?_
  refine bR <| aa fun _ G18 => wlv Y ((v_lt O O).asb (b' := true) O) fun a Y => G18 <| ah fun _ G19 => aG Y O ?_
  refine ar <| G19 <| ah fun _ G20 => au <| aa fun _ G21 => wlv Y (cj (v := .agg #[jv hd.c, jv hd.n, sv hd.root, sv hd.tag, iv1]) O O kr) fun a Y => aD Y U (zeroValue50 _) [jv 0, jv 0, .string (⟨#[]⟩), .string (⟨#[]⟩), .slice none 0 0] O fun a w19 Y U => bp (us := [jv hd.c, jv hd.n, sv hd.root, sv hd.tag, iv1]) 0 Y U O O O (sizeOf50 _) Bo (lb O) (ds := [jv hd.c, jv hd.n, sv hd.root, sv hd.tag, iv1]) O O fun a w20 Y U => G21 <| aa fun _ G22 => wlv Y (ap (U.g 0 O) O (isAgg50 _) (sizeOf50 _)) fun a Y => bu Y U call74 O (dQ hd iv1 L1 _ (hiv1.grow (hout _ U.ext))) fun a w21 x6 hp Y U => ?_
  revert x6 hp Y U; rintro z5 hp Y U
  clear hp
  replace U := U.n7 O
  refine G22 <| au ?_
  replace U := U.s6 [4, 5, 6, 3, 2, 0] de rfl
  replace Y := Y.p10 6 10 11 55 56 57 58 13 59 60 O
  refine gH (M := M1) (w0 := w18) (encs := encK) (Hi := [blk z5 [jv hd.c, jv hd.n, sv hd.root, sv hd.tag, iv1] 50]) (Hc := [blk w0.hz [jv hd.c, jv hd.n, sv hd.root, sv hd.tag, iv1] 50, blk w1.hz [jv hd.c, jv hd.n, sv hd.root, sv hd.tag, iv2] 50, blk w2.hz [.bool false] 4, blk bA1 [jv xs.1] 3, blk bA0 [jv xs.2.n, jv xs.2.t, sv xs.2.ev] 55]) (fun pre2 H => (∀ y ∈ pre2, ¬ (xs.1 < y.1 ∧ y.2.n ≤ xs.2.n)) ∧ H = [blk w0.hz [jv hd.c, jv hd.n, sv hd.root, sv hd.tag, iv1] 50, blk w1.hz [jv hd.c, jv hd.n, sv hd.root, sv hd.tag, iv2] 50, blk w2.hz [.bool false] 4, blk bA1 [jv xs.1] 3, blk bA0 [jv xs.2.n, jv xs.2.t, sv xs.2.ev] 55]) (fun c pre2 H => c = .ret ∧ (crookF (itsM L1) (itsM L2) = true) ∧ H = [blk w0.hz [jv hd.c, jv hd.n, sv hd.root, sv hd.tag, iv1] 50, blk w1.hz [jv hd.c, jv hd.n, sv hd.root, sv hd.tag, iv2] 50, blk w2.hz [.bool true] 4, blk bA1 [jv xs.1] 3, blk bA0 [jv xs.2.n, jv xs.2.t, sv xs.2.ev] 55]) (fun pre2 xs2 H a => ∃ (bAz0 : Nat), Fr 75 [(6, pq w2.hz), (10, pq bA1), (11, pq bA0), (14, jv xs2.1), (15, pq bAz0)] [] a ∧ (∀ y ∈ pre2, ¬ (xs.1 < y.1 ∧ y.2.n ≤ xs.2.n)) ∧ H = [blk bAz0 [jv xs2.2.n, jv xs2.2.t, sv xs2.2.ev] 55, blk w0.hz [jv hd.c, jv hd.n, sv hd.root, sv hd.tag, iv1] 50, blk w1.hz [jv hd.c, jv hd.n, sv hd.root, sv hd.tag, iv2] 50, blk w2.hz [.bool false] 4, blk bA1 [jv xs.1] 3, blk bA0 [jv xs.2.n, jv xs.2.t, sv xs.2.ev] 55]) O call125 (ic hrec hnl U.ext) Y U (dr hd iv1 L1 z5 (fun x hx => (hok1.2.2 x hx).2.2) (fun H w h => hiv1.grow (hout _ h.ext))) de (fun _ => O) ⟨sm, O⟩ ?_ ?_ ?_ ?_
  ·clear Y U
   rintro lp2 pre2 xs2 _ a w22 hnx2 ⟨hq1, rfl⟩ Y U
   generalize (join [blk w0.hz [jv hd.c, jv hd.n, sv hd.root, sv hd.tag, iv1] 50, blk w1.hz [jv hd.c, jv hd.n, sv hd.root, sv hd.tag, iv2] 50, blk w2.hz [.bool false] 4, blk bA1 [jv xs.1] 3, blk bA0 [jv xs.2.n, jv xs.2.t, sv xs.2.ev] 55]).foot = M2 at U ⊢
   refine aa fun _ G23 => wla (Y.p12 62 61 6 10 11 55 56 57 58 13 59 60 O) O fun a Y => G23 ?_
   refine al <| aD (Y.p5 62 6 10 11 14 O) U (zeroValue55 _) [jv 0, jv 0, .string (⟨#[]⟩)] O fun a w23 Y U => az 0 Y U [jv xs2.2.n, jv xs2.2.t, sv xs2.2.ev] O (sizeOf55 _) fun a w24 Y U => ab ?_
   exact ⟨_, ⟨w22.hz, Y.pick [6, 10, 11, 14, 15], hq1, O⟩, U⟩
  ·rintro lp2 pre2 xs2 _ a w25 hnx2 ⟨bAz0, Y, hq1, rfl⟩ hout9 hrec2 hnl2 U
   clear hrec2 hnl2
   generalize (join [blk bAz0 [jv xs2.2.n, jv xs2.2.t, sv xs2.2.ev] 55, blk w0.hz [jv hd.c, jv hd.n, sv hd.root, sv hd.tag, iv1] 50, blk w1.hz [jv hd.c, jv hd.n, sv hd.root, sv hd.tag, iv2] 50, blk w2.hz [.bool false] 4, blk bA1 [jv xs.1] 3, blk bA0 [jv xs.2.n, jv xs.2.t, sv xs.2.ev] 55]).foot = M2 at U hout9 ⊢
   have hout := fun w (h : Ext M2 w25 w) => hout w (hout9 w h)
   refine au <| aa fun _ G24 => nv Y <| yo (ld U 4 O O (isAgg3 _) O) <| yp O <| yo (v_lt O O) <| yp O <| fun a Y => ?_
   rcases Decidable.em (xs.1 < xs2.1) with hb7 | hb7
   ·rw [yy hb7] at Y
    refine nv Y <| yr (ac (v := pq bA0) O kr) <| yr (ld U 5 O O (isAgg3 _) O) <| yr (ac (v := pq bAz0) O kr) <| yr (ld U 0 O O (isAgg3 _) O) <| yr (v_ge O O) <| yo (ax O O) <| fun a Y => G24 ?_
    replace Y := Y.p2 6 72 O
    replace U := U.k5 62 O
    refine aA Y O (fun hc8 => ?_) (fun hc8 => ?_)
    ·refine aa fun _ G25 => az 2 Y U [.bool true] O (sizeOf4 _) fun a w26 Y U => G25 <| aq ?_
     exact ⟨_, ⟨O, pd (iy (eE hnx) (eE hnx2) om om), O⟩, U.select [0, 1, 2, 3, 4] de⟩
    have hnt : ¬ (xs.1 < xs2.1 ∧ xs2.2.n ≤ xs.2.n) := by omega
    refine ar ?_
    exact ⟨_, ⟨co hq1 hnt, O⟩, U.select [0, 1, 2, 3, 4] de⟩
   rw [yD hb7] at Y
   have hnt : ¬ (xs.1 < xs2.1 ∧ xs2.2.n ≤ xs.2.n) := by omega
   refine nv Y <| yt <| yt <| yt <| yt <| yt <| yo (ak O O) <| fun a Y => G24 ?_
   replace Y := Y.p2 6 72 O
   replace U := U.k5 62 O
   refine aJ Y O ?_
   refine ar ?_
   exact ⟨_, ⟨co hq1 hnt, O⟩, U.select [0, 1, 2, 3, 4] de⟩
  ·rintro pre2 _ _ a w27 ⟨rfl, rfl⟩ ⟨hq1, rfl⟩ U Y
   replace Y := Y.p10 6 10 11 55 56 57 58 13 59 60 O
   replace U := U.n6 O
   refine G20 <| al <| nv Y <| yo ((aM O O de).asi (m' := 1) O) <| yp O <| fun a Y => ab <| bR <| aa fun _ G26 => wlv Y ((v_lt O O).asb (b' := true) O) fun a Y => G26 <| ah fun _ G27 => aG Y O ?_
   refine ar <| G27 <| ah fun _ G28 => au <| aa fun _ G29 => wlv Y (cj (v := .agg #[jv hd.c, jv hd.n, sv hd.root, sv hd.tag, iv2]) O O kr) fun a Y => aD Y U (zeroValue50 _) [jv 0, jv 0, .string (⟨#[]⟩), .string (⟨#[]⟩), .slice none 0 0] O fun a w28 Y U => bp (us := [jv hd.c, jv hd.n, sv hd.root, sv hd.tag, iv2]) 0 Y U O O O (sizeOf50 _) Bn (lb O) (ds := [jv hd.c, jv hd.n, sv hd.root, sv hd.tag, iv2]) O O fun a w29 Y U => G29 <| aa fun _ G30 => wlv Y (ap (U.g 0 O) O (isAgg50 _) (sizeOf50 _)) fun a Y => bu Y U call74 O (dQ hd iv2 L2 _ (hiv2.grow (hout _ U.ext))) fun a w30 x10 hp Y U => ?_
   revert x10 hp Y U; rintro z9 hp Y U
   clear hp
   replace U := U.n8 O
   refine G30 <| au ?_
   replace U := U.s6 [2, 3, 4, 5, 6, 0] de rfl
   replace Y := Y.p11 6 10 11 55 73 56 57 58 13 59 60 O
   refine gH (M := M1) (w0 := w18) (encs := encK) (Hi := [blk z9 [jv hd.c, jv hd.n, sv hd.root, sv hd.tag, iv2] 50]) (Hc := [blk w0.hz [jv hd.c, jv hd.n, sv hd.root, sv hd.tag, iv1] 50, blk w1.hz [jv hd.c, jv hd.n, sv hd.root, sv hd.tag, iv2] 50, blk w2.hz [.bool false] 4, blk bA1 [jv xs.1] 3, blk bA0 [jv xs.2.n, jv xs.2.t, sv xs.2.ev] 55]) (fun pre2 H => (∀ y ∈ pre2, ¬ (xs.1 < y.1 ∧ y.2.n ≤ xs.2.n)) ∧ H = [blk w0.hz [jv hd.c, jv hd.n, sv hd.root, sv hd.tag, iv1] 50, blk w1.hz [jv hd.c, jv hd.n, sv hd.root, sv hd.tag, iv2] 50, blk w2.hz [.bool false] 4, blk bA1 [jv xs.1] 3, blk bA0 [jv xs.2.n, jv xs.2.t, sv xs.2.ev] 55]) (fun c pre2 H => c = .ret ∧ (crookF (itsM L1) (itsM L2) = true) ∧ H = [blk w0.hz [jv hd.c, jv hd.n, sv hd.root, sv hd.tag, iv1] 50, blk w1.hz [jv hd.c, jv hd.n, sv hd.root, sv hd.tag, iv2] 50, blk w2.hz [.bool true] 4, blk bA1 [jv xs.1] 3, blk bA0 [jv xs.2.n, jv xs.2.t, sv xs.2.ev] 55]) (fun pre2 xs2 H a => ∃ (bAz0 : Nat), Fr 75 [(6, pq w2.hz), (10, pq bA1), (11, pq bA0), (14, jv xs2.1), (15, pq bAz0)] [] a ∧ (∀ y ∈ pre2, ¬ (xs.1 < y.1 ∧ y.2.n ≤ xs.2.n)) ∧ H = [blk bAz0 [jv xs2.2.n, jv xs2.2.t, sv xs2.2.ev] 55, blk w0.hz [jv hd.c, jv hd.n, sv hd.root, sv hd.tag, iv1] 50, blk w1.hz [jv hd.c, jv hd.n, sv hd.root, sv hd.tag, iv2] 50, blk w2.hz [.bool false] 4, blk bA1 [jv xs.1] 3, blk bA0 [jv xs.2.n, jv xs.2.t, sv xs.2.ev] 55]) O call125 (ic hrec hnl U.ext) Y U (dr hd iv2 L2 z9 (fun x hx => (hok2.2.2 x hx).2.2) (fun H w h => hiv2.grow (hout _ h.ext))) de (fun _ => O) ⟨sm, O⟩ ?_ ?_ ?_ ?_
   ·clear Y U
    rintro lp2 pre2 xs2 _ a w31 hnx2 ⟨hq2, rfl⟩ Y U
    generalize (join [blk w0.hz [jv hd.c, jv hd.n, sv hd.root, sv hd.tag, iv1] 50, blk w1.hz [jv hd.c, jv hd.n, sv hd.root, sv hd.tag, iv2] 50, blk w2.hz [.bool false] 4, blk bA1 [jv xs.1] 3, blk bA0 [jv xs.2.n, jv xs.2.t, sv xs.2.ev] 55]).foot = M2 at U ⊢
    refine aa fun _ G31 => wla (Y.p13 62 61 6 10 11 55 73 56 57 58 13 59 60 O) O fun a Y => G31 ?_
    refine al <| aD (Y.p5 62 6 10 11 14 O) U (zeroValue55 _) [jv 0, jv 0, .string (⟨#[]⟩)] O fun a w32 Y U => az 0 Y U [jv xs2.2.n, jv xs2.2.t, sv xs2.2.ev] O (sizeOf55 _) fun a w33 Y U => ab ?_
    exact ⟨_, ⟨w31.hz, Y.pick [6, 10, 11, 14, 15], hq2, O⟩, U⟩
   ·rintro lp2 pre2 xs2 _ a w34 hnx2 ⟨bAz0, Y, hq2, rfl⟩ hout9 hrec2 hnl2 U
    clear hrec2 hnl2
    generalize (join [blk bAz0 [jv xs2.2.n, jv xs2.2.t, sv xs2.2.ev] 55, blk w0.hz [jv hd.c, jv hd.n, sv hd.root, sv hd.tag, iv1] 50, blk w1.hz [jv hd.c, jv hd.n, sv hd.root, sv hd.tag, iv2] 50, blk w2.hz [.bool false] 4, blk bA1 [jv xs.1] 3, blk bA0 [jv xs.2.n, jv xs.2.t, sv xs.2.ev] 55]).foot = M2 at U hout9 ⊢
    have hout := fun w (h : Ext M2 w34 w) => hout w (hout9 w h)
    refine au <| aa fun _ G32 => nv Y <| yo (ld U 4 O O (isAgg3 _) O) <| yp O <| yo (v_lt O O) <| yp O <| fun a Y => ?_
    rcases Decidable.em (xs.1 < xs2.1) with hb11 | hb11
    ·rw [yy hb11] at Y
     refine nv Y <| yr (ac (v := pq bA0) O kr) <| yr (ld U 5 O O (isAgg3 _) O) <| yr (ac (v := pq bAz0) O kr) <| yr (ld U 0 O O (isAgg3 _) O) <| yr (v_ge O O) <| yo (ax O O) <| fun a Y => G32 ?_
     replace Y := Y.p2 6 72 O
     replace U := U.k5 62 O
     refine aA Y O (fun hc12 => ?_) (fun hc12 => ?_)
     ·refine aa fun _ G33 => az 2 Y U [.bool true] O (sizeOf4 _) fun a w35 Y U => G33 <| aq ?_
      exact ⟨_, ⟨O, uE (iy (eE hnx) (eE hnx2) om om), O⟩, U.select [0, 1, 2, 3, 4] de⟩
     have hnt : ¬ (xs.1 < xs2.1 ∧ xs2.2.n ≤ xs.2.n) := by omega
     refine ar ?_
     exact ⟨_, ⟨co hq2 hnt, O⟩, U.select [0, 1, 2, 3, 4] de⟩
    rw [yD hb11] at Y
    have hnt : ¬ (xs.1 < xs2.1 ∧ xs2.2.n ≤ xs.2.n) := by omega
    refine nv Y <| yt <| yt <| yt <| yt <| yt <| yo (ak O O) <| fun a Y => G32 ?_
    replace Y := Y.p2 6 72 O
    replace U := U.k5 62 O
    refine aJ Y O ?_
    refine ar ?_
    exact ⟨_, ⟨co hq2 hnt, O⟩, U.select [0, 1, 2, 3, 4] de⟩
   ·rintro pre2 _ _ a w36 ⟨rfl, rfl⟩ ⟨hq2, rfl⟩ U Y
    replace Y := Y.p11 6 10 11 55 73 56 57 58 13 59 60 O
    replace U := U.n6 O
    refine G28 <| al <| nv Y <| yo ((aM O O de).asi (m' := 2) O) <| yp O <| fun a Y => ab <| bR <| aa fun _ G34 => wlv Y ((v_lt O O).asb (b' := false) O) fun a Y => G34 <| ah fun _ G35 => aJ Y O ?_
    refine aP ?_
    exact ⟨_, ⟨co ho1 ⟨hq1, hq2⟩, O⟩, U.select [0, 1, 2] de⟩
   ·rintro _ pre2 _ _ a w37 rfl ⟨rfl, hhit, rfl⟩ U Y
    replace Y := Y.p11 6 10 11 55 73 56 57 58 13 59 60 O
    replace U := U.n6 O
    refine aq ?_
    exact ⟨_, ⟨O, hhit, O⟩, U.select [0, 1, 2] de⟩
  ·rintro _ pre2 _ _ a w38 rfl ⟨rfl, hhit, rfl⟩ U Y
   replace Y := Y.p10 6 10 11 55 56 57 58 13 59 60 O
   replace U := U.n6 O
   refine aq ?_
   exact ⟨_, ⟨O, hhit, O⟩, U.select [0, 1, 2] de⟩
 ·rintro D pre _ _ a w39 ⟨rfl, rfl⟩ ⟨ho1, rfl⟩ U Y
  replace Y := Y.p6 4 5 6 45 46 50 O
  replace U := U.n5 O
  refine G13 <| al <| nv Y <| yo ((aM O O de).asi (m' := 1) O) <| yp O <| fun a Y => ab <| bR <| aa fun _ G36 => wlv Y ((v_lt O O).asb (b' := true) O) fun a Y => G36 <| ah fun _ G37 => aG Y O ?_
  refine ar <| G37 <| ah fun _ G38 => au <| aa fun _ G39 => wlv Y (cj (v := .agg #[jv hd.c, jv hd.n, sv hd.root, sv hd.tag, iv2]) O O kr) fun a Y => aD Y U (zeroValue50 _) [jv 0, jv 0, .string (⟨#[]⟩), .string (⟨#[]⟩), .slice none 0 0] O fun a w40 Y U => bp (us := [jv hd.c, jv hd.n, sv hd.root, sv hd.tag, iv2]) 0 Y U O O O (sizeOf50 _) (by intro z hz; simp only [yE, yI, y9] at hz; rcases hz with rfl | rfl | rfl | rfl | rfl <;> first | rfl | exact SlAt.one (U.arg hiv2.1)) (lb O) (ds := [jv hd.c, jv hd.n, sv hd.root, sv hd.tag, iv2]) O O fun a w41 Y U => ?_
  refine G39 <| aa fun _ G40 => wlv Y (ap (U.g 0 O) O (isAgg50 _) (sizeOf50 _)) fun a Y => bu Y U call74 O (dQ hd iv2 L2 _ (cC U hiv2)) fun a w42 x14 hp Y U => ?_
  revert x14 hp Y U; rintro z13 hp Y U
  clear hp
  replace U := U.n7 O
  refine G40 <| au ?_
  replace U := U.s5 [3, 4, 5, 2, 0] de rfl
  replace Y := Y.p11 4 5 6 45 74 46 47 48 9 49 50 O
  refine dD (M := No) (w0 := w0) (encs := encK) (Hi := [blk z13 [jv hd.c, jv hd.n, sv hd.root, sv hd.tag, iv2] 50]) (Hc := [blk w0.hz [jv hd.c, jv hd.n, sv hd.root, sv hd.tag, iv1] 50, blk w1.hz [jv hd.c, jv hd.n, sv hd.root, sv hd.tag, iv2] 50, blk w2.hz [.bool false] 4, obj D (.deferred (some []))]) (fun pre H => (∀ z ∈ pre, NB z (casesF (itsM L1)) ∧ NB z (casesF (itsM L2))) ∧ H = [blk w0.hz [jv hd.c, jv hd.n, sv hd.root, sv hd.tag, iv1] 50, blk w1.hz [jv hd.c, jv hd.n, sv hd.root, sv hd.tag, iv2] 50, blk w2.hz [.bool false] 4, obj D (.deferred (some []))]) (fun c pre H => c = .ret ∧ (crookF (itsM L1) (itsM L2) = true) ∧ H = [blk w0.hz [jv hd.c, jv hd.n, sv hd.root, sv hd.tag, iv1] 50, blk w1.hz [jv hd.c, jv hd.n, sv hd.root, sv hd.tag, iv2] 50, blk w2.hz [.bool true] 4, obj D (.deferred (some []))]) (fun pre xs H a => ∃ (bA0 : Nat), ∃ (bA1 : Nat), Fr 75 [(4, pq w0.hz), (5, pq w1.hz), (6, pq w2.hz), (10, pq bA1), (11, pq bA0)] [] a ∧ (∀ z ∈ pre, NB z (casesF (itsM L1)) ∧ NB z (casesF (itsM L2))) ∧ H = [blk bA0 [jv xs.2.n, jv xs.2.t, sv xs.2.ev] 55, blk bA1 [jv xs.1] 3, blk w0.hz [jv hd.c, jv hd.n, sv hd.root, sv hd.tag, iv1] 50, blk w1.hz [jv hd.c, jv hd.n, sv hd.root, sv hd.tag, iv2] 50, blk w2.hz [.bool false] 4, obj D (.deferred (some []))]) O call125 Y U (dr hd iv2 L2 z13 (fun x hx => (hok2.2.2 x hx).2.2) (fun H w h => cC h hiv2)) de (fun _ => O) ⟨sm, O⟩ ?_ ?_ ?_ ?_
  ·clear Y U
   rintro lp pre xs _ a w43 hnx ⟨ho2, rfl⟩ Y U
   generalize (join [blk w0.hz [jv hd.c, jv hd.n, sv hd.root, sv hd.tag, iv1] 50, blk w1.hz [jv hd.c, jv hd.n, sv hd.root, sv hd.tag, iv2] 50, blk w2.hz [.bool false] 4, obj D (.deferred (some []))]).foot = M1 at U ⊢
   refine aa fun _ G41 => aD (Y.p13 52 51 4 5 6 45 74 46 47 48 9 49 50 O) U (zeroValue3 _) [jv 0] O fun a w44 Y U => az 0 Y U [jv xs.1] O (sizeOf3 _) fun a w45 Y U => G41 ?_
   refine al <| aD (Y.p5 52 4 5 6 10 O) U (zeroValue55 _) [jv 0, jv 0, .string (⟨#[]⟩)] O fun a w46 Y U => az 0 Y U [jv xs.2.n, jv xs.2.t, sv xs.2.ev] O (sizeOf55 _) fun a w47 Y U => ab ?_
   exact ⟨_, ⟨w45.hz, w43.hz, Y.pick [4, 5, 6, 10, 11], ho2, O⟩, U⟩
  ·rintro lp pre xs _ a w48 hnx ⟨bA0, bA1, Y, ho2, rfl⟩ hout hrec hnl U
   generalize (join [blk bA0 [jv xs.2.n, jv xs.2.t, sv xs.2.ev] 55, blk bA1 [jv xs.1] 3, blk w0.hz [jv hd.c, jv hd.n, sv hd.root, sv hd.tag, iv1] 50, blk w1.hz [jv hd.c, jv hd.n, sv hd.root, sv hd.tag, iv2] 50, blk w2.hz [.bool false] 4, obj D (.deferred (some []))]).foot = M1 at U hout hnl ⊢
   refine au <| aa fun _ G42 => nv Y <| yo (ap (U.g 2 O) O (isAgg50 _) (sizeOf50 _)) <| yo (ap (U.g 3 O) O (isAgg50 _) (sizeOf50 _)) <| yo (aW (v := .agg #[jv hd.c, jv hd.n, sv hd.root, sv hd.tag, iv1, jv hd.c, jv hd.n, sv hd.root, sv hd.tag, iv2]) O Bj) <| yp O <| fun a Y => G42 <| au <| ez 4 ?_
   refine bR <| aa fun _ G43 => wlv Y ((v_lt O O).asb (b' := true) O) fun a Y => G43 <| ah fun _ G44 => aG Y O ?_
   refine ar <| G44 <| ah fun _ G45 => au <| aa fun _ G46 => wlv Y (cj (v := .agg #[jv hd.c, jv hd.n, sv hd.root, sv hd.tag, iv1]) O O kr) fun a Y => aD Y U (zeroValue50 _) [jv 0, jv 0, .string (⟨#[]⟩), .string (⟨#[]⟩), .slice none 0 0] O fun a w49 Y U => bp (us := [jv hd.c, jv hd.n, sv hd.root, sv hd.tag, iv1]) 0 Y U O O O (sizeOf50 _) Bo (lb O) (ds := [jv hd.c, jv hd.n, sv hd.root, sv hd.tag, iv1]) O O fun a w50 Y U => G46 ?_
   refine aa fun _ G47 => wlv (Y.p6 6 10 11 55 56 13 O) (ap (U.g 0 O) O (isAgg50 _) (sizeOf50 _)) fun a Y => bu Y U call74 O (dQ hd iv1 L1 _ (hiv1.grow (hout _ U.ext))) fun a w51 x16 hp Y U => ?_
   revert x16 hp Y U; rintro z15 hp Y U
   clear hp
   replace U := U.n8 O
   refine G47 <| au ?_
   replace U := U.s7 [4, 5, 6, 3, 2, 7, 0] de rfl
   replace Y := Y.p8 6 10 11 55 56 13 59 60 O
   refine gH (M := M1) (w0 := w48) (encs := encK) (Hi := [blk z15 [jv hd.c, jv hd.n, sv hd.root, sv hd.tag, iv1] 50]) (Hc := [blk w0.hz [jv hd.c, jv hd.n, sv hd.root, sv hd.tag, iv1] 50, blk w1.hz [jv hd.c, jv hd.n, sv hd.root, sv hd.tag, iv2] 50, blk w2.hz [.bool false] 4, blk bA1 [jv xs.1] 3, blk bA0 [jv xs.2.n, jv xs.2.t, sv xs.2.ev] 55, obj D (.deferred (some []))]) (fun pre2 H => (∀ y ∈ pre2, ¬ (xs.1 < y.1 ∧ y.2.n ≤ xs.2.n)) ∧ H = [blk w0.hz [jv hd.c, jv hd.n, sv hd.root, sv hd.tag, iv1] 50, blk w1.hz [jv hd.c, jv hd.n, sv hd.root, sv hd.tag, iv2] 50, blk w2.hz [.bool false] 4, blk bA1 [jv xs.1] 3, blk bA0 [jv xs.2.n, jv xs.2.t, sv xs.2.ev] 55, obj D (.deferred (some []))]) (fun c pre2 H => c = .ret ∧ (crookF (itsM L1) (itsM L2) = true) ∧ H = [blk w0.hz [jv hd.c, jv hd.n, sv hd.root, sv hd.tag, iv1] 50, blk w1.hz [jv hd.c, jv hd.n, sv hd.root, sv hd.tag, iv2] 50, blk w2.hz [.bool true] 4, blk bA1 [jv xs.1] 3, blk bA0 [jv xs.2.n, jv xs.2.t, sv xs.2.ev] 55, obj D (.deferred (some []))]) (fun pre2 xs2 H a => ∃ (bAz0 : Nat), Fr 75 [(6, pq w2.hz), (10, pq bA1), (11, pq bA0), (14, jv xs2.1), (15, pq bAz0)] [] a ∧ (∀ y ∈ pre2, ¬ (xs.1 < y.1 ∧ y.2.n ≤ xs.2.n)) ∧ H = [blk bAz0 [jv xs2.2.n, jv xs2.2.t, sv xs2.2.ev] 55, blk w0.hz [jv hd.c, jv hd.n, sv hd.root, sv hd.tag, iv1] 50, blk w1.hz [jv hd.c, jv hd.n, sv hd.root, sv hd.tag, iv2] 50, blk w2.hz [.bool false] 4, blk bA1 [jv xs.1] 3, blk bA0 [jv xs.2.n, jv xs.2.t, sv xs.2.ev] 55, obj D (.deferred (some []))]) O call125 (ic hrec hnl U.ext) Y U (dr hd iv1 L1 z15 (fun x hx => (hok1.2.2 x hx).2.2) (fun H w h => hiv1.grow (hout _ h.ext))) de (fun _ => O) ⟨sm, O⟩ ?_ ?_ ?_ ?_
   ·clear Y U
    rintro lp2 pre2 xs2 _ a w52 hnx2 ⟨hq1, rfl⟩ Y U
    generalize (join [blk w0.hz [jv hd.c, jv hd.n, sv hd.root, sv hd.tag, iv1] 50, blk w1.hz [jv hd.c, jv hd.n, sv hd.root, sv hd.tag, iv2] 50, blk w2.hz [.bool false] 4, blk bA1 [jv xs.1] 3, blk bA0 [jv xs.2.n, jv xs.2.t, sv xs.2.ev] 55, obj D (.deferred (some []))]).foot = M2 at U ⊢
    refine aa fun _ G48 => wla (Y.p10 62 61 6 10 11 55 56 13 59 60 O) O fun a Y => G48 ?_
    refine al <| aD (Y.p5 62 6 10 11 14 O) U (zeroValue55 _) [jv 0, jv 0, .string (⟨#[]⟩)] O fun a w53 Y U => az 0 Y U [jv xs2.2.n, jv xs2.2.t, sv xs2.2.ev] O (sizeOf55 _) fun a w54 Y U => ab ?_
    exact ⟨_, ⟨w52.hz, Y.pick [6, 10, 11, 14, 15], hq1, O⟩, U⟩
   ·rintro lp2 pre2 xs2 _ a w55 hnx2 ⟨bAz0, Y, hq1, rfl⟩ hout9 hrec2 hnl2 U
    clear hrec2 hnl2
    generalize (join [blk bAz0 [jv xs2.2.n, jv xs2.2.t, sv xs2.2.ev] 55, blk w0.hz [jv hd.c, jv hd.n, sv hd.root, sv hd.tag, iv1] 50, blk w1.hz [jv hd.c, jv hd.n, sv hd.root, sv hd.tag, iv2] 50, blk w2.hz [.bool false] 4, blk bA1 [jv xs.1] 3, blk bA0 [jv xs.2.n, jv xs.2.t, sv xs.2.ev] 55, obj D (.deferred (some []))]).foot = M2 at U hout9 ⊢
    have hout := fun w (h : Ext M2 w55 w) => hout w (hout9 w h)
    refine au <| aa fun _ G49 => nv Y <| yo (ld U 4 O O (isAgg3 _) O) <| yp O <| yo (v_lt O O) <| yp O <| fun a Y => ?_
    rcases Decidable.em (xs.1 < xs2.1) with hb17 | hb17
    ·rw [yy hb17] at Y
     refine nv Y <| yr (ac (v := pq bA0) O kr) <| yr (ld U 5 O O (isAgg3 _) O) <| yr (ac (v := pq bAz0) O kr) <| yr (ld U 0 O O (isAgg3 _) O) <| yr (v_ge O O) <| yo (ax O O) <| fun a Y => G49 ?_
     replace Y := Y.p2 6 72 O
     replace U := U.k6 126 O
     refine aA Y O (fun hc18 => ?_) (fun hc18 => ?_)
     ·refine aa fun _ G50 => az 2 Y U [.bool true] O (sizeOf4 _) fun a w56 Y U => G50 <| aq ?_
      exact ⟨_, ⟨O, tB (iy (eE hnx) (eE hnx2) om om), O⟩, U.select [0, 1, 2, 3, 4, 5] de⟩
     have hnt : ¬ (xs.1 < xs2.1 ∧ xs2.2.n ≤ xs.2.n) := by omega
     refine ar ?_
     exact ⟨_, ⟨co hq1 hnt, O⟩, U.select [0, 1, 2, 3, 4, 5] de⟩
    rw [yD hb17] at Y
    have hnt : ¬ (xs.1 < xs2.1 ∧ xs2.2.n ≤ xs.2.n) := by omega
    refine nv Y <| yt <| yt <| yt <| yt <| yt <| yo (ak O O) <| fun a Y => G49 ?_
    replace Y := Y.p2 6 72 O
    replace U := U.k6 126 O
    refine aJ Y O ?_
    refine ar ?_
    exact ⟨_, ⟨co hq1 hnt, O⟩, U.select [0, 1, 2, 3, 4, 5] de⟩
   ·rintro pre2 _ _ a w57 ⟨rfl, rfl⟩ ⟨hq1, rfl⟩ U Y
    replace Y := Y.p8 6 10 11 55 56 13 59 60 O
    replace U := U.n7 O
    refine G45 <| al <| nv Y <| yo ((aM O O de).asi (m' := 1) O) <| yp O <| fun a Y => ab <| bR <| aa fun _ G51 => wlv Y ((v_lt O O).asb (b' := true) O) fun a Y => G51 <| ah fun _ G52 => aG Y O ?_
    refine ar <| G52 <| ah fun _ G53 => au <| aa fun _ G54 => wlv Y (cj (v := .agg #[jv hd.c, jv hd.n, sv hd.root, sv hd.tag, iv2]) O O kr) fun a Y => aD Y U (zeroValue50 _) [jv 0, jv 0, .string (⟨#[]⟩), .string (⟨#[]⟩), .slice none 0 0] O fun a w58 Y U => bp (us := [jv hd.c, jv hd.n, sv hd.root, sv hd.tag, iv2]) 0 Y U O O O (sizeOf50 _) Bn (lb O) (ds := [jv hd.c, jv hd.n, sv hd.root, sv hd.tag, iv2]) O O fun a w59 Y U => G54 <| aa fun _ G55 => wlv Y (ap (U.g 0 O) O (isAgg50 _) (sizeOf50 _)) fun a Y => bu Y U call74 O (dQ hd iv2 L2 _ (hiv2.grow (hout _ U.ext))) fun a w60 x20 hp Y U => ?_
    revert x20 hp Y U; rintro z19 hp Y U
    clear hp
    replace U := U.n9 O
    refine G55 <| au ?_
    replace U := U.s7 [2, 3, 4, 5, 6, 7, 0] de rfl
    replace Y := Y.p11 6 10 11 55 73 56 57 58 13 59 60 O
    refine gH (M := M1) (w0 := w48) (encs := encK) (Hi := [blk z19 [jv hd.c, jv hd.n, sv hd.root, sv hd.tag, iv2] 50]) (Hc := [blk w0.hz [jv hd.c, jv hd.n, sv hd.root, sv hd.tag, iv1] 50, blk w1.hz [jv hd.c, jv hd.n, sv hd.root, sv hd.tag, iv2] 50, blk w2.hz [.bool false] 4, blk bA1 [jv xs.1] 3, blk bA0 [jv xs.2.n, jv xs.2.t, sv xs.2.ev] 55, obj D (.deferred (some []))]) (fun pre2 H => (∀ y ∈ pre2, ¬ (xs.1 < y.1 ∧ y.2.n ≤ xs.2.n)) ∧ H = [blk w0.hz [jv hd.c, jv hd.n, sv hd.root, sv hd.tag, iv1] 50, blk w1.hz [jv hd.c, jv hd.n, sv hd.root, sv hd.tag, iv2] 50, blk w2.hz [.bool false] 4, blk bA1 [jv xs.1] 3, blk bA0 [jv xs.2.n, jv xs.2.t, sv xs.2.ev] 55, obj D (.deferred (some []))]) (fun c pre2 H => c = .ret ∧ (crookF (itsM L1) (itsM L2) = true) ∧ H = [blk w0.hz [jv hd.c, jv hd.n, sv hd.root, sv hd.tag, iv1] 50, blk w1.hz [jv hd.c, jv hd.n, sv hd.root, sv hd.tag, iv2] 50, blk w2.hz [.bool true] 4, blk bA1 [jv xs.1] 3, blk bA0 [jv xs.2.n, jv xs.2.t, sv xs.2.ev] 55, obj D (.deferred (some []))]) (fun pre2 xs2 H a => ∃ (bAz0 : Nat), Fr 75 [(6, pq w2.hz), (10, pq bA1), (11, pq bA0), (14, jv xs2.1), (15, pq bAz0)] [] a ∧ (∀ y ∈ pre2, ¬ (xs.1 < y.1 ∧ y.2.n ≤ xs.2.n)) ∧ H = [blk bAz0 [jv xs2.2.n, jv xs2.2.t, sv xs2.2.ev] 55, blk w0.hz [jv hd.c, jv hd.n, sv hd.root, sv hd.tag, iv1] 50, blk w1.hz [jv hd.c, jv hd.n, sv hd.root, sv hd.tag, iv2] 50, blk w2.hz [.bool false] 4, blk bA1 [jv xs.1] 3, blk bA0 [jv xs.2.n, jv xs.2.t, sv xs.2.ev] 55, obj D (.deferred (some []))]) O call125 (ic hrec hnl U.ext) Y U (dr hd iv2 L2 z19 (fun x hx => (hok2.2.2 x hx).2.2) (fun H w h => hiv2.grow (hout _ h.ext))) de (fun _ => O) ⟨sm, O⟩ ?_ ?_ ?_ ?_
    ·clear Y U
     rintro lp2 pre2 xs2 _ a w61 hnx2 ⟨hq2, rfl⟩ Y U
     generalize (join [blk w0.hz [jv hd.c, jv hd.n, sv hd.root, sv hd.tag, iv1] 50, blk w1.hz [jv hd.c, jv hd.n, sv hd.root, sv hd.tag, iv2] 50, blk w2.hz [.bool false] 4, blk bA1 [jv xs.1] 3, blk bA0 [jv xs.2.n, jv xs.2.t, sv xs.2.ev] 55, obj D (.deferred (some []))]).foot = M2 at U ⊢
     refine aa fun _ G56 => wla (Y.p13 62 61 6 10 11 55 73 56 57 58 13 59 60 O) O fun a Y => G56 ?_
     refine al <| aD (Y.p5 62 6 10 11 14 O) U (zeroValue55 _) [jv 0, jv 0, .string (⟨#[]⟩)] O fun a w62 Y U => az 0 Y U [jv xs2.2.n, jv xs2.2.t, sv xs2.2.ev] O (sizeOf55 _) fun a w63 Y U => ab ?_
     exact ⟨_, ⟨w61.hz, Y.pick [6, 10, 11, 14, 15], hq2, O⟩, U⟩
    ·rintro lp2 pre2 xs2 _ a w64 hnx2 ⟨bAz0, Y, hq2, rfl⟩ hout9 hrec2 hnl2 U
     clear hrec2 hnl2
     generalize (join [blk bAz0 [jv xs2.2.n, jv xs2.2.t, sv xs2.2.ev] 55, blk w0.hz [jv hd.c, jv hd.n, sv hd.root, sv hd.tag, iv1] 50, blk w1.hz [jv hd.c, jv hd.n, sv hd.root, sv hd.tag, iv2] 50, blk w2.hz [.bool false] 4, blk bA1 [jv xs.1] 3, blk bA0 [jv xs.2.n, jv xs.2.t, sv xs.2.ev] 55, obj D (.deferred (some []))]).foot = M2 at U hout9 ⊢
     have hout := fun w (h : Ext M2 w64 w) => hout w (hout9 w h)
     refine au <| aa fun _ G57 => nv Y <| yo (ld U 4 O O (isAgg3 _) O) <| yp O <| yo (v_lt O O) <| yp O <| fun a Y => ?_
     rcases Decidable.em (xs.1 < xs2.1) with hb21 | hb21
     ·rw [yy hb21] at Y
      refine nv Y <| yr (ac (v := pq bA0) O kr) <| yr (ld U 5 O O (isAgg3 _) O) <| yr (ac (v := pq bAz0) O kr) <| yr (ld U 0 O O (isAgg3 _) O) <| yr (v_ge O O) <| yo (ax O O) <| fun a Y => G57 ?_
      replace Y := Y.p2 6 72 O
      replace U := U.k6 126 O
      refine aA Y O (fun hc22 => ?_) (fun hc22 => ?_)
      ·refine aa fun _ G58 => az 2 Y U [.bool true] O (sizeOf4 _) fun a w65 Y U => G58 <| aq ?_
       exact ⟨_, ⟨O, ua (iy (eE hnx) (eE hnx2) om om), O⟩, U.select [0, 1, 2, 3, 4, 5] de⟩
      have hnt : ¬ (xs.1 < xs2.1 ∧ xs2.2.n ≤ xs.2.n) := by omega
      refine ar ?_
      exact ⟨_, ⟨co hq2 hnt, O⟩, U.select [0, 1, 2, 3, 4, 5] de⟩
     rw [yD hb21] at Y
     have hnt : ¬ (xs.1 < xs2.1 ∧ xs2.2.n ≤ xs.2.n) := by omega
     refine nv Y <| yt <| yt <| yt <| yt <| yt <| yo (ak O O) <| fun a Y => G57 ?_
     replace Y := Y.p2 6 72 O
     replace U := U.k6 126 O
     refine aJ Y O ?_
     refine ar ?_
     exact ⟨_, ⟨co hq2 hnt, O⟩, U.select [0, 1, 2, 3, 4, 5] de⟩
    ·rintro pre2 _ _ a w66 ⟨rfl, rfl⟩ ⟨hq2, rfl⟩ U Y
     replace Y := Y.p11 6 10 11 55 73 56 57 58 13 59 60 O
     replace U := U.n7 O
     refine G53 <| al <| nv Y <| yo ((aM O O de).asi (m' := 2) O) <| yp O <| fun a Y => ab <| bR <| aa fun _ G59 => wlv Y ((v_lt O O).asb (b' := false) O) fun a Y => G59 <| ah fun _ G60 => aJ Y O ?_
     refine aP ?_
     exact ⟨_, ⟨co ho2 ⟨hq1, hq2⟩, O⟩, U.select [0, 1, 2, 5] de⟩
    ·rintro _ pre2 _ _ a w67 rfl ⟨rfl, hhit, rfl⟩ U Y
     replace Y := Y.p11 6 10 11 55 73 56 57 58 13 59 60 O
     replace U := U.n7 O
     refine aq ?_
     exact ⟨_, ⟨O, hhit, O⟩, U.select [0, 1, 2, 5] de⟩
   ·rintro _ pre2 _ _ a w68 rfl ⟨rfl, hhit, rfl⟩ U Y
    replace Y := Y.p8 6 10 11 55 56 13 59 60 O
    replace U := U.n7 O
    refine aq ?_
    exact ⟨_, ⟨O, hhit, O⟩, U.select [0, 1, 2, 5] de⟩
  ·rintro D2 pre _ _ a w69 ⟨rfl, rfl⟩ ⟨ho2, rfl⟩ U Y
   replace Y := Y.p11 4 5 6 45 74 46 47 48 9 49 50 O
   replace U := U.n6 O
   refine G38 <| al <| nv Y <| yo ((aM O O de).asi (m' := 2) O) <| yp O <| fun a Y => ab <| bR <| aa fun _ G61 => wlv Y ((v_lt O O).asb (b' := false) O) fun a Y => G61 <| ah fun _ G62 => aJ Y O ?_
   refine aP <| G9 <| aa fun _ G63 => az 3 Y U [.bool false] O (sizeOf4 _) fun a w70 Y U => G63 ?_
   replace Y := Y.p1 6 O
   replace U := U.k5 31 O
   refine aq ?_
   have hD2 := U.g 0 rfl
   replace U := U.unmark (i := 0) (o' := .deferred none) O
   have hD := U.g 3 rfl
   replace U := U.unmark (i := 3) (o' := .deferred none) O
   replace U := U.n3 O
   refine oD Y hD2 hD results30 (ai O (aK (U.g 2 O) (isAgg4 _)) ag) ?_
   exact ⟨by simp only [retv]; rw [uV hna hnb ho1 ho2]; try rfl, U.ext⟩
  ·rintro D2 _ pre _ _ a w71 rfl ⟨rfl, hhit, rfl⟩ U Y
   replace Y := Y.p11 4 5 6 45 74 46 47 48 9 49 50 O
   replace U := U.n6 O
   refine aq ?_
   have hD2 := U.g 0 rfl
   replace U := U.unmark (i := 0) (o' := .deferred none) O
   have hD := U.g 3 rfl
   replace U := U.unmark (i := 3) (o' := .deferred none) O
   replace U := U.n4 O
   refine oD Y hD2 hD results30 (ai O (aK (U.g 2 O) (isAgg4 _)) ag) ?_
   exact ⟨by simp only [retv]; rw [hhit]; try rfl, U.ext⟩
 ·rintro D _ pre _ _ a w72 rfl ⟨rfl, hhit, rfl⟩ U Y
  replace Y := Y.p6 4 5 6 45 46 50 O
  replace U := U.n5 O
  refine aq ?_
  have hD := U.g 0 rfl
  replace U := U.unmark (i := 0) (o' := .deferred none) O
  replace U := U.n4 O
  refine cx Y hD results30 (ai O (aK (U.g 2 O) (isAgg4 _)) ag) ?_
  exact ⟨by simp only [retv]; rw [hhit]; try rfl, U.ext⟩
end Go.Proofs.YtliklcmddmpdfaaGreatDoor
namespace Go.Proofs.YtliklcmddmpdfaaGreatDoor
open Go.RowKit Go.PW _root_.Go.Proofs.Tryz
theorem vJ {p : Rpl → Bool} {o : Option Int} {r : Rpl} (h : p r = false) : nextO p o r = o := by unfold nextO; rw [h]; rfl
theorem vv {p : Rpl → Bool} {o : Option Int} {r : Rpl} (h : p r = true) (ho : o.isSome = false) : nextO p o r = some r.at_ := by
 cases o with
 | none => unfold nextO; rw [h]; rfl
 | some b => cases ho
theorem td {p : Rpl → Bool} {o : Option Int} {r : Rpl} (h : p r = true) (hl : r.at_ < o.getD 0) : nextO p o r = some r.at_ := by
 cases o with
 | none => unfold nextO; rw [h]; rfl
 | some b =>
  have hl : r.at_ < b := hl
  unfold nextO; rw [h, show lessO (some b) r.at_ = true from yy hl]; rfl
theorem wB {p : Rpl → Bool} {o : Option Int} {r : Rpl} (ho : o.isSome = true) (hl : ¬ r.at_ < o.getD 0) : nextO p o r = o := by
 cases o with
 | none => cases ho
 | some b =>
  have hl : ¬ r.at_ < b := hl
  unfold nextO; rw [show lessO (some b) r.at_ = false from yD hl, zy]; rfl
def repsM (R : List Rpw) : List Rpl := R.map Rpw.m
theorem tl {R : List Rpw} {k : Nat} (h : k < R.length) : (repsM R).drop k = (R.getD k Rpw.z).m :: (repsM R).drop (k + 1) := by
 unfold repsM
 have h' : k < (R.map Rpw.m).length := by rw [yu]; exact h
 rw [zm h', zY, yA, yF h]; rfl
theorem ig {p : Rpl → Bool} {o o2 : Option Int} {R : List Rpw} {k : Nat} {r : Rpw} (hk : k < R.length) (hx : R.getD k Rpw.z = r) (hf : firstF p none (repsM R) = firstF p o ((repsM R).drop k)) (hn : nextO p o r.m = o2) : firstF p none (repsM R) = firstF p o2 ((repsM R).drop (k + 1)) := by
 rw [hf, tl hk, hx, ← hn]; rfl
section
variable {ko bo : Option Int} {q : Chg} {en t : Int}
theorem fd (h : bo.isSome = true) (h2 : ko.isSome = false) : pickS ko bo q en t = (3, bo.getD 0) := by cases bo <;> cases ko <;> simp_all [pickS]
theorem eP (h : bo.isSome = true) (h2 : ko.isSome = true) (h3 : bo.getD 0 ≤ ko.getD 0) : pickS ko bo q en t = (3, bo.getD 0) := by cases bo <;> cases ko <;> simp_all [pickS]
theorem eX (h : bo.isSome = false) (h2 : ko.isSome = true) : pickS ko bo q en t = (2, ko.getD 0) := by cases bo <;> cases ko <;> simp_all [pickS]
theorem fa (h : bo.isSome = true) (h2 : ko.isSome = true) (h3 : ¬ bo.getD 0 ≤ ko.getD 0) : pickS ko bo q en t = (2, ko.getD 0) := by
 cases bo <;> cases ko <;> simp_all [pickS]
theorem gj (h : bo.isSome = false) (h2 : ko.isSome = false) (h3 : en ≤ t) : pickS ko bo q en t = (3, en) := by cases bo <;> cases ko <;> simp_all [pickS]
theorem fU (h : bo.isSome = false) (h2 : ko.isSome = false) (h3 : ¬ en ≤ t) : pickS ko bo q en t = (1, q.a) := by
 cases bo <;> cases ko <;> simp_all [pickS]
end
theorem wn {q : Chg} (h : q.ok = true) : (0 ≤ q.h ∧ q.h ≤ 63) ∧ (0 ≤ q.c ∧ q.c ≤ 7) ∧ (0 ≤ q.n ∧ q.n ≤ 99999999) ∧ (0 ≤ q.a ∧ q.a ≤ 10000000) ∧ 0 ≤ q.t ∧ q.t ≤ q.a := by
 simp only [Chg.ok, inB, yw, yB] at h; omega
theorem lC {key : By} {lim t : Int} {q : Chg} {n : Nat} (h : fb key lim q n t = true) : key.length = 32 ∧ (1 ≤ lim ∧ lim ≤ 1000000) ∧ q.ok = true ∧ n ≤ 10 ∧ q.a ≤ t ∧ t ≤ 11000000 := by
 simp only [fb, inB, yw, yB] at h
 exact ⟨h.1.1.1.1, h.1.1.1.2, h.1.1.2, h.1.2, h.2⟩
theorem rK (key : By) (hd : Hd) (c : Int) (lv : Value) (l : List Cas) (w0 : World) (hlv : SlAt w0 lv 3 (l.map Cas.cells)) (hk32 : key.length = 32) (hdoc : docOk c l = true) (hhd : hdOf sha key c (entC l) l.length = hd) (hk0 : (blk 0 (kOf.map wv) 258).ok w0) :
  Ret Tryz.prog 23 #[sv key, .agg #[jv c, lv]] w0 fun v w => v = .tuple #[.agg #[jv hd.c, jv hd.n, sv hd.root, sv hd.tag], jv 0] ∧ Ext No w0 w := by
 have hll := iZ hdoc
 have hcb := fx hdoc
 have hreg := j0 hdoc
 refine Am func23 O ntmps23 (lb O) fun a Y U => aa fun _ G1 => aV Y U O [jv c, lv] O fun a w1 Y U => aD Y U (zeroValue47 _) [jv 0, jv 0, .string (⟨#[]⟩), .string (⟨#[]⟩)] O fun a w2 Y U => wla Y O fun a Y => G1 <| ah fun _ G2 => aa fun _ G3 => wlv Y (ap (U.g 1 O) O (isAgg32 _) (sizeOf32 _)) fun a Y => aw Y U call31 O (cJ hdoc (iE c lv l _ (U.arg hlv))) fun a w3 Y U => wlv Y ((bB O).asb (b' := false) O) fun a Y => G3 <| aJ Y O ?_
 refine ar <| G2 <| ah fun _ G4 => aH (aI fun w4 hxz => ?_)
 replace U := U.grow hxz
 refine aR (k := 0) 12 [9, 11] Y ?_
 replace Y := Y.p8 0 1 3 4 5 8 9 10 O
 refine ef 10 11 47 [jv 0, jv 0, .string (⟨#[]⟩), .string (⟨#[]⟩)] [jv hd.c, jv hd.n, sv hd.root, sv hd.tag] 12 [[], [], [1], [], [3], [4], [0, 2, 5], [6], [7], [7], [], [8, 10]] (fun i => match i with | 0 => pv (sv key) | 1 => pv (.agg #[jv c, lv]) | 2 => pm (fun v : Value => .agg #[jv c, v]) (fun v => [own v 9 1 ((entC l).map fun s => [sv s])]) (fun _ => True) | 3 => pv (po w0.hz 1) | 4 => pv (lv) | 5 => pv (jv (l.length : Int)) | 6 => pv (.tuple #[.agg #[jv hd.c, jv hd.n, sv hd.root, sv hd.tag], jv 0]) | 7 => pv (.tuple #[.agg #[jv hd.c, jv hd.n, sv hd.root, sv hd.tag], jv 0]) | 8 => pv (.agg #[jv hd.c, jv hd.n, sv hd.root, sv hd.tag]) | 9 => pv (jv 0) | 10 => fun v E => ∃ b, v = ptr b ∧ E = [] | 11 => fun v E => v = undef ∧ E = [] | _ => fun _ _ => False) Y (H := [blk w1.hz [jv 0, jv 0, .string (⟨#[]⟩), .string (⟨#[]⟩)] 47, blk w0.hz [jv c, lv] 32]) U kr kr kr kr de de de de de ?_ (fun v E h => h) ⟨O, O⟩ (fun v E => Iff.rfl) ?_ ?_ ?_ ?_
 ·intro i v E h
  match i, h with
  | 0, _ => exact by decide
  | 1, _ => exact by decide
  | 2, _ => exact by decide
  | 3, _ => exact by decide
  | 4, _ => exact by decide
  | 5, _ => exact by decide
  | 6, _ => exact by decide
  | 7, _ => exact by decide
  | 8, _ => exact by decide
  | 9, _ => exact by decide
  | 10, _ => exact by decide
  | 11, _ => exact by decide
  | i + 12, h => exact h.elim
 ·intro i hi hia hij e
  match i, hi, hia, hij with
  | 0, _, _, _ => exact fun w U => OpV.g (ay O)
  | 1, _, _, _ => exact fun w U => OpV.g (ap (U.g 2 O) O (isAgg32 _) (sizeOf32 _))
  | 2, _, _, _ =>
   rintro _ _ ⟨rfl, rfl⟩
   intro w U
   exact eS call72 O (rn c lv l _ (U.arg hlv) om)
  | 3, _, _, _ => exact fun w U => OpV.g (ac (v := po w0.hz 1) O kr)
  | 4, _, _, _ =>
   rintro _ _ ⟨rfl, rfl⟩
   intro w U
   exact OpV.g (ld U 2 O O (isAgg30 _) O)
  | 5, _, _, _ =>
   rintro _ _ ⟨rfl, rfl⟩
   intro w U
   exact OpV.g ((aO (sT := 30) (U.arg hlv) O O (runUnderlying30 _)).asi (m' := (l.length : Int)) AO)
  | 6, _, _, _ =>
   rintro _ _ ⟨rfl, rfl⟩ _ _ ⟨ev2, rfl, -, rfl⟩ _ _ ⟨rfl, rfl⟩
   intro w U
   exact br call73 O (mf key l.length hd c ev2 (entC l) _ (U.ow 0 O) hk32 hreg (by rw [dR]; omega) hhd (U.keepb hk0))
  | 7, _, _, _ =>
   rintro _ _ ⟨rfl, rfl⟩
   intro w U
   exact OpV.g (ay O)
  | 8, _, _, _ =>
   rintro _ _ ⟨rfl, rfl⟩
   intro w U
   exact OpV.g (ao O O)
  | 9, _, _, _ =>
   rintro _ _ ⟨rfl, rfl⟩
   intro w U
   exact OpV.g (ao O O)
  | 10, _, h, _ => exact absurd O h
  | 11, _, _, h => exact absurd O h
  | i + 12, h, _, _ => exact absurd h om
 ·exact fun Lv w => eq (zeroValue47 _)
 ·rintro _ _ ⟨rfl, rfl⟩ _ _ ⟨b1, rfl, rfl⟩
  intro b hb w h
  have hb : some (ptr b1) = some (ptr b) := hb
  cases hb
  exact dE O O h (sizeOf47 _) O (lb O) O
 clear Y U
 rintro bq _ _ ⟨⟨rfl, rfl⟩, -⟩ _ _ ⟨⟨rfl, rfl⟩, -⟩ _ _ ⟨⟨ev2, rfl, -, rfl⟩, -⟩ _ _ ⟨⟨rfl, rfl⟩, -⟩ _ _ ⟨⟨rfl, rfl⟩, -⟩ _ _ ⟨⟨rfl, rfl⟩, -⟩ _ _ ⟨⟨rfl, rfl⟩, -⟩ _ _ ⟨⟨rfl, rfl⟩, -⟩ _ _ ⟨⟨rfl, rfl⟩, -⟩ _ _ ⟨⟨rfl, rfl⟩, -⟩ _ _ ⟨⟨b1, rfl, rfl⟩, hva⟩ a w5 Y U
 obtain rfl : b1 = bq := fO (hva rfl)
 replace Y : Fr 26 [(13, _), (14, _), (15, _), (16, _), (17, _), (18, _), (19, _), (12, _), (20, _), (21, _), (6, _), (0, _), (1, _), (3, _), (4, _), (5, _), (8, _), (9, _), (10, _)] [] a := Y
 try dsimp only at U
 replace U := U.n4 O
 refine ab <| aL (k := 12) 13 [12] ?_
 refine wla Y O fun a Y => ab <| aS <| G4 ?_
 replace U := U.k2 6 O
 refine ah fun _ G5 => aa fun _ G6 => nv (Y.p4 4 5 6 7 O) <| yp O <| yo ((v_ne O O).asb (b' := false) O) <| fun a Y => G6 <| aJ Y O ?_
 refine ar <| G5 <| aa fun _ G7 => wlv Y (ap (U.g 0 O) O (isAgg47 _) (sizeOf47 _)) fun a Y => az 1 Y U [jv hd.c, jv hd.n, sv hd.root, sv hd.tag] O (sizeOf47 _) fun a w6 Y U => wla Y O fun a Y => G7 <| aq <| am Y results23 (ai O (aY (U.g 1 O) (isAgg47 _) (sizeOf47 _)) (ae O ag)) ?_
 exact ⟨by rfl, U.ext⟩
theorem fl (key : By) (hd : Hd) (c : Int) (lv : Value) (l : List Cas) (num : Int) (w0 : World) (hlv : SlAt w0 lv 3 (l.map Cas.cells)) (hk32 : key.length = 32) (hdoc : docOk c l = true) (hhd : hdOf sha key c (entC l) l.length = hd) (hnum : 0 ≤ num ∧ num ≤ 99999999) (hk0 : (blk 0 (kOf.map wv) 258).ok w0) :
  Ret Tryz.prog 22 #[sv key, .agg #[jv c, lv], jv num] w0 (MemR w0 (fun x : Value × List Itw => .tuple #[.agg #[jv hd.c, jv hd.n, sv hd.root, sv hd.tag, x.1], jv 0]) (fun x => [itsE x.1 x.2]) (fun x => itsM x.2 = showIs sha (entC l) l.length (ansIx l num))) := by
 have hll := iZ hdoc
 have hcb := fx hdoc
 have hreg := j0 hdoc
 have hle := gB num l
 have hle9 := q6 l num
 refine Ao func22 O ntmps22 (lb O) fun a Y U => aa fun _ G1 => aV Y U O [jv c, lv] O fun a w1 Y U => aD Y U (zeroValue50 _) [jv 0, jv 0, .string (⟨#[]⟩), .string (⟨#[]⟩), .slice none 0 0] O fun a w2 Y U => wla Y O fun a Y => G1 <| ah fun _ G2 => aa fun _ G3 => wlv Y (ap (U.g 1 O) O (isAgg32 _) (sizeOf32 _)) fun a Y => aw Y U call31 O (cJ hdoc (iE c lv l _ (U.arg hlv))) fun a w3 Y U => nv Y <| yo ((bB O).asb (b' := false) O) <| yp O <| yr (ay O) <| fun a Y => aF Y U call49 O (cJ (show inB num 0 99999999 = true from by simp only [inB, yw, yB]; omega) (dm num 0 99999999 _)) fun a w4 Y U => nv Y <| yr ((bB O).asb (b' := false) O) <| yo (ak O O) <| fun a Y => G3 ?_
 replace Y := Y.p6 0 2 4 6 7 22 O
 refine aJ Y O ?_
 refine ar <| G2 <| aa fun _ G4 => nv Y <| yo (ac (v := po w0.hz 1) O kr) <| yo (ld U 1 O O (isAgg30 _) O) <| yp O <| fun a Y => aw Y U call70 O (pr lv l num _ (U.arg hlv) (iG hdoc) hnum) fun a w5 Y U => nv Y <| yp O <| yo (ao O O) <| yo (ao O O) <| yq O <| yq O <| fun a Y => G4 ?_
 refine aa fun _ G5 => wla (Y.p6 0 4 6 7 8 9 O) O fun a Y => G5 <| ah fun _ G6 => aa fun _ G7 => wlm Y O fun a Y => G7 <| io (fun a w => ∃ (av : Value), Fr 67 [(0, sv key), (4, pq w0.hz), (6, pq w1.hz), (7, jv 0), (10, av)] [] a ∧ St No w0 [own av 3 1 ((ansIx l num).map fun n => [jv n]), blk w1.hz [jv 0, jv 0, .string (⟨#[]⟩), .string (⟨#[]⟩), .slice none 0 0] 50, blk w0.hz [jv c, lv] 32] w) ?_ ?_
 ·refine bC Y O (fun hc1 => ?_) (fun hc1 => ?_)
  ·have hhit := hc1
   refine al <| wlm Y O fun a Y => aE (E := 3) (sz := 1) O [[jv (lowC num l : Int)]] kr sm O de de Y U fun a w6 Y U => wla Y O fun a Y => ab ?_
   replace U : St No w0 [own (.slice (some ⟨w5.hz, 0, none⟩) 1 1) 3 1 ((ansIx l num).map fun n => [jv n]), blk w1.hz [jv 0, jv 0, .string (⟨#[]⟩), .string (⟨#[]⟩), .slice none 0 0] 50, blk w0.hz [jv c, lv] 32] w6 := by rw [show ansIx l num = [(lowC num l : Int)] from yR hhit]; exact U
   exact ⟨(.slice (some ⟨w5.hz, 0, none⟩) 1 1), Y.pick [0, 4, 6, 7, 10], U.select [0, 1, 2] de⟩
  have hhit := hc1
  refine aa fun _ G8 => nv Y <| yp O <| yo (bK O O ⟨om, om⟩) <| yp O <| yo (aW (v := .agg #[jv ((lowC num l : Int) - 1), jv (lowC num l : Int)]) O kr) <| yp O <| fun a Y => G8 ?_
  replace Y := Y.p7 0 4 6 7 10 37 38 O
  refine au <| ez 4 ?_
  refine bR <| aa fun _ G9 => wlv Y ((v_lt O O).asb (b' := true) O) fun a Y => G9 <| ah fun _ G10 => aG Y O ?_
  refine ar <| G10 <| ah fun _ G11 => au <| aa fun _ G12 => nv Y <| yo (cj (v := jv ((lowC num l : Int) - 1)) O O kr) <| yq O <| fun a Y => G12 <| aa fun _ G13 => nv Y <| yp O <| yo (ac (v := po w0.hz 1) O kr) <| yo (ld U 1 O O (isAgg30 _) O) <| yo ((aO (sT := 30) (U.arg hlv) O O (runUnderlying30 _)).asi (m' := (l.length : Int)) AO) <| yo (bK O O ⟨om, om⟩) <| fun a Y => aw Y U call49 O (dm ((lowC num l : Int) - 1) 0 ((l.length : Int) - 1) _) fun a w7 Y U => G13 ?_
  replace Y := Y.p9 0 4 6 7 10 37 38 12 46 O
  refine bC Y O (fun hc2 => ?_) (fun hc2 => ?_)
  ·have hb1 : 0 < lowC num l := by have h9 := hc2; simp only [inB, yw, yB] at h9; omega
   refine al <| nv Y <| yp O <| yp O <| fun a Y => aE (E := 3) (sz := 1) O [[jv ((lowC num l : Int) - 1)]] kr sm O de de Y U fun a w8 Y U => ?_
   replace U : St No w0 (own (.slice none 0 0) 3 1 [] :: [_, _, _]) w8 := U.nil_own
   refine ba (i := 0) (sT := 24) (inf := Tryz.t3) (z := jv 0) (b := 0) (off := 0) (m := 0) (c := 0) O O O (U.ow 1 O) sm underlying24 O O O O de Az AG AG de Y U fun a w9 s3 Y U _ => wla Y O fun a Y => ab <| G11 ?_
   replace U := U.k3 13 O
   refine al <| nv (Y.p7 0 4 6 7 37 38 10 O) <| yo ((aM O O de).asi (m' := 1) O) <| yp O <| fun a Y => ab <| bR <| aa fun _ G14 => wlv Y ((v_lt O O).asb (b' := true) O) fun a Y => G14 <| ah fun _ G15 => aG Y O ?_
   refine ar <| G15 <| ah fun _ G16 => au <| aa fun _ G17 => nv Y <| yo (cj (v := jv (lowC num l : Int)) O O kr) <| yq O <| fun a Y => G17 <| aa fun _ G18 => nv Y <| yp O <| yo (ac (v := po w0.hz 1) O kr) <| yo (ld U 2 O O (isAgg30 _) O) <| yo ((aO (sT := 30) (U.arg hlv) O O (runUnderlying30 _)).asi (m' := (l.length : Int)) AO) <| yo (bK O O ⟨om, om⟩) <| fun a Y => aw Y U call49 O (dm (lowC num l : Int) 0 ((l.length : Int) - 1) _) fun a w10 Y U => G18 ?_
   replace Y := Y.p9 0 4 6 7 37 10 38 12 46 O
   refine bC Y O (fun hc4 => ?_) (fun hc4 => ?_)
   ·have hb2 : lowC num l < l.length := by have h9 := hc4; simp only [inB, yw, yB] at h9; omega
    refine al <| nv Y <| yp O <| yp O <| fun a Y => aE (E := 3) (sz := 1) O [[jv (lowC num l : Int)]] kr sm O de de Y U fun a w11 Y U => ba (i := 1) (sT := 24) (inf := Tryz.t3) (z := jv 0) (b := 0) (off := 0) (m := 0) (c := 0) O O O (U.ow 0 O) sm underlying24 O O O O de Az AG AG de Y U fun a w12 s5 Y U _ => wla Y O fun a Y => ab <| G16 ?_
    replace U := U.k3 14 O
    refine al <| nv (Y.p7 0 4 6 7 37 38 10 O) <| yo ((aM O O de).asi (m' := 2) O) <| yp O <| fun a Y => ab <| bR <| aa fun _ G19 => wlv Y ((v_lt O O).asb (b' := false) O) fun a Y => G19 <| ah fun _ G20 => aJ Y O ?_
    refine aP ?_
    replace U : St No w0 [own s5 3 1 ((ansIx l num).map fun n => [jv n]), blk w1.hz [jv 0, jv 0, .string (⟨#[]⟩), .string (⟨#[]⟩), .slice none 0 0] 50, blk w0.hz [jv c, lv] 32] w12 := by rw [show ansIx l num = [((lowC num l : Int) - 1), (lowC num l : Int)] from by unfold ansIx; rw [yO (by rw [hhit]; decide), yR hb1, yR hb2]; rfl]; exact U
    exact ⟨s5, Y.pick [0, 4, 6, 7, 10], U.select [0, 1, 2] de⟩
   have hb2 : ¬ lowC num l < l.length := by have h9 := hc4; simp only [inB, yM, yX] at h9; omega
   refine ar <| G16 <| al <| nv Y <| yo ((aM O O de).asi (m' := 2) O) <| yp O <| fun a Y => ab <| bR <| aa fun _ G21 => wlv Y ((v_lt O O).asb (b' := false) O) fun a Y => G21 <| ah fun _ G22 => aJ Y O ?_
   refine aP ?_
   replace U : St No w0 [own s3 3 1 ((ansIx l num).map fun n => [jv n]), blk w1.hz [jv 0, jv 0, .string (⟨#[]⟩), .string (⟨#[]⟩), .slice none 0 0] 50, blk w0.hz [jv c, lv] 32] w10 := by rw [show ansIx l num = [((lowC num l : Int) - 1)] from by unfold ansIx; rw [yO (by rw [hhit]; decide), yR hb1, yO hb2]; rfl]; exact U
   exact ⟨s3, Y.pick [0, 4, 6, 7, 10], U.select [0, 1, 2] de⟩
  have hb1 : ¬ 0 < lowC num l := by have h9 := hc2; simp only [inB, yM, yX] at h9; omega
  refine ar <| G11 <| al <| nv Y <| yo ((aM O O de).asi (m' := 1) O) <| yp O <| fun a Y => ab <| bR <| aa fun _ G23 => wlv Y ((v_lt O O).asb (b' := true) O) fun a Y => G23 <| ah fun _ G24 => aG Y O ?_
  refine ar <| G24 <| ah fun _ G25 => au <| aa fun _ G26 => nv Y <| yo (cj (v := jv (lowC num l : Int)) O O kr) <| yq O <| fun a Y => G26 <| aa fun _ G27 => nv Y <| yp O <| yo (ac (v := po w0.hz 1) O kr) <| yo (ld U 1 O O (isAgg30 _) O) <| yo ((aO (sT := 30) (U.arg hlv) O O (runUnderlying30 _)).asi (m' := (l.length : Int)) AO) <| yo (bK O O ⟨om, om⟩) <| fun a Y => aw Y U call49 O (dm (lowC num l : Int) 0 ((l.length : Int) - 1) _) fun a w13 Y U => G27 ?_
  replace Y := Y.p9 0 4 6 7 10 37 38 12 46 O
  refine bC Y O (fun hc6 => ?_) (fun hc6 => ?_)
  ·have hb2 : lowC num l < l.length := by have h9 := hc6; simp only [inB, yw, yB] at h9; omega
   refine al <| nv Y <| yp O <| yp O <| fun a Y => aE (E := 3) (sz := 1) O [[jv (lowC num l : Int)]] kr sm O de de Y U fun a w14 Y U => ?_
   replace U : St No w0 (own (.slice none 0 0) 3 1 [] :: [_, _, _]) w14 := U.nil_own
   refine ba (i := 0) (sT := 24) (inf := Tryz.t3) (z := jv 0) (b := 0) (off := 0) (m := 0) (c := 0) O O O (U.ow 1 O) sm underlying24 O O O O de Az AG AG de Y U fun a w15 s7 Y U _ => wla Y O fun a Y => ab <| G25 ?_
   replace U := U.k3 13 O
   refine al <| nv (Y.p7 0 4 6 7 37 38 10 O) <| yo ((aM O O de).asi (m' := 2) O) <| yp O <| fun a Y => ab <| bR <| aa fun _ G28 => wlv Y ((v_lt O O).asb (b' := false) O) fun a Y => G28 <| ah fun _ G29 => aJ Y O ?_
   refine aP ?_
   replace U : St No w0 [own s7 3 1 ((ansIx l num).map fun n => [jv n]), blk w1.hz [jv 0, jv 0, .string (⟨#[]⟩), .string (⟨#[]⟩), .slice none 0 0] 50, blk w0.hz [jv c, lv] 32] w15 := by rw [show ansIx l num = [(lowC num l : Int)] from by unfold ansIx; rw [yO (by rw [hhit]; decide), yO hb1, yR hb2]; rfl]; exact U
   exact ⟨s7, Y.pick [0, 4, 6, 7, 10], U.select [0, 1, 2] de⟩
  have hb2 : ¬ lowC num l < l.length := by have h9 := hc6; simp only [inB, yM, yX] at h9; omega
  refine ar <| G25 <| al <| nv Y <| yo ((aM O O de).asi (m' := 2) O) <| yp O <| fun a Y => ab <| bR <| aa fun _ G30 => wlv Y ((v_lt O O).asb (b' := false) O) fun a Y => G30 <| ah fun _ G31 => aJ Y O ?_
  refine aP ?_
  replace U : St No w0 [own (.slice none 0 0) 3 1 ([]), blk w1.hz [jv 0, jv 0, .string (⟨#[]⟩), .string (⟨#[]⟩), .slice none 0 0] 50, blk w0.hz [jv c, lv] 32] w13 := U.nil_own
  replace U : St No w0 [own (.slice none 0 0) 3 1 ((ansIx l num).map fun n => [jv n]), blk w1.hz [jv 0, jv 0, .string (⟨#[]⟩), .string (⟨#[]⟩), .slice none 0 0] 50, blk w0.hz [jv c, lv] 32] w13 := by rw [show ansIx l num = [] from by unfold ansIx; rw [yO (by rw [hhit]; decide), yO hb1, yO hb2]; rfl]; exact U
  exact ⟨.slice none 0 0, Y.pick [0, 4, 6, 7, 10], U.select [0, 1, 2] de⟩
 rintro a w16 ⟨av, Y, U⟩
 refine G6 <| ah fun _ G32 => aH (aI fun w17 hxz => ?_)
 replace U := U.grow hxz
 refine aR (k := 0) 13 [10, 12] Y ?_
 replace Y := Y.p5 0 4 6 7 10 O
 refine eJ 11 12 9 [(8, 7, fun u => u), (9, 8, fun u => tupAt u 0)] 50 [jv 0, jv 0, .string (⟨#[]⟩), .string (⟨#[]⟩), .slice none 0 0] (fun u => u.cells.toList) 13 [[], [], [1], [], [3], [4], [], [0, 2, 5, 6], [7], [8], [8], [], [9, 11]] (fun i => match i with | 0 => pv (sv key) | 1 => pv (.agg #[jv c, lv]) | 2 => pm (fun v : Value => .agg #[jv c, v]) (fun v => [own v 9 1 ((entC l).map fun s => [sv s])]) (fun _ => True) | 3 => pv (po w0.hz 1) | 4 => pv (lv) | 5 => pv (jv (l.length : Int)) | 6 => pv (av) | 7 => pm (fun x : Value × List Itw => .tuple #[.agg #[jv hd.c, jv hd.n, sv hd.root, sv hd.tag, x.1], jv 0]) (fun x => [itsE x.1 x.2]) (fun x => itsM x.2 = showIs sha (entC l) l.length (ansIx l num)) | 8 => fun v E => (∃ sa0 sn0 sc0, v = .tuple #[.agg #[jv hd.c, jv hd.n, sv hd.root, sv hd.tag, (.slice sa0 sn0 sc0)], jv 0]) ∧ E = [] | 9 => fun v E => (∃ sa0 sn0 sc0, v = .agg #[jv hd.c, jv hd.n, sv hd.root, sv hd.tag, (.slice sa0 sn0 sc0)]) ∧ E = [] | 10 => pv (jv 0) | 11 => fun v E => ∃ b, v = ptr b ∧ E = [] | 12 => fun v E => v = undef ∧ E = [] | _ => fun _ _ => False) Y (H := [own av 3 1 ((ansIx l num).map fun n => [jv n]), blk w1.hz [jv 0, jv 0, .string (⟨#[]⟩), .string (⟨#[]⟩), .slice none 0 0] 50, blk w0.hz [jv c, lv] 32]) U kr kr kr kr de de de de de de de kr Bp ?_ (fun _ _ h => h) ⟨O, O⟩ (fun _ _ => Iff.rfl) ?_ ?_ ?_ ?_ ?_
 ·intro i v E h
  match i, h with
  | 0, _ => exact by decide
  | 1, _ => exact by decide
  | 2, _ => exact by decide
  | 3, _ => exact by decide
  | 4, _ => exact by decide
  | 5, _ => exact by decide
  | 6, _ => exact by decide
  | 7, _ => exact by decide
  | 8, _ => exact by decide
  | 9, _ => exact by decide
  | 10, _ => exact by decide
  | 11, _ => exact by decide
  | 12, _ => exact by decide
  | i + 13, h => exact h.elim
 ·intro i hi hia hij hil e
  match i, hi, hia, hij, hil with
  | 0, _, _, _, _ =>
   intro hl9 w U
   exact OpV.g (ay O)
  | 1, _, _, _, _ =>
   intro hl9 w U
   exact OpV.g (ap (U.g 3 O) O (isAgg32 _) (sizeOf32 _))
  | 2, _, _, _, _ =>
   rintro _ _ ⟨rfl, rfl⟩
   intro hl9 w U
   exact eS call72 O (rn c lv l _ (U.arg hlv) om)
  | 3, _, _, _, _ =>
   intro hl9 w U
   exact OpV.g (ac (v := po w0.hz 1) O kr)
  | 4, _, _, _, _ =>
   rintro _ _ ⟨rfl, rfl⟩
   intro hl9 w U
   exact OpV.g (ld U 3 O O (isAgg30 _) O)
  | 5, _, _, _, _ =>
   rintro _ _ ⟨rfl, rfl⟩
   intro hl9 w U
   exact OpV.g ((aO (sT := 30) (U.arg hlv) O O (runUnderlying30 _)).asi (m' := (l.length : Int)) AO)
  | 6, _, _, _, _ =>
   intro hl9 w U
   exact OpV.g (ay O)
  | 7, _, _, _, _ =>
   rintro _ _ ⟨rfl, rfl⟩ _ _ ⟨ev9, rfl, -, rfl⟩ _ _ ⟨rfl, rfl⟩ _ _ ⟨rfl, rfl⟩
   intro hl9 w U
   exact eS call26 O (jy key l.length hd av (ansIx l num) c ev9 (entC l) _ (U.ow 0 O) (U.ow 2 O) hk32 hreg (by rw [dR]; omega) (di l num) (zl (q6 l num) de) hhd (U.keepb hk0))
  | 8, _, _, _, h => exact absurd de h
  | 9, _, _, _, h => exact absurd de h
  | 10, _, _, _, _ =>
   rintro _ _ ⟨⟨sa0, sn0, sc0, rfl⟩, rfl⟩
   intro hl9 w U
   exact OpV.g (ao O O)
  | 11, _, h, _, _ => exact absurd O h
  | 12, _, _, h, _ => exact absurd O h
  | i + 13, h, _, _, _ => exact absurd h om
 ·intro x hx e
  simp only [yE, yI, y9] at hx
  rcases hx with rfl | rfl
  ·rintro _ _ ⟨⟨iv10, Liv10⟩, rfl, hL, rfl⟩
   intro w U
   obtain ⟨sa0, sn0, sc0, rfl⟩ := cO (bA (k := 0) U rfl).1
   exact OpV.hopv (OpV.g (ay O)) ⟨⟨_, _, _, O⟩, O⟩
  ·rintro _ _ ⟨⟨sa0, sn0, sc0, rfl⟩, rfl⟩
   intro w U
   exact OpV.hopv (OpV.g (ao O O)) ⟨⟨_, _, _, O⟩, O⟩
 ·exact fun Lv w => eq (zeroValue50 _)
 ·rintro _ _ ⟨⟨sa0, sn0, sc0, rfl⟩, rfl⟩ _ _ ⟨b8, rfl, rfl⟩
  intro b hb u hu w h
  have hb : some (ptr b8) = some (ptr b) := hb
  cases hb
  have hu : some (.agg #[jv hd.c, jv hd.n, sv hd.root, sv hd.tag, (.slice sa0 sn0 sc0)]) = some u := hu
  cases hu
  exact dE O O h (sizeOf50 _) O (lb O) O
 clear Y U
 rintro V bq hva hlk _ _ ⟨⟨rfl, rfl⟩, -⟩ _ _ ⟨⟨rfl, rfl⟩, -⟩ _ _ ⟨⟨ev9, rfl, -, rfl⟩, -⟩ _ _ ⟨⟨rfl, rfl⟩, -⟩ _ _ ⟨⟨rfl, rfl⟩, -⟩ _ _ ⟨⟨rfl, rfl⟩, -⟩ _ _ ⟨⟨rfl, rfl⟩, -⟩ _ _ ⟨⟨⟨iv10, Liv10⟩, rfl, hL, rfl⟩, hv7_⟩ v8_ _ ⟨⟨-, rfl⟩, hv8_⟩ v9_ _ ⟨⟨-, rfl⟩, hv9_⟩ _ _ ⟨⟨rfl, rfl⟩, -⟩ _ _ ⟨⟨b8, rfl, rfl⟩, hva9⟩ a w18 Y U
 obtain rfl : b8 = bq := fO (hva9.trans hva)
 obtain rfl : v8_ = .tuple #[.agg #[jv hd.c, jv hd.n, sv hd.root, sv hd.tag, iv10], jv 0] := hv8_.trans ((hlk 0 _ rfl).trans (yZ (fun u => u) hv7_.symm))
 obtain rfl : v9_ = .agg #[jv hd.c, jv hd.n, sv hd.root, sv hd.tag, iv10] := hv9_.trans ((hlk 1 _ rfl).trans (yZ (fun u => tupAt u 0) hv8_.symm))
 rw [← hv9_] at U
 replace Y : Fr 67 [(53, _), (54, _), (55, _), (56, _), (57, _), (58, _), (59, _), (60, _), (52, _), (61, _), (62, _), (13, _), (0, _), (4, _), (6, _), (7, _), (10, _)] [] a := Y
 try dsimp only at U
 replace U := U.n6 O
 clear hva9 hva hlk hv9_ hv8_ hv7_
 refine ab <| aL (k := 13) 14 [13] ?_
 refine wla Y O fun a Y => ab <| aS <| G32 ?_
 replace U := U.k4 30 O
 refine ah fun _ G33 => aa fun _ G34 => nv (Y.p4 6 7 13 14 O) <| yp O <| yo ((v_ne O O).asb (b' := false) O) <| fun a Y => G34 <| aJ Y O ?_
 refine ar <| G33 <| aa fun _ G35 => wlv Y (ap (U.g 1 O) O (isAgg50 _) (sizeOf50 _)) fun a Y => bp (us := [jv hd.c, jv hd.n, sv hd.root, sv hd.tag, iv10]) 3 Y U O O O (sizeOf50 _) (by intro z hz; simp only [yE, yI, y9] at hz; rcases hz with rfl | rfl | rfl | rfl | rfl <;> first | rfl | exact SlAt.one (bA (k := 0) U O).1) (lb O) (ds := [jv hd.c, jv hd.n, sv hd.root, sv hd.tag, iv10]) O O fun a w19 Y U => ?_
 refine wla Y O fun a Y => G35 <| aq <| am Y results22 (ai O (aY (U.g 3 O) (isAgg50 _) (sizeOf50 _)) (ae O ag)) ?_
 exact ⟨(iv10, Liv10), O, hL, U.ext, St.out (E := [itsE iv10 Liv10]) (H := []) (U.select [0] de)⟩
theorem qg (r : Rpw) (w0 : World) :
  Ret Tryz.prog 53 #[.agg #[jv r.at_, jv r.hd.c, jv r.hd.n, sv r.hd.root, sv r.hd.tag, r.iv]] w0 fun v w => v = jv r.at_ ∧ Ext No w0 w := by
 refine An func53 O ntmps53 (lb O) fun a Y U => aa fun _ G1 => aV Y U O [jv r.at_, jv r.hd.c, jv r.hd.n, sv r.hd.root, sv r.hd.tag, r.iv] O fun a w1 Y U => wla Y O fun a Y => G1 <| aa fun _ G2 => nv Y <| yo (ac (v := pq w0.hz) O kr) <| yo (ld U 0 O O (isAgg3 _) O) <| yq O <| fun a Y => G2 <| aq <| am Y results53 (ae O ag) ?_
 exact ⟨by rfl, U.ext⟩
theorem o8 (lv : Value) (R : List Rpw) (p : Rpl → Bool) (g : FuncId) (caps : List Value) (w0 : World) (hen : ∀ args w, (callFunc g args).run Tryz.prog w = .ok (.enter g args) w) (hlv : RepAt w0 lv R) (hcl : ∀ (r : Rpw) (w : World), r ∈ R → Ext No w0 w → Ret Tryz.prog g (.agg r.cells.toArray :: caps).toArray w fun v w' => v = .bool (p r.m) ∧ Ext No w w') :
  Ret Tryz.prog 54 #[lv, .func (.func 53) #[] #[], .func (.func g) #[] caps.toArray] w0 fun v w => v = .tuple #[jv ((firstF p none (repsM R)).getD 0), .bool ((firstF p none (repsM R)).isSome)] ∧ Ext No w0 w := by
 have hxb := hlv.len
 refine Ao func54 O ntmps54 (lb O) fun a Y U => aa fun _ G1 => nv Y <| yq O <| yq O <| fun a Y => G1 <| aa fun _ G2 => nv Y <| yq O <| yq O <| fun a Y => G2 <| ah fun _ G3 => aa fun _ G4 => nv Y <| yp O <| yo ((aO (sT := 38) (U.arg hlv.1) O O (runUnderlying38 _)).asi (m' := (R.length : Int)) AO) <| yp O <| fun a Y => G4 <| au <| aZ (fun m a w => ∃ (k : Nat) (o : Option Int), m = R.length - k ∧ (k ≤ R.length) ∧ (firstF p none (repsM R) = firstF p o ((repsM R).drop k)) ∧ Fr 38 [(1, .func (.func 53) #[] #[]), (2, .func (.func g) #[] caps.toArray), (6, jv 0), (7, .bool false), (12, lv), (13, jv (R.length : Int)), (14, jv (k : Int)), (8, jv (o.getD 0)), (9, .bool o.isSome)] [] a ∧ St No w0 [] w) _ ⟨0, none, O, yQ _, O, Y.pick [1, 2, 6, 7, 12, 13, 14, 8, 9], U.select [] de⟩ ?_
 rintro _ a w1 ⟨k, o, rfl, hk, hf, Y, U⟩
 refine aa fun _ G5 => wlv Y (v_lt O O) fun a Y => G5 <| ah fun _ G6 => aA Y O (fun hc1 => ?_) (fun hc1 => ?_)
 ·have hkx : k < R.length := by omega
  refine ar <| G6 <| ah fun _ G7 => au ?_
  obtain ⟨⟨ra, hd, iv, L⟩, hxr⟩ : ∃ r, R.getD k Rpw.z = r := ⟨_, rfl⟩
  have hxm := bD (d := Rpw.z) hkx
  rw [hxr] at hxm
  refine aa fun _ G8 => nv Y <| yo ((aj (i := (k : Int)) (sT := 38) (U.arg hlv.1) O O (runUnderlying38 _) (sizeOf52 _) om Aw).as (v' := slAddr lv (k * 6)) O) <| yo ((bP (U.arg hlv.1) (i := k) Aw O (isAgg52 _) (sizeOf52 _)).as (v' := .agg #[jv ra, jv hd.c, jv hd.n, sv hd.root, sv hd.tag, iv]) (by rw [bf Rpw.z, hxr]; rfl)) <| fun a Y => aD Y U (zeroValue52 _) [jv 0, jv 0, jv 0, .string (⟨#[]⟩), .string (⟨#[]⟩), .slice none 0 0] O fun a w2 Y U => bp (us := [jv ra, jv hd.c, jv hd.n, sv hd.root, sv hd.tag, iv]) 0 Y U O O O (sizeOf52 _) (by intro z hz; simp only [yE, yI, y9] at hz; rcases hz with rfl | rfl | rfl | rfl | rfl | rfl <;> first | rfl | exact SlAt.one (U.arg (hlv.2 _ hxm).1)) (lb O) (ds := [jv ra, jv hd.c, jv hd.n, sv hd.root, sv hd.tag, iv]) O O fun a w3 Y U => ?_
  refine G8 <| aa fun _ G9 => nv Y <| yp O <| yo (ap (U.g 0 O) O (isAgg52 _) (sizeOf52 _)) <| fun a Y => wl_r (gF (cap := caps) O hen O (hcl ⟨ra, hd, iv, L⟩ _ hxm U.ext)) O O Y fun a v w4 hR Y => ?_
  obtain ⟨rfl, hx⟩ := hR
  have U := U.grow hx
  clear hx
  refine wlm Y O fun a Y => ?_
  rcases yz (p (Rpw.m (⟨ra, hd, iv, L⟩ : Rpw))) with hb2 | hb2
  ·rw [hb2] at Y
   have hp := hb2
   refine nv Y <| yr (ay O) <| yr (bB O) <| yr (ay O) <| fun a Y => ?_
   rcases yz (!o.isSome) with hb3 | hb3
   ·rw [hb3] at Y
    try simp only [qz] at hb3
    have hnx := vv hp hb3
    refine nv Y <| yt <| yt <| yt <| yt <| yt <| yr (ax O O) <| yo (ax O O) <| fun a Y => G9 ?_
    replace Y := Y.p11 1 2 6 7 12 13 14 8 9 11 31 O
    refine aG Y O ?_
    refine al <| nv Y <| yp O <| yo (ap (U.g 0 O) O (isAgg52 _) (sizeOf52 _)) <| fun a Y => dC Y U O call53 O (qg ⟨ra, hd, iv, L⟩ _) fun a w5 Y U => nv Y <| yq O <| yq O <| fun a Y => ab <| G7 <| al <| nv Y <| yo (aM O O ⟨om, om⟩) <| yp O <| fun a Y => ab ?_
    refine ⟨_, ?_, k + 1, some ra, O, om, (ig hkx hxr hf hnx), Y.pick [1, 2, 6, 7, 12, 13, 14, 8, 9], U.select [] de⟩
    omega
   rw [hb3] at Y
   try simp only [qz] at hb3
   have hos := hb3
   refine nv Y <| yr (ay O) <| yr (ap (U.g 0 O) O (isAgg52 _) (sizeOf52 _)) <| fun a Y => ey Y ?_
   refine dC Y U O call53 O (qg ⟨ra, hd, iv, L⟩ _) fun a w6 Y U => nv Y <| yr (ay O) <| yr (v_lt O O) <| yr (ak O O) <| yo (ax O O) <| fun a Y => G9 ?_
   replace Y := Y.p11 1 2 6 7 12 13 14 8 9 11 31 O
   refine aA Y O (fun hc4 => ?_) (fun hc4 => ?_)
   ·have hnx := td hp (show (Rpw.m (⟨ra, hd, iv, L⟩ : Rpw)).at_ < o.getD 0 from hc4)
    refine al <| nv Y <| yp O <| yo (ap (U.g 0 O) O (isAgg52 _) (sizeOf52 _)) <| fun a Y => dC Y U O call53 O (qg ⟨ra, hd, iv, L⟩ _) fun a w7 Y U => nv Y <| yq O <| yq O <| fun a Y => ab <| G7 <| al <| nv Y <| yo (aM O O ⟨om, om⟩) <| yp O <| fun a Y => ab ?_
    refine ⟨_, ?_, k + 1, some ra, O, om, (ig hkx hxr hf hnx), Y.pick [1, 2, 6, 7, 12, 13, 14, 8, 9], U.select [] de⟩
    omega
   have hnx := wB (p := p) hos (show ¬ (Rpw.m (⟨ra, hd, iv, L⟩ : Rpw)).at_ < o.getD 0 by show ¬ ra < _; omega)
   refine ar <| G7 <| al <| nv Y <| yo (aM O O ⟨om, om⟩) <| yp O <| fun a Y => ab ?_
   refine ⟨_, ?_, k + 1, o, O, om, (ig hkx hxr hf hnx), Y.pick [1, 2, 6, 7, 12, 13, 14, 8, 9], U.select [] de⟩
   omega
  rw [hb2] at Y
  have hnx := vJ (o := o) (show p (Rpw.m (⟨ra, hd, iv, L⟩ : Rpw)) = false from hb2)
  refine nv Y <| yt <| yt <| yt <| fun a Y => bX Y fun a Y => bX Y fun a Y => bX Y fun a Y => bX Y fun a Y => bX Y fun a Y => nv Y <| yt <| yo (ak O O) <| fun a Y => G9 ?_
  replace Y := Y.p11 1 2 6 7 12 13 14 8 9 11 31 O
  refine aJ Y O ?_
  refine ar <| G7 <| al <| nv Y <| yo (aM O O ⟨om, om⟩) <| yp O <| fun a Y => ab ?_
  refine ⟨_, ?_, k + 1, o, O, om, (ig hkx hxr hf hnx), Y.pick [1, 2, 6, 7, 12, 13, 14, 8, 9], U.select [] de⟩
  omega
 have hkd : (repsM R).drop k = [] := List.drop_eq_nil_of_le (by unfold repsM; rw [yu]; omega)
 rw [hkd] at hf
 refine aP <| G3 <| aa fun _ G10 => nv Y <| yp O <| yp O <| yq O <| yq O <| fun a Y => G10 ?_
 replace Y := Y.p2 6 7 O
 refine aq <| am Y results54 (ae O (ae O ag)) ?_
 exact ⟨by simp only [retv]; rw [hf]; rfl, U.ext⟩
theorem vg (r : Rpw) (q : Chg) (en t : Int) (key : By) (b9 b15 b11 b7 : Nat) (w0 : World) (hiv : ItsAt w0 r.iv r.L) (hpf : ∀ x ∈ r.L, x.m.pf.length ≤ 1000) (hen : 0 ≤ en ∧ en ≤ 12000000) (h9 : (blk b9 [jv q.n, jv q.h, jv q.c, jv q.t, jv q.a] 36).ok w0) (h15 : (blk b15 [jv en] 3).ok w0) (h11 : (blk b11 [jv t] 3).ok w0) (h7 : (blk b7 [sv key] 9).ok w0) (hk0 : (blk 0 (kOf.map wv) 258).ok w0) :
  Ret Tryz.prog 51 #[.agg #[jv r.at_, jv r.hd.c, jv r.hd.n, sv r.hd.root, sv r.hd.tag, r.iv], pq b9, pq b15, pq b11, pq b7] w0 fun v w => v = .bool (countB sha key q en t r.m) ∧ Ext No w0 w := by
 refine Aq func51 O ntmps51 (lb O) fun a Y U => aa fun _ G1 => aV Y U O [jv r.at_, jv r.hd.c, jv r.hd.n, sv r.hd.root, sv r.hd.tag, r.iv] O fun a w1 Y U => wla Y O fun a Y => G1 <| aa fun _ G2 => nv Y <| yo (ac (v := pq w0.hz) O kr) <| yo (ld U 0 O O (isAgg3 _) O) <| yo (ac (v := po b9 4) O kr) <| yo (bN (U.keepb h9) O (isAgg3 _) O) <| yo (bN (U.keepb h15) O (isAgg3 _) O) <| yo (bK O O ⟨om, om⟩) <| yo (bN (U.keepb h11) O (isAgg3 _) O) <| yo (ut O O) <| fun a Y => aw Y U call49 O (dm r.at_ q.a (min (en - 1) t) _) fun a w2 Y U => wlm Y O fun a Y => ?_
 rcases yz (inB r.at_ q.a (min (en - 1) t)) with hb1 | hb1
 ·rw [hb1] at Y
  refine nv Y <| yr (ac (v := po w0.hz 1) O kr) <| yr (ac (v := po w0.hz 1) O kr) <| yr (ac (v := po w0.hz 1) O kr) <| yr (ld U 0 O O (isAgg3 _) O) <| yr (ac (v := po b9 2) O kr) <| yr (bN (U.keepb h9) O (isAgg3 _) O) <| yr (v_eq O O) <| yo (ax O O) <| yp O <| fun a Y => ?_
  rcases Decidable.em (r.hd.c = q.c) with hb2 | hb2
  ·rw [yy hb2] at Y
   refine nv Y <| yr (bN (U.keepb h7) O (isAgg9 _) O) <| yr (ac (v := po w0.hz 1) O kr) <| yr (bS (ds := [jv r.hd.c, jv r.hd.n, sv r.hd.root, sv r.hd.tag, r.iv]) (U.g 0 O) O (isAgg50 _) (sizeOf50 _) O) <| fun a Y => aF Y U call52 O (eC key r.hd r.iv r.L _ (cC U hiv) hpf (U.keepb hk0)) fun a w3 Y U => nv Y <| yo (ax O O) <| yq O <| fun a Y => G2 ?_
   replace Y := Y.p1 6 O
   replace U := U.k0 0 O
   refine aq <| am Y results51 (ae O ag) ?_
   refine ⟨?_, U.ext⟩
   simp only [retv]
   refine yZ Value.bool ?_
   unfold countB
   show _ = (inB r.at_ q.a (min (en - 1) t) && decide (r.hd.c = q.c) && checkP sha key r.hd (itsM r.L))
   rw [hb1, yy (by omega : r.hd.c = q.c)]; rfl
  rw [yD hb2] at Y
  refine nv Y <| yt <| yt <| yt <| yt <| yo (ak O O) <| yq O <| fun a Y => G2 ?_
  replace Y := Y.p1 6 O
  replace U := U.k0 0 O
  refine aq <| am Y results51 (ae O ag) ?_
  refine ⟨?_, U.ext⟩
  simp only [retv]
  refine yZ Value.bool ?_
  unfold countB
  show _ = (inB r.at_ q.a (min (en - 1) t) && decide (r.hd.c = q.c) && checkP sha key r.hd (itsM r.L))
  rw [hb1, yD (by omega : ¬ r.hd.c = q.c)]; rfl
 rw [hb1] at Y
 refine nv Y <| yt <| yt <| yt <| yt <| yt <| yt <| yt <| yo (ak O O) <| yp O <| yt <| yt <| yt <| yt <| yo (ak O O) <| yq O <| fun a Y => G2 ?_
 replace Y := Y.p1 6 O
 replace U := U.k0 0 O
 refine aq <| am Y results51 (ae O ag) ?_
 refine ⟨?_, U.ext⟩
 simp only [retv]
 refine yZ Value.bool ?_
 unfold countB
 show _ = (inB r.at_ q.a (min (en - 1) t) && decide (r.hd.c = q.c) && checkP sha key r.hd (itsM r.L))
 rw [hb1]; rfl
theorem xx (kv : Value) (ks : List By) (b16 b6 : Nat) (r : Rpw) (q : Chg) (en t : Int) (key : By) (b9 b15 b11 b7 : Nat) (w0 : World) (hiv : ItsAt w0 r.iv r.L) (hpf : ∀ x ∈ r.L, x.m.pf.length ≤ 1000) (hen : 0 ≤ en ∧ en ≤ 12000000) (h9 : (blk b9 [jv q.n, jv q.h, jv q.c, jv q.t, jv q.a] 36).ok w0) (h15 : (blk b15 [jv en] 3).ok w0) (h11 : (blk b11 [jv t] 3).ok w0) (h7 : (blk b7 [sv key] 9).ok w0) (h16 : (blk b16 [.func (.func 51) #[] #[pq b9, pq b15, pq b11, pq b7]] 116).ok w0) (h6 : (blk b6 [kv] 44).ok w0) (hkv : SlAt w0 kv 1 (ks.map fun s => [sv s])) (hk0 : (blk 0 (kOf.map wv) 258).ok w0) :
  Ret Tryz.prog 55 #[.agg #[jv r.at_, jv r.hd.c, jv r.hd.n, sv r.hd.root, sv r.hd.tag, r.iv], pq b16, pq b6, pq b9] w0 fun v w => v = .bool (keptB sha ks key q en t r.m) ∧ Ext No w0 w := by
 refine Ap func55 O ntmps55 (lb O) fun a Y U => aa fun _ G1 => aV Y U O [jv r.at_, jv r.hd.c, jv r.hd.n, sv r.hd.root, sv r.hd.tag, r.iv] O fun a w1 Y U => wla Y O fun a Y => G1 <| aa fun _ G2 => nv Y <| yo (bN (U.keepb h16) O (isAgg116 _) O) <| yo (ap (U.g 0 O) O (isAgg52 _) (sizeOf52 _)) <| fun a Y => dC Y U O call51 O (vg r q en t key b9 b15 b11 b7 _ (cC U hiv) hpf hen (U.keepb h9) (U.keepb h15) (U.keepb h11) (U.keepb h7) (U.keepb hk0)) fun a w2 Y U => wlm Y O fun a Y => ?_
 rcases yz (countB sha key q en t r.m) with hb1 | hb1
 ·rw [hb1] at Y
  have hok : OkP r.hd.n r.L := ja (key := key) (by have h9 := hb1; unfold countB at h9; rw [yw] at h9; exact h9.2)
  refine nv Y <| yr (bN (U.keepb h6) O (isAgg44 _) O) <| yr (ap (U.keepb h9) O (isAgg36 _) (sizeOf36 _)) <| yr (ac (v := po w0.hz 1) O kr) <| yr (bS (ds := [jv r.hd.c, jv r.hd.n, sv r.hd.root, sv r.hd.tag, r.iv]) (U.g 0 O) O (isAgg50 _) (sizeOf50 _) O) <| fun a Y => aF Y U call56 O (uZ kv ks q r.hd r.iv r.L _ (U.arg hkv) (cC U hiv) hok (U.keepb hk0)) fun a w3 Y U => nv Y <| yo (ax O O) <| yq O <| fun a Y => G2 ?_
  replace Y := Y.p1 5 O
  replace U := U.k0 0 O
  refine aq <| am Y results55 (ae O ag) ?_
  refine ⟨?_, U.ext⟩
  simp only [retv]
  refine yZ Value.bool ?_
  unfold keptB
  rw [hb1]; rfl
 rw [hb1] at Y
 refine nv Y <| yt <| yt <| yt <| yt <| yt <| yo (ak O O) <| yq O <| fun a Y => G2 ?_
 replace Y := Y.p1 5 O
 replace U := U.k0 0 O
 refine aq <| am Y results55 (ae O ag) ?_
 refine ⟨?_, U.ext⟩
 simp only [retv]
 refine yZ Value.bool ?_
 unfold keptB
 rw [hb1]; rfl
theorem vo (b16 : Nat) (r : Rpw) (q : Chg) (en t : Int) (key : By) (b9 b15 b11 b7 : Nat) (w0 : World) (hiv : ItsAt w0 r.iv r.L) (hpf : ∀ x ∈ r.L, x.m.pf.length ≤ 1000) (hen : 0 ≤ en ∧ en ≤ 12000000) (h9 : (blk b9 [jv q.n, jv q.h, jv q.c, jv q.t, jv q.a] 36).ok w0) (h15 : (blk b15 [jv en] 3).ok w0) (h11 : (blk b11 [jv t] 3).ok w0) (h7 : (blk b7 [sv key] 9).ok w0) (h16 : (blk b16 [.func (.func 51) #[] #[pq b9, pq b15, pq b11, pq b7]] 116).ok w0) (hk0 : (blk 0 (kOf.map wv) 258).ok w0) :
  Ret Tryz.prog 57 #[.agg #[jv r.at_, jv r.hd.c, jv r.hd.n, sv r.hd.root, sv r.hd.tag, r.iv], pq b16, pq b9] w0 fun v w => v = .bool (backB sha key q en t r.m) ∧ Ext No w0 w := by
 refine Ao func57 O ntmps57 (lb O) fun a Y U => aa fun _ G1 => aV Y U O [jv r.at_, jv r.hd.c, jv r.hd.n, sv r.hd.root, sv r.hd.tag, r.iv] O fun a w1 Y U => wla Y O fun a Y => G1 <| aa fun _ G2 => nv Y <| yo (bN (U.keepb h16) O (isAgg116 _) O) <| yo (ap (U.g 0 O) O (isAgg52 _) (sizeOf52 _)) <| fun a Y => dC Y U O call51 O (vg r q en t key b9 b15 b11 b7 _ (cC U hiv) hpf hen (U.keepb h9) (U.keepb h15) (U.keepb h11) (U.keepb h7) (U.keepb hk0)) fun a w2 Y U => wlm Y O fun a Y => ?_
 rcases yz (countB sha key q en t r.m) with hb1 | hb1
 ·rw [hb1] at Y
  have hok : OkP r.hd.n r.L := ja (key := key) (by have h9 := hb1; unfold countB at h9; rw [yw] at h9; exact h9.2)
  refine nv Y <| yr (ac (v := po w0.hz 1) O kr) <| yr (bS (ds := [jv r.hd.c, jv r.hd.n, sv r.hd.root, sv r.hd.tag, r.iv]) (U.g 0 O) O (isAgg50 _) (sizeOf50 _) O) <| yr (ac (v := pq b9) O kr) <| yr (bN (U.keepb h9) O (isAgg3 _) O) <| fun a Y => aF Y U call58 O (nI r.hd r.iv r.L q.n _ (cC U hiv) hok) fun a w3 Y U => nv Y <| yo (ax O O) <| yq O <| fun a Y => G2 ?_
  replace Y := Y.p1 4 O
  replace U := U.k0 0 O
  refine aq <| am Y results57 (ae O ag) ?_
  refine ⟨?_, U.ext⟩
  simp only [retv]
  refine yZ Value.bool ?_
  unfold backB
  rw [hb1]; rfl
 rw [hb1] at Y
 refine nv Y <| yt <| yt <| yt <| yt <| yt <| yo (ak O O) <| yq O <| fun a Y => G2 ?_
 replace Y := Y.p1 4 O
 replace U := U.k0 0 O
 refine aq <| am Y results57 (ae O ag) ?_
 refine ⟨?_, U.ext⟩
 simp only [retv]
 refine yZ Value.bool ?_
 unfold backB
 rw [hb1]; rfl
end Go.Proofs.YtliklcmddmpdfaaGreatDoor
namespace Go.Proofs.YtliklcmddmpdfaaGreatDoor
open Go.RowKit Go.PW _root_.Go.Proofs.Tryz
theorem yc (q : Chg) (w0 : World) :
  Ret Tryz.prog 50 #[.agg #[jv q.n, jv q.h, jv q.c, jv q.t, jv q.a]] w0 fun v w => v = .bool q.ok ∧ Ext No w0 w := by
 refine An func50 O ntmps50 (lb O) fun a Y U => aa fun _ G1 => aV Y U O [jv q.n, jv q.h, jv q.c, jv q.t, jv q.a] O fun a w1 Y U => wla Y O fun a Y => G1 <| aa fun _ G2 => nv Y <| yo (ac (v := po w0.hz 1) O kr) <| yo (ld U 0 O O (isAgg3 _) O) <| fun a Y => aw Y U call49 O (dm q.h 0 63 _) fun a w2 Y U => wlm Y O fun a Y => ?_
 rcases yz (inB q.h 0 63) with hb1 | hb1
 ·rw [hb1] at Y
  refine nv Y <| yr (ac (v := po w0.hz 2) O kr) <| yr (ld U 0 O O (isAgg3 _) O) <| fun a Y => aF Y U call49 O (dm q.c 0 7 _) fun a w3 Y U => nv Y <| yo (ax O O) <| yq O <| fun a Y => G2 ?_
  refine aa fun _ G3 => nv (Y.p3 1 2 3 O) <| yp O <| yp O <| fun a Y => ?_
  rcases yz (inB q.c 0 7) with hb2 | hb2
  ·rw [hb2] at Y
   refine nv Y <| yr (ac (v := pq w0.hz) O kr) <| yr (ld U 0 O O (isAgg3 _) O) <| fun a Y => aF Y U call49 O (dm q.n 0 99999999 _) fun a w4 Y U => nv Y <| yo (ax O O) <| yp O <| fun a Y => ?_
   rcases yz (inB q.n 0 99999999) with hb3 | hb3
   ·rw [hb3] at Y
    refine nv Y <| yr (ac (v := po w0.hz 4) O kr) <| yr (ld U 0 O O (isAgg3 _) O) <| fun a Y => aF Y U call49 O (dm q.a 0 10000000 _) fun a w5 Y U => nv Y <| yo (ax O O) <| yp O <| fun a Y => ?_
    rcases yz (inB q.a 0 10000000) with hb4 | hb4
    ·rw [hb4] at Y
     refine nv Y <| yr (ac (v := po w0.hz 3) O kr) <| yr (ld U 0 O O (isAgg3 _) O) <| yr (ac (v := po w0.hz 4) O kr) <| yr (ld U 0 O O (isAgg3 _) O) <| fun a Y => aF Y U call49 O (dm q.t 0 q.a _) fun a w6 Y U => nv Y <| yo (ax O O) <| yq O <| fun a Y => G3 ?_
     replace Y := Y.p1 2 O
     replace U := U.k0 0 O
     refine aq <| am Y results50 (ae O ag) ?_
     exact ⟨by simp only [retv]; unfold Chg.ok; simp [hb1, hb2, hb3, hb4], U.ext⟩
    rw [hb4] at Y
    refine nv Y <| yt <| yt <| yt <| yt <| yt <| yo (ak O O) <| yq O <| fun a Y => G3 ?_
    replace Y := Y.p1 2 O
    replace U := U.k0 0 O
    refine aq <| am Y results50 (ae O ag) ?_
    exact ⟨by simp only [retv]; unfold Chg.ok; simp [hb1, hb2, hb3, hb4], U.ext⟩
   rw [hb3] at Y
   refine nv Y <| yt <| yt <| yt <| yo (ak O O) <| yp O <| yt <| yt <| yt <| yt <| yt <| yo (ak O O) <| yq O <| fun a Y => G3 ?_
   replace Y := Y.p1 2 O
   replace U := U.k0 0 O
   refine aq <| am Y results50 (ae O ag) ?_
   exact ⟨by simp only [retv]; unfold Chg.ok; simp [hb1, hb2, hb3], U.ext⟩
  rw [hb2] at Y
  refine nv Y <| yt <| yt <| yt <| yo (ak O O) <| yp O <| yt <| yt <| yt <| yo (ak O O) <| yp O <| yt <| yt <| yt <| yt <| yt <| yo (ak O O) <| yq O <| fun a Y => G3 ?_
  replace Y := Y.p1 2 O
  replace U := U.k0 0 O
  refine aq <| am Y results50 (ae O ag) ?_
  exact ⟨by simp only [retv]; unfold Chg.ok; simp [hb1, hb2], U.ext⟩
 rw [hb1] at Y
 refine nv Y <| yt <| yt <| yt <| yo (ak O O) <| yq O <| fun a Y => G2 ?_
 refine aa fun _ G4 => nv (Y.p3 1 2 3 O) <| yp O <| yp O <| yt <| yt <| yt <| yo (ak O O) <| yp O <| yt <| yt <| yt <| yo (ak O O) <| yp O <| yt <| yt <| yt <| yt <| yt <| yo (ak O O) <| yq O <| fun a Y => G4 ?_
 replace Y := Y.p1 2 O
 replace U := U.k0 0 O
 refine aq <| am Y results50 (ae O ag) ?_
 exact ⟨by simp only [retv]; unfold Chg.ok; simp [hb1], U.ext⟩
theorem jc (kv lv : Value) (ks : List By) (key : By) (lim : Int) (q : Chg) (R : List Rpw) (t : Int) (w0 : World) (hkv : SlAt w0 kv 1 (ks.map fun s => [sv s])) (hlv : RepAt w0 lv R) (hRp : ∀ r ∈ R, ∀ x ∈ r.L, x.m.pf.length ≤ 1000) (hso : fb key lim q R.length t = true) (hk0 : (blk 0 (kOf.map wv) 258).ok w0) :
  Ret Tryz.prog 17 #[kv, sv key, jv lim, .agg #[jv q.n, jv q.h, jv q.c, jv q.t, jv q.a], lv, jv t] w0 fun v w => v = .tuple #[jv ((stateH sha ks key lim q (repsM R) t).1), jv ((stateH sha ks key lim q (repsM R) t).2), jv 0] ∧ Ext No w0 w := by
 obtain ⟨hk32, hlim, hqo, hrl, hta, htb⟩ := lC hso
 obtain ⟨hq1, hq2, hq3, hq4, hq5, hq6⟩ := wn hqo
 have hxb := hlv.len
 obtain ⟨ko, hko⟩ : ∃ o, firstF (keptB sha ks key q (q.a + lim) t) none (repsM R) = o := ⟨_, rfl⟩
 obtain ⟨bo, hbo⟩ : ∃ o, firstF (backB sha key q (q.a + lim) t) none (repsM R) = o := ⟨_, rfl⟩
 refine Ar func17 O ntmps17 (lb O) fun a Y U => aa fun _ G1 => aV Y U O [kv] (by rw [(U.arg hkv).cells]) fun a w1 Y U => aV Y U O [sv key] O fun a w2 Y U => aV Y U O [jv q.n, jv q.h, jv q.c, jv q.t, jv q.a] O fun a w3 Y U => aV Y U O [jv t] O fun a w4 Y U => nv Y <| yq O <| yq O <| yq O <| fun a Y => G1 <| ah fun _ G2 => aa fun _ G3 => nv Y <| yo (ld U 2 O O (isAgg9 _) O) <| yo (bd O O (runUnderlying9 _)) <| yo (v_ne O O) <| yp O <| fun a Y => ?_
 rcases (Decidable.em ((key.length : Int) = 32)).symm with hb1 | hb1
 ·rw [yD hb1] at Y
  exfalso; omega
 rw [yy hb1] at Y
 refine wly Y (ay O) fun a Y => aF Y U call49 O (dm lim 1 1000000 _) fun a w5 Y U => nv Y <| yr (bB O) <| yo (ak O O) <| yp O <| fun a Y => ?_
 rcases yz (!(inB lim 1 1000000)) with hb2 | hb2
 ·rw [hb2] at Y
  try simp only [qz] at hb2
  exfalso; simp only [inB, yM, yX] at hb2; omega
 rw [hb2] at Y
 try simp only [qz] at hb2
 refine wly Y (ap (U.g 1 O) O (isAgg36 _) (sizeOf36 _)) fun a Y => aF Y U call50 O (yc q _) fun a w6 Y U => nv Y <| yr (bB O) <| yo (ak O O) <| yp O <| fun a Y => ?_
 rcases yz (!q.ok) with hb3 | hb3
 ·rw [hb3] at Y
  try simp only [qz] at hb3
  rw [hqo] at hb3; cases hb3
 rw [hb3] at Y
 try simp only [qz] at hb3
 refine nv Y <| yr (ay O) <| yr ((aO (sT := 38) (U.arg hlv.1) O O (runUnderlying38 _)).asi (m' := (R.length : Int)) AO) <| yr (v_gt O O) <| yo (ak O O) <| yp O <| fun a Y => ?_
 rcases Decidable.em (10 < (R.length : Int)) with hb4 | hb4
 ·rw [yy hb4] at Y
  exfalso; omega
 rw [yD hb4] at Y
 refine nv Y <| yr (ld U 0 O O (isAgg3 _) O) <| yr (ac (v := po w2.hz 4) O kr) <| yr (ld U 1 O O (isAgg3 _) O) <| fun a Y => aF Y U call49 O (dm t q.a 11000000 _) fun a w7 Y U => nv Y <| yr (bB O) <| yo (ak O O) <| fun a Y => G3 ?_
 replace Y := Y.p10 2 4 6 7 9 11 12 13 14 46 O
 refine bC Y O (fun hc5 => ?_) (fun hc5 => ?_)
 ·try simp only [qz] at hc5
  exfalso; simp only [inB, yM, yX] at hc5; omega
 try simp only [qz] at hc5
 refine ar <| G2 <| aa fun _ G4 => nv Y <| yo (ac (v := po w2.hz 4) O kr) <| yo (ld U 1 O O (isAgg3 _) O) <| yp O <| yo (aM O O ⟨om, om⟩) <| fun a Y => aD Y U (zeroValue3 _) [jv 0] O fun a w8 Y U => az 0 Y U [jv (q.a + lim)] O (sizeOf3 _) fun a w9 Y U => G4 ?_
 refine aa fun _ G5 => wlv (Y.p9 4 6 7 9 11 12 13 14 15 O) (cb O O) fun a Y => aD Y U (zeroValue116 _) [.nilFunc] O fun a w10 Y U => az 0 Y U [.func (.func 51) #[] #[pq w2.hz, pq w7.hz, pq w3.hz, pq w1.hz]] O (sizeOf116 _) fun a w11 Y U => G5 <| aa fun _ G6 => wla Y O fun a Y => G6 <| aa fun _ G7 => nv Y <| yp O <| yp O <| yo (cb O O) <| fun a Y => aw Y U call54 O (tU (by rw [hko]) (o8 lv R (keptB sha ks key q (q.a + lim) t) 55 [pq w9.hz, pq w0.hz, pq w2.hz] _ call55 (iQ U hlv) (fun r wq hm hx => xx kv ks w9.hz w0.hz r q (q.a + lim) t key w2.hz w7.hz w3.hz w1.hz wq (((iQ U hlv).2 r hm).grow hx) (hRp r hm) om (cW (U.g 3 O) hx) (cW (U.g 1 O) hx) (cW (U.g 2 O) hx) (cW (U.g 4 O) hx) (cW (U.g 0 O) hx) (cW (U.g 5 O) hx) ((U.arg hkv).grow hx) (cW (U.keepb hk0) hx)))) fun a w12 Y U => nv Y <| yp O <| yo (ao O O) <| yo (ao O O) <| yq O <| yq O <| fun a Y => G7 ?_
 replace U := U.k5 31 O
 refine aa fun _ G8 => nv (Y.p11 4 9 11 12 13 14 15 16 17 18 19 O) <| yp O <| yp O <| yo (cb O O) <| fun a Y => aw Y U call54 O (tU (by rw [hbo]) (o8 lv R (backB sha key q (q.a + lim) t) 57 [pq w9.hz, pq w2.hz] _ call57 (iQ U hlv) (fun r wq hm hx => vo w9.hz r q (q.a + lim) t key w2.hz w7.hz w3.hz w1.hz wq (((iQ U hlv).2 r hm).grow hx) (hRp r hm) om (cW (U.g 3 O) hx) (cW (U.g 1 O) hx) (cW (U.g 2 O) hx) (cW (U.g 4 O) hx) (cW (U.g 0 O) hx) (cW (U.keepb hk0) hx)))) fun a w13 Y U => nv Y <| yp O <| yo (ao O O) <| yo (ao O O) <| yq O <| yq O <| fun a Y => G8 ?_
 replace U := U.k4 30 O
 refine ah fun _ G9 => au <| aa fun _ G10 => nv (Y.p10 9 11 12 13 14 15 18 19 20 21 O) <| yp O <| yp O <| fun a Y => ?_
 rcases yz (bo.isSome) with hb6 | hb6
 ·rw [hb6] at Y
  refine nv Y <| yr (ay O) <| yr (bB O) <| yr (ay O) <| fun a Y => ?_
  rcases yz (!ko.isSome) with hb7 | hb7
  ·rw [hb7] at Y
   try simp only [qz] at hb7
   refine nv Y <| yt <| yt <| yt <| yr (ax O O) <| yo (ax O O) <| yq O <| fun a Y => G10 ?_
   replace Y := Y.p10 9 11 12 13 14 15 18 19 20 66 O
   replace U := U.k3 7 O
   refine aG Y O ?_
   refine aa fun _ G11 => nv Y <| yp O <| yq O <| yq O <| yq O <| fun a Y => G11 ?_
   replace Y := Y.p4 9 12 13 14 O
   replace U := U.k1 4 O
   refine aq <| am Y results17 (ae O (ae O (ae O ag))) ?_
   refine ⟨?_, U.ext⟩
   simp only [retv]
   unfold stateH
   rw [hko, hbo, show pickS ko bo q (q.a + lim) t = (3, bo.getD 0) from by first | exact fd (ko := ko) (bo := bo) Ay Ay | exact eP (ko := ko) (bo := bo) Ay Ay om | exact eX (ko := ko) (bo := bo) Ay Ay | exact fa (ko := ko) (bo := bo) Ay Ay om | exact gj (ko := ko) (bo := bo) Ay Ay om | exact fU (ko := ko) (bo := bo) Ay Ay om | exact Bool.noConfusion ((show ko.isSome = true by assumption).symm.trans (show ko.isSome = false by assumption))]
   try rfl
  rw [hb7] at Y
  try simp only [qz] at hb7
  refine nv Y <| yr (ay O) <| yr (ay O) <| yr (v_le O O) <| yr (ak O O) <| yo (ax O O) <| yq O <| fun a Y => G10 ?_
  replace Y := Y.p10 9 11 12 13 14 15 18 19 20 66 O
  replace U := U.k3 7 O
  refine aA Y O (fun hc8 => ?_) (fun hc8 => ?_)
  ·refine aa fun _ G12 => nv Y <| yp O <| yq O <| yq O <| yq O <| fun a Y => G12 ?_
   replace Y := Y.p4 9 12 13 14 O
   replace U := U.k1 4 O
   refine aq <| am Y results17 (ae O (ae O (ae O ag))) ?_
   refine ⟨?_, U.ext⟩
   simp only [retv]
   unfold stateH
   rw [hko, hbo, show pickS ko bo q (q.a + lim) t = (3, bo.getD 0) from by first | exact fd (ko := ko) (bo := bo) Ay Ay | exact eP (ko := ko) (bo := bo) Ay Ay om | exact eX (ko := ko) (bo := bo) Ay Ay | exact fa (ko := ko) (bo := bo) Ay Ay om | exact gj (ko := ko) (bo := bo) Ay Ay om | exact fU (ko := ko) (bo := bo) Ay Ay om | exact Bool.noConfusion ((show ko.isSome = true by assumption).symm.trans (show ko.isSome = false by assumption))]
   try rfl
  refine aa fun _ G13 => nv Y <| yp O <| yq O <| fun a Y => G13 <| bC Y O (fun hc9 => ?_) (fun hc9 => ?_)
  ·refine aa fun _ G14 => nv Y <| yp O <| yq O <| yq O <| yq O <| fun a Y => G14 ?_
   replace Y := Y.p4 9 12 13 14 O
   replace U := U.k1 4 O
   refine aq <| am Y results17 (ae O (ae O (ae O ag))) ?_
   refine ⟨?_, U.ext⟩
   simp only [retv]
   unfold stateH
   rw [hko, hbo, show pickS ko bo q (q.a + lim) t = (2, ko.getD 0) from by first | exact fd (ko := ko) (bo := bo) Ay Ay | exact eP (ko := ko) (bo := bo) Ay Ay om | exact eX (ko := ko) (bo := bo) Ay Ay | exact fa (ko := ko) (bo := bo) Ay Ay om | exact gj (ko := ko) (bo := bo) Ay Ay om | exact fU (ko := ko) (bo := bo) Ay Ay om | exact Bool.noConfusion ((show ko.isSome = true by assumption).symm.trans (show ko.isSome = false by assumption))]
   try rfl
  refine aa fun _ G15 => nv Y <| yo (ld U 1 O O (isAgg3 _) O) <| yo (ld U 0 O O (isAgg3 _) O) <| yo (v_ge O O) <| yq O <| fun a Y => G15 ?_
  replace Y := Y.p6 9 12 13 14 15 81 O
  replace U := U.k2 5 O
  refine aA Y O (fun hc10 => ?_) (fun hc10 => ?_)
  ·refine ah fun _ G16 => aH (aI fun w14 hxz => ?_)
   replace U := U.grow hxz
   refine aR (k := 0) 2 [0, 1] Y ?_
   refine bL 2 (Y.p4 9 13 14 15 O) U <| pl_w (fun U => ld U 0 O O (isAgg3 _) O) <| pl_v (cz O) fun a w15 Y U => ?_
   replace Y := Y.p3 9 85 12 O
   refine ab <| aL (k := 2) 4 [3] ?_
   refine nv Y <| yq O <| yq O <| fun a Y => ab <| aS <| G16 <| aq <| am Y results17 (ae O (ae O (ae O ag))) ?_
   refine ⟨?_, U.ext⟩
   simp only [retv]
   unfold stateH
   rw [hko, hbo, show pickS ko bo q (q.a + lim) t = (3, q.a + lim) from by first | exact fd (ko := ko) (bo := bo) Ay Ay | exact eP (ko := ko) (bo := bo) Ay Ay om | exact eX (ko := ko) (bo := bo) Ay Ay | exact fa (ko := ko) (bo := bo) Ay Ay om | exact gj (ko := ko) (bo := bo) Ay Ay om | exact fU (ko := ko) (bo := bo) Ay Ay om | exact Bool.noConfusion ((show ko.isSome = true by assumption).symm.trans (show ko.isSome = false by assumption))]
   try rfl
  refine ar <| G9 <| ah fun _ G17 => aH (aI fun w16 hxz => ?_)
  replace U := U.grow hxz
  refine aR (k := 0) 3 [1, 2] Y ?_
  refine bL 3 (Y.p4 9 13 14 15 O) U <| pl_v (ac (v := po w2.hz 4) O kr) <| pl_w (fun U => ld U 1 O O (isAgg3 _) O) <| pl_v (cz O) fun a w17 Y U => ?_
  replace Y := Y.p2 87 12 O
  refine ab <| aL (k := 3) 5 [4] ?_
  refine nv Y <| yq O <| yq O <| fun a Y => ab <| aS <| G17 <| aq <| am Y results17 (ae O (ae O (ae O ag))) ?_
  refine ⟨?_, U.ext⟩
  simp only [retv]
  unfold stateH
  rw [hko, hbo, show pickS ko bo q (q.a + lim) t = (1, q.a) from by first | exact fd (ko := ko) (bo := bo) Ay Ay | exact eP (ko := ko) (bo := bo) Ay Ay om | exact eX (ko := ko) (bo := bo) Ay Ay | exact fa (ko := ko) (bo := bo) Ay Ay om | exact gj (ko := ko) (bo := bo) Ay Ay om | exact fU (ko := ko) (bo := bo) Ay Ay om | exact Bool.noConfusion ((show ko.isSome = true by assumption).symm.trans (show ko.isSome = false by assumption))]
  try rfl
 rw [hb6] at Y
 refine nv Y <| yt <| yt <| yt <| fun a Y => bX Y fun a Y => bX Y fun a Y => bX Y fun a Y => nv Y <| yt <| yo (ak O O) <| yq O <| fun a Y => G10 ?_
 replace Y := Y.p10 9 11 12 13 14 15 18 19 20 66 O
 replace U := U.k3 7 O
 refine aJ Y O ?_
 refine aa fun _ G18 => nv Y <| yp O <| yq O <| fun a Y => G18 <| bC Y O (fun hc11 => ?_) (fun hc11 => ?_)
 ·refine aa fun _ G19 => nv Y <| yp O <| yq O <| yq O <| yq O <| fun a Y => G19 ?_
  replace Y := Y.p4 9 12 13 14 O
  replace U := U.k1 4 O
  refine aq <| am Y results17 (ae O (ae O (ae O ag))) ?_
  refine ⟨?_, U.ext⟩
  simp only [retv]
  unfold stateH
  rw [hko, hbo, show pickS ko bo q (q.a + lim) t = (2, ko.getD 0) from by first | exact fd (ko := ko) (bo := bo) Ay Ay | exact eP (ko := ko) (bo := bo) Ay Ay om | exact eX (ko := ko) (bo := bo) Ay Ay | exact fa (ko := ko) (bo := bo) Ay Ay om | exact gj (ko := ko) (bo := bo) Ay Ay om | exact fU (ko := ko) (bo := bo) Ay Ay om | exact Bool.noConfusion ((show ko.isSome = true by assumption).symm.trans (show ko.isSome = false by assumption))]
  try rfl
 refine aa fun _ G20 => nv Y <| yo (ld U 1 O O (isAgg3 _) O) <| yo (ld U 0 O O (isAgg3 _) O) <| yo (v_ge O O) <| yq O <| fun a Y => G20 ?_
 replace Y := Y.p6 9 12 13 14 15 81 O
 replace U := U.k2 5 O
 refine aA Y O (fun hc12 => ?_) (fun hc12 => ?_)
 ·refine ah fun _ G21 => aH (aI fun w18 hxz => ?_)
  replace U := U.grow hxz
  refine aR (k := 0) 2 [0, 1] Y ?_
  refine bL 2 (Y.p4 9 13 14 15 O) U <| pl_w (fun U => ld U 0 O O (isAgg3 _) O) <| pl_v (cz O) fun a w19 Y U => ?_
  replace Y := Y.p3 9 85 12 O
  refine ab <| aL (k := 2) 4 [3] ?_
  refine nv Y <| yq O <| yq O <| fun a Y => ab <| aS <| G21 <| aq <| am Y results17 (ae O (ae O (ae O ag))) ?_
  refine ⟨?_, U.ext⟩
  simp only [retv]
  unfold stateH
  rw [hko, hbo, show pickS ko bo q (q.a + lim) t = (3, q.a + lim) from by first | exact fd (ko := ko) (bo := bo) Ay Ay | exact eP (ko := ko) (bo := bo) Ay Ay om | exact eX (ko := ko) (bo := bo) Ay Ay | exact fa (ko := ko) (bo := bo) Ay Ay om | exact gj (ko := ko) (bo := bo) Ay Ay om | exact fU (ko := ko) (bo := bo) Ay Ay om | exact Bool.noConfusion ((show ko.isSome = true by assumption).symm.trans (show ko.isSome = false by assumption))]
  try rfl
 refine ar <| G9 <| ah fun _ G22 => aH (aI fun w20 hxz => ?_)
 replace U := U.grow hxz
 refine aR (k := 0) 3 [1, 2] Y ?_
 refine bL 3 (Y.p4 9 13 14 15 O) U <| pl_v (ac (v := po w2.hz 4) O kr) <| pl_w (fun U => ld U 1 O O (isAgg3 _) O) <| pl_v (cz O) fun a w21 Y U => ?_
 replace Y := Y.p2 87 12 O
 refine ab <| aL (k := 3) 5 [4] ?_
 refine nv Y <| yq O <| yq O <| fun a Y => ab <| aS <| G22 <| aq <| am Y results17 (ae O (ae O (ae O ag))) ?_
 refine ⟨?_, U.ext⟩
 simp only [retv]
 unfold stateH
 rw [hko, hbo, show pickS ko bo q (q.a + lim) t = (1, q.a) from by first | exact fd (ko := ko) (bo := bo) Ay Ay | exact eP (ko := ko) (bo := bo) Ay Ay om | exact eX (ko := ko) (bo := bo) Ay Ay | exact fa (ko := ko) (bo := bo) Ay Ay om | exact gj (ko := ko) (bo := bo) Ay Ay om | exact fU (ko := ko) (bo := bo) Ay Ay om | exact Bool.noConfusion ((show ko.isSome = true by assumption).symm.trans (show ko.isSome = false by assumption))]
 try rfl
def keyG (c : Int) : By := List.replicate 32 (UInt8.ofNat ((100 + c) % 256).toNat)
theorem o6 (c : Int) : (keyG c).length = 32 := by unfold keyG; simp
theorem bO (n m : Int) (w0 : World) (hn : -9223372036854775808 ≤ n ∧ n ≤ 9223372036854775807) (hm : 0 < m ∧ m ≤ 9223372036854775807) :
  Ret Tryz.prog 44 #[jv n, jv m] w0 fun v w => v = jv (pickI n m) ∧ Ext No w0 w := by
 refine Am func44 O ntmps44 (lb O) fun a Y U => aa fun _ G1 => wla Y O fun a Y => G1 <| ah fun _ G2 => aa fun _ G3 => nv Y <| yp O <| yo (v_lt O O) <| fun a Y => G3 <| aA Y O (fun hc1 => ?_) (fun hc1 => ?_)
 ·refine al <| nv Y <| yp O <| yo (aM O O ⟨om, om⟩) <| yo (kc O om om) <| yq O <| fun a Y => ab <| G2 <| aa fun _ G4 => nv Y <| yp O <| yp O <| yo (fi O O om om) <| yq O <| fun a Y => G4 ?_
  replace Y := Y.p1 4 O
  refine aq <| am Y results44 (ae O ag) ?_
  exact ⟨by simp only [retv, pickI]; simp [hc1], U.ext⟩
 refine ar <| G2 <| aa fun _ G5 => nv Y <| yp O <| yp O <| yo (fi O O om om) <| yq O <| fun a Y => G5 ?_
 replace Y := Y.p1 4 O
 refine aq <| am Y results44 (ae O ag) ?_
 exact ⟨by simp only [retv, pickI]; simp [hc1], U.ext⟩
theorem dU (n m : Int) (w0 : World) (hn : -9223372036854775808 ≤ n ∧ n ≤ 9223372036854775807) (hm : 0 < m ∧ m ≤ 9223372036854775807) :
  Ret Tryz.prog 16 #[jv n, jv m] w0 fun v w => v = jv (pickI n m) ∧ Ext No w0 w := by
 refine Am func16 O ntmps16 (lb O) fun a Y U => aa fun _ G1 => wla Y O fun a Y => G1 <| ah fun _ G2 => aa fun _ G3 => nv Y <| yp O <| yo (v_lt O O) <| fun a Y => G3 <| aA Y O (fun hc1 => ?_) (fun hc1 => ?_)
 ·refine al <| nv Y <| yp O <| yo (aM O O ⟨om, om⟩) <| yo (kc O om om) <| yq O <| fun a Y => ab <| G2 <| aa fun _ G4 => nv Y <| yp O <| yp O <| yo (fi O O om om) <| yq O <| fun a Y => G4 ?_
  replace Y := Y.p1 4 O
  refine aq <| am Y results16 (ae O ag) ?_
  exact ⟨by simp only [retv, pickI]; simp [hc1], U.ext⟩
 refine ar <| G2 <| aa fun _ G5 => nv Y <| yp O <| yp O <| yo (fi O O om om) <| yq O <| fun a Y => G5 ?_
 replace Y := Y.p1 4 O
 refine aq <| am Y results16 (ae O ag) ?_
 exact ⟨by simp only [retv, pickI]; simp [hc1], U.ext⟩
theorem kH (h : Int) (w0 : World) (hb : 0 ≤ h ∧ h ≤ 1000) :
  Ret Tryz.prog 13 #[jv h] w0 fun v w => v = sv (keyG h) ∧ Ext No w0 w := by
 refine An func13 O ntmps13 (lb O) fun a Y U => aa fun _ G1 => wla Y O fun a Y => G1 <| aa fun _ G2 => iu (n := 32) (E := 5) (sz := 1) O O ((kfill (UInt8.ofNat ((100 + h) % 256).toNat) 0).map fun b => [yv b]) kr BI (by simp [kfill]) de de Y U fun a w1 Y U => wla Y O fun a Y => G2 <| ah fun _ G3 => aa fun _ G4 => wla Y O fun a Y => G4 <| au <| aZ (fun m a w => ∃ (k : Nat), m = 32 - k ∧ (k ≤ 32) ∧ Fr 20 [(0, jv h), (2, sv ([])), (3, (.slice (some ⟨w0.hz, 0, none⟩) 32 32)), (4, jv (k : Int))] [] a ∧ St No w0 [own (.slice (some ⟨w0.hz, 0, none⟩) 32 32) 5 1 ((kfill (UInt8.ofNat ((100 + h) % 256).toNat) k).map fun b => [yv b])] w) _ ⟨0, O, yQ _, Y.pick [0, 2, 3, 4], U⟩ ?_
 rintro _ a w2 ⟨k, rfl, hk, Y, U⟩
 refine ah fun _ G5 => aa fun _ G6 => nv Y <| yp O <| yp O <| yo ((aO (sT := 60) (U.ow 0 O) O O (runUnderlying60 _)).asi (m' := 32) (by rw [yu, eA om]; rfl)) <| yo (v_lt O O) <| fun a Y => G6 <| aA Y O (fun hc1 => ?_) (fun hc1 => ?_)
 ·have hk2 : k < 32 := by omega
  refine ar <| G5 <| ah fun _ G7 => au <| al <| nv Y <| yp O <| yp O <| yp O <| yo (aM O O ⟨om, om⟩) <| yo (ll (n := 100 + h) O kr underlying5) <| yo ((aj (i := (k : Int)) (sT := 60) (U.ow 0 O) O O (runUnderlying60 _) (sizeOf5 _) om Ca).as (v' := slAddr (.slice (some ⟨w0.hz, 0, none⟩) 32 32) (k * 1)) O) <| fun a Y => jN (k := k) (us := [yv (UInt8.ofNat ((100 + h) % 256).toNat)]) 0 Y U O O O Ca om (sizeOf5 _) O (by first | rfl | simp [Value.oneCell', yv, wv, sv]) O O fun a w3 Y U => ab <| G7 <| al <| nv (Y.p4 0 2 3 4 O) <| yp O <| yo (aM O O ⟨om, om⟩) <| yq O <| fun a Y => ab ?_
  rw [show ((kfill (UInt8.ofNat ((100 + h) % 256).toNat) k).map fun b => [yv b]).set k [yv (UInt8.ofNat ((100 + h) % 256).toNat)] = ((kfill (UInt8.ofNat ((100 + h) % 256).toNat) (k + 1)).map fun b => [yv b]) from by rw [← lU hk2, Aj]] at U
  refine ⟨_, ?_, k + 1, O, om, Y.pick [0, 2, 3, 4], U⟩
  omega
 obtain rfl : k = 32 := by omega
 refine aP <| G3 <| aa fun _ G8 => nv Y <| yp O <| yo (eG (U.ow 0 O) O underlying60 underlying5 underlying9) <| yq O <| fun a Y => G8 ?_
 replace Y := Y.p1 2 O
 replace U := U.k0 0 O
 refine aq <| am Y results13 (ae O ag) ?_
 exact ⟨by rw [mJ]; rfl, U.ext⟩
theorem ug {c : Int} {es : List By} (h1 : inB c 0 7 = true) (h2 : es.length ≤ 60) (h3 : ∀ s ∈ es, s.length ≤ 1000) : regOk c es = true := by
 unfold regOk
 rw [h1, yy h2]
 simp only [zJ, zh, zF, longE, yB]
 exact fun s hs => by have := h3 s hs; omega
section
variable {l : List Cas} {k : Nat} {num : Int} {p : Cas → Prop}
theorem wd {n i : Int} (h0 : 0 ≤ i) (h1 : i < n) : ascI n (-1) [i] = true := by rw [ascI, yy (by omega : -1 < i), yy h1]; rfl
end
theorem oq (n lo hi : Int) (w0 : World) :
  Ret Tryz.prog 66 #[jv n, jv lo, jv hi] w0 fun v w => v = .bool (inB n lo hi) ∧ Ext No w0 w := by
 refine Ao func66 O ntmps66 (lb O) fun a Y U => aa fun _ G1 => wla Y O fun a Y => G1 <| aa fun _ G2 => nv Y <| yp O <| yp O <| yo (v_ge O O) <| yp O <| fun a Y => dk (N := 15) (df := []) 4 [(14, .bool ((decide (lo ≤ n)) && (decide (n ≤ hi)))), (0, jv n), (1, jv lo), (2, jv hi), (6, .bool false)] ?_ (fun hj => ?_)
 rotate_left
 ·rcases yz (decide (lo ≤ n)) with hb1 | hb1
  ·rw [hb1] at Y
   have hb1b := hb1
   try simp only [qz, yw, yS, yM, yU] at hb1
   refine nv Y <| yr (ay O) <| yr (ay O) <| yr (v_le O O) <| yo (ax O O) <| fun a Y => hj _ ?_
   try rw [hb1b]
   exact Y.pick [14, 0, 1, 2, 6]
  rw [hb1] at Y
  have hb1b := hb1
  try simp only [qz, yw, yS, yM, yU] at hb1
  refine nv Y <| yt <| yt <| yt <| yo (ak O O) <| fun a Y => hj _ ?_
  try rw [hb1b]
  exact Y.pick [14, 0, 1, 2, 6]
 intro a Y
 refine wla Y O fun a Y => G2 <| aq <| am Y results66 (ae O ag) ?_
 exact ⟨by simp only [retv]; unfold inB; rfl, U.ext⟩
theorem pK (x : Cas) (w0 : World) :
  Ret Tryz.prog 128 #[.agg #[jv x.n, jv x.t, sv x.ev]] w0 fun v w => v = .bool x.ok ∧ Ext No w0 w := by
 refine An func128 O ntmps128 (lb O) fun a Y U => aa fun _ G1 => aV Y U O [jv x.n, jv x.t, sv x.ev] O fun a w1 Y U => wla Y O fun a Y => G1 <| aa fun _ G2 => nv Y <| yo (ac (v := pq w0.hz) O kr) <| yo (ld U 0 O O (isAgg3 _) O) <| fun a Y => aw Y U call66 O (oq x.n 0 99999999 _) fun a w2 Y U => wlm Y O fun a Y => ?_
 rcases yz (inB x.n 0 99999999) with hb1 | hb1
 ·rw [hb1] at Y
  refine nv Y <| yr (ac (v := po w0.hz 1) O kr) <| yr (ld U 0 O O (isAgg3 _) O) <| fun a Y => aF Y U call66 O (oq x.t 0 10000000 _) fun a w3 Y U => nv Y <| yo (ax O O) <| yp O <| fun a Y => ?_
  rcases yz (inB x.t 0 10000000) with hb2 | hb2
  ·rw [hb2] at Y
   refine nv Y <| yr (ac (v := po w0.hz 2) O kr) <| yr (ld U 0 O O (isAgg9 _) O) <| yr (bd O O (runUnderlying9 _)) <| yr (v_le O O) <| yo (ax O O) <| yq O <| fun a Y => G2 ?_
   replace Y := Y.p1 2 O
   replace U := U.k0 0 O
   refine aq <| am Y results128 (ae O ag) ?_
   refine ⟨?_, U.ext⟩
   simp only [retv]
   refine yZ Value.bool ?_
   unfold Cas.ok
   simp only [hb1, hb2, zJ]
   exact decide_eq_decide.2 om
  rw [hb2] at Y
  refine nv Y <| yt <| yt <| yt <| yt <| yo (ak O O) <| yq O <| fun a Y => G2 ?_
  replace Y := Y.p1 2 O
  replace U := U.k0 0 O
  refine aq <| am Y results128 (ae O ag) ?_
  refine ⟨?_, U.ext⟩
  simp only [retv]
  refine yZ Value.bool ?_
  unfold Cas.ok
  simp only [hb1, hb2, zJ, z8]
 rw [hb1] at Y
 refine nv Y <| yt <| yt <| yt <| yo (ak O O) <| yp O <| yt <| yt <| yt <| yt <| yo (ak O O) <| yq O <| fun a Y => G2 ?_
 replace Y := Y.p1 2 O
 replace U := U.k0 0 O
 refine aq <| am Y results128 (ae O ag) ?_
 refine ⟨?_, U.ext⟩
 simp only [retv]
 refine yZ Value.bool ?_
 unfold Cas.ok
 simp only [hb1, zJ, z8]
theorem uH (x : Cas) (w0 : World) :
  Ret Tryz.prog 76 #[.agg #[jv x.n, jv x.t, sv x.ev]] w0 fun v w => v = .tuple #[sv (encP x), jv (cE x)] ∧ Ext No w0 w := by
 refine An func76 O ntmps76 (lb O) fun a Y U => aa fun _ G1 => aV Y U O [jv x.n, jv x.t, sv x.ev] O fun a w1 Y U => nv Y <| yq O <| yq O <| fun a Y => G1 <| ah fun _ G2 => aa fun _ G3 => wlv Y (ap (U.g 0 O) O (isAgg55 _) (sizeOf55 _)) fun a Y => aw Y U call128 O (pK x _) fun a w2 Y U => wlv Y (bB O) fun a Y => G3 <| bC Y O (fun hc1 => ?_) (fun hc1 => ?_)
 ·try simp only [qz] at hc1
  refine aa fun _ G4 => nv Y <| yq O <| yq O <| fun a Y => G4 <| aq <| am Y results76 (ae O (ae O ag)) ?_
  exact ⟨by simp only [retv]; unfold encP cE; rw [yO (by rw [hc1]; decide), yO (by rw [hc1]; decide)]; rfl, U.ext⟩
 try simp only [qz] at hc1
 have hbd := Cas.bnd hc1
 have hl1 := bW x.n
 have hl2 := bW x.t
 have hl3 := bW (x.ev.length : Int)
 have hl4 : (putS x.ev).length ≤ 1000 := by unfold putS; rw [yx]; omega
 refine ar <| G2 <| aa fun _ G5 => nv Y <| yo (ac (v := pq w0.hz) O kr) <| yo (ld U 0 O O (isAgg3 _) O) <| fun a Y => aw Y U call129 O (eM x.n _ AJ) fun a w3 Y U => nv Y <| yp O <| yo (ao O O) <| yo (ao O O) <| yq O <| yq O <| fun a Y => G5 ?_
 refine aa fun _ G6 => nv (Y.p4 1 2 3 4 O) <| yo (ac (v := po w0.hz 1) O kr) <| yo (ld U 0 O O (isAgg3 _) O) <| fun a Y => aw Y U call129 O (eM x.t _ AJ) fun a w4 Y U => nv Y <| yp O <| yo (ao O O) <| yo (ao O O) <| yq O <| yq O <| fun a Y => G6 ?_
 refine aa fun _ G7 => nv (Y.p5 1 2 3 4 6 O) <| yo (ac (v := po w0.hz 2) O kr) <| yo (ld U 0 O O (isAgg9 _) O) <| fun a Y => aw Y U call130 O (lF x.ev _ om) fun a w5 Y U => nv Y <| yp O <| yo (ao O O) <| yo (ao O O) <| yq O <| yq O <| fun a Y => G7 ?_
 replace U := U.k0 0 O
 refine aa fun _ G8 => nv (Y.p5 2 3 4 6 8 O) <| yp O <| yp O <| yo (dJ O O Bf) <| yp O <| yo (dJ O O Bf) <| yq O <| yq O <| fun a Y => G8 ?_
 replace Y := Y.p2 2 3 O
 refine aq <| am Y results76 (ae O (ae O ag)) ?_
 exact ⟨by simp only [retv]; unfold encP cE; rw [yR hc1, yR hc1]; simp [Cas.enc, puts], U.ext⟩
theorem wV (c : Int) (lv : Value) (l : List Cas) (w0 : World) (hlv : SlAt w0 lv 3 (l.map Cas.cells)) (hle : l.length ≤ 1000) :
  Ret Tryz.prog 27 #[.agg #[jv c, lv]] w0 (MemR w0 (fun v : Value => .agg #[jv c, v]) (fun v => [own v 9 1 ((entC (l)).map fun s => [sv s])]) (fun _ => True)) := by
 have hxb := hlv.2.1
 simp only [yu, big] at hxb
 refine An func27 O ntmps27 (lb O) fun a Y U => aa fun _ G1 => aV Y U O [jv c, lv] O fun a w1 Y U => aD Y U (zeroValue75 _) [jv 0, .slice none 0 0] O fun a w2 Y U => G1 <| aa fun _ G2 => nv Y <| yo (ac (v := pq w0.hz) O kr) <| yo (ld U 1 O O (isAgg3 _) O) <| yo (aW (v := .agg #[jv c, .slice none 0 0]) O kr) <| fun a Y => aD Y U (zeroValue75 _) [jv 0, .slice none 0 0] O fun a w3 Y U => az 0 Y U [jv c, .slice none 0 0] O (sizeOf75 _) fun a w4 Y U => G2 <| ah fun _ G3 => aa fun _ G4 => wla Y O fun a Y => G4 <| au ?_
 replace U : St No w0 [own (.slice none 0 0) 9 1 ((entC (l.take 0)).map fun s => [sv s]), blk w2.hz [jv c, .slice none 0 0] 75, blk w1.hz [jv 0, .slice none 0 0] 75, blk w0.hz [jv c, lv] 32] w4 := U.nil_own
 refine aZ (fun m a w => ∃ (k : Nat) (v : Value), m = l.length - k ∧ (k ≤ l.length) ∧ Fr 33 [(1, pq w0.hz), (2, pq w1.hz), (3, pq w2.hz), (4, jv (k : Int))] [] a ∧ St No w0 [own v 9 1 ((entC (l.take k)).map fun s => [sv s]), blk w2.hz [jv c, v] 75, blk w1.hz [jv 0, .slice none 0 0] 75, blk w0.hz [jv c, lv] 32] w) _ ⟨0, .slice none 0 0, O, yQ _, Y.pick [1, 2, 3, 4], U.select [0, 1, 2, 3] de⟩ ?_
 rintro _ a w5 ⟨k, v, rfl, hk, Y, U⟩
 refine ah fun _ G5 => aa fun _ G6 => nv Y <| yp O <| yo (ac (v := po w0.hz 1) O kr) <| yo (ld U 3 O O (isAgg30 _) O) <| yo ((aO (sT := 30) (U.arg hlv) O O (runUnderlying30 _)).asi (m' := (l.length : Int)) AO) <| yo (v_lt O O) <| fun a Y => G6 <| aA Y O (fun hc1 => ?_) (fun hc1 => ?_)
 ·have hkx : k < l.length := by omega
  refine ar <| G5 <| ah fun _ G7 => au <| aa fun _ G8 => nv Y <| yo (ac (v := po w0.hz 1) O kr) <| yo (ld U 3 O O (isAgg30 _) O) <| yp O <| yo ((aj (i := (k : Int)) (sT := 30) (U.arg hlv) O O (runUnderlying30 _) (sizeOf55 _) om Aw).as (v' := slAddr lv (k * 3)) O) <| yo ((bP (U.arg hlv) (i := k) Aw O (isAgg55 _) (sizeOf55 _)).as (v' := .agg #[jv ((l.getD k Cas.z).n), jv ((l.getD k Cas.z).t), sv ((l.getD k Cas.z).ev)]) Bu) <| fun a Y => aw Y U call76 O (uH (l.getD k Cas.z) _) fun a w6 Y U => nv Y <| yp O <| yo (ao O O) <| yo (ao O O) <| yq O <| yq O <| fun a Y => G8 ?_
  refine al <| nv (Y.p5 1 2 3 4 5 O) <| yo (ac (v := po w2.hz 1) O kr) <| yo (ld U 1 O O (isAgg44 _) O) <| yp O <| fun a Y => aE (E := 9) (sz := 1) O [[sv (encP (l.getD k Cas.z))]] kr sm O de de Y U fun a w7 Y U => ba (i := 1) (sT := 44) (inf := Tryz.t9) (z := .string (⟨#[]⟩)) (b := 0) (off := 0) (m := 0) (c := 0) O O O (U.ow 0 O) sm underlying44 O O O O de Az A3 A3 de Y U fun a w8 s2 Y U _ => ?_
  rw [show ((entC (l.take k)).map fun s => [sv s]) ++ ([[sv (encP (l.getD k Cas.z))]]) = ((entC (l.take (k + 1))).map fun s => [sv s]) from by rw [mB hkx, zu]; rfl] at U
  refine wlv Y (ac (v := po w2.hz 1) O kr) fun a Y => ce 2 Y U (U.ow 1 O) O O O (sizeOf44 _) (lb O) (ds := [jv c, s2]) O O fun a w9 Y U => ab <| G7 ?_
  replace U := U.k4 30 O
  refine al <| nv (Y.p4 1 2 3 4 O) <| yp O <| yo (aM O O ⟨om, om⟩) <| yq O <| fun a Y => ab ?_
  refine ⟨_, ?_, k + 1, s2, O, om, Y.pick [1, 2, 3, 4], U.select [0, 1, 2, 3] de⟩
  omega
 obtain rfl : k = l.length := by omega
 rw [List.take_length] at U
 refine aP <| G3 <| aa fun _ G9 => wlv Y (ap (U.g 1 O) O (isAgg75 _) (sizeOf75 _)) fun a Y => bp (us := [jv c, v]) 2 Y U O O O (sizeOf75 _) AV (lb O) (ds := [jv c, v]) O O fun a w10 Y U => G9 ?_
 replace Y := Y.p1 2 O
 replace U := U.k2 5 O
 refine aq <| am Y results27 (ai O (aY (U.g 1 O) (isAgg75 _) (sizeOf75 _)) ag) ?_
 exact ⟨v, O, trivial, U.ext, St.out (E := [own v 9 1 ((entC (l)).map fun s => [sv s])]) (H := []) (U.select [0] de)⟩
end Go.Proofs.YtliklcmddmpdfaaGreatDoor
