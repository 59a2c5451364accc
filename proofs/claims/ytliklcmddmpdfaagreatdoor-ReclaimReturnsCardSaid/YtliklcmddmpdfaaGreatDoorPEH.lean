/- Texts joined: RclD, RclE, RclF, RclG, RclH. -/
import Derived.Test.YtliklcmddmpdfaaGreatDoorPEG
import Derived.Test.YtliklcmddmpdfaaGreatDoorPEF
import Derived.Test.YtliklcmddmpdfaaGreatDoorPEC
import Derived.Test.YtliklcmddmpdfaaGreatDoorPED
import Derived.Test.YtliklcmddmpdfaaGreatDoorPEA
set_option linter.unusedVariables false
set_option linter.unusedSimpArgs false
set_option maxRecDepth 4000
set_option maxHeartbeats 4000000
namespace Go.Proofs.YtliklcmddmpdfaaGreatDoor
open Go.RowKit Go.PW _root_.Go.Proofs.Tryz
theorem pV {s : By} {x : Wsh} {ps : List Pxy} {w0 : World} (hsl : s.length ≤ 1000000) (h : cq s = some (x, ps)) : Ret Tryz.prog 39 #[sv s] w0 (MemR w0 (fun lv : Value => .tuple #[.agg x.cells.toArray, lv, jv 0]) (fun lv => [own lv 144 7 (ps.map Pxy.cells)]) (fun _ => True)) := by
 refine (jU s w0 hsl).mono fun v w hR => ?_
 rcases hR with ⟨x2, ps2, h2, hm⟩ | ⟨h2, _⟩
 ·rw [h] at h2
  simp only [Option.some.injEq, Prod.mk.injEq] at h2
  obtain ⟨rfl, rfl⟩ := h2
  exact hm
 ·rw [h] at h2; cases h2
theorem sI {s : By} {w0 : World} (hsl : s.length ≤ 1000000) (h : cq s = none) : Ret Tryz.prog 39 #[sv s] w0 fun v w => v = .tuple #[.agg [jv 0, jv 0, jv 0, jv 0, jv 0, jv 0, jv 0, jv 0, sv ([] : By)].toArray, .slice none 0 0, jv 150] ∧ Ext No w0 w := by
 refine (jU s w0 hsl).mono fun v w hR => ?_
 rcases hR with ⟨x2, ps2, h2, hm⟩ | ⟨_, h2⟩
 ·rw [h] at h2; cases h2
 ·exact h2
section
variable {ks : List By} {q : Chg} {x : Cas} {u : Wsh} {up : List Pxy}
theorem vF (h : ¬ x.n = q.n) : keepC ks q x = false := by unfold keepC; rw [xW h]; rfl
theorem wP (h : ¬ x.t = q.t) : keepC ks q x = false := by unfold keepC; rw [xW h, yR]; rfl
theorem jG (h : eu ks q x = false) : keepC ks q x = false := by unfold keepC; rw [h, yR]
theorem r8 (h : cq x.ev = none) : eu ks q x = false := by unfold eu; rw [h]
theorem gp (h : cq x.ev = some (u, up)) : eu ks q x = (decide (u.holder = q.h) && decide (u.carrier = q.c) && validH ks u up q.n q.t) := by unfold eu; rw [h]
theorem sc (h1 : x.n = q.n) (h2 : x.t = q.t) (h : cq x.ev = some (u, up)) (h3 : u.holder = q.h) (h4 : u.carrier = q.c) (h5 : validH ks u up q.n q.t = true) : keepC ks q x = true := by
 unfold keepC; rw [gp h, xS h1, xS h2, xS h3, xS h4, h5]; rfl
theorem wx {l : List Itm} {p : Int × Cas} (h : p ∈ casesF l) : p.2.ok = true := by
 obtain ⟨x, _, _, hd⟩ := dU.1 h
 exact (oU hd).1
theorem tS {l : List Itm} (h : ∀ z ∈ casesF l, keepC ks q z.2 = false) : keepsF ks q l = false := by
 rw [fM, y7]
 intro z hz; rw [h z hz]; simp
theorem rM {l : List Itm} {p : Int × Cas} (hp : p ∈ casesF l) (h : keepC ks q p.2 = true) : keepsF ks q l = true := by
 rw [fM, yI]
 exact ⟨p, hp, h⟩
end
def NB (z : Int × Cas) (l : List (Int × Cas)) : Prop := ∀ y ∈ l, ¬ (z.1 < y.1 ∧ y.2.n ≤ z.2.n)
theorem jH {a b : List (Int × Cas)} (h : ∀ z ∈ a, NB z b) : bentF a b = false := by
 unfold bentF
 rw [y7]
 intro z hz
 rw [zH, y7]
 intro y hy
 have := h z hz y hy
 rw [xP, xT, xT]; exact this
theorem hT {a b : List (Int × Cas)} {z y : Int × Cas} (hz : z ∈ a) (hy : y ∈ b) (h1 : z.1 < y.1) (h2 : y.2.n ≤ z.2.n) : bentF a b = true := by
 unfold bentF
 exact yI.2 ⟨z, hz, yI.2 ⟨y, hy, by rw [xS h1, xS h2]; rfl⟩⟩
theorem ux {a b : List Itm} (h1 : a.any noCase = false) (h2 : b.any noCase = false) (h3 : ∀ z ∈ casesF a, NB z (casesF a) ∧ NB z (casesF b)) (h4 : ∀ z ∈ casesF b, NB z (casesF a) ∧ NB z (casesF b)) : crookF a b = false := by
 unfold crookF
 rw [h1, h2, jH (fun z hz => (h3 z hz).1), jH (fun z hz => (h3 z hz).2), jH (fun z hz => (h4 z hz).1), jH (fun z hz => (h4 z hz).2)]; rfl
theorem oq {a b : List Itm} (h : a.any noCase = true) : crookF a b = true := by unfold crookF; rw [h]; simp
theorem oI {a b : List Itm} (h : b.any noCase = true) : crookF a b = true := by unfold crookF; rw [h]; simp
theorem nD {a b : List Itm} (h : bentF (casesF a) (casesF a) = true) : crookF a b = true := by unfold crookF; rw [h]; simp
theorem uq {a b : List Itm} (h : bentF (casesF a) (casesF b) = true) : crookF a b = true := by unfold crookF; rw [h]; simp
theorem tr {a b : List Itm} (h : bentF (casesF b) (casesF a) = true) : crookF a b = true := by unfold crookF; rw [h]; simp
theorem tU {a b : List Itm} (h : bentF (casesF b) (casesF b) = true) : crookF a b = true := by unfold crookF; rw [h]; simp
theorem eqHd (a0 : Int) (a1 : Int) (a2 : By) (a3 : By) (c0 : Int) (c1 : Int) (c2 : By) (c3 : By) (w : World) : (Op.equal 47 (.agg #[jv a0, jv a1, sv a2, sv a3]) (.agg #[jv c0, jv c1, sv c2, sv c3])).run Tryz.prog w = .ok (decide (Hd.mk a0 a1 a2 a3 = Hd.mk c0 c1 c2 c3)) w := by
 have e : decide (Hd.mk a0 a1 a2 a3 = Hd.mk c0 c1 c2 c3) = (decide (a0 = c0) && (decide (a1 = c1) && (decide (a2 = c2) && (decide (a3 = c3) && true)))) := by
  rw [Bool.eq_iff_iff]; simp [and_assoc]
 rw [e]
 unfold Op.equal Op.maxDepth
 obtain ⟨dd, hd⟩ : ∃ dd, 10000 = dd + 1 + 1 + 1 := ⟨9997, rfl⟩
 rw [hd, run_equalIn_struct w (dd + 1 + 1) 47 _ _ kr kr]
 simp only [Program.fieldsOf, underlying47]
 refine cB (a := jv a0) (b := jv c0) (r := decide (a0 = c0)) de Ac Ac (eqI _ _ _) ?_
 refine cB (a := jv a1) (b := jv c1) (r := decide (a1 = c1)) de Ac Ac (eqI _ _ _) ?_
 refine cB (a := sv a2) (b := sv c2) (r := decide (a2 = c2)) de AH AH (eqS _ _ _) ?_
 refine cB (a := sv a3) (b := sv c3) (r := decide (a3 = c3)) de AH AH (eqS _ _ _) ?_
 exact hP
theorem eqCas (a0 : Int) (a1 : Int) (a2 : By) (c0 : Int) (c1 : Int) (c2 : By) (w : World) : (Op.equal 55 (.agg #[jv a0, jv a1, sv a2]) (.agg #[jv c0, jv c1, sv c2])).run Tryz.prog w = .ok (decide (Cas.mk a0 a1 a2 = Cas.mk c0 c1 c2)) w := by
 have e : decide (Cas.mk a0 a1 a2 = Cas.mk c0 c1 c2) = (decide (a0 = c0) && (decide (a1 = c1) && (decide (a2 = c2) && true))) := by
  rw [Bool.eq_iff_iff]; simp [and_assoc]
 rw [e]
 unfold Op.equal Op.maxDepth
 obtain ⟨dd, hd⟩ : ∃ dd, 10000 = dd + 1 + 1 + 1 := ⟨9997, rfl⟩
 rw [hd, run_equalIn_struct w (dd + 1 + 1) 55 _ _ kr kr]
 simp only [Program.fieldsOf, underlying55]
 refine cB (a := jv a0) (b := jv c0) (r := decide (a0 = c0)) de Ac Ac (eqI _ _ _) ?_
 refine cB (a := jv a1) (b := jv c1) (r := decide (a1 = c1)) de Ac Ac (eqI _ _ _) ?_
 refine cB (a := sv a2) (b := sv c2) (r := decide (a2 = c2)) de AH AH (eqS _ _ _) ?_
 exact hP
theorem uI (kv : Value) (ks : List By) (q : Chg) (hd : Hd) (iv : Value) (L : List Itw) (w0 : World) (hkv : SlAt w0 kv 1 (ks.map fun s => [sv s])) (hiv : ItsAt w0 iv L) (hok : OkP hd.n L) (hk0 : (blk 0 (kOf.map wv) 258).ok w0) :
  Ret Tryz.prog 56 #[kv, .agg #[jv q.n, jv q.h, jv q.c, jv q.t, jv q.a], .agg #[jv hd.c, jv hd.n, sv hd.root, sv hd.tag, iv]] w0 fun v w => v = .bool (keepsF ks q (itsM L)) ∧ Ext No w0 w := by
 refine zO func56 O ntmps56 (lb O) fun a Z Y => ?_
 refine aa fun _ G1 => aS Z Y O [kv] (by rw [(Y.arg hkv).cells]) fun a w1 Z Y => aS Z Y O [jv q.n, jv q.h, jv q.c, jv q.t, jv q.a] O fun a w2 Z Y => aS Z Y O [jv hd.c, jv hd.n, sv hd.root, sv hd.tag, iv] O fun a w3 Z Y => aD Z Y (zeroValue4 _) [.bool false] O fun a w4 Z Y => G1 <| ah fun _ G2 => ?_
 refine aa fun _ G3 => wlv Z (ao (Y.g 1 O) O (isAgg50 _) (sizeOf50 _)) fun a Z => bD Z Y call74 O (dS hd iv L _ (cA Y hiv)) fun a w5 x2 hp Z Y => ?_
 revert x2 hp Z Y; rintro z1 hp Z Y
 clear hp
 replace Y := Y.n5 O
 refine G3 <| ar ?_
 replace Y := Y.s4 [4, 3, 1, 0] de rfl
 replace Z := Z.p9 0 1 2 3 4 5 6 12 13 O
 refine dG (M := No) (w0 := w0) (encs := encK) (Hi := [blk z1 [jv hd.c, jv hd.n, sv hd.root, sv hd.tag, iv] 50]) (Hc := [blk w0.hz [kv] 44, blk w1.hz [jv q.n, jv q.h, jv q.c, jv q.t, jv q.a] 36, blk w3.hz [.bool false] 4]) (fun pre H => (∀ z ∈ pre, keepC ks q z.2 = false) ∧ H = [blk w0.hz [kv] 44, blk w1.hz [jv q.n, jv q.h, jv q.c, jv q.t, jv q.a] 36, blk w3.hz [.bool false] 4]) (fun c pre H => c = .ret ∧ (keepsF ks q (itsM L) = true) ∧ H = [blk w0.hz [kv] 44, blk w1.hz [jv q.n, jv q.h, jv q.c, jv q.t, jv q.a] 36, blk w3.hz [.bool true] 4]) (fun pre xs H a => ∃ (bA0 : Nat), Fr 61 [(0, kv), (1, .agg #[jv q.n, jv q.h, jv q.c, jv q.t, jv q.a]), (2, .agg #[jv hd.c, jv hd.n, sv hd.root, sv hd.tag, iv]), (3, pq w0.hz), (4, pq w1.hz), (5, pq w2.hz), (6, pq w3.hz), (12, .agg #[jv hd.c, jv hd.n, sv hd.root, sv hd.tag, iv]), (13, .func (.func 125) #[] #[pq z1]), (8, pq bA0)] [] a ∧ (∀ z ∈ pre, keepC ks q z.2 = false) ∧ H = [blk bA0 [jv xs.2.n, jv xs.2.t, sv xs.2.ev] 55, blk w0.hz [kv] 44, blk w1.hz [jv q.n, jv q.h, jv q.c, jv q.t, jv q.a] 36, blk w3.hz [.bool false] 4]) O call125 Z Y (dw hd iv L z1 (fun x hx => (hok.2.2 x hx).2.2) (fun H w h => cA h hiv)) de (fun _ => O) ⟨sm, O⟩ ?_ ?_ ?_ ?_
 ·clear Z Y
  rintro lp pre xs _ a w6 hnx ⟨hno, rfl⟩ Z Y
  generalize (join [blk w0.hz [kv] 44, blk w1.hz [jv q.n, jv q.h, jv q.c, jv q.t, jv q.a] 36, blk w3.hz [.bool false] 4]).foot = M1 at Y ⊢
  refine ai <| aD (Z.p11 15 14 0 1 2 3 4 5 6 12 13 O) Y (zeroValue55 _) [jv 0, jv 0, .string (⟨#[]⟩)] O fun a w7 Z Y => az 0 Z Y [jv xs.2.n, jv xs.2.t, sv xs.2.ev] O (sizeOf55 _) fun a w8 Z Y => ab ?_
  exact ⟨_, ⟨w6.hz, Z.pick [0, 1, 2, 3, 4, 5, 6, 12, 13, 8], hno, O⟩, Y⟩
 ·rintro lp pre xs _ a w9 hnx ⟨bA0, Z, hno, rfl⟩ hout hrec hnl Y
  clear hrec hnl
  generalize (join [blk bA0 [jv xs.2.n, jv xs.2.t, sv xs.2.ev] 55, blk w0.hz [kv] 44, blk w1.hz [jv q.n, jv q.h, jv q.c, jv q.t, jv q.a] 36, blk w3.hz [.bool false] 4]).foot = M1 at Y hout ⊢
  refine ar <| ah fun _ G4 => ?_
  have hco := wx (eO hnx)
  have hbd := Cas.bnd hco
  refine aa fun _ G5 => nv Z <| xJ (ac (v := pq bA0) O kr) <| xJ (ld Y 0 O O (isAgg3 _) O) <| xJ (ac (v := pq w1.hz) O kr) <| xJ (ld Y 2 O O (isAgg3 _) O) <| xJ (v_ne O O) <| xK O <| fun a Z => ?_
  rcases (Decidable.em (xs.2.n = q.n)).symm with hb3 | hb3
  ·rw [xW hb3] at Z
   have hcf : keepC ks q xs.2 = false := vF om
   refine nv Z <| xN <| xN <| xN <| xN <| xN <| xJ (ax O O) <| fun a Z => G5 ?_
   replace Z := Z.p5 3 4 6 8 27 O
   refine aK Z O ?_
   refine aO ?_
   exact ⟨_, ⟨bY hno hcf, O⟩, Y.select [1, 2, 3] de⟩
  rw [xS hb3] at Z
  refine nv Z <| xM (ac (v := pw2 bA0 1) O kr) <| xM (ld Y 0 O O (isAgg3 _) O) <| xM (ac (v := pw2 w1.hz 3) O kr) <| xM (ld Y 2 O O (isAgg3 _) O) <| xM (v_ne O O) <| xJ (ak O O) <| fun a Z => G5 ?_
  replace Z := Z.p5 3 4 6 8 27 O
  refine dk Z O (fun hc4 => ?_) (fun hc4 => ?_)
  ·have hcf : keepC ks q xs.2 = false := wP om
   refine aO ?_
   exact ⟨_, ⟨bY hno hcf, O⟩, Y.select [1, 2, 3] de⟩
  refine au <| G4 <| aa fun _ G6 => nv Z <| xJ (ac (v := pw2 bA0 2) O kr) <| xJ (ld Y 0 O O (isAgg9 _) O) <| fun a Z => ?_
  rcases xU ((cq xs.2.ev).isSome) with hb5 | hb5
  ·obtain ⟨⟨u, up⟩, hdz⟩ := yZ.1 hb5
   refine bD Z Y call39 O (pV om hdz) fun a w10 x7 hp Z Y => ?_
   revert x7 hp Z Y; rintro dv6 hp Z Y
   clear hp
   replace Y := Y.n5 O
   refine nv Z <| xK O <| xJ (aq O O) <| xJ (aq O O) <| xJ (aq O O) <| fun a Z => aD Z Y (zeroValue90 _) [jv 0, jv 0, jv 0, jv 0, jv 0, jv 0, jv 0, jv 0, .string (⟨#[]⟩)] O fun a w11 Z Y => az 0 Z Y [jv u.signer, jv u.holder, jv u.rf, jv u.rt, jv u.carrier, jv u.serial, jv u.sf, jv u.st, sv u.sig] O (sizeOf90 _) fun a w12 Z Y => nv Z <| xL O <| xL O <| fun a Z => G6 ?_
   replace Y := Y.k5 59 O
   refine aa fun _ G7 => nv (Z.p6 3 4 6 9 10 11 O) <| xK O <| xJ ((v_eq O O).asb (b' := true) O) <| xK O <| xM (ac (v := pw2 w10.hz 1) O kr) <| xM (ld Y 0 O O (isAgg3 _) O) <| xM (ac (v := pw2 w1.hz 1) O kr) <| xM (ld Y 3 O O (isAgg3 _) O) <| xM (v_eq O O) <| xJ (ax O O) <| xK O <| fun a Z => ?_
   rcases Decidable.em (u.holder = q.h) with hb8 | hb8
   ·rw [xS hb8] at Z
    refine nv Z <| xM (ac (v := pw2 w10.hz 4) O kr) <| xM (ld Y 0 O O (isAgg3 _) O) <| xM (ac (v := pw2 w1.hz 2) O kr) <| xM (ld Y 3 O O (isAgg3 _) O) <| xM (v_eq O O) <| xJ (ax O O) <| xK O <| fun a Z => ?_
    rcases Decidable.em (u.carrier = q.c) with hb9 | hb9
    ·rw [xS hb9] at Z
     refine nv Z <| xM (ld Y 2 O O (isAgg44 _) O) <| xM (ao (Y.g 0 O) O (isAgg90 _) (sizeOf90 _)) <| xM (ay O) <| xM (ac (v := pq w1.hz) O kr) <| xM (ld Y 3 O O (isAgg3 _) O) <| xM (ac (v := pw2 w1.hz 3) O kr) <| xM (ld Y 3 O O (isAgg3 _) O) <| fun a Z => aF Z Y call40 O (tz kv dv6 ks u up q.n q.t _ (hkv.grow (hout _ Y.ext)) (Y.ow 1 O) (cY hk0 (hout _ Y.ext))) fun a w13 Z Y => wlv Z (ax O O) fun a Z => G7 ?_
     replace Z := Z.p2 6 60 O
     replace Y := Y.k3 28 O
     refine bt Z O (fun hc10 => ?_) (fun hc10 => ?_)
     ·have hvl := hc10
      refine aa fun _ G8 => az 2 Z Y [.bool true] O (sizeOf4 _) fun a w14 Z Y => G8 <| ap ?_
      exact ⟨_, ⟨O, rM (eO hnx) (sc om om hdz om om hvl), O⟩, Y.select [0, 1, 2] de⟩
     have hcf : keepC ks q xs.2 = false := jG (by rw [gp hdz, hc10, yR])
     refine au ?_
     exact ⟨_, ⟨bY hno hcf, O⟩, Y.select [0, 1, 2] de⟩
    rw [xW hb9] at Z
    have hcf : keepC ks q xs.2 = false := jG (by rw [gp hdz, xW (by omega : ¬ u.carrier = q.c), yR]; rfl)
    refine nv Z <| xN <| xN <| xN <| xN <| xN <| xN <| xN <| xN <| xJ (ak O O) <| fun a Z => G7 ?_
    replace Z := Z.p2 6 60 O
    replace Y := Y.k3 28 O
    refine aG Z O ?_
    refine au ?_
    exact ⟨_, ⟨bY hno hcf, O⟩, Y.select [0, 1, 2] de⟩
   rw [xW hb8] at Z
   have hcf : keepC ks q xs.2 = false := jG (by rw [gp hdz, xW om]; rfl)
   refine nv Z <| xN <| xN <| xN <| xN <| xN <| xJ (ak O O) <| xK O <| xN <| xN <| xN <| xN <| xN <| xN <| xN <| xN <| xJ (ak O O) <| fun a Z => G7 ?_
   replace Z := Z.p2 6 60 O
   replace Y := Y.k3 28 O
   refine aG Z O ?_
   refine au ?_
   exact ⟨_, ⟨bY hno hcf, O⟩, Y.select [0, 1, 2] de⟩
  have hdz : cq xs.2.ev = none := by
   cases h : cq xs.2.ev with
   | none => rfl
   | some z => rw [h] at hb5; cases hb5
  have hcf : keepC ks q xs.2 = false := jG (r8 hdz)
  refine aw Z Y call39 O (sI om hdz) fun a w15 Z Y => nv Z <| xK O <| xJ (aq O O) <| xJ (aq O O) <| xJ (aq O O) <| fun a Z => aD Z Y (zeroValue90 _) [jv 0, jv 0, jv 0, jv 0, jv 0, jv 0, jv 0, jv 0, .string (⟨#[]⟩)] O fun a w16 Z Y => az 0 Z Y [jv 0, jv 0, jv 0, jv 0, jv 0, jv 0, jv 0, jv 0, sv ([] : By)] O (sizeOf90 _) fun a w17 Z Y => nv Z <| xL O <| xL O <| fun a Z => G6 ?_
  replace Y := Y.k4 29 O
  refine aa fun _ G9 => nv (Z.p6 3 4 6 9 10 11 O) <| xK O <| xJ ((v_eq O O).asb (b' := false) O) <| xK O <| xN <| xN <| xN <| xN <| xN <| xJ (ak O O) <| xK O <| xN <| xN <| xN <| xN <| xN <| xJ (ak O O) <| xK O <| xN <| xN <| xN <| xN <| xN <| xN <| xN <| xN <| xJ (ak O O) <| fun a Z => G9 ?_
  replace Z := Z.p2 6 60 O
  replace Y := Y.k3 14 O
  refine aG Z O ?_
  refine au ?_
  exact ⟨_, ⟨bY hno hcf, O⟩, Y.select [0, 1, 2] de⟩
 ·rintro D pre _ _ a w18 ⟨rfl, rfl⟩ ⟨hno, rfl⟩ Y Z
  replace Z := Z.p9 0 1 2 3 4 5 6 12 13 O
  replace Y := Y.n5 O
  refine G2 <| aa fun _ G10 => az 3 Z Y [.bool false] O (sizeOf4 _) fun a w19 Z Y => G10 ?_
  replace Z := Z.p1 6 O
  replace Y := Y.k4 15 O
  refine ap ?_
  have hD := Y.g 0 rfl
  replace Y := Y.unmark (i := 0) (o' := .deferred none) O
  replace Y := Y.n3 O
  refine ct Z hD results56 (al O (aH (Y.g 2 O) (isAgg4 _)) ae) ?_
  exact ⟨by simp only [retv]; rw [tS hno]; try rfl, Y.ext⟩
 ·rintro D _ pre _ _ a w20 rfl ⟨rfl, hhit, rfl⟩ Y Z
  replace Z := Z.p9 0 1 2 3 4 5 6 12 13 O
  replace Y := Y.n5 O
  refine ap ?_
  have hD := Y.g 0 rfl
  replace Y := Y.unmark (i := 0) (o' := .deferred none) O
  replace Y := Y.n4 O
  refine ct Z hD results56 (al O (aH (Y.g 2 O) (isAgg4 _)) ae) ?_
  exact ⟨by simp only [retv]; rw [hhit]; try rfl, Y.ext⟩
theorem vT (x : Itw) (w0 : World) (hln : x.m.e.length ≤ 1000) :
  Ret Tryz.prog 78 #[.agg #[jv x.m.ix, sv x.m.e, x.pv]] w0 fun v w => v = .bool (noCase x.m) ∧ Ext No w0 w := by
 refine zN func78 O ntmps78 (lb O) fun a Z Y => ?_
 refine aa fun _ G1 => aS Z Y O [jv x.m.ix, sv x.m.e, x.pv] O fun a w1 Z Y => wla Z O fun a Z => G1 <| aa fun _ G2 => ?_
 refine nv Z <| xJ (ac (v := pw2 w0.hz 1) O kr) <| xJ (ld Y 0 O O (isAgg9 _) O) <| fun a Z => ?_
 rcases xU ((decCas x.m.e).isSome) with hb1 | hb1
 ·obtain ⟨cc, hcc⟩ := yZ.1 hb1
  refine aw Z Y call20 O (qY hcc om) fun a w2 Z Y => nv Z <| xK O <| xJ (aq O O) <| xJ (aq O O) <| fun a Z => aD Z Y (zeroValue55 _) [jv 0, jv 0, .string (⟨#[]⟩)] O fun a w3 Z Y => az 0 Z Y [jv cc.n, jv cc.t, sv cc.ev] O (sizeOf55 _) fun a w4 Z Y => wla Z O fun a Z => G2 ?_
  replace Y := Y.k0 0 O
  refine aa fun _ G3 => nv (Z.p2 2 4 O) <| xK O <| xJ ((v_ne O O).asb (b' := false) O) <| xL O <| fun a Z => G3 <| ap ?_
  refine am Z results78 (ag O ae) ?_
  exact ⟨by simp only [retv]; unfold noCase; rw [hcc]; rfl, Y.ext⟩
 have hcn : decCas x.m.e = none := by
  cases h : decCas x.m.e with
  | none => rfl
  | some z => rw [h] at hb1; cases hb1
 refine aw Z Y call20 O (tu hcn om) fun a w5 Z Y => nv Z <| xK O <| xJ (aq O O) <| xJ (aq O O) <| fun a Z => aD Z Y (zeroValue55 _) [jv 0, jv 0, .string (⟨#[]⟩)] O fun a w6 Z Y => az 0 Z Y [jv Cas.z.n, jv Cas.z.t, sv Cas.z.ev] O (sizeOf55 _) fun a w7 Z Y => wla Z O fun a Z => G2 ?_
 replace Y := Y.k0 0 O
 refine aa fun _ G4 => nv (Z.p2 2 4 O) <| xK O <| xJ ((v_ne O O).asb (b' := true) O) <| xL O <| fun a Z => G4 <| ap ?_
 refine am Z results78 (ag O ae) ?_
 exact ⟨by simp only [retv]; unfold noCase; rw [hcn]; rfl, Y.ext⟩
theorem rO {M : Nat → Prop} {wb : World} {H : List Ent} {sv : Value} {els : List (List Value)} {caps : List Value} {g : FuncId} (p : Nat → Bool) (ev_ : Nat → Value) (J : Nat → Ent → Prop) (e0 : Ent) (w0 : World)
  (hen : ∀ args w, (callFunc g args).run Tryz.prog w = .ok (.enter g args) w) (hs : ∀ e w, St M wb (e :: H) w → SlAt w sv 3 els)
  (hev : ∀ k (h : k < els.length), .agg (els[k]).toArray = ev_ k) (hJ0 : J 0 e0) (Y : St M wb (e0 :: H) w0)
  (hcl : ∀ k e w, k < els.length → J k e → e.ok w → (∀ b, e.foot b → b < w.hz) → Ret Tryz.prog g ([ev_ k] ++ caps).toArray w fun v w' => v = .bool (p k) ∧ ∃ e', Ext e.foot w w' ∧ e'.ok w' ∧ (∀ b, e'.foot b → b < w'.heap.size ∧ (e.foot b ∨ w.hz ≤ b)) ∧ J (k + 1) e') :
  Ret Tryz.prog 131 #[sv, .func (.func g) #[] caps.toArray] w0 fun v w => v = jv (fstIdx p els.length) ∧ ∃ k e', J k e' ∧ St M wb (e' :: H) w := by
 have hsl := (hs _ _ Y).le
 refine aC func131 O ntmps131 (lb O) fun a Z => aa fun _ G1 => wla (Z.p2 0 1 O) O fun a Z => G1 <| ah fun _ G2 => ?_
 refine aa fun _ G3 => nv Z <| xK O <| xJ (aI (sT := 48) (hs _ _ Y) O O (runUnderlying48 _)) <| xK O <| fun a Z => G3 <| ar ?_
 refine aW (fun m a w => ∃ (k : Nat) (e : Ent), m = els.length - k ∧ (k ≤ els.length) ∧ (∀ j, j < k → p j = false) ∧ (J k e) ∧ Fr 19 [(0, sv), (1, .func (.func g) #[] caps.toArray), (6, sv), (7, jv els.length), (8, jv (k : Int))] [] a ∧ St M wb (e :: H) w) _ ⟨0, e0, O, ym _, (by intro j hj; omega), hJ0, Z.pick [0, 1, 6, 7, 8], Y⟩ ?_
 rintro _ a w1 ⟨k, e, rfl, hk, hp, hJ, Z, Y⟩
 refine aa fun _ G4 => wlv Z (v_lt O O) fun a Z => G4 <| ah fun _ G5 => ?_
 refine aA Z O (fun hc1 => ?_) (fun hc1 => ?_)
 ·rw [xS hc1] at Z
  refine au <| G5 <| ah fun _ G6 => ar <| aa fun _ G7 => nv Z <| xK O <| xL O <| fun a Z => G7 <| aa fun _ G8 => ?_
  refine nv Z <| xK O <| xK O <| xK O <| xJ ((aj (i := (k : Int)) (sT := 48) (hs _ _ Y) O O (runUnderlying48 _) (sizeOf110 _) om om).as (v' := slAddr sv (k * 3)) O) <| xJ ((bP (hs _ _ Y) (i := k) om O (isAgg110 _) (sizeOf110 _)).as (v' := ev_ k) (hev k om)) <| fun a Z => wl_r (gA (cap := caps) O hen O (hcl k _ _ om hJ (Y.g 0 O) (fun b hb => Y.lt (k := 0) O hb))) O O Z fun a v w2 hR Z => ?_
  obtain ⟨rfl, e1, hx, hok, hft, hJ1⟩ := hR
  have Y := Y.exchange (k := 0) rfl hx hok hft
  have Y : St M wb (e1 :: H) w2 := Y
  refine G8 <| bt Z O (fun hc2 => ?_) (fun hc2 => ?_)
  ·rw [hc2] at Z
   refine aa fun _ G9 => nv Z <| xK O <| xL O <| fun a Z => G9 <| ap ?_
   refine am Z results131 (ag O ae) ?_
   exact ⟨by rw [eX (k := k) om hp zZ]; rfl, _, _, hJ1, Y⟩
  rw [hc2] at Z
  refine au <| G6 <| ai <| nv Z <| xJ (aP O O ⟨om, om⟩) <| xK O <| fun a Z => ab ?_
  refine ⟨_, ?_, k + 1, e1, O, om, AW, hJ1, Z.pick [0, 1, 6, 7, 8], Y⟩
  omega
 rw [xW hc1] at Z
 refine aO <| G2 <| aa fun _ G10 => wla Z O fun a Z => G10 <| ap ?_
 refine am Z results131 (ag O ae) ?_
 have hkl : k = els.length := by omega
 subst hkl
 exact ⟨by rw [eR hp]; rfl, _, _, hJ, Y⟩
theorem nj {M : Nat → Prop} {wb : World} {H : List Ent} {sv : Value} {els : List (List Value)} {caps : List Value} {g : FuncId} (p : Nat → Bool) (ev_ : Nat → Value) (J : Nat → Ent → Prop) (e0 : Ent) (w0 : World)
  (hen : ∀ args w, (callFunc g args).run Tryz.prog w = .ok (.enter g args) w) (hs : ∀ e w, St M wb (e :: H) w → SlAt w sv 3 els)
  (hev : ∀ k (h : k < els.length), .agg (els[k]).toArray = ev_ k) (hJ0 : J 0 e0) (Y : St M wb (e0 :: H) w0)
  (hcl : ∀ k e w, k < els.length → J k e → e.ok w → (∀ b, e.foot b → b < w.hz) → Ret Tryz.prog g ([ev_ k] ++ caps).toArray w fun v w' => v = .bool (p k) ∧ ∃ e', Ext e.foot w w' ∧ e'.ok w' ∧ (∀ b, e'.foot b → b < w'.heap.size ∧ (e.foot b ∨ w.hz ≤ b)) ∧ J (k + 1) e') :
  Ret Tryz.prog 79 #[sv, .func (.func g) #[] caps.toArray] w0 fun v w => v = .bool ((List.range els.length).any p) ∧ ∃ k e', J k e' ∧ St M wb (e' :: H) w := by
 refine aC func79 O ntmps79 (lb O) fun a Z => aa fun _ G1 => wla (Z.p2 0 1 O) O fun a Z => G1 <| aa fun _ G2 => ?_
 refine nv Z <| xK O <| xK O <| fun a Z => wl_r (eL call131 O (rO p ev_ J e0 _ hen hs hev hJ0 Y hcl)) O O Z fun a v w1 hR Z => ?_
 obtain ⟨rfl, kk, e1, hJ1, Y⟩ := hR
 refine nv Z <| xJ (v_ge O O) <| xL O <| fun a Z => G2 <| ap ?_
 refine am Z results79 (ag O ae) ?_
 exact ⟨by rw [gY]; rfl, _, _, hJ1, Y⟩
theorem qC {iv : Value} {L : List Itw} (w0 : World) (hiv : ItsAt w0 iv L) (hel : ∀ x ∈ L, x.m.e.length ≤ 1000) : Ret Tryz.prog 79 #[iv, .func (.func 78) #[] #[]] w0 fun v w => v = .bool ((itsM L).any noCase) ∧ Ext No w0 w := by
 have Y : St No w0 [join []] w0 := St.join [] [] (St.init w0)
 have h := nj (M := No) (wb := w0) (H := []) (sv := iv) (els := L.map Itw.cells) (caps := []) (g := 78) (fun k => noCase (L.getD k Itw.z).m) (fun k => .agg (L.getD k Itw.z).cells.toArray) (fun _ e => e = join []) (join []) w0 call78
  (fun e w h => h.arg hiv.1) (fun k h => by rw [bn Itw.z]) rfl Y (fun k e w hk he hok hlt => by
   subst he
   have hm := bc (d := Itw.z) (l := L) (i := k) Br
   refine (vT (L.getD k Itw.z) w (hel _ hm)).mono fun v w' ⟨h1, h2⟩ => ⟨h1, join [], h2.mono (fun k _ hk => hk.elim), ?_, ?_, O⟩
   ·exact ⟨fun e he => (by cases he), List.Pairwise.nil⟩
   ·rintro b ⟨e, he, _⟩
    cases he)
 refine h.mono fun v w ⟨h1, k, e, he, Y⟩ => ⟨?_, Y.ext⟩
 rw [h1, xO]
 congr 1
 rw [Bool.eq_iff_iff, yI, yI]
 constructor
 ·rintro ⟨k, hk, hp⟩
  exact ⟨_, yD.2 ⟨_, bc (yb.1 hk), O⟩, hp⟩
 ·rintro ⟨x, hx, hp⟩
  obtain ⟨y, hy, rfl⟩ := yD.1 hx
  obtain ⟨k, hk, rfl⟩ := yN hy
  exact ⟨k, yb.2 hk, by rw [xR, xY hk]; exact hp⟩
theorem ke (key : By) (hd : Hd) (iv1 iv2 : Value) (L1 L2 : List Itw) (w0 : World) (hiv1 : ItsAt w0 iv1 L1) (hiv2 : ItsAt w0 iv2 L2) (hpf1 : ∀ x ∈ L1, x.m.pf.length ≤ 1000) (hpf2 : ∀ x ∈ L2, x.m.pf.length ≤ 1000) (hc1 : checkP sha key hd (itsM L1) = true) (hc2 : checkP sha key hd (itsM L2) = true) (hk0 : (blk 0 (kOf.map wv) 258).ok w0) :
  Ret Tryz.prog 30 #[sv key, .agg #[jv hd.c, jv hd.n, sv hd.root, sv hd.tag, iv1], .agg #[jv hd.c, jv hd.n, sv hd.root, sv hd.tag, iv2]] w0 fun v w => v = .bool (crookF (itsM L1) (itsM L2)) ∧ Ext No w0 w := by
 have hok1 := iZ hc1
 have hok2 := iZ hc2
 refine zO func30 O ntmps30 (lb O) fun a Z Y => ?_
 refine aa fun _ G1 => aS Z Y O [jv hd.c, jv hd.n, sv hd.root, sv hd.tag, iv1] O fun a w1 Z Y => aS Z Y O [jv hd.c, jv hd.n, sv hd.root, sv hd.tag, iv2] O fun a w2 Z Y => aD Z Y (zeroValue4 _) [.bool false] O fun a w3 Z Y => G1 <| ah fun _ G2 => ?_
 refine aa fun _ G3 => nv Z <| xK O <| xJ (ao (Y.g 2 O) O (isAgg50 _) (sizeOf50 _)) <| fun a Z => aw Z Y call52 O (cw hc1 (eQ key hd iv1 L1 _ (cA Y hiv1) hpf1 (Y.keepb hk0))) fun a w4 Z Y => nv Z <| xJ ((bE O).asb (b' := false) O) <| xK O <| xM (ay O) <| xM (ao (Y.g 1 O) O (isAgg50 _) (sizeOf50 _)) <| fun a Z => aF Z Y call52 O (cw hc2 (eQ key hd iv2 L2 _ (cA Y hiv2) hpf2 (Y.keepb hk0))) fun a w5 Z Y => ?_
 refine nv Z <| xM ((bE O).asb (b' := false) O) <| xJ (ak O O) <| xK O <| xM (ac (v := pq w0.hz) O kr) <| xM (bQ (ds := [jv hd.c, jv hd.n, sv hd.root, sv hd.tag]) (Y.g 2 O) O (isAgg47 _) (sizeOf47 _) O) <| xM (ac (v := pq w1.hz) O kr) <| xM (bQ (ds := [jv hd.c, jv hd.n, sv hd.root, sv hd.tag]) (Y.g 1 O) O (isAgg47 _) (sizeOf47 _) O) <| xM ((oM O O kr (eqHd hd.c hd.n hd.root hd.tag hd.c hd.n hd.root hd.tag _)).asb (b' := false) sm) <| xJ (ak O O) <| fun a Z => G3 ?_
 replace Z := Z.p4 4 5 6 32 O
 refine aG Z O ?_
 refine au <| G2 <| aa fun _ G4 => wla Z O fun a Z => G4 <| ah fun _ G5 => ?_
 refine aa fun _ G6 => nv Z <| xJ (ac (v := pw2 w0.hz 4) O kr) <| xJ (ld Y 2 O O (isAgg48 _) O) <| xK O <| fun a Z => aw Z Y call79 O (qC _ (cA Y hiv1) (fun x hx => (hok1.2.2 x hx).2.2)) fun a w6 Z Y => wlm Z O fun a Z => ?_
 rcases xU ((itsM L1).any noCase) with hb1 | hb1
 ·rw [hb1] at Z
  have hna := hb1
  refine nv Z <| xN <| xN <| xN <| xN <| xJ (ax O O) <| fun a Z => G6 ?_
  replace Z := Z.p4 4 5 6 42 O
  refine aK Z O ?_
  refine aa fun _ G7 => az 0 Z Y [.bool true] O (sizeOf4 _) fun a w7 Z Y => G7 <| ap ?_
  refine am Z results30 (al O (aH (Y.g 0 O) (isAgg4 _)) ae) ?_
  exact ⟨by simp only [retv]; rw [oq hna]; try rfl, Y.ext⟩
 rw [hb1] at Z
 have hna := hb1
 refine nv Z <| xM (ac (v := pw2 w1.hz 4) O kr) <| xM (ld Y 1 O O (isAgg48 _) O) <| xM (ay O) <| fun a Z => aF Z Y call79 O (qC _ (cA Y hiv2) (fun x hx => (hok2.2.2 x hx).2.2)) fun a w8 Z Y => wlv Z (ak O O) fun a Z => G6 ?_
 replace Z := Z.p4 4 5 6 42 O
 refine bt Z O (fun hc2 => ?_) (fun hc2 => ?_)
 ·have hnb := hc2
  refine aa fun _ G8 => az 0 Z Y [.bool true] O (sizeOf4 _) fun a w9 Z Y => G8 <| ap ?_
  refine am Z results30 (al O (aH (Y.g 0 O) (isAgg4 _)) ae) ?_
  exact ⟨by simp only [retv]; rw [oI hnb]; try rfl, Y.ext⟩
 have hnb := hc2
 refine au <| G5 <| ah fun _ G9 => aa fun _ G10 => nv Z <| xJ (ao (Y.g 2 O) O (isAgg50 _) (sizeOf50 _)) <| xJ (ao (Y.g 1 O) O (isAgg50 _) (sizeOf50 _)) <| xJ (aX (v := .agg #[jv hd.c, jv hd.n, sv hd.root, sv hd.tag, iv1, jv hd.c, jv hd.n, sv hd.root, sv hd.tag, iv2]) O (by obtain ⟨_, _, _, eb0_⟩ := cX (Y.arg hiv1.1); obtain ⟨_, _, _, eb1_⟩ := cX (Y.arg hiv2.1); rw [eb0_, eb1_]; kernel_rfl)) <| xK O <| fun a Z => G10 <| ar ?_
 refine eF 4 ?_
 refine bM <| aa fun _ G11 => wlv Z ((v_lt O O).asb (b' := true) O) fun a Z => G11 <| ah fun _ G12 => ?_
 refine aK Z O ?_
 refine au <| G12 <| ah fun _ G13 => ar <| aa fun _ G14 => wlv Z (ch (v := .agg #[jv hd.c, jv hd.n, sv hd.root, sv hd.tag, iv1]) O O kr) fun a Z => aD Z Y (zeroValue50 _) [jv 0, jv 0, .string (⟨#[]⟩), .string (⟨#[]⟩), .slice none 0 0] O fun a w10 Z Y => bp (us := [jv hd.c, jv hd.n, sv hd.root, sv hd.tag, iv1]) 0 Z Y O O O (sizeOf50 _) (by intro z hz; simp only [xX, yc, yz] at hz; rcases hz with rfl | rfl | rfl | rfl | rfl <;> first | rfl | exact SlAt.one (Y.arg hiv1.1)) (lb O) (ds := [jv hd.c, jv hd.n, sv hd.root, sv hd.tag, iv1]) O O fun a w11 Z Y => ?_
 refine G14 <| aa fun _ G15 => ?_
 refine wlv Z (ao (Y.g 0 O) O (isAgg50 _) (sizeOf50 _)) fun a Z => bD Z Y call74 O (dS hd iv1 L1 _ (cA Y hiv1)) fun a w12 x4 hp Z Y => ?_
 revert x4 hp Z Y; rintro z3 hp Z Y
 clear hp
 replace Y := Y.n5 O
 refine G15 ?_
 replace Z := Z.p6 4 5 6 45 46 50 O
 replace Y := Y.k4 29 O
 refine ar ?_
 replace Y := Y.s4 [3, 2, 1, 0] de rfl
 replace Z := Z.p6 4 5 6 45 46 50 O
 refine dG (M := No) (w0 := w0) (encs := encK) (Hi := [blk z3 [jv hd.c, jv hd.n, sv hd.root, sv hd.tag, iv1] 50]) (Hc := [blk w0.hz [jv hd.c, jv hd.n, sv hd.root, sv hd.tag, iv1] 50, blk w1.hz [jv hd.c, jv hd.n, sv hd.root, sv hd.tag, iv2] 50, blk w2.hz [.bool false] 4]) (fun pre H => (∀ z ∈ pre, NB z (casesF (itsM L1)) ∧ NB z (casesF (itsM L2))) ∧ H = [blk w0.hz [jv hd.c, jv hd.n, sv hd.root, sv hd.tag, iv1] 50, blk w1.hz [jv hd.c, jv hd.n, sv hd.root, sv hd.tag, iv2] 50, blk w2.hz [.bool false] 4]) (fun c pre H => c = .ret ∧ (crookF (itsM L1) (itsM L2) = true) ∧ H = [blk w0.hz [jv hd.c, jv hd.n, sv hd.root, sv hd.tag, iv1] 50, blk w1.hz [jv hd.c, jv hd.n, sv hd.root, sv hd.tag, iv2] 50, blk w2.hz [.bool true] 4]) (fun pre xs H a => ∃ (bA0 : Nat), ∃ (bA1 : Nat), Fr 75 [(4, pq w0.hz), (5, pq w1.hz), (6, pq w2.hz), (45, .agg #[jv hd.c, jv hd.n, sv hd.root, sv hd.tag, iv1, jv hd.c, jv hd.n, sv hd.root, sv hd.tag, iv2]), (46, jv 0), (50, .func (.func 125) #[] #[pq z3]), (10, pq bA1), (11, pq bA0)] [] a ∧ (∀ z ∈ pre, NB z (casesF (itsM L1)) ∧ NB z (casesF (itsM L2))) ∧ H = [blk bA0 [jv xs.2.n, jv xs.2.t, sv xs.2.ev] 55, blk bA1 [jv xs.1] 3, blk w0.hz [jv hd.c, jv hd.n, sv hd.root, sv hd.tag, iv1] 50, blk w1.hz [jv hd.c, jv hd.n, sv hd.root, sv hd.tag, iv2] 50, blk w2.hz [.bool false] 4]) O call125 Z Y (dw hd iv1 L1 z3 (fun x hx => (hok1.2.2 x hx).2.2) (fun H w h => cA h hiv1)) de (fun _ => O) ⟨sm, O⟩ ?_ ?_ ?_ ?_
 ·clear Z Y
  rintro lp pre xs _ a w13 hnx ⟨ho1, rfl⟩ Z Y
  generalize (join [blk w0.hz [jv hd.c, jv hd.n, sv hd.root, sv hd.tag, iv1] 50, blk w1.hz [jv hd.c, jv hd.n, sv hd.root, sv hd.tag, iv2] 50, blk w2.hz [.bool false] 4]).foot = M1 at Y ⊢
  refine aa fun _ G16 => aD (Z.p8 52 51 4 5 6 45 46 50 O) Y (zeroValue3 _) [jv 0] O fun a w14 Z Y => az 0 Z Y [jv xs.1] O (sizeOf3 _) fun a w15 Z Y => G16 <| ai ?_
  refine aD Z Y (zeroValue55 _) [jv 0, jv 0, .string (⟨#[]⟩)] O fun a w16 Z Y => az 0 Z Y [jv xs.2.n, jv xs.2.t, sv xs.2.ev] O (sizeOf55 _) fun a w17 Z Y => ab ?_
  exact ⟨_, ⟨w15.hz, w13.hz, Z.pick [4, 5, 6, 45, 46, 50, 10, 11], ho1, O⟩, Y⟩
 ·rintro lp pre xs _ a w18 hnx ⟨bA0, bA1, Z, ho1, rfl⟩ hout hrec hnl Y
  generalize (join [blk bA0 [jv xs.2.n, jv xs.2.t, sv xs.2.ev] 55, blk bA1 [jv xs.1] 3, blk w0.hz [jv hd.c, jv hd.n, sv hd.root, sv hd.tag, iv1] 50, blk w1.hz [jv hd.c, jv hd.n, sv hd.root, sv hd.tag, iv2] 50, blk w2.hz [.bool false] 4]).foot = M1 at Y hout hnl ⊢
  refine ar <| aa fun _ G17 => nv Z <| xJ (ao (Y.g 2 O) O (isAgg50 _) (sizeOf50 _)) <| xJ (ao (Y.g 3 O) O (isAgg50 _) (sizeOf50 _)) <| xJ (aX (v := .agg #[jv hd.c, jv hd.n, sv hd.root, sv hd.tag, iv1, jv hd.c, jv hd.n, sv hd.root, sv hd.tag, iv2]) O AN) <| xK O <| fun a Z => G17 ?_
  replace Z := Z.p5 6 10 11 55 56 O
  refine ar <| eF 4 ?_
  refine bM <| aa fun _ G18 => wlv Z ((v_lt O O).asb (b' := true) O) fun a Z => G18 <| ah fun _ G19 => ?_
  refine aK Z O ?_
  refine au <| G19 <| ah fun _ G20 => ar <| aa fun _ G21 => wlv Z (ch (v := .agg #[jv hd.c, jv hd.n, sv hd.root, sv hd.tag, iv1]) O O kr) fun a Z => aD Z Y (zeroValue50 _) [jv 0, jv 0, .string (⟨#[]⟩), .string (⟨#[]⟩), .slice none 0 0] O fun a w19 Z Y => bp (us := [jv hd.c, jv hd.n, sv hd.root, sv hd.tag, iv1]) 0 Z Y O O O (sizeOf50 _) AU (lb O) (ds := [jv hd.c, jv hd.n, sv hd.root, sv hd.tag, iv1]) O O fun a w20 Z Y => ?_
  refine G21 <| aa fun _ G22 => ?_
  refine wlv Z (ao (Y.g 0 O) O (isAgg50 _) (sizeOf50 _)) fun a Z => bD Z Y call74 O (dS hd iv1 L1 _ (hiv1.grow (hout _ Y.ext))) fun a w21 x6 hp Z Y => ?_
  revert x6 hp Z Y; rintro z5 hp Z Y
  clear hp
  replace Y := Y.n7 O
  refine G22 <| ar ?_
  replace Y := Y.s6 [4, 5, 6, 3, 2, 0] de rfl
  replace Z := Z.p10 6 10 11 55 56 57 58 13 59 60 O
  refine gB (M := M1) (w0 := w18) (encs := encK) (Hi := [blk z5 [jv hd.c, jv hd.n, sv hd.root, sv hd.tag, iv1] 50]) (Hc := [blk w0.hz [jv hd.c, jv hd.n, sv hd.root, sv hd.tag, iv1] 50, blk w1.hz [jv hd.c, jv hd.n, sv hd.root, sv hd.tag, iv2] 50, blk w2.hz [.bool false] 4, blk bA1 [jv xs.1] 3, blk bA0 [jv xs.2.n, jv xs.2.t, sv xs.2.ev] 55]) (fun pre2 H => (∀ y ∈ pre2, ¬ (xs.1 < y.1 ∧ y.2.n ≤ xs.2.n)) ∧ H = [blk w0.hz [jv hd.c, jv hd.n, sv hd.root, sv hd.tag, iv1] 50, blk w1.hz [jv hd.c, jv hd.n, sv hd.root, sv hd.tag, iv2] 50, blk w2.hz [.bool false] 4, blk bA1 [jv xs.1] 3, blk bA0 [jv xs.2.n, jv xs.2.t, sv xs.2.ev] 55]) (fun c pre2 H => c = .ret ∧ (crookF (itsM L1) (itsM L2) = true) ∧ H = [blk w0.hz [jv hd.c, jv hd.n, sv hd.root, sv hd.tag, iv1] 50, blk w1.hz [jv hd.c, jv hd.n, sv hd.root, sv hd.tag, iv2] 50, blk w2.hz [.bool true] 4, blk bA1 [jv xs.1] 3, blk bA0 [jv xs.2.n, jv xs.2.t, sv xs.2.ev] 55]) (fun pre2 xs2 H a => ∃ (bAz0 : Nat), Fr 75 [(6, pq w2.hz), (10, pq bA1), (11, pq bA0), (14, jv xs2.1), (15, pq bAz0)] [] a ∧ (∀ y ∈ pre2, ¬ (xs.1 < y.1 ∧ y.2.n ≤ xs.2.n)) ∧ H = [blk bAz0 [jv xs2.2.n, jv xs2.2.t, sv xs2.2.ev] 55, blk w0.hz [jv hd.c, jv hd.n, sv hd.root, sv hd.tag, iv1] 50, blk w1.hz [jv hd.c, jv hd.n, sv hd.root, sv hd.tag, iv2] 50, blk w2.hz [.bool false] 4, blk bA1 [jv xs.1] 3, blk bA0 [jv xs.2.n, jv xs.2.t, sv xs.2.ev] 55]) O call125 (ic hrec hnl Y.ext) Z Y (dw hd iv1 L1 z5 (fun x hx => (hok1.2.2 x hx).2.2) (fun H w h => hiv1.grow (hout _ h.ext))) de (fun _ => O) ⟨sm, O⟩ ?_ ?_ ?_ ?_
  ·clear Z Y
   rintro lp2 pre2 xs2 _ a w22 hnx2 ⟨hq1, rfl⟩ Z Y
   generalize (join [blk w0.hz [jv hd.c, jv hd.n, sv hd.root, sv hd.tag, iv1] 50, blk w1.hz [jv hd.c, jv hd.n, sv hd.root, sv hd.tag, iv2] 50, blk w2.hz [.bool false] 4, blk bA1 [jv xs.1] 3, blk bA0 [jv xs.2.n, jv xs.2.t, sv xs.2.ev] 55]).foot = M2 at Y ⊢
   refine aa fun _ G23 => wla (Z.p12 62 61 6 10 11 55 56 57 58 13 59 60 O) O fun a Z => G23 ?_
   refine ai <| aD (Z.p5 62 6 10 11 14 O) Y (zeroValue55 _) [jv 0, jv 0, .string (⟨#[]⟩)] O fun a w23 Z Y => az 0 Z Y [jv xs2.2.n, jv xs2.2.t, sv xs2.2.ev] O (sizeOf55 _) fun a w24 Z Y => ab ?_
   exact ⟨_, ⟨w22.hz, Z.pick [6, 10, 11, 14, 15], hq1, O⟩, Y⟩
  ·rintro lp2 pre2 xs2 _ a w25 hnx2 ⟨bAz0, Z, hq1, rfl⟩ hout9 hrec2 hnl2 Y
   clear hrec2 hnl2
   generalize (join [blk bAz0 [jv xs2.2.n, jv xs2.2.t, sv xs2.2.ev] 55, blk w0.hz [jv hd.c, jv hd.n, sv hd.root, sv hd.tag, iv1] 50, blk w1.hz [jv hd.c, jv hd.n, sv hd.root, sv hd.tag, iv2] 50, blk w2.hz [.bool false] 4, blk bA1 [jv xs.1] 3, blk bA0 [jv xs.2.n, jv xs.2.t, sv xs.2.ev] 55]).foot = M2 at Y hout9 ⊢
   have hout := fun w (h : Ext M2 w25 w) => hout w (hout9 w h)
   refine ar <| aa fun _ G24 => nv Z <| xJ (ld Y 4 O O (isAgg3 _) O) <| xK O <| xJ (v_lt O O) <| xK O <| fun a Z => ?_
   rcases Decidable.em (xs.1 < xs2.1) with hb7 | hb7
   ·rw [xS hb7] at Z
    refine nv Z <| xM (ac (v := pq bA0) O kr) <| xM (ld Y 5 O O (isAgg3 _) O) <| xM (ac (v := pq bAz0) O kr) <| xM (ld Y 0 O O (isAgg3 _) O) <| xM (v_ge O O) <| xJ (ax O O) <| fun a Z => G24 ?_
    replace Z := Z.p2 6 72 O
    replace Y := Y.k5 62 O
    refine aA Z O (fun hc8 => ?_) (fun hc8 => ?_)
    ·refine aa fun _ G25 => az 2 Z Y [.bool true] O (sizeOf4 _) fun a w26 Z Y => G25 <| ap ?_
     exact ⟨_, ⟨O, nD (hT (eO hnx) (eO hnx2) om om), O⟩, Y.select [0, 1, 2, 3, 4] de⟩
    have hnt : ¬ (xs.1 < xs2.1 ∧ xs2.2.n ≤ xs.2.n) := by omega
    refine au ?_
    exact ⟨_, ⟨bY hq1 hnt, O⟩, Y.select [0, 1, 2, 3, 4] de⟩
   rw [xW hb7] at Z
   have hnt : ¬ (xs.1 < xs2.1 ∧ xs2.2.n ≤ xs.2.n) := by omega
   refine nv Z <| xN <| xN <| xN <| xN <| xN <| xJ (ak O O) <| fun a Z => G24 ?_
   replace Z := Z.p2 6 72 O
   replace Y := Y.k5 62 O
   refine aG Z O ?_
   refine au ?_
   exact ⟨_, ⟨bY hq1 hnt, O⟩, Y.select [0, 1, 2, 3, 4] de⟩
  ·rintro pre2 _ _ a w27 ⟨rfl, rfl⟩ ⟨hq1, rfl⟩ Y Z
   replace Z := Z.p10 6 10 11 55 56 57 58 13 59 60 O
   replace Y := Y.n6 O
   refine G20 <| ai <| nv Z <| xJ ((aP O O de).asi (m' := 1) O) <| xK O <| fun a Z => ab <| bM <| aa fun _ G26 => wlv Z ((v_lt O O).asb (b' := true) O) fun a Z => G26 <| ah fun _ G27 => ?_
   refine aK Z O ?_
   refine au <| G27 <| ah fun _ G28 => ar <| aa fun _ G29 => wlv Z (ch (v := .agg #[jv hd.c, jv hd.n, sv hd.root, sv hd.tag, iv2]) O O kr) fun a Z => aD Z Y (zeroValue50 _) [jv 0, jv 0, .string (⟨#[]⟩), .string (⟨#[]⟩), .slice none 0 0] O fun a w28 Z Y => bp (us := [jv hd.c, jv hd.n, sv hd.root, sv hd.tag, iv2]) 0 Z Y O O O (sizeOf50 _) AR (lb O) (ds := [jv hd.c, jv hd.n, sv hd.root, sv hd.tag, iv2]) O O fun a w29 Z Y => ?_
   refine G29 <| aa fun _ G30 => ?_
   refine wlv Z (ao (Y.g 0 O) O (isAgg50 _) (sizeOf50 _)) fun a Z => bD Z Y call74 O (dS hd iv2 L2 _ (hiv2.grow (hout _ Y.ext))) fun a w30 x10 hp Z Y => ?_
   revert x10 hp Z Y; rintro z9 hp Z Y
   clear hp
   replace Y := Y.n8 O
   refine G30 <| ar ?_
   replace Y := Y.s6 [2, 3, 4, 5, 6, 0] de rfl
   replace Z := Z.p11 6 10 11 55 73 56 57 58 13 59 60 O
   refine gB (M := M1) (w0 := w18) (encs := encK) (Hi := [blk z9 [jv hd.c, jv hd.n, sv hd.root, sv hd.tag, iv2] 50]) (Hc := [blk w0.hz [jv hd.c, jv hd.n, sv hd.root, sv hd.tag, iv1] 50, blk w1.hz [jv hd.c, jv hd.n, sv hd.root, sv hd.tag, iv2] 50, blk w2.hz [.bool false] 4, blk bA1 [jv xs.1] 3, blk bA0 [jv xs.2.n, jv xs.2.t, sv xs.2.ev] 55]) (fun pre2 H => (∀ y ∈ pre2, ¬ (xs.1 < y.1 ∧ y.2.n ≤ xs.2.n)) ∧ H = [blk w0.hz [jv hd.c, jv hd.n, sv hd.root, sv hd.tag, iv1] 50, blk w1.hz [jv hd.c, jv hd.n, sv hd.root, sv hd.tag, iv2] 50, blk w2.hz [.bool false] 4, blk bA1 [jv xs.1] 3, blk bA0 [jv xs.2.n, jv xs.2.t, sv xs.2.ev] 55]) (fun c pre2 H => c = .ret ∧ (crookF (itsM L1) (itsM L2) = true) ∧ H = [blk w0.hz [jv hd.c, jv hd.n, sv hd.root, sv hd.tag, iv1] 50, blk w1.hz [jv hd.c, jv hd.n, sv hd.root, sv hd.tag, iv2] 50, blk w2.hz [.bool true] 4, blk bA1 [jv xs.1] 3, blk bA0 [jv xs.2.n, jv xs.2.t, sv xs.2.ev] 55]) (fun pre2 xs2 H a => ∃ (bAz0 : Nat), Fr 75 [(6, pq w2.hz), (10, pq bA1), (11, pq bA0), (14, jv xs2.1), (15, pq bAz0)] [] a ∧ (∀ y ∈ pre2, ¬ (xs.1 < y.1 ∧ y.2.n ≤ xs.2.n)) ∧ H = [blk bAz0 [jv xs2.2.n, jv xs2.2.t, sv xs2.2.ev] 55, blk w0.hz [jv hd.c, jv hd.n, sv hd.root, sv hd.tag, iv1] 50, blk w1.hz [jv hd.c, jv hd.n, sv hd.root, sv hd.tag, iv2] 50, blk w2.hz [.bool false] 4, blk bA1 [jv xs.1] 3, blk bA0 [jv xs.2.n, jv xs.2.t, sv xs.2.ev] 55]) O call125 (ic hrec hnl Y.ext) Z Y (dw hd iv2 L2 z9 (fun x hx => (hok2.2.2 x hx).2.2) (fun H w h => hiv2.grow (hout _ h.ext))) de (fun _ => O) ⟨sm, O⟩ ?_ ?_ ?_ ?_
   ·clear Z Y
    rintro lp2 pre2 xs2 _ a w31 hnx2 ⟨hq2, rfl⟩ Z Y
    generalize (join [blk w0.hz [jv hd.c, jv hd.n, sv hd.root, sv hd.tag, iv1] 50, blk w1.hz [jv hd.c, jv hd.n, sv hd.root, sv hd.tag, iv2] 50, blk w2.hz [.bool false] 4, blk bA1 [jv xs.1] 3, blk bA0 [jv xs.2.n, jv xs.2.t, sv xs.2.ev] 55]).foot = M2 at Y ⊢
    refine aa fun _ G31 => wla (Z.p13 62 61 6 10 11 55 73 56 57 58 13 59 60 O) O fun a Z => G31 ?_
    refine ai <| aD (Z.p5 62 6 10 11 14 O) Y (zeroValue55 _) [jv 0, jv 0, .string (⟨#[]⟩)] O fun a w32 Z Y => az 0 Z Y [jv xs2.2.n, jv xs2.2.t, sv xs2.2.ev] O (sizeOf55 _) fun a w33 Z Y => ab ?_
    exact ⟨_, ⟨w31.hz, Z.pick [6, 10, 11, 14, 15], hq2, O⟩, Y⟩
   ·rintro lp2 pre2 xs2 _ a w34 hnx2 ⟨bAz0, Z, hq2, rfl⟩ hout9 hrec2 hnl2 Y
    clear hrec2 hnl2
    generalize (join [blk bAz0 [jv xs2.2.n, jv xs2.2.t, sv xs2.2.ev] 55, blk w0.hz [jv hd.c, jv hd.n, sv hd.root, sv hd.tag, iv1] 50, blk w1.hz [jv hd.c, jv hd.n, sv hd.root, sv hd.tag, iv2] 50, blk w2.hz [.bool false] 4, blk bA1 [jv xs.1] 3, blk bA0 [jv xs.2.n, jv xs.2.t, sv xs.2.ev] 55]).foot = M2 at Y hout9 ⊢
    have hout := fun w (h : Ext M2 w34 w) => hout w (hout9 w h)
    refine ar <| aa fun _ G32 => nv Z <| xJ (ld Y 4 O O (isAgg3 _) O) <| xK O <| xJ (v_lt O O) <| xK O <| fun a Z => ?_
    rcases Decidable.em (xs.1 < xs2.1) with hb11 | hb11
    ·rw [xS hb11] at Z
     refine nv Z <| xM (ac (v := pq bA0) O kr) <| xM (ld Y 5 O O (isAgg3 _) O) <| xM (ac (v := pq bAz0) O kr) <| xM (ld Y 0 O O (isAgg3 _) O) <| xM (v_ge O O) <| xJ (ax O O) <| fun a Z => G32 ?_
     replace Z := Z.p2 6 72 O
     replace Y := Y.k5 62 O
     refine aA Z O (fun hc12 => ?_) (fun hc12 => ?_)
     ·refine aa fun _ G33 => az 2 Z Y [.bool true] O (sizeOf4 _) fun a w35 Z Y => G33 <| ap ?_
      exact ⟨_, ⟨O, uq (hT (eO hnx) (eO hnx2) om om), O⟩, Y.select [0, 1, 2, 3, 4] de⟩
     have hnt : ¬ (xs.1 < xs2.1 ∧ xs2.2.n ≤ xs.2.n) := by omega
     refine au ?_
     exact ⟨_, ⟨bY hq2 hnt, O⟩, Y.select [0, 1, 2, 3, 4] de⟩
    rw [xW hb11] at Z
    have hnt : ¬ (xs.1 < xs2.1 ∧ xs2.2.n ≤ xs.2.n) := by omega
    refine nv Z <| xN <| xN <| xN <| xN <| xN <| xJ (ak O O) <| fun a Z => G32 ?_
    replace Z := Z.p2 6 72 O
    replace Y := Y.k5 62 O
    refine aG Z O ?_
    refine au ?_
    exact ⟨_, ⟨bY hq2 hnt, O⟩, Y.select [0, 1, 2, 3, 4] de⟩
   ·rintro pre2 _ _ a w36 ⟨rfl, rfl⟩ ⟨hq2, rfl⟩ Y Z
    replace Z := Z.p11 6 10 11 55 73 56 57 58 13 59 60 O
    replace Y := Y.n6 O
    refine G28 <| ai <| nv Z <| xJ ((aP O O de).asi (m' := 2) O) <| xK O <| fun a Z => ab <| bM <| aa fun _ G34 => wlv Z ((v_lt O O).asb (b' := false) O) fun a Z => G34 <| ah fun _ G35 => ?_
    refine aG Z O ?_
    refine aO ?_
    exact ⟨_, ⟨bY ho1 ⟨hq1, hq2⟩, O⟩, Y.select [0, 1, 2] de⟩
   ·rintro _ pre2 _ _ a w37 rfl ⟨rfl, hhit, rfl⟩ Y Z
    replace Z := Z.p11 6 10 11 55 73 56 57 58 13 59 60 O
    replace Y := Y.n6 O
    refine ap ?_
    exact ⟨_, ⟨O, hhit, O⟩, Y.select [0, 1, 2] de⟩
  ·rintro _ pre2 _ _ a w38 rfl ⟨rfl, hhit, rfl⟩ Y Z
   replace Z := Z.p10 6 10 11 55 56 57 58 13 59 60 O
   replace Y := Y.n6 O
   refine ap ?_
   exact ⟨_, ⟨O, hhit, O⟩, Y.select [0, 1, 2] de⟩
 ·rintro D pre _ _ a w39 ⟨rfl, rfl⟩ ⟨ho1, rfl⟩ Y Z
  replace Z := Z.p6 4 5 6 45 46 50 O
  replace Y := Y.n5 O
  refine G13 <| ai <| nv Z <| xJ ((aP O O de).asi (m' := 1) O) <| xK O <| fun a Z => ab <| bM <| aa fun _ G36 => wlv Z ((v_lt O O).asb (b' := true) O) fun a Z => G36 <| ah fun _ G37 => ?_
  refine aK Z O ?_
  refine au <| G37 <| ah fun _ G38 => ar <| aa fun _ G39 => wlv Z (ch (v := .agg #[jv hd.c, jv hd.n, sv hd.root, sv hd.tag, iv2]) O O kr) fun a Z => aD Z Y (zeroValue50 _) [jv 0, jv 0, .string (⟨#[]⟩), .string (⟨#[]⟩), .slice none 0 0] O fun a w40 Z Y => bp (us := [jv hd.c, jv hd.n, sv hd.root, sv hd.tag, iv2]) 0 Z Y O O O (sizeOf50 _) (by intro z hz; simp only [xX, yc, yz] at hz; rcases hz with rfl | rfl | rfl | rfl | rfl <;> first | rfl | exact SlAt.one (Y.arg hiv2.1)) (lb O) (ds := [jv hd.c, jv hd.n, sv hd.root, sv hd.tag, iv2]) O O fun a w41 Z Y => ?_
  refine G39 <| aa fun _ G40 => ?_
  refine wlv Z (ao (Y.g 0 O) O (isAgg50 _) (sizeOf50 _)) fun a Z => bD Z Y call74 O (dS hd iv2 L2 _ (cA Y hiv2)) fun a w42 x14 hp Z Y => ?_
  revert x14 hp Z Y; rintro z13 hp Z Y
  clear hp
  replace Y := Y.n7 O
  refine G40 <| ar ?_
  replace Y := Y.s5 [3, 4, 5, 2, 0] de rfl
  replace Z := Z.p11 4 5 6 45 74 46 47 48 9 49 50 O
  refine dG (M := No) (w0 := w0) (encs := encK) (Hi := [blk z13 [jv hd.c, jv hd.n, sv hd.root, sv hd.tag, iv2] 50]) (Hc := [blk w0.hz [jv hd.c, jv hd.n, sv hd.root, sv hd.tag, iv1] 50, blk w1.hz [jv hd.c, jv hd.n, sv hd.root, sv hd.tag, iv2] 50, blk w2.hz [.bool false] 4, obj D (.deferred (some []))]) (fun pre H => (∀ z ∈ pre, NB z (casesF (itsM L1)) ∧ NB z (casesF (itsM L2))) ∧ H = [blk w0.hz [jv hd.c, jv hd.n, sv hd.root, sv hd.tag, iv1] 50, blk w1.hz [jv hd.c, jv hd.n, sv hd.root, sv hd.tag, iv2] 50, blk w2.hz [.bool false] 4, obj D (.deferred (some []))]) (fun c pre H => c = .ret ∧ (crookF (itsM L1) (itsM L2) = true) ∧ H = [blk w0.hz [jv hd.c, jv hd.n, sv hd.root, sv hd.tag, iv1] 50, blk w1.hz [jv hd.c, jv hd.n, sv hd.root, sv hd.tag, iv2] 50, blk w2.hz [.bool true] 4, obj D (.deferred (some []))]) (fun pre xs H a => ∃ (bA0 : Nat), ∃ (bA1 : Nat), Fr 75 [(4, pq w0.hz), (5, pq w1.hz), (6, pq w2.hz), (10, pq bA1), (11, pq bA0)] [] a ∧ (∀ z ∈ pre, NB z (casesF (itsM L1)) ∧ NB z (casesF (itsM L2))) ∧ H = [blk bA0 [jv xs.2.n, jv xs.2.t, sv xs.2.ev] 55, blk bA1 [jv xs.1] 3, blk w0.hz [jv hd.c, jv hd.n, sv hd.root, sv hd.tag, iv1] 50, blk w1.hz [jv hd.c, jv hd.n, sv hd.root, sv hd.tag, iv2] 50, blk w2.hz [.bool false] 4, obj D (.deferred (some []))]) O call125 Z Y (dw hd iv2 L2 z13 (fun x hx => (hok2.2.2 x hx).2.2) (fun H w h => cA h hiv2)) de (fun _ => O) ⟨sm, O⟩ ?_ ?_ ?_ ?_
  ·clear Z Y
   rintro lp pre xs _ a w43 hnx ⟨ho2, rfl⟩ Z Y
   generalize (join [blk w0.hz [jv hd.c, jv hd.n, sv hd.root, sv hd.tag, iv1] 50, blk w1.hz [jv hd.c, jv hd.n, sv hd.root, sv hd.tag, iv2] 50, blk w2.hz [.bool false] 4, obj D (.deferred (some []))]).foot = M1 at Y ⊢
   refine aa fun _ G41 => aD (Z.p13 52 51 4 5 6 45 74 46 47 48 9 49 50 O) Y (zeroValue3 _) [jv 0] O fun a w44 Z Y => az 0 Z Y [jv xs.1] O (sizeOf3 _) fun a w45 Z Y => G41 ?_
   refine ai <| aD (Z.p5 52 4 5 6 10 O) Y (zeroValue55 _) [jv 0, jv 0, .string (⟨#[]⟩)] O fun a w46 Z Y => az 0 Z Y [jv xs.2.n, jv xs.2.t, sv xs.2.ev] O (sizeOf55 _) fun a w47 Z Y => ab ?_
   exact ⟨_, ⟨w45.hz, w43.hz, Z.pick [4, 5, 6, 10, 11], ho2, O⟩, Y⟩
  ·rintro lp pre xs _ a w48 hnx ⟨bA0, bA1, Z, ho2, rfl⟩ hout hrec hnl Y
   generalize (join [blk bA0 [jv xs.2.n, jv xs.2.t, sv xs.2.ev] 55, blk bA1 [jv xs.1] 3, blk w0.hz [jv hd.c, jv hd.n, sv hd.root, sv hd.tag, iv1] 50, blk w1.hz [jv hd.c, jv hd.n, sv hd.root, sv hd.tag, iv2] 50, blk w2.hz [.bool false] 4, obj D (.deferred (some []))]).foot = M1 at Y hout hnl ⊢
   refine ar <| aa fun _ G42 => nv Z <| xJ (ao (Y.g 2 O) O (isAgg50 _) (sizeOf50 _)) <| xJ (ao (Y.g 3 O) O (isAgg50 _) (sizeOf50 _)) <| xJ (aX (v := .agg #[jv hd.c, jv hd.n, sv hd.root, sv hd.tag, iv1, jv hd.c, jv hd.n, sv hd.root, sv hd.tag, iv2]) O AN) <| xK O <| fun a Z => G42 <| ar ?_
   refine eF 4 ?_
   refine bM <| aa fun _ G43 => wlv Z ((v_lt O O).asb (b' := true) O) fun a Z => G43 <| ah fun _ G44 => ?_
   refine aK Z O ?_
   refine au <| G44 <| ah fun _ G45 => ar <| aa fun _ G46 => wlv Z (ch (v := .agg #[jv hd.c, jv hd.n, sv hd.root, sv hd.tag, iv1]) O O kr) fun a Z => aD Z Y (zeroValue50 _) [jv 0, jv 0, .string (⟨#[]⟩), .string (⟨#[]⟩), .slice none 0 0] O fun a w49 Z Y => bp (us := [jv hd.c, jv hd.n, sv hd.root, sv hd.tag, iv1]) 0 Z Y O O O (sizeOf50 _) AU (lb O) (ds := [jv hd.c, jv hd.n, sv hd.root, sv hd.tag, iv1]) O O fun a w50 Z Y => ?_
   refine G46 ?_
   refine aa fun _ G47 => wlv (Z.p6 6 10 11 55 56 13 O) (ao (Y.g 0 O) O (isAgg50 _) (sizeOf50 _)) fun a Z => bD Z Y call74 O (dS hd iv1 L1 _ (hiv1.grow (hout _ Y.ext))) fun a w51 x16 hp Z Y => ?_
   revert x16 hp Z Y; rintro z15 hp Z Y
   clear hp
   replace Y := Y.n8 O
   refine G47 <| ar ?_
   replace Y := Y.s7 [4, 5, 6, 3, 2, 7, 0] de rfl
   replace Z := Z.p8 6 10 11 55 56 13 59 60 O
   refine gB (M := M1) (w0 := w48) (encs := encK) (Hi := [blk z15 [jv hd.c, jv hd.n, sv hd.root, sv hd.tag, iv1] 50]) (Hc := [blk w0.hz [jv hd.c, jv hd.n, sv hd.root, sv hd.tag, iv1] 50, blk w1.hz [jv hd.c, jv hd.n, sv hd.root, sv hd.tag, iv2] 50, blk w2.hz [.bool false] 4, blk bA1 [jv xs.1] 3, blk bA0 [jv xs.2.n, jv xs.2.t, sv xs.2.ev] 55, obj D (.deferred (some []))]) (fun pre2 H => (∀ y ∈ pre2, ¬ (xs.1 < y.1 ∧ y.2.n ≤ xs.2.n)) ∧ H = [blk w0.hz [jv hd.c, jv hd.n, sv hd.root, sv hd.tag, iv1] 50, blk w1.hz [jv hd.c, jv hd.n, sv hd.root, sv hd.tag, iv2] 50, blk w2.hz [.bool false] 4, blk bA1 [jv xs.1] 3, blk bA0 [jv xs.2.n, jv xs.2.t, sv xs.2.ev] 55, obj D (.deferred (some []))]) (fun c pre2 H => c = .ret ∧ (crookF (itsM L1) (itsM L2) = true) ∧ H = [blk w0.hz [jv hd.c, jv hd.n, sv hd.root, sv hd.tag, iv1] 50, blk w1.hz [jv hd.c, jv hd.n, sv hd.root, sv hd.tag, iv2] 50, blk w2.hz [.bool true] 4, blk bA1 [jv xs.1] 3, blk bA0 [jv xs.2.n, jv xs.2.t, sv xs.2.ev] 55, obj D (.deferred (some []))]) (fun pre2 xs2 H a => ∃ (bAz0 : Nat), Fr 75 [(6, pq w2.hz), (10, pq bA1), (11, pq bA0), (14, jv xs2.1), (15, pq bAz0)] [] a ∧ (∀ y ∈ pre2, ¬ (xs.1 < y.1 ∧ y.2.n ≤ xs.2.n)) ∧ H = [blk bAz0 [jv xs2.2.n, jv xs2.2.t, sv xs2.2.ev] 55, blk w0.hz [jv hd.c, jv hd.n, sv hd.root, sv hd.tag, iv1] 50, blk w1.hz [jv hd.c, jv hd.n, sv hd.root, sv hd.tag, iv2] 50, blk w2.hz [.bool false] 4, blk bA1 [jv xs.1] 3, blk bA0 [jv xs.2.n, jv xs.2.t, sv xs.2.ev] 55, obj D (.deferred (some []))]) O call125 (ic hrec hnl Y.ext) Z Y (dw hd iv1 L1 z15 (fun x hx => (hok1.2.2 x hx).2.2) (fun H w h => hiv1.grow (hout _ h.ext))) de (fun _ => O) ⟨sm, O⟩ ?_ ?_ ?_ ?_
   ·clear Z Y
    rintro lp2 pre2 xs2 _ a w52 hnx2 ⟨hq1, rfl⟩ Z Y
    generalize (join [blk w0.hz [jv hd.c, jv hd.n, sv hd.root, sv hd.tag, iv1] 50, blk w1.hz [jv hd.c, jv hd.n, sv hd.root, sv hd.tag, iv2] 50, blk w2.hz [.bool false] 4, blk bA1 [jv xs.1] 3, blk bA0 [jv xs.2.n, jv xs.2.t, sv xs.2.ev] 55, obj D (.deferred (some []))]).foot = M2 at Y ⊢
    refine aa fun _ G48 => wla (Z.p10 62 61 6 10 11 55 56 13 59 60 O) O fun a Z => G48 ?_
    refine ai <| aD (Z.p5 62 6 10 11 14 O) Y (zeroValue55 _) [jv 0, jv 0, .string (⟨#[]⟩)] O fun a w53 Z Y => az 0 Z Y [jv xs2.2.n, jv xs2.2.t, sv xs2.2.ev] O (sizeOf55 _) fun a w54 Z Y => ab ?_
    exact ⟨_, ⟨w52.hz, Z.pick [6, 10, 11, 14, 15], hq1, O⟩, Y⟩
   ·rintro lp2 pre2 xs2 _ a w55 hnx2 ⟨bAz0, Z, hq1, rfl⟩ hout9 hrec2 hnl2 Y
    clear hrec2 hnl2
    generalize (join [blk bAz0 [jv xs2.2.n, jv xs2.2.t, sv xs2.2.ev] 55, blk w0.hz [jv hd.c, jv hd.n, sv hd.root, sv hd.tag, iv1] 50, blk w1.hz [jv hd.c, jv hd.n, sv hd.root, sv hd.tag, iv2] 50, blk w2.hz [.bool false] 4, blk bA1 [jv xs.1] 3, blk bA0 [jv xs.2.n, jv xs.2.t, sv xs.2.ev] 55, obj D (.deferred (some []))]).foot = M2 at Y hout9 ⊢
    have hout := fun w (h : Ext M2 w55 w) => hout w (hout9 w h)
    refine ar <| aa fun _ G49 => nv Z <| xJ (ld Y 4 O O (isAgg3 _) O) <| xK O <| xJ (v_lt O O) <| xK O <| fun a Z => ?_
    rcases Decidable.em (xs.1 < xs2.1) with hb17 | hb17
    ·rw [xS hb17] at Z
     refine nv Z <| xM (ac (v := pq bA0) O kr) <| xM (ld Y 5 O O (isAgg3 _) O) <| xM (ac (v := pq bAz0) O kr) <| xM (ld Y 0 O O (isAgg3 _) O) <| xM (v_ge O O) <| xJ (ax O O) <| fun a Z => G49 ?_
     replace Z := Z.p2 6 72 O
     replace Y := Y.k6 126 O
     refine aA Z O (fun hc18 => ?_) (fun hc18 => ?_)
     ·refine aa fun _ G50 => az 2 Z Y [.bool true] O (sizeOf4 _) fun a w56 Z Y => G50 <| ap ?_
      exact ⟨_, ⟨O, tr (hT (eO hnx) (eO hnx2) om om), O⟩, Y.select [0, 1, 2, 3, 4, 5] de⟩
     have hnt : ¬ (xs.1 < xs2.1 ∧ xs2.2.n ≤ xs.2.n) := by omega
     refine au ?_
     exact ⟨_, ⟨bY hq1 hnt, O⟩, Y.select [0, 1, 2, 3, 4, 5] de⟩
    rw [xW hb17] at Z
    have hnt : ¬ (xs.1 < xs2.1 ∧ xs2.2.n ≤ xs.2.n) := by omega
    refine nv Z <| xN <| xN <| xN <| xN <| xN <| xJ (ak O O) <| fun a Z => G49 ?_
    replace Z := Z.p2 6 72 O
    replace Y := Y.k6 126 O
    refine aG Z O ?_
    refine au ?_
    exact ⟨_, ⟨bY hq1 hnt, O⟩, Y.select [0, 1, 2, 3, 4, 5] de⟩
   ·rintro pre2 _ _ a w57 ⟨rfl, rfl⟩ ⟨hq1, rfl⟩ Y Z
    replace Z := Z.p8 6 10 11 55 56 13 59 60 O
    replace Y := Y.n7 O
    refine G45 <| ai <| nv Z <| xJ ((aP O O de).asi (m' := 1) O) <| xK O <| fun a Z => ab <| bM <| aa fun _ G51 => wlv Z ((v_lt O O).asb (b' := true) O) fun a Z => G51 <| ah fun _ G52 => ?_
    refine aK Z O ?_
    refine au <| G52 <| ah fun _ G53 => ar <| aa fun _ G54 => wlv Z (ch (v := .agg #[jv hd.c, jv hd.n, sv hd.root, sv hd.tag, iv2]) O O kr) fun a Z => aD Z Y (zeroValue50 _) [jv 0, jv 0, .string (⟨#[]⟩), .string (⟨#[]⟩), .slice none 0 0] O fun a w58 Z Y => bp (us := [jv hd.c, jv hd.n, sv hd.root, sv hd.tag, iv2]) 0 Z Y O O O (sizeOf50 _) AR (lb O) (ds := [jv hd.c, jv hd.n, sv hd.root, sv hd.tag, iv2]) O O fun a w59 Z Y => ?_
    refine G54 <| aa fun _ G55 => ?_
    refine wlv Z (ao (Y.g 0 O) O (isAgg50 _) (sizeOf50 _)) fun a Z => bD Z Y call74 O (dS hd iv2 L2 _ (hiv2.grow (hout _ Y.ext))) fun a w60 x20 hp Z Y => ?_
    revert x20 hp Z Y; rintro z19 hp Z Y
    clear hp
    replace Y := Y.n9 O
    refine G55 <| ar ?_
    replace Y := Y.s7 [2, 3, 4, 5, 6, 7, 0] de rfl
    replace Z := Z.p11 6 10 11 55 73 56 57 58 13 59 60 O
    refine gB (M := M1) (w0 := w48) (encs := encK) (Hi := [blk z19 [jv hd.c, jv hd.n, sv hd.root, sv hd.tag, iv2] 50]) (Hc := [blk w0.hz [jv hd.c, jv hd.n, sv hd.root, sv hd.tag, iv1] 50, blk w1.hz [jv hd.c, jv hd.n, sv hd.root, sv hd.tag, iv2] 50, blk w2.hz [.bool false] 4, blk bA1 [jv xs.1] 3, blk bA0 [jv xs.2.n, jv xs.2.t, sv xs.2.ev] 55, obj D (.deferred (some []))]) (fun pre2 H => (∀ y ∈ pre2, ¬ (xs.1 < y.1 ∧ y.2.n ≤ xs.2.n)) ∧ H = [blk w0.hz [jv hd.c, jv hd.n, sv hd.root, sv hd.tag, iv1] 50, blk w1.hz [jv hd.c, jv hd.n, sv hd.root, sv hd.tag, iv2] 50, blk w2.hz [.bool false] 4, blk bA1 [jv xs.1] 3, blk bA0 [jv xs.2.n, jv xs.2.t, sv xs.2.ev] 55, obj D (.deferred (some []))]) (fun c pre2 H => c = .ret ∧ (crookF (itsM L1) (itsM L2) = true) ∧ H = [blk w0.hz [jv hd.c, jv hd.n, sv hd.root, sv hd.tag, iv1] 50, blk w1.hz [jv hd.c, jv hd.n, sv hd.root, sv hd.tag, iv2] 50, blk w2.hz [.bool true] 4, blk bA1 [jv xs.1] 3, blk bA0 [jv xs.2.n, jv xs.2.t, sv xs.2.ev] 55, obj D (.deferred (some []))]) (fun pre2 xs2 H a => ∃ (bAz0 : Nat), Fr 75 [(6, pq w2.hz), (10, pq bA1), (11, pq bA0), (14, jv xs2.1), (15, pq bAz0)] [] a ∧ (∀ y ∈ pre2, ¬ (xs.1 < y.1 ∧ y.2.n ≤ xs.2.n)) ∧ H = [blk bAz0 [jv xs2.2.n, jv xs2.2.t, sv xs2.2.ev] 55, blk w0.hz [jv hd.c, jv hd.n, sv hd.root, sv hd.tag, iv1] 50, blk w1.hz [jv hd.c, jv hd.n, sv hd.root, sv hd.tag, iv2] 50, blk w2.hz [.bool false] 4, blk bA1 [jv xs.1] 3, blk bA0 [jv xs.2.n, jv xs.2.t, sv xs.2.ev] 55, obj D (.deferred (some []))]) O call125 (ic hrec hnl Y.ext) Z Y (dw hd iv2 L2 z19 (fun x hx => (hok2.2.2 x hx).2.2) (fun H w h => hiv2.grow (hout _ h.ext))) de (fun _ => O) ⟨sm, O⟩ ?_ ?_ ?_ ?_
    ·clear Z Y
     rintro lp2 pre2 xs2 _ a w61 hnx2 ⟨hq2, rfl⟩ Z Y
     generalize (join [blk w0.hz [jv hd.c, jv hd.n, sv hd.root, sv hd.tag, iv1] 50, blk w1.hz [jv hd.c, jv hd.n, sv hd.root, sv hd.tag, iv2] 50, blk w2.hz [.bool false] 4, blk bA1 [jv xs.1] 3, blk bA0 [jv xs.2.n, jv xs.2.t, sv xs.2.ev] 55, obj D (.deferred (some []))]).foot = M2 at Y ⊢
     refine aa fun _ G56 => wla (Z.p13 62 61 6 10 11 55 73 56 57 58 13 59 60 O) O fun a Z => G56 ?_
     refine ai <| aD (Z.p5 62 6 10 11 14 O) Y (zeroValue55 _) [jv 0, jv 0, .string (⟨#[]⟩)] O fun a w62 Z Y => az 0 Z Y [jv xs2.2.n, jv xs2.2.t, sv xs2.2.ev] O (sizeOf55 _) fun a w63 Z Y => ab ?_
     exact ⟨_, ⟨w61.hz, Z.pick [6, 10, 11, 14, 15], hq2, O⟩, Y⟩
    ·rintro lp2 pre2 xs2 _ a w64 hnx2 ⟨bAz0, Z, hq2, rfl⟩ hout9 hrec2 hnl2 Y
     clear hrec2 hnl2
     generalize (join [blk bAz0 [jv xs2.2.n, jv xs2.2.t, sv xs2.2.ev] 55, blk w0.hz [jv hd.c, jv hd.n, sv hd.root, sv hd.tag, iv1] 50, blk w1.hz [jv hd.c, jv hd.n, sv hd.root, sv hd.tag, iv2] 50, blk w2.hz [.bool false] 4, blk bA1 [jv xs.1] 3, blk bA0 [jv xs.2.n, jv xs.2.t, sv xs.2.ev] 55, obj D (.deferred (some []))]).foot = M2 at Y hout9 ⊢
     have hout := fun w (h : Ext M2 w64 w) => hout w (hout9 w h)
     refine ar <| aa fun _ G57 => nv Z <| xJ (ld Y 4 O O (isAgg3 _) O) <| xK O <| xJ (v_lt O O) <| xK O <| fun a Z => ?_
     rcases Decidable.em (xs.1 < xs2.1) with hb21 | hb21
     ·rw [xS hb21] at Z
      refine nv Z <| xM (ac (v := pq bA0) O kr) <| xM (ld Y 5 O O (isAgg3 _) O) <| xM (ac (v := pq bAz0) O kr) <| xM (ld Y 0 O O (isAgg3 _) O) <| xM (v_ge O O) <| xJ (ax O O) <| fun a Z => G57 ?_
      replace Z := Z.p2 6 72 O
      replace Y := Y.k6 126 O
      refine aA Z O (fun hc22 => ?_) (fun hc22 => ?_)
      ·refine aa fun _ G58 => az 2 Z Y [.bool true] O (sizeOf4 _) fun a w65 Z Y => G58 <| ap ?_
       exact ⟨_, ⟨O, tU (hT (eO hnx) (eO hnx2) om om), O⟩, Y.select [0, 1, 2, 3, 4, 5] de⟩
      have hnt : ¬ (xs.1 < xs2.1 ∧ xs2.2.n ≤ xs.2.n) := by omega
      refine au ?_
      exact ⟨_, ⟨bY hq2 hnt, O⟩, Y.select [0, 1, 2, 3, 4, 5] de⟩
     rw [xW hb21] at Z
     have hnt : ¬ (xs.1 < xs2.1 ∧ xs2.2.n ≤ xs.2.n) := by omega
     refine nv Z <| xN <| xN <| xN <| xN <| xN <| xJ (ak O O) <| fun a Z => G57 ?_
     replace Z := Z.p2 6 72 O
     replace Y := Y.k6 126 O
     refine aG Z O ?_
     refine au ?_
     exact ⟨_, ⟨bY hq2 hnt, O⟩, Y.select [0, 1, 2, 3, 4, 5] de⟩
    ·rintro pre2 _ _ a w66 ⟨rfl, rfl⟩ ⟨hq2, rfl⟩ Y Z
     replace Z := Z.p11 6 10 11 55 73 56 57 58 13 59 60 O
     replace Y := Y.n7 O
     refine G53 <| ai <| nv Z <| xJ ((aP O O de).asi (m' := 2) O) <| xK O <| fun a Z => ab <| bM <| aa fun _ G59 => wlv Z ((v_lt O O).asb (b' := false) O) fun a Z => G59 <| ah fun _ G60 => ?_
     refine aG Z O ?_
     refine aO ?_
     exact ⟨_, ⟨bY ho2 ⟨hq1, hq2⟩, O⟩, Y.select [0, 1, 2, 5] de⟩
    ·rintro _ pre2 _ _ a w67 rfl ⟨rfl, hhit, rfl⟩ Y Z
     replace Z := Z.p11 6 10 11 55 73 56 57 58 13 59 60 O
     replace Y := Y.n7 O
     refine ap ?_
     exact ⟨_, ⟨O, hhit, O⟩, Y.select [0, 1, 2, 5] de⟩
   ·rintro _ pre2 _ _ a w68 rfl ⟨rfl, hhit, rfl⟩ Y Z
    replace Z := Z.p8 6 10 11 55 56 13 59 60 O
    replace Y := Y.n7 O
    refine ap ?_
    exact ⟨_, ⟨O, hhit, O⟩, Y.select [0, 1, 2, 5] de⟩
  ·rintro D2 pre _ _ a w69 ⟨rfl, rfl⟩ ⟨ho2, rfl⟩ Y Z
   replace Z := Z.p11 4 5 6 45 74 46 47 48 9 49 50 O
   replace Y := Y.n6 O
   refine G38 <| ai <| nv Z <| xJ ((aP O O de).asi (m' := 2) O) <| xK O <| fun a Z => ab <| bM <| aa fun _ G61 => wlv Z ((v_lt O O).asb (b' := false) O) fun a Z => G61 <| ah fun _ G62 => ?_
   refine aG Z O ?_
   refine aO <| G9 <| aa fun _ G63 => az 3 Z Y [.bool false] O (sizeOf4 _) fun a w70 Z Y => G63 ?_
   replace Z := Z.p1 6 O
   replace Y := Y.k5 31 O
   refine ap ?_
   have hD2 := Y.g 0 rfl
   replace Y := Y.unmark (i := 0) (o' := .deferred none) O
   have hD := Y.g 3 rfl
   replace Y := Y.unmark (i := 3) (o' := .deferred none) O
   replace Y := Y.n3 O
   refine nA Z hD2 hD results30 (al O (aH (Y.g 2 O) (isAgg4 _)) ae) ?_
   exact ⟨by simp only [retv]; rw [ux hna hnb ho1 ho2]; try rfl, Y.ext⟩
  ·rintro D2 _ pre _ _ a w71 rfl ⟨rfl, hhit, rfl⟩ Y Z
   replace Z := Z.p11 4 5 6 45 74 46 47 48 9 49 50 O
   replace Y := Y.n6 O
   refine ap ?_
   have hD2 := Y.g 0 rfl
   replace Y := Y.unmark (i := 0) (o' := .deferred none) O
   have hD := Y.g 3 rfl
   replace Y := Y.unmark (i := 3) (o' := .deferred none) O
   replace Y := Y.n4 O
   refine nA Z hD2 hD results30 (al O (aH (Y.g 2 O) (isAgg4 _)) ae) ?_
   exact ⟨by simp only [retv]; rw [hhit]; try rfl, Y.ext⟩
 ·rintro D _ pre _ _ a w72 rfl ⟨rfl, hhit, rfl⟩ Y Z
  replace Z := Z.p6 4 5 6 45 46 50 O
  replace Y := Y.n5 O
  refine ap ?_
  have hD := Y.g 0 rfl
  replace Y := Y.unmark (i := 0) (o' := .deferred none) O
  replace Y := Y.n4 O
  refine ct Z hD results30 (al O (aH (Y.g 2 O) (isAgg4 _)) ae) ?_
  exact ⟨by simp only [retv]; rw [hhit]; try rfl, Y.ext⟩
end Go.Proofs.YtliklcmddmpdfaaGreatDoor
namespace Go.Proofs.YtliklcmddmpdfaaGreatDoor
open Go.RowKit Go.PW _root_.Go.Proofs.Tryz
theorem vA {p : Rpl → Bool} {o : Option Int} {r : Rpl} (h : p r = false) : nextO p o r = o := by unfold nextO; rw [h]; rfl
theorem t8 {p : Rpl → Bool} {o : Option Int} {r : Rpl} (h : p r = true) (ho : o.isSome = false) : nextO p o r = some r.at_ := by
 cases o with
 | none => unfold nextO; rw [h]; rfl
 | some b => cases ho
theorem sA {p : Rpl → Bool} {o : Option Int} {r : Rpl} (h : p r = true) (hl : r.at_ < o.getD 0) : nextO p o r = some r.at_ := by
 cases o with
 | none => unfold nextO; rw [h]; rfl
 | some b =>
  have hl : r.at_ < b := hl
  unfold nextO; rw [h, show lessO (some b) r.at_ = true from xS hl]; rfl
theorem vy {p : Rpl → Bool} {o : Option Int} {r : Rpl} (ho : o.isSome = true) (hl : ¬ r.at_ < o.getD 0) : nextO p o r = o := by
 cases o with
 | none => cases ho
 | some b =>
  have hl : ¬ r.at_ < b := hl
  unfold nextO; rw [show lessO (some b) r.at_ = false from xW hl, yR]; rfl
def repsM (R : List Rpw) : List Rpl := R.map Rpw.m
theorem sD {R : List Rpw} {k : Nat} (h : k < R.length) : (repsM R).drop k = (R.getD k Rpw.z).m :: (repsM R).drop (k + 1) := by
 unfold repsM
 have h' : k < (R.map Rpw.m).length := by rw [xO]; exact h
 rw [yO h', zt, xR, xY h]; rfl
theorem iC {p : Rpl → Bool} {o o2 : Option Int} {R : List Rpw} {k : Nat} {r : Rpw} (hk : k < R.length) (hx : R.getD k Rpw.z = r) (hf : firstF p none (repsM R) = firstF p o ((repsM R).drop k)) (hn : nextO p o r.m = o2) : firstF p none (repsM R) = firstF p o2 ((repsM R).drop (k + 1)) := by
 rw [hf, sD hk, hx, ← hn]; rfl
section
variable {ko bo : Option Int} {q : Chg} {en t : Int}
theorem fd (h : bo.isSome = true) (h2 : ko.isSome = false) : pickS ko bo q en t = (3, bo.getD 0) := by cases bo <;> cases ko <;> simp_all [pickS]
theorem ff (h : bo.isSome = true) (h2 : ko.isSome = true) (h3 : bo.getD 0 ≤ ko.getD 0) : pickS ko bo q en t = (3, bo.getD 0) := by cases bo <;> cases ko <;> simp_all [pickS]
theorem eW (h : bo.isSome = false) (h2 : ko.isSome = true) : pickS ko bo q en t = (2, ko.getD 0) := by cases bo <;> cases ko <;> simp_all [pickS]
theorem eV (h : bo.isSome = true) (h2 : ko.isSome = true) (h3 : ¬ bo.getD 0 ≤ ko.getD 0) : pickS ko bo q en t = (2, ko.getD 0) := by
 cases bo <;> cases ko <;> simp_all [pickS]
theorem fU (h : bo.isSome = false) (h2 : ko.isSome = false) (h3 : en ≤ t) : pickS ko bo q en t = (3, en) := by cases bo <;> cases ko <;> simp_all [pickS]
theorem f9 (h : bo.isSome = false) (h2 : ko.isSome = false) (h3 : ¬ en ≤ t) : pickS ko bo q en t = (1, q.a) := by
 cases bo <;> cases ko <;> simp_all [pickS]
end
theorem vM {q : Chg} (h : q.ok = true) : (0 ≤ q.h ∧ q.h ≤ 63) ∧ (0 ≤ q.c ∧ q.c ≤ 7) ∧ (0 ≤ q.n ∧ q.n ≤ 99999999) ∧ (0 ≤ q.a ∧ q.a ≤ 10000000) ∧ 0 ≤ q.t ∧ q.t ≤ q.a := by
 simp only [Chg.ok, inB, xP, xT] at h; omega
theorem lh {key : By} {lim t : Int} {q : Chg} {n : Nat} (h : eS key lim q n t = true) : key.length = 32 ∧ (1 ≤ lim ∧ lim ≤ 1000000) ∧ q.ok = true ∧ n ≤ 10 ∧ q.a ≤ t ∧ t ≤ 11000000 := by
 simp only [eS, inB, xP, xT] at h
 exact ⟨h.1.1.1.1, h.1.1.1.2, h.1.1.2, h.1.2, h.2⟩
theorem rT (key : By) (hd : Hd) (c : Int) (lv : Value) (l : List Cas) (w0 : World) (hlv : SlAt w0 lv 3 (l.map Cas.cells)) (hk32 : key.length = 32) (hdoc : docOk c l = true) (hhd : hdOf sha key c (entC l) l.length = hd) (hk0 : (blk 0 (kOf.map wv) 258).ok w0) :
  Ret Tryz.prog 23 #[sv key, .agg #[jv c, lv]] w0 fun v w => v = .tuple #[.agg #[jv hd.c, jv hd.n, sv hd.root, sv hd.tag], jv 0] ∧ Ext No w0 w := by
 have hll := ja hdoc
 have hcb := fx hdoc
 have hreg := jK hdoc
 refine zM func23 O ntmps23 (lb O) fun a Z Y => ?_
 refine aa fun _ G1 => aS Z Y O [jv c, lv] O fun a w1 Z Y => aD Z Y (zeroValue47 _) [jv 0, jv 0, .string (⟨#[]⟩), .string (⟨#[]⟩)] O fun a w2 Z Y => wla Z O fun a Z => G1 <| ah fun _ G2 => ?_
 refine aa fun _ G3 => wlv Z (ao (Y.g 1 O) O (isAgg32 _) (sizeOf32 _)) fun a Z => aw Z Y call31 O (cw hdoc (iA c lv l _ (Y.arg hlv))) fun a w3 Z Y => wlv Z ((bE O).asb (b' := false) O) fun a Z => G3 <| aG Z O ?_
 refine au <| G2 <| ah fun _ G4 => aL (aN fun w4 hxz => ?_)
 replace Y := Y.grow hxz
 refine aU (k := 0) 12 [9, 11] Z ?_
 replace Z := Z.p8 0 1 3 4 5 8 9 10 O
 refine eb 10 11 47 [jv 0, jv 0, .string (⟨#[]⟩), .string (⟨#[]⟩)] [jv hd.c, jv hd.n, sv hd.root, sv hd.tag] 12 [[], [], [1], [], [3], [4], [0, 2, 5], [6], [7], [7], [], [8, 10]] (fun i => match i with | 0 => pv (sv key) | 1 => pv (.agg #[jv c, lv]) | 2 => pm (fun v : Value => .agg #[jv c, v]) (fun v => [own v 9 1 ((entC l).map fun s => [sv s])]) (fun _ => True) | 3 => pv (pw2 w0.hz 1) | 4 => pv (lv) | 5 => pv (jv (l.length : Int)) | 6 => pv (.tuple #[.agg #[jv hd.c, jv hd.n, sv hd.root, sv hd.tag], jv 0]) | 7 => pv (.tuple #[.agg #[jv hd.c, jv hd.n, sv hd.root, sv hd.tag], jv 0]) | 8 => pv (.agg #[jv hd.c, jv hd.n, sv hd.root, sv hd.tag]) | 9 => pv (jv 0) | 10 => fun v E => ∃ b, v = ptr b ∧ E = [] | 11 => fun v E => v = undef ∧ E = [] | _ => fun _ _ => False) Z (H := [blk w1.hz [jv 0, jv 0, .string (⟨#[]⟩), .string (⟨#[]⟩)] 47, blk w0.hz [jv c, lv] 32]) Y kr kr kr kr de de de de de ?_ (fun v E h => h) ⟨O, O⟩ (fun v E => Iff.rfl) ?_ ?_ ?_ ?_
 ·intro i v E h
  match i, h with
  | 0, _ => exact by decide
  | 1, _ => exact by decide
  | 2, _ => exact by decide
  | 3, _ => exact by decide
  | 4, _ => exact by decide
  | 5, _ => exact by decide
  | 6, _ => exact by decide
  | 7, _ => exact by decide
  | 8, _ => exact by decide
  | 9, _ => exact by decide
  | 10, _ => exact by decide
  | 11, _ => exact by decide
  | i + 12, h => exact h.elim
 ·intro i hi hia hij e
  match i, hi, hia, hij with
  | 0, _, _, _ => exact fun w Y => OpV.g (ay O)
  | 1, _, _, _ => exact fun w Y => OpV.g (ao (Y.g 2 O) O (isAgg32 _) (sizeOf32 _))
  | 2, _, _, _ =>
   rintro _ _ ⟨rfl, rfl⟩
   intro w Y
   exact fb call72 O (qr c lv l _ (Y.arg hlv) om)
  | 3, _, _, _ => exact fun w Y => OpV.g (ac (v := pw2 w0.hz 1) O kr)
  | 4, _, _, _ =>
   rintro _ _ ⟨rfl, rfl⟩
   intro w Y
   exact OpV.g (ld Y 2 O O (isAgg30 _) O)
  | 5, _, _, _ =>
   rintro _ _ ⟨rfl, rfl⟩
   intro w Y
   exact OpV.g ((aI (sT := 30) (Y.arg hlv) O O (runUnderlying30 _)).asi (m' := (l.length : Int)) Ai)
  | 6, _, _, _ =>
   rintro _ _ ⟨rfl, rfl⟩ _ _ ⟨ev2, rfl, -, rfl⟩ _ _ ⟨rfl, rfl⟩
   intro w Y
   exact bF call73 O (mH key l.length hd c ev2 (entC l) _ (Y.ow 0 O) hk32 hreg (by rw [dT]; omega) hhd (Y.keepb hk0))
  | 7, _, _, _ =>
   rintro _ _ ⟨rfl, rfl⟩
   intro w Y
   exact OpV.g (ay O)
  | 8, _, _, _ =>
   rintro _ _ ⟨rfl, rfl⟩
   intro w Y
   exact OpV.g (aq O O)
  | 9, _, _, _ =>
   rintro _ _ ⟨rfl, rfl⟩
   intro w Y
   exact OpV.g (aq O O)
  | 10, _, h, _ => exact absurd O h
  | 11, _, _, h => exact absurd O h
  | i + 12, h, _, _ => exact absurd h om
 ·exact fun Lv w => eC (zeroValue47 _)
 ·rintro _ _ ⟨rfl, rfl⟩ _ _ ⟨b1, rfl, rfl⟩
  intro b hb w h
  have hb : some (ptr b1) = some (ptr b) := hb
  cases hb
  exact dI O O h (sizeOf47 _) O (lb O) O
 clear Z Y
 rintro bq _ _ ⟨⟨rfl, rfl⟩, -⟩ _ _ ⟨⟨rfl, rfl⟩, -⟩ _ _ ⟨⟨ev2, rfl, -, rfl⟩, -⟩ _ _ ⟨⟨rfl, rfl⟩, -⟩ _ _ ⟨⟨rfl, rfl⟩, -⟩ _ _ ⟨⟨rfl, rfl⟩, -⟩ _ _ ⟨⟨rfl, rfl⟩, -⟩ _ _ ⟨⟨rfl, rfl⟩, -⟩ _ _ ⟨⟨rfl, rfl⟩, -⟩ _ _ ⟨⟨rfl, rfl⟩, -⟩ _ _ ⟨⟨b1, rfl, rfl⟩, hva⟩ a w5 Z Y
 obtain rfl : b1 = bq := fN (hva rfl)
 replace Z : Fr 26 [(13, _), (14, _), (15, _), (16, _), (17, _), (18, _), (19, _), (12, _), (20, _), (21, _), (6, _), (0, _), (1, _), (3, _), (4, _), (5, _), (8, _), (9, _), (10, _)] [] a := Z
 try dsimp only at Y
 replace Y := Y.n4 O
 refine ab <| aM (k := 12) 13 [12] ?_
 refine wla Z O fun a Z => ab <| aT <| G4 ?_
 replace Y := Y.k2 6 O
 refine ah fun _ G5 => aa fun _ G6 => nv (Z.p4 4 5 6 7 O) <| xK O <| xJ ((v_ne O O).asb (b' := false) O) <| fun a Z => G6 <| aG Z O ?_
 refine au <| G5 <| aa fun _ G7 => wlv Z (ao (Y.g 0 O) O (isAgg47 _) (sizeOf47 _)) fun a Z => az 1 Z Y [jv hd.c, jv hd.n, sv hd.root, sv hd.tag] O (sizeOf47 _) fun a w6 Z Y => wla Z O fun a Z => G7 <| ap ?_
 refine am Z results23 (al O (bj (Y.g 1 O) (isAgg47 _) (sizeOf47 _)) (ag O ae)) ?_
 exact ⟨by rfl, Y.ext⟩
theorem fm (key : By) (hd : Hd) (c : Int) (lv : Value) (l : List Cas) (num : Int) (w0 : World) (hlv : SlAt w0 lv 3 (l.map Cas.cells)) (hk32 : key.length = 32) (hdoc : docOk c l = true) (hhd : hdOf sha key c (entC l) l.length = hd) (hnum : 0 ≤ num ∧ num ≤ 99999999) (hk0 : (blk 0 (kOf.map wv) 258).ok w0) :
  Ret Tryz.prog 22 #[sv key, .agg #[jv c, lv], jv num] w0 (MemR w0 (fun x : Value × List Itw => .tuple #[.agg #[jv hd.c, jv hd.n, sv hd.root, sv hd.tag, x.1], jv 0]) (fun x => [itsE x.1 x.2]) (fun x => itsM x.2 = showIs sha (entC l) l.length (ansIx l num))) := by
 have hll := ja hdoc
 have hcb := fx hdoc
 have hreg := jK hdoc
 have hle := go num l
 have hle9 := qV l num
 refine zO func22 O ntmps22 (lb O) fun a Z Y => ?_
 refine aa fun _ G1 => aS Z Y O [jv c, lv] O fun a w1 Z Y => aD Z Y (zeroValue50 _) [jv 0, jv 0, .string (⟨#[]⟩), .string (⟨#[]⟩), .slice none 0 0] O fun a w2 Z Y => wla Z O fun a Z => G1 <| ah fun _ G2 => ?_
 refine aa fun _ G3 => wlv Z (ao (Y.g 1 O) O (isAgg32 _) (sizeOf32 _)) fun a Z => aw Z Y call31 O (cw hdoc (iA c lv l _ (Y.arg hlv))) fun a w3 Z Y => nv Z <| xJ ((bE O).asb (b' := false) O) <| xK O <| xM (ay O) <| fun a Z => aF Z Y call49 O (cw (show inB num 0 99999999 = true from by simp only [inB, xP, xT]; omega) (di num 0 99999999 _)) fun a w4 Z Y => nv Z <| xM ((bE O).asb (b' := false) O) <| xJ (ak O O) <| fun a Z => G3 ?_
 replace Z := Z.p6 0 2 4 6 7 22 O
 refine aG Z O ?_
 refine au <| G2 <| aa fun _ G4 => nv Z <| xJ (ac (v := pw2 w0.hz 1) O kr) <| xJ (ld Y 1 O O (isAgg30 _) O) <| xK O <| fun a Z => aw Z Y call70 O (o5 lv l num _ (Y.arg hlv) (gz hdoc) hnum) fun a w5 Z Y => nv Z <| xK O <| xJ (aq O O) <| xJ (aq O O) <| xL O <| xL O <| fun a Z => G4 ?_
 refine aa fun _ G5 => wla (Z.p6 0 4 6 7 8 9 O) O fun a Z => G5 <| ah fun _ G6 => ?_
 refine aa fun _ G7 => wlm Z O fun a Z => G7 <| mN (fun a w => ∃ (av : Value), Fr 67 [(0, sv key), (4, pq w0.hz), (6, pq w1.hz), (7, jv 0), (10, av)] [] a ∧ St No w0 [own av 3 1 ((ansIx l num).map fun n => [jv n]), blk w1.hz [jv 0, jv 0, .string (⟨#[]⟩), .string (⟨#[]⟩), .slice none 0 0] 50, blk w0.hz [jv c, lv] 32] w) ?_ ?_
 ·refine bt Z O (fun hc1 => ?_) (fun hc1 => ?_)
  ·have hhit := hc1
   refine ai <| wlm Z O fun a Z => aE (E := 3) (sz := 1) O [[jv (lowC num l : Int)]] kr sm O de de Z Y fun a w6 Z Y => wla Z O fun a Z => ab ?_
   replace Y : St No w0 [own (.slice (some ⟨w5.hz, 0, none⟩) 1 1) 3 1 ((ansIx l num).map fun n => [jv n]), blk w1.hz [jv 0, jv 0, .string (⟨#[]⟩), .string (⟨#[]⟩), .slice none 0 0] 50, blk w0.hz [jv c, lv] 32] w6 := by rw [show ansIx l num = [(lowC num l : Int)] from yl hhit]; exact Y
   exact ⟨(.slice (some ⟨w5.hz, 0, none⟩) 1 1), Z.pick [0, 4, 6, 7, 10], Y.select [0, 1, 2] de⟩
  have hhit := hc1
  refine aa fun _ G8 => nv Z <| xK O <| xJ (bH O O ⟨om, om⟩) <| xK O <| xJ (aX (v := .agg #[jv ((lowC num l : Int) - 1), jv (lowC num l : Int)]) O kr) <| xK O <| fun a Z => G8 ?_
  replace Z := Z.p7 0 4 6 7 10 37 38 O
  refine ar <| eF 4 ?_
  refine bM <| aa fun _ G9 => wlv Z ((v_lt O O).asb (b' := true) O) fun a Z => G9 <| ah fun _ G10 => ?_
  refine aK Z O ?_
  refine au <| G10 <| ah fun _ G11 => ar <| aa fun _ G12 => nv Z <| xJ (ch (v := jv ((lowC num l : Int) - 1)) O O kr) <| xL O <| fun a Z => G12 <| aa fun _ G13 => ?_
  refine nv Z <| xK O <| xJ (ac (v := pw2 w0.hz 1) O kr) <| xJ (ld Y 1 O O (isAgg30 _) O) <| xJ ((aI (sT := 30) (Y.arg hlv) O O (runUnderlying30 _)).asi (m' := (l.length : Int)) Ai) <| xJ (bH O O ⟨om, om⟩) <| fun a Z => aw Z Y call49 O (di ((lowC num l : Int) - 1) 0 ((l.length : Int) - 1) _) fun a w7 Z Y => G13 ?_
  replace Z := Z.p9 0 4 6 7 10 37 38 12 46 O
  refine bt Z O (fun hc2 => ?_) (fun hc2 => ?_)
  ·have hb1 : 0 < lowC num l := by have h9 := hc2; simp only [inB, xP, xT] at h9; omega
   refine ai <| nv Z <| xK O <| xK O <| fun a Z => aE (E := 3) (sz := 1) O [[jv ((lowC num l : Int) - 1)]] kr sm O de de Z Y fun a w8 Z Y => ?_
   replace Y : St No w0 (own (.slice none 0 0) 3 1 [] :: [_, _, _]) w8 := Y.nil_own
   refine aY (i := 0) (sT := 24) (inf := Tryz.t3) (z := jv 0) (b := 0) (off := 0) (m := 0) (c := 0) O O O (Y.ow 1 O) sm underlying24 O O O O de z6 Ad Ad de Z Y fun a w9 s3 Z Y _ => wla Z O fun a Z => ab <| G11 ?_
   replace Y := Y.k3 13 O
   refine ai <| nv (Z.p7 0 4 6 7 37 38 10 O) <| xJ ((aP O O de).asi (m' := 1) O) <| xK O <| fun a Z => ab <| bM <| aa fun _ G14 => wlv Z ((v_lt O O).asb (b' := true) O) fun a Z => G14 <| ah fun _ G15 => ?_
   refine aK Z O ?_
   refine au <| G15 <| ah fun _ G16 => ar <| aa fun _ G17 => nv Z <| xJ (ch (v := jv (lowC num l : Int)) O O kr) <| xL O <| fun a Z => G17 <| aa fun _ G18 => ?_
   refine nv Z <| xK O <| xJ (ac (v := pw2 w0.hz 1) O kr) <| xJ (ld Y 2 O O (isAgg30 _) O) <| xJ ((aI (sT := 30) (Y.arg hlv) O O (runUnderlying30 _)).asi (m' := (l.length : Int)) Ai) <| xJ (bH O O ⟨om, om⟩) <| fun a Z => aw Z Y call49 O (di (lowC num l : Int) 0 ((l.length : Int) - 1) _) fun a w10 Z Y => G18 ?_
   replace Z := Z.p9 0 4 6 7 37 10 38 12 46 O
   refine bt Z O (fun hc4 => ?_) (fun hc4 => ?_)
   ·have hb2 : lowC num l < l.length := by have h9 := hc4; simp only [inB, xP, xT] at h9; omega
    refine ai <| nv Z <| xK O <| xK O <| fun a Z => aE (E := 3) (sz := 1) O [[jv (lowC num l : Int)]] kr sm O de de Z Y fun a w11 Z Y => aY (i := 1) (sT := 24) (inf := Tryz.t3) (z := jv 0) (b := 0) (off := 0) (m := 0) (c := 0) O O O (Y.ow 0 O) sm underlying24 O O O O de z6 Ad Ad de Z Y fun a w12 s5 Z Y _ => wla Z O fun a Z => ab <| G16 ?_
    replace Y := Y.k3 14 O
    refine ai <| nv (Z.p7 0 4 6 7 37 38 10 O) <| xJ ((aP O O de).asi (m' := 2) O) <| xK O <| fun a Z => ab <| bM <| aa fun _ G19 => wlv Z ((v_lt O O).asb (b' := false) O) fun a Z => G19 <| ah fun _ G20 => ?_
    refine aG Z O ?_
    refine aO ?_
    replace Y : St No w0 [own s5 3 1 ((ansIx l num).map fun n => [jv n]), blk w1.hz [jv 0, jv 0, .string (⟨#[]⟩), .string (⟨#[]⟩), .slice none 0 0] 50, blk w0.hz [jv c, lv] 32] w12 := by rw [show ansIx l num = [((lowC num l : Int) - 1), (lowC num l : Int)] from by unfold ansIx; rw [yk (by rw [hhit]; decide), yl hb1, yl hb2]; rfl]; exact Y
    exact ⟨s5, Z.pick [0, 4, 6, 7, 10], Y.select [0, 1, 2] de⟩
   have hb2 : ¬ lowC num l < l.length := by have h9 := hc4; simp only [inB, yd, yq] at h9; omega
   refine au <| G16 <| ai <| nv Z <| xJ ((aP O O de).asi (m' := 2) O) <| xK O <| fun a Z => ab <| bM <| aa fun _ G21 => wlv Z ((v_lt O O).asb (b' := false) O) fun a Z => G21 <| ah fun _ G22 => ?_
   refine aG Z O ?_
   refine aO ?_
   replace Y : St No w0 [own s3 3 1 ((ansIx l num).map fun n => [jv n]), blk w1.hz [jv 0, jv 0, .string (⟨#[]⟩), .string (⟨#[]⟩), .slice none 0 0] 50, blk w0.hz [jv c, lv] 32] w10 := by rw [show ansIx l num = [((lowC num l : Int) - 1)] from by unfold ansIx; rw [yk (by rw [hhit]; decide), yl hb1, yk hb2]; rfl]; exact Y
   exact ⟨s3, Z.pick [0, 4, 6, 7, 10], Y.select [0, 1, 2] de⟩
  have hb1 : ¬ 0 < lowC num l := by have h9 := hc2; simp only [inB, yd, yq] at h9; omega
  refine au <| G11 <| ai <| nv Z <| xJ ((aP O O de).asi (m' := 1) O) <| xK O <| fun a Z => ab <| bM <| aa fun _ G23 => wlv Z ((v_lt O O).asb (b' := true) O) fun a Z => G23 <| ah fun _ G24 => ?_
  refine aK Z O ?_
  refine au <| G24 <| ah fun _ G25 => ar <| aa fun _ G26 => nv Z <| xJ (ch (v := jv (lowC num l : Int)) O O kr) <| xL O <| fun a Z => G26 <| aa fun _ G27 => ?_
  refine nv Z <| xK O <| xJ (ac (v := pw2 w0.hz 1) O kr) <| xJ (ld Y 1 O O (isAgg30 _) O) <| xJ ((aI (sT := 30) (Y.arg hlv) O O (runUnderlying30 _)).asi (m' := (l.length : Int)) Ai) <| xJ (bH O O ⟨om, om⟩) <| fun a Z => aw Z Y call49 O (di (lowC num l : Int) 0 ((l.length : Int) - 1) _) fun a w13 Z Y => G27 ?_
  replace Z := Z.p9 0 4 6 7 10 37 38 12 46 O
  refine bt Z O (fun hc6 => ?_) (fun hc6 => ?_)
  ·have hb2 : lowC num l < l.length := by have h9 := hc6; simp only [inB, xP, xT] at h9; omega
   refine ai <| nv Z <| xK O <| xK O <| fun a Z => aE (E := 3) (sz := 1) O [[jv (lowC num l : Int)]] kr sm O de de Z Y fun a w14 Z Y => ?_
   replace Y : St No w0 (own (.slice none 0 0) 3 1 [] :: [_, _, _]) w14 := Y.nil_own
   refine aY (i := 0) (sT := 24) (inf := Tryz.t3) (z := jv 0) (b := 0) (off := 0) (m := 0) (c := 0) O O O (Y.ow 1 O) sm underlying24 O O O O de z6 Ad Ad de Z Y fun a w15 s7 Z Y _ => wla Z O fun a Z => ab <| G25 ?_
   replace Y := Y.k3 13 O
   refine ai <| nv (Z.p7 0 4 6 7 37 38 10 O) <| xJ ((aP O O de).asi (m' := 2) O) <| xK O <| fun a Z => ab <| bM <| aa fun _ G28 => wlv Z ((v_lt O O).asb (b' := false) O) fun a Z => G28 <| ah fun _ G29 => ?_
   refine aG Z O ?_
   refine aO ?_
   replace Y : St No w0 [own s7 3 1 ((ansIx l num).map fun n => [jv n]), blk w1.hz [jv 0, jv 0, .string (⟨#[]⟩), .string (⟨#[]⟩), .slice none 0 0] 50, blk w0.hz [jv c, lv] 32] w15 := by rw [show ansIx l num = [(lowC num l : Int)] from by unfold ansIx; rw [yk (by rw [hhit]; decide), yk hb1, yl hb2]; rfl]; exact Y
   exact ⟨s7, Z.pick [0, 4, 6, 7, 10], Y.select [0, 1, 2] de⟩
  have hb2 : ¬ lowC num l < l.length := by have h9 := hc6; simp only [inB, yd, yq] at h9; omega
  refine au <| G25 <| ai <| nv Z <| xJ ((aP O O de).asi (m' := 2) O) <| xK O <| fun a Z => ab <| bM <| aa fun _ G30 => wlv Z ((v_lt O O).asb (b' := false) O) fun a Z => G30 <| ah fun _ G31 => ?_
  refine aG Z O ?_
  refine aO ?_
  replace Y : St No w0 [own (.slice none 0 0) 3 1 ([]), blk w1.hz [jv 0, jv 0, .string (⟨#[]⟩), .string (⟨#[]⟩), .slice none 0 0] 50, blk w0.hz [jv c, lv] 32] w13 := Y.nil_own
  replace Y : St No w0 [own (.slice none 0 0) 3 1 ((ansIx l num).map fun n => [jv n]), blk w1.hz [jv 0, jv 0, .string (⟨#[]⟩), .string (⟨#[]⟩), .slice none 0 0] 50, blk w0.hz [jv c, lv] 32] w13 := by rw [show ansIx l num = [] from by unfold ansIx; rw [yk (by rw [hhit]; decide), yk hb1, yk hb2]; rfl]; exact Y
  exact ⟨.slice none 0 0, Z.pick [0, 4, 6, 7, 10], Y.select [0, 1, 2] de⟩
 rintro a w16 ⟨av, Z, Y⟩
 refine G6 <| ah fun _ G32 => aL (aN fun w17 hxz => ?_)
 replace Y := Y.grow hxz
 refine aU (k := 0) 13 [10, 12] Z ?_
 replace Z := Z.p5 0 4 6 7 10 O
 refine eM 11 12 9 [(8, 7, fun u => u), (9, 8, fun u => tupAt u 0)] 50 [jv 0, jv 0, .string (⟨#[]⟩), .string (⟨#[]⟩), .slice none 0 0] (fun u => u.cells.toList) 13 [[], [], [1], [], [3], [4], [], [0, 2, 5, 6], [7], [8], [8], [], [9, 11]] (fun i => match i with | 0 => pv (sv key) | 1 => pv (.agg #[jv c, lv]) | 2 => pm (fun v : Value => .agg #[jv c, v]) (fun v => [own v 9 1 ((entC l).map fun s => [sv s])]) (fun _ => True) | 3 => pv (pw2 w0.hz 1) | 4 => pv (lv) | 5 => pv (jv (l.length : Int)) | 6 => pv (av) | 7 => pm (fun x : Value × List Itw => .tuple #[.agg #[jv hd.c, jv hd.n, sv hd.root, sv hd.tag, x.1], jv 0]) (fun x => [itsE x.1 x.2]) (fun x => itsM x.2 = showIs sha (entC l) l.length (ansIx l num)) | 8 => fun v E => (∃ sa0 sn0 sc0, v = .tuple #[.agg #[jv hd.c, jv hd.n, sv hd.root, sv hd.tag, (.slice sa0 sn0 sc0)], jv 0]) ∧ E = [] | 9 => fun v E => (∃ sa0 sn0 sc0, v = .agg #[jv hd.c, jv hd.n, sv hd.root, sv hd.tag, (.slice sa0 sn0 sc0)]) ∧ E = [] | 10 => pv (jv 0) | 11 => fun v E => ∃ b, v = ptr b ∧ E = [] | 12 => fun v E => v = undef ∧ E = [] | _ => fun _ _ => False) Z (H := [own av 3 1 ((ansIx l num).map fun n => [jv n]), blk w1.hz [jv 0, jv 0, .string (⟨#[]⟩), .string (⟨#[]⟩), .slice none 0 0] 50, blk w0.hz [jv c, lv] 32]) Y kr kr kr kr de de de de de de de kr AV ?_ (fun _ _ h => h) ⟨O, O⟩ (fun _ _ => Iff.rfl) ?_ ?_ ?_ ?_ ?_
 ·intro i v E h
  match i, h with
  | 0, _ => exact by decide
  | 1, _ => exact by decide
  | 2, _ => exact by decide
  | 3, _ => exact by decide
  | 4, _ => exact by decide
  | 5, _ => exact by decide
  | 6, _ => exact by decide
  | 7, _ => exact by decide
  | 8, _ => exact by decide
  | 9, _ => exact by decide
  | 10, _ => exact by decide
  | 11, _ => exact by decide
  | 12, _ => exact by decide
  | i + 13, h => exact h.elim
 ·intro i hi hia hij hil e
  match i, hi, hia, hij, hil with
  | 0, _, _, _, _ =>
   intro hl9 w Y
   exact OpV.g (ay O)
  | 1, _, _, _, _ =>
   intro hl9 w Y
   exact OpV.g (ao (Y.g 3 O) O (isAgg32 _) (sizeOf32 _))
  | 2, _, _, _, _ =>
   rintro _ _ ⟨rfl, rfl⟩
   intro hl9 w Y
   exact fb call72 O (qr c lv l _ (Y.arg hlv) om)
  | 3, _, _, _, _ =>
   intro hl9 w Y
   exact OpV.g (ac (v := pw2 w0.hz 1) O kr)
  | 4, _, _, _, _ =>
   rintro _ _ ⟨rfl, rfl⟩
   intro hl9 w Y
   exact OpV.g (ld Y 3 O O (isAgg30 _) O)
  | 5, _, _, _, _ =>
   rintro _ _ ⟨rfl, rfl⟩
   intro hl9 w Y
   exact OpV.g ((aI (sT := 30) (Y.arg hlv) O O (runUnderlying30 _)).asi (m' := (l.length : Int)) Ai)
  | 6, _, _, _, _ =>
   intro hl9 w Y
   exact OpV.g (ay O)
  | 7, _, _, _, _ =>
   rintro _ _ ⟨rfl, rfl⟩ _ _ ⟨ev9, rfl, -, rfl⟩ _ _ ⟨rfl, rfl⟩ _ _ ⟨rfl, rfl⟩
   intro hl9 w Y
   exact fb call26 O (iU key l.length hd av (ansIx l num) c ev9 (entC l) _ (Y.ow 0 O) (Y.ow 2 O) hk32 hreg (by rw [dT]; omega) (dh l num) (yL (qV l num) de) hhd (Y.keepb hk0))
  | 8, _, _, _, h => exact absurd de h
  | 9, _, _, _, h => exact absurd de h
  | 10, _, _, _, _ =>
   rintro _ _ ⟨⟨sa0, sn0, sc0, rfl⟩, rfl⟩
   intro hl9 w Y
   exact OpV.g (aq O O)
  | 11, _, h, _, _ => exact absurd O h
  | 12, _, _, h, _ => exact absurd O h
  | i + 13, h, _, _, _ => exact absurd h om
 ·intro x hx e
  simp only [xX, yc, yz] at hx
  rcases hx with rfl | rfl
  ·rintro _ _ ⟨⟨iv10, Liv10⟩, rfl, hL, rfl⟩
   intro w Y
   obtain ⟨sa0, sn0, sc0, rfl⟩ := cX (bB (k := 0) Y rfl).1
   exact OpV.hopv (OpV.g (ay O)) ⟨⟨_, _, _, O⟩, O⟩
  ·rintro _ _ ⟨⟨sa0, sn0, sc0, rfl⟩, rfl⟩
   intro w Y
   exact OpV.hopv (OpV.g (aq O O)) ⟨⟨_, _, _, O⟩, O⟩
 ·exact fun Lv w => eC (zeroValue50 _)
 ·rintro _ _ ⟨⟨sa0, sn0, sc0, rfl⟩, rfl⟩ _ _ ⟨b8, rfl, rfl⟩
  intro b hb u hu w h
  have hb : some (ptr b8) = some (ptr b) := hb
  cases hb
  have hu : some (.agg #[jv hd.c, jv hd.n, sv hd.root, sv hd.tag, (.slice sa0 sn0 sc0)]) = some u := hu
  cases hu
  exact dI O O h (sizeOf50 _) O (lb O) O
 clear Z Y
 rintro V bq hva hlk _ _ ⟨⟨rfl, rfl⟩, -⟩ _ _ ⟨⟨rfl, rfl⟩, -⟩ _ _ ⟨⟨ev9, rfl, -, rfl⟩, -⟩ _ _ ⟨⟨rfl, rfl⟩, -⟩ _ _ ⟨⟨rfl, rfl⟩, -⟩ _ _ ⟨⟨rfl, rfl⟩, -⟩ _ _ ⟨⟨rfl, rfl⟩, -⟩ _ _ ⟨⟨⟨iv10, Liv10⟩, rfl, hL, rfl⟩, hv7_⟩ v8_ _ ⟨⟨-, rfl⟩, hv8_⟩ v9_ _ ⟨⟨-, rfl⟩, hv9_⟩ _ _ ⟨⟨rfl, rfl⟩, -⟩ _ _ ⟨⟨b8, rfl, rfl⟩, hva9⟩ a w18 Z Y
 obtain rfl : b8 = bq := fN (hva9.trans hva)
 obtain rfl : v8_ = .tuple #[.agg #[jv hd.c, jv hd.n, sv hd.root, sv hd.tag, iv10], jv 0] := hv8_.trans ((hlk 0 _ rfl).trans (yr (fun u => u) hv7_.symm))
 obtain rfl : v9_ = .agg #[jv hd.c, jv hd.n, sv hd.root, sv hd.tag, iv10] := hv9_.trans ((hlk 1 _ rfl).trans (yr (fun u => tupAt u 0) hv8_.symm))
 rw [← hv9_] at Y
 replace Z : Fr 67 [(53, _), (54, _), (55, _), (56, _), (57, _), (58, _), (59, _), (60, _), (52, _), (61, _), (62, _), (13, _), (0, _), (4, _), (6, _), (7, _), (10, _)] [] a := Z
 try dsimp only at Y
 replace Y := Y.n6 O
 clear hva9 hva hlk hv9_ hv8_ hv7_
 refine ab <| aM (k := 13) 14 [13] ?_
 refine wla Z O fun a Z => ab <| aT <| G32 ?_
 replace Y := Y.k4 30 O
 refine ah fun _ G33 => aa fun _ G34 => nv (Z.p4 6 7 13 14 O) <| xK O <| xJ ((v_ne O O).asb (b' := false) O) <| fun a Z => G34 <| aG Z O ?_
 refine au <| G33 <| aa fun _ G35 => wlv Z (ao (Y.g 1 O) O (isAgg50 _) (sizeOf50 _)) fun a Z => bp (us := [jv hd.c, jv hd.n, sv hd.root, sv hd.tag, iv10]) 3 Z Y O O O (sizeOf50 _) (by intro z hz; simp only [xX, yc, yz] at hz; rcases hz with rfl | rfl | rfl | rfl | rfl <;> first | rfl | exact SlAt.one (bB (k := 0) Y O).1) (lb O) (ds := [jv hd.c, jv hd.n, sv hd.root, sv hd.tag, iv10]) O O fun a w19 Z Y => ?_
 refine wla Z O fun a Z => G35 <| ap ?_
 refine am Z results22 (al O (bj (Y.g 3 O) (isAgg50 _) (sizeOf50 _)) (ag O ae)) ?_
 exact ⟨(iv10, Liv10), O, hL, Y.ext, St.out (E := [itsE iv10 Liv10]) (H := []) (Y.select [0] de)⟩
theorem qf (r : Rpw) (w0 : World) :
  Ret Tryz.prog 53 #[.agg #[jv r.at_, jv r.hd.c, jv r.hd.n, sv r.hd.root, sv r.hd.tag, r.iv]] w0 fun v w => v = jv r.at_ ∧ Ext No w0 w := by
 refine zN func53 O ntmps53 (lb O) fun a Z Y => ?_
 refine aa fun _ G1 => aS Z Y O [jv r.at_, jv r.hd.c, jv r.hd.n, sv r.hd.root, sv r.hd.tag, r.iv] O fun a w1 Z Y => wla Z O fun a Z => G1 <| aa fun _ G2 => ?_
 refine nv Z <| xJ (ac (v := pq w0.hz) O kr) <| xJ (ld Y 0 O O (isAgg3 _) O) <| xL O <| fun a Z => G2 <| ap ?_
 refine am Z results53 (ag O ae) ?_
 exact ⟨by rfl, Y.ext⟩
theorem oo (lv : Value) (R : List Rpw) (p : Rpl → Bool) (g : FuncId) (caps : List Value) (w0 : World) (hen : ∀ args w, (callFunc g args).run Tryz.prog w = .ok (.enter g args) w) (hlv : RepAt w0 lv R) (hcl : ∀ (r : Rpw) (w : World), r ∈ R → Ext No w0 w → Ret Tryz.prog g (.agg r.cells.toArray :: caps).toArray w fun v w' => v = .bool (p r.m) ∧ Ext No w w') :
  Ret Tryz.prog 54 #[lv, .func (.func 53) #[] #[], .func (.func g) #[] caps.toArray] w0 fun v w => v = .tuple #[jv ((firstF p none (repsM R)).getD 0), .bool ((firstF p none (repsM R)).isSome)] ∧ Ext No w0 w := by
 have hxb := hlv.len
 refine zO func54 O ntmps54 (lb O) fun a Z Y => ?_
 refine aa fun _ G1 => nv Z <| xL O <| xL O <| fun a Z => G1 <| aa fun _ G2 => ?_
 refine nv Z <| xL O <| xL O <| fun a Z => G2 <| ah fun _ G3 => ?_
 refine aa fun _ G4 => nv Z <| xK O <| xJ ((aI (sT := 38) (Y.arg hlv.1) O O (runUnderlying38 _)).asi (m' := (R.length : Int)) Ai) <| xK O <| fun a Z => G4 <| ar ?_
 refine aW (fun m a w => ∃ (k : Nat) (o : Option Int), m = R.length - k ∧ (k ≤ R.length) ∧ (firstF p none (repsM R) = firstF p o ((repsM R).drop k)) ∧ Fr 38 [(1, .func (.func 53) #[] #[]), (2, .func (.func g) #[] caps.toArray), (6, jv 0), (7, .bool false), (12, lv), (13, jv (R.length : Int)), (14, jv (k : Int)), (8, jv (o.getD 0)), (9, .bool o.isSome)] [] a ∧ St No w0 [] w) _ ⟨0, none, O, ym _, O, Z.pick [1, 2, 6, 7, 12, 13, 14, 8, 9], Y.select [] de⟩ ?_
 rintro _ a w1 ⟨k, o, rfl, hk, hf, Z, Y⟩
 refine aa fun _ G5 => wlv Z (v_lt O O) fun a Z => G5 <| ah fun _ G6 => ?_
 refine aA Z O (fun hc1 => ?_) (fun hc1 => ?_)
 ·have hkx : k < R.length := by omega
  refine au <| G6 <| ah fun _ G7 => ar ?_
  obtain ⟨⟨ra, hd, iv, L⟩, hxr⟩ : ∃ r, R.getD k Rpw.z = r := ⟨_, rfl⟩
  have hxm := bc (d := Rpw.z) hkx
  rw [hxr] at hxm
  refine aa fun _ G8 => nv Z <| xJ ((aj (i := (k : Int)) (sT := 38) (Y.arg hlv.1) O O (runUnderlying38 _) (sizeOf52 _) om zY).as (v' := slAddr lv (k * 6)) O) <| xJ ((bP (Y.arg hlv.1) (i := k) zY O (isAgg52 _) (sizeOf52 _)).as (v' := .agg #[jv ra, jv hd.c, jv hd.n, sv hd.root, sv hd.tag, iv]) (by rw [bn Rpw.z, hxr]; rfl)) <| fun a Z => aD Z Y (zeroValue52 _) [jv 0, jv 0, jv 0, .string (⟨#[]⟩), .string (⟨#[]⟩), .slice none 0 0] O fun a w2 Z Y => ?_
  refine bp (us := [jv ra, jv hd.c, jv hd.n, sv hd.root, sv hd.tag, iv]) 0 Z Y O O O (sizeOf52 _) (by intro z hz; simp only [xX, yc, yz] at hz; rcases hz with rfl | rfl | rfl | rfl | rfl | rfl <;> first | rfl | exact SlAt.one (Y.arg (hlv.2 _ hxm).1)) (lb O) (ds := [jv ra, jv hd.c, jv hd.n, sv hd.root, sv hd.tag, iv]) O O fun a w3 Z Y => ?_
  refine G8 <| aa fun _ G9 => ?_
  refine nv Z <| xK O <| xJ (ao (Y.g 0 O) O (isAgg52 _) (sizeOf52 _)) <| fun a Z => wl_r (gA (cap := caps) O hen O (hcl ⟨ra, hd, iv, L⟩ _ hxm Y.ext)) O O Z fun a v w4 hR Z => ?_
  obtain ⟨rfl, hx⟩ := hR
  have Y := Y.grow hx
  clear hx
  refine wlm Z O fun a Z => ?_
  rcases xU (p (Rpw.m (⟨ra, hd, iv, L⟩ : Rpw))) with hb2 | hb2
  ·rw [hb2] at Z
   have hp := hb2
   refine nv Z <| xM (ay O) <| xM (bE O) <| xM (ay O) <| fun a Z => ?_
   rcases xU (!o.isSome) with hb3 | hb3
   ·rw [hb3] at Z
    try simp only [qz] at hb3
    have hnx := t8 hp hb3
    refine nv Z <| xN <| xN <| xN <| xN <| xN <| xM (ax O O) <| xJ (ax O O) <| fun a Z => G9 ?_
    replace Z := Z.p11 1 2 6 7 12 13 14 8 9 11 31 O
    refine aK Z O ?_
    refine ai <| nv Z <| xK O <| xJ (ao (Y.g 0 O) O (isAgg52 _) (sizeOf52 _)) <| fun a Z => dF Z Y O call53 O (qf ⟨ra, hd, iv, L⟩ _) fun a w5 Z Y => nv Z <| xL O <| xL O <| fun a Z => ab <| G7 <| ai <| nv Z <| xJ (aP O O ⟨om, om⟩) <| xK O <| fun a Z => ab ?_
    refine ⟨_, ?_, k + 1, some ra, O, om, (iC hkx hxr hf hnx), Z.pick [1, 2, 6, 7, 12, 13, 14, 8, 9], Y.select [] de⟩
    omega
   rw [hb3] at Z
   try simp only [qz] at hb3
   have hos := hb3
   refine nv Z <| xM (ay O) <| xM (ao (Y.g 0 O) O (isAgg52 _) (sizeOf52 _)) <| fun a Z => ez Z ?_
   refine dF Z Y O call53 O (qf ⟨ra, hd, iv, L⟩ _) fun a w6 Z Y => nv Z <| xM (ay O) <| xM (v_lt O O) <| xM (ak O O) <| xJ (ax O O) <| fun a Z => G9 ?_
   replace Z := Z.p11 1 2 6 7 12 13 14 8 9 11 31 O
   refine aA Z O (fun hc4 => ?_) (fun hc4 => ?_)
   ·have hnx := sA hp (show (Rpw.m (⟨ra, hd, iv, L⟩ : Rpw)).at_ < o.getD 0 from hc4)
    refine ai <| nv Z <| xK O <| xJ (ao (Y.g 0 O) O (isAgg52 _) (sizeOf52 _)) <| fun a Z => dF Z Y O call53 O (qf ⟨ra, hd, iv, L⟩ _) fun a w7 Z Y => nv Z <| xL O <| xL O <| fun a Z => ab <| G7 <| ai <| nv Z <| xJ (aP O O ⟨om, om⟩) <| xK O <| fun a Z => ab ?_
    refine ⟨_, ?_, k + 1, some ra, O, om, (iC hkx hxr hf hnx), Z.pick [1, 2, 6, 7, 12, 13, 14, 8, 9], Y.select [] de⟩
    omega
   have hnx := vy (p := p) hos (show ¬ (Rpw.m (⟨ra, hd, iv, L⟩ : Rpw)).at_ < o.getD 0 by show ¬ ra < _; omega)
   refine au <| G7 <| ai <| nv Z <| xJ (aP O O ⟨om, om⟩) <| xK O <| fun a Z => ab ?_
   refine ⟨_, ?_, k + 1, o, O, om, (iC hkx hxr hf hnx), Z.pick [1, 2, 6, 7, 12, 13, 14, 8, 9], Y.select [] de⟩
   omega
  rw [hb2] at Z
  have hnx := vA (o := o) (show p (Rpw.m (⟨ra, hd, iv, L⟩ : Rpw)) = false from hb2)
  refine nv Z <| xN <| xN <| xN <| fun a Z => bV Z fun a Z => bV Z fun a Z => bV Z fun a Z => bV Z fun a Z => bV Z fun a Z => nv Z <| xN <| xJ (ak O O) <| fun a Z => G9 ?_
  replace Z := Z.p11 1 2 6 7 12 13 14 8 9 11 31 O
  refine aG Z O ?_
  refine au <| G7 <| ai <| nv Z <| xJ (aP O O ⟨om, om⟩) <| xK O <| fun a Z => ab ?_
  refine ⟨_, ?_, k + 1, o, O, om, (iC hkx hxr hf hnx), Z.pick [1, 2, 6, 7, 12, 13, 14, 8, 9], Y.select [] de⟩
  omega
 have hkd : (repsM R).drop k = [] := List.drop_eq_nil_of_le (by unfold repsM; rw [xO]; omega)
 rw [hkd] at hf
 refine aO <| G3 <| aa fun _ G10 => nv Z <| xK O <| xK O <| xL O <| xL O <| fun a Z => G10 ?_
 replace Z := Z.p2 6 7 O
 refine ap <| am Z results54 (ag O (ag O ae)) ?_
 exact ⟨by simp only [retv]; rw [hf]; rfl, Y.ext⟩
theorem uG (r : Rpw) (q : Chg) (en t : Int) (key : By) (b9 b15 b11 b7 : Nat) (w0 : World) (hiv : ItsAt w0 r.iv r.L) (hpf : ∀ x ∈ r.L, x.m.pf.length ≤ 1000) (hen : 0 ≤ en ∧ en ≤ 12000000) (h9 : (blk b9 [jv q.n, jv q.h, jv q.c, jv q.t, jv q.a] 36).ok w0) (h15 : (blk b15 [jv en] 3).ok w0) (h11 : (blk b11 [jv t] 3).ok w0) (h7 : (blk b7 [sv key] 9).ok w0) (hk0 : (blk 0 (kOf.map wv) 258).ok w0) :
  Ret Tryz.prog 51 #[.agg #[jv r.at_, jv r.hd.c, jv r.hd.n, sv r.hd.root, sv r.hd.tag, r.iv], pq b9, pq b15, pq b11, pq b7] w0 fun v w => v = .bool (countB sha key q en t r.m) ∧ Ext No w0 w := by
 refine zQ func51 O ntmps51 (lb O) fun a Z Y => ?_
 refine aa fun _ G1 => aS Z Y O [jv r.at_, jv r.hd.c, jv r.hd.n, sv r.hd.root, sv r.hd.tag, r.iv] O fun a w1 Z Y => wla Z O fun a Z => G1 <| aa fun _ G2 => ?_
 refine nv Z <| xJ (ac (v := pq w0.hz) O kr) <| xJ (ld Y 0 O O (isAgg3 _) O) <| xJ (ac (v := pw2 b9 4) O kr) <| xJ (bL (Y.keepb h9) O (isAgg3 _) O) <| xJ (bL (Y.keepb h15) O (isAgg3 _) O) <| xJ (bH O O ⟨om, om⟩) <| xJ (bL (Y.keepb h11) O (isAgg3 _) O) <| xJ (tn O O) <| fun a Z => aw Z Y call49 O (di r.at_ q.a (min (en - 1) t) _) fun a w2 Z Y => wlm Z O fun a Z => ?_
 rcases xU (inB r.at_ q.a (min (en - 1) t)) with hb1 | hb1
 ·rw [hb1] at Z
  refine nv Z <| xM (ac (v := pw2 w0.hz 1) O kr) <| xM (ac (v := pw2 w0.hz 1) O kr) <| xM (ac (v := pw2 w0.hz 1) O kr) <| xM (ld Y 0 O O (isAgg3 _) O) <| xM (ac (v := pw2 b9 2) O kr) <| xM (bL (Y.keepb h9) O (isAgg3 _) O) <| xM (v_eq O O) <| xJ (ax O O) <| xK O <| fun a Z => ?_
  rcases Decidable.em (r.hd.c = q.c) with hb2 | hb2
  ·rw [xS hb2] at Z
   refine nv Z <| xM (bL (Y.keepb h7) O (isAgg9 _) O) <| xM (ac (v := pw2 w0.hz 1) O kr) <| xM (bQ (ds := [jv r.hd.c, jv r.hd.n, sv r.hd.root, sv r.hd.tag, r.iv]) (Y.g 0 O) O (isAgg50 _) (sizeOf50 _) O) <| fun a Z => aF Z Y call52 O (eQ key r.hd r.iv r.L _ (cA Y hiv) hpf (Y.keepb hk0)) fun a w3 Z Y => nv Z <| xJ (ax O O) <| xL O <| fun a Z => G2 ?_
   replace Z := Z.p1 6 O
   replace Y := Y.k0 0 O
   refine ap <| am Z results51 (ag O ae) ?_
   refine ⟨?_, Y.ext⟩
   simp only [retv]
   refine yr Value.bool ?_
   unfold countB
   show _ = (inB r.at_ q.a (min (en - 1) t) && decide (r.hd.c = q.c) && checkP sha key r.hd (itsM r.L))
   rw [hb1, xS (by omega : r.hd.c = q.c)]; rfl
  rw [xW hb2] at Z
  refine nv Z <| xN <| xN <| xN <| xN <| xJ (ak O O) <| xL O <| fun a Z => G2 ?_
  replace Z := Z.p1 6 O
  replace Y := Y.k0 0 O
  refine ap <| am Z results51 (ag O ae) ?_
  refine ⟨?_, Y.ext⟩
  simp only [retv]
  refine yr Value.bool ?_
  unfold countB
  show _ = (inB r.at_ q.a (min (en - 1) t) && decide (r.hd.c = q.c) && checkP sha key r.hd (itsM r.L))
  rw [hb1, xW (by omega : ¬ r.hd.c = q.c)]; rfl
 rw [hb1] at Z
 refine nv Z <| xN <| xN <| xN <| xN <| xN <| xN <| xN <| xJ (ak O O) <| xK O <| xN <| xN <| xN <| xN <| xJ (ak O O) <| xL O <| fun a Z => G2 ?_
 replace Z := Z.p1 6 O
 replace Y := Y.k0 0 O
 refine ap <| am Z results51 (ag O ae) ?_
 refine ⟨?_, Y.ext⟩
 simp only [retv]
 refine yr Value.bool ?_
 unfold countB
 show _ = (inB r.at_ q.a (min (en - 1) t) && decide (r.hd.c = q.c) && checkP sha key r.hd (itsM r.L))
 rw [hb1]; rfl
theorem vj (kv : Value) (ks : List By) (b16 b6 : Nat) (r : Rpw) (q : Chg) (en t : Int) (key : By) (b9 b15 b11 b7 : Nat) (w0 : World) (hiv : ItsAt w0 r.iv r.L) (hpf : ∀ x ∈ r.L, x.m.pf.length ≤ 1000) (hen : 0 ≤ en ∧ en ≤ 12000000) (h9 : (blk b9 [jv q.n, jv q.h, jv q.c, jv q.t, jv q.a] 36).ok w0) (h15 : (blk b15 [jv en] 3).ok w0) (h11 : (blk b11 [jv t] 3).ok w0) (h7 : (blk b7 [sv key] 9).ok w0) (h16 : (blk b16 [.func (.func 51) #[] #[pq b9, pq b15, pq b11, pq b7]] 116).ok w0) (h6 : (blk b6 [kv] 44).ok w0) (hkv : SlAt w0 kv 1 (ks.map fun s => [sv s])) (hk0 : (blk 0 (kOf.map wv) 258).ok w0) :
  Ret Tryz.prog 55 #[.agg #[jv r.at_, jv r.hd.c, jv r.hd.n, sv r.hd.root, sv r.hd.tag, r.iv], pq b16, pq b6, pq b9] w0 fun v w => v = .bool (keptB sha ks key q en t r.m) ∧ Ext No w0 w := by
 refine zP func55 O ntmps55 (lb O) fun a Z Y => ?_
 refine aa fun _ G1 => aS Z Y O [jv r.at_, jv r.hd.c, jv r.hd.n, sv r.hd.root, sv r.hd.tag, r.iv] O fun a w1 Z Y => wla Z O fun a Z => G1 <| aa fun _ G2 => ?_
 refine nv Z <| xJ (bL (Y.keepb h16) O (isAgg116 _) O) <| xJ (ao (Y.g 0 O) O (isAgg52 _) (sizeOf52 _)) <| fun a Z => dF Z Y O call51 O (uG r q en t key b9 b15 b11 b7 _ (cA Y hiv) hpf hen (Y.keepb h9) (Y.keepb h15) (Y.keepb h11) (Y.keepb h7) (Y.keepb hk0)) fun a w2 Z Y => wlm Z O fun a Z => ?_
 rcases xU (countB sha key q en t r.m) with hb1 | hb1
 ·rw [hb1] at Z
  have hok : OkP r.hd.n r.L := iZ (key := key) (by have h9 := hb1; unfold countB at h9; rw [xP] at h9; exact h9.2)
  refine nv Z <| xM (bL (Y.keepb h6) O (isAgg44 _) O) <| xM (ao (Y.keepb h9) O (isAgg36 _) (sizeOf36 _)) <| xM (ac (v := pw2 w0.hz 1) O kr) <| xM (bQ (ds := [jv r.hd.c, jv r.hd.n, sv r.hd.root, sv r.hd.tag, r.iv]) (Y.g 0 O) O (isAgg50 _) (sizeOf50 _) O) <| fun a Z => aF Z Y call56 O (uI kv ks q r.hd r.iv r.L _ (Y.arg hkv) (cA Y hiv) hok (Y.keepb hk0)) fun a w3 Z Y => nv Z <| xJ (ax O O) <| xL O <| fun a Z => G2 ?_
  replace Z := Z.p1 5 O
  replace Y := Y.k0 0 O
  refine ap <| am Z results55 (ag O ae) ?_
  refine ⟨?_, Y.ext⟩
  simp only [retv]
  refine yr Value.bool ?_
  unfold keptB
  rw [hb1]; rfl
 rw [hb1] at Z
 refine nv Z <| xN <| xN <| xN <| xN <| xN <| xJ (ak O O) <| xL O <| fun a Z => G2 ?_
 replace Z := Z.p1 5 O
 replace Y := Y.k0 0 O
 refine ap <| am Z results55 (ag O ae) ?_
 refine ⟨?_, Y.ext⟩
 simp only [retv]
 refine yr Value.bool ?_
 unfold keptB
 rw [hb1]; rfl
theorem tb (b16 : Nat) (r : Rpw) (q : Chg) (en t : Int) (key : By) (b9 b15 b11 b7 : Nat) (w0 : World) (hiv : ItsAt w0 r.iv r.L) (hpf : ∀ x ∈ r.L, x.m.pf.length ≤ 1000) (hen : 0 ≤ en ∧ en ≤ 12000000) (h9 : (blk b9 [jv q.n, jv q.h, jv q.c, jv q.t, jv q.a] 36).ok w0) (h15 : (blk b15 [jv en] 3).ok w0) (h11 : (blk b11 [jv t] 3).ok w0) (h7 : (blk b7 [sv key] 9).ok w0) (h16 : (blk b16 [.func (.func 51) #[] #[pq b9, pq b15, pq b11, pq b7]] 116).ok w0) (hk0 : (blk 0 (kOf.map wv) 258).ok w0) :
  Ret Tryz.prog 57 #[.agg #[jv r.at_, jv r.hd.c, jv r.hd.n, sv r.hd.root, sv r.hd.tag, r.iv], pq b16, pq b9] w0 fun v w => v = .bool (backB sha key q en t r.m) ∧ Ext No w0 w := by
 refine zO func57 O ntmps57 (lb O) fun a Z Y => ?_
 refine aa fun _ G1 => aS Z Y O [jv r.at_, jv r.hd.c, jv r.hd.n, sv r.hd.root, sv r.hd.tag, r.iv] O fun a w1 Z Y => wla Z O fun a Z => G1 <| aa fun _ G2 => ?_
 refine nv Z <| xJ (bL (Y.keepb h16) O (isAgg116 _) O) <| xJ (ao (Y.g 0 O) O (isAgg52 _) (sizeOf52 _)) <| fun a Z => dF Z Y O call51 O (uG r q en t key b9 b15 b11 b7 _ (cA Y hiv) hpf hen (Y.keepb h9) (Y.keepb h15) (Y.keepb h11) (Y.keepb h7) (Y.keepb hk0)) fun a w2 Z Y => wlm Z O fun a Z => ?_
 rcases xU (countB sha key q en t r.m) with hb1 | hb1
 ·rw [hb1] at Z
  have hok : OkP r.hd.n r.L := iZ (key := key) (by have h9 := hb1; unfold countB at h9; rw [xP] at h9; exact h9.2)
  refine nv Z <| xM (ac (v := pw2 w0.hz 1) O kr) <| xM (bQ (ds := [jv r.hd.c, jv r.hd.n, sv r.hd.root, sv r.hd.tag, r.iv]) (Y.g 0 O) O (isAgg50 _) (sizeOf50 _) O) <| xM (ac (v := pq b9) O kr) <| xM (bL (Y.keepb h9) O (isAgg3 _) O) <| fun a Z => aF Z Y call58 O (oB r.hd r.iv r.L q.n _ (cA Y hiv) hok) fun a w3 Z Y => nv Z <| xJ (ax O O) <| xL O <| fun a Z => G2 ?_
  replace Z := Z.p1 4 O
  replace Y := Y.k0 0 O
  refine ap <| am Z results57 (ag O ae) ?_
  refine ⟨?_, Y.ext⟩
  simp only [retv]
  refine yr Value.bool ?_
  unfold backB
  rw [hb1]; rfl
 rw [hb1] at Z
 refine nv Z <| xN <| xN <| xN <| xN <| xN <| xJ (ak O O) <| xL O <| fun a Z => G2 ?_
 replace Z := Z.p1 4 O
 replace Y := Y.k0 0 O
 refine ap <| am Z results57 (ag O ae) ?_
 refine ⟨?_, Y.ext⟩
 simp only [retv]
 refine yr Value.bool ?_
 unfold backB
 rw [hb1]; rfl
end Go.Proofs.YtliklcmddmpdfaaGreatDoor
namespace Go.Proofs.YtliklcmddmpdfaaGreatDoor
open Go.RowKit Go.PW _root_.Go.Proofs.Tryz
theorem xB (q : Chg) (w0 : World) :
  Ret Tryz.prog 50 #[.agg #[jv q.n, jv q.h, jv q.c, jv q.t, jv q.a]] w0 fun v w => v = .bool q.ok ∧ Ext No w0 w := by
 refine zN func50 O ntmps50 (lb O) fun a Z Y => ?_
 refine aa fun _ G1 => aS Z Y O [jv q.n, jv q.h, jv q.c, jv q.t, jv q.a] O fun a w1 Z Y => wla Z O fun a Z => G1 <| aa fun _ G2 => ?_
 refine nv Z <| xJ (ac (v := pw2 w0.hz 1) O kr) <| xJ (ld Y 0 O O (isAgg3 _) O) <| fun a Z => aw Z Y call49 O (di q.h 0 63 _) fun a w2 Z Y => wlm Z O fun a Z => ?_
 rcases xU (inB q.h 0 63) with hb1 | hb1
 ·rw [hb1] at Z
  refine nv Z <| xM (ac (v := pw2 w0.hz 2) O kr) <| xM (ld Y 0 O O (isAgg3 _) O) <| fun a Z => aF Z Y call49 O (di q.c 0 7 _) fun a w3 Z Y => nv Z <| xJ (ax O O) <| xL O <| fun a Z => G2 ?_
  refine aa fun _ G3 => nv (Z.p3 1 2 3 O) <| xK O <| xK O <| fun a Z => ?_
  rcases xU (inB q.c 0 7) with hb2 | hb2
  ·rw [hb2] at Z
   refine nv Z <| xM (ac (v := pq w0.hz) O kr) <| xM (ld Y 0 O O (isAgg3 _) O) <| fun a Z => aF Z Y call49 O (di q.n 0 99999999 _) fun a w4 Z Y => nv Z <| xJ (ax O O) <| xK O <| fun a Z => ?_
   rcases xU (inB q.n 0 99999999) with hb3 | hb3
   ·rw [hb3] at Z
    refine nv Z <| xM (ac (v := pw2 w0.hz 4) O kr) <| xM (ld Y 0 O O (isAgg3 _) O) <| fun a Z => aF Z Y call49 O (di q.a 0 10000000 _) fun a w5 Z Y => nv Z <| xJ (ax O O) <| xK O <| fun a Z => ?_
    rcases xU (inB q.a 0 10000000) with hb4 | hb4
    ·rw [hb4] at Z
     refine nv Z <| xM (ac (v := pw2 w0.hz 3) O kr) <| xM (ld Y 0 O O (isAgg3 _) O) <| xM (ac (v := pw2 w0.hz 4) O kr) <| xM (ld Y 0 O O (isAgg3 _) O) <| fun a Z => aF Z Y call49 O (di q.t 0 q.a _) fun a w6 Z Y => nv Z <| xJ (ax O O) <| xL O <| fun a Z => G3 ?_
     replace Z := Z.p1 2 O
     replace Y := Y.k0 0 O
     refine ap <| am Z results50 (ag O ae) ?_
     exact ⟨by simp only [retv]; unfold Chg.ok; simp [hb1, hb2, hb3, hb4], Y.ext⟩
    rw [hb4] at Z
    refine nv Z <| xN <| xN <| xN <| xN <| xN <| xJ (ak O O) <| xL O <| fun a Z => G3 ?_
    replace Z := Z.p1 2 O
    replace Y := Y.k0 0 O
    refine ap <| am Z results50 (ag O ae) ?_
    exact ⟨by simp only [retv]; unfold Chg.ok; simp [hb1, hb2, hb3, hb4], Y.ext⟩
   rw [hb3] at Z
   refine nv Z <| xN <| xN <| xN <| xJ (ak O O) <| xK O <| xN <| xN <| xN <| xN <| xN <| xJ (ak O O) <| xL O <| fun a Z => G3 ?_
   replace Z := Z.p1 2 O
   replace Y := Y.k0 0 O
   refine ap <| am Z results50 (ag O ae) ?_
   exact ⟨by simp only [retv]; unfold Chg.ok; simp [hb1, hb2, hb3], Y.ext⟩
  rw [hb2] at Z
  refine nv Z <| xN <| xN <| xN <| xJ (ak O O) <| xK O <| xN <| xN <| xN <| xJ (ak O O) <| xK O <| xN <| xN <| xN <| xN <| xN <| xJ (ak O O) <| xL O <| fun a Z => G3 ?_
  replace Z := Z.p1 2 O
  replace Y := Y.k0 0 O
  refine ap <| am Z results50 (ag O ae) ?_
  exact ⟨by simp only [retv]; unfold Chg.ok; simp [hb1, hb2], Y.ext⟩
 rw [hb1] at Z
 refine nv Z <| xN <| xN <| xN <| xJ (ak O O) <| xL O <| fun a Z => G2 ?_
 refine aa fun _ G4 => nv (Z.p3 1 2 3 O) <| xK O <| xK O <| xN <| xN <| xN <| xJ (ak O O) <| xK O <| xN <| xN <| xN <| xJ (ak O O) <| xK O <| xN <| xN <| xN <| xN <| xN <| xJ (ak O O) <| xL O <| fun a Z => G4 ?_
 replace Z := Z.p1 2 O
 replace Y := Y.k0 0 O
 refine ap <| am Z results50 (ag O ae) ?_
 exact ⟨by simp only [retv]; unfold Chg.ok; simp [hb1], Y.ext⟩
theorem lX (kv lv : Value) (ks : List By) (key : By) (lim : Int) (q : Chg) (R : List Rpw) (t : Int) (w0 : World) (hkv : SlAt w0 kv 1 (ks.map fun s => [sv s])) (hlv : RepAt w0 lv R) (hRp : ∀ r ∈ R, ∀ x ∈ r.L, x.m.pf.length ≤ 1000) (hso : eS key lim q R.length t = true) (hk0 : (blk 0 (kOf.map wv) 258).ok w0) :
  Ret Tryz.prog 17 #[kv, sv key, jv lim, .agg #[jv q.n, jv q.h, jv q.c, jv q.t, jv q.a], lv, jv t] w0 fun v w => v = .tuple #[jv ((stateH sha ks key lim q (repsM R) t).1), jv ((stateH sha ks key lim q (repsM R) t).2), jv 0] ∧ Ext No w0 w := by
 obtain ⟨hk32, hlim, hqo, hrl, hta, htb⟩ := lh hso
 obtain ⟨hq1, hq2, hq3, hq4, hq5, hq6⟩ := vM hqo
 have hxb := hlv.len
 obtain ⟨ko, hko⟩ : ∃ o, firstF (keptB sha ks key q (q.a + lim) t) none (repsM R) = o := ⟨_, rfl⟩
 obtain ⟨bo, hbo⟩ : ∃ o, firstF (backB sha key q (q.a + lim) t) none (repsM R) = o := ⟨_, rfl⟩
 refine zR func17 O ntmps17 (lb O) fun a Z Y => ?_
 refine aa fun _ G1 => aS Z Y O [kv] (by rw [(Y.arg hkv).cells]) fun a w1 Z Y => aS Z Y O [sv key] O fun a w2 Z Y => aS Z Y O [jv q.n, jv q.h, jv q.c, jv q.t, jv q.a] O fun a w3 Z Y => aS Z Y O [jv t] O fun a w4 Z Y => nv Z <| xL O <| xL O <| xL O <| fun a Z => G1 <| ah fun _ G2 => ?_
 refine aa fun _ G3 => nv Z <| xJ (ld Y 2 O O (isAgg9 _) O) <| xJ (br O O (runUnderlying9 _)) <| xJ (v_ne O O) <| xK O <| fun a Z => ?_
 rcases (Decidable.em ((key.length : Int) = 32)).symm with hb1 | hb1
 ·rw [xW hb1] at Z
  exfalso; omega
 rw [xS hb1] at Z
 refine wly Z (ay O) fun a Z => aF Z Y call49 O (di lim 1 1000000 _) fun a w5 Z Y => nv Z <| xM (bE O) <| xJ (ak O O) <| xK O <| fun a Z => ?_
 rcases xU (!(inB lim 1 1000000)) with hb2 | hb2
 ·rw [hb2] at Z
  try simp only [qz] at hb2
  exfalso; simp only [inB, yd, yq] at hb2; omega
 rw [hb2] at Z
 try simp only [qz] at hb2
 refine wly Z (ao (Y.g 1 O) O (isAgg36 _) (sizeOf36 _)) fun a Z => aF Z Y call50 O (xB q _) fun a w6 Z Y => nv Z <| xM (bE O) <| xJ (ak O O) <| xK O <| fun a Z => ?_
 rcases xU (!q.ok) with hb3 | hb3
 ·rw [hb3] at Z
  try simp only [qz] at hb3
  rw [hqo] at hb3; cases hb3
 rw [hb3] at Z
 try simp only [qz] at hb3
 refine nv Z <| xM (ay O) <| xM ((aI (sT := 38) (Y.arg hlv.1) O O (runUnderlying38 _)).asi (m' := (R.length : Int)) Ai) <| xM (v_gt O O) <| xJ (ak O O) <| xK O <| fun a Z => ?_
 rcases Decidable.em (10 < (R.length : Int)) with hb4 | hb4
 ·rw [xS hb4] at Z
  exfalso; omega
 rw [xW hb4] at Z
 refine nv Z <| xM (ld Y 0 O O (isAgg3 _) O) <| xM (ac (v := pw2 w2.hz 4) O kr) <| xM (ld Y 1 O O (isAgg3 _) O) <| fun a Z => aF Z Y call49 O (di t q.a 11000000 _) fun a w7 Z Y => nv Z <| xM (bE O) <| xJ (ak O O) <| fun a Z => G3 ?_
 replace Z := Z.p10 2 4 6 7 9 11 12 13 14 46 O
 refine bt Z O (fun hc5 => ?_) (fun hc5 => ?_)
 ·try simp only [qz] at hc5
  exfalso; simp only [inB, yd, yq] at hc5; omega
 try simp only [qz] at hc5
 refine au <| G2 <| aa fun _ G4 => nv Z <| xJ (ac (v := pw2 w2.hz 4) O kr) <| xJ (ld Y 1 O O (isAgg3 _) O) <| xK O <| xJ (aP O O ⟨om, om⟩) <| fun a Z => aD Z Y (zeroValue3 _) [jv 0] O fun a w8 Z Y => az 0 Z Y [jv (q.a + lim)] O (sizeOf3 _) fun a w9 Z Y => G4 ?_
 refine aa fun _ G5 => wlv (Z.p9 4 6 7 9 11 12 13 14 15 O) (cd O O) fun a Z => aD Z Y (zeroValue116 _) [.nilFunc] O fun a w10 Z Y => az 0 Z Y [.func (.func 51) #[] #[pq w2.hz, pq w7.hz, pq w3.hz, pq w1.hz]] O (sizeOf116 _) fun a w11 Z Y => G5 <| aa fun _ G6 => ?_
 refine wla Z O fun a Z => G6 <| aa fun _ G7 => ?_
 refine nv Z <| xK O <| xK O <| xJ (cd O O) <| fun a Z => aw Z Y call54 O (tP (by rw [hko]) (oo lv R (keptB sha ks key q (q.a + lim) t) 55 [pq w9.hz, pq w0.hz, pq w2.hz] _ call55 (ir Y hlv) (fun r wq hm hx => vj kv ks w9.hz w0.hz r q (q.a + lim) t key w2.hz w7.hz w3.hz w1.hz wq (((ir Y hlv).2 r hm).grow hx) (hRp r hm) om (cY (Y.g 3 O) hx) (cY (Y.g 1 O) hx) (cY (Y.g 2 O) hx) (cY (Y.g 4 O) hx) (cY (Y.g 0 O) hx) (cY (Y.g 5 O) hx) ((Y.arg hkv).grow hx) (cY (Y.keepb hk0) hx)))) fun a w12 Z Y => nv Z <| xK O <| xJ (aq O O) <| xJ (aq O O) <| xL O <| xL O <| fun a Z => G7 ?_
 replace Y := Y.k5 31 O
 refine aa fun _ G8 => nv (Z.p11 4 9 11 12 13 14 15 16 17 18 19 O) <| xK O <| xK O <| xJ (cd O O) <| fun a Z => aw Z Y call54 O (tP (by rw [hbo]) (oo lv R (backB sha key q (q.a + lim) t) 57 [pq w9.hz, pq w2.hz] _ call57 (ir Y hlv) (fun r wq hm hx => tb w9.hz r q (q.a + lim) t key w2.hz w7.hz w3.hz w1.hz wq (((ir Y hlv).2 r hm).grow hx) (hRp r hm) om (cY (Y.g 3 O) hx) (cY (Y.g 1 O) hx) (cY (Y.g 2 O) hx) (cY (Y.g 4 O) hx) (cY (Y.g 0 O) hx) (cY (Y.keepb hk0) hx)))) fun a w13 Z Y => nv Z <| xK O <| xJ (aq O O) <| xJ (aq O O) <| xL O <| xL O <| fun a Z => G8 ?_
 replace Y := Y.k4 30 O
 refine ah fun _ G9 => ar <| aa fun _ G10 => nv (Z.p10 9 11 12 13 14 15 18 19 20 21 O) <| xK O <| xK O <| fun a Z => ?_
 rcases xU (bo.isSome) with hb6 | hb6
 ·rw [hb6] at Z
  refine nv Z <| xM (ay O) <| xM (bE O) <| xM (ay O) <| fun a Z => ?_
  rcases xU (!ko.isSome) with hb7 | hb7
  ·rw [hb7] at Z
   try simp only [qz] at hb7
   refine nv Z <| xN <| xN <| xN <| xM (ax O O) <| xJ (ax O O) <| xL O <| fun a Z => G10 ?_
   replace Z := Z.p10 9 11 12 13 14 15 18 19 20 66 O
   replace Y := Y.k3 7 O
   refine aK Z O ?_
   refine aa fun _ G11 => nv Z <| xK O <| xL O <| xL O <| xL O <| fun a Z => G11 ?_
   replace Z := Z.p4 9 12 13 14 O
   replace Y := Y.k1 4 O
   refine ap <| am Z results17 (ag O (ag O (ag O ae))) ?_
   refine ⟨?_, Y.ext⟩
   simp only [retv]
   unfold stateH
   rw [hko, hbo, show pickS ko bo q (q.a + lim) t = (3, bo.getD 0) from by first | exact fd (ko := ko) (bo := bo) zZ zZ | exact ff (ko := ko) (bo := bo) zZ zZ om | exact eW (ko := ko) (bo := bo) zZ zZ | exact eV (ko := ko) (bo := bo) zZ zZ om | exact fU (ko := ko) (bo := bo) zZ zZ om | exact f9 (ko := ko) (bo := bo) zZ zZ om | exact Bool.noConfusion ((show ko.isSome = true by assumption).symm.trans (show ko.isSome = false by assumption))]
   try rfl
  rw [hb7] at Z
  try simp only [qz] at hb7
  refine nv Z <| xM (ay O) <| xM (ay O) <| xM (v_le O O) <| xM (ak O O) <| xJ (ax O O) <| xL O <| fun a Z => G10 ?_
  replace Z := Z.p10 9 11 12 13 14 15 18 19 20 66 O
  replace Y := Y.k3 7 O
  refine aA Z O (fun hc8 => ?_) (fun hc8 => ?_)
  ·refine aa fun _ G12 => nv Z <| xK O <| xL O <| xL O <| xL O <| fun a Z => G12 ?_
   replace Z := Z.p4 9 12 13 14 O
   replace Y := Y.k1 4 O
   refine ap <| am Z results17 (ag O (ag O (ag O ae))) ?_
   refine ⟨?_, Y.ext⟩
   simp only [retv]
   unfold stateH
   rw [hko, hbo, show pickS ko bo q (q.a + lim) t = (3, bo.getD 0) from by first | exact fd (ko := ko) (bo := bo) zZ zZ | exact ff (ko := ko) (bo := bo) zZ zZ om | exact eW (ko := ko) (bo := bo) zZ zZ | exact eV (ko := ko) (bo := bo) zZ zZ om | exact fU (ko := ko) (bo := bo) zZ zZ om | exact f9 (ko := ko) (bo := bo) zZ zZ om | exact Bool.noConfusion ((show ko.isSome = true by assumption).symm.trans (show ko.isSome = false by assumption))]
   try rfl
  refine aa fun _ G13 => nv Z <| xK O <| xL O <| fun a Z => G13 <| bt Z O (fun hc9 => ?_) (fun hc9 => ?_)
  ·refine aa fun _ G14 => nv Z <| xK O <| xL O <| xL O <| xL O <| fun a Z => G14 ?_
   replace Z := Z.p4 9 12 13 14 O
   replace Y := Y.k1 4 O
   refine ap <| am Z results17 (ag O (ag O (ag O ae))) ?_
   refine ⟨?_, Y.ext⟩
   simp only [retv]
   unfold stateH
   rw [hko, hbo, show pickS ko bo q (q.a + lim) t = (2, ko.getD 0) from by first | exact fd (ko := ko) (bo := bo) zZ zZ | exact ff (ko := ko) (bo := bo) zZ zZ om | exact eW (ko := ko) (bo := bo) zZ zZ | exact eV (ko := ko) (bo := bo) zZ zZ om | exact fU (ko := ko) (bo := bo) zZ zZ om | exact f9 (ko := ko) (bo := bo) zZ zZ om | exact Bool.noConfusion ((show ko.isSome = true by assumption).symm.trans (show ko.isSome = false by assumption))]
   try rfl
  refine aa fun _ G15 => nv Z <| xJ (ld Y 1 O O (isAgg3 _) O) <| xJ (ld Y 0 O O (isAgg3 _) O) <| xJ (v_ge O O) <| xL O <| fun a Z => G15 ?_
  replace Z := Z.p6 9 12 13 14 15 81 O
  replace Y := Y.k2 5 O
  refine aA Z O (fun hc10 => ?_) (fun hc10 => ?_)
  ·refine ah fun _ G16 => aL (aN fun w14 hxz => ?_)
   replace Y := Y.grow hxz
   refine aU (k := 0) 2 [0, 1] Z ?_
   refine bN 2 (Z.p4 9 13 14 15 O) Y <| pl_w (fun Y => ld Y 0 O O (isAgg3 _) O) <| pl_v (cG O) fun a w15 Z Y => ?_
   replace Z := Z.p3 9 85 12 O
   refine ab <| aM (k := 2) 4 [3] ?_
   refine nv Z <| xL O <| xL O <| fun a Z => ab <| aT <| G16 <| ap <| am Z results17 (ag O (ag O (ag O ae))) ?_
   refine ⟨?_, Y.ext⟩
   simp only [retv]
   unfold stateH
   rw [hko, hbo, show pickS ko bo q (q.a + lim) t = (3, q.a + lim) from by first | exact fd (ko := ko) (bo := bo) zZ zZ | exact ff (ko := ko) (bo := bo) zZ zZ om | exact eW (ko := ko) (bo := bo) zZ zZ | exact eV (ko := ko) (bo := bo) zZ zZ om | exact fU (ko := ko) (bo := bo) zZ zZ om | exact f9 (ko := ko) (bo := bo) zZ zZ om | exact Bool.noConfusion ((show ko.isSome = true by assumption).symm.trans (show ko.isSome = false by assumption))]
   try rfl
  refine au <| G9 <| ah fun _ G17 => aL (aN fun w16 hxz => ?_)
  replace Y := Y.grow hxz
  refine aU (k := 0) 3 [1, 2] Z ?_
  refine bN 3 (Z.p4 9 13 14 15 O) Y <| pl_v (ac (v := pw2 w2.hz 4) O kr) <| pl_w (fun Y => ld Y 1 O O (isAgg3 _) O) <| pl_v (cG O) fun a w17 Z Y => ?_
  replace Z := Z.p2 87 12 O
  refine ab <| aM (k := 3) 5 [4] ?_
  refine nv Z <| xL O <| xL O <| fun a Z => ab <| aT <| G17 <| ap <| am Z results17 (ag O (ag O (ag O ae))) ?_
  refine ⟨?_, Y.ext⟩
  simp only [retv]
  unfold stateH
  rw [hko, hbo, show pickS ko bo q (q.a + lim) t = (1, q.a) from by first | exact fd (ko := ko) (bo := bo) zZ zZ | exact ff (ko := ko) (bo := bo) zZ zZ om | exact eW (ko := ko) (bo := bo) zZ zZ | exact eV (ko := ko) (bo := bo) zZ zZ om | exact fU (ko := ko) (bo := bo) zZ zZ om | exact f9 (ko := ko) (bo := bo) zZ zZ om | exact Bool.noConfusion ((show ko.isSome = true by assumption).symm.trans (show ko.isSome = false by assumption))]
  try rfl
 rw [hb6] at Z
 refine nv Z <| xN <| xN <| xN <| fun a Z => bV Z fun a Z => bV Z fun a Z => bV Z fun a Z => nv Z <| xN <| xJ (ak O O) <| xL O <| fun a Z => G10 ?_
 replace Z := Z.p10 9 11 12 13 14 15 18 19 20 66 O
 replace Y := Y.k3 7 O
 refine aG Z O ?_
 refine aa fun _ G18 => nv Z <| xK O <| xL O <| fun a Z => G18 <| bt Z O (fun hc11 => ?_) (fun hc11 => ?_)
 ·refine aa fun _ G19 => nv Z <| xK O <| xL O <| xL O <| xL O <| fun a Z => G19 ?_
  replace Z := Z.p4 9 12 13 14 O
  replace Y := Y.k1 4 O
  refine ap <| am Z results17 (ag O (ag O (ag O ae))) ?_
  refine ⟨?_, Y.ext⟩
  simp only [retv]
  unfold stateH
  rw [hko, hbo, show pickS ko bo q (q.a + lim) t = (2, ko.getD 0) from by first | exact fd (ko := ko) (bo := bo) zZ zZ | exact ff (ko := ko) (bo := bo) zZ zZ om | exact eW (ko := ko) (bo := bo) zZ zZ | exact eV (ko := ko) (bo := bo) zZ zZ om | exact fU (ko := ko) (bo := bo) zZ zZ om | exact f9 (ko := ko) (bo := bo) zZ zZ om | exact Bool.noConfusion ((show ko.isSome = true by assumption).symm.trans (show ko.isSome = false by assumption))]
  try rfl
 refine aa fun _ G20 => nv Z <| xJ (ld Y 1 O O (isAgg3 _) O) <| xJ (ld Y 0 O O (isAgg3 _) O) <| xJ (v_ge O O) <| xL O <| fun a Z => G20 ?_
 replace Z := Z.p6 9 12 13 14 15 81 O
 replace Y := Y.k2 5 O
 refine aA Z O (fun hc12 => ?_) (fun hc12 => ?_)
 ·refine ah fun _ G21 => aL (aN fun w18 hxz => ?_)
  replace Y := Y.grow hxz
  refine aU (k := 0) 2 [0, 1] Z ?_
  refine bN 2 (Z.p4 9 13 14 15 O) Y <| pl_w (fun Y => ld Y 0 O O (isAgg3 _) O) <| pl_v (cG O) fun a w19 Z Y => ?_
  replace Z := Z.p3 9 85 12 O
  refine ab <| aM (k := 2) 4 [3] ?_
  refine nv Z <| xL O <| xL O <| fun a Z => ab <| aT <| G21 <| ap <| am Z results17 (ag O (ag O (ag O ae))) ?_
  refine ⟨?_, Y.ext⟩
  simp only [retv]
  unfold stateH
  rw [hko, hbo, show pickS ko bo q (q.a + lim) t = (3, q.a + lim) from by first | exact fd (ko := ko) (bo := bo) zZ zZ | exact ff (ko := ko) (bo := bo) zZ zZ om | exact eW (ko := ko) (bo := bo) zZ zZ | exact eV (ko := ko) (bo := bo) zZ zZ om | exact fU (ko := ko) (bo := bo) zZ zZ om | exact f9 (ko := ko) (bo := bo) zZ zZ om | exact Bool.noConfusion ((show ko.isSome = true by assumption).symm.trans (show ko.isSome = false by assumption))]
  try rfl
 refine au <| G9 <| ah fun _ G22 => aL (aN fun w20 hxz => ?_)
 replace Y := Y.grow hxz
 refine aU (k := 0) 3 [1, 2] Z ?_
 refine bN 3 (Z.p4 9 13 14 15 O) Y <| pl_v (ac (v := pw2 w2.hz 4) O kr) <| pl_w (fun Y => ld Y 1 O O (isAgg3 _) O) <| pl_v (cG O) fun a w21 Z Y => ?_
 replace Z := Z.p2 87 12 O
 refine ab <| aM (k := 3) 5 [4] ?_
 refine nv Z <| xL O <| xL O <| fun a Z => ab <| aT <| G22 <| ap <| am Z results17 (ag O (ag O (ag O ae))) ?_
 refine ⟨?_, Y.ext⟩
 simp only [retv]
 unfold stateH
 rw [hko, hbo, show pickS ko bo q (q.a + lim) t = (1, q.a) from by first | exact fd (ko := ko) (bo := bo) zZ zZ | exact ff (ko := ko) (bo := bo) zZ zZ om | exact eW (ko := ko) (bo := bo) zZ zZ | exact eV (ko := ko) (bo := bo) zZ zZ om | exact fU (ko := ko) (bo := bo) zZ zZ om | exact f9 (ko := ko) (bo := bo) zZ zZ om | exact Bool.noConfusion ((show ko.isSome = true by assumption).symm.trans (show ko.isSome = false by assumption))]
 try rfl
def keyG (c : Int) : By := List.replicate 32 (UInt8.ofNat ((100 + c) % 256).toNat)
theorem oi (c : Int) : (keyG c).length = 32 := by unfold keyG; simp
theorem lx {n m : Int} (hm : m < n) : ∀ {l : List Int} {p : Int}, p < m → ascI m p l = true → ascI n p (l ++ [m]) = true
 | [], p, hp, h => by rw [yB, ascI, xS hp, xS hm]; rfl
 | i :: l, p, hp, h => by
  rw [ascI, xP, xP, xT, xT] at h
  rw [yP, ascI, xS h.1.1, xS (by omega : i < n), lx hm h.1.2 h.2]; rfl
theorem mf {n m : Int} (hm : m ≤ n) : ∀ {l : List Int} {p : Int}, ascI m p l = true → ascI n p l = true
 | [], p, h => rfl
 | i :: l, p, h => by
  rw [ascI, xP, xP, xT, xT] at h
  rw [ascI, xS h.1.1, xS (by omega : i < n), mf hm h.2]; rfl
theorem sw (n m : Int) (w0 : World) (hn : -9223372036854775808 ≤ n ∧ n ≤ 9223372036854775807) (hm : 0 < m ∧ m ≤ 9223372036854775807) :
  Ret Tryz.prog 77 #[jv n, jv m] w0 fun v w => v = jv (pickI n m) ∧ Ext No w0 w := by
 refine zM func77 O ntmps77 (lb O) fun a Z Y => ?_
 refine aa fun _ G1 => wla Z O fun a Z => G1 <| ah fun _ G2 => ?_
 refine aa fun _ G3 => nv Z <| xK O <| xJ (v_lt O O) <| fun a Z => G3 <| aA Z O (fun hc1 => ?_) (fun hc1 => ?_)
 ·refine ai <| nv Z <| xK O <| xJ (aP O O ⟨om, om⟩) <| xJ (kG O om om) <| xL O <| fun a Z => ab <| G2 <| aa fun _ G4 => nv Z <| xK O <| xK O <| xJ (fR O O om om) <| xL O <| fun a Z => G4 ?_
  replace Z := Z.p1 4 O
  refine ap <| am Z results77 (ag O ae) ?_
  exact ⟨by simp only [retv, pickI]; simp [hc1], Y.ext⟩
 refine au <| G2 <| aa fun _ G5 => nv Z <| xK O <| xK O <| xJ (fR O O om om) <| xL O <| fun a Z => G5 ?_
 replace Z := Z.p1 4 O
 refine ap <| am Z results77 (ag O ae) ?_
 exact ⟨by simp only [retv, pickI]; simp [hc1], Y.ext⟩
theorem dP (n m : Int) (w0 : World) (hn : -9223372036854775808 ≤ n ∧ n ≤ 9223372036854775807) (hm : 0 < m ∧ m ≤ 9223372036854775807) :
  Ret Tryz.prog 44 #[jv n, jv m] w0 fun v w => v = jv (pickI n m) ∧ Ext No w0 w := by
 refine zM func44 O ntmps44 (lb O) fun a Z Y => ?_
 refine aa fun _ G1 => wla Z O fun a Z => G1 <| ah fun _ G2 => ?_
 refine aa fun _ G3 => nv Z <| xK O <| xJ (v_lt O O) <| fun a Z => G3 <| aA Z O (fun hc1 => ?_) (fun hc1 => ?_)
 ·refine ai <| nv Z <| xK O <| xJ (aP O O ⟨om, om⟩) <| xJ (kG O om om) <| xL O <| fun a Z => ab <| G2 <| aa fun _ G4 => nv Z <| xK O <| xK O <| xJ (fR O O om om) <| xL O <| fun a Z => G4 ?_
  replace Z := Z.p1 4 O
  refine ap <| am Z results44 (ag O ae) ?_
  exact ⟨by simp only [retv, pickI]; simp [hc1], Y.ext⟩
 refine au <| G2 <| aa fun _ G5 => nv Z <| xK O <| xK O <| xJ (fR O O om om) <| xL O <| fun a Z => G5 ?_
 replace Z := Z.p1 4 O
 refine ap <| am Z results44 (ag O ae) ?_
 exact ⟨by simp only [retv, pickI]; simp [hc1], Y.ext⟩
theorem dz (n m : Int) (w0 : World) (hn : -9223372036854775808 ≤ n ∧ n ≤ 9223372036854775807) (hm : 0 < m ∧ m ≤ 9223372036854775807) :
  Ret Tryz.prog 16 #[jv n, jv m] w0 fun v w => v = jv (pickI n m) ∧ Ext No w0 w := by
 refine zM func16 O ntmps16 (lb O) fun a Z Y => ?_
 refine aa fun _ G1 => wla Z O fun a Z => G1 <| ah fun _ G2 => ?_
 refine aa fun _ G3 => nv Z <| xK O <| xJ (v_lt O O) <| fun a Z => G3 <| aA Z O (fun hc1 => ?_) (fun hc1 => ?_)
 ·refine ai <| nv Z <| xK O <| xJ (aP O O ⟨om, om⟩) <| xJ (kG O om om) <| xL O <| fun a Z => ab <| G2 <| aa fun _ G4 => nv Z <| xK O <| xK O <| xJ (fR O O om om) <| xL O <| fun a Z => G4 ?_
  replace Z := Z.p1 4 O
  refine ap <| am Z results16 (ag O ae) ?_
  exact ⟨by simp only [retv, pickI]; simp [hc1], Y.ext⟩
 refine au <| G2 <| aa fun _ G5 => nv Z <| xK O <| xK O <| xJ (fR O O om om) <| xL O <| fun a Z => G5 ?_
 replace Z := Z.p1 4 O
 refine ap <| am Z results16 (ag O ae) ?_
 exact ⟨by simp only [retv, pickI]; simp [hc1], Y.ext⟩
theorem kQ (h : Int) (w0 : World) (hb : 0 ≤ h ∧ h ≤ 1000) :
  Ret Tryz.prog 13 #[jv h] w0 fun v w => v = sv (keyG h) ∧ Ext No w0 w := by
 refine zN func13 O ntmps13 (lb O) fun a Z Y => ?_
 refine aa fun _ G1 => wla Z O fun a Z => G1 <| aa fun _ G2 => ?_
 refine iF (n := 32) (E := 5) (sz := 1) O O ((kfill (UInt8.ofNat ((100 + h) % 256).toNat) 0).map fun b => [yv b]) kr Be (by simp [kfill]) de de Z Y fun a w1 Z Y => ?_
 refine wla Z O fun a Z => G2 <| ah fun _ G3 => ?_
 refine aa fun _ G4 => wla Z O fun a Z => G4 <| ar ?_
 refine aW (fun m a w => ∃ (k : Nat), m = 32 - k ∧ (k ≤ 32) ∧ Fr 20 [(0, jv h), (2, sv ([])), (3, (.slice (some ⟨w0.hz, 0, none⟩) 32 32)), (4, jv (k : Int))] [] a ∧ St No w0 [own (.slice (some ⟨w0.hz, 0, none⟩) 32 32) 5 1 ((kfill (UInt8.ofNat ((100 + h) % 256).toNat) k).map fun b => [yv b])] w) _ ⟨0, O, ym _, Z.pick [0, 2, 3, 4], Y⟩ ?_
 rintro _ a w2 ⟨k, rfl, hk, Z, Y⟩
 refine ah fun _ G5 => aa fun _ G6 => nv Z <| xK O <| xK O <| xJ ((aI (sT := 60) (Y.ow 0 O) O O (runUnderlying60 _)).asi (m' := 32) (by rw [xO, eG om]; rfl)) <| xJ (v_lt O O) <| fun a Z => G6 <| aA Z O (fun hc1 => ?_) (fun hc1 => ?_)
 ·have hk2 : k < 32 := by omega
  refine au <| G5 <| ah fun _ G7 => ar <| ai <| nv Z <| xK O <| xK O <| xK O <| xJ (aP O O ⟨om, om⟩) <| xJ (kV (n := 100 + h) O kr underlying5) <| xJ ((aj (i := (k : Int)) (sT := 60) (Y.ow 0 O) O O (runUnderlying60 _) (sizeOf5 _) om BF).as (v' := slAddr (.slice (some ⟨w0.hz, 0, none⟩) 32 32) (k * 1)) O) <| fun a Z => jl (k := k) (us := [yv (UInt8.ofNat ((100 + h) % 256).toNat)]) 0 Z Y O O O BF om (sizeOf5 _) O (by first | rfl | simp [Value.oneCell', yv, wv, sv]) O O fun a w3 Z Y => ab <| G7 ?_
  refine ai <| nv (Z.p4 0 2 3 4 O) <| xK O <| xJ (aP O O ⟨om, om⟩) <| xL O <| fun a Z => ab ?_
  rw [show ((kfill (UInt8.ofNat ((100 + h) % 256).toNat) k).map fun b => [yv b]).set k [yv (UInt8.ofNat ((100 + h) % 256).toNat)] = ((kfill (UInt8.ofNat ((100 + h) % 256).toNat) (k + 1)).map fun b => [yv b]) from by rw [← mg hk2, zD]] at Y
  refine ⟨_, ?_, k + 1, O, om, Z.pick [0, 2, 3, 4], Y⟩
  omega
 obtain rfl : k = 32 := by omega
 refine aO <| G3 <| aa fun _ G8 => nv Z <| xK O <| xJ (eI (Y.ow 0 O) O underlying60 underlying5 underlying9) <| xL O <| fun a Z => G8 ?_
 replace Z := Z.p1 2 O
 replace Y := Y.k0 0 O
 refine ap <| am Z results13 (ag O ae) ?_
 exact ⟨by rw [mn]; rfl, Y.ext⟩
theorem uX (bits : Int) (n : Nat) (w0 : World) (hbi : i64 bits) (hn : n ≤ 60) :
  Ret Tryz.prog 28 #[jv bits, jv (n : Int)] w0 (MemR w0 (fun x : Value × List Int => x.1) (fun x => [own x.1 3 1 (x.2.map fun z : Int => [jv z])]) (fun x => ascI (n : Int) (-1) x.2 = true ∧ x.2.length ≤ n)) := by
 obtain ⟨pb, hpb⟩ : ∃ m : Nat, pickI bits 65536 = (m : Int) := ⟨_, (zm (aV bits (n := 65536) de).1).symm⟩
 refine zM func28 O ntmps28 (lb O) fun a Z Y => ?_
 refine aa fun _ G1 => wla Z O fun a Z => G1 <| aa fun _ G2 => ?_
 refine wla Z O fun a Z => G2 <| ah fun _ G3 => ?_
 refine aa fun _ G4 => wla Z O fun a Z => G4 <| ar ?_
 replace Y : St No w0 [own (.slice none 0 0) 3 1 (([]).map fun n => [jv n])] w0 := Y.nil_own
 refine aW (fun m a w => ∃ (k : Nat) (v : Value) (l : List Int), m = n - k ∧ (k ≤ n) ∧ (ascI (k : Int) (-1) l = true) ∧ (l.length ≤ k) ∧ Fr 23 [(0, jv bits), (1, jv (n : Int)), (4, .slice none 0 0), (5, v), (6, jv (k : Int))] [] a ∧ St No w0 [own v 3 1 ((l).map fun n => [jv n])] w) _ ⟨0, .slice none 0 0, [], O, ym _, O, yx _, Z.pick [0, 1, 4, 5, 6], Y.select [0] de⟩ ?_
 rintro _ a w1 ⟨k, v, l, rfl, hk, hl, hll, Z, Y⟩
 refine ah fun _ G5 => aa fun _ G6 => nv Z <| xK O <| xK O <| xJ (v_lt O O) <| fun a Z => G6 <| aA Z O (fun hc1 => ?_) (fun hc1 => ?_)
 ·refine au <| G5 <| ah fun _ G7 => ar <| aa fun _ G8 => wlm Z O fun a Z => aw Z Y call77 O (eB hpb (sw bits 65536 _ hbi de)) fun a w2 Z Y => nv Z <| xK O <| xJ (pu (m := pb) (n := k) O O om) <| xJ (fR O O (Int.natCast_nonneg _) de) <| xJ (v_eq O O) <| fun a Z => G8 ?_
  replace Z := Z.p6 0 1 4 5 6 17 O
  refine aA Z O (fun hc2 => ?_) (fun hc2 => ?_)
  ·refine ai <| nv Z <| xK O <| xK O <| fun a Z => aE (E := 3) (sz := 1) O [[jv (k : Int)]] kr sm O de de Z Y fun a w3 Z Y => aY (i := 1) (sT := 24) (inf := Tryz.t3) (z := jv 0) (b := 0) (off := 0) (m := 0) (c := 0) O O O (Y.ow 0 O) sm underlying24 O O O O de z6 Ad Ad de Z Y fun a w4 s3 Z Y _ => wla Z O fun a Z => ab <| G7 <| ai <| nv Z <| xK O <| xJ (aP O O ⟨om, om⟩) <| xL O <| fun a Z => ab ?_
   replace Y : St No w0 [own (.slice (some ⟨w2.hz, 0, none⟩) 1 1) 3 1 ([[jv (k : Int)]]), own s3 3 1 (((l ++ [(k : Int)])).map fun n => [jv n])] w4 := by rw [show (((l ++ [(k : Int)])).map fun n => [jv n]) = ((l).map fun n => [jv n]) ++ ([[jv (k : Int)]]) from by rw [yU]; rfl]; exact Y
   refine ⟨_, ?_, k + 1, s3, (l ++ [(k : Int)]), O, om, (lx om om hl), (by rw [xQ]; simp; omega), Z.pick [0, 1, 4, 5, 6], Y.select [1] de⟩
   omega
  refine au <| G7 <| ai <| nv Z <| xK O <| xJ (aP O O ⟨om, om⟩) <| xL O <| fun a Z => ab ?_
  refine ⟨_, ?_, k + 1, v, l, O, om, (mf om hl), om, Z.pick [0, 1, 4, 5, 6], Y.select [0] de⟩
  omega
 refine aO <| G3 <| aa fun _ G9 => nv Z <| xK O <| xL O <| fun a Z => G9 ?_
 replace Z := Z.p1 4 O
 refine ap <| am Z results28 (ag O ae) ?_
 have hkn : k = n := by omega
 subst hkn
 exact ⟨(v, l), O, ⟨hl, hll⟩, Y.ext, St.out (E := [own v 3 1 (l.map fun z : Int => [jv z])]) (H := []) Y⟩
theorem ub {c : Int} {es : List By} (h1 : inB c 0 7 = true) (h2 : es.length ≤ 60) (h3 : ∀ s ∈ es, s.length ≤ 1000) : regOk c es = true := by
 unfold regOk
 rw [h1, xS h2]
 simp only [zb, yH, y7, longE, xT]
 exact fun s hs => by have := h3 s hs; omega
theorem nB (n lo hi : Int) (w0 : World) :
  Ret Tryz.prog 66 #[jv n, jv lo, jv hi] w0 fun v w => v = .bool (inB n lo hi) ∧ Ext No w0 w := by
 refine zO func66 O ntmps66 (lb O) fun a Z Y => ?_
 refine aa fun _ G1 => wla Z O fun a Z => G1 <| aa fun _ G2 => ?_
 refine nv Z <| xK O <| xK O <| xJ (v_ge O O) <| xK O <| fun a Z => dj (N := 15) (df := []) 4 [(14, .bool ((decide (lo ≤ n)) && (decide (n ≤ hi)))), (0, jv n), (1, jv lo), (2, jv hi), (6, .bool false)] ?_ (fun hj => ?_)
 rotate_left
 ·rcases xU (decide (lo ≤ n)) with hb1 | hb1
  ·rw [hb1] at Z
   have hb1b := hb1
   try simp only [qz, xP, yh, yd, yg] at hb1
   refine nv Z <| xM (ay O) <| xM (ay O) <| xM (v_le O O) <| xJ (ax O O) <| fun a Z => hj _ ?_
   try rw [hb1b]
   exact Z.pick [14, 0, 1, 2, 6]
  rw [hb1] at Z
  have hb1b := hb1
  try simp only [qz, xP, yh, yd, yg] at hb1
  refine nv Z <| xN <| xN <| xN <| xJ (ak O O) <| fun a Z => hj _ ?_
  try rw [hb1b]
  exact Z.pick [14, 0, 1, 2, 6]
 intro a Z
 refine wla Z O fun a Z => G2 <| ap ?_
 refine am Z results66 (ag O ae) ?_
 exact ⟨by simp only [retv]; unfold inB; rfl, Y.ext⟩
theorem py (x : Cas) (w0 : World) :
  Ret Tryz.prog 128 #[.agg #[jv x.n, jv x.t, sv x.ev]] w0 fun v w => v = .bool x.ok ∧ Ext No w0 w := by
 refine zN func128 O ntmps128 (lb O) fun a Z Y => ?_
 refine aa fun _ G1 => aS Z Y O [jv x.n, jv x.t, sv x.ev] O fun a w1 Z Y => wla Z O fun a Z => G1 <| aa fun _ G2 => ?_
 refine nv Z <| xJ (ac (v := pq w0.hz) O kr) <| xJ (ld Y 0 O O (isAgg3 _) O) <| fun a Z => aw Z Y call66 O (nB x.n 0 99999999 _) fun a w2 Z Y => wlm Z O fun a Z => ?_
 rcases xU (inB x.n 0 99999999) with hb1 | hb1
 ·rw [hb1] at Z
  refine nv Z <| xM (ac (v := pw2 w0.hz 1) O kr) <| xM (ld Y 0 O O (isAgg3 _) O) <| fun a Z => aF Z Y call66 O (nB x.t 0 10000000 _) fun a w3 Z Y => nv Z <| xJ (ax O O) <| xK O <| fun a Z => ?_
  rcases xU (inB x.t 0 10000000) with hb2 | hb2
  ·rw [hb2] at Z
   refine nv Z <| xM (ac (v := pw2 w0.hz 2) O kr) <| xM (ld Y 0 O O (isAgg9 _) O) <| xM (br O O (runUnderlying9 _)) <| xM (v_le O O) <| xJ (ax O O) <| xL O <| fun a Z => G2 ?_
   replace Z := Z.p1 2 O
   replace Y := Y.k0 0 O
   refine ap <| am Z results128 (ag O ae) ?_
   refine ⟨?_, Y.ext⟩
   simp only [retv]
   refine yr Value.bool ?_
   unfold Cas.ok
   simp only [hb1, hb2, zb]
   exact decide_eq_decide.2 om
  rw [hb2] at Z
  refine nv Z <| xN <| xN <| xN <| xN <| xJ (ak O O) <| xL O <| fun a Z => G2 ?_
  replace Z := Z.p1 2 O
  replace Y := Y.k0 0 O
  refine ap <| am Z results128 (ag O ae) ?_
  refine ⟨?_, Y.ext⟩
  simp only [retv]
  refine yr Value.bool ?_
  unfold Cas.ok
  simp only [hb1, hb2, zb, zw]
 rw [hb1] at Z
 refine nv Z <| xN <| xN <| xN <| xJ (ak O O) <| xK O <| xN <| xN <| xN <| xN <| xJ (ak O O) <| xL O <| fun a Z => G2 ?_
 replace Z := Z.p1 2 O
 replace Y := Y.k0 0 O
 refine ap <| am Z results128 (ag O ae) ?_
 refine ⟨?_, Y.ext⟩
 simp only [retv]
 refine yr Value.bool ?_
 unfold Cas.ok
 simp only [hb1, zb, zw]
theorem uH (x : Cas) (w0 : World) :
  Ret Tryz.prog 76 #[.agg #[jv x.n, jv x.t, sv x.ev]] w0 fun v w => v = .tuple #[sv (encP x), jv (cE x)] ∧ Ext No w0 w := by
 refine zN func76 O ntmps76 (lb O) fun a Z Y => ?_
 refine aa fun _ G1 => aS Z Y O [jv x.n, jv x.t, sv x.ev] O fun a w1 Z Y => nv Z <| xL O <| xL O <| fun a Z => G1 <| ah fun _ G2 => ?_
 refine aa fun _ G3 => wlv Z (ao (Y.g 0 O) O (isAgg55 _) (sizeOf55 _)) fun a Z => aw Z Y call128 O (py x _) fun a w2 Z Y => wlv Z (bE O) fun a Z => G3 <| bt Z O (fun hc1 => ?_) (fun hc1 => ?_)
 ·try simp only [qz] at hc1
  refine aa fun _ G4 => nv Z <| xL O <| xL O <| fun a Z => G4 <| ap ?_
  refine am Z results76 (ag O (ag O ae)) ?_
  exact ⟨by simp only [retv]; unfold encP cE; rw [yk (by rw [hc1]; decide), yk (by rw [hc1]; decide)]; rfl, Y.ext⟩
 try simp only [qz] at hc1
 have hbd := Cas.bnd hc1
 have hl1 := bX x.n
 have hl2 := bX x.t
 have hl3 := bX (x.ev.length : Int)
 have hl4 : (putS x.ev).length ≤ 1000 := by unfold putS; rw [xQ]; omega
 refine au <| G2 <| aa fun _ G5 => nv Z <| xJ (ac (v := pq w0.hz) O kr) <| xJ (ld Y 0 O O (isAgg3 _) O) <| fun a Z => aw Z Y call129 O (fH x.n _ Af) fun a w3 Z Y => nv Z <| xK O <| xJ (aq O O) <| xJ (aq O O) <| xL O <| xL O <| fun a Z => G5 ?_
 refine aa fun _ G6 => nv (Z.p4 1 2 3 4 O) <| xJ (ac (v := pw2 w0.hz 1) O kr) <| xJ (ld Y 0 O O (isAgg3 _) O) <| fun a Z => aw Z Y call129 O (fH x.t _ Af) fun a w4 Z Y => nv Z <| xK O <| xJ (aq O O) <| xJ (aq O O) <| xL O <| xL O <| fun a Z => G6 ?_
 refine aa fun _ G7 => nv (Z.p5 1 2 3 4 6 O) <| xJ (ac (v := pw2 w0.hz 2) O kr) <| xJ (ld Y 0 O O (isAgg9 _) O) <| fun a Z => aw Z Y call130 O (li x.ev _ om) fun a w5 Z Y => nv Z <| xK O <| xJ (aq O O) <| xJ (aq O O) <| xL O <| xL O <| fun a Z => G7 ?_
 replace Y := Y.k0 0 O
 refine aa fun _ G8 => nv (Z.p5 2 3 4 6 8 O) <| xK O <| xK O <| xJ (cP O O AJ) <| xK O <| xJ (cP O O AJ) <| xL O <| xL O <| fun a Z => G8 ?_
 replace Z := Z.p2 2 3 O
 refine ap <| am Z results76 (ag O (ag O ae)) ?_
 exact ⟨by simp only [retv]; unfold encP cE; rw [yl hc1, yl hc1]; simp [Cas.enc, puts], Y.ext⟩
theorem wG (c : Int) (lv : Value) (l : List Cas) (w0 : World) (hlv : SlAt w0 lv 3 (l.map Cas.cells)) (hle : l.length ≤ 1000) :
  Ret Tryz.prog 27 #[.agg #[jv c, lv]] w0 (MemR w0 (fun v : Value => .agg #[jv c, v]) (fun v => [own v 9 1 ((entC (l)).map fun s => [sv s])]) (fun _ => True)) := by
 have hxb := hlv.2.1
 simp only [xO, big] at hxb
 refine zN func27 O ntmps27 (lb O) fun a Z Y => ?_
 refine aa fun _ G1 => aS Z Y O [jv c, lv] O fun a w1 Z Y => aD Z Y (zeroValue75 _) [jv 0, .slice none 0 0] O fun a w2 Z Y => G1 <| aa fun _ G2 => ?_
 refine nv Z <| xJ (ac (v := pq w0.hz) O kr) <| xJ (ld Y 1 O O (isAgg3 _) O) <| xJ (aX (v := .agg #[jv c, .slice none 0 0]) O kr) <| fun a Z => aD Z Y (zeroValue75 _) [jv 0, .slice none 0 0] O fun a w3 Z Y => az 0 Z Y [jv c, .slice none 0 0] O (sizeOf75 _) fun a w4 Z Y => G2 <| ah fun _ G3 => ?_
 refine aa fun _ G4 => wla Z O fun a Z => G4 <| ar ?_
 replace Y : St No w0 [own (.slice none 0 0) 9 1 ((entC (l.take 0)).map fun s => [sv s]), blk w2.hz [jv c, .slice none 0 0] 75, blk w1.hz [jv 0, .slice none 0 0] 75, blk w0.hz [jv c, lv] 32] w4 := Y.nil_own
 refine aW (fun m a w => ∃ (k : Nat) (v : Value), m = l.length - k ∧ (k ≤ l.length) ∧ Fr 33 [(1, pq w0.hz), (2, pq w1.hz), (3, pq w2.hz), (4, jv (k : Int))] [] a ∧ St No w0 [own v 9 1 ((entC (l.take k)).map fun s => [sv s]), blk w2.hz [jv c, v] 75, blk w1.hz [jv 0, .slice none 0 0] 75, blk w0.hz [jv c, lv] 32] w) _ ⟨0, .slice none 0 0, O, ym _, Z.pick [1, 2, 3, 4], Y.select [0, 1, 2, 3] de⟩ ?_
 rintro _ a w5 ⟨k, v, rfl, hk, Z, Y⟩
 refine ah fun _ G5 => aa fun _ G6 => nv Z <| xK O <| xJ (ac (v := pw2 w0.hz 1) O kr) <| xJ (ld Y 3 O O (isAgg30 _) O) <| xJ ((aI (sT := 30) (Y.arg hlv) O O (runUnderlying30 _)).asi (m' := (l.length : Int)) Ai) <| xJ (v_lt O O) <| fun a Z => G6 <| aA Z O (fun hc1 => ?_) (fun hc1 => ?_)
 ·have hkx : k < l.length := by omega
  refine au <| G5 <| ah fun _ G7 => ar <| aa fun _ G8 => nv Z <| xJ (ac (v := pw2 w0.hz 1) O kr) <| xJ (ld Y 3 O O (isAgg30 _) O) <| xK O <| xJ ((aj (i := (k : Int)) (sT := 30) (Y.arg hlv) O O (runUnderlying30 _) (sizeOf55 _) om zY).as (v' := slAddr lv (k * 3)) O) <| xJ ((bP (Y.arg hlv) (i := k) zY O (isAgg55 _) (sizeOf55 _)).as (v' := .agg #[jv ((l.getD k Cas.z).n), jv ((l.getD k Cas.z).t), sv ((l.getD k Cas.z).ev)]) AY) <| fun a Z => aw Z Y call76 O (uH (l.getD k Cas.z) _) fun a w6 Z Y => nv Z <| xK O <| xJ (aq O O) <| xJ (aq O O) <| xL O <| xL O <| fun a Z => G8 ?_
  refine ai <| nv (Z.p5 1 2 3 4 5 O) <| xJ (ac (v := pw2 w2.hz 1) O kr) <| xJ (ld Y 1 O O (isAgg44 _) O) <| xK O <| fun a Z => aE (E := 9) (sz := 1) O [[sv (encP (l.getD k Cas.z))]] kr sm O de de Z Y fun a w7 Z Y => aY (i := 1) (sT := 44) (inf := Tryz.t9) (z := .string (⟨#[]⟩)) (b := 0) (off := 0) (m := 0) (c := 0) O O O (Y.ow 0 O) sm underlying44 O O O O de z6 Ay Ay de Z Y fun a w8 s2 Z Y _ => ?_
  rw [show ((entC (l.take k)).map fun s => [sv s]) ++ ([[sv (encP (l.getD k Cas.z))]]) = ((entC (l.take (k + 1))).map fun s => [sv s]) from by rw [lz hkx, yU]; rfl] at Y
  refine wlv Z (ac (v := pw2 w2.hz 1) O kr) fun a Z => cf 2 Z Y (Y.ow 1 O) O O O (sizeOf44 _) (lb O) (ds := [jv c, s2]) O O fun a w9 Z Y => ab <| G7 ?_
  replace Y := Y.k4 30 O
  refine ai <| nv (Z.p4 1 2 3 4 O) <| xK O <| xJ (aP O O ⟨om, om⟩) <| xL O <| fun a Z => ab ?_
  refine ⟨_, ?_, k + 1, s2, O, om, Z.pick [1, 2, 3, 4], Y.select [0, 1, 2, 3] de⟩
  omega
 obtain rfl : k = l.length := by omega
 rw [List.take_length] at Y
 refine aO <| G3 <| aa fun _ G9 => wlv Z (ao (Y.g 1 O) O (isAgg75 _) (sizeOf75 _)) fun a Z => bp (us := [jv c, v]) 2 Z Y O O O (sizeOf75 _) Aq (lb O) (ds := [jv c, v]) O O fun a w10 Z Y => ?_
 refine G9 ?_
 replace Z := Z.p1 2 O
 replace Y := Y.k2 5 O
 refine ap <| am Z results27 (al O (bj (Y.g 1 O) (isAgg75 _) (sizeOf75 _)) ae) ?_
 exact ⟨v, O, trivial, Y.ext, St.out (E := [own v 9 1 ((entC (l)).map fun s => [sv s])]) (H := []) (Y.select [0] de)⟩
end Go.Proofs.YtliklcmddmpdfaaGreatDoor
