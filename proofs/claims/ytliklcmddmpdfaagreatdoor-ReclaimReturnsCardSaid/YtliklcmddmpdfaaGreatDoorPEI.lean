/- Texts joined: RclI, RclJ, RclK, RclL, Sle, Laid, Door, OpenL, LawE. -/
import Derived.Test.YtliklcmddmpdfaaGreatDoorPEH
import Derived.Test.YtliklcmddmpdfaaGreatDoorPEF
import Derived.Test.YtliklcmddmpdfaaGreatDoorPEB
import Derived.Test.YtliklcmddmpdfaaGreatDoorPEA
import Derived.LaidMore
import Derived.OpenShut
import Derived.Stop.Joined
import Derived.SevenTiedAt
import Derived.ChangeMaps5
import Derived.Test.YtliklcmddmpdfaaGreatDoorRows
import Derived.Test.YtliklcmddmpdfaaGreatDoorPEE
set_option linter.unusedVariables false
set_option linter.unusedSimpArgs false
set_option maxRecDepth 4000
set_option maxHeartbeats 4000000
namespace Go.Proofs.YtliklcmddmpdfaaGreatDoor
open Go.RowKit Go.PW _root_.Go.Proofs.Tryz
structure Nin where
 h : Int
 r0 : Int
 r1 : Int
 s0 : Int
 s1 : Int
 ca : Int
 se : Int
 cv : Value
 ys : List Cin
def Nin.z : Nin := ⟨0, 0, 0, 0, 0, 0, 0, .slice none 0 0, []⟩
def Nin.cells (u : Nin) : List Value := [jv u.h, jv u.r0, jv u.r1, jv u.s0, jv u.s1, jv u.ca, jv u.se, u.cv]
def Nin.wt (w : World) (u : Nin) : Prop := (i64 u.h ∧ i64 u.r0 ∧ i64 u.r1 ∧ i64 u.s0 ∧ i64 u.s1 ∧ i64 u.ca ∧ i64 u.se) ∧ SlE w u.cv 5 (u.ys.map Cin.cells) ∧ (∀ y ∈ u.ys, y.wt) ∧ u.ys.length ≤ 3518437208883
theorem Nin.wt.grow {w w' : World} {u : Nin} (h : u.wt w) (hx : Ext No w w') : u.wt w' := ⟨h.1, h.2.1.grow hx, h.2.2⟩
structure Pr2 where
 a : Int
 b : Int
def Pr2.z : Pr2 := ⟨0, 0⟩
def Pr2.cells (y : Pr2) : List Value := [jv y.a, jv y.b]
def Pr2.wt (y : Pr2) : Prop := i64 y.a ∧ i64 y.b
structure Pr3 where
 a : Int
 b : Int
 c : Int
def Pr3.z : Pr3 := ⟨0, 0, 0⟩
def Pr3.cells (y : Pr3) : List Value := [jv y.a, jv y.b, jv y.c]
def Pr3.wt (y : Pr3) : Prop := i64 y.a ∧ i64 y.b ∧ i64 y.c
def Cin.put (y : Cin) : Nat → Cin
 | 0 => { y with y0 := 0 }
 | 1 => { y with y1 := 0 }
 | 2 => { y with y2 := 0 }
 | 3 => { y with y3 := 0 }
 | _ => { y with y4 := 0 }
theorem Cin.put_wt {y : Cin} (h : y.wt) (j : Nat) : (y.put j).wt := by
 obtain ⟨h0, h1, h2, h3, h4⟩ := h
 have hz : i64 0 := ⟨by decide, by decide⟩
 match j with
 | 0 => exact ⟨hz, h1, h2, h3, h4⟩
 | 1 => exact ⟨h0, hz, h2, h3, h4⟩
 | 2 => exact ⟨h0, h1, hz, h3, h4⟩
 | 3 => exact ⟨h0, h1, h2, hz, h4⟩
 | j + 4 => exact ⟨h0, h1, h2, h3, hz⟩
theorem uN {zs : List Cin} {k j : Nat} (hk : k < (zs.map Cin.cells).length) (hj : j < 5) (hw : ∀ y ∈ zs, y.wt) : ∃ zs' : List Cin, (zs.map Cin.cells).set k (splice (zs.map Cin.cells)[k] j [jv 0]) = zs'.map Cin.cells ∧ zs'.length = zs.length ∧ ∀ y ∈ zs', y.wt := by
 have hk' : k < zs.length := by simpa using hk
 refine ⟨zs.set k (zs[k].put j), ?_, by simp, ?_⟩
 ·rw [zD]
  congr 1
  rw [zt]
  match j, hj with
  | 0, _ => rfl
  | 1, _ => rfl
  | 2, _ => rfl
  | 3, _ => rfl
  | 4, _ => rfl
 ·intro y hy
  rcases List.mem_or_eq_of_mem_set hy with hy | rfl
  ·exact hw _ hy
  ·exact Cin.put_wt (hw _ (yK hk')) j
theorem jq : ∀ {l : List Pxy}, (∀ p ∈ l, p.sig.length = 32) → (l.flatMap Pxy.text).length ≤ 95 * l.length
 | [], h => by simp
 | p :: l, h => by
  have h1 := h p sm
  have h2 := jq (l := l) (fun q hq => h q AO)
  have h3 := fA p
  rw [yC, xQ, Pxy.text, xQ, xZ]
  omega
theorem gq {x : Wsh} {ps : List Pxy} {t : By} {e : Int} (h : encT x ps = (t, e)) : t.length ≤ 900 := by
 unfold encT at h
 cases hq : cI x ps with
 | none => rw [hq] at h; cases h; simp
 | some z =>
  rw [hq] at h; cases h
  obtain ⟨h1, h2, h3, rfl⟩ := dq.1 hq
  have h4 := gM h1
  have h5 := jq h3
  have h6 := eg x
  have h7 := (bX (ps.length : Int)).2
  simp only [xQ, Wsh.text]
  omega
def lastC : Int → List Cas → Int
 | p, [] => p
 | _, x :: l => lastC x.n l
theorem lN {x : Cas} : ∀ {l : List Cas} {p : Int}, ascC p (l ++ [x]) = (ascC p l && (x.ok && decide (lastC p l < x.n)))
 | [], p => by rw [yB, ascC]; show ((x.ok && decide (p < x.n)) && true) = (true && (x.ok && decide (p < x.n))); rw [zB, zb]
 | y :: l, p => by rw [yP, ascC, ascC, lN (l := l), lastC]; simp only [Bool.and_assoc]
theorem fO {x : Cas} : ∀ {l : List Cas} {p : Int}, lastC p (l ++ [x]) = x.n
 | [], p => rfl
 | y :: l, p => fO (l := l)
def Doc (c : Int) (l : List Cas) : Prop := docOk c l = true ∧ l.length ≤ 6 ∧ ∀ x ∈ l, x.n ≤ 23 ∧ x.t < 10000
theorem tM {c : Int} {l : List Cas} (hc : 0 ≤ c ∧ c < 8) (h : ascC (-1) l = true) (hl : l.length ≤ 6) (ha : ∀ x ∈ l, x.n ≤ 23 ∧ x.t < 10000) : Doc c l := by
 refine ⟨?_, hl, ha⟩
 unfold docOk inB
 rw [h, xS (by omega : 0 ≤ c), xS (by omega : c ≤ 7), xS (by omega : l.length ≤ 60)]; rfl
theorem ng {l : List Cas} {x : Cas} {n : Int} (h : ascC (-1) l = true) (hn : lastC (-1) l = n) (hlt : n < x.n) (h0 : 0 ≤ x.n) (h1 : x.n ≤ 23) (h2 : 0 ≤ x.t) (h3 : x.t < 10000) (h4 : x.ev.length ≤ 900) : ascC (-1) (l ++ [x]) = true := by
 rw [lN, h, hn, xS hlt]
 unfold Cas.ok inB
 rw [xS h0, xS (by omega : x.n ≤ 99999999), xS h2, xS (by omega : x.t ≤ 10000000), xS h4]; rfl
theorem wM (u : Nin) (ca nu ti how : Int) (w0 : World) (hu : u.wt w0) (h1 : i64 ca) (h2 : i64 nu) (h3 : i64 ti) (h4 : i64 how) :
  Ret Tryz.prog 45 #[.agg #[jv u.h, jv u.r0, jv u.r1, jv u.s0, jv u.s1, jv u.ca, jv u.se, u.cv], jv ca, jv nu, jv ti, jv how] w0 (MemR w0 (fun s : By => sv s) (fun _ => []) (fun s => s.length ≤ 900)) := by
 obtain ⟨⟨u1, u2, u3, u4, u5, u6, u7⟩, hce, hyw, hyl⟩ := id hu
 have g0 := u3
 unfold i64 at g0
 have g1 := u5
 unfold i64 at g1
 have g2 := h1
 unfold i64 at g2
 have g3 := h2
 unfold i64 at g3
 have g4 := h3
 unfold i64 at g4
 have g5 := h4
 unfold i64 at g5
 have hhow := g5
 have p1 := aV u.r1 (n := 5) de
 have p2 := aV u.s1 (n := 5) de
 have p3 := aV how (n := 10) de
 refine zQ func45 O ntmps45 (lb O) fun a Z Y => ?_
 refine aa fun _ G1 => aS Z Y O [jv u.h, jv u.r0, jv u.r1, jv u.s0, jv u.s1, jv u.ca, jv u.se, u.cv] O fun a w1 Z Y => wla Z O fun a Z => G1 <| ah fun _ G2 => ?_
 refine aa fun _ G3 => wlm Z O fun a Z => aw Z Y call44 O (dP how 8 _ Ak Bc) fun a w2 Z Y => wlv Z (v_eq O O) fun a Z => G3 <| aA Z O (fun hc1 => ?_) (fun hc1 => ?_)
 ·refine aa fun _ G4 => wla Z O fun a Z => G4 <| ap ?_
  refine am Z results45 (ag O ae) ?_
  exact ⟨[], O, de, Y.ext, St.out (E := []) (H := []) (Y.select [] de)⟩
 refine au <| G2 <| aa fun _ G5 => nv Z <| xK O <| xJ (ac (v := pw2 w0.hz 1) O kr) <| xJ (ba (v := pw2 w0.hz 2) O O kr) <| xJ (ld Y 0 O O (isAgg3 _) O) <| fun a Z => aw Z Y call44 O (dP u.r1 5 _ Ak Bc) fun a w3 Z Y => nv Z <| xJ (aX (v := .agg #[jv nu, jv (pickI u.r1 5)]) O kr) <| xJ (ac (v := pw2 w0.hz 1) O kr) <| fun a Z => az 0 Z Y [jv u.h, jv nu, jv (pickI u.r1 5), jv u.s0, jv u.s1, jv u.ca, jv u.se, u.cv] O (sizeOf63 _) fun a w4 Z Y => G5 ?_
 refine aa fun _ G6 => nv (Z.p5 1 3 4 5 10 O) <| xK O <| xJ (ac (v := pw2 w0.hz 3) O kr) <| xJ (ba (v := pw2 w0.hz 4) O O kr) <| xJ (ld Y 0 O O (isAgg3 _) O) <| fun a Z => aw Z Y call44 O (dP u.s1 5 _ Ak Bc) fun a w5 Z Y => nv Z <| xJ (aX (v := .agg #[jv ti, jv (pickI u.s1 5)]) O kr) <| xJ (ac (v := pw2 w0.hz 3) O kr) <| fun a Z => az 0 Z Y [jv u.h, jv nu, jv (pickI u.r1 5), jv ti, jv (pickI u.s1 5), jv u.ca, jv u.se, u.cv] O (sizeOf63 _) fun a w6 Z Y => G6 ?_
 refine aa fun _ G7 => nv (Z.p4 1 4 5 10 O) <| xK O <| xJ (ac (v := pw2 w0.hz 5) O kr) <| fun a Z => az 0 Z Y [jv u.h, jv nu, jv (pickI u.r1 5), jv ti, jv (pickI u.s1 5), jv ca, jv u.se, u.cv] O (sizeOf3 _) fun a w7 Z Y => G7 <| aa fun _ G8 => ?_
 refine aE (E := 142) (sz := 5) O [] kr sm O de de Z Y fun a w8 Z Y => nv Z <| xJ (ac (v := pw2 w0.hz 7) O kr) <| xJ (ld Y 1 O O (isAgg82 _) O) <| fun a Z => nU (i := 0) (sT := 82) (inf := Tryz.t142) (z := .agg #[jv 0, jv 0, jv 0, jv 0, jv 0]) O O O (Y.arge hu.2.1) underlying82 O O O O de (by intro e he; obtain ⟨y, _, rfl⟩ := yD.1 he; simp [Cin.cells, Value.oneCell']) Bz Bz de Z Y fun a w9 s2 Z Y => ?_
 rw [yB] at Y
 refine wla Z O fun a Z => G8 ?_
 refine ah fun _ G9 => aa fun _ G10 => wla (Z.p4 4 5 10 11 O) O fun a Z => G10 <| ar ?_
 refine aW (fun m a w => ∃ (k : Nat) (zs : List Cin), m = zs.length - k ∧ (k ≤ zs.length) ∧ (∀ y ∈ zs, y.wt) ∧ (zs.length ≤ 3518437208883) ∧ Fr 80 [(4, jv how), (5, pq w0.hz), (10, sv ([])), (11, s2), (12, jv (k : Int))] [] a ∧ St No w0 [own s2 142 5 (zs.map Cin.cells), blk w0.hz [jv u.h, jv nu, jv (pickI u.r1 5), jv ti, jv (pickI u.s1 5), jv ca, jv u.se, u.cv] 84] w) _ ⟨0, u.ys, O, ym _, hyw, hyl, Z.pick [4, 5, 10, 11, 12], Y.select [0, 1] de⟩ ?_
 rintro _ a w10 ⟨k, zs, rfl, hk, hzw, hzl, Z, Y⟩
 refine ah fun _ G11 => aa fun _ G12 => nv Z <| xK O <| xK O <| xJ ((aI (sT := 82) (Y.ow 0 O) O O (runUnderlying82 _)).asi (m' := (zs.length : Int)) Ai) <| xJ (v_lt O O) <| fun a Z => G12 <| aA Z O (fun hc3 => ?_) (fun hc3 => ?_)
 ·refine au <| G11 <| ah fun _ G13 => ar <| aa fun _ G14 => nv Z <| xK O <| xK O <| xJ ((aj (i := (k : Int)) (sT := 82) (Y.ow 0 O) O O (runUnderlying82 _) (sizeOf142 _) om zY).as (v' := slAddr s2 (k * 5)) O) <| xJ (cT (k := k * 5) (j := 1) (Y.ow 0 O) (i := k) zY O O (fun _ _ => by kernel_rfl)) <| fun a Z => ?_
  obtain ⟨zt4, hezt4, hlzt4, hwzt4⟩ := uN (zs := zs) (k := k) (j := 1) zY de zZ
  refine ex (k := k) (j := 1) (els' := (zt4.map Cin.cells)) 0 Z Y O O O zY om (sizeOf3 _) (by simp [Value.oneCell', Value.cells]) de hezt4 O fun a w11 Z Y => G14 ?_
  refine ai <| nv (Z.p5 4 5 10 11 12 O) <| xK O <| xK O <| xJ ((aj (i := (k : Int)) (sT := 82) (Y.ow 0 O) O O (runUnderlying82 _) (sizeOf142 _) om zY).as (v' := slAddr s2 (k * 5)) O) <| xJ (cT (k := k * 5) (j := 3) (Y.ow 0 O) (i := k) zY O O (fun _ _ => by kernel_rfl)) <| fun a Z => ?_
  obtain ⟨zt5, hezt5, hlzt5, hwzt5⟩ := uN (zs := zt4) (k := k) (j := 3) zY de zZ
  refine ex (k := k) (j := 3) (els' := (zt5.map Cin.cells)) 0 Z Y O O O zY om (sizeOf3 _) (by simp [Value.oneCell', Value.cells]) de hezt5 O fun a w12 Z Y => ab <| G13 <| ai <| nv Z <| xK O <| xJ (aP O O ⟨om, om⟩) <| xL O <| fun a Z => ab ?_
  refine ⟨_, ?_, k + 1, zt5, O, om, hwzt5, om, Z.pick [4, 5, 10, 11, 12], Y.select [0, 1] de⟩
  omega
 refine aO <| G9 <| aa fun _ G15 => nv Z <| xK O <| xJ (ac (v := pw2 w0.hz 7) O kr) <| fun a Z => cf 1 Z Y (Y.ow 0 O) O O O (sizeOf82 _) (lb O) (ds := [jv u.h, jv nu, jv (pickI u.r1 5), jv ti, jv (pickI u.s1 5), jv ca, jv u.se, s2]) O O fun a w13 Z Y => G15 ?_
 replace Z := Z.p3 4 5 10 O
 obtain ⟨x, hx⟩ : ∃ x, madeW u.h nu (pickI u.r1 5) ti (pickI u.s1 5) ca u.se zs = x := ⟨_, rfl⟩
 obtain ⟨ps, hps⟩ : ∃ ps, madeL u.h nu (pickI u.r1 5) ti (pickI u.s1 5) zs = ps := ⟨_, rfl⟩
 have hmk : Mk x ps := by rw [← hx, ← hps]; exact qK _ _ _ _ _ _ _ _
 have hxd := Wsh.ok_bnd hmk.ok
 obtain ⟨xb, hbw⟩ : ∃ bw, bentW x (how.tdiv 8) (pickI how 10) = bw := ⟨_, rfl⟩
 refine aa fun _ G16 => wlv Z (ao (Y.g 1 O) O (isAgg84 _) (sizeOf84 _)) fun a Z => bD Z Y call32 O (tJ hx hps (Y.ow 0 O) hzw u1 AA AA AA AA AA u7) fun a w14 x7 hp Z Y => ?_
 revert x7 hp Z Y; rintro pv6 hp Z Y
 clear hp
 replace Y := Y.n3 O
 refine nv Z <| xK O <| xJ (aq O O) <| xJ (aq O O) <| fun a Z => aD Z Y (zeroValue90 _) [jv 0, jv 0, jv 0, jv 0, jv 0, jv 0, jv 0, jv 0, .string (⟨#[]⟩)] O fun a w15 Z Y => az 0 Z Y [jv x.signer, jv x.holder, jv x.rf, jv x.rt, jv x.carrier, jv x.serial, jv x.sf, jv x.st, sv x.sig] O (sizeOf90 _) fun a w16 Z Y => wla Z O fun a Z => G16 ?_
 replace Z := Z.p4 4 10 13 14 O
 replace Y := Y.k3 7 O
 refine ah fun _ G17 => aa fun _ G18 => wlm Z O fun a Z => aw Z Y call44 O (dP how 8 _ Ak Bc) fun a w17 Z Y => wlv Z (v_eq O O) fun a Z => G18 <| aA Z O (fun hc8 => ?_) (fun hc8 => ?_)
 ·refine aL (aN fun w18 hxz => ?_)
  replace Y := Y.grow hxz
  refine aU (k := 0) 5 [0, 2, 4] Z ?_
  refine bN 5 (Z.p6 4 10 13 14 61 62 O) Y <| pl_w (fun Y => ao (Y.g 0 O) O (isAgg90 _) (sizeOf90 _)) <| pl_m O <| pl_v (xH O O de ⟨om, om⟩) <| pl_m O <| pl_r (fun Y => bF call44 O (dP how 10 _ Ak Bc)) fun a w19 Z Y => ?_
  replace Z := Z.p6 10 13 14 65 67 69 O
  refine ab <| aM (k := 5) 7 [6] ?_
  refine aw Z Y call105 O (xa hbw (ut hhow de) om om) fun a w20 Z Y => wlm Z O fun a Z => ab <| aU (k := 7) 10 [8, 9] Z ?_
  replace Z := Z.p8 10 13 14 65 67 69 70 64 O
  replace Y := Y.s3 [0, 1, 2] de rfl
  refine gF [2] (fun q => if q = 2 then blk w14.hz [jv x.signer, jv x.holder, jv x.rf, jv x.rt, jv x.carrier, jv x.serial, jv x.sf, jv x.st, sv x.sig] 90 else join []) (fun q => if q = 2 then blk w14.hz [jv xb.signer, jv xb.holder, jv xb.rf, jv xb.rt, jv xb.carrier, jv xb.serial, jv xb.sf, jv xb.st, sv xb.sig] 90 else join []) 3 [[], [], [0]] (fun i => match i with | 0 => pv (.agg #[jv xb.signer, jv xb.holder, jv xb.rf, jv xb.rt, jv xb.carrier, jv xb.serial, jv xb.sf, jv xb.st, sv xb.sig]) | 1 => pv (.bool (!(decide (xb = x)))) | 2 => fun v E => v = undef ∧ E = [] | _ => fun _ _ => False) BB Z (H := [own pv6 144 7 (ps.map Pxy.cells), own s2 142 5 (zs.map Cin.cells)]) Y kr kr kr kr de de ?_ ?_ ?_ ?_ ?_ ?_
  ·intro i v E h
   match i, h with
   | 0, _ => exact by decide
   | 1, _ => exact by decide
   | 2, _ => exact by decide
   | i + 3, h => exact h.elim
  ·intro q v E hq h
   simp only [xX, yc, yz] at hq
   rcases hq with rfl <;> exact h
  ·intro q hq
   simp only [xX, yc, yz] at hq
   rcases hq with rfl <;> exact ⟨rfl, rfl⟩
  ·intro i hi hiq e
   match i, hi, hiq with
   | 0, _, _ => exact fun w Y => OpV.g (aq O O)
   | 1, _, _ => exact fun w Y => OpV.g (aq O O)
   | 2, _, h => exact absurd de h
  ·intro q hq
   simp only [xX, yc, yz] at hq
   rcases hq with rfl
   ·rintro _ _ ⟨rfl, rfl⟩
    intro w h
    exact dI (cs := [jv x.signer, jv x.holder, jv x.rf, jv x.rt, jv x.carrier, jv x.serial, jv x.sf, jv x.st, sv x.sig]) (ds := [jv xb.signer, jv xb.holder, jv xb.rf, jv xb.rt, jv xb.carrier, jv xb.serial, jv xb.sf, jv xb.st, sv xb.sig]) O O h (sizeOf90 _) O (lb O) O
  clear Z Y
  rintro _ _ ⟨rfl, rfl⟩ _ _ ⟨rfl, rfl⟩ a w21 Z Y
  replace Z := Z.p10 71 72 10 13 14 65 67 69 70 64 O
  try dsimp only at Y
  replace Y := Y.n3 O
  refine ab <| aT <| G17 ?_
  refine aa fun _ G19 => nv (Z.p3 10 13 14 O) <| xJ (ao (Y.g 0 O) O (isAgg90 _) (sizeOf90 _)) <| xK O <| fun a Z => ?_
  obtain ⟨et, ee, hen⟩ : ∃ t e, encT xb ps = (t, e) := ⟨_, _, rfl⟩
  have hel := gq hen
  refine aw Z Y call106 O (lA (x := xb) (ps := ps) (t := et) (e := ee) hen (Y.ow 1 O)) fun a w22 Z Y => nv Z <| xK O <| xJ (aq O O) <| xJ (aq O O) <| xL O <| xL O <| fun a Z => G19 ?_
  replace Y := Y.k1 4 O
  refine aa fun _ G20 => nv (Z.p2 10 15 O) <| xK O <| xL O <| fun a Z => G20 <| ap ?_
  refine am Z results45 (ag O ae) ?_
  exact ⟨et, O, hel, Y.ext, St.out (E := []) (H := []) (Y.select [] de)⟩
 refine au <| G17 <| aa fun _ G21 => nv Z <| xJ (ao (Y.g 0 O) O (isAgg90 _) (sizeOf90 _)) <| xK O <| fun a Z => ?_
 obtain ⟨et, ee, hen⟩ : ∃ t e, encT x ps = (t, e) := ⟨_, _, rfl⟩
 have hel := gq hen
 refine aw Z Y call106 O (lA (x := x) (ps := ps) (t := et) (e := ee) hen (Y.ow 1 O)) fun a w23 Z Y => nv Z <| xK O <| xJ (aq O O) <| xJ (aq O O) <| xL O <| xL O <| fun a Z => G21 ?_
 replace Y := Y.k1 4 O
 refine aa fun _ G22 => nv (Z.p2 10 15 O) <| xK O <| xL O <| fun a Z => G22 <| ap ?_
 refine am Z results45 (ag O ae) ?_
 exact ⟨et, O, hel, Y.ext, St.out (E := []) (H := []) (Y.select [] de)⟩
theorem rK (cr : Int) (v1 : Value) (cs : List Pr2) (v2 : Value) (ns : List Nin) (v3 : Value) (hs : List Int) (w0 : World) (hv1 : SlAt w0 v1 2 (cs.map Pr2.cells)) (hv2 : SlAt w0 v2 8 (ns.map Nin.cells)) (hns : ∀ u ∈ ns, u.wt w0) (hv3 : SlAt w0 v3 1 (hs.map fun z : Int => [jv z])) (hcr : i64 cr) (hcs : ∀ y ∈ cs, y.wt) (hhs : ∀ z ∈ hs, i64 z) :
  Ret Tryz.prog 12 #[.agg #[jv cr, v1, v2, v3]] w0 (MemR w0 (fun x : Int × Value × List Cas => .agg #[jv x.1, x.2.1]) (fun x => [own x.2.1 55 3 (x.2.2.map Cas.cells)]) (fun x => Doc x.1 x.2.2)) := by
 have hxb1 := hv1.2.1
 have hxb2 := hv2.2.1
 have hxb3 := hv3.2.1
 simp only [xO, big] at hxb1 hxb2 hxb3
 obtain ⟨c, hcc⟩ : ∃ c, pickI cr 8 = c := ⟨_, rfl⟩
 have hcb := aV cr (n := 8) de
 rw [hcc] at hcb
 have hcr1 := hcr
 unfold i64 at hcr1
 refine zN func12 O ntmps12 (lb O) fun a Z Y => ?_
 refine aa fun _ G1 => aS Z Y O [jv cr, v1, v2, v3] O fun a w1 Z Y => aD Z Y (zeroValue32 _) [jv 0, .slice none 0 0] O fun a w2 Z Y => G1 <| aa fun _ G2 => ?_
 refine nv Z <| xJ (ac (v := pq w0.hz) O kr) <| xJ (ld Y 1 O O (isAgg3 _) O) <| fun a Z => aw Z Y call44 O (eB hcc (dP cr 8 _ Ak de)) fun a w3 Z Y => wlv Z (aX (v := .agg #[jv c, .slice none 0 0]) O kr) fun a Z => aD Z Y (zeroValue32 _) [jv 0, .slice none 0 0] O fun a w4 Z Y => az 0 Z Y [jv c, .slice none 0 0] O (sizeOf32 _) fun a w5 Z Y => G2 <| aa fun _ G3 => ?_
 refine wla Z O fun a Z => G3 <| ah fun _ G4 => ?_
 refine aa fun _ G5 => wla Z O fun a Z => G5 <| ar ?_
 replace Y : St No w0 [own (.slice none 0 0) 55 3 (([] : List Cas).map Cas.cells), blk w3.hz [jv c, .slice none 0 0] 32, blk w1.hz [jv 0, .slice none 0 0] 32, blk w0.hz [jv cr, v1, v2, v3] 26] w5 := Y.nil_own
 refine aW (fun m a w => ∃ (k : Nat) (n : Int) (v : Value) (l : List Cas), m = 6 - k ∧ (k ≤ 6) ∧ (l.length = k) ∧ (ascC (-1) l = true) ∧ (lastC (-1) l = n) ∧ (-1 ≤ n ∧ n < 4 * (k : Int)) ∧ (∀ x ∈ l, x.n ≤ 23 ∧ x.t < 10000) ∧ Fr 78 [(1, pq w0.hz), (2, pq w1.hz), (3, pq w3.hz), (4, jv n), (5, jv (k : Int))] [] a ∧ St No w0 [own v 55 3 ((l).map Cas.cells), blk w3.hz [jv c, v] 32, blk w1.hz [jv 0, .slice none 0 0] 32, blk w0.hz [jv cr, v1, v2, v3] 26] w) _ ⟨0, -1, .slice none 0 0, [], O, de, O, O, O, de, sm, Z.pick [1, 2, 3, 4, 5], Y.select [0, 1, 2, 3] de⟩ ?_
 rintro _ a w6 ⟨k, n, v, l, rfl, hk, hlen, hasc, hln, hnb, hall, Z, Y⟩
 refine ah fun _ G6 => aa fun _ G7 => nv Z <| xK O <| xJ (ac (v := pw2 w0.hz 1) O kr) <| xJ (ld Y 3 O O (isAgg22 _) O) <| xJ ((aI (sT := 22) (Y.arg hv1) O O (runUnderlying22 _)).asi (m' := (cs.length : Int)) Ai) <| xJ (v_lt O O) <| xK O <| fun a Z => ?_
 rcases Decidable.em ((k : Int) < (cs.length : Int)) with hb1 | hb1
 ·rw [xS hb1] at Z
  have hkx : k < cs.length := by omega
  refine nv Z <| xM (ay O) <| xM (v_lt O O) <| xJ (ax O O) <| fun a Z => G7 ?_
  replace Z := Z.p6 1 2 3 4 5 19 O
  refine aA Z O (fun hc2 => ?_) (fun hc2 => ?_)
  ·refine au <| G6 <| ah fun _ G8 => ar ?_
   obtain ⟨y, hy⟩ : ∃ y, cs.getD k Pr2.z = y := ⟨_, rfl⟩
   have hyw := hcs _ (bc (d := Pr2.z) hkx)
   rw [hy] at hyw
   obtain ⟨hya, hyb⟩ := hyw
   have g1 := hya
   have g2 := hyb
   unfold i64 at g1 g2
   have p1 := aV y.a (n := 4) de
   have p2 := aV y.b (n := 10000) de
   refine aa fun _ G9 => nv Z <| xK O <| xJ (aP O O ⟨om, om⟩) <| xJ (ac (v := pw2 w0.hz 1) O kr) <| xJ (ld Y 3 O O (isAgg22 _) O) <| xK O <| xJ ((aj (i := (k : Int)) (sT := 22) (Y.arg hv1) O O (runUnderlying22 _) (sizeOf63 _) om zY).as (v' := slAddr v1 (k * 2)) O) <| xJ (cT (k := k * 2) (j := 0) (Y.arg hv1) (i := k) zY O O (fun _ _ => by kernel_rfl)) <| xJ (aB (u := jv y.a) (i := k) (j := 0) (Y.arg hv1) zY O (isAgg3 _) (by rw [bn Pr2.z, hy]; rfl)) <| fun a Z => aw Z Y call44 O (dP y.a 4 _ Ak de) fun a w7 Z Y => nv Z <| xJ (aP O O ⟨om, om⟩) <| xL O <| fun a Z => G9 ?_
   refine aa fun _ G10 => nv (Z.p5 1 2 3 5 4 O) <| xK O <| xJ (ac (v := pw2 w0.hz 1) O kr) <| xJ (ld Y 3 O O (isAgg22 _) O) <| xK O <| xJ ((aj (i := (k : Int)) (sT := 22) (Y.arg hv1) O O (runUnderlying22 _) (sizeOf63 _) om zY).as (v' := slAddr v1 (k * 2)) O) <| xJ (cT (k := k * 2) (j := 1) (Y.arg hv1) (i := k) zY O O (fun _ _ => by kernel_rfl)) <| xJ (aB (u := jv y.b) (i := k) (j := 1) (Y.arg hv1) zY O (isAgg3 _) (by rw [bn Pr2.z, hy]; rfl)) <| fun a Z => aw Z Y call44 O (dP y.b 10000 _ Ak de) fun a w8 Z Y => wlv Z (aX (v := .agg #[jv ((n + 1) + (pickI y.a 4)), jv (pickI y.b 10000), sv ([] : By)]) O kr) fun a Z => aD Z Y (zeroValue55 _) [jv 0, jv 0, .string (⟨#[]⟩)] O fun a w9 Z Y => ?_
   refine az 0 Z Y [jv ((n + 1) + (pickI y.a 4)), jv (pickI y.b 10000), sv ([] : By)] O (sizeOf55 _) fun a w10 Z Y => G10 ?_
   refine ah fun _ G11 => aa fun _ G12 => nv (Z.p6 1 2 3 5 4 6 O) <| xK O <| xJ (ac (v := pw2 w0.hz 2) O kr) <| xJ (ld Y 4 O O (isAgg23 _) O) <| xJ ((aI (sT := 23) (Y.arg hv2) O O (runUnderlying23 _)).asi (m' := (ns.length : Int)) Ai) <| xJ (v_lt O O) <| xK O <| fun a Z => ?_
   rcases Decidable.em ((k : Int) < (ns.length : Int)) with hb3 | hb3
   ·rw [xS hb3] at Z
    refine nv Z <| xM (ay O) <| xM (ac (v := pw2 w0.hz 3) O kr) <| xM (ld Y 4 O O (isAgg24 _) O) <| xM ((aI (sT := 24) (Y.arg hv3) O O (runUnderlying24 _)).asi (m' := (hs.length : Int)) Ai) <| xM (v_lt O O) <| xJ (ax O O) <| fun a Z => G12 ?_
    replace Z := Z.p7 1 2 3 5 4 6 52 O
    refine aA Z O (fun hc4 => ?_) (fun hc4 => ?_)
    ·obtain ⟨u, hud⟩ : ∃ u, ns.getD k Nin.z = u := ⟨_, rfl⟩
     have huw := hns _ (bc (d := Nin.z) (show k < ns.length by omega))
     rw [hud] at huw
     have hhw := hhs _ (bc (d := (0 : Int)) (show k < hs.length by omega))
     refine aL (aN fun w11 hxz => ?_)
     replace Y := Y.grow hxz
     refine aU (k := 0) 16 [4, 6, 8, 10, 15] Z ?_
     replace Z := Z.p6 1 2 3 5 4 6 O
     refine bN 16 Z Y <| pl_v (ac (v := pw2 w0.hz 2) O kr) <| pl_w (fun Y => ld Y 4 O O (isAgg23 _) O) <| pl_m O <| pl_w (fun Y => (aj (i := (k : Int)) (sT := 23) (Y.arg hv2) O O (runUnderlying23 _) (sizeOf84 _) om zY).as (v' := slAddr v2 (k * 8)) O) <| pl_w (fun Y => (bP (Y.arg hv2) (i := k) zY O (isAgg84 _) (sizeOf84 _)).as (v' := .agg #[jv u.h, jv u.r0, jv u.r1, jv u.s0, jv u.s1, jv u.ca, jv u.se, u.cv]) (by rw [bn Nin.z, hud]; rfl)) <| pl_v (ac (v := pq w3.hz) O kr) <| pl_w (fun Y => ld Y 2 O O (isAgg3 _) O) ?_
     refine pl_v (ac (v := pq w8.hz) O kr) <| pl_w (fun Y => ld Y 0 O O (isAgg3 _) O) <| pl_v (ac (v := pw2 w8.hz 1) O kr) <| pl_w (fun Y => ld Y 0 O O (isAgg3 _) O) <| pl_v (ac (v := pw2 w0.hz 3) O kr) <| pl_w (fun Y => ld Y 4 O O (isAgg24 _) O) <| pl_m O <| pl_w (fun Y => (aj (i := (k : Int)) (sT := 24) (Y.arg hv3) O O (runUnderlying24 _) (sizeOf3 _) om zY).as (v' := slAddr v3 (k * 1)) O) ?_
     refine pl_w (fun Y => aB (u := jv (hs.getD k 0)) (i := k) (j := 0) (Y.arg hv3) zY O (isAgg3 _) Bb) fun a w12 Z Y => ?_
     replace Z := Z.p11 1 2 3 5 4 6 57 59 61 63 68 O
     refine ab <| aM (k := 16) 19 [18] ?_
     refine bD Z Y call45 O (wM u c ((n + 1) + (pickI y.a 4)) (pickI y.b 10000) (hs.getD k 0) _ (huw.grow Y.ext) AA AA AA hhw) fun a w13 x6 hp Z Y => ?_
     revert x6 hp Z Y; rintro es5 hp Z Y
     have hes5 := hp
     replace Y := Y.n5 O
     refine wlv Z (ac (v := pw2 w8.hz 2) O kr) fun a Z => az 0 Z Y [jv ((n + 1) + (pickI y.a 4)), jv (pickI y.b 10000), sv es5] O (sizeOf9 _) fun a w14 Z Y => ab <| aT <| G11 ?_
     refine ai <| nv (Z.p6 1 2 3 5 4 6 O) <| xJ (ac (v := pw2 w3.hz 1) O kr) <| xJ (ld Y 2 O O (isAgg30 _) O) <| xJ (ao (Y.g 0 O) O (isAgg55 _) (sizeOf55 _)) <| fun a Z => aE (E := 55) (sz := 3) O [[jv ((n + 1) + (pickI y.a 4)), jv (pickI y.b 10000), sv es5]] kr sm O de de Z Y fun a w15 Z Y => aY (i := 2) (sT := 30) (inf := Tryz.t55) (z := .agg #[jv 0, jv 0, .string (⟨#[]⟩)]) (b := 0) (off := 0) (m := 0) (c := 0) O O O (Y.ow 0 O) sm underlying30 O O O O de z6 Am Am de Z Y fun a w16 s7 Z Y _ => ?_
     rw [show ((l).map Cas.cells) ++ ([[jv ((n + 1) + (pickI y.a 4)), jv (pickI y.b 10000), sv es5]]) = ((l ++ [(⟨((n + 1) + (pickI y.a 4)), (pickI y.b 10000), es5⟩ : Cas)]).map Cas.cells) from by rw [yU]; rfl] at Y
     refine wlv Z (ac (v := pw2 w3.hz 1) O kr) fun a Z => cf 3 Z Y (Y.ow 2 O) O O O (sizeOf30 _) (lb O) (ds := [jv c, s7]) O O fun a w17 Z Y => ab <| G8 ?_
     replace Y := Y.k4 60 O
     refine ai <| nv (Z.p5 1 2 3 5 4 O) <| xK O <| xJ (aP O O ⟨om, om⟩) <| xL O <| fun a Z => ab ?_
     refine ⟨_, ?_, k + 1, ((n + 1) + (pickI y.a 4)), s7, (l ++ [(⟨((n + 1) + (pickI y.a 4)), (pickI y.b 10000), es5⟩ : Cas)]), O, om, (by simp [hlen]), (ng hasc hln Bn Bh AC (aV y.b (n := 10000) de).1 (aV y.b (n := 10000) de).2 (by first | assumption | simp)), fO, om, (bY hall ⟨AC, (aV y.b (n := 10000) de).2⟩), Z.pick [1, 2, 3, 4, 5], Y.select [0, 1, 2, 3] de⟩
     omega
    refine au <| G11 <| ai <| nv Z <| xJ (ac (v := pw2 w3.hz 1) O kr) <| xJ (ld Y 2 O O (isAgg30 _) O) <| xJ (ao (Y.g 0 O) O (isAgg55 _) (sizeOf55 _)) <| fun a Z => aE (E := 55) (sz := 3) O [[jv ((n + 1) + (pickI y.a 4)), jv (pickI y.b 10000), sv ([] : By)]] kr sm O de de Z Y fun a w18 Z Y => aY (i := 2) (sT := 30) (inf := Tryz.t55) (z := .agg #[jv 0, jv 0, .string (⟨#[]⟩)]) (b := 0) (off := 0) (m := 0) (c := 0) O O O (Y.ow 0 O) sm underlying30 O O O O de z6 Am Am de Z Y fun a w19 s8 Z Y _ => ?_
    rw [show ((l).map Cas.cells) ++ ([[jv ((n + 1) + (pickI y.a 4)), jv (pickI y.b 10000), sv ([] : By)]]) = ((l ++ [(⟨((n + 1) + (pickI y.a 4)), (pickI y.b 10000), ([] : By)⟩ : Cas)]).map Cas.cells) from by rw [yU]; rfl] at Y
    refine wlv Z (ac (v := pw2 w3.hz 1) O kr) fun a Z => cf 3 Z Y (Y.ow 2 O) O O O (sizeOf30 _) (lb O) (ds := [jv c, s8]) O O fun a w20 Z Y => ab <| G8 ?_
    replace Y := Y.k4 60 O
    refine ai <| nv (Z.p5 1 2 3 5 4 O) <| xK O <| xJ (aP O O ⟨om, om⟩) <| xL O <| fun a Z => ab ?_
    refine ⟨_, ?_, k + 1, ((n + 1) + (pickI y.a 4)), s8, (l ++ [(⟨((n + 1) + (pickI y.a 4)), (pickI y.b 10000), ([] : By)⟩ : Cas)]), O, om, (by simp [hlen]), (ng hasc hln Bn Bh AC (aV y.b (n := 10000) de).1 (aV y.b (n := 10000) de).2 (by first | assumption | simp)), fO, om, (bY hall ⟨AC, (aV y.b (n := 10000) de).2⟩), Z.pick [1, 2, 3, 4, 5], Y.select [0, 1, 2, 3] de⟩
    omega
   rw [xW hb3] at Z
   refine nv Z <| xN <| xN <| xN <| xN <| xN <| xJ (ak O O) <| fun a Z => G12 ?_
   replace Z := Z.p7 1 2 3 5 4 6 52 O
   refine aG Z O ?_
   refine au <| G11 <| ai <| nv Z <| xJ (ac (v := pw2 w3.hz 1) O kr) <| xJ (ld Y 2 O O (isAgg30 _) O) <| xJ (ao (Y.g 0 O) O (isAgg55 _) (sizeOf55 _)) <| fun a Z => aE (E := 55) (sz := 3) O [[jv ((n + 1) + (pickI y.a 4)), jv (pickI y.b 10000), sv ([] : By)]] kr sm O de de Z Y fun a w21 Z Y => aY (i := 2) (sT := 30) (inf := Tryz.t55) (z := .agg #[jv 0, jv 0, .string (⟨#[]⟩)]) (b := 0) (off := 0) (m := 0) (c := 0) O O O (Y.ow 0 O) sm underlying30 O O O O de z6 Am Am de Z Y fun a w22 s9 Z Y _ => ?_
   rw [show ((l).map Cas.cells) ++ ([[jv ((n + 1) + (pickI y.a 4)), jv (pickI y.b 10000), sv ([] : By)]]) = ((l ++ [(⟨((n + 1) + (pickI y.a 4)), (pickI y.b 10000), ([] : By)⟩ : Cas)]).map Cas.cells) from by rw [yU]; rfl] at Y
   refine wlv Z (ac (v := pw2 w3.hz 1) O kr) fun a Z => cf 3 Z Y (Y.ow 2 O) O O O (sizeOf30 _) (lb O) (ds := [jv c, s9]) O O fun a w23 Z Y => ab <| G8 ?_
   replace Y := Y.k4 60 O
   refine ai <| nv (Z.p5 1 2 3 5 4 O) <| xK O <| xJ (aP O O ⟨om, om⟩) <| xL O <| fun a Z => ab ?_
   refine ⟨_, ?_, k + 1, ((n + 1) + (pickI y.a 4)), s9, (l ++ [(⟨((n + 1) + (pickI y.a 4)), (pickI y.b 10000), ([] : By)⟩ : Cas)]), O, om, (by simp [hlen]), (ng hasc hln Bn Bh AC (aV y.b (n := 10000) de).1 (aV y.b (n := 10000) de).2 (by first | assumption | simp)), fO, om, (bY hall ⟨AC, (aV y.b (n := 10000) de).2⟩), Z.pick [1, 2, 3, 4, 5], Y.select [0, 1, 2, 3] de⟩
   omega
  refine aO <| G4 <| aa fun _ G13 => wlv Z (ao (Y.g 1 O) O (isAgg32 _) (sizeOf32 _)) fun a Z => bp (us := [jv c, v]) 2 Z Y O O O (sizeOf32 _) Aq (lb O) (ds := [jv c, v]) O O fun a w24 Z Y => ?_
  refine G13 ?_
  replace Z := Z.p1 2 O
  replace Y := Y.k2 5 O
  refine ap <| am Z results12 (al O (bj (Y.g 1 O) (isAgg32 _) (sizeOf32 _)) ae) ?_
  exact ⟨(c, v, l), O, tM hcb hasc (show l.length ≤ 6 by omega) hall, Y.ext, St.out (E := [own v 55 3 (l.map Cas.cells)]) (H := []) (Y.select [0] de)⟩
 rw [xW hb1] at Z
 refine nv Z <| xN <| xN <| xJ (ak O O) <| fun a Z => G7 ?_
 replace Z := Z.p6 1 2 3 4 5 19 O
 refine aG Z O ?_
 refine aO <| G4 <| aa fun _ G14 => wlv Z (ao (Y.g 1 O) O (isAgg32 _) (sizeOf32 _)) fun a Z => bp (us := [jv c, v]) 2 Z Y O O O (sizeOf32 _) Aq (lb O) (ds := [jv c, v]) O O fun a w25 Z Y => ?_
 refine G14 ?_
 replace Z := Z.p1 2 O
 replace Y := Y.k2 5 O
 refine ap <| am Z results12 (al O (bj (Y.g 1 O) (isAgg32 _) (sizeOf32 _)) ae) ?_
 exact ⟨(c, v, l), O, tM hcb hasc (show l.length ≤ 6 by omega) hall, Y.ext, St.out (E := [own v 55 3 (l.map Cas.cells)]) (H := []) (Y.select [0] de)⟩
theorem Doc.at {c : Int} {l : List Cas} (h : Doc c l) {i : Nat} (hi : i < l.length) : (0 ≤ (l.getD i Cas.z).n ∧ (l.getD i Cas.z).n ≤ 23) ∧ (0 ≤ (l.getD i Cas.z).t ∧ (l.getD i Cas.z).t < 10000) ∧ (l.getD i Cas.z).ev.length ≤ 900 := by
 have hm := pR hi
 have h1 := Cas.bnd (mi h.1 _ hm)
 have h2 := h.2.2 _ hm
 omega
theorem Doc.car {c : Int} {l : List Cas} (h : Doc c l) : 0 ≤ c ∧ c ≤ 7 := fx h.1
theorem Doc.swap {c e : Int} {l k : List Cas} (h : Doc c l) (h2 : Doc e k) : Doc c k := by
 refine ⟨?_, h2.2⟩
 have h3 := h2.1
 have h4 := fx h.1
 unfold docOk inB at h3 ⊢
 simp only [xP, xT] at h3 ⊢
 exact ⟨⟨h3.1.1, h4⟩, h3.2⟩
theorem va {xs : List By} {k n : Nat} (h : ∀ z ∈ xs, z.length ≤ n) : (xs.getD k []).length ≤ n := by
 rw [xR]
 rcases Nat.lt_or_ge k xs.length with hk | hk
 ·rw [xY hk]; exact h _ (yK hk)
 ·rw [zv hk]; exact ym _
theorem gt {f : FuncId} {args : Array Value} {w : World} {a b : Value} (h : a = b) (hr : Ret Tryz.prog f args w fun v w' => v = a ∧ Ext No w w') : Ret Tryz.prog f args w fun v w' => v = b ∧ Ext No w w' := by subst h; exact hr
theorem rZ {X : Type} {w w' : World} {f : X → Value} {E : X → List Ent} {p q : X → Prop} {v : Value} (h : MemR w f E p v w') (hq : ∀ x, p x → q x) : MemR w f E q v w' := by
 obtain ⟨x, h1, h2, h3⟩ := h
 exact ⟨x, h1, hq x h2, h3⟩
section
variable {key : By} {hd : Hd} {c : Int} {l : List Cas} {es : List By} {n : Nat} {ix ixa ixb : List Int} {L La Lb : List Itw} {num : Int}
theorem dL (hD : docOk c l = true) (hk : key.length = 32) (hhd : hdOf sha key c (entC l) l.length = hd) (hix : ascI (l.length : Int) (-1) ix = true) (hL : itsM L = showIs sha (entC l) l.length ix) : checkP sha key hd (itsM L) = true := by
 rw [hL, ← hhd]; exact j9 cD hk (jK hD) (by rw [dT]; omega) hix
theorem lJ (hr : regOk c es = true) (hn : n ≤ es.length) (hk : key.length = 32) (hhd : hdOf sha key c es n = hd) (hix : ascI (n : Int) (-1) ix = true) (hL : itsM L = showIs sha es n ix) : checkP sha key hd (itsM L) = true := by
 rw [hL, ← hhd]; exact j9 cD hk hr hn hix
theorem db (hn : n ≤ 60) (hL : itsM L = showIs sha es n ix) : ∀ x ∈ L, x.m.pf.length ≤ 1000 := fun x hx => yL (wr hL hn x hx) de
theorem dM (hL : itsM L = showIs sha es n ix) : L.length = ix.length := by
 have := yr List.length hL
 rwa [eJ, showIs, xO] at this
theorem ef (hL : itsM L = showIs sha es n ix) {k : Nat} (hk : k < ix.length) : (L.getD k Itw.z).m = itmAt sha es n (ix.getD k 0) := by
 have h1 : (itsM L).getD k Itm.z = (L.getD k Itw.z).m := by
  have hl := dM hL
  rw [itsM, xR, yT, xR, xY om]; rfl
 rw [← h1, hL, showIs, xR, yT, xR, xY hk]; rfl
theorem rq (hL : itsM L = showIs sha (entC l) l.length ix) (h : docOk c l = true) (hix : ascI (l.length : Int) (-1) ix = true) (hn : ¬ thereC l num) : hasF num (itsM L) = none := by
 cases hq : hasF num (itsM L) with
 | none => rfl
 | some d =>
  rw [hL] at hq
  obtain ⟨i, h1, h2, h3⟩ := wl h hix hq
  exact absurd ⟨i, h1, by rw [h2]; exact h3⟩ hn
theorem lw (hL : itsM L = showIs sha (entC l) l.length ix) (hhd : hdOf sha key c (entC l) l.length = hd) (h : docOk c l = true) (hix : ascI (l.length : Int) (-1) ix = true) (ht : thereC l num) : lackF hd.n num (-1) false (itsM L) = false := by
 rw [hL, ← hhd]; exact tT h hix ht
theorem iL (hL : itsM L = showIs sha (entC l) l.length (ansIx l num)) (hhd : hdOf sha key c (entC l) l.length = hd) (h : docOk c l = true) (hh : hitC l num = false) : lackF hd.n num (-1) false (itsM L) = true := by
 rw [hL, ← hhd]; exact ul h hh
theorem wO (hL : itsM L = showIs sha (entC l) l.length (ansIx l num)) (h : docOk c l = true) (hh : hitC l num = true) : hasF num (itsM L) = some (l.getD (lowC num l) Cas.z) := by rw [hL]; exact vl h hh
theorem kC (h : docOk c l = true) (hia : ascI (l.length : Int) (-1) ixa = true) (hib : ascI (l.length : Int) (-1) ixb = true) (ha : itsM La = showIs sha (entC l) l.length ixa) (hb : itsM Lb = showIs sha (entC l) l.length ixb) : crookF (itsM La) (itsM Lb) = false := by rw [ha, hb]; exact mZ h hia hib
end
section
variable {ks : List By} {key : By} {q : Chg} {lim t : Int} {r : Rpl}
theorem mI {p : Rpl → Bool} : firstF p none [r] = if p r = true then some r.at_ else none := by
 show nextO p none r = _
 unfold nextO lessO
 rw [zB]
theorem fl {bk bb : Bool} (h1 : keptB sha ks key q (q.a + lim) t r = bk) (h2 : backB sha key q (q.a + lim) t r = bb) : stateH sha ks key lim q [r] t = pickS (if bk = true then some r.at_ else none) (if bb = true then some r.at_ else none) q (q.a + lim) t := by
 unfold stateH
 rw [mI, mI, h1, h2]
end
theorem vf : exS.length ≤ 900 := gq (x := exW) (ps := [exP]) (e := 0) (by unfold encT; rw [pn])
theorem cj : docOk 3 exC = true := by
 have h := vf
 unfold docOk exC
 simp only [ascC, Cas.ok, inB]
 rw [xS h]
 rfl
theorem vS : exC.length = 3 := rfl
theorem ix1000 : ansIx exC 1000 = [0] := by decide
theorem ix1500 : ansIx exC 1500 = [1] := by decide
theorem ix1200 : ansIx exC 1200 = [0, 1] := by decide
theorem ix500 : ansIx exC 500 = [0] := by decide
theorem ix3000 : ansIx exC 3000 = [2] := by decide
theorem wA : hitC exC 1500 = true := by decide
theorem na : hitC exC 1200 = false := by decide
theorem hit500 : hitC exC 500 = false := by decide
theorem vL : hitC exC 3000 = false := by decide
theorem mu : thereC exC 1000 := ⟨0, by decide, rfl⟩
theorem jB : ¬ thereC exC 1200 := fun h => by have := (qG cj).2 h; rw [na] at this; cases this
section
variable {hd : Hd} {L : List Itw}
theorem nl {key : By} (hk : key.length = 32) (hhd : hdOf sha key 3 (entC exC) exC.length = hd) (hL : itsM L = showIs sha (entC exC) exC.length (ansIx exC 1000)) (hol t en : Int) (hen : 320 ≤ en - 1) (iv : Value) :
  (320 ≤ t → keptB sha keysH key ⟨1000, 1, 3, 150, 300⟩ en t (Rpw.m ⟨320, hd, iv, L⟩) = true) ∧ (t < 320 → keptB sha keysH key ⟨1000, hol, 3, 150, 300⟩ en t (Rpw.m ⟨320, hd, iv, L⟩) = false) ∧ backB sha key ⟨1000, hol, 3, 150, 300⟩ en t (Rpw.m ⟨320, hd, iv, L⟩) = false ∧ (hol ≠ 1 → keptB sha keysH key ⟨1000, hol, 3, 150, 300⟩ en t (Rpw.m ⟨320, hd, iv, L⟩) = false) := by
 have hix := dh exC 1000
 have hc := dL cj hk hhd hix hL
 have hdc : hd.c = 3 := by rw [← hhd]; rfl
 have hm : itmAt sha (entC exC) exC.length 0 ∈ itsM L := by rw [hL, ix1000]; exact yo.2 rfl
 have hd0 : decCas (itmAt sha (entC exC) exC.length 0).e = some ⟨1000, 150, exS⟩ := cN cj de de
 refine ⟨fun ht => ?_, fun ht => ?_, ?_, fun hn => ?_⟩
 ·exact iE.2 ⟨gE.2 ⟨⟨by show (300 : Int) ≤ 320; decide, hen, ht⟩, hdc, hc⟩, uk hm hd0 O O uF O O uA⟩
 ·rw [Bool.eq_false_iff]; intro h
  have := (gE.1 (iE.1 h).1).1.2.2
  have : (320 : Int) ≤ t := this
  omega
 ·rw [Bool.eq_false_iff]; intro h
  have h9 : lackF hd.n 1000 (-1) false (itsM L) = true := (kc.1 h).2
  rw [lw hL hhd cj hix mu] at h9
  cases h9
 ·rw [Bool.eq_false_iff]; intro h
  obtain ⟨x, hx, d, h1, h2, h3, w, ps, h4, h5, _⟩ := gZ (iE.1 h).2
  have hx : x ∈ itsM L := hx
  rw [hL, ix1000] at hx
  have hx := yo.1 hx
  rw [hx, hd0] at h1
  cases h1
  rw [uF] at h4
  cases h4
  exact hn h5.symm
theorem ex_b {key : By} (hk : key.length = 32) (hhd : hdOf sha key 3 (entC exC) exC.length = hd) (hL : itsM L = showIs sha (entC exC) exC.length (ansIx exC 1200)) (iv : Value) :
  keptB sha keysH key ⟨1200, 1, 3, 150, 300⟩ 350 310 (Rpw.m ⟨310, hd, iv, L⟩) = false ∧ backB sha key ⟨1200, 1, 3, 150, 300⟩ 350 310 (Rpw.m ⟨310, hd, iv, L⟩) = true := by
 have hix := dh exC 1200
 have hc := dL cj hk hhd hix hL
 have hdc : hd.c = 3 := by rw [← hhd]; rfl
 refine ⟨?_, ?_⟩
 ·rw [Bool.eq_false_iff]; intro h
  obtain ⟨x, hx, d, h1, h2, _⟩ := gZ (iE.1 h).2
  have hx : x ∈ itsM L := hx
  rw [hL] at hx
  obtain ⟨i, hi, rfl⟩ := dH hx
  have hb := dJ hix i hi
  rw [cN cj om hb.2] at h1
  exact jB ⟨i.toNat, by omega, by rw [yW h1]; exact h2⟩
 ·exact kc.2 ⟨gE.2 ⟨⟨by show (300 : Int) ≤ 310; decide, by show (310 : Int) ≤ 350 - 1; decide, by show (310 : Int) ≤ 310; decide⟩, hdc, hc⟩, iL hL hhd cj na⟩
theorem gw {key : By} (hk : key.length = 32) (hhd : hdOf sha key 3 (entC exC) exC.length = hd) (hL : itsM L = showIs sha (entC exC) exC.length (ansIx exC 1000)) (iv : Value) :
  stateH sha keysH key 50 ⟨1000, 1, 3, 150, 300⟩ (repsM [⟨320, hd, iv, L⟩]) 320 = (2, 320) ∧ stateH sha keysH key 50 ⟨1000, 1, 3, 150, 300⟩ (repsM [⟨320, hd, iv, L⟩]) 319 = (1, 300) ∧ stateH sha keysH key 50 ⟨1000, 2, 3, 150, 300⟩ (repsM [⟨320, hd, iv, L⟩]) 349 = (1, 300) ∧ stateH sha keysH key 50 ⟨1000, 2, 3, 150, 300⟩ (repsM [⟨320, hd, iv, L⟩]) 350 = (3, 350) := by
 have a := nl hk hhd hL 1 320 350 de iv
 have b := nl hk hhd hL 1 319 350 de iv
 have d := nl hk hhd hL 2 349 350 de iv
 have e := nl hk hhd hL 2 350 350 de iv
 exact ⟨fl (lim := 50) (a.1 de) a.2.2.1, fl (lim := 50) (b.2.1 de) b.2.2.1, fl (lim := 50) (d.2.2.2 de) d.2.2.1, fl (lim := 50) (e.2.2.2 de) e.2.2.1⟩
theorem rH {key : By} (hk : key.length = 32) (hhd : hdOf sha key 3 (entC exC) exC.length = hd) (hL : itsM L = showIs sha (entC exC) exC.length (ansIx exC 1200)) (iv : Value) :
  stateH sha keysH key 50 ⟨1200, 1, 3, 150, 300⟩ (repsM [⟨310, hd, iv, L⟩]) 310 = (3, 310) := by
 have a := ex_b hk hhd hL iv
 exact fl (lim := 50) a.1 a.2
end
theorem me {key : By} : stateH sha keysH key 50 ⟨1000, 1, 3, 150, 300⟩ (repsM []) 349 = (1, 300) ∧ stateH sha keysH key 50 ⟨1000, 1, 3, 150, 300⟩ (repsM []) 350 = (3, 350) := ⟨rfl, rfl⟩
theorem sa {La Lo L : List Itw} (ha : itsM La = showIs sha (entC exC) exC.length (ansIx exC 1500)) (ho : itsM Lo = showIs sha (entC exC) exC.length (ansIx exC 1000)) (hL : itsM L = showIs sha [(La.getD 0 Itw.z).m.e, (Lo.getD 0 Itw.z).m.e] 2 [0, 1]) : crookF (itsM L) (itsM L) = true := by
 have e1 : decCas (La.getD 0 Itw.z).m.e = some ⟨1500, 160, []⟩ := by
  rw [ef ha (k := 0) (by rw [ix1500]; decide), ix1500]; exact cN cj de de
 have e2 : decCas (Lo.getD 0 Itw.z).m.e = some ⟨1000, 150, exS⟩ := by
  rw [ef ho (k := 0) (by rw [ix1000]; decide), ix1000]; exact cN cj de de
 rw [hL]
 refine nD (ui (x := itmAt sha [(La.getD 0 Itw.z).m.e, (Lo.getD 0 Itw.z).m.e] 2 0) (y := itmAt sha [(La.getD 0 Itw.z).m.e, (Lo.getD 0 Itw.z).m.e] 2 1) (by simp [showIs]) (by simp [showIs]) (c := ⟨1500, 160, []⟩) (d := ⟨1000, 150, exS⟩) e1 e2 (show (0 : Int) < 1 by decide) (show (1000 : Int) ≤ 1500 by decide))
theorem gR {La Lo : List Itw} (ha : itsM La = showIs sha (entC exC) exC.length (ansIx exC 1500)) (ho : itsM Lo = showIs sha (entC exC) exC.length (ansIx exC 1000)) : regOk 3 [(La.getD 0 Itw.z).m.e, (Lo.getD 0 Itw.z).m.e] = true := by
 refine ub O (show 2 ≤ 60 by decide) fun s hs => ?_
 have h1 : ∀ {L : List Itw} {n : Int}, itsM L = showIs sha (entC exC) exC.length (ansIx exC n) → 0 < (ansIx exC n).length → (L.getD 0 Itw.z).m.e.length ≤ 1000 := by
  intro L n hL hn
  rw [ef hL hn]
  exact yL (va (nR exC)) de
 simp only [xX, yc, yz] at hs
 rcases hs with rfl | rfl
 ·exact h1 ha (by rw [ix1500]; decide)
 ·exact h1 ho (by rw [ix1000]; decide)
theorem jW {x : Wsh} {lv : Value} {ps : List Pxy} {s : By} {w0 : World} (hlv : SlAt w0 lv 7 (ps.map Pxy.cells)) (h : cI x ps = some s) : Ret Tryz.prog 35 #[.agg #[jv x.signer, jv x.holder, jv x.rf, jv x.rt, jv x.carrier, jv x.serial, jv x.sf, jv x.st, sv x.sig], lv] w0 fun v w => v = .tuple #[sv s, jv 0] ∧ Ext No w0 w := by
 have := rx x lv ps w0 hlv
 rw [h] at this
 exact this
theorem xm (w0 : World) (hk0 : (blk 0 (kOf.map wv) 258).ok w0) :
  Ret Tryz.prog 104 #[] w0 fun v w => v = sv exS ∧ Ext No w0 w := by
 refine aC func104 O ntmps104 (lb O) fun a Z => ?_
 replace Z : Fr 31 [] [] a := Z
 replace Y : St No w0 [] w0 := St.init w0
 refine aa fun _ G1 => wla Z O fun a Z => G1 <| aa fun _ G2 => ?_
 refine aw Z Y call33 O (fG 1 _) fun a w1 Z Y => nv Z <| xJ (aX (v := .agg #[jv 1000, jv 2000]) O kr) <| xJ (aX (v := .agg #[jv 100, jv 500]) O kr) <| xJ (aX (v := .agg #[jv 1, jv 2, jv 1000, jv 2000, jv 100, jv 500, sv ([] : By)]) O kr) <| fun a Z => aw Z Y call151 O (mO (keyH 1) ⟨1, 2, 1000, 2000, 100, 500, []⟩ _ (ck _) de (Y.keepb hk0)) fun a w2 Z Y => nv Z <| xK O <| xJ (aq O O) <| xJ (aq O O) <| fun a Z => aD Z Y (zeroValue144 _) [jv 0, jv 0, jv 0, jv 0, jv 0, jv 0, .string (⟨#[]⟩)] O fun a w3 Z Y => az 0 Z Y [jv exP.frm, jv exP.to, jv exP.rf, jv exP.rt, jv exP.sf, jv exP.st, sv exP.sig] O (sizeOf144 _) fun a w4 Z Y => wla Z O fun a Z => G2 ?_
 refine aa fun _ G3 => aw (Z.p2 0 1 O) Y call33 O (fG 2 _) fun a w5 Z Y => nv Z <| xJ (aX (v := .agg #[jv 1000, jv 1200]) O kr) <| xJ (aX (v := .agg #[jv 150, jv 200]) O kr) <| xJ (aX (v := .agg #[jv 2, jv 1, jv 1000, jv 1200, jv 3, jv 7, jv 150, jv 200, sv ([] : By)]) O kr) <| fun a Z => aw Z Y call34 O (jk (keyH 2) ⟨2, 1, 1000, 1200, 3, 7, 150, 200, []⟩ _ (ck _) de (Y.keepb hk0)) fun a w6 Z Y => nv Z <| xK O <| xJ (aq O O) <| xJ (aq O O) <| fun a Z => aD Z Y (zeroValue90 _) [jv 0, jv 0, jv 0, jv 0, jv 0, jv 0, jv 0, jv 0, .string (⟨#[]⟩)] O fun a w7 Z Y => az 0 Z Y [jv exW.signer, jv exW.holder, jv exW.rf, jv exW.rt, jv exW.carrier, jv exW.serial, jv exW.sf, jv exW.st, sv exW.sig] O (sizeOf90 _) fun a w8 Z Y => wla Z O fun a Z => G3 ?_
 refine aa fun _ G4 => nv (Z.p3 0 1 3 O) <| xJ (ao (Y.g 0 O) O (isAgg90 _) (sizeOf90 _)) <| xJ (ao (Y.g 1 O) O (isAgg144 _) (sizeOf144 _)) <| fun a Z => aE (E := 144) (sz := 7) O [[jv exP.frm, jv exP.to, jv exP.rf, jv exP.rt, jv exP.sf, jv exP.st, sv exP.sig]] kr sm O de de Z Y fun a w9 Z Y => aw Z Y call35 O (jW (x := exW) (ps := [exP]) (Y.ow 0 O) pn) fun a w10 Z Y => nv Z <| xK O <| xJ (aq O O) <| xJ (aq O O) <| xL O <| xL O <| fun a Z => G4 ?_
 replace Y := Y.k0 0 O
 refine aa fun _ G5 => nv (Z.p2 0 5 O) <| xK O <| xL O <| fun a Z => G5 <| ap ?_
 refine am Z results104 (ag O ae) ?_
 exact ⟨by rfl, Y.ext⟩
theorem xF (w0 : World) (hk0 : (blk 0 (kOf.map wv) 258).ok w0) :
  Ret Tryz.prog 41 #[] w0 (MemR w0 (fun v : Value => .agg #[jv 3, v]) (fun v => [own v 55 3 (exC.map Cas.cells)]) (fun _ => True)) := by
 refine aC func41 O ntmps41 (lb O) fun a Z => ?_
 replace Z : Fr 7 [] [] a := Z
 replace Y : St No w0 [] w0 := St.init w0
 refine aa fun _ G1 => aD Z Y (zeroValue32 _) [jv 0, .slice none 0 0] O fun a w1 Z Y => G1 <| aa fun _ G2 => ?_
 refine aw Z Y call104 O (xm _ (Y.keepb hk0)) fun a w2 Z Y => nv Z <| xJ (aX (v := .agg #[jv 1000, jv 150, sv exS]) O kr) <| xJ (aX (v := .agg #[jv 1500, jv 160, sv ([] : By)]) O kr) <| xJ (aX (v := .agg #[jv 2000, jv 170, sv ([] : By)]) O kr) <| fun a Z => aE (E := 55) (sz := 3) O [[jv 1000, jv 150, sv exS], [jv 1500, jv 160, sv ([] : By)], [jv 2000, jv 170, sv ([] : By)]] kr sm O de de Z Y fun a w3 Z Y => wlv Z (aX (v := .agg #[jv 3, (.slice (some ⟨w2.hz, 0, none⟩) 3 3)]) O kr) fun a Z => az 1 Z Y [jv 3, (.slice (some ⟨w2.hz, 0, none⟩) 3 3)] O (sizeOf32 _) fun a w4 Z Y => G2 ?_
 replace Z := Z.p1 0 O
 refine ap <| am Z results41 (al O (bj (Y.g 1 O) (isAgg32 _) (sizeOf32 _)) ae) ?_
 exact ⟨(.slice (some ⟨w2.hz, 0, none⟩) 3 3), O, trivial, Y.ext, St.out (E := [own (.slice (some ⟨w2.hz, 0, none⟩) 3 3) 55 3 (exC.map Cas.cells)]) (H := []) (Y.select [0] de)⟩
theorem f7 (hd : Hd) (iv : Value) (L : List Itw) (lv : Value) (ix : List Int) (w0 : World) (hiv : ItsAt w0 iv L) (hlv : SlAt w0 lv 1 ((ix).map fun n => [jv n])) (hl : L.length = ix.length) (hix : ∀ k, k < ix.length → (L.getD k Itw.z).m.ix = ix.getD k 0) :
  Ret Tryz.prog 42 #[.agg #[jv hd.c, jv hd.n, sv hd.root, sv hd.tag, iv], lv] w0 fun v w => v = .bool true ∧ Ext No w0 w := by
 have hxb := hiv.len
 have hxc := hlv.2.1
 simp only [xO, big] at hxc
 refine zM func42 O ntmps42 (lb O) fun a Z Y => ?_
 refine aa fun _ G1 => aS Z Y O [jv hd.c, jv hd.n, sv hd.root, sv hd.tag, iv] O fun a w1 Z Y => wla Z O fun a Z => G1 <| ah fun _ G2 => ?_
 refine aa fun _ G3 => nv Z <| xJ (ac (v := pw2 w0.hz 4) O kr) <| xJ (ld Y 0 O O (isAgg48 _) O) <| xJ ((aI (sT := 48) (Y.arg hiv.1) O O (runUnderlying48 _)).asi (m' := (L.length : Int)) Ai) <| xK O <| xJ ((aI (sT := 24) (Y.arg hlv) O O (runUnderlying24 _)).asi (m' := (ix.length : Int)) Ai) <| xJ (v_ne O O) <| fun a Z => G3 ?_
 replace Z := Z.p4 1 2 4 11 O
 refine dk Z O (fun hc1 => ?_) (fun hc1 => ?_)
 ·exfalso; omega
 refine au <| G2 <| ah fun _ G4 => aa fun _ G5 => wla Z O fun a Z => G5 <| ar ?_
 refine aW (fun m a w => ∃ (k : Nat), m = ix.length - k ∧ (k ≤ ix.length) ∧ Fr 29 [(1, lv), (2, pq w0.hz), (5, jv (k : Int))] [] a ∧ St No w0 [blk w0.hz [jv hd.c, jv hd.n, sv hd.root, sv hd.tag, iv] 50] w) _ ⟨0, O, ym _, Z.pick [1, 2, 5], Y.select [0] de⟩ ?_
 rintro _ a w2 ⟨k, rfl, hk, Z, Y⟩
 refine ah fun _ G6 => aa fun _ G7 => nv Z <| xK O <| xK O <| xJ ((aI (sT := 24) (Y.arg hlv) O O (runUnderlying24 _)).asi (m' := (ix.length : Int)) Ai) <| xJ (v_lt O O) <| fun a Z => G7 <| aA Z O (fun hc2 => ?_) (fun hc2 => ?_)
 ·have hkx : k < ix.length := by omega
  have hkl := hix k hkx
  refine au <| G6 <| ah fun _ G8 => ar <| ah fun _ G9 => aL (aN fun w3 hxz => ?_)
  replace Y := Y.grow hxz
  refine aU (k := 0) 10 [5, 9] Z ?_
  replace Z := Z.p6 1 2 5 12 13 14 O
  refine bN 10 Z Y <| pl_v (ac (v := pw2 w0.hz 4) O kr) <| pl_w (fun Y => ld Y 0 O O (isAgg48 _) O) <| pl_m O <| pl_w (fun Y => (aj (i := (k : Int)) (sT := 48) (Y.arg hiv.1) O O (runUnderlying48 _) (sizeOf110 _) om zY).as (v' := slAddr iv (k * 3)) O) <| pl_w (fun Y => bI (k := k * 3) (j := 0) (Y.arg hiv.1) (i := k) zY O (fun _ _ => by kernel_rfl)) <| pl_w (fun Y => aB (u := jv ((L.getD k Itw.z).m.ix)) (i := k) (j := 0) (Y.arg hiv.1) zY O (isAgg3 _) (by rw [bn Itw.z]; rfl)) <| pl_m O <| pl_m O ?_
  refine pl_w (fun Y => (aj (i := (k : Int)) (sT := 24) (Y.arg hlv) O O (runUnderlying24 _) (sizeOf3 _) om zY).as (v' := slAddr lv (k * 1)) O) <| pl_w (fun Y => aB (u := jv (ix.getD k 0)) (i := k) (j := 0) (Y.arg hlv) zY O (isAgg3 _) Bb) fun a w4 Z Y => ?_
  replace Z := Z.p5 1 2 5 23 27 O
  refine ab <| aM (k := 10) 11 [10] ?_
  refine wlv Z (v_ne O O) fun a Z => ab <| aT <| G9 <| dk Z O (fun hc3 => ?_) (fun hc3 => ?_)
  ·exact absurd hkl hc3
  refine au <| G8 <| ai <| nv Z <| xK O <| xJ (aP O O ⟨om, om⟩) <| xL O <| fun a Z => ab ?_
  refine ⟨_, ?_, k + 1, O, om, Z.pick [1, 2, 5], Y.select [0] de⟩
  omega
 refine aO <| G4 <| aa fun _ G10 => wla Z O fun a Z => G10 ?_
 replace Z := Z.p1 4 O
 replace Y := Y.k0 0 O
 refine ap <| am Z results42 (ag O ae) ?_
 exact ⟨by rfl, Y.ext⟩
theorem fE (n h : Int) (lv : Value) (R : List Rpw) (t s0 s1 : Int) (w0 : World) (hlv : RepAt w0 lv R) (hRp : ∀ r ∈ R, ∀ x ∈ r.L, x.m.pf.length ≤ 1000) (hso : eS (keyG 3) 50 ⟨n, h, 3, 150, 300⟩ R.length t = true) (hs : stateH sha keysH (keyG 3) 50 ⟨n, h, 3, 150, 300⟩ (repsM R) t = (s0, s1)) (hk0 : (blk 0 (kOf.map wv) 258).ok w0) :
  Ret Tryz.prog 43 #[jv n, jv h, lv, jv t, jv s0, jv s1] w0 fun v w => v = .bool true ∧ Ext No w0 w := by
 refine zR func43 O ntmps43 (lb O) fun a Z Y => ?_
 refine aa fun _ G1 => wla Z O fun a Z => G1 <| aa fun _ G2 => ?_
 refine bD Z Y call18 O (qE _) fun a w1 x2 hp Z Y => ?_
 revert x2 hp Z Y; rintro kv1 hp Z Y
 clear hp
 replace Y := Y.n1 O
 refine aw Z Y call13 O (kQ 3 _ om) fun a w2 Z Y => nv Z <| xK O <| xK O <| xJ (aX (v := .agg #[jv n, jv h, jv 3, jv 150, jv 300]) O kr) <| xK O <| xK O <| fun a Z => aw Z Y call17 O (gt (by rw [hs]) (lX kv1 lv keysH (keyG 3) 50 (⟨n, h, 3, 150, 300⟩ : Chg) R t _ (Y.ow 0 O) (ir Y hlv) hRp hso (Y.keepb hk0))) fun a w3 Z Y => nv Z <| xK O <| xJ (aq O O) <| xJ (aq O O) <| xJ (aq O O) <| xL O <| xL O <| xL O <| fun a Z => G2 ?_
 replace Y := Y.k0 0 O
 refine aa fun _ G3 => nv (Z.p6 4 5 12 13 14 15 O) <| xK O <| xJ ((v_eq O O).asb (b' := true) O) <| xK O <| xM (ay O) <| xM (ay O) <| xM ((v_eq O O).asb (b' := true) sm) <| xJ (ax O O) <| xK O <| xM (ay O) <| xM (ay O) <| xM ((v_eq O O).asb (b' := true) sm) <| xJ (ax O O) <| xL O <| fun a Z => G3 ?_
 replace Z := Z.p1 12 O
 refine ap <| am Z results43 (ag O ae) ?_
 exact ⟨by rfl, Y.ext⟩
theorem jV {key : By} {n h t : Int} {k : Nat} (hk : key.length = 32) (hn : (0 ≤ n ∧ n ≤ 2000) ∧ 0 ≤ h ∧ h ≤ 2) (hl : k ≤ 1) (ht : 300 ≤ t ∧ t ≤ 350) : eS key 50 ⟨n, h, 3, 150, 300⟩ k t = true := by
 simp only [eS, Chg.ok, inB, xP, xT]
 omega
theorem vg (w0 : World) (hk0 : (blk 0 (kOf.map wv) 258).ok w0) :
  Ret Tryz.prog 11 #[] w0 fun v w => v = .bool true ∧ Ext No w0 w := by
 obtain ⟨kk, hkk⟩ : ∃ k, keyG 3 = k := ⟨_, rfl⟩
 have hk32 : kk.length = 32 := by rw [← hkk]; exact oi _
 obtain ⟨hd, hhd⟩ : ∃ h, hdOf sha kk 3 (entC exC) exC.length = h := ⟨_, rfl⟩
 have hxl := vS
 refine aC func11 O ntmps11 (lb O) fun a Z => ?_
 replace Z : Fr 243 [] [] a := Z
 replace Y : St No w0 [] w0 := St.init w0
 refine aa fun _ G1 => wla Z O fun a Z => G1 <| aa fun _ G2 => ?_
 refine aw Z Y call13 O (gt (by rw [hkk]) (kQ 3 _ de)) fun a w1 Z Y => wla Z O fun a Z => G2 <| aa fun _ G3 => ?_
 refine bD Z Y call41 O (xF _ (Y.keepb hk0)) fun a w2 x2 hp Z Y => ?_
 revert x2 hp Z Y; rintro dv1 hp Z Y
 clear hp
 replace Y := Y.n1 O
 refine aD Z Y (zeroValue32 _) [jv 0, .slice none 0 0] O fun a w3 Z Y => bp (us := [jv 3, dv1]) 0 Z Y O O O (sizeOf32 _) A2 (lb O) (ds := [jv 3, dv1]) O O fun a w4 Z Y => ?_
 refine G3 <| aa fun _ G4 => ?_
 refine nv Z <| xK O <| xJ (ao (Y.g 0 O) O (isAgg32 _) (sizeOf32 _)) <| fun a Z => bD Z Y call22 O (fm kk hd 3 dv1 exC 1000 _ (Y.ow 1 O) hk32 cj hhd om (Y.keepb hk0)) fun a w5 x4 hp Z Y => ?_
 obtain ⟨iv3, Liv3⟩ := x4
 have hLiv3 := hp
 try dsimp only at Y
 replace Y := Y.n3 O
 refine nv Z <| xK O <| xJ (aq O O) <| xJ (aq O O) <| fun a Z => aD Z Y (zeroValue50 _) [jv 0, jv 0, .string (⟨#[]⟩), .string (⟨#[]⟩), .slice none 0 0] O fun a w6 Z Y => bp (us := [jv hd.c, jv hd.n, sv hd.root, sv hd.tag, iv3]) 0 Z Y O O O (sizeOf50 _) Ae (lb O) (ds := [jv hd.c, jv hd.n, sv hd.root, sv hd.tag, iv3]) O O fun a w7 Z Y => ?_
 refine wla Z O fun a Z => G4 ?_
 refine aa fun _ G5 => nv (Z.p5 0 1 2 3 4 O) <| xK O <| xJ (ao (Y.g 2 O) O (isAgg32 _) (sizeOf32 _)) <| fun a Z => bD Z Y call22 O (fm kk hd 3 dv1 exC 1500 _ (Y.ow 3 O) hk32 cj hhd om (Y.keepb hk0)) fun a w8 x6 hp Z Y => ?_
 obtain ⟨iv5, Liv5⟩ := x6
 have hLiv5 := hp
 try dsimp only at Y
 replace Y := Y.n5 O
 refine nv Z <| xK O <| xJ (aq O O) <| xJ (aq O O) <| fun a Z => aD Z Y (zeroValue50 _) [jv 0, jv 0, .string (⟨#[]⟩), .string (⟨#[]⟩), .slice none 0 0] O fun a w9 Z Y => bp (us := [jv hd.c, jv hd.n, sv hd.root, sv hd.tag, iv5]) 0 Z Y O O O (sizeOf50 _) Ae (lb O) (ds := [jv hd.c, jv hd.n, sv hd.root, sv hd.tag, iv5]) O O fun a w10 Z Y => ?_
 refine wla Z O fun a Z => G5 ?_
 refine aa fun _ G6 => nv (Z.p7 0 1 2 3 4 5 6 O) <| xK O <| xJ (ao (Y.g 4 O) O (isAgg32 _) (sizeOf32 _)) <| fun a Z => bD Z Y call22 O (fm kk hd 3 dv1 exC 1200 _ (Y.ow 5 O) hk32 cj hhd om (Y.keepb hk0)) fun a w11 x8 hp Z Y => ?_
 obtain ⟨iv7, Liv7⟩ := x8
 have hLiv7 := hp
 try dsimp only at Y
 replace Y := Y.n7 O
 refine nv Z <| xK O <| xJ (aq O O) <| xJ (aq O O) <| fun a Z => aD Z Y (zeroValue50 _) [jv 0, jv 0, .string (⟨#[]⟩), .string (⟨#[]⟩), .slice none 0 0] O fun a w12 Z Y => bp (us := [jv hd.c, jv hd.n, sv hd.root, sv hd.tag, iv7]) 0 Z Y O O O (sizeOf50 _) Ae (lb O) (ds := [jv hd.c, jv hd.n, sv hd.root, sv hd.tag, iv7]) O O fun a w13 Z Y => ?_
 refine wla Z O fun a Z => G6 ?_
 refine aa fun _ G7 => nv (Z.p9 0 1 2 3 4 5 6 7 8 O) <| xK O <| xJ (ao (Y.g 6 O) O (isAgg32 _) (sizeOf32 _)) <| fun a Z => bD Z Y call22 O (fm kk hd 3 dv1 exC 500 _ (Y.ow 7 O) hk32 cj hhd om (Y.keepb hk0)) fun a w14 x10 hp Z Y => ?_
 obtain ⟨iv9, Liv9⟩ := x10
 have hLiv9 := hp
 try dsimp only at Y
 replace Y := Y.n9 O
 refine nv Z <| xK O <| xJ (aq O O) <| xJ (aq O O) <| fun a Z => aD Z Y (zeroValue50 _) [jv 0, jv 0, .string (⟨#[]⟩), .string (⟨#[]⟩), .slice none 0 0] O fun a w15 Z Y => bp (us := [jv hd.c, jv hd.n, sv hd.root, sv hd.tag, iv9]) 0 Z Y O O O (sizeOf50 _) Ae (lb O) (ds := [jv hd.c, jv hd.n, sv hd.root, sv hd.tag, iv9]) O O fun a w16 Z Y => ?_
 refine wla Z O fun a Z => G7 ?_
 refine aa fun _ G8 => nv (Z.p11 0 1 2 3 4 5 6 7 8 9 10 O) <| xK O <| xJ (ao (Y.g 8 O) O (isAgg32 _) (sizeOf32 _)) <| fun a Z => bD Z Y call22 O (fm kk hd 3 dv1 exC 3000 _ (Y.ow 9 O) hk32 cj hhd om (Y.keepb hk0)) fun a w17 x12 hp Z Y => ?_
 obtain ⟨iv11, Liv11⟩ := x12
 have hLiv11 := hp
 try dsimp only at Y
 replace Y := Y.n11 O
 refine nv Z <| xK O <| xJ (aq O O) <| xJ (aq O O) <| fun a Z => aD Z Y (zeroValue50 _) [jv 0, jv 0, .string (⟨#[]⟩), .string (⟨#[]⟩), .slice none 0 0] O fun a w18 Z Y => bp (us := [jv hd.c, jv hd.n, sv hd.root, sv hd.tag, iv11]) 0 Z Y O O O (sizeOf50 _) Ae (lb O) (ds := [jv hd.c, jv hd.n, sv hd.root, sv hd.tag, iv11]) O O fun a w19 Z Y => ?_
 refine wla Z O fun a Z => G8 ?_
 refine aa fun _ G9 => nv (Z.p13 0 1 2 3 4 5 6 7 8 9 10 11 12 O) <| xK O <| xJ (ao (Y.g 10 O) O (isAgg32 _) (sizeOf32 _)) <| fun a Z => aw Z Y call23 O (rT kk hd 3 dv1 exC _ (Y.ow 11 O) hk32 cj hhd (Y.keepb hk0)) fun a w20 Z Y => nv Z <| xK O <| xJ (aq O O) <| xJ (aq O O) <| fun a Z => aD Z Y (zeroValue47 _) [jv 0, jv 0, .string (⟨#[]⟩), .string (⟨#[]⟩)] O fun a w21 Z Y => az 0 Z Y [jv hd.c, jv hd.n, sv hd.root, sv hd.tag] O (sizeOf47 _) fun a w22 Z Y => wla Z O fun a Z => G9 ?_
 refine ah fun _ G10 => aa fun _ G11 => nv (Z.p15 0 1 2 3 4 5 6 7 8 9 10 11 12 13 14 O) <| xK O <| xJ ((v_ne O O).asb (b' := false) O) <| xK O <| xM (ay O) <| xM ((v_ne O O).asb (b' := false) O) <| xJ (ak O O) <| xK O <| xM (ay O) <| xM ((v_ne O O).asb (b' := false) O) <| xJ (ak O O) <| xK O <| xM (ay O) <| xM ((v_ne O O).asb (b' := false) O) <| xJ (ak O O) <| xK O <| xM (ay O) <| xM ((v_ne O O).asb (b' := false) O) <| xJ (ak O O) <| xK O <| xM (ay O) <| xM ((v_ne O O).asb (b' := false) O) <| xJ (ak O O) <| xK O <| xM (ao (Y.g 9 O) O (isAgg50 _) (sizeOf50 _)) <| fun a Z => ez Z ?_
 refine aE (E := 3) (sz := 1) O [[jv 0]] kr sm O de de Z Y fun a w23 Z Y => aF Z Y call42 O (f7 hd iv3 Liv3 (.slice (some ⟨w22.hz, 0, none⟩) 1 1) [0] _ (bB (k := 11) Y O) (Y.ow 0 O) (by rw [dM hLiv3, ix1000] <;> rfl) (fun k hk => by rw [ef hLiv3 (by rw [ix1000]; exact hk), ix1000] <;> rfl)) fun a w24 Z Y => nv Z <| xM ((bE O).asb (b' := false) O) <| xJ (ak O O) <| xK O <| xM (ao (Y.g 8 O) O (isAgg50 _) (sizeOf50 _)) <| fun a Z => ez Z ?_
 refine aE (E := 3) (sz := 1) O [[jv 1]] kr sm O de de Z Y fun a w25 Z Y => aF Z Y call42 O (f7 hd iv5 Liv5 (.slice (some ⟨w24.hz, 0, none⟩) 1 1) [1] _ (bB (k := 10) Y O) (Y.ow 0 O) (by rw [dM hLiv5, ix1500] <;> rfl) (fun k hk => by rw [ef hLiv5 (by rw [ix1500]; exact hk), ix1500] <;> rfl)) fun a w26 Z Y => nv Z <| xM ((bE O).asb (b' := false) O) <| xJ (ak O O) <| xK O <| xM (ao (Y.g 7 O) O (isAgg50 _) (sizeOf50 _)) <| fun a Z => ez Z ?_
 refine aE (E := 3) (sz := 1) O [[jv 0], [jv 1]] kr sm O de de Z Y fun a w27 Z Y => aF Z Y call42 O (f7 hd iv7 Liv7 (.slice (some ⟨w26.hz, 0, none⟩) 2 2) [0, 1] _ (bB (k := 9) Y O) (Y.ow 0 O) (by rw [dM hLiv7, ix1200] <;> rfl) (fun k hk => by rw [ef hLiv7 (by rw [ix1200]; exact hk), ix1200] <;> rfl)) fun a w28 Z Y => nv Z <| xM ((bE O).asb (b' := false) O) <| xJ (ak O O) <| xK O <| xM (ao (Y.g 6 O) O (isAgg50 _) (sizeOf50 _)) <| fun a Z => ez Z ?_
 refine aE (E := 3) (sz := 1) O [[jv 0]] kr sm O de de Z Y fun a w29 Z Y => aF Z Y call42 O (f7 hd iv9 Liv9 (.slice (some ⟨w28.hz, 0, none⟩) 1 1) [0] _ (bB (k := 8) Y O) (Y.ow 0 O) (by rw [dM hLiv9, ix500] <;> rfl) (fun k hk => by rw [ef hLiv9 (by rw [ix500]; exact hk), ix500] <;> rfl)) fun a w30 Z Y => nv Z <| xM ((bE O).asb (b' := false) O) <| xJ (ak O O) <| xK O <| xM (ao (Y.g 5 O) O (isAgg50 _) (sizeOf50 _)) <| fun a Z => ez Z ?_
 refine aE (E := 3) (sz := 1) O [[jv 2]] kr sm O de de Z Y fun a w31 Z Y => aF Z Y call42 O (f7 hd iv11 Liv11 (.slice (some ⟨w30.hz, 0, none⟩) 1 1) [2] _ (bB (k := 7) Y O) (Y.ow 0 O) (by rw [dM hLiv11, ix3000] <;> rfl) (fun k hk => by rw [ef hLiv11 (by rw [ix3000]; exact hk), ix3000] <;> rfl)) fun a w32 Z Y => nv Z <| xM ((bE O).asb (b' := false) O) <| xJ (ak O O) <| fun a Z => G11 ?_
 replace Z := Z.p10 0 1 2 3 5 7 9 11 13 113 O
 replace Y := Y.k13 262112 O
 refine aG Z O ?_
 refine au <| G10 <| aa fun _ G12 => nv Z <| xK O <| xJ (ao (Y.g 7 O) O (isAgg50 _) (sizeOf50 _)) <| fun a Z => aw Z Y call24 O (gt (by rw [wO hLiv5 cj wA] <;> rfl) (uZ kk hd iv5 Liv5 1500 _ (bB (k := 8) Y O) (db om hLiv5) (dL cj hk32 hhd (dh exC 1500) hLiv5) (Y.keepb hk0))) fun a w33 Z Y => nv Z <| xK O <| xJ (aq O O) <| xJ (aq O O) <| fun a Z => aD Z Y (zeroValue55 _) [jv 0, jv 0, .string (⟨#[]⟩)] O fun a w34 Z Y => az 0 Z Y [jv ((exC.getD 1 Cas.z).n), jv ((exC.getD 1 Cas.z).t), sv ((exC.getD 1 Cas.z).ev)] O (sizeOf55 _) fun a w35 Z Y => wla Z O fun a Z => G12 ?_
 refine aa fun _ G13 => nv (Z.p11 0 1 2 3 5 7 9 11 13 15 16 O) <| xK O <| xJ (ao (Y.g 8 O) O (isAgg50 _) (sizeOf50 _)) <| fun a Z => aw Z Y call24 O (gt (by rw [rq hLiv5 cj (dh exC 1500) jB] <;> rfl) (uZ kk hd iv5 Liv5 1200 _ (bB (k := 9) Y O) (db om hLiv5) (dL cj hk32 hhd (dh exC 1500) hLiv5) (Y.keepb hk0))) fun a w36 Z Y => nv Z <| xK O <| xJ (aq O O) <| xJ (aq O O) <| fun a Z => aD Z Y (zeroValue55 _) [jv 0, jv 0, .string (⟨#[]⟩)] O fun a w37 Z Y => az 0 Z Y [jv Cas.z.n, jv Cas.z.t, sv Cas.z.ev] O (sizeOf55 _) fun a w38 Z Y => wla Z O fun a Z => G13 ?_
 replace Z := Z.p12 0 1 2 3 5 7 9 11 13 15 16 18 O
 replace Y := Y.k14 32766 O
 refine ah fun _ G14 => aL (aN fun w39 hxz => ?_)
 replace Y := Y.grow hxz
 refine aM (k := 0) 2 [1] ?_
 refine nv Z <| xK O <| xK O <| fun a Z => ab <| aU (k := 2) 7 [2, 6] Z ?_
 refine bN 5 (Z.p14 0 1 2 3 5 7 9 11 13 15 16 18 126 127 O) Y <| pl_w (fun Y => ao (Y.g 0 O) O (isAgg55 _) (sizeOf55 _)) <| pl_v (ac (v := pw2 w2.hz 1) O kr) <| pl_w (fun Y => ld Y 12 O O (isAgg30 _) O) <| pl_w (fun Y => (aj (i := 1) (sT := 30) (Y.ow 13 O) O O (runUnderlying30 _) (sizeOf55 _) om An).as (v' := slAddr dv1 (1 * 3)) O) <| pl_w (fun Y => (bP (Y.ow 13 O) (i := 1) An O (isAgg55 _) (sizeOf55 _)).as (v' := .agg #[jv ((exC.getD 1 Cas.z).n), jv ((exC.getD 1 Cas.z).t), sv ((exC.getD 1 Cas.z).ev)]) AY) fun a w40 Z Y => ?_
 replace Z := Z.p13 0 1 2 3 5 7 9 11 13 18 127 128 132 O
 refine ab <| aM (k := 7) 14 [13] ?_
 refine nv Z <| xM ((oQ O O kr (eqCas ((exC.getD 1 Cas.z).n) ((exC.getD 1 Cas.z).t) ((exC.getD 1 Cas.z).ev) ((exC.getD 1 Cas.z).n) ((exC.getD 1 Cas.z).t) ((exC.getD 1 Cas.z).ev) _)).asb (b' := true) sm) <| xJ (ax O O) <| xK O <| xM (ay O) <| xM ((bE O).asb (b' := true) O) <| xJ (ax O O) <| xK O <| fun a Z => ab <| aU (k := 14) 16 [14, 15] Z ?_
 refine bN 2 (Z.p20 0 1 2 3 5 7 9 11 13 18 127 128 132 133 134 135 136 137 138 139 O) Y <| pl_m O <| pl_w (fun Y => ao (Y.g 6 O) O (isAgg50 _) (sizeOf50 _)) fun a w41 Z Y => ?_
 replace Z := Z.p12 0 1 2 3 5 7 9 11 13 139 140 141 O
 refine ab <| aM (k := 16) 19 [18] ?_
 refine aF Z Y call25 O (cw (iL hLiv7 hhd cj na) (il kk hd iv7 Liv7 1200 _ (bB (k := 7) Y O) (db om hLiv7) (dL cj hk32 hhd (dh exC 1200) hLiv7) om (Y.keepb hk0))) fun a w42 Z Y => nv Z <| xJ (ax O O) <| xK O <| fun a Z => ab <| aU (k := 19) 21 [19, 20] Z ?_
 refine bN 2 (Z.p15 0 1 2 3 5 7 9 11 13 139 140 141 142 143 144 O) Y <| pl_m O <| pl_w (fun Y => ao (Y.g 6 O) O (isAgg50 _) (sizeOf50 _)) fun a w43 Z Y => ?_
 replace Z := Z.p12 0 1 2 3 5 7 9 11 13 144 145 146 O
 refine ab <| aM (k := 21) 25 [24] ?_
 refine aF Z Y call25 O (cw (lw hLiv7 hhd cj (dh exC 1200) mu) (il kk hd iv7 Liv7 1000 _ (bB (k := 7) Y O) (db om hLiv7) (dL cj hk32 hhd (dh exC 1200) hLiv7) om (Y.keepb hk0))) fun a w44 Z Y => nv Z <| xM ((bE O).asb (b' := true) O) <| xJ (ax O O) <| xK O <| fun a Z => ab <| aU (k := 25) 27 [25, 26] Z ?_
 refine bN 2 (Z.p16 0 1 2 3 5 7 9 11 13 144 145 146 147 148 149 150 O) Y <| pl_m O <| pl_w (fun Y => ao (Y.g 4 O) O (isAgg50 _) (sizeOf50 _)) fun a w45 Z Y => ?_
 replace Z := Z.p11 0 1 2 3 5 7 11 13 150 151 152 O
 refine ab <| aM (k := 27) 30 [29] ?_
 refine aF Z Y call25 O (cw (iL hLiv9 hhd cj hit500) (il kk hd iv9 Liv9 500 _ (bB (k := 5) Y O) (db om hLiv9) (dL cj hk32 hhd (dh exC 500) hLiv9) om (Y.keepb hk0))) fun a w46 Z Y => nv Z <| xJ (ax O O) <| xK O <| fun a Z => ab <| aU (k := 30) 32 [30, 31] Z ?_
 refine bN 2 (Z.p14 0 1 2 3 5 7 11 13 150 151 152 153 154 155 O) Y <| pl_m O <| pl_w (fun Y => ao (Y.g 2 O) O (isAgg50 _) (sizeOf50 _)) fun a w47 Z Y => ?_
 replace Z := Z.p10 0 1 2 3 5 7 13 155 156 157 O
 refine ab <| aM (k := 32) 35 [34] ?_
 refine aF Z Y call25 O (cw (iL hLiv11 hhd cj vL) (il kk hd iv11 Liv11 3000 _ (bB (k := 3) Y O) (db om hLiv11) (dL cj hk32 hhd (dh exC 3000) hLiv11) om (Y.keepb hk0))) fun a w48 Z Y => nv Z <| xJ (ax O O) <| xK O <| fun a Z => ab <| aU (k := 35) 38 [35, 36, 37] Z ?_
 refine bN 3 (Z.p13 0 1 2 3 5 7 13 155 156 157 158 159 160 O) Y <| pl_m O <| pl_w (fun Y => ao (Y.g 8 O) O (isAgg50 _) (sizeOf50 _)) <| pl_w (fun Y => ao (Y.g 6 O) O (isAgg50 _) (sizeOf50 _)) fun a w49 Z Y => ?_
 replace Z := Z.p11 0 1 2 3 5 7 13 160 161 162 163 O
 refine ab <| aM (k := 38) 42 [41] ?_
 refine aF Z Y call30 O (cw (kC cj (dh exC 1500) (dh exC 1200) hLiv5 hLiv7) (ke kk hd iv5 iv7 Liv5 Liv7 _ (bB (k := 9) Y O) (bB (k := 7) Y O) (db om hLiv5) (db om hLiv7) (dL cj hk32 hhd (dh exC 1500) hLiv5) (dL cj hk32 hhd (dh exC 1200) hLiv7) (Y.keepb hk0))) fun a w50 Z Y => nv Z <| xM ((bE O).asb (b' := true) O) <| xJ (ax O O) <| xK O <| fun a Z => ab <| aU (k := 42) 45 [43, 44] Z ?_
 refine bN 3 (Z.p15 0 1 2 3 5 7 13 160 161 162 163 164 165 166 167 O) Y <| pl_v (ac (v := pq w8.hz) O kr) <| pl_w (fun Y => bQ (ds := [jv hd.c, jv hd.n, sv hd.root, sv hd.tag]) (Y.g 8 O) O (isAgg47 _) (sizeOf47 _) O) <| pl_w (fun Y => ao (Y.g 1 O) O (isAgg47 _) (sizeOf47 _)) fun a w51 Z Y => ?_
 replace Z := Z.p9 0 1 2 3 5 7 167 169 170 O
 refine ab <| aM (k := 45) 48 [47] ?_
 refine nv Z <| xM ((oQ O O kr (eqHd hd.c hd.n hd.root hd.tag hd.c hd.n hd.root hd.tag _)).asb (b' := true) sm) <| xJ (ax O O) <| xL O <| fun a Z => ab <| aT <| G14 <| aa fun _ G15 => nv Z <| xJ (ao (Y.g 10 O) O (isAgg50 _) (sizeOf50 _)) <| xJ (aX (v := .agg #[jv 320, jv hd.c, jv hd.n, sv hd.root, sv hd.tag, iv3]) O (by obtain ⟨_, _, _, eb0_⟩ := cX (bB (k := 11) Y O).1; rw [eb0_]; kernel_rfl)) <| fun a Z => aE (E := 52) (sz := 6) O [[jv 320, jv hd.c, jv hd.n, sv hd.root, sv hd.tag, iv3]] kr sm O de de Z Y fun a w52 Z Y => wla Z O fun a Z => G15 ?_
 replace Y := Y.k11 32721 O
 refine aa fun _ G16 => aw (Z.p8 0 1 2 3 5 7 19 20 O) Y call43 O (fE 1000 1 (.slice none 0 0) [] 349 1 300 _ ⟨ek _ _, fun r h => by cases h⟩ (fun r h => by cases h) (by rw [hkk]; exact jV hk32 de (ym 1) de) (by rw [hkk]; exact me.1) (Y.keepb hk0)) fun a w53 Z Y => wlm Z O fun a Z => aF Z Y call43 O (fE 1000 1 (.slice none 0 0) [] 350 3 350 _ ⟨ek _ _, fun r h => by cases h⟩ (fun r h => by cases h) (by rw [hkk]; exact jV hk32 de (ym 1) de) (by rw [hkk]; exact me.2) (Y.keepb hk0)) fun a w54 Z Y => ?_
 refine nv Z <| xJ (ax O O) <| xK O <| xM (ay O) <| fun a Z => aF Z Y call43 O (fE 1000 1 (.slice (some ⟨w51.hz, 0, none⟩) 1 1) [⟨320, hd, iv3, Liv3⟩] 320 2 320 _ ⟨(Y.ow 0 O), fun r h => by rw [yo.1 h]; exact (bB (k := 8) Y O)⟩ (fun r h => by rw [yo.1 h]; exact (db om hLiv3)) AP (by rw [hkk]; exact (gw hk32 hhd hLiv3 iv3).1) (Y.keepb hk0)) fun a w55 Z Y => ?_
 refine nv Z <| xJ (ax O O) <| xK O <| xM (ay O) <| fun a Z => aF Z Y call43 O (fE 1000 1 (.slice (some ⟨w51.hz, 0, none⟩) 1 1) [⟨320, hd, iv3, Liv3⟩] 319 1 300 _ ⟨(Y.ow 0 O), fun r h => by rw [yo.1 h]; exact (bB (k := 8) Y O)⟩ (fun r h => by rw [yo.1 h]; exact (db om hLiv3)) AP (by rw [hkk]; exact (gw hk32 hhd hLiv3 iv3).2.1) (Y.keepb hk0)) fun a w56 Z Y => ?_
 refine nv Z <| xJ (ax O O) <| xK O <| xM (ay O) <| fun a Z => aF Z Y call43 O (fE 1000 2 (.slice (some ⟨w51.hz, 0, none⟩) 1 1) [⟨320, hd, iv3, Liv3⟩] 349 1 300 _ ⟨(Y.ow 0 O), fun r h => by rw [yo.1 h]; exact (bB (k := 8) Y O)⟩ (fun r h => by rw [yo.1 h]; exact (db om hLiv3)) AP (by rw [hkk]; exact (gw hk32 hhd hLiv3 iv3).2.2.1) (Y.keepb hk0)) fun a w57 Z Y => ?_
 refine nv Z <| xJ (ax O O) <| xK O <| xM (ay O) <| fun a Z => aF Z Y call43 O (fE 1000 2 (.slice (some ⟨w51.hz, 0, none⟩) 1 1) [⟨320, hd, iv3, Liv3⟩] 350 3 350 _ ⟨(Y.ow 0 O), fun r h => by rw [yo.1 h]; exact (bB (k := 8) Y O)⟩ (fun r h => by rw [yo.1 h]; exact (db om hLiv3)) AP (by rw [hkk]; exact (gw hk32 hhd hLiv3 iv3).2.2.2) (Y.keepb hk0)) fun a w58 Z Y => nv Z <| xJ (ax O O) <| xK O <| xM (ao (Y.g 3 O) O (isAgg50 _) (sizeOf50 _)) <| xM (aX (v := .agg #[jv 310, jv hd.c, jv hd.n, sv hd.root, sv hd.tag, iv7]) O (by obtain ⟨_, _, _, eb0_⟩ := cX (bB (k := 4) Y O).1; rw [eb0_]; kernel_rfl)) <| fun a Z => ez Z ?_
 refine aE (E := 52) (sz := 6) O [[jv 310, jv hd.c, jv hd.n, sv hd.root, sv hd.tag, iv7]] kr sm O de de Z Y fun a w59 Z Y => aF Z Y call43 O (fE 1200 1 (.slice (some ⟨w58.hz, 0, none⟩) 1 1) [⟨310, hd, iv7, Liv7⟩] 310 3 310 _ ⟨(Y.ow 0 O), fun r h => by rw [yo.1 h]; exact (bB (k := 5) Y O)⟩ (fun r h => by rw [yo.1 h]; exact (db om hLiv7)) AP (by rw [hkk]; exact (rH hk32 hhd hLiv7 iv7)) (Y.keepb hk0)) fun a w60 Z Y => nv Z <| xJ (ax O O) <| xL O <| fun a Z => G16 ?_
 replace Z := Z.p7 0 1 2 3 5 19 21 O
 replace Y := Y.k9 4076 O
 refine ah fun _ G17 => ?_
 have hla := dM hLiv5
 have hlo := dM hLiv3
 rw [ix1500] at hla
 rw [ix1000] at hlo
 simp only [xZ, ya] at hla hlo
 obtain ⟨hdt, hhdt⟩ : ∃ h, hdOf sha kk 3 [(Liv5.getD 0 Itw.z).m.e, (Liv3.getD 0 Itw.z).m.e] 2 = h := ⟨_, rfl⟩
 refine aL (aN fun w61 hxz => ?_)
 replace Y := Y.grow hxz
 refine aU (k := 0) 20 [17, 19] Z ?_
 replace Z := Z.p7 0 1 2 3 5 19 21 O
 refine eM 18 19 16 [(12, 11, fun u => Value.agg #[jv 3, u]), (15, 14, fun u => u), (16, 15, fun u => tupAt u 0)] 50 [jv 0, jv 0, .string (⟨#[]⟩), .string (⟨#[]⟩), .slice none 0 0] (fun u => u.cells.toList) 20 [[], [], [1], [2], [3], [4], [], [6], [7], [8], [9], [5, 10], [11], [], [0, 12, 13, 11], [14], [15], [15], [], [16, 18]] (fun i => match i with | 0 => pv (sv kk) | 1 => pv (pw2 w8.hz 4) | 2 => pv (iv5) | 3 => pv (slAddr iv5 (0 * 3)) | 4 => pv (slAddr iv5 (0 * 3 + 1)) | 5 => pv (sv ((Liv5.getD 0 Itw.z).m.e)) | 6 => pv (pw2 w5.hz 4) | 7 => pv (iv3) | 8 => pv (slAddr iv3 (0 * 3)) | 9 => pv (slAddr iv3 (0 * 3 + 1)) | 10 => pv (sv ((Liv3.getD 0 Itw.z).m.e)) | 11 => pm (fun b : Nat => .slice (some ⟨b, 0, none⟩) 2 2) (fun b => [own (.slice (some ⟨b, 0, none⟩) 2 2) 9 1 [[sv ((Liv5.getD 0 Itw.z).m.e)], [sv ((Liv3.getD 0 Itw.z).m.e)]]]) (fun _ => True) | 12 => fun v E => (∃ sx12_ sy12_ sz12_, v = .agg #[jv 3, (.slice sx12_ sy12_ sz12_)]) ∧ E = [] | 13 => pm (fun b : Nat => .slice (some ⟨b, 0, none⟩) 2 2) (fun b => [own (.slice (some ⟨b, 0, none⟩) 2 2) 3 1 [[jv 0], [jv 1]]]) (fun _ => True) | 14 => pm (fun x : Value × List Itw => .tuple #[.agg #[jv hdt.c, jv hdt.n, sv hdt.root, sv hdt.tag, x.1], jv 0]) (fun x => [itsE x.1 x.2]) (fun x => itsM x.2 = showIs sha ([(Liv5.getD 0 Itw.z).m.e, (Liv3.getD 0 Itw.z).m.e]) 2 ([0, 1])) | 15 => fun v E => (∃ sa0 sn0 sc0, v = .tuple #[.agg #[jv hdt.c, jv hdt.n, sv hdt.root, sv hdt.tag, (.slice sa0 sn0 sc0)], jv 0]) ∧ E = [] | 16 => fun v E => (∃ sa0 sn0 sc0, v = .agg #[jv hdt.c, jv hdt.n, sv hdt.root, sv hdt.tag, (.slice sa0 sn0 sc0)]) ∧ E = [] | 17 => pv (jv 0) | 18 => fun v E => ∃ b, v = ptr b ∧ E = [] | 19 => fun v E => v = undef ∧ E = [] | _ => fun _ _ => False) Z (H := [itsE iv11 Liv11, itsE iv9 Liv9, itsE iv7 Liv7, blk w8.hz [jv hd.c, jv hd.n, sv hd.root, sv hd.tag, iv5] 50, itsE iv5 Liv5, blk w5.hz [jv hd.c, jv hd.n, sv hd.root, sv hd.tag, iv3] 50, itsE iv3 Liv3, blk w2.hz [jv 3, dv1] 32, own dv1 55 3 ((exC).map Cas.cells)]) Y kr kr kr kr de de de de de de de kr (by intro x hx y hy h; simp only [xX, yc, yz] at hx hy; rcases hx with rfl | rfl | rfl <;> rcases hy with rfl | rfl | rfl <;> first | rfl | exact absurd h de) ?_ (fun _ _ h => h) ⟨O, O⟩ (fun _ _ => Iff.rfl) ?_ ?_ ?_ ?_ ?_
 ·intro i v E h
  match i, h with
  | 0, _ => exact by decide
  | 1, _ => exact by decide
  | 2, _ => exact by decide
  | 3, _ => exact by decide
  | 4, _ => exact by decide
  | 5, _ => exact by decide
  | 6, _ => exact by decide
  | 7, _ => exact by decide
  | 8, _ => exact by decide
  | 9, _ => exact by decide
  | 10, _ => exact by decide
  | 11, _ => exact by decide
  | 12, _ => exact by decide
  | 13, _ => exact by decide
  | 14, _ => exact by decide
  | 15, _ => exact by decide
  | 16, _ => exact by decide
  | 17, _ => exact by decide
  | 18, _ => exact by decide
  | 19, _ => exact by decide
  | i + 20, h => exact h.elim
 ·intro i hi hia hij hil e
  match i, hi, hia, hij, hil with
  | 0, _, _, _, _ =>
   intro hl9 w Y
   exact OpV.g (ay O)
  | 1, _, _, _, _ =>
   intro hl9 w Y
   exact OpV.g (ac (v := pw2 w8.hz 4) O kr)
  | 2, _, _, _, _ =>
   rintro _ _ ⟨rfl, rfl⟩
   intro hl9 w Y
   exact OpV.g (ld Y 4 O O (isAgg48 _) O)
  | 3, _, _, _, _ =>
   rintro _ _ ⟨rfl, rfl⟩
   intro hl9 w Y
   exact OpV.g ((aj (i := 0) (sT := 48) (bB (k := 5) Y O).1 O O (runUnderlying48 _) (sizeOf110 _) om An).as (v' := slAddr iv5 (0 * 3)) O)
  | 4, _, _, _, _ =>
   rintro _ _ ⟨rfl, rfl⟩
   intro hl9 w Y
   exact OpV.g (bI (k := 0 * 3) (j := 1) (bB (k := 5) Y O).1 (i := 0) An O (fun _ _ => by kernel_rfl))
  | 5, _, _, _, _ =>
   rintro _ _ ⟨rfl, rfl⟩
   intro hl9 w Y
   exact OpV.g (aB (u := sv ((Liv5.getD 0 Itw.z).m.e)) (i := 0) (j := 1) (bB (k := 5) Y O).1 An O (isAgg9 _) (by rw [bn Itw.z]; rfl))
  | 6, _, _, _, _ =>
   intro hl9 w Y
   exact OpV.g (ac (v := pw2 w5.hz 4) O kr)
  | 7, _, _, _, _ =>
   rintro _ _ ⟨rfl, rfl⟩
   intro hl9 w Y
   exact OpV.g (ld Y 6 O O (isAgg48 _) O)
  | 8, _, _, _, _ =>
   rintro _ _ ⟨rfl, rfl⟩
   intro hl9 w Y
   exact OpV.g ((aj (i := 0) (sT := 48) (bB (k := 7) Y O).1 O O (runUnderlying48 _) (sizeOf110 _) om An).as (v' := slAddr iv3 (0 * 3)) O)
  | 9, _, _, _, _ =>
   rintro _ _ ⟨rfl, rfl⟩
   intro hl9 w Y
   exact OpV.g (bI (k := 0 * 3) (j := 1) (bB (k := 7) Y O).1 (i := 0) An O (fun _ _ => by kernel_rfl))
  | 10, _, _, _, _ =>
   rintro _ _ ⟨rfl, rfl⟩
   intro hl9 w Y
   exact OpV.g (aB (u := sv ((Liv3.getD 0 Itw.z).m.e)) (i := 0) (j := 1) (bB (k := 7) Y O).1 An O (isAgg9 _) (by rw [bn Itw.z]; rfl))
  | 11, _, _, _, _ =>
   rintro _ _ ⟨rfl, rfl⟩ _ _ ⟨rfl, rfl⟩
   intro hl9 w Y
   exact bR (E := 9) (sz := 1) O [[sv ((Liv5.getD 0 Itw.z).m.e)], [sv ((Liv3.getD 0 Itw.z).m.e)]] (fun _ => by kernel_rfl) sm O de
  | 12, _, _, _, h => exact absurd de h
  | 13, _, _, _, _ =>
   intro hl9 w Y
   exact bR (E := 3) (sz := 1) O [[jv 0], [jv 1]] (fun _ => by kernel_rfl) sm O de
  | 14, _, _, _, _ =>
   rintro _ _ ⟨rfl, rfl⟩ _ _ ⟨⟨sx12_, sy12_, sz12_, rfl⟩, rfl⟩ _ _ ⟨b15, rfl, -, rfl⟩ _ _ ⟨b14, rfl, -, rfl⟩
   intro hl9 w Y
   have hz9 : sx12_ = some ⟨b14, 0, none⟩ ∧ sy12_ = 2 ∧ sz12_ = 2 := by simpa using hl9 (12, 11, fun u => Value.agg #[jv 3, u]) sm _ _ rfl rfl
   obtain ⟨rfl, rfl, rfl⟩ := hz9
   exact fb call26 O (iU kk 2 hdt (.slice (some ⟨b15, 0, none⟩) 2 2) ([0, 1]) 3 (.slice (some ⟨b14, 0, none⟩) 2 2) ([(Liv5.getD 0 Itw.z).m.e, (Liv3.getD 0 Itw.z).m.e]) _ (Y.ow 1 O) (Y.ow 0 O) hk32 (gR hLiv5 hLiv3) (yx 2) de de hhdt (Y.keepb hk0))
  | 15, _, _, _, h => exact absurd de h
  | 16, _, _, _, h => exact absurd de h
  | 17, _, _, _, _ =>
   rintro _ _ ⟨⟨sa0, sn0, sc0, rfl⟩, rfl⟩
   intro hl9 w Y
   exact OpV.g (aq O O)
  | 18, _, h, _, _ => exact absurd O h
  | 19, _, _, h, _ => exact absurd O h
  | i + 20, h, _, _, _ => exact absurd h om
 ·intro x hx e
  simp only [xX, yc, yz] at hx
  rcases hx with rfl | rfl | rfl
  ·rintro _ _ ⟨b14, rfl, -, rfl⟩
   intro w Y
   exact OpV.hopv (OpV.g (aX (v := .agg #[jv 3, (.slice (some ⟨b14, 0, none⟩) 2 2)]) O kr)) ⟨⟨_, _, _, O⟩, O⟩
  ·rintro _ _ ⟨⟨iv16, Liv16⟩, rfl, hLiv16, rfl⟩
   intro w Y
   obtain ⟨sa0, sn0, sc0, rfl⟩ := cX (bB (k := 0) Y rfl).1
   exact OpV.hopv (OpV.g (ay O)) ⟨⟨_, _, _, O⟩, O⟩
  ·rintro _ _ ⟨⟨sa0, sn0, sc0, rfl⟩, rfl⟩
   intro w Y
   exact OpV.hopv (OpV.g (aq O O)) ⟨⟨_, _, _, O⟩, O⟩
 ·exact fun Lv w => eC (zeroValue50 _)
 ·rintro _ _ ⟨⟨sa0, sn0, sc0, rfl⟩, rfl⟩ _ _ ⟨b13, rfl, rfl⟩
  intro b hb u hu w h
  have hb : some (ptr b13) = some (ptr b) := hb
  cases hb
  have hu : some (.agg #[jv hdt.c, jv hdt.n, sv hdt.root, sv hdt.tag, (.slice sa0 sn0 sc0)]) = some u := hu
  cases hu
  exact dI O O h (sizeOf50 _) O (lb O) O
 clear Z Y
 rintro V bq hva hlk _ _ ⟨⟨rfl, rfl⟩, -⟩ _ _ ⟨⟨rfl, rfl⟩, -⟩ _ _ ⟨⟨rfl, rfl⟩, -⟩ _ _ ⟨⟨rfl, rfl⟩, -⟩ _ _ ⟨⟨rfl, rfl⟩, -⟩ _ _ ⟨⟨rfl, rfl⟩, -⟩ _ _ ⟨⟨rfl, rfl⟩, -⟩ _ _ ⟨⟨rfl, rfl⟩, -⟩ _ _ ⟨⟨rfl, rfl⟩, -⟩ _ _ ⟨⟨rfl, rfl⟩, -⟩ _ _ ⟨⟨rfl, rfl⟩, -⟩ _ _ ⟨⟨b14, rfl, -, rfl⟩, hv11_⟩ v12_ _ ⟨⟨-, rfl⟩, hv12_⟩ _ _ ⟨⟨b15, rfl, -, rfl⟩, -⟩ _ _ ⟨⟨⟨iv16, Liv16⟩, rfl, hLiv16, rfl⟩, hv14_⟩ v15_ _ ⟨⟨-, rfl⟩, hv15_⟩ v16_ _ ⟨⟨-, rfl⟩, hv16_⟩ _ _ ⟨⟨rfl, rfl⟩, -⟩ _ _ ⟨⟨b13, rfl, rfl⟩, hva9⟩ a w62 Z Y
 obtain rfl : b13 = bq := fN (hva9.trans hva)
 obtain rfl : v12_ = .agg #[jv 3, (.slice (some ⟨b14, 0, none⟩) 2 2)] := hv12_.trans ((hlk 0 _ rfl).trans (yr (fun u => Value.agg #[jv 3, u]) hv11_.symm))
 obtain rfl : v15_ = .tuple #[.agg #[jv hdt.c, jv hdt.n, sv hdt.root, sv hdt.tag, iv16], jv 0] := hv15_.trans ((hlk 1 _ rfl).trans (yr (fun u => u) hv14_.symm))
 obtain rfl : v16_ = .agg #[jv hdt.c, jv hdt.n, sv hdt.root, sv hdt.tag, iv16] := hv16_.trans ((hlk 2 _ rfl).trans (yr (fun u => tupAt u 0) hv15_.symm))
 rw [← hv16_] at Y
 replace Z : Fr 243 [(203, _), (204, _), (205, _), (206, _), (207, _), (208, _), (209, _), (210, _), (211, _), (212, _), (213, _), (214, _), (215, _), (216, _), (217, _), (202, _), (218, _), (219, _), (22, _), (0, _), (1, _), (2, _), (3, _), (5, _), (19, _), (21, _)] [] a := Z
 try dsimp only at Y
 replace Y := Y.n13 O
 clear hva9 hva hlk hv16_ hv15_ hv12_ hv11_ hv14_
 refine ab <| aM (k := 20) 21 [20] ?_
 refine wla Z O fun a Z => ab <| aT <| G17 ?_
 replace Y := Y.k9 7548 O
 refine aa fun _ G18 => nv (Z.p7 0 1 2 19 21 22 23 O) <| xK O <| xK O <| xM (ay O) <| xJ (ax O O) <| xK O <| xM (ay O) <| xM ((v_eq O O).asb (b' := true) O) <| xJ (ax O O) <| xK O <| xM (ay O) <| xM (ao (Y.g 1 O) O (isAgg50 _) (sizeOf50 _)) <| xM (ao (Y.g 1 O) O (isAgg50 _) (sizeOf50 _)) <| fun a Z => aF Z Y call30 O (cw (sa hLiv5 hLiv3 hLiv16) (ke kk hdt iv16 iv16 Liv16 Liv16 _ (bB (k := 0) Y O) (bB (k := 0) Y O) (db de hLiv16) (db de hLiv16) (lJ (gR hLiv5 hLiv3) (yx 2) hk32 hhdt de hLiv16) (lJ (gR hLiv5 hLiv3) (yx 2) hk32 hhdt de hLiv16) (Y.keepb hk0))) fun a w63 Z Y => ?_
 refine nv Z <| xJ (ax O O) <| xK O <| xM (ao (Y.g 7 O) O (isAgg32 _) (sizeOf32 _)) <| fun a Z => aF Z Y call31 O (cw cj (iA 3 dv1 exC _ (Y.ow 8 O))) fun a w64 Z Y => nv Z <| xJ (ax O O) <| xK O <| xM (aX (v := .agg #[jv 8, .slice none 0 0]) O kr) <| fun a Z => aF Z Y call31 O (cw (show docOk 8 [] = false from O) (iA 8 (.slice none 0 0) [] _ (ek _ _))) fun a w65 Z Y => nv Z <| xM ((bE O).asb (b' := true) O) <| xJ (ax O O) <| xL O <| fun a Z => G18 ?_
 replace Z := Z.p1 0 O
 replace Y := Y.k7 381 O
 refine ap <| am Z results11 (ag O ae) ?_
 exact ⟨by rfl, Y.ext⟩
end Go.Proofs.YtliklcmddmpdfaaGreatDoor
namespace Go.PW
open Go.RowKit Go.ChangeShapes Go.WideShapes Go.ChangeAt
section
variable {H : Type} {enc : TypeId × Value → H} {P : Program} {w : World} {base : Nat} {spare : Nat → Bool} {held : Bool} {fuel : Nat} {t e : TypeId} {cs : List Value} {x : DataW H × List MemPlace} {α : Type}
theorem uv {v : Value} (sz : Nat) (ht : P.underlying t = some (.slice e)) (hc : P.cellsOf e = sz) (hs : 0 < sz) (hby : 0 < P.bytesOf e) (hw : Wt P t x.1) (h : DataW.trod enc P w base spare held fuel t [v] = some x) :
  ∃ els : List (List Value), SlE w v sz els ∧ els.length * P.bytesOf e ≤ 140737488355328 ∧ (∀ d ∈ els, d.length = sz) ∧ ∀ i (hi : i < els.length), ∃ n y, DataW.trod enc P w base spare held n e els[i] = some y ∧ Wt P e y.1 := by
 rcases DataW.trod_slice ht h with ⟨h0, _⟩ | ⟨a, len, cap, elems, rest, n, _, hv, hx, hb, hl, hm, hlen, hel, _, _⟩
 ·cases h0
  exact ⟨[], .inl (ek _ _), by simp, by simp, fun i hi => absurd hi sm⟩
 ·cases hv
  have hwl : elems.length * P.bytesOf e ≤ 140737488355328 := by
   have h1 := hw ((elems.length + rest.length) * P.bytesOf e) (by rw [hx]; simp [DataW.weights, ht])
   have h2 := reachBytes_lt
   have h3 : elems.length * P.bytesOf e ≤ (elems.length + rest.length) * P.bytesOf e := Nat.mul_le_mul om (yx _)
   omega
  by_cases h0 : len = 0
  ·subst h0
   exact ⟨[], .inr ⟨O, a, cap, O⟩, by simp, by simp, fun i hi => absurd hi sm⟩
  obtain ⟨b, off, spot⟩ := a
  have hfirst : w.cell? ⟨b, off, spot⟩ ≠ none := by
   have h1 := hel 0 om
   rw [xY om] at h1
   cases hcs : w.cells? base ((⟨b, off, spot⟩ : Addr).add (0 * P.cellsOf e)) (P.cellsOf e) with
   | none => rw [hcs] at h1; simp at h1
   | some ds =>
    obtain ⟨_, hl1, hc1⟩ := World.cells?_some hcs
    have h2 := hc1 0 om
    rw [Nat.zero_mul, show ((⟨b, off, spot⟩ : Addr).add 0).add 0 = ⟨b, off, spot⟩ from rfl, xY om] at h2
    rw [h2]; simp
  have hsp : spot = none ∧ b < w.heap.size := by
   unfold World.cell? at hfirst
   cases hh : w.heap[b]? with
   | none => rw [hh] at hfirst; exact absurd rfl hfirst
   | some o =>
    refine ⟨?_, (ye.1 hh).1⟩
    rw [hh] at hfirst
    cases spot with
    | none => rfl
    | some s => cases o <;> exact absurd rfl hfirst
  obtain ⟨rfl, hlt⟩ := hsp
  have hwe : ∀ y ∈ elems, Wt P e y.1 := by
   intro y hy n hn
   refine hw n ?_
   rw [hx]
   simp only [DataW.weights, ht, xX, yV]
   exact .inr (.inl (uY (yD.2 ⟨y, hy, O⟩) n hn))
  have each : ∀ i, i < len → ∃ ds : List Value, (ds.length = sz ∧ ∀ j v, ds[j]? = some v → w.cell? ⟨b, off + i * sz + j, none⟩ = some v) ∧ ∃ n y, DataW.trod enc P w base spare held n e ds = some y ∧ Wt P e y.1 := by
   intro i hi
   have h1 := hel i hi
   rw [xY om, hc, cO] at h1
   cases hcs : w.cells? base ⟨b, off + i * sz, none⟩ sz with
   | none => rw [hcs] at h1; simp at h1
   | some ds =>
    rw [hcs] at h1
    simp only [zA] at h1
    exact ⟨ds, jz hcs, n, _, h1, hwe _ (yK _)⟩
  obtain ⟨els, hel2, hp⟩ := gu len each
  have h1 : ∀ d ∈ els, d.length = sz := by
   intro d hd
   obtain ⟨i, hi, rfl⟩ := yN hd
   exact (hp i hi).1.1
  have hbg : elems.length ≤ big := by
   have h3 : elems.length * 1 ≤ elems.length * P.bytesOf e := Nat.mul_le_mul (yx _) hby
   unfold big; omega
  refine ⟨els, .inl ⟨h1, by omega, .inr ⟨b, off, cap, by rw [hel2], by omega, hlt, ?_⟩⟩, by rw [hel2, ← hlen]; exact hwl, h1, fun i hi => (hp i hi).2⟩
  intro j v hj
  have hjl := (yt.1 hj).1
  rw [ej h1] at hjl
  have hi : j / sz < els.length := Nat.div_lt_of_lt_mul (by rw [Nat.mul_comm]; exact hjl)
  have := (hp (j / sz) hi).1.2 (j % sz) v (by
   rw [← kU h1 hi, yX, yl (Nat.mod_lt _ hs), za, Nat.div_add_mod' j sz]
   exact hj)
  rw [Nat.add_assoc, Nat.div_add_mod' j sz] at this
  exact this
theorem vd {els : List (List Value)} {f : α → List Value} {q : α → Prop} (hp : ∀ i (hi : i < els.length), ∃ a, els[i] = f a ∧ q a) : ∃ xs : List α, els = xs.map f ∧ ∀ a ∈ xs, q a := by
 obtain ⟨xs, hl, hx⟩ := gu (p := fun i a => els[i]? = some (f a) ∧ q a) els.length fun i hi => by
  obtain ⟨a, h1, h2⟩ := hp i hi
  exact ⟨a, by rw [xY hi, h1], h2⟩
 refine ⟨xs, ?_, fun a ha => ?_⟩
 ·refine zy (by simp [hl]) fun i h1 h2 => ?_
  have := (hx i om).1
  rw [xY h1] at this
  simpa using this
 ·obtain ⟨i, hi, rfl⟩ := yN ha
  exact (hx i hi).2
end
end Go.PW
namespace Go.PW
open Go.RowKit Go.ChangeShapes Go.WideShapes Go.ChangeAt
section
variable {H : Type} {enc : TypeId × Value → H}
theorem oF {a : Assume} {C : Checked} {os : Os} {f : FuncId} {fn : Func} {s : ChangeSpec} {conds : List PathCond} {apart fresh handsOn again : Bool} {X : World → Array Value → Prop}
  (hX : ∀ (w w' : World) (args : Array Value), w.heap = w'.heap → X w args → X w' args)
  (own : ownKnob C.prog.godebug = none) (started : os.Started) (noInit : C.prog.inits.idxOf? f = none) (hfn : C.prog.funcs[f]? = some fn)
  (witness : ∃ (w : World) (tape : Tape) (i : Input), w.os = os ∧ (w.forCall tape i).Shaped C.prog ∧ i.vars = [] ∧ Input.okWide C.prog (w.forCall tape i) .any w.heap.size f i ∧
   ((s.pre enc C.prog fn conds apart (w.forCall tape i).memory i.args ∧ X (w.forCall tape i).memory i.args) ∧ sizedMet enc C.prog fn (OpenSpec.ofChange s) apart (w.forCall tape i).memory i.args) ∧ a.holds C.prog (lone (Frame.enter C.prog f i.args .normal) [] (w.forCall tape i)))
  (contract : ∀ (W : World) (base : Nat) (args : Array Value) (ds gs : List (DataW H)) (before : List MemPlace),
   (∀ (j : Nat) t v, fn.params[j]? = some t → args[j]? = some v → Value.okWide C.prog W .any base t v) →
   DataW.Whole enc C.prog fn.params.toList s.vars apart W args.toList ds gs before →
   conds.all (PathCond.test C.prog ⟨fn.params.toList, ds, s.plain.varTypes C.prog, gs⟩) = true →
   (DataW.weightsEach C.prog (fn.params.toList ++ s.plain.varTypes C.prog) (ds ++ gs)).all (· ≤ reachBytes) = true → X W args → W.ShapedOpen C.prog →
   Calls C.prog f args W fun e W' => ∃ v, e = .returned v ∧ s.post enc C.prog fn apart fresh handsOn again W args v W') :
  ReturnsInHanded a C os f .any (fun w args => (s.pre enc C.prog fn conds apart w args ∧ X w args) ∧ sizedMet enc C.prog fn (OpenSpec.ofChange s) apart w args) (s.post enc C.prog fn apart fresh handsOn again) := by
 refine returnsInHanded_of_calls own started noInit witness ?_
 intro w tape i _ hsh _ hok hpre _
 obtain ⟨_, _, _, fn', hfn', _, _, _, _, hval⟩ := hok
 have e : fn' = fn := yW (hfn'.symm.trans hfn)
 subst e
 obtain ⟨⟨⟨ds, gs, before, hw, hc⟩, hx⟩, hz⟩ := hpre
 have hw' := DataW.Whole.of_heap (w' := w.forCall tape i) rfx hw
 refine (contract (w.forCall tape i) w.heap.size i.args ds gs before hval hw' hc (hz.weights hw) (hX _ _ _ rfx hx) hsh).mono fun e W' ⟨v, he, hp⟩ => ?_
 subst he
 exact ChangeSpec.post_blind hp
end
section
variable {H : Type} {enc : TypeId × Value → H} {P : Program} {w : World} {base : Nat} {spare : Nat → Bool} {held : Bool} {fuel : Nat} {t e : TypeId} {cs : List Value} {x : DataW H × List MemPlace}
theorem qk {n : Nat} {ks : List Int} (ht : P.underlying t = some (.array n e)) (he : P.underlying e = some (.int .u32)) (hc : P.cellsOf e = 1) (hct : P.cellsOf t = n) (h : DataW.trod enc P w base spare held fuel t cs = some x) (hx : x.1 = .agg (ks.map fun k => .lit (.int .u32 k))) : cs = ks.map (fun k => .int .u32 k) := by
 obtain ⟨xs, m, rfl, rfl, hlen, hxs, hel⟩ := DataW.trod_array ht h
 simp only [DataW.agg.injEq] at hx
 have hl : ks.length = n := by
  have h := yr List.length hx
  rw [xO, xO] at h
  omega
 refine zy (by rw [hlen, hct, xO, hl]) fun i h1 h2 => ?_
 have hi : i < n := by rw [← hct, ← hlen]; exact h1
 have hi2 : i < ks.length := by omega
 have h3 := hel i hi
 rw [hc, Nat.mul_one, xY om] at h3
 obtain ⟨k, e1, e2, _⟩ := DataW.trod_int he h3
 rw [yO h1, List.take_succ_cons] at e1
 injection e1 with e1 _
 have h4 : (xs.map (·.1))[i]? = (ks.map fun k => DataW.lit (H := H) (.int .u32 k))[i]? := by rw [hx]
 rw [yT, yT, xY om, xY hi2, Option.map_some, Option.map_some, e2] at h4
 simp only [Option.some.injEq, DataW.lit.injEq, Lit.int.injEq, true_and] at h4
 rw [e1, zt, h4]
end
end Go.PW
namespace Go.Proofs.YtliklcmddmpdfaaGreatDoor
open Go.RowKit Go.PW _root_.Go.Proofs.Tryz
open Go.ChangeShapes Go.WideShapes Go.ChangeAt Go.RowKit Go.PW
theorem ownD : ownKnob Tryz.prog.godebug = none := by kernel_rfl
theorem eo : laidOutB Tryz.prog = true := by kernel_rfl
def laid1 : List (String × DataW Unit) := [("dialtone/digest.round", Rows.laid_dialtone_digest_round)]
theorem gRound : Tryz.prog.globalNamed "dialtone/digest.round" = some 0 := by kernel_rfl
theorem tRound : (Tryz.prog.globals[0]?).map (·.type) = some 258 := by kernel_rfl
theorem vY : (Rows.laid_dialtone_digest_round : DataW Unit) = .agg ((kOf.map fun k => (k.toNat : Int)).map fun k => .lit (.int .u32 k)) := by kernel_rfl
theorem uJ (os : Os) (args : Array Value) : laidMetH Tryz.prog laid1 ((World.doorLaid Tryz.prog 4000 os).forCall (fun _ _ => 0) ⟨#[], args, []⟩).memory :=
 laidMetH_of_parts3 (fuel := 8) (laidMet_of_run' 8 kr kr) kr kr
theorem qb (os : Os) (args : Array Value) : ((World.doorLaid Tryz.prog 4000 os).forCall (fun _ _ => 0) ⟨#[], args, []⟩).Shaped Tryz.prog := World.shaped_of_RefB kr kr
theorem xz {W : World} (h : laidMetH Tryz.prog laid1 W) (hs : W.ShapedOpen Tryz.prog) : (blk 0 (kOf.map wv) 258).ok W := by
 rw [MakeChecks.laidMetH_plain _ _ _ kr] at h
 obtain ⟨ps, ⟨g0, t0, cs0, f0, p0, q0, hg0, ht0, hv0, hd0, _, _⟩, _, _⟩ := h
 obtain rfl := yW (gRound.symm.trans hg0)
 obtain rfl := yW (tRound.symm.trans ht0)
 obtain ⟨cs, hcs, _, _⟩ := hs.1 0 (List.replicate 64 (.int .u32 0)).toArray 258 (of_decide_eq_true kr) kr
 have e : cs0 = cs := by
  have := hv0
  simp only [World.var?, gRound, zA, hcs, Option.some.injEq] at this
  exact this.symm
 subst e
 have hw := qk (ks := kOf.map fun k => (k.toNat : Int)) underlying258 underlying206 kr kr hd0 vY
 have hl : cs0 = (kOf.map wv).toArray := by
  apply Array.toList_inj.1
  rw [hw, zj]; rfl
 show W.heap[0]? = some (.cells (kOf.map wv).toArray 258)
 rw [← hl]; exact hcs
open Go.ChangeShapes Go.WideShapes Go.ChangeAt
section
variable {H : Type} {enc : TypeId × Value → H} {W : World} {base b0 : Nat} {sp : Nat → Bool} {hd : Bool} {v : Value} {d : DataW H} {ps : List MemPlace} {r : Reach}
theorem ka {n : Int} (h : Go.PW.i64 n) : i64 n := h
theorem len4 {α : Type} {l : List α} (h : l.length = 4) : ∃ a0 a1 a2 a3, l = [a0, a1, a2, a3] := by
 match l, h with
 | [a0, a1, a2, a3], _ => exact ⟨_, _, _, _, rfl⟩
theorem ue {fuel : Nat} {cs : List Value} {x : DataW H × List MemPlace} (hl : cs.length = 4) (hw : Wt Tryz.prog 26 x.1) (h : DataW.trod enc Tryz.prog W base sp hd fuel 26 cs = some x) :
  ∃ (n0 : Int) (v1 : Value) (v2 : Value) (v3 : Value), cs = [jv n0, v1, v2, v3] ∧ (i64 n0) ∧ (∃ n z, DataW.trod enc Tryz.prog W base sp hd n 22 [v1] = some z ∧ Wt Tryz.prog 22 z.1) ∧ (∃ n z, DataW.trod enc Tryz.prog W base sp hd n 23 [v2] = some z ∧ Wt Tryz.prog 23 z.1) ∧ (∃ n z, DataW.trod enc Tryz.prog W base sp hd n 24 [v3] = some z ∧ Wt Tryz.prog 24 z.1) := by
 obtain ⟨c0, c1, c2, c3, rfl⟩ := len4 hl
 obtain ⟨m0, z0, h0, w0⟩ := cZ 0 _ underlying26 hw h rfl
 have k0 : Tryz.prog.cellsOf 3 = 1 := by kernel_rfl
 replace h0 : DataW.trod enc Tryz.prog W base sp hd m0 3 [c0] = some z0 := by rw [show [c0] = ([c0, c1, c2, c3].drop 0).take (Tryz.prog.cellsOf 3) from by rw [k0]; rfl]; exact h0
 obtain ⟨m1, z1, h1, w1⟩ := cZ 1 _ underlying26 hw h rfl
 have k1 : Tryz.prog.cellsOf 22 = 1 := by kernel_rfl
 replace h1 : DataW.trod enc Tryz.prog W base sp hd m1 22 [c1] = some z1 := by rw [show [c1] = ([c0, c1, c2, c3].drop 1).take (Tryz.prog.cellsOf 22) from by rw [k1]; rfl]; exact h1
 obtain ⟨m2, z2, h2, w2⟩ := cZ 2 _ underlying26 hw h rfl
 have k2 : Tryz.prog.cellsOf 23 = 1 := by kernel_rfl
 replace h2 : DataW.trod enc Tryz.prog W base sp hd m2 23 [c2] = some z2 := by rw [show [c2] = ([c0, c1, c2, c3].drop 2).take (Tryz.prog.cellsOf 23) from by rw [k2]; rfl]; exact h2
 obtain ⟨m3, z3, h3, w3⟩ := cZ 3 _ underlying26 hw h rfl
 have k3 : Tryz.prog.cellsOf 24 = 1 := by kernel_rfl
 replace h3 : DataW.trod enc Tryz.prog W base sp hd m3 24 [c3] = some z3 := by rw [show [c3] = ([c0, c1, c2, c3].drop 3).take (Tryz.prog.cellsOf 24) from by rw [k3]; rfl]; exact h3
 obtain ⟨n0, e0, f0⟩ := fC underlying3 h0
 obtain rfl : c0 = jv n0 := by simpa using e0
 obtain ⟨v1, e1⟩ : ∃ q, q = c1 := ⟨_, rfl⟩
 subst e1
 obtain ⟨v2, e2⟩ : ∃ q, q = c2 := ⟨_, rfl⟩
 subst e2
 obtain ⟨v3, e3⟩ : ∃ q, q = c3 := ⟨_, rfl⟩
 subst e3
 exact ⟨n0, v1, v2, v3, O, f0, ⟨m1, z1, h1, w1⟩, ⟨m2, z2, h2, w2⟩, ⟨m3, z3, h3, w3⟩⟩
theorem len2 {α : Type} {l : List α} (h : l.length = 2) : ∃ a0 a1, l = [a0, a1] := by
 match l, h with
 | [a0, a1], _ => exact ⟨_, _, rfl⟩
theorem j0 {fuel : Nat} {cs : List Value} {x : DataW H × List MemPlace} (hl : cs.length = 2) (hw : Wt Tryz.prog 63 x.1) (h : DataW.trod enc Tryz.prog W base sp hd fuel 63 cs = some x) :
  ∃ (n0 : Int) (n1 : Int), cs = [jv n0, jv n1] ∧ (i64 n0) ∧ (i64 n1) := by
 obtain ⟨zs, hz, he, hy⟩ := mB 2 underlying63 underlying3 kr h hl
 obtain ⟨n0, n1, rfl⟩ := len2 hz
 exact ⟨n0, n1, he, hy n0 sm, hy n1 sm⟩
theorem mE {fuel : Nat} {v : Value} {x : DataW H × List MemPlace} (hok : Cell.okWide Tryz.prog W r b0 22 v) (hw : Wt Tryz.prog 22 x.1) (h : DataW.trod enc Tryz.prog W base sp hd fuel 22 [v] = some x) :
  ∃ xs : List Pr2, SlAt W v 2 (xs.map Pr2.cells) ∧ ∀ a ∈ xs, a.wt := by
 obtain ⟨els, h1, h2⟩ := jM 2 underlying22 kr de (of_decide_eq_true kr) hok hw h
 exact mQ (f := Pr2.cells) (q := fun a => a.wt) h1 fun i hi => by
  obtain ⟨n, y, hy, hwy⟩ := h2 i hi
  obtain ⟨n0, n1, he, hf⟩ := j0 (h1.1 _ (yK hi)) hwy hy
  exact ⟨⟨n0, n1⟩, he, hf⟩
theorem len8 {α : Type} {l : List α} (h : l.length = 8) : ∃ a0 a1 a2 a3 a4 a5 a6 a7, l = [a0, a1, a2, a3, a4, a5, a6, a7] := by
 match l, h with
 | [a0, a1, a2, a3, a4, a5, a6, a7], _ => exact ⟨_, _, _, _, _, _, _, _, rfl⟩
theorem nJ {fuel : Nat} {cs : List Value} {x : DataW H × List MemPlace} (hl : cs.length = 8) (hw : Wt Tryz.prog 84 x.1) (h : DataW.trod enc Tryz.prog W base sp hd fuel 84 cs = some x) :
  ∃ (n0 : Int) (n1 : Int) (n2 : Int) (n3 : Int) (n4 : Int) (n5 : Int) (n6 : Int) (v7 : Value), cs = [jv n0, jv n1, jv n2, jv n3, jv n4, jv n5, jv n6, v7] ∧ (i64 n0) ∧ (i64 n1) ∧ (i64 n2) ∧ (i64 n3) ∧ (i64 n4) ∧ (i64 n5) ∧ (i64 n6) ∧ (∃ n z, DataW.trod enc Tryz.prog W base sp hd n 82 [v7] = some z ∧ Wt Tryz.prog 82 z.1) := by
 obtain ⟨c0, c1, c2, c3, c4, c5, c6, c7, rfl⟩ := len8 hl
 obtain ⟨m0, z0, h0, w0⟩ := cZ 0 _ underlying84 hw h rfl
 have k0 : Tryz.prog.cellsOf 3 = 1 := by kernel_rfl
 replace h0 : DataW.trod enc Tryz.prog W base sp hd m0 3 [c0] = some z0 := by rw [show [c0] = ([c0, c1, c2, c3, c4, c5, c6, c7].drop 0).take (Tryz.prog.cellsOf 3) from by rw [k0]; rfl]; exact h0
 obtain ⟨m1, z1, h1, w1⟩ := cZ 1 _ underlying84 hw h rfl
 have k1 : Tryz.prog.cellsOf 63 = 2 := by kernel_rfl
 replace h1 : DataW.trod enc Tryz.prog W base sp hd m1 63 [c1, c2] = some z1 := by rw [show [c1, c2] = ([c0, c1, c2, c3, c4, c5, c6, c7].drop 1).take (Tryz.prog.cellsOf 63) from by rw [k1]; rfl]; exact h1
 obtain ⟨m2, z2, h2, w2⟩ := cZ 2 _ underlying84 hw h rfl
 have k2 : Tryz.prog.cellsOf 63 = 2 := by kernel_rfl
 replace h2 : DataW.trod enc Tryz.prog W base sp hd m2 63 [c3, c4] = some z2 := by rw [show [c3, c4] = ([c0, c1, c2, c3, c4, c5, c6, c7].drop 3).take (Tryz.prog.cellsOf 63) from by rw [k2]; rfl]; exact h2
 obtain ⟨m3, z3, h3, w3⟩ := cZ 3 _ underlying84 hw h rfl
 have k3 : Tryz.prog.cellsOf 3 = 1 := by kernel_rfl
 replace h3 : DataW.trod enc Tryz.prog W base sp hd m3 3 [c5] = some z3 := by rw [show [c5] = ([c0, c1, c2, c3, c4, c5, c6, c7].drop 5).take (Tryz.prog.cellsOf 3) from by rw [k3]; rfl]; exact h3
 obtain ⟨m4, z4, h4, w4⟩ := cZ 4 _ underlying84 hw h rfl
 have k4 : Tryz.prog.cellsOf 3 = 1 := by kernel_rfl
 replace h4 : DataW.trod enc Tryz.prog W base sp hd m4 3 [c6] = some z4 := by rw [show [c6] = ([c0, c1, c2, c3, c4, c5, c6, c7].drop 6).take (Tryz.prog.cellsOf 3) from by rw [k4]; rfl]; exact h4
 obtain ⟨m5, z5, h5, w5⟩ := cZ 5 _ underlying84 hw h rfl
 have k5 : Tryz.prog.cellsOf 82 = 1 := by kernel_rfl
 replace h5 : DataW.trod enc Tryz.prog W base sp hd m5 82 [c7] = some z5 := by rw [show [c7] = ([c0, c1, c2, c3, c4, c5, c6, c7].drop 7).take (Tryz.prog.cellsOf 82) from by rw [k5]; rfl]; exact h5
 obtain ⟨n0, e0, f0⟩ := fC underlying3 h0
 obtain rfl : c0 = jv n0 := by simpa using e0
 obtain ⟨n1, n2, e1, f1_0, f1_1⟩ := j0 rfl w1 h1
 simp only [List.cons.injEq, and_true] at e1
 obtain ⟨rfl, rfl⟩ := e1
 obtain ⟨n3, n4, e2, f2_0, f2_1⟩ := j0 rfl w2 h2
 simp only [List.cons.injEq, and_true] at e2
 obtain ⟨rfl, rfl⟩ := e2
 obtain ⟨n5, e3, f3⟩ := fC underlying3 h3
 obtain rfl : c5 = jv n5 := by simpa using e3
 obtain ⟨n6, e4, f4⟩ := fC underlying3 h4
 obtain rfl : c6 = jv n6 := by simpa using e4
 obtain ⟨v7, e5⟩ : ∃ q, q = c7 := ⟨_, rfl⟩
 subst e5
 exact ⟨n0, n1, n2, n3, n4, n5, n6, v7, O, f0, f1_0, f1_1, f2_0, f2_1, f3, f4, ⟨m5, z5, h5, w5⟩⟩
theorem len5 {α : Type} {l : List α} (h : l.length = 5) : ∃ a0 a1 a2 a3 a4, l = [a0, a1, a2, a3, a4] := by
 match l, h with
 | [a0, a1, a2, a3, a4], _ => exact ⟨_, _, _, _, _, rfl⟩
theorem lY {fuel : Nat} {cs : List Value} {x : DataW H × List MemPlace} (hl : cs.length = 5) (hw : Wt Tryz.prog 142 x.1) (h : DataW.trod enc Tryz.prog W base sp hd fuel 142 cs = some x) :
  ∃ (n0 : Int) (n1 : Int) (n2 : Int) (n3 : Int) (n4 : Int), cs = [jv n0, jv n1, jv n2, jv n3, jv n4] ∧ (i64 n0) ∧ (i64 n1) ∧ (i64 n2) ∧ (i64 n3) ∧ (i64 n4) := by
 obtain ⟨zs, hz, he, hy⟩ := mB 5 underlying142 underlying3 kr h hl
 obtain ⟨n0, n1, n2, n3, n4, rfl⟩ := len5 hz
 exact ⟨n0, n1, n2, n3, n4, he, hy n0 sm, hy n1 sm, hy n2 sm, hy n3 sm, hy n4 sm⟩
theorem uK {fuel : Nat} {v : Value} {x : DataW H × List MemPlace} (hw : Wt Tryz.prog 82 x.1) (h : DataW.trod enc Tryz.prog W base sp hd fuel 82 [v] = some x) :
  ∃ ys : List Cin, SlE W v 5 (ys.map Cin.cells) ∧ (∀ y ∈ ys, y.wt) ∧ ys.length ≤ 3518437208883 := by
 obtain ⟨els, h1, h2, h3, h4⟩ := uv 5 underlying82 kr de (of_decide_eq_true kr) hw h
 obtain ⟨ys, rfl, hq⟩ := vd (els := els) (f := Cin.cells) (q := Cin.wt) fun i hi => by
  obtain ⟨n, y, hy, hwy⟩ := h4 i hi
  obtain ⟨n0, n1, n2, n3, n4, he, hf⟩ := lY (h3 _ (yK hi)) hwy hy
  exact ⟨⟨n0, n1, n2, n3, n4⟩, he, hf⟩
 refine ⟨ys, h1, hq, ?_⟩
 rw [xO, show Tryz.prog.bytesOf 142 = 40 from by kernel_rfl] at h2
 omega
theorem rm {fuel : Nat} {v : Value} {x : DataW H × List MemPlace} (hok : Cell.okWide Tryz.prog W r b0 23 v) (hw : Wt Tryz.prog 23 x.1) (h : DataW.trod enc Tryz.prog W base sp hd fuel 23 [v] = some x) :
  ∃ xs : List Nin, SlAt W v 8 (xs.map Nin.cells) ∧ ∀ a ∈ xs, a.wt W := by
 obtain ⟨els, h1, h2⟩ := jM 8 underlying23 kr de (of_decide_eq_true kr) hok hw h
 exact mQ (f := Nin.cells) (q := fun a => a.wt W) h1 fun i hi => by
  obtain ⟨n, y, hy, hwy⟩ := h2 i hi
  obtain ⟨n0, n1, n2, n3, n4, n5, n6, v7, he, f0, f1, f2, f3, f4, f5, f6, n9, z, hz, hwz⟩ := nJ (h1.1 _ (yK hi)) hwy hy
  obtain ⟨ys, g1, g2, g3⟩ := uK hwz hz
  exact ⟨⟨n0, n1, n2, n3, n4, n5, n6, v7, ys⟩, he, ⟨f0, f1, f2, f3, f4, f5, f6⟩, g1, g2, g3⟩
theorem rR {fuel : Nat} {v : Value} {x : DataW H × List MemPlace} (hok : Cell.okWide Tryz.prog W r b0 24 v) (hw : Wt Tryz.prog 24 x.1) (h : DataW.trod enc Tryz.prog W base sp hd fuel 24 [v] = some x) :
  ∃ xs : List Int, SlAt W v 1 (xs.map (fun z : Int => [jv z])) ∧ ∀ a ∈ xs, i64 a := by
 obtain ⟨els, h1, h2⟩ := jM 1 underlying24 kr de (of_decide_eq_true kr) hok hw h
 exact mQ (f := fun z : Int => [jv z]) (q := fun a => i64 a) h1 fun i hi => by
  obtain ⟨n, y, hy, hwy⟩ := h2 i hi
  obtain ⟨n0, he, f0⟩ := fC underlying3 hy
  exact ⟨n0, he, f0⟩
theorem pj (hval : Value.okWide Tryz.prog W r b0 26 v) (hw : Wt Tryz.prog 26 d) (hd0 : DataW.Trod enc Tryz.prog W base sp hd 26 v d ps) :
  ∃ (n0 : Int) (v1 : Value) (xv1 : List Pr2) (v2 : Value) (xv2 : List Nin) (v3 : Value) (xv3 : List Int), v = .agg #[jv n0, v1, v2, v3] ∧ (i64 n0) ∧ (SlAt W v1 2 (xv1.map Pr2.cells)) ∧ (∀ a ∈ xv1, a.wt) ∧ (SlAt W v2 8 (xv2.map Nin.cells)) ∧ (∀ a ∈ xv2, a.wt W) ∧ (SlAt W v3 1 (xv3.map (fun z : Int => [jv z]))) ∧ (∀ a ∈ xv3, i64 a) := by
 obtain ⟨csA, rfl, hsz, hrow⟩ := jy kr hval
 obtain ⟨fuel, hf⟩ := hd0
 have hc : Tryz.prog.cellsOf 26 = 4 := by kernel_rfl
 obtain ⟨n0, v1, v2, v3, he, g0, g1, g2, g3⟩ := ue (cs := csA.toList) (by rw [zr, hsz, hc]) hw hf
 obtain rfl : csA = #[jv n0, v1, v2, v3] := by
  have he2 : csA.toList = [jv n0, v1, v2, v3] := he
  cases csA; simp only at he2; rw [he2]
 obtain ⟨n1_, z1_, h1_, w1_⟩ := g1
 obtain ⟨xv1, k1_, q1_⟩ := mE (iJ (i := 1) (ts := [3, 22, 23, 24]) kr rfl hrow rfl) w1_ h1_
 obtain ⟨n2_, z2_, h2_, w2_⟩ := g2
 obtain ⟨xv2, k2_, q2_⟩ := rm (iJ (i := 2) (ts := [3, 22, 23, 24]) kr rfl hrow rfl) w2_ h2_
 obtain ⟨n3_, z3_, h3_, w3_⟩ := g3
 obtain ⟨xv3, k3_, q3_⟩ := rR (iJ (i := 3) (ts := [3, 22, 23, 24]) kr rfl hrow rfl) w3_ h3_
 exact ⟨n0, v1, xv1, v2, xv2, v3, xv3, O, g0, k1_, q1_, k2_, q2_, k3_, q3_⟩
theorem qc (hval : Value.okWide Tryz.prog W r b0 22 v) (hw : Wt Tryz.prog 22 d) (hd0 : DataW.Trod enc Tryz.prog W base sp hd 22 v d ps) :
  ∃ xs : List Pr2, SlAt W v 2 (xs.map Pr2.cells) ∧ ∀ a ∈ xs, a.wt := by
 obtain ⟨fuel, hf⟩ := hd0
 have hcs : v.cells.toList = [v] := by
  rcases kA (by rw [underlying22]) hval with h
  have : ∃ a n c, v = .slice a n c := by
   unfold Cell.okWide Cell.ok at h
   rw [underlying22] at h
   cases v <;> simp_all
  obtain ⟨a, n, c, rfl⟩ := this
  rfl
 rw [hcs] at hf
 exact mE (kA (by rw [underlying22]) hval) hw hf
theorem sx {fuel : Nat} {v : Value} {x : DataW H × List MemPlace} (hok : Cell.okWide Tryz.prog W r b0 82 v) (hw : Wt Tryz.prog 82 x.1) (h : DataW.trod enc Tryz.prog W base sp hd fuel 82 [v] = some x) :
  ∃ xs : List Cin, SlAt W v 5 (xs.map Cin.cells) ∧ ∀ a ∈ xs, a.wt := by
 obtain ⟨els, h1, h2⟩ := jM 5 underlying82 kr de (of_decide_eq_true kr) hok hw h
 exact mQ (f := Cin.cells) (q := fun a => a.wt) h1 fun i hi => by
  obtain ⟨n, y, hy, hwy⟩ := h2 i hi
  obtain ⟨n0, n1, n2, n3, n4, he, hf⟩ := lY (h1.1 _ (yK hi)) hwy hy
  exact ⟨⟨n0, n1, n2, n3, n4⟩, he, hf⟩
theorem pE (hval : Value.okWide Tryz.prog W r b0 84 v) (hw : Wt Tryz.prog 84 d) (hd0 : DataW.Trod enc Tryz.prog W base sp hd 84 v d ps) :
  ∃ (n0 : Int) (n1 : Int) (n2 : Int) (n3 : Int) (n4 : Int) (n5 : Int) (n6 : Int) (v7 : Value) (xv7 : List Cin), v = .agg #[jv n0, jv n1, jv n2, jv n3, jv n4, jv n5, jv n6, v7] ∧ (i64 n0) ∧ (i64 n1) ∧ (i64 n2) ∧ (i64 n3) ∧ (i64 n4) ∧ (i64 n5) ∧ (i64 n6) ∧ (SlAt W v7 5 (xv7.map Cin.cells)) ∧ (∀ a ∈ xv7, a.wt) := by
 obtain ⟨csA, rfl, hsz, hrow⟩ := jy kr hval
 obtain ⟨fuel, hf⟩ := hd0
 have hc : Tryz.prog.cellsOf 84 = 8 := by kernel_rfl
 obtain ⟨n0, n1, n2, n3, n4, n5, n6, v7, he, g0, g1, g2, g3, g4, g5, g6, g7⟩ := nJ (cs := csA.toList) (by rw [zr, hsz, hc]) hw hf
 obtain rfl : csA = #[jv n0, jv n1, jv n2, jv n3, jv n4, jv n5, jv n6, v7] := by
  have he2 : csA.toList = [jv n0, jv n1, jv n2, jv n3, jv n4, jv n5, jv n6, v7] := he
  cases csA; simp only at he2; rw [he2]
 obtain ⟨n7_, z7_, h7_, w7_⟩ := g7
 obtain ⟨xv7, k7_, q7_⟩ := sx (iJ (i := 7) (ts := [3, 3, 3, 3, 3, 3, 3, 82]) kr rfl hrow rfl) w7_ h7_
 exact ⟨n0, n1, n2, n3, n4, n5, n6, v7, xv7, O, g0, g1, g2, g3, g4, g5, g6, k7_, q7_⟩
end
end Go.Proofs.YtliklcmddmpdfaaGreatDoor
namespace Go.Proofs.YtliklcmddmpdfaaGreatDoor
open Go.RowKit Go.PW _root_.Go.Proofs.Tryz
theorem so_of {key : By} {lim t : Int} {q : Chg} {n : Nat} (hk : key.length = 32) (hq : (0 ≤ q.n ∧ q.n ≤ 99999999) ∧ (0 ≤ q.h ∧ q.h ≤ 63) ∧ (0 ≤ q.c ∧ q.c ≤ 7) ∧ 0 ≤ q.t ∧ q.t ≤ q.a ∧ q.a ≤ 10000000) (hl : 1 ≤ lim ∧ lim ≤ 1000000) (hn : n ≤ 10) (ht : q.a ≤ t ∧ t ≤ 11000000) : eS key lim q n t = true := by
 simp only [eS, Chg.ok, inB, xP, xT]
 omega
def PartR (l : List Cas) (hd : Hd) (r : Rpw) : Prop := r.hd = hd ∧ ∃ ix : List Int, ascI (l.length : Int) (-1) ix = true ∧ itsM r.L = showIs sha (entC l) l.length ix
theorem pL {l : List Cas} {hd : Hd} {R : List Rpw} {r : Rpw} (h : ∀ r ∈ R, PartR l hd r) (hr : PartR l hd r) : ∀ z ∈ R ++ [r], PartR l hd z := bY h hr
theorem uy {R : List Rpw} {r : Rpw} (h : ∀ r ∈ R, ∀ x ∈ r.L, x.m.pf.length ≤ 1000) (hr : ∀ x ∈ r.L, x.m.pf.length ≤ 1000) : ∀ z ∈ R ++ [r], ∀ x ∈ z.L, x.m.pf.length ≤ 1000 := bY h hr
theorem xh {w : World} {v : Value} {R : List Rpw} (h : SlAt w v 6 (R.map Rpw.cells)) (h2 : (repsE R).ok w) : RepAt w v R := ⟨h, h2⟩
def forgeW (x : Wsh) (n : Int) : Wsh := x.sealed (keyH n)
theorem rY {x : Wsh} (h : x.ok = true) (n : Int) : ∃ s, cI (forgeW x n) [] = some s := ⟨_, dq.2 ⟨by
 unfold bU
 rw [show (forgeW x n).ok = x.ok from rfl, h]; rfl, fj _ _, fun p hp => (by cases hp), rfl⟩⟩
theorem sL {x : Wsh} (h : x.ok = true) : 0 ≤ x.holder ∧ x.holder ≤ 63 := by
 simp only [Wsh.ok, inB, xP, xT] at h
 exact h.1.1.1.1.2
theorem ri {x : Wsh} {n : Int} {s : By} (h : cI (forgeW x n) [] = some s) : s.length ≤ 900 := gq (x := forgeW x n) (ps := []) (e := 0) (by unfold encT; rw [h])
theorem rF {a b : Int} (ha : 0 ≤ a ∧ a < 256) (hb : 0 ≤ b ∧ b < 256) (h : keyH a = keyH b) : a = b := by
 have h1 : (UInt8.ofNat (a % 256).toNat).toNat = (UInt8.ofNat (b % 256).toNat).toNat := yr (fun l : By => (l.headD 0).toNat) h
 rw [UInt8.toNat_ofNat_of_lt' (by simp only [UInt8.size]; omega), UInt8.toNat_ofNat_of_lt' (by simp only [UInt8.size]; omega)] at h1
 omega
theorem wX {l : List Cas} {k : Nat} {s : By} {e : Cas} (hk : k < (l.map Cas.cells).length) (he : ⟨(l.getD k Cas.z).n, (l.getD k Cas.z).t, s⟩ = e) : (l.map Cas.cells).set k (splice ((l.map Cas.cells)[k]) 2 [sv s]) = (l.set k e).map Cas.cells := by
 rw [bn Cas.z, zD, ← he]; rfl
theorem oC {s : By} (hs : s.length ≤ 900) : ∀ {l : List Cas} {n : Int} {i : Nat}, ascC n l = true → ascC n (l.set i ⟨(l.getD i Cas.z).n, (l.getD i Cas.z).t, s⟩) = true
 | [], n, i, h => h
 | x :: l, n, 0, h => by
  simp only [ascC, xP, xT] at h
  obtain ⟨⟨h1, h2⟩, h3⟩ := h
  show ascC n (⟨x.n, x.t, s⟩ :: l) = true
  have h4 : Cas.ok ⟨x.n, x.t, s⟩ = true := by
   unfold Cas.ok inB at h1 ⊢
   simp only [xP, xT] at h1 ⊢
   exact ⟨h1.1, hs⟩
  rw [ascC, h4, xS h2]; exact h3
 | x :: l, n, i + 1, h => by
  simp only [ascC, xP, xT] at h
  show ascC n (x :: l.set i ⟨(l.getD i Cas.z).n, (l.getD i Cas.z).t, s⟩) = true
  rw [ascC, h.1.1, xS h.1.2, oC hs h.2]; rfl
theorem vE {c : Int} {l : List Cas} {i : Nat} {s : By} (h : docOk c l = true) (hs : s.length ≤ 900) : docOk c (l.set i ⟨(l.getD i Cas.z).n, (l.getD i Cas.z).t, s⟩) = true := by
 simp only [docOk, xP] at h ⊢
 exact ⟨⟨oC hs h.1.1, h.1.2⟩, by rw [zk]; exact h.2⟩
section
variable {dc : Int} {el : List Cas} {kk s : By} {hd : Hd} {y : Cas} {x : Wsh} {R : List Rpw} {iq : Nat} {n lim t s1 u1 : Int} {q : Chg}
theorem iO (hdE : docOk dc el = true) (hiq : iq < el.length) (he : el.getD iq Cas.z = ⟨y.n, y.t, s⟩) (hen : cI (forgeW x n) [] = some s) (hn : 10 ≤ n ∧ n < 256) (hR : ∀ r ∈ R, PartR el hd r) (q1 : q.n = y.n) (hlim : 1 ≤ lim) (ht : q.a + lim ≤ t)
  (hs : stateH sha keysH kk lim q (repsM R) t = (s1, u1)) (hne : ¬ (s1 = 3 ∧ u1 ≤ q.a + lim)) : colwH [[1] ++ keyH n ++ leafH sha x.content] [[1] ++ keyH x.signer ++ leafH sha x.content] = true := by
 by_cases hno : ∀ r ∈ repsM R, keepsF keysH q r.its = false
 ·have := pd (S := sha) (key := kk) hlim ht hno
  rw [hs] at this
  exact absurd this hne
 ·have ⟨r, hr, hk⟩ : ∃ r ∈ repsM R, keepsF keysH q r.its = true := by
   refine Classical.byContradiction fun hc => hno fun r hr => ?_
   cases hk : keepsF keysH q r.its with
   | false => rfl
   | true => exact absurd ⟨r, hr, hk⟩ hc
  unfold repsM at hr
  obtain ⟨z, hz, rfl⟩ := yD.1 hr
  obtain ⟨_, ix, e2, e3⟩ := hR z hz
  obtain ⟨m, hm, c, h1, h2, h3, w, ps, h4, _, _, h5⟩ := gZ hk
  have hm : m ∈ itsM z.L := hm
  rw [e3] at hm
  obtain ⟨i, hi, rfl⟩ := dH hm
  have hb := dJ e2 i hi
  rw [cN hdE om hb.2] at h1
  have h1 := yW h1
  have hi2 : i.toNat = iq := si (num := y.n) hdE om hiq (by rw [h1, h2, q1]) (by rw [he])
  rw [hi2, he] at h1
  subst h1
  have h4 : cq s = some (w, ps) := h4
  rw [gG hen] at h4
  obtain ⟨rfl, rfl⟩ : forgeW x n = w ∧ [] = ps := by simpa using h4
  obtain ⟨key, h6, h7⟩ := qi h5
  obtain ⟨h8, h9, rfl⟩ := qh h6
  have h7 : sealH (keyH n) x.content = sealH (keyH x.signer) x.content := h7
  have h8 : 0 ≤ x.signer := h8
  have h9 : x.signer < 10 := h9
  refine lB (i := 0) (j := 0) sm sm ?_
  have e : ¬ [1] ++ keyH n ++ leafH sha x.content = [1] ++ keyH x.signer ++ leafH sha x.content := by
   intro e
   have e4 : keyH n ++ leafH sha x.content = keyH x.signer ++ leafH sha x.content := by simpa using e
   have := rF om om (List.append_inj e4 (by rw [ck, ck])).1
   omega
  have e5 : sha ([1] ++ keyH n ++ leafH sha x.content) = sha ([1] ++ keyH x.signer ++ leafH sha x.content) := h7
  show collB _ _ = true
  simp only [List.getD_cons_zero]
  unfold collB
  rw [xW e, xS e5]; rfl
end
theorem jS {key c : By} (hk : key.length = 32) : ∀ z ∈ [[1] ++ key ++ leafH sha c], z.length ≤ 100000000 := by
 intro z hz
 rw [yo.1 hz]
 have := dm cD (s := c)
 simp only [xQ, xZ, ya]; omega
theorem mT (cr : Int) (v1 : Value) (cs : List Pr2) (v2 : Value) (ns : List Nin) (v3 : Value) (hs : List Int) (which ho r0 r1 s0 s1 ca se : Int) (cv : Value) (cys : List Cin) (other asked limit : Int) (xv : Value) (xs : List Pr2) (t : Int) (w0 : World) (hv1 : SlAt w0 v1 2 (cs.map Pr2.cells)) (hv2 : SlAt w0 v2 8 (ns.map Nin.cells)) (hns : ∀ u ∈ ns, u.wt w0) (hv3 : SlAt w0 v3 1 (hs.map fun z : Int => [jv z])) (hcr : i64 cr) (hcs : ∀ y ∈ cs, y.wt) (hhs : ∀ z ∈ hs, i64 z) (h_which : i64 which) (w_ho : i64 ho) (h_r0 : i64 r0) (h_r1 : i64 r1) (h_s0 : i64 s0) (h_s1 : i64 s1) (h_ca : i64 ca) (w_se : i64 se) (h_other : i64 other) (h_asked : i64 asked) (h_limit : i64 limit) (hxv : SlAt w0 xv 2 (xs.map Pr2.cells)) (hxs : ∀ y ∈ xs, y.wt) (h_t : i64 t) (hk0 : (blk 0 (kOf.map wv) 258).ok w0) :
  Ret Tryz.prog 8 #[.agg #[jv cr, v1, v2, v3], jv which, .agg #[jv ho, jv r0, jv r1, jv s0, jv s1, jv ca, jv se, cv], jv other, jv asked, jv limit, xv, jv t] w0 fun v w => v = .bool true ∧ Ext No w0 w := by
 have wwhich := h_which
 unfold i64 at wwhich
 have wr0 := h_r0
 unfold i64 at wr0
 have wr1 := h_r1
 unfold i64 at wr1
 have ws0 := h_s0
 unfold i64 at ws0
 have ws1 := h_s1
 unfold i64 at ws1
 have wca := h_ca
 unfold i64 at wca
 have wother := h_other
 unfold i64 at wother
 have wasked := h_asked
 unfold i64 at wasked
 have wlimit := h_limit
 unfold i64 at wlimit
 have wt := h_t
 unfold i64 at wt
 have hpab := aV asked (n := 100) de
 obtain ⟨pa, hpa⟩ : ∃ z, pickI asked 100 = z := ⟨_, rfl⟩
 rw [hpa] at hpab
 have hplb := aV limit (n := 60) de
 obtain ⟨pl, hpl⟩ : ∃ z, pickI limit 60 = z := ⟨_, rfl⟩
 rw [hpl] at hplb
 have hptb := aV t (n := 100) de
 obtain ⟨pt, hpt⟩ : ∃ z, pickI t 100 = z := ⟨_, rfl⟩
 rw [hpt] at hptb
 have hpob := aV other (n := 200) de
 obtain ⟨po, hpo⟩ : ∃ z, pickI other 200 = z := ⟨_, rfl⟩
 rw [hpo] at hpob
 have hprb := aV r1 (n := 5) de
 obtain ⟨pr, hpr⟩ : ∃ z, pickI r1 5 = z := ⟨_, rfl⟩
 rw [hpr] at hprb
 have hps_b := aV s1 (n := 5) de
 obtain ⟨ps_, hps_⟩ : ∃ z, pickI s1 5 = z := ⟨_, rfl⟩
 rw [hps_] at hps_b
 refine zS func8 O ntmps8 (lb O) fun a Z Y => ?_
 refine aa fun _ G1 => aS Z Y O [jv cr, v1, v2, v3] O fun a w1 Z Y => aS Z Y O [jv ho, jv r0, jv r1, jv s0, jv s1, jv ca, jv se, cv] O fun a w2 Z Y => wla Z O fun a Z => G1 <| aa fun _ G2 => ?_
 refine aw Z Y call11 O (vg _ (Y.keepb hk0)) fun a w3 Z Y => wla Z O fun a Z => G2 <| ah fun _ G3 => ?_
 refine aa fun _ G4 => nv Z <| xK O <| xJ ((bE O).asb (b' := false) O) <| fun a Z => G4 <| aG Z O ?_
 refine au <| G3 <| aa fun _ G5 => wlv Z (ao (Y.g 1 O) O (isAgg26 _) (sizeOf26 _)) fun a Z => bD Z Y call12 O (rK cr v1 cs v2 ns v3 hs _ (Y.arg hv1) (Y.arg hv2) (fun u h => (hns u h).grow Y.ext) (Y.arg hv3) hcr hcs hhs) fun a w4 x1 hp Z Y => ?_
 obtain ⟨dc, dv, dl⟩ := x1
 have hD := hp
 try dsimp only at Y
 replace Y := Y.n3 O
 refine aD Z Y (zeroValue32 _) [jv 0, .slice none 0 0] O fun a w5 Z Y => bp (us := [jv dc, dv]) 0 Z Y O O O (sizeOf32 _) A2 (lb O) (ds := [jv dc, dv]) O O fun a w6 Z Y => ?_
 refine G5 ?_
 replace Z := Z.p10 1 3 4 5 6 7 10 16 17 18 O
 replace Y := Y.k3 7 O
 refine ah fun _ G6 => ?_
 have hD : Doc dc dl := hD
 obtain ⟨hdok, hdl, hdb⟩ := id hD
 have hcb := hD.car
 obtain ⟨kk, hkk⟩ : ∃ k, keyG dc = k := ⟨_, rfl⟩
 have hk32 : kk.length = 32 := by rw [← hkk]; exact oi _
 refine aa fun _ G7 => nv Z <| xJ (ac (v := pw2 w4.hz 1) O kr) <| xJ (ld Y 0 O O (isAgg30 _) O) <| xJ ((aI (sT := 30) (Y.ow 1 O) O O (runUnderlying30 _)).asi (m' := (dl.length : Int)) Ai) <| xJ (v_eq O O) <| fun a Z => G7 <| aA Z O (fun hc2 => ?_) (fun hc2 => ?_)
 ·refine aa fun _ G8 => wlv Z (ao (Y.g 0 O) O (isAgg32 _) (sizeOf32 _)) fun a Z => aw Z Y call31 O (cw hD.1 (iA dc dv dl _ (Y.ow 1 O))) fun a w7 Z Y => wla Z O fun a Z => G8 ?_
  replace Z := Z.p10 1 3 4 5 6 7 10 17 18 16 O
  refine ap <| am Z results8 (ag O ae) ?_
  exact ⟨O, Y.ext⟩
 refine au <| G6 <| aa fun _ G9 => nv Z <| xJ (ac (v := pq w4.hz) O kr) <| xJ (ld Y 0 O O (isAgg3 _) O) <| fun a Z => aw Z Y call13 O (gt (by rw [hkk]) (kQ dc _ om)) fun a w8 Z Y => wla Z O fun a Z => G9 ?_
 replace Z := Z.p11 1 3 4 5 6 7 10 16 17 18 19 O
 obtain ⟨iq, hjq⟩ : ∃ m : Nat, pickI which (dl.length : Int) = (m : Int) := ⟨_, (zm (aV _ (n := (dl.length : Int)) om).1).symm⟩
 have hiql := (aV which (n := (dl.length : Int)) om).2
 rw [hjq] at hiql
 obtain ⟨y, hy⟩ : ∃ y, dl.getD iq Cas.z = y := ⟨_, rfl⟩
 have hyd := hD.at (i := iq) om
 rw [hy] at hyd
 obtain ⟨hyn, hyt, hye⟩ := hyd
 refine aa fun _ G10 => nv Z <| xK O <| xJ (ac (v := pw2 w4.hz 1) O kr) <| xJ (ld Y 0 O O (isAgg30 _) O) <| xJ ((aI (sT := 30) (Y.ow 1 O) O O (runUnderlying30 _)).asi (m' := (dl.length : Int)) Ai) <| fun a Z => aw Z Y call16 O (eB hjq (dz which (dl.length : Int) _ ⟨om, om⟩ ⟨om, om⟩)) fun a w9 Z Y => wla Z O fun a Z => G10 ?_
 refine aa fun _ G11 => wlv (Z.p11 3 4 5 6 7 10 16 17 18 19 20 O) (ac (v := pw2 w1.hz 7) O kr) fun a Z => az 2 Z Y [jv ho, jv r0, jv r1, jv s0, jv s1, jv ca, jv se, .slice none 0 0] O (sizeOf82 _) fun a w10 Z Y => G11 <| ah fun _ G12 => ?_
 refine aL (aN fun w11 hxz => ?_)
 replace Y := Y.grow hxz
 refine aU (k := 0) 10 [5, 9] Z ?_
 replace Z := Z.p12 3 4 5 6 7 10 16 17 18 19 20 57 O
 refine bN 10 Z Y <| pl_v (ac (v := pw2 w4.hz 1) O kr) <| pl_w (fun Y => ld Y 0 O O (isAgg30 _) O) <| pl_m O <| pl_w (fun Y => (aj (i := (iq : Int)) (sT := 30) (Y.ow 1 O) O O (runUnderlying30 _) (sizeOf55 _) om zY).as (v' := slAddr dv (iq * 3)) Ap) <| pl_w (fun Y => bI (k := iq * 3) (j := 0) (Y.ow 1 O) (i := iq) zY O (fun _ _ => by kernel_rfl)) <| pl_w (fun Y => aB (u := jv y.n) (i := iq) (j := 0) (Y.ow 1 O) zY O (isAgg3 _) (by rw [bn Cas.z, hy]; rfl)) <| pl_v (ac (v := pw2 w1.hz 1) O kr) ?_
 refine pl_v (ba (v := pw2 w1.hz 2) O O kr) <| pl_w (fun Y => ld Y 2 O O (isAgg3 _) O) <| pl_r (fun Y => bF call16 O (eB hpr (dz r1 5 _ ⟨om, om⟩ ⟨om, om⟩))) fun a w12 Z Y => ?_
 replace Z := Z.p13 3 4 5 6 7 10 16 17 18 19 20 63 67 O
 refine ab <| aM (k := 10) 13 [12] ?_
 refine nv Z <| xJ (aX (v := .agg #[jv y.n, jv pr]) O kr) <| xJ (ac (v := pw2 w1.hz 1) O kr) <| fun a Z => az 2 Z Y [jv ho, jv y.n, jv pr, jv s0, jv s1, jv ca, jv se, .slice none 0 0] O (sizeOf63 _) fun a w13 Z Y => ab <| aT <| G12 <| ah fun _ G13 => aL (aN fun w14 hxz => ?_)
 replace Y := Y.grow hxz
 refine aU (k := 0) 10 [5, 9] Z ?_
 replace Z := Z.p15 3 4 5 6 7 10 16 17 18 19 20 63 67 68 69 O
 refine bN 10 Z Y <| pl_v (ac (v := pw2 w4.hz 1) O kr) <| pl_w (fun Y => ld Y 0 O O (isAgg30 _) O) <| pl_m O <| pl_w (fun Y => (aj (i := (iq : Int)) (sT := 30) (Y.ow 1 O) O O (runUnderlying30 _) (sizeOf55 _) om zY).as (v' := slAddr dv (iq * 3)) Ap) <| pl_w (fun Y => bI (k := iq * 3) (j := 1) (Y.ow 1 O) (i := iq) zY O (fun _ _ => by kernel_rfl)) <| pl_w (fun Y => aB (u := jv y.t) (i := iq) (j := 1) (Y.ow 1 O) zY O (isAgg3 _) (by rw [bn Cas.z, hy]; rfl)) <| pl_v (ac (v := pw2 w1.hz 3) O kr) ?_
 refine pl_v (ba (v := pw2 w1.hz 4) O O kr) <| pl_w (fun Y => ld Y 2 O O (isAgg3 _) O) <| pl_r (fun Y => bF call16 O (eB hps_ (dz s1 5 _ ⟨om, om⟩ ⟨om, om⟩))) fun a w15 Z Y => ?_
 replace Z := Z.p13 3 4 5 6 7 10 16 17 18 19 20 75 79 O
 refine ab <| aM (k := 10) 13 [12] ?_
 refine nv Z <| xJ (aX (v := .agg #[jv y.t, jv ps_]) O kr) <| xJ (ac (v := pw2 w1.hz 3) O kr) <| fun a Z => az 2 Z Y [jv ho, jv y.n, jv pr, jv y.t, jv ps_, jv ca, jv se, .slice none 0 0] O (sizeOf63 _) fun a w16 Z Y => ab <| aT <| G13 <| aa fun _ G14 => nv Z <| xJ (ac (v := pq w4.hz) O kr) <| xJ (ld Y 0 O O (isAgg3 _) O) <| xJ (ac (v := pw2 w1.hz 5) O kr) <| fun a Z => az 2 Z Y [jv ho, jv y.n, jv pr, jv y.t, jv ps_, jv dc, jv se, .slice none 0 0] O (sizeOf3 _) fun a w17 Z Y => G14 ?_
 replace Z := Z.p11 3 4 5 6 7 10 16 17 18 19 20 O
 obtain ⟨x, hx⟩ : ∃ x, madeW ho y.n pr y.t ps_ dc se [] = x := ⟨_, rfl⟩
 have hps : madeL ho y.n pr y.t ps_ [] = [] := rfl
 have hmk : Mk x [] := by rw [← hx, ← hps]; exact qK _ _ _ _ _ _ _ _
 have hxo := hmk.ok
 have hxh := sL hxo
 obtain ⟨s, hen⟩ := rY hxo (10 + po)
 have hsl := ri hen
 refine aa fun _ G15 => wlv Z (ao (Y.g 2 O) O (isAgg84 _) (sizeOf84 _)) fun a Z => bD Z Y call32 O (tJ hx hps (ek _ _) (fun y h => by cases h) w_ho AA AA AA AA AA w_se) fun a w18 x4 hp Z Y => ?_
 revert x4 hp Z Y; rintro pv3 hp Z Y
 clear hp
 replace Y := Y.n4 O
 refine nv Z <| xK O <| xJ (aq O O) <| xJ (aq O O) <| fun a Z => aD Z Y (zeroValue90 _) [jv 0, jv 0, jv 0, jv 0, jv 0, jv 0, jv 0, jv 0, .string (⟨#[]⟩)] O fun a w19 Z Y => az 0 Z Y [jv x.signer, jv x.holder, jv x.rf, jv x.rt, jv x.carrier, jv x.serial, jv x.sf, jv x.st, sv x.sig] O (sizeOf90 _) fun a w20 Z Y => wla Z O fun a Z => G15 ?_
 replace Y := Y.k3 13 O
 refine aa fun _ G16 => wlm (Z.p11 3 4 5 6 7 16 17 18 19 20 21 O) O fun a Z => aw Z Y call16 O (eB hpo (dz other 200 _ ⟨om, om⟩ ⟨om, om⟩)) fun a w21 Z Y => wlv Z (aP O O ⟨om, om⟩) fun a Z => aw Z Y call33 O (fG (10 + po) _) fun a w22 Z Y => wla Z O fun a Z => G16 <| aa fun _ G17 => ?_
 refine nv Z <| xK O <| xJ (ao (Y.g 0 O) O (isAgg90 _) (sizeOf90 _)) <| fun a Z => aw Z Y call34 O (jk (keyH (10 + po)) x _ (ck _) hxo (Y.keepb hk0)) fun a w23 Z Y => nv Z <| xK O <| xJ (aq O O) <| xJ (aq O O) <| fun a Z => aD Z Y (zeroValue90 _) [jv 0, jv 0, jv 0, jv 0, jv 0, jv 0, jv 0, jv 0, .string (⟨#[]⟩)] O fun a w24 Z Y => az 0 Z Y [jv ((forgeW x (10 + po)).signer), jv ((forgeW x (10 + po)).holder), jv ((forgeW x (10 + po)).rf), jv ((forgeW x (10 + po)).rt), jv ((forgeW x (10 + po)).carrier), jv ((forgeW x (10 + po)).serial), jv ((forgeW x (10 + po)).sf), jv ((forgeW x (10 + po)).st), sv ((forgeW x (10 + po)).sig)] O (sizeOf90 _) fun a w25 Z Y => wla Z O fun a Z => G17 ?_
 refine aa fun _ G18 => wlv (Z.p13 4 5 6 7 16 17 18 19 20 21 23 24 25 O) (ao (Y.g 0 O) O (isAgg90 _) (sizeOf90 _)) fun a Z => aw Z Y call35 O (jW (x := (forgeW x (10 + po))) (ps := []) (ek _ _) hen) fun a w26 Z Y => nv Z <| xK O <| xJ (aq O O) <| xJ (aq O O) <| xL O <| xL O <| fun a Z => G18 ?_
 replace Z := Z.p14 4 5 6 7 16 17 18 19 20 21 23 25 26 27 O
 replace Y := Y.k3 14 O
 obtain ⟨el, hel0⟩ : ∃ el, dl.set iq ⟨y.n, y.t, s⟩ = el := ⟨_, rfl⟩
 have hell : el.length = dl.length := by rw [← hel0, zk]
 have hely : el.getD iq Cas.z = ⟨y.n, y.t, s⟩ := by rw [← hel0, xR, List.getElem?_set_self om]; rfl
 have hdE : docOk dc el = true := by rw [← hel0, ← hy]; exact vE hD.1 hsl
 obtain ⟨hd, hhd⟩ : ∃ h, hdOf sha kk dc (entC el) el.length = h := ⟨_, rfl⟩
 have hreg := jK hdE
 have hel := dT el
 refine aa fun _ G19 => nv Z <| xJ (ac (v := pw2 w4.hz 1) O kr) <| xJ (ld Y 1 O O (isAgg30 _) O) <| xK O <| xK O <| xJ ((aj (i := (iq : Int)) (sT := 30) (Y.ow 2 O) O O (runUnderlying30 _) (sizeOf55 _) om zY).as (v' := slAddr dv (iq * 3)) Ap) <| xJ (bI (k := iq * 3) (j := 2) (Y.ow 2 O) (i := iq) zY O (fun _ _ => by kernel_rfl)) <| fun a Z => ex (u := sv s) (k := iq) (j := 2) (els' := ((el).map Cas.cells)) 2 Z Y O O O zY om (sizeOf9 _) (by simp [Value.oneCell', sv, Value.cells]) (lb O) ((wX (e := ⟨y.n, y.t, s⟩) _ (by rw [hy])).trans (by rw [hel0])) O fun a w27 Z Y => G19 ?_
 replace Z := Z.p13 4 5 6 7 16 17 18 19 20 21 23 25 27 O
 refine ah fun _ G20 => aL (aN fun w28 hxz => ?_)
 replace Y := Y.grow hxz
 refine aU (k := 0) 27 [25, 26] Z ?_
 replace Z := Z.p13 4 5 6 7 16 17 18 19 20 21 23 25 27 O
 refine bO [26] (fun i => match i with | 26 => pm (fun b : Nat => pq b) (fun b => [blk b [jv 0, jv 0, jv 0, jv 0, jv 0] 36]) (fun _ => True) | _ => fun _ _ => False) 27 [[], [0], [], [1, 2], [3], [4], [], [6], [], [8], [], [10], [], [11, 12], [13], [14], [], [16], [], [17, 18], [19], [20], [], [22], [21, 23], [5, 7, 9, 15, 24], []] [pw2 w4.hz 1, dv, jv (iq : Int), slAddr dv (iq * 3), slAddr dv (iq * 3 + 0), jv y.n, pw2 w18.hz 1, jv x.holder, pq w4.hz, jv dc, pw2 w4.hz 1, dv, jv (iq : Int), slAddr dv (iq * 3), slAddr dv (iq * 3 + 1), jv y.t, pw2 w4.hz 1, dv, jv (iq : Int), slAddr dv (iq * 3), slAddr dv (iq * 3 + 1), jv y.t, jv asked, jv pa, jv (y.t + pa), .agg #[jv y.n, jv x.holder, jv dc, jv y.t, jv (y.t + pa)], undef] Z Y ?_ ?_ ?_
 ·exact zV <| hqv (ac (v := pw2 w4.hz 1) rfl kr) <| hqw (fun Y => ld Y 1 rfl rfl (isAgg30 _) rfl) <| hqv (ay rfl) <| hqw (fun Y => (aj (i := (iq : Int)) (sT := 30) (Y.ow 2 rfl) rfl rfl (runUnderlying30 _) (sizeOf55 _) om zY).as (v' := slAddr dv (iq * 3)) Ap) <| hqw (fun Y => bI (k := iq * 3) (j := 0) (Y.ow 2 rfl) (i := iq) zY rfl (fun _ _ => by kernel_rfl)) <| hqw (fun Y => aB (u := jv y.n) (i := iq) (j := 0) (Y.ow 2 rfl) zY rfl (isAgg3 _) (by rw [bn Cas.z, hely]; rfl)) <| hqv (ac (v := pw2 w18.hz 1) rfl kr) <| hqw (fun Y => ld Y 0 rfl rfl (isAgg3 _) rfl) <| hqv (ac (v := pq w4.hz) rfl kr) <| hqw (fun Y => ld Y 1 rfl rfl (isAgg3 _) rfl) <| hqv (ac (v := pw2 w4.hz 1) rfl kr) <| hqw (fun Y => ld Y 1 rfl rfl (isAgg30 _) rfl) <| hqv (ay rfl) <|
   hqw (fun Y => (aj (i := (iq : Int)) (sT := 30) (Y.ow 2 rfl) rfl rfl (runUnderlying30 _) (sizeOf55 _) om zY).as (v' := slAddr dv (iq * 3)) Ap) <| hqw (fun Y => bI (k := iq * 3) (j := 1) (Y.ow 2 rfl) (i := iq) zY rfl (fun _ _ => by kernel_rfl)) <| hqw (fun Y => aB (u := jv y.t) (i := iq) (j := 1) (Y.ow 2 rfl) zY rfl (isAgg3 _) (by rw [bn Cas.z, hely]; rfl)) <| hqv (ac (v := pw2 w4.hz 1) rfl kr) <| hqw (fun Y => ld Y 1 rfl rfl (isAgg30 _) rfl) <| hqv (ay rfl) <| hqw (fun Y => (aj (i := (iq : Int)) (sT := 30) (Y.ow 2 rfl) rfl rfl (runUnderlying30 _) (sizeOf55 _) om zY).as (v' := slAddr dv (iq * 3)) Ap) <| hqw (fun Y => bI (k := iq * 3) (j := 1) (Y.ow 2 rfl) (i := iq) zY rfl (fun _ _ => by kernel_rfl)) <|
   hqw (fun Y => aB (u := jv y.t) (i := iq) (j := 1) (Y.ow 2 rfl) zY rfl (isAgg3 _) (by rw [bn Cas.z, hely]; rfl)) <| hqv (ay rfl) <| zT (fun _ _ _ => bF call16 rfl (eB hpa (dz asked 100 _ ⟨om, om⟩ ⟨om, om⟩))) <| hqv (aP rfl rfl ⟨om, om⟩) <| hqv (aX (v := .agg #[jv y.n, jv x.holder, jv dc, jv y.t, jv (y.t + pa)]) rfl kr) <| zT (fun h => absurd sm h) <| zU
 ·intro i hi
  simp only [xX, yc, yz] at hi
  subst hi
  ·intro w Y
   exact jJ (zeroValue36 _) (cs := [jv 0, jv 0, jv 0, jv 0, jv 0]) O
 clear Z Y
 rintro _ _ ⟨b5, rfl, -, rfl⟩ a w29 Z Y
 replace Z := Z.p13 136 28 5 6 7 16 17 18 19 21 23 25 27 O
 replace Y := Y.n4 O
 refine ab <| aM (k := 27) 28 [27] ?_
 refine az 0 Z Y [jv y.n, jv x.holder, jv dc, jv y.t, jv (y.t + pa)] O (sizeOf36 _) fun a w30 Z Y => ab <| aT <| G20 ?_
 refine aa fun _ G21 => wlm (Z.p12 5 6 7 16 17 18 19 21 23 25 27 28 O) O fun a Z => aw Z Y call16 O (eB hpl (dz limit 60 _ ⟨om, om⟩ ⟨om, om⟩)) fun a w31 Z Y => nv Z <| xJ (aP O O ⟨om, om⟩) <| xL O <| fun a Z => G21 <| aa fun _ G22 => ?_
 refine wla Z O fun a Z => G22 <| ah fun _ G23 => ?_
 refine aa fun _ G24 => wla Z O fun a Z => G24 <| mN (fun a w => ∃ (v : Value), ∃ (R : List Rpw), (R.length ≤ 5) ∧ (∀ r ∈ R, ∀ x ∈ r.L, x.m.pf.length ≤ 1000) ∧ (∀ r ∈ R, PartR el hd r) ∧ Fr 239 [(7, jv t), (17, .bool true), (19, sv kk), (21, pq w18.hz), (23, sv (keyH (10 + po))), (25, jv 0), (27, jv 0), (28, pq b5), (29, jv (1 + pl)), (30, v)] [] a ∧ St No w0 [own v 52 6 ((R).map Rpw.cells), repsE R, blk w4.hz [jv dc, dv] 32, blk w18.hz [jv x.signer, jv x.holder, jv x.rf, jv x.rt, jv x.carrier, jv x.serial, jv x.sf, jv x.st, sv x.sig] 90, blk b5 [jv y.n, jv x.holder, jv dc, jv y.t, jv (y.t + pa)] 36, own dv 55 3 ((el).map Cas.cells)] w) ?_ ?_
 ·refine ar ?_
  replace Y : St No w0 [own (.slice none 0 0) 52 6 (([] : List Rpw).map Rpw.cells), blk b5 [jv y.n, jv x.holder, jv dc, jv y.t, jv (y.t + pa)] 36, blk w18.hz [jv x.signer, jv x.holder, jv x.rf, jv x.rt, jv x.carrier, jv x.serial, jv x.sf, jv x.st, sv x.sig] 90, blk w4.hz [jv dc, dv] 32, own dv 55 3 ((el).map Cas.cells)] w31 := Y.nil_own
  replace Y : St No w0 [repsE ([] : List Rpw), own (.slice none 0 0) 52 6 (([] : List Rpw).map Rpw.cells), blk b5 [jv y.n, jv x.holder, jv dc, jv y.t, jv (y.t + pa)] 36, blk w18.hz [jv x.signer, jv x.holder, jv x.rf, jv x.rt, jv x.carrier, jv x.serial, jv x.sf, jv x.st, sv x.sig] 90, blk w4.hz [jv dc, dv] 32, own dv 55 3 ((el).map Cas.cells)] w31 := uj Y
  refine aW (fun m a w => ∃ (k : Nat) (v : Value) (R : List Rpw), m = 5 - k ∧ (k ≤ 5) ∧ (R.length = k) ∧ (∀ r ∈ R, ∀ x ∈ r.L, x.m.pf.length ≤ 1000) ∧ (∀ r ∈ R, PartR el hd r) ∧ Fr 239 [(6, xv), (7, jv t), (17, .bool true), (18, pq w4.hz), (19, sv kk), (21, pq w18.hz), (23, sv (keyH (10 + po))), (25, jv 0), (27, jv 0), (28, pq b5), (29, jv (1 + pl)), (30, v), (31, jv (k : Int))] [] a ∧ St No w0 [own v 52 6 ((R).map Rpw.cells), repsE R, blk w4.hz [jv dc, dv] 32, blk w18.hz [jv x.signer, jv x.holder, jv x.rf, jv x.rt, jv x.carrier, jv x.serial, jv x.sf, jv x.st, sv x.sig] 90, blk b5 [jv y.n, jv x.holder, jv dc, jv y.t, jv (y.t + pa)] 36, own dv 55 3 ((el).map Cas.cells)] w) _ ⟨0, .slice none 0 0, [], O, de, O, sm, sm, Z.pick [6, 7, 17, 18, 19, 21, 23, 25, 27, 28, 29, 30, 31], Y.select [1, 0, 4, 3, 2, 5] de⟩ ?_
  rintro _ a w32 ⟨k, v, R, rfl, hk, hRk, hRp, hRq, Z, Y⟩
  refine ah fun _ G25 => aa fun _ G26 => nv Z <| xK O <| xK O <| xJ ((aI (sT := 22) (Y.arg hxv) O O (runUnderlying22 _)).asi (m' := (xs.length : Int)) Ai) <| xJ (v_lt O O) <| xK O <| fun a Z => ?_
  rcases Decidable.em ((k : Int) < (xs.length : Int)) with hb6 | hb6
  ·rw [xS hb6] at Z
   have hkx : k < xs.length := by omega
   obtain ⟨yy, hyy⟩ : ∃ z, xs.getD k Pr2.z = z := ⟨_, rfl⟩
   have hyw := hxs _ (bc (d := Pr2.z) hkx)
   rw [hyy] at hyw
   obtain ⟨hya, hyb2⟩ := hyw
   have g1 := hya
   have g2 := hyb2
   unfold i64 at g1 g2
   have p1 := aV yy.a (n := 70) de
   refine nv Z <| xM (ay O) <| xM (v_lt O O) <| xJ (ax O O) <| fun a Z => G26 ?_
   replace Z := Z.p14 6 7 17 18 19 21 23 25 27 28 29 30 31 147 O
   refine aA Z O (fun hc7 => ?_) (fun hc7 => ?_)
   ·refine au <| G25 <| ah fun _ G27 => ar <| ah fun _ G28 => aL (aN fun w33 hxz => ?_)
    replace Y := Y.grow hxz
    refine aU (k := 0) 21 [18, 20] Z ?_
    replace Z := Z.p13 6 7 17 18 19 21 23 25 27 28 29 30 31 O
    refine eM 19 20 17 [(16, 15, fun u => u), (17, 16, fun u => tupAt u 0)] 50 [jv 0, jv 0, .string (⟨#[]⟩), .string (⟨#[]⟩), .slice none 0 0] (fun u => u.cells.toList) 21 [[], [], [1], [], [3], [4], [], [], [6, 7], [8], [9], [], [11], [12], [10, 13], [0, 2, 5, 14], [15], [16], [16], [], [17, 19]] (fun i => match i with | 0 => pv (sv kk) | 1 => pv (.agg #[jv dc, dv]) | 2 => pm (fun v : Value => .agg #[jv dc, v]) (fun v => [own v 9 1 ((entC el).map fun s => [sv s])]) (fun _ => True) | 3 => pv (pw2 w4.hz 1) | 4 => pv (dv) | 5 => pv (jv (el.length : Int)) | 6 => pv (xv) | 7 => pv (jv (k : Int)) | 8 => pv (slAddr xv (k * 2)) | 9 => pv (slAddr xv (k * 2 + 1)) | 10 => pv (jv yy.b) | 11 => pv (pw2 w4.hz 1) | 12 => pv (dv) | 13 => pv (jv (el.length : Int)) | 14 => pm (fun x : Value × List Int => x.1) (fun x => [own x.1 3 1 (x.2.map fun z : Int => [jv z])]) (fun x => ascI (el.length : Int) (-1) x.2 = true ∧ x.2.length ≤ el.length) | 15 => pm (fun x : Value × List Itw => .tuple #[.agg #[jv hd.c, jv hd.n, sv hd.root, sv hd.tag, x.1], jv 0]) (fun x => [itsE x.1 x.2]) (fun x => ∃ ix : List Int, ascI (el.length : Int) (-1) ix = true ∧ ix.length ≤ el.length ∧ itsM x.2 = showIs sha (entC el) el.length ix) | 16 => fun v E => (∃ sa0 sn0 sc0, v = .tuple #[.agg #[jv hd.c, jv hd.n, sv hd.root, sv hd.tag, (.slice sa0 sn0 sc0)], jv 0]) ∧ E = [] | 17 => fun v E => (∃ sa0 sn0 sc0, v = .agg #[jv hd.c, jv hd.n, sv hd.root, sv hd.tag, (.slice sa0 sn0 sc0)]) ∧ E = [] | 18 => pv (jv 0) | 19 => fun v E => ∃ b, v = ptr b ∧ E = [] | 20 => fun v E => v = undef ∧ E = [] | _ => fun _ _ => False) Z (H := [own v 52 6 ((R).map Rpw.cells), repsE R, blk w4.hz [jv dc, dv] 32, blk w18.hz [jv x.signer, jv x.holder, jv x.rf, jv x.rt, jv x.carrier, jv x.serial, jv x.sf, jv x.st, sv x.sig] 90, blk b5 [jv y.n, jv x.holder, jv dc, jv y.t, jv (y.t + pa)] 36, own dv 55 3 ((el).map Cas.cells)]) Y kr kr kr kr de de de de de de de kr AV ?_ (fun _ _ h => h) ⟨O, O⟩ (fun _ _ => Iff.rfl) ?_ ?_ ?_ ?_ ?_
    ·intro i v E h
     match i, h with
     | 0, _ => exact by decide
     | 1, _ => exact by decide
     | 2, _ => exact by decide
     | 3, _ => exact by decide
     | 4, _ => exact by decide
     | 5, _ => exact by decide
     | 6, _ => exact by decide
     | 7, _ => exact by decide
     | 8, _ => exact by decide
     | 9, _ => exact by decide
     | 10, _ => exact by decide
     | 11, _ => exact by decide
     | 12, _ => exact by decide
     | 13, _ => exact by decide
     | 14, _ => exact by decide
     | 15, _ => exact by decide
     | 16, _ => exact by decide
     | 17, _ => exact by decide
     | 18, _ => exact by decide
     | 19, _ => exact by decide
     | 20, _ => exact by decide
     | i + 21, h => exact h.elim
    ·intro i hi hia hij hil e
     match i, hi, hia, hij, hil with
     | 0, _, _, _, _ =>
      intro hl9 w Y
      exact OpV.g (ay O)
     | 1, _, _, _, _ =>
      intro hl9 w Y
      exact OpV.g (ao (Y.g 3 O) O (isAgg32 _) (sizeOf32 _))
     | 2, _, _, _, _ =>
      rintro _ _ ⟨rfl, rfl⟩
      intro hl9 w Y
      exact fb call27 O (wG dc dv el _ (Y.ow 6 O) om)
     | 3, _, _, _, _ =>
      intro hl9 w Y
      exact OpV.g (ac (v := pw2 w4.hz 1) O kr)
     | 4, _, _, _, _ =>
      rintro _ _ ⟨rfl, rfl⟩
      intro hl9 w Y
      exact OpV.g (ld Y 3 O O (isAgg30 _) O)
     | 5, _, _, _, _ =>
      rintro _ _ ⟨rfl, rfl⟩
      intro hl9 w Y
      exact OpV.g ((aI (sT := 30) (Y.ow 6 O) O O (runUnderlying30 _)).asi (m' := (el.length : Int)) Ai)
     | 6, _, _, _, _ =>
      intro hl9 w Y
      exact OpV.g (ay O)
     | 7, _, _, _, _ =>
      intro hl9 w Y
      exact OpV.g (ay O)
     | 8, _, _, _, _ =>
      rintro _ _ ⟨rfl, rfl⟩ _ _ ⟨rfl, rfl⟩
      intro hl9 w Y
      exact OpV.g ((aj (i := (k : Int)) (sT := 22) (Y.arg hxv) O O (runUnderlying22 _) (sizeOf63 _) om zY).as (v' := slAddr xv (k * 2)) O)
     | 9, _, _, _, _ =>
      rintro _ _ ⟨rfl, rfl⟩
      intro hl9 w Y
      exact OpV.g (cT (k := k * 2) (j := 1) (Y.arg hxv) (i := k) zY O O (fun _ _ => by kernel_rfl))
     | 10, _, _, _, _ =>
      rintro _ _ ⟨rfl, rfl⟩
      intro hl9 w Y
      exact OpV.g (aB (u := jv yy.b) (i := k) (j := 1) (Y.arg hxv) zY O (isAgg3 _) (by rw [bn Pr2.z, hyy]; rfl))
     | 11, _, _, _, _ =>
      intro hl9 w Y
      exact OpV.g (ac (v := pw2 w4.hz 1) O kr)
     | 12, _, _, _, _ =>
      rintro _ _ ⟨rfl, rfl⟩
      intro hl9 w Y
      exact OpV.g (ld Y 3 O O (isAgg30 _) O)
     | 13, _, _, _, _ =>
      rintro _ _ ⟨rfl, rfl⟩
      intro hl9 w Y
      exact OpV.g ((aI (sT := 30) (Y.ow 6 O) O O (runUnderlying30 _)).asi (m' := (el.length : Int)) Ai)
     | 14, _, _, _, _ =>
      rintro _ _ ⟨rfl, rfl⟩ _ _ ⟨rfl, rfl⟩
      intro hl9 w Y
      exact fb call28 O (uX yy.b el.length _ hyb2 om)
     | 15, _, _, _, _ =>
      rintro _ _ ⟨rfl, rfl⟩ _ _ ⟨ev9, rfl, -, rfl⟩ _ _ ⟨rfl, rfl⟩ xv10 _ ⟨⟨_, lxv10⟩, rfl, ⟨haxv10, hlxv10⟩, rfl⟩
      intro hl9 w Y
      exact fb call26 O ((iU kk el.length hd xv10 lxv10 dc ev9 (entC el) _ (Y.ow 0 O) (Y.ow 1 O) hk32 hreg om haxv10 (yL (show lxv10.length ≤ _ from hlxv10) om) hhd (Y.keepb hk0)).mono fun v w h => rZ h (fun x hx => ⟨lxv10, haxv10, hlxv10, hx⟩))
     | 16, _, _, _, h => exact absurd de h
     | 17, _, _, _, h => exact absurd de h
     | 18, _, _, _, _ =>
      rintro _ _ ⟨⟨sa0, sn0, sc0, rfl⟩, rfl⟩
      intro hl9 w Y
      exact OpV.g (aq O O)
     | 19, _, h, _, _ => exact absurd O h
     | 20, _, _, h, _ => exact absurd O h
     | i + 21, h, _, _, _ => exact absurd h om
    ·intro x hx e
     simp only [xX, yc, yz] at hx
     rcases hx with rfl | rfl
     ·rintro _ _ ⟨⟨iv11, Liv11⟩, rfl, ⟨ixiv11, hixiv11, hiliv11, hLiv11⟩, rfl⟩
      intro w Y
      obtain ⟨sa0, sn0, sc0, rfl⟩ := cX (bB (k := 0) Y rfl).1
      exact OpV.hopv (OpV.g (ay O)) ⟨⟨_, _, _, O⟩, O⟩
     ·rintro _ _ ⟨⟨sa0, sn0, sc0, rfl⟩, rfl⟩
      intro w Y
      exact OpV.hopv (OpV.g (aq O O)) ⟨⟨_, _, _, O⟩, O⟩
    ·exact fun Lv w => eC (zeroValue50 _)
    ·rintro _ _ ⟨⟨sa0, sn0, sc0, rfl⟩, rfl⟩ _ _ ⟨b8, rfl, rfl⟩
     intro b hb u hu w h
     have hb : some (ptr b8) = some (ptr b) := hb
     cases hb
     have hu : some (.agg #[jv hd.c, jv hd.n, sv hd.root, sv hd.tag, (.slice sa0 sn0 sc0)]) = some u := hu
     cases hu
     exact dI O O h (sizeOf50 _) O (lb O) O
    clear Z Y
    rintro V bq hva hlk _ _ ⟨⟨rfl, rfl⟩, -⟩ _ _ ⟨⟨rfl, rfl⟩, -⟩ _ _ ⟨⟨ev9, rfl, -, rfl⟩, -⟩ _ _ ⟨⟨rfl, rfl⟩, -⟩ _ _ ⟨⟨rfl, rfl⟩, -⟩ _ _ ⟨⟨rfl, rfl⟩, -⟩ _ _ ⟨⟨rfl, rfl⟩, -⟩ _ _ ⟨⟨rfl, rfl⟩, -⟩ _ _ ⟨⟨rfl, rfl⟩, -⟩ _ _ ⟨⟨rfl, rfl⟩, -⟩ _ _ ⟨⟨rfl, rfl⟩, -⟩ _ _ ⟨⟨rfl, rfl⟩, -⟩ _ _ ⟨⟨rfl, rfl⟩, -⟩ _ _ ⟨⟨rfl, rfl⟩, -⟩ xv10 _ ⟨⟨⟨_, lxv10⟩, rfl, ⟨haxv10, hlxv10⟩, rfl⟩, -⟩ _ _ ⟨⟨⟨iv11, Liv11⟩, rfl, ⟨ixiv11, hixiv11, hiliv11, hLiv11⟩, rfl⟩, hv15_⟩ v16_ _ ⟨⟨-, rfl⟩, hv16_⟩ v17_ _ ⟨⟨-, rfl⟩, hv17_⟩ _ _ ⟨⟨rfl, rfl⟩, -⟩ _ _ ⟨⟨b8, rfl, rfl⟩, hva9⟩ a w34 Z Y
    obtain rfl : b8 = bq := fN (hva9.trans hva)
    obtain rfl : v16_ = .tuple #[.agg #[jv hd.c, jv hd.n, sv hd.root, sv hd.tag, iv11], jv 0] := hv16_.trans ((hlk 0 _ rfl).trans (yr (fun u => u) hv15_.symm))
    obtain rfl : v17_ = .agg #[jv hd.c, jv hd.n, sv hd.root, sv hd.tag, iv11] := hv17_.trans ((hlk 1 _ rfl).trans (yr (fun u => tupAt u 0) hv16_.symm))
    rw [← hv17_] at Y
    replace Z : Fr 239 [(151, _), (152, _), (153, _), (154, _), (155, _), (156, _), (157, _), (158, _), (159, _), (160, _), (161, _), (162, _), (163, _), (164, _), (165, _), (166, _), (150, _), (167, _), (168, _), (32, _), (6, _), (7, _), (17, _), (18, _), (19, _), (21, _), (23, _), (25, _), (27, _), (28, _), (29, _), (30, _), (31, _)] [] a := Z
    try dsimp only at Y
    replace Y := Y.n10 O
    clear hva9 hva hlk hv17_ hv16_ hv15_
    refine ab <| aM (k := 21) 22 [21] ?_
    refine wla Z O fun a Z => ab <| aT <| G28 ?_
    replace Y := Y.k8 1020 O
    refine ah fun _ G29 => aa fun _ G30 => nv (Z.p15 6 7 17 18 19 21 23 25 27 28 29 30 31 32 33 O) <| xK O <| xJ ((v_ne O O).asb (b' := false) O) <| fun a Z => G30 <| aG Z O ?_
    refine au <| G29 <| aL (aN fun w35 hxz => ?_)
    replace Y := Y.grow hxz
    refine aU (k := 0) 13 [0, 12] Z ?_
    replace Z : Fr 239 [(6, _), (7, _), (17, _), (18, _), (19, _), (21, _), (23, _), (25, _), (27, _), (28, _), (29, _), (30, _), (31, _), (32, _), (33, _), (169, _), (170, _)] [] a := Z.pick [6, 7, 17, 18, 19, 21, 23, 25, 27, 28, 29, 30, 31, 32, 33, 169, 170]
    refine bO [12] (fun i => match i with | 12 => pm (fun b : Nat => .slice (some ⟨b, 0, none⟩) 1 1) (fun b => [own (.slice (some ⟨b, 0, none⟩) 1 1) 52 6 [[jv ((y.t + pa) + (pickI yy.a 70)), jv hd.c, jv hd.n, sv hd.root, sv hd.tag, iv11]]]) (fun _ => True) | _ => fun _ _ => False) 13 [[], [], [1], [], [], [3, 4], [5], [6], [7], [2, 8], [], [9, 10], [11]] [v, pw2 b5 4, jv (y.t + pa), xv, jv (k : Int), slAddr xv (k * 2), slAddr xv (k * 2 + 0), jv yy.a, jv (pickI yy.a 70), jv ((y.t + pa) + (pickI yy.a 70)), .agg #[jv hd.c, jv hd.n, sv hd.root, sv hd.tag, iv11], .agg #[jv ((y.t + pa) + (pickI yy.a 70)), jv hd.c, jv hd.n, sv hd.root, sv hd.tag, iv11], undef] Z Y ?_ ?_ ?_
    ·exact zV <| hqv (ay rfl) <| hqv (ac (v := pw2 b5 4) rfl kr) <| hqw (fun Y => ld Y 6 rfl rfl (isAgg3 _) rfl) <| hqv (ay rfl) <| hqv (ay rfl) <| hqw (fun Y => (aj (i := (k : Int)) (sT := 22) (Y.arg hxv) rfl rfl (runUnderlying22 _) (sizeOf63 _) om zY).as (v' := slAddr xv (k * 2)) rfl) <| hqw (fun Y => cT (k := k * 2) (j := 0) (Y.arg hxv) (i := k) zY rfl rfl (fun _ _ => by kernel_rfl)) <| hqw (fun Y => aB (u := jv yy.a) (i := k) (j := 0) (Y.arg hxv) zY rfl (isAgg3 _) (by rw [bn Pr2.z, hyy]; rfl)) <| zT (fun _ _ _ => bF call16 rfl (dz yy.a 70 _ ⟨om, om⟩ ⟨om, om⟩)) <| hqv (aP rfl rfl ⟨om, om⟩) <| hqw (fun Y => ao (Y.g 1 rfl) rfl (isAgg50 _) (sizeOf50 _)) <|
      hqw (fun Y => aX (v := .agg #[jv ((y.t + pa) + (pickI yy.a 70)), jv hd.c, jv hd.n, sv hd.root, sv hd.tag, iv11]) rfl (by obtain ⟨_, _, _, eb0_⟩ := cX (bB (k := 0) Y rfl).1; rw [eb0_]; kernel_rfl)) <| zT (fun h => absurd sm h) <| zU
    ·intro i hi
     simp only [xX, yc, yz] at hi
     subst hi
     ·intro w Y
      exact bR (E := 52) (sz := 6) O [[jv ((y.t + pa) + (pickI yy.a 70)), jv hd.c, jv hd.n, sv hd.root, sv hd.tag, iv11]] (fun _ => by obtain ⟨_, _, _, e0_⟩ := cX (bB (k := 0) Y O).1; rw [e0_]; kernel_rfl) sm O de
    clear Z Y
    rintro _ _ ⟨b12, rfl, -, rfl⟩ a w36 Z Y
    replace Z := Z.p14 171 183 6 7 17 18 19 21 23 25 27 28 29 31 O
    replace Y := Y.n9 O
    refine ab <| aM (k := 13) 15 [14] ?_
    refine aY (i := 3) (sT := 38) (inf := Tryz.t52) (z := .agg #[jv 0, jv 0, jv 0, .string (⟨#[]⟩), .string (⟨#[]⟩), .slice none 0 0]) (b := 0) (off := 0) (m := 0) (c := 0) O O O (Y.ow 0 O) sm underlying38 O O O O de (by exact wH (r := (⟨_, hd, _, _⟩ : Rpw)) (bB (k := 1) Y O).1) Bo Bo de Z Y fun a w37 s13 Z Y _ => ?_
    replace Y : St No w0 [own (.slice (some ⟨b12, 0, none⟩) 1 1) 52 6 ([[jv ((y.t + pa) + (pickI yy.a 70)), jv hd.c, jv hd.n, sv hd.root, sv hd.tag, iv11]]), itsE iv11 Liv11, blk b8 [jv hd.c, jv hd.n, sv hd.root, sv hd.tag, iv11] 50, own s13 52 6 (((R ++ [(⟨((y.t + pa) + (pickI yy.a 70)), hd, iv11, Liv11⟩ : Rpw)])).map Rpw.cells), repsE R, blk w4.hz [jv dc, dv] 32, blk w18.hz [jv x.signer, jv x.holder, jv x.rf, jv x.rt, jv x.carrier, jv x.serial, jv x.sf, jv x.st, sv x.sig] 90, blk b5 [jv y.n, jv x.holder, jv dc, jv y.t, jv (y.t + pa)] 36, own dv 55 3 ((el).map Cas.cells)] w37 := by rw [show (((R ++ [(⟨((y.t + pa) + (pickI yy.a 70)), hd, iv11, Liv11⟩ : Rpw)])).map Rpw.cells) = ((R).map Rpw.cells) ++ ([[jv ((y.t + pa) + (pickI yy.a 70)), jv hd.c, jv hd.n, sv hd.root, sv hd.tag, iv11]]) from by rw [yU]; rfl]; exact Y
    refine wla Z O fun a Z => ab <| aT <| G27 ?_
    replace Y := Y.k7 506 O
    refine ai <| nv (Z.p13 6 7 17 18 19 21 23 25 27 28 29 31 30 O) <| xK O <| xJ (aP O O ⟨om, om⟩) <| xL O <| fun a Z => ab ?_
    have hpx : ∀ x ∈ Liv11, x.m.pf.length ≤ 1000 := db om hLiv11
    replace Y := Y.s7 [0, 2, 1, 3, 4, 5, 6] de rfl
    replace Y : St No w0 [repsE (R ++ [(⟨((y.t + pa) + (pickI yy.a 70)), hd, iv11, Liv11⟩ : Rpw)]), own s13 52 6 (((R ++ [(⟨((y.t + pa) + (pickI yy.a 70)), hd, iv11, Liv11⟩ : Rpw)])).map Rpw.cells), blk w4.hz [jv dc, dv] 32, blk w18.hz [jv x.signer, jv x.holder, jv x.rf, jv x.rt, jv x.carrier, jv x.serial, jv x.sf, jv x.st, sv x.sig] 90, blk b5 [jv y.n, jv x.holder, jv dc, jv y.t, jv (y.t + pa)] 36, own dv 55 3 ((el).map Cas.cells)] w37 := re (⟨((y.t + pa) + (pickI yy.a 70)), hd, iv11, Liv11⟩ : Rpw) Y
    refine ⟨_, ?_, k + 1, s13, (R ++ [(⟨((y.t + pa) + (pickI yy.a 70)), hd, iv11, Liv11⟩ : Rpw)]), O, om, (by rw [xQ, hRk]; rfl), uy hRp hpx, pL hRq ⟨O, _, hixiv11, hLiv11⟩, Z.pick [6, 7, 17, 18, 19, 21, 23, 25, 27, 28, 29, 30, 31], Y.select [1, 0, 2, 3, 4, 5] de⟩
    omega
   refine aO ?_
   exact ⟨v, R, om, hRp, hRq, Z.pick [7, 17, 19, 21, 23, 25, 27, 28, 29, 30], Y.select [0, 1, 2, 3, 4, 5] de⟩
  rw [xW hb6] at Z
  refine nv Z <| xN <| xN <| xJ (ak O O) <| fun a Z => G26 ?_
  replace Z := Z.p14 6 7 17 18 19 21 23 25 27 28 29 30 31 147 O
  refine aG Z O ?_
  refine aO ?_
  exact ⟨v, R, om, hRp, hRq, Z.pick [7, 17, 19, 21, 23, 25, 27, 28, 29, 30], Y.select [0, 1, 2, 3, 4, 5] de⟩
 rintro a w38 ⟨v, R, hRk, hRp, hRq, Z, Y⟩
 refine G23 <| ah fun _ G31 => ?_
 obtain ⟨s1, u1, hs1⟩ : ∃ a b, stateH sha keysH kk (1 + pl) (⟨y.n, x.holder, dc, y.t, y.t + pa⟩ : Chg) (repsM R) (((y.t + pa) + (1 + pl)) + pt) = (a, b) := ⟨_, _, rfl⟩
 refine aL (aN fun w39 hxz => ?_)
 replace Y := Y.grow hxz
 refine aU (k := 0) 12 [1, 2, 3, 4, 11] Z ?_
 replace Z := Z.p10 7 17 19 21 23 25 27 28 29 30 O
 refine bO [0] (fun i => match i with | 0 => pm (fun v : Value => v) (fun v => [own v 9 1 (keysH.map fun s => [sv s])]) (fun _ => True) | _ => fun _ _ => False) 12 [[], [], [], [], [], [], [5], [], [6, 7], [], [9], [8, 10]] [undef, sv kk, jv (1 + pl), .agg #[jv y.n, jv x.holder, jv dc, jv y.t, jv (y.t + pa)], v, pw2 b5 4, jv (y.t + pa), jv (1 + pl), jv ((y.t + pa) + (1 + pl)), jv t, jv pt, jv (((y.t + pa) + (1 + pl)) + pt)] Z Y ?_ ?_ ?_
 ·exact zV <| zT (fun h => absurd sm h) <| hqv (ay rfl) <| hqv (ay rfl) <| hqw (fun Y => ao (Y.g 4 rfl) rfl (isAgg36 _) (sizeOf36 _)) <| hqv (ay rfl) <| hqv (ac (v := pw2 b5 4) rfl kr) <| hqw (fun Y => ld Y 4 rfl rfl (isAgg3 _) rfl) <| hqv (ay rfl) <| hqv (aP rfl rfl ⟨om, om⟩) <| hqv (ay rfl) <| zT (fun _ _ _ => bF call16 rfl (eB hpt (dz t 100 _ ⟨om, om⟩ ⟨om, om⟩))) <| hqv (aP rfl rfl ⟨om, om⟩) <| zU
 ·intro i hi
  simp only [xX, yc, yz] at hi
  subst hi
  ·intro w Y
   exact fb call18 O (qE _)
 clear Z Y
 rintro kv14 _ ⟨_, rfl, -, rfl⟩ a w40 Z Y
 replace Z := Z.p13 186 187 188 189 190 197 17 21 23 25 27 28 29 O
 replace Y := Y.n7 O
 refine ab <| aM (k := 12) 14 [13] ?_
 refine aw Z Y call17 O (gt (by rw [hs1]) (lX kv14 v keysH kk (1 + pl) (⟨y.n, x.holder, dc, y.t, y.t + pa⟩ : Chg) R (((y.t + pa) + (1 + pl)) + pt) _ (Y.ow 0 O) (xh (Y.ow 1 O) (Y.g 2 O)) hRp (so_of (q := (⟨y.n, x.holder, dc, y.t, y.t + pa⟩ : Chg)) hk32 ⟨show 0 ≤ y.n ∧ y.n ≤ 99999999 by omega, show 0 ≤ x.holder ∧ x.holder ≤ 63 by omega, show 0 ≤ dc ∧ dc ≤ 7 by omega, show 0 ≤ y.t by omega, show y.t ≤ y.t + pa by omega, show y.t + pa ≤ 10000000 by omega⟩ om om (show y.t + pa ≤ _ ∧ _ ≤ 11000000 by omega)) (Y.keepb hk0))) fun a w41 Z Y => wlm Z O fun a Z => ab <| aU (k := 14) 19 [16, 18] Z ?_
 refine bN 5 (Z.p15 17 21 23 25 27 28 29 186 187 188 189 190 197 198 185 O) Y <| pl_v (aq O O) <| pl_v (aq O O) <| pl_v (aq O O) <| pl_v (cG O) <| pl_v (cG O) fun a w42 Z Y => ?_
 replace Z := Z.p10 17 21 23 25 27 28 29 201 34 35 O
 refine ab <| aM (k := 19) 20 [19] ?_
 refine wla Z O fun a Z => ab <| aT <| G31 <| ah fun _ G32 => aa fun _ G33 => nv Z <| xK O <| xJ ((v_ne O O).asb (b' := false) O) <| xK O <| xM (ay O) <| xM ((v_ne O O).asb (b' := false) O) <| xJ (ak O O) <| xK O <| xM (ay O) <| xM ((v_ne O O).asb (b' := false) O) <| xJ (ak O O) <| fun a Z => G33 ?_
 replace Z := Z.p8 17 21 23 28 29 34 35 211 O
 replace Y := Y.k5 118 O
 refine aG Z O ?_
 refine au <| G32 <| ah fun _ G34 => aa fun _ G35 => nv Z <| xK O <| xJ (v_eq O O) <| xK O <| fun a Z => ?_
 rcases Decidable.em (s1 = 3) with hb15 | hb15
 ·rw [xS hb15] at Z
  refine nv Z <| xM (ay O) <| xM (ac (v := pw2 b5 4) O kr) <| xM (ld Y 3 O O (isAgg3 _) O) <| xM (ay O) <| xM (aP O O ⟨om, om⟩) <| xM (v_le O O) <| xJ (ax O O) <| fun a Z => G35 ?_
  replace Z := Z.p4 17 21 23 221 O
  replace Y := Y.k4 23 O
  refine aA Z O (fun hc16 => ?_) (fun hc16 => ?_)
  ·refine aa fun _ G36 => nv Z <| xK O <| xL O <| fun a Z => G36 <| ap ?_
   refine am Z results8 (ag O ae) ?_
   exact ⟨O, Y.ext⟩
  have hco := iO (q := (⟨y.n, x.holder, dc, y.t, y.t + pa⟩ : Chg)) hdE om hely hen om hRq rfl om (show y.t + pa + (1 + pl) ≤ _ by omega) hs1 (fun hh => by have h9 : s1 = 3 ∧ u1 ≤ y.t + pa + (1 + pl) := hh; omega)
  refine au <| G34 <| aa fun _ G37 => wlv Z (ao (Y.g 2 O) O (isAgg90 _) (sizeOf90 _)) fun a Z => aw Z Y call37 O (eA x _ (Wsh.smalls_of hxo)) fun a w43 Z Y => aw Z Y call36 O (kN x.content _ (yL (eg x) de)) fun a w44 Z Y => wla Z O fun a Z => G37 <| aa fun _ G38 => ?_
  refine nv Z <| xK O <| xJ (cP O O Av) <| xK O <| xJ (cP O O Av) <| fun a Z => aE (E := 9) (sz := 1) O [[sv ((([1]) ++ (keyH (10 + po))) ++ (leafH sha x.content))]] kr sm O de de Z Y fun a w45 Z Y => nv Z <| xJ (ac (v := pq w18.hz) O kr) <| xJ (ld Y 3 O O (isAgg3 _) O) <| fun a Z => aw Z Y call33 O (fG x.signer _) fun a w46 Z Y => ?_
  refine nv Z <| xJ (cP O O Av) <| xK O <| xJ (cP O O Av) <| fun a Z => aE (E := 9) (sz := 1) O [[sv ((([1]) ++ (keyH x.signer)) ++ (leafH sha x.content))]] kr sm O de de Z Y fun a w47 Z Y => aw Z Y call38 O (cw hco (jt (.slice (some ⟨w44.hz, 0, none⟩) 1 1) (.slice (some ⟨w46.hz, 0, none⟩) 1 1) [[1] ++ keyH (10 + po) ++ leafH sha x.content] [[1] ++ keyH x.signer ++ leafH sha x.content] _ (Y.ow 1 O) (Y.ow 0 O) (jS (ck _)) (jS (ck _)) (lb O))) fun a w48 Z Y => wla Z O fun a Z => G38 ?_
  replace Z := Z.p1 16 O
  replace Y := Y.k3 44 O
  refine ap <| am Z results8 (ag O ae) ?_
  exact ⟨O, Y.ext⟩
 rw [xW hb15] at Z
 have hco := iO (q := (⟨y.n, x.holder, dc, y.t, y.t + pa⟩ : Chg)) hdE om hely hen om hRq rfl om (show y.t + pa + (1 + pl) ≤ _ by omega) hs1 (fun hh => by have h9 : s1 = 3 ∧ u1 ≤ y.t + pa + (1 + pl) := hh; omega)
 refine nv Z <| xN <| xN <| xN <| xN <| xN <| xN <| xJ (ak O O) <| fun a Z => G35 ?_
 replace Z := Z.p4 17 21 23 221 O
 replace Y := Y.k4 23 O
 refine aG Z O ?_
 refine au <| G34 <| aa fun _ G39 => wlv Z (ao (Y.g 2 O) O (isAgg90 _) (sizeOf90 _)) fun a Z => aw Z Y call37 O (eA x _ (Wsh.smalls_of hxo)) fun a w49 Z Y => aw Z Y call36 O (kN x.content _ (yL (eg x) de)) fun a w50 Z Y => wla Z O fun a Z => G39 <| aa fun _ G40 => ?_
 refine nv Z <| xK O <| xJ (cP O O Av) <| xK O <| xJ (cP O O Av) <| fun a Z => aE (E := 9) (sz := 1) O [[sv ((([1]) ++ (keyH (10 + po))) ++ (leafH sha x.content))]] kr sm O de de Z Y fun a w51 Z Y => nv Z <| xJ (ac (v := pq w18.hz) O kr) <| xJ (ld Y 3 O O (isAgg3 _) O) <| fun a Z => aw Z Y call33 O (fG x.signer _) fun a w52 Z Y => ?_
 refine nv Z <| xJ (cP O O Av) <| xK O <| xJ (cP O O Av) <| fun a Z => aE (E := 9) (sz := 1) O [[sv ((([1]) ++ (keyH x.signer)) ++ (leafH sha x.content))]] kr sm O de de Z Y fun a w53 Z Y => aw Z Y call38 O (cw hco (jt (.slice (some ⟨w50.hz, 0, none⟩) 1 1) (.slice (some ⟨w52.hz, 0, none⟩) 1 1) [[1] ++ keyH (10 + po) ++ leafH sha x.content] [[1] ++ keyH x.signer ++ leafH sha x.content] _ (Y.ow 1 O) (Y.ow 0 O) (jS (ck _)) (jS (ck _)) (lb O))) fun a w54 Z Y => wla Z O fun a Z => G40 ?_
 replace Z := Z.p1 16 O
 replace Y := Y.k3 44 O
 refine ap <| am Z results8 (ag O ae) ?_
 exact ⟨O, Y.ext⟩
end Go.Proofs.YtliklcmddmpdfaaGreatDoor
