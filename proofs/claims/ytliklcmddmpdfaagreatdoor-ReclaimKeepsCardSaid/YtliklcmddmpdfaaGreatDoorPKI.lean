/- Texts joined: RclI, RclJ, RclK, RclL, Sle, Laid, Door, OpenL, LawK. -/
import Derived.Test.YtliklcmddmpdfaaGreatDoorPKH
import Derived.Test.YtliklcmddmpdfaaGreatDoorPKF
import Derived.Test.YtliklcmddmpdfaaGreatDoorPKB
import Derived.Test.YtliklcmddmpdfaaGreatDoorPKA
import Derived.LaidMore
import Derived.OpenShut
import Derived.Stop.Joined
import Derived.SevenTiedAt
import Derived.ChangeMaps5
import Derived.Test.YtliklcmddmpdfaaGreatDoorRows
set_option linter.unusedVariables false
set_option linter.unusedSimpArgs false
set_option maxRecDepth 4000
set_option maxHeartbeats 4000000
namespace Go.Proofs.YtliklcmddmpdfaaGreatDoor
open Go.RowKit Go.PW _root_.Go.Proofs.Tryz
structure Nin where
 h : Int
 r0 : Int
 r1 : Int
 s0 : Int
 s1 : Int
 ca : Int
 se : Int
 cv : Value
 ys : List Cin
def Nin.z : Nin := ⟨0, 0, 0, 0, 0, 0, 0, .slice none 0 0, []⟩
def Nin.cells (u : Nin) : List Value := [jv u.h, jv u.r0, jv u.r1, jv u.s0, jv u.s1, jv u.ca, jv u.se, u.cv]
def Nin.wt (w : World) (u : Nin) : Prop := (i64 u.h ∧ i64 u.r0 ∧ i64 u.r1 ∧ i64 u.s0 ∧ i64 u.s1 ∧ i64 u.ca ∧ i64 u.se) ∧ SlE w u.cv 5 (u.ys.map Cin.cells) ∧ (∀ y ∈ u.ys, y.wt) ∧ u.ys.length ≤ 3518437208883
theorem Nin.wt.grow {w w' : World} {u : Nin} (h : u.wt w) (hx : Ext No w w') : u.wt w' := ⟨h.1, h.2.1.grow hx, h.2.2⟩
structure Pr2 where
 a : Int
 b : Int
def Pr2.z : Pr2 := ⟨0, 0⟩
def Pr2.cells (y : Pr2) : List Value := [jv y.a, jv y.b]
def Pr2.wt (y : Pr2) : Prop := i64 y.a ∧ i64 y.b
structure Pr3 where
 a : Int
 b : Int
 c : Int
def Pr3.z : Pr3 := ⟨0, 0, 0⟩
def Pr3.cells (y : Pr3) : List Value := [jv y.a, jv y.b, jv y.c]
def Pr3.wt (y : Pr3) : Prop := i64 y.a ∧ i64 y.b ∧ i64 y.c
def Cin.put (y : Cin) : Nat → Cin
 | 0 => { y with y0 := 0 }
 | 1 => { y with y1 := 0 }
 | 2 => { y with y2 := 0 }
 | 3 => { y with y3 := 0 }
 | _ => { y with y4 := 0 }
theorem Cin.put_wt {y : Cin} (h : y.wt) (j : Nat) : (y.put j).wt := by
 obtain ⟨h0, h1, h2, h3, h4⟩ := h
 have hz : i64 0 := ⟨by decide, by decide⟩
 match j with
 | 0 => exact ⟨hz, h1, h2, h3, h4⟩
 | 1 => exact ⟨h0, hz, h2, h3, h4⟩
 | 2 => exact ⟨h0, h1, hz, h3, h4⟩
 | 3 => exact ⟨h0, h1, h2, hz, h4⟩
 | j + 4 => exact ⟨h0, h1, h2, h3, hz⟩
theorem sQ {zs : List Cin} {k j : Nat} (hk : k < (zs.map Cin.cells).length) (hj : j < 5) (hw : ∀ y ∈ zs, y.wt) : ∃ zs' : List Cin, (zs.map Cin.cells).set k (splice (zs.map Cin.cells)[k] j [jv 0]) = zs'.map Cin.cells ∧ zs'.length = zs.length ∧ ∀ y ∈ zs', y.wt := by
 have hk' : k < zs.length := by simpa using hk
 refine ⟨zs.set k (zs[k].put j), ?_, by simp, ?_⟩
 ·rw [zu]
  congr 1
  rw [ze]
  match j, hj with
  | 0, _ => rfl
  | 1, _ => rfl
  | 2, _ => rfl
  | 3, _ => rfl
  | 4, _ => rfl
 ·intro y hy
  rcases List.mem_or_eq_of_mem_set hy with hy | rfl
  ·exact hw _ hy
  ·exact Cin.put_wt (hw _ (yx hk')) j
theorem jp : ∀ {l : List Pxy}, (∀ p ∈ l, p.sig.length = 32) → (l.flatMap Pxy.text).length ≤ 95 * l.length
 | [], h => by simp
 | p :: l, h => by
  have h1 := h p sm
  have h2 := jp (l := l) (fun q hq => h q Ax)
  have h3 := fe p
  rw [yn, xE, Pxy.text, xE, xN]
  omega
theorem iO {x : Wsh} {ps : List Pxy} {t : By} {e : Int} (h : encT x ps = (t, e)) : t.length ≤ 900 := by
 unfold encT at h
 cases hq : cO x ps with
 | none => rw [hq] at h; cases h; simp
 | some z =>
  rw [hq] at h; cases h
  obtain ⟨h1, h2, h3, rfl⟩ := cU.1 hq
  have h4 := gU h1
  have h5 := jp h3
  have h6 := fp x
  have h7 := (bY (ps.length : Int)).2
  simp only [xE, Wsh.text]
  omega
def lastC : Int → List Cas → Int
 | p, [] => p
 | _, x :: l => lastC x.n l
theorem lY {x : Cas} : ∀ {l : List Cas} {p : Int}, ascC p (l ++ [x]) = (ascC p l && (x.ok && decide (lastC p l < x.n)))
 | [], p => by rw [yl, ascC]; show ((x.ok && decide (p < x.n)) && true) = (true && (x.ok && decide (p < x.n))); rw [zn, yT]
 | y :: l, p => by rw [yA, ascC, ascC, lY (l := l), lastC]; simp only [Bool.and_assoc]
theorem fx {x : Cas} : ∀ {l : List Cas} {p : Int}, lastC p (l ++ [x]) = x.n
 | [], p => rfl
 | y :: l, p => fx (l := l)
def Doc (c : Int) (l : List Cas) : Prop := docOk c l = true ∧ l.length ≤ 6 ∧ ∀ x ∈ l, x.n ≤ 23 ∧ x.t < 10000
theorem tI {c : Int} {l : List Cas} (hc : 0 ≤ c ∧ c < 8) (h : ascC (-1) l = true) (hl : l.length ≤ 6) (ha : ∀ x ∈ l, x.n ≤ 23 ∧ x.t < 10000) : Doc c l := by
 refine ⟨?_, hl, ha⟩
 unfold docOk inB
 rw [h, xF (by omega : 0 ≤ c), xF (by omega : c ≤ 7), xF (by omega : l.length ≤ 60)]; rfl
theorem ne {l : List Cas} {x : Cas} {n : Int} (h : ascC (-1) l = true) (hn : lastC (-1) l = n) (hlt : n < x.n) (h0 : 0 ≤ x.n) (h1 : x.n ≤ 23) (h2 : 0 ≤ x.t) (h3 : x.t < 10000) (h4 : x.ev.length ≤ 900) : ascC (-1) (l ++ [x]) = true := by
 rw [lY, h, hn, xF hlt]
 unfold Cas.ok inB
 rw [xF h0, xF (by omega : x.n ≤ 99999999), xF h2, xF (by omega : x.t ≤ 10000000), xF h4]; rfl
theorem vh (u : Nin) (ca nu ti how : Int) (w0 : World) (hu : u.wt w0) (h1 : i64 ca) (h2 : i64 nu) (h3 : i64 ti) (h4 : i64 how) :
  Ret Tryz.prog 45 #[.agg #[jv u.h, jv u.r0, jv u.r1, jv u.s0, jv u.s1, jv u.ca, jv u.se, u.cv], jv ca, jv nu, jv ti, jv how] w0 (MemR w0 (fun s : By => sv s) (fun _ => []) (fun s => s.length ≤ 900)) := by
 obtain ⟨⟨u1, u2, u3, u4, u5, u6, u7⟩, hce, hyw, hyl⟩ := id hu
 have g0 := u3
 unfold i64 at g0
 have g1 := u5
 unfold i64 at g1
 have g2 := h1
 unfold i64 at g2
 have g3 := h2
 unfold i64 at g3
 have g4 := h3
 unfold i64 at g4
 have g5 := h4
 unfold i64 at g5
 have hhow := g5
 have p1 := aV u.r1 (n := 5) de
 have p2 := aV u.s1 (n := 5) de
 have p3 := aV how (n := 10) de
 refine zD func45 O ntmps45 (lb O) fun a Z Y => ?_
 refine aa fun _ G1 => aS Z Y O [jv u.h, jv u.r0, jv u.r1, jv u.s0, jv u.s1, jv u.ca, jv u.se, u.cv] O fun a w1 Z Y => wla Z O fun a Z => G1 <| ah fun _ G2 => ?_
 refine aa fun _ G3 => wlm Z O fun a Z => ax Z Y call44 O (dK how 8 _ zZ AX) fun a w2 Z Y => wlv Z (v_eq O O) fun a Z => G3 <| aA Z O (fun hc1 => ?_) (fun hc1 => ?_)
 ·refine aa fun _ G4 => wla Z O fun a Z => G4 <| ap ?_
  refine al Z results45 (ag O ae) ?_
  exact ⟨[], O, de, Y.ext, St.out (E := []) (H := []) (Y.select [] de)⟩
 refine au <| G2 <| aa fun _ G5 => nv Z <| xy O <| xx (ac (v := po w0.hz 1) O kr) <| xx (bj (v := po w0.hz 2) O O kr) <| xx (ld Y 0 O O (isAgg3 _) O) <| fun a Z => ax Z Y call44 O (dK u.r1 5 _ zZ AX) fun a w3 Z Y => nv Z <| xx (aX (v := .agg #[jv nu, jv (pickI u.r1 5)]) O kr) <| xx (ac (v := po w0.hz 1) O kr) <| fun a Z => az 0 Z Y [jv u.h, jv nu, jv (pickI u.r1 5), jv u.s0, jv u.s1, jv u.ca, jv u.se, u.cv] O (sizeOf63 _) fun a w4 Z Y => G5 ?_
 refine aa fun _ G6 => nv (Z.p5 1 3 4 5 10 O) <| xy O <| xx (ac (v := po w0.hz 3) O kr) <| xx (bj (v := po w0.hz 4) O O kr) <| xx (ld Y 0 O O (isAgg3 _) O) <| fun a Z => ax Z Y call44 O (dK u.s1 5 _ zZ AX) fun a w5 Z Y => nv Z <| xx (aX (v := .agg #[jv ti, jv (pickI u.s1 5)]) O kr) <| xx (ac (v := po w0.hz 3) O kr) <| fun a Z => az 0 Z Y [jv u.h, jv nu, jv (pickI u.r1 5), jv ti, jv (pickI u.s1 5), jv u.ca, jv u.se, u.cv] O (sizeOf63 _) fun a w6 Z Y => G6 ?_
 refine aa fun _ G7 => nv (Z.p4 1 4 5 10 O) <| xy O <| xx (ac (v := po w0.hz 5) O kr) <| fun a Z => az 0 Z Y [jv u.h, jv nu, jv (pickI u.r1 5), jv ti, jv (pickI u.s1 5), jv ca, jv u.se, u.cv] O (sizeOf3 _) fun a w7 Z Y => G7 <| aa fun _ G8 => ?_
 refine aE (E := 142) (sz := 5) O [] kr sm O de de Z Y fun a w8 Z Y => nv Z <| xx (ac (v := po w0.hz 7) O kr) <| xx (ld Y 1 O O (isAgg82 _) O) <| fun a Z => o3 (i := 0) (sT := 82) (inf := Tryz.t142) (z := .agg #[jv 0, jv 0, jv 0, jv 0, jv 0]) O O O (Y.arge hu.2.1) underlying82 O O O O de (by intro e he; obtain ⟨y, _, rfl⟩ := yo.1 he; simp [Cin.cells, Value.oneCell']) Bj Bj de Z Y fun a w9 s2 Z Y => ?_
 rw [yl] at Y
 refine wla Z O fun a Z => G8 ?_
 refine ah fun _ G9 => aa fun _ G10 => wla (Z.p4 4 5 10 11 O) O fun a Z => G10 <| ar ?_
 refine aW (fun m a w => ∃ (k : Nat) (zs : List Cin), m = zs.length - k ∧ (k ≤ zs.length) ∧ (∀ y ∈ zs, y.wt) ∧ (zs.length ≤ 3518437208883) ∧ Fr 80 [(4, jv how), (5, pq w0.hz), (10, sv ([])), (11, s2), (12, jv (k : Int))] [] a ∧ St No w0 [own s2 142 5 (zs.map Cin.cells), blk w0.hz [jv u.h, jv nu, jv (pickI u.r1 5), jv ti, jv (pickI u.s1 5), jv ca, jv u.se, u.cv] 84] w) _ ⟨0, u.ys, O, yc _, hyw, hyl, Z.pick [4, 5, 10, 11, 12], Y.select [0, 1] de⟩ ?_
 rintro _ a w10 ⟨k, zs, rfl, hk, hzw, hzl, Z, Y⟩
 refine ah fun _ G11 => aa fun _ G12 => nv Z <| xy O <| xy O <| xx ((aL (sT := 82) (Y.ow 0 O) O O (runUnderlying82 _)).asi (m' := (zs.length : Int)) z6) <| xx (v_lt O O) <| fun a Z => G12 <| aA Z O (fun hc3 => ?_) (fun hc3 => ?_)
 ·refine au <| G11 <| ah fun _ G13 => ar <| aa fun _ G14 => nv Z <| xy O <| xy O <| xx ((am (i := (k : Int)) (sT := 82) (Y.ow 0 O) O O (runUnderlying82 _) (sizeOf142 _) om zL).as (v' := slAddr s2 (k * 5)) O) <| xx (cT (k := k * 5) (j := 1) (Y.ow 0 O) (i := k) zL O O (fun _ _ => by kernel_rfl)) <| fun a Z => ?_
  obtain ⟨zt4, hezt4, hlzt4, hwzt4⟩ := sQ (zs := zs) (k := k) (j := 1) zL de zM
  refine fK (k := k) (j := 1) (els' := (zt4.map Cin.cells)) 0 Z Y O O O zL om (sizeOf3 _) (by simp [Value.oneCell', Value.cells]) de hezt4 O fun a w11 Z Y => G14 ?_
  refine aj <| nv (Z.p5 4 5 10 11 12 O) <| xy O <| xy O <| xx ((am (i := (k : Int)) (sT := 82) (Y.ow 0 O) O O (runUnderlying82 _) (sizeOf142 _) om zL).as (v' := slAddr s2 (k * 5)) O) <| xx (cT (k := k * 5) (j := 3) (Y.ow 0 O) (i := k) zL O O (fun _ _ => by kernel_rfl)) <| fun a Z => ?_
  obtain ⟨zt5, hezt5, hlzt5, hwzt5⟩ := sQ (zs := zt4) (k := k) (j := 3) zL de zM
  refine fK (k := k) (j := 3) (els' := (zt5.map Cin.cells)) 0 Z Y O O O zL om (sizeOf3 _) (by simp [Value.oneCell', Value.cells]) de hezt5 O fun a w12 Z Y => ab <| G13 <| aj <| nv Z <| xy O <| xx (aP O O ⟨om, om⟩) <| xz O <| fun a Z => ab ?_
  refine ⟨_, ?_, k + 1, zt5, O, om, hwzt5, om, Z.pick [4, 5, 10, 11, 12], Y.select [0, 1] de⟩
  omega
 refine aO <| G9 <| aa fun _ G15 => nv Z <| xy O <| xx (ac (v := po w0.hz 7) O kr) <| fun a Z => ce 1 Z Y (Y.ow 0 O) O O O (sizeOf82 _) (lb O) (ds := [jv u.h, jv nu, jv (pickI u.r1 5), jv ti, jv (pickI u.s1 5), jv ca, jv u.se, s2]) O O fun a w13 Z Y => G15 ?_
 replace Z := Z.p3 4 5 10 O
 obtain ⟨x, hx⟩ : ∃ x, madeW u.h nu (pickI u.r1 5) ti (pickI u.s1 5) ca u.se zs = x := ⟨_, rfl⟩
 obtain ⟨ps, hps⟩ : ∃ ps, madeL u.h nu (pickI u.r1 5) ti (pickI u.s1 5) zs = ps := ⟨_, rfl⟩
 have hmk : Mk x ps := by rw [← hx, ← hps]; exact wm _ _ _ _ _ _ _ _
 have hxd := Wsh.ok_bnd hmk.ok
 obtain ⟨xb, hbw⟩ : ∃ bw, bentW x (how.tdiv 8) (pickI how 10) = bw := ⟨_, rfl⟩
 refine aa fun _ G16 => wlv Z (ao (Y.g 1 O) O (isAgg84 _) (sizeOf84 _)) fun a Z => bC Z Y call32 O (xc hx hps (Y.ow 0 O) hzw u1 AE AE AE AE AE u7) fun a w14 x7 hp Z Y => ?_
 revert x7 hp Z Y; rintro pv6 hp Z Y
 clear hp
 replace Y := Y.n3 O
 refine nv Z <| xy O <| xx (aq O O) <| xx (aq O O) <| fun a Z => aC Z Y (zeroValue90 _) [jv 0, jv 0, jv 0, jv 0, jv 0, jv 0, jv 0, jv 0, .string (⟨#[]⟩)] O fun a w15 Z Y => az 0 Z Y [jv x.signer, jv x.holder, jv x.rf, jv x.rt, jv x.carrier, jv x.serial, jv x.sf, jv x.st, sv x.sig] O (sizeOf90 _) fun a w16 Z Y => wla Z O fun a Z => G16 ?_
 replace Z := Z.p4 4 10 13 14 O
 replace Y := Y.k3 7 O
 refine ah fun _ G17 => aa fun _ G18 => wlm Z O fun a Z => ax Z Y call44 O (dK how 8 _ zZ AX) fun a w17 Z Y => wlv Z (v_eq O O) fun a Z => G18 <| aA Z O (fun hc8 => ?_) (fun hc8 => ?_)
 ·refine aM (aN fun w18 hxz => ?_)
  replace Y := Y.grow hxz
  refine aU (k := 0) 5 [0, 2, 4] Z ?_
  refine bQ 5 (Z.p6 4 10 13 14 61 62 O) Y <| pl_w (fun Y => ao (Y.g 0 O) O (isAgg90 _) (sizeOf90 _)) <| pl_m O <| pl_v (xm O O de ⟨om, om⟩) <| pl_m O <| pl_r (fun Y => bF call44 O (dK how 10 _ zZ AX)) fun a w19 Z Y => ?_
  replace Z := Z.p6 10 13 14 65 67 69 O
  refine ab <| aK (k := 5) 7 [6] ?_
  refine ax Z Y call105 O (wM hbw (sO hhow de) om om) fun a w20 Z Y => wlm Z O fun a Z => ab <| aU (k := 7) 10 [8, 9] Z ?_
  replace Z := Z.p8 10 13 14 65 67 69 70 64 O
  replace Y := Y.s3 [0, 1, 2] de rfl
  refine gD [2] (fun q => if q = 2 then blk w14.hz [jv x.signer, jv x.holder, jv x.rf, jv x.rt, jv x.carrier, jv x.serial, jv x.sf, jv x.st, sv x.sig] 90 else join []) (fun q => if q = 2 then blk w14.hz [jv xb.signer, jv xb.holder, jv xb.rf, jv xb.rt, jv xb.carrier, jv xb.serial, jv xb.sf, jv xb.st, sv xb.sig] 90 else join []) 3 [[], [], [0]] (fun i => match i with | 0 => pv (.agg #[jv xb.signer, jv xb.holder, jv xb.rf, jv xb.rt, jv xb.carrier, jv xb.serial, jv xb.sf, jv xb.st, sv xb.sig]) | 1 => pv (.bool (!(decide (xb = x)))) | 2 => fun v E => v = undef ∧ E = [] | _ => fun _ _ => False) Bl Z (H := [own pv6 144 7 (ps.map Pxy.cells), own s2 142 5 (zs.map Cin.cells)]) Y kr kr kr kr de de ?_ ?_ ?_ ?_ ?_ ?_
  ·intro i v E h
   match i, h with
   | 0, _ => exact by decide
   | 1, _ => exact by decide
   | 2, _ => exact by decide
   | i + 3, h => exact h.elim
  ·intro q v E hq h
   simp only [xL, xQ, yj] at hq
   rcases hq with rfl <;> exact h
  ·intro q hq
   simp only [xL, xQ, yj] at hq
   rcases hq with rfl <;> exact ⟨rfl, rfl⟩
  ·intro i hi hiq e
   match i, hi, hiq with
   | 0, _, _ => exact fun w Y => OpV.g (aq O O)
   | 1, _, _ => exact fun w Y => OpV.g (aq O O)
   | 2, _, h => exact absurd de h
  ·intro q hq
   simp only [xL, xQ, yj] at hq
   rcases hq with rfl
   ·rintro _ _ ⟨rfl, rfl⟩
    intro w h
    exact dF (cs := [jv x.signer, jv x.holder, jv x.rf, jv x.rt, jv x.carrier, jv x.serial, jv x.sf, jv x.st, sv x.sig]) (ds := [jv xb.signer, jv xb.holder, jv xb.rf, jv xb.rt, jv xb.carrier, jv xb.serial, jv xb.sf, jv xb.st, sv xb.sig]) O O h (sizeOf90 _) O (lb O) O
  clear Z Y
  rintro _ _ ⟨rfl, rfl⟩ _ _ ⟨rfl, rfl⟩ a w21 Z Y
  replace Z := Z.p10 71 72 10 13 14 65 67 69 70 64 O
  try dsimp only at Y
  replace Y := Y.n3 O
  refine ab <| aT <| G17 ?_
  refine aa fun _ G19 => nv (Z.p3 10 13 14 O) <| xx (ao (Y.g 0 O) O (isAgg90 _) (sizeOf90 _)) <| xy O <| fun a Z => ?_
  obtain ⟨et, ee, hen⟩ : ∃ t e, encT xb ps = (t, e) := ⟨_, _, rfl⟩
  have hel := iO hen
  refine ax Z Y call106 O (mE (x := xb) (ps := ps) (t := et) (e := ee) hen (Y.ow 1 O)) fun a w22 Z Y => nv Z <| xy O <| xx (aq O O) <| xx (aq O O) <| xz O <| xz O <| fun a Z => G19 ?_
  replace Y := Y.k1 4 O
  refine aa fun _ G20 => nv (Z.p2 10 15 O) <| xy O <| xz O <| fun a Z => G20 <| ap ?_
  refine al Z results45 (ag O ae) ?_
  exact ⟨et, O, hel, Y.ext, St.out (E := []) (H := []) (Y.select [] de)⟩
 refine au <| G17 <| aa fun _ G21 => nv Z <| xx (ao (Y.g 0 O) O (isAgg90 _) (sizeOf90 _)) <| xy O <| fun a Z => ?_
 obtain ⟨et, ee, hen⟩ : ∃ t e, encT x ps = (t, e) := ⟨_, _, rfl⟩
 have hel := iO hen
 refine ax Z Y call106 O (mE (x := x) (ps := ps) (t := et) (e := ee) hen (Y.ow 1 O)) fun a w23 Z Y => nv Z <| xy O <| xx (aq O O) <| xx (aq O O) <| xz O <| xz O <| fun a Z => G21 ?_
 replace Y := Y.k1 4 O
 refine aa fun _ G22 => nv (Z.p2 10 15 O) <| xy O <| xz O <| fun a Z => G22 <| ap ?_
 refine al Z results45 (ag O ae) ?_
 exact ⟨et, O, hel, Y.ext, St.out (E := []) (H := []) (Y.select [] de)⟩
theorem q7 (cr : Int) (v1 : Value) (cs : List Pr2) (v2 : Value) (ns : List Nin) (v3 : Value) (hs : List Int) (w0 : World) (hv1 : SlAt w0 v1 2 (cs.map Pr2.cells)) (hv2 : SlAt w0 v2 8 (ns.map Nin.cells)) (hns : ∀ u ∈ ns, u.wt w0) (hv3 : SlAt w0 v3 1 (hs.map fun z : Int => [jv z])) (hcr : i64 cr) (hcs : ∀ y ∈ cs, y.wt) (hhs : ∀ z ∈ hs, i64 z) :
  Ret Tryz.prog 12 #[.agg #[jv cr, v1, v2, v3]] w0 (MemR w0 (fun x : Int × Value × List Cas => .agg #[jv x.1, x.2.1]) (fun x => [own x.2.1 55 3 (x.2.2.map Cas.cells)]) (fun x => Doc x.1 x.2.2)) := by
 have hxb1 := hv1.2.1
 have hxb2 := hv2.2.1
 have hxb3 := hv3.2.1
 simp only [xC, big] at hxb1 hxb2 hxb3
 obtain ⟨c, hcc⟩ : ∃ c, pickI cr 8 = c := ⟨_, rfl⟩
 have hcb := aV cr (n := 8) de
 rw [hcc] at hcb
 have hcr1 := hcr
 unfold i64 at hcr1
 refine zA func12 O ntmps12 (lb O) fun a Z Y => ?_
 refine aa fun _ G1 => aS Z Y O [jv cr, v1, v2, v3] O fun a w1 Z Y => aC Z Y (zeroValue32 _) [jv 0, .slice none 0 0] O fun a w2 Z Y => G1 <| aa fun _ G2 => ?_
 refine nv Z <| xx (ac (v := pq w0.hz) O kr) <| xx (ld Y 1 O O (isAgg3 _) O) <| fun a Z => ax Z Y call44 O (fL hcc (dK cr 8 _ zZ de)) fun a w3 Z Y => wlv Z (aX (v := .agg #[jv c, .slice none 0 0]) O kr) fun a Z => aC Z Y (zeroValue32 _) [jv 0, .slice none 0 0] O fun a w4 Z Y => az 0 Z Y [jv c, .slice none 0 0] O (sizeOf32 _) fun a w5 Z Y => G2 <| aa fun _ G3 => ?_
 refine wla Z O fun a Z => G3 <| ah fun _ G4 => ?_
 refine aa fun _ G5 => wla Z O fun a Z => G5 <| ar ?_
 replace Y : St No w0 [own (.slice none 0 0) 55 3 (([] : List Cas).map Cas.cells), blk w3.hz [jv c, .slice none 0 0] 32, blk w1.hz [jv 0, .slice none 0 0] 32, blk w0.hz [jv cr, v1, v2, v3] 26] w5 := Y.nil_own
 refine aW (fun m a w => ∃ (k : Nat) (n : Int) (v : Value) (l : List Cas), m = 6 - k ∧ (k ≤ 6) ∧ (l.length = k) ∧ (ascC (-1) l = true) ∧ (lastC (-1) l = n) ∧ (-1 ≤ n ∧ n < 4 * (k : Int)) ∧ (∀ x ∈ l, x.n ≤ 23 ∧ x.t < 10000) ∧ Fr 78 [(1, pq w0.hz), (2, pq w1.hz), (3, pq w3.hz), (4, jv n), (5, jv (k : Int))] [] a ∧ St No w0 [own v 55 3 ((l).map Cas.cells), blk w3.hz [jv c, v] 32, blk w1.hz [jv 0, .slice none 0 0] 32, blk w0.hz [jv cr, v1, v2, v3] 26] w) _ ⟨0, -1, .slice none 0 0, [], O, de, O, O, O, de, sm, Z.pick [1, 2, 3, 4, 5], Y.select [0, 1, 2, 3] de⟩ ?_
 rintro _ a w6 ⟨k, n, v, l, rfl, hk, hlen, hasc, hln, hnb, hall, Z, Y⟩
 refine ah fun _ G6 => aa fun _ G7 => nv Z <| xy O <| xx (ac (v := po w0.hz 1) O kr) <| xx (ld Y 3 O O (isAgg22 _) O) <| xx ((aL (sT := 22) (Y.arg hv1) O O (runUnderlying22 _)).asi (m' := (cs.length : Int)) z6) <| xx (v_lt O O) <| xy O <| fun a Z => ?_
 rcases Decidable.em ((k : Int) < (cs.length : Int)) with hb1 | hb1
 ·rw [xF hb1] at Z
  have hkx : k < cs.length := by omega
  refine nv Z <| xA (ay O) <| xA (v_lt O O) <| xx (aw O O) <| fun a Z => G7 ?_
  replace Z := Z.p6 1 2 3 4 5 19 O
  refine aA Z O (fun hc2 => ?_) (fun hc2 => ?_)
  ·refine au <| G6 <| ah fun _ G8 => ar ?_
   obtain ⟨y, hy⟩ : ∃ y, cs.getD k Pr2.z = y := ⟨_, rfl⟩
   have hyw := hcs _ (bt (d := Pr2.z) hkx)
   rw [hy] at hyw
   obtain ⟨hya, hyb⟩ := hyw
   have g1 := hya
   have g2 := hyb
   unfold i64 at g1 g2
   have p1 := aV y.a (n := 4) de
   have p2 := aV y.b (n := 10000) de
   refine aa fun _ G9 => nv Z <| xy O <| xx (aP O O ⟨om, om⟩) <| xx (ac (v := po w0.hz 1) O kr) <| xx (ld Y 3 O O (isAgg22 _) O) <| xy O <| xx ((am (i := (k : Int)) (sT := 22) (Y.arg hv1) O O (runUnderlying22 _) (sizeOf63 _) om zL).as (v' := slAddr v1 (k * 2)) O) <| xx (cT (k := k * 2) (j := 0) (Y.arg hv1) (i := k) zL O O (fun _ _ => by kernel_rfl)) <| xx (aD (u := jv y.a) (i := k) (j := 0) (Y.arg hv1) zL O (isAgg3 _) (by rw [bA Pr2.z, hy]; rfl)) <| fun a Z => ax Z Y call44 O (dK y.a 4 _ zZ de) fun a w7 Z Y => nv Z <| xx (aP O O ⟨om, om⟩) <| xz O <| fun a Z => G9 ?_
   refine aa fun _ G10 => nv (Z.p5 1 2 3 5 4 O) <| xy O <| xx (ac (v := po w0.hz 1) O kr) <| xx (ld Y 3 O O (isAgg22 _) O) <| xy O <| xx ((am (i := (k : Int)) (sT := 22) (Y.arg hv1) O O (runUnderlying22 _) (sizeOf63 _) om zL).as (v' := slAddr v1 (k * 2)) O) <| xx (cT (k := k * 2) (j := 1) (Y.arg hv1) (i := k) zL O O (fun _ _ => by kernel_rfl)) <| xx (aD (u := jv y.b) (i := k) (j := 1) (Y.arg hv1) zL O (isAgg3 _) (by rw [bA Pr2.z, hy]; rfl)) <| fun a Z => ax Z Y call44 O (dK y.b 10000 _ zZ de) fun a w8 Z Y => wlv Z (aX (v := .agg #[jv ((n + 1) + (pickI y.a 4)), jv (pickI y.b 10000), sv ([] : By)]) O kr) fun a Z => aC Z Y (zeroValue55 _) [jv 0, jv 0, .string (⟨#[]⟩)] O fun a w9 Z Y => ?_
   refine az 0 Z Y [jv ((n + 1) + (pickI y.a 4)), jv (pickI y.b 10000), sv ([] : By)] O (sizeOf55 _) fun a w10 Z Y => G10 ?_
   refine ah fun _ G11 => aa fun _ G12 => nv (Z.p6 1 2 3 5 4 6 O) <| xy O <| xx (ac (v := po w0.hz 2) O kr) <| xx (ld Y 4 O O (isAgg23 _) O) <| xx ((aL (sT := 23) (Y.arg hv2) O O (runUnderlying23 _)).asi (m' := (ns.length : Int)) z6) <| xx (v_lt O O) <| xy O <| fun a Z => ?_
   rcases Decidable.em ((k : Int) < (ns.length : Int)) with hb3 | hb3
   ·rw [xF hb3] at Z
    refine nv Z <| xA (ay O) <| xA (ac (v := po w0.hz 3) O kr) <| xA (ld Y 4 O O (isAgg24 _) O) <| xA ((aL (sT := 24) (Y.arg hv3) O O (runUnderlying24 _)).asi (m' := (hs.length : Int)) z6) <| xA (v_lt O O) <| xx (aw O O) <| fun a Z => G12 ?_
    replace Z := Z.p7 1 2 3 5 4 6 52 O
    refine aA Z O (fun hc4 => ?_) (fun hc4 => ?_)
    ·obtain ⟨u, hud⟩ : ∃ u, ns.getD k Nin.z = u := ⟨_, rfl⟩
     have huw := hns _ (bt (d := Nin.z) (show k < ns.length by omega))
     rw [hud] at huw
     have hhw := hhs _ (bt (d := (0 : Int)) (show k < hs.length by omega))
     refine aM (aN fun w11 hxz => ?_)
     replace Y := Y.grow hxz
     refine aU (k := 0) 16 [4, 6, 8, 10, 15] Z ?_
     replace Z := Z.p6 1 2 3 5 4 6 O
     refine bQ 16 Z Y <| pl_v (ac (v := po w0.hz 2) O kr) <| pl_w (fun Y => ld Y 4 O O (isAgg23 _) O) <| pl_m O <| pl_w (fun Y => (am (i := (k : Int)) (sT := 23) (Y.arg hv2) O O (runUnderlying23 _) (sizeOf84 _) om zL).as (v' := slAddr v2 (k * 8)) O) <| pl_w (fun Y => (bL (Y.arg hv2) (i := k) zL O (isAgg84 _) (sizeOf84 _)).as (v' := .agg #[jv u.h, jv u.r0, jv u.r1, jv u.s0, jv u.s1, jv u.ca, jv u.se, u.cv]) (by rw [bA Nin.z, hud]; rfl)) <| pl_v (ac (v := pq w3.hz) O kr) <| pl_w (fun Y => ld Y 2 O O (isAgg3 _) O) ?_
     refine pl_v (ac (v := pq w8.hz) O kr) <| pl_w (fun Y => ld Y 0 O O (isAgg3 _) O) <| pl_v (ac (v := po w8.hz 1) O kr) <| pl_w (fun Y => ld Y 0 O O (isAgg3 _) O) <| pl_v (ac (v := po w0.hz 3) O kr) <| pl_w (fun Y => ld Y 4 O O (isAgg24 _) O) <| pl_m O <| pl_w (fun Y => (am (i := (k : Int)) (sT := 24) (Y.arg hv3) O O (runUnderlying24 _) (sizeOf3 _) om zL).as (v' := slAddr v3 (k * 1)) O) ?_
     refine pl_w (fun Y => aD (u := jv (hs.getD k 0)) (i := k) (j := 0) (Y.arg hv3) zL O (isAgg3 _) AW) fun a w12 Z Y => ?_
     replace Z := Z.p11 1 2 3 5 4 6 57 59 61 63 68 O
     refine ab <| aK (k := 16) 19 [18] ?_
     refine bC Z Y call45 O (vh u c ((n + 1) + (pickI y.a 4)) (pickI y.b 10000) (hs.getD k 0) _ (huw.grow Y.ext) AE AE AE hhw) fun a w13 x6 hp Z Y => ?_
     revert x6 hp Z Y; rintro es5 hp Z Y
     have hes5 := hp
     replace Y := Y.n5 O
     refine wlv Z (ac (v := po w8.hz 2) O kr) fun a Z => az 0 Z Y [jv ((n + 1) + (pickI y.a 4)), jv (pickI y.b 10000), sv es5] O (sizeOf9 _) fun a w14 Z Y => ab <| aT <| G11 ?_
     refine aj <| nv (Z.p6 1 2 3 5 4 6 O) <| xx (ac (v := po w3.hz 1) O kr) <| xx (ld Y 2 O O (isAgg30 _) O) <| xx (ao (Y.g 0 O) O (isAgg55 _) (sizeOf55 _)) <| fun a Z => aE (E := 55) (sz := 3) O [[jv ((n + 1) + (pickI y.a 4)), jv (pickI y.b 10000), sv es5]] kr sm O de de Z Y fun a w15 Z Y => aY (i := 2) (sT := 30) (inf := Tryz.t55) (z := .agg #[jv 0, jv 0, .string (⟨#[]⟩)]) (b := 0) (off := 0) (m := 0) (c := 0) O O O (Y.ow 0 O) sm underlying30 O O O O de zN z7 z7 de Z Y fun a w16 s7 Z Y _ => ?_
     rw [show ((l).map Cas.cells) ++ ([[jv ((n + 1) + (pickI y.a 4)), jv (pickI y.b 10000), sv es5]]) = ((l ++ [(⟨((n + 1) + (pickI y.a 4)), (pickI y.b 10000), es5⟩ : Cas)]).map Cas.cells) from by rw [yE]; rfl] at Y
     refine wlv Z (ac (v := po w3.hz 1) O kr) fun a Z => ce 3 Z Y (Y.ow 2 O) O O O (sizeOf30 _) (lb O) (ds := [jv c, s7]) O O fun a w17 Z Y => ab <| G8 ?_
     replace Y := Y.k4 60 O
     refine aj <| nv (Z.p5 1 2 3 5 4 O) <| xy O <| xx (aP O O ⟨om, om⟩) <| xz O <| fun a Z => ab ?_
     refine ⟨_, ?_, k + 1, ((n + 1) + (pickI y.a 4)), s7, (l ++ [(⟨((n + 1) + (pickI y.a 4)), (pickI y.b 10000), es5⟩ : Cas)]), O, om, (by simp [hlen]), (ne hasc hln A9 A3 Am (aV y.b (n := 10000) de).1 (aV y.b (n := 10000) de).2 (by first | assumption | simp)), fx, om, (bV hall ⟨Am, (aV y.b (n := 10000) de).2⟩), Z.pick [1, 2, 3, 4, 5], Y.select [0, 1, 2, 3] de⟩
     omega
    refine au <| G11 <| aj <| nv Z <| xx (ac (v := po w3.hz 1) O kr) <| xx (ld Y 2 O O (isAgg30 _) O) <| xx (ao (Y.g 0 O) O (isAgg55 _) (sizeOf55 _)) <| fun a Z => aE (E := 55) (sz := 3) O [[jv ((n + 1) + (pickI y.a 4)), jv (pickI y.b 10000), sv ([] : By)]] kr sm O de de Z Y fun a w18 Z Y => aY (i := 2) (sT := 30) (inf := Tryz.t55) (z := .agg #[jv 0, jv 0, .string (⟨#[]⟩)]) (b := 0) (off := 0) (m := 0) (c := 0) O O O (Y.ow 0 O) sm underlying30 O O O O de zN z7 z7 de Z Y fun a w19 s8 Z Y _ => ?_
    rw [show ((l).map Cas.cells) ++ ([[jv ((n + 1) + (pickI y.a 4)), jv (pickI y.b 10000), sv ([] : By)]]) = ((l ++ [(⟨((n + 1) + (pickI y.a 4)), (pickI y.b 10000), ([] : By)⟩ : Cas)]).map Cas.cells) from by rw [yE]; rfl] at Y
    refine wlv Z (ac (v := po w3.hz 1) O kr) fun a Z => ce 3 Z Y (Y.ow 2 O) O O O (sizeOf30 _) (lb O) (ds := [jv c, s8]) O O fun a w20 Z Y => ab <| G8 ?_
    replace Y := Y.k4 60 O
    refine aj <| nv (Z.p5 1 2 3 5 4 O) <| xy O <| xx (aP O O ⟨om, om⟩) <| xz O <| fun a Z => ab ?_
    refine ⟨_, ?_, k + 1, ((n + 1) + (pickI y.a 4)), s8, (l ++ [(⟨((n + 1) + (pickI y.a 4)), (pickI y.b 10000), ([] : By)⟩ : Cas)]), O, om, (by simp [hlen]), (ne hasc hln A9 A3 Am (aV y.b (n := 10000) de).1 (aV y.b (n := 10000) de).2 (by first | assumption | simp)), fx, om, (bV hall ⟨Am, (aV y.b (n := 10000) de).2⟩), Z.pick [1, 2, 3, 4, 5], Y.select [0, 1, 2, 3] de⟩
    omega
   rw [xK hb3] at Z
   refine nv Z <| xB <| xB <| xB <| xB <| xB <| xx (ai O O) <| fun a Z => G12 ?_
   replace Z := Z.p7 1 2 3 5 4 6 52 O
   refine aJ Z O ?_
   refine au <| G11 <| aj <| nv Z <| xx (ac (v := po w3.hz 1) O kr) <| xx (ld Y 2 O O (isAgg30 _) O) <| xx (ao (Y.g 0 O) O (isAgg55 _) (sizeOf55 _)) <| fun a Z => aE (E := 55) (sz := 3) O [[jv ((n + 1) + (pickI y.a 4)), jv (pickI y.b 10000), sv ([] : By)]] kr sm O de de Z Y fun a w21 Z Y => aY (i := 2) (sT := 30) (inf := Tryz.t55) (z := .agg #[jv 0, jv 0, .string (⟨#[]⟩)]) (b := 0) (off := 0) (m := 0) (c := 0) O O O (Y.ow 0 O) sm underlying30 O O O O de zN z7 z7 de Z Y fun a w22 s9 Z Y _ => ?_
   rw [show ((l).map Cas.cells) ++ ([[jv ((n + 1) + (pickI y.a 4)), jv (pickI y.b 10000), sv ([] : By)]]) = ((l ++ [(⟨((n + 1) + (pickI y.a 4)), (pickI y.b 10000), ([] : By)⟩ : Cas)]).map Cas.cells) from by rw [yE]; rfl] at Y
   refine wlv Z (ac (v := po w3.hz 1) O kr) fun a Z => ce 3 Z Y (Y.ow 2 O) O O O (sizeOf30 _) (lb O) (ds := [jv c, s9]) O O fun a w23 Z Y => ab <| G8 ?_
   replace Y := Y.k4 60 O
   refine aj <| nv (Z.p5 1 2 3 5 4 O) <| xy O <| xx (aP O O ⟨om, om⟩) <| xz O <| fun a Z => ab ?_
   refine ⟨_, ?_, k + 1, ((n + 1) + (pickI y.a 4)), s9, (l ++ [(⟨((n + 1) + (pickI y.a 4)), (pickI y.b 10000), ([] : By)⟩ : Cas)]), O, om, (by simp [hlen]), (ne hasc hln A9 A3 Am (aV y.b (n := 10000) de).1 (aV y.b (n := 10000) de).2 (by first | assumption | simp)), fx, om, (bV hall ⟨Am, (aV y.b (n := 10000) de).2⟩), Z.pick [1, 2, 3, 4, 5], Y.select [0, 1, 2, 3] de⟩
   omega
  refine aO <| G4 <| aa fun _ G13 => wlv Z (ao (Y.g 1 O) O (isAgg32 _) (sizeOf32 _)) fun a Z => bd (us := [jv c, v]) 2 Z Y O O O (sizeOf32 _) Ab (lb O) (ds := [jv c, v]) O O fun a w24 Z Y => ?_
  refine G13 ?_
  replace Z := Z.p1 2 O
  replace Y := Y.k2 5 O
  refine ap <| al Z results12 (ak O (bf (Y.g 1 O) (isAgg32 _) (sizeOf32 _)) ae) ?_
  exact ⟨(c, v, l), O, tI hcb hasc (show l.length ≤ 6 by omega) hall, Y.ext, St.out (E := [own v 55 3 (l.map Cas.cells)]) (H := []) (Y.select [0] de)⟩
 rw [xK hb1] at Z
 refine nv Z <| xB <| xB <| xx (ai O O) <| fun a Z => G7 ?_
 replace Z := Z.p6 1 2 3 4 5 19 O
 refine aJ Z O ?_
 refine aO <| G4 <| aa fun _ G14 => wlv Z (ao (Y.g 1 O) O (isAgg32 _) (sizeOf32 _)) fun a Z => bd (us := [jv c, v]) 2 Z Y O O O (sizeOf32 _) Ab (lb O) (ds := [jv c, v]) O O fun a w25 Z Y => ?_
 refine G14 ?_
 replace Z := Z.p1 2 O
 replace Y := Y.k2 5 O
 refine ap <| al Z results12 (ak O (bf (Y.g 1 O) (isAgg32 _) (sizeOf32 _)) ae) ?_
 exact ⟨(c, v, l), O, tI hcb hasc (show l.length ≤ 6 by omega) hall, Y.ext, St.out (E := [own v 55 3 (l.map Cas.cells)]) (H := []) (Y.select [0] de)⟩
theorem Doc.at {c : Int} {l : List Cas} (h : Doc c l) {i : Nat} (hi : i < l.length) : (0 ≤ (l.getD i Cas.z).n ∧ (l.getD i Cas.z).n ≤ 23) ∧ (0 ≤ (l.getD i Cas.z).t ∧ (l.getD i Cas.z).t < 10000) ∧ (l.getD i Cas.z).ev.length ≤ 900 := by
 have hm := mJ hi
 have h1 := Cas.bnd (iY h.1 _ hm)
 have h2 := h.2.2 _ hm
 omega
theorem Doc.car {c : Int} {l : List Cas} (h : Doc c l) : 0 ≤ c ∧ c ≤ 7 := fj h.1
theorem Doc.swap {c e : Int} {l k : List Cas} (h : Doc c l) (h2 : Doc e k) : Doc c k := by
 refine ⟨?_, h2.2⟩
 have h3 := h2.1
 have h4 := fj h.1
 unfold docOk inB at h3 ⊢
 simp only [xD, xG] at h3 ⊢
 exact ⟨⟨h3.1.1, h4⟩, h3.2⟩
theorem t6 {xs : List By} {k n : Nat} (h : ∀ z ∈ xs, z.length ≤ n) : (xs.getD k []).length ≤ n := by
 rw [xJ]
 rcases Nat.lt_or_ge k xs.length with hk | hk
 ·rw [xM hk]; exact h _ (yx hk)
 ·rw [zh hk]; exact yc _
theorem gz {f : FuncId} {args : Array Value} {w : World} {a b : Value} (h : a = b) (hr : Ret Tryz.prog f args w fun v w' => v = a ∧ Ext No w w') : Ret Tryz.prog f args w fun v w' => v = b ∧ Ext No w w' := by subst h; exact hr
theorem si {X : Type} {w w' : World} {f : X → Value} {E : X → List Ent} {p q : X → Prop} {v : Value} (h : MemR w f E p v w') (hq : ∀ x, p x → q x) : MemR w f E q v w' := by
 obtain ⟨x, h1, h2, h3⟩ := h
 exact ⟨x, h1, hq x h2, h3⟩
section
variable {key : By} {hd : Hd} {c : Int} {l : List Cas} {es : List By} {n : Nat} {ix ixa ixb : List Int} {L La Lb : List Itw} {num : Int}
theorem dz (hD : docOk c l = true) (hk : key.length = 32) (hhd : hdOf sha key c (entC l) l.length = hd) (hix : ascI (l.length : Int) (-1) ix = true) (hL : itsM L = showIs sha (entC l) l.length ix) : checkP sha key hd (itsM L) = true := by
 rw [hL, ← hhd]; exact kM dG hk (jC hD) (by rw [dN]; omega) hix
theorem ml (hr : regOk c es = true) (hn : n ≤ es.length) (hk : key.length = 32) (hhd : hdOf sha key c es n = hd) (hix : ascI (n : Int) (-1) ix = true) (hL : itsM L = showIs sha es n ix) : checkP sha key hd (itsM L) = true := by
 rw [hL, ← hhd]; exact kM dG hk hr hn hix
theorem cV (hn : n ≤ 60) (hL : itsM L = showIs sha es n ix) : ∀ x ∈ L, x.m.pf.length ≤ 1000 := fun x hx => yB (vU hL hn x hx) de
theorem dI (hL : itsM L = showIs sha es n ix) : L.length = ix.length := by
 have := yf List.length hL
 rwa [eK, showIs, xC] at this
theorem ef (hL : itsM L = showIs sha es n ix) {k : Nat} (hk : k < ix.length) : (L.getD k Itw.z).m = itmAt sha es n (ix.getD k 0) := by
 have h1 : (itsM L).getD k Itm.z = (L.getD k Itw.z).m := by
  have hl := dI hL
  rw [itsM, xJ, yN, xJ, xM om]; rfl
 rw [← h1, hL, showIs, xJ, yN, xJ, xM hk]; rfl
theorem rj (hL : itsM L = showIs sha (entC l) l.length ix) (h : docOk c l = true) (hix : ascI (l.length : Int) (-1) ix = true) (hn : ¬ thereC l num) : hasF num (itsM L) = none := by
 cases hq : hasF num (itsM L) with
 | none => rfl
 | some d =>
  rw [hL] at hq
  obtain ⟨i, h1, h2, h3⟩ := uV h hix hq
  exact absurd ⟨i, h1, by rw [h2]; exact h3⟩ hn
theorem iN (hL : itsM L = showIs sha (entC l) l.length ix) (hhd : hdOf sha key c (entC l) l.length = hd) (h : docOk c l = true) (hix : ascI (l.length : Int) (-1) ix = true) (ht : thereC l num) : lackF hd.n num (-1) false (itsM L) = false := by
 rw [hL, ← hhd]; exact uf h hix ht
theorem g8 (hL : itsM L = showIs sha (entC l) l.length (ansIx l num)) (hhd : hdOf sha key c (entC l) l.length = hd) (h : docOk c l = true) (hh : hitC l num = false) : lackF hd.n num (-1) false (itsM L) = true := by
 rw [hL, ← hhd]; exact ud h hh
theorem vr (hL : itsM L = showIs sha (entC l) l.length (ansIx l num)) (h : docOk c l = true) (hh : hitC l num = true) : hasF num (itsM L) = some (l.getD (lowC num l) Cas.z) := by rw [hL]; exact wc h hh
theorem j9 (h : docOk c l = true) (hia : ascI (l.length : Int) (-1) ixa = true) (hib : ascI (l.length : Int) (-1) ixb = true) (ha : itsM La = showIs sha (entC l) l.length ixa) (hb : itsM Lb = showIs sha (entC l) l.length ixb) : crookF (itsM La) (itsM Lb) = false := by rw [ha, hb]; exact mV h hia hib
end
section
variable {ks : List By} {key : By} {q : Chg} {lim t : Int} {r : Rpl}
theorem mD {p : Rpl → Bool} : firstF p none [r] = if p r = true then some r.at_ else none := by
 show nextO p none r = _
 unfold nextO lessO
 rw [zn]
theorem ff {bk bb : Bool} (h1 : keptB sha ks key q (q.a + lim) t r = bk) (h2 : backB sha key q (q.a + lim) t r = bb) : stateH sha ks key lim q [r] t = pickS (if bk = true then some r.at_ else none) (if bb = true then some r.at_ else none) q (q.a + lim) t := by
 unfold stateH
 rw [mD, mD, h1, h2]
end
theorem vm : exS.length ≤ 900 := iO (x := exW) (ps := [exP]) (e := 0) (by unfold encT; rw [pg])
theorem ch : docOk 3 exC = true := by
 have h := vm
 unfold docOk exC
 simp only [ascC, Cas.ok, inB]
 rw [xF h]
 rfl
theorem wk : exC.length = 3 := rfl
theorem ix1000 : ansIx exC 1000 = [0] := by decide
theorem ix1500 : ansIx exC 1500 = [1] := by decide
theorem ix1200 : ansIx exC 1200 = [0, 1] := by decide
theorem ix500 : ansIx exC 500 = [0] := by decide
theorem ix3000 : ansIx exC 3000 = [2] := by decide
theorem wx : hitC exC 1500 = true := by decide
theorem nm : hitC exC 1200 = false := by decide
theorem hit500 : hitC exC 500 = false := by decide
theorem vQ : hitC exC 3000 = false := by decide
theorem mB : thereC exC 1000 := ⟨0, by decide, rfl⟩
theorem jl : ¬ thereC exC 1200 := fun h => by have := (mQ ch).2 h; rw [nm] at this; cases this
section
variable {hd : Hd} {L : List Itw}
theorem m9 {key : By} (hk : key.length = 32) (hhd : hdOf sha key 3 (entC exC) exC.length = hd) (hL : itsM L = showIs sha (entC exC) exC.length (ansIx exC 1000)) (hol t en : Int) (hen : 320 ≤ en - 1) (iv : Value) :
  (320 ≤ t → keptB sha keysH key ⟨1000, 1, 3, 150, 300⟩ en t (Rpw.m ⟨320, hd, iv, L⟩) = true) ∧ (t < 320 → keptB sha keysH key ⟨1000, hol, 3, 150, 300⟩ en t (Rpw.m ⟨320, hd, iv, L⟩) = false) ∧ backB sha key ⟨1000, hol, 3, 150, 300⟩ en t (Rpw.m ⟨320, hd, iv, L⟩) = false ∧ (hol ≠ 1 → keptB sha keysH key ⟨1000, hol, 3, 150, 300⟩ en t (Rpw.m ⟨320, hd, iv, L⟩) = false) := by
 have hix := cP exC 1000
 have hc := dz ch hk hhd hix hL
 have hdc : hd.c = 3 := by rw [← hhd]; rfl
 have hm : itmAt sha (entC exC) exC.length 0 ∈ itsM L := by rw [hL, ix1000]; exact ya.2 rfl
 have hd0 : decCas (itmAt sha (entC exC) exC.length 0).e = some ⟨1000, 150, exS⟩ := cL ch de de
 refine ⟨fun ht => ?_, fun ht => ?_, ?_, fun hn => ?_⟩
 ·exact ft.2 ⟨fh.2 ⟨⟨by show (300 : Int) ≤ 320; decide, hen, ht⟩, hdc, hc⟩, oC hm hd0 O O tQ O O uC⟩
 ·rw [Bool.eq_false_iff]; intro h
  have := (fh.1 (ft.1 h).1).1.2.2
  have : (320 : Int) ≤ t := this
  omega
 ·rw [Bool.eq_false_iff]; intro h
  have h9 : lackF hd.n 1000 (-1) false (itsM L) = true := (kg.1 h).2
  rw [iN hL hhd ch hix mB] at h9
  cases h9
 ·rw [Bool.eq_false_iff]; intro h
  obtain ⟨x, hx, d, h1, h2, h3, w, ps, h4, h5, _⟩ := kI (ft.1 h).2
  have hx : x ∈ itsM L := hx
  rw [hL, ix1000] at hx
  have hx := ya.1 hx
  rw [hx, hd0] at h1
  cases h1
  rw [tQ] at h4
  cases h4
  exact hn h5.symm
theorem ex_b {key : By} (hk : key.length = 32) (hhd : hdOf sha key 3 (entC exC) exC.length = hd) (hL : itsM L = showIs sha (entC exC) exC.length (ansIx exC 1200)) (iv : Value) :
  keptB sha keysH key ⟨1200, 1, 3, 150, 300⟩ 350 310 (Rpw.m ⟨310, hd, iv, L⟩) = false ∧ backB sha key ⟨1200, 1, 3, 150, 300⟩ 350 310 (Rpw.m ⟨310, hd, iv, L⟩) = true := by
 have hix := cP exC 1200
 have hc := dz ch hk hhd hix hL
 have hdc : hd.c = 3 := by rw [← hhd]; rfl
 refine ⟨?_, ?_⟩
 ·rw [Bool.eq_false_iff]; intro h
  obtain ⟨x, hx, d, h1, h2, _⟩ := kI (ft.1 h).2
  have hx : x ∈ itsM L := hx
  rw [hL] at hx
  obtain ⟨i, hi, rfl⟩ := dR hx
  have hb := dM hix i hi
  rw [cL ch om hb.2] at h1
  exact jl ⟨i.toNat, by omega, by rw [yO h1]; exact h2⟩
 ·exact kg.2 ⟨fh.2 ⟨⟨by show (300 : Int) ≤ 310; decide, by show (310 : Int) ≤ 350 - 1; decide, by show (310 : Int) ≤ 310; decide⟩, hdc, hc⟩, g8 hL hhd ch nm⟩
theorem gm {key : By} (hk : key.length = 32) (hhd : hdOf sha key 3 (entC exC) exC.length = hd) (hL : itsM L = showIs sha (entC exC) exC.length (ansIx exC 1000)) (iv : Value) :
  stateH sha keysH key 50 ⟨1000, 1, 3, 150, 300⟩ (repsM [⟨320, hd, iv, L⟩]) 320 = (2, 320) ∧ stateH sha keysH key 50 ⟨1000, 1, 3, 150, 300⟩ (repsM [⟨320, hd, iv, L⟩]) 319 = (1, 300) ∧ stateH sha keysH key 50 ⟨1000, 2, 3, 150, 300⟩ (repsM [⟨320, hd, iv, L⟩]) 349 = (1, 300) ∧ stateH sha keysH key 50 ⟨1000, 2, 3, 150, 300⟩ (repsM [⟨320, hd, iv, L⟩]) 350 = (3, 350) := by
 have a := m9 hk hhd hL 1 320 350 de iv
 have b := m9 hk hhd hL 1 319 350 de iv
 have d := m9 hk hhd hL 2 349 350 de iv
 have e := m9 hk hhd hL 2 350 350 de iv
 exact ⟨ff (lim := 50) (a.1 de) a.2.2.1, ff (lim := 50) (b.2.1 de) b.2.2.1, ff (lim := 50) (d.2.2.2 de) d.2.2.1, ff (lim := 50) (e.2.2.2 de) e.2.2.1⟩
theorem rI {key : By} (hk : key.length = 32) (hhd : hdOf sha key 3 (entC exC) exC.length = hd) (hL : itsM L = showIs sha (entC exC) exC.length (ansIx exC 1200)) (iv : Value) :
  stateH sha keysH key 50 ⟨1200, 1, 3, 150, 300⟩ (repsM [⟨310, hd, iv, L⟩]) 310 = (3, 310) := by
 have a := ex_b hk hhd hL iv
 exact ff (lim := 50) a.1 a.2
end
theorem mA {key : By} : stateH sha keysH key 50 ⟨1000, 1, 3, 150, 300⟩ (repsM []) 349 = (1, 300) ∧ stateH sha keysH key 50 ⟨1000, 1, 3, 150, 300⟩ (repsM []) 350 = (3, 350) := ⟨rfl, rfl⟩
theorem rv {La Lo L : List Itw} (ha : itsM La = showIs sha (entC exC) exC.length (ansIx exC 1500)) (ho : itsM Lo = showIs sha (entC exC) exC.length (ansIx exC 1000)) (hL : itsM L = showIs sha [(La.getD 0 Itw.z).m.e, (Lo.getD 0 Itw.z).m.e] 2 [0, 1]) : crookF (itsM L) (itsM L) = true := by
 have e1 : decCas (La.getD 0 Itw.z).m.e = some ⟨1500, 160, []⟩ := by
  rw [ef ha (k := 0) (by rw [ix1500]; decide), ix1500]; exact cL ch de de
 have e2 : decCas (Lo.getD 0 Itw.z).m.e = some ⟨1000, 150, exS⟩ := by
  rw [ef ho (k := 0) (by rw [ix1000]; decide), ix1000]; exact cL ch de de
 rw [hL]
 refine oY (tD (x := itmAt sha [(La.getD 0 Itw.z).m.e, (Lo.getD 0 Itw.z).m.e] 2 0) (y := itmAt sha [(La.getD 0 Itw.z).m.e, (Lo.getD 0 Itw.z).m.e] 2 1) (by simp [showIs]) (by simp [showIs]) (c := ⟨1500, 160, []⟩) (d := ⟨1000, 150, exS⟩) e1 e2 (show (0 : Int) < 1 by decide) (show (1000 : Int) ≤ 1500 by decide))
theorem gG {La Lo : List Itw} (ha : itsM La = showIs sha (entC exC) exC.length (ansIx exC 1500)) (ho : itsM Lo = showIs sha (entC exC) exC.length (ansIx exC 1000)) : regOk 3 [(La.getD 0 Itw.z).m.e, (Lo.getD 0 Itw.z).m.e] = true := by
 refine tV O (show 2 ≤ 60 by decide) fun s hs => ?_
 have h1 : ∀ {L : List Itw} {n : Int}, itsM L = showIs sha (entC exC) exC.length (ansIx exC n) → 0 < (ansIx exC n).length → (L.getD 0 Itw.z).m.e.length ≤ 1000 := by
  intro L n hL hn
  rw [ef hL hn]
  exact yB (t6 (nr exC)) de
 simp only [xL, xQ, yj] at hs
 rcases hs with rfl | rfl
 ·exact h1 ha (by rw [ix1500]; decide)
 ·exact h1 ho (by rw [ix1000]; decide)
theorem pP {x : Wsh} {lv : Value} {ps : List Pxy} {s : By} {w0 : World} (hlv : SlAt w0 lv 7 (ps.map Pxy.cells)) (h : cO x ps = some s) : Ret Tryz.prog 35 #[.agg #[jv x.signer, jv x.holder, jv x.rf, jv x.rt, jv x.carrier, jv x.serial, jv x.sf, jv x.st, sv x.sig], lv] w0 fun v w => v = .tuple #[sv s, jv 0] ∧ Ext No w0 w := by
 have := sx x lv ps w0 hlv
 rw [h] at this
 exact this
theorem wU (w0 : World) (hk0 : (blk 0 (kOf.map wv) 258).ok w0) :
  Ret Tryz.prog 104 #[] w0 fun v w => v = sv exS ∧ Ext No w0 w := by
 refine aB func104 O ntmps104 (lb O) fun a Z => ?_
 replace Z : Fr 31 [] [] a := Z
 replace Y : St No w0 [] w0 := St.init w0
 refine aa fun _ G1 => wla Z O fun a Z => G1 <| aa fun _ G2 => ?_
 refine ax Z Y call33 O (iQ 1 _) fun a w1 Z Y => nv Z <| xx (aX (v := .agg #[jv 1000, jv 2000]) O kr) <| xx (aX (v := .agg #[jv 100, jv 500]) O kr) <| xx (aX (v := .agg #[jv 1, jv 2, jv 1000, jv 2000, jv 100, jv 500, sv ([] : By)]) O kr) <| fun a Z => ax Z Y call151 O (ni (keyH 1) ⟨1, 2, 1000, 2000, 100, 500, []⟩ _ (fR _) de (Y.keepb hk0)) fun a w2 Z Y => nv Z <| xy O <| xx (aq O O) <| xx (aq O O) <| fun a Z => aC Z Y (zeroValue144 _) [jv 0, jv 0, jv 0, jv 0, jv 0, jv 0, .string (⟨#[]⟩)] O fun a w3 Z Y => az 0 Z Y [jv exP.frm, jv exP.to, jv exP.rf, jv exP.rt, jv exP.sf, jv exP.st, sv exP.sig] O (sizeOf144 _) fun a w4 Z Y => wla Z O fun a Z => G2 ?_
 refine aa fun _ G3 => ax (Z.p2 0 1 O) Y call33 O (iQ 2 _) fun a w5 Z Y => nv Z <| xx (aX (v := .agg #[jv 1000, jv 1200]) O kr) <| xx (aX (v := .agg #[jv 150, jv 200]) O kr) <| xx (aX (v := .agg #[jv 2, jv 1, jv 1000, jv 1200, jv 3, jv 7, jv 150, jv 200, sv ([] : By)]) O kr) <| fun a Z => ax Z Y call34 O (oo (keyH 2) ⟨2, 1, 1000, 1200, 3, 7, 150, 200, []⟩ _ (fR _) de (Y.keepb hk0)) fun a w6 Z Y => nv Z <| xy O <| xx (aq O O) <| xx (aq O O) <| fun a Z => aC Z Y (zeroValue90 _) [jv 0, jv 0, jv 0, jv 0, jv 0, jv 0, jv 0, jv 0, .string (⟨#[]⟩)] O fun a w7 Z Y => az 0 Z Y [jv exW.signer, jv exW.holder, jv exW.rf, jv exW.rt, jv exW.carrier, jv exW.serial, jv exW.sf, jv exW.st, sv exW.sig] O (sizeOf90 _) fun a w8 Z Y => wla Z O fun a Z => G3 ?_
 refine aa fun _ G4 => nv (Z.p3 0 1 3 O) <| xx (ao (Y.g 0 O) O (isAgg90 _) (sizeOf90 _)) <| xx (ao (Y.g 1 O) O (isAgg144 _) (sizeOf144 _)) <| fun a Z => aE (E := 144) (sz := 7) O [[jv exP.frm, jv exP.to, jv exP.rf, jv exP.rt, jv exP.sf, jv exP.st, sv exP.sig]] kr sm O de de Z Y fun a w9 Z Y => ax Z Y call35 O (pP (x := exW) (ps := [exP]) (Y.ow 0 O) pg) fun a w10 Z Y => nv Z <| xy O <| xx (aq O O) <| xx (aq O O) <| xz O <| xz O <| fun a Z => G4 ?_
 replace Y := Y.k0 0 O
 refine aa fun _ G5 => nv (Z.p2 0 5 O) <| xy O <| xz O <| fun a Z => G5 <| ap ?_
 refine al Z results104 (ag O ae) ?_
 exact ⟨by rfl, Y.ext⟩
theorem xq (w0 : World) (hk0 : (blk 0 (kOf.map wv) 258).ok w0) :
  Ret Tryz.prog 41 #[] w0 (MemR w0 (fun v : Value => .agg #[jv 3, v]) (fun v => [own v 55 3 (exC.map Cas.cells)]) (fun _ => True)) := by
 refine aB func41 O ntmps41 (lb O) fun a Z => ?_
 replace Z : Fr 7 [] [] a := Z
 replace Y : St No w0 [] w0 := St.init w0
 refine aa fun _ G1 => aC Z Y (zeroValue32 _) [jv 0, .slice none 0 0] O fun a w1 Z Y => G1 <| aa fun _ G2 => ?_
 refine ax Z Y call104 O (wU _ (Y.keepb hk0)) fun a w2 Z Y => nv Z <| xx (aX (v := .agg #[jv 1000, jv 150, sv exS]) O kr) <| xx (aX (v := .agg #[jv 1500, jv 160, sv ([] : By)]) O kr) <| xx (aX (v := .agg #[jv 2000, jv 170, sv ([] : By)]) O kr) <| fun a Z => aE (E := 55) (sz := 3) O [[jv 1000, jv 150, sv exS], [jv 1500, jv 160, sv ([] : By)], [jv 2000, jv 170, sv ([] : By)]] kr sm O de de Z Y fun a w3 Z Y => wlv Z (aX (v := .agg #[jv 3, (.slice (some ⟨w2.hz, 0, none⟩) 3 3)]) O kr) fun a Z => az 1 Z Y [jv 3, (.slice (some ⟨w2.hz, 0, none⟩) 3 3)] O (sizeOf32 _) fun a w4 Z Y => G2 ?_
 replace Z := Z.p1 0 O
 refine ap <| al Z results41 (ak O (bf (Y.g 1 O) (isAgg32 _) (sizeOf32 _)) ae) ?_
 exact ⟨(.slice (some ⟨w2.hz, 0, none⟩) 3 3), O, trivial, Y.ext, St.out (E := [own (.slice (some ⟨w2.hz, 0, none⟩) 3 3) 55 3 (exC.map Cas.cells)]) (H := []) (Y.select [0] de)⟩
theorem f8 (hd : Hd) (iv : Value) (L : List Itw) (lv : Value) (ix : List Int) (w0 : World) (hiv : ItsAt w0 iv L) (hlv : SlAt w0 lv 1 ((ix).map fun n => [jv n])) (hl : L.length = ix.length) (hix : ∀ k, k < ix.length → (L.getD k Itw.z).m.ix = ix.getD k 0) :
  Ret Tryz.prog 42 #[.agg #[jv hd.c, jv hd.n, sv hd.root, sv hd.tag, iv], lv] w0 fun v w => v = .bool true ∧ Ext No w0 w := by
 have hxb := hiv.len
 have hxc := hlv.2.1
 simp only [xC, big] at hxc
 refine zy func42 O ntmps42 (lb O) fun a Z Y => ?_
 refine aa fun _ G1 => aS Z Y O [jv hd.c, jv hd.n, sv hd.root, sv hd.tag, iv] O fun a w1 Z Y => wla Z O fun a Z => G1 <| ah fun _ G2 => ?_
 refine aa fun _ G3 => nv Z <| xx (ac (v := po w0.hz 4) O kr) <| xx (ld Y 0 O O (isAgg48 _) O) <| xx ((aL (sT := 48) (Y.arg hiv.1) O O (runUnderlying48 _)).asi (m' := (L.length : Int)) z6) <| xy O <| xx ((aL (sT := 24) (Y.arg hlv) O O (runUnderlying24 _)).asi (m' := (ix.length : Int)) z6) <| xx (v_ne O O) <| fun a Z => G3 ?_
 replace Z := Z.p4 1 2 4 11 O
 refine dm Z O (fun hc1 => ?_) (fun hc1 => ?_)
 ·exfalso; omega
 refine au <| G2 <| ah fun _ G4 => aa fun _ G5 => wla Z O fun a Z => G5 <| ar ?_
 refine aW (fun m a w => ∃ (k : Nat), m = ix.length - k ∧ (k ≤ ix.length) ∧ Fr 29 [(1, lv), (2, pq w0.hz), (5, jv (k : Int))] [] a ∧ St No w0 [blk w0.hz [jv hd.c, jv hd.n, sv hd.root, sv hd.tag, iv] 50] w) _ ⟨0, O, yc _, Z.pick [1, 2, 5], Y.select [0] de⟩ ?_
 rintro _ a w2 ⟨k, rfl, hk, Z, Y⟩
 refine ah fun _ G6 => aa fun _ G7 => nv Z <| xy O <| xy O <| xx ((aL (sT := 24) (Y.arg hlv) O O (runUnderlying24 _)).asi (m' := (ix.length : Int)) z6) <| xx (v_lt O O) <| fun a Z => G7 <| aA Z O (fun hc2 => ?_) (fun hc2 => ?_)
 ·have hkx : k < ix.length := by omega
  have hkl := hix k hkx
  refine au <| G6 <| ah fun _ G8 => ar <| ah fun _ G9 => aM (aN fun w3 hxz => ?_)
  replace Y := Y.grow hxz
  refine aU (k := 0) 10 [5, 9] Z ?_
  replace Z := Z.p6 1 2 5 12 13 14 O
  refine bQ 10 Z Y <| pl_v (ac (v := po w0.hz 4) O kr) <| pl_w (fun Y => ld Y 0 O O (isAgg48 _) O) <| pl_m O <| pl_w (fun Y => (am (i := (k : Int)) (sT := 48) (Y.arg hiv.1) O O (runUnderlying48 _) (sizeOf110 _) om zL).as (v' := slAddr iv (k * 3)) O) <| pl_w (fun Y => cC (k := k * 3) (j := 0) (Y.arg hiv.1) (i := k) zL O (fun _ _ => by kernel_rfl)) <| pl_w (fun Y => aD (u := jv ((L.getD k Itw.z).m.ix)) (i := k) (j := 0) (Y.arg hiv.1) zL O (isAgg3 _) (by rw [bA Itw.z]; rfl)) <| pl_m O <| pl_m O ?_
  refine pl_w (fun Y => (am (i := (k : Int)) (sT := 24) (Y.arg hlv) O O (runUnderlying24 _) (sizeOf3 _) om zL).as (v' := slAddr lv (k * 1)) O) <| pl_w (fun Y => aD (u := jv (ix.getD k 0)) (i := k) (j := 0) (Y.arg hlv) zL O (isAgg3 _) AW) fun a w4 Z Y => ?_
  replace Z := Z.p5 1 2 5 23 27 O
  refine ab <| aK (k := 10) 11 [10] ?_
  refine wlv Z (v_ne O O) fun a Z => ab <| aT <| G9 <| dm Z O (fun hc3 => ?_) (fun hc3 => ?_)
  ·exact absurd hkl hc3
  refine au <| G8 <| aj <| nv Z <| xy O <| xx (aP O O ⟨om, om⟩) <| xz O <| fun a Z => ab ?_
  refine ⟨_, ?_, k + 1, O, om, Z.pick [1, 2, 5], Y.select [0] de⟩
  omega
 refine aO <| G4 <| aa fun _ G10 => wla Z O fun a Z => G10 ?_
 replace Z := Z.p1 4 O
 replace Y := Y.k0 0 O
 refine ap <| al Z results42 (ag O ae) ?_
 exact ⟨by rfl, Y.ext⟩
theorem fF (n h : Int) (lv : Value) (R : List Rpw) (t s0 s1 : Int) (w0 : World) (hlv : RepAt w0 lv R) (hRp : ∀ r ∈ R, ∀ x ∈ r.L, x.m.pf.length ≤ 1000) (hso : eW (keyG 3) 50 ⟨n, h, 3, 150, 300⟩ R.length t = true) (hs : stateH sha keysH (keyG 3) 50 ⟨n, h, 3, 150, 300⟩ (repsM R) t = (s0, s1)) (hk0 : (blk 0 (kOf.map wv) 258).ok w0) :
  Ret Tryz.prog 43 #[jv n, jv h, lv, jv t, jv s0, jv s1] w0 fun v w => v = .bool true ∧ Ext No w0 w := by
 refine zE func43 O ntmps43 (lb O) fun a Z Y => ?_
 refine aa fun _ G1 => wla Z O fun a Z => G1 <| aa fun _ G2 => ?_
 refine bC Z Y call18 O (mI _) fun a w1 x2 hp Z Y => ?_
 revert x2 hp Z Y; rintro kv1 hp Z Y
 clear hp
 replace Y := Y.n1 O
 refine ax Z Y call13 O (ka 3 _ om) fun a w2 Z Y => nv Z <| xy O <| xy O <| xx (aX (v := .agg #[jv n, jv h, jv 3, jv 150, jv 300]) O kr) <| xy O <| xy O <| fun a Z => ax Z Y call17 O (gz (by rw [hs]) (mz kv1 lv keysH (keyG 3) 50 (⟨n, h, 3, 150, 300⟩ : Chg) R t _ (Y.ow 0 O) (iw Y hlv) hRp hso (Y.keepb hk0))) fun a w3 Z Y => nv Z <| xy O <| xx (aq O O) <| xx (aq O O) <| xx (aq O O) <| xz O <| xz O <| xz O <| fun a Z => G2 ?_
 replace Y := Y.k0 0 O
 refine aa fun _ G3 => nv (Z.p6 4 5 12 13 14 15 O) <| xy O <| xx ((v_eq O O).asb (b' := true) O) <| xy O <| xA (ay O) <| xA (ay O) <| xA ((v_eq O O).asb (b' := true) sm) <| xx (aw O O) <| xy O <| xA (ay O) <| xA (ay O) <| xA ((v_eq O O).asb (b' := true) sm) <| xx (aw O O) <| xz O <| fun a Z => G3 ?_
 replace Z := Z.p1 12 O
 refine ap <| al Z results43 (ag O ae) ?_
 exact ⟨by rfl, Y.ext⟩
theorem kt {key : By} {n h t : Int} {k : Nat} (hk : key.length = 32) (hn : (0 ≤ n ∧ n ≤ 2000) ∧ 0 ≤ h ∧ h ≤ 2) (hl : k ≤ 1) (ht : 300 ≤ t ∧ t ≤ 350) : eW key 50 ⟨n, h, 3, 150, 300⟩ k t = true := by
 simp only [eW, Chg.ok, inB, xD, xG]
 omega
theorem wA (w0 : World) (hk0 : (blk 0 (kOf.map wv) 258).ok w0) :
  Ret Tryz.prog 11 #[] w0 fun v w => v = .bool true ∧ Ext No w0 w := by
 obtain ⟨kk, hkk⟩ : ∃ k, keyG 3 = k := ⟨_, rfl⟩
 have hk32 : kk.length = 32 := by rw [← hkk]; exact oe _
 obtain ⟨hd, hhd⟩ : ∃ h, hdOf sha kk 3 (entC exC) exC.length = h := ⟨_, rfl⟩
 have hxl := wk
 refine aB func11 O ntmps11 (lb O) fun a Z => ?_
 replace Z : Fr 243 [] [] a := Z
 replace Y : St No w0 [] w0 := St.init w0
 refine aa fun _ G1 => wla Z O fun a Z => G1 <| aa fun _ G2 => ?_
 refine ax Z Y call13 O (gz (by rw [hkk]) (ka 3 _ de)) fun a w1 Z Y => wla Z O fun a Z => G2 <| aa fun _ G3 => ?_
 refine bC Z Y call41 O (xq _ (Y.keepb hk0)) fun a w2 x2 hp Z Y => ?_
 revert x2 hp Z Y; rintro dv1 hp Z Y
 clear hp
 replace Y := Y.n1 O
 refine aC Z Y (zeroValue32 _) [jv 0, .slice none 0 0] O fun a w3 Z Y => bd (us := [jv 3, dv1]) 0 Z Y O O O (sizeOf32 _) AK (lb O) (ds := [jv 3, dv1]) O O fun a w4 Z Y => ?_
 refine G3 <| aa fun _ G4 => ?_
 refine nv Z <| xy O <| xx (ao (Y.g 0 O) O (isAgg32 _) (sizeOf32 _)) <| fun a Z => bC Z Y call22 O (ez kk hd 3 dv1 exC 1000 _ (Y.ow 1 O) hk32 ch hhd om (Y.keepb hk0)) fun a w5 x4 hp Z Y => ?_
 obtain ⟨iv3, Liv3⟩ := x4
 have hLiv3 := hp
 try dsimp only at Y
 replace Y := Y.n3 O
 refine nv Z <| xy O <| xx (aq O O) <| xx (aq O O) <| fun a Z => aC Z Y (zeroValue50 _) [jv 0, jv 0, .string (⟨#[]⟩), .string (⟨#[]⟩), .slice none 0 0] O fun a w6 Z Y => bd (us := [jv hd.c, jv hd.n, sv hd.root, sv hd.tag, iv3]) 0 Z Y O O O (sizeOf50 _) zR (lb O) (ds := [jv hd.c, jv hd.n, sv hd.root, sv hd.tag, iv3]) O O fun a w7 Z Y => ?_
 refine wla Z O fun a Z => G4 ?_
 refine aa fun _ G5 => nv (Z.p5 0 1 2 3 4 O) <| xy O <| xx (ao (Y.g 2 O) O (isAgg32 _) (sizeOf32 _)) <| fun a Z => bC Z Y call22 O (ez kk hd 3 dv1 exC 1500 _ (Y.ow 3 O) hk32 ch hhd om (Y.keepb hk0)) fun a w8 x6 hp Z Y => ?_
 obtain ⟨iv5, Liv5⟩ := x6
 have hLiv5 := hp
 try dsimp only at Y
 replace Y := Y.n5 O
 refine nv Z <| xy O <| xx (aq O O) <| xx (aq O O) <| fun a Z => aC Z Y (zeroValue50 _) [jv 0, jv 0, .string (⟨#[]⟩), .string (⟨#[]⟩), .slice none 0 0] O fun a w9 Z Y => bd (us := [jv hd.c, jv hd.n, sv hd.root, sv hd.tag, iv5]) 0 Z Y O O O (sizeOf50 _) zR (lb O) (ds := [jv hd.c, jv hd.n, sv hd.root, sv hd.tag, iv5]) O O fun a w10 Z Y => ?_
 refine wla Z O fun a Z => G5 ?_
 refine aa fun _ G6 => nv (Z.p7 0 1 2 3 4 5 6 O) <| xy O <| xx (ao (Y.g 4 O) O (isAgg32 _) (sizeOf32 _)) <| fun a Z => bC Z Y call22 O (ez kk hd 3 dv1 exC 1200 _ (Y.ow 5 O) hk32 ch hhd om (Y.keepb hk0)) fun a w11 x8 hp Z Y => ?_
 obtain ⟨iv7, Liv7⟩ := x8
 have hLiv7 := hp
 try dsimp only at Y
 replace Y := Y.n7 O
 refine nv Z <| xy O <| xx (aq O O) <| xx (aq O O) <| fun a Z => aC Z Y (zeroValue50 _) [jv 0, jv 0, .string (⟨#[]⟩), .string (⟨#[]⟩), .slice none 0 0] O fun a w12 Z Y => bd (us := [jv hd.c, jv hd.n, sv hd.root, sv hd.tag, iv7]) 0 Z Y O O O (sizeOf50 _) zR (lb O) (ds := [jv hd.c, jv hd.n, sv hd.root, sv hd.tag, iv7]) O O fun a w13 Z Y => ?_
 refine wla Z O fun a Z => G6 ?_
 refine aa fun _ G7 => nv (Z.p9 0 1 2 3 4 5 6 7 8 O) <| xy O <| xx (ao (Y.g 6 O) O (isAgg32 _) (sizeOf32 _)) <| fun a Z => bC Z Y call22 O (ez kk hd 3 dv1 exC 500 _ (Y.ow 7 O) hk32 ch hhd om (Y.keepb hk0)) fun a w14 x10 hp Z Y => ?_
 obtain ⟨iv9, Liv9⟩ := x10
 have hLiv9 := hp
 try dsimp only at Y
 replace Y := Y.n9 O
 refine nv Z <| xy O <| xx (aq O O) <| xx (aq O O) <| fun a Z => aC Z Y (zeroValue50 _) [jv 0, jv 0, .string (⟨#[]⟩), .string (⟨#[]⟩), .slice none 0 0] O fun a w15 Z Y => bd (us := [jv hd.c, jv hd.n, sv hd.root, sv hd.tag, iv9]) 0 Z Y O O O (sizeOf50 _) zR (lb O) (ds := [jv hd.c, jv hd.n, sv hd.root, sv hd.tag, iv9]) O O fun a w16 Z Y => ?_
 refine wla Z O fun a Z => G7 ?_
 refine aa fun _ G8 => nv (Z.p11 0 1 2 3 4 5 6 7 8 9 10 O) <| xy O <| xx (ao (Y.g 8 O) O (isAgg32 _) (sizeOf32 _)) <| fun a Z => bC Z Y call22 O (ez kk hd 3 dv1 exC 3000 _ (Y.ow 9 O) hk32 ch hhd om (Y.keepb hk0)) fun a w17 x12 hp Z Y => ?_
 obtain ⟨iv11, Liv11⟩ := x12
 have hLiv11 := hp
 try dsimp only at Y
 replace Y := Y.n11 O
 refine nv Z <| xy O <| xx (aq O O) <| xx (aq O O) <| fun a Z => aC Z Y (zeroValue50 _) [jv 0, jv 0, .string (⟨#[]⟩), .string (⟨#[]⟩), .slice none 0 0] O fun a w18 Z Y => bd (us := [jv hd.c, jv hd.n, sv hd.root, sv hd.tag, iv11]) 0 Z Y O O O (sizeOf50 _) zR (lb O) (ds := [jv hd.c, jv hd.n, sv hd.root, sv hd.tag, iv11]) O O fun a w19 Z Y => ?_
 refine wla Z O fun a Z => G8 ?_
 refine aa fun _ G9 => nv (Z.p13 0 1 2 3 4 5 6 7 8 9 10 11 12 O) <| xy O <| xx (ao (Y.g 10 O) O (isAgg32 _) (sizeOf32 _)) <| fun a Z => ax Z Y call23 O (rC kk hd 3 dv1 exC _ (Y.ow 11 O) hk32 ch hhd (Y.keepb hk0)) fun a w20 Z Y => nv Z <| xy O <| xx (aq O O) <| xx (aq O O) <| fun a Z => aC Z Y (zeroValue47 _) [jv 0, jv 0, .string (⟨#[]⟩), .string (⟨#[]⟩)] O fun a w21 Z Y => az 0 Z Y [jv hd.c, jv hd.n, sv hd.root, sv hd.tag] O (sizeOf47 _) fun a w22 Z Y => wla Z O fun a Z => G9 ?_
 refine ah fun _ G10 => aa fun _ G11 => nv (Z.p15 0 1 2 3 4 5 6 7 8 9 10 11 12 13 14 O) <| xy O <| xx ((v_ne O O).asb (b' := false) O) <| xy O <| xA (ay O) <| xA ((v_ne O O).asb (b' := false) O) <| xx (ai O O) <| xy O <| xA (ay O) <| xA ((v_ne O O).asb (b' := false) O) <| xx (ai O O) <| xy O <| xA (ay O) <| xA ((v_ne O O).asb (b' := false) O) <| xx (ai O O) <| xy O <| xA (ay O) <| xA ((v_ne O O).asb (b' := false) O) <| xx (ai O O) <| xy O <| xA (ay O) <| xA ((v_ne O O).asb (b' := false) O) <| xx (ai O O) <| xy O <| xA (ao (Y.g 9 O) O (isAgg50 _) (sizeOf50 _)) <| fun a Z => eo Z ?_
 refine aE (E := 3) (sz := 1) O [[jv 0]] kr sm O de de Z Y fun a w23 Z Y => aF Z Y call42 O (f8 hd iv3 Liv3 (.slice (some ⟨w22.hz, 0, none⟩) 1 1) [0] _ (bp (k := 11) Y O) (Y.ow 0 O) (by rw [dI hLiv3, ix1000] <;> rfl) (fun k hk => by rw [ef hLiv3 (by rw [ix1000]; exact hk), ix1000] <;> rfl)) fun a w24 Z Y => nv Z <| xA ((bD O).asb (b' := false) O) <| xx (ai O O) <| xy O <| xA (ao (Y.g 8 O) O (isAgg50 _) (sizeOf50 _)) <| fun a Z => eo Z ?_
 refine aE (E := 3) (sz := 1) O [[jv 1]] kr sm O de de Z Y fun a w25 Z Y => aF Z Y call42 O (f8 hd iv5 Liv5 (.slice (some ⟨w24.hz, 0, none⟩) 1 1) [1] _ (bp (k := 10) Y O) (Y.ow 0 O) (by rw [dI hLiv5, ix1500] <;> rfl) (fun k hk => by rw [ef hLiv5 (by rw [ix1500]; exact hk), ix1500] <;> rfl)) fun a w26 Z Y => nv Z <| xA ((bD O).asb (b' := false) O) <| xx (ai O O) <| xy O <| xA (ao (Y.g 7 O) O (isAgg50 _) (sizeOf50 _)) <| fun a Z => eo Z ?_
 refine aE (E := 3) (sz := 1) O [[jv 0], [jv 1]] kr sm O de de Z Y fun a w27 Z Y => aF Z Y call42 O (f8 hd iv7 Liv7 (.slice (some ⟨w26.hz, 0, none⟩) 2 2) [0, 1] _ (bp (k := 9) Y O) (Y.ow 0 O) (by rw [dI hLiv7, ix1200] <;> rfl) (fun k hk => by rw [ef hLiv7 (by rw [ix1200]; exact hk), ix1200] <;> rfl)) fun a w28 Z Y => nv Z <| xA ((bD O).asb (b' := false) O) <| xx (ai O O) <| xy O <| xA (ao (Y.g 6 O) O (isAgg50 _) (sizeOf50 _)) <| fun a Z => eo Z ?_
 refine aE (E := 3) (sz := 1) O [[jv 0]] kr sm O de de Z Y fun a w29 Z Y => aF Z Y call42 O (f8 hd iv9 Liv9 (.slice (some ⟨w28.hz, 0, none⟩) 1 1) [0] _ (bp (k := 8) Y O) (Y.ow 0 O) (by rw [dI hLiv9, ix500] <;> rfl) (fun k hk => by rw [ef hLiv9 (by rw [ix500]; exact hk), ix500] <;> rfl)) fun a w30 Z Y => nv Z <| xA ((bD O).asb (b' := false) O) <| xx (ai O O) <| xy O <| xA (ao (Y.g 5 O) O (isAgg50 _) (sizeOf50 _)) <| fun a Z => eo Z ?_
 refine aE (E := 3) (sz := 1) O [[jv 2]] kr sm O de de Z Y fun a w31 Z Y => aF Z Y call42 O (f8 hd iv11 Liv11 (.slice (some ⟨w30.hz, 0, none⟩) 1 1) [2] _ (bp (k := 7) Y O) (Y.ow 0 O) (by rw [dI hLiv11, ix3000] <;> rfl) (fun k hk => by rw [ef hLiv11 (by rw [ix3000]; exact hk), ix3000] <;> rfl)) fun a w32 Z Y => nv Z <| xA ((bD O).asb (b' := false) O) <| xx (ai O O) <| fun a Z => G11 ?_
 replace Z := Z.p10 0 1 2 3 5 7 9 11 13 113 O
 replace Y := Y.k13 262112 O
 refine aJ Z O ?_
 refine au <| G10 <| aa fun _ G12 => nv Z <| xy O <| xx (ao (Y.g 7 O) O (isAgg50 _) (sizeOf50 _)) <| fun a Z => ax Z Y call24 O (gz (by rw [vr hLiv5 ch wx] <;> rfl) (td kk hd iv5 Liv5 1500 _ (bp (k := 8) Y O) (cV om hLiv5) (dz ch hk32 hhd (cP exC 1500) hLiv5) (Y.keepb hk0))) fun a w33 Z Y => nv Z <| xy O <| xx (aq O O) <| xx (aq O O) <| fun a Z => aC Z Y (zeroValue55 _) [jv 0, jv 0, .string (⟨#[]⟩)] O fun a w34 Z Y => az 0 Z Y [jv ((exC.getD 1 Cas.z).n), jv ((exC.getD 1 Cas.z).t), sv ((exC.getD 1 Cas.z).ev)] O (sizeOf55 _) fun a w35 Z Y => wla Z O fun a Z => G12 ?_
 refine aa fun _ G13 => nv (Z.p11 0 1 2 3 5 7 9 11 13 15 16 O) <| xy O <| xx (ao (Y.g 8 O) O (isAgg50 _) (sizeOf50 _)) <| fun a Z => ax Z Y call24 O (gz (by rw [rj hLiv5 ch (cP exC 1500) jl] <;> rfl) (td kk hd iv5 Liv5 1200 _ (bp (k := 9) Y O) (cV om hLiv5) (dz ch hk32 hhd (cP exC 1500) hLiv5) (Y.keepb hk0))) fun a w36 Z Y => nv Z <| xy O <| xx (aq O O) <| xx (aq O O) <| fun a Z => aC Z Y (zeroValue55 _) [jv 0, jv 0, .string (⟨#[]⟩)] O fun a w37 Z Y => az 0 Z Y [jv Cas.z.n, jv Cas.z.t, sv Cas.z.ev] O (sizeOf55 _) fun a w38 Z Y => wla Z O fun a Z => G13 ?_
 replace Z := Z.p12 0 1 2 3 5 7 9 11 13 15 16 18 O
 replace Y := Y.k14 32766 O
 refine ah fun _ G14 => aM (aN fun w39 hxz => ?_)
 replace Y := Y.grow hxz
 refine aK (k := 0) 2 [1] ?_
 refine nv Z <| xy O <| xy O <| fun a Z => ab <| aU (k := 2) 7 [2, 6] Z ?_
 replace Z : Fr 243 [(0, _), (1, _), (2, _), (3, _), (5, _), (7, _), (9, _), (11, _), (13, _), (15, _), (16, _), (18, _), (126, _), (127, _)] [] a := Z.pick [0, 1, 2, 3, 5, 7, 9, 11, 13, 15, 16, 18, 126, 127]
 refine bQ 5 Z Y <| pl_w (fun Y => ao (Y.g 0 O) O (isAgg55 _) (sizeOf55 _)) <| pl_v (ac (v := po w2.hz 1) O kr) <| pl_w (fun Y => ld Y 12 O O (isAgg30 _) O) <| pl_w (fun Y => (am (i := 1) (sT := 30) (Y.ow 13 O) O O (runUnderlying30 _) (sizeOf55 _) om z8).as (v' := slAddr dv1 (1 * 3)) O) <| pl_w (fun Y => (bL (Y.ow 13 O) (i := 1) z8 O (isAgg55 _) (sizeOf55 _)).as (v' := .agg #[jv ((exC.getD 1 Cas.z).n), jv ((exC.getD 1 Cas.z).t), sv ((exC.getD 1 Cas.z).ev)]) AG) fun a w40 Z Y => ?_
 replace Z := Z.p13 0 1 2 3 5 7 9 11 13 18 127 128 132 O
 refine ab <| aK (k := 7) 14 [13] ?_
 refine nv Z <| xA ((oO O O kr (eqCas ((exC.getD 1 Cas.z).n) ((exC.getD 1 Cas.z).t) ((exC.getD 1 Cas.z).ev) ((exC.getD 1 Cas.z).n) ((exC.getD 1 Cas.z).t) ((exC.getD 1 Cas.z).ev) _)).asb (b' := true) sm) <| xx (aw O O) <| xy O <| xA (ay O) <| xA ((bD O).asb (b' := true) O) <| xx (aw O O) <| xy O <| fun a Z => ab <| aU (k := 14) 16 [14, 15] Z ?_
 refine bQ 2 (Z.p20 0 1 2 3 5 7 9 11 13 18 127 128 132 133 134 135 136 137 138 139 O) Y <| pl_m O <| pl_w (fun Y => ao (Y.g 6 O) O (isAgg50 _) (sizeOf50 _)) fun a w41 Z Y => ?_
 replace Z := Z.p12 0 1 2 3 5 7 9 11 13 139 140 141 O
 refine ab <| aK (k := 16) 19 [18] ?_
 refine aF Z Y call25 O (cB (g8 hLiv7 hhd ch nm) (ig kk hd iv7 Liv7 1200 _ (bp (k := 7) Y O) (cV om hLiv7) (dz ch hk32 hhd (cP exC 1200) hLiv7) om (Y.keepb hk0))) fun a w42 Z Y => nv Z <| xx (aw O O) <| xy O <| fun a Z => ab <| aU (k := 19) 21 [19, 20] Z ?_
 refine bQ 2 (Z.p15 0 1 2 3 5 7 9 11 13 139 140 141 142 143 144 O) Y <| pl_m O <| pl_w (fun Y => ao (Y.g 6 O) O (isAgg50 _) (sizeOf50 _)) fun a w43 Z Y => ?_
 replace Z := Z.p12 0 1 2 3 5 7 9 11 13 144 145 146 O
 refine ab <| aK (k := 21) 25 [24] ?_
 refine aF Z Y call25 O (cB (iN hLiv7 hhd ch (cP exC 1200) mB) (ig kk hd iv7 Liv7 1000 _ (bp (k := 7) Y O) (cV om hLiv7) (dz ch hk32 hhd (cP exC 1200) hLiv7) om (Y.keepb hk0))) fun a w44 Z Y => nv Z <| xA ((bD O).asb (b' := true) O) <| xx (aw O O) <| xy O <| fun a Z => ab <| aU (k := 25) 27 [25, 26] Z ?_
 refine bQ 2 (Z.p16 0 1 2 3 5 7 9 11 13 144 145 146 147 148 149 150 O) Y <| pl_m O <| pl_w (fun Y => ao (Y.g 4 O) O (isAgg50 _) (sizeOf50 _)) fun a w45 Z Y => ?_
 replace Z := Z.p11 0 1 2 3 5 7 11 13 150 151 152 O
 refine ab <| aK (k := 27) 30 [29] ?_
 refine aF Z Y call25 O (cB (g8 hLiv9 hhd ch hit500) (ig kk hd iv9 Liv9 500 _ (bp (k := 5) Y O) (cV om hLiv9) (dz ch hk32 hhd (cP exC 500) hLiv9) om (Y.keepb hk0))) fun a w46 Z Y => nv Z <| xx (aw O O) <| xy O <| fun a Z => ab <| aU (k := 30) 32 [30, 31] Z ?_
 replace Z : Fr 243 [(0, _), (1, _), (2, _), (3, _), (5, _), (7, _), (11, _), (13, _), (150, _), (151, _), (152, _), (153, _), (154, _), (155, _)] [] a := Z.pick [0, 1, 2, 3, 5, 7, 11, 13, 150, 151, 152, 153, 154, 155]
 refine bQ 2 Z Y <| pl_m O <| pl_w (fun Y => ao (Y.g 2 O) O (isAgg50 _) (sizeOf50 _)) fun a w47 Z Y => ?_
 replace Z := Z.p10 0 1 2 3 5 7 13 155 156 157 O
 refine ab <| aK (k := 32) 35 [34] ?_
 refine aF Z Y call25 O (cB (g8 hLiv11 hhd ch vQ) (ig kk hd iv11 Liv11 3000 _ (bp (k := 3) Y O) (cV om hLiv11) (dz ch hk32 hhd (cP exC 3000) hLiv11) om (Y.keepb hk0))) fun a w48 Z Y => nv Z <| xx (aw O O) <| xy O <| fun a Z => ab <| aU (k := 35) 38 [35, 36, 37] Z ?_
 refine bQ 3 (Z.p13 0 1 2 3 5 7 13 155 156 157 158 159 160 O) Y <| pl_m O <| pl_w (fun Y => ao (Y.g 8 O) O (isAgg50 _) (sizeOf50 _)) <| pl_w (fun Y => ao (Y.g 6 O) O (isAgg50 _) (sizeOf50 _)) fun a w49 Z Y => ?_
 replace Z := Z.p11 0 1 2 3 5 7 13 160 161 162 163 O
 refine ab <| aK (k := 38) 42 [41] ?_
 refine aF Z Y call30 O (cB (j9 ch (cP exC 1500) (cP exC 1200) hLiv5 hLiv7) (kU kk hd iv5 iv7 Liv5 Liv7 _ (bp (k := 9) Y O) (bp (k := 7) Y O) (cV om hLiv5) (cV om hLiv7) (dz ch hk32 hhd (cP exC 1500) hLiv5) (dz ch hk32 hhd (cP exC 1200) hLiv7) (Y.keepb hk0))) fun a w50 Z Y => nv Z <| xA ((bD O).asb (b' := true) O) <| xx (aw O O) <| xy O <| fun a Z => ab <| aU (k := 42) 45 [43, 44] Z ?_
 refine bQ 3 (Z.p15 0 1 2 3 5 7 13 160 161 162 163 164 165 166 167 O) Y <| pl_v (ac (v := pq w8.hz) O kr) <| pl_w (fun Y => bO (ds := [jv hd.c, jv hd.n, sv hd.root, sv hd.tag]) (Y.g 8 O) O (isAgg47 _) (sizeOf47 _) O) <| pl_w (fun Y => ao (Y.g 1 O) O (isAgg47 _) (sizeOf47 _)) fun a w51 Z Y => ?_
 replace Z := Z.p9 0 1 2 3 5 7 167 169 170 O
 refine ab <| aK (k := 45) 48 [47] ?_
 refine nv Z <| xA ((oO O O kr (eqHd hd.c hd.n hd.root hd.tag hd.c hd.n hd.root hd.tag _)).asb (b' := true) sm) <| xx (aw O O) <| xz O <| fun a Z => ab <| aT <| G14 <| aa fun _ G15 => nv Z <| xx (ao (Y.g 10 O) O (isAgg50 _) (sizeOf50 _)) <| xx (aX (v := .agg #[jv 320, jv hd.c, jv hd.n, sv hd.root, sv hd.tag, iv3]) O (by obtain ⟨_, _, _, eb0_⟩ := cQ (bp (k := 11) Y O).1; rw [eb0_]; kernel_rfl)) <| fun a Z => aE (E := 52) (sz := 6) O [[jv 320, jv hd.c, jv hd.n, sv hd.root, sv hd.tag, iv3]] kr sm O de de Z Y fun a w52 Z Y => wla Z O fun a Z => G15 ?_
 replace Y := Y.k11 32721 O
 refine aa fun _ G16 => ax (Z.p8 0 1 2 3 5 7 19 20 O) Y call43 O (fF 1000 1 (.slice none 0 0) [] 349 1 300 _ ⟨fw _ _, fun r h => by cases h⟩ (fun r h => by cases h) (by rw [hkk]; exact kt hk32 de (yc 1) de) (by rw [hkk]; exact mA.1) (Y.keepb hk0)) fun a w53 Z Y => wlm Z O fun a Z => aF Z Y call43 O (fF 1000 1 (.slice none 0 0) [] 350 3 350 _ ⟨fw _ _, fun r h => by cases h⟩ (fun r h => by cases h) (by rw [hkk]; exact kt hk32 de (yc 1) de) (by rw [hkk]; exact mA.2) (Y.keepb hk0)) fun a w54 Z Y => ?_
 refine nv Z <| xx (aw O O) <| xy O <| xA (ay O) <| fun a Z => aF Z Y call43 O (fF 1000 1 (.slice (some ⟨w51.hz, 0, none⟩) 1 1) [⟨320, hd, iv3, Liv3⟩] 320 2 320 _ ⟨(Y.ow 0 O), fun r h => by rw [ya.1 h]; exact (bp (k := 8) Y O)⟩ (fun r h => by rw [ya.1 h]; exact (cV om hLiv3)) Ay (by rw [hkk]; exact (gm hk32 hhd hLiv3 iv3).1) (Y.keepb hk0)) fun a w55 Z Y => ?_
 refine nv Z <| xx (aw O O) <| xy O <| xA (ay O) <| fun a Z => aF Z Y call43 O (fF 1000 1 (.slice (some ⟨w51.hz, 0, none⟩) 1 1) [⟨320, hd, iv3, Liv3⟩] 319 1 300 _ ⟨(Y.ow 0 O), fun r h => by rw [ya.1 h]; exact (bp (k := 8) Y O)⟩ (fun r h => by rw [ya.1 h]; exact (cV om hLiv3)) Ay (by rw [hkk]; exact (gm hk32 hhd hLiv3 iv3).2.1) (Y.keepb hk0)) fun a w56 Z Y => ?_
 refine nv Z <| xx (aw O O) <| xy O <| xA (ay O) <| fun a Z => aF Z Y call43 O (fF 1000 2 (.slice (some ⟨w51.hz, 0, none⟩) 1 1) [⟨320, hd, iv3, Liv3⟩] 349 1 300 _ ⟨(Y.ow 0 O), fun r h => by rw [ya.1 h]; exact (bp (k := 8) Y O)⟩ (fun r h => by rw [ya.1 h]; exact (cV om hLiv3)) Ay (by rw [hkk]; exact (gm hk32 hhd hLiv3 iv3).2.2.1) (Y.keepb hk0)) fun a w57 Z Y => ?_
 refine nv Z <| xx (aw O O) <| xy O <| xA (ay O) <| fun a Z => aF Z Y call43 O (fF 1000 2 (.slice (some ⟨w51.hz, 0, none⟩) 1 1) [⟨320, hd, iv3, Liv3⟩] 350 3 350 _ ⟨(Y.ow 0 O), fun r h => by rw [ya.1 h]; exact (bp (k := 8) Y O)⟩ (fun r h => by rw [ya.1 h]; exact (cV om hLiv3)) Ay (by rw [hkk]; exact (gm hk32 hhd hLiv3 iv3).2.2.2) (Y.keepb hk0)) fun a w58 Z Y => nv Z <| xx (aw O O) <| xy O <| xA (ao (Y.g 3 O) O (isAgg50 _) (sizeOf50 _)) <| xA (aX (v := .agg #[jv 310, jv hd.c, jv hd.n, sv hd.root, sv hd.tag, iv7]) O (by obtain ⟨_, _, _, eb0_⟩ := cQ (bp (k := 4) Y O).1; rw [eb0_]; kernel_rfl)) <| fun a Z => eo Z ?_
 refine aE (E := 52) (sz := 6) O [[jv 310, jv hd.c, jv hd.n, sv hd.root, sv hd.tag, iv7]] kr sm O de de Z Y fun a w59 Z Y => aF Z Y call43 O (fF 1200 1 (.slice (some ⟨w58.hz, 0, none⟩) 1 1) [⟨310, hd, iv7, Liv7⟩] 310 3 310 _ ⟨(Y.ow 0 O), fun r h => by rw [ya.1 h]; exact (bp (k := 5) Y O)⟩ (fun r h => by rw [ya.1 h]; exact (cV om hLiv7)) Ay (by rw [hkk]; exact (rI hk32 hhd hLiv7 iv7)) (Y.keepb hk0)) fun a w60 Z Y => nv Z <| xx (aw O O) <| xz O <| fun a Z => G16 ?_
 replace Z := Z.p7 0 1 2 3 5 19 21 O
 replace Y := Y.k9 4076 O
 refine ah fun _ G17 => ?_
 have hla := dI hLiv5
 have hlo := dI hLiv3
 rw [ix1500] at hla
 rw [ix1000] at hlo
 simp only [xN, xP] at hla hlo
 obtain ⟨hdt, hhdt⟩ : ∃ h, hdOf sha kk 3 [(Liv5.getD 0 Itw.z).m.e, (Liv3.getD 0 Itw.z).m.e] 2 = h := ⟨_, rfl⟩
 refine aM (aN fun w61 hxz => ?_)
 replace Y := Y.grow hxz
 refine aU (k := 0) 20 [17, 19] Z ?_
 replace Z := Z.p7 0 1 2 3 5 19 21 O
 refine eC 18 19 16 [(12, 11, fun u => Value.agg #[jv 3, u]), (15, 14, fun u => u), (16, 15, fun u => tupAt u 0)] 50 [jv 0, jv 0, .string (⟨#[]⟩), .string (⟨#[]⟩), .slice none 0 0] (fun u => u.cells.toList) 20 [[], [], [1], [2], [3], [4], [], [6], [7], [8], [9], [5, 10], [11], [], [0, 12, 13, 11], [14], [15], [15], [], [16, 18]] (fun i => match i with | 0 => pv (sv kk) | 1 => pv (po w8.hz 4) | 2 => pv (iv5) | 3 => pv (slAddr iv5 (0 * 3)) | 4 => pv (slAddr iv5 (0 * 3 + 1)) | 5 => pv (sv ((Liv5.getD 0 Itw.z).m.e)) | 6 => pv (po w5.hz 4) | 7 => pv (iv3) | 8 => pv (slAddr iv3 (0 * 3)) | 9 => pv (slAddr iv3 (0 * 3 + 1)) | 10 => pv (sv ((Liv3.getD 0 Itw.z).m.e)) | 11 => pm (fun b : Nat => .slice (some ⟨b, 0, none⟩) 2 2) (fun b => [own (.slice (some ⟨b, 0, none⟩) 2 2) 9 1 [[sv ((Liv5.getD 0 Itw.z).m.e)], [sv ((Liv3.getD 0 Itw.z).m.e)]]]) (fun _ => True) | 12 => fun v E => (∃ sx12_ sy12_ sz12_, v = .agg #[jv 3, (.slice sx12_ sy12_ sz12_)]) ∧ E = [] | 13 => pm (fun b : Nat => .slice (some ⟨b, 0, none⟩) 2 2) (fun b => [own (.slice (some ⟨b, 0, none⟩) 2 2) 3 1 [[jv 0], [jv 1]]]) (fun _ => True) | 14 => pm (fun x : Value × List Itw => .tuple #[.agg #[jv hdt.c, jv hdt.n, sv hdt.root, sv hdt.tag, x.1], jv 0]) (fun x => [itsE x.1 x.2]) (fun x => itsM x.2 = showIs sha ([(Liv5.getD 0 Itw.z).m.e, (Liv3.getD 0 Itw.z).m.e]) 2 ([0, 1])) | 15 => fun v E => (∃ sa0 sn0 sc0, v = .tuple #[.agg #[jv hdt.c, jv hdt.n, sv hdt.root, sv hdt.tag, (.slice sa0 sn0 sc0)], jv 0]) ∧ E = [] | 16 => fun v E => (∃ sa0 sn0 sc0, v = .agg #[jv hdt.c, jv hdt.n, sv hdt.root, sv hdt.tag, (.slice sa0 sn0 sc0)]) ∧ E = [] | 17 => pv (jv 0) | 18 => fun v E => ∃ b, v = ptr b ∧ E = [] | 19 => fun v E => v = undef ∧ E = [] | _ => fun _ _ => False) Z (H := [itsE iv11 Liv11, itsE iv9 Liv9, itsE iv7 Liv7, blk w8.hz [jv hd.c, jv hd.n, sv hd.root, sv hd.tag, iv5] 50, itsE iv5 Liv5, blk w5.hz [jv hd.c, jv hd.n, sv hd.root, sv hd.tag, iv3] 50, itsE iv3 Liv3, blk w2.hz [jv 3, dv1] 32, own dv1 55 3 ((exC).map Cas.cells)]) Y kr kr kr kr de de de de de de de kr (by intro x hx y hy h; simp only [xL, xQ, yj] at hx hy; rcases hx with rfl | rfl | rfl <;> rcases hy with rfl | rfl | rfl <;> first | rfl | exact absurd h de) ?_ (fun _ _ h => h) ⟨O, O⟩ (fun _ _ => Iff.rfl) ?_ ?_ ?_ ?_ ?_
 ·intro i v E h
  match i, h with
  | 0, _ => exact by decide
  | 1, _ => exact by decide
  | 2, _ => exact by decide
  | 3, _ => exact by decide
  | 4, _ => exact by decide
  | 5, _ => exact by decide
  | 6, _ => exact by decide
  | 7, _ => exact by decide
  | 8, _ => exact by decide
  | 9, _ => exact by decide
  | 10, _ => exact by decide
  | 11, _ => exact by decide
  | 12, _ => exact by decide
  | 13, _ => exact by decide
  | 14, _ => exact by decide
  | 15, _ => exact by decide
  | 16, _ => exact by decide
  | 17, _ => exact by decide
  | 18, _ => exact by decide
  | 19, _ => exact by decide
  | i + 20, h => exact h.elim
 ·intro i hi hia hij hil e
  match i, hi, hia, hij, hil with
  | 0, _, _, _, _ =>
   intro hl9 w Y
   exact OpV.g (ay O)
  | 1, _, _, _, _ =>
   intro hl9 w Y
   exact OpV.g (ac (v := po w8.hz 4) O kr)
  | 2, _, _, _, _ =>
   rintro _ _ ⟨rfl, rfl⟩
   intro hl9 w Y
   exact OpV.g (ld Y 4 O O (isAgg48 _) O)
  | 3, _, _, _, _ =>
   rintro _ _ ⟨rfl, rfl⟩
   intro hl9 w Y
   exact OpV.g ((am (i := 0) (sT := 48) (bp (k := 5) Y O).1 O O (runUnderlying48 _) (sizeOf110 _) om z8).as (v' := slAddr iv5 (0 * 3)) O)
  | 4, _, _, _, _ =>
   rintro _ _ ⟨rfl, rfl⟩
   intro hl9 w Y
   exact OpV.g (cC (k := 0 * 3) (j := 1) (bp (k := 5) Y O).1 (i := 0) z8 O (fun _ _ => by kernel_rfl))
  | 5, _, _, _, _ =>
   rintro _ _ ⟨rfl, rfl⟩
   intro hl9 w Y
   exact OpV.g (aD (u := sv ((Liv5.getD 0 Itw.z).m.e)) (i := 0) (j := 1) (bp (k := 5) Y O).1 z8 O (isAgg9 _) (by rw [bA Itw.z]; rfl))
  | 6, _, _, _, _ =>
   intro hl9 w Y
   exact OpV.g (ac (v := po w5.hz 4) O kr)
  | 7, _, _, _, _ =>
   rintro _ _ ⟨rfl, rfl⟩
   intro hl9 w Y
   exact OpV.g (ld Y 6 O O (isAgg48 _) O)
  | 8, _, _, _, _ =>
   rintro _ _ ⟨rfl, rfl⟩
   intro hl9 w Y
   exact OpV.g ((am (i := 0) (sT := 48) (bp (k := 7) Y O).1 O O (runUnderlying48 _) (sizeOf110 _) om z8).as (v' := slAddr iv3 (0 * 3)) O)
  | 9, _, _, _, _ =>
   rintro _ _ ⟨rfl, rfl⟩
   intro hl9 w Y
   exact OpV.g (cC (k := 0 * 3) (j := 1) (bp (k := 7) Y O).1 (i := 0) z8 O (fun _ _ => by kernel_rfl))
  | 10, _, _, _, _ =>
   rintro _ _ ⟨rfl, rfl⟩
   intro hl9 w Y
   exact OpV.g (aD (u := sv ((Liv3.getD 0 Itw.z).m.e)) (i := 0) (j := 1) (bp (k := 7) Y O).1 z8 O (isAgg9 _) (by rw [bA Itw.z]; rfl))
  | 11, _, _, _, _ =>
   rintro _ _ ⟨rfl, rfl⟩ _ _ ⟨rfl, rfl⟩
   intro hl9 w Y
   exact bP (E := 9) (sz := 1) O [[sv ((Liv5.getD 0 Itw.z).m.e)], [sv ((Liv3.getD 0 Itw.z).m.e)]] (fun _ => by kernel_rfl) sm O de
  | 12, _, _, _, h => exact absurd de h
  | 13, _, _, _, _ =>
   intro hl9 w Y
   exact bP (E := 3) (sz := 1) O [[jv 0], [jv 1]] (fun _ => by kernel_rfl) sm O de
  | 14, _, _, _, _ =>
   rintro _ _ ⟨rfl, rfl⟩ _ _ ⟨⟨sx12_, sy12_, sz12_, rfl⟩, rfl⟩ _ _ ⟨b15, rfl, -, rfl⟩ _ _ ⟨b14, rfl, -, rfl⟩
   intro hl9 w Y
   have hz9 : sx12_ = some ⟨b14, 0, none⟩ ∧ sy12_ = 2 ∧ sz12_ = 2 := by simpa using hl9 (12, 11, fun u => Value.agg #[jv 3, u]) sm _ _ rfl rfl
   obtain ⟨rfl, rfl, rfl⟩ := hz9
   exact er call26 O (iR kk 2 hdt (.slice (some ⟨b15, 0, none⟩) 2 2) ([0, 1]) 3 (.slice (some ⟨b14, 0, none⟩) 2 2) ([(Liv5.getD 0 Itw.z).m.e, (Liv3.getD 0 Itw.z).m.e]) _ (Y.ow 1 O) (Y.ow 0 O) hk32 (gG hLiv5 hLiv3) (yk 2) de de hhdt (Y.keepb hk0))
  | 15, _, _, _, h => exact absurd de h
  | 16, _, _, _, h => exact absurd de h
  | 17, _, _, _, _ =>
   rintro _ _ ⟨⟨sa0, sn0, sc0, rfl⟩, rfl⟩
   intro hl9 w Y
   exact OpV.g (aq O O)
  | 18, _, h, _, _ => exact absurd O h
  | 19, _, _, h, _ => exact absurd O h
  | i + 20, h, _, _, _ => exact absurd h om
 ·intro x hx e
  simp only [xL, xQ, yj] at hx
  rcases hx with rfl | rfl | rfl
  ·rintro _ _ ⟨b14, rfl, -, rfl⟩
   intro w Y
   exact OpV.hopv (OpV.g (aX (v := .agg #[jv 3, (.slice (some ⟨b14, 0, none⟩) 2 2)]) O kr)) ⟨⟨_, _, _, O⟩, O⟩
  ·rintro _ _ ⟨⟨iv16, Liv16⟩, rfl, hLiv16, rfl⟩
   intro w Y
   obtain ⟨sa0, sn0, sc0, rfl⟩ := cQ (bp (k := 0) Y rfl).1
   exact OpV.hopv (OpV.g (ay O)) ⟨⟨_, _, _, O⟩, O⟩
  ·rintro _ _ ⟨⟨sa0, sn0, sc0, rfl⟩, rfl⟩
   intro w Y
   exact OpV.hopv (OpV.g (aq O O)) ⟨⟨_, _, _, O⟩, O⟩
 ·exact fun Lv w => eu (zeroValue50 _)
 ·rintro _ _ ⟨⟨sa0, sn0, sc0, rfl⟩, rfl⟩ _ _ ⟨b13, rfl, rfl⟩
  intro b hb u hu w h
  have hb : some (ptr b13) = some (ptr b) := hb
  cases hb
  have hu : some (.agg #[jv hdt.c, jv hdt.n, sv hdt.root, sv hdt.tag, (.slice sa0 sn0 sc0)]) = some u := hu
  cases hu
  exact dF O O h (sizeOf50 _) O (lb O) O
 clear Z Y
 rintro V bq hva hlk _ _ ⟨⟨rfl, rfl⟩, -⟩ _ _ ⟨⟨rfl, rfl⟩, -⟩ _ _ ⟨⟨rfl, rfl⟩, -⟩ _ _ ⟨⟨rfl, rfl⟩, -⟩ _ _ ⟨⟨rfl, rfl⟩, -⟩ _ _ ⟨⟨rfl, rfl⟩, -⟩ _ _ ⟨⟨rfl, rfl⟩, -⟩ _ _ ⟨⟨rfl, rfl⟩, -⟩ _ _ ⟨⟨rfl, rfl⟩, -⟩ _ _ ⟨⟨rfl, rfl⟩, -⟩ _ _ ⟨⟨rfl, rfl⟩, -⟩ _ _ ⟨⟨b14, rfl, -, rfl⟩, hv11_⟩ v12_ _ ⟨⟨-, rfl⟩, hv12_⟩ _ _ ⟨⟨b15, rfl, -, rfl⟩, -⟩ _ _ ⟨⟨⟨iv16, Liv16⟩, rfl, hLiv16, rfl⟩, hv14_⟩ v15_ _ ⟨⟨-, rfl⟩, hv15_⟩ v16_ _ ⟨⟨-, rfl⟩, hv16_⟩ _ _ ⟨⟨rfl, rfl⟩, -⟩ _ _ ⟨⟨b13, rfl, rfl⟩, hva9⟩ a w62 Z Y
 obtain rfl : b13 = bq := fC (hva9.trans hva)
 obtain rfl : v12_ = .agg #[jv 3, (.slice (some ⟨b14, 0, none⟩) 2 2)] := hv12_.trans ((hlk 0 _ rfl).trans (yf (fun u => Value.agg #[jv 3, u]) hv11_.symm))
 obtain rfl : v15_ = .tuple #[.agg #[jv hdt.c, jv hdt.n, sv hdt.root, sv hdt.tag, iv16], jv 0] := hv15_.trans ((hlk 1 _ rfl).trans (yf (fun u => u) hv14_.symm))
 obtain rfl : v16_ = .agg #[jv hdt.c, jv hdt.n, sv hdt.root, sv hdt.tag, iv16] := hv16_.trans ((hlk 2 _ rfl).trans (yf (fun u => tupAt u 0) hv15_.symm))
 rw [← hv16_] at Y
 replace Z : Fr 243 [(203, _), (204, _), (205, _), (206, _), (207, _), (208, _), (209, _), (210, _), (211, _), (212, _), (213, _), (214, _), (215, _), (216, _), (217, _), (202, _), (218, _), (219, _), (22, _), (0, _), (1, _), (2, _), (3, _), (5, _), (19, _), (21, _)] [] a := Z
 try dsimp only at Y
 replace Y := Y.n13 O
 clear hva9 hva hlk hv16_ hv15_ hv12_ hv11_ hv14_
 refine ab <| aK (k := 20) 21 [20] ?_
 refine wla Z O fun a Z => ab <| aT <| G17 ?_
 replace Y := Y.k9 7548 O
 refine aa fun _ G18 => nv (Z.p7 0 1 2 19 21 22 23 O) <| xy O <| xy O <| xA (ay O) <| xx (aw O O) <| xy O <| xA (ay O) <| xA ((v_eq O O).asb (b' := true) O) <| xx (aw O O) <| xy O <| xA (ay O) <| xA (ao (Y.g 1 O) O (isAgg50 _) (sizeOf50 _)) <| xA (ao (Y.g 1 O) O (isAgg50 _) (sizeOf50 _)) <| fun a Z => aF Z Y call30 O (cB (rv hLiv5 hLiv3 hLiv16) (kU kk hdt iv16 iv16 Liv16 Liv16 _ (bp (k := 0) Y O) (bp (k := 0) Y O) (cV de hLiv16) (cV de hLiv16) (ml (gG hLiv5 hLiv3) (yk 2) hk32 hhdt de hLiv16) (ml (gG hLiv5 hLiv3) (yk 2) hk32 hhdt de hLiv16) (Y.keepb hk0))) fun a w63 Z Y => ?_
 refine nv Z <| xx (aw O O) <| xy O <| xA (ao (Y.g 7 O) O (isAgg32 _) (sizeOf32 _)) <| fun a Z => aF Z Y call31 O (cB ch (ij 3 dv1 exC _ (Y.ow 8 O))) fun a w64 Z Y => nv Z <| xx (aw O O) <| xy O <| xA (aX (v := .agg #[jv 8, .slice none 0 0]) O kr) <| fun a Z => aF Z Y call31 O (cB (show docOk 8 [] = false from O) (ij 8 (.slice none 0 0) [] _ (fw _ _))) fun a w65 Z Y => nv Z <| xA ((bD O).asb (b' := true) O) <| xx (aw O O) <| xz O <| fun a Z => G18 ?_
 replace Z := Z.p1 0 O
 replace Y := Y.k7 381 O
 refine ap <| al Z results11 (ag O ae) ?_
 exact ⟨by rfl, Y.ext⟩
end Go.Proofs.YtliklcmddmpdfaaGreatDoor
namespace Go.PW
open Go.RowKit Go.ChangeShapes Go.WideShapes Go.ChangeAt
section
variable {H : Type} {enc : TypeId × Value → H} {P : Program} {w : World} {base : Nat} {spare : Nat → Bool} {held : Bool} {fuel : Nat} {t e : TypeId} {cs : List Value} {x : DataW H × List MemPlace} {α : Type}
theorem ug {v : Value} (sz : Nat) (ht : P.underlying t = some (.slice e)) (hc : P.cellsOf e = sz) (hs : 0 < sz) (hby : 0 < P.bytesOf e) (hw : Wt P t x.1) (h : DataW.trod enc P w base spare held fuel t [v] = some x) :
  ∃ els : List (List Value), SlE w v sz els ∧ els.length * P.bytesOf e ≤ 140737488355328 ∧ (∀ d ∈ els, d.length = sz) ∧ ∀ i (hi : i < els.length), ∃ n y, DataW.trod enc P w base spare held n e els[i] = some y ∧ Wt P e y.1 := by
 rcases DataW.trod_slice ht h with ⟨h0, _⟩ | ⟨a, len, cap, elems, rest, n, _, hv, hx, hb, hl, hm, hlen, hel, _, _⟩
 ·cases h0
  exact ⟨[], .inl (fw _ _), by simp, by simp, fun i hi => absurd hi sm⟩
 ·cases hv
  have hwl : elems.length * P.bytesOf e ≤ 140737488355328 := by
   have h1 := hw ((elems.length + rest.length) * P.bytesOf e) (by rw [hx]; simp [DataW.weights, ht])
   have h2 := reachBytes_lt
   have h3 : elems.length * P.bytesOf e ≤ (elems.length + rest.length) * P.bytesOf e := Nat.mul_le_mul om (yk _)
   omega
  by_cases h0 : len = 0
  ·subst h0
   exact ⟨[], .inr ⟨O, a, cap, O⟩, by simp, by simp, fun i hi => absurd hi sm⟩
  obtain ⟨b, off, spot⟩ := a
  have hfirst : w.cell? ⟨b, off, spot⟩ ≠ none := by
   have h1 := hel 0 om
   rw [xM om] at h1
   cases hcs : w.cells? base ((⟨b, off, spot⟩ : Addr).add (0 * P.cellsOf e)) (P.cellsOf e) with
   | none => rw [hcs] at h1; simp at h1
   | some ds =>
    obtain ⟨_, hl1, hc1⟩ := World.cells?_some hcs
    have h2 := hc1 0 om
    rw [Nat.zero_mul, show ((⟨b, off, spot⟩ : Addr).add 0).add 0 = ⟨b, off, spot⟩ from rfl, xM om] at h2
    rw [h2]; simp
  have hsp : spot = none ∧ b < w.heap.size := by
   unfold World.cell? at hfirst
   cases hh : w.heap[b]? with
   | none => rw [hh] at hfirst; exact absurd rfl hfirst
   | some o =>
    refine ⟨?_, (xR.1 hh).1⟩
    rw [hh] at hfirst
    cases spot with
    | none => rfl
    | some s => cases o <;> exact absurd rfl hfirst
  obtain ⟨rfl, hlt⟩ := hsp
  have hwe : ∀ y ∈ elems, Wt P e y.1 := by
   intro y hy n hn
   refine hw n ?_
   rw [hx]
   simp only [DataW.weights, ht, xL, yF]
   exact .inr (.inl (tM (yo.2 ⟨y, hy, O⟩) n hn))
  have each : ∀ i, i < len → ∃ ds : List Value, (ds.length = sz ∧ ∀ j v, ds[j]? = some v → w.cell? ⟨b, off + i * sz + j, none⟩ = some v) ∧ ∃ n y, DataW.trod enc P w base spare held n e ds = some y ∧ Wt P e y.1 := by
   intro i hi
   have h1 := hel i hi
   rw [xM om, hc, cM] at h1
   cases hcs : w.cells? base ⟨b, off + i * sz, none⟩ sz with
   | none => rw [hcs] at h1; simp at h1
   | some ds =>
    rw [hcs] at h1
    simp only [zm] at h1
    exact ⟨ds, jj hcs, n, _, h1, hwe _ (yx _)⟩
  obtain ⟨els, hel2, hp⟩ := go len each
  have h1 : ∀ d ∈ els, d.length = sz := by
   intro d hd
   obtain ⟨i, hi, rfl⟩ := yG hd
   exact (hp i hi).1.1
  have hbg : elems.length ≤ big := by
   have h3 : elems.length * 1 ≤ elems.length * P.bytesOf e := Nat.mul_le_mul (yk _) hby
   unfold big; omega
  refine ⟨els, .inl ⟨h1, by omega, .inr ⟨b, off, cap, by rw [hel2], by omega, hlt, ?_⟩⟩, by rw [hel2, ← hlen]; exact hwl, h1, fun i hi => (hp i hi).2⟩
  intro j v hj
  have hjl := (yg.1 hj).1
  rw [eg h1] at hjl
  have hi : j / sz < els.length := Nat.div_lt_of_lt_mul (by rw [Nat.mul_comm]; exact hjl)
  have := (hp (j / sz) hi).1.2 (j % sz) v (by
   rw [← kC h1 hi, yJ, xY (Nat.mod_lt _ hs), yS, Nat.div_add_mod' j sz]
   exact hj)
  rw [Nat.add_assoc, Nat.div_add_mod' j sz] at this
  exact this
theorem vT {els : List (List Value)} {f : α → List Value} {q : α → Prop} (hp : ∀ i (hi : i < els.length), ∃ a, els[i] = f a ∧ q a) : ∃ xs : List α, els = xs.map f ∧ ∀ a ∈ xs, q a := by
 obtain ⟨xs, hl, hx⟩ := go (p := fun i a => els[i]? = some (f a) ∧ q a) els.length fun i hi => by
  obtain ⟨a, h1, h2⟩ := hp i hi
  exact ⟨a, by rw [xM hi, h1], h2⟩
 refine ⟨xs, ?_, fun a ha => ?_⟩
 ·refine zl (by simp [hl]) fun i h1 h2 => ?_
  have := (hx i om).1
  rw [xM h1] at this
  simpa using this
 ·obtain ⟨i, hi, rfl⟩ := yG ha
  exact (hx i hi).2
end
end Go.PW
namespace Go.PW
open Go.RowKit Go.ChangeShapes Go.WideShapes Go.ChangeAt
section
variable {H : Type} {enc : TypeId × Value → H}
theorem oE {a : Assume} {C : Checked} {os : Os} {f : FuncId} {fn : Func} {s : ChangeSpec} {conds : List PathCond} {apart fresh handsOn again : Bool} {X : World → Array Value → Prop}
  (hX : ∀ (w w' : World) (args : Array Value), w.heap = w'.heap → X w args → X w' args)
  (own : ownKnob C.prog.godebug = none) (started : os.Started) (noInit : C.prog.inits.idxOf? f = none) (hfn : C.prog.funcs[f]? = some fn)
  (witness : ∃ (w : World) (tape : Tape) (i : Input), w.os = os ∧ (w.forCall tape i).Shaped C.prog ∧ i.vars = [] ∧ Input.okWide C.prog (w.forCall tape i) .any w.heap.size f i ∧
   ((s.pre enc C.prog fn conds apart (w.forCall tape i).memory i.args ∧ X (w.forCall tape i).memory i.args) ∧ sizedMet enc C.prog fn (OpenSpec.ofChange s) apart (w.forCall tape i).memory i.args) ∧ a.holds C.prog (lone (Frame.enter C.prog f i.args .normal) [] (w.forCall tape i)))
  (contract : ∀ (W : World) (base : Nat) (args : Array Value) (ds gs : List (DataW H)) (before : List MemPlace),
   (∀ (j : Nat) t v, fn.params[j]? = some t → args[j]? = some v → Value.okWide C.prog W .any base t v) →
   DataW.Whole enc C.prog fn.params.toList s.vars apart W args.toList ds gs before →
   conds.all (PathCond.test C.prog ⟨fn.params.toList, ds, s.plain.varTypes C.prog, gs⟩) = true →
   (DataW.weightsEach C.prog (fn.params.toList ++ s.plain.varTypes C.prog) (ds ++ gs)).all (· ≤ reachBytes) = true → X W args → W.ShapedOpen C.prog →
   Calls C.prog f args W fun e W' => ∃ v, e = .returned v ∧ s.post enc C.prog fn apart fresh handsOn again W args v W') :
  ReturnsInHanded a C os f .any (fun w args => (s.pre enc C.prog fn conds apart w args ∧ X w args) ∧ sizedMet enc C.prog fn (OpenSpec.ofChange s) apart w args) (s.post enc C.prog fn apart fresh handsOn again) := by
 refine returnsInHanded_of_calls own started noInit witness ?_
 intro w tape i _ hsh _ hok hpre _
 obtain ⟨_, _, _, fn', hfn', _, _, _, _, hval⟩ := hok
 have e : fn' = fn := yO (hfn'.symm.trans hfn)
 subst e
 obtain ⟨⟨⟨ds, gs, before, hw, hc⟩, hx⟩, hz⟩ := hpre
 have hw' := DataW.Whole.of_heap (w' := w.forCall tape i) rfx hw
 refine (contract (w.forCall tape i) w.heap.size i.args ds gs before hval hw' hc (hz.weights hw) (hX _ _ _ rfx hx) hsh).mono fun e W' ⟨v, he, hp⟩ => ?_
 subst he
 exact ChangeSpec.post_blind hp
end
section
variable {H : Type} {enc : TypeId × Value → H} {P : Program} {w : World} {base : Nat} {spare : Nat → Bool} {held : Bool} {fuel : Nat} {t e : TypeId} {cs : List Value} {x : DataW H × List MemPlace}
theorem pr {n : Nat} {ks : List Int} (ht : P.underlying t = some (.array n e)) (he : P.underlying e = some (.int .u32)) (hc : P.cellsOf e = 1) (hct : P.cellsOf t = n) (h : DataW.trod enc P w base spare held fuel t cs = some x) (hx : x.1 = .agg (ks.map fun k => .lit (.int .u32 k))) : cs = ks.map (fun k => .int .u32 k) := by
 obtain ⟨xs, m, rfl, rfl, hlen, hxs, hel⟩ := DataW.trod_array ht h
 simp only [DataW.agg.injEq] at hx
 have hl : ks.length = n := by
  have h := yf List.length hx
  rw [xC, xC] at h
  omega
 refine zl (by rw [hlen, hct, xC, hl]) fun i h1 h2 => ?_
 have hi : i < n := by rw [← hct, ← hlen]; exact h1
 have hi2 : i < ks.length := by omega
 have h3 := hel i hi
 rw [hc, Nat.mul_one, xM om] at h3
 obtain ⟨k, e1, e2, _⟩ := DataW.trod_int he h3
 rw [yz h1, List.take_succ_cons] at e1
 injection e1 with e1 _
 have h4 : (xs.map (·.1))[i]? = (ks.map fun k => DataW.lit (H := H) (.int .u32 k))[i]? := by rw [hx]
 rw [yN, yN, xM om, xM hi2, Option.map_some, Option.map_some, e2] at h4
 simp only [Option.some.injEq, DataW.lit.injEq, Lit.int.injEq, true_and] at h4
 rw [e1, ze, h4]
end
end Go.PW
namespace Go.Proofs.YtliklcmddmpdfaaGreatDoor
open Go.RowKit Go.PW _root_.Go.Proofs.Tryz
open Go.ChangeShapes Go.WideShapes Go.ChangeAt Go.RowKit Go.PW
theorem ownD : ownKnob Tryz.prog.godebug = none := by kernel_rfl
theorem eI : laidOutB Tryz.prog = true := by kernel_rfl
def laid1 : List (String × DataW Unit) := [("dialtone/digest.round", Rows.laid_dialtone_digest_round)]
theorem gRound : Tryz.prog.globalNamed "dialtone/digest.round" = some 0 := by kernel_rfl
theorem tRound : (Tryz.prog.globals[0]?).map (·.type) = some 258 := by kernel_rfl
theorem vl : (Rows.laid_dialtone_digest_round : DataW Unit) = .agg ((kOf.map fun k => (k.toNat : Int)).map fun k => .lit (.int .u32 k)) := by kernel_rfl
theorem uM (os : Os) (args : Array Value) : laidMetH Tryz.prog laid1 ((World.doorLaid Tryz.prog 4000 os).forCall (fun _ _ => 0) ⟨#[], args, []⟩).memory :=
 laidMetH_of_parts3 (fuel := 8) (laidMet_of_run' 8 kr kr) kr kr
theorem pY (os : Os) (args : Array Value) : ((World.doorLaid Tryz.prog 4000 os).forCall (fun _ _ => 0) ⟨#[], args, []⟩).Shaped Tryz.prog := World.shaped_of_RefB kr kr
theorem xn {W : World} (h : laidMetH Tryz.prog laid1 W) (hs : W.ShapedOpen Tryz.prog) : (blk 0 (kOf.map wv) 258).ok W := by
 rw [MakeChecks.laidMetH_plain _ _ _ kr] at h
 obtain ⟨ps, ⟨g0, t0, cs0, f0, p0, q0, hg0, ht0, hv0, hd0, _, _⟩, _, _⟩ := h
 obtain rfl := yO (gRound.symm.trans hg0)
 obtain rfl := yO (tRound.symm.trans ht0)
 obtain ⟨cs, hcs, _, _⟩ := hs.1 0 (List.replicate 64 (.int .u32 0)).toArray 258 (of_decide_eq_true kr) kr
 have e : cs0 = cs := by
  have := hv0
  simp only [World.var?, gRound, zm, hcs, Option.some.injEq] at this
  exact this.symm
 subst e
 have hw := pr (ks := kOf.map fun k => (k.toNat : Int)) underlying258 underlying206 kr kr hd0 vl
 have hl : cs0 = (kOf.map wv).toArray := by
  apply Array.toList_inj.1
  rw [hw, y9]; rfl
 show W.heap[0]? = some (.cells (kOf.map wv).toArray 258)
 rw [← hl]; exact hcs
open Go.ChangeShapes Go.WideShapes Go.ChangeAt
section
variable {H : Type} {enc : TypeId × Value → H} {W : World} {base b0 : Nat} {sp : Nat → Bool} {hd : Bool} {v : Value} {d : DataW H} {ps : List MemPlace} {r : Reach}
theorem kP {n : Int} (h : Go.PW.i64 n) : i64 n := h
theorem len4 {α : Type} {l : List α} (h : l.length = 4) : ∃ a0 a1 a2 a3, l = [a0, a1, a2, a3] := by
 match l, h with
 | [a0, a1, a2, a3], _ => exact ⟨_, _, _, _, rfl⟩
theorem sZ {fuel : Nat} {cs : List Value} {x : DataW H × List MemPlace} (hl : cs.length = 4) (hw : Wt Tryz.prog 26 x.1) (h : DataW.trod enc Tryz.prog W base sp hd fuel 26 cs = some x) :
  ∃ (n0 : Int) (v1 : Value) (v2 : Value) (v3 : Value), cs = [jv n0, v1, v2, v3] ∧ (i64 n0) ∧ (∃ n z, DataW.trod enc Tryz.prog W base sp hd n 22 [v1] = some z ∧ Wt Tryz.prog 22 z.1) ∧ (∃ n z, DataW.trod enc Tryz.prog W base sp hd n 23 [v2] = some z ∧ Wt Tryz.prog 23 z.1) ∧ (∃ n z, DataW.trod enc Tryz.prog W base sp hd n 24 [v3] = some z ∧ Wt Tryz.prog 24 z.1) := by
 obtain ⟨c0, c1, c2, c3, rfl⟩ := len4 hl
 obtain ⟨m0, z0, h0, w0⟩ := db 0 _ underlying26 hw h rfl
 have k0 : Tryz.prog.cellsOf 3 = 1 := by kernel_rfl
 replace h0 : DataW.trod enc Tryz.prog W base sp hd m0 3 [c0] = some z0 := by rw [show [c0] = ([c0, c1, c2, c3].drop 0).take (Tryz.prog.cellsOf 3) from by rw [k0]; rfl]; exact h0
 obtain ⟨m1, z1, h1, w1⟩ := db 1 _ underlying26 hw h rfl
 have k1 : Tryz.prog.cellsOf 22 = 1 := by kernel_rfl
 replace h1 : DataW.trod enc Tryz.prog W base sp hd m1 22 [c1] = some z1 := by rw [show [c1] = ([c0, c1, c2, c3].drop 1).take (Tryz.prog.cellsOf 22) from by rw [k1]; rfl]; exact h1
 obtain ⟨m2, z2, h2, w2⟩ := db 2 _ underlying26 hw h rfl
 have k2 : Tryz.prog.cellsOf 23 = 1 := by kernel_rfl
 replace h2 : DataW.trod enc Tryz.prog W base sp hd m2 23 [c2] = some z2 := by rw [show [c2] = ([c0, c1, c2, c3].drop 2).take (Tryz.prog.cellsOf 23) from by rw [k2]; rfl]; exact h2
 obtain ⟨m3, z3, h3, w3⟩ := db 3 _ underlying26 hw h rfl
 have k3 : Tryz.prog.cellsOf 24 = 1 := by kernel_rfl
 replace h3 : DataW.trod enc Tryz.prog W base sp hd m3 24 [c3] = some z3 := by rw [show [c3] = ([c0, c1, c2, c3].drop 3).take (Tryz.prog.cellsOf 24) from by rw [k3]; rfl]; exact h3
 obtain ⟨n0, e0, f0⟩ := fk underlying3 h0
 obtain rfl : c0 = jv n0 := by simpa using e0
 obtain ⟨v1, e1⟩ : ∃ q, q = c1 := ⟨_, rfl⟩
 subst e1
 obtain ⟨v2, e2⟩ : ∃ q, q = c2 := ⟨_, rfl⟩
 subst e2
 obtain ⟨v3, e3⟩ : ∃ q, q = c3 := ⟨_, rfl⟩
 subst e3
 exact ⟨n0, v1, v2, v3, O, f0, ⟨m1, z1, h1, w1⟩, ⟨m2, z2, h2, w2⟩, ⟨m3, z3, h3, w3⟩⟩
theorem len2 {α : Type} {l : List α} (h : l.length = 2) : ∃ a0 a1, l = [a0, a1] := by
 match l, h with
 | [a0, a1], _ => exact ⟨_, _, rfl⟩
theorem j0 {fuel : Nat} {cs : List Value} {x : DataW H × List MemPlace} (hl : cs.length = 2) (hw : Wt Tryz.prog 63 x.1) (h : DataW.trod enc Tryz.prog W base sp hd fuel 63 cs = some x) :
  ∃ (n0 : Int) (n1 : Int), cs = [jv n0, jv n1] ∧ (i64 n0) ∧ (i64 n1) := by
 obtain ⟨zs, hz, he, hy⟩ := mo 2 underlying63 underlying3 kr h hl
 obtain ⟨n0, n1, rfl⟩ := len2 hz
 exact ⟨n0, n1, he, hy n0 sm, hy n1 sm⟩
theorem lD {fuel : Nat} {v : Value} {x : DataW H × List MemPlace} (hok : Cell.okWide Tryz.prog W r b0 22 v) (hw : Wt Tryz.prog 22 x.1) (h : DataW.trod enc Tryz.prog W base sp hd fuel 22 [v] = some x) :
  ∃ xs : List Pr2, SlAt W v 2 (xs.map Pr2.cells) ∧ ∀ a ∈ xs, a.wt := by
 obtain ⟨els, h1, h2⟩ := nj 2 underlying22 kr de (of_decide_eq_true kr) hok hw h
 exact o8 (f := Pr2.cells) (q := fun a => a.wt) h1 fun i hi => by
  obtain ⟨n, y, hy, hwy⟩ := h2 i hi
  obtain ⟨n0, n1, he, hf⟩ := j0 (h1.1 _ (yx hi)) hwy hy
  exact ⟨⟨n0, n1⟩, he, hf⟩
theorem len8 {α : Type} {l : List α} (h : l.length = 8) : ∃ a0 a1 a2 a3 a4 a5 a6 a7, l = [a0, a1, a2, a3, a4, a5, a6, a7] := by
 match l, h with
 | [a0, a1, a2, a3, a4, a5, a6, a7], _ => exact ⟨_, _, _, _, _, _, _, _, rfl⟩
theorem tx {fuel : Nat} {cs : List Value} {x : DataW H × List MemPlace} (hl : cs.length = 8) (hw : Wt Tryz.prog 84 x.1) (h : DataW.trod enc Tryz.prog W base sp hd fuel 84 cs = some x) :
  ∃ (n0 : Int) (n1 : Int) (n2 : Int) (n3 : Int) (n4 : Int) (n5 : Int) (n6 : Int) (v7 : Value), cs = [jv n0, jv n1, jv n2, jv n3, jv n4, jv n5, jv n6, v7] ∧ (i64 n0) ∧ (i64 n1) ∧ (i64 n2) ∧ (i64 n3) ∧ (i64 n4) ∧ (i64 n5) ∧ (i64 n6) ∧ (∃ n z, DataW.trod enc Tryz.prog W base sp hd n 82 [v7] = some z ∧ Wt Tryz.prog 82 z.1) := by
 obtain ⟨c0, c1, c2, c3, c4, c5, c6, c7, rfl⟩ := len8 hl
 obtain ⟨m0, z0, h0, w0⟩ := db 0 _ underlying84 hw h rfl
 have k0 : Tryz.prog.cellsOf 3 = 1 := by kernel_rfl
 replace h0 : DataW.trod enc Tryz.prog W base sp hd m0 3 [c0] = some z0 := by rw [show [c0] = ([c0, c1, c2, c3, c4, c5, c6, c7].drop 0).take (Tryz.prog.cellsOf 3) from by rw [k0]; rfl]; exact h0
 obtain ⟨m1, z1, h1, w1⟩ := db 1 _ underlying84 hw h rfl
 have k1 : Tryz.prog.cellsOf 63 = 2 := by kernel_rfl
 replace h1 : DataW.trod enc Tryz.prog W base sp hd m1 63 [c1, c2] = some z1 := by rw [show [c1, c2] = ([c0, c1, c2, c3, c4, c5, c6, c7].drop 1).take (Tryz.prog.cellsOf 63) from by rw [k1]; rfl]; exact h1
 obtain ⟨m2, z2, h2, w2⟩ := db 2 _ underlying84 hw h rfl
 have k2 : Tryz.prog.cellsOf 63 = 2 := by kernel_rfl
 replace h2 : DataW.trod enc Tryz.prog W base sp hd m2 63 [c3, c4] = some z2 := by rw [show [c3, c4] = ([c0, c1, c2, c3, c4, c5, c6, c7].drop 3).take (Tryz.prog.cellsOf 63) from by rw [k2]; rfl]; exact h2
 obtain ⟨m3, z3, h3, w3⟩ := db 3 _ underlying84 hw h rfl
 have k3 : Tryz.prog.cellsOf 3 = 1 := by kernel_rfl
 replace h3 : DataW.trod enc Tryz.prog W base sp hd m3 3 [c5] = some z3 := by rw [show [c5] = ([c0, c1, c2, c3, c4, c5, c6, c7].drop 5).take (Tryz.prog.cellsOf 3) from by rw [k3]; rfl]; exact h3
 obtain ⟨m4, z4, h4, w4⟩ := db 4 _ underlying84 hw h rfl
 have k4 : Tryz.prog.cellsOf 3 = 1 := by kernel_rfl
 replace h4 : DataW.trod enc Tryz.prog W base sp hd m4 3 [c6] = some z4 := by rw [show [c6] = ([c0, c1, c2, c3, c4, c5, c6, c7].drop 6).take (Tryz.prog.cellsOf 3) from by rw [k4]; rfl]; exact h4
 obtain ⟨m5, z5, h5, w5⟩ := db 5 _ underlying84 hw h rfl
 have k5 : Tryz.prog.cellsOf 82 = 1 := by kernel_rfl
 replace h5 : DataW.trod enc Tryz.prog W base sp hd m5 82 [c7] = some z5 := by rw [show [c7] = ([c0, c1, c2, c3, c4, c5, c6, c7].drop 7).take (Tryz.prog.cellsOf 82) from by rw [k5]; rfl]; exact h5
 obtain ⟨n0, e0, f0⟩ := fk underlying3 h0
 obtain rfl : c0 = jv n0 := by simpa using e0
 obtain ⟨n1, n2, e1, f1_0, f1_1⟩ := j0 rfl w1 h1
 simp only [List.cons.injEq, and_true] at e1
 obtain ⟨rfl, rfl⟩ := e1
 obtain ⟨n3, n4, e2, f2_0, f2_1⟩ := j0 rfl w2 h2
 simp only [List.cons.injEq, and_true] at e2
 obtain ⟨rfl, rfl⟩ := e2
 obtain ⟨n5, e3, f3⟩ := fk underlying3 h3
 obtain rfl : c5 = jv n5 := by simpa using e3
 obtain ⟨n6, e4, f4⟩ := fk underlying3 h4
 obtain rfl : c6 = jv n6 := by simpa using e4
 obtain ⟨v7, e5⟩ : ∃ q, q = c7 := ⟨_, rfl⟩
 subst e5
 exact ⟨n0, n1, n2, n3, n4, n5, n6, v7, O, f0, f1_0, f1_1, f2_0, f2_1, f3, f4, ⟨m5, z5, h5, w5⟩⟩
theorem len5 {α : Type} {l : List α} (h : l.length = 5) : ∃ a0 a1 a2 a3 a4, l = [a0, a1, a2, a3, a4] := by
 match l, h with
 | [a0, a1, a2, a3, a4], _ => exact ⟨_, _, _, _, _, rfl⟩
theorem sC {fuel : Nat} {cs : List Value} {x : DataW H × List MemPlace} (hl : cs.length = 5) (hw : Wt Tryz.prog 142 x.1) (h : DataW.trod enc Tryz.prog W base sp hd fuel 142 cs = some x) :
  ∃ (n0 : Int) (n1 : Int) (n2 : Int) (n3 : Int) (n4 : Int), cs = [jv n0, jv n1, jv n2, jv n3, jv n4] ∧ (i64 n0) ∧ (i64 n1) ∧ (i64 n2) ∧ (i64 n3) ∧ (i64 n4) := by
 obtain ⟨zs, hz, he, hy⟩ := mo 5 underlying142 underlying3 kr h hl
 obtain ⟨n0, n1, n2, n3, n4, rfl⟩ := len5 hz
 exact ⟨n0, n1, n2, n3, n4, he, hy n0 sm, hy n1 sm, hy n2 sm, hy n3 sm, hy n4 sm⟩
theorem tO {fuel : Nat} {v : Value} {x : DataW H × List MemPlace} (hw : Wt Tryz.prog 82 x.1) (h : DataW.trod enc Tryz.prog W base sp hd fuel 82 [v] = some x) :
  ∃ ys : List Cin, SlE W v 5 (ys.map Cin.cells) ∧ (∀ y ∈ ys, y.wt) ∧ ys.length ≤ 3518437208883 := by
 obtain ⟨els, h1, h2, h3, h4⟩ := ug 5 underlying82 kr de (of_decide_eq_true kr) hw h
 obtain ⟨ys, rfl, hq⟩ := vT (els := els) (f := Cin.cells) (q := Cin.wt) fun i hi => by
  obtain ⟨n, y, hy, hwy⟩ := h4 i hi
  obtain ⟨n0, n1, n2, n3, n4, he, hf⟩ := sC (h3 _ (yx hi)) hwy hy
  exact ⟨⟨n0, n1, n2, n3, n4⟩, he, hf⟩
 refine ⟨ys, h1, hq, ?_⟩
 rw [xC, show Tryz.prog.bytesOf 142 = 40 from by kernel_rfl] at h2
 omega
theorem sE {fuel : Nat} {v : Value} {x : DataW H × List MemPlace} (hok : Cell.okWide Tryz.prog W r b0 23 v) (hw : Wt Tryz.prog 23 x.1) (h : DataW.trod enc Tryz.prog W base sp hd fuel 23 [v] = some x) :
  ∃ xs : List Nin, SlAt W v 8 (xs.map Nin.cells) ∧ ∀ a ∈ xs, a.wt W := by
 obtain ⟨els, h1, h2⟩ := nj 8 underlying23 kr de (of_decide_eq_true kr) hok hw h
 exact o8 (f := Nin.cells) (q := fun a => a.wt W) h1 fun i hi => by
  obtain ⟨n, y, hy, hwy⟩ := h2 i hi
  obtain ⟨n0, n1, n2, n3, n4, n5, n6, v7, he, f0, f1, f2, f3, f4, f5, f6, n9, z, hz, hwz⟩ := tx (h1.1 _ (yx hi)) hwy hy
  obtain ⟨ys, g1, g2, g3⟩ := tO hwz hz
  exact ⟨⟨n0, n1, n2, n3, n4, n5, n6, v7, ys⟩, he, ⟨f0, f1, f2, f3, f4, f5, f6⟩, g1, g2, g3⟩
theorem rp {fuel : Nat} {v : Value} {x : DataW H × List MemPlace} (hok : Cell.okWide Tryz.prog W r b0 24 v) (hw : Wt Tryz.prog 24 x.1) (h : DataW.trod enc Tryz.prog W base sp hd fuel 24 [v] = some x) :
  ∃ xs : List Int, SlAt W v 1 (xs.map (fun z : Int => [jv z])) ∧ ∀ a ∈ xs, i64 a := by
 obtain ⟨els, h1, h2⟩ := nj 1 underlying24 kr de (of_decide_eq_true kr) hok hw h
 exact o8 (f := fun z : Int => [jv z]) (q := fun a => i64 a) h1 fun i hi => by
  obtain ⟨n, y, hy, hwy⟩ := h2 i hi
  obtain ⟨n0, he, f0⟩ := fk underlying3 hy
  exact ⟨n0, he, f0⟩
theorem pZ (hval : Value.okWide Tryz.prog W r b0 26 v) (hw : Wt Tryz.prog 26 d) (hd0 : DataW.Trod enc Tryz.prog W base sp hd 26 v d ps) :
  ∃ (n0 : Int) (v1 : Value) (xv1 : List Pr2) (v2 : Value) (xv2 : List Nin) (v3 : Value) (xv3 : List Int), v = .agg #[jv n0, v1, v2, v3] ∧ (i64 n0) ∧ (SlAt W v1 2 (xv1.map Pr2.cells)) ∧ (∀ a ∈ xv1, a.wt) ∧ (SlAt W v2 8 (xv2.map Nin.cells)) ∧ (∀ a ∈ xv2, a.wt W) ∧ (SlAt W v3 1 (xv3.map (fun z : Int => [jv z]))) ∧ (∀ a ∈ xv3, i64 a) := by
 obtain ⟨csA, rfl, hsz, hrow⟩ := oB kr hval
 obtain ⟨fuel, hf⟩ := hd0
 have hc : Tryz.prog.cellsOf 26 = 4 := by kernel_rfl
 obtain ⟨n0, v1, v2, v3, he, g0, g1, g2, g3⟩ := sZ (cs := csA.toList) (by rw [zi, hsz, hc]) hw hf
 obtain rfl : csA = #[jv n0, v1, v2, v3] := by
  have he2 : csA.toList = [jv n0, v1, v2, v3] := he
  cases csA; simp only at he2; rw [he2]
 obtain ⟨n1_, z1_, h1_, w1_⟩ := g1
 obtain ⟨xv1, k1_, q1_⟩ := lD (jO (i := 1) (ts := [3, 22, 23, 24]) kr rfl hrow rfl) w1_ h1_
 obtain ⟨n2_, z2_, h2_, w2_⟩ := g2
 obtain ⟨xv2, k2_, q2_⟩ := sE (jO (i := 2) (ts := [3, 22, 23, 24]) kr rfl hrow rfl) w2_ h2_
 obtain ⟨n3_, z3_, h3_, w3_⟩ := g3
 obtain ⟨xv3, k3_, q3_⟩ := rp (jO (i := 3) (ts := [3, 22, 23, 24]) kr rfl hrow rfl) w3_ h3_
 exact ⟨n0, v1, xv1, v2, xv2, v3, xv3, O, g0, k1_, q1_, k2_, q2_, k3_, q3_⟩
theorem ql (hval : Value.okWide Tryz.prog W r b0 22 v) (hw : Wt Tryz.prog 22 d) (hd0 : DataW.Trod enc Tryz.prog W base sp hd 22 v d ps) :
  ∃ xs : List Pr2, SlAt W v 2 (xs.map Pr2.cells) ∧ ∀ a ∈ xs, a.wt := by
 obtain ⟨fuel, hf⟩ := hd0
 have hcs : v.cells.toList = [v] := by
  rcases jX (by rw [underlying22]) hval with h
  have : ∃ a n c, v = .slice a n c := by
   unfold Cell.okWide Cell.ok at h
   rw [underlying22] at h
   cases v <;> simp_all
  obtain ⟨a, n, c, rfl⟩ := this
  rfl
 rw [hcs] at hf
 exact lD (jX (by rw [underlying22]) hval) hw hf
end
end Go.Proofs.YtliklcmddmpdfaaGreatDoor
namespace Go.Proofs.YtliklcmddmpdfaaGreatDoor
open Go.RowKit Go.PW _root_.Go.Proofs.Tryz
theorem so_of {key : By} {lim t : Int} {q : Chg} {n : Nat} (hk : key.length = 32) (hq : (0 ≤ q.n ∧ q.n ≤ 99999999) ∧ (0 ≤ q.h ∧ q.h ≤ 63) ∧ (0 ≤ q.c ∧ q.c ≤ 7) ∧ 0 ≤ q.t ∧ q.t ≤ q.a ∧ q.a ≤ 10000000) (hl : 1 ≤ lim ∧ lim ≤ 1000000) (hn : n ≤ 10) (ht : q.a ≤ t ∧ t ≤ 11000000) : eW key lim q n t = true := by
 simp only [eW, Chg.ok, inB, xD, xG]
 omega
def PartR (l : List Cas) (hd : Hd) (r : Rpw) : Prop := r.hd = hd ∧ ∃ ix : List Int, ascI (l.length : Int) (-1) ix = true ∧ itsM r.L = showIs sha (entC l) l.length ix
theorem pN {l : List Cas} {hd : Hd} {R : List Rpw} {r : Rpw} (h : ∀ r ∈ R, PartR l hd r) (hr : PartR l hd r) : ∀ z ∈ R ++ [r], PartR l hd z := bV h hr
theorem oJ {R : List Rpw} {r : Rpw} (h : ∀ r ∈ R, ∀ x ∈ r.L, x.m.pf.length ≤ 1000) (hr : ∀ x ∈ r.L, x.m.pf.length ≤ 1000) : ∀ z ∈ R ++ [r], ∀ x ∈ z.L, x.m.pf.length ≤ 1000 := bV h hr
theorem vS {w : World} {v : Value} {R : List Rpw} {r : Rpw} (h : SlAt w v 6 ((R ++ [r]).map Rpw.cells)) (h2 : (repsE R).ok w) (h3 : ItsAt w r.iv r.L) : RepAt w v (R ++ [r]) := ⟨h, bV h2 h3⟩
theorem oh {s : By} {u : Wsh} {up : List Pxy} (h : bU s = some (u, up)) : 0 ≤ u.holder ∧ u.holder ≤ 63 := by
 have h1 := li h
 simp only [bT, Wsh.ok, inB, xD, xG] at h1
 exact h1.1.1.1.1.1.1.2
section
variable {dc : Int} {dl : List Cas} {kk : By} {hd : Hd} {y : Cas} {u : Wsh} {up : List Pxy} {R : List Rpw} {iv : Value} {L : List Itw} {iq : Nat} {lim at_ t s1 u1 : Int} {q : Chg}
theorem rG (hdok : docOk dc dl = true) (hk : kk.length = 32) (hhd : hdOf sha kk dc (entC dl) dl.length = hd) (hiq : iq < dl.length) (hy : dl.getD iq Cas.z = y) (hdz : bU y.ev = some (u, up)) (hcar : u.carrier = dc) (hv : validH keysH u up y.n y.t = true) (hL : itsM L = showIs sha (entC dl) dl.length (ansIx dl y.n)) (hR : ∀ r ∈ R, PartR dl hd r)
  (q1 : q.n = y.n) (q2 : q.h = u.holder) (q3 : q.c = dc) (q4 : q.t = y.t) (h1 : q.a ≤ at_) (h2 : at_ < q.a + lim) (h3 : at_ ≤ t) (hs : stateH sha keysH kk lim q (repsM (R ++ [⟨at_, hd, iv, L⟩])) t = (s1, u1)) : s1 = 2 ∧ q.a ≤ u1 ∧ u1 ≤ at_ := by
 have hyn : (dl.getD iq Cas.z).n = y.n := by rw [hy]
 have hthere : thereC dl y.n := ⟨iq, hiq, hyn⟩
 have hhit := (mQ (num := y.n) hdok).2 hthere
 have hlow : lowC y.n dl = iq := by
  have hh := hhit
  unfold hitC at hh
  rw [xD, xG, xG] at hh
  exact rE hdok hh.1 hiq hh.2 hyn
 have hix : ansIx dl y.n = [(iq : Int)] := by unfold ansIx; rw [xY hhit, hlow]
 have hm : itmAt sha (entC dl) dl.length (iq : Int) ∈ itsM L := by rw [hL, hix]; exact ya.2 rfl
 have hd0 : decCas (itmAt sha (entC dl) dl.length (iq : Int)).e = some y := by rw [cL hdok om om, yw, hy]
 have hc := dz hdok hk hhd (cP dl y.n) hL
 have hdc : hd.c = dc := by rw [← hhd]; rfl
 have g := o9 (S := sha) (ks := keysH) (key := kk) (q := q) (lim := lim) (t := t) (l := repsM (R ++ [⟨at_, hd, iv, L⟩])) (w := Rpw.m ⟨at_, hd, iv, L⟩) (by unfold repsM; simp)
  (ft.2 ⟨fh.2 ⟨⟨h1, by show at_ ≤ _; omega, h3⟩, by rw [q3]; exact hdc, hc⟩, oC hm hd0 q1.symm q4.symm hdz q2.symm (by rw [hcar, q3]) (by rw [q1, q4]; exact hv)⟩) (fun r hr => by
   have key : ∀ {z : Rpw}, PartR dl hd z → backB sha kk q (q.a + lim) t z.m = false := fun {z} ⟨e1, ix, e2, e3⟩ => by
    rw [Bool.eq_false_iff]; intro h
    have h9 : lackF z.hd.n q.n (-1) false (itsM z.L) = true := (kg.1 h).2
    rw [e1, q1, iN e3 hhd hdok e2 hthere] at h9
    cases h9
   unfold repsM at hr
   obtain ⟨z, hz, rfl⟩ := yo.1 hr
   rcases yF.1 hz with hz | hz
   ·exact key (hR z hz)
   ·rw [ya.1 hz]; exact key ⟨rfl, _, cP dl y.n, hL⟩)
 rw [hs] at g
 exact g
end
theorem pK (cr : Int) (v1 : Value) (cs : List Pr2) (v2 : Value) (ns : List Nin) (v3 : Value) (hs : List Int) (which asked limit at_ : Int) (xv : Value) (xs : List Pr2) (t : Int) (w0 : World) (hv1 : SlAt w0 v1 2 (cs.map Pr2.cells)) (hv2 : SlAt w0 v2 8 (ns.map Nin.cells)) (hns : ∀ u ∈ ns, u.wt w0) (hv3 : SlAt w0 v3 1 (hs.map fun z : Int => [jv z])) (hcr : i64 cr) (hcs : ∀ y ∈ cs, y.wt) (hhs : ∀ z ∈ hs, i64 z) (h_which : i64 which) (h_asked : i64 asked) (h_limit : i64 limit) (h_at_ : i64 at_) (hxv : SlAt w0 xv 2 (xs.map Pr2.cells)) (hxs : ∀ y ∈ xs, y.wt) (h_t : i64 t) (hk0 : (blk 0 (kOf.map wv) 258).ok w0) :
  Ret Tryz.prog 9 #[.agg #[jv cr, v1, v2, v3], jv which, jv asked, jv limit, jv at_, xv, jv t] w0 fun v w => v = .bool true ∧ Ext No w0 w := by
 have wwhich := h_which
 unfold i64 at wwhich
 have wasked := h_asked
 unfold i64 at wasked
 have wlimit := h_limit
 unfold i64 at wlimit
 have wat_ := h_at_
 unfold i64 at wat_
 have wt := h_t
 unfold i64 at wt
 have hpab := aV asked (n := 100) de
 obtain ⟨pa, hpa⟩ : ∃ z, pickI asked 100 = z := ⟨_, rfl⟩
 rw [hpa] at hpab
 have hplb := aV limit (n := 60) de
 obtain ⟨pl, hpl⟩ : ∃ z, pickI limit 60 = z := ⟨_, rfl⟩
 rw [hpl] at hplb
 have hptb := aV t (n := 100) de
 obtain ⟨pt, hpt⟩ : ∃ z, pickI t 100 = z := ⟨_, rfl⟩
 rw [hpt] at hptb
 refine zF func9 O ntmps9 (lb O) fun a Z Y => ?_
 refine aa fun _ G1 => aS Z Y O [jv cr, v1, v2, v3] O fun a w1 Z Y => wla Z O fun a Z => G1 <| aa fun _ G2 => ?_
 refine ax Z Y call11 O (wA _ (Y.keepb hk0)) fun a w2 Z Y => wla Z O fun a Z => G2 <| ah fun _ G3 => ?_
 refine aa fun _ G4 => nv Z <| xy O <| xx ((bD O).asb (b' := false) O) <| fun a Z => G4 <| aJ Z O ?_
 refine au <| G3 <| aa fun _ G5 => wlv Z (ao (Y.g 0 O) O (isAgg26 _) (sizeOf26 _)) fun a Z => bC Z Y call12 O (q7 cr v1 cs v2 ns v3 hs _ (Y.arg hv1) (Y.arg hv2) (fun u h => (hns u h).grow Y.ext) (Y.arg hv3) hcr hcs hhs) fun a w3 x1 hp Z Y => ?_
 obtain ⟨dc, dv, dl⟩ := x1
 have hD := hp
 try dsimp only at Y
 replace Y := Y.n2 O
 refine aC Z Y (zeroValue32 _) [jv 0, .slice none 0 0] O fun a w4 Z Y => bd (us := [jv dc, dv]) 0 Z Y O O O (sizeOf32 _) AK (lb O) (ds := [jv dc, dv]) O O fun a w5 Z Y => ?_
 refine G5 ?_
 replace Z := Z.p9 1 2 3 4 5 6 14 15 16 O
 replace Y := Y.k2 3 O
 refine ah fun _ G6 => ?_
 have hD : Doc dc dl := hD
 obtain ⟨hdok, hdl, hdb⟩ := id hD
 have hcb := hD.car
 obtain ⟨kk, hkk⟩ : ∃ k, keyG dc = k := ⟨_, rfl⟩
 have hk32 : kk.length = 32 := by rw [← hkk]; exact oe _
 obtain ⟨hd, hhd⟩ : ∃ h, hdOf sha kk dc (entC dl) dl.length = h := ⟨_, rfl⟩
 have hreg := jC hD.1
 have hel := dN dl
 refine aa fun _ G7 => nv Z <| xx (ac (v := po w3.hz 1) O kr) <| xx (ld Y 0 O O (isAgg30 _) O) <| xx ((aL (sT := 30) (Y.ow 1 O) O O (runUnderlying30 _)).asi (m' := (dl.length : Int)) z6) <| xx (v_eq O O) <| fun a Z => G7 <| aA Z O (fun hc2 => ?_) (fun hc2 => ?_)
 ·refine aa fun _ G8 => wlv Z (ao (Y.g 0 O) O (isAgg32 _) (sizeOf32 _)) fun a Z => ax Z Y call31 O (cB hD.1 (ij dc dv dl _ (Y.ow 1 O))) fun a w6 Z Y => wla Z O fun a Z => G8 ?_
  replace Z := Z.p9 1 2 3 4 5 6 15 16 14 O
  refine ap <| al Z results9 (ag O ae) ?_
  exact ⟨O, Y.ext⟩
 refine au <| G6 <| aa fun _ G9 => nv Z <| xx (ac (v := pq w3.hz) O kr) <| xx (ld Y 0 O O (isAgg3 _) O) <| fun a Z => ax Z Y call13 O (gz (by rw [hkk]) (ka dc _ om)) fun a w7 Z Y => wla Z O fun a Z => G9 ?_
 replace Z := Z.p10 1 2 3 4 5 6 14 15 16 17 O
 refine ah fun _ G10 => ?_
 obtain ⟨iq, hjq⟩ : ∃ m : Nat, pickI which (dl.length : Int) = (m : Int) := ⟨_, (yZ (aV _ (n := (dl.length : Int)) om).1).symm⟩
 have hiql := (aV which (n := (dl.length : Int)) om).2
 rw [hjq] at hiql
 obtain ⟨y, hy⟩ : ∃ y, dl.getD iq Cas.z = y := ⟨_, rfl⟩
 have hyo : y.ok = true := by rw [← hy]; exact iY hD.1 _ (mJ om)
 have hyb := Cas.bnd hyo
 have hyd := hD.at (i := iq) om
 rw [hy] at hyd
 obtain ⟨hyn, hyt, hye⟩ := hyd
 refine aM (aN fun w8 hxz => ?_)
 replace Y := Y.grow hxz
 refine aU (k := 0) 10 [8, 9] Z ?_
 replace Z := Z.p10 1 2 3 4 5 6 14 15 16 17 O
 refine bI [9] (fun i => match i with | 9 => pm (fun b : Nat => pq b) (fun b => [blk b [jv 0, jv 0, .string (⟨#[]⟩)] 55]) (fun _ => True) | _ => fun _ _ => False) 10 [[], [0], [], [], [3], [4], [2, 5], [1, 6], [7], []] [po w3.hz 1, dv, jv which, po w3.hz 1, dv, jv (dl.length : Int), jv (iq : Int), slAddr dv (iq * 3), .agg #[jv y.n, jv y.t, sv y.ev], undef] Z Y ?_ ?_ ?_
 ·exact zI <| hqv (ac (v := po w3.hz 1) rfl kr) <| hqw (fun Y => ld Y 0 rfl rfl (isAgg30 _) rfl) <| hqv (ay rfl) <| hqv (ac (v := po w3.hz 1) rfl kr) <| hqw (fun Y => ld Y 0 rfl rfl (isAgg30 _) rfl) <| hqw (fun Y => (aL (sT := 30) (Y.ow 1 rfl) rfl rfl (runUnderlying30 _)).asi (m' := (dl.length : Int)) z6) <| zG (fun _ _ _ => bF call16 rfl (fL hjq (dT which (dl.length : Int) _ ⟨om, om⟩ ⟨om, om⟩))) <| hqw (fun Y => (am (i := (iq : Int)) (sT := 30) (Y.ow 1 rfl) rfl rfl (runUnderlying30 _) (sizeOf55 _) om zL).as (v' := slAddr dv (iq * 3)) AR) <| hqw (fun Y => (bL (Y.ow 1 rfl) (i := iq) zL rfl (isAgg55 _) (sizeOf55 _)).as (v' := .agg #[jv y.n, jv y.t, sv y.ev]) (by rw [bA Cas.z, hy]; rfl)) <| zG (fun h => absurd sm h) <| zH
 ·intro i hi
  simp only [xL, xQ, yj] at hi
  subst hi
  ·intro w Y
   exact g9 (zeroValue55 _) (cs := [jv 0, jv 0, .string (⟨#[]⟩)]) O
 clear Z Y
 rintro _ _ ⟨b3, rfl, -, rfl⟩ a w9 Z Y
 replace Z := Z.p11 56 18 2 3 4 5 6 14 15 16 17 O
 replace Y := Y.n3 O
 refine ab <| aK (k := 10) 11 [10] ?_
 refine az 0 Z Y [jv y.n, jv y.t, sv y.ev] O (sizeOf55 _) fun a w10 Z Y => ab <| aT <| G10 ?_
 refine aa fun _ G11 => nv (Z.p10 2 3 4 5 6 14 15 16 17 18 O) <| xx (ac (v := po b3 2) O kr) <| xx (ld Y 0 O O (isAgg9 _) O) <| fun a Z => ?_
 rcases xH ((bU y.ev).isSome) with hb4 | hb4
 ·obtain ⟨⟨u, up⟩, hdz⟩ := yH.1 hb4
  have hub1 := oh hdz
  refine bC Z Y call39 O (kR om hdz) fun a w11 x5 hp Z Y => ?_
  revert x5 hp Z Y; rintro dv6 hp Z Y
  clear hp
  replace Y := Y.n4 O
  refine nv Z <| xy O <| xx (aq O O) <| xx (aq O O) <| xx (aq O O) <| fun a Z => aC Z Y (zeroValue90 _) [jv 0, jv 0, jv 0, jv 0, jv 0, jv 0, jv 0, jv 0, .string (⟨#[]⟩)] O fun a w12 Z Y => az 0 Z Y [jv u.signer, jv u.holder, jv u.rf, jv u.rt, jv u.carrier, jv u.serial, jv u.sf, jv u.st, sv u.sig] O (sizeOf90 _) fun a w13 Z Y => nv Z <| xz O <| xz O <| fun a Z => G11 ?_
  replace Z := Z.p13 2 3 4 5 6 14 15 16 17 18 19 20 21 O
  refine ah fun _ G12 => ah fun _ G13 => aM (aN fun w14 hxz => ?_)
  replace Y := Y.grow hxz
  refine aK (k := 0) 3 [2] ?_
  refine nv Z <| xy O <| xx ((v_ne O O).asb (b' := false) O) <| xy O <| fun a Z => ab <| aU (k := 3) 7 [4, 6] Z ?_
  refine bQ 4 (Z.p16 2 3 4 5 6 14 15 16 17 18 19 20 21 64 65 66 O) Y <| pl_v (ac (v := po w11.hz 4) O kr) <| pl_w (fun Y => ld Y 0 O O (isAgg3 _) O) <| pl_v (ac (v := pq w3.hz) O kr) <| pl_w (fun Y => ld Y 3 O O (isAgg3 _) O) fun a w15 Z Y => ?_
  replace Z := Z.p15 2 3 4 5 6 14 15 16 17 18 19 20 66 68 70 O
  refine ab <| aK (k := 7) 10 [9] ?_
  refine nv Z <| xA (v_ne O O) <| xx (ai O O) <| xy O <| fun a Z => ab ?_
  rcases (Decidable.em (u.carrier = dc)).symm with hb6 | hb6
  ·rw [xK hb6] at Z
   replace Z : Fr 202 [(2, jv asked), (3, jv limit), (4, jv at_), (5, xv), (6, jv t), (14, .bool false), (15, .bool true), (16, pq w3.hz), (17, sv kk), (18, pq b3), (19, pq w11.hz), (20, dv6), (66, .bool false), (68, jv u.carrier), (70, jv dc), (71, .bool true), (72, .bool true), (73, .bool true)] [] a := Z.pick [2, 3, 4, 5, 6, 14, 15, 16, 17, 18, 19, 20, 66, 68, 70, 71, 72, 73]
   refine cW (k := 10) 17 [10, 11, 12, 14, 16] Z fun a Z => ?_
   replace Z : Fr 202 [(74, undef), (75, undef), (76, undef), (77, undef), (78, undef), (79, undef), (80, undef), (2, jv asked), (3, jv limit), (4, jv at_), (5, xv), (6, jv t), (14, .bool false), (15, .bool true), (16, pq w3.hz), (17, sv kk), (18, pq b3), (19, pq w11.hz), (20, dv6), (66, .bool false), (68, jv u.carrier), (70, jv dc), (71, .bool true), (72, .bool true), (73, .bool true)] [] a := Z
   refine aK (k := 17) 20 [19] ?_
   refine nv Z <| xB <| xB <| xx (aw O O) <| fun a Z => ab <| aT <| G13 ?_
   replace Z := Z.p12 2 3 4 5 6 14 15 16 17 18 19 83 O
   replace Y := Y.k4 29 O
   refine aH Z O ?_
   refine aa fun _ G14 => nv Z <| xy O <| xz O <| fun a Z => G14 <| ap ?_
   refine al Z results9 (ag O ae) ?_
   exact ⟨O, Y.ext⟩
  rw [xF hb6] at Z
  have huc : u.carrier = dc := by omega
  refine aU (k := 10) 17 [10, 11, 12, 14, 16] Z ?_
  replace Z : Fr 202 [(2, _), (3, _), (4, _), (5, _), (6, _), (14, _), (15, _), (16, _), (17, _), (18, _), (19, _), (20, _), (66, _), (68, _), (70, _), (71, _), (72, _), (73, _)] [] a := Z.pick [2, 3, 4, 5, 6, 14, 15, 16, 17, 18, 19, 20, 66, 68, 70, 71, 72, 73]
  refine bI [0] (fun i => match i with | 0 => pm (fun v : Value => v) (fun v => [own v 9 1 (keysH.map fun s => [sv s])]) (fun _ => True) | _ => fun _ _ => False) 7 [[], [], [], [], [3], [], [5]] [undef, .agg #[jv u.signer, jv u.holder, jv u.rf, jv u.rt, jv u.carrier, jv u.serial, jv u.sf, jv u.st, sv u.sig], dv6, pq b3, jv y.n, po b3 1, jv y.t] Z Y ?_ ?_ ?_
  ·exact zI <| zG (fun h => absurd sm h) <| hqw (fun Y => ao (Y.g 0 rfl) rfl (isAgg90 _) (sizeOf90 _)) <| hqv (ay rfl) <| hqv (ac (v := pq b3) rfl kr) <| hqw (fun Y => ld Y 2 rfl rfl (isAgg3 _) rfl) <| hqv (ac (v := po b3 1) rfl kr) <| hqw (fun Y => ld Y 2 rfl rfl (isAgg3 _) rfl) <| zH
  ·intro i hi
   simp only [xL, xQ, yj] at hi
   subst hi
   ·intro w Y
    exact er call18 O (mI _)
  clear Z Y
  rintro kv7 _ ⟨_, rfl, -, rfl⟩ a w16 Z Y
  replace Z := Z.p17 74 75 76 78 80 2 3 4 5 6 14 15 16 17 18 19 73 O
  replace Y := Y.n6 O
  refine ab <| aK (k := 17) 20 [19] ?_
  refine aF Z Y call40 O (nQ kv7 dv6 (keysH) u up y.n y.t _ (Y.ow 0 O) (Y.ow 2 O) (Y.keepb hk0)) fun a w17 Z Y => nv Z <| xA (bD O) <| xx (ai O O) <| fun a Z => ab <| aT <| G13 ?_
  replace Z := Z.p12 2 3 4 5 6 14 15 16 17 18 19 83 O
  replace Y := Y.k4 58 O
  refine bu Z O (fun hc8 => ?_) (fun hc8 => ?_)
  ·try simp only [qz] at hc8
   refine aa fun _ G15 => nv Z <| xy O <| xz O <| fun a Z => G15 <| ap ?_
   refine al Z results9 (ag O ae) ?_
   exact ⟨O, Y.ext⟩
  try simp only [qz] at hc8
  have hvl := hc8
  refine au <| G12 <| ah fun _ G16 => aM (aN fun w18 hxz => ?_)
  replace Y := Y.grow hxz
  refine aU (k := 0) 15 [13, 14] Z ?_
  replace Z := Z.p11 2 3 4 5 6 14 15 16 17 18 19 O
  refine bI [14] (fun i => match i with | 14 => pm (fun b : Nat => pq b) (fun b => [blk b [jv 0, jv 0, jv 0, jv 0, jv 0] 36]) (fun _ => True) | _ => fun _ _ => False) 15 [[], [0], [], [2], [], [4], [], [6], [], [8], [], [10], [9, 11], [1, 3, 5, 7, 12], []] [pq b3, jv y.n, po w11.hz 1, jv u.holder, pq w3.hz, jv dc, po b3 1, jv y.t, po b3 1, jv y.t, jv asked, jv pa, jv (y.t + pa), .agg #[jv y.n, jv u.holder, jv dc, jv y.t, jv (y.t + pa)], undef] Z Y ?_ ?_ ?_
  ·exact zI <| hqv (ac (v := pq b3) rfl kr) <| hqw (fun Y => ld Y 1 rfl rfl (isAgg3 _) rfl) <| hqv (ac (v := po w11.hz 1) rfl kr) <| hqw (fun Y => ld Y 0 rfl rfl (isAgg3 _) rfl) <| hqv (ac (v := pq w3.hz) rfl kr) <| hqw (fun Y => ld Y 2 rfl rfl (isAgg3 _) rfl) <| hqv (ac (v := po b3 1) rfl kr) <| hqw (fun Y => ld Y 1 rfl rfl (isAgg3 _) rfl) <| hqv (ac (v := po b3 1) rfl kr) <| hqw (fun Y => ld Y 1 rfl rfl (isAgg3 _) rfl) <| hqv (ay rfl) <| zG (fun _ _ _ => bF call16 rfl (fL hpa (dT asked 100 _ ⟨om, om⟩ ⟨om, om⟩))) <| hqv (aP rfl rfl ⟨om, om⟩) <| hqv (aX (v := .agg #[jv y.n, jv u.holder, jv dc, jv y.t, jv (y.t + pa)]) rfl kr) <| zG (fun h => absurd sm h) <| zH
  ·intro i hi
   simp only [xL, xQ, yj] at hi
   subst hi
   ·intro w Y
    exact g9 (zeroValue36 _) (cs := [jv 0, jv 0, jv 0, jv 0, jv 0]) O
  clear Z Y
  rintro _ _ ⟨b9, rfl, -, rfl⟩ a w19 Z Y
  replace Z := Z.p10 98 22 3 4 5 6 14 16 17 18 O
  replace Y := Y.n5 O
  refine ab <| aK (k := 15) 16 [15] ?_
  refine az 0 Z Y [jv y.n, jv u.holder, jv dc, jv y.t, jv (y.t + pa)] O (sizeOf36 _) fun a w20 Z Y => ab <| aT <| G16 ?_
  replace Y := Y.k4 29 O
  refine aa fun _ G17 => wlm (Z.p9 3 4 5 6 14 16 17 18 22 O) O fun a Z => ax Z Y call16 O (fL hpl (dT limit 60 _ ⟨om, om⟩ ⟨om, om⟩)) fun a w21 Z Y => nv Z <| xx (aP O O ⟨om, om⟩) <| xz O <| fun a Z => G17 <| aa fun _ G18 => ?_
  refine nv Z <| xy O <| xx (ao (Y.g 2 O) O (isAgg32 _) (sizeOf32 _)) <| xx (ac (v := pq b3) O kr) <| xx (ld Y 1 O O (isAgg3 _) O) <| fun a Z => bC Z Y call22 O (ez kk hd dc dv dl y.n _ (Y.ow 3 O) hk32 hD.1 hhd om (Y.keepb hk0)) fun a w22 x11 hp Z Y => ?_
  obtain ⟨iv10, Liv10⟩ := x11
  have hLiv10 := hp
  try dsimp only at Y
  replace Y := Y.n5 O
  refine nv Z <| xy O <| xx (aq O O) <| xx (aq O O) <| fun a Z => aC Z Y (zeroValue50 _) [jv 0, jv 0, .string (⟨#[]⟩), .string (⟨#[]⟩), .slice none 0 0] O fun a w23 Z Y => bd (us := [jv hd.c, jv hd.n, sv hd.root, sv hd.tag, iv10]) 0 Z Y O O O (sizeOf50 _) zR (lb O) (ds := [jv hd.c, jv hd.n, sv hd.root, sv hd.tag, iv10]) O O fun a w24 Z Y => ?_
  refine wla Z O fun a Z => G18 ?_
  replace Z := Z.p10 4 5 6 14 16 17 22 23 24 25 O
  replace Y := Y.k5 55 O
  refine ah fun _ G19 => ?_
  have hpwb := aV at_ (n := 1 + pl) om
  obtain ⟨pw, hpw⟩ : ∃ z, pickI at_ (1 + pl) = z := ⟨_, rfl⟩
  rw [hpw] at hpwb
  refine aM (aN fun w25 hxz => ?_)
  replace Y := Y.grow hxz
  refine aU (k := 0) 5 [1, 4] Z ?_
  refine bQ 5 (Z.p10 4 5 6 14 16 17 22 23 24 25 O) Y <| pl_v (ac (v := po b9 4) O kr) <| pl_w (fun Y => ld Y 2 O O (isAgg3 _) O) <| pl_m O <| pl_m O <| pl_r (fun Y => bF call16 O (fL hpw (dT at_ (1 + pl) _ ⟨om, om⟩ ⟨om, om⟩))) fun a w26 Z Y => ?_
  replace Z := Z.p11 5 6 14 16 17 22 23 24 25 111 114 O
  refine ab <| aK (k := 5) 7 [6] ?_
  refine nv Z <| xx (aP O O ⟨om, om⟩) <| xz O <| fun a Z => ab <| aT <| G19 <| aa fun _ G20 => wla Z O fun a Z => G20 <| ah fun _ G21 => ?_
  refine aa fun _ G22 => wla Z O fun a Z => G22 <| nl (fun a w => ∃ (v : Value), ∃ (R : List Rpw), (R.length ≤ 5) ∧ (∀ r ∈ R, ∀ x ∈ r.L, x.m.pf.length ≤ 1000) ∧ (∀ r ∈ R, PartR dl hd r) ∧ Fr 202 [(6, jv t), (17, sv kk), (22, pq b9), (23, jv (1 + pl)), (24, pq w22.hz), (25, jv 0), (26, jv ((y.t + pa) + pw)), (27, v)] [] a ∧ St No w0 [own v 52 6 ((R).map Rpw.cells), repsE R, blk w3.hz [jv dc, dv] 32, blk b9 [jv y.n, jv u.holder, jv dc, jv y.t, jv (y.t + pa)] 36, blk w22.hz [jv hd.c, jv hd.n, sv hd.root, sv hd.tag, iv10] 50, own dv 55 3 ((dl).map Cas.cells), itsE iv10 Liv10] w) ?_ ?_
  ·refine ar ?_
   replace Y : St No w0 [own (.slice none 0 0) 52 6 (([] : List Rpw).map Rpw.cells), blk w22.hz [jv hd.c, jv hd.n, sv hd.root, sv hd.tag, iv10] 50, itsE iv10 Liv10, blk b9 [jv y.n, jv u.holder, jv dc, jv y.t, jv (y.t + pa)] 36, blk w3.hz [jv dc, dv] 32, own dv 55 3 ((dl).map Cas.cells)] w26 := Y.nil_own
   replace Y : St No w0 [repsE ([] : List Rpw), own (.slice none 0 0) 52 6 (([] : List Rpw).map Rpw.cells), blk w22.hz [jv hd.c, jv hd.n, sv hd.root, sv hd.tag, iv10] 50, itsE iv10 Liv10, blk b9 [jv y.n, jv u.holder, jv dc, jv y.t, jv (y.t + pa)] 36, blk w3.hz [jv dc, dv] 32, own dv 55 3 ((dl).map Cas.cells)] w26 := tn Y
   refine aW (fun m a w => ∃ (k : Nat) (v : Value) (R : List Rpw), m = 5 - k ∧ (k ≤ 5) ∧ (R.length = k) ∧ (∀ r ∈ R, ∀ x ∈ r.L, x.m.pf.length ≤ 1000) ∧ (∀ r ∈ R, PartR dl hd r) ∧ Fr 202 [(5, xv), (6, jv t), (16, pq w3.hz), (17, sv kk), (22, pq b9), (23, jv (1 + pl)), (24, pq w22.hz), (25, jv 0), (26, jv ((y.t + pa) + pw)), (27, v), (28, jv (k : Int))] [] a ∧ St No w0 [own v 52 6 ((R).map Rpw.cells), repsE R, blk w3.hz [jv dc, dv] 32, blk b9 [jv y.n, jv u.holder, jv dc, jv y.t, jv (y.t + pa)] 36, blk w22.hz [jv hd.c, jv hd.n, sv hd.root, sv hd.tag, iv10] 50, own dv 55 3 ((dl).map Cas.cells), itsE iv10 Liv10] w) _ ⟨0, .slice none 0 0, [], O, de, O, sm, sm, Z.pick [5, 6, 16, 17, 22, 23, 24, 25, 26, 27, 28], Y.select [1, 0, 5, 4, 2, 6, 3] de⟩ ?_
   rintro _ a w27 ⟨k, v, R, rfl, hk, hRk, hRp, hRq, Z, Y⟩
   refine ah fun _ G23 => aa fun _ G24 => nv Z <| xy O <| xy O <| xx ((aL (sT := 22) (Y.arg hxv) O O (runUnderlying22 _)).asi (m' := (xs.length : Int)) z6) <| xx (v_lt O O) <| xy O <| fun a Z => ?_
   rcases Decidable.em ((k : Int) < (xs.length : Int)) with hb12 | hb12
   ·rw [xF hb12] at Z
    have hkx : k < xs.length := by omega
    obtain ⟨yy, hyy⟩ : ∃ z, xs.getD k Pr2.z = z := ⟨_, rfl⟩
    have hyw := hxs _ (bt (d := Pr2.z) hkx)
    rw [hyy] at hyw
    obtain ⟨hya, hyb2⟩ := hyw
    have g1 := hya
    have g2 := hyb2
    unfold i64 at g1 g2
    have p1 := aV yy.a (n := 70) de
    refine nv Z <| xA (ay O) <| xA (v_lt O O) <| xx (aw O O) <| fun a Z => G24 ?_
    replace Z := Z.p12 5 6 16 17 22 23 24 25 26 27 28 123 O
    refine aA Z O (fun hc13 => ?_) (fun hc13 => ?_)
    ·refine au <| G23 <| ah fun _ G25 => ar <| ah fun _ G26 => aM (aN fun w28 hxz => ?_)
     replace Y := Y.grow hxz
     refine aU (k := 0) 21 [18, 20] Z ?_
     replace Z := Z.p11 5 6 16 17 22 23 24 25 26 27 28 O
     refine eC 19 20 17 [(16, 15, fun u => u), (17, 16, fun u => tupAt u 0)] 50 [jv 0, jv 0, .string (⟨#[]⟩), .string (⟨#[]⟩), .slice none 0 0] (fun u => u.cells.toList) 21 [[], [], [1], [], [3], [4], [], [], [6, 7], [8], [9], [], [11], [12], [10, 13], [0, 2, 5, 14], [15], [16], [16], [], [17, 19]] (fun i => match i with | 0 => pv (sv kk) | 1 => pv (.agg #[jv dc, dv]) | 2 => pm (fun v : Value => .agg #[jv dc, v]) (fun v => [own v 9 1 ((entC dl).map fun s => [sv s])]) (fun _ => True) | 3 => pv (po w3.hz 1) | 4 => pv (dv) | 5 => pv (jv (dl.length : Int)) | 6 => pv (xv) | 7 => pv (jv (k : Int)) | 8 => pv (slAddr xv (k * 2)) | 9 => pv (slAddr xv (k * 2 + 1)) | 10 => pv (jv yy.b) | 11 => pv (po w3.hz 1) | 12 => pv (dv) | 13 => pv (jv (dl.length : Int)) | 14 => pm (fun x : Value × List Int => x.1) (fun x => [own x.1 3 1 (x.2.map fun z : Int => [jv z])]) (fun x => ascI (dl.length : Int) (-1) x.2 = true ∧ x.2.length ≤ dl.length) | 15 => pm (fun x : Value × List Itw => .tuple #[.agg #[jv hd.c, jv hd.n, sv hd.root, sv hd.tag, x.1], jv 0]) (fun x => [itsE x.1 x.2]) (fun x => ∃ ix : List Int, ascI (dl.length : Int) (-1) ix = true ∧ ix.length ≤ dl.length ∧ itsM x.2 = showIs sha (entC dl) dl.length ix) | 16 => fun v E => (∃ sa0 sn0 sc0, v = .tuple #[.agg #[jv hd.c, jv hd.n, sv hd.root, sv hd.tag, (.slice sa0 sn0 sc0)], jv 0]) ∧ E = [] | 17 => fun v E => (∃ sa0 sn0 sc0, v = .agg #[jv hd.c, jv hd.n, sv hd.root, sv hd.tag, (.slice sa0 sn0 sc0)]) ∧ E = [] | 18 => pv (jv 0) | 19 => fun v E => ∃ b, v = ptr b ∧ E = [] | 20 => fun v E => v = undef ∧ E = [] | _ => fun _ _ => False) Z (H := [own v 52 6 ((R).map Rpw.cells), repsE R, blk w3.hz [jv dc, dv] 32, blk b9 [jv y.n, jv u.holder, jv dc, jv y.t, jv (y.t + pa)] 36, blk w22.hz [jv hd.c, jv hd.n, sv hd.root, sv hd.tag, iv10] 50, own dv 55 3 ((dl).map Cas.cells), itsE iv10 Liv10]) Y kr kr kr kr de de de de de de de kr AC ?_ (fun _ _ h => h) ⟨O, O⟩ (fun _ _ => Iff.rfl) ?_ ?_ ?_ ?_ ?_
     ·intro i v E h
      match i, h with
      | 0, _ => exact by decide
      | 1, _ => exact by decide
      | 2, _ => exact by decide
      | 3, _ => exact by decide
      | 4, _ => exact by decide
      | 5, _ => exact by decide
      | 6, _ => exact by decide
      | 7, _ => exact by decide
      | 8, _ => exact by decide
      | 9, _ => exact by decide
      | 10, _ => exact by decide
      | 11, _ => exact by decide
      | 12, _ => exact by decide
      | 13, _ => exact by decide
      | 14, _ => exact by decide
      | 15, _ => exact by decide
      | 16, _ => exact by decide
      | 17, _ => exact by decide
      | 18, _ => exact by decide
      | 19, _ => exact by decide
      | 20, _ => exact by decide
      | i + 21, h => exact h.elim
     ·intro i hi hia hij hil e
      match i, hi, hia, hij, hil with
      | 0, _, _, _, _ =>
       intro hl9 w Y
       exact OpV.g (ay O)
      | 1, _, _, _, _ =>
       intro hl9 w Y
       exact OpV.g (ao (Y.g 3 O) O (isAgg32 _) (sizeOf32 _))
      | 2, _, _, _, _ =>
       rintro _ _ ⟨rfl, rfl⟩
       intro hl9 w Y
       exact er call27 O (vy dc dv dl _ (Y.ow 6 O) om)
      | 3, _, _, _, _ =>
       intro hl9 w Y
       exact OpV.g (ac (v := po w3.hz 1) O kr)
      | 4, _, _, _, _ =>
       rintro _ _ ⟨rfl, rfl⟩
       intro hl9 w Y
       exact OpV.g (ld Y 3 O O (isAgg30 _) O)
      | 5, _, _, _, _ =>
       rintro _ _ ⟨rfl, rfl⟩
       intro hl9 w Y
       exact OpV.g ((aL (sT := 30) (Y.ow 6 O) O O (runUnderlying30 _)).asi (m' := (dl.length : Int)) z6)
      | 6, _, _, _, _ =>
       intro hl9 w Y
       exact OpV.g (ay O)
      | 7, _, _, _, _ =>
       intro hl9 w Y
       exact OpV.g (ay O)
      | 8, _, _, _, _ =>
       rintro _ _ ⟨rfl, rfl⟩ _ _ ⟨rfl, rfl⟩
       intro hl9 w Y
       exact OpV.g ((am (i := (k : Int)) (sT := 22) (Y.arg hxv) O O (runUnderlying22 _) (sizeOf63 _) om zL).as (v' := slAddr xv (k * 2)) O)
      | 9, _, _, _, _ =>
       rintro _ _ ⟨rfl, rfl⟩
       intro hl9 w Y
       exact OpV.g (cT (k := k * 2) (j := 1) (Y.arg hxv) (i := k) zL O O (fun _ _ => by kernel_rfl))
      | 10, _, _, _, _ =>
       rintro _ _ ⟨rfl, rfl⟩
       intro hl9 w Y
       exact OpV.g (aD (u := jv yy.b) (i := k) (j := 1) (Y.arg hxv) zL O (isAgg3 _) (by rw [bA Pr2.z, hyy]; rfl))
      | 11, _, _, _, _ =>
       intro hl9 w Y
       exact OpV.g (ac (v := po w3.hz 1) O kr)
      | 12, _, _, _, _ =>
       rintro _ _ ⟨rfl, rfl⟩
       intro hl9 w Y
       exact OpV.g (ld Y 3 O O (isAgg30 _) O)
      | 13, _, _, _, _ =>
       rintro _ _ ⟨rfl, rfl⟩
       intro hl9 w Y
       exact OpV.g ((aL (sT := 30) (Y.ow 6 O) O O (runUnderlying30 _)).asi (m' := (dl.length : Int)) z6)
      | 14, _, _, _, _ =>
       rintro _ _ ⟨rfl, rfl⟩ _ _ ⟨rfl, rfl⟩
       intro hl9 w Y
       exact er call28 O (sV yy.b dl.length _ hyb2 om)
      | 15, _, _, _, _ =>
       rintro _ _ ⟨rfl, rfl⟩ _ _ ⟨ev15, rfl, -, rfl⟩ _ _ ⟨rfl, rfl⟩ xv16 _ ⟨⟨_, lxv16⟩, rfl, ⟨haxv16, hlxv16⟩, rfl⟩
       intro hl9 w Y
       exact er call26 O ((iR kk dl.length hd xv16 lxv16 dc ev15 (entC dl) _ (Y.ow 0 O) (Y.ow 1 O) hk32 hreg om haxv16 (yB (show lxv16.length ≤ _ from hlxv16) om) hhd (Y.keepb hk0)).mono fun v w h => si h (fun x hx => ⟨lxv16, haxv16, hlxv16, hx⟩))
      | 16, _, _, _, h => exact absurd de h
      | 17, _, _, _, h => exact absurd de h
      | 18, _, _, _, _ =>
       rintro _ _ ⟨⟨sa0, sn0, sc0, rfl⟩, rfl⟩
       intro hl9 w Y
       exact OpV.g (aq O O)
      | 19, _, h, _, _ => exact absurd O h
      | 20, _, _, h, _ => exact absurd O h
      | i + 21, h, _, _, _ => exact absurd h om
     ·intro x hx e
      simp only [xL, xQ, yj] at hx
      rcases hx with rfl | rfl
      ·rintro _ _ ⟨⟨iv17, Liv17⟩, rfl, ⟨ixiv17, hixiv17, hiliv17, hLiv17⟩, rfl⟩
       intro w Y
       obtain ⟨sa0, sn0, sc0, rfl⟩ := cQ (bp (k := 0) Y rfl).1
       exact OpV.hopv (OpV.g (ay O)) ⟨⟨_, _, _, O⟩, O⟩
      ·rintro _ _ ⟨⟨sa0, sn0, sc0, rfl⟩, rfl⟩
       intro w Y
       exact OpV.hopv (OpV.g (aq O O)) ⟨⟨_, _, _, O⟩, O⟩
     ·exact fun Lv w => eu (zeroValue50 _)
     ·rintro _ _ ⟨⟨sa0, sn0, sc0, rfl⟩, rfl⟩ _ _ ⟨b14, rfl, rfl⟩
      intro b hb u hu w h
      have hb : some (ptr b14) = some (ptr b) := hb
      cases hb
      have hu : some (.agg #[jv hd.c, jv hd.n, sv hd.root, sv hd.tag, (.slice sa0 sn0 sc0)]) = some u := hu
      cases hu
      exact dF O O h (sizeOf50 _) O (lb O) O
     clear Z Y
     rintro V bq hva hlk _ _ ⟨⟨rfl, rfl⟩, -⟩ _ _ ⟨⟨rfl, rfl⟩, -⟩ _ _ ⟨⟨ev15, rfl, -, rfl⟩, -⟩ _ _ ⟨⟨rfl, rfl⟩, -⟩ _ _ ⟨⟨rfl, rfl⟩, -⟩ _ _ ⟨⟨rfl, rfl⟩, -⟩ _ _ ⟨⟨rfl, rfl⟩, -⟩ _ _ ⟨⟨rfl, rfl⟩, -⟩ _ _ ⟨⟨rfl, rfl⟩, -⟩ _ _ ⟨⟨rfl, rfl⟩, -⟩ _ _ ⟨⟨rfl, rfl⟩, -⟩ _ _ ⟨⟨rfl, rfl⟩, -⟩ _ _ ⟨⟨rfl, rfl⟩, -⟩ _ _ ⟨⟨rfl, rfl⟩, -⟩ xv16 _ ⟨⟨⟨_, lxv16⟩, rfl, ⟨haxv16, hlxv16⟩, rfl⟩, -⟩ _ _ ⟨⟨⟨iv17, Liv17⟩, rfl, ⟨ixiv17, hixiv17, hiliv17, hLiv17⟩, rfl⟩, hv15_⟩ v16_ _ ⟨⟨-, rfl⟩, hv16_⟩ v17_ _ ⟨⟨-, rfl⟩, hv17_⟩ _ _ ⟨⟨rfl, rfl⟩, -⟩ _ _ ⟨⟨b14, rfl, rfl⟩, hva9⟩ a w29 Z Y
     obtain rfl : b14 = bq := fC (hva9.trans hva)
     obtain rfl : v16_ = .tuple #[.agg #[jv hd.c, jv hd.n, sv hd.root, sv hd.tag, iv17], jv 0] := hv16_.trans ((hlk 0 _ rfl).trans (yf (fun u => u) hv15_.symm))
     obtain rfl : v17_ = .agg #[jv hd.c, jv hd.n, sv hd.root, sv hd.tag, iv17] := hv17_.trans ((hlk 1 _ rfl).trans (yf (fun u => tupAt u 0) hv16_.symm))
     rw [← hv17_] at Y
     replace Z : Fr 202 [(127, _), (128, _), (129, _), (130, _), (131, _), (132, _), (133, _), (134, _), (135, _), (136, _), (137, _), (138, _), (139, _), (140, _), (141, _), (142, _), (126, _), (143, _), (144, _), (29, _), (5, _), (6, _), (16, _), (17, _), (22, _), (23, _), (24, _), (25, _), (26, _), (27, _), (28, _)] [] a := Z
     try dsimp only at Y
     replace Y := Y.n11 O
     clear hva9 hva hlk hv17_ hv16_ hv15_
     refine ab <| aK (k := 21) 22 [21] ?_
     refine wla Z O fun a Z => ab <| aT <| G26 ?_
     replace Y := Y.k9 2044 O
     refine ah fun _ G27 => aa fun _ G28 => nv (Z.p13 5 6 16 17 22 23 24 25 26 27 28 29 30 O) <| xy O <| xx ((v_ne O O).asb (b' := false) O) <| fun a Z => G28 <| aJ Z O ?_
     refine au <| G27 <| aM (aN fun w30 hxz => ?_)
     replace Y := Y.grow hxz
     refine aU (k := 0) 13 [0, 12] Z ?_
     replace Z := Z.p15 5 6 16 17 22 23 24 25 26 27 28 29 30 145 146 O
     refine bI [12] (fun i => match i with | 12 => pm (fun b : Nat => .slice (some ⟨b, 0, none⟩) 1 1) (fun b => [own (.slice (some ⟨b, 0, none⟩) 1 1) 52 6 [[jv ((y.t + pa) + (pickI yy.a 70)), jv hd.c, jv hd.n, sv hd.root, sv hd.tag, iv17]]]) (fun _ => True) | _ => fun _ _ => False) 13 [[], [], [1], [], [], [3, 4], [5], [6], [7], [2, 8], [], [9, 10], [11]] [v, po b9 4, jv (y.t + pa), xv, jv (k : Int), slAddr xv (k * 2), slAddr xv (k * 2 + 0), jv yy.a, jv (pickI yy.a 70), jv ((y.t + pa) + (pickI yy.a 70)), .agg #[jv hd.c, jv hd.n, sv hd.root, sv hd.tag, iv17], .agg #[jv ((y.t + pa) + (pickI yy.a 70)), jv hd.c, jv hd.n, sv hd.root, sv hd.tag, iv17], undef] Z Y ?_ ?_ ?_
     ·exact zI <| hqv (ay rfl) <| hqv (ac (v := po b9 4) rfl kr) <| hqw (fun Y => ld Y 5 rfl rfl (isAgg3 _) rfl) <| hqv (ay rfl) <| hqv (ay rfl) <| hqw (fun Y => (am (i := (k : Int)) (sT := 22) (Y.arg hxv) rfl rfl (runUnderlying22 _) (sizeOf63 _) om zL).as (v' := slAddr xv (k * 2)) rfl) <| hqw (fun Y => cT (k := k * 2) (j := 0) (Y.arg hxv) (i := k) zL rfl rfl (fun _ _ => by kernel_rfl)) <| hqw (fun Y => aD (u := jv yy.a) (i := k) (j := 0) (Y.arg hxv) zL rfl (isAgg3 _) (by rw [bA Pr2.z, hyy]; rfl)) <| zG (fun _ _ _ => bF call16 rfl (dT yy.a 70 _ ⟨om, om⟩ ⟨om, om⟩)) <| hqv (aP rfl rfl ⟨om, om⟩) <| hqw (fun Y => ao (Y.g 1 rfl) rfl (isAgg50 _) (sizeOf50 _)) <|
       hqw (fun Y => aX (v := .agg #[jv ((y.t + pa) + (pickI yy.a 70)), jv hd.c, jv hd.n, sv hd.root, sv hd.tag, iv17]) rfl (by obtain ⟨_, _, _, eb0_⟩ := cQ (bp (k := 0) Y rfl).1; rw [eb0_]; kernel_rfl)) <| zG (fun h => absurd sm h) <| zH
     ·intro i hi
      simp only [xL, xQ, yj] at hi
      subst hi
      ·intro w Y
       exact bP (E := 52) (sz := 6) O [[jv ((y.t + pa) + (pickI yy.a 70)), jv hd.c, jv hd.n, sv hd.root, sv hd.tag, iv17]] (fun _ => by obtain ⟨_, _, _, e0_⟩ := cQ (bp (k := 0) Y O).1; rw [e0_]; kernel_rfl) sm O de
     clear Z Y
     rintro _ _ ⟨b18, rfl, -, rfl⟩ a w31 Z Y
     replace Z := Z.p12 147 159 5 6 16 17 22 23 24 25 26 28 O
     replace Y := Y.n10 O
     refine ab <| aK (k := 13) 15 [14] ?_
     refine aY (i := 3) (sT := 38) (inf := Tryz.t52) (z := .agg #[jv 0, jv 0, jv 0, .string (⟨#[]⟩), .string (⟨#[]⟩), .slice none 0 0]) (b := 0) (off := 0) (m := 0) (c := 0) O O O (Y.ow 0 O) sm underlying38 O O O O de (by exact qQ (r := (⟨_, hd, _, _⟩ : Rpw)) (bp (k := 1) Y O).1) Aj Aj de Z Y fun a w32 s19 Z Y _ => ?_
     replace Y : St No w0 [own (.slice (some ⟨b18, 0, none⟩) 1 1) 52 6 ([[jv ((y.t + pa) + (pickI yy.a 70)), jv hd.c, jv hd.n, sv hd.root, sv hd.tag, iv17]]), itsE iv17 Liv17, blk b14 [jv hd.c, jv hd.n, sv hd.root, sv hd.tag, iv17] 50, own s19 52 6 (((R ++ [(⟨((y.t + pa) + (pickI yy.a 70)), hd, iv17, Liv17⟩ : Rpw)])).map Rpw.cells), repsE R, blk w3.hz [jv dc, dv] 32, blk b9 [jv y.n, jv u.holder, jv dc, jv y.t, jv (y.t + pa)] 36, blk w22.hz [jv hd.c, jv hd.n, sv hd.root, sv hd.tag, iv10] 50, own dv 55 3 ((dl).map Cas.cells), itsE iv10 Liv10] w32 := by rw [show (((R ++ [(⟨((y.t + pa) + (pickI yy.a 70)), hd, iv17, Liv17⟩ : Rpw)])).map Rpw.cells) = ((R).map Rpw.cells) ++ ([[jv ((y.t + pa) + (pickI yy.a 70)), jv hd.c, jv hd.n, sv hd.root, sv hd.tag, iv17]]) from by rw [yE]; rfl]; exact Y
     refine wla Z O fun a Z => ab <| aT <| G25 ?_
     replace Y := Y.k8 1018 O
     refine aj <| nv (Z.p11 5 6 16 17 22 23 24 25 26 28 27 O) <| xy O <| xx (aP O O ⟨om, om⟩) <| xz O <| fun a Z => ab ?_
     have hpx : ∀ x ∈ Liv17, x.m.pf.length ≤ 1000 := cV om hLiv17
     replace Y := Y.s8 [0, 2, 1, 3, 4, 5, 6, 7] de rfl
     replace Y : St No w0 [repsE (R ++ [(⟨((y.t + pa) + (pickI yy.a 70)), hd, iv17, Liv17⟩ : Rpw)]), own s19 52 6 (((R ++ [(⟨((y.t + pa) + (pickI yy.a 70)), hd, iv17, Liv17⟩ : Rpw)])).map Rpw.cells), blk w3.hz [jv dc, dv] 32, blk b9 [jv y.n, jv u.holder, jv dc, jv y.t, jv (y.t + pa)] 36, blk w22.hz [jv hd.c, jv hd.n, sv hd.root, sv hd.tag, iv10] 50, own dv 55 3 ((dl).map Cas.cells), itsE iv10 Liv10] w32 := rD (⟨((y.t + pa) + (pickI yy.a 70)), hd, iv17, Liv17⟩ : Rpw) Y
     refine ⟨_, ?_, k + 1, s19, (R ++ [(⟨((y.t + pa) + (pickI yy.a 70)), hd, iv17, Liv17⟩ : Rpw)]), O, om, (by rw [xE, hRk]; rfl), oJ hRp hpx, pN hRq ⟨O, _, hixiv17, hLiv17⟩, Z.pick [5, 6, 16, 17, 22, 23, 24, 25, 26, 27, 28], Y.select [1, 0, 2, 3, 4, 5, 6] de⟩
     omega
    refine aO ?_
    exact ⟨v, R, om, hRp, hRq, Z.pick [6, 17, 22, 23, 24, 25, 26, 27], Y.select [0, 1, 2, 3, 4, 5, 6] de⟩
   rw [xK hb12] at Z
   refine nv Z <| xB <| xB <| xx (ai O O) <| fun a Z => G24 ?_
   replace Z := Z.p12 5 6 16 17 22 23 24 25 26 27 28 123 O
   refine aJ Z O ?_
   refine aO ?_
   exact ⟨v, R, om, hRp, hRq, Z.pick [6, 17, 22, 23, 24, 25, 26, 27], Y.select [0, 1, 2, 3, 4, 5, 6] de⟩
  rintro a w33 ⟨v, R, hRk, hRp, hRq, Z, Y⟩
  refine G21 <| aa fun _ G29 => nv Z <| xy O <| xy O <| xx (ao (Y.g 4 O) O (isAgg50 _) (sizeOf50 _)) <| xx (aX (v := .agg #[jv ((y.t + pa) + pw), jv hd.c, jv hd.n, sv hd.root, sv hd.tag, iv10]) O (by obtain ⟨_, _, _, eb0_⟩ := cQ (bp (k := 6) Y O).1; rw [eb0_]; kernel_rfl)) <| fun a Z => aE (E := 52) (sz := 6) O [[jv ((y.t + pa) + pw), jv hd.c, jv hd.n, sv hd.root, sv hd.tag, iv10]] kr sm O de de Z Y fun a w34 Z Y => ?_
  refine aY (i := 1) (sT := 38) (inf := Tryz.t52) (z := .agg #[jv 0, jv 0, jv 0, .string (⟨#[]⟩), .string (⟨#[]⟩), .slice none 0 0]) (b := 0) (off := 0) (m := 0) (c := 0) O O O (Y.ow 0 O) sm underlying38 O O O O de (by exact qQ (r := (⟨_, hd, _, _⟩ : Rpw)) (bp (k := 7) Y O).1) Aj Aj de Z Y fun a w35 s20 Z Y _ => ?_
  replace Y : St No w0 [own (.slice (some ⟨w33.hz, 0, none⟩) 1 1) 52 6 ([[jv ((y.t + pa) + pw), jv hd.c, jv hd.n, sv hd.root, sv hd.tag, iv10]]), own s20 52 6 (((R ++ [(⟨((y.t + pa) + pw), hd, iv10, Liv10⟩ : Rpw)])).map Rpw.cells), repsE R, blk w3.hz [jv dc, dv] 32, blk b9 [jv y.n, jv u.holder, jv dc, jv y.t, jv (y.t + pa)] 36, blk w22.hz [jv hd.c, jv hd.n, sv hd.root, sv hd.tag, iv10] 50, own dv 55 3 ((dl).map Cas.cells), itsE iv10 Liv10] w35 := by rw [show (((R ++ [(⟨((y.t + pa) + pw), hd, iv10, Liv10⟩ : Rpw)])).map Rpw.cells) = ((R).map Rpw.cells) ++ ([[jv ((y.t + pa) + pw), jv hd.c, jv hd.n, sv hd.root, sv hd.tag, iv10]]) from by rw [yE]; rfl]; exact Y
  refine wla Z O fun a Z => G29 ?_
  replace Z := Z.p7 6 17 22 23 25 26 27 O
  replace Y := Y.k5 214 O
  refine ah fun _ G30 => ?_
  obtain ⟨s1, u1, hs1⟩ : ∃ a b, stateH sha keysH kk (1 + pl) (⟨y.n, u.holder, dc, y.t, y.t + pa⟩ : Chg) (repsM (R ++ [⟨(y.t + pa) + pw, hd, iv10, Liv10⟩])) (((y.t + pa) + pw) + pt) = (a, b) := ⟨_, _, rfl⟩
  obtain ⟨hf1, hf2, hf3⟩ := rG (q := (⟨y.n, u.holder, dc, y.t, y.t + pa⟩ : Chg)) hD.1 hk32 hhd om hy hdz huc hvl hLiv10 hRq rfl rfl rfl rfl (show y.t + pa ≤ _ by omega) (show _ < y.t + pa + (1 + pl) by omega) om hs1
  have hf2 : y.t + pa ≤ u1 := hf2
  refine aM (aN fun w36 hxz => ?_)
  replace Y := Y.grow hxz
  refine aU (k := 0) 9 [1, 2, 3, 4, 8] Z ?_
  replace Z := Z.p7 6 17 22 23 25 26 27 O
  refine bI [0] (fun i => match i with | 0 => pm (fun v : Value => v) (fun v => [own v 9 1 (keysH.map fun s => [sv s])]) (fun _ => True) | _ => fun _ _ => False) 9 [[], [], [], [], [], [], [], [6], [5, 7]] [undef, sv kk, jv (1 + pl), .agg #[jv y.n, jv u.holder, jv dc, jv y.t, jv (y.t + pa)], s20, jv ((y.t + pa) + pw), jv t, jv pt, jv (((y.t + pa) + pw) + pt)] Z Y ?_ ?_ ?_
  ·exact zI <| zG (fun h => absurd sm h) <| hqv (ay rfl) <| hqv (ay rfl) <| hqw (fun Y => ao (Y.g 2 rfl) rfl (isAgg36 _) (sizeOf36 _)) <| hqv (ay rfl) <| hqv (ay rfl) <| hqv (ay rfl) <| zG (fun _ _ _ => bF call16 rfl (fL hpt (dT t 100 _ ⟨om, om⟩ ⟨om, om⟩))) <| hqv (aP rfl rfl ⟨om, om⟩) <| zH
  ·intro i hi
   simp only [xL, xQ, yj] at hi
   subst hi
   ·intro w Y
    exact er call18 O (mI _)
  clear Z Y
  rintro kv21 _ ⟨_, rfl, -, rfl⟩ a w37 Z Y
  replace Z := Z.p9 168 169 170 171 172 176 22 25 26 O
  replace Y := Y.n6 O
  refine ab <| aK (k := 9) 11 [10] ?_
  refine ax Z Y call17 O (gz (by rw [hs1]) (mz kv21 s20 keysH kk (1 + pl) (⟨y.n, u.holder, dc, y.t, y.t + pa⟩ : Chg) (R ++ [⟨(y.t + pa) + pw, hd, iv10, Liv10⟩]) (((y.t + pa) + pw) + pt) _ (Y.ow 0 O) (vS (Y.ow 1 O) (Y.g 2 O) (bp (k := 5) Y O)) (oJ hRp (cV om hLiv10)) (so_of (q := (⟨y.n, u.holder, dc, y.t, y.t + pa⟩ : Chg)) hk32 ⟨show 0 ≤ y.n ∧ y.n ≤ 99999999 by omega, hub1, show 0 ≤ dc ∧ dc ≤ 7 by omega, show 0 ≤ y.t by omega, show y.t ≤ y.t + pa by omega, show y.t + pa ≤ 10000000 by omega⟩ om (show (R ++ [_]).length ≤ 10 by rw [xE]; show R.length + 1 ≤ 10; omega) (show y.t + pa ≤ _ ∧ _ ≤ 11000000 by omega)) (Y.keepb hk0))) fun a w38 Z Y => wlm Z O fun a Z => ab <| aU (k := 11) 16 [13, 15] Z ?_
  refine bQ 5 (Z.p11 22 25 26 168 169 170 171 172 176 177 167 O) Y <| pl_v (aq O O) <| pl_v (aq O O) <| pl_v (aq O O) <| pl_v (cG O) <| pl_v (cG O) fun a w39 Z Y => ?_
  replace Z := Z.p6 22 25 26 180 31 32 O
  refine ab <| aK (k := 16) 17 [16] ?_
  refine wla Z O fun a Z => ab <| aT ?_
  refine G30 <| aa fun _ G31 => nv Z <| xy O <| xx ((v_eq O O).asb (b' := true) O) <| xy O <| xA (ay O) <| xA ((v_eq O O).asb (b' := true) O) <| xx (aw O O) <| xy O <| xA (ay O) <| xA ((v_eq O O).asb (b' := true) (by exact xF hf1)) <| xx (aw O O) <| xy O <| xA (ay O) <| xA (ac (v := po b9 4) O kr) <| xA (ld Y 3 O O (isAgg3 _) O) <| xA ((v_ge O O).asb (b' := true) (by exact xF om)) <| xx (aw O O) <| xy O <| xA (ay O) <| xA (ay O) <| xA ((v_le O O).asb (b' := true) (by exact xF om)) <| xx (aw O O) <| xz O <| fun a Z => G31 ?_
  replace Z := Z.p1 14 O
  replace Y := Y.k3 52 O
  refine ap <| al Z results9 (ag O ae) ?_
  exact ⟨O, Y.ext⟩
 have hdz : bU y.ev = none := by
  cases h : bU y.ev with
  | none => rfl
  | some z => rw [h] at hb4; cases hb4
 refine ax Z Y call39 O (ly om hdz) fun a w40 Z Y => nv Z <| xy O <| xx (aq O O) <| xx (aq O O) <| xx (aq O O) <| fun a Z => aC Z Y (zeroValue90 _) [jv 0, jv 0, jv 0, jv 0, jv 0, jv 0, jv 0, jv 0, .string (⟨#[]⟩)] O fun a w41 Z Y => az 0 Z Y [jv 0, jv 0, jv 0, jv 0, jv 0, jv 0, jv 0, jv 0, sv ([] : By)] O (sizeOf90 _) fun a w42 Z Y => nv Z <| xz O <| xz O <| fun a Z => G11 ?_
 replace Z := Z.p13 2 3 4 5 6 14 15 16 17 18 19 20 21 O
 refine ah fun _ G32 => ah fun _ G33 => aM (aN fun w43 hxz => ?_)
 replace Y := Y.grow hxz
 refine aK (k := 0) 3 [2] ?_
 refine nv Z <| xy O <| xx ((v_ne O O).asb (b' := true) O) <| xy O <| fun a Z => ab <| cW (k := 3) 7 [4, 6] (Z.p16 2 3 4 5 6 14 15 16 17 18 19 20 21 64 65 66 O) fun a Z => ?_
 replace Z : Fr 202 [(67, undef), (68, undef), (69, undef), (70, undef), (2, jv asked), (3, jv limit), (4, jv at_), (5, xv), (6, jv t), (14, .bool false), (15, .bool true), (16, pq w3.hz), (17, sv kk), (18, pq b3), (19, pq w40.hz), (20, .slice none 0 0), (21, jv 150), (64, jv 150), (65, .bool true), (66, .bool true)] [] a := Z
 refine aK (k := 7) 10 [9] ?_
 refine nv Z <| xB <| xx (aw O O) <| xy O <| fun a Z => ab ?_
 replace Z : Fr 202 [(67, undef), (68, undef), (69, undef), (70, undef), (2, jv asked), (3, jv limit), (4, jv at_), (5, xv), (6, jv t), (14, .bool false), (15, .bool true), (16, pq w3.hz), (17, sv kk), (18, pq b3), (19, pq w40.hz), (20, .slice none 0 0), (21, jv 150), (64, jv 150), (65, .bool true), (66, .bool true), (71, undef), (72, .bool true), (73, .bool true)] [] a := Z.pick [67, 68, 69, 70, 2, 3, 4, 5, 6, 14, 15, 16, 17, 18, 19, 20, 21, 64, 65, 66, 71, 72, 73]
 refine cW (k := 10) 17 [10, 11, 12, 14, 16] Z fun a Z => ?_
 replace Z : Fr 202 [(74, undef), (75, undef), (76, undef), (77, undef), (78, undef), (79, undef), (80, undef), (67, undef), (68, undef), (69, undef), (70, undef), (2, jv asked), (3, jv limit), (4, jv at_), (5, xv), (6, jv t), (14, .bool false), (15, .bool true), (16, pq w3.hz), (17, sv kk), (18, pq b3), (19, pq w40.hz), (20, .slice none 0 0), (21, jv 150), (64, jv 150), (65, .bool true), (66, .bool true), (71, undef), (72, .bool true), (73, .bool true)] [] a := Z
 refine aK (k := 17) 20 [19] ?_
 refine nv Z <| xB <| xB <| xx (aw O O) <| fun a Z => ab <| aT <| G33 ?_
 replace Z := Z.p12 2 3 4 5 6 14 15 16 17 18 19 83 O
 refine aH Z O ?_
 refine aa fun _ G34 => nv Z <| xy O <| xz O <| fun a Z => G34 <| ap ?_
 refine al Z results9 (ag O ae) ?_
 exact ⟨O, Y.ext⟩
end Go.Proofs.YtliklcmddmpdfaaGreatDoor
