/- Texts joined: RclI, RclJ, RclK, RclL, Sle, Laid, Door, OpenL, LawW. -/
import Derived.Test.YtliklcmddmpdfaaGreatDoorPWH
import Derived.Test.YtliklcmddmpdfaaGreatDoorPWF
import Derived.Test.YtliklcmddmpdfaaGreatDoorPWB
import Derived.Test.YtliklcmddmpdfaaGreatDoorPWA
import Derived.LaidMore
import Derived.OpenShut
import Derived.Stop.Joined
import Derived.SevenTiedAt
import Derived.ChangeMaps5
import Derived.Test.YtliklcmddmpdfaaGreatDoorRows
set_option linter.unusedVariables false
set_option linter.unusedSimpArgs false
set_option maxRecDepth 4000
set_option maxHeartbeats 4000000
namespace Go.Proofs.YtliklcmddmpdfaaGreatDoor
open Go.RowKit Go.PW _root_.Go.Proofs.Tryz
structure Nin where
 h : Int
 r0 : Int
 r1 : Int
 s0 : Int
 s1 : Int
 ca : Int
 se : Int
 cv : Value
 ys : List Cin
def Nin.z : Nin := ⟨0, 0, 0, 0, 0, 0, 0, .slice none 0 0, []⟩
def Nin.cells (u : Nin) : List Value := [jv u.h, jv u.r0, jv u.r1, jv u.s0, jv u.s1, jv u.ca, jv u.se, u.cv]
def Nin.wt (w : World) (u : Nin) : Prop := (i64 u.h ∧ i64 u.r0 ∧ i64 u.r1 ∧ i64 u.s0 ∧ i64 u.s1 ∧ i64 u.ca ∧ i64 u.se) ∧ SlE w u.cv 5 (u.ys.map Cin.cells) ∧ (∀ y ∈ u.ys, y.wt) ∧ u.ys.length ≤ 3518437208883
theorem Nin.wt.grow {w w' : World} {u : Nin} (h : u.wt w) (hx : Ext No w w') : u.wt w' := ⟨h.1, h.2.1.grow hx, h.2.2⟩
structure Pr2 where
 a : Int
 b : Int
def Pr2.z : Pr2 := ⟨0, 0⟩
def Pr2.cells (y : Pr2) : List Value := [jv y.a, jv y.b]
def Pr2.wt (y : Pr2) : Prop := i64 y.a ∧ i64 y.b
structure Pr3 where
 a : Int
 b : Int
 c : Int
def Pr3.z : Pr3 := ⟨0, 0, 0⟩
def Pr3.cells (y : Pr3) : List Value := [jv y.a, jv y.b, jv y.c]
def Pr3.wt (y : Pr3) : Prop := i64 y.a ∧ i64 y.b ∧ i64 y.c
def Cin.put (y : Cin) : Nat → Cin
 | 0 => { y with y0 := 0 }
 | 1 => { y with y1 := 0 }
 | 2 => { y with y2 := 0 }
 | 3 => { y with y3 := 0 }
 | _ => { y with y4 := 0 }
theorem Cin.put_wt {y : Cin} (h : y.wt) (j : Nat) : (y.put j).wt := by
 obtain ⟨h0, h1, h2, h3, h4⟩ := h
 have hz : i64 0 := ⟨by decide, by decide⟩
 match j with
 | 0 => exact ⟨hz, h1, h2, h3, h4⟩
 | 1 => exact ⟨h0, hz, h2, h3, h4⟩
 | 2 => exact ⟨h0, h1, hz, h3, h4⟩
 | 3 => exact ⟨h0, h1, h2, hz, h4⟩
 | j + 4 => exact ⟨h0, h1, h2, h3, hz⟩
theorem vn {zs : List Cin} {k j : Nat} (hk : k < (zs.map Cin.cells).length) (hj : j < 5) (hw : ∀ y ∈ zs, y.wt) : ∃ zs' : List Cin, (zs.map Cin.cells).set k (splice (zs.map Cin.cells)[k] j [jv 0]) = zs'.map Cin.cells ∧ zs'.length = zs.length ∧ ∀ y ∈ zs', y.wt := by
 have hk' : k < zs.length := by simpa using hk
 refine ⟨zs.set k (zs[k].put j), ?_, by simp, ?_⟩
 ·rw [Aj]
  congr 1
  rw [zY]
  match j, hj with
  | 0, _ => rfl
  | 1, _ => rfl
  | 2, _ => rfl
  | 3, _ => rfl
  | 4, _ => rfl
 ·intro y hy
  rcases List.mem_or_eq_of_mem_set hy with hy | rfl
  ·exact hw _ hy
  ·exact Cin.put_wt (hw _ (zk hk')) j
theorem jH : ∀ {l : List Pxy}, (∀ p ∈ l, p.sig.length = 32) → (l.flatMap Pxy.text).length ≤ 95 * l.length
 | [], h => by simp
 | p :: l, h => by
  have h1 := h p sm
  have h2 := jH (l := l) (fun q hq => h q Bk)
  have h3 := fu p
  rw [zd, yx, Pxy.text, yx, yG]
  omega
theorem jx {x : Wsh} {ps : List Pxy} {t : By} {e : Int} (h : encT x ps = (t, e)) : t.length ≤ 900 := by
 unfold encT at h
 cases hq : ch x ps with
 | none => rw [hq] at h; cases h; simp
 | some z =>
  rw [hq] at h; cases h
  obtain ⟨h1, h2, h3, rfl⟩ := cQ.1 hq
  have h4 := gR h1
  have h5 := jH h3
  have h6 := fj x
  have h7 := (bW (ps.length : Int)).2
  simp only [yx, Wsh.text]
  omega
def lastC : Int → List Cas → Int
 | p, [] => p
 | _, x :: l => lastC x.n l
theorem mC {x : Cas} : ∀ {l : List Cas} {p : Int}, ascC p (l ++ [x]) = (ascC p l && (x.ok && decide (lastC p l < x.n)))
 | [], p => by rw [zc, ascC]; show ((x.ok && decide (p < x.n)) && true) = (true && (x.ok && decide (p < x.n))); rw [Ad, zJ]
 | y :: l, p => by rw [zn, ascC, ascC, mC (l := l), lastC]; simp only [Bool.and_assoc]
theorem fK {x : Cas} : ∀ {l : List Cas} {p : Int}, lastC p (l ++ [x]) = x.n
 | [], p => rfl
 | y :: l, p => fK (l := l)
def Doc (c : Int) (l : List Cas) : Prop := docOk c l = true ∧ l.length ≤ 6 ∧ ∀ x ∈ l, x.n ≤ 23 ∧ x.t < 10000
theorem vf {c : Int} {l : List Cas} (hc : 0 ≤ c ∧ c < 8) (h : ascC (-1) l = true) (hl : l.length ≤ 6) (ha : ∀ x ∈ l, x.n ≤ 23 ∧ x.t < 10000) : Doc c l := by
 refine ⟨?_, hl, ha⟩
 unfold docOk inB
 rw [h, yy (by omega : 0 ≤ c), yy (by omega : c ≤ 7), yy (by omega : l.length ≤ 60)]; rfl
theorem mZ {l : List Cas} {x : Cas} {n : Int} (h : ascC (-1) l = true) (hn : lastC (-1) l = n) (hlt : n < x.n) (h0 : 0 ≤ x.n) (h1 : x.n ≤ 23) (h2 : 0 ≤ x.t) (h3 : x.t < 10000) (h4 : x.ev.length ≤ 900) : ascC (-1) (l ++ [x]) = true := by
 rw [mC, h, hn, yy hlt]
 unfold Cas.ok inB
 rw [yy h0, yy (by omega : x.n ≤ 99999999), yy h2, yy (by omega : x.t ≤ 10000000), yy h4]; rfl
theorem vO (u : Nin) (ca nu ti how : Int) (w0 : World) (hu : u.wt w0) (h1 : i64 ca) (h2 : i64 nu) (h3 : i64 ti) (h4 : i64 how) :
  Ret Tryz.prog 45 #[.agg #[jv u.h, jv u.r0, jv u.r1, jv u.s0, jv u.s1, jv u.ca, jv u.se, u.cv], jv ca, jv nu, jv ti, jv how] w0 (MemR w0 (fun s : By => sv s) (fun _ => []) (fun s => s.length ≤ 900)) := by
 obtain ⟨⟨u1, u2, u3, u4, u5, u6, u7⟩, hce, hyw, hyl⟩ := id hu
 have g0 := u3
 unfold i64 at g0
 have g1 := u5
 unfold i64 at g1
 have g2 := h1
 unfold i64 at g2
 have g3 := h2
 unfold i64 at g3
 have g4 := h3
 unfold i64 at g4
 have g5 := h4
 unfold i64 at g5
 have hhow := g5
 have p1 := aX u.r1 (n := 5) de
 have p2 := aX u.s1 (n := 5) de
 have p3 := aX how (n := 10) de
 refine Aq func45 O ntmps45 (lb O) fun a Y U => aa fun _ G1 => aV Y U O [jv u.h, jv u.r0, jv u.r1, jv u.s0, jv u.s1, jv u.ca, jv u.se, u.cv] O fun a w1 Y U => wla Y O fun a Y => G1 <| ah fun _ G2 => aa fun _ G3 => wlm Y O fun a Y => aw Y U call44 O (bO how 8 _ AC AP) fun a w2 Y U => wlv Y (v_eq O O) fun a Y => G3 <| aA Y O (fun hc1 => ?_) (fun hc1 => ?_)
 ·refine aa fun _ G4 => wla Y O fun a Y => G4 <| aq <| am Y results45 (ae O ag) ?_
  exact ⟨[], O, de, U.ext, St.out (E := []) (H := []) (U.select [] de)⟩
 refine ar <| G2 <| aa fun _ G5 => nv Y <| yp O <| yo (ac (v := po w0.hz 1) O kr) <| yo (aQ (v := po w0.hz 2) O O kr) <| yo (ld U 0 O O (isAgg3 _) O) <| fun a Y => aw Y U call44 O (bO u.r1 5 _ AC AP) fun a w3 Y U => nv Y <| yo (aW (v := .agg #[jv nu, jv (pickI u.r1 5)]) O kr) <| yo (ac (v := po w0.hz 1) O kr) <| fun a Y => az 0 Y U [jv u.h, jv nu, jv (pickI u.r1 5), jv u.s0, jv u.s1, jv u.ca, jv u.se, u.cv] O (sizeOf63 _) fun a w4 Y U => G5 ?_
 refine aa fun _ G6 => nv (Y.p5 1 3 4 5 10 O) <| yp O <| yo (ac (v := po w0.hz 3) O kr) <| yo (aQ (v := po w0.hz 4) O O kr) <| yo (ld U 0 O O (isAgg3 _) O) <| fun a Y => aw Y U call44 O (bO u.s1 5 _ AC AP) fun a w5 Y U => nv Y <| yo (aW (v := .agg #[jv ti, jv (pickI u.s1 5)]) O kr) <| yo (ac (v := po w0.hz 3) O kr) <| fun a Y => az 0 Y U [jv u.h, jv nu, jv (pickI u.r1 5), jv ti, jv (pickI u.s1 5), jv u.ca, jv u.se, u.cv] O (sizeOf63 _) fun a w6 Y U => G6 ?_
 refine aa fun _ G7 => nv (Y.p4 1 4 5 10 O) <| yp O <| yo (ac (v := po w0.hz 5) O kr) <| fun a Y => az 0 Y U [jv u.h, jv nu, jv (pickI u.r1 5), jv ti, jv (pickI u.s1 5), jv ca, jv u.se, u.cv] O (sizeOf3 _) fun a w7 Y U => G7 <| aa fun _ G8 => aE (E := 142) (sz := 5) O [] kr sm O de de Y U fun a w8 Y U => nv Y <| yo (ac (v := po w0.hz 7) O kr) <| yo (ld U 1 O O (isAgg82 _) O) <| fun a Y => oM (i := 0) (sT := 82) (inf := Tryz.t142) (z := .agg #[jv 0, jv 0, jv 0, jv 0, jv 0]) O O O (U.arge hu.2.1) underlying82 O O O O de (by intro e he; obtain ⟨y, _, rfl⟩ := zf.1 he; simp [Cin.cells, Value.oneCell']) B3 B3 de Y U fun a w9 s2 Y U => ?_
 rw [zc] at U
 refine wla Y O fun a Y => G8 ?_
 refine ah fun _ G9 => aa fun _ G10 => wla (Y.p4 4 5 10 11 O) O fun a Y => G10 <| au <| aZ (fun m a w => ∃ (k : Nat) (zs : List Cin), m = zs.length - k ∧ (k ≤ zs.length) ∧ (∀ y ∈ zs, y.wt) ∧ (zs.length ≤ 3518437208883) ∧ Fr 80 [(4, jv how), (5, pq w0.hz), (10, sv ([])), (11, s2), (12, jv (k : Int))] [] a ∧ St No w0 [own s2 142 5 (zs.map Cin.cells), blk w0.hz [jv u.h, jv nu, jv (pickI u.r1 5), jv ti, jv (pickI u.s1 5), jv ca, jv u.se, u.cv] 84] w) _ ⟨0, u.ys, O, yQ _, hyw, hyl, Y.pick [4, 5, 10, 11, 12], U.select [0, 1] de⟩ ?_
 rintro _ a w10 ⟨k, zs, rfl, hk, hzw, hzl, Y, U⟩
 refine ah fun _ G11 => aa fun _ G12 => nv Y <| yp O <| yp O <| yo ((aO (sT := 82) (U.ow 0 O) O O (runUnderlying82 _)).asi (m' := (zs.length : Int)) AO) <| yo (v_lt O O) <| fun a Y => G12 <| aA Y O (fun hc3 => ?_) (fun hc3 => ?_)
 ·refine ar <| G11 <| ah fun _ G13 => au <| aa fun _ G14 => nv Y <| yp O <| yp O <| yo ((aj (i := (k : Int)) (sT := 82) (U.ow 0 O) O O (runUnderlying82 _) (sizeOf142 _) om Aw).as (v' := slAddr s2 (k * 5)) O) <| yo (dI (k := k * 5) (j := 1) (U.ow 0 O) (i := k) Aw O O (fun _ _ => by kernel_rfl)) <| fun a Y => ?_
  obtain ⟨zt4, hezt4, hlzt4, hwzt4⟩ := vn (zs := zs) (k := k) (j := 1) Aw de Ay
  refine fP (k := k) (j := 1) (els' := (zt4.map Cin.cells)) 0 Y U O O O Aw om (sizeOf3 _) (by simp [Value.oneCell', Value.cells]) de hezt4 O fun a w11 Y U => G14 ?_
  refine al <| nv (Y.p5 4 5 10 11 12 O) <| yp O <| yp O <| yo ((aj (i := (k : Int)) (sT := 82) (U.ow 0 O) O O (runUnderlying82 _) (sizeOf142 _) om Aw).as (v' := slAddr s2 (k * 5)) O) <| yo (dI (k := k * 5) (j := 3) (U.ow 0 O) (i := k) Aw O O (fun _ _ => by kernel_rfl)) <| fun a Y => ?_
  obtain ⟨zt5, hezt5, hlzt5, hwzt5⟩ := vn (zs := zt4) (k := k) (j := 3) Aw de Ay
  refine fP (k := k) (j := 3) (els' := (zt5.map Cin.cells)) 0 Y U O O O Aw om (sizeOf3 _) (by simp [Value.oneCell', Value.cells]) de hezt5 O fun a w12 Y U => ab <| G13 <| al <| nv Y <| yp O <| yo (aM O O ⟨om, om⟩) <| yq O <| fun a Y => ab ?_
  refine ⟨_, ?_, k + 1, zt5, O, om, hwzt5, om, Y.pick [4, 5, 10, 11, 12], U.select [0, 1] de⟩
  omega
 refine aP <| G9 <| aa fun _ G15 => nv Y <| yp O <| yo (ac (v := po w0.hz 7) O kr) <| fun a Y => ce 1 Y U (U.ow 0 O) O O O (sizeOf82 _) (lb O) (ds := [jv u.h, jv nu, jv (pickI u.r1 5), jv ti, jv (pickI u.s1 5), jv ca, jv u.se, s2]) O O fun a w13 Y U => G15 ?_
 replace Y := Y.p3 4 5 10 O
 obtain ⟨x, hx⟩ : ∃ x, madeW u.h nu (pickI u.r1 5) ti (pickI u.s1 5) ca u.se zs = x := ⟨_, rfl⟩
 obtain ⟨ps, hps⟩ : ∃ ps, madeL u.h nu (pickI u.r1 5) ti (pickI u.s1 5) zs = ps := ⟨_, rfl⟩
 have hmk : Mk x ps := by rw [← hx, ← hps]; exact wW _ _ _ _ _ _ _ _
 have hxd := Wsh.ok_bnd hmk.ok
 obtain ⟨xb, hbw⟩ : ∃ bw, bentW x (how.tdiv 8) (pickI how 10) = bw := ⟨_, rfl⟩
 refine aa fun _ G16 => wlv Y (ap (U.g 1 O) O (isAgg84 _) (sizeOf84 _)) fun a Y => bu Y U call32 O (xT hx hps (U.ow 0 O) hzw u1 Br Br Br Br Br u7) fun a w14 x7 hp Y U => ?_
 revert x7 hp Y U; rintro pv6 hp Y U
 clear hp
 replace U := U.n3 O
 refine nv Y <| yp O <| yo (ao O O) <| yo (ao O O) <| fun a Y => aD Y U (zeroValue90 _) [jv 0, jv 0, jv 0, jv 0, jv 0, jv 0, jv 0, jv 0, .string (⟨#[]⟩)] O fun a w15 Y U => az 0 Y U [jv x.signer, jv x.holder, jv x.rf, jv x.rt, jv x.carrier, jv x.serial, jv x.sf, jv x.st, sv x.sig] O (sizeOf90 _) fun a w16 Y U => wla Y O fun a Y => G16 ?_
 replace Y := Y.p4 4 10 13 14 O
 replace U := U.k3 7 O
 refine ah fun _ G17 => aa fun _ G18 => wlm Y O fun a Y => aw Y U call44 O (bO how 8 _ AC AP) fun a w17 Y U => wlv Y (v_eq O O) fun a Y => G18 <| aA Y O (fun hc8 => ?_) (fun hc8 => ?_)
 ·refine aH (aI fun w18 hxz => ?_)
  replace U := U.grow hxz
  refine aR (k := 0) 5 [0, 2, 4] Y ?_
  refine bL 5 (Y.p6 4 10 13 14 61 62 O) U <| pl_w (fun U => ap (U.g 0 O) O (isAgg90 _) (sizeOf90 _)) <| pl_m O <| pl_v (jf O O de ⟨om, om⟩) <| pl_m O <| pl_r (fun U => br call44 O (bO how 10 _ AC AP)) fun a w19 Y U => ?_
  replace Y := Y.p6 10 13 14 65 67 69 O
  refine ab <| aL (k := 5) 7 [6] ?_
  refine aw Y U call105 O (yl hbw (fq hhow de) om om) fun a w20 Y U => wlm Y O fun a Y => ab <| aR (k := 7) 10 [8, 9] Y ?_
  replace Y := Y.p8 10 13 14 65 67 69 70 64 O
  replace U := U.s3 [0, 1, 2] de rfl
  refine gJ [2] (fun q => if q = 2 then blk w14.hz [jv x.signer, jv x.holder, jv x.rf, jv x.rt, jv x.carrier, jv x.serial, jv x.sf, jv x.st, sv x.sig] 90 else join []) (fun q => if q = 2 then blk w14.hz [jv xb.signer, jv xb.holder, jv xb.rf, jv xb.rt, jv xb.carrier, jv xb.serial, jv xb.sf, jv xb.st, sv xb.sig] 90 else join []) 3 [[], [], [0]] (fun i => match i with | 0 => pv (.agg #[jv xb.signer, jv xb.holder, jv xb.rf, jv xb.rt, jv xb.carrier, jv xb.serial, jv xb.sf, jv xb.st, sv xb.sig]) | 1 => pv (.bool (!(decide (xb = x)))) | 2 => fun v E => v = undef ∧ E = [] | _ => fun _ _ => False) B5 Y (H := [own pv6 144 7 (ps.map Pxy.cells), own s2 142 5 (zs.map Cin.cells)]) U kr kr kr kr de de ?_ ?_ ?_ ?_ ?_ ?_
  ·intro i v E h
   match i, h with
   | 0, _ => exact by decide
   | 1, _ => exact by decide
   | 2, _ => exact by decide
   | i + 3, h => exact h.elim
  ·intro q v E hq h
   simp only [yE, yI, y9] at hq
   rcases hq with rfl <;> exact h
  ·intro q hq
   simp only [yE, yI, y9] at hq
   rcases hq with rfl <;> exact ⟨rfl, rfl⟩
  ·intro i hi hiq e
   match i, hi, hiq with
   | 0, _, _ => exact fun w U => OpV.g (ao O O)
   | 1, _, _ => exact fun w U => OpV.g (ao O O)
   | 2, _, h => exact absurd de h
  ·intro q hq
   simp only [yE, yI, y9] at hq
   rcases hq with rfl
   ·rintro _ _ ⟨rfl, rfl⟩
    intro w h
    exact dE (cs := [jv x.signer, jv x.holder, jv x.rf, jv x.rt, jv x.carrier, jv x.serial, jv x.sf, jv x.st, sv x.sig]) (ds := [jv xb.signer, jv xb.holder, jv xb.rf, jv xb.rt, jv xb.carrier, jv xb.serial, jv xb.sf, jv xb.st, sv xb.sig]) O O h (sizeOf90 _) O (lb O) O
  clear Y U
  rintro _ _ ⟨rfl, rfl⟩ _ _ ⟨rfl, rfl⟩ a w21 Y U
  replace Y := Y.p10 71 72 10 13 14 65 67 69 70 64 O
  try dsimp only at U
  replace U := U.n3 O
  refine ab <| aS <| G17 <| aa fun _ G19 => nv (Y.p3 10 13 14 O) <| yo (ap (U.g 0 O) O (isAgg90 _) (sizeOf90 _)) <| yp O <| fun a Y => ?_
  obtain ⟨et, ee, hen⟩ : ∃ t e, encT xb ps = (t, e) := ⟨_, _, rfl⟩
  have hel := jx hen
  refine aw Y U call106 O (jl (x := xb) (ps := ps) (t := et) (e := ee) hen (U.ow 1 O)) fun a w22 Y U => nv Y <| yp O <| yo (ao O O) <| yo (ao O O) <| yq O <| yq O <| fun a Y => G19 ?_
  replace U := U.k1 4 O
  refine aa fun _ G20 => nv (Y.p2 10 15 O) <| yp O <| yq O <| fun a Y => G20 <| aq <| am Y results45 (ae O ag) ?_
  exact ⟨et, O, hel, U.ext, St.out (E := []) (H := []) (U.select [] de)⟩
 refine ar <| G17 <| aa fun _ G21 => nv Y <| yo (ap (U.g 0 O) O (isAgg90 _) (sizeOf90 _)) <| yp O <| fun a Y => ?_
 obtain ⟨et, ee, hen⟩ : ∃ t e, encT x ps = (t, e) := ⟨_, _, rfl⟩
 have hel := jx hen
 refine aw Y U call106 O (jl (x := x) (ps := ps) (t := et) (e := ee) hen (U.ow 1 O)) fun a w23 Y U => nv Y <| yp O <| yo (ao O O) <| yo (ao O O) <| yq O <| yq O <| fun a Y => G21 ?_
 replace U := U.k1 4 O
 refine aa fun _ G22 => nv (Y.p2 10 15 O) <| yp O <| yq O <| fun a Y => G22 <| aq <| am Y results45 (ae O ag) ?_
 exact ⟨et, O, hel, U.ext, St.out (E := []) (H := []) (U.select [] de)⟩
theorem rM (cr : Int) (v1 : Value) (cs : List Pr2) (v2 : Value) (ns : List Nin) (v3 : Value) (hs : List Int) (w0 : World) (hv1 : SlAt w0 v1 2 (cs.map Pr2.cells)) (hv2 : SlAt w0 v2 8 (ns.map Nin.cells)) (hns : ∀ u ∈ ns, u.wt w0) (hv3 : SlAt w0 v3 1 (hs.map fun z : Int => [jv z])) (hcr : i64 cr) (hcs : ∀ y ∈ cs, y.wt) (hhs : ∀ z ∈ hs, i64 z) :
  Ret Tryz.prog 12 #[.agg #[jv cr, v1, v2, v3]] w0 (MemR w0 (fun x : Int × Value × List Cas => .agg #[jv x.1, x.2.1]) (fun x => [own x.2.1 55 3 (x.2.2.map Cas.cells)]) (fun x => Doc x.1 x.2.2)) := by
 have hxb1 := hv1.2.1
 have hxb2 := hv2.2.1
 have hxb3 := hv3.2.1
 simp only [yu, big] at hxb1 hxb2 hxb3
 obtain ⟨c, hcc⟩ : ∃ c, pickI cr 8 = c := ⟨_, rfl⟩
 have hcb := aX cr (n := 8) de
 rw [hcc] at hcb
 have hcr1 := hcr
 unfold i64 at hcr1
 refine An func12 O ntmps12 (lb O) fun a Y U => aa fun _ G1 => aV Y U O [jv cr, v1, v2, v3] O fun a w1 Y U => aD Y U (zeroValue32 _) [jv 0, .slice none 0 0] O fun a w2 Y U => G1 <| aa fun _ G2 => nv Y <| yo (ac (v := pq w0.hz) O kr) <| yo (ld U 1 O O (isAgg3 _) O) <| fun a Y => aw Y U call44 O (ny hcc (bO cr 8 _ AC de)) fun a w3 Y U => wlv Y (aW (v := .agg #[jv c, .slice none 0 0]) O kr) fun a Y => aD Y U (zeroValue32 _) [jv 0, .slice none 0 0] O fun a w4 Y U => az 0 Y U [jv c, .slice none 0 0] O (sizeOf32 _) fun a w5 Y U => G2 <| aa fun _ G3 => wla Y O fun a Y => G3 <| ah fun _ G4 => aa fun _ G5 => wla Y O fun a Y => G5 <| au ?_
 replace U : St No w0 [own (.slice none 0 0) 55 3 (([] : List Cas).map Cas.cells), blk w3.hz [jv c, .slice none 0 0] 32, blk w1.hz [jv 0, .slice none 0 0] 32, blk w0.hz [jv cr, v1, v2, v3] 26] w5 := U.nil_own
 refine aZ (fun m a w => ∃ (k : Nat) (n : Int) (v : Value) (l : List Cas), m = 6 - k ∧ (k ≤ 6) ∧ (l.length = k) ∧ (ascC (-1) l = true) ∧ (lastC (-1) l = n) ∧ (-1 ≤ n ∧ n < 4 * (k : Int)) ∧ (∀ x ∈ l, x.n ≤ 23 ∧ x.t < 10000) ∧ Fr 78 [(1, pq w0.hz), (2, pq w1.hz), (3, pq w3.hz), (4, jv n), (5, jv (k : Int))] [] a ∧ St No w0 [own v 55 3 ((l).map Cas.cells), blk w3.hz [jv c, v] 32, blk w1.hz [jv 0, .slice none 0 0] 32, blk w0.hz [jv cr, v1, v2, v3] 26] w) _ ⟨0, -1, .slice none 0 0, [], O, de, O, O, O, de, sm, Y.pick [1, 2, 3, 4, 5], U.select [0, 1, 2, 3] de⟩ ?_
 rintro _ a w6 ⟨k, n, v, l, rfl, hk, hlen, hasc, hln, hnb, hall, Y, U⟩
 refine ah fun _ G6 => aa fun _ G7 => nv Y <| yp O <| yo (ac (v := po w0.hz 1) O kr) <| yo (ld U 3 O O (isAgg22 _) O) <| yo ((aO (sT := 22) (U.arg hv1) O O (runUnderlying22 _)).asi (m' := (cs.length : Int)) AO) <| yo (v_lt O O) <| yp O <| fun a Y => ?_
 rcases Decidable.em ((k : Int) < (cs.length : Int)) with hb1 | hb1
 ·rw [yy hb1] at Y
  have hkx : k < cs.length := by omega
  refine nv Y <| yr (ay O) <| yr (v_lt O O) <| yo (ax O O) <| fun a Y => G7 ?_
  replace Y := Y.p6 1 2 3 4 5 19 O
  refine aA Y O (fun hc2 => ?_) (fun hc2 => ?_)
  ·refine ar <| G6 <| ah fun _ G8 => au ?_
   obtain ⟨y, hy⟩ : ∃ y, cs.getD k Pr2.z = y := ⟨_, rfl⟩
   have hyw := hcs _ (bD (d := Pr2.z) hkx)
   rw [hy] at hyw
   obtain ⟨hya, hyb⟩ := hyw
   have g1 := hya
   have g2 := hyb
   unfold i64 at g1 g2
   have p1 := aX y.a (n := 4) de
   have p2 := aX y.b (n := 10000) de
   refine aa fun _ G9 => nv Y <| yp O <| yo (aM O O ⟨om, om⟩) <| yo (ac (v := po w0.hz 1) O kr) <| yo (ld U 3 O O (isAgg22 _) O) <| yp O <| yo ((aj (i := (k : Int)) (sT := 22) (U.arg hv1) O O (runUnderlying22 _) (sizeOf63 _) om Aw).as (v' := slAddr v1 (k * 2)) O) <| yo (dI (k := k * 2) (j := 0) (U.arg hv1) (i := k) Aw O O (fun _ _ => by kernel_rfl)) <| yo (aB (u := jv y.a) (i := k) (j := 0) (U.arg hv1) Aw O (isAgg3 _) (by rw [bf Pr2.z, hy]; rfl)) <| fun a Y => aw Y U call44 O (bO y.a 4 _ AC de) fun a w7 Y U => nv Y <| yo (aM O O ⟨om, om⟩) <| yq O <| fun a Y => G9 ?_
   refine aa fun _ G10 => nv (Y.p5 1 2 3 5 4 O) <| yp O <| yo (ac (v := po w0.hz 1) O kr) <| yo (ld U 3 O O (isAgg22 _) O) <| yp O <| yo ((aj (i := (k : Int)) (sT := 22) (U.arg hv1) O O (runUnderlying22 _) (sizeOf63 _) om Aw).as (v' := slAddr v1 (k * 2)) O) <| yo (dI (k := k * 2) (j := 1) (U.arg hv1) (i := k) Aw O O (fun _ _ => by kernel_rfl)) <| yo (aB (u := jv y.b) (i := k) (j := 1) (U.arg hv1) Aw O (isAgg3 _) (by rw [bf Pr2.z, hy]; rfl)) <| fun a Y => aw Y U call44 O (bO y.b 10000 _ AC de) fun a w8 Y U => wlv Y (aW (v := .agg #[jv ((n + 1) + (pickI y.a 4)), jv (pickI y.b 10000), sv ([] : By)]) O kr) fun a Y => aD Y U (zeroValue55 _) [jv 0, jv 0, .string (⟨#[]⟩)] O fun a w9 Y U => az 0 Y U [jv ((n + 1) + (pickI y.a 4)), jv (pickI y.b 10000), sv ([] : By)] O (sizeOf55 _) fun a w10 Y U => G10 ?_
   refine ah fun _ G11 => aa fun _ G12 => nv (Y.p6 1 2 3 5 4 6 O) <| yp O <| yo (ac (v := po w0.hz 2) O kr) <| yo (ld U 4 O O (isAgg23 _) O) <| yo ((aO (sT := 23) (U.arg hv2) O O (runUnderlying23 _)).asi (m' := (ns.length : Int)) AO) <| yo (v_lt O O) <| yp O <| fun a Y => ?_
   rcases Decidable.em ((k : Int) < (ns.length : Int)) with hb3 | hb3
   ·rw [yy hb3] at Y
    refine nv Y <| yr (ay O) <| yr (ac (v := po w0.hz 3) O kr) <| yr (ld U 4 O O (isAgg24 _) O) <| yr ((aO (sT := 24) (U.arg hv3) O O (runUnderlying24 _)).asi (m' := (hs.length : Int)) AO) <| yr (v_lt O O) <| yo (ax O O) <| fun a Y => G12 ?_
    replace Y := Y.p7 1 2 3 5 4 6 52 O
    refine aA Y O (fun hc4 => ?_) (fun hc4 => ?_)
    ·obtain ⟨u, hud⟩ : ∃ u, ns.getD k Nin.z = u := ⟨_, rfl⟩
     have huw := hns _ (bD (d := Nin.z) (show k < ns.length by omega))
     rw [hud] at huw
     have hhw := hhs _ (bD (d := (0 : Int)) (show k < hs.length by omega))
     refine aH (aI fun w11 hxz => ?_)
     replace U := U.grow hxz
     refine aR (k := 0) 16 [4, 6, 8, 10, 15] Y ?_
     replace Y := Y.p6 1 2 3 5 4 6 O
     refine bL 16 Y U <| pl_v (ac (v := po w0.hz 2) O kr) <| pl_w (fun U => ld U 4 O O (isAgg23 _) O) <| pl_m O <| pl_w (fun U => (aj (i := (k : Int)) (sT := 23) (U.arg hv2) O O (runUnderlying23 _) (sizeOf84 _) om Aw).as (v' := slAddr v2 (k * 8)) O) <| pl_w (fun U => (bP (U.arg hv2) (i := k) Aw O (isAgg84 _) (sizeOf84 _)).as (v' := .agg #[jv u.h, jv u.r0, jv u.r1, jv u.s0, jv u.s1, jv u.ca, jv u.se, u.cv]) (by rw [bf Nin.z, hud]; rfl)) <| pl_v (ac (v := pq w3.hz) O kr) <| pl_w (fun U => ld U 2 O O (isAgg3 _) O) ?_
     refine pl_v (ac (v := pq w8.hz) O kr) <| pl_w (fun U => ld U 0 O O (isAgg3 _) O) <| pl_v (ac (v := po w8.hz 1) O kr) <| pl_w (fun U => ld U 0 O O (isAgg3 _) O) <| pl_v (ac (v := po w0.hz 3) O kr) <| pl_w (fun U => ld U 4 O O (isAgg24 _) O) <| pl_m O <| pl_w (fun U => (aj (i := (k : Int)) (sT := 24) (U.arg hv3) O O (runUnderlying24 _) (sizeOf3 _) om Aw).as (v' := slAddr v3 (k * 1)) O) ?_
     refine pl_w (fun U => aB (u := jv (hs.getD k 0)) (i := k) (j := 0) (U.arg hv3) Aw O (isAgg3 _) AM) fun a w12 Y U => ?_
     replace Y := Y.p11 1 2 3 5 4 6 57 59 61 63 68 O
     refine ab <| aL (k := 16) 19 [18] ?_
     refine bu Y U call45 O (vO u c ((n + 1) + (pickI y.a 4)) (pickI y.b 10000) (hs.getD k 0) _ (huw.grow U.ext) Br Br Br hhw) fun a w13 x6 hp Y U => ?_
     revert x6 hp Y U; rintro es5 hp Y U
     have hes5 := hp
     replace U := U.n5 O
     refine wlv Y (ac (v := po w8.hz 2) O kr) fun a Y => az 0 Y U [jv ((n + 1) + (pickI y.a 4)), jv (pickI y.b 10000), sv es5] O (sizeOf9 _) fun a w14 Y U => ab <| aS <| G11 <| al <| nv (Y.p6 1 2 3 5 4 6 O) <| yo (ac (v := po w3.hz 1) O kr) <| yo (ld U 2 O O (isAgg30 _) O) <| yo (ap (U.g 0 O) O (isAgg55 _) (sizeOf55 _)) <| fun a Y => aE (E := 55) (sz := 3) O [[jv ((n + 1) + (pickI y.a 4)), jv (pickI y.b 10000), sv es5]] kr sm O de de Y U fun a w15 Y U => ba (i := 2) (sT := 30) (inf := Tryz.t55) (z := .agg #[jv 0, jv 0, .string (⟨#[]⟩)]) (b := 0) (off := 0) (m := 0) (c := 0) O O O (U.ow 0 O) sm underlying30 O O O O de Az AQ AQ de Y U fun a w16 s7 Y U _ => ?_
     rw [show ((l).map Cas.cells) ++ ([[jv ((n + 1) + (pickI y.a 4)), jv (pickI y.b 10000), sv es5]]) = ((l ++ [(⟨((n + 1) + (pickI y.a 4)), (pickI y.b 10000), es5⟩ : Cas)]).map Cas.cells) from by rw [zu]; rfl] at U
     refine wlv Y (ac (v := po w3.hz 1) O kr) fun a Y => ce 3 Y U (U.ow 2 O) O O O (sizeOf30 _) (lb O) (ds := [jv c, s7]) O O fun a w17 Y U => ab <| G8 ?_
     replace U := U.k4 60 O
     refine al <| nv (Y.p5 1 2 3 5 4 O) <| yp O <| yo (aM O O ⟨om, om⟩) <| yq O <| fun a Y => ab ?_
     refine ⟨_, ?_, k + 1, ((n + 1) + (pickI y.a 4)), s7, (l ++ [(⟨((n + 1) + (pickI y.a 4)), (pickI y.b 10000), es5⟩ : Cas)]), O, om, (by simp [hlen]), (mZ hasc hln BT BM A8 (aX y.b (n := 10000) de).1 (aX y.b (n := 10000) de).2 (by first | assumption | simp)), fK, om, (co hall ⟨A8, (aX y.b (n := 10000) de).2⟩), Y.pick [1, 2, 3, 4, 5], U.select [0, 1, 2, 3] de⟩
     omega
    refine ar <| G11 <| al <| nv Y <| yo (ac (v := po w3.hz 1) O kr) <| yo (ld U 2 O O (isAgg30 _) O) <| yo (ap (U.g 0 O) O (isAgg55 _) (sizeOf55 _)) <| fun a Y => aE (E := 55) (sz := 3) O [[jv ((n + 1) + (pickI y.a 4)), jv (pickI y.b 10000), sv ([] : By)]] kr sm O de de Y U fun a w18 Y U => ba (i := 2) (sT := 30) (inf := Tryz.t55) (z := .agg #[jv 0, jv 0, .string (⟨#[]⟩)]) (b := 0) (off := 0) (m := 0) (c := 0) O O O (U.ow 0 O) sm underlying30 O O O O de Az AQ AQ de Y U fun a w19 s8 Y U _ => ?_
    rw [show ((l).map Cas.cells) ++ ([[jv ((n + 1) + (pickI y.a 4)), jv (pickI y.b 10000), sv ([] : By)]]) = ((l ++ [(⟨((n + 1) + (pickI y.a 4)), (pickI y.b 10000), ([] : By)⟩ : Cas)]).map Cas.cells) from by rw [zu]; rfl] at U
    refine wlv Y (ac (v := po w3.hz 1) O kr) fun a Y => ce 3 Y U (U.ow 2 O) O O O (sizeOf30 _) (lb O) (ds := [jv c, s8]) O O fun a w20 Y U => ab <| G8 ?_
    replace U := U.k4 60 O
    refine al <| nv (Y.p5 1 2 3 5 4 O) <| yp O <| yo (aM O O ⟨om, om⟩) <| yq O <| fun a Y => ab ?_
    refine ⟨_, ?_, k + 1, ((n + 1) + (pickI y.a 4)), s8, (l ++ [(⟨((n + 1) + (pickI y.a 4)), (pickI y.b 10000), ([] : By)⟩ : Cas)]), O, om, (by simp [hlen]), (mZ hasc hln BT BM A8 (aX y.b (n := 10000) de).1 (aX y.b (n := 10000) de).2 (by first | assumption | simp)), fK, om, (co hall ⟨A8, (aX y.b (n := 10000) de).2⟩), Y.pick [1, 2, 3, 4, 5], U.select [0, 1, 2, 3] de⟩
    omega
   rw [yD hb3] at Y
   refine nv Y <| yt <| yt <| yt <| yt <| yt <| yo (ak O O) <| fun a Y => G12 ?_
   replace Y := Y.p7 1 2 3 5 4 6 52 O
   refine aJ Y O ?_
   refine ar <| G11 <| al <| nv Y <| yo (ac (v := po w3.hz 1) O kr) <| yo (ld U 2 O O (isAgg30 _) O) <| yo (ap (U.g 0 O) O (isAgg55 _) (sizeOf55 _)) <| fun a Y => aE (E := 55) (sz := 3) O [[jv ((n + 1) + (pickI y.a 4)), jv (pickI y.b 10000), sv ([] : By)]] kr sm O de de Y U fun a w21 Y U => ba (i := 2) (sT := 30) (inf := Tryz.t55) (z := .agg #[jv 0, jv 0, .string (⟨#[]⟩)]) (b := 0) (off := 0) (m := 0) (c := 0) O O O (U.ow 0 O) sm underlying30 O O O O de Az AQ AQ de Y U fun a w22 s9 Y U _ => ?_
   rw [show ((l).map Cas.cells) ++ ([[jv ((n + 1) + (pickI y.a 4)), jv (pickI y.b 10000), sv ([] : By)]]) = ((l ++ [(⟨((n + 1) + (pickI y.a 4)), (pickI y.b 10000), ([] : By)⟩ : Cas)]).map Cas.cells) from by rw [zu]; rfl] at U
   refine wlv Y (ac (v := po w3.hz 1) O kr) fun a Y => ce 3 Y U (U.ow 2 O) O O O (sizeOf30 _) (lb O) (ds := [jv c, s9]) O O fun a w23 Y U => ab <| G8 ?_
   replace U := U.k4 60 O
   refine al <| nv (Y.p5 1 2 3 5 4 O) <| yp O <| yo (aM O O ⟨om, om⟩) <| yq O <| fun a Y => ab ?_
   refine ⟨_, ?_, k + 1, ((n + 1) + (pickI y.a 4)), s9, (l ++ [(⟨((n + 1) + (pickI y.a 4)), (pickI y.b 10000), ([] : By)⟩ : Cas)]), O, om, (by simp [hlen]), (mZ hasc hln BT BM A8 (aX y.b (n := 10000) de).1 (aX y.b (n := 10000) de).2 (by first | assumption | simp)), fK, om, (co hall ⟨A8, (aX y.b (n := 10000) de).2⟩), Y.pick [1, 2, 3, 4, 5], U.select [0, 1, 2, 3] de⟩
   omega
  refine aP <| G4 <| aa fun _ G13 => wlv Y (ap (U.g 1 O) O (isAgg32 _) (sizeOf32 _)) fun a Y => bp (us := [jv c, v]) 2 Y U O O O (sizeOf32 _) AV (lb O) (ds := [jv c, v]) O O fun a w24 Y U => G13 ?_
  replace Y := Y.p1 2 O
  replace U := U.k2 5 O
  refine aq <| am Y results12 (ai O (aY (U.g 1 O) (isAgg32 _) (sizeOf32 _)) ag) ?_
  exact ⟨(c, v, l), O, vf hcb hasc (show l.length ≤ 6 by omega) hall, U.ext, St.out (E := [own v 55 3 (l.map Cas.cells)]) (H := []) (U.select [0] de)⟩
 rw [yD hb1] at Y
 refine nv Y <| yt <| yt <| yo (ak O O) <| fun a Y => G7 ?_
 replace Y := Y.p6 1 2 3 4 5 19 O
 refine aJ Y O ?_
 refine aP <| G4 <| aa fun _ G14 => wlv Y (ap (U.g 1 O) O (isAgg32 _) (sizeOf32 _)) fun a Y => bp (us := [jv c, v]) 2 Y U O O O (sizeOf32 _) AV (lb O) (ds := [jv c, v]) O O fun a w25 Y U => G14 ?_
 replace Y := Y.p1 2 O
 replace U := U.k2 5 O
 refine aq <| am Y results12 (ai O (aY (U.g 1 O) (isAgg32 _) (sizeOf32 _)) ag) ?_
 exact ⟨(c, v, l), O, vf hcb hasc (show l.length ≤ 6 by omega) hall, U.ext, St.out (E := [own v 55 3 (l.map Cas.cells)]) (H := []) (U.select [0] de)⟩
def ChgB (q : Chg) : Prop := (0 ≤ q.n ∧ q.n ≤ 39) ∧ (0 ≤ q.h ∧ q.h ≤ 63) ∧ (0 ≤ q.c ∧ q.c ≤ 7) ∧ (0 ≤ q.t ∧ q.t ≤ 10000) ∧ q.t ≤ q.a ∧ q.a ≤ q.t + 99
theorem Doc.at {c : Int} {l : List Cas} (h : Doc c l) {i : Nat} (hi : i < l.length) : (0 ≤ (l.getD i Cas.z).n ∧ (l.getD i Cas.z).n ≤ 23) ∧ (0 ≤ (l.getD i Cas.z).t ∧ (l.getD i Cas.z).t < 10000) ∧ (l.getD i Cas.z).ev.length ≤ 900 := by
 have hm := pS hi
 have h1 := Cas.bnd (md h.1 _ hm)
 have h2 := h.2.2 _ hm
 omega
theorem Doc.car {c : Int} {l : List Cas} (h : Doc c l) : 0 ≤ c ∧ c ≤ 7 := fx h.1
theorem Doc.swap {c e : Int} {l k : List Cas} (h : Doc c l) (h2 : Doc e k) : Doc c k := by
 refine ⟨?_, h2.2⟩
 have h3 := h2.1
 have h4 := fx h.1
 unfold docOk inB at h3 ⊢
 simp only [yw, yB] at h3 ⊢
 exact ⟨⟨h3.1.1, h4⟩, h3.2⟩
theorem qx {s : By} {u : Wsh} {up : List Pxy} (h : bH s = some (u, up)) : 0 ≤ u.holder ∧ u.holder ≤ 63 := by
 have h1 := gY (cQ.1 (gM h)).1
 simp only [Wsh.ok, inB, yw, yB] at h1
 omega
theorem pk {s : By} {x : Wsh} {ps : List Pxy} {w0 : World} (hsl : s.length ≤ 1000000) (h : bH s = some (x, ps)) : Ret Tryz.prog 46 #[sv s] w0 (MemR w0 (fun lv : Value => .tuple #[.agg x.cells.toArray, lv, jv 0]) (fun lv => [own lv 144 7 (ps.map Pxy.cells)]) (fun _ => True)) := by
 refine (jM s w0 hsl).mono fun v w hR => ?_
 rcases hR with ⟨x2, ps2, h2, hm⟩ | ⟨h2, _⟩
 ·rw [h] at h2
  simp only [Option.some.injEq, Prod.mk.injEq] at h2
  obtain ⟨rfl, rfl⟩ := h2
  exact hm
 ·rw [h] at h2; cases h2
theorem qc {s : By} {w0 : World} (hsl : s.length ≤ 1000000) (h : bH s = none) : Ret Tryz.prog 46 #[sv s] w0 fun v w => v = .tuple #[.agg [jv 0, jv 0, jv 0, jv 0, jv 0, jv 0, jv 0, jv 0, sv ([] : By)].toArray, .slice none 0 0, jv 150] ∧ Ext No w0 w := by
 refine (jM s w0 hsl).mono fun v w hR => ?_
 rcases hR with ⟨x2, ps2, h2, hm⟩ | ⟨_, h2⟩
 ·rw [h] at h2; cases h2
 ·exact h2
theorem uY {xs : List By} {k n : Nat} (h : ∀ z ∈ xs, z.length ≤ n) : (xs.getD k []).length ≤ n := by
 rw [yA]
 rcases Nat.lt_or_ge k xs.length with hk | hk
 ·rw [yF hk]; exact h _ (zk hk)
 ·rw [z7 hk]; exact yQ _
theorem vt (c : Int) (lv : Value) (l : List Cas) (x0 x1 x2 x3 : Int) (w0 : World) (hlv : SlAt w0 lv 3 (l.map Cas.cells)) (hD : Doc c l) (hx0 : i64 x0) (hx1 : i64 x1) (hx2 : i64 x2) (hx3 : i64 x3) :
  Ret Tryz.prog 14 #[.agg #[jv c, lv], .agg #[jv x0, jv x1, jv x2, jv x3]] w0 (MemR w0 (fun q : Chg => .agg #[jv q.n, jv q.h, jv q.c, jv q.t, jv q.a]) (fun _ => []) (fun q => ChgB q)) := by
 have hxb := hlv.2.1
 simp only [yu, big] at hxb
 have hcb := hD.car
 have hll := hD.2.1
 have g0 := hx0
 unfold i64 at g0
 have g1 := hx1
 unfold i64 at g1
 have g2 := hx2
 unfold i64 at g2
 have g3 := hx3
 unfold i64 at g3
 have p0 := aX x0 (n := 40) de
 have p1 := aX x1 (n := 10) de
 have p2 := aX x2 (n := 10000) de
 have p3 := aX (x3.tdiv 16) (n := 100) de
 refine Am func14 O ntmps14 (lb O) fun a Y U => aa fun _ G1 => aV Y U O [jv c, lv] O fun a w1 Y U => aV Y U O [jv x0, jv x1, jv x2, jv x3] O fun a w2 Y U => aD Y U (zeroValue36 _) [jv 0, jv 0, jv 0, jv 0, jv 0] O fun a w3 Y U => G1 <| ah fun _ G2 => aH (aI fun w4 hxz => ?_)
 replace U := U.grow hxz
 refine aR (k := 0) 13 [11, 12] Y ?_
 replace Y := Y.p5 0 1 2 3 4 O
 refine bJ [12] (fun i => match i with | 12 => pm (fun b : Nat => pq b) (fun b => [blk b [jv 0, jv 0, jv 0, jv 0, jv 0] 36]) (fun _ => True) | _ => fun _ _ => False) 13 [[], [0], [1], [], [3], [4], [], [6], [], [8], [9], [2, 5, 7, 10], []] [pq w1.hz, jv x0, jv (pickI x0 40), po w1.hz 1, jv x1, jv (pickI x1 10), pq w0.hz, jv c, po w1.hz 2, jv x2, jv (pickI x2 10000), .agg #[jv (pickI x0 40), jv (pickI x1 10), jv c, jv (pickI x2 10000), jv 0], undef] Y U ?_ ?_ ?_
 ·exact Au <| hqv (aQ (v := pq w1.hz) rfl rfl kr) <| hqw (fun U => ld U 1 rfl rfl (isAgg3 _) rfl) <| As (fun _ _ _ => br call44 rfl (bO x0 40 _ AC AP)) <| hqv (aQ (v := po w1.hz 1) rfl rfl kr) <| hqw (fun U => ld U 1 rfl rfl (isAgg3 _) rfl) <| As (fun _ _ _ => br call44 rfl (bO x1 10 _ AC AP)) <| hqv (ac (v := pq w0.hz) rfl kr) <| hqw (fun U => ld U 2 rfl rfl (isAgg3 _) rfl) <| hqv (aQ (v := po w1.hz 2) rfl rfl kr) <| hqw (fun U => ld U 1 rfl rfl (isAgg3 _) rfl) <| As (fun _ _ _ => br call44 rfl (bO x2 10000 _ AC AP)) <| hqv (aW (v := .agg #[jv (pickI x0 40), jv (pickI x1 10), jv c, jv (pickI x2 10000), jv 0]) rfl kr) <| As (fun h => absurd sm h) <| At
 ·intro i hi
  simp only [yE, yI, y9] at hi
  subst hi
  ·intro w U
   exact gG (zeroValue36 _) (cs := [jv 0, jv 0, jv 0, jv 0, jv 0]) O
 clear Y U
 rintro _ _ ⟨b1, rfl, -, rfl⟩ a w5 Y U
 replace Y := Y.p5 21 5 2 3 4 O
 replace U := U.n4 O
 refine ab <| aL (k := 13) 14 [13] ?_
 refine az 0 Y U [jv (pickI x0 40), jv (pickI x1 10), jv c, jv (pickI x2 10000), jv 0] O (sizeOf36 _) fun a w6 Y U => ab <| aS <| G2 <| ah fun _ G3 => aa fun _ G4 => nv (Y.p4 2 3 4 5 O) <| yo (ac (v := po w0.hz 1) O kr) <| yo (ld U 3 O O (isAgg30 _) O) <| yo ((aO (sT := 30) (U.arg hlv) O O (runUnderlying30 _)).asi (m' := (l.length : Int)) AO) <| yo (v_gt O O) <| yp O <| fun a Y => ?_
 rcases Decidable.em (0 < (l.length : Int)) with hb2 | hb2
 ·rw [yy hb2] at Y
  refine nv Y <| yr (aQ (v := pq w1.hz) O O kr) <| yr (ld U 2 O O (isAgg3 _) O) <| fun a Y => aF Y U call44 O (bO x0 8 _ AC AP) fun a w7 Y U => nv Y <| yr (v_lt O O) <| yo (ax O O) <| fun a Y => G4 ?_
  replace Y := Y.p5 2 3 4 5 31 O
  refine io (fun a w => ∃ (qn : Int), ∃ (qh : Int), ∃ (qt : Int), (0 ≤ qn ∧ qn ≤ 39) ∧ (0 ≤ qh ∧ qh ≤ 63) ∧ (0 ≤ qt ∧ qt ≤ 10000) ∧ Fr 93 [(3, pq w1.hz), (4, pq w2.hz), (5, pq b1)] [] a ∧ St No w0 [blk b1 [jv qn, jv qh, jv c, jv qt, jv 0] 36, blk w2.hz [jv 0, jv 0, jv 0, jv 0, jv 0] 36, blk w1.hz [jv x0, jv x1, jv x2, jv x3] 27, blk w0.hz [jv c, lv] 32] w) ?_ ?_
  ·refine aA Y O (fun hc3 => ?_) (fun hc3 => ?_)
   ·refine ah fun _ G5 => ?_
    obtain ⟨iq, hjq⟩ : ∃ m : Nat, pickI (x0.tdiv 8) (l.length : Int) = (m : Int) := ⟨_, (zT (aX _ (n := (l.length : Int)) om).1).symm⟩
    have hjql := (aX (x0.tdiv 8) (n := (l.length : Int)) om).2
    rw [hjq] at hjql
    obtain ⟨y, hy⟩ : ∃ y, l.getD iq Cas.z = y := ⟨_, rfl⟩
    have hyb := hD.at (i := iq) om
    rw [hy] at hyb
    obtain ⟨hyn, hyt, hye⟩ := hyb
    refine aH (aI fun w8 hxz => ?_)
    replace U := U.grow hxz
    refine aR (k := 0) 12 [10, 11] Y ?_
    replace Y := Y.p4 2 3 4 5 O
    refine bJ [11] (fun i => match i with | 11 => pm (fun b : Nat => pq b) (fun b => [blk b [jv 0, jv 0, .string (⟨#[]⟩)] 55]) (fun _ => True) | _ => fun _ _ => False) 12 [[], [0], [], [2], [3], [], [5], [6], [4, 7], [1, 8], [9], []] [po w0.hz 1, lv, pq w1.hz, jv x0, jv (x0.tdiv 8), po w0.hz 1, lv, jv (l.length : Int), jv (iq : Int), slAddr lv (iq * 3), .agg #[jv y.n, jv y.t, sv y.ev], undef] Y U ?_ ?_ ?_
    ·exact Au <| hqv (ac (v := po w0.hz 1) rfl kr) <| hqw (fun U => ld U 3 rfl rfl (isAgg30 _) rfl) <| hqv (aQ (v := pq w1.hz) rfl rfl kr) <| hqw (fun U => ld U 2 rfl rfl (isAgg3 _) rfl) <| hqv (jf rfl rfl de ⟨om, om⟩) <| hqv (ac (v := po w0.hz 1) rfl kr) <| hqw (fun U => ld U 3 rfl rfl (isAgg30 _) rfl) <| hqw (fun U => (aO (sT := 30) (U.arg hlv) rfl rfl (runUnderlying30 _)).asi (m' := (l.length : Int)) AO) <| As (fun _ _ _ => br call44 rfl (ny hjq (bO (x0.tdiv 8) (l.length : Int) _ (fq hx0 de) om))) <| hqw (fun U => (aj (i := (iq : Int)) (sT := 30) (U.arg hlv) rfl rfl (runUnderlying30 _) (sizeOf55 _) om Aw).as (v' := slAddr lv (iq * 3)) BE) <| hqw (fun U => (bP (U.arg hlv) (i := iq) Aw rfl (isAgg55 _) (sizeOf55 _)).as (v' := .agg #[jv y.n, jv y.t, sv y.ev]) (by rw [bf Cas.z, hy]; rfl)) <|
      As (fun h => absurd sm h) <| At
    ·intro i hi
     simp only [yE, yI, y9] at hi
     subst hi
     ·intro w U
      exact gG (zeroValue55 _) (cs := [jv 0, jv 0, .string (⟨#[]⟩)]) O
    clear Y U
    rintro _ _ ⟨b4, rfl, -, rfl⟩ a w9 Y U
    replace Y := Y.p5 42 6 3 4 5 O
    replace U := U.n5 O
    refine ab <| aL (k := 12) 13 [12] ?_
    refine az 0 Y U [jv y.n, jv y.t, sv y.ev] O (sizeOf55 _) fun a w10 Y U => ab <| aS <| G5 <| aa fun _ G6 => nv (Y.p4 3 4 5 6 O) <| yo (ac (v := pq b4) O kr) <| yo (ld U 0 O O (isAgg3 _) O) <| yo (ac (v := pq b1) O kr) <| fun a Y => az 1 Y U [jv y.n, jv (pickI x1 10), jv c, jv (pickI x2 10000), jv 0] O (sizeOf3 _) fun a w11 Y U => G6 <| aa fun _ G7 => nv Y <| yo (ac (v := po b4 1) O kr) <| yo (ld U 0 O O (isAgg3 _) O) <| yo (ac (v := po b1 3) O kr) <| fun a Y => az 1 Y U [jv y.n, jv (pickI x1 10), jv c, jv y.t, jv 0] O (sizeOf3 _) fun a w12 Y U => G7 ?_
    refine aa fun _ G8 => nv (Y.p4 3 4 5 6 O) <| yo (ac (v := po b4 2) O kr) <| yo (ld U 0 O O (isAgg9 _) O) <| fun a Y => ?_
    rcases yz ((bH y.ev).isSome) with hb5 | hb5
    ·obtain ⟨⟨u, up⟩, hdz⟩ := zr.1 hb5
     have huh := qx hdz
     refine bu Y U call46 O (pk (zl hye de) hdz) fun a w13 x7 hp Y U => ?_
     revert x7 hp Y U; rintro dv6 hp Y U
     clear hp
     replace U := U.n6 O
     refine nv Y <| yp O <| yo (ao O O) <| yo (ao O O) <| yo (ao O O) <| fun a Y => aD Y U (zeroValue90 _) [jv 0, jv 0, jv 0, jv 0, jv 0, jv 0, jv 0, jv 0, .string (⟨#[]⟩)] O fun a w14 Y U => az 0 Y U [jv u.signer, jv u.holder, jv u.rf, jv u.rt, jv u.carrier, jv u.serial, jv u.sf, jv u.st, sv u.sig] O (sizeOf90 _) fun a w15 Y U => nv Y <| yq O <| yq O <| fun a Y => G8 ?_
     replace U := U.k5 121 O
     refine ah fun _ G9 => aa fun _ G10 => nv (Y.p5 3 4 5 7 9 O) <| yp O <| yo ((v_eq O O).asb (b' := true) O) <| yp O <| yr (aQ (v := po w1.hz 1) O O kr) <| yr (ld U 3 O O (isAgg3 _) O) <| fun a Y => aF Y U call44 O (bO x1 4 _ AC AP) fun a w16 Y U => nv Y <| yr (v_lt O O) <| yo (ax O O) <| fun a Y => G10 ?_
     replace Y := Y.p5 3 4 5 7 63 O
     refine aA Y O (fun hc8 => ?_) (fun hc8 => ?_)
     ·refine al <| nv Y <| yo (ac (v := po w13.hz 1) O kr) <| yo (ld U 0 O O (isAgg3 _) O) <| yo (ac (v := po b1 1) O kr) <| fun a Y => az 1 Y U [jv y.n, jv u.holder, jv c, jv y.t, jv 0] O (sizeOf3 _) fun a w17 Y U => ab <| G9 <| aa fun _ G11 => nv Y <| yo (aQ (v := po w1.hz 2) O O kr) <| yo (ld U 3 O O (isAgg3 _) O) <| fun a Y => aw Y U call44 O (bO x2 8 _ AC AP) fun a w18 Y U => wlv Y (v_eq O O) fun a Y => G11 ?_
      replace Y := Y.p4 3 4 5 70 O
      replace U := U.k4 30 O
      refine aA Y O (fun hc9 => ?_) (fun hc9 => ?_)
      ·refine al <| nv Y <| yo (ac (v := po b1 3) O kr) <| yo (ld U 0 O O (isAgg3 _) O) <| yo (aM O O ⟨om, om⟩) <| yo (ac (v := po b1 3) O kr) <| fun a Y => az 0 Y U [jv y.n, jv u.holder, jv c, jv (y.t + 1), jv 0] O (sizeOf3 _) fun a w19 Y U => ab ?_
       exact ⟨y.n, u.holder, (y.t + 1), om, om, om, Y.pick [3, 4, 5], U.select [0, 1, 2, 3] de⟩
      refine ar ?_
      exact ⟨y.n, u.holder, y.t, om, om, om, Y.pick [3, 4, 5], U.select [0, 1, 2, 3] de⟩
     refine ar <| G9 <| aa fun _ G12 => nv Y <| yo (aQ (v := po w1.hz 2) O O kr) <| yo (ld U 3 O O (isAgg3 _) O) <| fun a Y => aw Y U call44 O (bO x2 8 _ AC AP) fun a w20 Y U => wlv Y (v_eq O O) fun a Y => G12 <| aA Y O (fun hc10 => ?_) (fun hc10 => ?_)
     ·refine al <| nv Y <| yo (ac (v := po b1 3) O kr) <| yo (ld U 1 O O (isAgg3 _) O) <| yo (aM O O ⟨om, om⟩) <| yo (ac (v := po b1 3) O kr) <| fun a Y => az 1 Y U [jv y.n, jv (pickI x1 10), jv c, jv (y.t + 1), jv 0] O (sizeOf3 _) fun a w21 Y U => ab ?_
      exact ⟨y.n, (pickI x1 10), (y.t + 1), om, om, om, Y.pick [3, 4, 5], U.select [1, 2, 3, 4] de⟩
     refine ar ?_
     exact ⟨y.n, (pickI x1 10), y.t, om, om, om, Y.pick [3, 4, 5], U.select [1, 2, 3, 4] de⟩
    have hdz : bH y.ev = none := by
     cases h : bH y.ev with
     | none => rfl
     | some z => rw [h] at hb5; cases hb5
    refine aw Y U call46 O (qc (zl hye de) hdz) fun a w22 Y U => nv Y <| yp O <| yo (ao O O) <| yo (ao O O) <| yo (ao O O) <| fun a Y => aD Y U (zeroValue90 _) [jv 0, jv 0, jv 0, jv 0, jv 0, jv 0, jv 0, jv 0, .string (⟨#[]⟩)] O fun a w23 Y U => az 0 Y U [jv 0, jv 0, jv 0, jv 0, jv 0, jv 0, jv 0, jv 0, sv ([] : By)] O (sizeOf90 _) fun a w24 Y U => nv Y <| yq O <| yq O <| fun a Y => G8 ?_
    replace U := U.k5 61 O
    refine ah fun _ G13 => aa fun _ G14 => nv (Y.p5 3 4 5 7 9 O) <| yp O <| yo ((v_eq O O).asb (b' := false) O) <| yp O <| yt <| yt <| yt <| yt <| yo (ak O O) <| fun a Y => G14 ?_
    replace Y := Y.p5 3 4 5 7 63 O
    refine aJ Y O ?_
    refine ar <| G13 <| aa fun _ G15 => nv Y <| yo (aQ (v := po w1.hz 2) O O kr) <| yo (ld U 3 O O (isAgg3 _) O) <| fun a Y => aw Y U call44 O (bO x2 8 _ AC AP) fun a w25 Y U => wlv Y (v_eq O O) fun a Y => G15 <| aA Y O (fun hc11 => ?_) (fun hc11 => ?_)
    ·refine al <| nv Y <| yo (ac (v := po b1 3) O kr) <| yo (ld U 1 O O (isAgg3 _) O) <| yo (aM O O ⟨om, om⟩) <| yo (ac (v := po b1 3) O kr) <| fun a Y => az 1 Y U [jv y.n, jv (pickI x1 10), jv c, jv (y.t + 1), jv 0] O (sizeOf3 _) fun a w26 Y U => ab ?_
     exact ⟨y.n, (pickI x1 10), (y.t + 1), om, om, om, Y.pick [3, 4, 5], U.select [1, 2, 3, 4] de⟩
    refine ar ?_
    exact ⟨y.n, (pickI x1 10), y.t, om, om, om, Y.pick [3, 4, 5], U.select [1, 2, 3, 4] de⟩
   refine ar ?_
   exact ⟨(pickI x0 40), (pickI x1 10), (pickI x2 10000), om, om, om, Y.pick [3, 4, 5], U.select [0, 1, 2, 3] de⟩
  rintro a w27 ⟨qn, qh, qt, hqn, hqh, hqt, Y, U⟩
  refine G3 <| ah fun _ G16 => aa fun _ G17 => nv Y <| yo (aQ (v := po w1.hz 3) O O kr) <| yo (ld U 2 O O (isAgg3 _) O) <| fun a Y => aw Y U call44 O (bO x3 16 _ AC AP) fun a w28 Y U => wlv Y (v_eq O O) fun a Y => G17 <| aA Y O (fun hc12 => ?_) (fun hc12 => ?_)
  ·refine al <| nv Y <| yo (ac (v := po b1 2) O kr) <| yo (ld U 0 O O (isAgg3 _) O) <| yo (aM O O ⟨om, om⟩) <| yo (fi O O om om) <| yo (ac (v := po b1 2) O kr) <| fun a Y => az 0 Y U [jv qn, jv qh, jv ((c + 1) % 8), jv qt, jv 0] O (sizeOf3 _) fun a w29 Y U => ab <| G16 ?_
   replace Y := Y.p3 3 4 5 O
   replace U := U.k3 7 O
   refine ah fun _ G18 => aH (aI fun w30 hxz => ?_)
   replace U := U.grow hxz
   refine aR (k := 0) 6 [1, 5] Y ?_
   refine bL 6 (Y.p3 3 4 5 O) U <| pl_v (ac (v := po b1 3) O kr) <| pl_w (fun U => ld U 0 O O (isAgg3 _) O) <| pl_v (aQ (v := po w1.hz 3) O O kr) <| pl_w (fun U => ld U 2 O O (isAgg3 _) O) <| pl_v (jf O O de ⟨om, om⟩) <| pl_r (fun U => br call44 O (bO (x3.tdiv 16) 100 _ (fq hx3 de) AP)) fun a w31 Y U => ?_
   replace Y := Y.p4 4 5 85 89 O
   refine ab <| aL (k := 6) 9 [8] ?_
   refine nv Y <| yo (aM O O ⟨om, om⟩) <| yo (ac (v := po b1 4) O kr) <| fun a Y => az 0 Y U [jv qn, jv qh, jv ((c + 1) % 8), jv qt, jv (qt + (pickI (x3.tdiv 16) 100))] O (sizeOf3 _) fun a w32 Y U => ab <| aS <| G18 <| aa fun _ G19 => wlv Y (ap (U.g 0 O) O (isAgg36 _) (sizeOf36 _)) fun a Y => az 1 Y U [jv qn, jv qh, jv ((c + 1) % 8), jv qt, jv (qt + (pickI (x3.tdiv 16) 100))] O (sizeOf36 _) fun a w33 Y U => G19 ?_
   replace Y := Y.p1 4 O
   replace U := U.k1 2 O
   refine aq <| am Y results14 (ai O (aY (U.g 0 O) (isAgg36 _) (sizeOf36 _)) ag) ?_
   exact ⟨⟨qn, qh, (c + 1) % 8, qt, qt + (pickI (x3.tdiv 16) 100)⟩, O, ⟨by show 0 ≤ qn ∧ _; omega, by show 0 ≤ qh ∧ _; omega, by show 0 ≤ ((c + 1) % 8) ∧ ((c + 1) % 8) ≤ 7; omega, by show 0 ≤ qt ∧ _; omega, by show qt ≤ (qt + (pickI (x3.tdiv 16) 100)); omega, by show (qt + (pickI (x3.tdiv 16) 100)) ≤ qt + 99; omega⟩, U.ext, St.out (E := []) (H := []) (U.select [] de)⟩
  refine ar <| G16 <| ah fun _ G20 => aH (aI fun w34 hxz => ?_)
  replace U := U.grow hxz
  refine aR (k := 0) 6 [1, 5] Y ?_
  refine bL 6 (Y.p6 3 4 5 75 76 77 O) U <| pl_v (ac (v := po b1 3) O kr) <| pl_w (fun U => ld U 0 O O (isAgg3 _) O) <| pl_v (aQ (v := po w1.hz 3) O O kr) <| pl_w (fun U => ld U 2 O O (isAgg3 _) O) <| pl_v (jf O O de ⟨om, om⟩) <| pl_r (fun U => br call44 O (bO (x3.tdiv 16) 100 _ (fq hx3 de) AP)) fun a w35 Y U => ?_
  replace Y := Y.p4 4 5 85 89 O
  refine ab <| aL (k := 6) 9 [8] ?_
  refine nv Y <| yo (aM O O ⟨om, om⟩) <| yo (ac (v := po b1 4) O kr) <| fun a Y => az 0 Y U [jv qn, jv qh, jv c, jv qt, jv (qt + (pickI (x3.tdiv 16) 100))] O (sizeOf3 _) fun a w36 Y U => ab <| aS <| G20 <| aa fun _ G21 => wlv Y (ap (U.g 0 O) O (isAgg36 _) (sizeOf36 _)) fun a Y => az 1 Y U [jv qn, jv qh, jv c, jv qt, jv (qt + (pickI (x3.tdiv 16) 100))] O (sizeOf36 _) fun a w37 Y U => G21 ?_
  replace Y := Y.p1 4 O
  replace U := U.k1 2 O
  refine aq <| am Y results14 (ai O (aY (U.g 0 O) (isAgg36 _) (sizeOf36 _)) ag) ?_
  exact ⟨⟨qn, qh, c, qt, qt + (pickI (x3.tdiv 16) 100)⟩, O, ⟨by show 0 ≤ qn ∧ _; omega, by show 0 ≤ qh ∧ _; omega, by show 0 ≤ c ∧ c ≤ 7; omega, by show 0 ≤ qt ∧ _; omega, by show qt ≤ (qt + (pickI (x3.tdiv 16) 100)); omega, by show (qt + (pickI (x3.tdiv 16) 100)) ≤ qt + 99; omega⟩, U.ext, St.out (E := []) (H := []) (U.select [] de)⟩
 rw [yD hb2] at Y
 refine nv Y <| yt <| yt <| yt <| yt <| yo (ak O O) <| fun a Y => G4 ?_
 replace Y := Y.p5 2 3 4 5 31 O
 refine io (fun a w => ∃ (qn : Int), ∃ (qh : Int), ∃ (qt : Int), (0 ≤ qn ∧ qn ≤ 39) ∧ (0 ≤ qh ∧ qh ≤ 63) ∧ (0 ≤ qt ∧ qt ≤ 10000) ∧ Fr 93 [(3, pq w1.hz), (4, pq w2.hz), (5, pq b1)] [] a ∧ St No w0 [blk b1 [jv qn, jv qh, jv c, jv qt, jv 0] 36, blk w2.hz [jv 0, jv 0, jv 0, jv 0, jv 0] 36, blk w1.hz [jv x0, jv x1, jv x2, jv x3] 27, blk w0.hz [jv c, lv] 32] w) ?_ ?_
 ·refine aJ Y O ?_
  refine ar ?_
  exact ⟨(pickI x0 40), (pickI x1 10), (pickI x2 10000), om, om, om, Y.pick [3, 4, 5], U.select [0, 1, 2, 3] de⟩
 rintro a w38 ⟨qn, qh, qt, hqn, hqh, hqt, Y, U⟩
 refine G3 <| ah fun _ G22 => aa fun _ G23 => nv Y <| yo (aQ (v := po w1.hz 3) O O kr) <| yo (ld U 2 O O (isAgg3 _) O) <| fun a Y => aw Y U call44 O (bO x3 16 _ AC AP) fun a w39 Y U => wlv Y (v_eq O O) fun a Y => G23 <| aA Y O (fun hc13 => ?_) (fun hc13 => ?_)
 ·refine al <| nv Y <| yo (ac (v := po b1 2) O kr) <| yo (ld U 0 O O (isAgg3 _) O) <| yo (aM O O ⟨om, om⟩) <| yo (fi O O om om) <| yo (ac (v := po b1 2) O kr) <| fun a Y => az 0 Y U [jv qn, jv qh, jv ((c + 1) % 8), jv qt, jv 0] O (sizeOf3 _) fun a w40 Y U => ab <| G22 ?_
  replace Y := Y.p3 3 4 5 O
  replace U := U.k3 7 O
  refine ah fun _ G24 => aH (aI fun w41 hxz => ?_)
  replace U := U.grow hxz
  refine aR (k := 0) 6 [1, 5] Y ?_
  refine bL 6 (Y.p3 3 4 5 O) U <| pl_v (ac (v := po b1 3) O kr) <| pl_w (fun U => ld U 0 O O (isAgg3 _) O) <| pl_v (aQ (v := po w1.hz 3) O O kr) <| pl_w (fun U => ld U 2 O O (isAgg3 _) O) <| pl_v (jf O O de ⟨om, om⟩) <| pl_r (fun U => br call44 O (bO (x3.tdiv 16) 100 _ (fq hx3 de) AP)) fun a w42 Y U => ?_
  replace Y := Y.p4 4 5 85 89 O
  refine ab <| aL (k := 6) 9 [8] ?_
  refine nv Y <| yo (aM O O ⟨om, om⟩) <| yo (ac (v := po b1 4) O kr) <| fun a Y => az 0 Y U [jv qn, jv qh, jv ((c + 1) % 8), jv qt, jv (qt + (pickI (x3.tdiv 16) 100))] O (sizeOf3 _) fun a w43 Y U => ab <| aS <| G24 <| aa fun _ G25 => wlv Y (ap (U.g 0 O) O (isAgg36 _) (sizeOf36 _)) fun a Y => az 1 Y U [jv qn, jv qh, jv ((c + 1) % 8), jv qt, jv (qt + (pickI (x3.tdiv 16) 100))] O (sizeOf36 _) fun a w44 Y U => G25 ?_
  replace Y := Y.p1 4 O
  replace U := U.k1 2 O
  refine aq <| am Y results14 (ai O (aY (U.g 0 O) (isAgg36 _) (sizeOf36 _)) ag) ?_
  exact ⟨⟨qn, qh, (c + 1) % 8, qt, qt + (pickI (x3.tdiv 16) 100)⟩, O, ⟨by show 0 ≤ qn ∧ _; omega, by show 0 ≤ qh ∧ _; omega, by show 0 ≤ ((c + 1) % 8) ∧ ((c + 1) % 8) ≤ 7; omega, by show 0 ≤ qt ∧ _; omega, by show qt ≤ (qt + (pickI (x3.tdiv 16) 100)); omega, by show (qt + (pickI (x3.tdiv 16) 100)) ≤ qt + 99; omega⟩, U.ext, St.out (E := []) (H := []) (U.select [] de)⟩
 refine ar <| G22 <| ah fun _ G26 => aH (aI fun w45 hxz => ?_)
 replace U := U.grow hxz
 refine aR (k := 0) 6 [1, 5] Y ?_
 refine bL 6 (Y.p6 3 4 5 75 76 77 O) U <| pl_v (ac (v := po b1 3) O kr) <| pl_w (fun U => ld U 0 O O (isAgg3 _) O) <| pl_v (aQ (v := po w1.hz 3) O O kr) <| pl_w (fun U => ld U 2 O O (isAgg3 _) O) <| pl_v (jf O O de ⟨om, om⟩) <| pl_r (fun U => br call44 O (bO (x3.tdiv 16) 100 _ (fq hx3 de) AP)) fun a w46 Y U => ?_
 replace Y := Y.p4 4 5 85 89 O
 refine ab <| aL (k := 6) 9 [8] ?_
 refine nv Y <| yo (aM O O ⟨om, om⟩) <| yo (ac (v := po b1 4) O kr) <| fun a Y => az 0 Y U [jv qn, jv qh, jv c, jv qt, jv (qt + (pickI (x3.tdiv 16) 100))] O (sizeOf3 _) fun a w47 Y U => ab <| aS <| G26 <| aa fun _ G27 => wlv Y (ap (U.g 0 O) O (isAgg36 _) (sizeOf36 _)) fun a Y => az 1 Y U [jv qn, jv qh, jv c, jv qt, jv (qt + (pickI (x3.tdiv 16) 100))] O (sizeOf36 _) fun a w48 Y U => G27 ?_
 replace Y := Y.p1 4 O
 replace U := U.k1 2 O
 refine aq <| am Y results14 (ai O (aY (U.g 0 O) (isAgg36 _) (sizeOf36 _)) ag) ?_
 exact ⟨⟨qn, qh, c, qt, qt + (pickI (x3.tdiv 16) 100)⟩, O, ⟨by show 0 ≤ qn ∧ _; omega, by show 0 ≤ qh ∧ _; omega, by show 0 ≤ c ∧ c ≤ 7; omega, by show 0 ≤ qt ∧ _; omega, by show qt ≤ (qt + (pickI (x3.tdiv 16) 100)); omega, by show (qt + (pickI (x3.tdiv 16) 100)) ≤ qt + 99; omega⟩, U.ext, St.out (E := []) (H := []) (U.select [] de)⟩
theorem fE {f : FuncId} {args : Array Value} {w : World} {a b : Value} (h : a = b) (hr : Ret Tryz.prog f args w fun v w' => v = a ∧ Ext No w w') : Ret Tryz.prog f args w fun v w' => v = b ∧ Ext No w w' := by subst h; exact hr
section
variable {key : By} {hd : Hd} {c : Int} {l : List Cas} {es : List By} {n : Nat} {ix ixa ixb : List Int} {L La Lb : List Itw} {num : Int}
theorem dF (hD : docOk c l = true) (hk : key.length = 32) (hhd : hdOf sha key c (entC l) l.length = hd) (hix : ascI (l.length : Int) (-1) ix = true) (hL : itsM L = showIs sha (entC l) l.length ix) : checkP sha key hd (itsM L) = true := by
 rw [hL, ← hhd]; exact kJ dH hk (j0 hD) (by rw [dR]; omega) hix
theorem mA (hr : regOk c es = true) (hn : n ≤ es.length) (hk : key.length = 32) (hhd : hdOf sha key c es n = hd) (hix : ascI (n : Int) (-1) ix = true) (hL : itsM L = showIs sha es n ix) : checkP sha key hd (itsM L) = true := by
 rw [hL, ← hhd]; exact kJ dH hk hr hn hix
theorem da (hn : n ≤ 60) (hL : itsM L = showIs sha es n ix) : ∀ x ∈ L, x.m.pf.length ≤ 1000 := fun x hx => zl (wc hL hn x hx) de
theorem dL (hL : itsM L = showIs sha es n ix) : L.length = ix.length := by
 have := yZ List.length hL
 rwa [eD, showIs, yu] at this
theorem el (hL : itsM L = showIs sha es n ix) {k : Nat} (hk : k < ix.length) : (L.getD k Itw.z).m = itmAt sha es n (ix.getD k 0) := by
 have h1 : (itsM L).getD k Itm.z = (L.getD k Itw.z).m := by
  have hl := dL hL
  rw [itsM, yA, zD, yA, yF om]; rfl
 rw [← h1, hL, showIs, yA, zD, yA, yF hk]; rfl
theorem rH (hL : itsM L = showIs sha (entC l) l.length ix) (h : docOk c l = true) (hix : ascI (l.length : Int) (-1) ix = true) (hn : ¬ thereC l num) : hasF num (itsM L) = none := by
 cases hq : hasF num (itsM L) with
 | none => rfl
 | some d =>
  rw [hL] at hq
  obtain ⟨i, h1, h2, h3⟩ := wp h hix hq
  exact absurd ⟨i, h1, by rw [h2]; exact h3⟩ hn
theorem mj (hL : itsM L = showIs sha (entC l) l.length ix) (hhd : hdOf sha key c (entC l) l.length = hd) (h : docOk c l = true) (hix : ascI (l.length : Int) (-1) ix = true) (ht : thereC l num) : lackF hd.n num (-1) false (itsM L) = false := by
 rw [hL, ← hhd]; exact vk h hix ht
theorem iW (hL : itsM L = showIs sha (entC l) l.length (ansIx l num)) (hhd : hdOf sha key c (entC l) l.length = hd) (h : docOk c l = true) (hh : hitC l num = false) : lackF hd.n num (-1) false (itsM L) = true := by
 rw [hL, ← hhd]; exact uG h hh
theorem vN (hL : itsM L = showIs sha (entC l) l.length (ansIx l num)) (h : docOk c l = true) (hh : hitC l num = true) : hasF num (itsM L) = some (l.getD (lowC num l) Cas.z) := by rw [hL]; exact xk h hh
theorem kR (h : docOk c l = true) (hia : ascI (l.length : Int) (-1) ixa = true) (hib : ascI (l.length : Int) (-1) ixb = true) (ha : itsM La = showIs sha (entC l) l.length ixa) (hb : itsM Lb = showIs sha (entC l) l.length ixb) : crookF (itsM La) (itsM Lb) = false := by rw [ha, hb]; exact mY h hia hib
end
section
variable {ks : List By} {key : By} {q : Chg} {lim t : Int} {r : Rpl}
theorem mU {p : Rpl → Bool} : firstF p none [r] = if p r = true then some r.at_ else none := by
 show nextO p none r = _
 unfold nextO lessO
 rw [Ad]
theorem fk {bk bb : Bool} (h1 : keptB sha ks key q (q.a + lim) t r = bk) (h2 : backB sha key q (q.a + lim) t r = bb) : stateH sha ks key lim q [r] t = pickS (if bk = true then some r.at_ else none) (if bb = true then some r.at_ else none) q (q.a + lim) t := by
 unfold stateH
 rw [mU, mU, h1, h2]
end
theorem wx : exS.length ≤ 900 := jx (x := exW) (ps := [exP]) (e := 0) (by unfold encT; rw [pG])
theorem ck : docOk 3 exC = true := by
 have h := wx
 unfold docOk exC
 simp only [ascC, Cas.ok, inB]
 rw [yy h]
 rfl
theorem xo : exC.length = 3 := rfl
theorem ix1000 : ansIx exC 1000 = [0] := by decide
theorem ix1500 : ansIx exC 1500 = [1] := by decide
theorem ix1200 : ansIx exC 1200 = [0, 1] := by decide
theorem ix500 : ansIx exC 500 = [0] := by decide
theorem ix3000 : ansIx exC 3000 = [2] := by decide
theorem vM : hitC exC 1500 = true := by decide
theorem nr : hitC exC 1200 = false := by decide
theorem hit500 : hitC exC 500 = false := by decide
theorem vR : hitC exC 3000 = false := by decide
theorem mO : thereC exC 1000 := ⟨0, by decide, rfl⟩
theorem jQ : ¬ thereC exC 1200 := fun h => by have := (qT ck).2 h; rw [nr] at this; cases this
section
variable {hd : Hd} {L : List Itw}
theorem m9 {key : By} (hk : key.length = 32) (hhd : hdOf sha key 3 (entC exC) exC.length = hd) (hL : itsM L = showIs sha (entC exC) exC.length (ansIx exC 1000)) (hol t en : Int) (hen : 320 ≤ en - 1) (iv : Value) :
  (320 ≤ t → keptB sha keysH key ⟨1000, 1, 3, 150, 300⟩ en t (Rpw.m ⟨320, hd, iv, L⟩) = true) ∧ (t < 320 → keptB sha keysH key ⟨1000, hol, 3, 150, 300⟩ en t (Rpw.m ⟨320, hd, iv, L⟩) = false) ∧ backB sha key ⟨1000, hol, 3, 150, 300⟩ en t (Rpw.m ⟨320, hd, iv, L⟩) = false ∧ (hol ≠ 1 → keptB sha keysH key ⟨1000, hol, 3, 150, 300⟩ en t (Rpw.m ⟨320, hd, iv, L⟩) = false) := by
 have hix := di exC 1000
 have hc := dF ck hk hhd hix hL
 have hdc : hd.c = 3 := by rw [← hhd]; rfl
 have hm : itmAt sha (entC exC) exC.length 0 ∈ itsM L := by rw [hL, ix1000]; exact yT.2 rfl
 have hd0 : decCas (itmAt sha (entC exC) exC.length 0).e = some ⟨1000, 150, exS⟩ := cY ck de de
 refine ⟨fun ht => ?_, fun ht => ?_, ?_, fun hn => ?_⟩
 ·exact f9.2 ⟨i0.2 ⟨⟨by show (300 : Int) ≤ 320; decide, hen, ht⟩, hdc, hc⟩, tq hm hd0 O O uw O O uh⟩
 ·rw [Bool.eq_false_iff]; intro h
  have := (i0.1 (f9.1 h).1).1.2.2
  have : (320 : Int) ≤ t := this
  omega
 ·rw [Bool.eq_false_iff]; intro h
  have h9 : lackF hd.n 1000 (-1) false (itsM L) = true := (oQ.1 h).2
  rw [mj hL hhd ck hix mO] at h9
  cases h9
 ·rw [Bool.eq_false_iff]; intro h
  obtain ⟨x, hx, d, h1, h2, h3, w, ps, h4, h5, _⟩ := fH (f9.1 h).2
  have hx : x ∈ itsM L := hx
  rw [hL, ix1000] at hx
  have hx := yT.1 hx
  rw [hx, hd0] at h1
  cases h1
  rw [uw] at h4
  cases h4
  exact hn h5.symm
theorem ex_b {key : By} (hk : key.length = 32) (hhd : hdOf sha key 3 (entC exC) exC.length = hd) (hL : itsM L = showIs sha (entC exC) exC.length (ansIx exC 1200)) (iv : Value) :
  keptB sha keysH key ⟨1200, 1, 3, 150, 300⟩ 350 310 (Rpw.m ⟨310, hd, iv, L⟩) = false ∧ backB sha key ⟨1200, 1, 3, 150, 300⟩ 350 310 (Rpw.m ⟨310, hd, iv, L⟩) = true := by
 have hix := di exC 1200
 have hc := dF ck hk hhd hix hL
 have hdc : hd.c = 3 := by rw [← hhd]; rfl
 refine ⟨?_, ?_⟩
 ·rw [Bool.eq_false_iff]; intro h
  obtain ⟨x, hx, d, h1, h2, _⟩ := fH (f9.1 h).2
  have hx : x ∈ itsM L := hx
  rw [hL] at hx
  obtain ⟨i, hi, rfl⟩ := dS hx
  have hb := dP hix i hi
  rw [cY ck om hb.2] at h1
  exact jQ ⟨i.toNat, by omega, by rw [zv h1]; exact h2⟩
 ·exact oQ.2 ⟨i0.2 ⟨⟨by show (300 : Int) ≤ 310; decide, by show (310 : Int) ≤ 350 - 1; decide, by show (310 : Int) ≤ 310; decide⟩, hdc, hc⟩, iW hL hhd ck nr⟩
theorem gD {key : By} (hk : key.length = 32) (hhd : hdOf sha key 3 (entC exC) exC.length = hd) (hL : itsM L = showIs sha (entC exC) exC.length (ansIx exC 1000)) (iv : Value) :
  stateH sha keysH key 50 ⟨1000, 1, 3, 150, 300⟩ (repsM [⟨320, hd, iv, L⟩]) 320 = (2, 320) ∧ stateH sha keysH key 50 ⟨1000, 1, 3, 150, 300⟩ (repsM [⟨320, hd, iv, L⟩]) 319 = (1, 300) ∧ stateH sha keysH key 50 ⟨1000, 2, 3, 150, 300⟩ (repsM [⟨320, hd, iv, L⟩]) 349 = (1, 300) ∧ stateH sha keysH key 50 ⟨1000, 2, 3, 150, 300⟩ (repsM [⟨320, hd, iv, L⟩]) 350 = (3, 350) := by
 have a := m9 hk hhd hL 1 320 350 de iv
 have b := m9 hk hhd hL 1 319 350 de iv
 have d := m9 hk hhd hL 2 349 350 de iv
 have e := m9 hk hhd hL 2 350 350 de iv
 exact ⟨fk (lim := 50) (a.1 de) a.2.2.1, fk (lim := 50) (b.2.1 de) b.2.2.1, fk (lim := 50) (d.2.2.2 de) d.2.2.1, fk (lim := 50) (e.2.2.2 de) e.2.2.1⟩
theorem sB {key : By} (hk : key.length = 32) (hhd : hdOf sha key 3 (entC exC) exC.length = hd) (hL : itsM L = showIs sha (entC exC) exC.length (ansIx exC 1200)) (iv : Value) :
  stateH sha keysH key 50 ⟨1200, 1, 3, 150, 300⟩ (repsM [⟨310, hd, iv, L⟩]) 310 = (3, 310) := by
 have a := ex_b hk hhd hL iv
 exact fk (lim := 50) a.1 a.2
end
theorem lY {key : By} : stateH sha keysH key 50 ⟨1000, 1, 3, 150, 300⟩ (repsM []) 349 = (1, 300) ∧ stateH sha keysH key 50 ⟨1000, 1, 3, 150, 300⟩ (repsM []) 350 = (3, 350) := ⟨rfl, rfl⟩
theorem sK {La Lo L : List Itw} (ha : itsM La = showIs sha (entC exC) exC.length (ansIx exC 1500)) (ho : itsM Lo = showIs sha (entC exC) exC.length (ansIx exC 1000)) (hL : itsM L = showIs sha [(La.getD 0 Itw.z).m.e, (Lo.getD 0 Itw.z).m.e] 2 [0, 1]) : crookF (itsM L) (itsM L) = true := by
 have e1 : decCas (La.getD 0 Itw.z).m.e = some ⟨1500, 160, []⟩ := by
  rw [el ha (k := 0) (by rw [ix1500]; decide), ix1500]; exact cY ck de de
 have e2 : decCas (Lo.getD 0 Itw.z).m.e = some ⟨1000, 150, exS⟩ := by
  rw [el ho (k := 0) (by rw [ix1000]; decide), ix1000]; exact cY ck de de
 rw [hL]
 refine pd (tu (x := itmAt sha [(La.getD 0 Itw.z).m.e, (Lo.getD 0 Itw.z).m.e] 2 0) (y := itmAt sha [(La.getD 0 Itw.z).m.e, (Lo.getD 0 Itw.z).m.e] 2 1) (by simp [showIs]) (by simp [showIs]) (c := ⟨1500, 160, []⟩) (d := ⟨1000, 150, exS⟩) e1 e2 (show (0 : Int) < 1 by decide) (show (1000 : Int) ≤ 1500 by decide))
theorem gU {La Lo : List Itw} (ha : itsM La = showIs sha (entC exC) exC.length (ansIx exC 1500)) (ho : itsM Lo = showIs sha (entC exC) exC.length (ansIx exC 1000)) : regOk 3 [(La.getD 0 Itw.z).m.e, (Lo.getD 0 Itw.z).m.e] = true := by
 refine ug O (show 2 ≤ 60 by decide) fun s hs => ?_
 have h1 : ∀ {L : List Itw} {n : Int}, itsM L = showIs sha (entC exC) exC.length (ansIx exC n) → 0 < (ansIx exC n).length → (L.getD 0 Itw.z).m.e.length ≤ 1000 := by
  intro L n hL hn
  rw [el hL hn]
  exact zl (uY (nT exC)) de
 simp only [yE, yI, y9] at hs
 rcases hs with rfl | rfl
 ·exact h1 ha (by rw [ix1500]; decide)
 ·exact h1 ho (by rw [ix1000]; decide)
theorem qB {x : Wsh} {lv : Value} {ps : List Pxy} {s : By} {w0 : World} (hlv : SlAt w0 lv 7 (ps.map Pxy.cells)) (h : ch x ps = some s) : Ret Tryz.prog 35 #[.agg #[jv x.signer, jv x.holder, jv x.rf, jv x.rt, jv x.carrier, jv x.serial, jv x.sf, jv x.st, sv x.sig], lv] w0 fun v w => v = .tuple #[sv s, jv 0] ∧ Ext No w0 w := by
 have := sS x lv ps w0 hlv
 rw [h] at this
 exact this
theorem xW (w0 : World) (hk0 : (blk 0 (kOf.map wv) 258).ok w0) :
  Ret Tryz.prog 104 #[] w0 fun v w => v = sv exS ∧ Ext No w0 w := by
 refine aC func104 O ntmps104 (lb O) fun a Y => ?_
 replace Y : Fr 31 [] [] a := Y
 replace U : St No w0 [] w0 := St.init w0
 refine aa fun _ G1 => wla Y O fun a Y => G1 <| aa fun _ G2 => aw Y U call33 O (je 1 _) fun a w1 Y U => nv Y <| yo (aW (v := .agg #[jv 1000, jv 2000]) O kr) <| yo (aW (v := .agg #[jv 100, jv 500]) O kr) <| yo (aW (v := .agg #[jv 1, jv 2, jv 1000, jv 2000, jv 100, jv 500, sv ([] : By)]) O kr) <| fun a Y => aw Y U call151 O (mV (keyH 1) ⟨1, 2, 1000, 2000, 100, 500, []⟩ _ (fV _) de (U.keepb hk0)) fun a w2 Y U => nv Y <| yp O <| yo (ao O O) <| yo (ao O O) <| fun a Y => aD Y U (zeroValue144 _) [jv 0, jv 0, jv 0, jv 0, jv 0, jv 0, .string (⟨#[]⟩)] O fun a w3 Y U => az 0 Y U [jv exP.frm, jv exP.to, jv exP.rf, jv exP.rt, jv exP.sf, jv exP.st, sv exP.sig] O (sizeOf144 _) fun a w4 Y U => wla Y O fun a Y => G2 ?_
 refine aa fun _ G3 => aw (Y.p2 0 1 O) U call33 O (je 2 _) fun a w5 Y U => nv Y <| yo (aW (v := .agg #[jv 1000, jv 1200]) O kr) <| yo (aW (v := .agg #[jv 150, jv 200]) O kr) <| yo (aW (v := .agg #[jv 2, jv 1, jv 1000, jv 1200, jv 3, jv 7, jv 150, jv 200, sv ([] : By)]) O kr) <| fun a Y => aw Y U call34 O (oI (keyH 2) ⟨2, 1, 1000, 1200, 3, 7, 150, 200, []⟩ _ (fV _) de (U.keepb hk0)) fun a w6 Y U => nv Y <| yp O <| yo (ao O O) <| yo (ao O O) <| fun a Y => aD Y U (zeroValue90 _) [jv 0, jv 0, jv 0, jv 0, jv 0, jv 0, jv 0, jv 0, .string (⟨#[]⟩)] O fun a w7 Y U => az 0 Y U [jv exW.signer, jv exW.holder, jv exW.rf, jv exW.rt, jv exW.carrier, jv exW.serial, jv exW.sf, jv exW.st, sv exW.sig] O (sizeOf90 _) fun a w8 Y U => wla Y O fun a Y => G3 ?_
 refine aa fun _ G4 => nv (Y.p3 0 1 3 O) <| yo (ap (U.g 0 O) O (isAgg90 _) (sizeOf90 _)) <| yo (ap (U.g 1 O) O (isAgg144 _) (sizeOf144 _)) <| fun a Y => aE (E := 144) (sz := 7) O [[jv exP.frm, jv exP.to, jv exP.rf, jv exP.rt, jv exP.sf, jv exP.st, sv exP.sig]] kr sm O de de Y U fun a w9 Y U => aw Y U call35 O (qB (x := exW) (ps := [exP]) (U.ow 0 O) pG) fun a w10 Y U => nv Y <| yp O <| yo (ao O O) <| yo (ao O O) <| yq O <| yq O <| fun a Y => G4 ?_
 replace U := U.k0 0 O
 refine aa fun _ G5 => nv (Y.p2 0 5 O) <| yp O <| yq O <| fun a Y => G5 <| aq <| am Y results104 (ae O ag) ?_
 exact ⟨by rfl, U.ext⟩
theorem xZ (w0 : World) (hk0 : (blk 0 (kOf.map wv) 258).ok w0) :
  Ret Tryz.prog 41 #[] w0 (MemR w0 (fun v : Value => .agg #[jv 3, v]) (fun v => [own v 55 3 (exC.map Cas.cells)]) (fun _ => True)) := by
 refine aC func41 O ntmps41 (lb O) fun a Y => ?_
 replace Y : Fr 7 [] [] a := Y
 replace U : St No w0 [] w0 := St.init w0
 refine aa fun _ G1 => aD Y U (zeroValue32 _) [jv 0, .slice none 0 0] O fun a w1 Y U => G1 <| aa fun _ G2 => aw Y U call104 O (xW _ (U.keepb hk0)) fun a w2 Y U => nv Y <| yo (aW (v := .agg #[jv 1000, jv 150, sv exS]) O kr) <| yo (aW (v := .agg #[jv 1500, jv 160, sv ([] : By)]) O kr) <| yo (aW (v := .agg #[jv 2000, jv 170, sv ([] : By)]) O kr) <| fun a Y => aE (E := 55) (sz := 3) O [[jv 1000, jv 150, sv exS], [jv 1500, jv 160, sv ([] : By)], [jv 2000, jv 170, sv ([] : By)]] kr sm O de de Y U fun a w3 Y U => wlv Y (aW (v := .agg #[jv 3, (.slice (some ⟨w2.hz, 0, none⟩) 3 3)]) O kr) fun a Y => az 1 Y U [jv 3, (.slice (some ⟨w2.hz, 0, none⟩) 3 3)] O (sizeOf32 _) fun a w4 Y U => G2 ?_
 replace Y := Y.p1 0 O
 refine aq <| am Y results41 (ai O (aY (U.g 1 O) (isAgg32 _) (sizeOf32 _)) ag) ?_
 exact ⟨(.slice (some ⟨w2.hz, 0, none⟩) 3 3), O, trivial, U.ext, St.out (E := [own (.slice (some ⟨w2.hz, 0, none⟩) 3 3) 55 3 (exC.map Cas.cells)]) (H := []) (U.select [0] de)⟩
theorem fX (hd : Hd) (iv : Value) (L : List Itw) (lv : Value) (ix : List Int) (w0 : World) (hiv : ItsAt w0 iv L) (hlv : SlAt w0 lv 1 ((ix).map fun n => [jv n])) (hl : L.length = ix.length) (hix : ∀ k, k < ix.length → (L.getD k Itw.z).m.ix = ix.getD k 0) :
  Ret Tryz.prog 42 #[.agg #[jv hd.c, jv hd.n, sv hd.root, sv hd.tag, iv], lv] w0 fun v w => v = .bool true ∧ Ext No w0 w := by
 have hxb := hiv.len
 have hxc := hlv.2.1
 simp only [yu, big] at hxc
 refine Am func42 O ntmps42 (lb O) fun a Y U => aa fun _ G1 => aV Y U O [jv hd.c, jv hd.n, sv hd.root, sv hd.tag, iv] O fun a w1 Y U => wla Y O fun a Y => G1 <| ah fun _ G2 => aa fun _ G3 => nv Y <| yo (ac (v := po w0.hz 4) O kr) <| yo (ld U 0 O O (isAgg48 _) O) <| yo ((aO (sT := 48) (U.arg hiv.1) O O (runUnderlying48 _)).asi (m' := (L.length : Int)) AO) <| yp O <| yo ((aO (sT := 24) (U.arg hlv) O O (runUnderlying24 _)).asi (m' := (ix.length : Int)) AO) <| yo (v_ne O O) <| fun a Y => G3 ?_
 replace Y := Y.p4 1 2 4 11 O
 refine cG Y O (fun hc1 => ?_) (fun hc1 => ?_)
 ·exfalso; omega
 refine ar <| G2 <| ah fun _ G4 => aa fun _ G5 => wla Y O fun a Y => G5 <| au <| aZ (fun m a w => ∃ (k : Nat), m = ix.length - k ∧ (k ≤ ix.length) ∧ Fr 29 [(1, lv), (2, pq w0.hz), (5, jv (k : Int))] [] a ∧ St No w0 [blk w0.hz [jv hd.c, jv hd.n, sv hd.root, sv hd.tag, iv] 50] w) _ ⟨0, O, yQ _, Y.pick [1, 2, 5], U.select [0] de⟩ ?_
 rintro _ a w2 ⟨k, rfl, hk, Y, U⟩
 refine ah fun _ G6 => aa fun _ G7 => nv Y <| yp O <| yp O <| yo ((aO (sT := 24) (U.arg hlv) O O (runUnderlying24 _)).asi (m' := (ix.length : Int)) AO) <| yo (v_lt O O) <| fun a Y => G7 <| aA Y O (fun hc2 => ?_) (fun hc2 => ?_)
 ·have hkx : k < ix.length := by omega
  have hkl := hix k hkx
  refine ar <| G6 <| ah fun _ G8 => au <| ah fun _ G9 => aH (aI fun w3 hxz => ?_)
  replace U := U.grow hxz
  refine aR (k := 0) 10 [5, 9] Y ?_
  replace Y := Y.p6 1 2 5 12 13 14 O
  refine bL 10 Y U <| pl_v (ac (v := po w0.hz 4) O kr) <| pl_w (fun U => ld U 0 O O (isAgg48 _) O) <| pl_m O <| pl_w (fun U => (aj (i := (k : Int)) (sT := 48) (U.arg hiv.1) O O (runUnderlying48 _) (sizeOf110 _) om Aw).as (v' := slAddr iv (k * 3)) O) <| pl_w (fun U => cI (k := k * 3) (j := 0) (U.arg hiv.1) (i := k) Aw O (fun _ _ => by kernel_rfl)) <| pl_w (fun U => aB (u := jv ((L.getD k Itw.z).m.ix)) (i := k) (j := 0) (U.arg hiv.1) Aw O (isAgg3 _) (by rw [bf Itw.z]; rfl)) <| pl_m O <| pl_m O ?_
  refine pl_w (fun U => (aj (i := (k : Int)) (sT := 24) (U.arg hlv) O O (runUnderlying24 _) (sizeOf3 _) om Aw).as (v' := slAddr lv (k * 1)) O) <| pl_w (fun U => aB (u := jv (ix.getD k 0)) (i := k) (j := 0) (U.arg hlv) Aw O (isAgg3 _) AM) fun a w4 Y U => ?_
  replace Y := Y.p5 1 2 5 23 27 O
  refine ab <| aL (k := 10) 11 [10] ?_
  refine wlv Y (v_ne O O) fun a Y => ab <| aS <| G9 <| cG Y O (fun hc3 => ?_) (fun hc3 => ?_)
  ·exact absurd hkl hc3
  refine ar <| G8 <| al <| nv Y <| yp O <| yo (aM O O ⟨om, om⟩) <| yq O <| fun a Y => ab ?_
  refine ⟨_, ?_, k + 1, O, om, Y.pick [1, 2, 5], U.select [0] de⟩
  omega
 refine aP <| G4 <| aa fun _ G10 => wla Y O fun a Y => G10 ?_
 replace Y := Y.p1 4 O
 replace U := U.k0 0 O
 refine aq <| am Y results42 (ae O ag) ?_
 exact ⟨by rfl, U.ext⟩
theorem fG (n h : Int) (lv : Value) (R : List Rpw) (t s0 s1 : Int) (w0 : World) (hlv : RepAt w0 lv R) (hRp : ∀ r ∈ R, ∀ x ∈ r.L, x.m.pf.length ≤ 1000) (hso : fb (keyG 3) 50 ⟨n, h, 3, 150, 300⟩ R.length t = true) (hs : stateH sha keysH (keyG 3) 50 ⟨n, h, 3, 150, 300⟩ (repsM R) t = (s0, s1)) (hk0 : (blk 0 (kOf.map wv) 258).ok w0) :
  Ret Tryz.prog 43 #[jv n, jv h, lv, jv t, jv s0, jv s1] w0 fun v w => v = .bool true ∧ Ext No w0 w := by
 refine Ar func43 O ntmps43 (lb O) fun a Y U => aa fun _ G1 => wla Y O fun a Y => G1 <| aa fun _ G2 => bu Y U call18 O (nC _) fun a w1 x2 hp Y U => ?_
 revert x2 hp Y U; rintro kv1 hp Y U
 clear hp
 replace U := U.n1 O
 refine aw Y U call13 O (kH 3 _ om) fun a w2 Y U => nv Y <| yp O <| yp O <| yo (aW (v := .agg #[jv n, jv h, jv 3, jv 150, jv 300]) O kr) <| yp O <| yp O <| fun a Y => aw Y U call17 O (fE (by rw [hs]) (jc kv1 lv keysH (keyG 3) 50 (⟨n, h, 3, 150, 300⟩ : Chg) R t _ (U.ow 0 O) (iQ U hlv) hRp hso (U.keepb hk0))) fun a w3 Y U => nv Y <| yp O <| yo (ao O O) <| yo (ao O O) <| yo (ao O O) <| yq O <| yq O <| yq O <| fun a Y => G2 ?_
 replace U := U.k0 0 O
 refine aa fun _ G3 => nv (Y.p6 4 5 12 13 14 15 O) <| yp O <| yo ((v_eq O O).asb (b' := true) O) <| yp O <| yr (ay O) <| yr (ay O) <| yr ((v_eq O O).asb (b' := true) sm) <| yo (ax O O) <| yp O <| yr (ay O) <| yr (ay O) <| yr ((v_eq O O).asb (b' := true) sm) <| yo (ax O O) <| yq O <| fun a Y => G3 ?_
 replace Y := Y.p1 12 O
 refine aq <| am Y results43 (ae O ag) ?_
 exact ⟨by rfl, U.ext⟩
theorem kG {key : By} {n h t : Int} {k : Nat} (hk : key.length = 32) (hn : (0 ≤ n ∧ n ≤ 2000) ∧ 0 ≤ h ∧ h ≤ 2) (hl : k ≤ 1) (ht : 300 ≤ t ∧ t ≤ 350) : fb key 50 ⟨n, h, 3, 150, 300⟩ k t = true := by
 simp only [fb, Chg.ok, inB, yw, yB]
 omega
theorem wL (w0 : World) (hk0 : (blk 0 (kOf.map wv) 258).ok w0) :
  Ret Tryz.prog 11 #[] w0 fun v w => v = .bool true ∧ Ext No w0 w := by
 obtain ⟨kk, hkk⟩ : ∃ k, keyG 3 = k := ⟨_, rfl⟩
 have hk32 : kk.length = 32 := by rw [← hkk]; exact o6 _
 obtain ⟨hd, hhd⟩ : ∃ h, hdOf sha kk 3 (entC exC) exC.length = h := ⟨_, rfl⟩
 have hxl := xo
 refine aC func11 O ntmps11 (lb O) fun a Y => ?_
 replace Y : Fr 243 [] [] a := Y
 replace U : St No w0 [] w0 := St.init w0
 refine aa fun _ G1 => wla Y O fun a Y => G1 <| aa fun _ G2 => aw Y U call13 O (fE (by rw [hkk]) (kH 3 _ de)) fun a w1 Y U => wla Y O fun a Y => G2 <| aa fun _ G3 => bu Y U call41 O (xZ _ (U.keepb hk0)) fun a w2 x2 hp Y U => ?_
 revert x2 hp Y U; rintro dv1 hp Y U
 clear hp
 replace U := U.n1 O
 refine aD Y U (zeroValue32 _) [jv 0, .slice none 0 0] O fun a w3 Y U => bp (us := [jv 3, dv1]) 0 Y U O O O (sizeOf32 _) Bx (lb O) (ds := [jv 3, dv1]) O O fun a w4 Y U => G3 <| aa fun _ G4 => nv Y <| yp O <| yo (ap (U.g 0 O) O (isAgg32 _) (sizeOf32 _)) <| fun a Y => bu Y U call22 O (fl kk hd 3 dv1 exC 1000 _ (U.ow 1 O) hk32 ck hhd om (U.keepb hk0)) fun a w5 x4 hp Y U => ?_
 obtain ⟨iv3, Liv3⟩ := x4
 have hLiv3 := hp
 try dsimp only at U
 replace U := U.n3 O
 refine nv Y <| yp O <| yo (ao O O) <| yo (ao O O) <| fun a Y => aD Y U (zeroValue50 _) [jv 0, jv 0, .string (⟨#[]⟩), .string (⟨#[]⟩), .slice none 0 0] O fun a w6 Y U => bp (us := [jv hd.c, jv hd.n, sv hd.root, sv hd.tag, iv3]) 0 Y U O O O (sizeOf50 _) AH (lb O) (ds := [jv hd.c, jv hd.n, sv hd.root, sv hd.tag, iv3]) O O fun a w7 Y U => wla Y O fun a Y => G4 ?_
 refine aa fun _ G5 => nv (Y.p5 0 1 2 3 4 O) <| yp O <| yo (ap (U.g 2 O) O (isAgg32 _) (sizeOf32 _)) <| fun a Y => bu Y U call22 O (fl kk hd 3 dv1 exC 1500 _ (U.ow 3 O) hk32 ck hhd om (U.keepb hk0)) fun a w8 x6 hp Y U => ?_
 obtain ⟨iv5, Liv5⟩ := x6
 have hLiv5 := hp
 try dsimp only at U
 replace U := U.n5 O
 refine nv Y <| yp O <| yo (ao O O) <| yo (ao O O) <| fun a Y => aD Y U (zeroValue50 _) [jv 0, jv 0, .string (⟨#[]⟩), .string (⟨#[]⟩), .slice none 0 0] O fun a w9 Y U => bp (us := [jv hd.c, jv hd.n, sv hd.root, sv hd.tag, iv5]) 0 Y U O O O (sizeOf50 _) AH (lb O) (ds := [jv hd.c, jv hd.n, sv hd.root, sv hd.tag, iv5]) O O fun a w10 Y U => wla Y O fun a Y => G5 ?_
 refine aa fun _ G6 => nv (Y.p7 0 1 2 3 4 5 6 O) <| yp O <| yo (ap (U.g 4 O) O (isAgg32 _) (sizeOf32 _)) <| fun a Y => bu Y U call22 O (fl kk hd 3 dv1 exC 1200 _ (U.ow 5 O) hk32 ck hhd om (U.keepb hk0)) fun a w11 x8 hp Y U => ?_
 obtain ⟨iv7, Liv7⟩ := x8
 have hLiv7 := hp
 try dsimp only at U
 replace U := U.n7 O
 refine nv Y <| yp O <| yo (ao O O) <| yo (ao O O) <| fun a Y => aD Y U (zeroValue50 _) [jv 0, jv 0, .string (⟨#[]⟩), .string (⟨#[]⟩), .slice none 0 0] O fun a w12 Y U => bp (us := [jv hd.c, jv hd.n, sv hd.root, sv hd.tag, iv7]) 0 Y U O O O (sizeOf50 _) AH (lb O) (ds := [jv hd.c, jv hd.n, sv hd.root, sv hd.tag, iv7]) O O fun a w13 Y U => wla Y O fun a Y => G6 ?_
 refine aa fun _ G7 => nv (Y.p9 0 1 2 3 4 5 6 7 8 O) <| yp O <| yo (ap (U.g 6 O) O (isAgg32 _) (sizeOf32 _)) <| fun a Y => bu Y U call22 O (fl kk hd 3 dv1 exC 500 _ (U.ow 7 O) hk32 ck hhd om (U.keepb hk0)) fun a w14 x10 hp Y U => ?_
 obtain ⟨iv9, Liv9⟩ := x10
 have hLiv9 := hp
 try dsimp only at U
 replace U := U.n9 O
 refine nv Y <| yp O <| yo (ao O O) <| yo (ao O O) <| fun a Y => aD Y U (zeroValue50 _) [jv 0, jv 0, .string (⟨#[]⟩), .string (⟨#[]⟩), .slice none 0 0] O fun a w15 Y U => bp (us := [jv hd.c, jv hd.n, sv hd.root, sv hd.tag, iv9]) 0 Y U O O O (sizeOf50 _) AH (lb O) (ds := [jv hd.c, jv hd.n, sv hd.root, sv hd.tag, iv9]) O O fun a w16 Y U => wla Y O fun a Y => G7 ?_
 refine aa fun _ G8 => nv (Y.p11 0 1 2 3 4 5 6 7 8 9 10 O) <| yp O <| yo (ap (U.g 8 O) O (isAgg32 _) (sizeOf32 _)) <| fun a Y => bu Y U call22 O (fl kk hd 3 dv1 exC 3000 _ (U.ow 9 O) hk32 ck hhd om (U.keepb hk0)) fun a w17 x12 hp Y U => ?_
 obtain ⟨iv11, Liv11⟩ := x12
 have hLiv11 := hp
 try dsimp only at U
 replace U := U.n11 O
 refine nv Y <| yp O <| yo (ao O O) <| yo (ao O O) <| fun a Y => aD Y U (zeroValue50 _) [jv 0, jv 0, .string (⟨#[]⟩), .string (⟨#[]⟩), .slice none 0 0] O fun a w18 Y U => bp (us := [jv hd.c, jv hd.n, sv hd.root, sv hd.tag, iv11]) 0 Y U O O O (sizeOf50 _) AH (lb O) (ds := [jv hd.c, jv hd.n, sv hd.root, sv hd.tag, iv11]) O O fun a w19 Y U => wla Y O fun a Y => G8 ?_
 refine aa fun _ G9 => nv (Y.p13 0 1 2 3 4 5 6 7 8 9 10 11 12 O) <| yp O <| yo (ap (U.g 10 O) O (isAgg32 _) (sizeOf32 _)) <| fun a Y => aw Y U call23 O (rK kk hd 3 dv1 exC _ (U.ow 11 O) hk32 ck hhd (U.keepb hk0)) fun a w20 Y U => nv Y <| yp O <| yo (ao O O) <| yo (ao O O) <| fun a Y => aD Y U (zeroValue47 _) [jv 0, jv 0, .string (⟨#[]⟩), .string (⟨#[]⟩)] O fun a w21 Y U => az 0 Y U [jv hd.c, jv hd.n, sv hd.root, sv hd.tag] O (sizeOf47 _) fun a w22 Y U => wla Y O fun a Y => G9 ?_
 refine ah fun _ G10 => aa fun _ G11 => nv (Y.p15 0 1 2 3 4 5 6 7 8 9 10 11 12 13 14 O) <| yp O <| yo ((v_ne O O).asb (b' := false) O) <| yp O <| yr (ay O) <| yr ((v_ne O O).asb (b' := false) O) <| yo (ak O O) <| yp O <| yr (ay O) <| yr ((v_ne O O).asb (b' := false) O) <| yo (ak O O) <| yp O <| yr (ay O) <| yr ((v_ne O O).asb (b' := false) O) <| yo (ak O O) <| yp O <| yr (ay O) <| yr ((v_ne O O).asb (b' := false) O) <| yo (ak O O) <| yp O <| yr (ay O) <| yr ((v_ne O O).asb (b' := false) O) <| yo (ak O O) <| yp O <| yr (ap (U.g 9 O) O (isAgg50 _) (sizeOf50 _)) <| fun a Y => ey Y ?_
 refine aE (E := 3) (sz := 1) O [[jv 0]] kr sm O de de Y U fun a w23 Y U => aF Y U call42 O (fX hd iv3 Liv3 (.slice (some ⟨w22.hz, 0, none⟩) 1 1) [0] _ (bA (k := 11) U O) (U.ow 0 O) (by rw [dL hLiv3, ix1000] <;> rfl) (fun k hk => by rw [el hLiv3 (by rw [ix1000]; exact hk), ix1000] <;> rfl)) fun a w24 Y U => nv Y <| yr ((bB O).asb (b' := false) O) <| yo (ak O O) <| yp O <| yr (ap (U.g 8 O) O (isAgg50 _) (sizeOf50 _)) <| fun a Y => ey Y ?_
 refine aE (E := 3) (sz := 1) O [[jv 1]] kr sm O de de Y U fun a w25 Y U => aF Y U call42 O (fX hd iv5 Liv5 (.slice (some ⟨w24.hz, 0, none⟩) 1 1) [1] _ (bA (k := 10) U O) (U.ow 0 O) (by rw [dL hLiv5, ix1500] <;> rfl) (fun k hk => by rw [el hLiv5 (by rw [ix1500]; exact hk), ix1500] <;> rfl)) fun a w26 Y U => nv Y <| yr ((bB O).asb (b' := false) O) <| yo (ak O O) <| yp O <| yr (ap (U.g 7 O) O (isAgg50 _) (sizeOf50 _)) <| fun a Y => ey Y ?_
 refine aE (E := 3) (sz := 1) O [[jv 0], [jv 1]] kr sm O de de Y U fun a w27 Y U => aF Y U call42 O (fX hd iv7 Liv7 (.slice (some ⟨w26.hz, 0, none⟩) 2 2) [0, 1] _ (bA (k := 9) U O) (U.ow 0 O) (by rw [dL hLiv7, ix1200] <;> rfl) (fun k hk => by rw [el hLiv7 (by rw [ix1200]; exact hk), ix1200] <;> rfl)) fun a w28 Y U => nv Y <| yr ((bB O).asb (b' := false) O) <| yo (ak O O) <| yp O <| yr (ap (U.g 6 O) O (isAgg50 _) (sizeOf50 _)) <| fun a Y => ey Y ?_
 refine aE (E := 3) (sz := 1) O [[jv 0]] kr sm O de de Y U fun a w29 Y U => aF Y U call42 O (fX hd iv9 Liv9 (.slice (some ⟨w28.hz, 0, none⟩) 1 1) [0] _ (bA (k := 8) U O) (U.ow 0 O) (by rw [dL hLiv9, ix500] <;> rfl) (fun k hk => by rw [el hLiv9 (by rw [ix500]; exact hk), ix500] <;> rfl)) fun a w30 Y U => nv Y <| yr ((bB O).asb (b' := false) O) <| yo (ak O O) <| yp O <| yr (ap (U.g 5 O) O (isAgg50 _) (sizeOf50 _)) <| fun a Y => ey Y ?_
 refine aE (E := 3) (sz := 1) O [[jv 2]] kr sm O de de Y U fun a w31 Y U => aF Y U call42 O (fX hd iv11 Liv11 (.slice (some ⟨w30.hz, 0, none⟩) 1 1) [2] _ (bA (k := 7) U O) (U.ow 0 O) (by rw [dL hLiv11, ix3000] <;> rfl) (fun k hk => by rw [el hLiv11 (by rw [ix3000]; exact hk), ix3000] <;> rfl)) fun a w32 Y U => nv Y <| yr ((bB O).asb (b' := false) O) <| yo (ak O O) <| fun a Y => G11 ?_
 replace Y := Y.p10 0 1 2 3 5 7 9 11 13 113 O
 replace U := U.k13 262112 O
 refine aJ Y O ?_
 refine ar <| G10 <| aa fun _ G12 => nv Y <| yp O <| yo (ap (U.g 7 O) O (isAgg50 _) (sizeOf50 _)) <| fun a Y => aw Y U call24 O (fE (by rw [vN hLiv5 ck vM] <;> rfl) (tQ kk hd iv5 Liv5 1500 _ (bA (k := 8) U O) (da om hLiv5) (dF ck hk32 hhd (di exC 1500) hLiv5) (U.keepb hk0))) fun a w33 Y U => nv Y <| yp O <| yo (ao O O) <| yo (ao O O) <| fun a Y => aD Y U (zeroValue55 _) [jv 0, jv 0, .string (⟨#[]⟩)] O fun a w34 Y U => az 0 Y U [jv ((exC.getD 1 Cas.z).n), jv ((exC.getD 1 Cas.z).t), sv ((exC.getD 1 Cas.z).ev)] O (sizeOf55 _) fun a w35 Y U => wla Y O fun a Y => G12 ?_
 refine aa fun _ G13 => nv (Y.p11 0 1 2 3 5 7 9 11 13 15 16 O) <| yp O <| yo (ap (U.g 8 O) O (isAgg50 _) (sizeOf50 _)) <| fun a Y => aw Y U call24 O (fE (by rw [rH hLiv5 ck (di exC 1500) jQ] <;> rfl) (tQ kk hd iv5 Liv5 1200 _ (bA (k := 9) U O) (da om hLiv5) (dF ck hk32 hhd (di exC 1500) hLiv5) (U.keepb hk0))) fun a w36 Y U => nv Y <| yp O <| yo (ao O O) <| yo (ao O O) <| fun a Y => aD Y U (zeroValue55 _) [jv 0, jv 0, .string (⟨#[]⟩)] O fun a w37 Y U => az 0 Y U [jv Cas.z.n, jv Cas.z.t, sv Cas.z.ev] O (sizeOf55 _) fun a w38 Y U => wla Y O fun a Y => G13 ?_
 replace Y := Y.p12 0 1 2 3 5 7 9 11 13 15 16 18 O
 replace U := U.k14 32766 O
 refine ah fun _ G14 => aH (aI fun w39 hxz => ?_)
 replace U := U.grow hxz
 refine aL (k := 0) 2 [1] ?_
 refine nv Y <| yp O <| yp O <| fun a Y => ab <| aR (k := 2) 7 [2, 6] Y ?_
 replace Y : Fr 243 [(0, _), (1, _), (2, _), (3, _), (5, _), (7, _), (9, _), (11, _), (13, _), (15, _), (16, _), (18, _), (126, _), (127, _)] [] a := Y.pick [0, 1, 2, 3, 5, 7, 9, 11, 13, 15, 16, 18, 126, 127]
 refine bL 5 Y U <| pl_w (fun U => ap (U.g 0 O) O (isAgg55 _) (sizeOf55 _)) <| pl_v (ac (v := po w2.hz 1) O kr) <| pl_w (fun U => ld U 12 O O (isAgg30 _) O) <| pl_w (fun U => (aj (i := 1) (sT := 30) (U.ow 13 O) O O (runUnderlying30 _) (sizeOf55 _) om AR).as (v' := slAddr dv1 (1 * 3)) O) <| pl_w (fun U => (bP (U.ow 13 O) (i := 1) AR O (isAgg55 _) (sizeOf55 _)).as (v' := .agg #[jv ((exC.getD 1 Cas.z).n), jv ((exC.getD 1 Cas.z).t), sv ((exC.getD 1 Cas.z).ev)]) Bu) fun a w40 Y U => ?_
 replace Y := Y.p13 0 1 2 3 5 7 9 11 13 18 127 128 132 O
 refine ab <| aL (k := 7) 14 [13] ?_
 refine nv Y <| yr ((oy O O kr (eqCas ((exC.getD 1 Cas.z).n) ((exC.getD 1 Cas.z).t) ((exC.getD 1 Cas.z).ev) ((exC.getD 1 Cas.z).n) ((exC.getD 1 Cas.z).t) ((exC.getD 1 Cas.z).ev) _)).asb (b' := true) sm) <| yo (ax O O) <| yp O <| yr (ay O) <| yr ((bB O).asb (b' := true) O) <| yo (ax O O) <| yp O <| fun a Y => ab <| aR (k := 14) 16 [14, 15] Y ?_
 refine bL 2 (Y.p20 0 1 2 3 5 7 9 11 13 18 127 128 132 133 134 135 136 137 138 139 O) U <| pl_m O <| pl_w (fun U => ap (U.g 6 O) O (isAgg50 _) (sizeOf50 _)) fun a w41 Y U => ?_
 replace Y := Y.p12 0 1 2 3 5 7 9 11 13 139 140 141 O
 refine ab <| aL (k := 16) 19 [18] ?_
 refine aF Y U call25 O (cJ (iW hLiv7 hhd ck nr) (iA kk hd iv7 Liv7 1200 _ (bA (k := 7) U O) (da om hLiv7) (dF ck hk32 hhd (di exC 1200) hLiv7) om (U.keepb hk0))) fun a w42 Y U => nv Y <| yo (ax O O) <| yp O <| fun a Y => ab <| aR (k := 19) 21 [19, 20] Y ?_
 refine bL 2 (Y.p15 0 1 2 3 5 7 9 11 13 139 140 141 142 143 144 O) U <| pl_m O <| pl_w (fun U => ap (U.g 6 O) O (isAgg50 _) (sizeOf50 _)) fun a w43 Y U => ?_
 replace Y := Y.p12 0 1 2 3 5 7 9 11 13 144 145 146 O
 refine ab <| aL (k := 21) 25 [24] ?_
 refine aF Y U call25 O (cJ (mj hLiv7 hhd ck (di exC 1200) mO) (iA kk hd iv7 Liv7 1000 _ (bA (k := 7) U O) (da om hLiv7) (dF ck hk32 hhd (di exC 1200) hLiv7) om (U.keepb hk0))) fun a w44 Y U => nv Y <| yr ((bB O).asb (b' := true) O) <| yo (ax O O) <| yp O <| fun a Y => ab <| aR (k := 25) 27 [25, 26] Y ?_
 refine bL 2 (Y.p16 0 1 2 3 5 7 9 11 13 144 145 146 147 148 149 150 O) U <| pl_m O <| pl_w (fun U => ap (U.g 4 O) O (isAgg50 _) (sizeOf50 _)) fun a w45 Y U => ?_
 replace Y := Y.p11 0 1 2 3 5 7 11 13 150 151 152 O
 refine ab <| aL (k := 27) 30 [29] ?_
 refine aF Y U call25 O (cJ (iW hLiv9 hhd ck hit500) (iA kk hd iv9 Liv9 500 _ (bA (k := 5) U O) (da om hLiv9) (dF ck hk32 hhd (di exC 500) hLiv9) om (U.keepb hk0))) fun a w46 Y U => nv Y <| yo (ax O O) <| yp O <| fun a Y => ab <| aR (k := 30) 32 [30, 31] Y ?_
 replace Y : Fr 243 [(0, _), (1, _), (2, _), (3, _), (5, _), (7, _), (11, _), (13, _), (150, _), (151, _), (152, _), (153, _), (154, _), (155, _)] [] a := Y.pick [0, 1, 2, 3, 5, 7, 11, 13, 150, 151, 152, 153, 154, 155]
 refine bL 2 Y U <| pl_m O <| pl_w (fun U => ap (U.g 2 O) O (isAgg50 _) (sizeOf50 _)) fun a w47 Y U => ?_
 replace Y := Y.p10 0 1 2 3 5 7 13 155 156 157 O
 refine ab <| aL (k := 32) 35 [34] ?_
 refine aF Y U call25 O (cJ (iW hLiv11 hhd ck vR) (iA kk hd iv11 Liv11 3000 _ (bA (k := 3) U O) (da om hLiv11) (dF ck hk32 hhd (di exC 3000) hLiv11) om (U.keepb hk0))) fun a w48 Y U => nv Y <| yo (ax O O) <| yp O <| fun a Y => ab <| aR (k := 35) 38 [35, 36, 37] Y ?_
 refine bL 3 (Y.p13 0 1 2 3 5 7 13 155 156 157 158 159 160 O) U <| pl_m O <| pl_w (fun U => ap (U.g 8 O) O (isAgg50 _) (sizeOf50 _)) <| pl_w (fun U => ap (U.g 6 O) O (isAgg50 _) (sizeOf50 _)) fun a w49 Y U => ?_
 replace Y := Y.p11 0 1 2 3 5 7 13 160 161 162 163 O
 refine ab <| aL (k := 38) 42 [41] ?_
 refine aF Y U call30 O (cJ (kR ck (di exC 1500) (di exC 1200) hLiv5 hLiv7) (kp kk hd iv5 iv7 Liv5 Liv7 _ (bA (k := 9) U O) (bA (k := 7) U O) (da om hLiv5) (da om hLiv7) (dF ck hk32 hhd (di exC 1500) hLiv5) (dF ck hk32 hhd (di exC 1200) hLiv7) (U.keepb hk0))) fun a w50 Y U => nv Y <| yr ((bB O).asb (b' := true) O) <| yo (ax O O) <| yp O <| fun a Y => ab <| aR (k := 42) 45 [43, 44] Y ?_
 refine bL 3 (Y.p15 0 1 2 3 5 7 13 160 161 162 163 164 165 166 167 O) U <| pl_v (ac (v := pq w8.hz) O kr) <| pl_w (fun U => bS (ds := [jv hd.c, jv hd.n, sv hd.root, sv hd.tag]) (U.g 8 O) O (isAgg47 _) (sizeOf47 _) O) <| pl_w (fun U => ap (U.g 1 O) O (isAgg47 _) (sizeOf47 _)) fun a w51 Y U => ?_
 replace Y := Y.p9 0 1 2 3 5 7 167 169 170 O
 refine ab <| aL (k := 45) 48 [47] ?_
 refine nv Y <| yr ((oy O O kr (eqHd hd.c hd.n hd.root hd.tag hd.c hd.n hd.root hd.tag _)).asb (b' := true) sm) <| yo (ax O O) <| yq O <| fun a Y => ab <| aS <| G14 <| aa fun _ G15 => nv Y <| yo (ap (U.g 10 O) O (isAgg50 _) (sizeOf50 _)) <| yo (aW (v := .agg #[jv 320, jv hd.c, jv hd.n, sv hd.root, sv hd.tag, iv3]) O (by obtain ⟨_, _, _, eb0_⟩ := cO (bA (k := 11) U O).1; rw [eb0_]; kernel_rfl)) <| fun a Y => aE (E := 52) (sz := 6) O [[jv 320, jv hd.c, jv hd.n, sv hd.root, sv hd.tag, iv3]] kr sm O de de Y U fun a w52 Y U => wla Y O fun a Y => G15 ?_
 replace U := U.k11 32721 O
 refine aa fun _ G16 => aw (Y.p8 0 1 2 3 5 7 19 20 O) U call43 O (fG 1000 1 (.slice none 0 0) [] 349 1 300 _ ⟨fw _ _, fun r h => by cases h⟩ (fun r h => by cases h) (by rw [hkk]; exact kG hk32 de (yQ 1) de) (by rw [hkk]; exact lY.1) (U.keepb hk0)) fun a w53 Y U => wlm Y O fun a Y => aF Y U call43 O (fG 1000 1 (.slice none 0 0) [] 350 3 350 _ ⟨fw _ _, fun r h => by cases h⟩ (fun r h => by cases h) (by rw [hkk]; exact kG hk32 de (yQ 1) de) (by rw [hkk]; exact lY.2) (U.keepb hk0)) fun a w54 Y U => nv Y <| yo (ax O O) <| yp O <| yr (ay O) <| fun a Y => aF Y U call43 O (fG 1000 1 (.slice (some ⟨w51.hz, 0, none⟩) 1 1) [⟨320, hd, iv3, Liv3⟩] 320 2 320 _ ⟨(U.ow 0 O), fun r h => by rw [yT.1 h]; exact (bA (k := 8) U O)⟩ (fun r h => by rw [yT.1 h]; exact (da om hLiv3)) Bl (by rw [hkk]; exact (gD hk32 hhd hLiv3 iv3).1) (U.keepb hk0)) fun a w55 Y U => nv Y <| yo (ax O O) <| yp O <| yr (ay O) <| fun a Y => aF Y U call43 O (fG 1000 1 (.slice (some ⟨w51.hz, 0, none⟩) 1 1) [⟨320, hd, iv3, Liv3⟩] 319 1 300 _ ⟨(U.ow 0 O), fun r h => by rw [yT.1 h]; exact (bA (k := 8) U O)⟩ (fun r h => by rw [yT.1 h]; exact (da om hLiv3)) Bl (by rw [hkk]; exact (gD hk32 hhd hLiv3 iv3).2.1) (U.keepb hk0)) fun a w56 Y U => nv Y <| yo (ax O O) <| yp O <| yr (ay O) <| fun a Y => aF Y U call43 O (fG 1000 2 (.slice (some ⟨w51.hz, 0, none⟩) 1 1) [⟨320, hd, iv3, Liv3⟩] 349 1 300 _ ⟨(U.ow 0 O), fun r h => by rw [yT.1 h]; exact (bA (k := 8) U O)⟩ (fun r h => by rw [yT.1 h]; exact (da om hLiv3)) Bl (by rw [hkk]; exact (gD hk32 hhd hLiv3 iv3).2.2.1) (U.keepb hk0)) fun a w57 Y U => nv Y <| yo (ax O O) <| yp O <| yr (ay O) <| fun a Y => aF Y U call43 O (fG 1000 2 (.slice (some ⟨w51.hz, 0, none⟩) 1 1) [⟨320, hd, iv3, Liv3⟩] 350 3 350 _ ⟨(U.ow 0 O), fun r h => by rw [yT.1 h]; exact (bA (k := 8) U O)⟩ (fun r h => by rw [yT.1 h]; exact (da om hLiv3)) Bl (by rw [hkk]; exact (gD hk32 hhd hLiv3 iv3).2.2.2) (U.keepb hk0)) fun a w58 Y U => nv Y <| yo (ax O O) <| yp O <| yr (ap (U.g 3 O) O (isAgg50 _) (sizeOf50 _)) <| yr (aW (v := .agg #[jv 310, jv hd.c, jv hd.n, sv hd.root, sv hd.tag, iv7]) O (by obtain ⟨_, _, _, eb0_⟩ := cO (bA (k := 4) U O).1; rw [eb0_]; kernel_rfl)) <| fun a Y => ey Y ?_
 refine aE (E := 52) (sz := 6) O [[jv 310, jv hd.c, jv hd.n, sv hd.root, sv hd.tag, iv7]] kr sm O de de Y U fun a w59 Y U => aF Y U call43 O (fG 1200 1 (.slice (some ⟨w58.hz, 0, none⟩) 1 1) [⟨310, hd, iv7, Liv7⟩] 310 3 310 _ ⟨(U.ow 0 O), fun r h => by rw [yT.1 h]; exact (bA (k := 5) U O)⟩ (fun r h => by rw [yT.1 h]; exact (da om hLiv7)) Bl (by rw [hkk]; exact (sB hk32 hhd hLiv7 iv7)) (U.keepb hk0)) fun a w60 Y U => nv Y <| yo (ax O O) <| yq O <| fun a Y => G16 ?_
 replace Y := Y.p7 0 1 2 3 5 19 21 O
 replace U := U.k9 4076 O
 refine ah fun _ G17 => ?_
 have hla := dL hLiv5
 have hlo := dL hLiv3
 rw [ix1500] at hla
 rw [ix1000] at hlo
 simp only [yG, yJ] at hla hlo
 obtain ⟨hdt, hhdt⟩ : ∃ h, hdOf sha kk 3 [(Liv5.getD 0 Itw.z).m.e, (Liv3.getD 0 Itw.z).m.e] 2 = h := ⟨_, rfl⟩
 refine aH (aI fun w61 hxz => ?_)
 replace U := U.grow hxz
 refine aR (k := 0) 20 [17, 19] Y ?_
 replace Y := Y.p7 0 1 2 3 5 19 21 O
 refine eJ 18 19 16 [(12, 11, fun u => Value.agg #[jv 3, u]), (15, 14, fun u => u), (16, 15, fun u => tupAt u 0)] 50 [jv 0, jv 0, .string (⟨#[]⟩), .string (⟨#[]⟩), .slice none 0 0] (fun u => u.cells.toList) 20 [[], [], [1], [2], [3], [4], [], [6], [7], [8], [9], [5, 10], [11], [], [0, 12, 13, 11], [14], [15], [15], [], [16, 18]] (fun i => match i with | 0 => pv (sv kk) | 1 => pv (po w8.hz 4) | 2 => pv (iv5) | 3 => pv (slAddr iv5 (0 * 3)) | 4 => pv (slAddr iv5 (0 * 3 + 1)) | 5 => pv (sv ((Liv5.getD 0 Itw.z).m.e)) | 6 => pv (po w5.hz 4) | 7 => pv (iv3) | 8 => pv (slAddr iv3 (0 * 3)) | 9 => pv (slAddr iv3 (0 * 3 + 1)) | 10 => pv (sv ((Liv3.getD 0 Itw.z).m.e)) | 11 => pm (fun b : Nat => .slice (some ⟨b, 0, none⟩) 2 2) (fun b => [own (.slice (some ⟨b, 0, none⟩) 2 2) 9 1 [[sv ((Liv5.getD 0 Itw.z).m.e)], [sv ((Liv3.getD 0 Itw.z).m.e)]]]) (fun _ => True) | 12 => fun v E => (∃ sx12_ sy12_ sz12_, v = .agg #[jv 3, (.slice sx12_ sy12_ sz12_)]) ∧ E = [] | 13 => pm (fun b : Nat => .slice (some ⟨b, 0, none⟩) 2 2) (fun b => [own (.slice (some ⟨b, 0, none⟩) 2 2) 3 1 [[jv 0], [jv 1]]]) (fun _ => True) | 14 => pm (fun x : Value × List Itw => .tuple #[.agg #[jv hdt.c, jv hdt.n, sv hdt.root, sv hdt.tag, x.1], jv 0]) (fun x => [itsE x.1 x.2]) (fun x => itsM x.2 = showIs sha ([(Liv5.getD 0 Itw.z).m.e, (Liv3.getD 0 Itw.z).m.e]) 2 ([0, 1])) | 15 => fun v E => (∃ sa0 sn0 sc0, v = .tuple #[.agg #[jv hdt.c, jv hdt.n, sv hdt.root, sv hdt.tag, (.slice sa0 sn0 sc0)], jv 0]) ∧ E = [] | 16 => fun v E => (∃ sa0 sn0 sc0, v = .agg #[jv hdt.c, jv hdt.n, sv hdt.root, sv hdt.tag, (.slice sa0 sn0 sc0)]) ∧ E = [] | 17 => pv (jv 0) | 18 => fun v E => ∃ b, v = ptr b ∧ E = [] | 19 => fun v E => v = undef ∧ E = [] | _ => fun _ _ => False) Y (H := [itsE iv11 Liv11, itsE iv9 Liv9, itsE iv7 Liv7, blk w8.hz [jv hd.c, jv hd.n, sv hd.root, sv hd.tag, iv5] 50, itsE iv5 Liv5, blk w5.hz [jv hd.c, jv hd.n, sv hd.root, sv hd.tag, iv3] 50, itsE iv3 Liv3, blk w2.hz [jv 3, dv1] 32, own dv1 55 3 ((exC).map Cas.cells)]) U kr kr kr kr de de de de de de de kr (by intro x hx y hy h; simp only [yE, yI, y9] at hx hy; rcases hx with rfl | rfl | rfl <;> rcases hy with rfl | rfl | rfl <;> first | rfl | exact absurd h de) ?_ (fun _ _ h => h) ⟨O, O⟩ (fun _ _ => Iff.rfl) ?_ ?_ ?_ ?_ ?_
 ·intro i v E h
  match i, h with
  | 0, _ => exact by decide
  | 1, _ => exact by decide
  | 2, _ => exact by decide
  | 3, _ => exact by decide
  | 4, _ => exact by decide
  | 5, _ => exact by decide
  | 6, _ => exact by decide
  | 7, _ => exact by decide
  | 8, _ => exact by decide
  | 9, _ => exact by decide
  | 10, _ => exact by decide
  | 11, _ => exact by decide
  | 12, _ => exact by decide
  | 13, _ => exact by decide
  | 14, _ => exact by decide
  | 15, _ => exact by decide
  | 16, _ => exact by decide
  | 17, _ => exact by decide
  | 18, _ => exact by decide
  | 19, _ => exact by decide
  | i + 20, h => exact h.elim
 ·intro i hi hia hij hil e
  match i, hi, hia, hij, hil with
  | 0, _, _, _, _ =>
   intro hl9 w U
   exact OpV.g (ay O)
  | 1, _, _, _, _ =>
   intro hl9 w U
   exact OpV.g (ac (v := po w8.hz 4) O kr)
  | 2, _, _, _, _ =>
   rintro _ _ ⟨rfl, rfl⟩
   intro hl9 w U
   exact OpV.g (ld U 4 O O (isAgg48 _) O)
  | 3, _, _, _, _ =>
   rintro _ _ ⟨rfl, rfl⟩
   intro hl9 w U
   exact OpV.g ((aj (i := 0) (sT := 48) (bA (k := 5) U O).1 O O (runUnderlying48 _) (sizeOf110 _) om AR).as (v' := slAddr iv5 (0 * 3)) O)
  | 4, _, _, _, _ =>
   rintro _ _ ⟨rfl, rfl⟩
   intro hl9 w U
   exact OpV.g (cI (k := 0 * 3) (j := 1) (bA (k := 5) U O).1 (i := 0) AR O (fun _ _ => by kernel_rfl))
  | 5, _, _, _, _ =>
   rintro _ _ ⟨rfl, rfl⟩
   intro hl9 w U
   exact OpV.g (aB (u := sv ((Liv5.getD 0 Itw.z).m.e)) (i := 0) (j := 1) (bA (k := 5) U O).1 AR O (isAgg9 _) (by rw [bf Itw.z]; rfl))
  | 6, _, _, _, _ =>
   intro hl9 w U
   exact OpV.g (ac (v := po w5.hz 4) O kr)
  | 7, _, _, _, _ =>
   rintro _ _ ⟨rfl, rfl⟩
   intro hl9 w U
   exact OpV.g (ld U 6 O O (isAgg48 _) O)
  | 8, _, _, _, _ =>
   rintro _ _ ⟨rfl, rfl⟩
   intro hl9 w U
   exact OpV.g ((aj (i := 0) (sT := 48) (bA (k := 7) U O).1 O O (runUnderlying48 _) (sizeOf110 _) om AR).as (v' := slAddr iv3 (0 * 3)) O)
  | 9, _, _, _, _ =>
   rintro _ _ ⟨rfl, rfl⟩
   intro hl9 w U
   exact OpV.g (cI (k := 0 * 3) (j := 1) (bA (k := 7) U O).1 (i := 0) AR O (fun _ _ => by kernel_rfl))
  | 10, _, _, _, _ =>
   rintro _ _ ⟨rfl, rfl⟩
   intro hl9 w U
   exact OpV.g (aB (u := sv ((Liv3.getD 0 Itw.z).m.e)) (i := 0) (j := 1) (bA (k := 7) U O).1 AR O (isAgg9 _) (by rw [bf Itw.z]; rfl))
  | 11, _, _, _, _ =>
   rintro _ _ ⟨rfl, rfl⟩ _ _ ⟨rfl, rfl⟩
   intro hl9 w U
   exact bG (E := 9) (sz := 1) O [[sv ((Liv5.getD 0 Itw.z).m.e)], [sv ((Liv3.getD 0 Itw.z).m.e)]] (fun _ => by kernel_rfl) sm O de
  | 12, _, _, _, h => exact absurd de h
  | 13, _, _, _, _ =>
   intro hl9 w U
   exact bG (E := 3) (sz := 1) O [[jv 0], [jv 1]] (fun _ => by kernel_rfl) sm O de
  | 14, _, _, _, _ =>
   rintro _ _ ⟨rfl, rfl⟩ _ _ ⟨⟨sx12_, sy12_, sz12_, rfl⟩, rfl⟩ _ _ ⟨b15, rfl, -, rfl⟩ _ _ ⟨b14, rfl, -, rfl⟩
   intro hl9 w U
   have hz9 : sx12_ = some ⟨b14, 0, none⟩ ∧ sy12_ = 2 ∧ sz12_ = 2 := by simpa using hl9 (12, 11, fun u => Value.agg #[jv 3, u]) sm _ _ rfl rfl
   obtain ⟨rfl, rfl, rfl⟩ := hz9
   exact eS call26 O (jy kk 2 hdt (.slice (some ⟨b15, 0, none⟩) 2 2) ([0, 1]) 3 (.slice (some ⟨b14, 0, none⟩) 2 2) ([(Liv5.getD 0 Itw.z).m.e, (Liv3.getD 0 Itw.z).m.e]) _ (U.ow 1 O) (U.ow 0 O) hk32 (gU hLiv5 hLiv3) (zb 2) de de hhdt (U.keepb hk0))
  | 15, _, _, _, h => exact absurd de h
  | 16, _, _, _, h => exact absurd de h
  | 17, _, _, _, _ =>
   rintro _ _ ⟨⟨sa0, sn0, sc0, rfl⟩, rfl⟩
   intro hl9 w U
   exact OpV.g (ao O O)
  | 18, _, h, _, _ => exact absurd O h
  | 19, _, _, h, _ => exact absurd O h
  | i + 20, h, _, _, _ => exact absurd h om
 ·intro x hx e
  simp only [yE, yI, y9] at hx
  rcases hx with rfl | rfl | rfl
  ·rintro _ _ ⟨b14, rfl, -, rfl⟩
   intro w U
   exact OpV.hopv (OpV.g (aW (v := .agg #[jv 3, (.slice (some ⟨b14, 0, none⟩) 2 2)]) O kr)) ⟨⟨_, _, _, O⟩, O⟩
  ·rintro _ _ ⟨⟨iv16, Liv16⟩, rfl, hLiv16, rfl⟩
   intro w U
   obtain ⟨sa0, sn0, sc0, rfl⟩ := cO (bA (k := 0) U rfl).1
   exact OpV.hopv (OpV.g (ay O)) ⟨⟨_, _, _, O⟩, O⟩
  ·rintro _ _ ⟨⟨sa0, sn0, sc0, rfl⟩, rfl⟩
   intro w U
   exact OpV.hopv (OpV.g (ao O O)) ⟨⟨_, _, _, O⟩, O⟩
 ·exact fun Lv w => eq (zeroValue50 _)
 ·rintro _ _ ⟨⟨sa0, sn0, sc0, rfl⟩, rfl⟩ _ _ ⟨b13, rfl, rfl⟩
  intro b hb u hu w h
  have hb : some (ptr b13) = some (ptr b) := hb
  cases hb
  have hu : some (.agg #[jv hdt.c, jv hdt.n, sv hdt.root, sv hdt.tag, (.slice sa0 sn0 sc0)]) = some u := hu
  cases hu
  exact dE O O h (sizeOf50 _) O (lb O) O
 clear Y U
 rintro V bq hva hlk _ _ ⟨⟨rfl, rfl⟩, -⟩ _ _ ⟨⟨rfl, rfl⟩, -⟩ _ _ ⟨⟨rfl, rfl⟩, -⟩ _ _ ⟨⟨rfl, rfl⟩, -⟩ _ _ ⟨⟨rfl, rfl⟩, -⟩ _ _ ⟨⟨rfl, rfl⟩, -⟩ _ _ ⟨⟨rfl, rfl⟩, -⟩ _ _ ⟨⟨rfl, rfl⟩, -⟩ _ _ ⟨⟨rfl, rfl⟩, -⟩ _ _ ⟨⟨rfl, rfl⟩, -⟩ _ _ ⟨⟨rfl, rfl⟩, -⟩ _ _ ⟨⟨b14, rfl, -, rfl⟩, hv11_⟩ v12_ _ ⟨⟨-, rfl⟩, hv12_⟩ _ _ ⟨⟨b15, rfl, -, rfl⟩, -⟩ _ _ ⟨⟨⟨iv16, Liv16⟩, rfl, hLiv16, rfl⟩, hv14_⟩ v15_ _ ⟨⟨-, rfl⟩, hv15_⟩ v16_ _ ⟨⟨-, rfl⟩, hv16_⟩ _ _ ⟨⟨rfl, rfl⟩, -⟩ _ _ ⟨⟨b13, rfl, rfl⟩, hva9⟩ a w62 Y U
 obtain rfl : b13 = bq := fO (hva9.trans hva)
 obtain rfl : v12_ = .agg #[jv 3, (.slice (some ⟨b14, 0, none⟩) 2 2)] := hv12_.trans ((hlk 0 _ rfl).trans (yZ (fun u => Value.agg #[jv 3, u]) hv11_.symm))
 obtain rfl : v15_ = .tuple #[.agg #[jv hdt.c, jv hdt.n, sv hdt.root, sv hdt.tag, iv16], jv 0] := hv15_.trans ((hlk 1 _ rfl).trans (yZ (fun u => u) hv14_.symm))
 obtain rfl : v16_ = .agg #[jv hdt.c, jv hdt.n, sv hdt.root, sv hdt.tag, iv16] := hv16_.trans ((hlk 2 _ rfl).trans (yZ (fun u => tupAt u 0) hv15_.symm))
 rw [← hv16_] at U
 replace Y : Fr 243 [(203, _), (204, _), (205, _), (206, _), (207, _), (208, _), (209, _), (210, _), (211, _), (212, _), (213, _), (214, _), (215, _), (216, _), (217, _), (202, _), (218, _), (219, _), (22, _), (0, _), (1, _), (2, _), (3, _), (5, _), (19, _), (21, _)] [] a := Y
 try dsimp only at U
 replace U := U.n13 O
 clear hva9 hva hlk hv16_ hv15_ hv12_ hv11_ hv14_
 refine ab <| aL (k := 20) 21 [20] ?_
 refine wla Y O fun a Y => ab <| aS <| G17 ?_
 replace U := U.k9 7548 O
 refine aa fun _ G18 => nv (Y.p7 0 1 2 19 21 22 23 O) <| yp O <| yp O <| yr (ay O) <| yo (ax O O) <| yp O <| yr (ay O) <| yr ((v_eq O O).asb (b' := true) O) <| yo (ax O O) <| yp O <| yr (ay O) <| yr (ap (U.g 1 O) O (isAgg50 _) (sizeOf50 _)) <| yr (ap (U.g 1 O) O (isAgg50 _) (sizeOf50 _)) <| fun a Y => aF Y U call30 O (cJ (sK hLiv5 hLiv3 hLiv16) (kp kk hdt iv16 iv16 Liv16 Liv16 _ (bA (k := 0) U O) (bA (k := 0) U O) (da de hLiv16) (da de hLiv16) (mA (gU hLiv5 hLiv3) (zb 2) hk32 hhdt de hLiv16) (mA (gU hLiv5 hLiv3) (zb 2) hk32 hhdt de hLiv16) (U.keepb hk0))) fun a w63 Y U => nv Y <| yo (ax O O) <| yp O <| yr (ap (U.g 7 O) O (isAgg32 _) (sizeOf32 _)) <| fun a Y => aF Y U call31 O (cJ ck (iE 3 dv1 exC _ (U.ow 8 O))) fun a w64 Y U => nv Y <| yo (ax O O) <| yp O <| yr (aW (v := .agg #[jv 8, .slice none 0 0]) O kr) <| fun a Y => aF Y U call31 O (cJ (show docOk 8 [] = false from O) (iE 8 (.slice none 0 0) [] _ (fw _ _))) fun a w65 Y U => nv Y <| yr ((bB O).asb (b' := true) O) <| yo (ax O O) <| yq O <| fun a Y => G18 ?_
 replace Y := Y.p1 0 O
 replace U := U.k7 381 O
 refine aq <| am Y results11 (ae O ag) ?_
 exact ⟨by rfl, U.ext⟩
end Go.Proofs.YtliklcmddmpdfaaGreatDoor
namespace Go.PW
open Go.RowKit Go.ChangeShapes Go.WideShapes Go.ChangeAt
section
variable {H : Type} {enc : TypeId × Value → H} {P : Program} {w : World} {base : Nat} {spare : Nat → Bool} {held : Bool} {fuel : Nat} {t e : TypeId} {cs : List Value} {x : DataW H × List MemPlace} {α : Type}
theorem tS {v : Value} (sz : Nat) (ht : P.underlying t = some (.slice e)) (hc : P.cellsOf e = sz) (hs : 0 < sz) (hby : 0 < P.bytesOf e) (hw : Wt P t x.1) (h : DataW.trod enc P w base spare held fuel t [v] = some x) :
  ∃ els : List (List Value), SlE w v sz els ∧ els.length * P.bytesOf e ≤ 140737488355328 ∧ (∀ d ∈ els, d.length = sz) ∧ ∀ i (hi : i < els.length), ∃ n y, DataW.trod enc P w base spare held n e els[i] = some y ∧ Wt P e y.1 := by
 rcases DataW.trod_slice ht h with ⟨h0, _⟩ | ⟨a, len, cap, elems, rest, n, _, hv, hx, hb, hl, hm, hlen, hel, _, _⟩
 ·cases h0
  exact ⟨[], .inl (fw _ _), by simp, by simp, fun i hi => absurd hi sm⟩
 ·cases hv
  have hwl : elems.length * P.bytesOf e ≤ 140737488355328 := by
   have h1 := hw ((elems.length + rest.length) * P.bytesOf e) (by rw [hx]; simp [DataW.weights, ht])
   have h2 := reachBytes_lt
   have h3 : elems.length * P.bytesOf e ≤ (elems.length + rest.length) * P.bytesOf e := Nat.mul_le_mul om (zb _)
   omega
  by_cases h0 : len = 0
  ·subst h0
   exact ⟨[], .inr ⟨O, a, cap, O⟩, by simp, by simp, fun i hi => absurd hi sm⟩
  obtain ⟨b, off, spot⟩ := a
  have hfirst : w.cell? ⟨b, off, spot⟩ ≠ none := by
   have h1 := hel 0 om
   rw [yF om] at h1
   cases hcs : w.cells? base ((⟨b, off, spot⟩ : Addr).add (0 * P.cellsOf e)) (P.cellsOf e) with
   | none => rw [hcs] at h1; simp at h1
   | some ds =>
    obtain ⟨_, hl1, hc1⟩ := World.cells?_some hcs
    have h2 := hc1 0 om
    rw [Nat.zero_mul, show ((⟨b, off, spot⟩ : Addr).add 0).add 0 = ⟨b, off, spot⟩ from rfl, yF om] at h2
    rw [h2]; simp
  have hsp : spot = none ∧ b < w.heap.size := by
   unfold World.cell? at hfirst
   cases hh : w.heap[b]? with
   | none => rw [hh] at hfirst; exact absurd rfl hfirst
   | some o =>
    refine ⟨?_, (yK.1 hh).1⟩
    rw [hh] at hfirst
    cases spot with
    | none => rfl
    | some s => cases o <;> exact absurd rfl hfirst
  obtain ⟨rfl, hlt⟩ := hsp
  have hwe : ∀ y ∈ elems, Wt P e y.1 := by
   intro y hy n hn
   refine hw n ?_
   rw [hx]
   simp only [DataW.weights, ht, yE, zC]
   exact .inr (.inl (tL (zf.2 ⟨y, hy, O⟩) n hn))
  have each : ∀ i, i < len → ∃ ds : List Value, (ds.length = sz ∧ ∀ j v, ds[j]? = some v → w.cell? ⟨b, off + i * sz + j, none⟩ = some v) ∧ ∃ n y, DataW.trod enc P w base spare held n e ds = some y ∧ Wt P e y.1 := by
   intro i hi
   have h1 := hel i hi
   rw [yF om, hc, cR] at h1
   cases hcs : w.cells? base ⟨b, off + i * sz, none⟩ sz with
   | none => rw [hcs] at h1; simp at h1
   | some ds =>
    rw [hcs] at h1
    simp only [Ac] at h1
    exact ⟨ds, jJ hcs, n, _, h1, hwe _ (zk _)⟩
  obtain ⟨els, hel2, hp⟩ := gt len each
  have h1 : ∀ d ∈ els, d.length = sz := by
   intro d hd
   obtain ⟨i, hi, rfl⟩ := zq hd
   exact (hp i hi).1.1
  have hbg : elems.length ≤ big := by
   have h3 : elems.length * 1 ≤ elems.length * P.bytesOf e := Nat.mul_le_mul (zb _) hby
   unfold big; omega
  refine ⟨els, .inl ⟨h1, by omega, .inr ⟨b, off, cap, by rw [hel2], by omega, hlt, ?_⟩⟩, by rw [hel2, ← hlen]; exact hwl, h1, fun i hi => (hp i hi).2⟩
  intro j v hj
  have hjl := (y6.1 hj).1
  rw [eg h1] at hjl
  have hi : j / sz < els.length := Nat.div_lt_of_lt_mul (by rw [Nat.mul_comm]; exact hjl)
  have := (hp (j / sz) hi).1.2 (j % sz) v (by
   rw [← lz h1 hi, zw, yR (Nat.mod_lt _ hs), zH, Nat.div_add_mod' j sz]
   exact hj)
  rw [Nat.add_assoc, Nat.div_add_mod' j sz] at this
  exact this
theorem wg {els : List (List Value)} {f : α → List Value} {q : α → Prop} (hp : ∀ i (hi : i < els.length), ∃ a, els[i] = f a ∧ q a) : ∃ xs : List α, els = xs.map f ∧ ∀ a ∈ xs, q a := by
 obtain ⟨xs, hl, hx⟩ := gt (p := fun i a => els[i]? = some (f a) ∧ q a) els.length fun i hi => by
  obtain ⟨a, h1, h2⟩ := hp i hi
  exact ⟨a, by rw [yF hi, h1], h2⟩
 refine ⟨xs, ?_, fun a ha => ?_⟩
 ·refine Ab (by simp [hl]) fun i h1 h2 => ?_
  have := (hx i om).1
  rw [yF h1] at this
  simpa using this
 ·obtain ⟨i, hi, rfl⟩ := zq ha
  exact (hx i hi).2
end
end Go.PW
namespace Go.PW
open Go.RowKit Go.ChangeShapes Go.WideShapes Go.ChangeAt
section
variable {H : Type} {enc : TypeId × Value → H}
theorem nN {a : Assume} {C : Checked} {os : Os} {f : FuncId} {fn : Func} {s : ChangeSpec} {conds : List PathCond} {apart fresh handsOn again : Bool} {X : World → Array Value → Prop}
  (hX : ∀ (w w' : World) (args : Array Value), w.heap = w'.heap → X w args → X w' args)
  (own : ownKnob C.prog.godebug = none) (started : os.Started) (noInit : C.prog.inits.idxOf? f = none) (hfn : C.prog.funcs[f]? = some fn)
  (witness : ∃ (w : World) (tape : Tape) (i : Input), w.os = os ∧ (w.forCall tape i).Shaped C.prog ∧ i.vars = [] ∧ Input.okWide C.prog (w.forCall tape i) .any w.heap.size f i ∧
   ((s.pre enc C.prog fn conds apart (w.forCall tape i).memory i.args ∧ X (w.forCall tape i).memory i.args) ∧ sizedMet enc C.prog fn (OpenSpec.ofChange s) apart (w.forCall tape i).memory i.args) ∧ a.holds C.prog (lone (Frame.enter C.prog f i.args .normal) [] (w.forCall tape i)))
  (contract : ∀ (W : World) (base : Nat) (args : Array Value) (ds gs : List (DataW H)) (before : List MemPlace),
   (∀ (j : Nat) t v, fn.params[j]? = some t → args[j]? = some v → Value.okWide C.prog W .any base t v) →
   DataW.Whole enc C.prog fn.params.toList s.vars apart W args.toList ds gs before →
   conds.all (PathCond.test C.prog ⟨fn.params.toList, ds, s.plain.varTypes C.prog, gs⟩) = true →
   (DataW.weightsEach C.prog (fn.params.toList ++ s.plain.varTypes C.prog) (ds ++ gs)).all (· ≤ reachBytes) = true → X W args → W.ShapedOpen C.prog →
   Calls C.prog f args W fun e W' => ∃ v, e = .returned v ∧ s.post enc C.prog fn apart fresh handsOn again W args v W') :
  ReturnsInHanded a C os f .any (fun w args => (s.pre enc C.prog fn conds apart w args ∧ X w args) ∧ sizedMet enc C.prog fn (OpenSpec.ofChange s) apart w args) (s.post enc C.prog fn apart fresh handsOn again) := by
 refine returnsInHanded_of_calls own started noInit witness ?_
 intro w tape i _ hsh _ hok hpre _
 obtain ⟨_, _, _, fn', hfn', _, _, _, _, hval⟩ := hok
 have e : fn' = fn := zv (hfn'.symm.trans hfn)
 subst e
 obtain ⟨⟨⟨ds, gs, before, hw, hc⟩, hx⟩, hz⟩ := hpre
 have hw' := DataW.Whole.of_heap (w' := w.forCall tape i) rfx hw
 refine (contract (w.forCall tape i) w.heap.size i.args ds gs before hval hw' hc (hz.weights hw) (hX _ _ _ rfx hx) hsh).mono fun e W' ⟨v, he, hp⟩ => ?_
 subst he
 exact ChangeSpec.post_blind hp
end
section
variable {H : Type} {enc : TypeId × Value → H} {P : Program} {w : World} {base : Nat} {spare : Nat → Bool} {held : Bool} {fuel : Nat} {t e : TypeId} {cs : List Value} {x : DataW H × List MemPlace}
theorem pW {n : Nat} {ks : List Int} (ht : P.underlying t = some (.array n e)) (he : P.underlying e = some (.int .u32)) (hc : P.cellsOf e = 1) (hct : P.cellsOf t = n) (h : DataW.trod enc P w base spare held fuel t cs = some x) (hx : x.1 = .agg (ks.map fun k => .lit (.int .u32 k))) : cs = ks.map (fun k => .int .u32 k) := by
 obtain ⟨xs, m, rfl, rfl, hlen, hxs, hel⟩ := DataW.trod_array ht h
 simp only [DataW.agg.injEq] at hx
 have hl : ks.length = n := by
  have h := yZ List.length hx
  rw [yu, yu] at h
  omega
 refine Ab (by rw [hlen, hct, yu, hl]) fun i h1 h2 => ?_
 have hi : i < n := by rw [← hct, ← hlen]; exact h1
 have hi2 : i < ks.length := by omega
 have h3 := hel i hi
 rw [hc, Nat.mul_one, yF om] at h3
 obtain ⟨k, e1, e2, _⟩ := DataW.trod_int he h3
 rw [zm h1, List.take_succ_cons] at e1
 injection e1 with e1 _
 have h4 : (xs.map (·.1))[i]? = (ks.map fun k => DataW.lit (H := H) (.int .u32 k))[i]? := by rw [hx]
 rw [zD, zD, yF om, yF hi2, Option.map_some, Option.map_some, e2] at h4
 simp only [Option.some.injEq, DataW.lit.injEq, Lit.int.injEq, true_and] at h4
 rw [e1, zY, h4]
end
end Go.PW
namespace Go.Proofs.YtliklcmddmpdfaaGreatDoor
open Go.RowKit Go.PW _root_.Go.Proofs.Tryz
open Go.ChangeShapes Go.WideShapes Go.ChangeAt Go.RowKit Go.PW
theorem ownD : ownKnob Tryz.prog.godebug = none := by kernel_rfl
theorem gm : laidOutB Tryz.prog = true := by kernel_rfl
def laid1 : List (String × DataW Unit) := [("dialtone/digest.round", Rows.laid_dialtone_digest_round)]
theorem gRound : Tryz.prog.globalNamed "dialtone/digest.round" = some 0 := by kernel_rfl
theorem tRound : (Tryz.prog.globals[0]?).map (·.type) = some 258 := by kernel_rfl
theorem xm : (Rows.laid_dialtone_digest_round : DataW Unit) = .agg ((kOf.map fun k => (k.toNat : Int)).map fun k => .lit (.int .u32 k)) := by kernel_rfl
theorem t8 (os : Os) (args : Array Value) : laidMetH Tryz.prog laid1 ((World.doorLaid Tryz.prog 4000 os).forCall (fun _ _ => 0) ⟨#[], args, []⟩).memory :=
 laidMetH_of_parts3 (fuel := 8) (laidMet_of_run' 8 kr kr) kr kr
theorem qi (os : Os) (args : Array Value) : ((World.doorLaid Tryz.prog 4000 os).forCall (fun _ _ => 0) ⟨#[], args, []⟩).Shaped Tryz.prog := World.shaped_of_RefB kr kr
theorem ye {W : World} (h : laidMetH Tryz.prog laid1 W) (hs : W.ShapedOpen Tryz.prog) : (blk 0 (kOf.map wv) 258).ok W := by
 rw [MakeChecks.laidMetH_plain _ _ _ kr] at h
 obtain ⟨ps, ⟨g0, t0, cs0, f0, p0, q0, hg0, ht0, hv0, hd0, _, _⟩, _, _⟩ := h
 obtain rfl := zv (gRound.symm.trans hg0)
 obtain rfl := zv (tRound.symm.trans ht0)
 obtain ⟨cs, hcs, _, _⟩ := hs.1 0 (List.replicate 64 (.int .u32 0)).toArray 258 (of_decide_eq_true kr) kr
 have e : cs0 = cs := by
  have := hv0
  simp only [World.var?, gRound, Ac, hcs, Option.some.injEq] at this
  exact this.symm
 subst e
 have hw := pW (ks := kOf.map fun k => (k.toNat : Int)) underlying258 underlying206 kr kr hd0 xm
 have hl : cs0 = (kOf.map wv).toArray := by
  apply Array.toList_inj.1
  rw [hw, zQ]; rfl
 show W.heap[0]? = some (.cells (kOf.map wv).toArray 258)
 rw [← hl]; exact hcs
open Go.ChangeShapes Go.WideShapes Go.ChangeAt
section
variable {H : Type} {enc : TypeId × Value → H} {W : World} {base b0 : Nat} {sp : Nat → Bool} {hd : Bool} {v : Value} {d : DataW H} {ps : List MemPlace} {r : Reach}
theorem pn {n : Int} (h : Go.PW.i64 n) : i64 n := h
theorem len4 {α : Type} {l : List α} (h : l.length = 4) : ∃ a0 a1 a2 a3, l = [a0, a1, a2, a3] := by
 match l, h with
 | [a0, a1, a2, a3], _ => exact ⟨_, _, _, _, rfl⟩
theorem tF {fuel : Nat} {cs : List Value} {x : DataW H × List MemPlace} (hl : cs.length = 4) (hw : Wt Tryz.prog 26 x.1) (h : DataW.trod enc Tryz.prog W base sp hd fuel 26 cs = some x) :
  ∃ (n0 : Int) (v1 : Value) (v2 : Value) (v3 : Value), cs = [jv n0, v1, v2, v3] ∧ (i64 n0) ∧ (∃ n z, DataW.trod enc Tryz.prog W base sp hd n 22 [v1] = some z ∧ Wt Tryz.prog 22 z.1) ∧ (∃ n z, DataW.trod enc Tryz.prog W base sp hd n 23 [v2] = some z ∧ Wt Tryz.prog 23 z.1) ∧ (∃ n z, DataW.trod enc Tryz.prog W base sp hd n 24 [v3] = some z ∧ Wt Tryz.prog 24 z.1) := by
 obtain ⟨c0, c1, c2, c3, rfl⟩ := len4 hl
 obtain ⟨m0, z0, h0, w0⟩ := dg 0 _ underlying26 hw h rfl
 have k0 : Tryz.prog.cellsOf 3 = 1 := by kernel_rfl
 replace h0 : DataW.trod enc Tryz.prog W base sp hd m0 3 [c0] = some z0 := by rw [show [c0] = ([c0, c1, c2, c3].drop 0).take (Tryz.prog.cellsOf 3) from by rw [k0]; rfl]; exact h0
 obtain ⟨m1, z1, h1, w1⟩ := dg 1 _ underlying26 hw h rfl
 have k1 : Tryz.prog.cellsOf 22 = 1 := by kernel_rfl
 replace h1 : DataW.trod enc Tryz.prog W base sp hd m1 22 [c1] = some z1 := by rw [show [c1] = ([c0, c1, c2, c3].drop 1).take (Tryz.prog.cellsOf 22) from by rw [k1]; rfl]; exact h1
 obtain ⟨m2, z2, h2, w2⟩ := dg 2 _ underlying26 hw h rfl
 have k2 : Tryz.prog.cellsOf 23 = 1 := by kernel_rfl
 replace h2 : DataW.trod enc Tryz.prog W base sp hd m2 23 [c2] = some z2 := by rw [show [c2] = ([c0, c1, c2, c3].drop 2).take (Tryz.prog.cellsOf 23) from by rw [k2]; rfl]; exact h2
 obtain ⟨m3, z3, h3, w3⟩ := dg 3 _ underlying26 hw h rfl
 have k3 : Tryz.prog.cellsOf 24 = 1 := by kernel_rfl
 replace h3 : DataW.trod enc Tryz.prog W base sp hd m3 24 [c3] = some z3 := by rw [show [c3] = ([c0, c1, c2, c3].drop 3).take (Tryz.prog.cellsOf 24) from by rw [k3]; rfl]; exact h3
 obtain ⟨n0, e0, f0⟩ := fA underlying3 h0
 obtain rfl : c0 = jv n0 := by simpa using e0
 obtain ⟨v1, e1⟩ : ∃ q, q = c1 := ⟨_, rfl⟩
 subst e1
 obtain ⟨v2, e2⟩ : ∃ q, q = c2 := ⟨_, rfl⟩
 subst e2
 obtain ⟨v3, e3⟩ : ∃ q, q = c3 := ⟨_, rfl⟩
 subst e3
 exact ⟨n0, v1, v2, v3, O, f0, ⟨m1, z1, h1, w1⟩, ⟨m2, z2, h2, w2⟩, ⟨m3, z3, h3, w3⟩⟩
theorem len2 {α : Type} {l : List α} (h : l.length = 2) : ∃ a0 a1, l = [a0, a1] := by
 match l, h with
 | [a0, a1], _ => exact ⟨_, _, rfl⟩
theorem kB {fuel : Nat} {cs : List Value} {x : DataW H × List MemPlace} (hl : cs.length = 2) (hw : Wt Tryz.prog 63 x.1) (h : DataW.trod enc Tryz.prog W base sp hd fuel 63 cs = some x) :
  ∃ (n0 : Int) (n1 : Int), cs = [jv n0, jv n1] ∧ (i64 n0) ∧ (i64 n1) := by
 obtain ⟨zs, hz, he, hy⟩ := jo 2 underlying63 underlying3 kr h hl
 obtain ⟨n0, n1, rfl⟩ := len2 hz
 exact ⟨n0, n1, he, hy n0 sm, hy n1 sm⟩
theorem rO {fuel : Nat} {v : Value} {x : DataW H × List MemPlace} (hok : Cell.okWide Tryz.prog W r b0 22 v) (hw : Wt Tryz.prog 22 x.1) (h : DataW.trod enc Tryz.prog W base sp hd fuel 22 [v] = some x) :
  ∃ xs : List Pr2, SlAt W v 2 (xs.map Pr2.cells) ∧ ∀ a ∈ xs, a.wt := by
 obtain ⟨els, h1, h2⟩ := mX 2 underlying22 kr de (of_decide_eq_true kr) hok hw h
 exact qk (f := Pr2.cells) (q := fun a => a.wt) h1 fun i hi => by
  obtain ⟨n, y, hy, hwy⟩ := h2 i hi
  obtain ⟨n0, n1, he, hf⟩ := kB (h1.1 _ (zk hi)) hwy hy
  exact ⟨⟨n0, n1⟩, he, hf⟩
theorem len8 {α : Type} {l : List α} (h : l.length = 8) : ∃ a0 a1 a2 a3 a4 a5 a6 a7, l = [a0, a1, a2, a3, a4, a5, a6, a7] := by
 match l, h with
 | [a0, a1, a2, a3, a4, a5, a6, a7], _ => exact ⟨_, _, _, _, _, _, _, _, rfl⟩
theorem vh {fuel : Nat} {cs : List Value} {x : DataW H × List MemPlace} (hl : cs.length = 8) (hw : Wt Tryz.prog 84 x.1) (h : DataW.trod enc Tryz.prog W base sp hd fuel 84 cs = some x) :
  ∃ (n0 : Int) (n1 : Int) (n2 : Int) (n3 : Int) (n4 : Int) (n5 : Int) (n6 : Int) (v7 : Value), cs = [jv n0, jv n1, jv n2, jv n3, jv n4, jv n5, jv n6, v7] ∧ (i64 n0) ∧ (i64 n1) ∧ (i64 n2) ∧ (i64 n3) ∧ (i64 n4) ∧ (i64 n5) ∧ (i64 n6) ∧ (∃ n z, DataW.trod enc Tryz.prog W base sp hd n 82 [v7] = some z ∧ Wt Tryz.prog 82 z.1) := by
 obtain ⟨c0, c1, c2, c3, c4, c5, c6, c7, rfl⟩ := len8 hl
 obtain ⟨m0, z0, h0, w0⟩ := dg 0 _ underlying84 hw h rfl
 have k0 : Tryz.prog.cellsOf 3 = 1 := by kernel_rfl
 replace h0 : DataW.trod enc Tryz.prog W base sp hd m0 3 [c0] = some z0 := by rw [show [c0] = ([c0, c1, c2, c3, c4, c5, c6, c7].drop 0).take (Tryz.prog.cellsOf 3) from by rw [k0]; rfl]; exact h0
 obtain ⟨m1, z1, h1, w1⟩ := dg 1 _ underlying84 hw h rfl
 have k1 : Tryz.prog.cellsOf 63 = 2 := by kernel_rfl
 replace h1 : DataW.trod enc Tryz.prog W base sp hd m1 63 [c1, c2] = some z1 := by rw [show [c1, c2] = ([c0, c1, c2, c3, c4, c5, c6, c7].drop 1).take (Tryz.prog.cellsOf 63) from by rw [k1]; rfl]; exact h1
 obtain ⟨m2, z2, h2, w2⟩ := dg 2 _ underlying84 hw h rfl
 have k2 : Tryz.prog.cellsOf 63 = 2 := by kernel_rfl
 replace h2 : DataW.trod enc Tryz.prog W base sp hd m2 63 [c3, c4] = some z2 := by rw [show [c3, c4] = ([c0, c1, c2, c3, c4, c5, c6, c7].drop 3).take (Tryz.prog.cellsOf 63) from by rw [k2]; rfl]; exact h2
 obtain ⟨m3, z3, h3, w3⟩ := dg 3 _ underlying84 hw h rfl
 have k3 : Tryz.prog.cellsOf 3 = 1 := by kernel_rfl
 replace h3 : DataW.trod enc Tryz.prog W base sp hd m3 3 [c5] = some z3 := by rw [show [c5] = ([c0, c1, c2, c3, c4, c5, c6, c7].drop 5).take (Tryz.prog.cellsOf 3) from by rw [k3]; rfl]; exact h3
 obtain ⟨m4, z4, h4, w4⟩ := dg 4 _ underlying84 hw h rfl
 have k4 : Tryz.prog.cellsOf 3 = 1 := by kernel_rfl
 replace h4 : DataW.trod enc Tryz.prog W base sp hd m4 3 [c6] = some z4 := by rw [show [c6] = ([c0, c1, c2, c3, c4, c5, c6, c7].drop 6).take (Tryz.prog.cellsOf 3) from by rw [k4]; rfl]; exact h4
 obtain ⟨m5, z5, h5, w5⟩ := dg 5 _ underlying84 hw h rfl
 have k5 : Tryz.prog.cellsOf 82 = 1 := by kernel_rfl
 replace h5 : DataW.trod enc Tryz.prog W base sp hd m5 82 [c7] = some z5 := by rw [show [c7] = ([c0, c1, c2, c3, c4, c5, c6, c7].drop 7).take (Tryz.prog.cellsOf 82) from by rw [k5]; rfl]; exact h5
 obtain ⟨n0, e0, f0⟩ := fA underlying3 h0
 obtain rfl : c0 = jv n0 := by simpa using e0
 obtain ⟨n1, n2, e1, f1_0, f1_1⟩ := kB rfl w1 h1
 simp only [List.cons.injEq, and_true] at e1
 obtain ⟨rfl, rfl⟩ := e1
 obtain ⟨n3, n4, e2, f2_0, f2_1⟩ := kB rfl w2 h2
 simp only [List.cons.injEq, and_true] at e2
 obtain ⟨rfl, rfl⟩ := e2
 obtain ⟨n5, e3, f3⟩ := fA underlying3 h3
 obtain rfl : c5 = jv n5 := by simpa using e3
 obtain ⟨n6, e4, f4⟩ := fA underlying3 h4
 obtain rfl : c6 = jv n6 := by simpa using e4
 obtain ⟨v7, e5⟩ : ∃ q, q = c7 := ⟨_, rfl⟩
 subst e5
 exact ⟨n0, n1, n2, n3, n4, n5, n6, v7, O, f0, f1_0, f1_1, f2_0, f2_1, f3, f4, ⟨m5, z5, h5, w5⟩⟩
theorem len5 {α : Type} {l : List α} (h : l.length = 5) : ∃ a0 a1 a2 a3 a4, l = [a0, a1, a2, a3, a4] := by
 match l, h with
 | [a0, a1, a2, a3, a4], _ => exact ⟨_, _, _, _, _, rfl⟩
theorem rE {fuel : Nat} {cs : List Value} {x : DataW H × List MemPlace} (hl : cs.length = 5) (hw : Wt Tryz.prog 142 x.1) (h : DataW.trod enc Tryz.prog W base sp hd fuel 142 cs = some x) :
  ∃ (n0 : Int) (n1 : Int) (n2 : Int) (n3 : Int) (n4 : Int), cs = [jv n0, jv n1, jv n2, jv n3, jv n4] ∧ (i64 n0) ∧ (i64 n1) ∧ (i64 n2) ∧ (i64 n3) ∧ (i64 n4) := by
 obtain ⟨zs, hz, he, hy⟩ := jo 5 underlying142 underlying3 kr h hl
 obtain ⟨n0, n1, n2, n3, n4, rfl⟩ := len5 hz
 exact ⟨n0, n1, n2, n3, n4, he, hy n0 sm, hy n1 sm, hy n2 sm, hy n3 sm, hy n4 sm⟩
theorem vz {fuel : Nat} {v : Value} {x : DataW H × List MemPlace} (hw : Wt Tryz.prog 82 x.1) (h : DataW.trod enc Tryz.prog W base sp hd fuel 82 [v] = some x) :
  ∃ ys : List Cin, SlE W v 5 (ys.map Cin.cells) ∧ (∀ y ∈ ys, y.wt) ∧ ys.length ≤ 3518437208883 := by
 obtain ⟨els, h1, h2, h3, h4⟩ := tS 5 underlying82 kr de (of_decide_eq_true kr) hw h
 obtain ⟨ys, rfl, hq⟩ := wg (els := els) (f := Cin.cells) (q := Cin.wt) fun i hi => by
  obtain ⟨n, y, hy, hwy⟩ := h4 i hi
  obtain ⟨n0, n1, n2, n3, n4, he, hf⟩ := rE (h3 _ (zk hi)) hwy hy
  exact ⟨⟨n0, n1, n2, n3, n4⟩, he, hf⟩
 refine ⟨ys, h1, hq, ?_⟩
 rw [yu, show Tryz.prog.bytesOf 142 = 40 from by kernel_rfl] at h2
 omega
theorem rW {fuel : Nat} {v : Value} {x : DataW H × List MemPlace} (hok : Cell.okWide Tryz.prog W r b0 23 v) (hw : Wt Tryz.prog 23 x.1) (h : DataW.trod enc Tryz.prog W base sp hd fuel 23 [v] = some x) :
  ∃ xs : List Nin, SlAt W v 8 (xs.map Nin.cells) ∧ ∀ a ∈ xs, a.wt W := by
 obtain ⟨els, h1, h2⟩ := mX 8 underlying23 kr de (of_decide_eq_true kr) hok hw h
 exact qk (f := Nin.cells) (q := fun a => a.wt W) h1 fun i hi => by
  obtain ⟨n, y, hy, hwy⟩ := h2 i hi
  obtain ⟨n0, n1, n2, n3, n4, n5, n6, v7, he, f0, f1, f2, f3, f4, f5, f6, n9, z, hz, hwz⟩ := vh (h1.1 _ (zk hi)) hwy hy
  obtain ⟨ys, g1, g2, g3⟩ := vz hwz hz
  exact ⟨⟨n0, n1, n2, n3, n4, n5, n6, v7, ys⟩, he, ⟨f0, f1, f2, f3, f4, f5, f6⟩, g1, g2, g3⟩
theorem sG {fuel : Nat} {v : Value} {x : DataW H × List MemPlace} (hok : Cell.okWide Tryz.prog W r b0 24 v) (hw : Wt Tryz.prog 24 x.1) (h : DataW.trod enc Tryz.prog W base sp hd fuel 24 [v] = some x) :
  ∃ xs : List Int, SlAt W v 1 (xs.map (fun z : Int => [jv z])) ∧ ∀ a ∈ xs, i64 a := by
 obtain ⟨els, h1, h2⟩ := mX 1 underlying24 kr de (of_decide_eq_true kr) hok hw h
 exact qk (f := fun z : Int => [jv z]) (q := fun a => i64 a) h1 fun i hi => by
  obtain ⟨n, y, hy, hwy⟩ := h2 i hi
  obtain ⟨n0, he, f0⟩ := fA underlying3 hy
  exact ⟨n0, he, f0⟩
theorem pR (hval : Value.okWide Tryz.prog W r b0 26 v) (hw : Wt Tryz.prog 26 d) (hd0 : DataW.Trod enc Tryz.prog W base sp hd 26 v d ps) :
  ∃ (n0 : Int) (v1 : Value) (xv1 : List Pr2) (v2 : Value) (xv2 : List Nin) (v3 : Value) (xv3 : List Int), v = .agg #[jv n0, v1, v2, v3] ∧ (i64 n0) ∧ (SlAt W v1 2 (xv1.map Pr2.cells)) ∧ (∀ a ∈ xv1, a.wt) ∧ (SlAt W v2 8 (xv2.map Nin.cells)) ∧ (∀ a ∈ xv2, a.wt W) ∧ (SlAt W v3 1 (xv3.map (fun z : Int => [jv z]))) ∧ (∀ a ∈ xv3, i64 a) := by
 obtain ⟨csA, rfl, hsz, hrow⟩ := jG kr hval
 obtain ⟨fuel, hf⟩ := hd0
 have hc : Tryz.prog.cellsOf 26 = 4 := by kernel_rfl
 obtain ⟨n0, v1, v2, v3, he, g0, g1, g2, g3⟩ := tF (cs := csA.toList) (by rw [zX, hsz, hc]) hw hf
 obtain rfl : csA = #[jv n0, v1, v2, v3] := by
  have he2 : csA.toList = [jv n0, v1, v2, v3] := he
  cases csA; simp only at he2; rw [he2]
 obtain ⟨n1_, z1_, h1_, w1_⟩ := g1
 obtain ⟨xv1, k1_, q1_⟩ := rO (ln (i := 1) (ts := [3, 22, 23, 24]) kr rfl hrow rfl) w1_ h1_
 obtain ⟨n2_, z2_, h2_, w2_⟩ := g2
 obtain ⟨xv2, k2_, q2_⟩ := rW (ln (i := 2) (ts := [3, 22, 23, 24]) kr rfl hrow rfl) w2_ h2_
 obtain ⟨n3_, z3_, h3_, w3_⟩ := g3
 obtain ⟨xv3, k3_, q3_⟩ := sG (ln (i := 3) (ts := [3, 22, 23, 24]) kr rfl hrow rfl) w3_ h3_
 exact ⟨n0, v1, xv1, v2, xv2, v3, xv3, O, g0, k1_, q1_, k2_, q2_, k3_, q3_⟩
theorem vC {fuel : Nat} {cs : List Value} {x : DataW H × List MemPlace} (hl : cs.length = 4) (hw : Wt Tryz.prog 27 x.1) (h : DataW.trod enc Tryz.prog W base sp hd fuel 27 cs = some x) :
  ∃ (n0 : Int) (n1 : Int) (n2 : Int) (n3 : Int), cs = [jv n0, jv n1, jv n2, jv n3] ∧ (i64 n0) ∧ (i64 n1) ∧ (i64 n2) ∧ (i64 n3) := by
 obtain ⟨zs, hz, he, hy⟩ := jo 4 underlying27 underlying3 kr h hl
 obtain ⟨n0, n1, n2, n3, rfl⟩ := len4 hz
 exact ⟨n0, n1, n2, n3, he, hy n0 sm, hy n1 sm, hy n2 sm, hy n3 sm⟩
theorem pI (hval : Value.okWide Tryz.prog W r b0 27 v) (hw : Wt Tryz.prog 27 d) (hd0 : DataW.Trod enc Tryz.prog W base sp hd 27 v d ps) :
  ∃ (n0 : Int) (n1 : Int) (n2 : Int) (n3 : Int), v = .agg #[jv n0, jv n1, jv n2, jv n3] ∧ (i64 n0) ∧ (i64 n1) ∧ (i64 n2) ∧ (i64 n3) := by
 obtain ⟨csA, rfl, hsz, hrow⟩ := jG kr hval
 obtain ⟨fuel, hf⟩ := hd0
 have hc : Tryz.prog.cellsOf 27 = 4 := by kernel_rfl
 obtain ⟨n0, n1, n2, n3, he, g0, g1, g2, g3⟩ := vC (cs := csA.toList) (by rw [zX, hsz, hc]) hw hf
 obtain rfl : csA = #[jv n0, jv n1, jv n2, jv n3] := by
  have he2 : csA.toList = [jv n0, jv n1, jv n2, jv n3] := he
  cases csA; simp only at he2; rw [he2]
 exact ⟨n0, n1, n2, n3, O, g0, g1, g2, g3⟩
end
end Go.Proofs.YtliklcmddmpdfaaGreatDoor
namespace Go.Proofs.YtliklcmddmpdfaaGreatDoor
open Go.RowKit Go.PW _root_.Go.Proofs.Tryz
theorem xB {key : By} {lim t : Int} {q : Chg} {n : Nat} (hk : key.length = 32) (hq : (0 ≤ q.n ∧ q.n ≤ 99999999) ∧ (0 ≤ q.h ∧ q.h ≤ 63) ∧ (0 ≤ q.c ∧ q.c ≤ 7) ∧ 0 ≤ q.t ∧ q.t ≤ q.a ∧ q.a ≤ 10000000) (hl : 1 ≤ lim ∧ lim ≤ 1000000) (hn : n ≤ 10) (ht : q.a ≤ t ∧ t ≤ 11000000) : fb key lim q n t = true := by
 simp only [fb, Chg.ok, inB, yw, yB]
 omega
theorem xl {ks : List By} {key : By} {lim a1 a2 t1 t2 s1 s2 u1 u2 : Int} {q1 q2 : Chg} {hd : Hd} {iv : Value} {L : List Itw} {x : Itm} (hL : itsM L = [x]) (h1 : stateH sha ks key lim q1 (repsM [⟨a1, hd, iv, L⟩]) t1 = (s1, u1)) (h2 : stateH sha ks key lim q2 (repsM [⟨a2, hd, iv, L⟩]) t2 = (s2, u2)) (e1 : s1 = 2) (e2 : s2 = 2) : q1.n = q2.n ∧ q1.h = q2.h ∧ q1.c = q2.c ∧ q1.t = q2.t := by
 obtain ⟨r, hr, g1⟩ := lR (S := sha) (ks := ks) (key := key) (q := q1) (lim := lim) (t := t1) (l := repsM [⟨a1, hd, iv, L⟩]) (by rw [h1]; exact e1)
 obtain ⟨r', hr', g2⟩ := lR (S := sha) (ks := ks) (key := key) (q := q2) (lim := lim) (t := t2) (l := repsM [⟨a2, hd, iv, L⟩]) (by rw [h2]; exact e2)
 have e3 : r.its = [x] := by rw [yT.1 hr]; exact hL
 have e4 : r'.its = [x] := by rw [yT.1 hr']; exact hL
 rw [e3] at g1
 rw [e4] at g2
 exact sP g1 g2
theorem u0 (cr : Int) (v1 : Value) (cs : List Pr2) (v2 : Value) (ns : List Nin) (v3 : Value) (hs : List Int) (x0 x1 x2 x3 which how by_ : Int) (w0 : World) (hv1 : SlAt w0 v1 2 (cs.map Pr2.cells)) (hv2 : SlAt w0 v2 8 (ns.map Nin.cells)) (hns : ∀ u ∈ ns, u.wt w0) (hv3 : SlAt w0 v3 1 (hs.map fun z : Int => [jv z])) (hcr : i64 cr) (hcs : ∀ y ∈ cs, y.wt) (hhs : ∀ z ∈ hs, i64 z) (hx0 : i64 x0) (hx1 : i64 x1) (hx2 : i64 x2) (hx3 : i64 x3) (h_which : i64 which) (h_how : i64 how) (h_by_ : i64 by_) (hk0 : (blk 0 (kOf.map wv) 258).ok w0) :
  Ret Tryz.prog 10 #[.agg #[jv cr, v1, v2, v3], .agg #[jv x0, jv x1, jv x2, jv x3], jv which, jv how, jv by_] w0 fun v w => v = .bool true ∧ Ext No w0 w := by
 have wwhich := h_which
 unfold i64 at wwhich
 have whow := h_how
 unfold i64 at whow
 have wby_ := h_by_
 unfold i64 at wby_
 have hp5 := aX by_ (n := 5) de
 have hp7 := aX by_ (n := 7) de
 have hp9 := aX by_ (n := 9) de
 refine Aq func10 O ntmps10 (lb O) fun a Y U => aa fun _ G1 => aV Y U O [jv cr, v1, v2, v3] O fun a w1 Y U => aV Y U O [jv x0, jv x1, jv x2, jv x3] O fun a w2 Y U => wla Y O fun a Y => G1 <| aa fun _ G2 => aw Y U call11 O (wL _ (U.keepb hk0)) fun a w3 Y U => wla Y O fun a Y => G2 <| ah fun _ G3 => aa fun _ G4 => nv Y <| yp O <| yo ((bB O).asb (b' := false) O) <| fun a Y => G4 <| aJ Y O ?_
 refine ar <| G3 <| aa fun _ G5 => wlv Y (ap (U.g 1 O) O (isAgg26 _) (sizeOf26 _)) fun a Y => bu Y U call12 O (rM cr v1 cs v2 ns v3 hs _ (U.arg hv1) (U.arg hv2) (fun u h => (hns u h).grow U.ext) (U.arg hv3) hcr hcs hhs) fun a w4 x1 hp Y U => ?_
 obtain ⟨dc, dv, dl⟩ := x1
 have hD := hp
 try dsimp only at U
 replace U := U.n3 O
 refine aD Y U (zeroValue32 _) [jv 0, .slice none 0 0] O fun a w5 Y U => bp (us := [jv dc, dv]) 0 Y U O O O (sizeOf32 _) Bx (lb O) (ds := [jv dc, dv]) O O fun a w6 Y U => G5 ?_
 replace Y := Y.p6 2 3 4 6 10 12 O
 replace U := U.k3 7 O
 refine ah fun _ G6 => ?_
 have hD : Doc dc dl := hD
 obtain ⟨hdok, hdl, hdb⟩ := id hD
 have hcb := hD.car
 obtain ⟨kk, hkk⟩ : ∃ k, keyG dc = k := ⟨_, rfl⟩
 have hk32 : kk.length = 32 := by rw [← hkk]; exact o6 _
 obtain ⟨hd, hhd⟩ : ∃ h, hdOf sha kk dc (entC dl) dl.length = h := ⟨_, rfl⟩
 have hreg := j0 hD.1
 have hel := dR dl
 refine aa fun _ G7 => nv Y <| yo (ac (v := po w4.hz 1) O kr) <| yo (ld U 0 O O (isAgg30 _) O) <| yo ((aO (sT := 30) (U.ow 1 O) O O (runUnderlying30 _)).asi (m' := (dl.length : Int)) AO) <| yo (v_eq O O) <| fun a Y => G7 <| aA Y O (fun hc2 => ?_) (fun hc2 => ?_)
 ·refine aa fun _ G8 => wlv Y (ap (U.g 0 O) O (isAgg32 _) (sizeOf32 _)) fun a Y => aw Y U call31 O (cJ hD.1 (iE dc dv dl _ (U.ow 1 O))) fun a w7 Y U => wla Y O fun a Y => G8 ?_
  replace Y := Y.p6 2 3 4 6 12 10 O
  refine aq <| am Y results10 (ae O ag) ?_
  exact ⟨by rfl, U.ext⟩
 refine ar <| G6 <| aa fun _ G9 => nv Y <| yo (ac (v := pq w4.hz) O kr) <| yo (ld U 0 O O (isAgg3 _) O) <| fun a Y => aw Y U call13 O (fE (by rw [hkk]) (kH dc _ om)) fun a w8 Y U => wla Y O fun a Y => G9 ?_
 refine aa fun _ G10 => nv (Y.p7 2 3 4 6 10 12 13 O) <| yo (ap (U.g 0 O) O (isAgg32 _) (sizeOf32 _)) <| yo (ap (U.g 2 O) O (isAgg27 _) (sizeOf27 _)) <| fun a Y => bu Y U call14 O (vt dc dv dl x0 x1 x2 x3 _ (U.ow 1 O) hD hx0 hx1 hx2 hx3) fun a w9 x3 hp Y U => ?_
 revert x3 hp Y U; rintro cg hp Y U
 have hcg := hp
 replace U := U.n3 O
 refine aD Y U (zeroValue36 _) [jv 0, jv 0, jv 0, jv 0, jv 0] O fun a w10 Y U => az 0 Y U [jv cg.n, jv cg.h, jv cg.c, jv cg.t, jv cg.a] O (sizeOf36 _) fun a w11 Y U => G10 <| ah fun _ G11 => ?_
 have hwb := aX which (n := (dl.length : Int)) om
 obtain ⟨wi, hwi⟩ : ∃ z, pickI which (dl.length : Int) = z := ⟨_, rfl⟩
 rw [hwi] at hwb
 obtain ⟨hgn, hgh, hgc, hgt, hga, hgb⟩ := id hcg
 refine aH (aI fun w12 hxz => ?_)
 replace U := U.grow hxz
 refine aR (k := 0) 18 [15, 17] Y ?_
 replace Y := Y.p11 2 3 4 6 10 12 13 38 39 40 14 O
 refine eJ 16 17 14 [(13, 12, fun u => u), (14, 13, fun u => tupAt u 0)] 50 [jv 0, jv 0, .string (⟨#[]⟩), .string (⟨#[]⟩), .slice none 0 0] (fun u => u.cells.toList) 18 [[], [], [1], [], [3], [4], [], [], [7], [8], [6, 9], [10], [0, 2, 5, 11], [12], [13], [13], [], [14, 16]] (fun i => match i with | 0 => pv (sv kk) | 1 => pv (.agg #[jv dc, dv]) | 2 => pm (fun v : Value => .agg #[jv dc, v]) (fun v => [own v 9 1 ((entC dl).map fun s => [sv s])]) (fun _ => True) | 3 => pv (po w4.hz 1) | 4 => pv (dv) | 5 => pv (jv (dl.length : Int)) | 6 => pv (jv which) | 7 => pv (po w4.hz 1) | 8 => pv (dv) | 9 => pv (jv (dl.length : Int)) | 10 => pv (jv wi) | 11 => pm (fun b : Nat => .slice (some ⟨b, 0, none⟩) 1 1) (fun b => [own (.slice (some ⟨b, 0, none⟩) 1 1) 3 1 [[jv wi]]]) (fun _ => True) | 12 => pm (fun x : Value × List Itw => .tuple #[.agg #[jv hd.c, jv hd.n, sv hd.root, sv hd.tag, x.1], jv 0]) (fun x => [itsE x.1 x.2]) (fun x => itsM x.2 = showIs sha (entC dl) dl.length ([wi])) | 13 => fun v E => (∃ sa0 sn0 sc0, v = .tuple #[.agg #[jv hd.c, jv hd.n, sv hd.root, sv hd.tag, (.slice sa0 sn0 sc0)], jv 0]) ∧ E = [] | 14 => fun v E => (∃ sa0 sn0 sc0, v = .agg #[jv hd.c, jv hd.n, sv hd.root, sv hd.tag, (.slice sa0 sn0 sc0)]) ∧ E = [] | 15 => pv (jv 0) | 16 => fun v E => ∃ b, v = ptr b ∧ E = [] | 17 => fun v E => v = undef ∧ E = [] | _ => fun _ _ => False) Y (H := [blk w9.hz [jv cg.n, jv cg.h, jv cg.c, jv cg.t, jv cg.a] 36, blk w4.hz [jv dc, dv] 32, own dv 55 3 ((dl).map Cas.cells), blk w1.hz [jv x0, jv x1, jv x2, jv x3] 27]) U kr kr kr kr de de de de de de de kr Bp ?_ (fun _ _ h => h) ⟨O, O⟩ (fun _ _ => Iff.rfl) ?_ ?_ ?_ ?_ ?_
 ·intro i v E h
  match i, h with
  | 0, _ => exact by decide
  | 1, _ => exact by decide
  | 2, _ => exact by decide
  | 3, _ => exact by decide
  | 4, _ => exact by decide
  | 5, _ => exact by decide
  | 6, _ => exact by decide
  | 7, _ => exact by decide
  | 8, _ => exact by decide
  | 9, _ => exact by decide
  | 10, _ => exact by decide
  | 11, _ => exact by decide
  | 12, _ => exact by decide
  | 13, _ => exact by decide
  | 14, _ => exact by decide
  | 15, _ => exact by decide
  | 16, _ => exact by decide
  | 17, _ => exact by decide
  | i + 18, h => exact h.elim
 ·intro i hi hia hij hil e
  match i, hi, hia, hij, hil with
  | 0, _, _, _, _ =>
   intro hl9 w U
   exact OpV.g (ay O)
  | 1, _, _, _, _ =>
   intro hl9 w U
   exact OpV.g (ap (U.g 2 O) O (isAgg32 _) (sizeOf32 _))
  | 2, _, _, _, _ =>
   rintro _ _ ⟨rfl, rfl⟩
   intro hl9 w U
   exact eS call27 O (wV dc dv dl _ (U.ow 3 O) om)
  | 3, _, _, _, _ =>
   intro hl9 w U
   exact OpV.g (ac (v := po w4.hz 1) O kr)
  | 4, _, _, _, _ =>
   rintro _ _ ⟨rfl, rfl⟩
   intro hl9 w U
   exact OpV.g (ld U 2 O O (isAgg30 _) O)
  | 5, _, _, _, _ =>
   rintro _ _ ⟨rfl, rfl⟩
   intro hl9 w U
   exact OpV.g ((aO (sT := 30) (U.ow 3 O) O O (runUnderlying30 _)).asi (m' := (dl.length : Int)) AO)
  | 6, _, _, _, _ =>
   intro hl9 w U
   exact OpV.g (ay O)
  | 7, _, _, _, _ =>
   intro hl9 w U
   exact OpV.g (ac (v := po w4.hz 1) O kr)
  | 8, _, _, _, _ =>
   rintro _ _ ⟨rfl, rfl⟩
   intro hl9 w U
   exact OpV.g (ld U 2 O O (isAgg30 _) O)
  | 9, _, _, _, _ =>
   rintro _ _ ⟨rfl, rfl⟩
   intro hl9 w U
   exact OpV.g ((aO (sT := 30) (U.ow 3 O) O O (runUnderlying30 _)).asi (m' := (dl.length : Int)) AO)
  | 10, _, _, _, _ =>
   rintro _ _ ⟨rfl, rfl⟩ _ _ ⟨rfl, rfl⟩
   intro hl9 w U
   exact br call16 O (ny hwi (dU which (dl.length : Int) _ ⟨om, om⟩ ⟨om, om⟩))
  | 11, _, _, _, _ =>
   rintro _ _ ⟨rfl, rfl⟩
   intro hl9 w U
   exact bG (E := 3) (sz := 1) O [[jv wi]] (fun _ => by kernel_rfl) sm O de
  | 12, _, _, _, _ =>
   rintro _ _ ⟨rfl, rfl⟩ _ _ ⟨ev5, rfl, -, rfl⟩ _ _ ⟨rfl, rfl⟩ _ _ ⟨b6, rfl, -, rfl⟩
   intro hl9 w U
   exact eS call26 O (jy kk dl.length hd (.slice (some ⟨b6, 0, none⟩) 1 1) ([wi]) dc ev5 (entC dl) _ (U.ow 0 O) (U.ow 1 O) hk32 hreg om (wd hwb.1 hwb.2) (lb O) hhd (U.keepb hk0))
  | 13, _, _, _, h => exact absurd de h
  | 14, _, _, _, h => exact absurd de h
  | 15, _, _, _, _ =>
   rintro _ _ ⟨⟨sa0, sn0, sc0, rfl⟩, rfl⟩
   intro hl9 w U
   exact OpV.g (ao O O)
  | 16, _, h, _, _ => exact absurd O h
  | 17, _, _, h, _ => exact absurd O h
  | i + 18, h, _, _, _ => exact absurd h om
 ·intro x hx e
  simp only [yE, yI, y9] at hx
  rcases hx with rfl | rfl
  ·rintro _ _ ⟨⟨iv7, Liv7⟩, rfl, hLiv7, rfl⟩
   intro w U
   obtain ⟨sa0, sn0, sc0, rfl⟩ := cO (bA (k := 0) U rfl).1
   exact OpV.hopv (OpV.g (ay O)) ⟨⟨_, _, _, O⟩, O⟩
  ·rintro _ _ ⟨⟨sa0, sn0, sc0, rfl⟩, rfl⟩
   intro w U
   exact OpV.hopv (OpV.g (ao O O)) ⟨⟨_, _, _, O⟩, O⟩
 ·exact fun Lv w => eq (zeroValue50 _)
 ·rintro _ _ ⟨⟨sa0, sn0, sc0, rfl⟩, rfl⟩ _ _ ⟨b4, rfl, rfl⟩
  intro b hb u hu w h
  have hb : some (ptr b4) = some (ptr b) := hb
  cases hb
  have hu : some (.agg #[jv hd.c, jv hd.n, sv hd.root, sv hd.tag, (.slice sa0 sn0 sc0)]) = some u := hu
  cases hu
  exact dE O O h (sizeOf50 _) O (lb O) O
 clear Y U
 rintro V bq hva hlk _ _ ⟨⟨rfl, rfl⟩, -⟩ _ _ ⟨⟨rfl, rfl⟩, -⟩ _ _ ⟨⟨ev5, rfl, -, rfl⟩, -⟩ _ _ ⟨⟨rfl, rfl⟩, -⟩ _ _ ⟨⟨rfl, rfl⟩, -⟩ _ _ ⟨⟨rfl, rfl⟩, -⟩ _ _ ⟨⟨rfl, rfl⟩, -⟩ _ _ ⟨⟨rfl, rfl⟩, -⟩ _ _ ⟨⟨rfl, rfl⟩, -⟩ _ _ ⟨⟨rfl, rfl⟩, -⟩ _ _ ⟨⟨rfl, rfl⟩, -⟩ _ _ ⟨⟨b6, rfl, -, rfl⟩, -⟩ _ _ ⟨⟨⟨iv7, Liv7⟩, rfl, hLiv7, rfl⟩, hv12_⟩ v13_ _ ⟨⟨-, rfl⟩, hv13_⟩ v14_ _ ⟨⟨-, rfl⟩, hv14_⟩ _ _ ⟨⟨rfl, rfl⟩, -⟩ _ _ ⟨⟨b4, rfl, rfl⟩, hva9⟩ a w13 Y U
 obtain rfl : b4 = bq := fO (hva9.trans hva)
 obtain rfl : v13_ = .tuple #[.agg #[jv hd.c, jv hd.n, sv hd.root, sv hd.tag, iv7], jv 0] := hv13_.trans ((hlk 0 _ rfl).trans (yZ (fun u => u) hv12_.symm))
 obtain rfl : v14_ = .agg #[jv hd.c, jv hd.n, sv hd.root, sv hd.tag, iv7] := hv14_.trans ((hlk 1 _ rfl).trans (yZ (fun u => tupAt u 0) hv13_.symm))
 rw [← hv14_] at U
 replace Y : Fr 150 [(42, _), (43, _), (44, _), (45, _), (46, _), (47, _), (48, _), (49, _), (50, _), (51, _), (52, _), (53, _), (54, _), (41, _), (55, _), (56, _), (15, _), (2, _), (3, _), (4, _), (6, _), (10, _), (12, _), (13, _), (38, _), (39, _), (40, _), (14, _)] [] a := Y
 try dsimp only at U
 replace U := U.n8 O
 clear hva9 hva hlk hv14_ hv13_ hv12_
 refine ab <| aL (k := 18) 19 [18] ?_
 refine wla Y O fun a Y => ab <| aS <| G11 ?_
 replace U := U.k4 92 O
 refine aa fun _ G12 => wlv (Y.p7 3 4 10 13 14 15 16 O) (ap (U.g 2 O) O (isAgg36 _) (sizeOf36 _)) fun a Y => aD Y U (zeroValue36 _) [jv 0, jv 0, jv 0, jv 0, jv 0] O fun a w14 Y U => az 0 Y U [jv cg.n, jv cg.h, jv cg.c, jv cg.t, jv cg.a] O (sizeOf36 _) fun a w15 Y U => G12 <| ah fun _ G13 => aa fun _ G14 => wlm Y O fun a Y => aw Y U call16 O (dU how 4 _ ⟨om, om⟩ ⟨om, om⟩) fun a w16 Y U => G14 <| io (fun a w => ∃ (tn : Int), ∃ (th : Int), ∃ (tc : Int), ∃ (tt : Int), ∃ (ta : Int), ((0 ≤ tn ∧ tn ≤ 99999999) ∧ (0 ≤ th ∧ th ≤ 63) ∧ (0 ≤ tc ∧ tc ≤ 7) ∧ 0 ≤ tt ∧ tt ≤ ta ∧ ta ≤ 10000000) ∧ (¬ (cg.n = tn ∧ cg.h = th ∧ cg.c = tc ∧ cg.t = tt)) ∧ Fr 150 [(10, .bool false), (13, sv kk), (14, pq w9.hz), (15, pq b4), (16, jv 0), (17, pq w13.hz)] [] a ∧ St No w0 [blk w13.hz [jv tn, jv th, jv tc, jv tt, jv ta] 36, itsE iv7 Liv7, blk b4 [jv hd.c, jv hd.n, sv hd.root, sv hd.tag, iv7] 50, blk w9.hz [jv cg.n, jv cg.h, jv cg.c, jv cg.t, jv cg.a] 36, own dv 55 3 ((dl).map Cas.cells)] w) ?_ ?_
 ·refine au <| aa fun _ G15 => nv Y <| yo (v_eq O O) <| yq O <| fun a Y => G15 <| aA Y O (fun hc8 => ?_) (fun hc8 => ?_)
  ·refine aH (aI fun w17 hxz => ?_)
   replace U := U.grow hxz
   refine aR (k := 0) 5 [2, 4] Y ?_
   refine bL 5 (Y.p11 3 4 10 13 14 15 16 57 17 58 59 O) U <| pl_v (ac (v := pq w9.hz) O kr) <| pl_w (fun U => ld U 3 O O (isAgg3 _) O) <| pl_v (aM O O ⟨om, om⟩) <| pl_m O <| pl_r (fun U => br call16 O (dU by_ 5 _ ⟨om, om⟩ ⟨om, om⟩)) fun a w18 Y U => ?_
   replace Y := Y.p8 10 13 14 15 16 17 77 79 O
   refine ab <| aL (k := 5) 8 [7] ?_
   refine nv Y <| yo (aM O O ⟨om, om⟩) <| yo (ac (v := pq w13.hz) O kr) <| fun a Y => az 0 Y U [jv ((cg.n + 1) + (pickI by_ 5)), jv cg.h, jv cg.c, jv cg.t, jv cg.a] O (sizeOf3 _) fun a w19 Y U => ab <| aS ?_
   exact ⟨((cg.n + 1) + (pickI by_ 5)), cg.h, cg.c, cg.t, cg.a, om, om, Y.pick [10, 13, 14, 15, 16, 17], U.select [0, 1, 2, 3, 4] de⟩
  refine aa fun _ G16 => nv Y <| yo (v_eq O O) <| yq O <| fun a Y => G16 ?_
  replace Y := Y.p9 4 10 13 14 15 16 17 59 82 O
  refine aA Y O (fun hc9 => ?_) (fun hc9 => ?_)
  ·refine aH (aI fun w20 hxz => ?_)
   replace U := U.grow hxz
   refine aR (k := 0) 5 [2, 4] Y ?_
   refine bL 5 (Y.p8 4 10 13 14 15 16 17 59 O) U <| pl_v (ac (v := po w9.hz 1) O kr) <| pl_w (fun U => ld U 3 O O (isAgg3 _) O) <| pl_v (aM O O ⟨om, om⟩) <| pl_m O <| pl_r (fun U => br call16 O (dU by_ 9 _ ⟨om, om⟩ ⟨om, om⟩)) fun a w21 Y U => ?_
   replace Y := Y.p8 10 13 14 15 16 17 86 88 O
   refine ab <| aL (k := 5) 9 [8] ?_
   refine nv Y <| yo (aM O O ⟨om, om⟩) <| yo (fi O O om om) <| yo (ac (v := po w13.hz 1) O kr) <| fun a Y => az 0 Y U [jv cg.n, jv (((cg.h + 1) + (pickI by_ 9)) % 10), jv cg.c, jv cg.t, jv cg.a] O (sizeOf3 _) fun a w22 Y U => ab <| aS ?_
   exact ⟨cg.n, (((cg.h + 1) + (pickI by_ 9)) % 10), cg.c, cg.t, cg.a, om, om, Y.pick [10, 13, 14, 15, 16, 17], U.select [0, 1, 2, 3, 4] de⟩
  refine aa fun _ G17 => nv Y <| yo (v_eq O O) <| yq O <| fun a Y => G17 <| aA Y O (fun hc10 => ?_) (fun hc10 => ?_)
  ·refine aH (aI fun w23 hxz => ?_)
   replace U := U.grow hxz
   refine aR (k := 0) 5 [2, 4] Y ?_
   refine bL 5 (Y.p8 4 10 13 14 15 16 17 59 O) U <| pl_v (ac (v := po w9.hz 2) O kr) <| pl_w (fun U => ld U 3 O O (isAgg3 _) O) <| pl_v (aM O O ⟨om, om⟩) <| pl_m O <| pl_r (fun U => br call16 O (dU by_ 7 _ ⟨om, om⟩ ⟨om, om⟩)) fun a w24 Y U => ?_
   replace Y := Y.p8 10 13 14 15 16 17 96 98 O
   refine ab <| aL (k := 5) 9 [8] ?_
   refine nv Y <| yo (aM O O ⟨om, om⟩) <| yo (fi O O om om) <| yo (ac (v := po w13.hz 2) O kr) <| fun a Y => az 0 Y U [jv cg.n, jv cg.h, jv (((cg.c + 1) + (pickI by_ 7)) % 8), jv cg.t, jv cg.a] O (sizeOf3 _) fun a w25 Y U => ab <| aS ?_
   exact ⟨cg.n, cg.h, (((cg.c + 1) + (pickI by_ 7)) % 8), cg.t, cg.a, om, om, Y.pick [10, 13, 14, 15, 16, 17], U.select [0, 1, 2, 3, 4] de⟩
  refine ah fun _ G18 => aH (aI fun w26 hxz => ?_)
  replace U := U.grow hxz
  refine aR (k := 0) 5 [2, 4] Y ?_
  refine bL 5 (Y.p8 4 10 13 14 15 16 17 59 O) U <| pl_v (ac (v := po w9.hz 3) O kr) <| pl_w (fun U => ld U 3 O O (isAgg3 _) O) <| pl_v (aM O O ⟨om, om⟩) <| pl_m O <| pl_r (fun U => br call16 O (dU by_ 5 _ ⟨om, om⟩ ⟨om, om⟩)) fun a w27 Y U => ?_
  replace Y := Y.p8 10 13 14 15 16 17 62 64 O
  refine ab <| aL (k := 5) 8 [7] ?_
  refine nv Y <| yo (aM O O ⟨om, om⟩) <| yo (ac (v := po w13.hz 3) O kr) <| fun a Y => az 0 Y U [jv cg.n, jv cg.h, jv cg.c, jv ((cg.t + 1) + (pickI by_ 5)), jv cg.a] O (sizeOf3 _) fun a w28 Y U => ab <| aS <| G18 <| al <| nv Y <| yo (ac (v := po w9.hz 4) O kr) <| yo (ld U 3 O O (isAgg3 _) O) <| yo (ac (v := po w13.hz 3) O kr) <| yo (ld U 0 O O (isAgg3 _) O) <| yo (xX O O) <| yo (ac (v := po w13.hz 4) O kr) <| fun a Y => az 0 Y U [jv cg.n, jv cg.h, jv cg.c, jv ((cg.t + 1) + (pickI by_ 5)), jv (max cg.a ((cg.t + 1) + (pickI by_ 5)))] O (sizeOf3 _) fun a w29 Y U => ab ?_
  exact ⟨cg.n, cg.h, cg.c, ((cg.t + 1) + (pickI by_ 5)), (max cg.a ((cg.t + 1) + (pickI by_ 5))), om, om, Y.pick [10, 13, 14, 15, 16, 17], U.select [0, 1, 2, 3, 4] de⟩
 rintro a w30 ⟨tn, th, tc, tt, ta, htb, hne, Y, U⟩
 refine G13 <| ah fun _ G19 => ?_
 obtain ⟨s1, u1, hs1⟩ : ∃ a b, stateH sha keysH kk 10 cg (repsM [⟨cg.a, hd, iv7, Liv7⟩]) cg.a = (a, b) := ⟨_, _, rfl⟩
 obtain ⟨s2, u2, hs2⟩ : ∃ a b, stateH sha keysH kk 10 (⟨tn, th, tc, tt, ta⟩ : Chg) (repsM [⟨ta, hd, iv7, Liv7⟩]) ta = (a, b) := ⟨_, _, rfl⟩
 refine aH (aI fun w31 hxz => ?_)
 replace U := U.grow hxz
 refine aR (k := 0) 10 [0, 1, 2, 7, 9] Y ?_
 replace Y := Y.p6 10 13 14 15 16 17 O
 refine bJ [0, 7] (fun i => match i with | 0 => pm (fun v : Value => v) (fun v => [own v 9 1 (keysH.map fun s => [sv s])]) (fun _ => True) | 7 => pm (fun b : Nat => .slice (some ⟨b, 0, none⟩) 1 1) (fun b => [own (.slice (some ⟨b, 0, none⟩) 1 1) 52 6 [[jv cg.a, jv hd.c, jv hd.n, sv hd.root, sv hd.tag, iv7]]]) (fun _ => True) | _ => fun _ _ => False) 10 [[], [], [], [], [3], [], [4, 5], [6], [], [8]] [undef, sv kk, .agg #[jv cg.n, jv cg.h, jv cg.c, jv cg.t, jv cg.a], po w9.hz 4, jv cg.a, .agg #[jv hd.c, jv hd.n, sv hd.root, sv hd.tag, iv7], .agg #[jv cg.a, jv hd.c, jv hd.n, sv hd.root, sv hd.tag, iv7], undef, po w9.hz 4, jv cg.a] Y U ?_ ?_ ?_
 ·exact Au <| As (fun h => absurd sm h) <| hqv (ay rfl) <| hqw (fun U => ap (U.g 3 rfl) rfl (isAgg36 _) (sizeOf36 _)) <| hqv (ac (v := po w9.hz 4) rfl kr) <| hqw (fun U => ld U 3 rfl rfl (isAgg3 _) rfl) <| hqw (fun U => ap (U.g 2 rfl) rfl (isAgg50 _) (sizeOf50 _)) <| hqw (fun U => aW (v := .agg #[jv cg.a, jv hd.c, jv hd.n, sv hd.root, sv hd.tag, iv7]) rfl (by obtain ⟨_, _, _, eb0_⟩ := cO (bA (k := 1) U rfl).1; rw [eb0_]; kernel_rfl)) <| As (fun h => absurd sm h) <| hqv (ac (v := po w9.hz 4) rfl kr) <| hqw (fun U => ld U 3 rfl rfl (isAgg3 _) rfl) <| At
 ·intro i hi
  simp only [yE, yI, y9] at hi
  rcases hi with rfl | rfl
  ·intro w U
   exact eS call18 O (nC _)
  ·intro w U
   exact bG (E := 52) (sz := 6) O [[jv cg.a, jv hd.c, jv hd.n, sv hd.root, sv hd.tag, iv7]] (fun _ => by obtain ⟨_, _, _, e0_⟩ := cO (bA (k := 1) U O).1; rw [e0_]; kernel_rfl) sm O de
 clear Y U
 rintro kv11 _ ⟨_, rfl, -, rfl⟩ _ _ ⟨b12, rfl, -, rfl⟩ a w32 Y U
 replace Y := Y.p10 103 104 105 110 112 10 13 15 16 17 O
 replace U := U.n7 O
 refine ab <| aL (k := 10) 12 [11] ?_
 refine aw Y U call17 O (fE (by rw [hs1]) (jc kv11 (.slice (some ⟨b12, 0, none⟩) 1 1) keysH kk 10 cg ([⟨cg.a, hd, iv7, Liv7⟩]) cg.a _ (U.ow 0 O) ⟨(U.ow 1 O), fun r h => by rw [yT.1 h]; exact (bA (k := 3) U O)⟩ (fun r h => by rw [yT.1 h]; exact (da om hLiv7)) (xB hk32 om de (lb O) om) (U.keepb hk0))) fun a w33 Y U => wlm Y O fun a Y => ab <| aR (k := 12) 17 [14, 16] Y ?_
 refine bL 5 (Y.p12 10 13 15 16 17 103 104 105 110 112 113 102 O) U <| pl_v (ao O O) <| pl_v (ao O O) <| pl_v (ao O O) <| pl_v (cz O) <| pl_v (cz O) fun a w34 Y U => ?_
 replace Y := Y.p7 10 13 15 16 17 116 18 O
 refine ab <| aL (k := 17) 18 [17] ?_
 refine wla Y O fun a Y => ab <| aS <| G19 <| ah fun _ G20 => aH (aI fun w35 hxz => ?_)
 replace U := U.grow hxz
 refine aR (k := 0) 10 [0, 1, 2, 7, 9] Y ?_
 replace Y := Y.p8 10 13 15 16 17 116 18 20 O
 refine bJ [0, 7] (fun i => match i with | 0 => pm (fun v : Value => v) (fun v => [own v 9 1 (keysH.map fun s => [sv s])]) (fun _ => True) | 7 => pm (fun b : Nat => .slice (some ⟨b, 0, none⟩) 1 1) (fun b => [own (.slice (some ⟨b, 0, none⟩) 1 1) 52 6 [[jv ta, jv hd.c, jv hd.n, sv hd.root, sv hd.tag, iv7]]]) (fun _ => True) | _ => fun _ _ => False) 10 [[], [], [], [], [3], [], [4, 5], [6], [], [8]] [undef, sv kk, .agg #[jv tn, jv th, jv tc, jv tt, jv ta], po w13.hz 4, jv ta, .agg #[jv hd.c, jv hd.n, sv hd.root, sv hd.tag, iv7], .agg #[jv ta, jv hd.c, jv hd.n, sv hd.root, sv hd.tag, iv7], undef, po w13.hz 4, jv ta] Y U ?_ ?_ ?_
 ·exact Au <| As (fun h => absurd sm h) <| hqv (ay rfl) <| hqw (fun U => ap (U.g 2 rfl) rfl (isAgg36 _) (sizeOf36 _)) <| hqv (ac (v := po w13.hz 4) rfl kr) <| hqw (fun U => ld U 2 rfl rfl (isAgg3 _) rfl) <| hqw (fun U => ap (U.g 4 rfl) rfl (isAgg50 _) (sizeOf50 _)) <| hqw (fun U => aW (v := .agg #[jv ta, jv hd.c, jv hd.n, sv hd.root, sv hd.tag, iv7]) rfl (by obtain ⟨_, _, _, eb0_⟩ := cO (bA (k := 3) U rfl).1; rw [eb0_]; kernel_rfl)) <| As (fun h => absurd sm h) <| hqv (ac (v := po w13.hz 4) rfl kr) <| hqw (fun U => ld U 2 rfl rfl (isAgg3 _) rfl) <| At
 ·intro i hi
  simp only [yE, yI, y9] at hi
  rcases hi with rfl | rfl
  ·intro w U
   exact eS call18 O (nC _)
  ·intro w U
   exact bG (E := 52) (sz := 6) O [[jv ta, jv hd.c, jv hd.n, sv hd.root, sv hd.tag, iv7]] (fun _ => by obtain ⟨_, _, _, e0_⟩ := cO (bA (k := 3) U O).1; rw [e0_]; kernel_rfl) sm O de
 clear Y U
 rintro kv13 _ ⟨_, rfl, -, rfl⟩ _ _ ⟨b14, rfl, -, rfl⟩ a w36 Y U
 replace Y := Y.p9 118 119 120 125 127 10 16 18 20 O
 replace U := U.n9 O
 refine ab <| aL (k := 10) 12 [11] ?_
 refine aw Y U call17 O (fE (by rw [hs2]) (jc kv13 (.slice (some ⟨b14, 0, none⟩) 1 1) keysH kk 10 (⟨tn, th, tc, tt, ta⟩ : Chg) ([⟨ta, hd, iv7, Liv7⟩]) ta _ (U.ow 0 O) ⟨(U.ow 1 O), fun r h => by rw [yT.1 h]; exact (bA (k := 5) U O)⟩ (fun r h => by rw [yT.1 h]; exact (da om hLiv7)) (xB (q := (⟨tn, th, tc, tt, ta⟩ : Chg)) hk32 htb de (lb O) (show ta ≤ ta ∧ ta ≤ 11000000 by omega)) (U.keepb hk0))) fun a w37 Y U => wlm Y O fun a Y => ab <| aR (k := 12) 17 [14, 16] Y ?_
 refine bL 5 (Y.p11 10 16 18 20 118 119 120 125 127 128 117 O) U <| pl_v (ao O O) <| pl_v (ao O O) <| pl_v (ao O O) <| pl_v (cz O) <| pl_v (cz O) fun a w38 Y U => ?_
 replace Y := Y.p6 10 16 18 20 131 21 O
 refine ab <| aL (k := 17) 18 [17] ?_
 refine wla Y O fun a Y => ab <| aS <| G20 <| aa fun _ G21 => nv Y <| yp O <| yo ((v_eq O O).asb (b' := true) O) <| yp O <| yr (ay O) <| yr ((v_eq O O).asb (b' := true) O) <| yo (ax O O) <| yp O <| yr (ay O) <| yr ((v_eq O O).asb (b' := true) O) <| yo (ax O O) <| yp O <| yr (ay O) <| yr (v_ne O O) <| yr (ay O) <| fun a Y => ?_
 rcases (Decidable.em (s1 = 2)).symm with hb15 | hb15
 ·rw [yD hb15] at Y
  refine nv Y <| yt <| yt <| yr (ax O O) <| yo (ax O O) <| yq O <| fun a Y => G21 ?_
  replace Y := Y.p1 10 O
  replace U := U.k2 288 O
  refine aq <| am Y results10 (ae O ag) ?_
  exact ⟨by rfl, U.ext⟩
 rw [yy hb15] at Y
 refine nv Y <| yr (ay O) <| yr ((v_ne O O).asb (b' := true) (by simp only [zh, yX]; exact fun e2 => hne (xl hLiv7 hs1 hs2 (by simpa using hb15) e2))) <| yr (ak O O) <| yo (ax O O) <| yq O <| fun a Y => G21 ?_
 replace Y := Y.p1 10 O
 replace U := U.k2 288 O
 refine aq <| am Y results10 (ae O ag) ?_
 exact ⟨by rfl, U.ext⟩
end Go.Proofs.YtliklcmddmpdfaaGreatDoor
