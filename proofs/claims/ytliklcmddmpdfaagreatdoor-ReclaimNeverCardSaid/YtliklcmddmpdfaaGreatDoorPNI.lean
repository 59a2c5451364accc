/- Texts joined: RclI, RclJ, RclK, RclL, Sle, Laid, Door, OpenL, LawO, LawN. -/
import Derived.Test.YtliklcmddmpdfaaGreatDoorPNH
import Derived.Test.YtliklcmddmpdfaaGreatDoorPNF
import Derived.Test.YtliklcmddmpdfaaGreatDoorPNB
import Derived.Test.YtliklcmddmpdfaaGreatDoorPNA
import Derived.LaidMore
import Derived.OpenShut
import Derived.Stop.Joined
import Derived.SevenTiedAt
import Derived.ChangeMaps5
import Derived.Test.YtliklcmddmpdfaaGreatDoorRows
set_option linter.unusedVariables false
set_option linter.unusedSimpArgs false
set_option maxRecDepth 4000
set_option maxHeartbeats 4000000
namespace Go.Proofs.YtliklcmddmpdfaaGreatDoor
open Go.RowKit Go.PW _root_.Go.Proofs.Tryz
structure Nin where
 h : Int
 r0 : Int
 r1 : Int
 s0 : Int
 s1 : Int
 ca : Int
 se : Int
 cv : Value
 ys : List Cin
def Nin.z : Nin := ⟨0, 0, 0, 0, 0, 0, 0, .slice none 0 0, []⟩
def Nin.cells (u : Nin) : List Value := [jv u.h, jv u.r0, jv u.r1, jv u.s0, jv u.s1, jv u.ca, jv u.se, u.cv]
def Nin.wt (w : World) (u : Nin) : Prop := (i64 u.h ∧ i64 u.r0 ∧ i64 u.r1 ∧ i64 u.s0 ∧ i64 u.s1 ∧ i64 u.ca ∧ i64 u.se) ∧ SlE w u.cv 5 (u.ys.map Cin.cells) ∧ (∀ y ∈ u.ys, y.wt) ∧ u.ys.length ≤ 3518437208883
theorem Nin.wt.grow {w w' : World} {u : Nin} (h : u.wt w) (hx : Ext No w w') : u.wt w' := ⟨h.1, h.2.1.grow hx, h.2.2⟩
structure Pr2 where
 a : Int
 b : Int
def Pr2.z : Pr2 := ⟨0, 0⟩
def Pr2.cells (y : Pr2) : List Value := [jv y.a, jv y.b]
def Pr2.wt (y : Pr2) : Prop := i64 y.a ∧ i64 y.b
structure Pr3 where
 a : Int
 b : Int
 c : Int
def Pr3.z : Pr3 := ⟨0, 0, 0⟩
def Pr3.cells (y : Pr3) : List Value := [jv y.a, jv y.b, jv y.c]
def Pr3.wt (y : Pr3) : Prop := i64 y.a ∧ i64 y.b ∧ i64 y.c
def Cin.put (y : Cin) : Nat → Cin
 | 0 => { y with y0 := 0 }
 | 1 => { y with y1 := 0 }
 | 2 => { y with y2 := 0 }
 | 3 => { y with y3 := 0 }
 | _ => { y with y4 := 0 }
theorem Cin.put_wt {y : Cin} (h : y.wt) (j : Nat) : (y.put j).wt := by
 obtain ⟨h0, h1, h2, h3, h4⟩ := h
 have hz : i64 0 := ⟨by decide, by decide⟩
 match j with
 | 0 => exact ⟨hz, h1, h2, h3, h4⟩
 | 1 => exact ⟨h0, hz, h2, h3, h4⟩
 | 2 => exact ⟨h0, h1, hz, h3, h4⟩
 | 3 => exact ⟨h0, h1, h2, hz, h4⟩
 | j + 4 => exact ⟨h0, h1, h2, h3, hz⟩
theorem sD {zs : List Cin} {k j : Nat} (hk : k < (zs.map Cin.cells).length) (hj : j < 5) (hw : ∀ y ∈ zs, y.wt) : ∃ zs' : List Cin, (zs.map Cin.cells).set k (splice (zs.map Cin.cells)[k] j [jv 0]) = zs'.map Cin.cells ∧ zs'.length = zs.length ∧ ∀ y ∈ zs', y.wt := by
 have hk' : k < zs.length := by simpa using hk
 refine ⟨zs.set k (zs[k].put j), ?_, by simp, ?_⟩
 ·rw [yW]
  congr 1
  rw [yI]
  match j, hj with
  | 0, _ => rfl
  | 1, _ => rfl
  | 2, _ => rfl
  | 3, _ => rfl
  | 4, _ => rfl
 ·intro y hy
  rcases List.mem_or_eq_of_mem_set hy with hy | rfl
  ·exact hw _ hy
  ·exact Cin.put_wt (hw _ (ya hk')) j
theorem jf : ∀ {l : List Pxy}, (∀ p ∈ l, p.sig.length = 32) → (l.flatMap Pxy.text).length ≤ 95 * l.length
 | [], h => by simp
 | p :: l, h => by
  have h1 := h p sm
  have h2 := jf (l := l) (fun q hq => h q Ac)
  have h3 := ff p
  rw [xQ, xj, Pxy.text, xj, xq]
  omega
theorem iP {x : Wsh} {ps : List Pxy} {t : By} {e : Int} (h : encT x ps = (t, e)) : t.length ≤ 900 := by
 unfold encT at h
 cases hq : cU x ps with
 | none => rw [hq] at h; cases h; simp
 | some z =>
  rw [hq] at h; cases h
  obtain ⟨h1, h2, h3, rfl⟩ := dy.1 hq
  have h4 := gR h1
  have h5 := jf h3
  have h6 := fw x
  have h7 := (bV (ps.length : Int)).2
  simp only [xj, Wsh.text]
  omega
def lastC : Int → List Cas → Int
 | p, [] => p
 | _, x :: l => lastC x.n l
theorem mn {x : Cas} : ∀ {l : List Cas} {p : Int}, ascC p (l ++ [x]) = (ascC p l && (x.ok && decide (lastC p l < x.n)))
 | [], p => by rw [xR, ascC]; show ((x.ok && decide (p < x.n)) && true) = (true && (x.ok && decide (p < x.n))); rw [yV, yB]
 | y :: l, p => by rw [yd, ascC, ascC, mn (l := l), lastC]; simp only [Bool.and_assoc]
theorem fD {x : Cas} : ∀ {l : List Cas} {p : Int}, lastC p (l ++ [x]) = x.n
 | [], p => rfl
 | y :: l, p => fD (l := l)
def Doc (c : Int) (l : List Cas) : Prop := docOk c l = true ∧ l.length ≤ 6 ∧ ∀ x ∈ l, x.n ≤ 23 ∧ x.t < 10000
theorem sN {c : Int} {l : List Cas} (hc : 0 ≤ c ∧ c < 8) (h : ascC (-1) l = true) (hl : l.length ≤ 6) (ha : ∀ x ∈ l, x.n ≤ 23 ∧ x.t < 10000) : Doc c l := by
 refine ⟨?_, hl, ha⟩
 unfold docOk inB
 rw [h, xt (by omega : 0 ≤ c), xt (by omega : c ≤ 7), xt (by omega : l.length ≤ 60)]; rfl
theorem m8 {l : List Cas} {x : Cas} {n : Int} (h : ascC (-1) l = true) (hn : lastC (-1) l = n) (hlt : n < x.n) (h0 : 0 ≤ x.n) (h1 : x.n ≤ 23) (h2 : 0 ≤ x.t) (h3 : x.t < 10000) (h4 : x.ev.length ≤ 900) : ascC (-1) (l ++ [x]) = true := by
 rw [mn, h, hn, xt hlt]
 unfold Cas.ok inB
 rw [xt h0, xt (by omega : x.n ≤ 99999999), xt h2, xt (by omega : x.t ≤ 10000000), xt h4]; rfl
theorem vO (u : Nin) (ca nu ti how : Int) (w0 : World) (hu : u.wt w0) (h1 : i64 ca) (h2 : i64 nu) (h3 : i64 ti) (h4 : i64 how) :
  Ret Tryz.prog 45 #[.agg #[jv u.h, jv u.r0, jv u.r1, jv u.s0, jv u.s1, jv u.ca, jv u.se, u.cv], jv ca, jv nu, jv ti, jv how] w0 (MemR w0 (fun s : By => sv s) (fun _ => []) (fun s => s.length ≤ 900)) := by
 obtain ⟨⟨u1, u2, u3, u4, u5, u6, u7⟩, hce, hyw, hyl⟩ := id hu
 have g0 := u3
 unfold i64 at g0
 have g1 := u5
 unfold i64 at g1
 have g2 := h1
 unfold i64 at g2
 have g3 := h2
 unfold i64 at g3
 have g4 := h3
 unfold i64 at g4
 have g5 := h4
 unfold i64 at g5
 have hhow := g5
 have p1 := aW u.r1 (n := 5) de
 have p2 := aW u.s1 (n := 5) de
 have p3 := aW how (n := 10) de
 refine zf func45 O ntmps45 (lb O) fun a Z Y => ?_
 refine aa fun _ G1 => aS Z Y de O (cs := [jv u.h, jv u.r0, jv u.r1, jv u.s0, jv u.s1, jv u.ca, jv u.se, u.cv]) O fun a w1 Z Y => wla Z O fun a Z => G1 <| ah fun _ G2 => ?_
 refine aa fun _ G3 => wlm Z O fun a Z => ax Z Y de call44 O (di how 8 _ zC Ax) fun a w2 Z Y => wlv Z (v_eq O O) fun a Z => G3 <| aA Z O (fun hc1 => ?_) (fun hc1 => ?_)
 ·try simp only [qz] at hc1
  refine aa fun _ G4 => wla Z O fun a Z => G4 <| ap ?_
  refine am Z results45 (ag O ae) ?_
  exact ⟨[], O, de, Y.ext, St.out (E := []) (H := []) (Y.select [] de)⟩
 try simp only [qz] at hc1
 refine aw <| G2 <| aa fun _ G5 => nv Z <| xc O <| pq (ac (v := po w0.hz 1) O kr) <| pq (aX (v := po w0.hz 2) O O kr) <| pq (ld Y 0 O O (isAgg3 _) O) <| fun a Z => ax Z Y de call44 O (di u.r1 5 _ zC Ax) fun a w3 Z Y => nv Z <| pq (bj (v := .agg #[jv nu, jv (pickI u.r1 5)]) O kr) <| pq (ac (v := po w0.hz 1) O kr) <| fun a Z => aq 0 Z Y O O O (sizeOf63 _) O (lb O) (ds := [jv u.h, jv nu, jv (pickI u.r1 5), jv u.s0, jv u.s1, jv u.ca, jv u.se, u.cv]) O O fun a w4 Z Y => G5 ?_
 refine aa fun _ G6 => nv (Z.p5 1 3 4 5 10 O) <| xc O <| pq (ac (v := po w0.hz 3) O kr) <| pq (aX (v := po w0.hz 4) O O kr) <| pq (ld Y 0 O O (isAgg3 _) O) <| fun a Z => ax Z Y de call44 O (di u.s1 5 _ zC Ax) fun a w5 Z Y => nv Z <| pq (bj (v := .agg #[jv ti, jv (pickI u.s1 5)]) O kr) <| pq (ac (v := po w0.hz 3) O kr) <| fun a Z => aq 0 Z Y O O O (sizeOf63 _) O (lb O) (ds := [jv u.h, jv nu, jv (pickI u.r1 5), jv ti, jv (pickI u.s1 5), jv u.ca, jv u.se, u.cv]) O O fun a w6 Z Y => G6 ?_
 refine aa fun _ G7 => nv (Z.p4 1 4 5 10 O) <| xc O <| pq (ac (v := po w0.hz 5) O kr) <| fun a Z => aq 0 Z Y O O O (sizeOf3 _) O (lb O) (ds := [jv u.h, jv nu, jv (pickI u.r1 5), jv ti, jv (pickI u.s1 5), jv ca, jv u.se, u.cv]) O O fun a w7 Z Y => G7 <| aa fun _ G8 => ?_
 refine aE (E := 142) (sz := 5) O [] kr sm O de de Z Y fun a w8 Z Y => nv Z <| pq (ac (v := po w0.hz 7) O kr) <| pq (ld Y 1 O O (isAgg82 _) O) <| fun a Z => ny (i := 0) (sT := 82) (inf := Tryz.t142) (z := .agg #[jv 0, jv 0, jv 0, jv 0, jv 0]) O O O (Y.arge hu.2.1) underlying82 O O O O de (by intro e he; obtain ⟨y, _, rfl⟩ := xT.1 he; simp [Cin.cells, Value.oneCell']) AW AW de Z Y fun a w9 s2 Z Y => ?_
 rw [xR] at Y
 refine wla Z O fun a Z => G8 ?_
 refine ah fun _ G9 => aa fun _ G10 => wla (Z.p4 4 5 10 11 O) O fun a Z => G10 <| au ?_
 refine aY (fun m a w => ∃ (k : Nat) (zs : List Cin), m = zs.length - k ∧ (k ≤ zs.length) ∧ (∀ y ∈ zs, y.wt) ∧ (zs.length ≤ 3518437208883) ∧ Fr 80 [(4, jv how), (5, pt w0.hz), (10, sv ([])), (11, s2), (12, jv (k : Int))] [] a ∧ St No w0 [own s2 142 5 (zs.map Cin.cells), blk w0.hz [jv u.h, jv nu, jv (pickI u.r1 5), jv ti, jv (pickI u.s1 5), jv ca, jv u.se, u.cv] 84] w) _ ⟨0, u.ys, O, xG _, hyw, hyl, Z.pick [4, 5, 10, 11, 12], Y.select [0, 1] de⟩ ?_
 rintro _ a w10 ⟨k, zs, rfl, hk, hzw, hzl, Z, Y⟩
 refine ah fun _ G11 => aa fun _ G12 => nv Z <| xc O <| xc O <| pq ((aH (sT := 82) (Y.ow 0 O) O O (runUnderlying82 _)).asi (m' := (zs.length : Int)) zF) <| pq (v_lt O O) <| fun a Z => G12 <| aA Z O (fun hc3 => ?_) (fun hc3 => ?_)
 ·try simp only [qz] at hc3
  refine aw <| G11 <| ah fun _ G13 => au <| aa fun _ G14 => nv Z <| xc O <| xc O <| pq ((ao (i := (k : Int)) (sT := 82) (Y.ow 0 O) O O (runUnderlying82 _) (sizeOf142 _) om zm).as (v' := slAddr s2 (k * 5)) O) <| pq (dJ (k := k * 5) (j := 1) (Y.ow 0 O) (i := k) zm O O (fun _ _ => by kernel_rfl)) <| fun a Z => ?_
  obtain ⟨zt4, hezt4, hlzt4, hwzt4⟩ := sD (zs := zs) (k := k) (j := 1) zm de zn
  refine dR (k := k) (j := 1) (els' := (zt4.map Cin.cells)) 0 Z Y O O O zm om (sizeOf3 _) (by simp [Value.oneCell', Value.cells]) de hezt4 O fun a w11 Z Y => G14 ?_
  refine al <| nv (Z.p5 4 5 10 11 12 O) <| xc O <| xc O <| pq ((ao (i := (k : Int)) (sT := 82) (Y.ow 0 O) O O (runUnderlying82 _) (sizeOf142 _) om zm).as (v' := slAddr s2 (k * 5)) O) <| pq (dJ (k := k * 5) (j := 3) (Y.ow 0 O) (i := k) zm O O (fun _ _ => by kernel_rfl)) <| fun a Z => ?_
  obtain ⟨zt5, hezt5, hlzt5, hwzt5⟩ := sD (zs := zt4) (k := k) (j := 3) zm de zn
  refine dR (k := k) (j := 3) (els' := (zt5.map Cin.cells)) 0 Z Y O O O zm om (sizeOf3 _) (by simp [Value.oneCell', Value.cells]) de hezt5 O fun a w12 Z Y => ab <| G13 <| al <| nv Z <| xc O <| pq (aP O O ⟨om, om⟩) <| xd O <| fun a Z => ab ?_
  refine ⟨_, ?_, k + 1, zt5, O, om, hwzt5, om, Z.pick [4, 5, 10, 11, 12], Y.select [0, 1] de⟩
  omega
 try simp only [qz] at hc3
 refine aO <| G9 <| aa fun _ G15 => nv Z <| xc O <| pq (ac (v := po w0.hz 7) O kr) <| fun a Z => cb 1 Z Y (Y.ow 0 O) O O O (sizeOf82 _) (lb O) (ds := [jv u.h, jv nu, jv (pickI u.r1 5), jv ti, jv (pickI u.s1 5), jv ca, jv u.se, s2]) O O fun a w13 Z Y => G15 ?_
 replace Z := Z.p3 4 5 10 O
 obtain ⟨x, hx⟩ : ∃ x, madeW u.h nu (pickI u.r1 5) ti (pickI u.s1 5) ca u.se zs = x := ⟨_, rfl⟩
 obtain ⟨ps, hps⟩ : ∃ ps, madeL u.h nu (pickI u.r1 5) ti (pickI u.s1 5) zs = ps := ⟨_, rfl⟩
 have hmk : Mk x ps := by rw [← hx, ← hps]; exact vz _ _ _ _ _ _ _ _
 have hxd := Wsh.ok_bnd hmk.ok
 obtain ⟨xb, hbw⟩ : ∃ bw, bentW x (how.tdiv 8) (pickI how 10) = bw := ⟨_, rfl⟩
 refine aa fun _ G16 => wlv Z (ai (Y.g 1 O) O (isAgg84 _) (sizeOf84 _)) fun a Z => bt Z Y de call32 O (wo hx hps (Y.ow 0 O) hzw u1 Ai Ai Ai Ai Ai u7) fun a w14 x7 hp Z Y => ?_
 revert x7 hp Z Y; rintro pv6 hp Z Y
 clear hp
 replace Y := Y.n3 O
 refine nv Z <| xc O <| pq (ar O O) <| pq (ar O O) <| fun a Z => aB Z Y de (zeroValue90 _) (cs := [jv 0, jv 0, jv 0, jv 0, jv 0, jv 0, jv 0, jv 0, .string (⟨#[]⟩)]) O fun a w15 Z Y => aq 0 Z Y O O O (sizeOf90 _) O (lb O) (ds := [jv x.signer, jv x.holder, jv x.rf, jv x.rt, jv x.carrier, jv x.serial, jv x.sf, jv x.st, sv x.sig]) O O fun a w16 Z Y => wla Z O fun a Z => G16 ?_
 replace Z := Z.p4 4 10 13 14 O
 replace Y := Y.k3 7 O
 refine ah fun _ G17 => aa fun _ G18 => wlm Z O fun a Z => ax Z Y de call44 O (di how 8 _ zC Ax) fun a w17 Z Y => wlv Z (v_eq O O) fun a Z => G18 <| aA Z O (fun hc8 => ?_) (fun hc8 => ?_)
 ·try simp only [qz] at hc8
  refine aL kr (aM kr fun w18 hxz => ?_)
  replace Y := Y.grow hxz
  refine aU (k := 0) 5 [0, 2, 4] Z kr kr kr rfx ?_
  refine bS 5 (Z.p6 4 10 13 14 61 62 O) Y kr kr <| pl_w (fun Y => ai (Y.g 0 O) O (isAgg90 _) (sizeOf90 _)) <| pl_m O <| pl_v (sL O O de ⟨om, om⟩) <| pl_m O <| pl_r (fun Y => bK call44 O (di how 10 _ zC Ax)) fun a w19 Z Y => ?_
  replace Z := Z.p6 10 13 14 65 67 69 O
  refine ab <| aN (k := 5) 7 [6] kr kr kr ?_
  refine ax Z Y de call105 O (wu hbw (oJ hhow de) om om) fun a w20 Z Y => wlm Z O fun a Z => ab <| aU (k := 7) 10 [8, 9] Z kr kr kr rfx ?_
  replace Z := Z.p8 10 13 14 65 67 69 70 64 O
  replace Y := Y.s3 [0, 1, 2] de rfl
  refine gA [2] (fun q => if q = 2 then blk w14.hz [jv x.signer, jv x.holder, jv x.rf, jv x.rt, jv x.carrier, jv x.serial, jv x.sf, jv x.st, sv x.sig] 90 else join []) (fun q => if q = 2 then blk w14.hz [jv xb.signer, jv xb.holder, jv xb.rf, jv xb.rt, jv xb.carrier, jv xb.serial, jv xb.sf, jv xb.st, sv xb.sig] 90 else join []) 3 [[], [], [0]] (fun i => match i with | 0 => pv (.agg #[jv xb.signer, jv xb.holder, jv xb.rf, jv xb.rt, jv xb.carrier, jv xb.serial, jv xb.sf, jv xb.st, sv xb.sig]) | 1 => pv (.bool (!(decide (xb = x)))) | 2 => fun v E => v = undef ∧ E = [] | _ => fun _ _ => False) AY Z (H := [own pv6 144 7 (ps.map Pxy.cells), own s2 142 5 (zs.map Cin.cells)]) Y kr kr kr kr de de ?_ ?_ ?_ ?_ ?_ ?_
  ·intro i v E h
   match i, h with
   | 0, _ => exact by decide
   | 1, _ => exact by decide
   | 2, _ => exact by decide
   | i + 3, h => exact h.elim
  ·intro q v E hq h
   simp only [xn, xr, xO] at hq
   rcases hq with rfl <;> exact h
  ·intro q hq
   simp only [xn, xr, xO] at hq
   rcases hq with rfl <;> exact ⟨rfl, rfl⟩
  ·intro i hi hiq e
   match i, hi, hiq with
   | 0, _, _ => exact fun w Y => OpV.g (ar O O)
   | 1, _, _ => exact fun w Y => OpV.g (ar O O)
   | 2, _, h => exact absurd de h
  ·intro q hq
   simp only [xn, xr, xO] at hq
   rcases hq with rfl
   ·rintro _ _ ⟨rfl, rfl⟩
    intro w h
    exact dk (cs := [jv x.signer, jv x.holder, jv x.rf, jv x.rt, jv x.carrier, jv x.serial, jv x.sf, jv x.st, sv x.sig]) (ds := [jv xb.signer, jv xb.holder, jv xb.rf, jv xb.rt, jv xb.carrier, jv xb.serial, jv xb.sf, jv xb.st, sv xb.sig]) O O h (sizeOf90 _) O (lb O) O
  clear Z Y
  rintro _ _ ⟨rfl, rfl⟩ _ _ ⟨rfl, rfl⟩ a w21 Z Y
  replace Z := Z.p10 71 72 10 13 14 65 67 69 70 64 O
  try dsimp only at Y
  replace Y := Y.n3 O
  refine ab <| aT kr ?_
  refine G17 ?_
  refine aa fun _ G19 => nv (Z.p3 10 13 14 O) <| pq (ai (Y.g 0 O) O (isAgg90 _) (sizeOf90 _)) <| xc O <| fun a Z => ?_
  obtain ⟨et, ee, hen⟩ : ∃ t e, encT xb ps = (t, e) := ⟨_, _, rfl⟩
  have hel := iP hen
  refine ax Z Y de call106 O (lE (x := xb) (ps := ps) (t := et) (e := ee) hen (Y.ow 1 O)) fun a w22 Z Y => nv Z <| xc O <| pq (ar O O) <| pq (ar O O) <| xd O <| xd O <| fun a Z => G19 ?_
  replace Y := Y.k1 4 O
  refine aa fun _ G20 => nv (Z.p2 10 15 O) <| xc O <| xd O <| fun a Z => G20 <| ap ?_
  refine am Z results45 (ag O ae) ?_
  exact ⟨et, O, hel, Y.ext, St.out (E := []) (H := []) (Y.select [] de)⟩
 try simp only [qz] at hc8
 refine aw <| G17 <| aa fun _ G21 => nv Z <| pq (ai (Y.g 0 O) O (isAgg90 _) (sizeOf90 _)) <| xc O <| fun a Z => ?_
 obtain ⟨et, ee, hen⟩ : ∃ t e, encT x ps = (t, e) := ⟨_, _, rfl⟩
 have hel := iP hen
 refine ax Z Y de call106 O (lE (x := x) (ps := ps) (t := et) (e := ee) hen (Y.ow 1 O)) fun a w23 Z Y => nv Z <| xc O <| pq (ar O O) <| pq (ar O O) <| xd O <| xd O <| fun a Z => G21 ?_
 replace Y := Y.k1 4 O
 refine aa fun _ G22 => nv (Z.p2 10 15 O) <| xc O <| xd O <| fun a Z => G22 <| ap ?_
 refine am Z results45 (ag O ae) ?_
 exact ⟨et, O, hel, Y.ext, St.out (E := []) (H := []) (Y.select [] de)⟩
theorem rL (cr : Int) (v1 : Value) (cs : List Pr2) (v2 : Value) (ns : List Nin) (v3 : Value) (hs : List Int) (w0 : World) (hv1 : SlAt w0 v1 2 (cs.map Pr2.cells)) (hv2 : SlAt w0 v2 8 (ns.map Nin.cells)) (hns : ∀ u ∈ ns, u.wt w0) (hv3 : SlAt w0 v3 1 (hs.map fun z : Int => [jv z])) (hcr : i64 cr) (hcs : ∀ y ∈ cs, y.wt) (hhs : ∀ z ∈ hs, i64 z) :
  Ret Tryz.prog 12 #[.agg #[jv cr, v1, v2, v3]] w0 (MemR w0 (fun x : Int × Value × List Cas => .agg #[jv x.1, x.2.1]) (fun x => [own x.2.1 55 3 (x.2.2.map Cas.cells)]) (fun x => Doc x.1 x.2.2)) := by
 have hxb1 := hv1.2.1
 have hxb2 := hv2.2.1
 have hxb3 := hv3.2.1
 simp only [xg, big] at hxb1 hxb2 hxb3
 obtain ⟨c, hcc⟩ : ∃ c, pickI cr 8 = c := ⟨_, rfl⟩
 have hcb := aW cr (n := 8) de
 rw [hcc] at hcb
 have hcr1 := hcr
 unfold i64 at hcr1
 refine zc func12 O ntmps12 (lb O) fun a Z Y => ?_
 refine aa fun _ G1 => aS Z Y de O (cs := [jv cr, v1, v2, v3]) O fun a w1 Z Y => aB Z Y de (zeroValue32 _) (cs := [jv 0, .slice none 0 0]) O fun a w2 Z Y => G1 <| aa fun _ G2 => ?_
 refine nv Z <| pq (ac (v := pt w0.hz) O kr) <| pq (ld Y 1 O O (isAgg3 _) O) <| fun a Z => ax Z Y de call44 O (gY hcc (di cr 8 _ zC de)) fun a w3 Z Y => wlv Z (bj (v := .agg #[jv c, .slice none 0 0]) O kr) fun a Z => aB Z Y de (zeroValue32 _) (cs := [jv 0, .slice none 0 0]) O fun a w4 Z Y => aq 0 Z Y O O O (sizeOf32 _) O (lb O) (ds := [jv c, .slice none 0 0]) O O fun a w5 Z Y => G2 <| aa fun _ G3 => ?_
 refine wla Z O fun a Z => G3 <| ah fun _ G4 => ?_
 refine aa fun _ G5 => wla Z O fun a Z => G5 <| au ?_
 replace Y : St No w0 [own (.slice none 0 0) 55 3 (([] : List Cas).map Cas.cells), blk w3.hz [jv c, .slice none 0 0] 32, blk w1.hz [jv 0, .slice none 0 0] 32, blk w0.hz [jv cr, v1, v2, v3] 26] w5 := Y.nil_own
 refine aY (fun m a w => ∃ (k : Nat) (n : Int) (v : Value) (l : List Cas), m = 6 - k ∧ (k ≤ 6) ∧ (l.length = k) ∧ (ascC (-1) l = true) ∧ (lastC (-1) l = n) ∧ (-1 ≤ n ∧ n < 4 * (k : Int)) ∧ (∀ x ∈ l, x.n ≤ 23 ∧ x.t < 10000) ∧ Fr 78 [(1, pt w0.hz), (2, pt w1.hz), (3, pt w3.hz), (4, jv n), (5, jv (k : Int))] [] a ∧ St No w0 [own v 55 3 ((l).map Cas.cells), blk w3.hz [jv c, v] 32, blk w1.hz [jv 0, .slice none 0 0] 32, blk w0.hz [jv cr, v1, v2, v3] 26] w) _ ⟨0, -1, .slice none 0 0, [], O, de, O, O, O, de, sm, Z.pick [1, 2, 3, 4, 5], Y.select [0, 1, 2, 3] de⟩ ?_
 rintro _ a w6 ⟨k, n, v, l, rfl, hk, hlen, hasc, hln, hnb, hall, Z, Y⟩
 refine ah fun _ G6 => aa fun _ G7 => nv Z <| xc O <| pq (ac (v := po w0.hz 1) O kr) <| pq (ld Y 3 O O (isAgg22 _) O) <| pq ((aH (sT := 22) (Y.arg hv1) O O (runUnderlying22 _)).asi (m' := (cs.length : Int)) zF) <| pq (v_lt O O) <| xc O <| fun a Z => ?_
 rcases xh (decide ((k : Int) < (cs.length : Int))) with hb1 | hb1
 ·rw [hb1] at Z
  try simp only [qz] at hb1
  have hkx : k < cs.length := by omega
  refine nv Z <| xe (az O) <| xe (v_lt O O) <| pq (ay O O) <| fun a Z => G7 ?_
  replace Z := Z.p6 1 2 3 4 5 19 O
  refine aA Z O (fun hc2 => ?_) (fun hc2 => ?_)
  ·try simp only [qz] at hc2
   refine aw <| G6 <| ah fun _ G8 => au ?_
   obtain ⟨y, hy⟩ : ∃ y, cs.getD k Pr2.z = y := ⟨_, rfl⟩
   have hyw := hcs _ (bA (d := Pr2.z) hkx)
   rw [hy] at hyw
   obtain ⟨hya, hyb⟩ := hyw
   have g1 := hya
   have g2 := hyb
   unfold i64 at g1 g2
   have p1 := aW y.a (n := 4) de
   have p2 := aW y.b (n := 10000) de
   refine aa fun _ G9 => nv Z <| xc O <| pq (aP O O ⟨om, om⟩) <| pq (ac (v := po w0.hz 1) O kr) <| pq (ld Y 3 O O (isAgg22 _) O) <| xc O <| pq ((ao (i := (k : Int)) (sT := 22) (Y.arg hv1) O O (runUnderlying22 _) (sizeOf63 _) om zm).as (v' := slAddr v1 (k * 2)) O) <| pq (dJ (k := k * 2) (j := 0) (Y.arg hv1) (i := k) zm O O (fun _ _ => by kernel_rfl)) <| pq (aD (u := jv y.a) (i := k) (j := 0) (Y.arg hv1) zm O (isAgg3 _) (by rw [bE Pr2.z, hy]; rfl)) <| fun a Z => ax Z Y de call44 O (di y.a 4 _ zC de) fun a w7 Z Y => nv Z <| pq (aP O O ⟨om, om⟩) <| xd O <| fun a Z => G9 ?_
   refine aa fun _ G10 => nv (Z.p5 1 2 3 5 4 O) <| xc O <| pq (ac (v := po w0.hz 1) O kr) <| pq (ld Y 3 O O (isAgg22 _) O) <| xc O <| pq ((ao (i := (k : Int)) (sT := 22) (Y.arg hv1) O O (runUnderlying22 _) (sizeOf63 _) om zm).as (v' := slAddr v1 (k * 2)) O) <| pq (dJ (k := k * 2) (j := 1) (Y.arg hv1) (i := k) zm O O (fun _ _ => by kernel_rfl)) <| pq (aD (u := jv y.b) (i := k) (j := 1) (Y.arg hv1) zm O (isAgg3 _) (by rw [bE Pr2.z, hy]; rfl)) <| fun a Z => ax Z Y de call44 O (di y.b 10000 _ zC de) fun a w8 Z Y => ?_
   refine wlv Z (bj (v := .agg #[jv ((n + 1) + (pickI y.a 4)), jv (pickI y.b 10000), sv ([] : By)]) O kr) fun a Z => aB Z Y de (zeroValue55 _) (cs := [jv 0, jv 0, .string (⟨#[]⟩)]) O fun a w9 Z Y => aq 0 Z Y O O O (sizeOf55 _) O (lb O) (ds := [jv ((n + 1) + (pickI y.a 4)), jv (pickI y.b 10000), sv ([] : By)]) O O fun a w10 Z Y => G10 ?_
   refine ah fun _ G11 => aa fun _ G12 => nv (Z.p6 1 2 3 5 4 6 O) <| xc O <| pq (ac (v := po w0.hz 2) O kr) <| pq (ld Y 4 O O (isAgg23 _) O) <| pq ((aH (sT := 23) (Y.arg hv2) O O (runUnderlying23 _)).asi (m' := (ns.length : Int)) zF) <| pq (v_lt O O) <| xc O <| fun a Z => ?_
   rcases xh (decide ((k : Int) < (ns.length : Int))) with hb3 | hb3
   ·rw [hb3] at Z
    try simp only [qz] at hb3
    refine nv Z <| xe (az O) <| xe (ac (v := po w0.hz 3) O kr) <| xe (ld Y 4 O O (isAgg24 _) O) <| xe ((aH (sT := 24) (Y.arg hv3) O O (runUnderlying24 _)).asi (m' := (hs.length : Int)) zF) <| xe (v_lt O O) <| pq (ay O O) <| fun a Z => G12 ?_
    replace Z := Z.p7 1 2 3 5 4 6 52 O
    refine aA Z O (fun hc4 => ?_) (fun hc4 => ?_)
    ·try simp only [qz] at hc4
     obtain ⟨u, hud⟩ : ∃ u, ns.getD k Nin.z = u := ⟨_, rfl⟩
     have huw := hns _ (bA (d := Nin.z) (show k < ns.length by omega))
     rw [hud] at huw
     have hhw := hhs _ (bA (d := (0 : Int)) (show k < hs.length by omega))
     refine aL kr (aM kr fun w11 hxz => ?_)
     replace Y := Y.grow hxz
     refine aU (k := 0) 16 [4, 6, 8, 10, 15] Z kr kr kr rfx ?_
     replace Z := Z.p6 1 2 3 5 4 6 O
     refine bS 16 Z Y kr kr <| pl_v (ac (v := po w0.hz 2) O kr) <| pl_w (fun Y => ld Y 4 O O (isAgg23 _) O) <| pl_m O <| pl_w (fun Y => (ao (i := (k : Int)) (sT := 23) (Y.arg hv2) O O (runUnderlying23 _) (sizeOf84 _) om zm).as (v' := slAddr v2 (k * 8)) O) <| pl_w (fun Y => (bN (Y.arg hv2) (i := k) zm O (isAgg84 _) (sizeOf84 _)).as (v' := .agg #[jv u.h, jv u.r0, jv u.r1, jv u.s0, jv u.s1, jv u.ca, jv u.se, u.cv]) (by rw [bE Nin.z, hud]; rfl)) <| pl_v (ac (v := pt w3.hz) O kr) ?_
     refine pl_w (fun Y => ld Y 2 O O (isAgg3 _) O) <| pl_v (ac (v := pt w8.hz) O kr) <| pl_w (fun Y => ld Y 0 O O (isAgg3 _) O) <| pl_v (ac (v := po w8.hz 1) O kr) <| pl_w (fun Y => ld Y 0 O O (isAgg3 _) O) <| pl_v (ac (v := po w0.hz 3) O kr) <| pl_w (fun Y => ld Y 4 O O (isAgg24 _) O) <| pl_m O <| pl_w (fun Y => (ao (i := (k : Int)) (sT := 24) (Y.arg hv3) O O (runUnderlying24 _) (sizeOf3 _) om zm).as (v' := slAddr v3 (k * 1)) O) ?_
     refine pl_w (fun Y => aD (u := jv (hs.getD k 0)) (i := k) (j := 0) (Y.arg hv3) zm O (isAgg3 _) Aw) fun a w12 Z Y => ?_
     replace Z := Z.p11 1 2 3 5 4 6 57 59 61 63 68 O
     refine ab <| aN (k := 16) 19 [18] kr kr kr ?_
     refine bt Z Y de call45 O (vO u c ((n + 1) + (pickI y.a 4)) (pickI y.b 10000) (hs.getD k 0) _ (huw.grow Y.ext) Ai Ai Ai hhw) fun a w13 x6 hp Z Y => ?_
     revert x6 hp Z Y; rintro es5 hp Z Y
     have hes5 := hp
     replace Y := Y.n5 O
     refine wlv Z (ac (v := po w8.hz 2) O kr) fun a Z => aq 0 Z Y O O O (sizeOf9 _) O (lb O) (ds := [jv ((n + 1) + (pickI y.a 4)), jv (pickI y.b 10000), sv es5]) O O fun a w14 Z Y => ab <| aT kr ?_
     refine G11 ?_
     refine al <| nv (Z.p6 1 2 3 5 4 6 O) <| pq (ac (v := po w3.hz 1) O kr) <| pq (ld Y 2 O O (isAgg30 _) O) <| pq (ai (Y.g 0 O) O (isAgg55 _) (sizeOf55 _)) <| fun a Z => aE (E := 55) (sz := 3) O [[jv ((n + 1) + (pickI y.a 4)), jv (pickI y.b 10000), sv es5]] kr sm O de de Z Y fun a w15 Z Y => bn (i := 2) (sT := 30) (inf := Tryz.t55) (z := .agg #[jv 0, jv 0, .string (⟨#[]⟩)]) (b := 0) (off := 0) (m := 0) (c := 0) O O O (Y.ow 0 O) sm underlying30 O O O O de zo zI zI de Z Y fun a w16 s7 Z Y _ => ?_
     rw [show ((l).map Cas.cells) ++ ([[jv ((n + 1) + (pickI y.a 4)), jv (pickI y.b 10000), sv es5]]) = ((l ++ [(⟨((n + 1) + (pickI y.a 4)), (pickI y.b 10000), es5⟩ : Cas)]).map Cas.cells) from by rw [yo]; rfl] at Y
     refine wlv Z (ac (v := po w3.hz 1) O kr) fun a Z => cb 3 Z Y (Y.ow 2 O) O O O (sizeOf30 _) (lb O) (ds := [jv c, s7]) O O fun a w17 Z Y => ab <| G8 ?_
     replace Y := Y.k4 60 O
     refine al <| nv (Z.p5 1 2 3 5 4 O) <| xc O <| pq (aP O O ⟨om, om⟩) <| xd O <| fun a Z => ab ?_
     refine ⟨_, ?_, k + 1, ((n + 1) + (pickI y.a 4)), s7, (l ++ [(⟨((n + 1) + (pickI y.a 4)), (pickI y.b 10000), es5⟩ : Cas)]), O, om, (by simp [hlen]), (m8 hasc hln AK AD zV (aW y.b (n := 10000) de).1 (aW y.b (n := 10000) de).2 (by first | assumption | simp)), fD, om, (co hall ⟨zV, (aW y.b (n := 10000) de).2⟩), Z.pick [1, 2, 3, 4, 5], Y.select [0, 1, 2, 3] de⟩
     omega
    try simp only [qz] at hc4
    refine aw <| G11 <| al <| nv Z <| pq (ac (v := po w3.hz 1) O kr) <| pq (ld Y 2 O O (isAgg30 _) O) <| pq (ai (Y.g 0 O) O (isAgg55 _) (sizeOf55 _)) <| fun a Z => aE (E := 55) (sz := 3) O [[jv ((n + 1) + (pickI y.a 4)), jv (pickI y.b 10000), sv ([] : By)]] kr sm O de de Z Y fun a w18 Z Y => bn (i := 2) (sT := 30) (inf := Tryz.t55) (z := .agg #[jv 0, jv 0, .string (⟨#[]⟩)]) (b := 0) (off := 0) (m := 0) (c := 0) O O O (Y.ow 0 O) sm underlying30 O O O O de zo zI zI de Z Y fun a w19 s8 Z Y _ => ?_
    rw [show ((l).map Cas.cells) ++ ([[jv ((n + 1) + (pickI y.a 4)), jv (pickI y.b 10000), sv ([] : By)]]) = ((l ++ [(⟨((n + 1) + (pickI y.a 4)), (pickI y.b 10000), ([] : By)⟩ : Cas)]).map Cas.cells) from by rw [yo]; rfl] at Y
    refine wlv Z (ac (v := po w3.hz 1) O kr) fun a Z => cb 3 Z Y (Y.ow 2 O) O O O (sizeOf30 _) (lb O) (ds := [jv c, s8]) O O fun a w20 Z Y => ab <| G8 ?_
    replace Y := Y.k4 60 O
    refine al <| nv (Z.p5 1 2 3 5 4 O) <| xc O <| pq (aP O O ⟨om, om⟩) <| xd O <| fun a Z => ab ?_
    refine ⟨_, ?_, k + 1, ((n + 1) + (pickI y.a 4)), s8, (l ++ [(⟨((n + 1) + (pickI y.a 4)), (pickI y.b 10000), ([] : By)⟩ : Cas)]), O, om, (by simp [hlen]), (m8 hasc hln AK AD zV (aW y.b (n := 10000) de).1 (aW y.b (n := 10000) de).2 (by first | assumption | simp)), fD, om, (co hall ⟨zV, (aW y.b (n := 10000) de).2⟩), Z.pick [1, 2, 3, 4, 5], Y.select [0, 1, 2, 3] de⟩
    omega
   rw [hb3] at Z
   try simp only [qz] at hb3
   refine nv Z <| xf <| xf <| xf <| xf <| xf <| pq (aj O O) <| fun a Z => G12 ?_
   replace Z := Z.p7 1 2 3 5 4 6 52 O
   refine aJ Z O ?_
   refine aw <| G11 <| al <| nv Z <| pq (ac (v := po w3.hz 1) O kr) <| pq (ld Y 2 O O (isAgg30 _) O) <| pq (ai (Y.g 0 O) O (isAgg55 _) (sizeOf55 _)) <| fun a Z => aE (E := 55) (sz := 3) O [[jv ((n + 1) + (pickI y.a 4)), jv (pickI y.b 10000), sv ([] : By)]] kr sm O de de Z Y fun a w21 Z Y => bn (i := 2) (sT := 30) (inf := Tryz.t55) (z := .agg #[jv 0, jv 0, .string (⟨#[]⟩)]) (b := 0) (off := 0) (m := 0) (c := 0) O O O (Y.ow 0 O) sm underlying30 O O O O de zo zI zI de Z Y fun a w22 s9 Z Y _ => ?_
   rw [show ((l).map Cas.cells) ++ ([[jv ((n + 1) + (pickI y.a 4)), jv (pickI y.b 10000), sv ([] : By)]]) = ((l ++ [(⟨((n + 1) + (pickI y.a 4)), (pickI y.b 10000), ([] : By)⟩ : Cas)]).map Cas.cells) from by rw [yo]; rfl] at Y
   refine wlv Z (ac (v := po w3.hz 1) O kr) fun a Z => cb 3 Z Y (Y.ow 2 O) O O O (sizeOf30 _) (lb O) (ds := [jv c, s9]) O O fun a w23 Z Y => ab <| G8 ?_
   replace Y := Y.k4 60 O
   refine al <| nv (Z.p5 1 2 3 5 4 O) <| xc O <| pq (aP O O ⟨om, om⟩) <| xd O <| fun a Z => ab ?_
   refine ⟨_, ?_, k + 1, ((n + 1) + (pickI y.a 4)), s9, (l ++ [(⟨((n + 1) + (pickI y.a 4)), (pickI y.b 10000), ([] : By)⟩ : Cas)]), O, om, (by simp [hlen]), (m8 hasc hln AK AD zV (aW y.b (n := 10000) de).1 (aW y.b (n := 10000) de).2 (by first | assumption | simp)), fD, om, (co hall ⟨zV, (aW y.b (n := 10000) de).2⟩), Z.pick [1, 2, 3, 4, 5], Y.select [0, 1, 2, 3] de⟩
   omega
  try simp only [qz] at hc2
  refine aO <| G4 <| aa fun _ G13 => wlv Z (ai (Y.g 1 O) O (isAgg32 _) (sizeOf32 _)) fun a Z => aV (us := [jv c, v]) 2 Z Y O O O (sizeOf32 _) zH (lb O) (ds := [jv c, v]) O O fun a w24 Z Y => ?_
  refine G13 ?_
  replace Z := Z.p1 2 O
  replace Y := Y.k2 5 O
  refine ap <| am Z results12 (ak O (bf (Y.g 1 O) (isAgg32 _) (sizeOf32 _)) ae) ?_
  exact ⟨(c, v, l), O, sN hcb hasc (show l.length ≤ 6 by omega) hall, Y.ext, St.out (E := [own v 55 3 (l.map Cas.cells)]) (H := []) (Y.select [0] de)⟩
 rw [hb1] at Z
 try simp only [qz] at hb1
 refine nv Z <| xf <| xf <| pq (aj O O) <| fun a Z => G7 ?_
 replace Z := Z.p6 1 2 3 4 5 19 O
 refine aJ Z O ?_
 refine aO <| G4 <| aa fun _ G14 => wlv Z (ai (Y.g 1 O) O (isAgg32 _) (sizeOf32 _)) fun a Z => aV (us := [jv c, v]) 2 Z Y O O O (sizeOf32 _) zH (lb O) (ds := [jv c, v]) O O fun a w25 Z Y => ?_
 refine G14 ?_
 replace Z := Z.p1 2 O
 replace Y := Y.k2 5 O
 refine ap <| am Z results12 (ak O (bf (Y.g 1 O) (isAgg32 _) (sizeOf32 _)) ae) ?_
 exact ⟨(c, v, l), O, sN hcb hasc (show l.length ≤ 6 by omega) hall, Y.ext, St.out (E := [own v 55 3 (l.map Cas.cells)]) (H := []) (Y.select [0] de)⟩
theorem Doc.at {c : Int} {l : List Cas} (h : Doc c l) {i : Nat} (hi : i < l.length) : (0 ≤ (l.getD i Cas.z).n ∧ (l.getD i Cas.z).n ≤ 23) ∧ (0 ≤ (l.getD i Cas.z).t ∧ (l.getD i Cas.z).t < 10000) ∧ (l.getD i Cas.z).ev.length ≤ 900 := by
 have hm := pa hi
 have h1 := Cas.bnd (ln h.1 _ hm)
 have h2 := h.2.2 _ hm
 omega
theorem Doc.car {c : Int} {l : List Cas} (h : Doc c l) : 0 ≤ c ∧ c ≤ 7 := fj h.1
theorem Doc.swap {c e : Int} {l k : List Cas} (h : Doc c l) (h2 : Doc e k) : Doc c k := by
 refine ⟨?_, h2.2⟩
 have h3 := h2.1
 have h4 := fj h.1
 unfold docOk inB at h3 ⊢
 simp only [xi, xk] at h3 ⊢
 exact ⟨⟨h3.1.1, h4⟩, h3.2⟩
theorem mK {xs : List By} {k : Nat} {s : By} (hk : k < (xs.map fun s => [sv s]).length) : (xs.map fun s => [sv s]).set k (splice (xs.map fun s => [sv s])[k] 0 [sv s]) = (xs.set k s).map fun s => [sv s] := by
 rw [yW]
 congr 1
 rw [yI]; rfl
theorem mV {xs : List By} {k n : Nat} {s : By} (h : ∀ z ∈ xs, z.length ≤ n) (hs : s.length ≤ n) : ∀ z ∈ xs.set k s, z.length ≤ n := by
 intro z hz
 rcases List.mem_or_eq_of_mem_set hz with hz | rfl
 ·exact h z hz
 ·exact hs
theorem gW {xs : List By} {k n : Nat} (h : ∀ z ∈ xs, z.length ≤ n) : (xs.getD k []).length ≤ n := by
 rw [xl]
 rcases Nat.lt_or_ge k xs.length with hk | hk
 ·rw [xo hk]; exact h _ (ya hk)
 ·rw [yQ hk]; exact xG _
theorem oI (c : Int) (lv : Value) (l : List Cas) (how at_ : Int) (w0 : World) (hlv : SlAt w0 lv 3 (l.map Cas.cells)) (hD : Doc c l) (hhow : i64 how) (hat : i64 at_) :
  Ret Tryz.prog 29 #[.agg #[jv c, lv], jv how, jv at_] w0 (MemR w0 (fun x : Value × List By => .agg #[jv c, x.1]) (fun x => [own x.1 9 1 (x.2.map fun s => [sv s])]) (fun x => x.2.length = l.length ∧ ∀ s ∈ x.2, s.length ≤ 927)) := by
 have hxb := hlv.2.1
 simp only [xg, big] at hxb
 have hcb := hD.car
 have hll := hD.2.1
 have g0 := hhow
 have g1 := hat
 unfold i64 at g0 g1
 refine zd func29 O ntmps29 (lb O) fun a Z Y => ?_
 refine aa fun _ G1 => aS Z Y de O (cs := [jv c, lv]) O fun a w1 Z Y => aB Z Y de (zeroValue75 _) (cs := [jv 0, .slice none 0 0]) O fun a w2 Z Y => G1 <| aa fun _ G2 => ?_
 refine wlv Z (ai (Y.g 1 O) O (isAgg32 _) (sizeOf32 _)) fun a Z => bt Z Y de call27 O (qB c lv l _ (Y.arg hlv) om) fun a w3 x2 hp Z Y => ?_
 revert x2 hp Z Y; rintro ev1 hp Z Y
 clear hp
 replace Y := Y.n3 O
 refine aB Z Y de (zeroValue75 _) (cs := [jv 0, .slice none 0 0]) O fun a w4 Z Y => aV (us := [jv c, ev1]) 0 Z Y O O O (sizeOf75 _) zu (lb O) (ds := [jv c, ev1]) O O fun a w5 Z Y => ?_
 refine G2 <| aa fun _ G3 => ?_
 refine nv Z <| pq (ac (v := po w3.hz 1) O kr) <| pq (ld Y 0 O O (isAgg44 _) O) <| pq ((aH (sT := 44) (Y.ow 1 O) O O (runUnderlying44 _)).asi (m' := (l.length : Int)) (by rw [xg]; congr 1; first | exact bC _ | (rw [yi]; exact bC _))) <| xd O <| fun a Z => G3 ?_
 replace Z := Z.p5 1 2 6 7 8 O
 replace Y := Y.k3 7 O
 refine ah fun _ G4 => aa fun _ G5 => nv Z <| xc O <| pq (v_eq O O) <| fun a Z => G5 <| aA Z O (fun hc3 => ?_) (fun hc3 => ?_)
 ·try simp only [qz] at hc3
  refine aa fun _ G6 => wlv Z (ai (Y.g 0 O) O (isAgg75 _) (sizeOf75 _)) fun a Z => aV (us := [jv c, ev1]) 2 Z Y O O O (sizeOf75 _) zu (lb O) (ds := [jv c, ev1]) O O fun a w6 Z Y => ?_
  refine G6 <| ap ?_
  refine am Z results29 (ak O (bf (Y.g 2 O) (isAgg75 _) (sizeOf75 _)) ae) ?_
  have hal := gh l
  exact ⟨(ev1, entC l), O, ⟨by simp [bC], hal⟩, Y.ext, St.out (E := [own ev1 9 1 ((entC l).map fun s => [sv s])]) (H := []) (Y.select [1] de)⟩
 try simp only [qz] at hc3
 refine aw <| G4 ?_
 obtain ⟨iq, hjiq⟩ : ∃ m : Nat, pickI at_ (l.length : Int) = (m : Int) := ⟨_, (yE (aW _ (n := (l.length : Int)) om).1).symm⟩
 have hjiql := (aW at_ (n := (l.length : Int)) om).2
 rw [hjiq] at hjiql
 refine aa fun _ G7 => nv Z <| xc O <| xc O <| fun a Z => ax Z Y de call44 O (gY hjiq (di at_ (l.length : Int) _ zC om)) fun a w7 Z Y => wla Z O fun a Z => G7 ?_
 replace Z := Z.p5 1 6 7 8 9 O
 refine ah fun _ G8 => aa fun _ G9 => wlm Z O fun a Z => ax Z Y de call44 O (di how 3 _ zC de) fun a w8 Z Y => wlv Z (v_eq O O) fun a Z => G9 <| aA Z O (fun hc4 => ?_) (fun hc4 => ?_)
 ·try simp only [qz] at hc4
  refine aa fun _ G10 => nv Z <| pq (ac (v := po w3.hz 1) O kr) <| pq (ld Y 0 O O (isAgg44 _) O) <| xc O <| pq ((ao (i := (iq : Int)) (sT := 44) (Y.ow 1 O) O O (runUnderlying44 _) (sizeOf9 _) om zw).as (v' := slAddr ev1 (iq * 1)) At) <| fun a Z => dR (k := iq) (j := 0) (els' := (((entC l).set iq ([120])).map fun s => [sv s])) 1 Z Y O O O zw om (sizeOf9 _) (by simp [Value.oneCell', sv, Value.cells]) (lb O) (mK _) O fun a w9 Z Y => G10 ?_
  refine aa fun _ G11 => wlv (Z.p5 1 6 7 8 9 O) (ai (Y.g 0 O) O (isAgg75 _) (sizeOf75 _)) fun a Z => aV (us := [jv c, ev1]) 2 Z Y O O O (sizeOf75 _) zu (lb O) (ds := [jv c, ev1]) O O fun a w10 Z Y => ?_
  refine G11 <| ap ?_
  refine am Z results29 (ak O (bf (Y.g 2 O) (isAgg75 _) (sizeOf75 _)) ae) ?_
  have hal := gh l
  exact ⟨(ev1, (entC l).set iq ([120])), O, ⟨by simp [bC], mV hal (by first | decide | exact gW hal)⟩, Y.ext, St.out (E := [own ev1 9 1 (((entC l).set iq ([120])).map fun s => [sv s])]) (H := []) (Y.select [1] de)⟩
 try simp only [qz] at hc4
 refine aw <| G8 ?_
 obtain ⟨kq, hjkq⟩ : ∃ m : Nat, pickI (how.tdiv 3) (l.length : Int) = (m : Int) := ⟨_, (yE (aW _ (n := (l.length : Int)) om).1).symm⟩
 have hjkql := (aW (how.tdiv 3) (n := (l.length : Int)) om).2
 rw [hjkq] at hjkql
 refine aa fun _ G12 => nv Z <| xc O <| pq (sL O O de ⟨om, om⟩) <| xc O <| fun a Z => ax Z Y de call44 O (gY hjkq (di (how.tdiv 3) (l.length : Int) _ (oJ hhow de) om)) fun a w11 Z Y => wla Z O fun a Z => G12 ?_
 replace Z := Z.p4 6 7 9 10 O
 refine ah fun _ G13 => aL kr (aM kr fun w12 hxz => ?_)
 replace Y := Y.grow hxz
 refine aU (k := 0) 18 [4, 5, 17] Z kr kr kr rfx ?_
 replace Z := Z.p4 6 7 9 10 O
 replace Y := Y.s3 [1, 0, 2] de rfl
 have hso5 := Y.ow 0 rfl
 refine kR (e0 := own ev1 9 1 ((entC l).map fun s => [sv s])) (e1 := own ev1 9 1 (((entC l).set iq ((entC l).getD kq [])).map fun s => [sv s])) 17 [10, 15] 18 [[], [0], [], [], [3], [], [], [6], [], [7, 8], [9], [], [11], [], [12, 13], [14], [1, 2], [10, 16, 15]] (fun i => match i with | 0 => pv (po w3.hz 1) | 1 => pv (ev1) | 2 => pv (jv (iq : Int)) | 3 => pv (po w3.hz 1) | 4 => pv (ev1) | 5 => pv (jv (kq : Int)) | 6 => pv (po w3.hz 1) | 7 => pv (ev1) | 8 => pv (jv (kq : Int)) | 9 => pv (slAddr ev1 (kq * 1)) | 10 => pv (sv ((entC l).getD kq [])) | 11 => pv (po w3.hz 1) | 12 => pv (ev1) | 13 => pv (jv (iq : Int)) | 14 => pv (slAddr ev1 (iq * 1)) | 15 => pv (sv ((entC l).getD iq [])) | 16 => pv (slAddr ev1 (iq * 1)) | 17 => fun v E => v = undef ∧ E = [] | _ => fun _ _ => False) O Z (H := [blk w3.hz [jv c, ev1] 75, blk w1.hz [jv 0, .slice none 0 0] 75]) Y kr kr kr kr de de ?_ (fun v E h => h) ⟨O, O⟩ ?_ ?_ ?_
 ·intro i v E h
  match i, h with
  | 0, _ => exact by decide
  | 1, _ => exact by decide
  | 2, _ => exact by decide
  | 3, _ => exact by decide
  | 4, _ => exact by decide
  | 5, _ => exact by decide
  | 6, _ => exact by decide
  | 7, _ => exact by decide
  | 8, _ => exact by decide
  | 9, _ => exact by decide
  | 10, _ => exact by decide
  | 11, _ => exact by decide
  | 12, _ => exact by decide
  | 13, _ => exact by decide
  | 14, _ => exact by decide
  | 15, _ => exact by decide
  | 16, _ => exact by decide
  | 17, _ => exact by decide
  | i + 18, h => exact h.elim
 ·intro i hi hiq e he
  match i, hi, hiq, he with
  | 0, _, _, he => exact fun w Y => OpV.g (ac (v := po w3.hz 1) O kr)
  | 1, _, _, he =>
   rintro _ _ ⟨rfl, rfl⟩
   intro w Y
   exact OpV.g (ld Y 1 O O (isAgg44 _) O)
  | 2, _, _, he => exact fun w Y => OpV.g (az O)
  | 3, _, _, he => exact fun w Y => OpV.g (ac (v := po w3.hz 1) O kr)
  | 4, _, _, he =>
   rintro _ _ ⟨rfl, rfl⟩
   intro w Y
   exact OpV.g (ld Y 1 O O (isAgg44 _) O)
  | 5, _, _, he => exact fun w Y => OpV.g (az O)
  | 6, _, _, he => exact fun w Y => OpV.g (ac (v := po w3.hz 1) O kr)
  | 7, _, _, he =>
   rintro _ _ ⟨rfl, rfl⟩
   intro w Y
   exact OpV.g (ld Y 1 O O (isAgg44 _) O)
  | 8, _, _, he => exact fun w Y => OpV.g (az O)
  | 9, _, _, he =>
   rintro _ _ ⟨rfl, rfl⟩ _ _ ⟨rfl, rfl⟩
   intro w Y
   exact OpV.g ((eq (i := (kq : Int)) hso5 O O (runUnderlying44 _) (sizeOf9 _) om zw).as (v' := slAddr ev1 (kq * 1)) O)
  | 10, _, _, he =>
   rcases he with rfl | ⟨he, _⟩
   rotate_left
   exact absurd de he
   rintro _ _ ⟨rfl, rfl⟩
   intro w Y
   exact OpV.g (aD (u := sv ((entC l).getD kq [])) (i := kq) (j := 0) (Y.ow 0 O) zw O (isAgg9 _) Al)
  | 11, _, _, he => exact fun w Y => OpV.g (ac (v := po w3.hz 1) O kr)
  | 12, _, _, he =>
   rintro _ _ ⟨rfl, rfl⟩
   intro w Y
   exact OpV.g (ld Y 1 O O (isAgg44 _) O)
  | 13, _, _, he => exact fun w Y => OpV.g (az O)
  | 14, _, _, he =>
   rintro _ _ ⟨rfl, rfl⟩ _ _ ⟨rfl, rfl⟩
   intro w Y
   exact OpV.g ((eq (i := (iq : Int)) hso5 O O (runUnderlying44 _) (sizeOf9 _) om zw).as (v' := slAddr ev1 (iq * 1)) O)
  | 15, _, _, he =>
   rcases he with rfl | ⟨he, _⟩
   rotate_left
   exact absurd de he
   rintro _ _ ⟨rfl, rfl⟩
   intro w Y
   exact OpV.g (aD (u := sv ((entC l).getD iq [])) (i := iq) (j := 0) (Y.ow 0 O) zw O (isAgg9 _) Al)
  | 16, _, _, he =>
   rintro _ _ ⟨rfl, rfl⟩ _ _ ⟨rfl, rfl⟩
   intro w Y
   exact OpV.g ((eq (i := (iq : Int)) hso5 O O (runUnderlying44 _) (sizeOf9 _) om zw).as (v' := slAddr ev1 (iq * 1)) O)
  | 17, _, h, _ => exact absurd O h
  | i + 18, h, _, _ => exact absurd h om
 ·rintro _ _ ⟨rfl, rfl⟩ _ _ ⟨rfl, rfl⟩ _ _ ⟨rfl, rfl⟩
  intro w h
  exact o0 (k := iq) (j := 0) O O h zw om (sizeOf9 _) (by simp [Value.oneCell', yv, wv, sv, Value.cells]) (lb O) (els' := (((entC l).set iq ((entC l).getD kq [])).map fun s => [sv s])) (mK _)
 clear Z Y
 rintro _ _ ⟨rfl, rfl⟩ _ _ ⟨rfl, rfl⟩ _ _ ⟨rfl, rfl⟩ _ _ ⟨rfl, rfl⟩ _ _ ⟨rfl, rfl⟩ _ _ ⟨rfl, rfl⟩ _ _ ⟨rfl, rfl⟩ _ _ ⟨rfl, rfl⟩ _ _ ⟨rfl, rfl⟩ _ _ ⟨rfl, rfl⟩ _ _ ⟨rfl, rfl⟩ _ _ ⟨rfl, rfl⟩ _ _ ⟨rfl, rfl⟩ _ _ ⟨rfl, rfl⟩ _ _ ⟨rfl, rfl⟩ _ _ ⟨rfl, rfl⟩ _ _ ⟨rfl, rfl⟩ a w13 Z Y
 replace Z : Fr 53 [(34, _), (35, _), (36, _), (37, _), (38, _), (39, _), (40, _), (41, _), (42, _), (43, _), (44, _), (45, _), (46, _), (47, _), (48, _), (49, _), (50, _), (6, _), (7, _), (9, _), (10, _)] [] a := Z
 replace Y := Y.s3 [0, 1, 2] de rfl
 refine ab <| aN (k := 18) 20 [19] kr kr kr ?_
 refine wlv Z ((ao (i := (kq : Int)) (sT := 44) (Y.ow 0 O) O O (runUnderlying44 _) (sizeOf9 _) om zw).as (v' := slAddr ev1 (kq * 1)) (by rw [show ((kq : Int)).toNat = kq from by omega])) fun a Z => dR (k := kq) (j := 0) (els' := ((((entC l).set iq ((entC l).getD kq [])).set kq ((entC l).getD iq [])).map fun s => [sv s])) 0 Z Y O O O zw om (sizeOf9 _) (by simp [Value.oneCell', sv, Value.cells]) (lb O) (mK _) O fun a w14 Z Y => ab <| aT kr ?_
 refine G13 ?_
 refine aa fun _ G14 => wlv (Z.p2 6 7 O) (ai (Y.g 1 O) O (isAgg75 _) (sizeOf75 _)) fun a Z => aV (us := [jv c, ev1]) 2 Z Y O O O (sizeOf75 _) zH (lb O) (ds := [jv c, ev1]) O O fun a w15 Z Y => ?_
 refine G14 <| ap ?_
 refine am Z results29 (ak O (bf (Y.g 2 O) (isAgg75 _) (sizeOf75 _)) ae) ?_
 have hal := gh l
 exact ⟨(ev1, ((entC l).set iq ((entC l).getD kq [])).set kq ((entC l).getD iq [])), O, ⟨by simp [bC], mV (mV hal (by first | decide | exact gW hal)) (by first | decide | exact gW hal)⟩, Y.ext, St.out (E := [own ev1 9 1 ((((entC l).set iq ((entC l).getD kq [])).set kq ((entC l).getD iq [])).map fun s => [sv s])]) (H := []) (Y.select [0] de)⟩
theorem ir {f : FuncId} {args : Array Value} {w : World} {a b : Value} (h : a = b) (hr : Ret Tryz.prog f args w fun v w' => v = a ∧ Ext No w w') : Ret Tryz.prog f args w fun v w' => v = b ∧ Ext No w w' := by subst h; exact hr
theorem gl {X : Type} {w w' : World} {f : X → Value} {E : X → List Ent} {p q : X → Prop} {v : Value} (h : MemR w f E p v w') (hq : ∀ x, p x → q x) : MemR w f E q v w' := by
 obtain ⟨x, h1, h2, h3⟩ := h
 exact ⟨x, h1, hq x h2, h3⟩
section
variable {key : By} {hd : Hd} {c : Int} {l : List Cas} {es : List By} {n : Nat} {ix ixa ixb : List Int} {L La Lb : List Itw} {num : Int}
theorem dz (hD : docOk c l = true) (hk : key.length = 32) (hhd : hdOf sha key c (entC l) l.length = hd) (hix : ascI (l.length : Int) (-1) ix = true) (hL : itsM L = showIs sha (entC l) l.length ix) : checkP sha key hd (itsM L) = true := by
 rw [hL, ← hhd]; exact kN dK hk (jy hD) (by rw [bC]; omega) hix
theorem cL (hr : regOk c es = true) (hn : n ≤ es.length) (hk : key.length = 32) (hhd : hdOf sha key c es n = hd) (hix : ascI (n : Int) (-1) ix = true) (hL : itsM L = showIs sha es n ix) : checkP sha key hd (itsM L) = true := by
 rw [hL, ← hhd]; exact kN dK hk hr hn hix
theorem bU (hn : n ≤ 60) (hL : itsM L = showIs sha es n ix) : ∀ x ∈ L, x.m.pf.length ≤ 1000 := fun x hx => xZ (vy hL hn x hx) de
theorem dP (hL : itsM L = showIs sha es n ix) : L.length = ix.length := by
 have := xI List.length hL
 rwa [eL, showIs, xg] at this
theorem eo (hL : itsM L = showIs sha es n ix) {k : Nat} (hk : k < ix.length) : (L.getD k Itw.z).m = itmAt sha es n (ix.getD k 0) := by
 have h1 : (itsM L).getD k Itm.z = (L.getD k Itw.z).m := by
  have hl := dP hL
  rw [itsM, xl, yp, xl, xo om]; rfl
 rw [← h1, hL, showIs, xl, yp, xl, xo hk]; rfl
theorem rr (hL : itsM L = showIs sha (entC l) l.length ix) (h : docOk c l = true) (hix : ascI (l.length : Int) (-1) ix = true) (hn : ¬ thereC l num) : hasF num (itsM L) = none := by
 cases hq : hasF num (itsM L) with
 | none => rfl
 | some d =>
  rw [hL] at hq
  obtain ⟨i, h1, h2, h3⟩ := vo h hix hq
  exact absurd ⟨i, h1, by rw [h2]; exact h3⟩ hn
theorem lP (hL : itsM L = showIs sha (entC l) l.length ix) (hhd : hdOf sha key c (entC l) l.length = hd) (h : docOk c l = true) (hix : ascI (l.length : Int) (-1) ix = true) (ht : thereC l num) : lackF hd.n num (-1) false (itsM L) = false := by
 rw [hL, ← hhd]; exact tt h hix ht
theorem hO (hL : itsM L = showIs sha (entC l) l.length (ansIx l num)) (hhd : hdOf sha key c (entC l) l.length = hd) (h : docOk c l = true) (hh : hitC l num = false) : lackF hd.n num (-1) false (itsM L) = true := by
 rw [hL, ← hhd]; exact tc h hh
theorem uF (hL : itsM L = showIs sha (entC l) l.length (ansIx l num)) (h : docOk c l = true) (hh : hitC l num = true) : hasF num (itsM L) = some (l.getD (lowC num l) Cas.z) := by rw [hL]; exact uS h hh
theorem dU (h : docOk c l = true) (hia : ascI (l.length : Int) (-1) ixa = true) (hib : ascI (l.length : Int) (-1) ixb = true) (ha : itsM La = showIs sha (entC l) l.length ixa) (hb : itsM Lb = showIs sha (entC l) l.length ixb) : crookF (itsM La) (itsM Lb) = false := by rw [ha, hb]; exact mw h hia hib
end
section
variable {ks : List By} {key : By} {q : Chg} {lim t : Int} {r : Rpl}
theorem lz {p : Rpl → Bool} : firstF p none [r] = if p r = true then some r.at_ else none := by
 show nextO p none r = _
 unfold nextO lessO
 rw [yV]
theorem fu {bk bb : Bool} (h1 : keptB sha ks key q (q.a + lim) t r = bk) (h2 : backB sha key q (q.a + lim) t r = bb) : stateH sha ks key lim q [r] t = pickS (if bk = true then some r.at_ else none) (if bb = true then some r.at_ else none) q (q.a + lim) t := by
 unfold stateH
 rw [lz, lz, h1, h2]
end
theorem vw : exS.length ≤ 900 := iP (x := exW) (ps := [exP]) (e := 0) (by unfold encT; rw [pI])
theorem ch : docOk 3 exC = true := by
 have h := vw
 unfold docOk exC
 simp only [ascC, Cas.ok, inB]
 rw [xt h]
 rfl
theorem vv : exC.length = 3 := rfl
theorem ix1000 : ansIx exC 1000 = [0] := by decide
theorem ix1500 : ansIx exC 1500 = [1] := by decide
theorem ix1200 : ansIx exC 1200 = [0, 1] := by decide
theorem ix500 : ansIx exC 500 = [0] := by decide
theorem ix3000 : ansIx exC 3000 = [2] := by decide
theorem uX : hitC exC 1500 = true := by decide
theorem nb : hitC exC 1200 = false := by decide
theorem hit500 : hitC exC 500 = false := by decide
theorem vp : hitC exC 3000 = false := by decide
theorem lK : thereC exC 1000 := ⟨0, by decide, rfl⟩
theorem jn : ¬ thereC exC 1200 := fun h => by have := (qN ch).2 h; rw [nb] at this; cases this
section
variable {hd : Hd} {L : List Itw}
theorem mz {key : By} (hk : key.length = 32) (hhd : hdOf sha key 3 (entC exC) exC.length = hd) (hL : itsM L = showIs sha (entC exC) exC.length (ansIx exC 1000)) (hol t en : Int) (hen : 320 ≤ en - 1) (iv : Value) :
  (320 ≤ t → keptB sha keysH key ⟨1000, 1, 3, 150, 300⟩ en t (Rpw.m ⟨320, hd, iv, L⟩) = true) ∧ (t < 320 → keptB sha keysH key ⟨1000, hol, 3, 150, 300⟩ en t (Rpw.m ⟨320, hd, iv, L⟩) = false) ∧ backB sha key ⟨1000, hol, 3, 150, 300⟩ en t (Rpw.m ⟨320, hd, iv, L⟩) = false ∧ (hol ≠ 1 → keptB sha keysH key ⟨1000, hol, 3, 150, 300⟩ en t (Rpw.m ⟨320, hd, iv, L⟩) = false) := by
 have hix := cP exC 1000
 have hc := dz ch hk hhd hix hL
 have hdc : hd.c = 3 := by rw [← hhd]; rfl
 have hm : itmAt sha (entC exC) exC.length 0 ∈ itsM L := by rw [hL, ix1000]; exact xM.2 rfl
 have hd0 : decCas (itmAt sha (entC exC) exC.length 0).e = some ⟨1000, 150, exS⟩ := cX ch de de
 refine ⟨fun ht => ?_, fun ht => ?_, ?_, fun hn => ?_⟩
 ·exact g7.2 ⟨iU.2 ⟨⟨by show (300 : Int) ≤ 320; decide, hen, ht⟩, hdc, hc⟩, t6 hm hd0 O O uk O O uj⟩
 ·rw [Bool.eq_false_iff]; intro h
  have := (iU.1 (g7.1 h).1).1.2.2
  have : (320 : Int) ≤ t := this
  omega
 ·rw [Bool.eq_false_iff]; intro h
  have h9 : lackF hd.n 1000 (-1) false (itsM L) = true := (nh.1 h).2
  rw [lP hL hhd ch hix lK] at h9
  cases h9
 ·rw [Bool.eq_false_iff]; intro h
  obtain ⟨x, hx, d, h1, h2, h3, w, ps, h4, h5, _⟩ := kw (g7.1 h).2
  have hx : x ∈ itsM L := hx
  rw [hL, ix1000] at hx
  have hx := xM.1 hx
  rw [hx, hd0] at h1
  cases h1
  rw [uk] at h4
  cases h4
  exact hn h5.symm
theorem ex_b {key : By} (hk : key.length = 32) (hhd : hdOf sha key 3 (entC exC) exC.length = hd) (hL : itsM L = showIs sha (entC exC) exC.length (ansIx exC 1200)) (iv : Value) :
  keptB sha keysH key ⟨1200, 1, 3, 150, 300⟩ 350 310 (Rpw.m ⟨310, hd, iv, L⟩) = false ∧ backB sha key ⟨1200, 1, 3, 150, 300⟩ 350 310 (Rpw.m ⟨310, hd, iv, L⟩) = true := by
 have hix := cP exC 1200
 have hc := dz ch hk hhd hix hL
 have hdc : hd.c = 3 := by rw [← hhd]; rfl
 refine ⟨?_, ?_⟩
 ·rw [Bool.eq_false_iff]; intro h
  obtain ⟨x, hx, d, h1, h2, _⟩ := kw (g7.1 h).2
  have hx : x ∈ itsM L := hx
  rw [hL] at hx
  obtain ⟨i, hi, rfl⟩ := dt hx
  have hb := dA hix i hi
  rw [cX ch om hb.2] at h1
  exact jn ⟨i.toNat, by omega, by rw [yr h1]; exact h2⟩
 ·exact nh.2 ⟨iU.2 ⟨⟨by show (300 : Int) ≤ 310; decide, by show (310 : Int) ≤ 350 - 1; decide, by show (310 : Int) ≤ 310; decide⟩, hdc, hc⟩, hO hL hhd ch nb⟩
theorem gt {key : By} (hk : key.length = 32) (hhd : hdOf sha key 3 (entC exC) exC.length = hd) (hL : itsM L = showIs sha (entC exC) exC.length (ansIx exC 1000)) (iv : Value) :
  stateH sha keysH key 50 ⟨1000, 1, 3, 150, 300⟩ (repsM [⟨320, hd, iv, L⟩]) 320 = (2, 320) ∧ stateH sha keysH key 50 ⟨1000, 1, 3, 150, 300⟩ (repsM [⟨320, hd, iv, L⟩]) 319 = (1, 300) ∧ stateH sha keysH key 50 ⟨1000, 2, 3, 150, 300⟩ (repsM [⟨320, hd, iv, L⟩]) 349 = (1, 300) ∧ stateH sha keysH key 50 ⟨1000, 2, 3, 150, 300⟩ (repsM [⟨320, hd, iv, L⟩]) 350 = (3, 350) := by
 have a := mz hk hhd hL 1 320 350 de iv
 have b := mz hk hhd hL 1 319 350 de iv
 have d := mz hk hhd hL 2 349 350 de iv
 have e := mz hk hhd hL 2 350 350 de iv
 exact ⟨fu (lim := 50) (a.1 de) a.2.2.1, fu (lim := 50) (b.2.1 de) b.2.2.1, fu (lim := 50) (d.2.2.2 de) d.2.2.1, fu (lim := 50) (e.2.2.2 de) e.2.2.1⟩
theorem rp {key : By} (hk : key.length = 32) (hhd : hdOf sha key 3 (entC exC) exC.length = hd) (hL : itsM L = showIs sha (entC exC) exC.length (ansIx exC 1200)) (iv : Value) :
  stateH sha keysH key 50 ⟨1200, 1, 3, 150, 300⟩ (repsM [⟨310, hd, iv, L⟩]) 310 = (3, 310) := by
 have a := ex_b hk hhd hL iv
 exact fu (lim := 50) a.1 a.2
end
theorem lR {key : By} : stateH sha keysH key 50 ⟨1000, 1, 3, 150, 300⟩ (repsM []) 349 = (1, 300) ∧ stateH sha keysH key 50 ⟨1000, 1, 3, 150, 300⟩ (repsM []) 350 = (3, 350) := ⟨rfl, rfl⟩
theorem rF {La Lo L : List Itw} (ha : itsM La = showIs sha (entC exC) exC.length (ansIx exC 1500)) (ho : itsM Lo = showIs sha (entC exC) exC.length (ansIx exC 1000)) (hL : itsM L = showIs sha [(La.getD 0 Itw.z).m.e, (Lo.getD 0 Itw.z).m.e] 2 [0, 1]) : crookF (itsM L) (itsM L) = true := by
 have e1 : decCas (La.getD 0 Itw.z).m.e = some ⟨1500, 160, []⟩ := by
  rw [eo ha (k := 0) (by rw [ix1500]; decide), ix1500]; exact cX ch de de
 have e2 : decCas (Lo.getD 0 Itw.z).m.e = some ⟨1000, 150, exS⟩ := by
  rw [eo ho (k := 0) (by rw [ix1000]; decide), ix1000]; exact cX ch de de
 rw [hL]
 refine oB (fR (x := itmAt sha [(La.getD 0 Itw.z).m.e, (Lo.getD 0 Itw.z).m.e] 2 0) (y := itmAt sha [(La.getD 0 Itw.z).m.e, (Lo.getD 0 Itw.z).m.e] 2 1) (by simp [showIs]) (by simp [showIs]) (c := ⟨1500, 160, []⟩) (d := ⟨1000, 150, exS⟩) e1 e2 (show (0 : Int) < 1 by decide) (show (1000 : Int) ≤ 1500 by decide))
theorem gK {La Lo : List Itw} (ha : itsM La = showIs sha (entC exC) exC.length (ansIx exC 1500)) (ho : itsM Lo = showIs sha (entC exC) exC.length (ansIx exC 1000)) : regOk 3 [(La.getD 0 Itw.z).m.e, (Lo.getD 0 Itw.z).m.e] = true := by
 refine nE O (show 2 ≤ 60 by decide) fun s hs => ?_
 have h1 : ∀ {L : List Itw} {n : Int}, itsM L = showIs sha (entC exC) exC.length (ansIx exC n) → 0 < (ansIx exC n).length → (L.getD 0 Itw.z).m.e.length ≤ 1000 := by
  intro L n hL hn
  rw [eo hL hn]
  exact xZ (gW (gh exC)) de
 simp only [xn, xr, xO] at hs
 rcases hs with rfl | rfl
 ·exact h1 ha (by rw [ix1500]; decide)
 ·exact h1 ho (by rw [ix1000]; decide)
theorem qd {x : Wsh} {lv : Value} {ps : List Pxy} {s : By} {w0 : World} (hlv : SlAt w0 lv 7 (ps.map Pxy.cells)) (h : cU x ps = some s) : Ret Tryz.prog 35 #[.agg #[jv x.signer, jv x.holder, jv x.rf, jv x.rt, jv x.carrier, jv x.serial, jv x.sf, jv x.st, sv x.sig], lv] w0 fun v w => v = .tuple #[sv s, jv 0] ∧ Ext No w0 w := by
 have := rS x lv ps w0 hlv
 rw [h] at this
 exact this
theorem wr (w0 : World) (hk0 : (blk 0 (kOf.map wv) 258).ok w0) :
  Ret Tryz.prog 104 #[] w0 fun v w => v = sv exS ∧ Ext No w0 w := by
 refine aC func104 O ntmps104 (lb O) fun a Z => ?_
 replace Z : Fr 31 [] [] a := Z
 replace Y : St No w0 [] w0 := St.init w0
 refine aa fun _ G1 => wla Z O fun a Z => G1 <| aa fun _ G2 => ?_
 refine ax Z Y de call33 O (iW 1 _) fun a w1 Z Y => nv Z <| pq (bj (v := .agg #[jv 1000, jv 2000]) O kr) <| pq (bj (v := .agg #[jv 100, jv 500]) O kr) <| pq (bj (v := .agg #[jv 1, jv 2, jv 1000, jv 2000, jv 100, jv 500, sv ([] : By)]) O kr) <| fun a Z => ax Z Y de call151 O (mA (keyH 1) ⟨1, 2, 1000, 2000, 100, 500, []⟩ _ (fS _) de (Y.keepb hk0)) fun a w2 Z Y => nv Z <| xc O <| pq (ar O O) <| pq (ar O O) <| fun a Z => aB Z Y de (zeroValue144 _) (cs := [jv 0, jv 0, jv 0, jv 0, jv 0, jv 0, .string (⟨#[]⟩)]) O fun a w3 Z Y => aq 0 Z Y O O O (sizeOf144 _) O (lb O) (ds := [jv exP.frm, jv exP.to, jv exP.rf, jv exP.rt, jv exP.sf, jv exP.st, sv exP.sig]) O O fun a w4 Z Y => wla Z O fun a Z => G2 ?_
 refine aa fun _ G3 => ax (Z.p2 0 1 O) Y de call33 O (iW 2 _) fun a w5 Z Y => nv Z <| pq (bj (v := .agg #[jv 1000, jv 1200]) O kr) <| pq (bj (v := .agg #[jv 150, jv 200]) O kr) <| pq (bj (v := .agg #[jv 2, jv 1, jv 1000, jv 1200, jv 3, jv 7, jv 150, jv 200, sv ([] : By)]) O kr) <| fun a Z => ax Z Y de call34 O (nC (keyH 2) ⟨2, 1, 1000, 1200, 3, 7, 150, 200, []⟩ _ (fS _) de (Y.keepb hk0)) fun a w6 Z Y => nv Z <| xc O <| pq (ar O O) <| pq (ar O O) <| fun a Z => aB Z Y de (zeroValue90 _) (cs := [jv 0, jv 0, jv 0, jv 0, jv 0, jv 0, jv 0, jv 0, .string (⟨#[]⟩)]) O fun a w7 Z Y => aq 0 Z Y O O O (sizeOf90 _) O (lb O) (ds := [jv exW.signer, jv exW.holder, jv exW.rf, jv exW.rt, jv exW.carrier, jv exW.serial, jv exW.sf, jv exW.st, sv exW.sig]) O O fun a w8 Z Y => wla Z O fun a Z => G3 ?_
 refine aa fun _ G4 => nv (Z.p3 0 1 3 O) <| pq (ai (Y.g 0 O) O (isAgg90 _) (sizeOf90 _)) <| pq (ai (Y.g 1 O) O (isAgg144 _) (sizeOf144 _)) <| fun a Z => aE (E := 144) (sz := 7) O [[jv exP.frm, jv exP.to, jv exP.rf, jv exP.rt, jv exP.sf, jv exP.st, sv exP.sig]] kr sm O de de Z Y fun a w9 Z Y => ax Z Y de call35 O (qd (x := exW) (ps := [exP]) (Y.ow 0 O) pI) fun a w10 Z Y => nv Z <| xc O <| pq (ar O O) <| pq (ar O O) <| xd O <| xd O <| fun a Z => G4 ?_
 replace Y := Y.k0 0 O
 refine aa fun _ G5 => nv (Z.p2 0 5 O) <| xc O <| xd O <| fun a Z => G5 <| ap ?_
 refine am Z results104 (ag O ae) ?_
 exact ⟨by rfl, Y.ext⟩
theorem wp (w0 : World) (hk0 : (blk 0 (kOf.map wv) 258).ok w0) :
  Ret Tryz.prog 41 #[] w0 (MemR w0 (fun v : Value => .agg #[jv 3, v]) (fun v => [own v 55 3 (exC.map Cas.cells)]) (fun _ => True)) := by
 refine aC func41 O ntmps41 (lb O) fun a Z => ?_
 replace Z : Fr 7 [] [] a := Z
 replace Y : St No w0 [] w0 := St.init w0
 refine aa fun _ G1 => aB Z Y de (zeroValue32 _) (cs := [jv 0, .slice none 0 0]) O fun a w1 Z Y => G1 <| aa fun _ G2 => ?_
 refine ax Z Y de call104 O (wr _ (Y.keepb hk0)) fun a w2 Z Y => nv Z <| pq (bj (v := .agg #[jv 1000, jv 150, sv exS]) O kr) <| pq (bj (v := .agg #[jv 1500, jv 160, sv ([] : By)]) O kr) <| pq (bj (v := .agg #[jv 2000, jv 170, sv ([] : By)]) O kr) <| fun a Z => aE (E := 55) (sz := 3) O [[jv 1000, jv 150, sv exS], [jv 1500, jv 160, sv ([] : By)], [jv 2000, jv 170, sv ([] : By)]] kr sm O de de Z Y fun a w3 Z Y => wlv Z (bj (v := .agg #[jv 3, (.slice (some ⟨w2.hz, 0, none⟩) 3 3)]) O kr) fun a Z => aq 1 Z Y O O O (sizeOf32 _) O (lb O) (ds := [jv 3, (.slice (some ⟨w2.hz, 0, none⟩) 3 3)]) O O fun a w4 Z Y => G2 ?_
 replace Z := Z.p1 0 O
 refine ap <| am Z results41 (ak O (bf (Y.g 1 O) (isAgg32 _) (sizeOf32 _)) ae) ?_
 exact ⟨(.slice (some ⟨w2.hz, 0, none⟩) 3 3), O, trivial, Y.ext, St.out (E := [own (.slice (some ⟨w2.hz, 0, none⟩) 3 3) 55 3 (exC.map Cas.cells)]) (H := []) (Y.select [0] de)⟩
theorem fZ (hd : Hd) (iv : Value) (L : List Itw) (lv : Value) (ix : List Int) (w0 : World) (hiv : ItsAt w0 iv L) (hlv : SlAt w0 lv 1 ((ix).map fun n => [jv n])) (hl : L.length = ix.length) (hix : ∀ k, k < ix.length → (L.getD k Itw.z).m.ix = ix.getD k 0) :
  Ret Tryz.prog 42 #[.agg #[jv hd.c, jv hd.n, sv hd.root, sv hd.tag, iv], lv] w0 fun v w => v = .bool true ∧ Ext No w0 w := by
 have hxb := hiv.len
 have hxc := hlv.2.1
 simp only [xg, big] at hxc
 refine zb func42 O ntmps42 (lb O) fun a Z Y => ?_
 refine aa fun _ G1 => aS Z Y de O (cs := [jv hd.c, jv hd.n, sv hd.root, sv hd.tag, iv]) O fun a w1 Z Y => wla Z O fun a Z => G1 <| ah fun _ G2 => ?_
 refine aa fun _ G3 => nv Z <| pq (ac (v := po w0.hz 4) O kr) <| pq (ld Y 0 O O (isAgg48 _) O) <| pq ((aH (sT := 48) (Y.arg hiv.1) O O (runUnderlying48 _)).asi (m' := (L.length : Int)) zF) <| xc O <| pq ((aH (sT := 24) (Y.arg hlv) O O (runUnderlying24 _)).asi (m' := (ix.length : Int)) zF) <| pq (v_ne O O) <| fun a Z => G3 ?_
 replace Z := Z.p4 1 2 4 11 O
 refine aA Z O (fun hc1 => ?_) (fun hc1 => ?_)
 ·try simp only [qz] at hc1
  exfalso; omega
 try simp only [qz] at hc1
 refine aw <| G2 <| ah fun _ G4 => aa fun _ G5 => wla Z O fun a Z => G5 <| au ?_
 refine aY (fun m a w => ∃ (k : Nat), m = ix.length - k ∧ (k ≤ ix.length) ∧ Fr 29 [(1, lv), (2, pt w0.hz), (5, jv (k : Int))] [] a ∧ St No w0 [blk w0.hz [jv hd.c, jv hd.n, sv hd.root, sv hd.tag, iv] 50] w) _ ⟨0, O, xG _, Z.pick [1, 2, 5], Y.select [0] de⟩ ?_
 rintro _ a w2 ⟨k, rfl, hk, Z, Y⟩
 refine ah fun _ G6 => aa fun _ G7 => nv Z <| xc O <| xc O <| pq ((aH (sT := 24) (Y.arg hlv) O O (runUnderlying24 _)).asi (m' := (ix.length : Int)) zF) <| pq (v_lt O O) <| fun a Z => G7 <| aA Z O (fun hc2 => ?_) (fun hc2 => ?_)
 ·try simp only [qz] at hc2
  have hkx : k < ix.length := by omega
  have hkl := hix k hkx
  refine aw <| G6 <| ah fun _ G8 => au <| ah fun _ G9 => aL kr (aM kr fun w3 hxz => ?_)
  replace Y := Y.grow hxz
  refine aU (k := 0) 10 [5, 9] Z kr kr kr rfx ?_
  replace Z := Z.p6 1 2 5 12 13 14 O
  refine bS 10 Z Y kr kr <| pl_v (ac (v := po w0.hz 4) O kr) <| pl_w (fun Y => ld Y 0 O O (isAgg48 _) O) <| pl_m O <| pl_w (fun Y => (ao (i := (k : Int)) (sT := 48) (Y.arg hiv.1) O O (runUnderlying48 _) (sizeOf110 _) om zm).as (v' := slAddr iv (k * 3)) O) <| pl_w (fun Y => cG (k := k * 3) (j := 0) (Y.arg hiv.1) (i := k) zm O (fun _ _ => by kernel_rfl)) <| pl_w (fun Y => aD (u := jv ((L.getD k Itw.z).m.ix)) (i := k) (j := 0) (Y.arg hiv.1) zm O (isAgg3 _) (by rw [bE Itw.z]; rfl)) <| pl_m O <| pl_m O ?_
  refine pl_w (fun Y => (ao (i := (k : Int)) (sT := 24) (Y.arg hlv) O O (runUnderlying24 _) (sizeOf3 _) om zm).as (v' := slAddr lv (k * 1)) O) <| pl_w (fun Y => aD (u := jv (ix.getD k 0)) (i := k) (j := 0) (Y.arg hlv) zm O (isAgg3 _) Aw) fun a w4 Z Y => ?_
  replace Z := Z.p5 1 2 5 23 27 O
  refine ab <| aN (k := 10) 11 [10] kr kr kr ?_
  refine wlv Z (v_ne O O) fun a Z => ab <| aT kr ?_
  refine G9 <| aA Z O (fun hc3 => ?_) (fun hc3 => ?_)
  ·try simp only [qz] at hc3
   exact absurd hkl hc3
  try simp only [qz] at hc3
  refine aw <| G8 <| al <| nv Z <| xc O <| pq (aP O O ⟨om, om⟩) <| xd O <| fun a Z => ab ?_
  refine ⟨_, ?_, k + 1, O, om, Z.pick [1, 2, 5], Y.select [0] de⟩
  omega
 try simp only [qz] at hc2
 refine aO <| G4 <| aa fun _ G10 => wla Z O fun a Z => G10 ?_
 replace Z := Z.p1 4 O
 replace Y := Y.k0 0 O
 refine ap <| am Z results42 (ag O ae) ?_
 exact ⟨by rfl, Y.ext⟩
theorem fx (n h : Int) (lv : Value) (R : List Rpw) (t s0 s1 : Int) (w0 : World) (hlv : RepAt w0 lv R) (hRp : ∀ r ∈ R, ∀ x ∈ r.L, x.m.pf.length ≤ 1000) (hso : gp (keyG 3) 50 ⟨n, h, 3, 150, 300⟩ R.length t = true) (hs : stateH sha keysH (keyG 3) 50 ⟨n, h, 3, 150, 300⟩ (repsM R) t = (s0, s1)) (hk0 : (blk 0 (kOf.map wv) 258).ok w0) :
  Ret Tryz.prog 43 #[jv n, jv h, lv, jv t, jv s0, jv s1] w0 fun v w => v = .bool true ∧ Ext No w0 w := by
 refine zg func43 O ntmps43 (lb O) fun a Z Y => ?_
 refine aa fun _ G1 => wla Z O fun a Z => G1 <| aa fun _ G2 => ?_
 refine bt Z Y de call18 O (vL _) fun a w1 x2 hp Z Y => ?_
 revert x2 hp Z Y; rintro kv1 hp Z Y
 clear hp
 replace Y := Y.n1 O
 refine ax Z Y de call13 O (kl 3 _ om) fun a w2 Z Y => nv Z <| xc O <| xc O <| pq (bj (v := .agg #[jv n, jv h, jv 3, jv 150, jv 300]) O kr) <| xc O <| xc O <| fun a Z => ax Z Y de call17 O (ir (by rw [hs]) (qT kv1 lv keysH (keyG 3) 50 (⟨n, h, 3, 150, 300⟩ : Chg) R t _ (Y.ow 0 O) (iH Y hlv) hRp hso (Y.keepb hk0))) fun a w3 Z Y => nv Z <| xc O <| pq (ar O O) <| pq (ar O O) <| pq (ar O O) <| xd O <| xd O <| xd O <| fun a Z => G2 ?_
 replace Y := Y.k0 0 O
 refine aa fun _ G3 => nv (Z.p6 4 5 12 13 14 15 O) <| xc O <| pq ((v_eq O O).asb (b' := true) O) <| xc O <| xe (az O) <| xe (az O) <| xe ((v_eq O O).asb (b' := true) sm) <| pq (ay O O) <| xc O <| xe (az O) <| xe (az O) <| xe ((v_eq O O).asb (b' := true) sm) <| pq (ay O O) <| xd O <| fun a Z => G3 ?_
 replace Z := Z.p1 12 O
 refine ap <| am Z results43 (ag O ae) ?_
 exact ⟨by rfl, Y.ext⟩
theorem j5 {key : By} {n h t : Int} {k : Nat} (hk : key.length = 32) (hn : (0 ≤ n ∧ n ≤ 2000) ∧ 0 ≤ h ∧ h ≤ 2) (hl : k ≤ 1) (ht : 300 ≤ t ∧ t ≤ 350) : gp key 50 ⟨n, h, 3, 150, 300⟩ k t = true := by
 simp only [gp, Chg.ok, inB, xi, xk]
 omega
theorem uO (w0 : World) (hk0 : (blk 0 (kOf.map wv) 258).ok w0) :
  Ret Tryz.prog 11 #[] w0 fun v w => v = .bool true ∧ Ext No w0 w := by
 obtain ⟨kk, hkk⟩ : ∃ k, keyG 3 = k := ⟨_, rfl⟩
 have hk32 : kk.length = 32 := by rw [← hkk]; exact oL _
 obtain ⟨hd, hhd⟩ : ∃ h, hdOf sha kk 3 (entC exC) exC.length = h := ⟨_, rfl⟩
 have hxl := vv
 refine aC func11 O ntmps11 (lb O) fun a Z => ?_
 replace Z : Fr 243 [] [] a := Z
 replace Y : St No w0 [] w0 := St.init w0
 refine aa fun _ G1 => wla Z O fun a Z => G1 <| aa fun _ G2 => ?_
 refine ax Z Y de call13 O (ir (by rw [hkk]) (kl 3 _ de)) fun a w1 Z Y => wla Z O fun a Z => G2 <| aa fun _ G3 => ?_
 refine bt Z Y de call41 O (wp _ (Y.keepb hk0)) fun a w2 x2 hp Z Y => ?_
 revert x2 hp Z Y; rintro dv1 hp Z Y
 clear hp
 replace Y := Y.n1 O
 refine aB Z Y de (zeroValue32 _) (cs := [jv 0, .slice none 0 0]) O fun a w3 Z Y => aV (us := [jv 3, dv1]) 0 Z Y O O O (sizeOf32 _) zu (lb O) (ds := [jv 3, dv1]) O O fun a w4 Z Y => ?_
 refine G3 <| aa fun _ G4 => ?_
 refine nv Z <| xc O <| pq (ai (Y.g 0 O) O (isAgg32 _) (sizeOf32 _)) <| fun a Z => bt Z Y de call22 O (eC kk hd 3 dv1 exC 1000 _ (Y.ow 1 O) hk32 ch hhd om (Y.keepb hk0)) fun a w5 x4 hp Z Y => ?_
 obtain ⟨iv3, Liv3⟩ := x4
 have hLiv3 := hp
 try dsimp only at Y
 replace Y := Y.n3 O
 refine nv Z <| xc O <| pq (ar O O) <| pq (ar O O) <| fun a Z => aB Z Y de (zeroValue50 _) (cs := [jv 0, jv 0, .string (⟨#[]⟩), .string (⟨#[]⟩), .slice none 0 0]) O fun a w6 Z Y => aV (us := [jv hd.c, jv hd.n, sv hd.root, sv hd.tag, iv3]) 0 Z Y O O O (sizeOf50 _) zt (lb O) (ds := [jv hd.c, jv hd.n, sv hd.root, sv hd.tag, iv3]) O O fun a w7 Z Y => ?_
 refine wla Z O fun a Z => G4 ?_
 refine aa fun _ G5 => nv (Z.p5 0 1 2 3 4 O) <| xc O <| pq (ai (Y.g 2 O) O (isAgg32 _) (sizeOf32 _)) <| fun a Z => bt Z Y de call22 O (eC kk hd 3 dv1 exC 1500 _ (Y.ow 3 O) hk32 ch hhd om (Y.keepb hk0)) fun a w8 x6 hp Z Y => ?_
 obtain ⟨iv5, Liv5⟩ := x6
 have hLiv5 := hp
 try dsimp only at Y
 replace Y := Y.n5 O
 refine nv Z <| xc O <| pq (ar O O) <| pq (ar O O) <| fun a Z => aB Z Y de (zeroValue50 _) (cs := [jv 0, jv 0, .string (⟨#[]⟩), .string (⟨#[]⟩), .slice none 0 0]) O fun a w9 Z Y => aV (us := [jv hd.c, jv hd.n, sv hd.root, sv hd.tag, iv5]) 0 Z Y O O O (sizeOf50 _) zt (lb O) (ds := [jv hd.c, jv hd.n, sv hd.root, sv hd.tag, iv5]) O O fun a w10 Z Y => ?_
 refine wla Z O fun a Z => G5 ?_
 refine aa fun _ G6 => nv (Z.p7 0 1 2 3 4 5 6 O) <| xc O <| pq (ai (Y.g 4 O) O (isAgg32 _) (sizeOf32 _)) <| fun a Z => bt Z Y de call22 O (eC kk hd 3 dv1 exC 1200 _ (Y.ow 5 O) hk32 ch hhd om (Y.keepb hk0)) fun a w11 x8 hp Z Y => ?_
 obtain ⟨iv7, Liv7⟩ := x8
 have hLiv7 := hp
 try dsimp only at Y
 replace Y := Y.n7 O
 refine nv Z <| xc O <| pq (ar O O) <| pq (ar O O) <| fun a Z => aB Z Y de (zeroValue50 _) (cs := [jv 0, jv 0, .string (⟨#[]⟩), .string (⟨#[]⟩), .slice none 0 0]) O fun a w12 Z Y => aV (us := [jv hd.c, jv hd.n, sv hd.root, sv hd.tag, iv7]) 0 Z Y O O O (sizeOf50 _) zt (lb O) (ds := [jv hd.c, jv hd.n, sv hd.root, sv hd.tag, iv7]) O O fun a w13 Z Y => ?_
 refine wla Z O fun a Z => G6 ?_
 refine aa fun _ G7 => nv (Z.p9 0 1 2 3 4 5 6 7 8 O) <| xc O <| pq (ai (Y.g 6 O) O (isAgg32 _) (sizeOf32 _)) <| fun a Z => bt Z Y de call22 O (eC kk hd 3 dv1 exC 500 _ (Y.ow 7 O) hk32 ch hhd om (Y.keepb hk0)) fun a w14 x10 hp Z Y => ?_
 obtain ⟨iv9, Liv9⟩ := x10
 have hLiv9 := hp
 try dsimp only at Y
 replace Y := Y.n9 O
 refine nv Z <| xc O <| pq (ar O O) <| pq (ar O O) <| fun a Z => aB Z Y de (zeroValue50 _) (cs := [jv 0, jv 0, .string (⟨#[]⟩), .string (⟨#[]⟩), .slice none 0 0]) O fun a w15 Z Y => aV (us := [jv hd.c, jv hd.n, sv hd.root, sv hd.tag, iv9]) 0 Z Y O O O (sizeOf50 _) zt (lb O) (ds := [jv hd.c, jv hd.n, sv hd.root, sv hd.tag, iv9]) O O fun a w16 Z Y => ?_
 refine wla Z O fun a Z => G7 ?_
 refine aa fun _ G8 => nv (Z.p11 0 1 2 3 4 5 6 7 8 9 10 O) <| xc O <| pq (ai (Y.g 8 O) O (isAgg32 _) (sizeOf32 _)) <| fun a Z => bt Z Y de call22 O (eC kk hd 3 dv1 exC 3000 _ (Y.ow 9 O) hk32 ch hhd om (Y.keepb hk0)) fun a w17 x12 hp Z Y => ?_
 obtain ⟨iv11, Liv11⟩ := x12
 have hLiv11 := hp
 try dsimp only at Y
 replace Y := Y.n11 O
 refine nv Z <| xc O <| pq (ar O O) <| pq (ar O O) <| fun a Z => aB Z Y de (zeroValue50 _) (cs := [jv 0, jv 0, .string (⟨#[]⟩), .string (⟨#[]⟩), .slice none 0 0]) O fun a w18 Z Y => aV (us := [jv hd.c, jv hd.n, sv hd.root, sv hd.tag, iv11]) 0 Z Y O O O (sizeOf50 _) zt (lb O) (ds := [jv hd.c, jv hd.n, sv hd.root, sv hd.tag, iv11]) O O fun a w19 Z Y => ?_
 refine wla Z O fun a Z => G8 ?_
 refine aa fun _ G9 => nv (Z.p13 0 1 2 3 4 5 6 7 8 9 10 11 12 O) <| xc O <| pq (ai (Y.g 10 O) O (isAgg32 _) (sizeOf32 _)) <| fun a Z => ax Z Y de call23 O (qZ kk hd 3 dv1 exC _ (Y.ow 11 O) hk32 ch hhd (Y.keepb hk0)) fun a w20 Z Y => nv Z <| xc O <| pq (ar O O) <| pq (ar O O) <| fun a Z => aB Z Y de (zeroValue47 _) (cs := [jv 0, jv 0, .string (⟨#[]⟩), .string (⟨#[]⟩)]) O fun a w21 Z Y => aq 0 Z Y O O O (sizeOf47 _) O (lb O) (ds := [jv hd.c, jv hd.n, sv hd.root, sv hd.tag]) O O fun a w22 Z Y => wla Z O fun a Z => G9 ?_
 refine ah fun _ G10 => aa fun _ G11 => nv (Z.p15 0 1 2 3 4 5 6 7 8 9 10 11 12 13 14 O) <| xc O <| pq ((v_ne O O).asb (b' := false) O) <| xc O <| xe (az O) <| xe ((v_ne O O).asb (b' := false) O) <| pq (aj O O) <| xc O <| xe (az O) <| xe ((v_ne O O).asb (b' := false) O) <| pq (aj O O) <| xc O <| xe (az O) <| xe ((v_ne O O).asb (b' := false) O) <| pq (aj O O) <| xc O <| xe (az O) <| xe ((v_ne O O).asb (b' := false) O) <| pq (aj O O) <| xc O <| xe (az O) <| xe ((v_ne O O).asb (b' := false) O) <| pq (aj O O) <| xc O <| xe (ai (Y.g 9 O) O (isAgg50 _) (sizeOf50 _)) <| fun a Z => ey Z O O de O ?_
 refine aE (E := 3) (sz := 1) O [[jv 0]] kr sm O de de Z Y fun a w23 Z Y => aF Z Y de O de O call42 O (fZ hd iv3 Liv3 (.slice (some ⟨w22.hz, 0, none⟩) 1 1) [0] _ (bc (k := 11) Y O) (Y.ow 0 O) (by rw [dP hLiv3, ix1000] <;> rfl) (fun k hk => by rw [eo hLiv3 (by rw [ix1000]; exact hk), ix1000] <;> rfl)) fun a w24 Z Y => nv Z <| xe ((bu O).asb (b' := false) O) <| pq (aj O O) <| xc O <| xe (ai (Y.g 8 O) O (isAgg50 _) (sizeOf50 _)) <| fun a Z => ey Z O O de O ?_
 refine aE (E := 3) (sz := 1) O [[jv 1]] kr sm O de de Z Y fun a w25 Z Y => aF Z Y de O de O call42 O (fZ hd iv5 Liv5 (.slice (some ⟨w24.hz, 0, none⟩) 1 1) [1] _ (bc (k := 10) Y O) (Y.ow 0 O) (by rw [dP hLiv5, ix1500] <;> rfl) (fun k hk => by rw [eo hLiv5 (by rw [ix1500]; exact hk), ix1500] <;> rfl)) fun a w26 Z Y => nv Z <| xe ((bu O).asb (b' := false) O) <| pq (aj O O) <| xc O <| xe (ai (Y.g 7 O) O (isAgg50 _) (sizeOf50 _)) <| fun a Z => ey Z O O de O ?_
 refine aE (E := 3) (sz := 1) O [[jv 0], [jv 1]] kr sm O de de Z Y fun a w27 Z Y => aF Z Y de O de O call42 O (fZ hd iv7 Liv7 (.slice (some ⟨w26.hz, 0, none⟩) 2 2) [0, 1] _ (bc (k := 9) Y O) (Y.ow 0 O) (by rw [dP hLiv7, ix1200] <;> rfl) (fun k hk => by rw [eo hLiv7 (by rw [ix1200]; exact hk), ix1200] <;> rfl)) fun a w28 Z Y => nv Z <| xe ((bu O).asb (b' := false) O) <| pq (aj O O) <| xc O <| xe (ai (Y.g 6 O) O (isAgg50 _) (sizeOf50 _)) <| fun a Z => ey Z O O de O ?_
 refine aE (E := 3) (sz := 1) O [[jv 0]] kr sm O de de Z Y fun a w29 Z Y => aF Z Y de O de O call42 O (fZ hd iv9 Liv9 (.slice (some ⟨w28.hz, 0, none⟩) 1 1) [0] _ (bc (k := 8) Y O) (Y.ow 0 O) (by rw [dP hLiv9, ix500] <;> rfl) (fun k hk => by rw [eo hLiv9 (by rw [ix500]; exact hk), ix500] <;> rfl)) fun a w30 Z Y => nv Z <| xe ((bu O).asb (b' := false) O) <| pq (aj O O) <| xc O <| xe (ai (Y.g 5 O) O (isAgg50 _) (sizeOf50 _)) <| fun a Z => ey Z O O de O ?_
 refine aE (E := 3) (sz := 1) O [[jv 2]] kr sm O de de Z Y fun a w31 Z Y => aF Z Y de O de O call42 O (fZ hd iv11 Liv11 (.slice (some ⟨w30.hz, 0, none⟩) 1 1) [2] _ (bc (k := 7) Y O) (Y.ow 0 O) (by rw [dP hLiv11, ix3000] <;> rfl) (fun k hk => by rw [eo hLiv11 (by rw [ix3000]; exact hk), ix3000] <;> rfl)) fun a w32 Z Y => nv Z <| xe ((bu O).asb (b' := false) O) <| pq (aj O O) <| fun a Z => G11 ?_
 replace Z := Z.p10 0 1 2 3 5 7 9 11 13 113 O
 replace Y := Y.k13 262112 O
 refine aJ Z O ?_
 refine aw <| G10 <| aa fun _ G12 => nv Z <| xc O <| pq (ai (Y.g 7 O) O (isAgg50 _) (sizeOf50 _)) <| fun a Z => ax Z Y de call24 O (ir (by rw [uF hLiv5 ch uX] <;> rfl) (qc kk hd iv5 Liv5 1500 _ (bc (k := 8) Y O) (bU om hLiv5) (dz ch hk32 hhd (cP exC 1500) hLiv5) (Y.keepb hk0))) fun a w33 Z Y => nv Z <| xc O <| pq (ar O O) <| pq (ar O O) <| fun a Z => aB Z Y de (zeroValue55 _) (cs := [jv 0, jv 0, .string (⟨#[]⟩)]) O fun a w34 Z Y => aq 0 Z Y O O O (sizeOf55 _) O (lb O) (ds := [jv ((exC.getD 1 Cas.z).n), jv ((exC.getD 1 Cas.z).t), sv ((exC.getD 1 Cas.z).ev)]) O O fun a w35 Z Y => wla Z O fun a Z => G12 ?_
 refine aa fun _ G13 => nv (Z.p11 0 1 2 3 5 7 9 11 13 15 16 O) <| xc O <| pq (ai (Y.g 8 O) O (isAgg50 _) (sizeOf50 _)) <| fun a Z => ax Z Y de call24 O (ir (by rw [rr hLiv5 ch (cP exC 1500) jn] <;> rfl) (qc kk hd iv5 Liv5 1200 _ (bc (k := 9) Y O) (bU om hLiv5) (dz ch hk32 hhd (cP exC 1500) hLiv5) (Y.keepb hk0))) fun a w36 Z Y => nv Z <| xc O <| pq (ar O O) <| pq (ar O O) <| fun a Z => aB Z Y de (zeroValue55 _) (cs := [jv 0, jv 0, .string (⟨#[]⟩)]) O fun a w37 Z Y => aq 0 Z Y O O O (sizeOf55 _) O (lb O) (ds := [jv Cas.z.n, jv Cas.z.t, sv Cas.z.ev]) O O fun a w38 Z Y => wla Z O fun a Z => G13 ?_
 replace Z := Z.p12 0 1 2 3 5 7 9 11 13 15 16 18 O
 replace Y := Y.k14 32766 O
 refine ah fun _ G14 => aL kr (aM kr fun w39 hxz => ?_)
 replace Y := Y.grow hxz
 refine aN (k := 0) 2 [1] kr kr kr ?_
 refine nv Z <| xc O <| xc O <| fun a Z => ab <| aU (k := 2) 7 [2, 6] Z kr kr kr rfx ?_
 replace Z : Fr 243 [(0, _), (1, _), (2, _), (3, _), (5, _), (7, _), (9, _), (11, _), (13, _), (15, _), (16, _), (18, _), (126, _), (127, _)] [] a := Z.pick [0, 1, 2, 3, 5, 7, 9, 11, 13, 15, 16, 18, 126, 127]
 refine bS 5 Z Y kr kr <| pl_w (fun Y => ai (Y.g 0 O) O (isAgg55 _) (sizeOf55 _)) <| pl_v (ac (v := po w2.hz 1) O kr) <| pl_w (fun Y => ld Y 12 O O (isAgg30 _) O) <| pl_w (fun Y => (ao (i := 1) (sT := 30) (Y.ow 13 O) O O (runUnderlying30 _) (sizeOf55 _) om zJ).as (v' := slAddr dv1 (1 * 3)) O) <| pl_w (fun Y => (bN (Y.ow 13 O) (i := 1) zJ O (isAgg55 _) (sizeOf55 _)).as (v' := .agg #[jv ((exC.getD 1 Cas.z).n), jv ((exC.getD 1 Cas.z).t), sv ((exC.getD 1 Cas.z).ev)]) Ak) fun a w40 Z Y => ?_
 replace Z := Z.p13 0 1 2 3 5 7 9 11 13 18 127 128 132 O
 refine ab <| aN (k := 7) 14 [13] kr kr kr ?_
 refine nv Z <| xe ((oe O O kr (eqCas ((exC.getD 1 Cas.z).n) ((exC.getD 1 Cas.z).t) ((exC.getD 1 Cas.z).ev) ((exC.getD 1 Cas.z).n) ((exC.getD 1 Cas.z).t) ((exC.getD 1 Cas.z).ev) _)).asb (b' := true) sm) <| pq (ay O O) <| xc O <| xe (az O) <| xe ((bu O).asb (b' := true) O) <| pq (ay O O) <| xc O <| fun a Z => ab <| aU (k := 14) 16 [14, 15] Z kr kr kr rfx ?_
 refine bS 2 (Z.p20 0 1 2 3 5 7 9 11 13 18 127 128 132 133 134 135 136 137 138 139 O) Y kr kr <| pl_m O <| pl_w (fun Y => ai (Y.g 6 O) O (isAgg50 _) (sizeOf50 _)) fun a w41 Z Y => ?_
 replace Z := Z.p12 0 1 2 3 5 7 9 11 13 139 140 141 O
 refine ab <| aN (k := 16) 19 [18] kr kr kr ?_
 refine aF Z Y de O de O call25 O (cf (hO hLiv7 hhd ch nb) (gj kk hd iv7 Liv7 1200 _ (bc (k := 7) Y O) (bU om hLiv7) (dz ch hk32 hhd (cP exC 1200) hLiv7) om (Y.keepb hk0))) fun a w42 Z Y => nv Z <| pq (ay O O) <| xc O <| fun a Z => ab <| aU (k := 19) 21 [19, 20] Z kr kr kr rfx ?_
 refine bS 2 (Z.p15 0 1 2 3 5 7 9 11 13 139 140 141 142 143 144 O) Y kr kr <| pl_m O <| pl_w (fun Y => ai (Y.g 6 O) O (isAgg50 _) (sizeOf50 _)) fun a w43 Z Y => ?_
 replace Z := Z.p12 0 1 2 3 5 7 9 11 13 144 145 146 O
 refine ab <| aN (k := 21) 25 [24] kr kr kr ?_
 refine aF Z Y de O de O call25 O (cf (lP hLiv7 hhd ch (cP exC 1200) lK) (gj kk hd iv7 Liv7 1000 _ (bc (k := 7) Y O) (bU om hLiv7) (dz ch hk32 hhd (cP exC 1200) hLiv7) om (Y.keepb hk0))) fun a w44 Z Y => nv Z <| xe ((bu O).asb (b' := true) O) <| pq (ay O O) <| xc O <| fun a Z => ab <| aU (k := 25) 27 [25, 26] Z kr kr kr rfx ?_
 refine bS 2 (Z.p16 0 1 2 3 5 7 9 11 13 144 145 146 147 148 149 150 O) Y kr kr <| pl_m O <| pl_w (fun Y => ai (Y.g 4 O) O (isAgg50 _) (sizeOf50 _)) fun a w45 Z Y => ?_
 replace Z := Z.p11 0 1 2 3 5 7 11 13 150 151 152 O
 refine ab <| aN (k := 27) 30 [29] kr kr kr ?_
 refine aF Z Y de O de O call25 O (cf (hO hLiv9 hhd ch hit500) (gj kk hd iv9 Liv9 500 _ (bc (k := 5) Y O) (bU om hLiv9) (dz ch hk32 hhd (cP exC 500) hLiv9) om (Y.keepb hk0))) fun a w46 Z Y => nv Z <| pq (ay O O) <| xc O <| fun a Z => ab <| aU (k := 30) 32 [30, 31] Z kr kr kr rfx ?_
 replace Z : Fr 243 [(0, _), (1, _), (2, _), (3, _), (5, _), (7, _), (11, _), (13, _), (150, _), (151, _), (152, _), (153, _), (154, _), (155, _)] [] a := Z.pick [0, 1, 2, 3, 5, 7, 11, 13, 150, 151, 152, 153, 154, 155]
 refine bS 2 Z Y kr kr <| pl_m O <| pl_w (fun Y => ai (Y.g 2 O) O (isAgg50 _) (sizeOf50 _)) fun a w47 Z Y => ?_
 replace Z := Z.p10 0 1 2 3 5 7 13 155 156 157 O
 refine ab <| aN (k := 32) 35 [34] kr kr kr ?_
 refine aF Z Y de O de O call25 O (cf (hO hLiv11 hhd ch vp) (gj kk hd iv11 Liv11 3000 _ (bc (k := 3) Y O) (bU om hLiv11) (dz ch hk32 hhd (cP exC 3000) hLiv11) om (Y.keepb hk0))) fun a w48 Z Y => nv Z <| pq (ay O O) <| xc O <| fun a Z => ab <| aU (k := 35) 38 [35, 36, 37] Z kr kr kr rfx ?_
 refine bS 3 (Z.p13 0 1 2 3 5 7 13 155 156 157 158 159 160 O) Y kr kr <| pl_m O <| pl_w (fun Y => ai (Y.g 8 O) O (isAgg50 _) (sizeOf50 _)) <| pl_w (fun Y => ai (Y.g 6 O) O (isAgg50 _) (sizeOf50 _)) fun a w49 Z Y => ?_
 replace Z := Z.p11 0 1 2 3 5 7 13 160 161 162 163 O
 refine ab <| aN (k := 38) 42 [41] kr kr kr ?_
 refine aF Z Y de O de O call30 O (cf (dU ch (cP exC 1500) (cP exC 1200) hLiv5 hLiv7) (dN kk hd iv5 iv7 Liv5 Liv7 _ (bc (k := 9) Y O) (bc (k := 7) Y O) (bU om hLiv5) (bU om hLiv7) (dz ch hk32 hhd (cP exC 1500) hLiv5) (dz ch hk32 hhd (cP exC 1200) hLiv7) (Y.keepb hk0))) fun a w50 Z Y => nv Z <| xe ((bu O).asb (b' := true) O) <| pq (ay O O) <| xc O <| fun a Z => ab <| aU (k := 42) 45 [43, 44] Z kr kr kr rfx ?_
 refine bS 3 (Z.p15 0 1 2 3 5 7 13 160 161 162 163 164 165 166 167 O) Y kr kr <| pl_v (ac (v := pt w8.hz) O kr) <| pl_w (fun Y => bO (ds := [jv hd.c, jv hd.n, sv hd.root, sv hd.tag]) (Y.g 8 O) O (isAgg47 _) (sizeOf47 _) O) <| pl_w (fun Y => ai (Y.g 1 O) O (isAgg47 _) (sizeOf47 _)) fun a w51 Z Y => ?_
 replace Z := Z.p9 0 1 2 3 5 7 167 169 170 O
 refine ab <| aN (k := 45) 48 [47] kr kr kr ?_
 refine nv Z <| xe ((oe O O kr (eqHd hd.c hd.n hd.root hd.tag hd.c hd.n hd.root hd.tag _)).asb (b' := true) sm) <| pq (ay O O) <| xd O <| fun a Z => ab <| aT kr ?_
 refine G14 <| aa fun _ G15 => nv Z <| pq (ai (Y.g 10 O) O (isAgg50 _) (sizeOf50 _)) <| pq (bj (v := .agg #[jv 320, jv hd.c, jv hd.n, sv hd.root, sv hd.tag, iv3]) O (by obtain ⟨_, _, _, eb0_⟩ := cN (bc (k := 11) Y O).1; rw [eb0_]; kernel_rfl)) <| fun a Z => aE (E := 52) (sz := 6) O [[jv 320, jv hd.c, jv hd.n, sv hd.root, sv hd.tag, iv3]] kr sm O de de Z Y fun a w52 Z Y => wla Z O fun a Z => G15 ?_
 replace Y := Y.k11 32721 O
 refine aa fun _ G16 => ax (Z.p8 0 1 2 3 5 7 19 20 O) Y de call43 O (fx 1000 1 (.slice none 0 0) [] 349 1 300 _ ⟨fq _ _, fun r h => by cases h⟩ (fun r h => by cases h) (by rw [hkk]; exact j5 hk32 de (xG 1) de) (by rw [hkk]; exact lR.1) (Y.keepb hk0)) fun a w53 Z Y => wlm Z O fun a Z => aF Z Y de O de O call43 O (fx 1000 1 (.slice none 0 0) [] 350 3 350 _ ⟨fq _ _, fun r h => by cases h⟩ (fun r h => by cases h) (by rw [hkk]; exact j5 hk32 de (xG 1) de) (by rw [hkk]; exact lR.2) (Y.keepb hk0)) fun a w54 Z Y => ?_
 refine nv Z <| pq (ay O O) <| xc O <| xe (az O) <| fun a Z => aF Z Y de O de O call43 O (fx 1000 1 (.slice (some ⟨w51.hz, 0, none⟩) 1 1) [⟨320, hd, iv3, Liv3⟩] 320 2 320 _ ⟨(Y.ow 0 O), fun r h => by rw [xM.1 h]; exact (bc (k := 8) Y O)⟩ (fun r h => by rw [xM.1 h]; exact (bU om hLiv3)) Ad (by rw [hkk]; exact (gt hk32 hhd hLiv3 iv3).1) (Y.keepb hk0)) fun a w55 Z Y => ?_
 refine nv Z <| pq (ay O O) <| xc O <| xe (az O) <| fun a Z => aF Z Y de O de O call43 O (fx 1000 1 (.slice (some ⟨w51.hz, 0, none⟩) 1 1) [⟨320, hd, iv3, Liv3⟩] 319 1 300 _ ⟨(Y.ow 0 O), fun r h => by rw [xM.1 h]; exact (bc (k := 8) Y O)⟩ (fun r h => by rw [xM.1 h]; exact (bU om hLiv3)) Ad (by rw [hkk]; exact (gt hk32 hhd hLiv3 iv3).2.1) (Y.keepb hk0)) fun a w56 Z Y => ?_
 refine nv Z <| pq (ay O O) <| xc O <| xe (az O) <| fun a Z => aF Z Y de O de O call43 O (fx 1000 2 (.slice (some ⟨w51.hz, 0, none⟩) 1 1) [⟨320, hd, iv3, Liv3⟩] 349 1 300 _ ⟨(Y.ow 0 O), fun r h => by rw [xM.1 h]; exact (bc (k := 8) Y O)⟩ (fun r h => by rw [xM.1 h]; exact (bU om hLiv3)) Ad (by rw [hkk]; exact (gt hk32 hhd hLiv3 iv3).2.2.1) (Y.keepb hk0)) fun a w57 Z Y => ?_
 refine nv Z <| pq (ay O O) <| xc O <| xe (az O) <| fun a Z => aF Z Y de O de O call43 O (fx 1000 2 (.slice (some ⟨w51.hz, 0, none⟩) 1 1) [⟨320, hd, iv3, Liv3⟩] 350 3 350 _ ⟨(Y.ow 0 O), fun r h => by rw [xM.1 h]; exact (bc (k := 8) Y O)⟩ (fun r h => by rw [xM.1 h]; exact (bU om hLiv3)) Ad (by rw [hkk]; exact (gt hk32 hhd hLiv3 iv3).2.2.2) (Y.keepb hk0)) fun a w58 Z Y => nv Z <| pq (ay O O) <| xc O <| xe (ai (Y.g 3 O) O (isAgg50 _) (sizeOf50 _)) <| xe (bj (v := .agg #[jv 310, jv hd.c, jv hd.n, sv hd.root, sv hd.tag, iv7]) O (by obtain ⟨_, _, _, eb0_⟩ := cN (bc (k := 4) Y O).1; rw [eb0_]; kernel_rfl)) <| fun a Z => ey Z O O de O ?_
 refine aE (E := 52) (sz := 6) O [[jv 310, jv hd.c, jv hd.n, sv hd.root, sv hd.tag, iv7]] kr sm O de de Z Y fun a w59 Z Y => aF Z Y de O de O call43 O (fx 1200 1 (.slice (some ⟨w58.hz, 0, none⟩) 1 1) [⟨310, hd, iv7, Liv7⟩] 310 3 310 _ ⟨(Y.ow 0 O), fun r h => by rw [xM.1 h]; exact (bc (k := 5) Y O)⟩ (fun r h => by rw [xM.1 h]; exact (bU om hLiv7)) Ad (by rw [hkk]; exact (rp hk32 hhd hLiv7 iv7)) (Y.keepb hk0)) fun a w60 Z Y => nv Z <| pq (ay O O) <| xd O <| fun a Z => G16 ?_
 replace Z := Z.p7 0 1 2 3 5 19 21 O
 replace Y := Y.k9 4076 O
 refine ah fun _ G17 => ?_
 have hla := dP hLiv5
 have hlo := dP hLiv3
 rw [ix1500] at hla
 rw [ix1000] at hlo
 simp only [xq, xu] at hla hlo
 obtain ⟨hdt, hhdt⟩ : ∃ h, hdOf sha kk 3 [(Liv5.getD 0 Itw.z).m.e, (Liv3.getD 0 Itw.z).m.e] 2 = h := ⟨_, rfl⟩
 refine aL kr (aM kr fun w61 hxz => ?_)
 replace Y := Y.grow hxz
 refine aU (k := 0) 20 [17, 19] Z kr kr kr rfx ?_
 replace Z := Z.p7 0 1 2 3 5 19 21 O
 refine dj 18 19 16 [(12, 11, fun u => Value.agg #[jv 3, u]), (15, 14, fun u => u), (16, 15, fun u => tupAt u 0)] 50 [jv 0, jv 0, .string (⟨#[]⟩), .string (⟨#[]⟩), .slice none 0 0] (fun u => u.cells.toList) 20 [[], [], [1], [2], [3], [4], [], [6], [7], [8], [9], [5, 10], [11], [], [0, 12, 13, 11], [14], [15], [15], [], [16, 18]] (fun i => match i with | 0 => pv (sv kk) | 1 => pv (po w8.hz 4) | 2 => pv (iv5) | 3 => pv (slAddr iv5 (0 * 3)) | 4 => pv (slAddr iv5 (0 * 3 + 1)) | 5 => pv (sv ((Liv5.getD 0 Itw.z).m.e)) | 6 => pv (po w5.hz 4) | 7 => pv (iv3) | 8 => pv (slAddr iv3 (0 * 3)) | 9 => pv (slAddr iv3 (0 * 3 + 1)) | 10 => pv (sv ((Liv3.getD 0 Itw.z).m.e)) | 11 => pm (fun b : Nat => .slice (some ⟨b, 0, none⟩) 2 2) (fun b => [own (.slice (some ⟨b, 0, none⟩) 2 2) 9 1 [[sv ((Liv5.getD 0 Itw.z).m.e)], [sv ((Liv3.getD 0 Itw.z).m.e)]]]) (fun _ => True) | 12 => fun v E => (∃ sx12_ sy12_ sz12_, v = .agg #[jv 3, (.slice sx12_ sy12_ sz12_)]) ∧ E = [] | 13 => pm (fun b : Nat => .slice (some ⟨b, 0, none⟩) 2 2) (fun b => [own (.slice (some ⟨b, 0, none⟩) 2 2) 3 1 [[jv 0], [jv 1]]]) (fun _ => True) | 14 => pm (fun x : Value × List Itw => .tuple #[.agg #[jv hdt.c, jv hdt.n, sv hdt.root, sv hdt.tag, x.1], jv 0]) (fun x => [itsE x.1 x.2]) (fun x => itsM x.2 = showIs sha ([(Liv5.getD 0 Itw.z).m.e, (Liv3.getD 0 Itw.z).m.e]) 2 ([0, 1])) | 15 => fun v E => (∃ sa0 sn0 sc0, v = .tuple #[.agg #[jv hdt.c, jv hdt.n, sv hdt.root, sv hdt.tag, (.slice sa0 sn0 sc0)], jv 0]) ∧ E = [] | 16 => fun v E => (∃ sa0 sn0 sc0, v = .agg #[jv hdt.c, jv hdt.n, sv hdt.root, sv hdt.tag, (.slice sa0 sn0 sc0)]) ∧ E = [] | 17 => pv (jv 0) | 18 => fun v E => ∃ b, v = ptr b ∧ E = [] | 19 => fun v E => v = undef ∧ E = [] | _ => fun _ _ => False) Z (H := [itsE iv11 Liv11, itsE iv9 Liv9, itsE iv7 Liv7, blk w8.hz [jv hd.c, jv hd.n, sv hd.root, sv hd.tag, iv5] 50, itsE iv5 Liv5, blk w5.hz [jv hd.c, jv hd.n, sv hd.root, sv hd.tag, iv3] 50, itsE iv3 Liv3, blk w2.hz [jv 3, dv1] 32, own dv1 55 3 ((exC).map Cas.cells)]) Y kr kr kr kr de de de de de de de kr (by intro x hx y hy h; simp only [xn, xr, xO] at hx hy; rcases hx with rfl | rfl | rfl <;> rcases hy with rfl | rfl | rfl <;> first | rfl | exact absurd h de) ?_ (fun _ _ h => h) ⟨O, O⟩ (fun _ _ => Iff.rfl) ?_ ?_ ?_ ?_ ?_
 ·intro i v E h
  match i, h with
  | 0, _ => exact by decide
  | 1, _ => exact by decide
  | 2, _ => exact by decide
  | 3, _ => exact by decide
  | 4, _ => exact by decide
  | 5, _ => exact by decide
  | 6, _ => exact by decide
  | 7, _ => exact by decide
  | 8, _ => exact by decide
  | 9, _ => exact by decide
  | 10, _ => exact by decide
  | 11, _ => exact by decide
  | 12, _ => exact by decide
  | 13, _ => exact by decide
  | 14, _ => exact by decide
  | 15, _ => exact by decide
  | 16, _ => exact by decide
  | 17, _ => exact by decide
  | 18, _ => exact by decide
  | 19, _ => exact by decide
  | i + 20, h => exact h.elim
 ·intro i hi hia hij hil e
  match i, hi, hia, hij, hil with
  | 0, _, _, _, _ =>
   intro hl9 w Y
   exact OpV.g (az O)
  | 1, _, _, _, _ =>
   intro hl9 w Y
   exact OpV.g (ac (v := po w8.hz 4) O kr)
  | 2, _, _, _, _ =>
   rintro _ _ ⟨rfl, rfl⟩
   intro hl9 w Y
   exact OpV.g (ld Y 4 O O (isAgg48 _) O)
  | 3, _, _, _, _ =>
   rintro _ _ ⟨rfl, rfl⟩
   intro hl9 w Y
   exact OpV.g ((ao (i := 0) (sT := 48) (bc (k := 5) Y O).1 O O (runUnderlying48 _) (sizeOf110 _) om zJ).as (v' := slAddr iv5 (0 * 3)) O)
  | 4, _, _, _, _ =>
   rintro _ _ ⟨rfl, rfl⟩
   intro hl9 w Y
   exact OpV.g (cG (k := 0 * 3) (j := 1) (bc (k := 5) Y O).1 (i := 0) zJ O (fun _ _ => by kernel_rfl))
  | 5, _, _, _, _ =>
   rintro _ _ ⟨rfl, rfl⟩
   intro hl9 w Y
   exact OpV.g (aD (u := sv ((Liv5.getD 0 Itw.z).m.e)) (i := 0) (j := 1) (bc (k := 5) Y O).1 zJ O (isAgg9 _) (by rw [bE Itw.z]; rfl))
  | 6, _, _, _, _ =>
   intro hl9 w Y
   exact OpV.g (ac (v := po w5.hz 4) O kr)
  | 7, _, _, _, _ =>
   rintro _ _ ⟨rfl, rfl⟩
   intro hl9 w Y
   exact OpV.g (ld Y 6 O O (isAgg48 _) O)
  | 8, _, _, _, _ =>
   rintro _ _ ⟨rfl, rfl⟩
   intro hl9 w Y
   exact OpV.g ((ao (i := 0) (sT := 48) (bc (k := 7) Y O).1 O O (runUnderlying48 _) (sizeOf110 _) om zJ).as (v' := slAddr iv3 (0 * 3)) O)
  | 9, _, _, _, _ =>
   rintro _ _ ⟨rfl, rfl⟩
   intro hl9 w Y
   exact OpV.g (cG (k := 0 * 3) (j := 1) (bc (k := 7) Y O).1 (i := 0) zJ O (fun _ _ => by kernel_rfl))
  | 10, _, _, _, _ =>
   rintro _ _ ⟨rfl, rfl⟩
   intro hl9 w Y
   exact OpV.g (aD (u := sv ((Liv3.getD 0 Itw.z).m.e)) (i := 0) (j := 1) (bc (k := 7) Y O).1 zJ O (isAgg9 _) (by rw [bE Itw.z]; rfl))
  | 11, _, _, _, _ =>
   rintro _ _ ⟨rfl, rfl⟩ _ _ ⟨rfl, rfl⟩
   intro hl9 w Y
   exact bR (E := 9) (sz := 1) O [[sv ((Liv5.getD 0 Itw.z).m.e)], [sv ((Liv3.getD 0 Itw.z).m.e)]] (fun _ => by kernel_rfl) sm O de
  | 12, _, _, _, h => exact absurd de h
  | 13, _, _, _, _ =>
   intro hl9 w Y
   exact bR (E := 3) (sz := 1) O [[jv 0], [jv 1]] (fun _ => by kernel_rfl) sm O de
  | 14, _, _, _, _ =>
   rintro _ _ ⟨rfl, rfl⟩ _ _ ⟨⟨sx12_, sy12_, sz12_, rfl⟩, rfl⟩ _ _ ⟨b15, rfl, -, rfl⟩ _ _ ⟨b14, rfl, -, rfl⟩
   intro hl9 w Y
   have hz9 : sx12_ = some ⟨b14, 0, none⟩ ∧ sy12_ = 2 ∧ sz12_ = 2 := by simpa using hl9 (12, 11, fun u => Value.agg #[jv 3, u]) sm _ _ rfl rfl
   obtain ⟨rfl, rfl, rfl⟩ := hz9
   exact dL call26 O (ez kk 2 hdt (.slice (some ⟨b15, 0, none⟩) 2 2) ([0, 1]) 3 (.slice (some ⟨b14, 0, none⟩) 2 2) ([(Liv5.getD 0 Itw.z).m.e, (Liv3.getD 0 Itw.z).m.e]) _ (Y.ow 1 O) (Y.ow 0 O) hk32 (gK hLiv5 hLiv3) (xN 2) de de hhdt (Y.keepb hk0))
  | 15, _, _, _, h => exact absurd de h
  | 16, _, _, _, h => exact absurd de h
  | 17, _, _, _, _ =>
   rintro _ _ ⟨⟨sa0, sn0, sc0, rfl⟩, rfl⟩
   intro hl9 w Y
   exact OpV.g (ar O O)
  | 18, _, h, _, _ => exact absurd O h
  | 19, _, _, h, _ => exact absurd O h
  | i + 20, h, _, _, _ => exact absurd h om
 ·intro x hx e
  simp only [xn, xr, xO] at hx
  rcases hx with rfl | rfl | rfl
  ·rintro _ _ ⟨b14, rfl, -, rfl⟩
   intro w Y
   exact OpV.hopv (OpV.g (bj (v := .agg #[jv 3, (.slice (some ⟨b14, 0, none⟩) 2 2)]) O kr)) ⟨⟨_, _, _, O⟩, O⟩
  ·rintro _ _ ⟨⟨iv16, Liv16⟩, rfl, hLiv16, rfl⟩
   intro w Y
   obtain ⟨sa0, sn0, sc0, rfl⟩ := cN (bc (k := 0) Y rfl).1
   exact OpV.hopv (OpV.g (az O)) ⟨⟨_, _, _, O⟩, O⟩
  ·rintro _ _ ⟨⟨sa0, sn0, sc0, rfl⟩, rfl⟩
   intro w Y
   exact OpV.hopv (OpV.g (ar O O)) ⟨⟨_, _, _, O⟩, O⟩
 ·exact fun Lv w => dI (zeroValue50 _)
 ·rintro _ _ ⟨⟨sa0, sn0, sc0, rfl⟩, rfl⟩ _ _ ⟨b13, rfl, rfl⟩
  intro b hb u hu w h
  have hb : some (ptr b13) = some (ptr b) := hb
  cases hb
  have hu : some (.agg #[jv hdt.c, jv hdt.n, sv hdt.root, sv hdt.tag, (.slice sa0 sn0 sc0)]) = some u := hu
  cases hu
  exact dk O O h (sizeOf50 _) O (lb O) O
 clear Z Y
 rintro V bq hva hlk _ _ ⟨⟨rfl, rfl⟩, -⟩ _ _ ⟨⟨rfl, rfl⟩, -⟩ _ _ ⟨⟨rfl, rfl⟩, -⟩ _ _ ⟨⟨rfl, rfl⟩, -⟩ _ _ ⟨⟨rfl, rfl⟩, -⟩ _ _ ⟨⟨rfl, rfl⟩, -⟩ _ _ ⟨⟨rfl, rfl⟩, -⟩ _ _ ⟨⟨rfl, rfl⟩, -⟩ _ _ ⟨⟨rfl, rfl⟩, -⟩ _ _ ⟨⟨rfl, rfl⟩, -⟩ _ _ ⟨⟨rfl, rfl⟩, -⟩ _ _ ⟨⟨b14, rfl, -, rfl⟩, hv11_⟩ v12_ _ ⟨⟨-, rfl⟩, hv12_⟩ _ _ ⟨⟨b15, rfl, -, rfl⟩, -⟩ _ _ ⟨⟨⟨iv16, Liv16⟩, rfl, hLiv16, rfl⟩, hv14_⟩ v15_ _ ⟨⟨-, rfl⟩, hv15_⟩ v16_ _ ⟨⟨-, rfl⟩, hv16_⟩ _ _ ⟨⟨rfl, rfl⟩, -⟩ _ _ ⟨⟨b13, rfl, rfl⟩, hva9⟩ a w62 Z Y
 obtain rfl : b13 = bq := eh (hva9.trans hva)
 obtain rfl : v12_ = .agg #[jv 3, (.slice (some ⟨b14, 0, none⟩) 2 2)] := hv12_.trans ((hlk 0 _ rfl).trans (xI (fun u => Value.agg #[jv 3, u]) hv11_.symm))
 obtain rfl : v15_ = .tuple #[.agg #[jv hdt.c, jv hdt.n, sv hdt.root, sv hdt.tag, iv16], jv 0] := hv15_.trans ((hlk 1 _ rfl).trans (xI (fun u => u) hv14_.symm))
 obtain rfl : v16_ = .agg #[jv hdt.c, jv hdt.n, sv hdt.root, sv hdt.tag, iv16] := hv16_.trans ((hlk 2 _ rfl).trans (xI (fun u => tupAt u 0) hv15_.symm))
 rw [← hv16_] at Y
 replace Z : Fr 243 [(203, _), (204, _), (205, _), (206, _), (207, _), (208, _), (209, _), (210, _), (211, _), (212, _), (213, _), (214, _), (215, _), (216, _), (217, _), (202, _), (218, _), (219, _), (22, _), (0, _), (1, _), (2, _), (3, _), (5, _), (19, _), (21, _)] [] a := Z
 replace Y := Y.n13 O
 clear hva9 hva hlk hv16_ hv15_ hv12_ hv11_ hv14_
 refine ab <| aN (k := 20) 21 [20] kr kr kr ?_
 refine wla Z O fun a Z => ab <| aT kr ?_
 refine G17 ?_
 replace Y := Y.k9 7548 O
 refine aa fun _ G18 => nv (Z.p7 0 1 2 19 21 22 23 O) <| xc O <| xc O <| xe (az O) <| pq (ay O O) <| xc O <| xe (az O) <| xe ((v_eq O O).asb (b' := true) O) <| pq (ay O O) <| xc O <| xe (az O) <| xe (ai (Y.g 1 O) O (isAgg50 _) (sizeOf50 _)) <| xe (ai (Y.g 1 O) O (isAgg50 _) (sizeOf50 _)) <| fun a Z => aF Z Y de O de O call30 O (cf (rF hLiv5 hLiv3 hLiv16) (dN kk hdt iv16 iv16 Liv16 Liv16 _ (bc (k := 0) Y O) (bc (k := 0) Y O) (bU de hLiv16) (bU de hLiv16) (cL (gK hLiv5 hLiv3) (xN 2) hk32 hhdt de hLiv16) (cL (gK hLiv5 hLiv3) (xN 2) hk32 hhdt de hLiv16) (Y.keepb hk0))) fun a w63 Z Y => ?_
 refine nv Z <| pq (ay O O) <| xc O <| xe (ai (Y.g 7 O) O (isAgg32 _) (sizeOf32 _)) <| fun a Z => aF Z Y de O de O call31 O (cf ch (jC 3 dv1 exC _ (Y.ow 8 O))) fun a w64 Z Y => nv Z <| pq (ay O O) <| xc O <| xe (bj (v := .agg #[jv 8, .slice none 0 0]) O kr) <| fun a Z => aF Z Y de O de O call31 O (cf (show docOk 8 [] = false from O) (jC 8 (.slice none 0 0) [] _ (fq _ _))) fun a w65 Z Y => nv Z <| xe ((bu O).asb (b' := true) O) <| pq (ay O O) <| xd O <| fun a Z => G18 ?_
 replace Z := Z.p1 0 O
 replace Y := Y.k7 381 O
 refine ap <| am Z results11 (ag O ae) ?_
 exact ⟨by rfl, Y.ext⟩
end Go.Proofs.YtliklcmddmpdfaaGreatDoor
namespace Go.PW
open Go.RowKit Go.ChangeShapes Go.WideShapes Go.ChangeAt
section
variable {H : Type} {enc : TypeId × Value → H} {P : Program} {w : World} {base : Nat} {spare : Nat → Bool} {held : Bool} {fuel : Nat} {t e : TypeId} {cs : List Value} {x : DataW H × List MemPlace} {α : Type}
theorem tr {v : Value} (sz : Nat) (ht : P.underlying t = some (.slice e)) (hc : P.cellsOf e = sz) (hs : 0 < sz) (hby : 0 < P.bytesOf e) (hw : Wt P t x.1) (h : DataW.trod enc P w base spare held fuel t [v] = some x) :
  ∃ els : List (List Value), SlE w v sz els ∧ els.length * P.bytesOf e ≤ 140737488355328 ∧ (∀ d ∈ els, d.length = sz) ∧ ∀ i (hi : i < els.length), ∃ n y, DataW.trod enc P w base spare held n e els[i] = some y ∧ Wt P e y.1 := by
 rcases DataW.trod_slice ht h with ⟨h0, _⟩ | ⟨a, len, cap, elems, rest, n, _, hv, hx, hb, hl, hm, hlen, hel, _, _⟩
 ·cases h0
  exact ⟨[], .inl (fq _ _), by simp, by simp, fun i hi => absurd hi sm⟩
 ·cases hv
  have hwl : elems.length * P.bytesOf e ≤ 140737488355328 := by
   have h1 := hw ((elems.length + rest.length) * P.bytesOf e) (by rw [hx]; simp [DataW.weights, ht])
   have h2 := reachBytes_lt
   have h3 : elems.length * P.bytesOf e ≤ (elems.length + rest.length) * P.bytesOf e := Nat.mul_le_mul om (xN _)
   omega
  by_cases h0 : len = 0
  ·subst h0
   exact ⟨[], .inr ⟨O, a, cap, O⟩, by simp, by simp, fun i hi => absurd hi sm⟩
  obtain ⟨b, off, spot⟩ := a
  have hfirst : w.cell? ⟨b, off, spot⟩ ≠ none := by
   have h1 := hel 0 om
   rw [xo om] at h1
   cases hcs : w.cells? base ((⟨b, off, spot⟩ : Addr).add (0 * P.cellsOf e)) (P.cellsOf e) with
   | none => rw [hcs] at h1; simp at h1
   | some ds =>
    obtain ⟨_, hl1, hc1⟩ := World.cells?_some hcs
    have h2 := hc1 0 om
    rw [Nat.zero_mul, show ((⟨b, off, spot⟩ : Addr).add 0).add 0 = ⟨b, off, spot⟩ from rfl, xo om] at h2
    rw [h2]; simp
  have hsp : spot = none ∧ b < w.heap.size := by
   unfold World.cell? at hfirst
   cases hh : w.heap[b]? with
   | none => rw [hh] at hfirst; exact absurd rfl hfirst
   | some o =>
    refine ⟨?_, (xv.1 hh).1⟩
    rw [hh] at hfirst
    cases spot with
    | none => rfl
    | some s => cases o <;> exact absurd rfl hfirst
  obtain ⟨rfl, hlt⟩ := hsp
  have hwe : ∀ y ∈ elems, Wt P e y.1 := by
   intro y hy n hn
   refine hw n ?_
   rw [hx]
   simp only [DataW.weights, ht, xn, yq]
   exact .inr (.inl (tV (xT.2 ⟨y, hy, O⟩) n hn))
  have each : ∀ i, i < len → ∃ ds : List Value, (ds.length = sz ∧ ∀ j v, ds[j]? = some v → w.cell? ⟨b, off + i * sz + j, none⟩ = some v) ∧ ∃ n y, DataW.trod enc P w base spare held n e ds = some y ∧ Wt P e y.1 := by
   intro i hi
   have h1 := hel i hi
   rw [xo om, hc, cI] at h1
   cases hcs : w.cells? base ⟨b, off + i * sz, none⟩ sz with
   | none => rw [hcs] at h1; simp at h1
   | some ds =>
    rw [hcs] at h1
    simp only [yU] at h1
    exact ⟨ds, jg hcs, n, _, h1, hwe _ (ya _)⟩
  obtain ⟨els, hel2, hp⟩ := gr len each
  have h1 : ∀ d ∈ els, d.length = sz := by
   intro d hd
   obtain ⟨i, hi, rfl⟩ := yj hd
   exact (hp i hi).1.1
  have hbg : elems.length ≤ big := by
   have h3 : elems.length * 1 ≤ elems.length * P.bytesOf e := Nat.mul_le_mul (xN _) hby
   unfold big; omega
  refine ⟨els, .inl ⟨h1, by omega, .inr ⟨b, off, cap, by rw [hel2], by omega, hlt, ?_⟩⟩, by rw [hel2, ← hlen]; exact hwl, h1, fun i hi => (hp i hi).2⟩
  intro j v hj
  have hjl := (xL.1 hj).1
  rw [ek h1] at hjl
  have hi : j / sz < els.length := Nat.div_lt_of_lt_mul (by rw [Nat.mul_comm]; exact hjl)
  have := (hp (j / sz) hi).1.2 (j % sz) v (by
   rw [← jM h1 hi, yl, xD (Nat.mod_lt _ hs), yy, Nat.div_add_mod' j sz]
   exact hj)
  rw [Nat.add_assoc, Nat.div_add_mod' j sz] at this
  exact this
theorem uJ {els : List (List Value)} {f : α → List Value} {q : α → Prop} (hp : ∀ i (hi : i < els.length), ∃ a, els[i] = f a ∧ q a) : ∃ xs : List α, els = xs.map f ∧ ∀ a ∈ xs, q a := by
 obtain ⟨xs, hl, hx⟩ := gr (p := fun i a => els[i]? = some (f a) ∧ q a) els.length fun i hi => by
  obtain ⟨a, h1, h2⟩ := hp i hi
  exact ⟨a, by rw [xo hi, h1], h2⟩
 refine ⟨xs, ?_, fun a ha => ?_⟩
 ·refine yT (by simp [hl]) fun i h1 h2 => ?_
  have := (hx i om).1
  rw [xo h1] at this
  simpa using this
 ·obtain ⟨i, hi, rfl⟩ := yj ha
  exact (hx i hi).2
end
end Go.PW
namespace Go.PW
open Go.RowKit Go.ChangeShapes Go.WideShapes Go.ChangeAt
section
variable {H : Type} {enc : TypeId × Value → H}
theorem oy {a : Assume} {C : Checked} {os : Os} {f : FuncId} {fn : Func} {s : ChangeSpec} {conds : List PathCond} {apart fresh handsOn again : Bool} {X : World → Array Value → Prop}
  (hX : ∀ (w w' : World) (args : Array Value), w.heap = w'.heap → X w args → X w' args)
  (own : ownKnob C.prog.godebug = none) (started : os.Started) (noInit : C.prog.inits.idxOf? f = none) (hfn : C.prog.funcs[f]? = some fn)
  (witness : ∃ (w : World) (tape : Tape) (i : Input), w.os = os ∧ (w.forCall tape i).Shaped C.prog ∧ i.vars = [] ∧ Input.okWide C.prog (w.forCall tape i) .any w.heap.size f i ∧
   ((s.pre enc C.prog fn conds apart (w.forCall tape i).memory i.args ∧ X (w.forCall tape i).memory i.args) ∧ sizedMet enc C.prog fn (OpenSpec.ofChange s) apart (w.forCall tape i).memory i.args) ∧ a.holds C.prog (lone (Frame.enter C.prog f i.args .normal) [] (w.forCall tape i)))
  (contract : ∀ (W : World) (base : Nat) (args : Array Value) (ds gs : List (DataW H)) (before : List MemPlace),
   (∀ (j : Nat) t v, fn.params[j]? = some t → args[j]? = some v → Value.okWide C.prog W .any base t v) →
   DataW.Whole enc C.prog fn.params.toList s.vars apart W args.toList ds gs before →
   conds.all (PathCond.test C.prog ⟨fn.params.toList, ds, s.plain.varTypes C.prog, gs⟩) = true →
   (DataW.weightsEach C.prog (fn.params.toList ++ s.plain.varTypes C.prog) (ds ++ gs)).all (· ≤ reachBytes) = true → X W args → W.ShapedOpen C.prog →
   Calls C.prog f args W fun e W' => ∃ v, e = .returned v ∧ s.post enc C.prog fn apart fresh handsOn again W args v W') :
  ReturnsInHanded a C os f .any (fun w args => (s.pre enc C.prog fn conds apart w args ∧ X w args) ∧ sizedMet enc C.prog fn (OpenSpec.ofChange s) apart w args) (s.post enc C.prog fn apart fresh handsOn again) := by
 refine returnsInHanded_of_calls own started noInit witness ?_
 intro w tape i _ hsh _ hok hpre _
 obtain ⟨_, _, _, fn', hfn', _, _, _, _, hval⟩ := hok
 have e : fn' = fn := yr (hfn'.symm.trans hfn)
 subst e
 obtain ⟨⟨⟨ds, gs, before, hw, hc⟩, hx⟩, hz⟩ := hpre
 have hw' := DataW.Whole.of_heap (w' := w.forCall tape i) rfx hw
 refine (contract (w.forCall tape i) w.heap.size i.args ds gs before hval hw' hc (hz.weights hw) (hX _ _ _ rfx hx) hsh).mono fun e W' ⟨v, he, hp⟩ => ?_
 subst he
 exact ChangeSpec.post_blind hp
end
section
variable {H : Type} {enc : TypeId × Value → H} {P : Program} {w : World} {base : Nat} {spare : Nat → Bool} {held : Bool} {fuel : Nat} {t e : TypeId} {cs : List Value} {x : DataW H × List MemPlace}
theorem pW {n : Nat} {ks : List Int} (ht : P.underlying t = some (.array n e)) (he : P.underlying e = some (.int .u32)) (hc : P.cellsOf e = 1) (hct : P.cellsOf t = n) (h : DataW.trod enc P w base spare held fuel t cs = some x) (hx : x.1 = .agg (ks.map fun k => .lit (.int .u32 k))) : cs = ks.map (fun k => .int .u32 k) := by
 obtain ⟨xs, m, rfl, rfl, hlen, hxs, hel⟩ := DataW.trod_array ht h
 simp only [DataW.agg.injEq] at hx
 have hl : ks.length = n := by
  have h := xI List.length hx
  rw [xg, xg] at h
  omega
 refine yT (by rw [hlen, hct, xg, hl]) fun i h1 h2 => ?_
 have hi : i < n := by rw [← hct, ← hlen]; exact h1
 have hi2 : i < ks.length := by omega
 have h3 := hel i hi
 rw [hc, Nat.mul_one, xo om] at h3
 obtain ⟨k, e1, e2, _⟩ := DataW.trod_int he h3
 rw [yc h1, List.take_succ_cons] at e1
 injection e1 with e1 _
 have h4 : (xs.map (·.1))[i]? = (ks.map fun k => DataW.lit (H := H) (.int .u32 k))[i]? := by rw [hx]
 rw [yp, yp, xo om, xo hi2, Option.map_some, Option.map_some, e2] at h4
 simp only [Option.some.injEq, DataW.lit.injEq, Lit.int.injEq, true_and] at h4
 rw [e1, yI, h4]
end
end Go.PW
namespace Go.Proofs.YtliklcmddmpdfaaGreatDoor
open Go.RowKit Go.PW _root_.Go.Proofs.Tryz
open Go.ChangeShapes Go.WideShapes Go.ChangeAt Go.RowKit Go.PW
theorem ownD : ownKnob Tryz.prog.godebug = none := by kernel_rfl
theorem fT : laidOutB Tryz.prog = true := by kernel_rfl
def laid1 : List (String × DataW Unit) := [("dialtone/digest.round", Rows.laid_dialtone_digest_round)]
theorem gRound : Tryz.prog.globalNamed "dialtone/digest.round" = some 0 := by kernel_rfl
theorem tRound : (Tryz.prog.globals[0]?).map (·.type) = some 258 := by kernel_rfl
theorem vf : (Rows.laid_dialtone_digest_round : DataW Unit) = .agg ((kOf.map fun k => (k.toNat : Int)).map fun k => .lit (.int .u32 k)) := by kernel_rfl
theorem tI (os : Os) (args : Array Value) : laidMetH Tryz.prog laid1 ((World.doorLaid Tryz.prog 4000 os).forCall (fun _ _ => 0) ⟨#[], args, []⟩).memory :=
 laidMetH_of_parts3 (fuel := 8) (laidMet_of_run' 8 kr kr) kr kr
theorem pP (os : Os) (args : Array Value) : ((World.doorLaid Tryz.prog 4000 os).forCall (fun _ _ => 0) ⟨#[], args, []⟩).Shaped Tryz.prog := World.shaped_of_RefB kr kr
theorem wL {W : World} (h : laidMetH Tryz.prog laid1 W) (hs : W.ShapedOpen Tryz.prog) : (blk 0 (kOf.map wv) 258).ok W := by
 rw [MakeChecks.laidMetH_plain _ _ _ kr] at h
 obtain ⟨ps, ⟨g0, t0, cs0, f0, p0, q0, hg0, ht0, hv0, hd0, _, _⟩, _, _⟩ := h
 obtain rfl := yr (gRound.symm.trans hg0)
 obtain rfl := yr (tRound.symm.trans ht0)
 obtain ⟨cs, hcs, _, _⟩ := hs.1 0 (List.replicate 64 (.int .u32 0)).toArray 258 (of_decide_eq_true kr) kr
 have e : cs0 = cs := by
  have := hv0
  simp only [World.var?, gRound, yU, hcs, Option.some.injEq] at this
  exact this.symm
 subst e
 have hw := pW (ks := kOf.map fun k => (k.toNat : Int)) underlying258 underlying206 kr kr hd0 vf
 have hl : cs0 = (kOf.map wv).toArray := by
  apply Array.toList_inj.1
  rw [hw, yD]; rfl
 show W.heap[0]? = some (.cells (kOf.map wv).toArray 258)
 rw [← hl]; exact hcs
open Go.ChangeShapes Go.WideShapes Go.ChangeAt
section
variable {H : Type} {enc : TypeId × Value → H} {W : World} {base b0 : Nat} {sp : Nat → Bool} {hd : Bool} {v : Value} {d : DataW H} {ps : List MemPlace} {r : Reach}
theorem pZ {n : Int} (h : Go.PW.i64 n) : i64 n := h
theorem len4 {α : Type} {l : List α} (h : l.length = 4) : ∃ a0 a1 a2 a3, l = [a0, a1, a2, a3] := by
 match l, h with
 | [a0, a1, a2, a3], _ => exact ⟨_, _, _, _, rfl⟩
theorem sY {fuel : Nat} {cs : List Value} {x : DataW H × List MemPlace} (hl : cs.length = 4) (hw : Wt Tryz.prog 26 x.1) (h : DataW.trod enc Tryz.prog W base sp hd fuel 26 cs = some x) :
  ∃ (n0 : Int) (v1 : Value) (v2 : Value) (v3 : Value), cs = [jv n0, v1, v2, v3] ∧ (i64 n0) ∧ (∃ n z, DataW.trod enc Tryz.prog W base sp hd n 22 [v1] = some z ∧ Wt Tryz.prog 22 z.1) ∧ (∃ n z, DataW.trod enc Tryz.prog W base sp hd n 23 [v2] = some z ∧ Wt Tryz.prog 23 z.1) ∧ (∃ n z, DataW.trod enc Tryz.prog W base sp hd n 24 [v3] = some z ∧ Wt Tryz.prog 24 z.1) := by
 obtain ⟨c0, c1, c2, c3, rfl⟩ := len4 hl
 obtain ⟨m0, z0, h0, w0⟩ := cY 0 _ underlying26 hw h rfl
 have k0 : Tryz.prog.cellsOf 3 = 1 := by kernel_rfl
 replace h0 : DataW.trod enc Tryz.prog W base sp hd m0 3 [c0] = some z0 := by rw [show [c0] = ([c0, c1, c2, c3].drop 0).take (Tryz.prog.cellsOf 3) from by rw [k0]; rfl]; exact h0
 obtain ⟨m1, z1, h1, w1⟩ := cY 1 _ underlying26 hw h rfl
 have k1 : Tryz.prog.cellsOf 22 = 1 := by kernel_rfl
 replace h1 : DataW.trod enc Tryz.prog W base sp hd m1 22 [c1] = some z1 := by rw [show [c1] = ([c0, c1, c2, c3].drop 1).take (Tryz.prog.cellsOf 22) from by rw [k1]; rfl]; exact h1
 obtain ⟨m2, z2, h2, w2⟩ := cY 2 _ underlying26 hw h rfl
 have k2 : Tryz.prog.cellsOf 23 = 1 := by kernel_rfl
 replace h2 : DataW.trod enc Tryz.prog W base sp hd m2 23 [c2] = some z2 := by rw [show [c2] = ([c0, c1, c2, c3].drop 2).take (Tryz.prog.cellsOf 23) from by rw [k2]; rfl]; exact h2
 obtain ⟨m3, z3, h3, w3⟩ := cY 3 _ underlying26 hw h rfl
 have k3 : Tryz.prog.cellsOf 24 = 1 := by kernel_rfl
 replace h3 : DataW.trod enc Tryz.prog W base sp hd m3 24 [c3] = some z3 := by rw [show [c3] = ([c0, c1, c2, c3].drop 3).take (Tryz.prog.cellsOf 24) from by rw [k3]; rfl]; exact h3
 obtain ⟨n0, e0, f0⟩ := fk underlying3 h0
 obtain rfl : c0 = jv n0 := by simpa using e0
 obtain ⟨v1, e1⟩ : ∃ q, q = c1 := ⟨_, rfl⟩
 subst e1
 obtain ⟨v2, e2⟩ : ∃ q, q = c2 := ⟨_, rfl⟩
 subst e2
 obtain ⟨v3, e3⟩ : ∃ q, q = c3 := ⟨_, rfl⟩
 subst e3
 exact ⟨n0, v1, v2, v3, O, f0, ⟨m1, z1, h1, w1⟩, ⟨m2, z2, h2, w2⟩, ⟨m3, z3, h3, w3⟩⟩
theorem len2 {α : Type} {l : List α} (h : l.length = 2) : ∃ a0 a1, l = [a0, a1] := by
 match l, h with
 | [a0, a1], _ => exact ⟨_, _, rfl⟩
theorem ib {fuel : Nat} {cs : List Value} {x : DataW H × List MemPlace} (hl : cs.length = 2) (hw : Wt Tryz.prog 63 x.1) (h : DataW.trod enc Tryz.prog W base sp hd fuel 63 cs = some x) :
  ∃ (n0 : Int) (n1 : Int), cs = [jv n0, jv n1] ∧ (i64 n0) ∧ (i64 n1) := by
 obtain ⟨zs, hz, he, hy⟩ := lW 2 underlying63 underlying3 kr h hl
 obtain ⟨n0, n1, rfl⟩ := len2 hz
 exact ⟨n0, n1, he, hy n0 sm, hy n1 sm⟩
theorem rq {fuel : Nat} {v : Value} {x : DataW H × List MemPlace} (hok : Cell.okWide Tryz.prog W r b0 22 v) (hw : Wt Tryz.prog 22 x.1) (h : DataW.trod enc Tryz.prog W base sp hd fuel 22 [v] = some x) :
  ∃ xs : List Pr2, SlAt W v 2 (xs.map Pr2.cells) ∧ ∀ a ∈ xs, a.wt := by
 obtain ⟨els, h1, h2⟩ := mX 2 underlying22 kr de (of_decide_eq_true kr) hok hw h
 exact pB (f := Pr2.cells) (q := fun a => a.wt) h1 fun i hi => by
  obtain ⟨n, y, hy, hwy⟩ := h2 i hi
  obtain ⟨n0, n1, he, hf⟩ := ib (h1.1 _ (ya hi)) hwy hy
  exact ⟨⟨n0, n1⟩, he, hf⟩
theorem len8 {α : Type} {l : List α} (h : l.length = 8) : ∃ a0 a1 a2 a3 a4 a5 a6 a7, l = [a0, a1, a2, a3, a4, a5, a6, a7] := by
 match l, h with
 | [a0, a1, a2, a3, a4, a5, a6, a7], _ => exact ⟨_, _, _, _, _, _, _, _, rfl⟩
theorem ui {fuel : Nat} {cs : List Value} {x : DataW H × List MemPlace} (hl : cs.length = 8) (hw : Wt Tryz.prog 84 x.1) (h : DataW.trod enc Tryz.prog W base sp hd fuel 84 cs = some x) :
  ∃ (n0 : Int) (n1 : Int) (n2 : Int) (n3 : Int) (n4 : Int) (n5 : Int) (n6 : Int) (v7 : Value), cs = [jv n0, jv n1, jv n2, jv n3, jv n4, jv n5, jv n6, v7] ∧ (i64 n0) ∧ (i64 n1) ∧ (i64 n2) ∧ (i64 n3) ∧ (i64 n4) ∧ (i64 n5) ∧ (i64 n6) ∧ (∃ n z, DataW.trod enc Tryz.prog W base sp hd n 82 [v7] = some z ∧ Wt Tryz.prog 82 z.1) := by
 obtain ⟨c0, c1, c2, c3, c4, c5, c6, c7, rfl⟩ := len8 hl
 obtain ⟨m0, z0, h0, w0⟩ := cY 0 _ underlying84 hw h rfl
 have k0 : Tryz.prog.cellsOf 3 = 1 := by kernel_rfl
 replace h0 : DataW.trod enc Tryz.prog W base sp hd m0 3 [c0] = some z0 := by rw [show [c0] = ([c0, c1, c2, c3, c4, c5, c6, c7].drop 0).take (Tryz.prog.cellsOf 3) from by rw [k0]; rfl]; exact h0
 obtain ⟨m1, z1, h1, w1⟩ := cY 1 _ underlying84 hw h rfl
 have k1 : Tryz.prog.cellsOf 63 = 2 := by kernel_rfl
 replace h1 : DataW.trod enc Tryz.prog W base sp hd m1 63 [c1, c2] = some z1 := by rw [show [c1, c2] = ([c0, c1, c2, c3, c4, c5, c6, c7].drop 1).take (Tryz.prog.cellsOf 63) from by rw [k1]; rfl]; exact h1
 obtain ⟨m2, z2, h2, w2⟩ := cY 2 _ underlying84 hw h rfl
 have k2 : Tryz.prog.cellsOf 63 = 2 := by kernel_rfl
 replace h2 : DataW.trod enc Tryz.prog W base sp hd m2 63 [c3, c4] = some z2 := by rw [show [c3, c4] = ([c0, c1, c2, c3, c4, c5, c6, c7].drop 3).take (Tryz.prog.cellsOf 63) from by rw [k2]; rfl]; exact h2
 obtain ⟨m3, z3, h3, w3⟩ := cY 3 _ underlying84 hw h rfl
 have k3 : Tryz.prog.cellsOf 3 = 1 := by kernel_rfl
 replace h3 : DataW.trod enc Tryz.prog W base sp hd m3 3 [c5] = some z3 := by rw [show [c5] = ([c0, c1, c2, c3, c4, c5, c6, c7].drop 5).take (Tryz.prog.cellsOf 3) from by rw [k3]; rfl]; exact h3
 obtain ⟨m4, z4, h4, w4⟩ := cY 4 _ underlying84 hw h rfl
 have k4 : Tryz.prog.cellsOf 3 = 1 := by kernel_rfl
 replace h4 : DataW.trod enc Tryz.prog W base sp hd m4 3 [c6] = some z4 := by rw [show [c6] = ([c0, c1, c2, c3, c4, c5, c6, c7].drop 6).take (Tryz.prog.cellsOf 3) from by rw [k4]; rfl]; exact h4
 obtain ⟨m5, z5, h5, w5⟩ := cY 5 _ underlying84 hw h rfl
 have k5 : Tryz.prog.cellsOf 82 = 1 := by kernel_rfl
 replace h5 : DataW.trod enc Tryz.prog W base sp hd m5 82 [c7] = some z5 := by rw [show [c7] = ([c0, c1, c2, c3, c4, c5, c6, c7].drop 7).take (Tryz.prog.cellsOf 82) from by rw [k5]; rfl]; exact h5
 obtain ⟨n0, e0, f0⟩ := fk underlying3 h0
 obtain rfl : c0 = jv n0 := by simpa using e0
 obtain ⟨n1, n2, e1, f1_0, f1_1⟩ := ib rfl w1 h1
 simp only [List.cons.injEq, and_true] at e1
 obtain ⟨rfl, rfl⟩ := e1
 obtain ⟨n3, n4, e2, f2_0, f2_1⟩ := ib rfl w2 h2
 simp only [List.cons.injEq, and_true] at e2
 obtain ⟨rfl, rfl⟩ := e2
 obtain ⟨n5, e3, f3⟩ := fk underlying3 h3
 obtain rfl : c5 = jv n5 := by simpa using e3
 obtain ⟨n6, e4, f4⟩ := fk underlying3 h4
 obtain rfl : c6 = jv n6 := by simpa using e4
 obtain ⟨v7, e5⟩ : ∃ q, q = c7 := ⟨_, rfl⟩
 subst e5
 exact ⟨n0, n1, n2, n3, n4, n5, n6, v7, O, f0, f1_0, f1_1, f2_0, f2_1, f3, f4, ⟨m5, z5, h5, w5⟩⟩
theorem len5 {α : Type} {l : List α} (h : l.length = 5) : ∃ a0 a1 a2 a3 a4, l = [a0, a1, a2, a3, a4] := by
 match l, h with
 | [a0, a1, a2, a3, a4], _ => exact ⟨_, _, _, _, _, rfl⟩
theorem sj {fuel : Nat} {cs : List Value} {x : DataW H × List MemPlace} (hl : cs.length = 5) (hw : Wt Tryz.prog 142 x.1) (h : DataW.trod enc Tryz.prog W base sp hd fuel 142 cs = some x) :
  ∃ (n0 : Int) (n1 : Int) (n2 : Int) (n3 : Int) (n4 : Int), cs = [jv n0, jv n1, jv n2, jv n3, jv n4] ∧ (i64 n0) ∧ (i64 n1) ∧ (i64 n2) ∧ (i64 n3) ∧ (i64 n4) := by
 obtain ⟨zs, hz, he, hy⟩ := lW 5 underlying142 underlying3 kr h hl
 obtain ⟨n0, n1, n2, n3, n4, rfl⟩ := len5 hz
 exact ⟨n0, n1, n2, n3, n4, he, hy n0 sm, hy n1 sm, hy n2 sm, hy n3 sm, hy n4 sm⟩
theorem ub {fuel : Nat} {v : Value} {x : DataW H × List MemPlace} (hw : Wt Tryz.prog 82 x.1) (h : DataW.trod enc Tryz.prog W base sp hd fuel 82 [v] = some x) :
  ∃ ys : List Cin, SlE W v 5 (ys.map Cin.cells) ∧ (∀ y ∈ ys, y.wt) ∧ ys.length ≤ 3518437208883 := by
 obtain ⟨els, h1, h2, h3, h4⟩ := tr 5 underlying82 kr de (of_decide_eq_true kr) hw h
 obtain ⟨ys, rfl, hq⟩ := uJ (els := els) (f := Cin.cells) (q := Cin.wt) fun i hi => by
  obtain ⟨n, y, hy, hwy⟩ := h4 i hi
  obtain ⟨n0, n1, n2, n3, n4, he, hf⟩ := sj (h3 _ (ya hi)) hwy hy
  exact ⟨⟨n0, n1, n2, n3, n4⟩, he, hf⟩
 refine ⟨ys, h1, hq, ?_⟩
 rw [xg, show Tryz.prog.bytesOf 142 = 40 from by kernel_rfl] at h2
 omega
theorem r6 {fuel : Nat} {v : Value} {x : DataW H × List MemPlace} (hok : Cell.okWide Tryz.prog W r b0 23 v) (hw : Wt Tryz.prog 23 x.1) (h : DataW.trod enc Tryz.prog W base sp hd fuel 23 [v] = some x) :
  ∃ xs : List Nin, SlAt W v 8 (xs.map Nin.cells) ∧ ∀ a ∈ xs, a.wt W := by
 obtain ⟨els, h1, h2⟩ := mX 8 underlying23 kr de (of_decide_eq_true kr) hok hw h
 exact pB (f := Nin.cells) (q := fun a => a.wt W) h1 fun i hi => by
  obtain ⟨n, y, hy, hwy⟩ := h2 i hi
  obtain ⟨n0, n1, n2, n3, n4, n5, n6, v7, he, f0, f1, f2, f3, f4, f5, f6, n9, z, hz, hwz⟩ := ui (h1.1 _ (ya hi)) hwy hy
  obtain ⟨ys, g1, g2, g3⟩ := ub hwz hz
  exact ⟨⟨n0, n1, n2, n3, n4, n5, n6, v7, ys⟩, he, ⟨f0, f1, f2, f3, f4, f5, f6⟩, g1, g2, g3⟩
theorem rE {fuel : Nat} {v : Value} {x : DataW H × List MemPlace} (hok : Cell.okWide Tryz.prog W r b0 24 v) (hw : Wt Tryz.prog 24 x.1) (h : DataW.trod enc Tryz.prog W base sp hd fuel 24 [v] = some x) :
  ∃ xs : List Int, SlAt W v 1 (xs.map (fun z : Int => [jv z])) ∧ ∀ a ∈ xs, i64 a := by
 obtain ⟨els, h1, h2⟩ := mX 1 underlying24 kr de (of_decide_eq_true kr) hok hw h
 exact pB (f := fun z : Int => [jv z]) (q := fun a => i64 a) h1 fun i hi => by
  obtain ⟨n, y, hy, hwy⟩ := h2 i hi
  obtain ⟨n0, he, f0⟩ := fk underlying3 hy
  exact ⟨n0, he, f0⟩
theorem oW (hval : Value.okWide Tryz.prog W r b0 26 v) (hw : Wt Tryz.prog 26 d) (hd0 : DataW.Trod enc Tryz.prog W base sp hd 26 v d ps) :
  ∃ (n0 : Int) (v1 : Value) (xv1 : List Pr2) (v2 : Value) (xv2 : List Nin) (v3 : Value) (xv3 : List Int), v = .agg #[jv n0, v1, v2, v3] ∧ (i64 n0) ∧ (SlAt W v1 2 (xv1.map Pr2.cells)) ∧ (∀ a ∈ xv1, a.wt) ∧ (SlAt W v2 8 (xv2.map Nin.cells)) ∧ (∀ a ∈ xv2, a.wt W) ∧ (SlAt W v3 1 (xv3.map (fun z : Int => [jv z]))) ∧ (∀ a ∈ xv3, i64 a) := by
 obtain ⟨csA, rfl, hsz, hrow⟩ := jj kr hval
 obtain ⟨fuel, hf⟩ := hd0
 have hc : Tryz.prog.cellsOf 26 = 4 := by kernel_rfl
 obtain ⟨n0, v1, v2, v3, he, g0, g1, g2, g3⟩ := sY (cs := csA.toList) (by rw [yO, hsz, hc]) hw hf
 obtain rfl : csA = #[jv n0, v1, v2, v3] := by
  have he2 : csA.toList = [jv n0, v1, v2, v3] := he
  cases csA; simp only at he2; rw [he2]
 obtain ⟨n1_, z1_, h1_, w1_⟩ := g1
 obtain ⟨xv1, k1_, q1_⟩ := rq (jR (i := 1) (ts := [3, 22, 23, 24]) kr rfl hrow rfl) w1_ h1_
 obtain ⟨n2_, z2_, h2_, w2_⟩ := g2
 obtain ⟨xv2, k2_, q2_⟩ := r6 (jR (i := 2) (ts := [3, 22, 23, 24]) kr rfl hrow rfl) w2_ h2_
 obtain ⟨n3_, z3_, h3_, w3_⟩ := g3
 obtain ⟨xv3, k3_, q3_⟩ := rE (jR (i := 3) (ts := [3, 22, 23, 24]) kr rfl hrow rfl) w3_ h3_
 exact ⟨n0, v1, xv1, v2, xv2, v3, xv3, O, g0, k1_, q1_, k2_, q2_, k3_, q3_⟩
theorem o5 (hval : Value.okWide Tryz.prog W r b0 63 v) (hw : Wt Tryz.prog 63 d) (hd0 : DataW.Trod enc Tryz.prog W base sp hd 63 v d ps) :
  ∃ (n0 : Int) (n1 : Int), v = .agg #[jv n0, jv n1] ∧ (i64 n0) ∧ (i64 n1) := by
 obtain ⟨csA, rfl, hsz, hrow⟩ := jj kr hval
 obtain ⟨fuel, hf⟩ := hd0
 have hc : Tryz.prog.cellsOf 63 = 2 := by kernel_rfl
 obtain ⟨n0, n1, he, g0, g1⟩ := ib (cs := csA.toList) (by rw [yO, hsz, hc]) hw hf
 obtain rfl : csA = #[jv n0, jv n1] := by
  have he2 : csA.toList = [jv n0, jv n1] := he
  cases csA; simp only at he2; rw [he2]
 exact ⟨n0, n1, O, g0, g1⟩
end
end Go.Proofs.YtliklcmddmpdfaaGreatDoor
namespace Go.Proofs.YtliklcmddmpdfaaGreatDoor
open Go.RowKit Go.PW _root_.Go.Proofs.Tryz
section
variable {c num : Int} {l : List Cas} {ix ixa ixb : List Int} {L La Lb : List Itw} {es : List By} {n : Nat} {key : By} {hd : Hd}
theorem nV (hn : n ≤ 60) (hhd : hdOf sha key c es n = hd) (hia : ascI (n : Int) (-1) ixa = true) (hib : ascI (n : Int) (-1) ixb = true) (hLa : itsM La = showIs sha es n ixa) (hLb : itsM Lb = showIs sha es n ixb) (h1 : (hasF num (itsM La)).isSome = true) (h2 : lackF hd.n num (-1) false (itsM Lb) = true) : crookF (itsM La) (itsM Lb) = true := by
 obtain ⟨d, hd1⟩ := yk.1 h1
 have e : hd.n = (n : Int) := by rw [← hhd]; rfl
 rw [e, hLb] at h2
 rw [hLa] at hd1 ⊢
 rw [hLb]
 exact nB hn hia hib hd1 h2
end
end Go.Proofs.YtliklcmddmpdfaaGreatDoor
namespace Go.Proofs.YtliklcmddmpdfaaGreatDoor
open Go.RowKit Go.PW _root_.Go.Proofs.Tryz
theorem pG (cr : Int) (v1 : Value) (cs : List Pr2) (v2 : Value) (ns : List Nin) (v3 : Value) (hs : List Int) (how at_ b0 b1 number : Int) (w0 : World) (hv1 : SlAt w0 v1 2 (cs.map Pr2.cells)) (hv2 : SlAt w0 v2 8 (ns.map Nin.cells)) (hns : ∀ u ∈ ns, u.wt w0) (hv3 : SlAt w0 v3 1 (hs.map fun z : Int => [jv z])) (hcr : i64 cr) (hcs : ∀ y ∈ cs, y.wt) (hhs : ∀ z ∈ hs, i64 z) (h_how : i64 how) (h_at_ : i64 at_) (h_b0 : i64 b0) (h_b1 : i64 b1) (h_number : i64 number) (hk0 : (blk 0 (kOf.map wv) 258).ok w0) :
  Ret Tryz.prog 7 #[.agg #[jv cr, v1, v2, v3], jv how, jv at_, .agg #[jv b0, jv b1], jv number] w0 fun v w => v = .bool true ∧ Ext No w0 w := by
 have whow := h_how
 unfold i64 at whow
 have wat_ := h_at_
 unfold i64 at wat_
 have wb0 := h_b0
 unfold i64 at wb0
 have wb1 := h_b1
 unfold i64 at wb1
 have wnumber := h_number
 unfold i64 at wnumber
 obtain ⟨pn, hpn⟩ : ∃ z, pickI number 30 = z := ⟨_, rfl⟩
 have hpb := aW number (n := 30) de
 rw [hpn] at hpb
 refine zf func7 O ntmps7 (lb O) fun a Z Y => ?_
 refine aa fun _ G1 => aS Z Y de O (cs := [jv cr, v1, v2, v3]) O fun a w1 Z Y => aS Z Y de O (cs := [jv b0, jv b1]) O fun a w2 Z Y => wla Z O fun a Z => G1 <| aa fun _ G2 => ?_
 refine ax Z Y de call11 O (uO _ (Y.keepb hk0)) fun a w3 Z Y => wla Z O fun a Z => G2 <| ah fun _ G3 => ?_
 refine aa fun _ G4 => nv Z <| xc O <| pq ((bu O).asb (b' := false) O) <| fun a Z => G4 <| aJ Z O ?_
 refine aw <| G3 <| aa fun _ G5 => wlv Z (ai (Y.g 1 O) O (isAgg26 _) (sizeOf26 _)) fun a Z => bt Z Y de call12 O (rL cr v1 cs v2 ns v3 hs _ (Y.arg hv1) (Y.arg hv2) (fun u h => (hns u h).grow Y.ext) (Y.arg hv3) hcr hcs hhs) fun a w4 x1 hp Z Y => ?_
 obtain ⟨dc, dv, dl⟩ := x1
 have hD := hp
 try dsimp only at Y
 replace Y := Y.n3 O
 refine aB Z Y de (zeroValue32 _) (cs := [jv 0, .slice none 0 0]) O fun a w5 Z Y => aV (us := [jv dc, dv]) 0 Z Y O O O (sizeOf32 _) zu (lb O) (ds := [jv dc, dv]) O O fun a w6 Z Y => ?_
 refine G5 ?_
 replace Z := Z.p6 1 2 4 8 10 12 O
 replace Y := Y.k3 7 O
 have hD : Doc dc dl := hD
 obtain ⟨hdok, hdl, hdb⟩ := id hD
 have hcb := hD.car
 obtain ⟨kk, hkk⟩ : ∃ k, keyG dc = k := ⟨_, rfl⟩
 have hk32 : kk.length = 32 := by rw [← hkk]; exact oL _
 obtain ⟨hd, hhd⟩ : ∃ h, hdOf sha kk dc (entC dl) dl.length = h := ⟨_, rfl⟩
 have hreg := jy hD.1
 have hel := bC dl
 refine aa fun _ G6 => nv Z <| pq (ac (v := pt w4.hz) O kr) <| pq (ld Y 0 O O (isAgg3 _) O) <| fun a Z => ax Z Y de call13 O (ir (by rw [hkk]) (kl dc _ om)) fun a w7 Z Y => wla Z O fun a Z => G6 <| aa fun _ G7 => ?_
 refine nv Z <| pq (ai (Y.g 0 O) O (isAgg32 _) (sizeOf32 _)) <| xc O <| xc O <| fun a Z => bt Z Y de call29 O (oI dc dv dl how at_ _ (Y.ow 1 O) hD h_how h_at_) fun a w8 x2 hp Z Y => ?_
 obtain ⟨rv, rl⟩ := x2
 obtain ⟨hrl, hra⟩ := hp
 try dsimp only at Y
 replace Y := Y.n4 O
 refine aB Z Y de (zeroValue75 _) (cs := [jv 0, .slice none 0 0]) O fun a w9 Z Y => aV (us := [jv dc, rv]) 0 Z Y O O O (sizeOf75 _) zu (lb O) (ds := [jv dc, rv]) O O fun a w10 Z Y => ?_
 refine G7 ?_
 replace Z := Z.p6 4 8 10 12 13 14 O
 have hrl : rl.length = dl.length := hrl
 have hregr : regOk dc rl = true := nE (by unfold inB; rw [xt hcb.1, xt hcb.2]; rfl) om (fun s hs => xZ (hra s hs) de)
 obtain ⟨hdr, hhdr⟩ : ∃ h, hdOf sha kk dc rl rl.length = h := ⟨_, rfl⟩
 refine aa fun _ G8 => wlm Z O fun a Z => ax Z Y de call16 O (gY hpn (pJ number 30 _ ⟨om, om⟩ ⟨om, om⟩)) fun a w11 Z Y => wla Z O fun a Z => G8 <| ah fun _ G9 => ?_
 refine aL kr (aM kr fun w12 hxz => ?_)
 replace Y := Y.grow hxz
 refine aU (k := 0) 17 [14, 16] Z kr kr kr rfx ?_
 replace Z := Z.p9 4 8 10 12 13 14 41 42 15 O
 refine dj 15 16 13 [(12, 11, fun u => u), (13, 12, fun u => tupAt u 0)] 50 [jv 0, jv 0, .string (⟨#[]⟩), .string (⟨#[]⟩), .slice none 0 0] (fun u => u.cells.toList) 17 [[], [], [], [2], [3], [], [5], [], [7], [8], [6, 9], [0, 1, 4, 10], [11], [12], [12], [], [13, 15]] (fun i => match i with | 0 => pv (sv kk) | 1 => pv (.agg #[jv dc, rv]) | 2 => pv (po w8.hz 1) | 3 => pv (rv) | 4 => pv (jv ((rl).length : Int)) | 5 => pv (pt w1.hz) | 6 => pv (jv b0) | 7 => pv (po w8.hz 1) | 8 => pv (rv) | 9 => pv (jv ((rl).length : Int)) | 10 => pm (fun x : Value × List Int => x.1) (fun x => [own x.1 3 1 (x.2.map fun z : Int => [jv z])]) (fun x => ascI (((rl).length : Int).toNat : Int) (-1) x.2 = true ∧ x.2.length ≤ ((rl).length : Int).toNat) | 11 => pm (fun x : Value × List Itw => .tuple #[.agg #[jv hdr.c, jv hdr.n, sv hdr.root, sv hdr.tag, x.1], jv 0]) (fun x => [itsE x.1 x.2]) (fun x => ∃ ix : List Int, ascI (((rl).length : Int).toNat : Int) (-1) ix = true ∧ ix.length ≤ ((rl).length : Int).toNat ∧ itsM x.2 = showIs sha rl (((rl).length : Int).toNat) ix) | 12 => fun v E => (∃ sa0 sn0 sc0, v = .tuple #[.agg #[jv hdr.c, jv hdr.n, sv hdr.root, sv hdr.tag, (.slice sa0 sn0 sc0)], jv 0]) ∧ E = [] | 13 => fun v E => (∃ sa0 sn0 sc0, v = .agg #[jv hdr.c, jv hdr.n, sv hdr.root, sv hdr.tag, (.slice sa0 sn0 sc0)]) ∧ E = [] | 14 => pv (jv 0) | 15 => fun v E => ∃ b, v = ptr b ∧ E = [] | 16 => fun v E => v = undef ∧ E = [] | _ => fun _ _ => False) Z (H := [blk w8.hz [jv dc, rv] 75, own rv 9 1 ((rl).map fun s => [sv s]), blk w4.hz [jv dc, dv] 32, own dv 55 3 ((dl).map Cas.cells), blk w1.hz [jv b0, jv b1] 63]) Y kr kr kr kr de de de de de de de kr zy ?_ (fun _ _ h => h) ⟨O, O⟩ (fun _ _ => Iff.rfl) ?_ ?_ ?_ ?_ ?_
 ·intro i v E h
  match i, h with
  | 0, _ => exact by decide
  | 1, _ => exact by decide
  | 2, _ => exact by decide
  | 3, _ => exact by decide
  | 4, _ => exact by decide
  | 5, _ => exact by decide
  | 6, _ => exact by decide
  | 7, _ => exact by decide
  | 8, _ => exact by decide
  | 9, _ => exact by decide
  | 10, _ => exact by decide
  | 11, _ => exact by decide
  | 12, _ => exact by decide
  | 13, _ => exact by decide
  | 14, _ => exact by decide
  | 15, _ => exact by decide
  | 16, _ => exact by decide
  | i + 17, h => exact h.elim
 ·intro i hi hia hij hil e
  match i, hi, hia, hij, hil with
  | 0, _, _, _, _ =>
   intro hl9 w Y
   exact OpV.g (az O)
  | 1, _, _, _, _ =>
   intro hl9 w Y
   exact OpV.g (ai (Y.g 1 O) O (isAgg75 _) (sizeOf75 _))
  | 2, _, _, _, _ =>
   intro hl9 w Y
   exact OpV.g (ac (v := po w8.hz 1) O kr)
  | 3, _, _, _, _ =>
   rintro _ _ ⟨rfl, rfl⟩
   intro hl9 w Y
   exact OpV.g (ld Y 1 O O (isAgg44 _) O)
  | 4, _, _, _, _ =>
   rintro _ _ ⟨rfl, rfl⟩
   intro hl9 w Y
   exact OpV.g ((aH (sT := 44) (Y.ow 2 O) O O (runUnderlying44 _)).asi (m' := ((rl).length : Int)) zF)
  | 5, _, _, _, _ =>
   intro hl9 w Y
   exact OpV.g (aX (v := pt w1.hz) O O kr)
  | 6, _, _, _, _ =>
   rintro _ _ ⟨rfl, rfl⟩
   intro hl9 w Y
   exact OpV.g (ld Y 5 O O (isAgg3 _) O)
  | 7, _, _, _, _ =>
   intro hl9 w Y
   exact OpV.g (ac (v := po w8.hz 1) O kr)
  | 8, _, _, _, _ =>
   rintro _ _ ⟨rfl, rfl⟩
   intro hl9 w Y
   exact OpV.g (ld Y 1 O O (isAgg44 _) O)
  | 9, _, _, _, _ =>
   rintro _ _ ⟨rfl, rfl⟩
   intro hl9 w Y
   exact OpV.g ((aH (sT := 44) (Y.ow 2 O) O O (runUnderlying44 _)).asi (m' := ((rl).length : Int)) zF)
  | 10, _, _, _, _ =>
   rintro _ _ ⟨rfl, rfl⟩ _ _ ⟨rfl, rfl⟩
   intro hl9 w Y
   exact dL call28 O (iE b0 (((rl).length : Int).toNat) _ h_b0 om)
  | 11, _, _, _, _ =>
   rintro _ _ ⟨rfl, rfl⟩ _ _ ⟨rfl, rfl⟩ _ _ ⟨rfl, rfl⟩ xv4 _ ⟨⟨_, lxv4⟩, rfl, ⟨haxv4, hlxv4⟩, rfl⟩
   intro hl9 w Y
   exact dL call26 O ((ez kk (((rl).length : Int).toNat) hdr xv4 lxv4 dc rv rl _ (Y.ow 3 O) (Y.ow 0 O) hk32 hregr (xN _) haxv4 (xZ (show lxv4.length ≤ _ from hlxv4) om) hhdr (Y.keepb hk0)).mono fun v w h => gl h (fun x hx => ⟨lxv4, haxv4, hlxv4, hx⟩))
  | 12, _, _, _, h => exact absurd de h
  | 13, _, _, _, h => exact absurd de h
  | 14, _, _, _, _ =>
   rintro _ _ ⟨⟨sa0, sn0, sc0, rfl⟩, rfl⟩
   intro hl9 w Y
   exact OpV.g (ar O O)
  | 15, _, h, _, _ => exact absurd O h
  | 16, _, _, h, _ => exact absurd O h
  | i + 17, h, _, _, _ => exact absurd h om
 ·intro x hx e
  simp only [xn, xr, xO] at hx
  rcases hx with rfl | rfl
  ·rintro _ _ ⟨⟨iv5, Liv5⟩, rfl, ⟨ixiv5, hixiv5, hiliv5, hLiv5⟩, rfl⟩
   intro w Y
   obtain ⟨sa0, sn0, sc0, rfl⟩ := cN (bc (k := 0) Y rfl).1
   exact OpV.hopv (OpV.g (az O)) ⟨⟨_, _, _, O⟩, O⟩
  ·rintro _ _ ⟨⟨sa0, sn0, sc0, rfl⟩, rfl⟩
   intro w Y
   exact OpV.hopv (OpV.g (ar O O)) ⟨⟨_, _, _, O⟩, O⟩
 ·exact fun Lv w => dI (zeroValue50 _)
 ·rintro _ _ ⟨⟨sa0, sn0, sc0, rfl⟩, rfl⟩ _ _ ⟨b3, rfl, rfl⟩
  intro b hb u hu w h
  have hb : some (ptr b3) = some (ptr b) := hb
  cases hb
  have hu : some (.agg #[jv hdr.c, jv hdr.n, sv hdr.root, sv hdr.tag, (.slice sa0 sn0 sc0)]) = some u := hu
  cases hu
  exact dk O O h (sizeOf50 _) O (lb O) O
 clear Z Y
 rintro V bq hva hlk _ _ ⟨⟨rfl, rfl⟩, -⟩ _ _ ⟨⟨rfl, rfl⟩, -⟩ _ _ ⟨⟨rfl, rfl⟩, -⟩ _ _ ⟨⟨rfl, rfl⟩, -⟩ _ _ ⟨⟨rfl, rfl⟩, -⟩ _ _ ⟨⟨rfl, rfl⟩, -⟩ _ _ ⟨⟨rfl, rfl⟩, -⟩ _ _ ⟨⟨rfl, rfl⟩, -⟩ _ _ ⟨⟨rfl, rfl⟩, -⟩ _ _ ⟨⟨rfl, rfl⟩, -⟩ xv4 _ ⟨⟨⟨_, lxv4⟩, rfl, ⟨haxv4, hlxv4⟩, rfl⟩, -⟩ _ _ ⟨⟨⟨iv5, Liv5⟩, rfl, ⟨ixiv5, hixiv5, hiliv5, hLiv5⟩, rfl⟩, hv11_⟩ v12_ _ ⟨⟨-, rfl⟩, hv12_⟩ v13_ _ ⟨⟨-, rfl⟩, hv13_⟩ _ _ ⟨⟨rfl, rfl⟩, -⟩ _ _ ⟨⟨b3, rfl, rfl⟩, hva9⟩ a w13 Z Y
 obtain rfl : b3 = bq := eh (hva9.trans hva)
 obtain rfl : v12_ = .tuple #[.agg #[jv hdr.c, jv hdr.n, sv hdr.root, sv hdr.tag, iv5], jv 0] := hv12_.trans ((hlk 0 _ rfl).trans (xI (fun u => u) hv11_.symm))
 obtain rfl : v13_ = .agg #[jv hdr.c, jv hdr.n, sv hdr.root, sv hdr.tag, iv5] := hv13_.trans ((hlk 1 _ rfl).trans (xI (fun u => tupAt u 0) hv12_.symm))
 rw [← hv13_] at Y
 replace Z : Fr 177 [(44, _), (45, _), (46, _), (47, _), (48, _), (49, _), (50, _), (51, _), (52, _), (53, _), (54, _), (55, _), (43, _), (56, _), (57, _), (16, _), (4, _), (8, _), (10, _), (12, _), (13, _), (14, _), (41, _), (42, _), (15, _)] [] a := Z
 replace Y := Y.n8 O
 clear hva9 hva hlk hv13_ hv12_ hv11_
 refine ab <| aN (k := 17) 18 [17] kr kr kr ?_
 refine wla Z O fun a Z => ab <| aT kr ?_
 refine G9 ?_
 replace Z := Z.p8 8 10 12 13 14 15 16 17 O
 replace Y := Y.k7 254 O
 refine ah fun _ G10 => aL kr (aM kr fun w14 hxz => ?_)
 replace Y := Y.grow hxz
 refine aU (k := 0) 17 [14, 16] Z kr kr kr rfx ?_
 replace Z := Z.p8 8 10 12 13 14 15 16 17 O
 refine dj 15 16 13 [(12, 11, fun u => u), (13, 12, fun u => tupAt u 0)] 50 [jv 0, jv 0, .string (⟨#[]⟩), .string (⟨#[]⟩), .slice none 0 0] (fun u => u.cells.toList) 17 [[], [], [], [2], [3], [], [5], [], [7], [8], [6, 9], [0, 1, 4, 10], [11], [12], [12], [], [13, 15]] (fun i => match i with | 0 => pv (sv kk) | 1 => pv (.agg #[jv dc, rv]) | 2 => pv (po w8.hz 1) | 3 => pv (rv) | 4 => pv (jv ((rl).length : Int)) | 5 => pv (po w1.hz 1) | 6 => pv (jv b1) | 7 => pv (po w8.hz 1) | 8 => pv (rv) | 9 => pv (jv ((rl).length : Int)) | 10 => pm (fun x : Value × List Int => x.1) (fun x => [own x.1 3 1 (x.2.map fun z : Int => [jv z])]) (fun x => ascI (((rl).length : Int).toNat : Int) (-1) x.2 = true ∧ x.2.length ≤ ((rl).length : Int).toNat) | 11 => pm (fun x : Value × List Itw => .tuple #[.agg #[jv hdr.c, jv hdr.n, sv hdr.root, sv hdr.tag, x.1], jv 0]) (fun x => [itsE x.1 x.2]) (fun x => ∃ ix : List Int, ascI (((rl).length : Int).toNat : Int) (-1) ix = true ∧ ix.length ≤ ((rl).length : Int).toNat ∧ itsM x.2 = showIs sha rl (((rl).length : Int).toNat) ix) | 12 => fun v E => (∃ sa0 sn0 sc0, v = .tuple #[.agg #[jv hdr.c, jv hdr.n, sv hdr.root, sv hdr.tag, (.slice sa0 sn0 sc0)], jv 0]) ∧ E = [] | 13 => fun v E => (∃ sa0 sn0 sc0, v = .agg #[jv hdr.c, jv hdr.n, sv hdr.root, sv hdr.tag, (.slice sa0 sn0 sc0)]) ∧ E = [] | 14 => pv (jv 0) | 15 => fun v E => ∃ b, v = ptr b ∧ E = [] | 16 => fun v E => v = undef ∧ E = [] | _ => fun _ _ => False) Z (H := [itsE iv5 Liv5, blk b3 [jv hdr.c, jv hdr.n, sv hdr.root, sv hdr.tag, iv5] 50, blk w8.hz [jv dc, rv] 75, own rv 9 1 ((rl).map fun s => [sv s]), blk w4.hz [jv dc, dv] 32, own dv 55 3 ((dl).map Cas.cells), blk w1.hz [jv b0, jv b1] 63]) Y kr kr kr kr de de de de de de de kr zy ?_ (fun _ _ h => h) ⟨O, O⟩ (fun _ _ => Iff.rfl) ?_ ?_ ?_ ?_ ?_
 ·intro i v E h
  match i, h with
  | 0, _ => exact by decide
  | 1, _ => exact by decide
  | 2, _ => exact by decide
  | 3, _ => exact by decide
  | 4, _ => exact by decide
  | 5, _ => exact by decide
  | 6, _ => exact by decide
  | 7, _ => exact by decide
  | 8, _ => exact by decide
  | 9, _ => exact by decide
  | 10, _ => exact by decide
  | 11, _ => exact by decide
  | 12, _ => exact by decide
  | 13, _ => exact by decide
  | 14, _ => exact by decide
  | 15, _ => exact by decide
  | 16, _ => exact by decide
  | i + 17, h => exact h.elim
 ·intro i hi hia hij hil e
  match i, hi, hia, hij, hil with
  | 0, _, _, _, _ =>
   intro hl9 w Y
   exact OpV.g (az O)
  | 1, _, _, _, _ =>
   intro hl9 w Y
   exact OpV.g (ai (Y.g 3 O) O (isAgg75 _) (sizeOf75 _))
  | 2, _, _, _, _ =>
   intro hl9 w Y
   exact OpV.g (ac (v := po w8.hz 1) O kr)
  | 3, _, _, _, _ =>
   rintro _ _ ⟨rfl, rfl⟩
   intro hl9 w Y
   exact OpV.g (ld Y 3 O O (isAgg44 _) O)
  | 4, _, _, _, _ =>
   rintro _ _ ⟨rfl, rfl⟩
   intro hl9 w Y
   exact OpV.g ((aH (sT := 44) (Y.ow 4 O) O O (runUnderlying44 _)).asi (m' := ((rl).length : Int)) zF)
  | 5, _, _, _, _ =>
   intro hl9 w Y
   exact OpV.g (aX (v := po w1.hz 1) O O kr)
  | 6, _, _, _, _ =>
   rintro _ _ ⟨rfl, rfl⟩
   intro hl9 w Y
   exact OpV.g (ld Y 7 O O (isAgg3 _) O)
  | 7, _, _, _, _ =>
   intro hl9 w Y
   exact OpV.g (ac (v := po w8.hz 1) O kr)
  | 8, _, _, _, _ =>
   rintro _ _ ⟨rfl, rfl⟩
   intro hl9 w Y
   exact OpV.g (ld Y 3 O O (isAgg44 _) O)
  | 9, _, _, _, _ =>
   rintro _ _ ⟨rfl, rfl⟩
   intro hl9 w Y
   exact OpV.g ((aH (sT := 44) (Y.ow 4 O) O O (runUnderlying44 _)).asi (m' := ((rl).length : Int)) zF)
  | 10, _, _, _, _ =>
   rintro _ _ ⟨rfl, rfl⟩ _ _ ⟨rfl, rfl⟩
   intro hl9 w Y
   exact dL call28 O (iE b1 (((rl).length : Int).toNat) _ h_b1 om)
  | 11, _, _, _, _ =>
   rintro _ _ ⟨rfl, rfl⟩ _ _ ⟨rfl, rfl⟩ _ _ ⟨rfl, rfl⟩ xv7 _ ⟨⟨_, lxv7⟩, rfl, ⟨haxv7, hlxv7⟩, rfl⟩
   intro hl9 w Y
   exact dL call26 O ((ez kk (((rl).length : Int).toNat) hdr xv7 lxv7 dc rv rl _ (Y.ow 5 O) (Y.ow 0 O) hk32 hregr (xN _) haxv7 (xZ (show lxv7.length ≤ _ from hlxv7) om) hhdr (Y.keepb hk0)).mono fun v w h => gl h (fun x hx => ⟨lxv7, haxv7, hlxv7, hx⟩))
  | 12, _, _, _, h => exact absurd de h
  | 13, _, _, _, h => exact absurd de h
  | 14, _, _, _, _ =>
   rintro _ _ ⟨⟨sa0, sn0, sc0, rfl⟩, rfl⟩
   intro hl9 w Y
   exact OpV.g (ar O O)
  | 15, _, h, _, _ => exact absurd O h
  | 16, _, _, h, _ => exact absurd O h
  | i + 17, h, _, _, _ => exact absurd h om
 ·intro x hx e
  simp only [xn, xr, xO] at hx
  rcases hx with rfl | rfl
  ·rintro _ _ ⟨⟨iv8, Liv8⟩, rfl, ⟨ixiv8, hixiv8, hiliv8, hLiv8⟩, rfl⟩
   intro w Y
   obtain ⟨sa0, sn0, sc0, rfl⟩ := cN (bc (k := 0) Y rfl).1
   exact OpV.hopv (OpV.g (az O)) ⟨⟨_, _, _, O⟩, O⟩
  ·rintro _ _ ⟨⟨sa0, sn0, sc0, rfl⟩, rfl⟩
   intro w Y
   exact OpV.hopv (OpV.g (ar O O)) ⟨⟨_, _, _, O⟩, O⟩
 ·exact fun Lv w => dI (zeroValue50 _)
 ·rintro _ _ ⟨⟨sa0, sn0, sc0, rfl⟩, rfl⟩ _ _ ⟨b6, rfl, rfl⟩
  intro b hb u hu w h
  have hb : some (ptr b6) = some (ptr b) := hb
  cases hb
  have hu : some (.agg #[jv hdr.c, jv hdr.n, sv hdr.root, sv hdr.tag, (.slice sa0 sn0 sc0)]) = some u := hu
  cases hu
  exact dk O O h (sizeOf50 _) O (lb O) O
 clear Z Y
 rintro V bq hva hlk _ _ ⟨⟨rfl, rfl⟩, -⟩ _ _ ⟨⟨rfl, rfl⟩, -⟩ _ _ ⟨⟨rfl, rfl⟩, -⟩ _ _ ⟨⟨rfl, rfl⟩, -⟩ _ _ ⟨⟨rfl, rfl⟩, -⟩ _ _ ⟨⟨rfl, rfl⟩, -⟩ _ _ ⟨⟨rfl, rfl⟩, -⟩ _ _ ⟨⟨rfl, rfl⟩, -⟩ _ _ ⟨⟨rfl, rfl⟩, -⟩ _ _ ⟨⟨rfl, rfl⟩, -⟩ xv7 _ ⟨⟨⟨_, lxv7⟩, rfl, ⟨haxv7, hlxv7⟩, rfl⟩, -⟩ _ _ ⟨⟨⟨iv8, Liv8⟩, rfl, ⟨ixiv8, hixiv8, hiliv8, hLiv8⟩, rfl⟩, hv11_⟩ v12_ _ ⟨⟨-, rfl⟩, hv12_⟩ v13_ _ ⟨⟨-, rfl⟩, hv13_⟩ _ _ ⟨⟨rfl, rfl⟩, -⟩ _ _ ⟨⟨b6, rfl, rfl⟩, hva9⟩ a w15 Z Y
 obtain rfl : b6 = bq := eh (hva9.trans hva)
 obtain rfl : v12_ = .tuple #[.agg #[jv hdr.c, jv hdr.n, sv hdr.root, sv hdr.tag, iv8], jv 0] := hv12_.trans ((hlk 0 _ rfl).trans (xI (fun u => u) hv11_.symm))
 obtain rfl : v13_ = .agg #[jv hdr.c, jv hdr.n, sv hdr.root, sv hdr.tag, iv8] := hv13_.trans ((hlk 1 _ rfl).trans (xI (fun u => tupAt u 0) hv12_.symm))
 rw [← hv13_] at Y
 replace Z : Fr 177 [(59, _), (60, _), (61, _), (62, _), (63, _), (64, _), (65, _), (66, _), (67, _), (68, _), (69, _), (70, _), (58, _), (71, _), (72, _), (18, _), (8, _), (10, _), (12, _), (13, _), (14, _), (15, _), (16, _), (17, _)] [] a := Z
 replace Y := Y.n10 O
 clear hva9 hva hlk hv13_ hv12_ hv11_
 refine ab <| aN (k := 17) 18 [17] kr kr kr ?_
 refine wla Z O fun a Z => ab <| aT kr ?_
 refine G10 ?_
 replace Y := Y.k8 990 O
 refine ah fun _ G11 => aa fun _ G12 => nv (Z.p9 8 10 12 13 15 16 17 18 19 O) <| xc O <| pq ((v_ne O O).asb (b' := false) O) <| xc O <| xe (az O) <| xe ((v_ne O O).asb (b' := false) O) <| pq (aj O O) <| fun a Z => G12 ?_
 replace Z := Z.p8 8 10 12 13 15 16 18 78 O
 refine aJ Z O ?_
 refine aw <| G11 <| aa fun _ G13 => nv Z <| xc O <| pq (ai (Y.g 3 O) O (isAgg50 _) (sizeOf50 _)) <| xc O <| fun a Z => ax Z Y de call24 O (qc kk hdr iv5 Liv5 pn _ (bc (k := 2) Y O) (bU om hLiv5) (cL hregr (xN _) hk32 hhdr hixiv5 hLiv5) (Y.keepb hk0)) fun a w16 Z Y => nv Z <| xc O <| pq (ar O O) <| pq (ar O O) <| fun a Z => aB Z Y de (zeroValue55 _) (cs := [jv 0, jv 0, .string (⟨#[]⟩)]) O fun a w17 Z Y => aq 0 Z Y O O O (sizeOf55 _) O (lb O) (ds := [jv (((hasF pn (itsM Liv5)).getD Cas.z).n), jv (((hasF pn (itsM Liv5)).getD Cas.z).t), sv (((hasF pn (itsM Liv5)).getD Cas.z).ev)]) O O fun a w18 Z Y => wla Z O fun a Z => G13 ?_
 replace Z := Z.p8 8 10 12 13 15 16 18 21 O
 replace Y := Y.k8 510 O
 refine ah fun _ G14 => ah fun _ G15 => mZ (fun a w => Fr 177 [(8, pt w1.hz), (10, .bool false), (12, pt w4.hz), (13, sv kk), (15, jv pn), (106, .bool false)] [] a ∧ St No w0 [itsE iv8 Liv8, blk b6 [jv hdr.c, jv hdr.n, sv hdr.root, sv hdr.tag, iv8] 50, itsE iv5 Liv5, blk b3 [jv hdr.c, jv hdr.n, sv hdr.root, sv hdr.tag, iv5] 50, own rv 9 1 ((rl).map fun s => [sv s]), blk w4.hz [jv dc, dv] 32, own dv 55 3 ((dl).map Cas.cells), blk w1.hz [jv b0, jv b1] 63] w) ?_ ?_
 ·refine al <| nv Z <| xc O <| xc O <| fun a Z => ?_
  rcases xh ((hasF pn (itsM Liv5)).isSome) with hb9 | hb9
  ·rw [hb9] at Z
   have hps := hb9
   refine nv Z <| xe (az O) <| xe (ai (Y.g 1 O) O (isAgg50 _) (sizeOf50 _)) <| xe (az O) <| fun a Z => aF Z Y de O de O call25 O (gj kk hdr iv8 Liv8 pn _ (bc (k := 0) Y O) (bU om hLiv8) (cL hregr (xN _) hk32 hhdr hixiv8 hLiv8) om (Y.keepb hk0)) fun a w19 Z Y => nv Z <| pq (ay O O) <| xc O <| fun a Z => ?_
   rcases xh (lackF hdr.n pn (-1) false (itsM Liv8)) with hb10 | hb10
   ·rw [hb10] at Z
    have hnc := nV om hhdr hixiv5 hixiv8 hLiv5 hLiv8 hps hb10
    refine nv Z <| xe (az O) <| xe (ai (Y.g 3 O) O (isAgg50 _) (sizeOf50 _)) <| xe (ai (Y.g 1 O) O (isAgg50 _) (sizeOf50 _)) <| fun a Z => aF Z Y de O de O call30 O (cf hnc (dN kk hdr iv5 iv8 Liv5 Liv8 _ (bc (k := 2) Y O) (bc (k := 0) Y O) (bU om hLiv5) (bU om hLiv8) (cL hregr (xN _) hk32 hhdr hixiv5 hLiv5) (cL hregr (xN _) hk32 hhdr hixiv8 hLiv8) (Y.keepb hk0))) fun a w20 Z Y => ?_
    refine nv Z <| xe ((bu O).asb (b' := false) O) <| xe (az O) <| xe (az O) <| xe (ai (Y.g 1 O) O (isAgg50 _) (sizeOf50 _)) <| xe (ai (Y.g 3 O) O (isAgg50 _) (sizeOf50 _)) <| fun a Z => aF Z Y de O de O call30 O (cf ((oU _ _).trans hnc) (dN kk hdr iv8 iv5 Liv8 Liv5 _ (bc (k := 0) Y O) (bc (k := 2) Y O) (bU om hLiv8) (bU om hLiv5) (cL hregr (xN _) hk32 hhdr hixiv8 hLiv8) (cL hregr (xN _) hk32 hhdr hixiv5 hLiv5) (Y.keepb hk0))) fun a w21 Z Y => nv Z <| xe ((bu O).asb (b' := false) O) <| xe (aj O O) <| pq (ay O O) <| fun a Z => ab ?_
    exact ⟨Z.pick [8, 10, 12, 13, 15, 106], Y.select [0, 1, 2, 3, 4, 5, 6, 7] de⟩
   rw [hb10] at Z
   refine nv Z <| xf <| xf <| xf <| xf <| xf <| xf <| fun a Z => bJ Z de O de O fun a Z => bJ Z de O de O fun a Z => bJ Z de O de O fun a Z => bJ Z de O de O fun a Z => bJ Z de O de O fun a Z => nv Z <| xf <| pq (aj O O) <| fun a Z => ab ?_
   exact ⟨Z.pick [8, 10, 12, 13, 15, 106], Y.select [0, 1, 2, 3, 4, 5, 6, 7] de⟩
  rw [hb9] at Z
  refine nv Z <| xf <| xf <| xf <| xf <| pq (aj O O) <| xc O <| xf <| xf <| xf <| xf <| xf <| xf <| fun a Z => bJ Z de O de O fun a Z => bJ Z de O de O fun a Z => bJ Z de O de O fun a Z => bJ Z de O de O fun a Z => bJ Z de O de O fun a Z => nv Z <| xf <| pq (aj O O) <| fun a Z => ab ?_
  exact ⟨Z.pick [8, 10, 12, 13, 15, 106], Y.select [0, 1, 2, 3, 4, 5, 6, 7] de⟩
 rintro a w22 ⟨Z, Y⟩
 refine G15 <| aJ Z O ?_
 refine aw <| G14 <| aa fun _ G16 => wlv Z (ai (Y.g 5 O) O (isAgg32 _) (sizeOf32 _)) fun a Z => bt Z Y de call27 O (qB dc dv dl _ (Y.ow 6 O) om) fun a w23 x12 hp Z Y => ?_
 revert x12 hp Z Y; rintro ev11 hp Z Y
 clear hp
 replace Y := Y.n9 O
 refine aB Z Y de (zeroValue75 _) (cs := [jv 0, .slice none 0 0]) O fun a w24 Z Y => aV (us := [jv dc, ev11]) 0 Z Y O O O (sizeOf75 _) zu (lb O) (ds := [jv dc, ev11]) O O fun a w25 Z Y => ?_
 refine G16 <| ah fun _ G17 => ?_
 refine aL kr (aM kr fun w26 hxz => ?_)
 replace Y := Y.grow hxz
 refine aU (k := 0) 17 [14, 16] Z kr kr kr rfx ?_
 replace Z := Z.p9 8 10 12 13 15 106 107 108 22 O
 refine dj 15 16 13 [(12, 11, fun u => u), (13, 12, fun u => tupAt u 0)] 50 [jv 0, jv 0, .string (⟨#[]⟩), .string (⟨#[]⟩), .slice none 0 0] (fun u => u.cells.toList) 17 [[], [], [], [2], [3], [], [5], [], [7], [8], [6, 9], [0, 1, 4, 10], [11], [12], [12], [], [13, 15]] (fun i => match i with | 0 => pv (sv kk) | 1 => pv (.agg #[jv dc, ev11]) | 2 => pv (po w4.hz 1) | 3 => pv (dv) | 4 => pv (jv (dl.length : Int)) | 5 => pv (pt w1.hz) | 6 => pv (jv b0) | 7 => pv (po w4.hz 1) | 8 => pv (dv) | 9 => pv (jv (dl.length : Int)) | 10 => pm (fun x : Value × List Int => x.1) (fun x => [own x.1 3 1 (x.2.map fun z : Int => [jv z])]) (fun x => ascI (dl.length : Int) (-1) x.2 = true ∧ x.2.length ≤ dl.length) | 11 => pm (fun x : Value × List Itw => .tuple #[.agg #[jv hd.c, jv hd.n, sv hd.root, sv hd.tag, x.1], jv 0]) (fun x => [itsE x.1 x.2]) (fun x => ∃ ix : List Int, ascI (dl.length : Int) (-1) ix = true ∧ ix.length ≤ dl.length ∧ itsM x.2 = showIs sha (entC dl) dl.length ix) | 12 => fun v E => (∃ sa0 sn0 sc0, v = .tuple #[.agg #[jv hd.c, jv hd.n, sv hd.root, sv hd.tag, (.slice sa0 sn0 sc0)], jv 0]) ∧ E = [] | 13 => fun v E => (∃ sa0 sn0 sc0, v = .agg #[jv hd.c, jv hd.n, sv hd.root, sv hd.tag, (.slice sa0 sn0 sc0)]) ∧ E = [] | 14 => pv (jv 0) | 15 => fun v E => ∃ b, v = ptr b ∧ E = [] | 16 => fun v E => v = undef ∧ E = [] | _ => fun _ _ => False) Z (H := [blk w23.hz [jv dc, ev11] 75, own ev11 9 1 ((entC dl).map fun s => [sv s]), itsE iv8 Liv8, blk b6 [jv hdr.c, jv hdr.n, sv hdr.root, sv hdr.tag, iv8] 50, itsE iv5 Liv5, blk b3 [jv hdr.c, jv hdr.n, sv hdr.root, sv hdr.tag, iv5] 50, own rv 9 1 ((rl).map fun s => [sv s]), blk w4.hz [jv dc, dv] 32, own dv 55 3 ((dl).map Cas.cells), blk w1.hz [jv b0, jv b1] 63]) Y kr kr kr kr de de de de de de de kr zy ?_ (fun _ _ h => h) ⟨O, O⟩ (fun _ _ => Iff.rfl) ?_ ?_ ?_ ?_ ?_
 ·intro i v E h
  match i, h with
  | 0, _ => exact by decide
  | 1, _ => exact by decide
  | 2, _ => exact by decide
  | 3, _ => exact by decide
  | 4, _ => exact by decide
  | 5, _ => exact by decide
  | 6, _ => exact by decide
  | 7, _ => exact by decide
  | 8, _ => exact by decide
  | 9, _ => exact by decide
  | 10, _ => exact by decide
  | 11, _ => exact by decide
  | 12, _ => exact by decide
  | 13, _ => exact by decide
  | 14, _ => exact by decide
  | 15, _ => exact by decide
  | 16, _ => exact by decide
  | i + 17, h => exact h.elim
 ·intro i hi hia hij hil e
  match i, hi, hia, hij, hil with
  | 0, _, _, _, _ =>
   intro hl9 w Y
   exact OpV.g (az O)
  | 1, _, _, _, _ =>
   intro hl9 w Y
   exact OpV.g (ai (Y.g 1 O) O (isAgg75 _) (sizeOf75 _))
  | 2, _, _, _, _ =>
   intro hl9 w Y
   exact OpV.g (ac (v := po w4.hz 1) O kr)
  | 3, _, _, _, _ =>
   rintro _ _ ⟨rfl, rfl⟩
   intro hl9 w Y
   exact OpV.g (ld Y 8 O O (isAgg30 _) O)
  | 4, _, _, _, _ =>
   rintro _ _ ⟨rfl, rfl⟩
   intro hl9 w Y
   exact OpV.g ((aH (sT := 30) (Y.ow 9 O) O O (runUnderlying30 _)).asi (m' := (dl.length : Int)) zF)
  | 5, _, _, _, _ =>
   intro hl9 w Y
   exact OpV.g (aX (v := pt w1.hz) O O kr)
  | 6, _, _, _, _ =>
   rintro _ _ ⟨rfl, rfl⟩
   intro hl9 w Y
   exact OpV.g (ld Y 10 O O (isAgg3 _) O)
  | 7, _, _, _, _ =>
   intro hl9 w Y
   exact OpV.g (ac (v := po w4.hz 1) O kr)
  | 8, _, _, _, _ =>
   rintro _ _ ⟨rfl, rfl⟩
   intro hl9 w Y
   exact OpV.g (ld Y 8 O O (isAgg30 _) O)
  | 9, _, _, _, _ =>
   rintro _ _ ⟨rfl, rfl⟩
   intro hl9 w Y
   exact OpV.g ((aH (sT := 30) (Y.ow 9 O) O O (runUnderlying30 _)).asi (m' := (dl.length : Int)) zF)
  | 10, _, _, _, _ =>
   rintro _ _ ⟨rfl, rfl⟩ _ _ ⟨rfl, rfl⟩
   intro hl9 w Y
   exact dL call28 O (iE b0 dl.length _ h_b0 om)
  | 11, _, _, _, _ =>
   rintro _ _ ⟨rfl, rfl⟩ _ _ ⟨rfl, rfl⟩ _ _ ⟨rfl, rfl⟩ xv14 _ ⟨⟨_, lxv14⟩, rfl, ⟨haxv14, hlxv14⟩, rfl⟩
   intro hl9 w Y
   exact dL call26 O ((ez kk dl.length hd xv14 lxv14 dc ev11 (entC dl) _ (Y.ow 3 O) (Y.ow 0 O) hk32 hreg om haxv14 (xZ (show lxv14.length ≤ _ from hlxv14) om) hhd (Y.keepb hk0)).mono fun v w h => gl h (fun x hx => ⟨lxv14, haxv14, hlxv14, hx⟩))
  | 12, _, _, _, h => exact absurd de h
  | 13, _, _, _, h => exact absurd de h
  | 14, _, _, _, _ =>
   rintro _ _ ⟨⟨sa0, sn0, sc0, rfl⟩, rfl⟩
   intro hl9 w Y
   exact OpV.g (ar O O)
  | 15, _, h, _, _ => exact absurd O h
  | 16, _, _, h, _ => exact absurd O h
  | i + 17, h, _, _, _ => exact absurd h om
 ·intro x hx e
  simp only [xn, xr, xO] at hx
  rcases hx with rfl | rfl
  ·rintro _ _ ⟨⟨iv15, Liv15⟩, rfl, ⟨ixiv15, hixiv15, hiliv15, hLiv15⟩, rfl⟩
   intro w Y
   obtain ⟨sa0, sn0, sc0, rfl⟩ := cN (bc (k := 0) Y rfl).1
   exact OpV.hopv (OpV.g (az O)) ⟨⟨_, _, _, O⟩, O⟩
  ·rintro _ _ ⟨⟨sa0, sn0, sc0, rfl⟩, rfl⟩
   intro w Y
   exact OpV.hopv (OpV.g (ar O O)) ⟨⟨_, _, _, O⟩, O⟩
 ·exact fun Lv w => dI (zeroValue50 _)
 ·rintro _ _ ⟨⟨sa0, sn0, sc0, rfl⟩, rfl⟩ _ _ ⟨b13, rfl, rfl⟩
  intro b hb u hu w h
  have hb : some (ptr b13) = some (ptr b) := hb
  cases hb
  have hu : some (.agg #[jv hd.c, jv hd.n, sv hd.root, sv hd.tag, (.slice sa0 sn0 sc0)]) = some u := hu
  cases hu
  exact dk O O h (sizeOf50 _) O (lb O) O
 clear Z Y
 rintro V bq hva hlk _ _ ⟨⟨rfl, rfl⟩, -⟩ _ _ ⟨⟨rfl, rfl⟩, -⟩ _ _ ⟨⟨rfl, rfl⟩, -⟩ _ _ ⟨⟨rfl, rfl⟩, -⟩ _ _ ⟨⟨rfl, rfl⟩, -⟩ _ _ ⟨⟨rfl, rfl⟩, -⟩ _ _ ⟨⟨rfl, rfl⟩, -⟩ _ _ ⟨⟨rfl, rfl⟩, -⟩ _ _ ⟨⟨rfl, rfl⟩, -⟩ _ _ ⟨⟨rfl, rfl⟩, -⟩ xv14 _ ⟨⟨⟨_, lxv14⟩, rfl, ⟨haxv14, hlxv14⟩, rfl⟩, -⟩ _ _ ⟨⟨⟨iv15, Liv15⟩, rfl, ⟨ixiv15, hixiv15, hiliv15, hLiv15⟩, rfl⟩, hv11_⟩ v12_ _ ⟨⟨-, rfl⟩, hv12_⟩ v13_ _ ⟨⟨-, rfl⟩, hv13_⟩ _ _ ⟨⟨rfl, rfl⟩, -⟩ _ _ ⟨⟨b13, rfl, rfl⟩, hva9⟩ a w27 Z Y
 obtain rfl : b13 = bq := eh (hva9.trans hva)
 obtain rfl : v12_ = .tuple #[.agg #[jv hd.c, jv hd.n, sv hd.root, sv hd.tag, iv15], jv 0] := hv12_.trans ((hlk 0 _ rfl).trans (xI (fun u => u) hv11_.symm))
 obtain rfl : v13_ = .agg #[jv hd.c, jv hd.n, sv hd.root, sv hd.tag, iv15] := hv13_.trans ((hlk 1 _ rfl).trans (xI (fun u => tupAt u 0) hv12_.symm))
 rw [← hv13_] at Y
 replace Z : Fr 177 [(110, _), (111, _), (112, _), (113, _), (114, _), (115, _), (116, _), (117, _), (118, _), (119, _), (120, _), (121, _), (109, _), (122, _), (123, _), (23, _), (8, _), (10, _), (12, _), (13, _), (15, _), (106, _), (107, _), (108, _), (22, _)] [] a := Z
 replace Y := Y.n13 O
 clear hva9 hva hlk hv13_ hv12_ hv11_
 refine ab <| aN (k := 17) 18 [17] kr kr kr ?_
 refine wla Z O fun a Z => ab <| aT kr ?_
 refine G17 ?_
 replace Z := Z.p8 8 10 12 13 15 22 23 24 O
 replace Y := Y.k10 7870 O
 refine ah fun _ G18 => aL kr (aM kr fun w28 hxz => ?_)
 replace Y := Y.grow hxz
 refine aU (k := 0) 17 [14, 16] Z kr kr kr rfx ?_
 replace Z := Z.p8 8 10 12 13 15 22 23 24 O
 refine dj 15 16 13 [(12, 11, fun u => u), (13, 12, fun u => tupAt u 0)] 50 [jv 0, jv 0, .string (⟨#[]⟩), .string (⟨#[]⟩), .slice none 0 0] (fun u => u.cells.toList) 17 [[], [], [], [2], [3], [], [5], [], [7], [8], [6, 9], [0, 1, 4, 10], [11], [12], [12], [], [13, 15]] (fun i => match i with | 0 => pv (sv kk) | 1 => pv (.agg #[jv dc, ev11]) | 2 => pv (po w4.hz 1) | 3 => pv (dv) | 4 => pv (jv (dl.length : Int)) | 5 => pv (po w1.hz 1) | 6 => pv (jv b1) | 7 => pv (po w4.hz 1) | 8 => pv (dv) | 9 => pv (jv (dl.length : Int)) | 10 => pm (fun x : Value × List Int => x.1) (fun x => [own x.1 3 1 (x.2.map fun z : Int => [jv z])]) (fun x => ascI (dl.length : Int) (-1) x.2 = true ∧ x.2.length ≤ dl.length) | 11 => pm (fun x : Value × List Itw => .tuple #[.agg #[jv hd.c, jv hd.n, sv hd.root, sv hd.tag, x.1], jv 0]) (fun x => [itsE x.1 x.2]) (fun x => ∃ ix : List Int, ascI (dl.length : Int) (-1) ix = true ∧ ix.length ≤ dl.length ∧ itsM x.2 = showIs sha (entC dl) dl.length ix) | 12 => fun v E => (∃ sa0 sn0 sc0, v = .tuple #[.agg #[jv hd.c, jv hd.n, sv hd.root, sv hd.tag, (.slice sa0 sn0 sc0)], jv 0]) ∧ E = [] | 13 => fun v E => (∃ sa0 sn0 sc0, v = .agg #[jv hd.c, jv hd.n, sv hd.root, sv hd.tag, (.slice sa0 sn0 sc0)]) ∧ E = [] | 14 => pv (jv 0) | 15 => fun v E => ∃ b, v = ptr b ∧ E = [] | 16 => fun v E => v = undef ∧ E = [] | _ => fun _ _ => False) Z (H := [itsE iv15 Liv15, blk b13 [jv hd.c, jv hd.n, sv hd.root, sv hd.tag, iv15] 50, blk w23.hz [jv dc, ev11] 75, own ev11 9 1 ((entC dl).map fun s => [sv s]), itsE iv8 Liv8, itsE iv5 Liv5, own rv 9 1 ((rl).map fun s => [sv s]), blk w4.hz [jv dc, dv] 32, own dv 55 3 ((dl).map Cas.cells), blk w1.hz [jv b0, jv b1] 63]) Y kr kr kr kr de de de de de de de kr zy ?_ (fun _ _ h => h) ⟨O, O⟩ (fun _ _ => Iff.rfl) ?_ ?_ ?_ ?_ ?_
 ·intro i v E h
  match i, h with
  | 0, _ => exact by decide
  | 1, _ => exact by decide
  | 2, _ => exact by decide
  | 3, _ => exact by decide
  | 4, _ => exact by decide
  | 5, _ => exact by decide
  | 6, _ => exact by decide
  | 7, _ => exact by decide
  | 8, _ => exact by decide
  | 9, _ => exact by decide
  | 10, _ => exact by decide
  | 11, _ => exact by decide
  | 12, _ => exact by decide
  | 13, _ => exact by decide
  | 14, _ => exact by decide
  | 15, _ => exact by decide
  | 16, _ => exact by decide
  | i + 17, h => exact h.elim
 ·intro i hi hia hij hil e
  match i, hi, hia, hij, hil with
  | 0, _, _, _, _ =>
   intro hl9 w Y
   exact OpV.g (az O)
  | 1, _, _, _, _ =>
   intro hl9 w Y
   exact OpV.g (ai (Y.g 3 O) O (isAgg75 _) (sizeOf75 _))
  | 2, _, _, _, _ =>
   intro hl9 w Y
   exact OpV.g (ac (v := po w4.hz 1) O kr)
  | 3, _, _, _, _ =>
   rintro _ _ ⟨rfl, rfl⟩
   intro hl9 w Y
   exact OpV.g (ld Y 8 O O (isAgg30 _) O)
  | 4, _, _, _, _ =>
   rintro _ _ ⟨rfl, rfl⟩
   intro hl9 w Y
   exact OpV.g ((aH (sT := 30) (Y.ow 9 O) O O (runUnderlying30 _)).asi (m' := (dl.length : Int)) zF)
  | 5, _, _, _, _ =>
   intro hl9 w Y
   exact OpV.g (aX (v := po w1.hz 1) O O kr)
  | 6, _, _, _, _ =>
   rintro _ _ ⟨rfl, rfl⟩
   intro hl9 w Y
   exact OpV.g (ld Y 10 O O (isAgg3 _) O)
  | 7, _, _, _, _ =>
   intro hl9 w Y
   exact OpV.g (ac (v := po w4.hz 1) O kr)
  | 8, _, _, _, _ =>
   rintro _ _ ⟨rfl, rfl⟩
   intro hl9 w Y
   exact OpV.g (ld Y 8 O O (isAgg30 _) O)
  | 9, _, _, _, _ =>
   rintro _ _ ⟨rfl, rfl⟩
   intro hl9 w Y
   exact OpV.g ((aH (sT := 30) (Y.ow 9 O) O O (runUnderlying30 _)).asi (m' := (dl.length : Int)) zF)
  | 10, _, _, _, _ =>
   rintro _ _ ⟨rfl, rfl⟩ _ _ ⟨rfl, rfl⟩
   intro hl9 w Y
   exact dL call28 O (iE b1 dl.length _ h_b1 om)
  | 11, _, _, _, _ =>
   rintro _ _ ⟨rfl, rfl⟩ _ _ ⟨rfl, rfl⟩ _ _ ⟨rfl, rfl⟩ xv17 _ ⟨⟨_, lxv17⟩, rfl, ⟨haxv17, hlxv17⟩, rfl⟩
   intro hl9 w Y
   exact dL call26 O ((ez kk dl.length hd xv17 lxv17 dc ev11 (entC dl) _ (Y.ow 5 O) (Y.ow 0 O) hk32 hreg om haxv17 (xZ (show lxv17.length ≤ _ from hlxv17) om) hhd (Y.keepb hk0)).mono fun v w h => gl h (fun x hx => ⟨lxv17, haxv17, hlxv17, hx⟩))
  | 12, _, _, _, h => exact absurd de h
  | 13, _, _, _, h => exact absurd de h
  | 14, _, _, _, _ =>
   rintro _ _ ⟨⟨sa0, sn0, sc0, rfl⟩, rfl⟩
   intro hl9 w Y
   exact OpV.g (ar O O)
  | 15, _, h, _, _ => exact absurd O h
  | 16, _, _, h, _ => exact absurd O h
  | i + 17, h, _, _, _ => exact absurd h om
 ·intro x hx e
  simp only [xn, xr, xO] at hx
  rcases hx with rfl | rfl
  ·rintro _ _ ⟨⟨iv18, Liv18⟩, rfl, ⟨ixiv18, hixiv18, hiliv18, hLiv18⟩, rfl⟩
   intro w Y
   obtain ⟨sa0, sn0, sc0, rfl⟩ := cN (bc (k := 0) Y rfl).1
   exact OpV.hopv (OpV.g (az O)) ⟨⟨_, _, _, O⟩, O⟩
  ·rintro _ _ ⟨⟨sa0, sn0, sc0, rfl⟩, rfl⟩
   intro w Y
   exact OpV.hopv (OpV.g (ar O O)) ⟨⟨_, _, _, O⟩, O⟩
 ·exact fun Lv w => dI (zeroValue50 _)
 ·rintro _ _ ⟨⟨sa0, sn0, sc0, rfl⟩, rfl⟩ _ _ ⟨b16, rfl, rfl⟩
  intro b hb u hu w h
  have hb : some (ptr b16) = some (ptr b) := hb
  cases hb
  have hu : some (.agg #[jv hd.c, jv hd.n, sv hd.root, sv hd.tag, (.slice sa0 sn0 sc0)]) = some u := hu
  cases hu
  exact dk O O h (sizeOf50 _) O (lb O) O
 clear Z Y
 rintro V bq hva hlk _ _ ⟨⟨rfl, rfl⟩, -⟩ _ _ ⟨⟨rfl, rfl⟩, -⟩ _ _ ⟨⟨rfl, rfl⟩, -⟩ _ _ ⟨⟨rfl, rfl⟩, -⟩ _ _ ⟨⟨rfl, rfl⟩, -⟩ _ _ ⟨⟨rfl, rfl⟩, -⟩ _ _ ⟨⟨rfl, rfl⟩, -⟩ _ _ ⟨⟨rfl, rfl⟩, -⟩ _ _ ⟨⟨rfl, rfl⟩, -⟩ _ _ ⟨⟨rfl, rfl⟩, -⟩ xv17 _ ⟨⟨⟨_, lxv17⟩, rfl, ⟨haxv17, hlxv17⟩, rfl⟩, -⟩ _ _ ⟨⟨⟨iv18, Liv18⟩, rfl, ⟨ixiv18, hixiv18, hiliv18, hLiv18⟩, rfl⟩, hv11_⟩ v12_ _ ⟨⟨-, rfl⟩, hv12_⟩ v13_ _ ⟨⟨-, rfl⟩, hv13_⟩ _ _ ⟨⟨rfl, rfl⟩, -⟩ _ _ ⟨⟨b16, rfl, rfl⟩, hva9⟩ a w29 Z Y
 obtain rfl : b16 = bq := eh (hva9.trans hva)
 obtain rfl : v12_ = .tuple #[.agg #[jv hd.c, jv hd.n, sv hd.root, sv hd.tag, iv18], jv 0] := hv12_.trans ((hlk 0 _ rfl).trans (xI (fun u => u) hv11_.symm))
 obtain rfl : v13_ = .agg #[jv hd.c, jv hd.n, sv hd.root, sv hd.tag, iv18] := hv13_.trans ((hlk 1 _ rfl).trans (xI (fun u => tupAt u 0) hv12_.symm))
 rw [← hv13_] at Y
 replace Z : Fr 177 [(125, _), (126, _), (127, _), (128, _), (129, _), (130, _), (131, _), (132, _), (133, _), (134, _), (135, _), (136, _), (124, _), (137, _), (138, _), (25, _), (8, _), (10, _), (12, _), (13, _), (15, _), (22, _), (23, _), (24, _)] [] a := Z
 replace Y := Y.n13 O
 clear hva9 hva hlk hv13_ hv12_ hv11_
 refine ab <| aN (k := 17) 18 [17] kr kr kr ?_
 refine wla Z O fun a Z => ab <| aT kr ?_
 refine G18 ?_
 replace Y := Y.k10 4062 O
 refine aa fun _ G19 => nv (Z.p8 10 12 13 15 23 24 25 26 O) <| xc O <| pq (ai (Y.g 8 O) O (isAgg32 _) (sizeOf32 _)) <| xc O <| fun a Z => bt Z Y de call22 O (eC kk hd dc dv dl pn _ (Y.ow 9 O) hk32 hD.1 hhd om (Y.keepb hk0)) fun a w30 x20 hp Z Y => ?_
 obtain ⟨iv19, Liv19⟩ := x20
 have hLiv19 := hp
 try dsimp only at Y
 replace Y := Y.n11 O
 refine nv Z <| xc O <| pq (ar O O) <| pq (ar O O) <| fun a Z => aB Z Y de (zeroValue50 _) (cs := [jv 0, jv 0, .string (⟨#[]⟩), .string (⟨#[]⟩), .slice none 0 0]) O fun a w31 Z Y => aV (us := [jv hd.c, jv hd.n, sv hd.root, sv hd.tag, iv19]) 0 Z Y O O O (sizeOf50 _) zt (lb O) (ds := [jv hd.c, jv hd.n, sv hd.root, sv hd.tag, iv19]) O O fun a w32 Z Y => ?_
 refine wla Z O fun a Z => G19 ?_
 replace Y := Y.k10 3007 O
 refine aa fun _ G20 => nv (Z.p8 10 13 23 24 25 26 27 28 O) <| xc O <| pq ((v_eq O O).asb (b' := true) O) <| xc O <| xe (az O) <| xe ((v_eq O O).asb (b' := true) O) <| pq (ay O O) <| xc O <| xe (az O) <| xe ((v_eq O O).asb (b' := true) O) <| pq (ay O O) <| xc O <| xe (az O) <| xe (ai (Y.g 5 O) O (isAgg50 _) (sizeOf50 _)) <| xe (ai (Y.g 3 O) O (isAgg50 _) (sizeOf50 _)) <| fun a Z => aF Z Y de O de O call30 O (cf (dU hD.1 hixiv15 hixiv18 hLiv15 hLiv18) (dN kk hd iv15 iv18 Liv15 Liv18 _ (bc (k := 4) Y O) (bc (k := 2) Y O) (bU om hLiv15) (bU om hLiv18) (cL hreg om hk32 hhd hixiv15 hLiv15) (cL hreg om hk32 hhd hixiv18 hLiv18) (Y.keepb hk0))) fun a w33 Z Y => ?_
 refine nv Z <| xe ((bu O).asb (b' := true) O) <| pq (ay O O) <| xc O <| xe (az O) <| xe (ai (Y.g 5 O) O (isAgg50 _) (sizeOf50 _)) <| xe (ai (Y.g 0 O) O (isAgg50 _) (sizeOf50 _)) <| fun a Z => aF Z Y de O de O call30 O (cf (dU hD.1 hixiv15 (cP dl pn) hLiv15 hLiv19) (dN kk hd iv15 iv19 Liv15 Liv19 _ (bc (k := 4) Y O) (bc (k := 1) Y O) (bU om hLiv15) (bU om hLiv19) (cL hreg om hk32 hhd hixiv15 hLiv15) (dz hD.1 hk32 hhd (cP dl pn) hLiv19) (Y.keepb hk0))) fun a w34 Z Y => ?_
 refine nv Z <| xe ((bu O).asb (b' := true) O) <| pq (ay O O) <| xc O <| xe (az O) <| xe (ai (Y.g 5 O) O (isAgg50 _) (sizeOf50 _)) <| xe (ai (Y.g 5 O) O (isAgg50 _) (sizeOf50 _)) <| fun a Z => aF Z Y de O de O call30 O (cf (dU hD.1 hixiv15 hixiv15 hLiv15 hLiv15) (dN kk hd iv15 iv15 Liv15 Liv15 _ (bc (k := 4) Y O) (bc (k := 4) Y O) (bU om hLiv15) (bU om hLiv15) (cL hreg om hk32 hhd hixiv15 hLiv15) (cL hreg om hk32 hhd hixiv15 hLiv15) (Y.keepb hk0))) fun a w35 Z Y => nv Z <| xe ((bu O).asb (b' := true) O) <| pq (ay O O) <| xd O <| fun a Z => G20 ?_
 replace Z := Z.p1 10 O
 replace Y := Y.k7 982 O
 refine ap <| am Z results7 (ag O ae) ?_
 exact ⟨O, Y.ext⟩
end Go.Proofs.YtliklcmddmpdfaaGreatDoor
