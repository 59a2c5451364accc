/- Texts joined: LawG. -/
import Derived.Test.YtddfkkdanpmnaaaGreatDoorPGF
import Derived.Test.YtddfkkdanpmnaaaGreatDoorPGB
import Derived.Test.YtddfkkdanpmnaaaGreatDoorPGA
set_option linter.unusedVariables false
set_option linter.unusedSimpArgs false
set_option maxRecDepth 4000
set_option maxHeartbeats 4000000
namespace Go.Proofs.YtddfkkdanpmnaaaGreatDoor
open Go.RowKit Go.PW _root_.Go.Proofs.Tryz
theorem kp {o : Int} {lv : Value} {l : List Rec} {root : By} {w0 : World} (hlv : SlAt w0 lv 5 (l.map Rec.cells)) (hk0 : (blk 0 (kOf.map wv) 161).ok w0) (hlo : logOk o l = true) (hr : rootH sha (codesR l) = root) : Ret Tryz.prog 10 #[.agg #[iv o, lv]] w0 fun v w => v = .tuple #[sv root, iv 0] ∧ Ext No w0 w := by
 have := fZ o lv l w0 hlv hk0
 rw [dA hlo, dI.2 hlo, hr] at this
 exact this
theorem et {o : Int} {lv : Value} {l : List Rec} {w0 : World} (hlv : SlAt w0 lv 5 (l.map Rec.cells)) (hll : l.length ≤ 1000) (ha : ∀ x ∈ l, x.ok = true) : Ret Tryz.prog 29 #[.agg #[iv o, lv]] w0 (MemR w0 (fun v : Value => v) (fun v => [own v 9 1 ((codesR l).map fun s => [sv s])]) (fun _ => True)) := by
 have := fl o lv l w0 hlv hll
 rw [cK ha] at this
 exact this
theorem few_x {av : Value} {xs qs : List By} {w0 : World} (hq : few11 xs 6 = qs) (hav : SlAt w0 av 1 (xs.map fun s => [sv s])) : Ret Tryz.prog 6 #[av, iv 6] w0 (MemR w0 (fun v : Value => v) (fun v => [own v 9 1 (qs.map fun s => [sv s])]) (fun _ => True)) := by
 subst hq; exact qt av xs 6 w0 hav de
theorem lJ (c : Int) {n : Nat} (h : 0 < n) (hb : n ≤ 1000) : ∃ k : Nat, pickI c (n : Int) = (k : Int) ∧ k < n := by
 have := bF c (n := (n : Int)) om
 exact ⟨(pickI c (n : Int)).toNat, by omega, by omega⟩
theorem fm {lv : Value} {ls hs : List By} {w0 : World} (hh : hashL sha ls = hs) (hlv : SlAt w0 lv 1 (ls.map fun s => [sv s])) (hln : ls.length ≤ 1000) (hls : ∀ s ∈ ls, s.length ≤ 30000000) : Ret Tryz.prog 28 #[lv] w0 (MemR w0 (fun v : Value => v) (fun v => [own v 9 1 (hs.map fun s => [sv s])]) (fun _ => True)) := by
 subst hh; exact nW _ lv ls w0 rfl hlv hln hls
theorem jA : ∀ {l : List Rec} {t u : Int}, aQ t l = true → u ≤ t → aQ u l = true
 | [], t, u, h, hu => rfl
 | x :: l, t, u, h, hu => by
  rw [aQ, Bool.and_eq_true, Bool.and_eq_true, decide_eq_true_eq] at h
  rw [aQ, Bool.and_eq_true, Bool.and_eq_true, decide_eq_true_eq]
  exact ⟨⟨h.1.1, by omega⟩, h.2⟩
theorem gy : ∀ {l : List Rec} {t : Int} (i : Nat), aQ t l = true → aQ t (l.take i ++ l.drop (i + 1)) = true
 | [], t, i, h => by simp [aQ]
 | x :: l, t, 0, h => by
  rw [aQ, Bool.and_eq_true, Bool.and_eq_true, decide_eq_true_eq] at h
  exact jA h.2 h.1.2
 | x :: l, t, i + 1, h => by
  rw [aQ, Bool.and_eq_true] at h
  rw [List.take_succ_cons, List.drop_succ_cons, List.cons_append, aQ, Bool.and_eq_true]
  exact ⟨h.1, gy i h.2⟩
theorem go : ∀ {l : List Rec} {t : Int} (i : Nat) {y : Rec}, aQ t l = true → y.ok = true → y.t = (l.getD i Rec.z).t → aQ t (l.set i y) = true
 | [], t, i, y, h, _, _ => by simp [aQ]
 | x :: l, t, 0, y, h, ho, ht => by
  have ht' : y.t = x.t := ht
  rw [aQ, Bool.and_eq_true, Bool.and_eq_true, decide_eq_true_eq] at h
  rw [List.set_cons_zero, aQ, Bool.and_eq_true, Bool.and_eq_true, decide_eq_true_eq, ht']
  exact ⟨⟨ho, h.1.2⟩, h.2⟩
 | x :: l, t, i + 1, y, h, ho, ht => by
  rw [aQ, Bool.and_eq_true] at h
  rw [List.set_cons_succ, aQ, Bool.and_eq_true]
  exact ⟨h.1, go i h.2 ho ht⟩
theorem lc {o : Int} {l m : List Rec} (h : logOk o l = true) (hs : aQ 0 l = true → aQ 0 m = true) (hl : m.length ≤ l.length) : logOk o m = true := by
 simp only [logOk, Bool.and_eq_true, decide_eq_true_eq] at h ⊢
 exact ⟨⟨hs h.1.1, h.1.2⟩, by omega⟩
theorem jF {o : Int} {l : List Rec} (h : logOk o l = true) (k : Nat) : logOk o (l.take k) = true := lc h (fJ k) (by rw [List.length_take]; omega)
def plusA (x : Rec) : Rec := { x with a := x.a + 1 }
theorem nG {x : Rec} (h : x.ok = true) (ha : x.a ≤ 198) : (plusA x).ok = true := by
 have e : (plusA x).ok = (inB x.t 0 10000000 && inB x.kind 1 20 && inB (x.a + 1) (-1) 99999999 && inB x.b (-1) 99999999 && decide (x.text.length ≤ 200)) := rfl
 rw [e]
 simp only [Rec.ok, inB, Bool.and_eq_true, decide_eq_true_eq] at h ⊢
 exact ⟨⟨⟨⟨h.1.1.1.1, h.1.1.1.2⟩, by omega, by omega⟩, h.1.2⟩, h.2⟩
theorem lL : ∀ {l : List Rin} {t : Int}, ∀ x ∈ recsR t l, x.a ≤ 198
 | [], t, x, hx => by cases hx
 | y :: l, t, x, hx => by
  rw [recsR] at hx
  rcases List.mem_cons.1 hx with rfl | hx
  ·have := bF y.x2 (n := 200) om
   show pickI y.x2 200 - 1 ≤ 198
   omega
  ·exact lL x hx
theorem py (l : List Rin) : ∀ x ∈ madeR l, x.a ≤ 198 := lL
theorem gn {old root : By} {m n : Int} {p : List By} (h : aO sha old m root n p = true) : ∀ z ∈ p, z.length = 32 := by
 unfold aO at h
 split at h
 ·cases h
 ·rename_i hc
  intro z hz
  by_cases e : (p.all fun x => decide (x.length = 32)) = false
  ·exact absurd (.inr (.inr (.inl e))) hc
  ·simp only [Bool.not_eq_false, List.all_eq_true, decide_eq_true_eq] at e
   exact e z hz
theorem lI {l : List Rec} {k : Nat} (hk : k ≤ l.length) : aO sha (rootH sha (codesR (l.take k))) (k : Int) (rootH sha (codesR l)) (l.length : Int) (extH sha (codesR l) k) = true := by
 have h := eC (S := sha) aZ (l := codesR l) (m := k) (by rw [bn]; exact hk)
 rw [← eD, bn] at h
 exact h
def cS (l ot : List Rec) (n : Nat) (q : List By) : List By := ((hashL sha (codesR l) ++ hashL sha (codesR ot)) ++ hashL sha (codesR (l.take n))) ++ (sdH sha (rootH sha (codesR ot)) n l.length q true).1 ++ (sdH sha (rootH sha (codesR (l.take n))) n l.length (extH sha (codesR l) n) true).1
theorem io {l ot : List Rec} {n : Nat} {q : List By} (ha : ∀ x ∈ l, x.ok = true) (ho : ∀ x ∈ ot, x.ok = true) (hn : n ≤ l.length) (hl : ot.length = n) (h : aO sha (rootH sha (codesR ot)) (n : Int) (rootH sha (codesR l)) (l.length : Int) q = true) (hne : ¬ l.take n = ot) : outB (cS l ot n q) = true := by
 have h2 := mr (S := sha) aZ (l := codesR l) (o := codesR ot) (m := n) (q := q) (by rw [bn]; exact hn) (by rw [bn]; exact hl) (by rw [bn]; exact h) (fun e => hne (by
  rw [← eD] at e
  exact (ij ho (fun x hx => ha x (List.mem_of_mem_take hx)) e).symm))
 rw [bn, ← eD] at h2
 refine o6 h2 (fun x hx => ?_) fun x hx => ?_ <;>
 ·simp only [List.mem_append] at hx
  simp only [cS, List.mem_append]
  rcases hx with ((hx | hx) | hx) | hx <;> simp [hx]
theorem fA {l : List Rec} (ha : ∀ x ∈ l, x.ok = true) : ∀ z ∈ hashL sha (codesR l), z.length ≤ 301 := kD (b := 301) de _ (codesR l) rfl (fun s h => Nat.succ_le_succ (bM ha s h))
theorem ex {l ot : List Rec} {n : Nat} {q : List By} (ha : ∀ x ∈ l, x.ok = true) (ho : ∀ x ∈ ot, x.ok = true) (hq : ∀ z ∈ q, z.length = 32) (he : ∀ z ∈ extH sha (codesR l) n, z.length = 32) : ∀ z ∈ cS l ot n q, z.length ≤ 100000000 := by
 intro z hz
 simp only [cS, List.mem_append] at hz
 rcases hz with (((hz | hz) | hz) | hz) | hz
 ·have := fA ha z hz; omega
 ·have := fA ho z hz; omega
 ·have := fA (fun x hx => ha x (List.mem_of_mem_take hx)) z hz; omega
 ·have := (cO (bc aZ (codesR ot)) q n l.length true hq).2.2.2 z hz; omega
 ·have := (cO (bc aZ (codesR (l.take n))) (extH sha (codesR l) n) n l.length true he).2.2.2 z hz; omega
theorem ct (l : List Rec) : (hashL sha (codesR l)).length ≤ 2 * l.length + 1 := by
 have := fB _ (codesR l) rfl
 rw [bn] at this; exact this
theorem eR {l ot : List Rec} {n : Nat} {q : List By} (hl : l.length ≤ 12) (ho : ot.length ≤ 12) (hq : q.length ≤ 20) (hql : ∀ z ∈ q, z.length = 32) (he : ∀ z ∈ extH sha (codesR l) n, z.length = 32) (hel : (extH sha (codesR l) n).length ≤ 20) : (cS l ot n q).length ≤ 1000 := by
 have h1 := ct l
 have h2 := ct ot
 have h3 := ct (l.take n)
 have h4 := (cO (bc aZ (codesR ot)) q n l.length true hql).1
 have h5 := (cO (bc aZ (codesR (l.take n))) (extH sha (codesR l) n) n l.length true he).1
 rw [List.length_take] at h3
 simp only [cS, List.length_append]; omega
theorem nm {l : List Rec} {k : Nat} (hl : l.length ≤ 12) (hk : k ≤ l.length) : (extH sha (codesR l) k).length ≤ 20 := by
 have h := oS (S := sha) (l := codesR l) (m := k) (by rw [bn]; exact hk)
 rw [bn] at h
 have h2 : (if l.length = 0 then 0 else Nat.log2 l.length + 1) ≤ 4 := by
  split
  ·omega
  ·have := (Nat.log2_lt (n := l.length) (k := 4) om).2 om
   omega
 omega
theorem lj {o : Int} {lv : Value} {l : List Rec} {root : By} {w0 : World} (hlv : SlAt w0 lv 5 (l.map Rec.cells)) (hll : l.length ≤ 1000) (hlo : logOk o l = true) (hr : rootH sha (codesR l) = root) : Ret Tryz.prog 11 #[.agg #[iv o, lv]] w0 fun v w => v = .tuple #[sv root, iv 0] ∧ Ext No w0 w := by
 have := oi o lv l w0 hlv hll
 rw [dA hlo, dI.2 hlo, hr] at this
 exact this
theorem jV {o : Int} {lv : Value} {l : List Rec} {i : Nat} {ek : List By} {w0 : World} (he : extH sha (codesR l) i = ek) (hlv : SlAt w0 lv 5 (l.map Rec.cells)) (hll : l.length ≤ 1000) (hlo : logOk o l = true) (hi : i ≤ l.length) : Ret Tryz.prog 21 #[.agg #[iv o, lv], iv (i : Int)] w0 (MemR w0 (fun v : Value => .tuple #[v, iv 0]) (fun v => [own v 9 1 (ek.map fun s => [sv s])]) (fun _ => True)) := by
 subst he; exact kH o lv l i w0 hlv hll hlo hi
theorem oq {o : Int} {lv : Value} {l : List Rec} {i : Nat} {ek : List By} {w0 : World} (he : extH sha (codesR l) i = ek) (hlv : SlAt w0 lv 5 (l.map Rec.cells)) (hll : l.length ≤ 1000) (hlo : logOk o l = true) (hi : i ≤ l.length) (hk0 : (blk 0 (kOf.map wv) 161).ok w0) : Ret Tryz.prog 20 #[.agg #[iv o, lv], iv (i : Int)] w0 (MemR w0 (fun v : Value => .tuple #[v, iv 0]) (fun v => [own v 9 1 (ek.map fun s => [sv s])]) (fun _ => True)) := by
 subst he; exact f7 o lv l i w0 hlv hll hlo hi hk0
theorem lf (owner : Int) (xv : Value) (ys : List Rin) (n which : Int) (taken : Bool) (av : Value) (xs : List By) (w0 : World) (hxv : SlAt w0 xv 5 (ys.map Rin.cells)) (hys : ∀ y ∈ ys, y.wt) (hown : i64 owner) (h_n : i64 n) (h_which : i64 which) (hav : SlAt w0 av 1 (xs.map fun s => [sv s])) (hk0 : (blk 0 (kOf.map wv) 161).ok w0) :
  Ret Tryz.prog 4 #[iv owner, xv, iv n, iv which, .bool taken, av] w0 fun v w => v = .bool true ∧ Ext No w0 w := by
 obtain ⟨o, ho⟩ : ∃ o, pickI owner 100 = o := ⟨_, rfl⟩
 obtain ⟨l, hl⟩ : ∃ l, madeR ys = l := ⟨_, rfl⟩
 have hlo : logOk o l = true := by rw [← ho, ← hl]; exact nY _ _
 have hll : l.length ≤ 12 := by rw [← hl, g8]; omega
 have hob := hO hlo
 have hmt : ∀ x ∈ l, x.t ≤ 360 := by rw [← hl]; exact o4 _
 have hwna := hown.1
 have hwnb := hown.2
 have h_n1 := h_n.1
 have h_n2 := h_n.2
 have h_which1 := h_which.1
 have h_which2 := h_which.2
 have hall := bL hlo
 have hma : ∀ x ∈ l, x.a ≤ 198 := by rw [← hl]; exact py _
 obtain ⟨k, hpk, hkl1⟩ := lJ n (n := l.length + 1) om om
 have hkl : k ≤ l.length := by omega
 have hltk : (l.take k).length = k := by rw [List.length_take]; omega
 rw [Int.natCast_add] at hpk
 have hlk := jF hlo k
 have halk := bL hlk
 obtain ⟨root, hroot⟩ : ∃ z, rootH sha (codesR l) = z := ⟨_, rfl⟩
 obtain ⟨rk, hrk⟩ : ∃ z, rootH sha (codesR (l.take k)) = z := ⟨_, rfl⟩
 obtain ⟨ek, hek⟩ : ∃ z, extH sha (codesR l) k = z := ⟨_, rfl⟩
 have hekl : ek.length ≤ 20 := by rw [← hek]; exact nm hll hkl
 have hself : aO sha rk (k : Int) root (l.length : Int) ek = true := by rw [← hrk, ← hroot, ← hek]; exact lI hkl
 obtain ⟨qs, hqs⟩ : ∃ z, few11 xs 6 = z := ⟨_, rfl⟩
 have hql : qs.length ≤ 6 := by rw [← hqs]; exact mw _ _
 refine aD func4 rfl ntmps4 (lb rfl) fun a Z => ?_
 replace Z := Z.p6 0 1 2 3 4 5 rfl
 replace Y : St No w0 [] w0 := St.init w0
 refine aa fun K1 hK1 => wla Z rfl fun a Z => ab (hK1 _ _ <| ae fun K2 hK2 => ?_)
 refine aa fun K3 hK3 => am Z Y de call5 rfl (pn _ (Y.keepb hk0)) ?_
 clear Z Y
 intro a w1 Z Y
 refine wlv Z ((bq rfl).asb (b' := false) rfl) fun a Z => ab (hK3 _ _ <| aL Z rfl ?_)
 refine ar <| hK2 _ _ <| aa fun K4 hK4 => wlm Z rfl fun a Z => wlm Z rfl fun a Z => aK Z Y de call7 rfl (qu ho hl (Y.arg hxv) hys hown) ?_
 clear Z Y
 intro a w2 x2 hp Z Y
 revert x2 hp Z Y; rintro lv1 hp Z Y
 clear hp
 replace Y : St No w0 [_] w2 := Y
 refine aU Z Y de (zeroValue25 _) (cs := [iv 0, .slice none 0 0]) rfl ?_
 clear Z Y
 intro a w3 Z Y
 refine bu (us := [iv o, lv1]) 0 Z Y rfl rfl rfl (sizeOf25 _) (by intro z hz; simp only [List.mem_cons, List.not_mem_nil, or_false] at hz; rcases hz with rfl | rfl <;> first | rfl | exact SlAt.one (Y.ow 1 rfl)) (lb rfl) (ds := [iv o, lv1]) rfl rfl ?_
 clear Z Y
 intro a w4 Z Y
 refine ab (hK4 _ _ ?_)
 replace Z := Z.p6 2 3 4 5 12 13 rfl
 refine aa fun K5 hK5 => wlv Z (ak (v := po w2.hz 1) rfl kr) fun a Z => wlv Z (ld Y 0 rfl rfl (isAgg23 _) rfl) fun a Z => wlv Z ((aE (sT := 23) (Y.ow 1 rfl) rfl rfl (runUnderlying23 _)).asi (m' := (l.length : Int)) (by rw [List.length_map])) fun a Z => wla Z rfl fun a Z => ab (hK5 _ _ <| aa fun K6 hK6 => ?_)
 refine wlm Z rfl fun a Z => wlm Z rfl fun a Z => wlv Z (aV rfl rfl ⟨om, om⟩) fun a Z => am Z Y de call17 rfl (eS hpk (kd n ((l.length : Int) + 1) _ (by assumption) om)) ?_
 clear Z Y
 intro a w5 Z Y
 refine wla Z rfl fun a Z => ab (hK6 _ _ ?_)
 replace Z := Z.p7 3 4 5 12 13 14 15 rfl
 refine ae fun K7 hK7 => aF kr (aG kr fun w6 hxz => ?_)
 replace Y := Y.grow hxz
 refine aT (k := 0) 9 [7, 8] Z kr kr kr rfx ?_
 replace Z := Z.p7 3 4 5 12 13 14 15 rfl
 refine aA [8] (fun i => match i with | 8 => pm (fun b : Nat => pt b) (fun b => [blk b [iv 0, .slice none 0 0] 25]) (fun _ => True) | _ => fun _ _ => False) 9 [[], [0], [], [2], [], [], [3, 4, 5], [1, 6], []] [pt w2.hz, iv o, po w2.hz 1, lv1, iv (k : Int), iv (k : Int), (cut lv1 5 0 k k), .agg #[iv o, (cut lv1 5 0 k k)], undef] Z Y kr kr kr ?_ ?_ ?_
 ·intro i hi hiq
  match i, hi, hiq with
  | 0, _, _ => exact fun w Y => OpV.g (ak (v := pt w2.hz) rfl kr)
  | 1, _, _ => exact fun w Y => OpV.g (ld Y 0 rfl rfl (isAgg3 _) rfl)
  | 2, _, _ => exact fun w Y => OpV.g (ak (v := po w2.hz 1) rfl kr)
  | 3, _, _ => exact fun w Y => OpV.g (ld Y 0 rfl rfl (isAgg23 _) rfl)
  | 4, _, _ => exact fun w Y => OpV.g (ah rfl)
  | 5, _, _ => exact fun w Y => OpV.g (ah rfl)
  | 6, _, _ => exact fun w Y => OpV.g (fy (h := k) (Y.ow 1 rfl) rfl rfl rfl underlying23 kr (by first | (rw [List.length_map]; omega) | (simp <;> omega)))
  | 7, _, _ => exact fun w Y => OpV.g (bA (v := .agg #[iv o, (cut lv1 5 0 k k)]) rfl (by obtain ⟨_, _, _, eb0_⟩ := ee ((Y.ow 1 rfl).cutk (h := k) (by first | omega | (rw [List.length_reverse]; omega) | simp | (simp; omega))); rw [eb0_]; kernel_rfl))
  | 8, _, h => exact absurd sm h
 ·intro i hi
  simp only [List.mem_cons, List.not_mem_nil, or_false] at hi
  subst hi
  ·intro w Y
   exact ei (zeroValue25 _) (cs := [iv 0, .slice none 0 0]) rfl
 clear Z Y
 rintro _ _ ⟨b3, rfl, -, rfl⟩ a w7 Z Y
 replace Z : Fr 230 [(54, pt w2.hz), (55, iv o), (56, po w2.hz 1), (57, lv1), (58, iv (k : Int)), (59, iv (k : Int)), (60, (cut lv1 5 0 k k)), (61, .agg #[iv o, (cut lv1 5 0 k k)]), (16, _), (3, _), (4, _), (5, _), (12, _), (13, _), (14, _), (15, _)] [] a := Z
 replace Y : St No w0 [_, _, _] w7 := Y
 refine ab <| aP (k := 9) 10 [9] kr kr kr ?_
 refine bu (us := [iv o, (cut lv1 5 0 k k)]) 0 Z Y rfl rfl rfl (sizeOf25 _) (by intro z hz; simp only [List.mem_cons, List.not_mem_nil, or_false] at hz; rcases hz with rfl | rfl <;> first | rfl | exact SlAt.one ((Y.ow 2 rfl).cutk (h := k) (by first | omega | (rw [List.length_reverse]; omega) | simp | (simp; omega)))) (lb rfl) (ds := [iv o, (cut lv1 5 0 k k)]) rfl rfl ?_
 clear Z Y
 intro a w8 Z Y
 refine ab <| aS kr ?_
 refine hK7 _ _ ?_
 replace Z := Z.p8 3 4 5 12 13 14 15 16 rfl
 refine aa fun K8 hK8 => wlv Z (aw (Y.g 1 rfl) rfl (isAgg25 _) (sizeOf25 _)) fun a Z => am Z Y de call10 rfl (kp (Y.ow 2 rfl) (Y.keepb hk0) hlo hroot) ?_
 clear Z Y
 intro a w9 Z Y
 refine wlm Z rfl fun a Z => wlv Z (ai rfl rfl) fun a Z => wlv Z (ai rfl rfl) fun a Z => wla Z rfl fun a Z => wla Z rfl fun a Z => ab (hK8 _ _ <| aa fun K9 hK9 => ?_)
 refine wlv Z (aw (Y.g 0 rfl) rfl (isAgg25 _) (sizeOf25 _)) fun a Z => am Z Y de call10 rfl (kp ((Y.ow 2 rfl).cutk (h := k) (by first | omega | (rw [List.length_reverse]; omega) | simp | (simp; omega))) (Y.keepb hk0) hlk hrk) ?_
 clear Z Y
 intro a w10 Z Y
 refine wlm Z rfl fun a Z => wlv Z (ai rfl rfl) fun a Z => wlv Z (ai rfl rfl) fun a Z => wla Z rfl fun a Z => wla Z rfl fun a Z => ab (hK9 _ _ ?_)
 replace Z := Z.p12 3 4 5 12 13 14 15 16 17 18 19 20 rfl
 refine aa fun K10 hK10 => wlv Z (aw (Y.g 1 rfl) rfl (isAgg25 _) (sizeOf25 _)) fun a Z => wlm Z rfl fun a Z => aK Z Y de call20 rfl (oq hek (Y.ow 2 rfl) om hlo hkl (Y.keepb hk0)) ?_
 clear Z Y
 intro a w11 x5 hp Z Y
 revert x5 hp Z Y; rintro v4 hp Z Y
 clear hp
 replace Y : St No w0 [_, _, _, _] w11 := Y
 refine wlm Z rfl fun a Z => wlv Z (ai rfl rfl) fun a Z => wlv Z (ai rfl rfl) fun a Z => wla Z rfl fun a Z => wla Z rfl fun a Z => ab (hK10 _ _ ?_)
 replace Z := Z.p14 3 4 5 12 13 14 15 16 17 18 19 20 21 22 rfl
 refine ae fun K11 hK11 => aa fun K12 hK12 => wlm Z rfl fun a Z => wlv Z ((v_ne rfl rfl).asb (b' := false) rfl) fun a Z => wlm Z rfl fun a Z => wly Z (ah rfl) fun a Z => wly Z ((v_ne rfl rfl).asb (b' := false) rfl) fun a Z => wlv Z (ay rfl rfl) fun a Z => wlm Z rfl fun a Z => wly Z (ah rfl) fun a Z => wly Z ((v_ne rfl rfl).asb (b' := false) rfl) fun a Z => wlv Z (ay rfl rfl) fun a Z => wlm Z rfl fun a Z => wly Z (ah rfl) fun a Z => wly Z (ah rfl) fun a Z => wly Z (ah rfl) fun a Z => wly Z (ah rfl) fun a Z => wly Z (ah rfl) fun a Z => ba Z Y de rfl de rfl call23 rfl (ca hself (dH rk (k : Int) root (l.length : Int) v4 ek _ (Y.ow 0 rfl) om (by unfold i64; omega) (Y.keepb hk0))) ?_
 clear Z Y
 intro a w12 Z Y
 refine wly Z ((bq rfl).asb (b' := false) rfl) fun a Z => wlv Z (ay rfl rfl) fun a Z => ab (hK12 _ _ ?_)
 replace Z := Z.p11 3 4 5 12 13 14 15 16 17 21 96 rfl
 refine aL Z rfl ?_
 refine ar <| hK11 _ _ <| ae fun K13 hK13 => aa fun K14 hK14 => wlm Z rfl fun a Z => wlv Z (v_eq rfl rfl) fun a Z => ab (hK14 _ _ ?_)
 refine ax Z rfl (fun hc6 => ?_) (fun hc6 => ?_)
 ·rw [hc6] at Z
  try simp only [qz] at hc6
  refine aa fun K15 hK15 => wla Z rfl fun a Z => ab (hK15 _ _ <| ap ?_)
  refine al Z results4 (ac rfl ag) ?_
  exact ⟨rfl, Y.ext⟩
 rw [hc6] at Z
 try simp only [qz] at hc6
 obtain ⟨ii, hpi, hil⟩ := lJ which (n := k) om om
 refine ar <| hK13 _ _ <| ae fun K16 hK16 => aF kr (aG kr fun w13 hxz => ?_)
 replace Y := Y.grow hxz
 refine aT (k := 0) 8 [6, 7] Z kr kr kr rfx ?_
 replace Z := Z.p13 3 4 5 12 13 14 15 16 17 21 96 97 98 rfl
 refine fP 2 5 6 (fun v => own v 48 5 ([])) (fun v => own v 48 5 (([]) ++ (((l).take k).map Rec.cells))) (fun v => own (scd v) 48 5 (([]) ++ (((l).take k).map Rec.cells))) 8 [[], [0], [], [], [3], [2, 4], [1, 5], []] (fun i => match i with | 0 => pv (pt w2.hz) | 1 => pv (iv o) | 2 => fun v E => E = [] | 3 => pv (po b3 1) | 4 => pv ((cut lv1 5 0 k k)) | 5 => fun v E => E = [] | 6 => fun v E => (∃ s : Value, v = .agg #[iv o, s]) ∧ E = [] | 7 => pm (fun b : Nat => pt b) (fun b => [blk b [iv 0, .slice none 0 0] 25]) (fun _ => True) | _ => fun _ _ => False) Z Y kr kr kr de de de de ?_ ?_ ?_ ?_ ?_ ?_
 ·intro i v E h
  match i, h with
  | 0, _ => exact by decide
  | 1, _ => exact by decide
  | 2, _ => exact by decide
  | 3, _ => exact by decide
  | 4, _ => exact by decide
  | 5, _ => exact by decide
  | 6, _ => exact by decide
  | 7, _ => exact by decide
  | i + 8, h => exact h.elim
 ·intro i hi h0 h1 h2 e
  match i, hi, h0, h1, h2 with
  | 0, _, _, _, _ => exact fun w Y => OpV.g (ak (v := pt w2.hz) rfl kr)
  | 1, _, _, _, _ =>
   rintro _ _ ⟨rfl, rfl⟩
   intro w Y
   exact OpV.g (ld Y 3 rfl rfl (isAgg3 _) rfl)
  | 2, _, h, _, _ => exact absurd rfl h
  | 3, _, _, _, _ => exact fun w Y => OpV.g (ak (v := po b3 1) rfl kr)
  | 4, _, _, _, _ =>
   rintro _ _ ⟨rfl, rfl⟩
   intro w Y
   exact OpV.g (ld Y 2 rfl rfl (isAgg23 _) rfl)
  | 5, _, _, h, _ => exact absurd rfl h
  | 6, _, _, _, h => exact absurd rfl h
  | 7, _, _, _, _ => exact fun w Y => ei (zeroValue25 _) (cs := [iv 0, .slice none 0 0]) rfl
 ·intro w Y
  exact OpR.to_own (f := fun b : Nat => .slice (some ⟨b, 0, none⟩) 0 0) (e := fun v => own v 48 5 []) (aX (E := 48) (sz := 5) rfl [] (fun _ => by kernel_rfl) sm rfl de) (fun v => rfl)
 ·rintro s7 _ rfl _ _ ⟨rfl, rfl⟩
  intro w Y
  replace Y : St No w0 (own s7 48 5 ([]) :: _) w := Y
  exact (cg (Y.g 0 rfl) rfl rfl ((Y.ow 4 rfl).cutk (h := k) (by first | omega | (rw [List.length_reverse]; omega) | simp | (simp; omega))) underlying23 (inf := Tryz.t48) (z := .agg #[iv 0, iv 0, iv 0, iv 0, .string (⟨#[]⟩)]) rfl rfl rfl rfl de (by first | (simp [Value.oneCell', yv, wv, sv]; done) | exact bW (by intro e he; obtain ⟨p, _, rfl⟩ := List.mem_map.1 he; exact ⟨p, rfl⟩) | (intro e he u hu; obtain ⟨s, _, rfl⟩ := List.mem_map.1 he; rw [List.mem_singleton.1 hu]; rfl)) (by have hby : Tryz.t9.bytes = 16 := rfl; have hby2 : Tryz.t48.bytes = 48 := rfl; simp only [big, hby, hby2, List.length_append, List.length_map, List.length_take, List.length_drop, List.length_cons, List.length_nil]; omega) (by have hby : Tryz.t9.bytes = 16 := rfl; have hby2 : Tryz.t48.bytes = 48 := rfl; simp only [big, hby, hby2, List.length_append, List.length_map, List.length_take, List.length_drop, List.length_cons, List.length_nil]; omega)).mono fun v w' ⟨h1, h2, h3⟩ => ⟨h1, h2, h3, rfl⟩
 ·rintro _ _ ⟨rfl, rfl⟩ s8 _ rfl
  intro w Y
  replace Y : St No w0 (own s8 48 5 (([]) ++ (((l).take k).map Rec.cells)) :: _) w := Y
  exact OpV.to_hopc (bA (v := .agg #[iv o, s8]) rfl (by obtain ⟨_, _, _, eb0_⟩ := ee (Y.ow 0 rfl); rw [eb0_]; kernel_rfl)) (Y.g 0 rfl) (fun b hb => Y.lt (k := 0) rfl hb) rfl ⟨⟨_, rfl⟩, rfl⟩ (fun v => own (scd v) 48 5 (([]) ++ (((l).take k).map Rec.cells))) rfl
 clear Z Y
 rintro vq _ _ ⟨⟨rfl, rfl⟩, -⟩ _ _ ⟨⟨rfl, rfl⟩, -⟩ s7 _ ⟨rfl, -⟩ _ _ ⟨⟨rfl, rfl⟩, -⟩ _ _ ⟨⟨rfl, rfl⟩, -⟩ s8 _ ⟨rfl, -⟩ _ _ ⟨⟨⟨s10, rfl⟩, rfl⟩, hvq⟩ _ _ ⟨⟨b11, rfl, -, rfl⟩, -⟩ a w14 Z Y
 obtain rfl := hvq rfl
 replace Z : Fr 230 [(99, _), (100, _), (101, _), (102, _), (103, _), (104, _), (105, _), (23, _), (3, _), (4, _), (5, _), (12, _), (13, _), (14, _), (15, _), (16, _), (17, _), (21, _), (96, _), (97, _), (98, _)] [] a := Z
 replace Y : St No w0 [_, _, _, _, _, _] w14 := Y
 rw [show ([]) ++ (((l).take k).map Rec.cells) = (((l).take k).map Rec.cells) from List.nil_append _] at Y
 refine ab <| aP (k := 8) 9 [8] kr kr kr ?_
 refine bu (us := [iv o, s10]) 0 Z Y rfl rfl rfl (sizeOf25 _) (by intro z hz; simp only [List.mem_cons, List.not_mem_nil, or_false] at hz; rcases hz with rfl | rfl <;> first | rfl | exact SlAt.one (Y.ow 1 rfl)) (lb rfl) (ds := [iv o, s10]) rfl rfl ?_
 clear Z Y
 intro a w15 Z Y
 refine ab <| aS kr ?_
 refine hK16 _ _ ?_
 replace Z := Z.p10 3 4 5 12 13 14 15 17 21 23 rfl
 replace Y := Y.k5 55 rfl
 refine aa fun K17 hK17 => wlm Z rfl fun a Z => wlm Z rfl fun a Z => am Z Y de call17 rfl (eS hpi (kd which (k : Int) _ (by assumption) om)) ?_
 clear Z Y
 intro a w16 Z Y
 refine wla Z rfl fun a Z => ab (hK17 _ _ <| aa fun K18 hK18 => ?_)
 refine wlm Z rfl fun a Z => wla Z rfl fun a Z => ab (hK18 _ _ <| ae fun K19 hK19 => ?_)
 have hdel : logOk o ((l.take k).take ii ++ (l.take k).drop (ii + 1)) = true := lc hlk (gy ii) (by simp only [List.length_append, List.length_take, List.length_drop]; omega)
 have hxi : (l.take k).getD ii Rec.z ∈ l := List.mem_of_mem_take (aW (by rw [List.length_take]; omega))
 have hset : logOk o ((l.take k).set ii (plusA ((l.take k).getD ii Rec.z))) = true := lc hlk (fun h => go ii h (nG (hall _ hxi) (hma _ hxi)) rfl) (by rw [List.length_set]; omega)
 have hai : -1 ≤ ((l.take k).getD ii Rec.z).a ∧ ((l.take k).getD ii Rec.z).a ≤ 198 := ⟨by have := hall _ hxi; simp only [Rec.ok, inB, Bool.and_eq_true, decide_eq_true_eq] at this; omega, hma _ hxi⟩
 refine aa fun K20 hK20 => wlm Z rfl fun a Z => ab (hK20 _ _ ?_)
 replace Z := Z.p11 5 12 13 14 15 17 21 23 24 25 110 rfl
 refine iR (fun a w => ∃ (mv : Value), ∃ (ot : List Rec), ∃ (mn : Nat), (logOk o ot = true) ∧ (ot.length = mn) ∧ (mn ≤ k) ∧ Fr 230 [(5, av), (12, .bool false), (13, pt w2.hz), (14, iv (l.length : Int)), (17, sv root), (21, v4), (23, pt b11), (25, iv (mn : Int))] [] a ∧ St No w0 [blk b11 [iv o, mv] 25, sl mv 5 (ot.map Rec.cells), own v4 9 1 (ek.map fun s => [sv s]), blk w2.hz [iv o, lv1] 25, own lv1 48 5 ((l).map Rec.cells)] w) ?_ ?_
 ·refine ax Z rfl (fun hc12 => ?_) (fun hc12 => ?_)
  ·rw [hc12] at Z
   try simp only [qz] at hc12
   refine ae fun K21 hK21 => aF kr (aG kr fun w17 hxz => ?_)
   replace Y := Y.grow hxz
   refine aT (k := 0) 10 [4, 9] Z kr kr kr rfx ?_
   replace Z := Z.p11 5 12 13 14 15 17 21 23 24 25 110 rfl
   refine aA [] (fun i => match i with | _ => fun _ _ => False) 10 [[], [0], [], [], [1, 2, 3], [], [5], [], [7], [6, 8]] [po b11 1, s10, iv (ii : Int), iv (ii : Int), (cut s10 5 0 ii ii), po b11 1, s10, iv (ii : Int), iv ((ii : Int) + 1), (cut s10 5 (ii + 1) (l.take k).length (slCap s10))] Z Y kr kr kr ?_ ?_ ?_
   ·intro i hi hiq
    match i, hi, hiq with
    | 0, _, _ => exact fun w Y => OpV.g (ak (v := po b11 1) rfl kr)
    | 1, _, _ => exact fun w Y => OpV.g (ld Y 0 rfl rfl (isAgg23 _) rfl)
    | 2, _, _ => exact fun w Y => OpV.g (ah rfl)
    | 3, _, _ => exact fun w Y => OpV.g (ah rfl)
    | 4, _, _ => exact fun w Y => OpV.g (fy (h := ii) (Y.ow 1 rfl) rfl rfl rfl underlying23 kr (by first | (rw [List.length_map]; omega) | (simp <;> omega)))
    | 5, _, _ => exact fun w Y => OpV.g (ak (v := po b11 1) rfl kr)
    | 6, _, _ => exact fun w Y => OpV.g (ld Y 0 rfl rfl (isAgg23 _) rfl)
    | 7, _, _ => exact fun w Y => OpV.g (ah rfl)
    | 8, _, _ => exact fun w Y => OpV.g (aV rfl rfl ⟨om, om⟩)
    | 9, _, _ => exact fun w Y => OpV.g (bd (l := (ii + 1)) (h := (l.take k).length) (Y.ow 1 rfl) rfl rfl rfl underlying23 kr (.inr (by rw [show ((ii : Int) + 1 : Int) = (((ii + 1) : Nat) : Int) from by omega] <;> rfl)) (.inl ⟨rfl, by simp⟩) om sm)
   ·intro i hi
    exact absurd hi sm
   clear Z Y
   intro  a w18 Z Y
   replace Z : Fr 230 [(111, po b11 1), (112, s10), (113, iv (ii : Int)), (114, iv (ii : Int)), (115, (cut s10 5 0 ii ii)), (116, po b11 1), (117, s10), (118, iv (ii : Int)), (119, iv ((ii : Int) + 1)), (120, (cut s10 5 (ii + 1) (l.take k).length (slCap s10))), (5, _), (12, _), (13, _), (14, _), (15, _), (17, _), (21, _), (23, _), (24, _), (25, _), (110, _)] [] a := Z
   refine ab <| aP (k := 10) 13 [12] kr kr kr ?_
   refine wl_r (gZ (inf := Tryz.t48) (z := .agg #[iv 0, iv 0, iv 0, iv 0, .string (⟨#[]⟩)]) (Y.g 1 rfl) (by (first | (rw [List.length_map]; omega) | (rw [List.length_map, List.length_take]; omega))) (by (first | (rw [List.length_map]; omega) | (rw [List.length_map, List.length_take]; omega))) rfl rfl ((Y.ow 1 rfl).cutd (l := (ii + 1)) (by first | omega | (rw [List.length_reverse]; omega) | simp | (simp; omega))) underlying23 rfl rfl rfl rfl de (by have hby : Tryz.t9.bytes = 16 := rfl; have hby2 : Tryz.t48.bytes = 48 := rfl; simp only [big, hby, hby2, List.length_append, List.length_map, List.length_take, List.length_drop, List.length_cons, List.length_nil]; omega) (by have hby : Tryz.t9.bytes = 16 := rfl; have hby2 : Tryz.t48.bytes = 48 := rfl; simp only [big, hby, hby2, List.length_append, List.length_map, List.length_take, List.length_drop, List.length_cons, List.length_nil]; omega)) rfl rfl Z fun a s13 w19 ⟨hq1, hq2, hq3⟩ Z => ?_
   replace Y := Y.exchange (k := 1) rfl hq1 hq2 hq3
   replace Y : St No w0 [_, _, _, _, _] w19 := Y
   clear hq1 hq2 hq3
   rw [show (((l).take k).map Rec.cells).take ii ++ (((l.take k).drop (ii + 1)).map Rec.cells) = (((l.take k).take ii ++ (l.take k).drop (ii + 1)).map Rec.cells) from by rw [List.map_append, List.map_take, List.map_take, List.map_drop, List.map_take]] at Y
   refine wlv Z (ak (v := po b11 1) rfl kr) fun a Z => cA 0 Z Y (show SlAt _ s13 5 (((l.take k).take ii ++ (l.take k).drop (ii + 1)).map Rec.cells) from Y.g 1 rfl) rfl rfl rfl (sizeOf23 _) (lb rfl) (ds := [iv o, s13]) rfl rfl ?_
   clear Z Y
   intro a w20 Z Y
   refine ab <| aS kr ?_
   refine hK21 _ _ ?_
   replace Z := Z.p8 5 12 13 14 15 17 21 23 rfl
   refine ao <| wlm Z rfl fun a Z => wlv Z (bh rfl rfl ⟨om, om⟩) fun a Z => wla Z rfl fun a Z => ab ?_
   rw [show (k : Int) - 1 = ((k - 1 : Nat) : Int) from by omega] at Z
   exact ⟨s13, ((l.take k).take ii ++ (l.take k).drop (ii + 1)), (k - 1), hdel, (by simp only [List.length_append, List.length_take, List.length_drop]; omega), om, Z.pick [5, 12, 13, 14, 17, 21, 23, 25], Y.select [0, 1, 2, 3, 4] de⟩
  rw [hc12] at Z
  try simp only [qz] at hc12
  refine aF kr (aG kr fun w21 hxz => ?_)
  replace Y := Y.grow hxz
  refine aT (k := 0) 10 [1, 2, 9] Z kr kr kr rfx ?_
  replace Z := Z.p11 5 12 13 14 15 17 21 23 24 25 110 rfl
  refine aA [] (fun i => match i with | _ => fun _ _ => False) 10 [[], [0], [], [], [3], [], [4, 5], [6], [7], [8]] [po b11 1, s10, iv (ii : Int), po b11 1, s10, iv (ii : Int), slAddr s10 (ii * 5), slAddr s10 (ii * 5 + 2), iv (((l.take k).getD ii Rec.z).a), iv ((((l.take k).getD ii Rec.z).a) + 1)] Z Y kr kr kr ?_ ?_ ?_
  ·intro i hi hiq
   match i, hi, hiq with
   | 0, _, _ => exact fun w Y => OpV.g (ak (v := po b11 1) rfl kr)
   | 1, _, _ => exact fun w Y => OpV.g (ld Y 0 rfl rfl (isAgg23 _) rfl)
   | 2, _, _ => exact fun w Y => OpV.g (ah rfl)
   | 3, _, _ => exact fun w Y => OpV.g (ak (v := po b11 1) rfl kr)
   | 4, _, _ => exact fun w Y => OpV.g (ld Y 0 rfl rfl (isAgg23 _) rfl)
   | 5, _, _ => exact fun w Y => OpV.g (ah rfl)
   | 6, _, _ => exact fun w Y => OpV.g ((aj (i := (ii : Int)) (sT := 23) (Y.ow 1 rfl) rfl rfl (runUnderlying23 _) (sizeOf48 _) om (by (first | (rw [List.length_map]; omega) | (rw [List.length_map, List.length_take]; omega)))).as (v' := slAddr s10 (ii * 5)) rfl)
   | 7, _, _ => exact fun w Y => OpV.g (cG (k := ii * 5) (j := 2) (Y.ow 1 rfl) (i := ii) (by (first | (rw [List.length_map]; omega) | (rw [List.length_map, List.length_take]; omega))) rfl (fun _ _ => by kernel_rfl))
   | 8, _, _ => exact fun w Y => OpV.g (au (u := iv (((l.take k).getD ii Rec.z).a)) (i := ii) (j := 2) (Y.ow 1 rfl) (by (first | (rw [List.length_map]; omega) | (rw [List.length_map, List.length_take]; omega))) rfl (isAgg3 _) (by rw [br Rec.z]; rfl))
   | 9, _, _ => exact fun w Y => OpV.g (aV rfl rfl ⟨om, om⟩)
  ·intro i hi
   exact absurd hi sm
  clear Z Y
  intro  a w22 Z Y
  replace Z : Fr 230 [(125, po b11 1), (126, s10), (127, iv (ii : Int)), (128, po b11 1), (129, s10), (130, iv (ii : Int)), (131, slAddr s10 (ii * 5)), (132, slAddr s10 (ii * 5 + 2)), (133, iv (((l.take k).getD ii Rec.z).a)), (134, iv ((((l.take k).getD ii Rec.z).a) + 1)), (5, _), (12, _), (13, _), (14, _), (15, _), (17, _), (21, _), (23, _), (24, _), (25, _), (110, _)] [] a := Z
  refine ab <| aP (k := 10) 13 [12] kr kr kr ?_
  refine wlv Z ((aj (i := (ii : Int)) (sT := 23) (Y.ow 1 rfl) rfl rfl (runUnderlying23 _) (sizeOf48 _) om (by (first | (rw [List.length_map]; omega) | (rw [List.length_map, List.length_take]; omega)))).as (v' := slAddr s10 (ii * 5)) rfl) fun a Z => wlv Z (cG (k := ii * 5) (j := 2) (Y.ow 1 rfl) (i := ii) (by (first | (rw [List.length_map]; omega) | (rw [List.length_map, List.length_take]; omega))) rfl (fun _ _ => by kernel_rfl)) fun a Z => iJ (k := ii) (j := 2) 1 Z Y rfl rfl rfl (by rw [List.length_map, List.length_take]; omega) om (sizeOf3 _) (by simp [Value.oneCell', yv, wv, sv, Value.cells]) (lb rfl) (els' := (((l.take k).set ii (plusA ((l.take k).getD ii Rec.z))).map Rec.cells)) (o7 (by rw [List.length_take]; omega) rfl _) rfl ?_
  clear Z Y
  intro a w23 Z Y
  refine ab <| aS kr ?_
  replace Y := Y.own_sl (i := 1) rfl
  replace Y : St No w0 [_, _, _, _, _] w23 := Y
  exact ⟨s10, ((l.take k).set ii (plusA ((l.take k).getD ii Rec.z))), k, hset, (by rw [List.length_set, List.length_take]; omega), om, Z.pick [5, 12, 13, 14, 17, 21, 23, 25], Y.select [0, 1, 2, 3, 4] de⟩
 rintro a w24 ⟨mv, ot, mn, hlt, hol, hmk, Z, Y⟩
 refine hK19 _ _ ?_
 have halt := bL hlt
 have hlm := jF hlo mn
 have halm := bL hlm
 obtain ⟨rt, hrt⟩ : ∃ z, rootH sha (codesR ot) = z := ⟨_, rfl⟩
 have hrt32 : rt.length = 32 := by rw [← hrt]; exact bc aZ _
 obtain ⟨rm, hrm⟩ : ∃ z, rootH sha (codesR (l.take mn)) = z := ⟨_, rfl⟩
 have hrm32 : rm.length = 32 := by rw [← hrm]; exact bc aZ _
 obtain ⟨em, hem⟩ : ∃ z, extH sha (codesR l) mn = z := ⟨_, rfl⟩
 have heml : em.length ≤ 20 := by rw [← hem]; exact nm hll om
 have hem32 : ∀ z ∈ em, z.length = 32 := by rw [← hem]; exact gn (lI (l := l) (k := mn) om)
 refine aa fun K22 hK22 => wlv Z (aw (Y.g 0 rfl) rfl (isAgg25 _) (sizeOf25 _)) fun a Z => am Z Y de call10 rfl (kp (show SlAt _ mv 5 (ot.map Rec.cells) from Y.g 1 rfl) (Y.keepb hk0) hlt hrt) ?_
 clear Z Y
 intro a w25 Z Y
 refine wlm Z rfl fun a Z => wlv Z (ai rfl rfl) fun a Z => wlv Z (ai rfl rfl) fun a Z => wla Z rfl fun a Z => wla Z rfl fun a Z => ab (hK22 _ _ <| ae fun K23 hK23 => ?_)
 refine aa fun K24 hK24 => wlm Z rfl fun a Z => wlv Z ((v_ne rfl rfl).asb (b' := false) rfl) fun a Z => ab (hK24 _ _ ?_)
 replace Z := Z.p10 5 12 13 14 17 21 23 25 26 143 rfl
 refine aL Z rfl ?_
 refine ar <| hK23 _ _ <| ae fun K25 hK25 => aF kr (aG kr fun w26 hxz => ?_)
 replace Y := Y.grow hxz
 refine aT (k := 0) 9 [7, 8] Z kr kr kr rfx ?_
 replace Z := Z.p10 5 12 13 14 17 21 23 25 26 143 rfl
 refine aA [8] (fun i => match i with | 8 => pm (fun b : Nat => pt b) (fun b => [blk b [iv 0, .slice none 0 0] 25]) (fun _ => True) | _ => fun _ _ => False) 9 [[], [0], [], [2], [], [], [3, 4, 5], [1, 6], []] [pt w2.hz, iv o, po w2.hz 1, lv1, iv (mn : Int), iv (mn : Int), (cut lv1 5 0 mn mn), .agg #[iv o, (cut lv1 5 0 mn mn)], undef] Z Y kr kr kr ?_ ?_ ?_
 ·intro i hi hiq
  match i, hi, hiq with
  | 0, _, _ => exact fun w Y => OpV.g (ak (v := pt w2.hz) rfl kr)
  | 1, _, _ => exact fun w Y => OpV.g (ld Y 3 rfl rfl (isAgg3 _) rfl)
  | 2, _, _ => exact fun w Y => OpV.g (ak (v := po w2.hz 1) rfl kr)
  | 3, _, _ => exact fun w Y => OpV.g (ld Y 3 rfl rfl (isAgg23 _) rfl)
  | 4, _, _ => exact fun w Y => OpV.g (ah rfl)
  | 5, _, _ => exact fun w Y => OpV.g (ah rfl)
  | 6, _, _ => exact fun w Y => OpV.g (fy (h := mn) (Y.ow 4 rfl) rfl rfl rfl underlying23 kr (by first | (rw [List.length_map]; omega) | (simp <;> omega)))
  | 7, _, _ => exact fun w Y => OpV.g (bA (v := .agg #[iv o, (cut lv1 5 0 mn mn)]) rfl (by obtain ⟨_, _, _, eb0_⟩ := ee ((Y.ow 4 rfl).cutk (h := mn) (by first | omega | (rw [List.length_reverse]; omega) | simp | (simp; omega))); rw [eb0_]; kernel_rfl))
  | 8, _, h => exact absurd sm h
 ·intro i hi
  simp only [List.mem_cons, List.not_mem_nil, or_false] at hi
  subst hi
  ·intro w Y
   exact ei (zeroValue25 _) (cs := [iv 0, .slice none 0 0]) rfl
 clear Z Y
 rintro _ _ ⟨b14, rfl, -, rfl⟩ a w27 Z Y
 replace Z : Fr 230 [(144, pt w2.hz), (145, iv o), (146, po w2.hz 1), (147, lv1), (148, iv (mn : Int)), (149, iv (mn : Int)), (150, (cut lv1 5 0 mn mn)), (151, .agg #[iv o, (cut lv1 5 0 mn mn)]), (28, _), (5, _), (12, _), (13, _), (14, _), (17, _), (21, _), (23, _), (25, _), (26, _), (143, _)] [] a := Z
 replace Y : St No w0 [_, _, _, _, _, _] w27 := Y
 refine ab <| aP (k := 9) 10 [9] kr kr kr ?_
 refine bu (us := [iv o, (cut lv1 5 0 mn mn)]) 0 Z Y rfl rfl rfl (sizeOf25 _) (by intro z hz; simp only [List.mem_cons, List.not_mem_nil, or_false] at hz; rcases hz with rfl | rfl <;> first | rfl | exact SlAt.one ((Y.ow 5 rfl).cutk (h := mn) (by first | omega | (rw [List.length_reverse]; omega) | simp | (simp; omega)))) (lb rfl) (ds := [iv o, (cut lv1 5 0 mn mn)]) rfl rfl ?_
 clear Z Y
 intro a w28 Z Y
 refine ab <| aS kr ?_
 refine hK25 _ _ ?_
 replace Z := Z.p10 5 12 13 14 17 21 23 25 26 28 rfl
 refine ae fun K26 hK26 => aa fun K27 hK27 => wlm Z rfl fun a Z => wlv Z (v_lt rfl rfl) fun a Z => wlm Z rfl fun a Z => ?_
 rcases Bool.eq_false_or_eq_true (decide ((mn : Int) < 1)) with hb15 | hb15
 ·rw [hb15] at Z
  try simp only [qz] at hb15
  refine wln Z fun a Z => wln Z fun a Z => wln Z fun a Z => wlv Z (az rfl rfl) fun a Z => ab (hK27 _ _ ?_)
  replace Z := Z.p11 5 12 13 14 17 21 23 25 26 28 158 rfl
  refine aI Z rfl ?_
  refine aa fun K28 hK28 => wla Z rfl fun a Z => ab (hK28 _ _ <| ap ?_)
  refine al Z results4 (ac rfl ag) ?_
  exact ⟨rfl, Y.ext⟩
 rw [hb15] at Z
 try simp only [qz] at hb15
 refine wly Z (aw (Y.g 0 rfl) rfl (isAgg25 _) (sizeOf25 _)) fun a Z => wly Z (aw (Y.g 1 rfl) rfl (isAgg25 _) (sizeOf25 _)) fun a Z => ba Z Y de rfl de rfl call27 rfl (nZ o o (cut lv1 5 0 mn mn) mv (l.take mn) ot _ ((Y.ow 5 rfl).cutk (h := mn) (by first | omega | (rw [List.length_reverse]; omega) | simp | (simp; omega))) (show SlAt _ mv 5 (ot.map Rec.cells) from Y.g 2 rfl)) ?_
 clear Z Y
 intro a w29 Z Y
 refine wlv Z (ay rfl rfl) fun a Z => ab (hK27 _ _ ?_)
 replace Z := Z.p11 5 12 13 14 17 21 23 25 26 28 158 rfl
 refine ax Z rfl (fun hc16 => ?_) (fun hc16 => ?_)
 ·rw [hc16] at Z
  try simp only [qz] at hc16
  refine aa fun K29 hK29 => wla Z rfl fun a Z => ab (hK29 _ _ <| ap ?_)
  refine al Z results4 (ac rfl ag) ?_
  exact ⟨rfl, Y.ext⟩
 rw [hc16] at Z
 try simp only [qz] at hc16
 have hne : ¬ l.take mn = ot := by simpa using hc16
 refine ar <| hK26 _ _ <| ae fun K30 hK30 => aa fun K31 hK31 => wlm Z rfl fun a Z => wlm Z rfl fun a Z => aK Z Y de call6 rfl (few_x hqs (Y.arg hav)) ?_
 clear Z Y
 intro a w30 x18 hp Z Y
 revert x18 hp Z Y; rintro v17 hp Z Y
 clear hp
 replace Y : St No w0 [_, _, _, _, _, _, _] w30 := Y
 refine aC (E := 26) (sz := 1) rfl [[v4], [v17]] (by obtain ⟨_, _, _, e0_⟩ := gG (Y.ow 4 rfl); obtain ⟨_, _, _, e1_⟩ := gG (Y.ow 0 rfl); rw [e0_, e1_]; kernel_rfl) sm rfl de de Z Y ?_
 clear Z Y
 intro a w31 Z Y
 refine wlv Z ((aE (sT := 44) (Y.ow 0 rfl) rfl rfl (runUnderlying44 _)).asi (m' := 2) rfx) fun a Z => wlm Z rfl fun a Z => ab (hK31 _ _ ?_)
 replace Z := Z.p11 12 13 14 17 23 25 26 28 162 163 164 rfl
 refine aq <| fo 3 ?_
 refine cf ?_
 refine aa fun K32 hK32 => wlv Z ((v_lt rfl rfl).asb (b' := true) rfl) fun a Z => ab (hK32 _ _ <| ae fun K33 hK33 => ?_)
 refine aI Z rfl ?_
 refine ar <| hK33 _ _ <| ae fun K34 hK34 => ?_
 refine iR (fun a w => Fr 230 [(13, pt w2.hz), (14, iv (l.length : Int)), (17, sv root), (23, pt b11), (25, iv (mn : Int)), (26, sv rt), (28, pt b14), (162, (.slice (some ⟨w30.hz, 0, none⟩) 2 2)), (163, iv 2), (164, iv 0)] [] a ∧ St No w0 [own (.slice (some ⟨w30.hz, 0, none⟩) 2 2) 26 1 ([[v4], [v17]]), own v17 9 1 (qs.map fun s => [sv s]), blk b14 [iv o, (cut lv1 5 0 mn mn)] 25, blk b11 [iv o, mv] 25, sl mv 5 (ot.map Rec.cells), own v4 9 1 (ek.map fun s => [sv s]), blk w2.hz [iv o, lv1] 25, own lv1 48 5 ((l).map Rec.cells)] w) ?_ ?_
 ·refine aq <| aa fun K35 hK35 => wlv Z ((aj (i := 0) (sT := 44) (Y.ow 0 rfl) rfl rfl (runUnderlying44 _) (sizeOf26 _) om sm).as (v' := slAddr (.slice (some ⟨w30.hz, 0, none⟩) 2 2) (0 * 1)) rfl) fun a Z => wlv Z (au (u := v4) (i := 0) (j := 0) (Y.ow 0 rfl) sm rfl (isAgg26 _) rfx) fun a Z => wla Z rfl fun a Z => ab (hK35 _ _ <| ae fun K36 hK36 => ?_)
  refine aa fun K37 hK37 => wlm Z rfl fun a Z => wlm Z rfl fun a Z => wlm Z rfl fun a Z => wlm Z rfl fun a Z => wlm Z rfl fun a Z => am Z Y de call23 rfl (dH rt (mn : Int) root (l.length : Int) v4 ek _ (Y.ow 5 rfl) om (by unfold i64; omega) (Y.keepb hk0)) ?_
  clear Z Y
  intro a w32 Z Y
  refine wlv Z (bq rfl) fun a Z => ab (hK37 _ _ ?_)
  replace Z := Z.p13 12 13 14 17 23 25 26 28 162 163 164 30 174 rfl
  refine ax Z rfl (fun hc19 => ?_) (fun hc19 => ?_)
  ·rw [hc19] at Z
   try simp only [qz] at hc19
   refine aJ ?_
   exact ⟨Z.pick [13, 14, 17, 23, 25, 26, 28, 162, 163, 164], Y.select [0, 1, 2, 3, 4, 5, 6, 7] de⟩
  rw [hc19] at Z
  try simp only [qz] at hc19
  have hvx : aO sha rt (mn : Int) root (l.length : Int) ek = true := by simpa using hc19
  have hq32 := gn hvx
  have hout0 := io hall halt (by omega : mn ≤ l.length) hol (by rw [hrt, hroot]; exact hvx) hne
  have houts0 := ex (n := mn) (q := ek) hall halt hq32 (by rw [hem]; exact hem32)
  have houtl0 := eR (n := mn) (q := ek) hll (by omega : ot.length ≤ 12) om hq32 (by rw [hem]; exact hem32) (by rw [hem]; exact heml)
  unfold cS at hout0 houts0 houtl0
  rw [hrt, hrm, hem] at hout0 houts0 houtl0
  have hout := hout0
  have houts := houts0
  have houtl := houtl0
  have hc1 := ct l
  have hc2 := ct ot
  have hc3 := ct (l.take mn)
  rw [List.length_take] at hc3
  have hc4 := (cO hrt32 ek mn l.length true hq32).1
  have hc5 := (cO hrm32 em mn l.length true hem32).1
  refine ar <| hK36 _ _ <| aa fun K38 hK38 => wlv Z (aw (Y.g 6 rfl) rfl (isAgg25 _) (sizeOf25 _)) fun a Z => wlm Z rfl fun a Z => aK Z Y de call21 rfl (jV hem (Y.ow 7 rfl) om hlo om) ?_
  clear Z Y
  intro a w33 x21 hp Z Y
  revert x21 hp Z Y; rintro v20 hp Z Y
  clear hp
  replace Y : St No w0 [_, _, _, _, _, _, _, _, _] w33 := Y
  refine wlm Z rfl fun a Z => wlv Z (ai rfl rfl) fun a Z => wlv Z (ai rfl rfl) fun a Z => wla Z rfl fun a Z => wla Z rfl fun a Z => ab (hK38 _ _ ?_)
  replace Z := Z.p14 12 13 14 17 23 25 26 28 162 163 164 30 31 32 rfl
  refine aa fun K39 hK39 => wlv Z (aw (Y.g 3 rfl) rfl (isAgg25 _) (sizeOf25 _)) fun a Z => am Z Y de call11 rfl (lj ((Y.ow 8 rfl).cutk (h := mn) (by first | omega | (rw [List.length_reverse]; omega) | simp | (simp; omega))) (by first | omega | (rw [List.length_take]; omega)) hlm hrm) ?_
  clear Z Y
  intro a w34 Z Y
  refine wlm Z rfl fun a Z => wlv Z (ai rfl rfl) fun a Z => wlv Z (ai rfl rfl) fun a Z => wla Z rfl fun a Z => wla Z rfl fun a Z => ab (hK39 _ _ <| ae fun K40 hK40 => ?_)
  refine aa fun K41 hK41 => wlm Z rfl fun a Z => wlv Z ((v_ne rfl rfl).asb (b' := false) rfl) fun a Z => wlm Z rfl fun a Z => wly Z (ah rfl) fun a Z => wly Z ((v_ne rfl rfl).asb (b' := false) rfl) fun a Z => wlv Z (ay rfl rfl) fun a Z => ab (hK41 _ _ ?_)
  replace Z := Z.p15 12 13 14 17 23 25 26 28 162 163 164 30 31 33 191 rfl
  refine aL Z rfl ?_
  refine ar <| hK40 _ _ <| ae fun K42 hK42 => aF kr (aG kr fun w35 hxz => ?_)
  replace Y := Y.grow hxz
  refine aT (k := 0) 4 [2, 3] Z kr kr kr rfx ?_
  replace Z := Z.p15 12 13 14 17 23 25 26 28 162 163 164 30 31 33 191 rfl
  refine aA [1, 2] (fun i => match i with | 1 => pm (fun v : Value => v) (fun v => [own v 9 1 ((codesR l).map fun s => [sv s])]) (fun _ => True) | 2 => pm (fun v : Value => v) (fun v => [own v 9 1 ((hashL sha (codesR l)).map fun s => [sv s])]) (fun _ => True) | _ => fun _ _ => False) 4 [[], [0], [1], []] [.agg #[iv o, lv1], undef, undef, .agg #[iv o, mv]] Z Y kr kr kr ?_ ?_ ?_
  ·intro i hi hiq
   match i, hi, hiq with
   | 0, _, _ => exact fun w Y => OpV.g (aw (Y.g 7 rfl) rfl (isAgg25 _) (sizeOf25 _))
   | 1, _, h => exact absurd sm h
   | 2, _, h => exact absurd sm h
   | 3, _, _ => exact fun w Y => OpV.g (aw (Y.g 4 rfl) rfl (isAgg25 _) (sizeOf25 _))
  ·intro i hi
   simp only [List.mem_cons, List.not_mem_nil, or_false] at hi
   rcases hi with rfl | rfl
   ·intro w Y
    exact dO call29 rfl (et (o := o) (Y.ow 8 rfl) (by first | omega | (rw [List.length_take]; omega)) hall)
   ·rintro v22 _ ⟨_, rfl, -, rfl⟩
    intro w Y
    exact dO call28 rfl (fm rfl (Y.ow 0 rfl) (by rw [bn]; first | omega | (rw [List.length_take]; omega)) (fun s h => Nat.le_trans (bM hall s h) de))
  clear Z Y
  rintro v22 _ ⟨_, rfl, -, rfl⟩ v23 _ ⟨_, rfl, -, rfl⟩ a w36 Z Y
  replace Z : Fr 230 [(192, .agg #[iv o, lv1]), (193, _), (194, _), (195, .agg #[iv o, mv]), (12, _), (13, _), (14, _), (17, _), (23, _), (25, _), (26, _), (28, _), (162, _), (163, _), (164, _), (30, _), (31, _), (33, _), (191, _)] [] a := Z
  replace Y : St No w0 [_, _, _, _, _, _, _, _, _, _, _] w36 := Y
  refine ab <| aP (k := 4) 8 [7] kr kr kr ?_
  refine aK Z Y de call29 rfl (et (o := o) (show SlAt _ mv 5 (ot.map Rec.cells) from Y.g 7 rfl) (by first | omega | (rw [List.length_take]; omega)) halt) ?_
  clear Z Y
  intro a w37 x25 hp Z Y
  revert x25 hp Z Y; rintro v24 hp Z Y
  clear hp
  replace Y : St No w0 [_, _, _, _, _, _, _, _, _, _, _, _] w37 := Y
  refine aK Z Y de call28 rfl (fm rfl (Y.ow 0 rfl) (by rw [bn]; first | omega | (rw [List.length_take]; omega)) (fun s h => Nat.le_trans (bM halt s h) de)) ?_
  clear Z Y
  intro a w38 x27 hp Z Y
  revert x27 hp Z Y; rintro v26 hp Z Y
  clear hp
  replace Y : St No w0 [_, _, _, _, _, _, _, _, _, _, _, _, _] w38 := Y
  refine bE (i := 3) (sT := 26) (inf := Tryz.t9) (z := .string (⟨#[]⟩)) rfl rfl rfl (Y.ow 0 rfl) underlying26 rfl rfl rfl rfl de (by first | (simp [Value.oneCell', yv, wv, sv]; done) | exact bW (by intro e he; obtain ⟨p, _, rfl⟩ := List.mem_map.1 he; exact ⟨p, rfl⟩) | (intro e he u hu; obtain ⟨s, _, rfl⟩ := List.mem_map.1 he; rw [List.mem_singleton.1 hu]; rfl)) (by have hby : Tryz.t9.bytes = 16 := rfl; have hby2 : Tryz.t48.bytes = 48 := rfl; simp only [big, hby, hby2, List.length_append, List.length_map, List.length_take, List.length_drop, List.length_cons, List.length_nil]; omega) (by have hby : Tryz.t9.bytes = 16 := rfl; have hby2 : Tryz.t48.bytes = 48 := rfl; simp only [big, hby, hby2, List.length_append, List.length_map, List.length_take, List.length_drop, List.length_cons, List.length_nil]; omega) de Z Y ?_
  clear Z Y
  intro a w39 s28 Z Y
  rw [show ((hashL sha (codesR l)).map fun s => [sv s]) ++ ((hashL sha (codesR ot)).map fun s => [sv s]) = (((hashL sha (codesR l)) ++ (hashL sha (codesR ot))).map fun s => [sv s]) from List.map_append.symm] at Y
  refine wla Z rfl fun a Z => ab <| aS kr ?_
  refine hK42 _ _ ?_
  replace Z := Z.p15 12 13 14 17 23 25 26 28 162 163 164 30 31 33 35 rfl
  replace Y := Y.k10 8184 rfl
  refine aa fun K43 hK43 => wlm Z rfl fun a Z => wlv Z (aw (Y.g 4 rfl) rfl (isAgg25 _) (sizeOf25 _)) fun a Z => aK Z Y de call29 rfl (et (o := o) ((Y.ow 9 rfl).cutk (h := mn) (by first | omega | (rw [List.length_reverse]; omega) | simp | (simp; omega))) (by first | omega | (rw [List.length_take]; omega)) halm) ?_
  clear Z Y
  intro a w40 x30 hp Z Y
  revert x30 hp Z Y; rintro v29 hp Z Y
  clear hp
  replace Y : St No w0 [_, _, _, _, _, _, _, _, _, _, _] w40 := Y
  refine aK Z Y de call28 rfl (fm rfl (Y.ow 0 rfl) (by rw [bn]; first | omega | (rw [List.length_take]; omega)) (fun s h => Nat.le_trans (bM halm s h) de)) ?_
  clear Z Y
  intro a w41 x32 hp Z Y
  revert x32 hp Z Y; rintro v31 hp Z Y
  clear hp
  replace Y : St No w0 [_, _, _, _, _, _, _, _, _, _, _, _] w41 := Y
  refine bE (i := 2) (sT := 26) (inf := Tryz.t9) (z := .string (⟨#[]⟩)) rfl rfl rfl (Y.ow 0 rfl) underlying26 rfl rfl rfl rfl de (by first | (simp [Value.oneCell', yv, wv, sv]; done) | exact bW (by intro e he; obtain ⟨p, _, rfl⟩ := List.mem_map.1 he; exact ⟨p, rfl⟩) | (intro e he u hu; obtain ⟨s, _, rfl⟩ := List.mem_map.1 he; rw [List.mem_singleton.1 hu]; rfl)) (by have hby : Tryz.t9.bytes = 16 := rfl; have hby2 : Tryz.t48.bytes = 48 := rfl; simp only [big, hby, hby2, List.length_append, List.length_map, List.length_take, List.length_drop, List.length_cons, List.length_nil]; omega) (by have hby : Tryz.t9.bytes = 16 := rfl; have hby2 : Tryz.t48.bytes = 48 := rfl; simp only [big, hby, hby2, List.length_append, List.length_map, List.length_take, List.length_drop, List.length_cons, List.length_nil]; omega) de Z Y ?_
  clear Z Y
  intro a w42 s33 Z Y
  rw [show (((hashL sha (codesR l)) ++ (hashL sha (codesR ot))).map fun s => [sv s]) ++ ((hashL sha (codesR (l.take mn))).map fun s => [sv s]) = ((((hashL sha (codesR l)) ++ (hashL sha (codesR ot))) ++ (hashL sha (codesR (l.take mn)))).map fun s => [sv s]) from List.map_append.symm] at Y
  refine wla Z rfl fun a Z => ab (hK43 _ _ <| aa fun K44 hK44 => ?_)
  refine wlm Z rfl fun a Z => wlm Z rfl fun a Z => wlm Z rfl fun a Z => wlm Z rfl fun a Z => aK Z Y de call30 rfl (en rt (by assumption) _ mn l.length v4 ek true _ rfl (Y.ow 9 rfl) om om hq32) ?_
  clear Z Y
  intro a w43 x35 hp Z Y
  revert x35 hp Z Y; rintro v34 hp Z Y
  clear hp
  replace Y : St No w0 [_, _, _, _, _, _, _, _, _, _, _, _, _] w43 := Y
  refine wlm Z rfl fun a Z => wlv Z (ai rfl rfl) fun a Z => wlv Z (ai rfl rfl) fun a Z => wlv Z (ai rfl rfl) fun a Z => wla Z rfl fun a Z => wla Z rfl fun a Z => wla Z rfl fun a Z => ab (hK44 _ _ ?_)
  replace Z := Z.p15 12 13 14 17 23 25 26 28 162 163 164 31 33 35 36 rfl
  replace Y := Y.k11 8185 rfl
  refine aa fun K45 hK45 => wlm Z rfl fun a Z => wlm Z rfl fun a Z => wlm Z rfl fun a Z => wlm Z rfl fun a Z => aK Z Y de call30 rfl (en rm (by assumption) _ mn l.length v20 em true _ rfl (Y.ow 2 rfl) om om hem32) ?_
  clear Z Y
  intro a w44 x37 hp Z Y
  revert x37 hp Z Y; rintro v36 hp Z Y
  clear hp
  replace Y : St No w0 [_, _, _, _, _, _, _, _, _, _, _, _] w44 := Y
  refine wlm Z rfl fun a Z => wlv Z (ai rfl rfl) fun a Z => wlv Z (ai rfl rfl) fun a Z => wlv Z (ai rfl rfl) fun a Z => wla Z rfl fun a Z => wla Z rfl fun a Z => wla Z rfl fun a Z => ab (hK45 _ _ ?_)
  replace Z := Z.p14 12 13 14 17 23 25 26 28 162 163 164 35 36 39 rfl
  replace Y := Y.k11 4087 rfl
  refine aa fun K46 hK46 => wlm Z rfl fun a Z => wlm Z rfl fun a Z => bE (i := 2) (sT := 26) (inf := Tryz.t9) (z := .string (⟨#[]⟩)) rfl rfl rfl (Y.ow 1 rfl) underlying26 rfl rfl rfl rfl de (by first | (simp [Value.oneCell', yv, wv, sv]; done) | exact bW (by intro e he; obtain ⟨p, _, rfl⟩ := List.mem_map.1 he; exact ⟨p, rfl⟩) | (intro e he u hu; obtain ⟨s, _, rfl⟩ := List.mem_map.1 he; rw [List.mem_singleton.1 hu]; rfl)) (by have hby : Tryz.t9.bytes = 16 := rfl; have hby2 : Tryz.t48.bytes = 48 := rfl; simp only [big, hby, hby2, List.length_append, List.length_map, List.length_take, List.length_drop, List.length_cons, List.length_nil]; omega) (by have hby : Tryz.t9.bytes = 16 := rfl; have hby2 : Tryz.t48.bytes = 48 := rfl; simp only [big, hby, hby2, List.length_append, List.length_map, List.length_take, List.length_drop, List.length_cons, List.length_nil]; omega) de Z Y ?_
  clear Z Y
  intro a w45 s38 Z Y
  rw [show ((((hashL sha (codesR l)) ++ (hashL sha (codesR ot))) ++ (hashL sha (codesR (l.take mn)))).map fun s => [sv s]) ++ (((sdH sha rt mn l.length ek true).1).map fun s => [sv s]) = (((((hashL sha (codesR l)) ++ (hashL sha (codesR ot))) ++ (hashL sha (codesR (l.take mn)))) ++ ((sdH sha rt mn l.length ek true).1)).map fun s => [sv s]) from List.map_append.symm] at Y
  refine wlm Z rfl fun a Z => bE (i := 2) (sT := 26) (inf := Tryz.t9) (z := .string (⟨#[]⟩)) rfl rfl rfl (Y.ow 0 rfl) underlying26 rfl rfl rfl rfl de (by first | (simp [Value.oneCell', yv, wv, sv]; done) | exact bW (by intro e he; obtain ⟨p, _, rfl⟩ := List.mem_map.1 he; exact ⟨p, rfl⟩) | (intro e he u hu; obtain ⟨s, _, rfl⟩ := List.mem_map.1 he; rw [List.mem_singleton.1 hu]; rfl)) (by have hby : Tryz.t9.bytes = 16 := rfl; have hby2 : Tryz.t48.bytes = 48 := rfl; simp only [big, hby, hby2, List.length_append, List.length_map, List.length_take, List.length_drop, List.length_cons, List.length_nil]; omega) (by have hby : Tryz.t9.bytes = 16 := rfl; have hby2 : Tryz.t48.bytes = 48 := rfl; simp only [big, hby, hby2, List.length_append, List.length_map, List.length_take, List.length_drop, List.length_cons, List.length_nil]; omega) de Z Y ?_
  clear Z Y
  intro a w46 s39 Z Y
  rw [show (((((hashL sha (codesR l)) ++ (hashL sha (codesR ot))) ++ (hashL sha (codesR (l.take mn)))) ++ ((sdH sha rt mn l.length ek true).1)).map fun s => [sv s]) ++ (((sdH sha rm mn l.length em true).1).map fun s => [sv s]) = ((((((hashL sha (codesR l)) ++ (hashL sha (codesR ot))) ++ (hashL sha (codesR (l.take mn)))) ++ ((sdH sha rt mn l.length ek true).1)) ++ ((sdH sha rm mn l.length em true).1)).map fun s => [sv s]) from List.map_append.symm] at Y
  refine am Z Y de call31 rfl (ca (by exact hout) (lA s39 (((((hashL sha (codesR l)) ++ (hashL sha (codesR ot))) ++ (hashL sha (codesR (l.take mn)))) ++ ((sdH sha rt mn l.length ek true).1)) ++ ((sdH sha rm mn l.length em true).1)) _ (Y.ow 2 rfl) houts houtl)) ?_
  clear Z Y
  intro a w47 Z Y
  refine wlv Z ((bq rfl).asb (b' := false) rfl) fun a Z => ab (hK46 _ _ ?_)
  replace Z := Z.p12 12 13 14 17 23 25 26 28 162 163 164 228 rfl
  replace Y := Y.k8 2040 rfl
  refine aL Z rfl ?_
  refine ar ?_
  exact ⟨Z.pick [13, 14, 17, 23, 25, 26, 28, 162, 163, 164], Y.select [0, 1, 2, 3, 4, 5, 6, 7] de⟩
 rintro a w48 ⟨Z, Y⟩
 refine hK34 _ _ <| ao <| wlv Z ((aV rfl rfl de).asi (m' := 1) rfl) fun a Z => wlm Z rfl fun a Z => ab <| cf ?_
 refine aa fun K47 hK47 => wlv Z ((v_lt rfl rfl).asb (b' := true) rfl) fun a Z => ab (hK47 _ _ <| ae fun K48 hK48 => ?_)
 refine aI Z rfl ?_
 refine ar <| hK48 _ _ <| ae fun K49 hK49 => ?_
 refine iR (fun a w => Fr 230 [(13, pt w2.hz), (14, iv (l.length : Int)), (17, sv root), (23, pt b11), (25, iv (mn : Int)), (26, sv rt), (28, pt b14), (162, (.slice (some ⟨w30.hz, 0, none⟩) 2 2)), (163, iv 2), (164, iv 1)] [] a ∧ St No w0 [own (.slice (some ⟨w30.hz, 0, none⟩) 2 2) 26 1 ([[v4], [v17]]), own v17 9 1 (qs.map fun s => [sv s]), blk b14 [iv o, (cut lv1 5 0 mn mn)] 25, blk b11 [iv o, mv] 25, sl mv 5 (ot.map Rec.cells), own v4 9 1 (ek.map fun s => [sv s]), blk w2.hz [iv o, lv1] 25, own lv1 48 5 ((l).map Rec.cells)] w) ?_ ?_
 ·refine aq <| aa fun K50 hK50 => wlv Z ((aj (i := 1) (sT := 44) (Y.ow 0 rfl) rfl rfl (runUnderlying44 _) (sizeOf26 _) om sm).as (v' := slAddr (.slice (some ⟨w30.hz, 0, none⟩) 2 2) (1 * 1)) rfl) fun a Z => wlv Z (au (u := v17) (i := 1) (j := 0) (Y.ow 0 rfl) sm rfl (isAgg26 _) rfx) fun a Z => wla Z rfl fun a Z => ab (hK50 _ _ <| ae fun K51 hK51 => ?_)
  refine aa fun K52 hK52 => wlm Z rfl fun a Z => wlm Z rfl fun a Z => wlm Z rfl fun a Z => wlm Z rfl fun a Z => wlm Z rfl fun a Z => am Z Y de call23 rfl (dH rt (mn : Int) root (l.length : Int) v17 (qs) _ (Y.ow 1 rfl) om (by unfold i64; omega) (Y.keepb hk0)) ?_
  clear Z Y
  intro a w49 Z Y
  refine wlv Z (bq rfl) fun a Z => ab (hK52 _ _ ?_)
  replace Z := Z.p12 13 14 17 23 25 26 28 162 163 164 30 174 rfl
  refine ax Z rfl (fun hc40 => ?_) (fun hc40 => ?_)
  ·rw [hc40] at Z
   try simp only [qz] at hc40
   refine aJ ?_
   exact ⟨Z.pick [13, 14, 17, 23, 25, 26, 28, 162, 163, 164], Y.select [0, 1, 2, 3, 4, 5, 6, 7] de⟩
  rw [hc40] at Z
  try simp only [qz] at hc40
  have hvx : aO sha rt (mn : Int) root (l.length : Int) (qs) = true := by simpa using hc40
  have hq32 := gn hvx
  have hout0 := io hall halt (by omega : mn ≤ l.length) hol (by rw [hrt, hroot]; exact hvx) hne
  have houts0 := ex (n := mn) (q := (qs)) hall halt hq32 (by rw [hem]; exact hem32)
  have houtl0 := eR (n := mn) (q := (qs)) hll (by omega : ot.length ≤ 12) om hq32 (by rw [hem]; exact hem32) (by rw [hem]; exact heml)
  unfold cS at hout0 houts0 houtl0
  rw [hrt, hrm, hem] at hout0 houts0 houtl0
  have hout := hout0
  have houts := houts0
  have houtl := houtl0
  have hc1 := ct l
  have hc2 := ct ot
  have hc3 := ct (l.take mn)
  rw [List.length_take] at hc3
  have hc4 := (cO hrt32 (qs) mn l.length true hq32).1
  have hc5 := (cO hrm32 em mn l.length true hem32).1
  refine ar <| hK51 _ _ <| aa fun K53 hK53 => wlv Z (aw (Y.g 6 rfl) rfl (isAgg25 _) (sizeOf25 _)) fun a Z => wlm Z rfl fun a Z => aK Z Y de call21 rfl (jV hem (Y.ow 7 rfl) om hlo om) ?_
  clear Z Y
  intro a w50 x42 hp Z Y
  revert x42 hp Z Y; rintro v41 hp Z Y
  clear hp
  replace Y : St No w0 [_, _, _, _, _, _, _, _, _] w50 := Y
  refine wlm Z rfl fun a Z => wlv Z (ai rfl rfl) fun a Z => wlv Z (ai rfl rfl) fun a Z => wla Z rfl fun a Z => wla Z rfl fun a Z => ab (hK53 _ _ ?_)
  replace Z := Z.p13 13 14 17 23 25 26 28 162 163 164 30 31 32 rfl
  refine aa fun K54 hK54 => wlv Z (aw (Y.g 3 rfl) rfl (isAgg25 _) (sizeOf25 _)) fun a Z => am Z Y de call11 rfl (lj ((Y.ow 8 rfl).cutk (h := mn) (by first | omega | (rw [List.length_reverse]; omega) | simp | (simp; omega))) (by first | omega | (rw [List.length_take]; omega)) hlm hrm) ?_
  clear Z Y
  intro a w51 Z Y
  refine wlm Z rfl fun a Z => wlv Z (ai rfl rfl) fun a Z => wlv Z (ai rfl rfl) fun a Z => wla Z rfl fun a Z => wla Z rfl fun a Z => ab (hK54 _ _ <| ae fun K55 hK55 => ?_)
  refine aa fun K56 hK56 => wlm Z rfl fun a Z => wlv Z ((v_ne rfl rfl).asb (b' := false) rfl) fun a Z => wlm Z rfl fun a Z => wly Z (ah rfl) fun a Z => wly Z ((v_ne rfl rfl).asb (b' := false) rfl) fun a Z => wlv Z (ay rfl rfl) fun a Z => ab (hK56 _ _ ?_)
  replace Z := Z.p14 13 14 17 23 25 26 28 162 163 164 30 31 33 191 rfl
  refine aL Z rfl ?_
  refine ar <| hK55 _ _ <| ae fun K57 hK57 => aF kr (aG kr fun w52 hxz => ?_)
  replace Y := Y.grow hxz
  refine aT (k := 0) 4 [2, 3] Z kr kr kr rfx ?_
  replace Z := Z.p14 13 14 17 23 25 26 28 162 163 164 30 31 33 191 rfl
  refine aA [1, 2] (fun i => match i with | 1 => pm (fun v : Value => v) (fun v => [own v 9 1 ((codesR l).map fun s => [sv s])]) (fun _ => True) | 2 => pm (fun v : Value => v) (fun v => [own v 9 1 ((hashL sha (codesR l)).map fun s => [sv s])]) (fun _ => True) | _ => fun _ _ => False) 4 [[], [0], [1], []] [.agg #[iv o, lv1], undef, undef, .agg #[iv o, mv]] Z Y kr kr kr ?_ ?_ ?_
  ·intro i hi hiq
   match i, hi, hiq with
   | 0, _, _ => exact fun w Y => OpV.g (aw (Y.g 7 rfl) rfl (isAgg25 _) (sizeOf25 _))
   | 1, _, h => exact absurd sm h
   | 2, _, h => exact absurd sm h
   | 3, _, _ => exact fun w Y => OpV.g (aw (Y.g 4 rfl) rfl (isAgg25 _) (sizeOf25 _))
  ·intro i hi
   simp only [List.mem_cons, List.not_mem_nil, or_false] at hi
   rcases hi with rfl | rfl
   ·intro w Y
    exact dO call29 rfl (et (o := o) (Y.ow 8 rfl) (by first | omega | (rw [List.length_take]; omega)) hall)
   ·rintro v43 _ ⟨_, rfl, -, rfl⟩
    intro w Y
    exact dO call28 rfl (fm rfl (Y.ow 0 rfl) (by rw [bn]; first | omega | (rw [List.length_take]; omega)) (fun s h => Nat.le_trans (bM hall s h) de))
  clear Z Y
  rintro v43 _ ⟨_, rfl, -, rfl⟩ v44 _ ⟨_, rfl, -, rfl⟩ a w53 Z Y
  replace Z : Fr 230 [(192, .agg #[iv o, lv1]), (193, _), (194, _), (195, .agg #[iv o, mv]), (13, _), (14, _), (17, _), (23, _), (25, _), (26, _), (28, _), (162, _), (163, _), (164, _), (30, _), (31, _), (33, _), (191, _)] [] a := Z
  replace Y : St No w0 [_, _, _, _, _, _, _, _, _, _, _] w53 := Y
  refine ab <| aP (k := 4) 8 [7] kr kr kr ?_
  refine aK Z Y de call29 rfl (et (o := o) (show SlAt _ mv 5 (ot.map Rec.cells) from Y.g 7 rfl) (by first | omega | (rw [List.length_take]; omega)) halt) ?_
  clear Z Y
  intro a w54 x46 hp Z Y
  revert x46 hp Z Y; rintro v45 hp Z Y
  clear hp
  replace Y : St No w0 [_, _, _, _, _, _, _, _, _, _, _, _] w54 := Y
  refine aK Z Y de call28 rfl (fm rfl (Y.ow 0 rfl) (by rw [bn]; first | omega | (rw [List.length_take]; omega)) (fun s h => Nat.le_trans (bM halt s h) de)) ?_
  clear Z Y
  intro a w55 x48 hp Z Y
  revert x48 hp Z Y; rintro v47 hp Z Y
  clear hp
  replace Y : St No w0 [_, _, _, _, _, _, _, _, _, _, _, _, _] w55 := Y
  refine bE (i := 3) (sT := 26) (inf := Tryz.t9) (z := .string (⟨#[]⟩)) rfl rfl rfl (Y.ow 0 rfl) underlying26 rfl rfl rfl rfl de (by first | (simp [Value.oneCell', yv, wv, sv]; done) | exact bW (by intro e he; obtain ⟨p, _, rfl⟩ := List.mem_map.1 he; exact ⟨p, rfl⟩) | (intro e he u hu; obtain ⟨s, _, rfl⟩ := List.mem_map.1 he; rw [List.mem_singleton.1 hu]; rfl)) (by have hby : Tryz.t9.bytes = 16 := rfl; have hby2 : Tryz.t48.bytes = 48 := rfl; simp only [big, hby, hby2, List.length_append, List.length_map, List.length_take, List.length_drop, List.length_cons, List.length_nil]; omega) (by have hby : Tryz.t9.bytes = 16 := rfl; have hby2 : Tryz.t48.bytes = 48 := rfl; simp only [big, hby, hby2, List.length_append, List.length_map, List.length_take, List.length_drop, List.length_cons, List.length_nil]; omega) de Z Y ?_
  clear Z Y
  intro a w56 s49 Z Y
  rw [show ((hashL sha (codesR l)).map fun s => [sv s]) ++ ((hashL sha (codesR ot)).map fun s => [sv s]) = (((hashL sha (codesR l)) ++ (hashL sha (codesR ot))).map fun s => [sv s]) from List.map_append.symm] at Y
  refine wla Z rfl fun a Z => ab <| aS kr ?_
  refine hK57 _ _ ?_
  replace Z := Z.p14 13 14 17 23 25 26 28 162 163 164 30 31 33 35 rfl
  replace Y := Y.k10 8184 rfl
  refine aa fun K58 hK58 => wlm Z rfl fun a Z => wlv Z (aw (Y.g 4 rfl) rfl (isAgg25 _) (sizeOf25 _)) fun a Z => aK Z Y de call29 rfl (et (o := o) ((Y.ow 9 rfl).cutk (h := mn) (by first | omega | (rw [List.length_reverse]; omega) | simp | (simp; omega))) (by first | omega | (rw [List.length_take]; omega)) halm) ?_
  clear Z Y
  intro a w57 x51 hp Z Y
  revert x51 hp Z Y; rintro v50 hp Z Y
  clear hp
  replace Y : St No w0 [_, _, _, _, _, _, _, _, _, _, _] w57 := Y
  refine aK Z Y de call28 rfl (fm rfl (Y.ow 0 rfl) (by rw [bn]; first | omega | (rw [List.length_take]; omega)) (fun s h => Nat.le_trans (bM halm s h) de)) ?_
  clear Z Y
  intro a w58 x53 hp Z Y
  revert x53 hp Z Y; rintro v52 hp Z Y
  clear hp
  replace Y : St No w0 [_, _, _, _, _, _, _, _, _, _, _, _] w58 := Y
  refine bE (i := 2) (sT := 26) (inf := Tryz.t9) (z := .string (⟨#[]⟩)) rfl rfl rfl (Y.ow 0 rfl) underlying26 rfl rfl rfl rfl de (by first | (simp [Value.oneCell', yv, wv, sv]; done) | exact bW (by intro e he; obtain ⟨p, _, rfl⟩ := List.mem_map.1 he; exact ⟨p, rfl⟩) | (intro e he u hu; obtain ⟨s, _, rfl⟩ := List.mem_map.1 he; rw [List.mem_singleton.1 hu]; rfl)) (by have hby : Tryz.t9.bytes = 16 := rfl; have hby2 : Tryz.t48.bytes = 48 := rfl; simp only [big, hby, hby2, List.length_append, List.length_map, List.length_take, List.length_drop, List.length_cons, List.length_nil]; omega) (by have hby : Tryz.t9.bytes = 16 := rfl; have hby2 : Tryz.t48.bytes = 48 := rfl; simp only [big, hby, hby2, List.length_append, List.length_map, List.length_take, List.length_drop, List.length_cons, List.length_nil]; omega) de Z Y ?_
  clear Z Y
  intro a w59 s54 Z Y
  rw [show (((hashL sha (codesR l)) ++ (hashL sha (codesR ot))).map fun s => [sv s]) ++ ((hashL sha (codesR (l.take mn))).map fun s => [sv s]) = ((((hashL sha (codesR l)) ++ (hashL sha (codesR ot))) ++ (hashL sha (codesR (l.take mn)))).map fun s => [sv s]) from List.map_append.symm] at Y
  refine wla Z rfl fun a Z => ab (hK58 _ _ <| aa fun K59 hK59 => ?_)
  refine wlm Z rfl fun a Z => wlm Z rfl fun a Z => wlm Z rfl fun a Z => wlm Z rfl fun a Z => aK Z Y de call30 rfl (en rt (by assumption) _ mn l.length v17 (qs) true _ rfl (Y.ow 5 rfl) om om hq32) ?_
  clear Z Y
  intro a w60 x56 hp Z Y
  revert x56 hp Z Y; rintro v55 hp Z Y
  clear hp
  replace Y : St No w0 [_, _, _, _, _, _, _, _, _, _, _, _, _] w60 := Y
  refine wlm Z rfl fun a Z => wlv Z (ai rfl rfl) fun a Z => wlv Z (ai rfl rfl) fun a Z => wlv Z (ai rfl rfl) fun a Z => wla Z rfl fun a Z => wla Z rfl fun a Z => wla Z rfl fun a Z => ab (hK59 _ _ ?_)
  replace Z := Z.p14 13 14 17 23 25 26 28 162 163 164 31 33 35 36 rfl
  replace Y := Y.k11 8185 rfl
  refine aa fun K60 hK60 => wlm Z rfl fun a Z => wlm Z rfl fun a Z => wlm Z rfl fun a Z => wlm Z rfl fun a Z => aK Z Y de call30 rfl (en rm (by assumption) _ mn l.length v41 em true _ rfl (Y.ow 2 rfl) om om hem32) ?_
  clear Z Y
  intro a w61 x58 hp Z Y
  revert x58 hp Z Y; rintro v57 hp Z Y
  clear hp
  replace Y : St No w0 [_, _, _, _, _, _, _, _, _, _, _, _] w61 := Y
  refine wlm Z rfl fun a Z => wlv Z (ai rfl rfl) fun a Z => wlv Z (ai rfl rfl) fun a Z => wlv Z (ai rfl rfl) fun a Z => wla Z rfl fun a Z => wla Z rfl fun a Z => wla Z rfl fun a Z => ab (hK60 _ _ ?_)
  replace Z := Z.p13 13 14 17 23 25 26 28 162 163 164 35 36 39 rfl
  replace Y := Y.k11 4087 rfl
  refine aa fun K61 hK61 => wlm Z rfl fun a Z => wlm Z rfl fun a Z => bE (i := 2) (sT := 26) (inf := Tryz.t9) (z := .string (⟨#[]⟩)) rfl rfl rfl (Y.ow 1 rfl) underlying26 rfl rfl rfl rfl de (by first | (simp [Value.oneCell', yv, wv, sv]; done) | exact bW (by intro e he; obtain ⟨p, _, rfl⟩ := List.mem_map.1 he; exact ⟨p, rfl⟩) | (intro e he u hu; obtain ⟨s, _, rfl⟩ := List.mem_map.1 he; rw [List.mem_singleton.1 hu]; rfl)) (by have hby : Tryz.t9.bytes = 16 := rfl; have hby2 : Tryz.t48.bytes = 48 := rfl; simp only [big, hby, hby2, List.length_append, List.length_map, List.length_take, List.length_drop, List.length_cons, List.length_nil]; omega) (by have hby : Tryz.t9.bytes = 16 := rfl; have hby2 : Tryz.t48.bytes = 48 := rfl; simp only [big, hby, hby2, List.length_append, List.length_map, List.length_take, List.length_drop, List.length_cons, List.length_nil]; omega) de Z Y ?_
  clear Z Y
  intro a w62 s59 Z Y
  rw [show ((((hashL sha (codesR l)) ++ (hashL sha (codesR ot))) ++ (hashL sha (codesR (l.take mn)))).map fun s => [sv s]) ++ (((sdH sha rt mn l.length (qs) true).1).map fun s => [sv s]) = (((((hashL sha (codesR l)) ++ (hashL sha (codesR ot))) ++ (hashL sha (codesR (l.take mn)))) ++ ((sdH sha rt mn l.length (qs) true).1)).map fun s => [sv s]) from List.map_append.symm] at Y
  refine wlm Z rfl fun a Z => bE (i := 2) (sT := 26) (inf := Tryz.t9) (z := .string (⟨#[]⟩)) rfl rfl rfl (Y.ow 0 rfl) underlying26 rfl rfl rfl rfl de (by first | (simp [Value.oneCell', yv, wv, sv]; done) | exact bW (by intro e he; obtain ⟨p, _, rfl⟩ := List.mem_map.1 he; exact ⟨p, rfl⟩) | (intro e he u hu; obtain ⟨s, _, rfl⟩ := List.mem_map.1 he; rw [List.mem_singleton.1 hu]; rfl)) (by have hby : Tryz.t9.bytes = 16 := rfl; have hby2 : Tryz.t48.bytes = 48 := rfl; simp only [big, hby, hby2, List.length_append, List.length_map, List.length_take, List.length_drop, List.length_cons, List.length_nil]; omega) (by have hby : Tryz.t9.bytes = 16 := rfl; have hby2 : Tryz.t48.bytes = 48 := rfl; simp only [big, hby, hby2, List.length_append, List.length_map, List.length_take, List.length_drop, List.length_cons, List.length_nil]; omega) de Z Y ?_
  clear Z Y
  intro a w63 s60 Z Y
  rw [show (((((hashL sha (codesR l)) ++ (hashL sha (codesR ot))) ++ (hashL sha (codesR (l.take mn)))) ++ ((sdH sha rt mn l.length (qs) true).1)).map fun s => [sv s]) ++ (((sdH sha rm mn l.length em true).1).map fun s => [sv s]) = ((((((hashL sha (codesR l)) ++ (hashL sha (codesR ot))) ++ (hashL sha (codesR (l.take mn)))) ++ ((sdH sha rt mn l.length (qs) true).1)) ++ ((sdH sha rm mn l.length em true).1)).map fun s => [sv s]) from List.map_append.symm] at Y
  refine am Z Y de call31 rfl (ca (by exact hout) (lA s60 (((((hashL sha (codesR l)) ++ (hashL sha (codesR ot))) ++ (hashL sha (codesR (l.take mn)))) ++ ((sdH sha rt mn l.length (qs) true).1)) ++ ((sdH sha rm mn l.length em true).1)) _ (Y.ow 2 rfl) houts houtl)) ?_
  clear Z Y
  intro a w64 Z Y
  refine wlv Z ((bq rfl).asb (b' := false) rfl) fun a Z => ab (hK61 _ _ ?_)
  replace Z := Z.p11 13 14 17 23 25 26 28 162 163 164 228 rfl
  replace Y := Y.k8 2040 rfl
  refine aL Z rfl ?_
  refine ar ?_
  exact ⟨Z.pick [13, 14, 17, 23, 25, 26, 28, 162, 163, 164], Y.select [0, 1, 2, 3, 4, 5, 6, 7] de⟩
 rintro a w65 ⟨Z, Y⟩
 refine hK49 _ _ <| ao <| wlv Z ((aV rfl rfl de).asi (m' := 2) rfl) fun a Z => wlm Z rfl fun a Z => ab <| cf ?_
 refine aa fun K62 hK62 => wlv Z ((v_lt rfl rfl).asb (b' := false) rfl) fun a Z => ab (hK62 _ _ <| ae fun K63 hK63 => ?_)
 refine aL Z rfl ?_
 refine aJ <| hK30 _ _ <| aa fun K64 hK64 => wla Z rfl fun a Z => ab (hK64 _ _ ?_)
 replace Z := Z.p1 12 rfl
 replace Y := Y.k4 178 rfl
 refine ap ?_
 refine al Z results4 (ac rfl ag) ?_
 exact ⟨rfl, Y.ext⟩
end Go.Proofs.YtddfkkdanpmnaaaGreatDoor
