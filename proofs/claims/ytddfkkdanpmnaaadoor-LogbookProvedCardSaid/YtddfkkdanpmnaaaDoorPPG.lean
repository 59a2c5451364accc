/- Texts joined: LawP. -/
import Derived.Test.YtddfkkdanpmnaaaDoorPPF
import Derived.Test.YtddfkkdanpmnaaaDoorPPA
set_option linter.unusedVariables false
set_option linter.unusedSimpArgs false
set_option maxRecDepth 4000
set_option maxHeartbeats 4000000
namespace Go.Proofs.YtddfkkdanpmnaaaDoor
open Go.RowKit Go.PW _root_.Go.Proofs.Tryd
theorem pl {o : Int} {lv : Value} {l : List Rec} {root : By} {w0 : World} (hlv : SlAt w0 lv 5 (l.map Rec.cells)) (hk0 : (blk 0 (kOf.map wv) 161).ok w0) (hlo : logOk o l = true) (hr : rootH sha (codesR l) = root) : Ret Tryd.prog 27 #[.agg #[iv o, lv]] w0 fun v w => v = .tuple #[sv root, iv 0] ∧ Ext No w0 w := by
 have := fU o lv l w0 hlv hk0
 rw [ek hlo, ef.2 hlo, hr] at this
 exact this
theorem bO {root : By} {n i : Int} {x : Rec} {p : List By} (h : checkB root n i x p = true) : x.ok = true ∧ (∀ z ∈ p, z.length = 32) ∧ bS sha root n i x.enc p = true := by
 unfold checkB at h
 rw [Bool.and_eq_true] at h
 refine ⟨h.1, ?_, h.2⟩
 have h2 := h.2
 unfold bS at h2
 simp only [Bool.and_eq_true, List.all_eq_true, decide_eq_true_eq] at h2
 exact h2.1.1.2
theorem nX {l : List Rec} {k : Nat} (ha : ∀ x ∈ l, x.ok = true) (hk : k < l.length) : checkB (rootH sha (codesR l)) (l.length : Int) (k : Int) (l.getD k Rec.z) (proofH sha (codesR l) k) = true := by
 have h := dV (S := sha) bl (l := codesR l) (i := k) (by rw [bP]; exact hk)
 rw [bP, gF hk] at h
 unfold checkB
 rw [h, ha _ (aY hk)]; rfl
theorem bL {l : List Rec} {k : Nat} {r : Rec} {q : List By} (ha : ∀ x ∈ l, x.ok = true) (hk : k < l.length) (hc : checkB (rootH sha (codesR l)) (l.length : Int) (k : Int) r q = true) (hne : ¬ r = l.getD k Rec.z) : outB (hashL sha (codesR l) ++ (wayH sha l.length k r.enc q).1.reverse) = true := by
 obtain ⟨h1, h2, h3⟩ := bO hc
 rw [← bP l] at h3
 have h4 := kM (S := sha) bl (l := codesR l) (i := k) (t := r.enc) (q := q) (by rw [bP]; exact hk) h3 (by rw [gF hk]; exact pS (ha _ (aY hk)) h1 (fun e => hne e.symm))
 rw [bP] at h4
 exact oO h4 (fun x hx => by simp [hx]) (fun x hx => by simp [hx])
theorem ln {o : Int} {lv : Value} {l : List Rec} {w0 : World} (hlv : SlAt w0 lv 5 (l.map Rec.cells)) (hll : l.length ≤ 1000) (ha : ∀ x ∈ l, x.ok = true) : Ret Tryd.prog 32 #[.agg #[iv o, lv]] w0 (MemR w0 (fun v : Value => v) (fun v => [own v 9 1 ((codesR l).map fun s => [sv s])]) (fun _ => True)) := by
 have := lP o lv l w0 hlv hll
 rw [dH ha] at this
 exact this
theorem oq {o : Int} {lv : Value} {l : List Rec} {i : Nat} {pf : List By} {w0 : World} (hpf : proofH sha (codesR l) i = pf) (hlv : SlAt w0 lv 5 (l.map Rec.cells)) (hll : l.length ≤ 1000) (hlo : logOk o l = true) (hi : i < l.length) (hk0 : (blk 0 (kOf.map wv) 161).ok w0) : Ret Tryd.prog 28 #[.agg #[iv o, lv], iv (i : Int)] w0 (MemR w0 (fun v : Value => .tuple #[v, iv 0]) (fun v => [own v 9 1 (pf.map fun s => [sv s])]) (fun _ => True)) := by
 subst hpf; exact gA o lv l i w0 hlv hll hlo hi hk0
theorem few_x {av : Value} {xs qs : List By} {w0 : World} (hq : few11 xs 6 = qs) (hav : SlAt w0 av 1 (xs.map fun s => [sv s])) : Ret Tryd.prog 30 #[av, iv 6] w0 (MemR w0 (fun v : Value => v) (fun v => [own v 9 1 (qs.map fun s => [sv s])]) (fun _ => True)) := by
 subst hq; exact pu av xs 6 w0 hav de
theorem dX {x : Rec} {w0 : World} (h : x.ok = true) : Ret Tryd.prog 23 #[.agg #[iv x.t, iv x.kind, iv x.a, iv x.b, sv x.text]] w0 fun v w => v = .tuple #[sv x.enc, iv 0] ∧ Ext No w0 w := by
 have := jL x w0
 rw [show eB x = x.enc from if_pos h, show eE x = 0 from if_pos h] at this
 exact this
theorem iR (c : Int) {n : Nat} (h : 0 < n) (hb : n ≤ 1000) : ∃ k : Nat, pickI c (n : Int) = (k : Int) ∧ k < n := by
 have := bF c (n := (n : Int)) om
 exact ⟨(pickI c (n : Int)).toNat, by omega, by omega⟩
theorem cB {q : List By} {n i : Nat} {s : By} (h : q.length ≤ 20) : ((wayH sha n i s q).1.reverse).length ≤ 21 := by
 have := eK q n i s
 rw [List.length_reverse]; omega
theorem ch {l : List Rec} {r : Rec} {q : List By} {n k : Nat} (ha : ∀ x ∈ l, x.ok = true) (h : r.ok = true) (h32 : ∀ z ∈ q, z.length = 32) : ∀ z ∈ hashL sha (codesR l) ++ (wayH sha n k r.enc q).1.reverse, z.length ≤ 100000000 := by
 intro z hz
 have hr : r.enc.length ≤ 300 := by have := cF r; rwa [show eB r = r.enc from if_pos h] at this
 rcases List.mem_append.1 hz with hz | hz
 ·have := kQ (b := 301) de _ (codesR l) rfl (fun s h => Nat.succ_le_succ (dj ha s h)) z hz; omega
 ·have := lX (s := r.enc) (b := 301) om de q n k h32 z (List.mem_reverse.1 hz); omega
theorem nR {lv : Value} {ls hs : List By} {w0 : World} (hh : hashL sha ls = hs) (hlv : SlAt w0 lv 1 (ls.map fun s => [sv s])) (hln : ls.length ≤ 1000) (hls : ∀ s ∈ ls, s.length ≤ 30000000) : Ret Tryd.prog 31 #[lv] w0 (MemR w0 (fun v : Value => v) (fun v => [own v 9 1 (hs.map fun s => [sv s])]) (fun _ => True)) := by
 subst hh; exact m5 _ lv ls w0 rfl hlv hln hls
theorem j6 (owner : Int) (xv : Value) (ys : List Rin) (i y0 y1 y2 y3 : Int) (av : Value) (xs : List By) (at_ : Int) (w0 : World) (hxv : SlAt w0 xv 5 (ys.map Rin.cells)) (hys : ∀ y ∈ ys, y.wt) (hown : i64 owner) (h_i : i64 i) (h_y0 : i64 y0) (h_y1 : i64 y1) (h_y2 : i64 y2) (h_y3 : i64 y3) (h_at_ : i64 at_) (hav : SlAt w0 av 1 (xs.map fun s => [sv s])) (hk0 : (blk 0 (kOf.map wv) 161).ok w0) :
  Ret Tryd.prog 6 #[iv owner, xv, iv i, .agg #[iv y0, iv y1, iv y2, iv y3], av, iv at_] w0 fun v w => v = .bool true ∧ Ext No w0 w := by
 obtain ⟨o, ho⟩ : ∃ o, pickI owner 100 = o := ⟨_, rfl⟩
 obtain ⟨l, hl⟩ : ∃ l, madeR ys = l := ⟨_, rfl⟩
 have hlo : logOk o l = true := by rw [← ho, ← hl]; exact mK _ _
 have hll : l.length ≤ 12 := by rw [← hl, ic]; omega
 have hob := gW hlo
 have hmt : ∀ x ∈ l, x.t ≤ 360 := by rw [← hl]; exact oA _
 have hwna := hown.1
 have hwnb := hown.2
 have h_i1 := h_i.1
 have h_i2 := h_i.2
 have h_at_1 := h_at_.1
 have h_at_2 := h_at_.2
 have hall := cO hlo
 obtain ⟨root, hroot⟩ : ∃ z, rootH sha (codesR l) = z := ⟨_, rfl⟩
 obtain ⟨qs, hqs⟩ : ∃ z, few11 xs 6 = z := ⟨_, rfl⟩
 have hql : qs.length ≤ 6 := by rw [← hqs]; exact mo _ _
 obtain ⟨hs, hhs⟩ : ∃ z, hashL sha (codesR l) = z := ⟨_, rfl⟩
 have hhl : hs.length ≤ 25 := by have := fw _ (codesR l) rfl; rw [bP] at this; rw [← hhs]; omega
 refine aF func6 rfl ntmps6 (lb rfl) fun a Z => ?_
 replace Z := Z.p6 0 1 2 3 4 5 rfl
 replace Y : St No w0 [] w0 := St.init w0
 refine aa fun K1 hK1 => bp Z Y de rfl (cs := [iv y0, iv y1, iv y2, iv y3]) rfl ?_
 clear Z Y
 intro a w1 Z Y
 refine wla Z rfl fun a Z => ab (hK1 _ _ <| ac fun K2 hK2 => ?_)
 refine aa fun K3 hK3 => ak Z Y de call9 rfl (o6 _ (Y.keepb hk0)) ?_
 clear Z Y
 intro a w2 Z Y
 refine wlv Z ((aX rfl).asb (b' := false) rfl) fun a Z => ab (hK3 _ _ <| aH Z rfl ?_)
 refine ap <| hK2 _ _ <| aa fun K4 hK4 => wlm Z rfl fun a Z => wlm Z rfl fun a Z => aN Z Y de call10 rfl (py ho hl (Y.arg hxv) hys hown) ?_
 clear Z Y
 intro a w3 x2 hp Z Y
 revert x2 hp Z Y; rintro lv1 hp Z Y
 clear hp
 replace Y : St No w0 [_, _] w3 := Y
 refine aU Z Y de (zeroValue25 _) (cs := [iv 0, .slice none 0 0]) rfl ?_
 clear Z Y
 intro a w4 Z Y
 refine bI (us := [iv o, lv1]) 0 Z Y rfl rfl rfl (sizeOf25 _) (by intro z hz; simp only [List.mem_cons, List.not_mem_nil, or_false] at hz; rcases hz with rfl | rfl <;> first | rfl | exact SlAt.one (Y.ow 1 rfl)) (lb rfl) (ds := [iv o, lv1]) rfl rfl ?_
 clear Z Y
 intro a w5 Z Y
 refine ab (hK4 _ _ ?_)
 replace Z := Z.p6 2 4 5 9 12 13 rfl
 refine aa fun K5 hK5 => wlv Z (al (v := po w3.hz 1) rfl kr) fun a Z => wlv Z (ld Y 0 rfl rfl (isAgg23 _) rfl) fun a Z => wlv Z ((aG (sT := 23) (Y.ow 1 rfl) rfl rfl (runUnderlying23 _)).asi (m' := (l.length : Int)) (by rw [List.length_map])) fun a Z => wla Z rfl fun a Z => ab (hK5 _ _ <| aa fun K6 hK6 => ?_)
 refine wlv Z (aq (Y.g 0 rfl) rfl (isAgg25 _) (sizeOf25 _)) fun a Z => ak Z Y de call27 rfl (pl (Y.ow 1 rfl) (Y.keepb hk0) hlo hroot) ?_
 clear Z Y
 intro a w6 Z Y
 refine wlm Z rfl fun a Z => wlv Z (aj rfl rfl) fun a Z => wlv Z (aj rfl rfl) fun a Z => wla Z rfl fun a Z => wla Z rfl fun a Z => ab (hK6 _ _ ?_)
 replace Z := Z.p9 2 4 5 9 12 13 14 15 16 rfl
 refine ac fun K7 hK7 => aa fun K8 hK8 => wlm Z rfl fun a Z => wlv Z ((v_ne rfl rfl).asb (b' := false) rfl) fun a Z => ab (hK8 _ _ <| aH Z rfl ?_)
 refine ap <| hK7 _ _ <| ac fun K9 hK9 => aa fun K10 hK10 => wlm Z rfl fun a Z => wlv Z (v_eq rfl rfl) fun a Z => ab (hK10 _ _ ?_)
 refine az Z rfl (fun hc3 => ?_) (fun hc3 => ?_)
 ·rw [hc3] at Z
  try simp only [qz] at hc3
  have hl0 : l.length = 0 := by omega
  refine aa fun K11 hK11 => wlv Z (aq (Y.g 0 rfl) rfl (isAgg25 _) (sizeOf25 _)) fun a Z => wlm Z rfl fun a Z => aN Z Y de call28 rfl (lE o lv1 l i _ (Y.ow 1 rfl) om (by unfold inR; rw [hlo, hl0]; simp only [Bool.true_and, Bool.and_eq_false_iff, decide_eq_false_iff_not]; omega) (Y.keepb hk0)) ?_
  clear Z Y
  intro a w7 x5 hp Z Y
  revert x5 hp Z Y; rintro v4 hp Z Y
  clear hp
  replace Y : St No w0 [_, _, _, _] w7 := Y
  refine wlm Z rfl fun a Z => wlv Z (aj rfl rfl) fun a Z => wlv Z (aj rfl rfl) fun a Z => wla Z rfl fun a Z => wla Z rfl fun a Z => ab (hK11 _ _ ?_)
  replace Z := Z.p9 2 4 5 9 12 13 14 15 18 rfl
  replace Y := Y.k3 14 rfl
  refine aa fun K12 hK12 => wlm Z rfl fun a Z => wlv Z ((v_eq rfl rfl).asb (b' := true) rfl) fun a Z => wla Z rfl fun a Z => ab (hK12 _ _ <| aw ?_)
  refine ar Z results6 (ae rfl ag) ?_
  exact ⟨rfl, Y.ext⟩
 rw [hc3] at Z
 try simp only [qz] at hc3
 obtain ⟨k, hk, hkl⟩ := iR i (n := l.length) om om
 obtain ⟨ka, hka, hkal⟩ := iR at_ (n := l.length) om om
 obtain ⟨pf, hpf⟩ : ∃ z, proofH sha (codesR l) k = z := ⟨_, rfl⟩
 have hpfl : pf.length ≤ 4 := by rw [← hpf]; exact lZ (S := sha) _ (codesR l) k 4 rfl (by rw [bP]; omega)
 have hself : checkB root (l.length : Int) (k : Int) (l.getD k Rec.z) pf = true := by rw [← hroot, ← hpf]; exact nX hall hkl
 have hkt := lS hlo hkl
 obtain ⟨ra, hra⟩ : ∃ z, entR (l.getD k Rec.z).t y0 y1 y2 y3 = z := ⟨_, rfl⟩
 refine ap <| hK9 _ _ <| aa fun K13 hK13 => wlm Z rfl fun a Z => wlm Z rfl fun a Z => ak Z Y de call19 rfl (dQ hk (fj i (l.length : Int) _ (by assumption) om)) ?_
 clear Z Y
 intro a w8 Z Y
 refine wla Z rfl fun a Z => ab (hK13 _ _ ?_)
 replace Z := Z.p8 4 5 9 12 13 14 15 19 rfl
 refine aa fun K14 hK14 => wlv Z (aq (Y.g 0 rfl) rfl (isAgg25 _) (sizeOf25 _)) fun a Z => wlm Z rfl fun a Z => aN Z Y de call28 rfl (oq hpf (Y.ow 1 rfl) om hlo hkl (Y.keepb hk0)) ?_
 clear Z Y
 intro a w9 x7 hp Z Y
 revert x7 hp Z Y; rintro v6 hp Z Y
 clear hp
 replace Y : St No w0 [_, _, _, _] w9 := Y
 refine wlm Z rfl fun a Z => wlv Z (aj rfl rfl) fun a Z => wlv Z (aj rfl rfl) fun a Z => wla Z rfl fun a Z => wla Z rfl fun a Z => ab (hK14 _ _ ?_)
 replace Z := Z.p10 4 5 9 12 13 14 15 19 20 21 rfl
 refine ac fun K15 hK15 => aa fun K16 hK16 => wlm Z rfl fun a Z => wlv Z ((v_ne rfl rfl).asb (b' := false) rfl) fun a Z => wlm Z rfl fun a Z => wly Z (ai rfl) fun a Z => wly Z (ai rfl) fun a Z => wly Z (ai rfl) fun a Z => wly Z (al (v := po w3.hz 1) rfl kr) fun a Z => wly Z (ld Y 1 rfl rfl (isAgg23 _) rfl) fun a Z => wly Z (ai rfl) fun a Z => wly Z ((ah (i := (k : Int)) (sT := 23) (Y.ow 2 rfl) rfl rfl (runUnderlying23 _) (sizeOf27 _) om (by rw [List.length_map]; omega)).as (v' := slAddr lv1 (k * 5)) rfl) fun a Z => wly Z ((ba (Y.ow 2 rfl) (i := k) (by rw [List.length_map]; omega) rfl (isAgg27 _) (sizeOf27 _)).as (v' := .agg #[iv ((l.getD k Rec.z).t), iv ((l.getD k Rec.z).kind), iv ((l.getD k Rec.z).a), iv ((l.getD k Rec.z).b), sv ((l.getD k Rec.z).text)]) (by rw [bc Rec.z]; rfl)) fun a Z => wly Z (ai rfl) fun a Z => aQ Z Y de rfl de rfl call29 rfl (bu hself (bR root (l.length : Int) (k : Int) (l.getD k Rec.z) v6 pf _ (Y.ow 0 rfl) om (by unfold i64; omega) (Y.keepb hk0))) ?_
 clear Z Y
 intro a w10 Z Y
 refine wly Z ((aX rfl).asb (b' := false) rfl) fun a Z => wlv Z (aA rfl rfl) fun a Z => ab (hK16 _ _ ?_)
 replace Z := Z.p10 4 5 9 12 13 14 15 19 20 80 rfl
 refine aH Z rfl ?_
 refine ap <| hK15 _ _ <| aa fun K17 hK17 => wlm Z rfl fun a Z => aN Z Y de call30 rfl (few_x hqs (Y.arg hav)) ?_
 clear Z Y
 intro a w11 x9 hp Z Y
 revert x9 hp Z Y; rintro v8 hp Z Y
 clear hp
 replace Y : St No w0 [_, _, _, _, _] w11 := Y
 refine wla Z rfl fun a Z => ab (hK17 _ _ <| aa fun K18 hK18 => ?_)
 refine ax (E := 9) (sz := 1) rfl [] kr sm rfl de de Z Y ?_
 clear Z Y
 intro a w12 Z Y
 refine wlm Z rfl fun a Z => aM (i := 0) (sT := 45) (inf := Tryd.t9) (z := .string (⟨#[]⟩)) rfl rfl rfl (Y.ow 2 rfl) underlying45 rfl rfl rfl rfl de (by first | (simp [Value.oneCell', yv, wv, sv]; done) | (intro e he u hu; obtain ⟨s, _, rfl⟩ := List.mem_map.1 he; rw [List.mem_singleton.1 hu]; rfl)) (by have hby : Tryd.t9.bytes = 16 := rfl; simp only [big, hby, List.length_append, List.length_map, List.length_cons, List.length_nil]; omega) (by have hby : Tryd.t9.bytes = 16 := rfl; simp only [big, hby, List.length_append, List.length_map, List.length_cons, List.length_nil]; omega) de Z Y ?_
 clear Z Y
 intro a w13 s10 Z Y
 rw [show ([]) ++ (pf.map fun s => [sv s]) = (pf.map fun s => [sv s]) from List.nil_append _] at Y
 refine wla Z rfl fun a Z => ab (hK18 _ _ ?_)
 replace Z := Z.p10 5 9 12 13 14 15 19 20 4 22 rfl
 refine ac fun K19 hK19 => aa fun K20 hK20 => wlm Z rfl fun a Z => wlv Z ((aG (sT := 45) (Y.ow 0 rfl) rfl rfl (runUnderlying45 _)).asi (m' := (pf.length : Int)) sm) fun a Z => wlv Z (v_gt rfl rfl) fun a Z => wlm Z rfl fun a Z => ?_
 rcases Bool.eq_false_or_eq_true (decide (0 < (pf.length : Int))) with hb11 | hb11
 ·rw [hb11] at Z
  try simp only [qz] at hb11
  obtain ⟨kb, hkb, hkbl⟩ := iR at_ (n := pf.length) om om
  refine wly Z (ai rfl) fun a Z => wly Z ((aG (sT := 45) (Y.ow 1 rfl) rfl rfl (runUnderlying45 _)).asi (m' := (qs.length : Int)) (by rw [List.length_map])) fun a Z => wly Z (v_gt rfl rfl) fun a Z => wlv Z (aB rfl rfl) fun a Z => ab (hK20 _ _ ?_)
  replace Z := Z.p11 5 9 12 13 14 15 19 20 4 22 93 rfl
  refine ck (fun a w => ∃ (bt : List By), (bt.length ≤ 4) ∧ Fr 174 [(5, iv at_), (9, pt w0.hz), (12, .bool false), (13, pt w3.hz), (14, iv (l.length : Int)), (15, sv root), (19, iv (k : Int)), (20, v6), (4, v8), (22, s10)] [] a ∧ St No w0 [own s10 9 1 (bt.map fun s => [sv s]), own v8 9 1 (qs.map fun s => [sv s]), own v6 9 1 (pf.map fun s => [sv s]), blk w3.hz [iv o, lv1] 25, own lv1 27 5 ((l).map Rec.cells), blk w0.hz [iv y0, iv y1, iv y2, iv y3] 37] w) ?_ ?_
  ·refine az Z rfl (fun hc12 => ?_) (fun hc12 => ?_)
   ·rw [hc12] at Z
    try simp only [qz] at hc12
    refine aI kr (aL kr fun w14 hxz => ?_)
    replace Y := Y.grow hxz
    refine aP (k := 0) 8 [0, 4, 7] Z kr kr kr rfx ?_
    replace Z := Z.p11 5 9 12 13 14 15 19 20 4 22 93 rfl
    refine ay [] (fun i => match i with | _ => fun _ _ => False) 8 [[], [], [], [2], [1, 3], [], [5], [6]] [s10, iv at_, s10, iv (pf.length : Int), iv (kb : Int), v8, slAddr v8 (0 * 1), sv (qs.getD 0 [])] Z Y kr kr kr ?_ ?_ ?_
    ·intro i hi hiq
     match i, hi, hiq with
     | 0, _, _ => exact fun w Y => OpV.g (ai rfl)
     | 1, _, _ => exact fun w Y => OpV.g (ai rfl)
     | 2, _, _ => exact fun w Y => OpV.g (ai rfl)
     | 3, _, _ => exact fun w Y => OpV.g ((aG (sT := 45) (Y.ow 0 rfl) rfl rfl (runUnderlying45 _)).asi (m' := (pf.length : Int)) sm)
     | 4, _, _ => exact fun w Y => bh call19 rfl (dQ hkb (fj at_ (pf.length : Int) _ (by assumption) om))
     | 5, _, _ => exact fun w Y => OpV.g (ai rfl)
     | 6, _, _ => exact fun w Y => OpV.g ((ah (i := 0) (sT := 45) (Y.ow 1 rfl) rfl rfl (runUnderlying45 _) (sizeOf9 _) om (by rw [List.length_map]; omega)).as (v' := slAddr v8 (0 * 1)) rfl)
     | 7, _, _ => exact fun w Y => OpV.g (au (u := sv (qs.getD 0 [])) (i := 0) (j := 0) (Y.ow 1 rfl) (by rw [List.length_map]; omega) rfl (isAgg9 _) (by rw [bc ([] : By)]; rfl))
    ·intro i hi
     exact absurd hi sm
    clear Z Y
    intro  a w15 Z Y
    replace Z : Fr 174 [(94, s10), (95, iv at_), (96, s10), (97, iv (pf.length : Int)), (98, iv (kb : Int)), (99, v8), (100, slAddr v8 (0 * 1)), (101, sv (qs.getD 0 [])), (5, _), (9, _), (12, _), (13, _), (14, _), (15, _), (19, _), (20, _), (4, _), (22, _), (93, _)] [] a := Z
    refine ab <| aK (k := 8) 10 [9] kr kr kr ?_
    refine wlv Z ((ah (i := (kb : Int)) (sT := 45) (Y.ow 0 rfl) rfl rfl (runUnderlying45 _) (sizeOf9 _) om (by rw [List.length_map]; omega)).as (v' := slAddr s10 (kb * 1)) rfl) fun a Z => jX (k := kb) (us := [sv (qs.getD 0 [])]) 0 Z Y rfl rfl rfl (by rw [List.length_map]; omega) om (sizeOf9 _) rfl (by first | rfl | simp [Value.oneCell', yv, wv, sv]) rfl rfl ?_
    clear Z Y
    intro a w16 Z Y
    refine ab <| aO kr ?_
    rw [show (pf.map fun s => [sv s]).set kb [sv (qs.getD 0 [])] = ((pf.set kb (qs.getD 0 [])).map fun s => [sv s]) from List.map_set.symm] at Y
    exact ⟨(pf.set kb (qs.getD 0 [])), (by first | omega | (rw [List.length_set]; omega)), Z.pick [5, 9, 12, 13, 14, 15, 19, 20, 4, 22], Y.select [0, 1, 2, 3, 4, 5] de⟩
   rw [hc12] at Z
   try simp only [qz] at hc12
   refine ap ?_
   exact ⟨pf, (by first | omega | (rw [List.length_set]; omega)), Z.pick [5, 9, 12, 13, 14, 15, 19, 20, 4, 22], Y.select [0, 1, 2, 3, 4, 5] de⟩
  rintro a w17 ⟨bt, hbt, Z, Y⟩
  refine hK19 _ _ <| aa fun K21 hK21 => wlv Z (aq (Y.g 3 rfl) rfl (isAgg25 _) (sizeOf25 _)) fun a Z => aN Z Y de call32 rfl (ln (Y.ow 4 rfl) om hall) ?_
  clear Z Y
  intro a w18 x14 hp Z Y
  revert x14 hp Z Y; rintro v13 hp Z Y
  clear hp
  replace Y : St No w0 [_, _, _, _, _, _, _] w18 := Y
  refine aN Z Y de call31 rfl (nR hhs (Y.ow 0 rfl) (by rw [bP]; omega) (fun s h => Nat.le_trans (dj hall s h) de)) ?_
  clear Z Y
  intro a w19 x16 hp Z Y
  revert x16 hp Z Y; rintro v15 hp Z Y
  clear hp
  replace Y : St No w0 [_, _, _, _, _, _, _, _] w19 := Y
  refine wla Z rfl fun a Z => ab (hK21 _ _ <| ac fun K22 hK22 => ?_)
  refine ac fun K23 hK23 => aI kr ?_
  replace Z : Fr 174 [(5, _), (9, _), (12, _), (13, _), (14, _), (15, _), (19, _), (20, _), (4, _), (22, _), (103, _), (104, _), (105, _), (23, _)] [] a := Z.pick [5, 9, 12, 13, 14, 15, 19, 20, 4, 22, 103, 104, 105, 23]
  refine ay [15] (fun i => match i with | 15 => pm (fun b : Nat => .slice (some ⟨b, 0, none⟩) 2 2) (fun b => [own (.slice (some ⟨b, 0, none⟩) 2 2) 27 5 [[iv ra.t, iv ra.kind, iv ra.a, iv ra.b, sv ra.text], [iv ((l.getD ka Rec.z).t), iv ((l.getD ka Rec.z).kind), iv ((l.getD ka Rec.z).a), iv ((l.getD ka Rec.z).b), sv ((l.getD ka Rec.z).text)]]]) (fun _ => True) | _ => fun _ _ => False) 18 [[], [0], [], [1, 2], [3], [4], [], [5, 6], [], [8], [], [], [10, 11], [9, 12], [13], [7, 14], [15], []] [po w3.hz 1, lv1, iv (k : Int), slAddr lv1 (k * 5), slAddr lv1 (k * 5 + 0), iv ((l.getD k Rec.z).t), .agg #[iv y0, iv y1, iv y2, iv y3], .agg #[iv ra.t, iv ra.kind, iv ra.a, iv ra.b, sv ra.text], po w3.hz 1, lv1, iv at_, iv (l.length : Int), iv (ka : Int), slAddr lv1 (ka * 5), .agg #[iv ((l.getD ka Rec.z).t), iv ((l.getD ka Rec.z).kind), iv ((l.getD ka Rec.z).a), iv ((l.getD ka Rec.z).b), sv ((l.getD ka Rec.z).text)], undef, iv 2, iv 0] Z Y kr kr kr ?_ ?_ ?_
  ·intro i hi hiq
   match i, hi, hiq with
   | 0, _, _ => exact fun w Y => OpV.g (al (v := po w3.hz 1) rfl kr)
   | 1, _, _ => exact fun w Y => OpV.g (ld Y 5 rfl rfl (isAgg23 _) rfl)
   | 2, _, _ => exact fun w Y => OpV.g (ai rfl)
   | 3, _, _ => exact fun w Y => OpV.g ((ah (i := (k : Int)) (sT := 23) (Y.ow 6 rfl) rfl rfl (runUnderlying23 _) (sizeOf27 _) om (by rw [List.length_map]; omega)).as (v' := slAddr lv1 (k * 5)) rfl)
   | 4, _, _ => exact fun w Y => OpV.g (ed (k := k * 5) (j := 0) (Y.ow 6 rfl) (i := k) (by rw [List.length_map]; omega) rfl (fun _ _ => by kernel_rfl))
   | 5, _, _ => exact fun w Y => OpV.g (au (u := iv ((l.getD k Rec.z).t)) (i := k) (j := 0) (Y.ow 6 rfl) (by rw [List.length_map]; omega) rfl (isAgg3 _) (by rw [bc Rec.z]; rfl))
   | 6, _, _ => exact fun w Y => OpV.g (aq (Y.g 7 rfl) rfl (isAgg37 _) (sizeOf37 _))
   | 7, _, _ => exact fun w Y => bh call15 rfl (lh hra (by unfold i64; omega) (by assumption) (by assumption) (by assumption) (by assumption))
   | 8, _, _ => exact fun w Y => OpV.g (al (v := po w3.hz 1) rfl kr)
   | 9, _, _ => exact fun w Y => OpV.g (ld Y 5 rfl rfl (isAgg23 _) rfl)
   | 10, _, _ => exact fun w Y => OpV.g (ai rfl)
   | 11, _, _ => exact fun w Y => OpV.g (ai rfl)
   | 12, _, _ => exact fun w Y => bh call19 rfl (dQ hka (fj at_ (l.length : Int) _ (by assumption) om))
   | 13, _, _ => exact fun w Y => OpV.g ((ah (i := (ka : Int)) (sT := 23) (Y.ow 6 rfl) rfl rfl (runUnderlying23 _) (sizeOf27 _) om (by rw [List.length_map]; omega)).as (v' := slAddr lv1 (ka * 5)) rfl)
   | 14, _, _ => exact fun w Y => OpV.g ((ba (Y.ow 6 rfl) (i := ka) (by rw [List.length_map]; omega) rfl (isAgg27 _) (sizeOf27 _)).as (v' := .agg #[iv ((l.getD ka Rec.z).t), iv ((l.getD ka Rec.z).kind), iv ((l.getD ka Rec.z).a), iv ((l.getD ka Rec.z).b), sv ((l.getD ka Rec.z).text)]) (by rw [bc Rec.z]; rfl))
   | 15, _, h => exact absurd sm h
   | 16, _, _ =>
    rintro _ _ ⟨b17, rfl, -, rfl⟩
    intro w Y
    exact OpV.g ((aG (sT := 23) (Y.ow 0 rfl) rfl rfl (runUnderlying23 _)).asi (m' := 2) rfx)
   | 17, _, _ => exact fun w Y => OpV.g (ai rfl)
   | i + 18, h, _ => exact absurd h om
  ·intro i hi
   simp only [List.mem_cons, List.not_mem_nil, or_false] at hi
   subst hi
   ·intro w Y
    exact aW (E := 27) (sz := 5) rfl [[iv ra.t, iv ra.kind, iv ra.a, iv ra.b, sv ra.text], [iv ((l.getD ka Rec.z).t), iv ((l.getD ka Rec.z).kind), iv ((l.getD ka Rec.z).a), iv ((l.getD ka Rec.z).b), sv ((l.getD ka Rec.z).text)]] (fun _ => by kernel_rfl) sm rfl de
  clear Z Y
  rintro _ _ ⟨b17, rfl, -, rfl⟩ a w20 Z Y
  replace Z : Fr 174 [(106, po w3.hz 1), (107, lv1), (108, iv (k : Int)), (109, slAddr lv1 (k * 5)), (110, slAddr lv1 (k * 5 + 0)), (111, iv ((l.getD k Rec.z).t)), (112, .agg #[iv y0, iv y1, iv y2, iv y3]), (113, .agg #[iv ra.t, iv ra.kind, iv ra.a, iv ra.b, sv ra.text]), (114, po w3.hz 1), (115, lv1), (116, iv at_), (117, iv (l.length : Int)), (118, iv (ka : Int)), (119, slAddr lv1 (ka * 5)), (120, .agg #[iv ((l.getD ka Rec.z).t), iv ((l.getD ka Rec.z).kind), iv ((l.getD ka Rec.z).a), iv ((l.getD ka Rec.z).b), sv ((l.getD ka Rec.z).text)]), (121, _), (122, iv 2), (123, iv 0), (5, _), (9, _), (12, _), (13, _), (14, _), (15, _), (19, _), (20, _), (4, _), (22, _), (103, _), (104, _), (105, _), (23, _)] [] a := Z
  replace Y : St No w0 [_, _, _, _, _, _, _, _, _] w20 := Y
  refine ab <| hK23 _ _ ?_
  replace Z := Z.p12 12 13 14 15 19 20 4 22 23 121 122 123 rfl
  replace Y := Y.k7 251 rfl
  refine am <| cJ 3 ?_
  refine bf ?_
  refine aa fun K24 hK24 => wlv Z ((v_lt rfl rfl).asb (b' := true) rfl) fun a Z => ab (hK24 _ _ <| ac fun K25 hK25 => ?_)
  refine aC Z rfl ?_
  refine ap <| hK25 _ _ <| ac fun K26 hK26 => am <| aa fun K27 hK27 => wlv Z ((ah (i := 0) (sT := 23) (Y.ow 0 rfl) rfl rfl (runUnderlying23 _) (sizeOf27 _) om sm).as (v' := slAddr (.slice (some ⟨b17, 0, none⟩) 2 2) (0 * 5)) rfl) fun a Z => wlv Z ((ba (Y.ow 0 rfl) (i := 0) sm rfl (isAgg27 _) (sizeOf27 _)).as (v' := .agg #[iv ra.t, iv ra.kind, iv ra.a, iv ra.b, sv ra.text]) rfx) fun a Z => aU Z Y de (zeroValue27 _) (cs := [iv 0, iv 0, iv 0, iv 0, .string (⟨#[]⟩)]) rfl ?_
  clear Z Y
  intro a w21 Z Y
  refine aJ 0 Z Y rfl rfl rfl (sizeOf27 _) rfl (lb rfl) (ds := [iv ra.t, iv ra.kind, iv ra.a, iv ra.b, sv ra.text]) rfl rfl ?_
  clear Z Y
  intro a w22 Z Y
  refine ab (hK27 _ _ <| aa fun K28 hK28 => ?_)
  refine wlm Z rfl fun a Z => wlm Z rfl fun a Z => wlm Z rfl fun a Z => ax (E := 45) (sz := 1) rfl [[v6], [v8], [s10]] (by obtain ⟨_, _, _, e0_⟩ := bM (Y.ow 5 rfl); obtain ⟨_, _, _, e1_⟩ := bM (Y.ow 4 rfl); obtain ⟨_, _, _, e2_⟩ := bM (Y.ow 3 rfl); rw [e0_, e1_, e2_]; kernel_rfl) sm rfl de de Z Y ?_
  clear Z Y
  intro a w23 Z Y
  refine wlv Z ((aG (sT := 59) (Y.ow 0 rfl) rfl rfl (runUnderlying59 _)).asi (m' := 3) rfx) fun a Z => wlm Z rfl fun a Z => ab (hK28 _ _ ?_)
  replace Z := Z.p16 12 13 14 15 19 20 4 22 23 121 122 123 25 130 131 132 rfl
  refine am <| cJ 4 ?_
  refine bf ?_
  refine aa fun K29 hK29 => wlv Z ((v_lt rfl rfl).asb (b' := true) rfl) fun a Z => ab (hK29 _ _ <| ac fun K30 hK30 => ?_)
  refine aC Z rfl ?_
  refine ap <| hK30 _ _ <| ac fun K31 hK31 => ?_
  refine ck (fun a w => Fr 174 [(13, pt w3.hz), (14, iv (l.length : Int)), (15, sv root), (19, iv (k : Int)), (20, v6), (4, v8), (22, s10), (23, v15), (121, (.slice (some ⟨b17, 0, none⟩) 2 2)), (122, iv 2), (123, iv 0), (25, pt w20.hz), (130, (.slice (some ⟨w22.hz, 0, none⟩) 3 3)), (131, iv 3), (132, iv 0)] [] a ∧ St No w0 [own (.slice (some ⟨w22.hz, 0, none⟩) 3 3) 45 1 ([[v6], [v8], [s10]]), blk w20.hz [iv ra.t, iv ra.kind, iv ra.a, iv ra.b, sv ra.text] 27, own (.slice (some ⟨b17, 0, none⟩) 2 2) 27 5 ([[iv ra.t, iv ra.kind, iv ra.a, iv ra.b, sv ra.text], [iv ((l.getD ka Rec.z).t), iv ((l.getD ka Rec.z).kind), iv ((l.getD ka Rec.z).a), iv ((l.getD ka Rec.z).b), sv ((l.getD ka Rec.z).text)]]), own v15 9 1 (hs.map fun s => [sv s]), own s10 9 1 (bt.map fun s => [sv s]), own v8 9 1 (qs.map fun s => [sv s]), own v6 9 1 (pf.map fun s => [sv s]), blk w3.hz [iv o, lv1] 25, own lv1 27 5 ((l).map Rec.cells)] w) ?_ ?_
  ·refine am <| aa fun K32 hK32 => wlv Z ((ah (i := 0) (sT := 59) (Y.ow 0 rfl) rfl rfl (runUnderlying59 _) (sizeOf45 _) om sm).as (v' := slAddr (.slice (some ⟨w22.hz, 0, none⟩) 3 3) (0 * 1)) rfl) fun a Z => wlv Z (au (u := v6) (i := 0) (j := 0) (Y.ow 0 rfl) sm rfl (isAgg45 _) rfx) fun a Z => wla Z rfl fun a Z => ab (hK32 _ _ <| ac fun K33 hK33 => ?_)
   refine ac fun K34 hK34 => aI kr (aL kr fun w24 hxz => ?_)
   replace Y := Y.grow hxz
   refine aP (k := 0) 6 [0, 5] Z kr kr kr rfx ?_
   replace Z := Z.p20 12 13 14 15 19 20 4 22 23 121 122 123 25 130 131 132 133 134 135 27 rfl
   refine ay [] (fun i => match i with | _ => fun _ _ => False) 6 [[], [], [1], [], [2, 3], [4]] [.agg #[iv ra.t, iv ra.kind, iv ra.a, iv ra.b, sv ra.text], po w3.hz 1, lv1, iv (k : Int), slAddr lv1 (k * 5), .agg #[iv ((l.getD k Rec.z).t), iv ((l.getD k Rec.z).kind), iv ((l.getD k Rec.z).a), iv ((l.getD k Rec.z).b), sv ((l.getD k Rec.z).text)]] Z Y kr kr kr ?_ ?_ ?_
   ·intro i hi hiq
    match i, hi, hiq with
    | 0, _, _ => exact fun w Y => OpV.g (aq (Y.g 1 rfl) rfl (isAgg27 _) (sizeOf27 _))
    | 1, _, _ => exact fun w Y => OpV.g (al (v := po w3.hz 1) rfl kr)
    | 2, _, _ => exact fun w Y => OpV.g (ld Y 7 rfl rfl (isAgg23 _) rfl)
    | 3, _, _ => exact fun w Y => OpV.g (ai rfl)
    | 4, _, _ => exact fun w Y => OpV.g ((ah (i := (k : Int)) (sT := 23) (Y.ow 8 rfl) rfl rfl (runUnderlying23 _) (sizeOf27 _) om (by rw [List.length_map]; omega)).as (v' := slAddr lv1 (k * 5)) rfl)
    | 5, _, _ => exact fun w Y => OpV.g ((ba (Y.ow 8 rfl) (i := k) (by rw [List.length_map]; omega) rfl (isAgg27 _) (sizeOf27 _)).as (v' := .agg #[iv ((l.getD k Rec.z).t), iv ((l.getD k Rec.z).kind), iv ((l.getD k Rec.z).a), iv ((l.getD k Rec.z).b), sv ((l.getD k Rec.z).text)]) (by rw [bc Rec.z]; rfl))
   ·intro i hi
    exact absurd hi sm
   clear Z Y
   intro  a w25 Z Y
   replace Z : Fr 174 [(136, .agg #[iv ra.t, iv ra.kind, iv ra.a, iv ra.b, sv ra.text]), (137, po w3.hz 1), (138, lv1), (139, iv (k : Int)), (140, slAddr lv1 (k * 5)), (141, .agg #[iv ((l.getD k Rec.z).t), iv ((l.getD k Rec.z).kind), iv ((l.getD k Rec.z).a), iv ((l.getD k Rec.z).b), sv ((l.getD k Rec.z).text)]), (12, _), (13, _), (14, _), (15, _), (19, _), (20, _), (4, _), (22, _), (23, _), (121, _), (122, _), (123, _), (25, _), (130, _), (131, _), (132, _), (133, _), (134, _), (135, _), (27, _)] [] a := Z
   refine ab <| aK (k := 6) 8 [7] kr kr kr ?_
   refine wlv Z ((cc rfl rfl kr (eqRec ra.t ra.kind ra.a ra.b ra.text ((l.getD k Rec.z).t) ((l.getD k Rec.z).kind) ((l.getD k Rec.z).a) ((l.getD k Rec.z).b) ((l.getD k Rec.z).text) _)).asb (b' := decide (ra = (l.getD k Rec.z))) rfx) fun a Z => wlm Z rfl fun a Z => ab ?_
   rcases Bool.eq_false_or_eq_true (decide (ra = (l.getD k Rec.z))) with hb18 | hb18
   ·rw [hb18] at Z
    try simp only [qz] at hb18
    replace Z : Fr 174 [(12, .bool false), (13, pt w3.hz), (14, iv (l.length : Int)), (15, sv root), (19, iv (k : Int)), (20, v6), (4, v8), (22, s10), (23, v15), (121, (.slice (some ⟨b17, 0, none⟩) 2 2)), (122, iv 2), (123, iv 0), (25, pt w20.hz), (130, (.slice (some ⟨w22.hz, 0, none⟩) 3 3)), (131, iv 3), (132, iv 0), (133, .bool true), (134, slAddr (.slice (some ⟨w22.hz, 0, none⟩) 3 3) (0 * 1)), (135, v6), (27, v6), (136, .agg #[iv ra.t, iv ra.kind, iv ra.a, iv ra.b, sv ra.text]), (137, po w3.hz 1), (138, lv1), (139, iv (k : Int)), (140, slAddr lv1 (k * 5)), (141, .agg #[iv ((l.getD k Rec.z).t), iv ((l.getD k Rec.z).kind), iv ((l.getD k Rec.z).a), iv ((l.getD k Rec.z).b), sv ((l.getD k Rec.z).text)]), (142, .bool true), (143, .bool true)] [] a := Z.pick [12, 13, 14, 15, 19, 20, 4, 22, 23, 121, 122, 123, 25, 130, 131, 132, 133, 134, 135, 27, 136, 137, 138, 139, 140, 141, 142, 143]
    refine co (k := 8) 13 [8, 9, 10, 11, 12] Z kr kr kr rfx fun a Z => ?_
    replace Z : Fr 174 [(144, undef), (145, undef), (146, undef), (147, undef), (148, undef), (12, .bool false), (13, pt w3.hz), (14, iv (l.length : Int)), (15, sv root), (19, iv (k : Int)), (20, v6), (4, v8), (22, s10), (23, v15), (121, (.slice (some ⟨b17, 0, none⟩) 2 2)), (122, iv 2), (123, iv 0), (25, pt w20.hz), (130, (.slice (some ⟨w22.hz, 0, none⟩) 3 3)), (131, iv 3), (132, iv 0), (133, .bool true), (134, slAddr (.slice (some ⟨w22.hz, 0, none⟩) 3 3) (0 * 1)), (135, v6), (27, v6), (136, .agg #[iv ra.t, iv ra.kind, iv ra.a, iv ra.b, sv ra.text]), (137, po w3.hz 1), (138, lv1), (139, iv (k : Int)), (140, slAddr lv1 (k * 5)), (141, .agg #[iv ((l.getD k Rec.z).t), iv ((l.getD k Rec.z).kind), iv ((l.getD k Rec.z).a), iv ((l.getD k Rec.z).b), sv ((l.getD k Rec.z).text)]), (142, .bool true), (143, .bool true)] [] a := Z
    refine aK (k := 13) 16 [15] kr kr kr ?_
    refine wln Z fun a Z => wln Z fun a Z => wlv Z (aB rfl rfl) fun a Z => ab <| aO kr ?_
    refine hK34 _ _ ?_
    replace Z := Z.p18 12 13 14 15 19 20 4 22 23 121 122 123 25 130 131 132 27 151 rfl
    refine aC Z rfl ?_
    refine aE ?_
    exact ⟨Z.pick [13, 14, 15, 19, 20, 4, 22, 23, 121, 122, 123, 25, 130, 131, 132], Y.select [0, 1, 2, 3, 4, 5, 6, 7, 8] de⟩
   rw [hb18] at Z
   try simp only [qz] at hb18
   refine aP (k := 8) 13 [8, 9, 10, 11, 12] Z kr kr kr rfx ?_
   replace Z := Z.p28 12 13 14 15 19 20 4 22 23 121 122 123 25 130 131 132 133 134 135 27 136 137 138 139 140 141 142 143 rfl
   refine ay [] (fun i => match i with | _ => fun _ _ => False) 5 [[], [], [], [], []] [sv root, iv (l.length : Int), iv (k : Int), .agg #[iv ra.t, iv ra.kind, iv ra.a, iv ra.b, sv ra.text], v6] Z Y kr kr kr ?_ ?_ ?_
   ·intro i hi hiq
    match i, hi, hiq with
    | 0, _, _ => exact fun w Y => OpV.g (ai rfl)
    | 1, _, _ => exact fun w Y => OpV.g (ai rfl)
    | 2, _, _ => exact fun w Y => OpV.g (ai rfl)
    | 3, _, _ => exact fun w Y => OpV.g (aq (Y.g 1 rfl) rfl (isAgg27 _) (sizeOf27 _))
    | 4, _, _ => exact fun w Y => OpV.g (ai rfl)
   ·intro i hi
    exact absurd hi sm
   clear Z Y
   intro  a w26 Z Y
   replace Z : Fr 174 [(144, sv root), (145, iv (l.length : Int)), (146, iv (k : Int)), (147, .agg #[iv ra.t, iv ra.kind, iv ra.a, iv ra.b, sv ra.text]), (148, v6), (12, _), (13, _), (14, _), (15, _), (19, _), (20, _), (4, _), (22, _), (23, _), (121, _), (122, _), (123, _), (25, _), (130, _), (131, _), (132, _), (133, _), (134, _), (135, _), (27, _), (136, _), (137, _), (138, _), (139, _), (140, _), (141, _), (142, _), (143, _)] [] a := Z
   refine ab <| aK (k := 13) 16 [15] kr kr kr ?_
   refine aQ Z Y de rfl de rfl call29 rfl (bR root (l.length : Int) (k : Int) ra v6 pf _ (Y.ow 6 rfl) om (by unfold i64; omega) (Y.keepb hk0)) ?_
   clear Z Y
   intro a w27 Z Y
   refine wly Z (aX rfl) fun a Z => wlv Z (aA rfl rfl) fun a Z => ab <| aO kr ?_
   refine hK34 _ _ ?_
   replace Z := Z.p18 12 13 14 15 19 20 4 22 23 121 122 123 25 130 131 132 27 151 rfl
   refine az Z rfl (fun hc19 => ?_) (fun hc19 => ?_)
   ·rw [hc19] at Z
    try simp only [qz] at hc19
    refine aE ?_
    exact ⟨Z.pick [13, 14, 15, 19, 20, 4, 22, 23, 121, 122, 123, 25, 130, 131, 132], Y.select [0, 1, 2, 3, 4, 5, 6, 7, 8] de⟩
   rw [hc19] at Z
   try simp only [qz] at hc19
   have hchk : checkB root (l.length : Int) (k : Int) ra pf = true := by simpa using hc19
   have hck := bO hchk
   have hrl : ra.enc.length ≤ 300 := by have := cF ra; rwa [show eB ra = ra.enc from if_pos hck.1] at this
   have hout : outB (hs ++ (wayH sha l.length k ra.enc pf).1.reverse) = true := by rw [← hhs]; exact bL hall hkl (by rw [hroot]; exact hchk) (by simpa using hb18)
   have houts : ∀ z ∈ hs ++ (wayH sha l.length k ra.enc pf).1.reverse, z.length ≤ 100000000 := by rw [← hhs]; exact ch hall hck.1 hck.2.1
   have hwc := cB (q := pf) (n := l.length) (i := k) (s := ra.enc) om
   have houtl : (hs ++ (wayH sha l.length k ra.enc pf).1.reverse).length ≤ 1000 := by rw [List.length_append]; omega
   refine ap <| hK33 _ _ <| aa fun K35 hK35 => wlv Z (aq (Y.g 1 rfl) rfl (isAgg27 _) (sizeOf27 _)) fun a Z => ak Z Y de call23 rfl (dX hck.1) ?_
   clear Z Y
   intro a w28 Z Y
   refine wlm Z rfl fun a Z => wlv Z (aj rfl rfl) fun a Z => wlv Z (aj rfl rfl) fun a Z => wla Z rfl fun a Z => wla Z rfl fun a Z => ab (hK35 _ _ ?_)
   replace Z := Z.p18 12 13 14 15 19 20 4 22 23 121 122 123 25 130 131 132 27 28 rfl
   refine aa fun K36 hK36 => wlm Z rfl fun a Z => wlm Z rfl fun a Z => wlm Z rfl fun a Z => wlm Z rfl fun a Z => aN Z Y de call33 rfl (cC ra.enc (by have := hrl; omega) _ l.length k v6 pf _ rfl (Y.ow 6 rfl) om om hck.2.1) ?_
   clear Z Y
   intro a w29 x21 hp Z Y
   revert x21 hp Z Y; rintro v20 hp Z Y
   clear hp
   replace Y : St No w0 [_, _, _, _, _, _, _, _, _, _] w29 := Y
   refine wlm Z rfl fun a Z => wlv Z (aj rfl rfl) fun a Z => wlv Z (aj rfl rfl) fun a Z => wla Z rfl fun a Z => wla Z rfl fun a Z => ab (hK36 _ _ ?_)
   replace Z := Z.p17 12 13 14 15 19 20 4 22 23 121 122 123 25 130 131 132 30 rfl
   refine aa fun K37 hK37 => ax (E := 9) (sz := 1) rfl [] kr sm rfl de de Z Y ?_
   clear Z Y
   intro a w30 Z Y
   refine wlm Z rfl fun a Z => aM (i := 0) (sT := 45) (inf := Tryd.t9) (z := .string (⟨#[]⟩)) rfl rfl rfl (Y.ow 5 rfl) underlying45 rfl rfl rfl rfl de (by first | (simp [Value.oneCell', yv, wv, sv]; done) | (intro e he u hu; obtain ⟨s, _, rfl⟩ := List.mem_map.1 he; rw [List.mem_singleton.1 hu]; rfl)) (by have hby : Tryd.t9.bytes = 16 := rfl; simp only [big, hby, List.length_append, List.length_map, List.length_cons, List.length_nil]; omega) (by have hby : Tryd.t9.bytes = 16 := rfl; simp only [big, hby, List.length_append, List.length_map, List.length_cons, List.length_nil]; omega) de Z Y ?_
   clear Z Y
   intro a w31 s22 Z Y
   rw [show ([]) ++ (hs.map fun s => [sv s]) = (hs.map fun s => [sv s]) from List.nil_append _] at Y
   refine wlm Z rfl fun a Z => aM (i := 0) (sT := 45) (inf := Tryd.t9) (z := .string (⟨#[]⟩)) rfl rfl rfl (Y.ow 1 rfl) underlying45 rfl rfl rfl rfl de (by first | (simp [Value.oneCell', yv, wv, sv]; done) | (intro e he u hu; obtain ⟨s, _, rfl⟩ := List.mem_map.1 he; rw [List.mem_singleton.1 hu]; rfl)) (by have hby : Tryd.t9.bytes = 16 := rfl; simp only [big, hby, List.length_append, List.length_map, List.length_cons, List.length_nil]; omega) (by have hby : Tryd.t9.bytes = 16 := rfl; simp only [big, hby, List.length_append, List.length_map, List.length_cons, List.length_nil]; omega) de Z Y ?_
   clear Z Y
   intro a w32 s23 Z Y
   rw [show (hs.map fun s => [sv s]) ++ (((wayH sha l.length k ra.enc pf).1.reverse).map fun s => [sv s]) = ((hs ++ ((wayH sha l.length k ra.enc pf).1.reverse)).map fun s => [sv s]) from List.map_append.symm] at Y
   refine ak Z Y de call34 rfl (bu hout (cA s23 (hs ++ (wayH sha l.length k ra.enc pf).1.reverse) _ (Y.ow 0 rfl) houts houtl)) ?_
   clear Z Y
   intro a w33 Z Y
   refine wlv Z ((aX rfl).asb (b' := false) rfl) fun a Z => ab (hK37 _ _ ?_)
   replace Z := Z.p17 12 13 14 15 19 20 4 22 23 121 122 123 25 130 131 132 171 rfl
   replace Y := Y.k9 2044 rfl
   refine aH Z rfl ?_
   refine ap ?_
   exact ⟨Z.pick [13, 14, 15, 19, 20, 4, 22, 23, 121, 122, 123, 25, 130, 131, 132], Y.select [0, 1, 2, 3, 4, 5, 6, 7, 8] de⟩
  rintro a w34 ⟨Z, Y⟩
  refine hK31 _ _ <| ao <| wlv Z ((aT rfl rfl de).asi (m' := 1) rfl) fun a Z => wlm Z rfl fun a Z => ab <| bf ?_
  refine aa fun K38 hK38 => wlv Z ((v_lt rfl rfl).asb (b' := true) rfl) fun a Z => ab (hK38 _ _ <| ac fun K39 hK39 => ?_)
  refine aC Z rfl ?_
  refine ap <| hK39 _ _ <| ac fun K40 hK40 => ?_
  refine ck (fun a w => Fr 174 [(13, pt w3.hz), (14, iv (l.length : Int)), (15, sv root), (19, iv (k : Int)), (20, v6), (4, v8), (22, s10), (23, v15), (121, (.slice (some ⟨b17, 0, none⟩) 2 2)), (122, iv 2), (123, iv 0), (25, pt w20.hz), (130, (.slice (some ⟨w22.hz, 0, none⟩) 3 3)), (131, iv 3), (132, iv 1)] [] a ∧ St No w0 [own (.slice (some ⟨w22.hz, 0, none⟩) 3 3) 45 1 ([[v6], [v8], [s10]]), blk w20.hz [iv ra.t, iv ra.kind, iv ra.a, iv ra.b, sv ra.text] 27, own (.slice (some ⟨b17, 0, none⟩) 2 2) 27 5 ([[iv ra.t, iv ra.kind, iv ra.a, iv ra.b, sv ra.text], [iv ((l.getD ka Rec.z).t), iv ((l.getD ka Rec.z).kind), iv ((l.getD ka Rec.z).a), iv ((l.getD ka Rec.z).b), sv ((l.getD ka Rec.z).text)]]), own v15 9 1 (hs.map fun s => [sv s]), own s10 9 1 (bt.map fun s => [sv s]), own v8 9 1 (qs.map fun s => [sv s]), own v6 9 1 (pf.map fun s => [sv s]), blk w3.hz [iv o, lv1] 25, own lv1 27 5 ((l).map Rec.cells)] w) ?_ ?_
  ·refine am <| aa fun K41 hK41 => wlv Z ((ah (i := 1) (sT := 59) (Y.ow 0 rfl) rfl rfl (runUnderlying59 _) (sizeOf45 _) om sm).as (v' := slAddr (.slice (some ⟨w22.hz, 0, none⟩) 3 3) (1 * 1)) rfl) fun a Z => wlv Z (au (u := v8) (i := 1) (j := 0) (Y.ow 0 rfl) sm rfl (isAgg45 _) rfx) fun a Z => wla Z rfl fun a Z => ab (hK41 _ _ <| ac fun K42 hK42 => ?_)
   refine ac fun K43 hK43 => aI kr (aL kr fun w35 hxz => ?_)
   replace Y := Y.grow hxz
   refine aP (k := 0) 6 [0, 5] Z kr kr kr rfx ?_
   replace Z := Z.p20 13 14 15 19 20 4 22 23 121 122 123 25 130 131 172 132 133 134 135 27 rfl
   refine ay [] (fun i => match i with | _ => fun _ _ => False) 6 [[], [], [1], [], [2, 3], [4]] [.agg #[iv ra.t, iv ra.kind, iv ra.a, iv ra.b, sv ra.text], po w3.hz 1, lv1, iv (k : Int), slAddr lv1 (k * 5), .agg #[iv ((l.getD k Rec.z).t), iv ((l.getD k Rec.z).kind), iv ((l.getD k Rec.z).a), iv ((l.getD k Rec.z).b), sv ((l.getD k Rec.z).text)]] Z Y kr kr kr ?_ ?_ ?_
   ·intro i hi hiq
    match i, hi, hiq with
    | 0, _, _ => exact fun w Y => OpV.g (aq (Y.g 1 rfl) rfl (isAgg27 _) (sizeOf27 _))
    | 1, _, _ => exact fun w Y => OpV.g (al (v := po w3.hz 1) rfl kr)
    | 2, _, _ => exact fun w Y => OpV.g (ld Y 7 rfl rfl (isAgg23 _) rfl)
    | 3, _, _ => exact fun w Y => OpV.g (ai rfl)
    | 4, _, _ => exact fun w Y => OpV.g ((ah (i := (k : Int)) (sT := 23) (Y.ow 8 rfl) rfl rfl (runUnderlying23 _) (sizeOf27 _) om (by rw [List.length_map]; omega)).as (v' := slAddr lv1 (k * 5)) rfl)
    | 5, _, _ => exact fun w Y => OpV.g ((ba (Y.ow 8 rfl) (i := k) (by rw [List.length_map]; omega) rfl (isAgg27 _) (sizeOf27 _)).as (v' := .agg #[iv ((l.getD k Rec.z).t), iv ((l.getD k Rec.z).kind), iv ((l.getD k Rec.z).a), iv ((l.getD k Rec.z).b), sv ((l.getD k Rec.z).text)]) (by rw [bc Rec.z]; rfl))
   ·intro i hi
    exact absurd hi sm
   clear Z Y
   intro  a w36 Z Y
   replace Z : Fr 174 [(136, .agg #[iv ra.t, iv ra.kind, iv ra.a, iv ra.b, sv ra.text]), (137, po w3.hz 1), (138, lv1), (139, iv (k : Int)), (140, slAddr lv1 (k * 5)), (141, .agg #[iv ((l.getD k Rec.z).t), iv ((l.getD k Rec.z).kind), iv ((l.getD k Rec.z).a), iv ((l.getD k Rec.z).b), sv ((l.getD k Rec.z).text)]), (13, _), (14, _), (15, _), (19, _), (20, _), (4, _), (22, _), (23, _), (121, _), (122, _), (123, _), (25, _), (130, _), (131, _), (172, _), (132, _), (133, _), (134, _), (135, _), (27, _)] [] a := Z
   refine ab <| aK (k := 6) 8 [7] kr kr kr ?_
   refine wlv Z ((cc rfl rfl kr (eqRec ra.t ra.kind ra.a ra.b ra.text ((l.getD k Rec.z).t) ((l.getD k Rec.z).kind) ((l.getD k Rec.z).a) ((l.getD k Rec.z).b) ((l.getD k Rec.z).text) _)).asb (b' := decide (ra = (l.getD k Rec.z))) rfx) fun a Z => wlm Z rfl fun a Z => ab ?_
   rcases Bool.eq_false_or_eq_true (decide (ra = (l.getD k Rec.z))) with hb24 | hb24
   ·rw [hb24] at Z
    try simp only [qz] at hb24
    replace Z : Fr 174 [(13, pt w3.hz), (14, iv (l.length : Int)), (15, sv root), (19, iv (k : Int)), (20, v6), (4, v8), (22, s10), (23, v15), (121, (.slice (some ⟨b17, 0, none⟩) 2 2)), (122, iv 2), (123, iv 0), (25, pt w20.hz), (130, (.slice (some ⟨w22.hz, 0, none⟩) 3 3)), (131, iv 3), (172, iv 1), (132, iv 1), (133, .bool true), (134, slAddr (.slice (some ⟨w22.hz, 0, none⟩) 3 3) (1 * 1)), (135, v8), (27, v8), (136, .agg #[iv ra.t, iv ra.kind, iv ra.a, iv ra.b, sv ra.text]), (137, po w3.hz 1), (138, lv1), (139, iv (k : Int)), (140, slAddr lv1 (k * 5)), (141, .agg #[iv ((l.getD k Rec.z).t), iv ((l.getD k Rec.z).kind), iv ((l.getD k Rec.z).a), iv ((l.getD k Rec.z).b), sv ((l.getD k Rec.z).text)]), (142, .bool true), (143, .bool true)] [] a := Z.pick [13, 14, 15, 19, 20, 4, 22, 23, 121, 122, 123, 25, 130, 131, 172, 132, 133, 134, 135, 27, 136, 137, 138, 139, 140, 141, 142, 143]
    refine co (k := 8) 13 [8, 9, 10, 11, 12] Z kr kr kr rfx fun a Z => ?_
    replace Z : Fr 174 [(144, undef), (145, undef), (146, undef), (147, undef), (148, undef), (13, pt w3.hz), (14, iv (l.length : Int)), (15, sv root), (19, iv (k : Int)), (20, v6), (4, v8), (22, s10), (23, v15), (121, (.slice (some ⟨b17, 0, none⟩) 2 2)), (122, iv 2), (123, iv 0), (25, pt w20.hz), (130, (.slice (some ⟨w22.hz, 0, none⟩) 3 3)), (131, iv 3), (172, iv 1), (132, iv 1), (133, .bool true), (134, slAddr (.slice (some ⟨w22.hz, 0, none⟩) 3 3) (1 * 1)), (135, v8), (27, v8), (136, .agg #[iv ra.t, iv ra.kind, iv ra.a, iv ra.b, sv ra.text]), (137, po w3.hz 1), (138, lv1), (139, iv (k : Int)), (140, slAddr lv1 (k * 5)), (141, .agg #[iv ((l.getD k Rec.z).t), iv ((l.getD k Rec.z).kind), iv ((l.getD k Rec.z).a), iv ((l.getD k Rec.z).b), sv ((l.getD k Rec.z).text)]), (142, .bool true), (143, .bool true)] [] a := Z
    refine aK (k := 13) 16 [15] kr kr kr ?_
    refine wln Z fun a Z => wln Z fun a Z => wlv Z (aB rfl rfl) fun a Z => ab <| aO kr ?_
    refine hK43 _ _ ?_
    replace Z := Z.p17 13 14 15 19 20 4 22 23 121 122 123 25 130 131 132 27 151 rfl
    refine aC Z rfl ?_
    refine aE ?_
    exact ⟨Z.pick [13, 14, 15, 19, 20, 4, 22, 23, 121, 122, 123, 25, 130, 131, 132], Y.select [0, 1, 2, 3, 4, 5, 6, 7, 8] de⟩
   rw [hb24] at Z
   try simp only [qz] at hb24
   refine aP (k := 8) 13 [8, 9, 10, 11, 12] Z kr kr kr rfx ?_
   replace Z := Z.p28 13 14 15 19 20 4 22 23 121 122 123 25 130 131 172 132 133 134 135 27 136 137 138 139 140 141 142 143 rfl
   refine ay [] (fun i => match i with | _ => fun _ _ => False) 5 [[], [], [], [], []] [sv root, iv (l.length : Int), iv (k : Int), .agg #[iv ra.t, iv ra.kind, iv ra.a, iv ra.b, sv ra.text], v8] Z Y kr kr kr ?_ ?_ ?_
   ·intro i hi hiq
    match i, hi, hiq with
    | 0, _, _ => exact fun w Y => OpV.g (ai rfl)
    | 1, _, _ => exact fun w Y => OpV.g (ai rfl)
    | 2, _, _ => exact fun w Y => OpV.g (ai rfl)
    | 3, _, _ => exact fun w Y => OpV.g (aq (Y.g 1 rfl) rfl (isAgg27 _) (sizeOf27 _))
    | 4, _, _ => exact fun w Y => OpV.g (ai rfl)
   ·intro i hi
    exact absurd hi sm
   clear Z Y
   intro  a w37 Z Y
   replace Z : Fr 174 [(144, sv root), (145, iv (l.length : Int)), (146, iv (k : Int)), (147, .agg #[iv ra.t, iv ra.kind, iv ra.a, iv ra.b, sv ra.text]), (148, v8), (13, _), (14, _), (15, _), (19, _), (20, _), (4, _), (22, _), (23, _), (121, _), (122, _), (123, _), (25, _), (130, _), (131, _), (172, _), (132, _), (133, _), (134, _), (135, _), (27, _), (136, _), (137, _), (138, _), (139, _), (140, _), (141, _), (142, _), (143, _)] [] a := Z
   refine ab <| aK (k := 13) 16 [15] kr kr kr ?_
   refine aQ Z Y de rfl de rfl call29 rfl (bR root (l.length : Int) (k : Int) ra v8 (qs) _ (Y.ow 5 rfl) om (by unfold i64; omega) (Y.keepb hk0)) ?_
   clear Z Y
   intro a w38 Z Y
   refine wly Z (aX rfl) fun a Z => wlv Z (aA rfl rfl) fun a Z => ab <| aO kr ?_
   refine hK43 _ _ ?_
   replace Z := Z.p17 13 14 15 19 20 4 22 23 121 122 123 25 130 131 132 27 151 rfl
   refine az Z rfl (fun hc25 => ?_) (fun hc25 => ?_)
   ·rw [hc25] at Z
    try simp only [qz] at hc25
    refine aE ?_
    exact ⟨Z.pick [13, 14, 15, 19, 20, 4, 22, 23, 121, 122, 123, 25, 130, 131, 132], Y.select [0, 1, 2, 3, 4, 5, 6, 7, 8] de⟩
   rw [hc25] at Z
   try simp only [qz] at hc25
   have hchk : checkB root (l.length : Int) (k : Int) ra (qs) = true := by simpa using hc25
   have hck := bO hchk
   have hrl : ra.enc.length ≤ 300 := by have := cF ra; rwa [show eB ra = ra.enc from if_pos hck.1] at this
   have hout : outB (hs ++ (wayH sha l.length k ra.enc (qs)).1.reverse) = true := by rw [← hhs]; exact bL hall hkl (by rw [hroot]; exact hchk) (by simpa using hb24)
   have houts : ∀ z ∈ hs ++ (wayH sha l.length k ra.enc (qs)).1.reverse, z.length ≤ 100000000 := by rw [← hhs]; exact ch hall hck.1 hck.2.1
   have hwc := cB (q := (qs)) (n := l.length) (i := k) (s := ra.enc) om
   have houtl : (hs ++ (wayH sha l.length k ra.enc (qs)).1.reverse).length ≤ 1000 := by rw [List.length_append]; omega
   refine ap <| hK42 _ _ <| aa fun K44 hK44 => wlv Z (aq (Y.g 1 rfl) rfl (isAgg27 _) (sizeOf27 _)) fun a Z => ak Z Y de call23 rfl (dX hck.1) ?_
   clear Z Y
   intro a w39 Z Y
   refine wlm Z rfl fun a Z => wlv Z (aj rfl rfl) fun a Z => wlv Z (aj rfl rfl) fun a Z => wla Z rfl fun a Z => wla Z rfl fun a Z => ab (hK44 _ _ ?_)
   replace Z := Z.p17 13 14 15 19 20 4 22 23 121 122 123 25 130 131 132 27 28 rfl
   refine aa fun K45 hK45 => wlm Z rfl fun a Z => wlm Z rfl fun a Z => wlm Z rfl fun a Z => wlm Z rfl fun a Z => aN Z Y de call33 rfl (cC ra.enc (by have := hrl; omega) _ l.length k v8 (qs) _ rfl (Y.ow 5 rfl) om om hck.2.1) ?_
   clear Z Y
   intro a w40 x27 hp Z Y
   revert x27 hp Z Y; rintro v26 hp Z Y
   clear hp
   replace Y : St No w0 [_, _, _, _, _, _, _, _, _, _] w40 := Y
   refine wlm Z rfl fun a Z => wlv Z (aj rfl rfl) fun a Z => wlv Z (aj rfl rfl) fun a Z => wla Z rfl fun a Z => wla Z rfl fun a Z => ab (hK45 _ _ ?_)
   replace Z := Z.p16 13 14 15 19 20 4 22 23 121 122 123 25 130 131 132 30 rfl
   refine aa fun K46 hK46 => ax (E := 9) (sz := 1) rfl [] kr sm rfl de de Z Y ?_
   clear Z Y
   intro a w41 Z Y
   refine wlm Z rfl fun a Z => aM (i := 0) (sT := 45) (inf := Tryd.t9) (z := .string (⟨#[]⟩)) rfl rfl rfl (Y.ow 5 rfl) underlying45 rfl rfl rfl rfl de (by first | (simp [Value.oneCell', yv, wv, sv]; done) | (intro e he u hu; obtain ⟨s, _, rfl⟩ := List.mem_map.1 he; rw [List.mem_singleton.1 hu]; rfl)) (by have hby : Tryd.t9.bytes = 16 := rfl; simp only [big, hby, List.length_append, List.length_map, List.length_cons, List.length_nil]; omega) (by have hby : Tryd.t9.bytes = 16 := rfl; simp only [big, hby, List.length_append, List.length_map, List.length_cons, List.length_nil]; omega) de Z Y ?_
   clear Z Y
   intro a w42 s28 Z Y
   rw [show ([]) ++ (hs.map fun s => [sv s]) = (hs.map fun s => [sv s]) from List.nil_append _] at Y
   refine wlm Z rfl fun a Z => aM (i := 0) (sT := 45) (inf := Tryd.t9) (z := .string (⟨#[]⟩)) rfl rfl rfl (Y.ow 1 rfl) underlying45 rfl rfl rfl rfl de (by first | (simp [Value.oneCell', yv, wv, sv]; done) | (intro e he u hu; obtain ⟨s, _, rfl⟩ := List.mem_map.1 he; rw [List.mem_singleton.1 hu]; rfl)) (by have hby : Tryd.t9.bytes = 16 := rfl; simp only [big, hby, List.length_append, List.length_map, List.length_cons, List.length_nil]; omega) (by have hby : Tryd.t9.bytes = 16 := rfl; simp only [big, hby, List.length_append, List.length_map, List.length_cons, List.length_nil]; omega) de Z Y ?_
   clear Z Y
   intro a w43 s29 Z Y
   rw [show (hs.map fun s => [sv s]) ++ (((wayH sha l.length k ra.enc (qs)).1.reverse).map fun s => [sv s]) = ((hs ++ ((wayH sha l.length k ra.enc (qs)).1.reverse)).map fun s => [sv s]) from List.map_append.symm] at Y
   refine ak Z Y de call34 rfl (bu hout (cA s29 (hs ++ (wayH sha l.length k ra.enc (qs)).1.reverse) _ (Y.ow 0 rfl) houts houtl)) ?_
   clear Z Y
   intro a w44 Z Y
   refine wlv Z ((aX rfl).asb (b' := false) rfl) fun a Z => ab (hK46 _ _ ?_)
   replace Z := Z.p16 13 14 15 19 20 4 22 23 121 122 123 25 130 131 132 171 rfl
   replace Y := Y.k9 2044 rfl
   refine aH Z rfl ?_
   refine ap ?_
   exact ⟨Z.pick [13, 14, 15, 19, 20, 4, 22, 23, 121, 122, 123, 25, 130, 131, 132], Y.select [0, 1, 2, 3, 4, 5, 6, 7, 8] de⟩
  rintro a w45 ⟨Z, Y⟩
  refine hK40 _ _ <| ao <| wlv Z ((aT rfl rfl de).asi (m' := 2) rfl) fun a Z => wlm Z rfl fun a Z => ab <| bf ?_
  refine aa fun K47 hK47 => wlv Z ((v_lt rfl rfl).asb (b' := true) rfl) fun a Z => ab (hK47 _ _ <| ac fun K48 hK48 => ?_)
  refine aC Z rfl ?_
  refine ap <| hK48 _ _ <| ac fun K49 hK49 => ?_
  refine ck (fun a w => Fr 174 [(13, pt w3.hz), (14, iv (l.length : Int)), (15, sv root), (19, iv (k : Int)), (20, v6), (4, v8), (22, s10), (23, v15), (121, (.slice (some ⟨b17, 0, none⟩) 2 2)), (122, iv 2), (123, iv 0), (25, pt w20.hz), (130, (.slice (some ⟨w22.hz, 0, none⟩) 3 3)), (131, iv 3), (132, iv 2)] [] a ∧ St No w0 [own (.slice (some ⟨w22.hz, 0, none⟩) 3 3) 45 1 ([[v6], [v8], [s10]]), blk w20.hz [iv ra.t, iv ra.kind, iv ra.a, iv ra.b, sv ra.text] 27, own (.slice (some ⟨b17, 0, none⟩) 2 2) 27 5 ([[iv ra.t, iv ra.kind, iv ra.a, iv ra.b, sv ra.text], [iv ((l.getD ka Rec.z).t), iv ((l.getD ka Rec.z).kind), iv ((l.getD ka Rec.z).a), iv ((l.getD ka Rec.z).b), sv ((l.getD ka Rec.z).text)]]), own v15 9 1 (hs.map fun s => [sv s]), own s10 9 1 (bt.map fun s => [sv s]), own v8 9 1 (qs.map fun s => [sv s]), own v6 9 1 (pf.map fun s => [sv s]), blk w3.hz [iv o, lv1] 25, own lv1 27 5 ((l).map Rec.cells)] w) ?_ ?_
  ·refine am <| aa fun K50 hK50 => wlv Z ((ah (i := 2) (sT := 59) (Y.ow 0 rfl) rfl rfl (runUnderlying59 _) (sizeOf45 _) om sm).as (v' := slAddr (.slice (some ⟨w22.hz, 0, none⟩) 3 3) (2 * 1)) rfl) fun a Z => wlv Z (au (u := s10) (i := 2) (j := 0) (Y.ow 0 rfl) sm rfl (isAgg45 _) rfx) fun a Z => wla Z rfl fun a Z => ab (hK50 _ _ <| ac fun K51 hK51 => ?_)
   refine ac fun K52 hK52 => aI kr (aL kr fun w46 hxz => ?_)
   replace Y := Y.grow hxz
   refine aP (k := 0) 6 [0, 5] Z kr kr kr rfx ?_
   replace Z := Z.p20 13 14 15 19 20 4 22 23 121 122 123 25 130 131 172 132 133 134 135 27 rfl
   refine ay [] (fun i => match i with | _ => fun _ _ => False) 6 [[], [], [1], [], [2, 3], [4]] [.agg #[iv ra.t, iv ra.kind, iv ra.a, iv ra.b, sv ra.text], po w3.hz 1, lv1, iv (k : Int), slAddr lv1 (k * 5), .agg #[iv ((l.getD k Rec.z).t), iv ((l.getD k Rec.z).kind), iv ((l.getD k Rec.z).a), iv ((l.getD k Rec.z).b), sv ((l.getD k Rec.z).text)]] Z Y kr kr kr ?_ ?_ ?_
   ·intro i hi hiq
    match i, hi, hiq with
    | 0, _, _ => exact fun w Y => OpV.g (aq (Y.g 1 rfl) rfl (isAgg27 _) (sizeOf27 _))
    | 1, _, _ => exact fun w Y => OpV.g (al (v := po w3.hz 1) rfl kr)
    | 2, _, _ => exact fun w Y => OpV.g (ld Y 7 rfl rfl (isAgg23 _) rfl)
    | 3, _, _ => exact fun w Y => OpV.g (ai rfl)
    | 4, _, _ => exact fun w Y => OpV.g ((ah (i := (k : Int)) (sT := 23) (Y.ow 8 rfl) rfl rfl (runUnderlying23 _) (sizeOf27 _) om (by rw [List.length_map]; omega)).as (v' := slAddr lv1 (k * 5)) rfl)
    | 5, _, _ => exact fun w Y => OpV.g ((ba (Y.ow 8 rfl) (i := k) (by rw [List.length_map]; omega) rfl (isAgg27 _) (sizeOf27 _)).as (v' := .agg #[iv ((l.getD k Rec.z).t), iv ((l.getD k Rec.z).kind), iv ((l.getD k Rec.z).a), iv ((l.getD k Rec.z).b), sv ((l.getD k Rec.z).text)]) (by rw [bc Rec.z]; rfl))
   ·intro i hi
    exact absurd hi sm
   clear Z Y
   intro  a w47 Z Y
   replace Z : Fr 174 [(136, .agg #[iv ra.t, iv ra.kind, iv ra.a, iv ra.b, sv ra.text]), (137, po w3.hz 1), (138, lv1), (139, iv (k : Int)), (140, slAddr lv1 (k * 5)), (141, .agg #[iv ((l.getD k Rec.z).t), iv ((l.getD k Rec.z).kind), iv ((l.getD k Rec.z).a), iv ((l.getD k Rec.z).b), sv ((l.getD k Rec.z).text)]), (13, _), (14, _), (15, _), (19, _), (20, _), (4, _), (22, _), (23, _), (121, _), (122, _), (123, _), (25, _), (130, _), (131, _), (172, _), (132, _), (133, _), (134, _), (135, _), (27, _)] [] a := Z
   refine ab <| aK (k := 6) 8 [7] kr kr kr ?_
   refine wlv Z ((cc rfl rfl kr (eqRec ra.t ra.kind ra.a ra.b ra.text ((l.getD k Rec.z).t) ((l.getD k Rec.z).kind) ((l.getD k Rec.z).a) ((l.getD k Rec.z).b) ((l.getD k Rec.z).text) _)).asb (b' := decide (ra = (l.getD k Rec.z))) rfx) fun a Z => wlm Z rfl fun a Z => ab ?_
   rcases Bool.eq_false_or_eq_true (decide (ra = (l.getD k Rec.z))) with hb30 | hb30
   ·rw [hb30] at Z
    try simp only [qz] at hb30
    replace Z : Fr 174 [(13, pt w3.hz), (14, iv (l.length : Int)), (15, sv root), (19, iv (k : Int)), (20, v6), (4, v8), (22, s10), (23, v15), (121, (.slice (some ⟨b17, 0, none⟩) 2 2)), (122, iv 2), (123, iv 0), (25, pt w20.hz), (130, (.slice (some ⟨w22.hz, 0, none⟩) 3 3)), (131, iv 3), (172, iv 2), (132, iv 2), (133, .bool true), (134, slAddr (.slice (some ⟨w22.hz, 0, none⟩) 3 3) (2 * 1)), (135, s10), (27, s10), (136, .agg #[iv ra.t, iv ra.kind, iv ra.a, iv ra.b, sv ra.text]), (137, po w3.hz 1), (138, lv1), (139, iv (k : Int)), (140, slAddr lv1 (k * 5)), (141, .agg #[iv ((l.getD k Rec.z).t), iv ((l.getD k Rec.z).kind), iv ((l.getD k Rec.z).a), iv ((l.getD k Rec.z).b), sv ((l.getD k Rec.z).text)]), (142, .bool true), (143, .bool true)] [] a := Z.pick [13, 14, 15, 19, 20, 4, 22, 23, 121, 122, 123, 25, 130, 131, 172, 132, 133, 134, 135, 27, 136, 137, 138, 139, 140, 141, 142, 143]
    refine co (k := 8) 13 [8, 9, 10, 11, 12] Z kr kr kr rfx fun a Z => ?_
    replace Z : Fr 174 [(144, undef), (145, undef), (146, undef), (147, undef), (148, undef), (13, pt w3.hz), (14, iv (l.length : Int)), (15, sv root), (19, iv (k : Int)), (20, v6), (4, v8), (22, s10), (23, v15), (121, (.slice (some ⟨b17, 0, none⟩) 2 2)), (122, iv 2), (123, iv 0), (25, pt w20.hz), (130, (.slice (some ⟨w22.hz, 0, none⟩) 3 3)), (131, iv 3), (172, iv 2), (132, iv 2), (133, .bool true), (134, slAddr (.slice (some ⟨w22.hz, 0, none⟩) 3 3) (2 * 1)), (135, s10), (27, s10), (136, .agg #[iv ra.t, iv ra.kind, iv ra.a, iv ra.b, sv ra.text]), (137, po w3.hz 1), (138, lv1), (139, iv (k : Int)), (140, slAddr lv1 (k * 5)), (141, .agg #[iv ((l.getD k Rec.z).t), iv ((l.getD k Rec.z).kind), iv ((l.getD k Rec.z).a), iv ((l.getD k Rec.z).b), sv ((l.getD k Rec.z).text)]), (142, .bool true), (143, .bool true)] [] a := Z
    refine aK (k := 13) 16 [15] kr kr kr ?_
    refine wln Z fun a Z => wln Z fun a Z => wlv Z (aB rfl rfl) fun a Z => ab <| aO kr ?_
    refine hK52 _ _ ?_
    replace Z := Z.p17 13 14 15 19 20 4 22 23 121 122 123 25 130 131 132 27 151 rfl
    refine aC Z rfl ?_
    refine aE ?_
    exact ⟨Z.pick [13, 14, 15, 19, 20, 4, 22, 23, 121, 122, 123, 25, 130, 131, 132], Y.select [0, 1, 2, 3, 4, 5, 6, 7, 8] de⟩
   rw [hb30] at Z
   try simp only [qz] at hb30
   refine aP (k := 8) 13 [8, 9, 10, 11, 12] Z kr kr kr rfx ?_
   replace Z := Z.p28 13 14 15 19 20 4 22 23 121 122 123 25 130 131 172 132 133 134 135 27 136 137 138 139 140 141 142 143 rfl
   refine ay [] (fun i => match i with | _ => fun _ _ => False) 5 [[], [], [], [], []] [sv root, iv (l.length : Int), iv (k : Int), .agg #[iv ra.t, iv ra.kind, iv ra.a, iv ra.b, sv ra.text], s10] Z Y kr kr kr ?_ ?_ ?_
   ·intro i hi hiq
    match i, hi, hiq with
    | 0, _, _ => exact fun w Y => OpV.g (ai rfl)
    | 1, _, _ => exact fun w Y => OpV.g (ai rfl)
    | 2, _, _ => exact fun w Y => OpV.g (ai rfl)
    | 3, _, _ => exact fun w Y => OpV.g (aq (Y.g 1 rfl) rfl (isAgg27 _) (sizeOf27 _))
    | 4, _, _ => exact fun w Y => OpV.g (ai rfl)
   ·intro i hi
    exact absurd hi sm
   clear Z Y
   intro  a w48 Z Y
   replace Z : Fr 174 [(144, sv root), (145, iv (l.length : Int)), (146, iv (k : Int)), (147, .agg #[iv ra.t, iv ra.kind, iv ra.a, iv ra.b, sv ra.text]), (148, s10), (13, _), (14, _), (15, _), (19, _), (20, _), (4, _), (22, _), (23, _), (121, _), (122, _), (123, _), (25, _), (130, _), (131, _), (172, _), (132, _), (133, _), (134, _), (135, _), (27, _), (136, _), (137, _), (138, _), (139, _), (140, _), (141, _), (142, _), (143, _)] [] a := Z
   refine ab <| aK (k := 13) 16 [15] kr kr kr ?_
   refine aQ Z Y de rfl de rfl call29 rfl (bR root (l.length : Int) (k : Int) ra s10 bt _ (Y.ow 4 rfl) om (by unfold i64; omega) (Y.keepb hk0)) ?_
   clear Z Y
   intro a w49 Z Y
   refine wly Z (aX rfl) fun a Z => wlv Z (aA rfl rfl) fun a Z => ab <| aO kr ?_
   refine hK52 _ _ ?_
   replace Z := Z.p17 13 14 15 19 20 4 22 23 121 122 123 25 130 131 132 27 151 rfl
   refine az Z rfl (fun hc31 => ?_) (fun hc31 => ?_)
   ·rw [hc31] at Z
    try simp only [qz] at hc31
    refine aE ?_
    exact ⟨Z.pick [13, 14, 15, 19, 20, 4, 22, 23, 121, 122, 123, 25, 130, 131, 132], Y.select [0, 1, 2, 3, 4, 5, 6, 7, 8] de⟩
   rw [hc31] at Z
   try simp only [qz] at hc31
   have hchk : checkB root (l.length : Int) (k : Int) ra bt = true := by simpa using hc31
   have hck := bO hchk
   have hrl : ra.enc.length ≤ 300 := by have := cF ra; rwa [show eB ra = ra.enc from if_pos hck.1] at this
   have hout : outB (hs ++ (wayH sha l.length k ra.enc bt).1.reverse) = true := by rw [← hhs]; exact bL hall hkl (by rw [hroot]; exact hchk) (by simpa using hb30)
   have houts : ∀ z ∈ hs ++ (wayH sha l.length k ra.enc bt).1.reverse, z.length ≤ 100000000 := by rw [← hhs]; exact ch hall hck.1 hck.2.1
   have hwc := cB (q := bt) (n := l.length) (i := k) (s := ra.enc) om
   have houtl : (hs ++ (wayH sha l.length k ra.enc bt).1.reverse).length ≤ 1000 := by rw [List.length_append]; omega
   refine ap <| hK51 _ _ <| aa fun K53 hK53 => wlv Z (aq (Y.g 1 rfl) rfl (isAgg27 _) (sizeOf27 _)) fun a Z => ak Z Y de call23 rfl (dX hck.1) ?_
   clear Z Y
   intro a w50 Z Y
   refine wlm Z rfl fun a Z => wlv Z (aj rfl rfl) fun a Z => wlv Z (aj rfl rfl) fun a Z => wla Z rfl fun a Z => wla Z rfl fun a Z => ab (hK53 _ _ ?_)
   replace Z := Z.p17 13 14 15 19 20 4 22 23 121 122 123 25 130 131 132 27 28 rfl
   refine aa fun K54 hK54 => wlm Z rfl fun a Z => wlm Z rfl fun a Z => wlm Z rfl fun a Z => wlm Z rfl fun a Z => aN Z Y de call33 rfl (cC ra.enc (by have := hrl; omega) _ l.length k s10 bt _ rfl (Y.ow 4 rfl) om om hck.2.1) ?_
   clear Z Y
   intro a w51 x33 hp Z Y
   revert x33 hp Z Y; rintro v32 hp Z Y
   clear hp
   replace Y : St No w0 [_, _, _, _, _, _, _, _, _, _] w51 := Y
   refine wlm Z rfl fun a Z => wlv Z (aj rfl rfl) fun a Z => wlv Z (aj rfl rfl) fun a Z => wla Z rfl fun a Z => wla Z rfl fun a Z => ab (hK54 _ _ ?_)
   replace Z := Z.p16 13 14 15 19 20 4 22 23 121 122 123 25 130 131 132 30 rfl
   refine aa fun K55 hK55 => ax (E := 9) (sz := 1) rfl [] kr sm rfl de de Z Y ?_
   clear Z Y
   intro a w52 Z Y
   refine wlm Z rfl fun a Z => aM (i := 0) (sT := 45) (inf := Tryd.t9) (z := .string (⟨#[]⟩)) rfl rfl rfl (Y.ow 5 rfl) underlying45 rfl rfl rfl rfl de (by first | (simp [Value.oneCell', yv, wv, sv]; done) | (intro e he u hu; obtain ⟨s, _, rfl⟩ := List.mem_map.1 he; rw [List.mem_singleton.1 hu]; rfl)) (by have hby : Tryd.t9.bytes = 16 := rfl; simp only [big, hby, List.length_append, List.length_map, List.length_cons, List.length_nil]; omega) (by have hby : Tryd.t9.bytes = 16 := rfl; simp only [big, hby, List.length_append, List.length_map, List.length_cons, List.length_nil]; omega) de Z Y ?_
   clear Z Y
   intro a w53 s34 Z Y
   rw [show ([]) ++ (hs.map fun s => [sv s]) = (hs.map fun s => [sv s]) from List.nil_append _] at Y
   refine wlm Z rfl fun a Z => aM (i := 0) (sT := 45) (inf := Tryd.t9) (z := .string (⟨#[]⟩)) rfl rfl rfl (Y.ow 1 rfl) underlying45 rfl rfl rfl rfl de (by first | (simp [Value.oneCell', yv, wv, sv]; done) | (intro e he u hu; obtain ⟨s, _, rfl⟩ := List.mem_map.1 he; rw [List.mem_singleton.1 hu]; rfl)) (by have hby : Tryd.t9.bytes = 16 := rfl; simp only [big, hby, List.length_append, List.length_map, List.length_cons, List.length_nil]; omega) (by have hby : Tryd.t9.bytes = 16 := rfl; simp only [big, hby, List.length_append, List.length_map, List.length_cons, List.length_nil]; omega) de Z Y ?_
   clear Z Y
   intro a w54 s35 Z Y
   rw [show (hs.map fun s => [sv s]) ++ (((wayH sha l.length k ra.enc bt).1.reverse).map fun s => [sv s]) = ((hs ++ ((wayH sha l.length k ra.enc bt).1.reverse)).map fun s => [sv s]) from List.map_append.symm] at Y
   refine ak Z Y de call34 rfl (bu hout (cA s35 (hs ++ (wayH sha l.length k ra.enc bt).1.reverse) _ (Y.ow 0 rfl) houts houtl)) ?_
   clear Z Y
   intro a w55 Z Y
   refine wlv Z ((aX rfl).asb (b' := false) rfl) fun a Z => ab (hK55 _ _ ?_)
   replace Z := Z.p16 13 14 15 19 20 4 22 23 121 122 123 25 130 131 132 171 rfl
   replace Y := Y.k9 2044 rfl
   refine aH Z rfl ?_
   refine ap ?_
   exact ⟨Z.pick [13, 14, 15, 19, 20, 4, 22, 23, 121, 122, 123, 25, 130, 131, 132], Y.select [0, 1, 2, 3, 4, 5, 6, 7, 8] de⟩
  rintro a w56 ⟨Z, Y⟩
  refine hK49 _ _ <| ao <| wlv Z ((aT rfl rfl de).asi (m' := 3) rfl) fun a Z => wlm Z rfl fun a Z => ab <| bf ?_
  refine aa fun K56 hK56 => wlv Z ((v_lt rfl rfl).asb (b' := false) rfl) fun a Z => ab (hK56 _ _ <| ac fun K57 hK57 => ?_)
  refine aH Z rfl ?_
  refine aE <| hK26 _ _ <| ao <| wlv Z ((aT rfl rfl de).asi (m' := 1) rfl) fun a Z => wlm Z rfl fun a Z => ab <| bf ?_
  refine aa fun K58 hK58 => wlv Z ((v_lt rfl rfl).asb (b' := true) rfl) fun a Z => ab (hK58 _ _ ?_)
  replace Z := Z.p12 13 14 15 19 20 4 22 23 121 122 123 124 rfl
  replace Y := Y.k7 508 rfl
  refine ac fun K59 hK59 => aC Z rfl ?_
  refine ap <| hK59 _ _ <| ac fun K60 hK60 => am <| aa fun K61 hK61 => wlv Z ((ah (i := 1) (sT := 23) (Y.ow 0 rfl) rfl rfl (runUnderlying23 _) (sizeOf27 _) om sm).as (v' := slAddr (.slice (some ⟨b17, 0, none⟩) 2 2) (1 * 5)) rfl) fun a Z => wlv Z ((ba (Y.ow 0 rfl) (i := 1) sm rfl (isAgg27 _) (sizeOf27 _)).as (v' := .agg #[iv ((l.getD ka Rec.z).t), iv ((l.getD ka Rec.z).kind), iv ((l.getD ka Rec.z).a), iv ((l.getD ka Rec.z).b), sv ((l.getD ka Rec.z).text)]) rfx) fun a Z => aU Z Y de (zeroValue27 _) (cs := [iv 0, iv 0, iv 0, iv 0, .string (⟨#[]⟩)]) rfl ?_
  clear Z Y
  intro a w57 Z Y
  refine aJ 0 Z Y rfl rfl rfl (sizeOf27 _) rfl (lb rfl) (ds := [iv ((l.getD ka Rec.z).t), iv ((l.getD ka Rec.z).kind), iv ((l.getD ka Rec.z).a), iv ((l.getD ka Rec.z).b), sv ((l.getD ka Rec.z).text)]) rfl rfl ?_
  clear Z Y
  intro a w58 Z Y
  refine ab (hK61 _ _ <| aa fun K62 hK62 => ?_)
  refine wlm Z rfl fun a Z => wlm Z rfl fun a Z => wlm Z rfl fun a Z => ax (E := 45) (sz := 1) rfl [[v6], [v8], [s10]] (by obtain ⟨_, _, _, e0_⟩ := bM (Y.ow 5 rfl); obtain ⟨_, _, _, e1_⟩ := bM (Y.ow 4 rfl); obtain ⟨_, _, _, e2_⟩ := bM (Y.ow 3 rfl); rw [e0_, e1_, e2_]; kernel_rfl) sm rfl de de Z Y ?_
  clear Z Y
  intro a w59 Z Y
  refine wlv Z ((aG (sT := 59) (Y.ow 0 rfl) rfl rfl (runUnderlying59 _)).asi (m' := 3) rfx) fun a Z => wlm Z rfl fun a Z => ab (hK62 _ _ ?_)
  replace Z : Fr 174 [(13, _), (14, _), (15, _), (19, _), (20, _), (4, _), (22, _), (23, _), (121, _), (122, _), (123, _), (25, _), (130, _), (131, _), (132, _)] [] a := Z.pick [13, 14, 15, 19, 20, 4, 22, 23, 121, 122, 123, 25, 130, 131, 132]
  refine am <| cJ 4 ?_
  refine bf ?_
  refine aa fun K63 hK63 => wlv Z ((v_lt rfl rfl).asb (b' := true) rfl) fun a Z => ab (hK63 _ _ <| ac fun K64 hK64 => ?_)
  refine aC Z rfl ?_
  refine ap <| hK64 _ _ <| ac fun K65 hK65 => ?_
  refine ck (fun a w => Fr 174 [(13, pt w3.hz), (14, iv (l.length : Int)), (15, sv root), (19, iv (k : Int)), (20, v6), (4, v8), (22, s10), (23, v15), (121, (.slice (some ⟨b17, 0, none⟩) 2 2)), (122, iv 2), (123, iv 1), (25, pt w56.hz), (130, (.slice (some ⟨w58.hz, 0, none⟩) 3 3)), (131, iv 3), (132, iv 0)] [] a ∧ St No w0 [own (.slice (some ⟨w58.hz, 0, none⟩) 3 3) 45 1 ([[v6], [v8], [s10]]), blk w56.hz [iv ((l.getD ka Rec.z).t), iv ((l.getD ka Rec.z).kind), iv ((l.getD ka Rec.z).a), iv ((l.getD ka Rec.z).b), sv ((l.getD ka Rec.z).text)] 27, own (.slice (some ⟨b17, 0, none⟩) 2 2) 27 5 ([[iv ra.t, iv ra.kind, iv ra.a, iv ra.b, sv ra.text], [iv ((l.getD ka Rec.z).t), iv ((l.getD ka Rec.z).kind), iv ((l.getD ka Rec.z).a), iv ((l.getD ka Rec.z).b), sv ((l.getD ka Rec.z).text)]]), own v15 9 1 (hs.map fun s => [sv s]), own s10 9 1 (bt.map fun s => [sv s]), own v8 9 1 (qs.map fun s => [sv s]), own v6 9 1 (pf.map fun s => [sv s]), blk w3.hz [iv o, lv1] 25, own lv1 27 5 ((l).map Rec.cells)] w) ?_ ?_
  ·refine am <| aa fun K66 hK66 => wlv Z ((ah (i := 0) (sT := 59) (Y.ow 0 rfl) rfl rfl (runUnderlying59 _) (sizeOf45 _) om sm).as (v' := slAddr (.slice (some ⟨w58.hz, 0, none⟩) 3 3) (0 * 1)) rfl) fun a Z => wlv Z (au (u := v6) (i := 0) (j := 0) (Y.ow 0 rfl) sm rfl (isAgg45 _) rfx) fun a Z => wla Z rfl fun a Z => ab (hK66 _ _ <| ac fun K67 hK67 => ?_)
   refine ac fun K68 hK68 => aI kr (aL kr fun w60 hxz => ?_)
   replace Y := Y.grow hxz
   refine aP (k := 0) 6 [0, 5] Z kr kr kr rfx ?_
   replace Z : Fr 174 [(13, _), (14, _), (15, _), (19, _), (20, _), (4, _), (22, _), (23, _), (121, _), (122, _), (123, _), (25, _), (130, _), (131, _), (132, _), (133, _), (134, _), (135, _), (27, _)] [] a := Z.pick [13, 14, 15, 19, 20, 4, 22, 23, 121, 122, 123, 25, 130, 131, 132, 133, 134, 135, 27]
   refine ay [] (fun i => match i with | _ => fun _ _ => False) 6 [[], [], [1], [], [2, 3], [4]] [.agg #[iv ((l.getD ka Rec.z).t), iv ((l.getD ka Rec.z).kind), iv ((l.getD ka Rec.z).a), iv ((l.getD ka Rec.z).b), sv ((l.getD ka Rec.z).text)], po w3.hz 1, lv1, iv (k : Int), slAddr lv1 (k * 5), .agg #[iv ((l.getD k Rec.z).t), iv ((l.getD k Rec.z).kind), iv ((l.getD k Rec.z).a), iv ((l.getD k Rec.z).b), sv ((l.getD k Rec.z).text)]] Z Y kr kr kr ?_ ?_ ?_
   ·intro i hi hiq
    match i, hi, hiq with
    | 0, _, _ => exact fun w Y => OpV.g (aq (Y.g 1 rfl) rfl (isAgg27 _) (sizeOf27 _))
    | 1, _, _ => exact fun w Y => OpV.g (al (v := po w3.hz 1) rfl kr)
    | 2, _, _ => exact fun w Y => OpV.g (ld Y 7 rfl rfl (isAgg23 _) rfl)
    | 3, _, _ => exact fun w Y => OpV.g (ai rfl)
    | 4, _, _ => exact fun w Y => OpV.g ((ah (i := (k : Int)) (sT := 23) (Y.ow 8 rfl) rfl rfl (runUnderlying23 _) (sizeOf27 _) om (by rw [List.length_map]; omega)).as (v' := slAddr lv1 (k * 5)) rfl)
    | 5, _, _ => exact fun w Y => OpV.g ((ba (Y.ow 8 rfl) (i := k) (by rw [List.length_map]; omega) rfl (isAgg27 _) (sizeOf27 _)).as (v' := .agg #[iv ((l.getD k Rec.z).t), iv ((l.getD k Rec.z).kind), iv ((l.getD k Rec.z).a), iv ((l.getD k Rec.z).b), sv ((l.getD k Rec.z).text)]) (by rw [bc Rec.z]; rfl))
   ·intro i hi
    exact absurd hi sm
   clear Z Y
   intro  a w61 Z Y
   replace Z : Fr 174 [(136, .agg #[iv ((l.getD ka Rec.z).t), iv ((l.getD ka Rec.z).kind), iv ((l.getD ka Rec.z).a), iv ((l.getD ka Rec.z).b), sv ((l.getD ka Rec.z).text)]), (137, po w3.hz 1), (138, lv1), (139, iv (k : Int)), (140, slAddr lv1 (k * 5)), (141, .agg #[iv ((l.getD k Rec.z).t), iv ((l.getD k Rec.z).kind), iv ((l.getD k Rec.z).a), iv ((l.getD k Rec.z).b), sv ((l.getD k Rec.z).text)]), (13, _), (14, _), (15, _), (19, _), (20, _), (4, _), (22, _), (23, _), (121, _), (122, _), (123, _), (25, _), (130, _), (131, _), (132, _), (133, _), (134, _), (135, _), (27, _)] [] a := Z
   refine ab <| aK (k := 6) 8 [7] kr kr kr ?_
   refine wlv Z ((cc rfl rfl kr (eqRec ((l.getD ka Rec.z).t) ((l.getD ka Rec.z).kind) ((l.getD ka Rec.z).a) ((l.getD ka Rec.z).b) ((l.getD ka Rec.z).text) ((l.getD k Rec.z).t) ((l.getD k Rec.z).kind) ((l.getD k Rec.z).a) ((l.getD k Rec.z).b) ((l.getD k Rec.z).text) _)).asb (b' := decide ((l.getD ka Rec.z) = (l.getD k Rec.z))) rfx) fun a Z => wlm Z rfl fun a Z => ab ?_
   rcases Bool.eq_false_or_eq_true (decide ((l.getD ka Rec.z) = (l.getD k Rec.z))) with hb36 | hb36
   ·rw [hb36] at Z
    try simp only [qz] at hb36
    replace Z : Fr 174 [(13, pt w3.hz), (14, iv (l.length : Int)), (15, sv root), (19, iv (k : Int)), (20, v6), (4, v8), (22, s10), (23, v15), (121, (.slice (some ⟨b17, 0, none⟩) 2 2)), (122, iv 2), (123, iv 1), (25, pt w56.hz), (130, (.slice (some ⟨w58.hz, 0, none⟩) 3 3)), (131, iv 3), (132, iv 0), (133, .bool true), (134, slAddr (.slice (some ⟨w58.hz, 0, none⟩) 3 3) (0 * 1)), (135, v6), (27, v6), (136, .agg #[iv ((l.getD ka Rec.z).t), iv ((l.getD ka Rec.z).kind), iv ((l.getD ka Rec.z).a), iv ((l.getD ka Rec.z).b), sv ((l.getD ka Rec.z).text)]), (137, po w3.hz 1), (138, lv1), (139, iv (k : Int)), (140, slAddr lv1 (k * 5)), (141, .agg #[iv ((l.getD k Rec.z).t), iv ((l.getD k Rec.z).kind), iv ((l.getD k Rec.z).a), iv ((l.getD k Rec.z).b), sv ((l.getD k Rec.z).text)]), (142, .bool true), (143, .bool true)] [] a := Z.pick [13, 14, 15, 19, 20, 4, 22, 23, 121, 122, 123, 25, 130, 131, 132, 133, 134, 135, 27, 136, 137, 138, 139, 140, 141, 142, 143]
    refine co (k := 8) 13 [8, 9, 10, 11, 12] Z kr kr kr rfx fun a Z => ?_
    replace Z : Fr 174 [(144, undef), (145, undef), (146, undef), (147, undef), (148, undef), (13, pt w3.hz), (14, iv (l.length : Int)), (15, sv root), (19, iv (k : Int)), (20, v6), (4, v8), (22, s10), (23, v15), (121, (.slice (some ⟨b17, 0, none⟩) 2 2)), (122, iv 2), (123, iv 1), (25, pt w56.hz), (130, (.slice (some ⟨w58.hz, 0, none⟩) 3 3)), (131, iv 3), (132, iv 0), (133, .bool true), (134, slAddr (.slice (some ⟨w58.hz, 0, none⟩) 3 3) (0 * 1)), (135, v6), (27, v6), (136, .agg #[iv ((l.getD ka Rec.z).t), iv ((l.getD ka Rec.z).kind), iv ((l.getD ka Rec.z).a), iv ((l.getD ka Rec.z).b), sv ((l.getD ka Rec.z).text)]), (137, po w3.hz 1), (138, lv1), (139, iv (k : Int)), (140, slAddr lv1 (k * 5)), (141, .agg #[iv ((l.getD k Rec.z).t), iv ((l.getD k Rec.z).kind), iv ((l.getD k Rec.z).a), iv ((l.getD k Rec.z).b), sv ((l.getD k Rec.z).text)]), (142, .bool true), (143, .bool true)] [] a := Z
    refine aK (k := 13) 16 [15] kr kr kr ?_
    refine wln Z fun a Z => wln Z fun a Z => wlv Z (aB rfl rfl) fun a Z => ab <| aO kr ?_
    refine hK68 _ _ ?_
    replace Z := Z.p17 13 14 15 19 20 4 22 23 121 122 123 25 130 131 132 27 151 rfl
    refine aC Z rfl ?_
    refine aE ?_
    exact ⟨Z.pick [13, 14, 15, 19, 20, 4, 22, 23, 121, 122, 123, 25, 130, 131, 132], Y.select [0, 1, 2, 3, 4, 5, 6, 7, 8] de⟩
   rw [hb36] at Z
   try simp only [qz] at hb36
   refine aP (k := 8) 13 [8, 9, 10, 11, 12] Z kr kr kr rfx ?_
   replace Z : Fr 174 [(13, _), (14, _), (15, _), (19, _), (20, _), (4, _), (22, _), (23, _), (121, _), (122, _), (123, _), (25, _), (130, _), (131, _), (132, _), (133, _), (134, _), (135, _), (27, _), (136, _), (137, _), (138, _), (139, _), (140, _), (141, _), (142, _), (143, _)] [] a := Z.pick [13, 14, 15, 19, 20, 4, 22, 23, 121, 122, 123, 25, 130, 131, 132, 133, 134, 135, 27, 136, 137, 138, 139, 140, 141, 142, 143]
   refine ay [] (fun i => match i with | _ => fun _ _ => False) 5 [[], [], [], [], []] [sv root, iv (l.length : Int), iv (k : Int), .agg #[iv ((l.getD ka Rec.z).t), iv ((l.getD ka Rec.z).kind), iv ((l.getD ka Rec.z).a), iv ((l.getD ka Rec.z).b), sv ((l.getD ka Rec.z).text)], v6] Z Y kr kr kr ?_ ?_ ?_
   ·intro i hi hiq
    match i, hi, hiq with
    | 0, _, _ => exact fun w Y => OpV.g (ai rfl)
    | 1, _, _ => exact fun w Y => OpV.g (ai rfl)
    | 2, _, _ => exact fun w Y => OpV.g (ai rfl)
    | 3, _, _ => exact fun w Y => OpV.g (aq (Y.g 1 rfl) rfl (isAgg27 _) (sizeOf27 _))
    | 4, _, _ => exact fun w Y => OpV.g (ai rfl)
   ·intro i hi
    exact absurd hi sm
   clear Z Y
   intro  a w62 Z Y
   replace Z : Fr 174 [(144, sv root), (145, iv (l.length : Int)), (146, iv (k : Int)), (147, .agg #[iv ((l.getD ka Rec.z).t), iv ((l.getD ka Rec.z).kind), iv ((l.getD ka Rec.z).a), iv ((l.getD ka Rec.z).b), sv ((l.getD ka Rec.z).text)]), (148, v6), (13, _), (14, _), (15, _), (19, _), (20, _), (4, _), (22, _), (23, _), (121, _), (122, _), (123, _), (25, _), (130, _), (131, _), (132, _), (133, _), (134, _), (135, _), (27, _), (136, _), (137, _), (138, _), (139, _), (140, _), (141, _), (142, _), (143, _)] [] a := Z
   refine ab <| aK (k := 13) 16 [15] kr kr kr ?_
   refine aQ Z Y de rfl de rfl call29 rfl (bR root (l.length : Int) (k : Int) (l.getD ka Rec.z) v6 pf _ (Y.ow 6 rfl) om (by unfold i64; omega) (Y.keepb hk0)) ?_
   clear Z Y
   intro a w63 Z Y
   refine wly Z (aX rfl) fun a Z => wlv Z (aA rfl rfl) fun a Z => ab <| aO kr ?_
   refine hK68 _ _ ?_
   replace Z := Z.p17 13 14 15 19 20 4 22 23 121 122 123 25 130 131 132 27 151 rfl
   refine az Z rfl (fun hc37 => ?_) (fun hc37 => ?_)
   ·rw [hc37] at Z
    try simp only [qz] at hc37
    refine aE ?_
    exact ⟨Z.pick [13, 14, 15, 19, 20, 4, 22, 23, 121, 122, 123, 25, 130, 131, 132], Y.select [0, 1, 2, 3, 4, 5, 6, 7, 8] de⟩
   rw [hc37] at Z
   try simp only [qz] at hc37
   have hchk : checkB root (l.length : Int) (k : Int) (l.getD ka Rec.z) pf = true := by simpa using hc37
   have hck := bO hchk
   have hrl : (l.getD ka Rec.z).enc.length ≤ 300 := by have := cF (l.getD ka Rec.z); rwa [show eB (l.getD ka Rec.z) = (l.getD ka Rec.z).enc from if_pos hck.1] at this
   have hout : outB (hs ++ (wayH sha l.length k (l.getD ka Rec.z).enc pf).1.reverse) = true := by rw [← hhs]; exact bL hall hkl (by rw [hroot]; exact hchk) (by simpa using hb36)
   have houts : ∀ z ∈ hs ++ (wayH sha l.length k (l.getD ka Rec.z).enc pf).1.reverse, z.length ≤ 100000000 := by rw [← hhs]; exact ch hall hck.1 hck.2.1
   have hwc := cB (q := pf) (n := l.length) (i := k) (s := (l.getD ka Rec.z).enc) om
   have houtl : (hs ++ (wayH sha l.length k (l.getD ka Rec.z).enc pf).1.reverse).length ≤ 1000 := by rw [List.length_append]; omega
   refine ap <| hK67 _ _ <| aa fun K69 hK69 => wlv Z (aq (Y.g 1 rfl) rfl (isAgg27 _) (sizeOf27 _)) fun a Z => ak Z Y de call23 rfl (dX hck.1) ?_
   clear Z Y
   intro a w64 Z Y
   refine wlm Z rfl fun a Z => wlv Z (aj rfl rfl) fun a Z => wlv Z (aj rfl rfl) fun a Z => wla Z rfl fun a Z => wla Z rfl fun a Z => ab (hK69 _ _ ?_)
   replace Z := Z.p17 13 14 15 19 20 4 22 23 121 122 123 25 130 131 132 27 28 rfl
   refine aa fun K70 hK70 => wlm Z rfl fun a Z => wlm Z rfl fun a Z => wlm Z rfl fun a Z => wlm Z rfl fun a Z => aN Z Y de call33 rfl (cC ((l.getD ka Rec.z).enc) (by have := hrl; omega) _ l.length k v6 pf _ rfl (Y.ow 6 rfl) om om hck.2.1) ?_
   clear Z Y
   intro a w65 x39 hp Z Y
   revert x39 hp Z Y; rintro v38 hp Z Y
   clear hp
   replace Y : St No w0 [_, _, _, _, _, _, _, _, _, _] w65 := Y
   refine wlm Z rfl fun a Z => wlv Z (aj rfl rfl) fun a Z => wlv Z (aj rfl rfl) fun a Z => wla Z rfl fun a Z => wla Z rfl fun a Z => ab (hK70 _ _ ?_)
   replace Z := Z.p16 13 14 15 19 20 4 22 23 121 122 123 25 130 131 132 30 rfl
   refine aa fun K71 hK71 => ax (E := 9) (sz := 1) rfl [] kr sm rfl de de Z Y ?_
   clear Z Y
   intro a w66 Z Y
   refine wlm Z rfl fun a Z => aM (i := 0) (sT := 45) (inf := Tryd.t9) (z := .string (⟨#[]⟩)) rfl rfl rfl (Y.ow 5 rfl) underlying45 rfl rfl rfl rfl de (by first | (simp [Value.oneCell', yv, wv, sv]; done) | (intro e he u hu; obtain ⟨s, _, rfl⟩ := List.mem_map.1 he; rw [List.mem_singleton.1 hu]; rfl)) (by have hby : Tryd.t9.bytes = 16 := rfl; simp only [big, hby, List.length_append, List.length_map, List.length_cons, List.length_nil]; omega) (by have hby : Tryd.t9.bytes = 16 := rfl; simp only [big, hby, List.length_append, List.length_map, List.length_cons, List.length_nil]; omega) de Z Y ?_
   clear Z Y
   intro a w67 s40 Z Y
   rw [show ([]) ++ (hs.map fun s => [sv s]) = (hs.map fun s => [sv s]) from List.nil_append _] at Y
   refine wlm Z rfl fun a Z => aM (i := 0) (sT := 45) (inf := Tryd.t9) (z := .string (⟨#[]⟩)) rfl rfl rfl (Y.ow 1 rfl) underlying45 rfl rfl rfl rfl de (by first | (simp [Value.oneCell', yv, wv, sv]; done) | (intro e he u hu; obtain ⟨s, _, rfl⟩ := List.mem_map.1 he; rw [List.mem_singleton.1 hu]; rfl)) (by have hby : Tryd.t9.bytes = 16 := rfl; simp only [big, hby, List.length_append, List.length_map, List.length_cons, List.length_nil]; omega) (by have hby : Tryd.t9.bytes = 16 := rfl; simp only [big, hby, List.length_append, List.length_map, List.length_cons, List.length_nil]; omega) de Z Y ?_
   clear Z Y
   intro a w68 s41 Z Y
   rw [show (hs.map fun s => [sv s]) ++ (((wayH sha l.length k ((l.getD ka Rec.z).enc) pf).1.reverse).map fun s => [sv s]) = ((hs ++ ((wayH sha l.length k ((l.getD ka Rec.z).enc) pf).1.reverse)).map fun s => [sv s]) from List.map_append.symm] at Y
   refine ak Z Y de call34 rfl (bu hout (cA s41 (hs ++ (wayH sha l.length k (l.getD ka Rec.z).enc pf).1.reverse) _ (Y.ow 0 rfl) houts houtl)) ?_
   clear Z Y
   intro a w69 Z Y
   refine wlv Z ((aX rfl).asb (b' := false) rfl) fun a Z => ab (hK71 _ _ ?_)
   replace Z := Z.p16 13 14 15 19 20 4 22 23 121 122 123 25 130 131 132 171 rfl
   replace Y := Y.k9 2044 rfl
   refine aH Z rfl ?_
   refine ap ?_
   exact ⟨Z.pick [13, 14, 15, 19, 20, 4, 22, 23, 121, 122, 123, 25, 130, 131, 132], Y.select [0, 1, 2, 3, 4, 5, 6, 7, 8] de⟩
  rintro a w70 ⟨Z, Y⟩
  refine hK65 _ _ <| ao <| wlv Z ((aT rfl rfl de).asi (m' := 1) rfl) fun a Z => wlm Z rfl fun a Z => ab <| bf ?_
  refine aa fun K72 hK72 => wlv Z ((v_lt rfl rfl).asb (b' := true) rfl) fun a Z => ab (hK72 _ _ <| ac fun K73 hK73 => ?_)
  refine aC Z rfl ?_
  refine ap <| hK73 _ _ <| ac fun K74 hK74 => ?_
  refine ck (fun a w => Fr 174 [(13, pt w3.hz), (14, iv (l.length : Int)), (15, sv root), (19, iv (k : Int)), (20, v6), (4, v8), (22, s10), (23, v15), (121, (.slice (some ⟨b17, 0, none⟩) 2 2)), (122, iv 2), (123, iv 1), (25, pt w56.hz), (130, (.slice (some ⟨w58.hz, 0, none⟩) 3 3)), (131, iv 3), (132, iv 1)] [] a ∧ St No w0 [own (.slice (some ⟨w58.hz, 0, none⟩) 3 3) 45 1 ([[v6], [v8], [s10]]), blk w56.hz [iv ((l.getD ka Rec.z).t), iv ((l.getD ka Rec.z).kind), iv ((l.getD ka Rec.z).a), iv ((l.getD ka Rec.z).b), sv ((l.getD ka Rec.z).text)] 27, own (.slice (some ⟨b17, 0, none⟩) 2 2) 27 5 ([[iv ra.t, iv ra.kind, iv ra.a, iv ra.b, sv ra.text], [iv ((l.getD ka Rec.z).t), iv ((l.getD ka Rec.z).kind), iv ((l.getD ka Rec.z).a), iv ((l.getD ka Rec.z).b), sv ((l.getD ka Rec.z).text)]]), own v15 9 1 (hs.map fun s => [sv s]), own s10 9 1 (bt.map fun s => [sv s]), own v8 9 1 (qs.map fun s => [sv s]), own v6 9 1 (pf.map fun s => [sv s]), blk w3.hz [iv o, lv1] 25, own lv1 27 5 ((l).map Rec.cells)] w) ?_ ?_
  ·refine am <| aa fun K75 hK75 => wlv Z ((ah (i := 1) (sT := 59) (Y.ow 0 rfl) rfl rfl (runUnderlying59 _) (sizeOf45 _) om sm).as (v' := slAddr (.slice (some ⟨w58.hz, 0, none⟩) 3 3) (1 * 1)) rfl) fun a Z => wlv Z (au (u := v8) (i := 1) (j := 0) (Y.ow 0 rfl) sm rfl (isAgg45 _) rfx) fun a Z => wla Z rfl fun a Z => ab (hK75 _ _ <| ac fun K76 hK76 => ?_)
   refine ac fun K77 hK77 => aI kr (aL kr fun w71 hxz => ?_)
   replace Y := Y.grow hxz
   refine aP (k := 0) 6 [0, 5] Z kr kr kr rfx ?_
   replace Z := Z.p20 13 14 15 19 20 4 22 23 121 122 123 25 130 131 172 132 133 134 135 27 rfl
   refine ay [] (fun i => match i with | _ => fun _ _ => False) 6 [[], [], [1], [], [2, 3], [4]] [.agg #[iv ((l.getD ka Rec.z).t), iv ((l.getD ka Rec.z).kind), iv ((l.getD ka Rec.z).a), iv ((l.getD ka Rec.z).b), sv ((l.getD ka Rec.z).text)], po w3.hz 1, lv1, iv (k : Int), slAddr lv1 (k * 5), .agg #[iv ((l.getD k Rec.z).t), iv ((l.getD k Rec.z).kind), iv ((l.getD k Rec.z).a), iv ((l.getD k Rec.z).b), sv ((l.getD k Rec.z).text)]] Z Y kr kr kr ?_ ?_ ?_
   ·intro i hi hiq
    match i, hi, hiq with
    | 0, _, _ => exact fun w Y => OpV.g (aq (Y.g 1 rfl) rfl (isAgg27 _) (sizeOf27 _))
    | 1, _, _ => exact fun w Y => OpV.g (al (v := po w3.hz 1) rfl kr)
    | 2, _, _ => exact fun w Y => OpV.g (ld Y 7 rfl rfl (isAgg23 _) rfl)
    | 3, _, _ => exact fun w Y => OpV.g (ai rfl)
    | 4, _, _ => exact fun w Y => OpV.g ((ah (i := (k : Int)) (sT := 23) (Y.ow 8 rfl) rfl rfl (runUnderlying23 _) (sizeOf27 _) om (by rw [List.length_map]; omega)).as (v' := slAddr lv1 (k * 5)) rfl)
    | 5, _, _ => exact fun w Y => OpV.g ((ba (Y.ow 8 rfl) (i := k) (by rw [List.length_map]; omega) rfl (isAgg27 _) (sizeOf27 _)).as (v' := .agg #[iv ((l.getD k Rec.z).t), iv ((l.getD k Rec.z).kind), iv ((l.getD k Rec.z).a), iv ((l.getD k Rec.z).b), sv ((l.getD k Rec.z).text)]) (by rw [bc Rec.z]; rfl))
   ·intro i hi
    exact absurd hi sm
   clear Z Y
   intro  a w72 Z Y
   replace Z : Fr 174 [(136, .agg #[iv ((l.getD ka Rec.z).t), iv ((l.getD ka Rec.z).kind), iv ((l.getD ka Rec.z).a), iv ((l.getD ka Rec.z).b), sv ((l.getD ka Rec.z).text)]), (137, po w3.hz 1), (138, lv1), (139, iv (k : Int)), (140, slAddr lv1 (k * 5)), (141, .agg #[iv ((l.getD k Rec.z).t), iv ((l.getD k Rec.z).kind), iv ((l.getD k Rec.z).a), iv ((l.getD k Rec.z).b), sv ((l.getD k Rec.z).text)]), (13, _), (14, _), (15, _), (19, _), (20, _), (4, _), (22, _), (23, _), (121, _), (122, _), (123, _), (25, _), (130, _), (131, _), (172, _), (132, _), (133, _), (134, _), (135, _), (27, _)] [] a := Z
   refine ab <| aK (k := 6) 8 [7] kr kr kr ?_
   refine wlv Z ((cc rfl rfl kr (eqRec ((l.getD ka Rec.z).t) ((l.getD ka Rec.z).kind) ((l.getD ka Rec.z).a) ((l.getD ka Rec.z).b) ((l.getD ka Rec.z).text) ((l.getD k Rec.z).t) ((l.getD k Rec.z).kind) ((l.getD k Rec.z).a) ((l.getD k Rec.z).b) ((l.getD k Rec.z).text) _)).asb (b' := decide ((l.getD ka Rec.z) = (l.getD k Rec.z))) rfx) fun a Z => wlm Z rfl fun a Z => ab ?_
   rcases Bool.eq_false_or_eq_true (decide ((l.getD ka Rec.z) = (l.getD k Rec.z))) with hb42 | hb42
   ·rw [hb42] at Z
    try simp only [qz] at hb42
    replace Z : Fr 174 [(13, pt w3.hz), (14, iv (l.length : Int)), (15, sv root), (19, iv (k : Int)), (20, v6), (4, v8), (22, s10), (23, v15), (121, (.slice (some ⟨b17, 0, none⟩) 2 2)), (122, iv 2), (123, iv 1), (25, pt w56.hz), (130, (.slice (some ⟨w58.hz, 0, none⟩) 3 3)), (131, iv 3), (172, iv 1), (132, iv 1), (133, .bool true), (134, slAddr (.slice (some ⟨w58.hz, 0, none⟩) 3 3) (1 * 1)), (135, v8), (27, v8), (136, .agg #[iv ((l.getD ka Rec.z).t), iv ((l.getD ka Rec.z).kind), iv ((l.getD ka Rec.z).a), iv ((l.getD ka Rec.z).b), sv ((l.getD ka Rec.z).text)]), (137, po w3.hz 1), (138, lv1), (139, iv (k : Int)), (140, slAddr lv1 (k * 5)), (141, .agg #[iv ((l.getD k Rec.z).t), iv ((l.getD k Rec.z).kind), iv ((l.getD k Rec.z).a), iv ((l.getD k Rec.z).b), sv ((l.getD k Rec.z).text)]), (142, .bool true), (143, .bool true)] [] a := Z.pick [13, 14, 15, 19, 20, 4, 22, 23, 121, 122, 123, 25, 130, 131, 172, 132, 133, 134, 135, 27, 136, 137, 138, 139, 140, 141, 142, 143]
    refine co (k := 8) 13 [8, 9, 10, 11, 12] Z kr kr kr rfx fun a Z => ?_
    replace Z : Fr 174 [(144, undef), (145, undef), (146, undef), (147, undef), (148, undef), (13, pt w3.hz), (14, iv (l.length : Int)), (15, sv root), (19, iv (k : Int)), (20, v6), (4, v8), (22, s10), (23, v15), (121, (.slice (some ⟨b17, 0, none⟩) 2 2)), (122, iv 2), (123, iv 1), (25, pt w56.hz), (130, (.slice (some ⟨w58.hz, 0, none⟩) 3 3)), (131, iv 3), (172, iv 1), (132, iv 1), (133, .bool true), (134, slAddr (.slice (some ⟨w58.hz, 0, none⟩) 3 3) (1 * 1)), (135, v8), (27, v8), (136, .agg #[iv ((l.getD ka Rec.z).t), iv ((l.getD ka Rec.z).kind), iv ((l.getD ka Rec.z).a), iv ((l.getD ka Rec.z).b), sv ((l.getD ka Rec.z).text)]), (137, po w3.hz 1), (138, lv1), (139, iv (k : Int)), (140, slAddr lv1 (k * 5)), (141, .agg #[iv ((l.getD k Rec.z).t), iv ((l.getD k Rec.z).kind), iv ((l.getD k Rec.z).a), iv ((l.getD k Rec.z).b), sv ((l.getD k Rec.z).text)]), (142, .bool true), (143, .bool true)] [] a := Z
    refine aK (k := 13) 16 [15] kr kr kr ?_
    refine wln Z fun a Z => wln Z fun a Z => wlv Z (aB rfl rfl) fun a Z => ab <| aO kr ?_
    refine hK77 _ _ ?_
    replace Z := Z.p17 13 14 15 19 20 4 22 23 121 122 123 25 130 131 132 27 151 rfl
    refine aC Z rfl ?_
    refine aE ?_
    exact ⟨Z.pick [13, 14, 15, 19, 20, 4, 22, 23, 121, 122, 123, 25, 130, 131, 132], Y.select [0, 1, 2, 3, 4, 5, 6, 7, 8] de⟩
   rw [hb42] at Z
   try simp only [qz] at hb42
   refine aP (k := 8) 13 [8, 9, 10, 11, 12] Z kr kr kr rfx ?_
   replace Z := Z.p28 13 14 15 19 20 4 22 23 121 122 123 25 130 131 172 132 133 134 135 27 136 137 138 139 140 141 142 143 rfl
   refine ay [] (fun i => match i with | _ => fun _ _ => False) 5 [[], [], [], [], []] [sv root, iv (l.length : Int), iv (k : Int), .agg #[iv ((l.getD ka Rec.z).t), iv ((l.getD ka Rec.z).kind), iv ((l.getD ka Rec.z).a), iv ((l.getD ka Rec.z).b), sv ((l.getD ka Rec.z).text)], v8] Z Y kr kr kr ?_ ?_ ?_
   ·intro i hi hiq
    match i, hi, hiq with
    | 0, _, _ => exact fun w Y => OpV.g (ai rfl)
    | 1, _, _ => exact fun w Y => OpV.g (ai rfl)
    | 2, _, _ => exact fun w Y => OpV.g (ai rfl)
    | 3, _, _ => exact fun w Y => OpV.g (aq (Y.g 1 rfl) rfl (isAgg27 _) (sizeOf27 _))
    | 4, _, _ => exact fun w Y => OpV.g (ai rfl)
   ·intro i hi
    exact absurd hi sm
   clear Z Y
   intro  a w73 Z Y
   replace Z : Fr 174 [(144, sv root), (145, iv (l.length : Int)), (146, iv (k : Int)), (147, .agg #[iv ((l.getD ka Rec.z).t), iv ((l.getD ka Rec.z).kind), iv ((l.getD ka Rec.z).a), iv ((l.getD ka Rec.z).b), sv ((l.getD ka Rec.z).text)]), (148, v8), (13, _), (14, _), (15, _), (19, _), (20, _), (4, _), (22, _), (23, _), (121, _), (122, _), (123, _), (25, _), (130, _), (131, _), (172, _), (132, _), (133, _), (134, _), (135, _), (27, _), (136, _), (137, _), (138, _), (139, _), (140, _), (141, _), (142, _), (143, _)] [] a := Z
   refine ab <| aK (k := 13) 16 [15] kr kr kr ?_
   refine aQ Z Y de rfl de rfl call29 rfl (bR root (l.length : Int) (k : Int) (l.getD ka Rec.z) v8 (qs) _ (Y.ow 5 rfl) om (by unfold i64; omega) (Y.keepb hk0)) ?_
   clear Z Y
   intro a w74 Z Y
   refine wly Z (aX rfl) fun a Z => wlv Z (aA rfl rfl) fun a Z => ab <| aO kr ?_
   refine hK77 _ _ ?_
   replace Z := Z.p17 13 14 15 19 20 4 22 23 121 122 123 25 130 131 132 27 151 rfl
   refine az Z rfl (fun hc43 => ?_) (fun hc43 => ?_)
   ·rw [hc43] at Z
    try simp only [qz] at hc43
    refine aE ?_
    exact ⟨Z.pick [13, 14, 15, 19, 20, 4, 22, 23, 121, 122, 123, 25, 130, 131, 132], Y.select [0, 1, 2, 3, 4, 5, 6, 7, 8] de⟩
   rw [hc43] at Z
   try simp only [qz] at hc43
   have hchk : checkB root (l.length : Int) (k : Int) (l.getD ka Rec.z) (qs) = true := by simpa using hc43
   have hck := bO hchk
   have hrl : (l.getD ka Rec.z).enc.length ≤ 300 := by have := cF (l.getD ka Rec.z); rwa [show eB (l.getD ka Rec.z) = (l.getD ka Rec.z).enc from if_pos hck.1] at this
   have hout : outB (hs ++ (wayH sha l.length k (l.getD ka Rec.z).enc (qs)).1.reverse) = true := by rw [← hhs]; exact bL hall hkl (by rw [hroot]; exact hchk) (by simpa using hb42)
   have houts : ∀ z ∈ hs ++ (wayH sha l.length k (l.getD ka Rec.z).enc (qs)).1.reverse, z.length ≤ 100000000 := by rw [← hhs]; exact ch hall hck.1 hck.2.1
   have hwc := cB (q := (qs)) (n := l.length) (i := k) (s := (l.getD ka Rec.z).enc) om
   have houtl : (hs ++ (wayH sha l.length k (l.getD ka Rec.z).enc (qs)).1.reverse).length ≤ 1000 := by rw [List.length_append]; omega
   refine ap <| hK76 _ _ <| aa fun K78 hK78 => wlv Z (aq (Y.g 1 rfl) rfl (isAgg27 _) (sizeOf27 _)) fun a Z => ak Z Y de call23 rfl (dX hck.1) ?_
   clear Z Y
   intro a w75 Z Y
   refine wlm Z rfl fun a Z => wlv Z (aj rfl rfl) fun a Z => wlv Z (aj rfl rfl) fun a Z => wla Z rfl fun a Z => wla Z rfl fun a Z => ab (hK78 _ _ ?_)
   replace Z := Z.p17 13 14 15 19 20 4 22 23 121 122 123 25 130 131 132 27 28 rfl
   refine aa fun K79 hK79 => wlm Z rfl fun a Z => wlm Z rfl fun a Z => wlm Z rfl fun a Z => wlm Z rfl fun a Z => aN Z Y de call33 rfl (cC ((l.getD ka Rec.z).enc) (by have := hrl; omega) _ l.length k v8 (qs) _ rfl (Y.ow 5 rfl) om om hck.2.1) ?_
   clear Z Y
   intro a w76 x45 hp Z Y
   revert x45 hp Z Y; rintro v44 hp Z Y
   clear hp
   replace Y : St No w0 [_, _, _, _, _, _, _, _, _, _] w76 := Y
   refine wlm Z rfl fun a Z => wlv Z (aj rfl rfl) fun a Z => wlv Z (aj rfl rfl) fun a Z => wla Z rfl fun a Z => wla Z rfl fun a Z => ab (hK79 _ _ ?_)
   replace Z := Z.p16 13 14 15 19 20 4 22 23 121 122 123 25 130 131 132 30 rfl
   refine aa fun K80 hK80 => ax (E := 9) (sz := 1) rfl [] kr sm rfl de de Z Y ?_
   clear Z Y
   intro a w77 Z Y
   refine wlm Z rfl fun a Z => aM (i := 0) (sT := 45) (inf := Tryd.t9) (z := .string (⟨#[]⟩)) rfl rfl rfl (Y.ow 5 rfl) underlying45 rfl rfl rfl rfl de (by first | (simp [Value.oneCell', yv, wv, sv]; done) | (intro e he u hu; obtain ⟨s, _, rfl⟩ := List.mem_map.1 he; rw [List.mem_singleton.1 hu]; rfl)) (by have hby : Tryd.t9.bytes = 16 := rfl; simp only [big, hby, List.length_append, List.length_map, List.length_cons, List.length_nil]; omega) (by have hby : Tryd.t9.bytes = 16 := rfl; simp only [big, hby, List.length_append, List.length_map, List.length_cons, List.length_nil]; omega) de Z Y ?_
   clear Z Y
   intro a w78 s46 Z Y
   rw [show ([]) ++ (hs.map fun s => [sv s]) = (hs.map fun s => [sv s]) from List.nil_append _] at Y
   refine wlm Z rfl fun a Z => aM (i := 0) (sT := 45) (inf := Tryd.t9) (z := .string (⟨#[]⟩)) rfl rfl rfl (Y.ow 1 rfl) underlying45 rfl rfl rfl rfl de (by first | (simp [Value.oneCell', yv, wv, sv]; done) | (intro e he u hu; obtain ⟨s, _, rfl⟩ := List.mem_map.1 he; rw [List.mem_singleton.1 hu]; rfl)) (by have hby : Tryd.t9.bytes = 16 := rfl; simp only [big, hby, List.length_append, List.length_map, List.length_cons, List.length_nil]; omega) (by have hby : Tryd.t9.bytes = 16 := rfl; simp only [big, hby, List.length_append, List.length_map, List.length_cons, List.length_nil]; omega) de Z Y ?_
   clear Z Y
   intro a w79 s47 Z Y
   rw [show (hs.map fun s => [sv s]) ++ (((wayH sha l.length k ((l.getD ka Rec.z).enc) (qs)).1.reverse).map fun s => [sv s]) = ((hs ++ ((wayH sha l.length k ((l.getD ka Rec.z).enc) (qs)).1.reverse)).map fun s => [sv s]) from List.map_append.symm] at Y
   refine ak Z Y de call34 rfl (bu hout (cA s47 (hs ++ (wayH sha l.length k (l.getD ka Rec.z).enc (qs)).1.reverse) _ (Y.ow 0 rfl) houts houtl)) ?_
   clear Z Y
   intro a w80 Z Y
   refine wlv Z ((aX rfl).asb (b' := false) rfl) fun a Z => ab (hK80 _ _ ?_)
   replace Z := Z.p16 13 14 15 19 20 4 22 23 121 122 123 25 130 131 132 171 rfl
   replace Y := Y.k9 2044 rfl
   refine aH Z rfl ?_
   refine ap ?_
   exact ⟨Z.pick [13, 14, 15, 19, 20, 4, 22, 23, 121, 122, 123, 25, 130, 131, 132], Y.select [0, 1, 2, 3, 4, 5, 6, 7, 8] de⟩
  rintro a w81 ⟨Z, Y⟩
  refine hK74 _ _ <| ao <| wlv Z ((aT rfl rfl de).asi (m' := 2) rfl) fun a Z => wlm Z rfl fun a Z => ab <| bf ?_
  refine aa fun K81 hK81 => wlv Z ((v_lt rfl rfl).asb (b' := true) rfl) fun a Z => ab (hK81 _ _ <| ac fun K82 hK82 => ?_)
  refine aC Z rfl ?_
  refine ap <| hK82 _ _ <| ac fun K83 hK83 => ?_
  refine ck (fun a w => Fr 174 [(13, pt w3.hz), (14, iv (l.length : Int)), (15, sv root), (19, iv (k : Int)), (20, v6), (4, v8), (22, s10), (23, v15), (121, (.slice (some ⟨b17, 0, none⟩) 2 2)), (122, iv 2), (123, iv 1), (25, pt w56.hz), (130, (.slice (some ⟨w58.hz, 0, none⟩) 3 3)), (131, iv 3), (132, iv 2)] [] a ∧ St No w0 [own (.slice (some ⟨w58.hz, 0, none⟩) 3 3) 45 1 ([[v6], [v8], [s10]]), blk w56.hz [iv ((l.getD ka Rec.z).t), iv ((l.getD ka Rec.z).kind), iv ((l.getD ka Rec.z).a), iv ((l.getD ka Rec.z).b), sv ((l.getD ka Rec.z).text)] 27, own (.slice (some ⟨b17, 0, none⟩) 2 2) 27 5 ([[iv ra.t, iv ra.kind, iv ra.a, iv ra.b, sv ra.text], [iv ((l.getD ka Rec.z).t), iv ((l.getD ka Rec.z).kind), iv ((l.getD ka Rec.z).a), iv ((l.getD ka Rec.z).b), sv ((l.getD ka Rec.z).text)]]), own v15 9 1 (hs.map fun s => [sv s]), own s10 9 1 (bt.map fun s => [sv s]), own v8 9 1 (qs.map fun s => [sv s]), own v6 9 1 (pf.map fun s => [sv s]), blk w3.hz [iv o, lv1] 25, own lv1 27 5 ((l).map Rec.cells)] w) ?_ ?_
  ·refine am <| aa fun K84 hK84 => wlv Z ((ah (i := 2) (sT := 59) (Y.ow 0 rfl) rfl rfl (runUnderlying59 _) (sizeOf45 _) om sm).as (v' := slAddr (.slice (some ⟨w58.hz, 0, none⟩) 3 3) (2 * 1)) rfl) fun a Z => wlv Z (au (u := s10) (i := 2) (j := 0) (Y.ow 0 rfl) sm rfl (isAgg45 _) rfx) fun a Z => wla Z rfl fun a Z => ab (hK84 _ _ <| ac fun K85 hK85 => ?_)
   refine ac fun K86 hK86 => aI kr (aL kr fun w82 hxz => ?_)
   replace Y := Y.grow hxz
   refine aP (k := 0) 6 [0, 5] Z kr kr kr rfx ?_
   replace Z := Z.p20 13 14 15 19 20 4 22 23 121 122 123 25 130 131 172 132 133 134 135 27 rfl
   refine ay [] (fun i => match i with | _ => fun _ _ => False) 6 [[], [], [1], [], [2, 3], [4]] [.agg #[iv ((l.getD ka Rec.z).t), iv ((l.getD ka Rec.z).kind), iv ((l.getD ka Rec.z).a), iv ((l.getD ka Rec.z).b), sv ((l.getD ka Rec.z).text)], po w3.hz 1, lv1, iv (k : Int), slAddr lv1 (k * 5), .agg #[iv ((l.getD k Rec.z).t), iv ((l.getD k Rec.z).kind), iv ((l.getD k Rec.z).a), iv ((l.getD k Rec.z).b), sv ((l.getD k Rec.z).text)]] Z Y kr kr kr ?_ ?_ ?_
   ·intro i hi hiq
    match i, hi, hiq with
    | 0, _, _ => exact fun w Y => OpV.g (aq (Y.g 1 rfl) rfl (isAgg27 _) (sizeOf27 _))
    | 1, _, _ => exact fun w Y => OpV.g (al (v := po w3.hz 1) rfl kr)
    | 2, _, _ => exact fun w Y => OpV.g (ld Y 7 rfl rfl (isAgg23 _) rfl)
    | 3, _, _ => exact fun w Y => OpV.g (ai rfl)
    | 4, _, _ => exact fun w Y => OpV.g ((ah (i := (k : Int)) (sT := 23) (Y.ow 8 rfl) rfl rfl (runUnderlying23 _) (sizeOf27 _) om (by rw [List.length_map]; omega)).as (v' := slAddr lv1 (k * 5)) rfl)
    | 5, _, _ => exact fun w Y => OpV.g ((ba (Y.ow 8 rfl) (i := k) (by rw [List.length_map]; omega) rfl (isAgg27 _) (sizeOf27 _)).as (v' := .agg #[iv ((l.getD k Rec.z).t), iv ((l.getD k Rec.z).kind), iv ((l.getD k Rec.z).a), iv ((l.getD k Rec.z).b), sv ((l.getD k Rec.z).text)]) (by rw [bc Rec.z]; rfl))
   ·intro i hi
    exact absurd hi sm
   clear Z Y
   intro  a w83 Z Y
   replace Z : Fr 174 [(136, .agg #[iv ((l.getD ka Rec.z).t), iv ((l.getD ka Rec.z).kind), iv ((l.getD ka Rec.z).a), iv ((l.getD ka Rec.z).b), sv ((l.getD ka Rec.z).text)]), (137, po w3.hz 1), (138, lv1), (139, iv (k : Int)), (140, slAddr lv1 (k * 5)), (141, .agg #[iv ((l.getD k Rec.z).t), iv ((l.getD k Rec.z).kind), iv ((l.getD k Rec.z).a), iv ((l.getD k Rec.z).b), sv ((l.getD k Rec.z).text)]), (13, _), (14, _), (15, _), (19, _), (20, _), (4, _), (22, _), (23, _), (121, _), (122, _), (123, _), (25, _), (130, _), (131, _), (172, _), (132, _), (133, _), (134, _), (135, _), (27, _)] [] a := Z
   refine ab <| aK (k := 6) 8 [7] kr kr kr ?_
   refine wlv Z ((cc rfl rfl kr (eqRec ((l.getD ka Rec.z).t) ((l.getD ka Rec.z).kind) ((l.getD ka Rec.z).a) ((l.getD ka Rec.z).b) ((l.getD ka Rec.z).text) ((l.getD k Rec.z).t) ((l.getD k Rec.z).kind) ((l.getD k Rec.z).a) ((l.getD k Rec.z).b) ((l.getD k Rec.z).text) _)).asb (b' := decide ((l.getD ka Rec.z) = (l.getD k Rec.z))) rfx) fun a Z => wlm Z rfl fun a Z => ab ?_
   rcases Bool.eq_false_or_eq_true (decide ((l.getD ka Rec.z) = (l.getD k Rec.z))) with hb48 | hb48
   ·rw [hb48] at Z
    try simp only [qz] at hb48
    replace Z : Fr 174 [(13, pt w3.hz), (14, iv (l.length : Int)), (15, sv root), (19, iv (k : Int)), (20, v6), (4, v8), (22, s10), (23, v15), (121, (.slice (some ⟨b17, 0, none⟩) 2 2)), (122, iv 2), (123, iv 1), (25, pt w56.hz), (130, (.slice (some ⟨w58.hz, 0, none⟩) 3 3)), (131, iv 3), (172, iv 2), (132, iv 2), (133, .bool true), (134, slAddr (.slice (some ⟨w58.hz, 0, none⟩) 3 3) (2 * 1)), (135, s10), (27, s10), (136, .agg #[iv ((l.getD ka Rec.z).t), iv ((l.getD ka Rec.z).kind), iv ((l.getD ka Rec.z).a), iv ((l.getD ka Rec.z).b), sv ((l.getD ka Rec.z).text)]), (137, po w3.hz 1), (138, lv1), (139, iv (k : Int)), (140, slAddr lv1 (k * 5)), (141, .agg #[iv ((l.getD k Rec.z).t), iv ((l.getD k Rec.z).kind), iv ((l.getD k Rec.z).a), iv ((l.getD k Rec.z).b), sv ((l.getD k Rec.z).text)]), (142, .bool true), (143, .bool true)] [] a := Z.pick [13, 14, 15, 19, 20, 4, 22, 23, 121, 122, 123, 25, 130, 131, 172, 132, 133, 134, 135, 27, 136, 137, 138, 139, 140, 141, 142, 143]
    refine co (k := 8) 13 [8, 9, 10, 11, 12] Z kr kr kr rfx fun a Z => ?_
    replace Z : Fr 174 [(144, undef), (145, undef), (146, undef), (147, undef), (148, undef), (13, pt w3.hz), (14, iv (l.length : Int)), (15, sv root), (19, iv (k : Int)), (20, v6), (4, v8), (22, s10), (23, v15), (121, (.slice (some ⟨b17, 0, none⟩) 2 2)), (122, iv 2), (123, iv 1), (25, pt w56.hz), (130, (.slice (some ⟨w58.hz, 0, none⟩) 3 3)), (131, iv 3), (172, iv 2), (132, iv 2), (133, .bool true), (134, slAddr (.slice (some ⟨w58.hz, 0, none⟩) 3 3) (2 * 1)), (135, s10), (27, s10), (136, .agg #[iv ((l.getD ka Rec.z).t), iv ((l.getD ka Rec.z).kind), iv ((l.getD ka Rec.z).a), iv ((l.getD ka Rec.z).b), sv ((l.getD ka Rec.z).text)]), (137, po w3.hz 1), (138, lv1), (139, iv (k : Int)), (140, slAddr lv1 (k * 5)), (141, .agg #[iv ((l.getD k Rec.z).t), iv ((l.getD k Rec.z).kind), iv ((l.getD k Rec.z).a), iv ((l.getD k Rec.z).b), sv ((l.getD k Rec.z).text)]), (142, .bool true), (143, .bool true)] [] a := Z
    refine aK (k := 13) 16 [15] kr kr kr ?_
    refine wln Z fun a Z => wln Z fun a Z => wlv Z (aB rfl rfl) fun a Z => ab <| aO kr ?_
    refine hK86 _ _ ?_
    replace Z := Z.p17 13 14 15 19 20 4 22 23 121 122 123 25 130 131 132 27 151 rfl
    refine aC Z rfl ?_
    refine aE ?_
    exact ⟨Z.pick [13, 14, 15, 19, 20, 4, 22, 23, 121, 122, 123, 25, 130, 131, 132], Y.select [0, 1, 2, 3, 4, 5, 6, 7, 8] de⟩
   rw [hb48] at Z
   try simp only [qz] at hb48
   refine aP (k := 8) 13 [8, 9, 10, 11, 12] Z kr kr kr rfx ?_
   replace Z := Z.p28 13 14 15 19 20 4 22 23 121 122 123 25 130 131 172 132 133 134 135 27 136 137 138 139 140 141 142 143 rfl
   refine ay [] (fun i => match i with | _ => fun _ _ => False) 5 [[], [], [], [], []] [sv root, iv (l.length : Int), iv (k : Int), .agg #[iv ((l.getD ka Rec.z).t), iv ((l.getD ka Rec.z).kind), iv ((l.getD ka Rec.z).a), iv ((l.getD ka Rec.z).b), sv ((l.getD ka Rec.z).text)], s10] Z Y kr kr kr ?_ ?_ ?_
   ·intro i hi hiq
    match i, hi, hiq with
    | 0, _, _ => exact fun w Y => OpV.g (ai rfl)
    | 1, _, _ => exact fun w Y => OpV.g (ai rfl)
    | 2, _, _ => exact fun w Y => OpV.g (ai rfl)
    | 3, _, _ => exact fun w Y => OpV.g (aq (Y.g 1 rfl) rfl (isAgg27 _) (sizeOf27 _))
    | 4, _, _ => exact fun w Y => OpV.g (ai rfl)
   ·intro i hi
    exact absurd hi sm
   clear Z Y
   intro  a w84 Z Y
   replace Z : Fr 174 [(144, sv root), (145, iv (l.length : Int)), (146, iv (k : Int)), (147, .agg #[iv ((l.getD ka Rec.z).t), iv ((l.getD ka Rec.z).kind), iv ((l.getD ka Rec.z).a), iv ((l.getD ka Rec.z).b), sv ((l.getD ka Rec.z).text)]), (148, s10), (13, _), (14, _), (15, _), (19, _), (20, _), (4, _), (22, _), (23, _), (121, _), (122, _), (123, _), (25, _), (130, _), (131, _), (172, _), (132, _), (133, _), (134, _), (135, _), (27, _), (136, _), (137, _), (138, _), (139, _), (140, _), (141, _), (142, _), (143, _)] [] a := Z
   refine ab <| aK (k := 13) 16 [15] kr kr kr ?_
   refine aQ Z Y de rfl de rfl call29 rfl (bR root (l.length : Int) (k : Int) (l.getD ka Rec.z) s10 bt _ (Y.ow 4 rfl) om (by unfold i64; omega) (Y.keepb hk0)) ?_
   clear Z Y
   intro a w85 Z Y
   refine wly Z (aX rfl) fun a Z => wlv Z (aA rfl rfl) fun a Z => ab <| aO kr ?_
   refine hK86 _ _ ?_
   replace Z := Z.p17 13 14 15 19 20 4 22 23 121 122 123 25 130 131 132 27 151 rfl
   refine az Z rfl (fun hc49 => ?_) (fun hc49 => ?_)
   ·rw [hc49] at Z
    try simp only [qz] at hc49
    refine aE ?_
    exact ⟨Z.pick [13, 14, 15, 19, 20, 4, 22, 23, 121, 122, 123, 25, 130, 131, 132], Y.select [0, 1, 2, 3, 4, 5, 6, 7, 8] de⟩
   rw [hc49] at Z
   try simp only [qz] at hc49
   have hchk : checkB root (l.length : Int) (k : Int) (l.getD ka Rec.z) bt = true := by simpa using hc49
   have hck := bO hchk
   have hrl : (l.getD ka Rec.z).enc.length ≤ 300 := by have := cF (l.getD ka Rec.z); rwa [show eB (l.getD ka Rec.z) = (l.getD ka Rec.z).enc from if_pos hck.1] at this
   have hout : outB (hs ++ (wayH sha l.length k (l.getD ka Rec.z).enc bt).1.reverse) = true := by rw [← hhs]; exact bL hall hkl (by rw [hroot]; exact hchk) (by simpa using hb48)
   have houts : ∀ z ∈ hs ++ (wayH sha l.length k (l.getD ka Rec.z).enc bt).1.reverse, z.length ≤ 100000000 := by rw [← hhs]; exact ch hall hck.1 hck.2.1
   have hwc := cB (q := bt) (n := l.length) (i := k) (s := (l.getD ka Rec.z).enc) om
   have houtl : (hs ++ (wayH sha l.length k (l.getD ka Rec.z).enc bt).1.reverse).length ≤ 1000 := by rw [List.length_append]; omega
   refine ap <| hK85 _ _ <| aa fun K87 hK87 => wlv Z (aq (Y.g 1 rfl) rfl (isAgg27 _) (sizeOf27 _)) fun a Z => ak Z Y de call23 rfl (dX hck.1) ?_
   clear Z Y
   intro a w86 Z Y
   refine wlm Z rfl fun a Z => wlv Z (aj rfl rfl) fun a Z => wlv Z (aj rfl rfl) fun a Z => wla Z rfl fun a Z => wla Z rfl fun a Z => ab (hK87 _ _ ?_)
   replace Z := Z.p17 13 14 15 19 20 4 22 23 121 122 123 25 130 131 132 27 28 rfl
   refine aa fun K88 hK88 => wlm Z rfl fun a Z => wlm Z rfl fun a Z => wlm Z rfl fun a Z => wlm Z rfl fun a Z => aN Z Y de call33 rfl (cC ((l.getD ka Rec.z).enc) (by have := hrl; omega) _ l.length k s10 bt _ rfl (Y.ow 4 rfl) om om hck.2.1) ?_
   clear Z Y
   intro a w87 x51 hp Z Y
   revert x51 hp Z Y; rintro v50 hp Z Y
   clear hp
   replace Y : St No w0 [_, _, _, _, _, _, _, _, _, _] w87 := Y
   refine wlm Z rfl fun a Z => wlv Z (aj rfl rfl) fun a Z => wlv Z (aj rfl rfl) fun a Z => wla Z rfl fun a Z => wla Z rfl fun a Z => ab (hK88 _ _ ?_)
   replace Z := Z.p16 13 14 15 19 20 4 22 23 121 122 123 25 130 131 132 30 rfl
   refine aa fun K89 hK89 => ax (E := 9) (sz := 1) rfl [] kr sm rfl de de Z Y ?_
   clear Z Y
   intro a w88 Z Y
   refine wlm Z rfl fun a Z => aM (i := 0) (sT := 45) (inf := Tryd.t9) (z := .string (⟨#[]⟩)) rfl rfl rfl (Y.ow 5 rfl) underlying45 rfl rfl rfl rfl de (by first | (simp [Value.oneCell', yv, wv, sv]; done) | (intro e he u hu; obtain ⟨s, _, rfl⟩ := List.mem_map.1 he; rw [List.mem_singleton.1 hu]; rfl)) (by have hby : Tryd.t9.bytes = 16 := rfl; simp only [big, hby, List.length_append, List.length_map, List.length_cons, List.length_nil]; omega) (by have hby : Tryd.t9.bytes = 16 := rfl; simp only [big, hby, List.length_append, List.length_map, List.length_cons, List.length_nil]; omega) de Z Y ?_
   clear Z Y
   intro a w89 s52 Z Y
   rw [show ([]) ++ (hs.map fun s => [sv s]) = (hs.map fun s => [sv s]) from List.nil_append _] at Y
   refine wlm Z rfl fun a Z => aM (i := 0) (sT := 45) (inf := Tryd.t9) (z := .string (⟨#[]⟩)) rfl rfl rfl (Y.ow 1 rfl) underlying45 rfl rfl rfl rfl de (by first | (simp [Value.oneCell', yv, wv, sv]; done) | (intro e he u hu; obtain ⟨s, _, rfl⟩ := List.mem_map.1 he; rw [List.mem_singleton.1 hu]; rfl)) (by have hby : Tryd.t9.bytes = 16 := rfl; simp only [big, hby, List.length_append, List.length_map, List.length_cons, List.length_nil]; omega) (by have hby : Tryd.t9.bytes = 16 := rfl; simp only [big, hby, List.length_append, List.length_map, List.length_cons, List.length_nil]; omega) de Z Y ?_
   clear Z Y
   intro a w90 s53 Z Y
   rw [show (hs.map fun s => [sv s]) ++ (((wayH sha l.length k ((l.getD ka Rec.z).enc) bt).1.reverse).map fun s => [sv s]) = ((hs ++ ((wayH sha l.length k ((l.getD ka Rec.z).enc) bt).1.reverse)).map fun s => [sv s]) from List.map_append.symm] at Y
   refine ak Z Y de call34 rfl (bu hout (cA s53 (hs ++ (wayH sha l.length k (l.getD ka Rec.z).enc bt).1.reverse) _ (Y.ow 0 rfl) houts houtl)) ?_
   clear Z Y
   intro a w91 Z Y
   refine wlv Z ((aX rfl).asb (b' := false) rfl) fun a Z => ab (hK89 _ _ ?_)
   replace Z := Z.p16 13 14 15 19 20 4 22 23 121 122 123 25 130 131 132 171 rfl
   replace Y := Y.k9 2044 rfl
   refine aH Z rfl ?_
   refine ap ?_
   exact ⟨Z.pick [13, 14, 15, 19, 20, 4, 22, 23, 121, 122, 123, 25, 130, 131, 132], Y.select [0, 1, 2, 3, 4, 5, 6, 7, 8] de⟩
  rintro a w92 ⟨Z, Y⟩
  refine hK83 _ _ <| ao <| wlv Z ((aT rfl rfl de).asi (m' := 3) rfl) fun a Z => wlm Z rfl fun a Z => ab <| bf ?_
  refine aa fun K90 hK90 => wlv Z ((v_lt rfl rfl).asb (b' := false) rfl) fun a Z => ab (hK90 _ _ <| ac fun K91 hK91 => ?_)
  refine aH Z rfl ?_
  refine aE <| hK60 _ _ <| ao <| wlv Z ((aT rfl rfl de).asi (m' := 2) rfl) fun a Z => wlm Z rfl fun a Z => ab <| bf ?_
  refine aa fun K92 hK92 => wlv Z ((v_lt rfl rfl).asb (b' := false) rfl) fun a Z => ab (hK92 _ _ ?_)
  replace Z := Z.p12 13 14 15 19 20 4 22 23 121 122 123 124 rfl
  replace Y := Y.k7 508 rfl
  refine ac fun K93 hK93 => aH Z rfl ?_
  refine aE <| hK22 _ _ <| aa fun K94 hK94 => wla Z rfl fun a Z => ab (hK94 _ _ ?_)
  replace Z := Z.p1 12 rfl
  replace Y := Y.k1 64 rfl
  refine aw ?_
  refine ar Z results6 (ae rfl ag) ?_
  exact ⟨rfl, Y.ext⟩
 rw [hb11] at Z
 try simp only [qz] at hb11
 refine wln Z fun a Z => wln Z fun a Z => wln Z fun a Z => wlv Z (aA rfl rfl) fun a Z => ab (hK20 _ _ ?_)
 replace Z := Z.p11 5 9 12 13 14 15 19 20 4 22 93 rfl
 refine ck (fun a w => ∃ (bt : List By), (bt.length ≤ 4) ∧ Fr 174 [(5, iv at_), (9, pt w0.hz), (12, .bool false), (13, pt w3.hz), (14, iv (l.length : Int)), (15, sv root), (19, iv (k : Int)), (20, v6), (4, v8), (22, s10)] [] a ∧ St No w0 [own s10 9 1 (bt.map fun s => [sv s]), own v8 9 1 (qs.map fun s => [sv s]), own v6 9 1 (pf.map fun s => [sv s]), blk w3.hz [iv o, lv1] 25, own lv1 27 5 ((l).map Rec.cells), blk w0.hz [iv y0, iv y1, iv y2, iv y3] 37] w) ?_ ?_
 ·refine aH Z rfl ?_
  refine ap ?_
  exact ⟨pf, (by first | omega | (rw [List.length_set]; omega)), Z.pick [5, 9, 12, 13, 14, 15, 19, 20, 4, 22], Y.select [0, 1, 2, 3, 4, 5] de⟩
 rintro a w93 ⟨bt, hbt, Z, Y⟩
 refine hK19 _ _ <| aa fun K95 hK95 => wlv Z (aq (Y.g 3 rfl) rfl (isAgg25 _) (sizeOf25 _)) fun a Z => aN Z Y de call32 rfl (ln (Y.ow 4 rfl) om hall) ?_
 clear Z Y
 intro a w94 x55 hp Z Y
 revert x55 hp Z Y; rintro v54 hp Z Y
 clear hp
 replace Y : St No w0 [_, _, _, _, _, _, _] w94 := Y
 refine aN Z Y de call31 rfl (nR hhs (Y.ow 0 rfl) (by rw [bP]; omega) (fun s h => Nat.le_trans (dj hall s h) de)) ?_
 clear Z Y
 intro a w95 x57 hp Z Y
 revert x57 hp Z Y; rintro v56 hp Z Y
 clear hp
 replace Y : St No w0 [_, _, _, _, _, _, _, _] w95 := Y
 refine wla Z rfl fun a Z => ab (hK95 _ _ <| ac fun K96 hK96 => ?_)
 refine ac fun K97 hK97 => aI kr ?_
 replace Z : Fr 174 [(5, _), (9, _), (12, _), (13, _), (14, _), (15, _), (19, _), (20, _), (4, _), (22, _), (103, _), (104, _), (105, _), (23, _)] [] a := Z.pick [5, 9, 12, 13, 14, 15, 19, 20, 4, 22, 103, 104, 105, 23]
 refine ay [15] (fun i => match i with | 15 => pm (fun b : Nat => .slice (some ⟨b, 0, none⟩) 2 2) (fun b => [own (.slice (some ⟨b, 0, none⟩) 2 2) 27 5 [[iv ra.t, iv ra.kind, iv ra.a, iv ra.b, sv ra.text], [iv ((l.getD ka Rec.z).t), iv ((l.getD ka Rec.z).kind), iv ((l.getD ka Rec.z).a), iv ((l.getD ka Rec.z).b), sv ((l.getD ka Rec.z).text)]]]) (fun _ => True) | _ => fun _ _ => False) 18 [[], [0], [], [1, 2], [3], [4], [], [5, 6], [], [8], [], [], [10, 11], [9, 12], [13], [7, 14], [15], []] [po w3.hz 1, lv1, iv (k : Int), slAddr lv1 (k * 5), slAddr lv1 (k * 5 + 0), iv ((l.getD k Rec.z).t), .agg #[iv y0, iv y1, iv y2, iv y3], .agg #[iv ra.t, iv ra.kind, iv ra.a, iv ra.b, sv ra.text], po w3.hz 1, lv1, iv at_, iv (l.length : Int), iv (ka : Int), slAddr lv1 (ka * 5), .agg #[iv ((l.getD ka Rec.z).t), iv ((l.getD ka Rec.z).kind), iv ((l.getD ka Rec.z).a), iv ((l.getD ka Rec.z).b), sv ((l.getD ka Rec.z).text)], undef, iv 2, iv 0] Z Y kr kr kr ?_ ?_ ?_
 ·intro i hi hiq
  match i, hi, hiq with
  | 0, _, _ => exact fun w Y => OpV.g (al (v := po w3.hz 1) rfl kr)
  | 1, _, _ => exact fun w Y => OpV.g (ld Y 5 rfl rfl (isAgg23 _) rfl)
  | 2, _, _ => exact fun w Y => OpV.g (ai rfl)
  | 3, _, _ => exact fun w Y => OpV.g ((ah (i := (k : Int)) (sT := 23) (Y.ow 6 rfl) rfl rfl (runUnderlying23 _) (sizeOf27 _) om (by rw [List.length_map]; omega)).as (v' := slAddr lv1 (k * 5)) rfl)
  | 4, _, _ => exact fun w Y => OpV.g (ed (k := k * 5) (j := 0) (Y.ow 6 rfl) (i := k) (by rw [List.length_map]; omega) rfl (fun _ _ => by kernel_rfl))
  | 5, _, _ => exact fun w Y => OpV.g (au (u := iv ((l.getD k Rec.z).t)) (i := k) (j := 0) (Y.ow 6 rfl) (by rw [List.length_map]; omega) rfl (isAgg3 _) (by rw [bc Rec.z]; rfl))
  | 6, _, _ => exact fun w Y => OpV.g (aq (Y.g 7 rfl) rfl (isAgg37 _) (sizeOf37 _))
  | 7, _, _ => exact fun w Y => bh call15 rfl (lh hra (by unfold i64; omega) (by assumption) (by assumption) (by assumption) (by assumption))
  | 8, _, _ => exact fun w Y => OpV.g (al (v := po w3.hz 1) rfl kr)
  | 9, _, _ => exact fun w Y => OpV.g (ld Y 5 rfl rfl (isAgg23 _) rfl)
  | 10, _, _ => exact fun w Y => OpV.g (ai rfl)
  | 11, _, _ => exact fun w Y => OpV.g (ai rfl)
  | 12, _, _ => exact fun w Y => bh call19 rfl (dQ hka (fj at_ (l.length : Int) _ (by assumption) om))
  | 13, _, _ => exact fun w Y => OpV.g ((ah (i := (ka : Int)) (sT := 23) (Y.ow 6 rfl) rfl rfl (runUnderlying23 _) (sizeOf27 _) om (by rw [List.length_map]; omega)).as (v' := slAddr lv1 (ka * 5)) rfl)
  | 14, _, _ => exact fun w Y => OpV.g ((ba (Y.ow 6 rfl) (i := ka) (by rw [List.length_map]; omega) rfl (isAgg27 _) (sizeOf27 _)).as (v' := .agg #[iv ((l.getD ka Rec.z).t), iv ((l.getD ka Rec.z).kind), iv ((l.getD ka Rec.z).a), iv ((l.getD ka Rec.z).b), sv ((l.getD ka Rec.z).text)]) (by rw [bc Rec.z]; rfl))
  | 15, _, h => exact absurd sm h
  | 16, _, _ =>
   rintro _ _ ⟨b58, rfl, -, rfl⟩
   intro w Y
   exact OpV.g ((aG (sT := 23) (Y.ow 0 rfl) rfl rfl (runUnderlying23 _)).asi (m' := 2) rfx)
  | 17, _, _ => exact fun w Y => OpV.g (ai rfl)
  | i + 18, h, _ => exact absurd h om
 ·intro i hi
  simp only [List.mem_cons, List.not_mem_nil, or_false] at hi
  subst hi
  ·intro w Y
   exact aW (E := 27) (sz := 5) rfl [[iv ra.t, iv ra.kind, iv ra.a, iv ra.b, sv ra.text], [iv ((l.getD ka Rec.z).t), iv ((l.getD ka Rec.z).kind), iv ((l.getD ka Rec.z).a), iv ((l.getD ka Rec.z).b), sv ((l.getD ka Rec.z).text)]] (fun _ => by kernel_rfl) sm rfl de
 clear Z Y
 rintro _ _ ⟨b58, rfl, -, rfl⟩ a w96 Z Y
 replace Z : Fr 174 [(106, po w3.hz 1), (107, lv1), (108, iv (k : Int)), (109, slAddr lv1 (k * 5)), (110, slAddr lv1 (k * 5 + 0)), (111, iv ((l.getD k Rec.z).t)), (112, .agg #[iv y0, iv y1, iv y2, iv y3]), (113, .agg #[iv ra.t, iv ra.kind, iv ra.a, iv ra.b, sv ra.text]), (114, po w3.hz 1), (115, lv1), (116, iv at_), (117, iv (l.length : Int)), (118, iv (ka : Int)), (119, slAddr lv1 (ka * 5)), (120, .agg #[iv ((l.getD ka Rec.z).t), iv ((l.getD ka Rec.z).kind), iv ((l.getD ka Rec.z).a), iv ((l.getD ka Rec.z).b), sv ((l.getD ka Rec.z).text)]), (121, _), (122, iv 2), (123, iv 0), (5, _), (9, _), (12, _), (13, _), (14, _), (15, _), (19, _), (20, _), (4, _), (22, _), (103, _), (104, _), (105, _), (23, _)] [] a := Z
 replace Y : St No w0 [_, _, _, _, _, _, _, _, _] w96 := Y
 refine ab <| hK97 _ _ ?_
 replace Z := Z.p12 12 13 14 15 19 20 4 22 23 121 122 123 rfl
 replace Y := Y.k7 251 rfl
 refine am <| cJ 3 ?_
 refine bf ?_
 refine aa fun K98 hK98 => wlv Z ((v_lt rfl rfl).asb (b' := true) rfl) fun a Z => ab (hK98 _ _ <| ac fun K99 hK99 => ?_)
 refine aC Z rfl ?_
 refine ap <| hK99 _ _ <| ac fun K100 hK100 => am <| aa fun K101 hK101 => wlv Z ((ah (i := 0) (sT := 23) (Y.ow 0 rfl) rfl rfl (runUnderlying23 _) (sizeOf27 _) om sm).as (v' := slAddr (.slice (some ⟨b58, 0, none⟩) 2 2) (0 * 5)) rfl) fun a Z => wlv Z ((ba (Y.ow 0 rfl) (i := 0) sm rfl (isAgg27 _) (sizeOf27 _)).as (v' := .agg #[iv ra.t, iv ra.kind, iv ra.a, iv ra.b, sv ra.text]) rfx) fun a Z => aU Z Y de (zeroValue27 _) (cs := [iv 0, iv 0, iv 0, iv 0, .string (⟨#[]⟩)]) rfl ?_
 clear Z Y
 intro a w97 Z Y
 refine aJ 0 Z Y rfl rfl rfl (sizeOf27 _) rfl (lb rfl) (ds := [iv ra.t, iv ra.kind, iv ra.a, iv ra.b, sv ra.text]) rfl rfl ?_
 clear Z Y
 intro a w98 Z Y
 refine ab (hK101 _ _ <| aa fun K102 hK102 => ?_)
 refine wlm Z rfl fun a Z => wlm Z rfl fun a Z => wlm Z rfl fun a Z => ax (E := 45) (sz := 1) rfl [[v6], [v8], [s10]] (by obtain ⟨_, _, _, e0_⟩ := bM (Y.ow 5 rfl); obtain ⟨_, _, _, e1_⟩ := bM (Y.ow 4 rfl); obtain ⟨_, _, _, e2_⟩ := bM (Y.ow 3 rfl); rw [e0_, e1_, e2_]; kernel_rfl) sm rfl de de Z Y ?_
 clear Z Y
 intro a w99 Z Y
 refine wlv Z ((aG (sT := 59) (Y.ow 0 rfl) rfl rfl (runUnderlying59 _)).asi (m' := 3) rfx) fun a Z => wlm Z rfl fun a Z => ab (hK102 _ _ ?_)
 replace Z := Z.p16 12 13 14 15 19 20 4 22 23 121 122 123 25 130 131 132 rfl
 refine am <| cJ 4 ?_
 refine bf ?_
 refine aa fun K103 hK103 => wlv Z ((v_lt rfl rfl).asb (b' := true) rfl) fun a Z => ab (hK103 _ _ <| ac fun K104 hK104 => ?_)
 refine aC Z rfl ?_
 refine ap <| hK104 _ _ <| ac fun K105 hK105 => ?_
 refine ck (fun a w => Fr 174 [(13, pt w3.hz), (14, iv (l.length : Int)), (15, sv root), (19, iv (k : Int)), (20, v6), (4, v8), (22, s10), (23, v56), (121, (.slice (some ⟨b58, 0, none⟩) 2 2)), (122, iv 2), (123, iv 0), (25, pt w96.hz), (130, (.slice (some ⟨w98.hz, 0, none⟩) 3 3)), (131, iv 3), (132, iv 0)] [] a ∧ St No w0 [own (.slice (some ⟨w98.hz, 0, none⟩) 3 3) 45 1 ([[v6], [v8], [s10]]), blk w96.hz [iv ra.t, iv ra.kind, iv ra.a, iv ra.b, sv ra.text] 27, own (.slice (some ⟨b58, 0, none⟩) 2 2) 27 5 ([[iv ra.t, iv ra.kind, iv ra.a, iv ra.b, sv ra.text], [iv ((l.getD ka Rec.z).t), iv ((l.getD ka Rec.z).kind), iv ((l.getD ka Rec.z).a), iv ((l.getD ka Rec.z).b), sv ((l.getD ka Rec.z).text)]]), own v56 9 1 (hs.map fun s => [sv s]), own s10 9 1 (bt.map fun s => [sv s]), own v8 9 1 (qs.map fun s => [sv s]), own v6 9 1 (pf.map fun s => [sv s]), blk w3.hz [iv o, lv1] 25, own lv1 27 5 ((l).map Rec.cells)] w) ?_ ?_
 ·refine am <| aa fun K106 hK106 => wlv Z ((ah (i := 0) (sT := 59) (Y.ow 0 rfl) rfl rfl (runUnderlying59 _) (sizeOf45 _) om sm).as (v' := slAddr (.slice (some ⟨w98.hz, 0, none⟩) 3 3) (0 * 1)) rfl) fun a Z => wlv Z (au (u := v6) (i := 0) (j := 0) (Y.ow 0 rfl) sm rfl (isAgg45 _) rfx) fun a Z => wla Z rfl fun a Z => ab (hK106 _ _ <| ac fun K107 hK107 => ?_)
  refine ac fun K108 hK108 => aI kr (aL kr fun w100 hxz => ?_)
  replace Y := Y.grow hxz
  refine aP (k := 0) 6 [0, 5] Z kr kr kr rfx ?_
  replace Z := Z.p20 12 13 14 15 19 20 4 22 23 121 122 123 25 130 131 132 133 134 135 27 rfl
  refine ay [] (fun i => match i with | _ => fun _ _ => False) 6 [[], [], [1], [], [2, 3], [4]] [.agg #[iv ra.t, iv ra.kind, iv ra.a, iv ra.b, sv ra.text], po w3.hz 1, lv1, iv (k : Int), slAddr lv1 (k * 5), .agg #[iv ((l.getD k Rec.z).t), iv ((l.getD k Rec.z).kind), iv ((l.getD k Rec.z).a), iv ((l.getD k Rec.z).b), sv ((l.getD k Rec.z).text)]] Z Y kr kr kr ?_ ?_ ?_
  ·intro i hi hiq
   match i, hi, hiq with
   | 0, _, _ => exact fun w Y => OpV.g (aq (Y.g 1 rfl) rfl (isAgg27 _) (sizeOf27 _))
   | 1, _, _ => exact fun w Y => OpV.g (al (v := po w3.hz 1) rfl kr)
   | 2, _, _ => exact fun w Y => OpV.g (ld Y 7 rfl rfl (isAgg23 _) rfl)
   | 3, _, _ => exact fun w Y => OpV.g (ai rfl)
   | 4, _, _ => exact fun w Y => OpV.g ((ah (i := (k : Int)) (sT := 23) (Y.ow 8 rfl) rfl rfl (runUnderlying23 _) (sizeOf27 _) om (by rw [List.length_map]; omega)).as (v' := slAddr lv1 (k * 5)) rfl)
   | 5, _, _ => exact fun w Y => OpV.g ((ba (Y.ow 8 rfl) (i := k) (by rw [List.length_map]; omega) rfl (isAgg27 _) (sizeOf27 _)).as (v' := .agg #[iv ((l.getD k Rec.z).t), iv ((l.getD k Rec.z).kind), iv ((l.getD k Rec.z).a), iv ((l.getD k Rec.z).b), sv ((l.getD k Rec.z).text)]) (by rw [bc Rec.z]; rfl))
  ·intro i hi
   exact absurd hi sm
  clear Z Y
  intro  a w101 Z Y
  replace Z : Fr 174 [(136, .agg #[iv ra.t, iv ra.kind, iv ra.a, iv ra.b, sv ra.text]), (137, po w3.hz 1), (138, lv1), (139, iv (k : Int)), (140, slAddr lv1 (k * 5)), (141, .agg #[iv ((l.getD k Rec.z).t), iv ((l.getD k Rec.z).kind), iv ((l.getD k Rec.z).a), iv ((l.getD k Rec.z).b), sv ((l.getD k Rec.z).text)]), (12, _), (13, _), (14, _), (15, _), (19, _), (20, _), (4, _), (22, _), (23, _), (121, _), (122, _), (123, _), (25, _), (130, _), (131, _), (132, _), (133, _), (134, _), (135, _), (27, _)] [] a := Z
  refine ab <| aK (k := 6) 8 [7] kr kr kr ?_
  refine wlv Z ((cc rfl rfl kr (eqRec ra.t ra.kind ra.a ra.b ra.text ((l.getD k Rec.z).t) ((l.getD k Rec.z).kind) ((l.getD k Rec.z).a) ((l.getD k Rec.z).b) ((l.getD k Rec.z).text) _)).asb (b' := decide (ra = (l.getD k Rec.z))) rfx) fun a Z => wlm Z rfl fun a Z => ab ?_
  rcases Bool.eq_false_or_eq_true (decide (ra = (l.getD k Rec.z))) with hb59 | hb59
  ·rw [hb59] at Z
   try simp only [qz] at hb59
   replace Z : Fr 174 [(12, .bool false), (13, pt w3.hz), (14, iv (l.length : Int)), (15, sv root), (19, iv (k : Int)), (20, v6), (4, v8), (22, s10), (23, v56), (121, (.slice (some ⟨b58, 0, none⟩) 2 2)), (122, iv 2), (123, iv 0), (25, pt w96.hz), (130, (.slice (some ⟨w98.hz, 0, none⟩) 3 3)), (131, iv 3), (132, iv 0), (133, .bool true), (134, slAddr (.slice (some ⟨w98.hz, 0, none⟩) 3 3) (0 * 1)), (135, v6), (27, v6), (136, .agg #[iv ra.t, iv ra.kind, iv ra.a, iv ra.b, sv ra.text]), (137, po w3.hz 1), (138, lv1), (139, iv (k : Int)), (140, slAddr lv1 (k * 5)), (141, .agg #[iv ((l.getD k Rec.z).t), iv ((l.getD k Rec.z).kind), iv ((l.getD k Rec.z).a), iv ((l.getD k Rec.z).b), sv ((l.getD k Rec.z).text)]), (142, .bool true), (143, .bool true)] [] a := Z.pick [12, 13, 14, 15, 19, 20, 4, 22, 23, 121, 122, 123, 25, 130, 131, 132, 133, 134, 135, 27, 136, 137, 138, 139, 140, 141, 142, 143]
   refine co (k := 8) 13 [8, 9, 10, 11, 12] Z kr kr kr rfx fun a Z => ?_
   replace Z : Fr 174 [(144, undef), (145, undef), (146, undef), (147, undef), (148, undef), (12, .bool false), (13, pt w3.hz), (14, iv (l.length : Int)), (15, sv root), (19, iv (k : Int)), (20, v6), (4, v8), (22, s10), (23, v56), (121, (.slice (some ⟨b58, 0, none⟩) 2 2)), (122, iv 2), (123, iv 0), (25, pt w96.hz), (130, (.slice (some ⟨w98.hz, 0, none⟩) 3 3)), (131, iv 3), (132, iv 0), (133, .bool true), (134, slAddr (.slice (some ⟨w98.hz, 0, none⟩) 3 3) (0 * 1)), (135, v6), (27, v6), (136, .agg #[iv ra.t, iv ra.kind, iv ra.a, iv ra.b, sv ra.text]), (137, po w3.hz 1), (138, lv1), (139, iv (k : Int)), (140, slAddr lv1 (k * 5)), (141, .agg #[iv ((l.getD k Rec.z).t), iv ((l.getD k Rec.z).kind), iv ((l.getD k Rec.z).a), iv ((l.getD k Rec.z).b), sv ((l.getD k Rec.z).text)]), (142, .bool true), (143, .bool true)] [] a := Z
   refine aK (k := 13) 16 [15] kr kr kr ?_
   refine wln Z fun a Z => wln Z fun a Z => wlv Z (aB rfl rfl) fun a Z => ab <| aO kr ?_
   refine hK108 _ _ ?_
   replace Z := Z.p18 12 13 14 15 19 20 4 22 23 121 122 123 25 130 131 132 27 151 rfl
   refine aC Z rfl ?_
   refine aE ?_
   exact ⟨Z.pick [13, 14, 15, 19, 20, 4, 22, 23, 121, 122, 123, 25, 130, 131, 132], Y.select [0, 1, 2, 3, 4, 5, 6, 7, 8] de⟩
  rw [hb59] at Z
  try simp only [qz] at hb59
  refine aP (k := 8) 13 [8, 9, 10, 11, 12] Z kr kr kr rfx ?_
  replace Z := Z.p28 12 13 14 15 19 20 4 22 23 121 122 123 25 130 131 132 133 134 135 27 136 137 138 139 140 141 142 143 rfl
  refine ay [] (fun i => match i with | _ => fun _ _ => False) 5 [[], [], [], [], []] [sv root, iv (l.length : Int), iv (k : Int), .agg #[iv ra.t, iv ra.kind, iv ra.a, iv ra.b, sv ra.text], v6] Z Y kr kr kr ?_ ?_ ?_
  ·intro i hi hiq
   match i, hi, hiq with
   | 0, _, _ => exact fun w Y => OpV.g (ai rfl)
   | 1, _, _ => exact fun w Y => OpV.g (ai rfl)
   | 2, _, _ => exact fun w Y => OpV.g (ai rfl)
   | 3, _, _ => exact fun w Y => OpV.g (aq (Y.g 1 rfl) rfl (isAgg27 _) (sizeOf27 _))
   | 4, _, _ => exact fun w Y => OpV.g (ai rfl)
  ·intro i hi
   exact absurd hi sm
  clear Z Y
  intro  a w102 Z Y
  replace Z : Fr 174 [(144, sv root), (145, iv (l.length : Int)), (146, iv (k : Int)), (147, .agg #[iv ra.t, iv ra.kind, iv ra.a, iv ra.b, sv ra.text]), (148, v6), (12, _), (13, _), (14, _), (15, _), (19, _), (20, _), (4, _), (22, _), (23, _), (121, _), (122, _), (123, _), (25, _), (130, _), (131, _), (132, _), (133, _), (134, _), (135, _), (27, _), (136, _), (137, _), (138, _), (139, _), (140, _), (141, _), (142, _), (143, _)] [] a := Z
  refine ab <| aK (k := 13) 16 [15] kr kr kr ?_
  refine aQ Z Y de rfl de rfl call29 rfl (bR root (l.length : Int) (k : Int) ra v6 pf _ (Y.ow 6 rfl) om (by unfold i64; omega) (Y.keepb hk0)) ?_
  clear Z Y
  intro a w103 Z Y
  refine wly Z (aX rfl) fun a Z => wlv Z (aA rfl rfl) fun a Z => ab <| aO kr ?_
  refine hK108 _ _ ?_
  replace Z := Z.p18 12 13 14 15 19 20 4 22 23 121 122 123 25 130 131 132 27 151 rfl
  refine az Z rfl (fun hc60 => ?_) (fun hc60 => ?_)
  ·rw [hc60] at Z
   try simp only [qz] at hc60
   refine aE ?_
   exact ⟨Z.pick [13, 14, 15, 19, 20, 4, 22, 23, 121, 122, 123, 25, 130, 131, 132], Y.select [0, 1, 2, 3, 4, 5, 6, 7, 8] de⟩
  rw [hc60] at Z
  try simp only [qz] at hc60
  have hchk : checkB root (l.length : Int) (k : Int) ra pf = true := by simpa using hc60
  have hck := bO hchk
  have hrl : ra.enc.length ≤ 300 := by have := cF ra; rwa [show eB ra = ra.enc from if_pos hck.1] at this
  have hout : outB (hs ++ (wayH sha l.length k ra.enc pf).1.reverse) = true := by rw [← hhs]; exact bL hall hkl (by rw [hroot]; exact hchk) (by simpa using hb59)
  have houts : ∀ z ∈ hs ++ (wayH sha l.length k ra.enc pf).1.reverse, z.length ≤ 100000000 := by rw [← hhs]; exact ch hall hck.1 hck.2.1
  have hwc := cB (q := pf) (n := l.length) (i := k) (s := ra.enc) om
  have houtl : (hs ++ (wayH sha l.length k ra.enc pf).1.reverse).length ≤ 1000 := by rw [List.length_append]; omega
  refine ap <| hK107 _ _ <| aa fun K109 hK109 => wlv Z (aq (Y.g 1 rfl) rfl (isAgg27 _) (sizeOf27 _)) fun a Z => ak Z Y de call23 rfl (dX hck.1) ?_
  clear Z Y
  intro a w104 Z Y
  refine wlm Z rfl fun a Z => wlv Z (aj rfl rfl) fun a Z => wlv Z (aj rfl rfl) fun a Z => wla Z rfl fun a Z => wla Z rfl fun a Z => ab (hK109 _ _ ?_)
  replace Z := Z.p18 12 13 14 15 19 20 4 22 23 121 122 123 25 130 131 132 27 28 rfl
  refine aa fun K110 hK110 => wlm Z rfl fun a Z => wlm Z rfl fun a Z => wlm Z rfl fun a Z => wlm Z rfl fun a Z => aN Z Y de call33 rfl (cC ra.enc (by have := hrl; omega) _ l.length k v6 pf _ rfl (Y.ow 6 rfl) om om hck.2.1) ?_
  clear Z Y
  intro a w105 x62 hp Z Y
  revert x62 hp Z Y; rintro v61 hp Z Y
  clear hp
  replace Y : St No w0 [_, _, _, _, _, _, _, _, _, _] w105 := Y
  refine wlm Z rfl fun a Z => wlv Z (aj rfl rfl) fun a Z => wlv Z (aj rfl rfl) fun a Z => wla Z rfl fun a Z => wla Z rfl fun a Z => ab (hK110 _ _ ?_)
  replace Z := Z.p17 12 13 14 15 19 20 4 22 23 121 122 123 25 130 131 132 30 rfl
  refine aa fun K111 hK111 => ax (E := 9) (sz := 1) rfl [] kr sm rfl de de Z Y ?_
  clear Z Y
  intro a w106 Z Y
  refine wlm Z rfl fun a Z => aM (i := 0) (sT := 45) (inf := Tryd.t9) (z := .string (⟨#[]⟩)) rfl rfl rfl (Y.ow 5 rfl) underlying45 rfl rfl rfl rfl de (by first | (simp [Value.oneCell', yv, wv, sv]; done) | (intro e he u hu; obtain ⟨s, _, rfl⟩ := List.mem_map.1 he; rw [List.mem_singleton.1 hu]; rfl)) (by have hby : Tryd.t9.bytes = 16 := rfl; simp only [big, hby, List.length_append, List.length_map, List.length_cons, List.length_nil]; omega) (by have hby : Tryd.t9.bytes = 16 := rfl; simp only [big, hby, List.length_append, List.length_map, List.length_cons, List.length_nil]; omega) de Z Y ?_
  clear Z Y
  intro a w107 s63 Z Y
  rw [show ([]) ++ (hs.map fun s => [sv s]) = (hs.map fun s => [sv s]) from List.nil_append _] at Y
  refine wlm Z rfl fun a Z => aM (i := 0) (sT := 45) (inf := Tryd.t9) (z := .string (⟨#[]⟩)) rfl rfl rfl (Y.ow 1 rfl) underlying45 rfl rfl rfl rfl de (by first | (simp [Value.oneCell', yv, wv, sv]; done) | (intro e he u hu; obtain ⟨s, _, rfl⟩ := List.mem_map.1 he; rw [List.mem_singleton.1 hu]; rfl)) (by have hby : Tryd.t9.bytes = 16 := rfl; simp only [big, hby, List.length_append, List.length_map, List.length_cons, List.length_nil]; omega) (by have hby : Tryd.t9.bytes = 16 := rfl; simp only [big, hby, List.length_append, List.length_map, List.length_cons, List.length_nil]; omega) de Z Y ?_
  clear Z Y
  intro a w108 s64 Z Y
  rw [show (hs.map fun s => [sv s]) ++ (((wayH sha l.length k ra.enc pf).1.reverse).map fun s => [sv s]) = ((hs ++ ((wayH sha l.length k ra.enc pf).1.reverse)).map fun s => [sv s]) from List.map_append.symm] at Y
  refine ak Z Y de call34 rfl (bu hout (cA s64 (hs ++ (wayH sha l.length k ra.enc pf).1.reverse) _ (Y.ow 0 rfl) houts houtl)) ?_
  clear Z Y
  intro a w109 Z Y
  refine wlv Z ((aX rfl).asb (b' := false) rfl) fun a Z => ab (hK111 _ _ ?_)
  replace Z := Z.p17 12 13 14 15 19 20 4 22 23 121 122 123 25 130 131 132 171 rfl
  replace Y := Y.k9 2044 rfl
  refine aH Z rfl ?_
  refine ap ?_
  exact ⟨Z.pick [13, 14, 15, 19, 20, 4, 22, 23, 121, 122, 123, 25, 130, 131, 132], Y.select [0, 1, 2, 3, 4, 5, 6, 7, 8] de⟩
 rintro a w110 ⟨Z, Y⟩
 refine hK105 _ _ <| ao <| wlv Z ((aT rfl rfl de).asi (m' := 1) rfl) fun a Z => wlm Z rfl fun a Z => ab <| bf ?_
 refine aa fun K112 hK112 => wlv Z ((v_lt rfl rfl).asb (b' := true) rfl) fun a Z => ab (hK112 _ _ <| ac fun K113 hK113 => ?_)
 refine aC Z rfl ?_
 refine ap <| hK113 _ _ <| ac fun K114 hK114 => ?_
 refine ck (fun a w => Fr 174 [(13, pt w3.hz), (14, iv (l.length : Int)), (15, sv root), (19, iv (k : Int)), (20, v6), (4, v8), (22, s10), (23, v56), (121, (.slice (some ⟨b58, 0, none⟩) 2 2)), (122, iv 2), (123, iv 0), (25, pt w96.hz), (130, (.slice (some ⟨w98.hz, 0, none⟩) 3 3)), (131, iv 3), (132, iv 1)] [] a ∧ St No w0 [own (.slice (some ⟨w98.hz, 0, none⟩) 3 3) 45 1 ([[v6], [v8], [s10]]), blk w96.hz [iv ra.t, iv ra.kind, iv ra.a, iv ra.b, sv ra.text] 27, own (.slice (some ⟨b58, 0, none⟩) 2 2) 27 5 ([[iv ra.t, iv ra.kind, iv ra.a, iv ra.b, sv ra.text], [iv ((l.getD ka Rec.z).t), iv ((l.getD ka Rec.z).kind), iv ((l.getD ka Rec.z).a), iv ((l.getD ka Rec.z).b), sv ((l.getD ka Rec.z).text)]]), own v56 9 1 (hs.map fun s => [sv s]), own s10 9 1 (bt.map fun s => [sv s]), own v8 9 1 (qs.map fun s => [sv s]), own v6 9 1 (pf.map fun s => [sv s]), blk w3.hz [iv o, lv1] 25, own lv1 27 5 ((l).map Rec.cells)] w) ?_ ?_
 ·refine am <| aa fun K115 hK115 => wlv Z ((ah (i := 1) (sT := 59) (Y.ow 0 rfl) rfl rfl (runUnderlying59 _) (sizeOf45 _) om sm).as (v' := slAddr (.slice (some ⟨w98.hz, 0, none⟩) 3 3) (1 * 1)) rfl) fun a Z => wlv Z (au (u := v8) (i := 1) (j := 0) (Y.ow 0 rfl) sm rfl (isAgg45 _) rfx) fun a Z => wla Z rfl fun a Z => ab (hK115 _ _ <| ac fun K116 hK116 => ?_)
  refine ac fun K117 hK117 => aI kr (aL kr fun w111 hxz => ?_)
  replace Y := Y.grow hxz
  refine aP (k := 0) 6 [0, 5] Z kr kr kr rfx ?_
  replace Z := Z.p20 13 14 15 19 20 4 22 23 121 122 123 25 130 131 172 132 133 134 135 27 rfl
  refine ay [] (fun i => match i with | _ => fun _ _ => False) 6 [[], [], [1], [], [2, 3], [4]] [.agg #[iv ra.t, iv ra.kind, iv ra.a, iv ra.b, sv ra.text], po w3.hz 1, lv1, iv (k : Int), slAddr lv1 (k * 5), .agg #[iv ((l.getD k Rec.z).t), iv ((l.getD k Rec.z).kind), iv ((l.getD k Rec.z).a), iv ((l.getD k Rec.z).b), sv ((l.getD k Rec.z).text)]] Z Y kr kr kr ?_ ?_ ?_
  ·intro i hi hiq
   match i, hi, hiq with
   | 0, _, _ => exact fun w Y => OpV.g (aq (Y.g 1 rfl) rfl (isAgg27 _) (sizeOf27 _))
   | 1, _, _ => exact fun w Y => OpV.g (al (v := po w3.hz 1) rfl kr)
   | 2, _, _ => exact fun w Y => OpV.g (ld Y 7 rfl rfl (isAgg23 _) rfl)
   | 3, _, _ => exact fun w Y => OpV.g (ai rfl)
   | 4, _, _ => exact fun w Y => OpV.g ((ah (i := (k : Int)) (sT := 23) (Y.ow 8 rfl) rfl rfl (runUnderlying23 _) (sizeOf27 _) om (by rw [List.length_map]; omega)).as (v' := slAddr lv1 (k * 5)) rfl)
   | 5, _, _ => exact fun w Y => OpV.g ((ba (Y.ow 8 rfl) (i := k) (by rw [List.length_map]; omega) rfl (isAgg27 _) (sizeOf27 _)).as (v' := .agg #[iv ((l.getD k Rec.z).t), iv ((l.getD k Rec.z).kind), iv ((l.getD k Rec.z).a), iv ((l.getD k Rec.z).b), sv ((l.getD k Rec.z).text)]) (by rw [bc Rec.z]; rfl))
  ·intro i hi
   exact absurd hi sm
  clear Z Y
  intro  a w112 Z Y
  replace Z : Fr 174 [(136, .agg #[iv ra.t, iv ra.kind, iv ra.a, iv ra.b, sv ra.text]), (137, po w3.hz 1), (138, lv1), (139, iv (k : Int)), (140, slAddr lv1 (k * 5)), (141, .agg #[iv ((l.getD k Rec.z).t), iv ((l.getD k Rec.z).kind), iv ((l.getD k Rec.z).a), iv ((l.getD k Rec.z).b), sv ((l.getD k Rec.z).text)]), (13, _), (14, _), (15, _), (19, _), (20, _), (4, _), (22, _), (23, _), (121, _), (122, _), (123, _), (25, _), (130, _), (131, _), (172, _), (132, _), (133, _), (134, _), (135, _), (27, _)] [] a := Z
  refine ab <| aK (k := 6) 8 [7] kr kr kr ?_
  refine wlv Z ((cc rfl rfl kr (eqRec ra.t ra.kind ra.a ra.b ra.text ((l.getD k Rec.z).t) ((l.getD k Rec.z).kind) ((l.getD k Rec.z).a) ((l.getD k Rec.z).b) ((l.getD k Rec.z).text) _)).asb (b' := decide (ra = (l.getD k Rec.z))) rfx) fun a Z => wlm Z rfl fun a Z => ab ?_
  rcases Bool.eq_false_or_eq_true (decide (ra = (l.getD k Rec.z))) with hb65 | hb65
  ·rw [hb65] at Z
   try simp only [qz] at hb65
   replace Z : Fr 174 [(13, pt w3.hz), (14, iv (l.length : Int)), (15, sv root), (19, iv (k : Int)), (20, v6), (4, v8), (22, s10), (23, v56), (121, (.slice (some ⟨b58, 0, none⟩) 2 2)), (122, iv 2), (123, iv 0), (25, pt w96.hz), (130, (.slice (some ⟨w98.hz, 0, none⟩) 3 3)), (131, iv 3), (172, iv 1), (132, iv 1), (133, .bool true), (134, slAddr (.slice (some ⟨w98.hz, 0, none⟩) 3 3) (1 * 1)), (135, v8), (27, v8), (136, .agg #[iv ra.t, iv ra.kind, iv ra.a, iv ra.b, sv ra.text]), (137, po w3.hz 1), (138, lv1), (139, iv (k : Int)), (140, slAddr lv1 (k * 5)), (141, .agg #[iv ((l.getD k Rec.z).t), iv ((l.getD k Rec.z).kind), iv ((l.getD k Rec.z).a), iv ((l.getD k Rec.z).b), sv ((l.getD k Rec.z).text)]), (142, .bool true), (143, .bool true)] [] a := Z.pick [13, 14, 15, 19, 20, 4, 22, 23, 121, 122, 123, 25, 130, 131, 172, 132, 133, 134, 135, 27, 136, 137, 138, 139, 140, 141, 142, 143]
   refine co (k := 8) 13 [8, 9, 10, 11, 12] Z kr kr kr rfx fun a Z => ?_
   replace Z : Fr 174 [(144, undef), (145, undef), (146, undef), (147, undef), (148, undef), (13, pt w3.hz), (14, iv (l.length : Int)), (15, sv root), (19, iv (k : Int)), (20, v6), (4, v8), (22, s10), (23, v56), (121, (.slice (some ⟨b58, 0, none⟩) 2 2)), (122, iv 2), (123, iv 0), (25, pt w96.hz), (130, (.slice (some ⟨w98.hz, 0, none⟩) 3 3)), (131, iv 3), (172, iv 1), (132, iv 1), (133, .bool true), (134, slAddr (.slice (some ⟨w98.hz, 0, none⟩) 3 3) (1 * 1)), (135, v8), (27, v8), (136, .agg #[iv ra.t, iv ra.kind, iv ra.a, iv ra.b, sv ra.text]), (137, po w3.hz 1), (138, lv1), (139, iv (k : Int)), (140, slAddr lv1 (k * 5)), (141, .agg #[iv ((l.getD k Rec.z).t), iv ((l.getD k Rec.z).kind), iv ((l.getD k Rec.z).a), iv ((l.getD k Rec.z).b), sv ((l.getD k Rec.z).text)]), (142, .bool true), (143, .bool true)] [] a := Z
   refine aK (k := 13) 16 [15] kr kr kr ?_
   refine wln Z fun a Z => wln Z fun a Z => wlv Z (aB rfl rfl) fun a Z => ab <| aO kr ?_
   refine hK117 _ _ ?_
   replace Z := Z.p17 13 14 15 19 20 4 22 23 121 122 123 25 130 131 132 27 151 rfl
   refine aC Z rfl ?_
   refine aE ?_
   exact ⟨Z.pick [13, 14, 15, 19, 20, 4, 22, 23, 121, 122, 123, 25, 130, 131, 132], Y.select [0, 1, 2, 3, 4, 5, 6, 7, 8] de⟩
  rw [hb65] at Z
  try simp only [qz] at hb65
  refine aP (k := 8) 13 [8, 9, 10, 11, 12] Z kr kr kr rfx ?_
  replace Z := Z.p28 13 14 15 19 20 4 22 23 121 122 123 25 130 131 172 132 133 134 135 27 136 137 138 139 140 141 142 143 rfl
  refine ay [] (fun i => match i with | _ => fun _ _ => False) 5 [[], [], [], [], []] [sv root, iv (l.length : Int), iv (k : Int), .agg #[iv ra.t, iv ra.kind, iv ra.a, iv ra.b, sv ra.text], v8] Z Y kr kr kr ?_ ?_ ?_
  ·intro i hi hiq
   match i, hi, hiq with
   | 0, _, _ => exact fun w Y => OpV.g (ai rfl)
   | 1, _, _ => exact fun w Y => OpV.g (ai rfl)
   | 2, _, _ => exact fun w Y => OpV.g (ai rfl)
   | 3, _, _ => exact fun w Y => OpV.g (aq (Y.g 1 rfl) rfl (isAgg27 _) (sizeOf27 _))
   | 4, _, _ => exact fun w Y => OpV.g (ai rfl)
  ·intro i hi
   exact absurd hi sm
  clear Z Y
  intro  a w113 Z Y
  replace Z : Fr 174 [(144, sv root), (145, iv (l.length : Int)), (146, iv (k : Int)), (147, .agg #[iv ra.t, iv ra.kind, iv ra.a, iv ra.b, sv ra.text]), (148, v8), (13, _), (14, _), (15, _), (19, _), (20, _), (4, _), (22, _), (23, _), (121, _), (122, _), (123, _), (25, _), (130, _), (131, _), (172, _), (132, _), (133, _), (134, _), (135, _), (27, _), (136, _), (137, _), (138, _), (139, _), (140, _), (141, _), (142, _), (143, _)] [] a := Z
  refine ab <| aK (k := 13) 16 [15] kr kr kr ?_
  refine aQ Z Y de rfl de rfl call29 rfl (bR root (l.length : Int) (k : Int) ra v8 (qs) _ (Y.ow 5 rfl) om (by unfold i64; omega) (Y.keepb hk0)) ?_
  clear Z Y
  intro a w114 Z Y
  refine wly Z (aX rfl) fun a Z => wlv Z (aA rfl rfl) fun a Z => ab <| aO kr ?_
  refine hK117 _ _ ?_
  replace Z := Z.p17 13 14 15 19 20 4 22 23 121 122 123 25 130 131 132 27 151 rfl
  refine az Z rfl (fun hc66 => ?_) (fun hc66 => ?_)
  ·rw [hc66] at Z
   try simp only [qz] at hc66
   refine aE ?_
   exact ⟨Z.pick [13, 14, 15, 19, 20, 4, 22, 23, 121, 122, 123, 25, 130, 131, 132], Y.select [0, 1, 2, 3, 4, 5, 6, 7, 8] de⟩
  rw [hc66] at Z
  try simp only [qz] at hc66
  have hchk : checkB root (l.length : Int) (k : Int) ra (qs) = true := by simpa using hc66
  have hck := bO hchk
  have hrl : ra.enc.length ≤ 300 := by have := cF ra; rwa [show eB ra = ra.enc from if_pos hck.1] at this
  have hout : outB (hs ++ (wayH sha l.length k ra.enc (qs)).1.reverse) = true := by rw [← hhs]; exact bL hall hkl (by rw [hroot]; exact hchk) (by simpa using hb65)
  have houts : ∀ z ∈ hs ++ (wayH sha l.length k ra.enc (qs)).1.reverse, z.length ≤ 100000000 := by rw [← hhs]; exact ch hall hck.1 hck.2.1
  have hwc := cB (q := (qs)) (n := l.length) (i := k) (s := ra.enc) om
  have houtl : (hs ++ (wayH sha l.length k ra.enc (qs)).1.reverse).length ≤ 1000 := by rw [List.length_append]; omega
  refine ap <| hK116 _ _ <| aa fun K118 hK118 => wlv Z (aq (Y.g 1 rfl) rfl (isAgg27 _) (sizeOf27 _)) fun a Z => ak Z Y de call23 rfl (dX hck.1) ?_
  clear Z Y
  intro a w115 Z Y
  refine wlm Z rfl fun a Z => wlv Z (aj rfl rfl) fun a Z => wlv Z (aj rfl rfl) fun a Z => wla Z rfl fun a Z => wla Z rfl fun a Z => ab (hK118 _ _ ?_)
  replace Z := Z.p17 13 14 15 19 20 4 22 23 121 122 123 25 130 131 132 27 28 rfl
  refine aa fun K119 hK119 => wlm Z rfl fun a Z => wlm Z rfl fun a Z => wlm Z rfl fun a Z => wlm Z rfl fun a Z => aN Z Y de call33 rfl (cC ra.enc (by have := hrl; omega) _ l.length k v8 (qs) _ rfl (Y.ow 5 rfl) om om hck.2.1) ?_
  clear Z Y
  intro a w116 x68 hp Z Y
  revert x68 hp Z Y; rintro v67 hp Z Y
  clear hp
  replace Y : St No w0 [_, _, _, _, _, _, _, _, _, _] w116 := Y
  refine wlm Z rfl fun a Z => wlv Z (aj rfl rfl) fun a Z => wlv Z (aj rfl rfl) fun a Z => wla Z rfl fun a Z => wla Z rfl fun a Z => ab (hK119 _ _ ?_)
  replace Z := Z.p16 13 14 15 19 20 4 22 23 121 122 123 25 130 131 132 30 rfl
  refine aa fun K120 hK120 => ax (E := 9) (sz := 1) rfl [] kr sm rfl de de Z Y ?_
  clear Z Y
  intro a w117 Z Y
  refine wlm Z rfl fun a Z => aM (i := 0) (sT := 45) (inf := Tryd.t9) (z := .string (⟨#[]⟩)) rfl rfl rfl (Y.ow 5 rfl) underlying45 rfl rfl rfl rfl de (by first | (simp [Value.oneCell', yv, wv, sv]; done) | (intro e he u hu; obtain ⟨s, _, rfl⟩ := List.mem_map.1 he; rw [List.mem_singleton.1 hu]; rfl)) (by have hby : Tryd.t9.bytes = 16 := rfl; simp only [big, hby, List.length_append, List.length_map, List.length_cons, List.length_nil]; omega) (by have hby : Tryd.t9.bytes = 16 := rfl; simp only [big, hby, List.length_append, List.length_map, List.length_cons, List.length_nil]; omega) de Z Y ?_
  clear Z Y
  intro a w118 s69 Z Y
  rw [show ([]) ++ (hs.map fun s => [sv s]) = (hs.map fun s => [sv s]) from List.nil_append _] at Y
  refine wlm Z rfl fun a Z => aM (i := 0) (sT := 45) (inf := Tryd.t9) (z := .string (⟨#[]⟩)) rfl rfl rfl (Y.ow 1 rfl) underlying45 rfl rfl rfl rfl de (by first | (simp [Value.oneCell', yv, wv, sv]; done) | (intro e he u hu; obtain ⟨s, _, rfl⟩ := List.mem_map.1 he; rw [List.mem_singleton.1 hu]; rfl)) (by have hby : Tryd.t9.bytes = 16 := rfl; simp only [big, hby, List.length_append, List.length_map, List.length_cons, List.length_nil]; omega) (by have hby : Tryd.t9.bytes = 16 := rfl; simp only [big, hby, List.length_append, List.length_map, List.length_cons, List.length_nil]; omega) de Z Y ?_
  clear Z Y
  intro a w119 s70 Z Y
  rw [show (hs.map fun s => [sv s]) ++ (((wayH sha l.length k ra.enc (qs)).1.reverse).map fun s => [sv s]) = ((hs ++ ((wayH sha l.length k ra.enc (qs)).1.reverse)).map fun s => [sv s]) from List.map_append.symm] at Y
  refine ak Z Y de call34 rfl (bu hout (cA s70 (hs ++ (wayH sha l.length k ra.enc (qs)).1.reverse) _ (Y.ow 0 rfl) houts houtl)) ?_
  clear Z Y
  intro a w120 Z Y
  refine wlv Z ((aX rfl).asb (b' := false) rfl) fun a Z => ab (hK120 _ _ ?_)
  replace Z := Z.p16 13 14 15 19 20 4 22 23 121 122 123 25 130 131 132 171 rfl
  replace Y := Y.k9 2044 rfl
  refine aH Z rfl ?_
  refine ap ?_
  exact ⟨Z.pick [13, 14, 15, 19, 20, 4, 22, 23, 121, 122, 123, 25, 130, 131, 132], Y.select [0, 1, 2, 3, 4, 5, 6, 7, 8] de⟩
 rintro a w121 ⟨Z, Y⟩
 refine hK114 _ _ <| ao <| wlv Z ((aT rfl rfl de).asi (m' := 2) rfl) fun a Z => wlm Z rfl fun a Z => ab <| bf ?_
 refine aa fun K121 hK121 => wlv Z ((v_lt rfl rfl).asb (b' := true) rfl) fun a Z => ab (hK121 _ _ <| ac fun K122 hK122 => ?_)
 refine aC Z rfl ?_
 refine ap <| hK122 _ _ <| ac fun K123 hK123 => ?_
 refine ck (fun a w => Fr 174 [(13, pt w3.hz), (14, iv (l.length : Int)), (15, sv root), (19, iv (k : Int)), (20, v6), (4, v8), (22, s10), (23, v56), (121, (.slice (some ⟨b58, 0, none⟩) 2 2)), (122, iv 2), (123, iv 0), (25, pt w96.hz), (130, (.slice (some ⟨w98.hz, 0, none⟩) 3 3)), (131, iv 3), (132, iv 2)] [] a ∧ St No w0 [own (.slice (some ⟨w98.hz, 0, none⟩) 3 3) 45 1 ([[v6], [v8], [s10]]), blk w96.hz [iv ra.t, iv ra.kind, iv ra.a, iv ra.b, sv ra.text] 27, own (.slice (some ⟨b58, 0, none⟩) 2 2) 27 5 ([[iv ra.t, iv ra.kind, iv ra.a, iv ra.b, sv ra.text], [iv ((l.getD ka Rec.z).t), iv ((l.getD ka Rec.z).kind), iv ((l.getD ka Rec.z).a), iv ((l.getD ka Rec.z).b), sv ((l.getD ka Rec.z).text)]]), own v56 9 1 (hs.map fun s => [sv s]), own s10 9 1 (bt.map fun s => [sv s]), own v8 9 1 (qs.map fun s => [sv s]), own v6 9 1 (pf.map fun s => [sv s]), blk w3.hz [iv o, lv1] 25, own lv1 27 5 ((l).map Rec.cells)] w) ?_ ?_
 ·refine am <| aa fun K124 hK124 => wlv Z ((ah (i := 2) (sT := 59) (Y.ow 0 rfl) rfl rfl (runUnderlying59 _) (sizeOf45 _) om sm).as (v' := slAddr (.slice (some ⟨w98.hz, 0, none⟩) 3 3) (2 * 1)) rfl) fun a Z => wlv Z (au (u := s10) (i := 2) (j := 0) (Y.ow 0 rfl) sm rfl (isAgg45 _) rfx) fun a Z => wla Z rfl fun a Z => ab (hK124 _ _ <| ac fun K125 hK125 => ?_)
  refine ac fun K126 hK126 => aI kr (aL kr fun w122 hxz => ?_)
  replace Y := Y.grow hxz
  refine aP (k := 0) 6 [0, 5] Z kr kr kr rfx ?_
  replace Z := Z.p20 13 14 15 19 20 4 22 23 121 122 123 25 130 131 172 132 133 134 135 27 rfl
  refine ay [] (fun i => match i with | _ => fun _ _ => False) 6 [[], [], [1], [], [2, 3], [4]] [.agg #[iv ra.t, iv ra.kind, iv ra.a, iv ra.b, sv ra.text], po w3.hz 1, lv1, iv (k : Int), slAddr lv1 (k * 5), .agg #[iv ((l.getD k Rec.z).t), iv ((l.getD k Rec.z).kind), iv ((l.getD k Rec.z).a), iv ((l.getD k Rec.z).b), sv ((l.getD k Rec.z).text)]] Z Y kr kr kr ?_ ?_ ?_
  ·intro i hi hiq
   match i, hi, hiq with
   | 0, _, _ => exact fun w Y => OpV.g (aq (Y.g 1 rfl) rfl (isAgg27 _) (sizeOf27 _))
   | 1, _, _ => exact fun w Y => OpV.g (al (v := po w3.hz 1) rfl kr)
   | 2, _, _ => exact fun w Y => OpV.g (ld Y 7 rfl rfl (isAgg23 _) rfl)
   | 3, _, _ => exact fun w Y => OpV.g (ai rfl)
   | 4, _, _ => exact fun w Y => OpV.g ((ah (i := (k : Int)) (sT := 23) (Y.ow 8 rfl) rfl rfl (runUnderlying23 _) (sizeOf27 _) om (by rw [List.length_map]; omega)).as (v' := slAddr lv1 (k * 5)) rfl)
   | 5, _, _ => exact fun w Y => OpV.g ((ba (Y.ow 8 rfl) (i := k) (by rw [List.length_map]; omega) rfl (isAgg27 _) (sizeOf27 _)).as (v' := .agg #[iv ((l.getD k Rec.z).t), iv ((l.getD k Rec.z).kind), iv ((l.getD k Rec.z).a), iv ((l.getD k Rec.z).b), sv ((l.getD k Rec.z).text)]) (by rw [bc Rec.z]; rfl))
  ·intro i hi
   exact absurd hi sm
  clear Z Y
  intro  a w123 Z Y
  replace Z : Fr 174 [(136, .agg #[iv ra.t, iv ra.kind, iv ra.a, iv ra.b, sv ra.text]), (137, po w3.hz 1), (138, lv1), (139, iv (k : Int)), (140, slAddr lv1 (k * 5)), (141, .agg #[iv ((l.getD k Rec.z).t), iv ((l.getD k Rec.z).kind), iv ((l.getD k Rec.z).a), iv ((l.getD k Rec.z).b), sv ((l.getD k Rec.z).text)]), (13, _), (14, _), (15, _), (19, _), (20, _), (4, _), (22, _), (23, _), (121, _), (122, _), (123, _), (25, _), (130, _), (131, _), (172, _), (132, _), (133, _), (134, _), (135, _), (27, _)] [] a := Z
  refine ab <| aK (k := 6) 8 [7] kr kr kr ?_
  refine wlv Z ((cc rfl rfl kr (eqRec ra.t ra.kind ra.a ra.b ra.text ((l.getD k Rec.z).t) ((l.getD k Rec.z).kind) ((l.getD k Rec.z).a) ((l.getD k Rec.z).b) ((l.getD k Rec.z).text) _)).asb (b' := decide (ra = (l.getD k Rec.z))) rfx) fun a Z => wlm Z rfl fun a Z => ab ?_
  rcases Bool.eq_false_or_eq_true (decide (ra = (l.getD k Rec.z))) with hb71 | hb71
  ·rw [hb71] at Z
   try simp only [qz] at hb71
   replace Z : Fr 174 [(13, pt w3.hz), (14, iv (l.length : Int)), (15, sv root), (19, iv (k : Int)), (20, v6), (4, v8), (22, s10), (23, v56), (121, (.slice (some ⟨b58, 0, none⟩) 2 2)), (122, iv 2), (123, iv 0), (25, pt w96.hz), (130, (.slice (some ⟨w98.hz, 0, none⟩) 3 3)), (131, iv 3), (172, iv 2), (132, iv 2), (133, .bool true), (134, slAddr (.slice (some ⟨w98.hz, 0, none⟩) 3 3) (2 * 1)), (135, s10), (27, s10), (136, .agg #[iv ra.t, iv ra.kind, iv ra.a, iv ra.b, sv ra.text]), (137, po w3.hz 1), (138, lv1), (139, iv (k : Int)), (140, slAddr lv1 (k * 5)), (141, .agg #[iv ((l.getD k Rec.z).t), iv ((l.getD k Rec.z).kind), iv ((l.getD k Rec.z).a), iv ((l.getD k Rec.z).b), sv ((l.getD k Rec.z).text)]), (142, .bool true), (143, .bool true)] [] a := Z.pick [13, 14, 15, 19, 20, 4, 22, 23, 121, 122, 123, 25, 130, 131, 172, 132, 133, 134, 135, 27, 136, 137, 138, 139, 140, 141, 142, 143]
   refine co (k := 8) 13 [8, 9, 10, 11, 12] Z kr kr kr rfx fun a Z => ?_
   replace Z : Fr 174 [(144, undef), (145, undef), (146, undef), (147, undef), (148, undef), (13, pt w3.hz), (14, iv (l.length : Int)), (15, sv root), (19, iv (k : Int)), (20, v6), (4, v8), (22, s10), (23, v56), (121, (.slice (some ⟨b58, 0, none⟩) 2 2)), (122, iv 2), (123, iv 0), (25, pt w96.hz), (130, (.slice (some ⟨w98.hz, 0, none⟩) 3 3)), (131, iv 3), (172, iv 2), (132, iv 2), (133, .bool true), (134, slAddr (.slice (some ⟨w98.hz, 0, none⟩) 3 3) (2 * 1)), (135, s10), (27, s10), (136, .agg #[iv ra.t, iv ra.kind, iv ra.a, iv ra.b, sv ra.text]), (137, po w3.hz 1), (138, lv1), (139, iv (k : Int)), (140, slAddr lv1 (k * 5)), (141, .agg #[iv ((l.getD k Rec.z).t), iv ((l.getD k Rec.z).kind), iv ((l.getD k Rec.z).a), iv ((l.getD k Rec.z).b), sv ((l.getD k Rec.z).text)]), (142, .bool true), (143, .bool true)] [] a := Z
   refine aK (k := 13) 16 [15] kr kr kr ?_
   refine wln Z fun a Z => wln Z fun a Z => wlv Z (aB rfl rfl) fun a Z => ab <| aO kr ?_
   refine hK126 _ _ ?_
   replace Z := Z.p17 13 14 15 19 20 4 22 23 121 122 123 25 130 131 132 27 151 rfl
   refine aC Z rfl ?_
   refine aE ?_
   exact ⟨Z.pick [13, 14, 15, 19, 20, 4, 22, 23, 121, 122, 123, 25, 130, 131, 132], Y.select [0, 1, 2, 3, 4, 5, 6, 7, 8] de⟩
  rw [hb71] at Z
  try simp only [qz] at hb71
  refine aP (k := 8) 13 [8, 9, 10, 11, 12] Z kr kr kr rfx ?_
  replace Z := Z.p28 13 14 15 19 20 4 22 23 121 122 123 25 130 131 172 132 133 134 135 27 136 137 138 139 140 141 142 143 rfl
  refine ay [] (fun i => match i with | _ => fun _ _ => False) 5 [[], [], [], [], []] [sv root, iv (l.length : Int), iv (k : Int), .agg #[iv ra.t, iv ra.kind, iv ra.a, iv ra.b, sv ra.text], s10] Z Y kr kr kr ?_ ?_ ?_
  ·intro i hi hiq
   match i, hi, hiq with
   | 0, _, _ => exact fun w Y => OpV.g (ai rfl)
   | 1, _, _ => exact fun w Y => OpV.g (ai rfl)
   | 2, _, _ => exact fun w Y => OpV.g (ai rfl)
   | 3, _, _ => exact fun w Y => OpV.g (aq (Y.g 1 rfl) rfl (isAgg27 _) (sizeOf27 _))
   | 4, _, _ => exact fun w Y => OpV.g (ai rfl)
  ·intro i hi
   exact absurd hi sm
  clear Z Y
  intro  a w124 Z Y
  replace Z : Fr 174 [(144, sv root), (145, iv (l.length : Int)), (146, iv (k : Int)), (147, .agg #[iv ra.t, iv ra.kind, iv ra.a, iv ra.b, sv ra.text]), (148, s10), (13, _), (14, _), (15, _), (19, _), (20, _), (4, _), (22, _), (23, _), (121, _), (122, _), (123, _), (25, _), (130, _), (131, _), (172, _), (132, _), (133, _), (134, _), (135, _), (27, _), (136, _), (137, _), (138, _), (139, _), (140, _), (141, _), (142, _), (143, _)] [] a := Z
  refine ab <| aK (k := 13) 16 [15] kr kr kr ?_
  refine aQ Z Y de rfl de rfl call29 rfl (bR root (l.length : Int) (k : Int) ra s10 bt _ (Y.ow 4 rfl) om (by unfold i64; omega) (Y.keepb hk0)) ?_
  clear Z Y
  intro a w125 Z Y
  refine wly Z (aX rfl) fun a Z => wlv Z (aA rfl rfl) fun a Z => ab <| aO kr ?_
  refine hK126 _ _ ?_
  replace Z := Z.p17 13 14 15 19 20 4 22 23 121 122 123 25 130 131 132 27 151 rfl
  refine az Z rfl (fun hc72 => ?_) (fun hc72 => ?_)
  ·rw [hc72] at Z
   try simp only [qz] at hc72
   refine aE ?_
   exact ⟨Z.pick [13, 14, 15, 19, 20, 4, 22, 23, 121, 122, 123, 25, 130, 131, 132], Y.select [0, 1, 2, 3, 4, 5, 6, 7, 8] de⟩
  rw [hc72] at Z
  try simp only [qz] at hc72
  have hchk : checkB root (l.length : Int) (k : Int) ra bt = true := by simpa using hc72
  have hck := bO hchk
  have hrl : ra.enc.length ≤ 300 := by have := cF ra; rwa [show eB ra = ra.enc from if_pos hck.1] at this
  have hout : outB (hs ++ (wayH sha l.length k ra.enc bt).1.reverse) = true := by rw [← hhs]; exact bL hall hkl (by rw [hroot]; exact hchk) (by simpa using hb71)
  have houts : ∀ z ∈ hs ++ (wayH sha l.length k ra.enc bt).1.reverse, z.length ≤ 100000000 := by rw [← hhs]; exact ch hall hck.1 hck.2.1
  have hwc := cB (q := bt) (n := l.length) (i := k) (s := ra.enc) om
  have houtl : (hs ++ (wayH sha l.length k ra.enc bt).1.reverse).length ≤ 1000 := by rw [List.length_append]; omega
  refine ap <| hK125 _ _ <| aa fun K127 hK127 => wlv Z (aq (Y.g 1 rfl) rfl (isAgg27 _) (sizeOf27 _)) fun a Z => ak Z Y de call23 rfl (dX hck.1) ?_
  clear Z Y
  intro a w126 Z Y
  refine wlm Z rfl fun a Z => wlv Z (aj rfl rfl) fun a Z => wlv Z (aj rfl rfl) fun a Z => wla Z rfl fun a Z => wla Z rfl fun a Z => ab (hK127 _ _ ?_)
  replace Z := Z.p17 13 14 15 19 20 4 22 23 121 122 123 25 130 131 132 27 28 rfl
  refine aa fun K128 hK128 => wlm Z rfl fun a Z => wlm Z rfl fun a Z => wlm Z rfl fun a Z => wlm Z rfl fun a Z => aN Z Y de call33 rfl (cC ra.enc (by have := hrl; omega) _ l.length k s10 bt _ rfl (Y.ow 4 rfl) om om hck.2.1) ?_
  clear Z Y
  intro a w127 x74 hp Z Y
  revert x74 hp Z Y; rintro v73 hp Z Y
  clear hp
  replace Y : St No w0 [_, _, _, _, _, _, _, _, _, _] w127 := Y
  refine wlm Z rfl fun a Z => wlv Z (aj rfl rfl) fun a Z => wlv Z (aj rfl rfl) fun a Z => wla Z rfl fun a Z => wla Z rfl fun a Z => ab (hK128 _ _ ?_)
  replace Z := Z.p16 13 14 15 19 20 4 22 23 121 122 123 25 130 131 132 30 rfl
  refine aa fun K129 hK129 => ax (E := 9) (sz := 1) rfl [] kr sm rfl de de Z Y ?_
  clear Z Y
  intro a w128 Z Y
  refine wlm Z rfl fun a Z => aM (i := 0) (sT := 45) (inf := Tryd.t9) (z := .string (⟨#[]⟩)) rfl rfl rfl (Y.ow 5 rfl) underlying45 rfl rfl rfl rfl de (by first | (simp [Value.oneCell', yv, wv, sv]; done) | (intro e he u hu; obtain ⟨s, _, rfl⟩ := List.mem_map.1 he; rw [List.mem_singleton.1 hu]; rfl)) (by have hby : Tryd.t9.bytes = 16 := rfl; simp only [big, hby, List.length_append, List.length_map, List.length_cons, List.length_nil]; omega) (by have hby : Tryd.t9.bytes = 16 := rfl; simp only [big, hby, List.length_append, List.length_map, List.length_cons, List.length_nil]; omega) de Z Y ?_
  clear Z Y
  intro a w129 s75 Z Y
  rw [show ([]) ++ (hs.map fun s => [sv s]) = (hs.map fun s => [sv s]) from List.nil_append _] at Y
  refine wlm Z rfl fun a Z => aM (i := 0) (sT := 45) (inf := Tryd.t9) (z := .string (⟨#[]⟩)) rfl rfl rfl (Y.ow 1 rfl) underlying45 rfl rfl rfl rfl de (by first | (simp [Value.oneCell', yv, wv, sv]; done) | (intro e he u hu; obtain ⟨s, _, rfl⟩ := List.mem_map.1 he; rw [List.mem_singleton.1 hu]; rfl)) (by have hby : Tryd.t9.bytes = 16 := rfl; simp only [big, hby, List.length_append, List.length_map, List.length_cons, List.length_nil]; omega) (by have hby : Tryd.t9.bytes = 16 := rfl; simp only [big, hby, List.length_append, List.length_map, List.length_cons, List.length_nil]; omega) de Z Y ?_
  clear Z Y
  intro a w130 s76 Z Y
  rw [show (hs.map fun s => [sv s]) ++ (((wayH sha l.length k ra.enc bt).1.reverse).map fun s => [sv s]) = ((hs ++ ((wayH sha l.length k ra.enc bt).1.reverse)).map fun s => [sv s]) from List.map_append.symm] at Y
  refine ak Z Y de call34 rfl (bu hout (cA s76 (hs ++ (wayH sha l.length k ra.enc bt).1.reverse) _ (Y.ow 0 rfl) houts houtl)) ?_
  clear Z Y
  intro a w131 Z Y
  refine wlv Z ((aX rfl).asb (b' := false) rfl) fun a Z => ab (hK129 _ _ ?_)
  replace Z := Z.p16 13 14 15 19 20 4 22 23 121 122 123 25 130 131 132 171 rfl
  replace Y := Y.k9 2044 rfl
  refine aH Z rfl ?_
  refine ap ?_
  exact ⟨Z.pick [13, 14, 15, 19, 20, 4, 22, 23, 121, 122, 123, 25, 130, 131, 132], Y.select [0, 1, 2, 3, 4, 5, 6, 7, 8] de⟩
 rintro a w132 ⟨Z, Y⟩
 refine hK123 _ _ <| ao <| wlv Z ((aT rfl rfl de).asi (m' := 3) rfl) fun a Z => wlm Z rfl fun a Z => ab <| bf ?_
 refine aa fun K130 hK130 => wlv Z ((v_lt rfl rfl).asb (b' := false) rfl) fun a Z => ab (hK130 _ _ <| ac fun K131 hK131 => ?_)
 refine aH Z rfl ?_
 refine aE <| hK100 _ _ <| ao <| wlv Z ((aT rfl rfl de).asi (m' := 1) rfl) fun a Z => wlm Z rfl fun a Z => ab <| bf ?_
 refine aa fun K132 hK132 => wlv Z ((v_lt rfl rfl).asb (b' := true) rfl) fun a Z => ab (hK132 _ _ ?_)
 replace Z := Z.p12 13 14 15 19 20 4 22 23 121 122 123 124 rfl
 replace Y := Y.k7 508 rfl
 refine ac fun K133 hK133 => aC Z rfl ?_
 refine ap <| hK133 _ _ <| ac fun K134 hK134 => am <| aa fun K135 hK135 => wlv Z ((ah (i := 1) (sT := 23) (Y.ow 0 rfl) rfl rfl (runUnderlying23 _) (sizeOf27 _) om sm).as (v' := slAddr (.slice (some ⟨b58, 0, none⟩) 2 2) (1 * 5)) rfl) fun a Z => wlv Z ((ba (Y.ow 0 rfl) (i := 1) sm rfl (isAgg27 _) (sizeOf27 _)).as (v' := .agg #[iv ((l.getD ka Rec.z).t), iv ((l.getD ka Rec.z).kind), iv ((l.getD ka Rec.z).a), iv ((l.getD ka Rec.z).b), sv ((l.getD ka Rec.z).text)]) rfx) fun a Z => aU Z Y de (zeroValue27 _) (cs := [iv 0, iv 0, iv 0, iv 0, .string (⟨#[]⟩)]) rfl ?_
 clear Z Y
 intro a w133 Z Y
 refine aJ 0 Z Y rfl rfl rfl (sizeOf27 _) rfl (lb rfl) (ds := [iv ((l.getD ka Rec.z).t), iv ((l.getD ka Rec.z).kind), iv ((l.getD ka Rec.z).a), iv ((l.getD ka Rec.z).b), sv ((l.getD ka Rec.z).text)]) rfl rfl ?_
 clear Z Y
 intro a w134 Z Y
 refine ab (hK135 _ _ <| aa fun K136 hK136 => ?_)
 refine wlm Z rfl fun a Z => wlm Z rfl fun a Z => wlm Z rfl fun a Z => ax (E := 45) (sz := 1) rfl [[v6], [v8], [s10]] (by obtain ⟨_, _, _, e0_⟩ := bM (Y.ow 5 rfl); obtain ⟨_, _, _, e1_⟩ := bM (Y.ow 4 rfl); obtain ⟨_, _, _, e2_⟩ := bM (Y.ow 3 rfl); rw [e0_, e1_, e2_]; kernel_rfl) sm rfl de de Z Y ?_
 clear Z Y
 intro a w135 Z Y
 refine wlv Z ((aG (sT := 59) (Y.ow 0 rfl) rfl rfl (runUnderlying59 _)).asi (m' := 3) rfx) fun a Z => wlm Z rfl fun a Z => ab (hK136 _ _ ?_)
 replace Z : Fr 174 [(13, _), (14, _), (15, _), (19, _), (20, _), (4, _), (22, _), (23, _), (121, _), (122, _), (123, _), (25, _), (130, _), (131, _), (132, _)] [] a := Z.pick [13, 14, 15, 19, 20, 4, 22, 23, 121, 122, 123, 25, 130, 131, 132]
 refine am <| cJ 4 ?_
 refine bf ?_
 refine aa fun K137 hK137 => wlv Z ((v_lt rfl rfl).asb (b' := true) rfl) fun a Z => ab (hK137 _ _ <| ac fun K138 hK138 => ?_)
 refine aC Z rfl ?_
 refine ap <| hK138 _ _ <| ac fun K139 hK139 => ?_
 refine ck (fun a w => Fr 174 [(13, pt w3.hz), (14, iv (l.length : Int)), (15, sv root), (19, iv (k : Int)), (20, v6), (4, v8), (22, s10), (23, v56), (121, (.slice (some ⟨b58, 0, none⟩) 2 2)), (122, iv 2), (123, iv 1), (25, pt w132.hz), (130, (.slice (some ⟨w134.hz, 0, none⟩) 3 3)), (131, iv 3), (132, iv 0)] [] a ∧ St No w0 [own (.slice (some ⟨w134.hz, 0, none⟩) 3 3) 45 1 ([[v6], [v8], [s10]]), blk w132.hz [iv ((l.getD ka Rec.z).t), iv ((l.getD ka Rec.z).kind), iv ((l.getD ka Rec.z).a), iv ((l.getD ka Rec.z).b), sv ((l.getD ka Rec.z).text)] 27, own (.slice (some ⟨b58, 0, none⟩) 2 2) 27 5 ([[iv ra.t, iv ra.kind, iv ra.a, iv ra.b, sv ra.text], [iv ((l.getD ka Rec.z).t), iv ((l.getD ka Rec.z).kind), iv ((l.getD ka Rec.z).a), iv ((l.getD ka Rec.z).b), sv ((l.getD ka Rec.z).text)]]), own v56 9 1 (hs.map fun s => [sv s]), own s10 9 1 (bt.map fun s => [sv s]), own v8 9 1 (qs.map fun s => [sv s]), own v6 9 1 (pf.map fun s => [sv s]), blk w3.hz [iv o, lv1] 25, own lv1 27 5 ((l).map Rec.cells)] w) ?_ ?_
 ·refine am <| aa fun K140 hK140 => wlv Z ((ah (i := 0) (sT := 59) (Y.ow 0 rfl) rfl rfl (runUnderlying59 _) (sizeOf45 _) om sm).as (v' := slAddr (.slice (some ⟨w134.hz, 0, none⟩) 3 3) (0 * 1)) rfl) fun a Z => wlv Z (au (u := v6) (i := 0) (j := 0) (Y.ow 0 rfl) sm rfl (isAgg45 _) rfx) fun a Z => wla Z rfl fun a Z => ab (hK140 _ _ <| ac fun K141 hK141 => ?_)
  refine ac fun K142 hK142 => aI kr (aL kr fun w136 hxz => ?_)
  replace Y := Y.grow hxz
  refine aP (k := 0) 6 [0, 5] Z kr kr kr rfx ?_
  replace Z : Fr 174 [(13, _), (14, _), (15, _), (19, _), (20, _), (4, _), (22, _), (23, _), (121, _), (122, _), (123, _), (25, _), (130, _), (131, _), (132, _), (133, _), (134, _), (135, _), (27, _)] [] a := Z.pick [13, 14, 15, 19, 20, 4, 22, 23, 121, 122, 123, 25, 130, 131, 132, 133, 134, 135, 27]
  refine ay [] (fun i => match i with | _ => fun _ _ => False) 6 [[], [], [1], [], [2, 3], [4]] [.agg #[iv ((l.getD ka Rec.z).t), iv ((l.getD ka Rec.z).kind), iv ((l.getD ka Rec.z).a), iv ((l.getD ka Rec.z).b), sv ((l.getD ka Rec.z).text)], po w3.hz 1, lv1, iv (k : Int), slAddr lv1 (k * 5), .agg #[iv ((l.getD k Rec.z).t), iv ((l.getD k Rec.z).kind), iv ((l.getD k Rec.z).a), iv ((l.getD k Rec.z).b), sv ((l.getD k Rec.z).text)]] Z Y kr kr kr ?_ ?_ ?_
  ·intro i hi hiq
   match i, hi, hiq with
   | 0, _, _ => exact fun w Y => OpV.g (aq (Y.g 1 rfl) rfl (isAgg27 _) (sizeOf27 _))
   | 1, _, _ => exact fun w Y => OpV.g (al (v := po w3.hz 1) rfl kr)
   | 2, _, _ => exact fun w Y => OpV.g (ld Y 7 rfl rfl (isAgg23 _) rfl)
   | 3, _, _ => exact fun w Y => OpV.g (ai rfl)
   | 4, _, _ => exact fun w Y => OpV.g ((ah (i := (k : Int)) (sT := 23) (Y.ow 8 rfl) rfl rfl (runUnderlying23 _) (sizeOf27 _) om (by rw [List.length_map]; omega)).as (v' := slAddr lv1 (k * 5)) rfl)
   | 5, _, _ => exact fun w Y => OpV.g ((ba (Y.ow 8 rfl) (i := k) (by rw [List.length_map]; omega) rfl (isAgg27 _) (sizeOf27 _)).as (v' := .agg #[iv ((l.getD k Rec.z).t), iv ((l.getD k Rec.z).kind), iv ((l.getD k Rec.z).a), iv ((l.getD k Rec.z).b), sv ((l.getD k Rec.z).text)]) (by rw [bc Rec.z]; rfl))
  ·intro i hi
   exact absurd hi sm
  clear Z Y
  intro  a w137 Z Y
  replace Z : Fr 174 [(136, .agg #[iv ((l.getD ka Rec.z).t), iv ((l.getD ka Rec.z).kind), iv ((l.getD ka Rec.z).a), iv ((l.getD ka Rec.z).b), sv ((l.getD ka Rec.z).text)]), (137, po w3.hz 1), (138, lv1), (139, iv (k : Int)), (140, slAddr lv1 (k * 5)), (141, .agg #[iv ((l.getD k Rec.z).t), iv ((l.getD k Rec.z).kind), iv ((l.getD k Rec.z).a), iv ((l.getD k Rec.z).b), sv ((l.getD k Rec.z).text)]), (13, _), (14, _), (15, _), (19, _), (20, _), (4, _), (22, _), (23, _), (121, _), (122, _), (123, _), (25, _), (130, _), (131, _), (132, _), (133, _), (134, _), (135, _), (27, _)] [] a := Z
  refine ab <| aK (k := 6) 8 [7] kr kr kr ?_
  refine wlv Z ((cc rfl rfl kr (eqRec ((l.getD ka Rec.z).t) ((l.getD ka Rec.z).kind) ((l.getD ka Rec.z).a) ((l.getD ka Rec.z).b) ((l.getD ka Rec.z).text) ((l.getD k Rec.z).t) ((l.getD k Rec.z).kind) ((l.getD k Rec.z).a) ((l.getD k Rec.z).b) ((l.getD k Rec.z).text) _)).asb (b' := decide ((l.getD ka Rec.z) = (l.getD k Rec.z))) rfx) fun a Z => wlm Z rfl fun a Z => ab ?_
  rcases Bool.eq_false_or_eq_true (decide ((l.getD ka Rec.z) = (l.getD k Rec.z))) with hb77 | hb77
  ·rw [hb77] at Z
   try simp only [qz] at hb77
   replace Z : Fr 174 [(13, pt w3.hz), (14, iv (l.length : Int)), (15, sv root), (19, iv (k : Int)), (20, v6), (4, v8), (22, s10), (23, v56), (121, (.slice (some ⟨b58, 0, none⟩) 2 2)), (122, iv 2), (123, iv 1), (25, pt w132.hz), (130, (.slice (some ⟨w134.hz, 0, none⟩) 3 3)), (131, iv 3), (132, iv 0), (133, .bool true), (134, slAddr (.slice (some ⟨w134.hz, 0, none⟩) 3 3) (0 * 1)), (135, v6), (27, v6), (136, .agg #[iv ((l.getD ka Rec.z).t), iv ((l.getD ka Rec.z).kind), iv ((l.getD ka Rec.z).a), iv ((l.getD ka Rec.z).b), sv ((l.getD ka Rec.z).text)]), (137, po w3.hz 1), (138, lv1), (139, iv (k : Int)), (140, slAddr lv1 (k * 5)), (141, .agg #[iv ((l.getD k Rec.z).t), iv ((l.getD k Rec.z).kind), iv ((l.getD k Rec.z).a), iv ((l.getD k Rec.z).b), sv ((l.getD k Rec.z).text)]), (142, .bool true), (143, .bool true)] [] a := Z.pick [13, 14, 15, 19, 20, 4, 22, 23, 121, 122, 123, 25, 130, 131, 132, 133, 134, 135, 27, 136, 137, 138, 139, 140, 141, 142, 143]
   refine co (k := 8) 13 [8, 9, 10, 11, 12] Z kr kr kr rfx fun a Z => ?_
   replace Z : Fr 174 [(144, undef), (145, undef), (146, undef), (147, undef), (148, undef), (13, pt w3.hz), (14, iv (l.length : Int)), (15, sv root), (19, iv (k : Int)), (20, v6), (4, v8), (22, s10), (23, v56), (121, (.slice (some ⟨b58, 0, none⟩) 2 2)), (122, iv 2), (123, iv 1), (25, pt w132.hz), (130, (.slice (some ⟨w134.hz, 0, none⟩) 3 3)), (131, iv 3), (132, iv 0), (133, .bool true), (134, slAddr (.slice (some ⟨w134.hz, 0, none⟩) 3 3) (0 * 1)), (135, v6), (27, v6), (136, .agg #[iv ((l.getD ka Rec.z).t), iv ((l.getD ka Rec.z).kind), iv ((l.getD ka Rec.z).a), iv ((l.getD ka Rec.z).b), sv ((l.getD ka Rec.z).text)]), (137, po w3.hz 1), (138, lv1), (139, iv (k : Int)), (140, slAddr lv1 (k * 5)), (141, .agg #[iv ((l.getD k Rec.z).t), iv ((l.getD k Rec.z).kind), iv ((l.getD k Rec.z).a), iv ((l.getD k Rec.z).b), sv ((l.getD k Rec.z).text)]), (142, .bool true), (143, .bool true)] [] a := Z
   refine aK (k := 13) 16 [15] kr kr kr ?_
   refine wln Z fun a Z => wln Z fun a Z => wlv Z (aB rfl rfl) fun a Z => ab <| aO kr ?_
   refine hK142 _ _ ?_
   replace Z := Z.p17 13 14 15 19 20 4 22 23 121 122 123 25 130 131 132 27 151 rfl
   refine aC Z rfl ?_
   refine aE ?_
   exact ⟨Z.pick [13, 14, 15, 19, 20, 4, 22, 23, 121, 122, 123, 25, 130, 131, 132], Y.select [0, 1, 2, 3, 4, 5, 6, 7, 8] de⟩
  rw [hb77] at Z
  try simp only [qz] at hb77
  refine aP (k := 8) 13 [8, 9, 10, 11, 12] Z kr kr kr rfx ?_
  replace Z : Fr 174 [(13, _), (14, _), (15, _), (19, _), (20, _), (4, _), (22, _), (23, _), (121, _), (122, _), (123, _), (25, _), (130, _), (131, _), (132, _), (133, _), (134, _), (135, _), (27, _), (136, _), (137, _), (138, _), (139, _), (140, _), (141, _), (142, _), (143, _)] [] a := Z.pick [13, 14, 15, 19, 20, 4, 22, 23, 121, 122, 123, 25, 130, 131, 132, 133, 134, 135, 27, 136, 137, 138, 139, 140, 141, 142, 143]
  refine ay [] (fun i => match i with | _ => fun _ _ => False) 5 [[], [], [], [], []] [sv root, iv (l.length : Int), iv (k : Int), .agg #[iv ((l.getD ka Rec.z).t), iv ((l.getD ka Rec.z).kind), iv ((l.getD ka Rec.z).a), iv ((l.getD ka Rec.z).b), sv ((l.getD ka Rec.z).text)], v6] Z Y kr kr kr ?_ ?_ ?_
  ·intro i hi hiq
   match i, hi, hiq with
   | 0, _, _ => exact fun w Y => OpV.g (ai rfl)
   | 1, _, _ => exact fun w Y => OpV.g (ai rfl)
   | 2, _, _ => exact fun w Y => OpV.g (ai rfl)
   | 3, _, _ => exact fun w Y => OpV.g (aq (Y.g 1 rfl) rfl (isAgg27 _) (sizeOf27 _))
   | 4, _, _ => exact fun w Y => OpV.g (ai rfl)
  ·intro i hi
   exact absurd hi sm
  clear Z Y
  intro  a w138 Z Y
  replace Z : Fr 174 [(144, sv root), (145, iv (l.length : Int)), (146, iv (k : Int)), (147, .agg #[iv ((l.getD ka Rec.z).t), iv ((l.getD ka Rec.z).kind), iv ((l.getD ka Rec.z).a), iv ((l.getD ka Rec.z).b), sv ((l.getD ka Rec.z).text)]), (148, v6), (13, _), (14, _), (15, _), (19, _), (20, _), (4, _), (22, _), (23, _), (121, _), (122, _), (123, _), (25, _), (130, _), (131, _), (132, _), (133, _), (134, _), (135, _), (27, _), (136, _), (137, _), (138, _), (139, _), (140, _), (141, _), (142, _), (143, _)] [] a := Z
  refine ab <| aK (k := 13) 16 [15] kr kr kr ?_
  refine aQ Z Y de rfl de rfl call29 rfl (bR root (l.length : Int) (k : Int) (l.getD ka Rec.z) v6 pf _ (Y.ow 6 rfl) om (by unfold i64; omega) (Y.keepb hk0)) ?_
  clear Z Y
  intro a w139 Z Y
  refine wly Z (aX rfl) fun a Z => wlv Z (aA rfl rfl) fun a Z => ab <| aO kr ?_
  refine hK142 _ _ ?_
  replace Z := Z.p17 13 14 15 19 20 4 22 23 121 122 123 25 130 131 132 27 151 rfl
  refine az Z rfl (fun hc78 => ?_) (fun hc78 => ?_)
  ·rw [hc78] at Z
   try simp only [qz] at hc78
   refine aE ?_
   exact ⟨Z.pick [13, 14, 15, 19, 20, 4, 22, 23, 121, 122, 123, 25, 130, 131, 132], Y.select [0, 1, 2, 3, 4, 5, 6, 7, 8] de⟩
  rw [hc78] at Z
  try simp only [qz] at hc78
  have hchk : checkB root (l.length : Int) (k : Int) (l.getD ka Rec.z) pf = true := by simpa using hc78
  have hck := bO hchk
  have hrl : (l.getD ka Rec.z).enc.length ≤ 300 := by have := cF (l.getD ka Rec.z); rwa [show eB (l.getD ka Rec.z) = (l.getD ka Rec.z).enc from if_pos hck.1] at this
  have hout : outB (hs ++ (wayH sha l.length k (l.getD ka Rec.z).enc pf).1.reverse) = true := by rw [← hhs]; exact bL hall hkl (by rw [hroot]; exact hchk) (by simpa using hb77)
  have houts : ∀ z ∈ hs ++ (wayH sha l.length k (l.getD ka Rec.z).enc pf).1.reverse, z.length ≤ 100000000 := by rw [← hhs]; exact ch hall hck.1 hck.2.1
  have hwc := cB (q := pf) (n := l.length) (i := k) (s := (l.getD ka Rec.z).enc) om
  have houtl : (hs ++ (wayH sha l.length k (l.getD ka Rec.z).enc pf).1.reverse).length ≤ 1000 := by rw [List.length_append]; omega
  refine ap <| hK141 _ _ <| aa fun K143 hK143 => wlv Z (aq (Y.g 1 rfl) rfl (isAgg27 _) (sizeOf27 _)) fun a Z => ak Z Y de call23 rfl (dX hck.1) ?_
  clear Z Y
  intro a w140 Z Y
  refine wlm Z rfl fun a Z => wlv Z (aj rfl rfl) fun a Z => wlv Z (aj rfl rfl) fun a Z => wla Z rfl fun a Z => wla Z rfl fun a Z => ab (hK143 _ _ ?_)
  replace Z := Z.p17 13 14 15 19 20 4 22 23 121 122 123 25 130 131 132 27 28 rfl
  refine aa fun K144 hK144 => wlm Z rfl fun a Z => wlm Z rfl fun a Z => wlm Z rfl fun a Z => wlm Z rfl fun a Z => aN Z Y de call33 rfl (cC ((l.getD ka Rec.z).enc) (by have := hrl; omega) _ l.length k v6 pf _ rfl (Y.ow 6 rfl) om om hck.2.1) ?_
  clear Z Y
  intro a w141 x80 hp Z Y
  revert x80 hp Z Y; rintro v79 hp Z Y
  clear hp
  replace Y : St No w0 [_, _, _, _, _, _, _, _, _, _] w141 := Y
  refine wlm Z rfl fun a Z => wlv Z (aj rfl rfl) fun a Z => wlv Z (aj rfl rfl) fun a Z => wla Z rfl fun a Z => wla Z rfl fun a Z => ab (hK144 _ _ ?_)
  replace Z := Z.p16 13 14 15 19 20 4 22 23 121 122 123 25 130 131 132 30 rfl
  refine aa fun K145 hK145 => ax (E := 9) (sz := 1) rfl [] kr sm rfl de de Z Y ?_
  clear Z Y
  intro a w142 Z Y
  refine wlm Z rfl fun a Z => aM (i := 0) (sT := 45) (inf := Tryd.t9) (z := .string (⟨#[]⟩)) rfl rfl rfl (Y.ow 5 rfl) underlying45 rfl rfl rfl rfl de (by first | (simp [Value.oneCell', yv, wv, sv]; done) | (intro e he u hu; obtain ⟨s, _, rfl⟩ := List.mem_map.1 he; rw [List.mem_singleton.1 hu]; rfl)) (by have hby : Tryd.t9.bytes = 16 := rfl; simp only [big, hby, List.length_append, List.length_map, List.length_cons, List.length_nil]; omega) (by have hby : Tryd.t9.bytes = 16 := rfl; simp only [big, hby, List.length_append, List.length_map, List.length_cons, List.length_nil]; omega) de Z Y ?_
  clear Z Y
  intro a w143 s81 Z Y
  rw [show ([]) ++ (hs.map fun s => [sv s]) = (hs.map fun s => [sv s]) from List.nil_append _] at Y
  refine wlm Z rfl fun a Z => aM (i := 0) (sT := 45) (inf := Tryd.t9) (z := .string (⟨#[]⟩)) rfl rfl rfl (Y.ow 1 rfl) underlying45 rfl rfl rfl rfl de (by first | (simp [Value.oneCell', yv, wv, sv]; done) | (intro e he u hu; obtain ⟨s, _, rfl⟩ := List.mem_map.1 he; rw [List.mem_singleton.1 hu]; rfl)) (by have hby : Tryd.t9.bytes = 16 := rfl; simp only [big, hby, List.length_append, List.length_map, List.length_cons, List.length_nil]; omega) (by have hby : Tryd.t9.bytes = 16 := rfl; simp only [big, hby, List.length_append, List.length_map, List.length_cons, List.length_nil]; omega) de Z Y ?_
  clear Z Y
  intro a w144 s82 Z Y
  rw [show (hs.map fun s => [sv s]) ++ (((wayH sha l.length k ((l.getD ka Rec.z).enc) pf).1.reverse).map fun s => [sv s]) = ((hs ++ ((wayH sha l.length k ((l.getD ka Rec.z).enc) pf).1.reverse)).map fun s => [sv s]) from List.map_append.symm] at Y
  refine ak Z Y de call34 rfl (bu hout (cA s82 (hs ++ (wayH sha l.length k (l.getD ka Rec.z).enc pf).1.reverse) _ (Y.ow 0 rfl) houts houtl)) ?_
  clear Z Y
  intro a w145 Z Y
  refine wlv Z ((aX rfl).asb (b' := false) rfl) fun a Z => ab (hK145 _ _ ?_)
  replace Z := Z.p16 13 14 15 19 20 4 22 23 121 122 123 25 130 131 132 171 rfl
  replace Y := Y.k9 2044 rfl
  refine aH Z rfl ?_
  refine ap ?_
  exact ⟨Z.pick [13, 14, 15, 19, 20, 4, 22, 23, 121, 122, 123, 25, 130, 131, 132], Y.select [0, 1, 2, 3, 4, 5, 6, 7, 8] de⟩
 rintro a w146 ⟨Z, Y⟩
 refine hK139 _ _ <| ao <| wlv Z ((aT rfl rfl de).asi (m' := 1) rfl) fun a Z => wlm Z rfl fun a Z => ab <| bf ?_
 refine aa fun K146 hK146 => wlv Z ((v_lt rfl rfl).asb (b' := true) rfl) fun a Z => ab (hK146 _ _ <| ac fun K147 hK147 => ?_)
 refine aC Z rfl ?_
 refine ap <| hK147 _ _ <| ac fun K148 hK148 => ?_
 refine ck (fun a w => Fr 174 [(13, pt w3.hz), (14, iv (l.length : Int)), (15, sv root), (19, iv (k : Int)), (20, v6), (4, v8), (22, s10), (23, v56), (121, (.slice (some ⟨b58, 0, none⟩) 2 2)), (122, iv 2), (123, iv 1), (25, pt w132.hz), (130, (.slice (some ⟨w134.hz, 0, none⟩) 3 3)), (131, iv 3), (132, iv 1)] [] a ∧ St No w0 [own (.slice (some ⟨w134.hz, 0, none⟩) 3 3) 45 1 ([[v6], [v8], [s10]]), blk w132.hz [iv ((l.getD ka Rec.z).t), iv ((l.getD ka Rec.z).kind), iv ((l.getD ka Rec.z).a), iv ((l.getD ka Rec.z).b), sv ((l.getD ka Rec.z).text)] 27, own (.slice (some ⟨b58, 0, none⟩) 2 2) 27 5 ([[iv ra.t, iv ra.kind, iv ra.a, iv ra.b, sv ra.text], [iv ((l.getD ka Rec.z).t), iv ((l.getD ka Rec.z).kind), iv ((l.getD ka Rec.z).a), iv ((l.getD ka Rec.z).b), sv ((l.getD ka Rec.z).text)]]), own v56 9 1 (hs.map fun s => [sv s]), own s10 9 1 (bt.map fun s => [sv s]), own v8 9 1 (qs.map fun s => [sv s]), own v6 9 1 (pf.map fun s => [sv s]), blk w3.hz [iv o, lv1] 25, own lv1 27 5 ((l).map Rec.cells)] w) ?_ ?_
 ·refine am <| aa fun K149 hK149 => wlv Z ((ah (i := 1) (sT := 59) (Y.ow 0 rfl) rfl rfl (runUnderlying59 _) (sizeOf45 _) om sm).as (v' := slAddr (.slice (some ⟨w134.hz, 0, none⟩) 3 3) (1 * 1)) rfl) fun a Z => wlv Z (au (u := v8) (i := 1) (j := 0) (Y.ow 0 rfl) sm rfl (isAgg45 _) rfx) fun a Z => wla Z rfl fun a Z => ab (hK149 _ _ <| ac fun K150 hK150 => ?_)
  refine ac fun K151 hK151 => aI kr (aL kr fun w147 hxz => ?_)
  replace Y := Y.grow hxz
  refine aP (k := 0) 6 [0, 5] Z kr kr kr rfx ?_
  replace Z := Z.p20 13 14 15 19 20 4 22 23 121 122 123 25 130 131 172 132 133 134 135 27 rfl
  refine ay [] (fun i => match i with | _ => fun _ _ => False) 6 [[], [], [1], [], [2, 3], [4]] [.agg #[iv ((l.getD ka Rec.z).t), iv ((l.getD ka Rec.z).kind), iv ((l.getD ka Rec.z).a), iv ((l.getD ka Rec.z).b), sv ((l.getD ka Rec.z).text)], po w3.hz 1, lv1, iv (k : Int), slAddr lv1 (k * 5), .agg #[iv ((l.getD k Rec.z).t), iv ((l.getD k Rec.z).kind), iv ((l.getD k Rec.z).a), iv ((l.getD k Rec.z).b), sv ((l.getD k Rec.z).text)]] Z Y kr kr kr ?_ ?_ ?_
  ·intro i hi hiq
   match i, hi, hiq with
   | 0, _, _ => exact fun w Y => OpV.g (aq (Y.g 1 rfl) rfl (isAgg27 _) (sizeOf27 _))
   | 1, _, _ => exact fun w Y => OpV.g (al (v := po w3.hz 1) rfl kr)
   | 2, _, _ => exact fun w Y => OpV.g (ld Y 7 rfl rfl (isAgg23 _) rfl)
   | 3, _, _ => exact fun w Y => OpV.g (ai rfl)
   | 4, _, _ => exact fun w Y => OpV.g ((ah (i := (k : Int)) (sT := 23) (Y.ow 8 rfl) rfl rfl (runUnderlying23 _) (sizeOf27 _) om (by rw [List.length_map]; omega)).as (v' := slAddr lv1 (k * 5)) rfl)
   | 5, _, _ => exact fun w Y => OpV.g ((ba (Y.ow 8 rfl) (i := k) (by rw [List.length_map]; omega) rfl (isAgg27 _) (sizeOf27 _)).as (v' := .agg #[iv ((l.getD k Rec.z).t), iv ((l.getD k Rec.z).kind), iv ((l.getD k Rec.z).a), iv ((l.getD k Rec.z).b), sv ((l.getD k Rec.z).text)]) (by rw [bc Rec.z]; rfl))
  ·intro i hi
   exact absurd hi sm
  clear Z Y
  intro  a w148 Z Y
  replace Z : Fr 174 [(136, .agg #[iv ((l.getD ka Rec.z).t), iv ((l.getD ka Rec.z).kind), iv ((l.getD ka Rec.z).a), iv ((l.getD ka Rec.z).b), sv ((l.getD ka Rec.z).text)]), (137, po w3.hz 1), (138, lv1), (139, iv (k : Int)), (140, slAddr lv1 (k * 5)), (141, .agg #[iv ((l.getD k Rec.z).t), iv ((l.getD k Rec.z).kind), iv ((l.getD k Rec.z).a), iv ((l.getD k Rec.z).b), sv ((l.getD k Rec.z).text)]), (13, _), (14, _), (15, _), (19, _), (20, _), (4, _), (22, _), (23, _), (121, _), (122, _), (123, _), (25, _), (130, _), (131, _), (172, _), (132, _), (133, _), (134, _), (135, _), (27, _)] [] a := Z
  refine ab <| aK (k := 6) 8 [7] kr kr kr ?_
  refine wlv Z ((cc rfl rfl kr (eqRec ((l.getD ka Rec.z).t) ((l.getD ka Rec.z).kind) ((l.getD ka Rec.z).a) ((l.getD ka Rec.z).b) ((l.getD ka Rec.z).text) ((l.getD k Rec.z).t) ((l.getD k Rec.z).kind) ((l.getD k Rec.z).a) ((l.getD k Rec.z).b) ((l.getD k Rec.z).text) _)).asb (b' := decide ((l.getD ka Rec.z) = (l.getD k Rec.z))) rfx) fun a Z => wlm Z rfl fun a Z => ab ?_
  rcases Bool.eq_false_or_eq_true (decide ((l.getD ka Rec.z) = (l.getD k Rec.z))) with hb83 | hb83
  ·rw [hb83] at Z
   try simp only [qz] at hb83
   replace Z : Fr 174 [(13, pt w3.hz), (14, iv (l.length : Int)), (15, sv root), (19, iv (k : Int)), (20, v6), (4, v8), (22, s10), (23, v56), (121, (.slice (some ⟨b58, 0, none⟩) 2 2)), (122, iv 2), (123, iv 1), (25, pt w132.hz), (130, (.slice (some ⟨w134.hz, 0, none⟩) 3 3)), (131, iv 3), (172, iv 1), (132, iv 1), (133, .bool true), (134, slAddr (.slice (some ⟨w134.hz, 0, none⟩) 3 3) (1 * 1)), (135, v8), (27, v8), (136, .agg #[iv ((l.getD ka Rec.z).t), iv ((l.getD ka Rec.z).kind), iv ((l.getD ka Rec.z).a), iv ((l.getD ka Rec.z).b), sv ((l.getD ka Rec.z).text)]), (137, po w3.hz 1), (138, lv1), (139, iv (k : Int)), (140, slAddr lv1 (k * 5)), (141, .agg #[iv ((l.getD k Rec.z).t), iv ((l.getD k Rec.z).kind), iv ((l.getD k Rec.z).a), iv ((l.getD k Rec.z).b), sv ((l.getD k Rec.z).text)]), (142, .bool true), (143, .bool true)] [] a := Z.pick [13, 14, 15, 19, 20, 4, 22, 23, 121, 122, 123, 25, 130, 131, 172, 132, 133, 134, 135, 27, 136, 137, 138, 139, 140, 141, 142, 143]
   refine co (k := 8) 13 [8, 9, 10, 11, 12] Z kr kr kr rfx fun a Z => ?_
   replace Z : Fr 174 [(144, undef), (145, undef), (146, undef), (147, undef), (148, undef), (13, pt w3.hz), (14, iv (l.length : Int)), (15, sv root), (19, iv (k : Int)), (20, v6), (4, v8), (22, s10), (23, v56), (121, (.slice (some ⟨b58, 0, none⟩) 2 2)), (122, iv 2), (123, iv 1), (25, pt w132.hz), (130, (.slice (some ⟨w134.hz, 0, none⟩) 3 3)), (131, iv 3), (172, iv 1), (132, iv 1), (133, .bool true), (134, slAddr (.slice (some ⟨w134.hz, 0, none⟩) 3 3) (1 * 1)), (135, v8), (27, v8), (136, .agg #[iv ((l.getD ka Rec.z).t), iv ((l.getD ka Rec.z).kind), iv ((l.getD ka Rec.z).a), iv ((l.getD ka Rec.z).b), sv ((l.getD ka Rec.z).text)]), (137, po w3.hz 1), (138, lv1), (139, iv (k : Int)), (140, slAddr lv1 (k * 5)), (141, .agg #[iv ((l.getD k Rec.z).t), iv ((l.getD k Rec.z).kind), iv ((l.getD k Rec.z).a), iv ((l.getD k Rec.z).b), sv ((l.getD k Rec.z).text)]), (142, .bool true), (143, .bool true)] [] a := Z
   refine aK (k := 13) 16 [15] kr kr kr ?_
   refine wln Z fun a Z => wln Z fun a Z => wlv Z (aB rfl rfl) fun a Z => ab <| aO kr ?_
   refine hK151 _ _ ?_
   replace Z := Z.p17 13 14 15 19 20 4 22 23 121 122 123 25 130 131 132 27 151 rfl
   refine aC Z rfl ?_
   refine aE ?_
   exact ⟨Z.pick [13, 14, 15, 19, 20, 4, 22, 23, 121, 122, 123, 25, 130, 131, 132], Y.select [0, 1, 2, 3, 4, 5, 6, 7, 8] de⟩
  rw [hb83] at Z
  try simp only [qz] at hb83
  refine aP (k := 8) 13 [8, 9, 10, 11, 12] Z kr kr kr rfx ?_
  replace Z := Z.p28 13 14 15 19 20 4 22 23 121 122 123 25 130 131 172 132 133 134 135 27 136 137 138 139 140 141 142 143 rfl
  refine ay [] (fun i => match i with | _ => fun _ _ => False) 5 [[], [], [], [], []] [sv root, iv (l.length : Int), iv (k : Int), .agg #[iv ((l.getD ka Rec.z).t), iv ((l.getD ka Rec.z).kind), iv ((l.getD ka Rec.z).a), iv ((l.getD ka Rec.z).b), sv ((l.getD ka Rec.z).text)], v8] Z Y kr kr kr ?_ ?_ ?_
  ·intro i hi hiq
   match i, hi, hiq with
   | 0, _, _ => exact fun w Y => OpV.g (ai rfl)
   | 1, _, _ => exact fun w Y => OpV.g (ai rfl)
   | 2, _, _ => exact fun w Y => OpV.g (ai rfl)
   | 3, _, _ => exact fun w Y => OpV.g (aq (Y.g 1 rfl) rfl (isAgg27 _) (sizeOf27 _))
   | 4, _, _ => exact fun w Y => OpV.g (ai rfl)
  ·intro i hi
   exact absurd hi sm
  clear Z Y
  intro  a w149 Z Y
  replace Z : Fr 174 [(144, sv root), (145, iv (l.length : Int)), (146, iv (k : Int)), (147, .agg #[iv ((l.getD ka Rec.z).t), iv ((l.getD ka Rec.z).kind), iv ((l.getD ka Rec.z).a), iv ((l.getD ka Rec.z).b), sv ((l.getD ka Rec.z).text)]), (148, v8), (13, _), (14, _), (15, _), (19, _), (20, _), (4, _), (22, _), (23, _), (121, _), (122, _), (123, _), (25, _), (130, _), (131, _), (172, _), (132, _), (133, _), (134, _), (135, _), (27, _), (136, _), (137, _), (138, _), (139, _), (140, _), (141, _), (142, _), (143, _)] [] a := Z
  refine ab <| aK (k := 13) 16 [15] kr kr kr ?_
  refine aQ Z Y de rfl de rfl call29 rfl (bR root (l.length : Int) (k : Int) (l.getD ka Rec.z) v8 (qs) _ (Y.ow 5 rfl) om (by unfold i64; omega) (Y.keepb hk0)) ?_
  clear Z Y
  intro a w150 Z Y
  refine wly Z (aX rfl) fun a Z => wlv Z (aA rfl rfl) fun a Z => ab <| aO kr ?_
  refine hK151 _ _ ?_
  replace Z := Z.p17 13 14 15 19 20 4 22 23 121 122 123 25 130 131 132 27 151 rfl
  refine az Z rfl (fun hc84 => ?_) (fun hc84 => ?_)
  ·rw [hc84] at Z
   try simp only [qz] at hc84
   refine aE ?_
   exact ⟨Z.pick [13, 14, 15, 19, 20, 4, 22, 23, 121, 122, 123, 25, 130, 131, 132], Y.select [0, 1, 2, 3, 4, 5, 6, 7, 8] de⟩
  rw [hc84] at Z
  try simp only [qz] at hc84
  have hchk : checkB root (l.length : Int) (k : Int) (l.getD ka Rec.z) (qs) = true := by simpa using hc84
  have hck := bO hchk
  have hrl : (l.getD ka Rec.z).enc.length ≤ 300 := by have := cF (l.getD ka Rec.z); rwa [show eB (l.getD ka Rec.z) = (l.getD ka Rec.z).enc from if_pos hck.1] at this
  have hout : outB (hs ++ (wayH sha l.length k (l.getD ka Rec.z).enc (qs)).1.reverse) = true := by rw [← hhs]; exact bL hall hkl (by rw [hroot]; exact hchk) (by simpa using hb83)
  have houts : ∀ z ∈ hs ++ (wayH sha l.length k (l.getD ka Rec.z).enc (qs)).1.reverse, z.length ≤ 100000000 := by rw [← hhs]; exact ch hall hck.1 hck.2.1
  have hwc := cB (q := (qs)) (n := l.length) (i := k) (s := (l.getD ka Rec.z).enc) om
  have houtl : (hs ++ (wayH sha l.length k (l.getD ka Rec.z).enc (qs)).1.reverse).length ≤ 1000 := by rw [List.length_append]; omega
  refine ap <| hK150 _ _ <| aa fun K152 hK152 => wlv Z (aq (Y.g 1 rfl) rfl (isAgg27 _) (sizeOf27 _)) fun a Z => ak Z Y de call23 rfl (dX hck.1) ?_
  clear Z Y
  intro a w151 Z Y
  refine wlm Z rfl fun a Z => wlv Z (aj rfl rfl) fun a Z => wlv Z (aj rfl rfl) fun a Z => wla Z rfl fun a Z => wla Z rfl fun a Z => ab (hK152 _ _ ?_)
  replace Z := Z.p17 13 14 15 19 20 4 22 23 121 122 123 25 130 131 132 27 28 rfl
  refine aa fun K153 hK153 => wlm Z rfl fun a Z => wlm Z rfl fun a Z => wlm Z rfl fun a Z => wlm Z rfl fun a Z => aN Z Y de call33 rfl (cC ((l.getD ka Rec.z).enc) (by have := hrl; omega) _ l.length k v8 (qs) _ rfl (Y.ow 5 rfl) om om hck.2.1) ?_
  clear Z Y
  intro a w152 x86 hp Z Y
  revert x86 hp Z Y; rintro v85 hp Z Y
  clear hp
  replace Y : St No w0 [_, _, _, _, _, _, _, _, _, _] w152 := Y
  refine wlm Z rfl fun a Z => wlv Z (aj rfl rfl) fun a Z => wlv Z (aj rfl rfl) fun a Z => wla Z rfl fun a Z => wla Z rfl fun a Z => ab (hK153 _ _ ?_)
  replace Z := Z.p16 13 14 15 19 20 4 22 23 121 122 123 25 130 131 132 30 rfl
  refine aa fun K154 hK154 => ax (E := 9) (sz := 1) rfl [] kr sm rfl de de Z Y ?_
  clear Z Y
  intro a w153 Z Y
  refine wlm Z rfl fun a Z => aM (i := 0) (sT := 45) (inf := Tryd.t9) (z := .string (⟨#[]⟩)) rfl rfl rfl (Y.ow 5 rfl) underlying45 rfl rfl rfl rfl de (by first | (simp [Value.oneCell', yv, wv, sv]; done) | (intro e he u hu; obtain ⟨s, _, rfl⟩ := List.mem_map.1 he; rw [List.mem_singleton.1 hu]; rfl)) (by have hby : Tryd.t9.bytes = 16 := rfl; simp only [big, hby, List.length_append, List.length_map, List.length_cons, List.length_nil]; omega) (by have hby : Tryd.t9.bytes = 16 := rfl; simp only [big, hby, List.length_append, List.length_map, List.length_cons, List.length_nil]; omega) de Z Y ?_
  clear Z Y
  intro a w154 s87 Z Y
  rw [show ([]) ++ (hs.map fun s => [sv s]) = (hs.map fun s => [sv s]) from List.nil_append _] at Y
  refine wlm Z rfl fun a Z => aM (i := 0) (sT := 45) (inf := Tryd.t9) (z := .string (⟨#[]⟩)) rfl rfl rfl (Y.ow 1 rfl) underlying45 rfl rfl rfl rfl de (by first | (simp [Value.oneCell', yv, wv, sv]; done) | (intro e he u hu; obtain ⟨s, _, rfl⟩ := List.mem_map.1 he; rw [List.mem_singleton.1 hu]; rfl)) (by have hby : Tryd.t9.bytes = 16 := rfl; simp only [big, hby, List.length_append, List.length_map, List.length_cons, List.length_nil]; omega) (by have hby : Tryd.t9.bytes = 16 := rfl; simp only [big, hby, List.length_append, List.length_map, List.length_cons, List.length_nil]; omega) de Z Y ?_
  clear Z Y
  intro a w155 s88 Z Y
  rw [show (hs.map fun s => [sv s]) ++ (((wayH sha l.length k ((l.getD ka Rec.z).enc) (qs)).1.reverse).map fun s => [sv s]) = ((hs ++ ((wayH sha l.length k ((l.getD ka Rec.z).enc) (qs)).1.reverse)).map fun s => [sv s]) from List.map_append.symm] at Y
  refine ak Z Y de call34 rfl (bu hout (cA s88 (hs ++ (wayH sha l.length k (l.getD ka Rec.z).enc (qs)).1.reverse) _ (Y.ow 0 rfl) houts houtl)) ?_
  clear Z Y
  intro a w156 Z Y
  refine wlv Z ((aX rfl).asb (b' := false) rfl) fun a Z => ab (hK154 _ _ ?_)
  replace Z := Z.p16 13 14 15 19 20 4 22 23 121 122 123 25 130 131 132 171 rfl
  replace Y := Y.k9 2044 rfl
  refine aH Z rfl ?_
  refine ap ?_
  exact ⟨Z.pick [13, 14, 15, 19, 20, 4, 22, 23, 121, 122, 123, 25, 130, 131, 132], Y.select [0, 1, 2, 3, 4, 5, 6, 7, 8] de⟩
 rintro a w157 ⟨Z, Y⟩
 refine hK148 _ _ <| ao <| wlv Z ((aT rfl rfl de).asi (m' := 2) rfl) fun a Z => wlm Z rfl fun a Z => ab <| bf ?_
 refine aa fun K155 hK155 => wlv Z ((v_lt rfl rfl).asb (b' := true) rfl) fun a Z => ab (hK155 _ _ <| ac fun K156 hK156 => ?_)
 refine aC Z rfl ?_
 refine ap <| hK156 _ _ <| ac fun K157 hK157 => ?_
 refine ck (fun a w => Fr 174 [(13, pt w3.hz), (14, iv (l.length : Int)), (15, sv root), (19, iv (k : Int)), (20, v6), (4, v8), (22, s10), (23, v56), (121, (.slice (some ⟨b58, 0, none⟩) 2 2)), (122, iv 2), (123, iv 1), (25, pt w132.hz), (130, (.slice (some ⟨w134.hz, 0, none⟩) 3 3)), (131, iv 3), (132, iv 2)] [] a ∧ St No w0 [own (.slice (some ⟨w134.hz, 0, none⟩) 3 3) 45 1 ([[v6], [v8], [s10]]), blk w132.hz [iv ((l.getD ka Rec.z).t), iv ((l.getD ka Rec.z).kind), iv ((l.getD ka Rec.z).a), iv ((l.getD ka Rec.z).b), sv ((l.getD ka Rec.z).text)] 27, own (.slice (some ⟨b58, 0, none⟩) 2 2) 27 5 ([[iv ra.t, iv ra.kind, iv ra.a, iv ra.b, sv ra.text], [iv ((l.getD ka Rec.z).t), iv ((l.getD ka Rec.z).kind), iv ((l.getD ka Rec.z).a), iv ((l.getD ka Rec.z).b), sv ((l.getD ka Rec.z).text)]]), own v56 9 1 (hs.map fun s => [sv s]), own s10 9 1 (bt.map fun s => [sv s]), own v8 9 1 (qs.map fun s => [sv s]), own v6 9 1 (pf.map fun s => [sv s]), blk w3.hz [iv o, lv1] 25, own lv1 27 5 ((l).map Rec.cells)] w) ?_ ?_
 ·refine am <| aa fun K158 hK158 => wlv Z ((ah (i := 2) (sT := 59) (Y.ow 0 rfl) rfl rfl (runUnderlying59 _) (sizeOf45 _) om sm).as (v' := slAddr (.slice (some ⟨w134.hz, 0, none⟩) 3 3) (2 * 1)) rfl) fun a Z => wlv Z (au (u := s10) (i := 2) (j := 0) (Y.ow 0 rfl) sm rfl (isAgg45 _) rfx) fun a Z => wla Z rfl fun a Z => ab (hK158 _ _ <| ac fun K159 hK159 => ?_)
  refine ac fun K160 hK160 => aI kr (aL kr fun w158 hxz => ?_)
  replace Y := Y.grow hxz
  refine aP (k := 0) 6 [0, 5] Z kr kr kr rfx ?_
  replace Z := Z.p20 13 14 15 19 20 4 22 23 121 122 123 25 130 131 172 132 133 134 135 27 rfl
  refine ay [] (fun i => match i with | _ => fun _ _ => False) 6 [[], [], [1], [], [2, 3], [4]] [.agg #[iv ((l.getD ka Rec.z).t), iv ((l.getD ka Rec.z).kind), iv ((l.getD ka Rec.z).a), iv ((l.getD ka Rec.z).b), sv ((l.getD ka Rec.z).text)], po w3.hz 1, lv1, iv (k : Int), slAddr lv1 (k * 5), .agg #[iv ((l.getD k Rec.z).t), iv ((l.getD k Rec.z).kind), iv ((l.getD k Rec.z).a), iv ((l.getD k Rec.z).b), sv ((l.getD k Rec.z).text)]] Z Y kr kr kr ?_ ?_ ?_
  ·intro i hi hiq
   match i, hi, hiq with
   | 0, _, _ => exact fun w Y => OpV.g (aq (Y.g 1 rfl) rfl (isAgg27 _) (sizeOf27 _))
   | 1, _, _ => exact fun w Y => OpV.g (al (v := po w3.hz 1) rfl kr)
   | 2, _, _ => exact fun w Y => OpV.g (ld Y 7 rfl rfl (isAgg23 _) rfl)
   | 3, _, _ => exact fun w Y => OpV.g (ai rfl)
   | 4, _, _ => exact fun w Y => OpV.g ((ah (i := (k : Int)) (sT := 23) (Y.ow 8 rfl) rfl rfl (runUnderlying23 _) (sizeOf27 _) om (by rw [List.length_map]; omega)).as (v' := slAddr lv1 (k * 5)) rfl)
   | 5, _, _ => exact fun w Y => OpV.g ((ba (Y.ow 8 rfl) (i := k) (by rw [List.length_map]; omega) rfl (isAgg27 _) (sizeOf27 _)).as (v' := .agg #[iv ((l.getD k Rec.z).t), iv ((l.getD k Rec.z).kind), iv ((l.getD k Rec.z).a), iv ((l.getD k Rec.z).b), sv ((l.getD k Rec.z).text)]) (by rw [bc Rec.z]; rfl))
  ·intro i hi
   exact absurd hi sm
  clear Z Y
  intro  a w159 Z Y
  replace Z : Fr 174 [(136, .agg #[iv ((l.getD ka Rec.z).t), iv ((l.getD ka Rec.z).kind), iv ((l.getD ka Rec.z).a), iv ((l.getD ka Rec.z).b), sv ((l.getD ka Rec.z).text)]), (137, po w3.hz 1), (138, lv1), (139, iv (k : Int)), (140, slAddr lv1 (k * 5)), (141, .agg #[iv ((l.getD k Rec.z).t), iv ((l.getD k Rec.z).kind), iv ((l.getD k Rec.z).a), iv ((l.getD k Rec.z).b), sv ((l.getD k Rec.z).text)]), (13, _), (14, _), (15, _), (19, _), (20, _), (4, _), (22, _), (23, _), (121, _), (122, _), (123, _), (25, _), (130, _), (131, _), (172, _), (132, _), (133, _), (134, _), (135, _), (27, _)] [] a := Z
  refine ab <| aK (k := 6) 8 [7] kr kr kr ?_
  refine wlv Z ((cc rfl rfl kr (eqRec ((l.getD ka Rec.z).t) ((l.getD ka Rec.z).kind) ((l.getD ka Rec.z).a) ((l.getD ka Rec.z).b) ((l.getD ka Rec.z).text) ((l.getD k Rec.z).t) ((l.getD k Rec.z).kind) ((l.getD k Rec.z).a) ((l.getD k Rec.z).b) ((l.getD k Rec.z).text) _)).asb (b' := decide ((l.getD ka Rec.z) = (l.getD k Rec.z))) rfx) fun a Z => wlm Z rfl fun a Z => ab ?_
  rcases Bool.eq_false_or_eq_true (decide ((l.getD ka Rec.z) = (l.getD k Rec.z))) with hb89 | hb89
  ·rw [hb89] at Z
   try simp only [qz] at hb89
   replace Z : Fr 174 [(13, pt w3.hz), (14, iv (l.length : Int)), (15, sv root), (19, iv (k : Int)), (20, v6), (4, v8), (22, s10), (23, v56), (121, (.slice (some ⟨b58, 0, none⟩) 2 2)), (122, iv 2), (123, iv 1), (25, pt w132.hz), (130, (.slice (some ⟨w134.hz, 0, none⟩) 3 3)), (131, iv 3), (172, iv 2), (132, iv 2), (133, .bool true), (134, slAddr (.slice (some ⟨w134.hz, 0, none⟩) 3 3) (2 * 1)), (135, s10), (27, s10), (136, .agg #[iv ((l.getD ka Rec.z).t), iv ((l.getD ka Rec.z).kind), iv ((l.getD ka Rec.z).a), iv ((l.getD ka Rec.z).b), sv ((l.getD ka Rec.z).text)]), (137, po w3.hz 1), (138, lv1), (139, iv (k : Int)), (140, slAddr lv1 (k * 5)), (141, .agg #[iv ((l.getD k Rec.z).t), iv ((l.getD k Rec.z).kind), iv ((l.getD k Rec.z).a), iv ((l.getD k Rec.z).b), sv ((l.getD k Rec.z).text)]), (142, .bool true), (143, .bool true)] [] a := Z.pick [13, 14, 15, 19, 20, 4, 22, 23, 121, 122, 123, 25, 130, 131, 172, 132, 133, 134, 135, 27, 136, 137, 138, 139, 140, 141, 142, 143]
   refine co (k := 8) 13 [8, 9, 10, 11, 12] Z kr kr kr rfx fun a Z => ?_
   replace Z : Fr 174 [(144, undef), (145, undef), (146, undef), (147, undef), (148, undef), (13, pt w3.hz), (14, iv (l.length : Int)), (15, sv root), (19, iv (k : Int)), (20, v6), (4, v8), (22, s10), (23, v56), (121, (.slice (some ⟨b58, 0, none⟩) 2 2)), (122, iv 2), (123, iv 1), (25, pt w132.hz), (130, (.slice (some ⟨w134.hz, 0, none⟩) 3 3)), (131, iv 3), (172, iv 2), (132, iv 2), (133, .bool true), (134, slAddr (.slice (some ⟨w134.hz, 0, none⟩) 3 3) (2 * 1)), (135, s10), (27, s10), (136, .agg #[iv ((l.getD ka Rec.z).t), iv ((l.getD ka Rec.z).kind), iv ((l.getD ka Rec.z).a), iv ((l.getD ka Rec.z).b), sv ((l.getD ka Rec.z).text)]), (137, po w3.hz 1), (138, lv1), (139, iv (k : Int)), (140, slAddr lv1 (k * 5)), (141, .agg #[iv ((l.getD k Rec.z).t), iv ((l.getD k Rec.z).kind), iv ((l.getD k Rec.z).a), iv ((l.getD k Rec.z).b), sv ((l.getD k Rec.z).text)]), (142, .bool true), (143, .bool true)] [] a := Z
   refine aK (k := 13) 16 [15] kr kr kr ?_
   refine wln Z fun a Z => wln Z fun a Z => wlv Z (aB rfl rfl) fun a Z => ab <| aO kr ?_
   refine hK160 _ _ ?_
   replace Z := Z.p17 13 14 15 19 20 4 22 23 121 122 123 25 130 131 132 27 151 rfl
   refine aC Z rfl ?_
   refine aE ?_
   exact ⟨Z.pick [13, 14, 15, 19, 20, 4, 22, 23, 121, 122, 123, 25, 130, 131, 132], Y.select [0, 1, 2, 3, 4, 5, 6, 7, 8] de⟩
  rw [hb89] at Z
  try simp only [qz] at hb89
  refine aP (k := 8) 13 [8, 9, 10, 11, 12] Z kr kr kr rfx ?_
  replace Z := Z.p28 13 14 15 19 20 4 22 23 121 122 123 25 130 131 172 132 133 134 135 27 136 137 138 139 140 141 142 143 rfl
  refine ay [] (fun i => match i with | _ => fun _ _ => False) 5 [[], [], [], [], []] [sv root, iv (l.length : Int), iv (k : Int), .agg #[iv ((l.getD ka Rec.z).t), iv ((l.getD ka Rec.z).kind), iv ((l.getD ka Rec.z).a), iv ((l.getD ka Rec.z).b), sv ((l.getD ka Rec.z).text)], s10] Z Y kr kr kr ?_ ?_ ?_
  ·intro i hi hiq
   match i, hi, hiq with
   | 0, _, _ => exact fun w Y => OpV.g (ai rfl)
   | 1, _, _ => exact fun w Y => OpV.g (ai rfl)
   | 2, _, _ => exact fun w Y => OpV.g (ai rfl)
   | 3, _, _ => exact fun w Y => OpV.g (aq (Y.g 1 rfl) rfl (isAgg27 _) (sizeOf27 _))
   | 4, _, _ => exact fun w Y => OpV.g (ai rfl)
  ·intro i hi
   exact absurd hi sm
  clear Z Y
  intro  a w160 Z Y
  replace Z : Fr 174 [(144, sv root), (145, iv (l.length : Int)), (146, iv (k : Int)), (147, .agg #[iv ((l.getD ka Rec.z).t), iv ((l.getD ka Rec.z).kind), iv ((l.getD ka Rec.z).a), iv ((l.getD ka Rec.z).b), sv ((l.getD ka Rec.z).text)]), (148, s10), (13, _), (14, _), (15, _), (19, _), (20, _), (4, _), (22, _), (23, _), (121, _), (122, _), (123, _), (25, _), (130, _), (131, _), (172, _), (132, _), (133, _), (134, _), (135, _), (27, _), (136, _), (137, _), (138, _), (139, _), (140, _), (141, _), (142, _), (143, _)] [] a := Z
  refine ab <| aK (k := 13) 16 [15] kr kr kr ?_
  refine aQ Z Y de rfl de rfl call29 rfl (bR root (l.length : Int) (k : Int) (l.getD ka Rec.z) s10 bt _ (Y.ow 4 rfl) om (by unfold i64; omega) (Y.keepb hk0)) ?_
  clear Z Y
  intro a w161 Z Y
  refine wly Z (aX rfl) fun a Z => wlv Z (aA rfl rfl) fun a Z => ab <| aO kr ?_
  refine hK160 _ _ ?_
  replace Z := Z.p17 13 14 15 19 20 4 22 23 121 122 123 25 130 131 132 27 151 rfl
  refine az Z rfl (fun hc90 => ?_) (fun hc90 => ?_)
  ·rw [hc90] at Z
   try simp only [qz] at hc90
   refine aE ?_
   exact ⟨Z.pick [13, 14, 15, 19, 20, 4, 22, 23, 121, 122, 123, 25, 130, 131, 132], Y.select [0, 1, 2, 3, 4, 5, 6, 7, 8] de⟩
  rw [hc90] at Z
  try simp only [qz] at hc90
  have hchk : checkB root (l.length : Int) (k : Int) (l.getD ka Rec.z) bt = true := by simpa using hc90
  have hck := bO hchk
  have hrl : (l.getD ka Rec.z).enc.length ≤ 300 := by have := cF (l.getD ka Rec.z); rwa [show eB (l.getD ka Rec.z) = (l.getD ka Rec.z).enc from if_pos hck.1] at this
  have hout : outB (hs ++ (wayH sha l.length k (l.getD ka Rec.z).enc bt).1.reverse) = true := by rw [← hhs]; exact bL hall hkl (by rw [hroot]; exact hchk) (by simpa using hb89)
  have houts : ∀ z ∈ hs ++ (wayH sha l.length k (l.getD ka Rec.z).enc bt).1.reverse, z.length ≤ 100000000 := by rw [← hhs]; exact ch hall hck.1 hck.2.1
  have hwc := cB (q := bt) (n := l.length) (i := k) (s := (l.getD ka Rec.z).enc) om
  have houtl : (hs ++ (wayH sha l.length k (l.getD ka Rec.z).enc bt).1.reverse).length ≤ 1000 := by rw [List.length_append]; omega
  refine ap <| hK159 _ _ <| aa fun K161 hK161 => wlv Z (aq (Y.g 1 rfl) rfl (isAgg27 _) (sizeOf27 _)) fun a Z => ak Z Y de call23 rfl (dX hck.1) ?_
  clear Z Y
  intro a w162 Z Y
  refine wlm Z rfl fun a Z => wlv Z (aj rfl rfl) fun a Z => wlv Z (aj rfl rfl) fun a Z => wla Z rfl fun a Z => wla Z rfl fun a Z => ab (hK161 _ _ ?_)
  replace Z := Z.p17 13 14 15 19 20 4 22 23 121 122 123 25 130 131 132 27 28 rfl
  refine aa fun K162 hK162 => wlm Z rfl fun a Z => wlm Z rfl fun a Z => wlm Z rfl fun a Z => wlm Z rfl fun a Z => aN Z Y de call33 rfl (cC ((l.getD ka Rec.z).enc) (by have := hrl; omega) _ l.length k s10 bt _ rfl (Y.ow 4 rfl) om om hck.2.1) ?_
  clear Z Y
  intro a w163 x92 hp Z Y
  revert x92 hp Z Y; rintro v91 hp Z Y
  clear hp
  replace Y : St No w0 [_, _, _, _, _, _, _, _, _, _] w163 := Y
  refine wlm Z rfl fun a Z => wlv Z (aj rfl rfl) fun a Z => wlv Z (aj rfl rfl) fun a Z => wla Z rfl fun a Z => wla Z rfl fun a Z => ab (hK162 _ _ ?_)
  replace Z := Z.p16 13 14 15 19 20 4 22 23 121 122 123 25 130 131 132 30 rfl
  refine aa fun K163 hK163 => ax (E := 9) (sz := 1) rfl [] kr sm rfl de de Z Y ?_
  clear Z Y
  intro a w164 Z Y
  refine wlm Z rfl fun a Z => aM (i := 0) (sT := 45) (inf := Tryd.t9) (z := .string (⟨#[]⟩)) rfl rfl rfl (Y.ow 5 rfl) underlying45 rfl rfl rfl rfl de (by first | (simp [Value.oneCell', yv, wv, sv]; done) | (intro e he u hu; obtain ⟨s, _, rfl⟩ := List.mem_map.1 he; rw [List.mem_singleton.1 hu]; rfl)) (by have hby : Tryd.t9.bytes = 16 := rfl; simp only [big, hby, List.length_append, List.length_map, List.length_cons, List.length_nil]; omega) (by have hby : Tryd.t9.bytes = 16 := rfl; simp only [big, hby, List.length_append, List.length_map, List.length_cons, List.length_nil]; omega) de Z Y ?_
  clear Z Y
  intro a w165 s93 Z Y
  rw [show ([]) ++ (hs.map fun s => [sv s]) = (hs.map fun s => [sv s]) from List.nil_append _] at Y
  refine wlm Z rfl fun a Z => aM (i := 0) (sT := 45) (inf := Tryd.t9) (z := .string (⟨#[]⟩)) rfl rfl rfl (Y.ow 1 rfl) underlying45 rfl rfl rfl rfl de (by first | (simp [Value.oneCell', yv, wv, sv]; done) | (intro e he u hu; obtain ⟨s, _, rfl⟩ := List.mem_map.1 he; rw [List.mem_singleton.1 hu]; rfl)) (by have hby : Tryd.t9.bytes = 16 := rfl; simp only [big, hby, List.length_append, List.length_map, List.length_cons, List.length_nil]; omega) (by have hby : Tryd.t9.bytes = 16 := rfl; simp only [big, hby, List.length_append, List.length_map, List.length_cons, List.length_nil]; omega) de Z Y ?_
  clear Z Y
  intro a w166 s94 Z Y
  rw [show (hs.map fun s => [sv s]) ++ (((wayH sha l.length k ((l.getD ka Rec.z).enc) bt).1.reverse).map fun s => [sv s]) = ((hs ++ ((wayH sha l.length k ((l.getD ka Rec.z).enc) bt).1.reverse)).map fun s => [sv s]) from List.map_append.symm] at Y
  refine ak Z Y de call34 rfl (bu hout (cA s94 (hs ++ (wayH sha l.length k (l.getD ka Rec.z).enc bt).1.reverse) _ (Y.ow 0 rfl) houts houtl)) ?_
  clear Z Y
  intro a w167 Z Y
  refine wlv Z ((aX rfl).asb (b' := false) rfl) fun a Z => ab (hK163 _ _ ?_)
  replace Z := Z.p16 13 14 15 19 20 4 22 23 121 122 123 25 130 131 132 171 rfl
  replace Y := Y.k9 2044 rfl
  refine aH Z rfl ?_
  refine ap ?_
  exact ⟨Z.pick [13, 14, 15, 19, 20, 4, 22, 23, 121, 122, 123, 25, 130, 131, 132], Y.select [0, 1, 2, 3, 4, 5, 6, 7, 8] de⟩
 rintro a w168 ⟨Z, Y⟩
 refine hK157 _ _ <| ao <| wlv Z ((aT rfl rfl de).asi (m' := 3) rfl) fun a Z => wlm Z rfl fun a Z => ab <| bf ?_
 refine aa fun K164 hK164 => wlv Z ((v_lt rfl rfl).asb (b' := false) rfl) fun a Z => ab (hK164 _ _ <| ac fun K165 hK165 => ?_)
 refine aH Z rfl ?_
 refine aE <| hK134 _ _ <| ao <| wlv Z ((aT rfl rfl de).asi (m' := 2) rfl) fun a Z => wlm Z rfl fun a Z => ab <| bf ?_
 refine aa fun K166 hK166 => wlv Z ((v_lt rfl rfl).asb (b' := false) rfl) fun a Z => ab (hK166 _ _ ?_)
 replace Z := Z.p12 13 14 15 19 20 4 22 23 121 122 123 124 rfl
 replace Y := Y.k7 508 rfl
 refine ac fun K167 hK167 => aH Z rfl ?_
 refine aE <| hK96 _ _ <| aa fun K168 hK168 => wla Z rfl fun a Z => ab (hK168 _ _ ?_)
 replace Z := Z.p1 12 rfl
 replace Y := Y.k1 64 rfl
 refine aw ?_
 refine ar Z results6 (ae rfl ag) ?_
 exact ⟨rfl, Y.ext⟩
end Go.Proofs.YtddfkkdanpmnaaaDoor
