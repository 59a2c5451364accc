/- Texts joined: WshM, WshN, WshO, WshS, WshT, WshU, WshV, Open, Laid, Door. -/
import Derived.Test.YtmmfieceinmloaaGreatDoorPMD
import Derived.Test.YtmmfieceinmloaaGreatDoorPMB
import Derived.Test.YtmmfieceinmloaaGreatDoorPMA
import Derived.Test.YtmmfieceinmloaaGreatDoorPMC
import Derived.LaidMore
import Derived.OpenShut
import Derived.Stop.Joined
import Derived.SevenTiedAt
import Derived.ChangeMaps5
import Derived.Test.YtmmfieceinmloaaGreatDoorRows
namespace Go.Proofs.YtmmfieceinmloaaGreatDoor
open Go.RowKit Go.PW
set_option linter.unusedVariables false
set_option linter.unusedSimpArgs false
set_option maxRecDepth 4000
def en (key : By) (n d : Int) (code : By) : Bool := accOk key n d && decide (accH key n d = code)
theorem fI {key : By} {n d : Int} {w0 : World} (hkl : key.length ≤ 40000000) (hk0 : (blk 0 (kOf.map wv) 239).ok w0) (h : accOk key n d = true) : Ret Tryz.prog 31 #[sv key, iv n, iv d] w0 fun v w => v = .tuple #[sv (accH key n d), iv 0] ∧ Ext No w0 w := by
 have := hC key n d w0 hkl hk0
 rwa [if_pos h] at this
theorem kS {key : By} {n d : Int} {w0 : World} (hkl : key.length ≤ 40000000) (hk0 : (blk 0 (kOf.map wv) 239).ok w0) (h : accOk key n d = false) : Ret Tryz.prog 31 #[sv key, iv n, iv d] w0 fun v w => v = .tuple #[sv [], iv 150] ∧ Ext No w0 w := by
 have := hC key n d w0 hkl hk0
 rwa [if_neg (by rw [h]; decide)] at this
theorem iM (key : By) (n d : Int) (code : By) (w0 : World) (hkl : key.length ≤ 40000000) (hk0 : (blk 0 (kOf.map wv) 239).ok w0) :
  Ret Tryz.prog 33 #[sv key, iv n, iv d, sv code] w0 fun v w => v = .bool (en key n d code) ∧ Ext No w0 w := by
 refine aF Tryz.func33 rfl Tryz.ntmps33 (lb rfl) fun a Z => ?_
 replace Z : Fr 25 [(0, _), (1, _), (2, _), (3, _)] [] a := Z
 replace Y : St No w0 [] w0 := St.init w0
 refine aa fun K1 hK1 => wla Z rfl fun a Z => ab (hK1 _ _ ?_)
 refine aa fun K2 hK2 => wlm Z rfl fun a Z => wlm Z rfl fun a Z => wlm Z rfl fun a Z => ?_
 rcases Bool.eq_false_or_eq_true (accOk key n d) with hb1 | hb1
 ·try simp only [qz] at hb1
  refine aA Z Y (by decide) Tryz.call31 rfl (fI hkl (Y.keepb hk0) hb1) ?_
  clear Z Y
  intro a w1 Z Y
  refine wlm Z rfl fun a Z => wlv Z (aD rfl rfl) fun a Z => wlv Z (aD rfl rfl) fun a Z => wla Z rfl fun a Z => wla Z rfl fun a Z => ab (hK2 _ _ ?_)
  replace Z : Fr 25 [(3, _), (8, _), (9, _), (10, _)] [] a := Z.pick [3, 8, 9, 10]
  refine aa fun K3 hK3 => wlm Z rfl fun a Z => wlv Z ((v_eq rfl rfl).asb (b' := true) rfl) fun a Z => wlm Z rfl fun a Z => wly Z (al rfl) fun a Z => wly Z (al rfl) fun a Z => wly Z (v_seq rfl rfl) fun a Z => wlv Z (az rfl rfl) fun a Z => wla Z rfl fun a Z => ab (hK3 _ _ ?_)
  replace Z : Fr 25 [(8, _)] [] a := Z.pick [8]
  refine aw ?_
  refine ao Z Tryz.results33 (ah rfl ag) ?_
  exact ⟨by simp only [retv]; unfold en; simp [hb1], Y.ext⟩
 try simp only [qz] at hb1
 refine aA Z Y (by decide) Tryz.call31 rfl (kS hkl (Y.keepb hk0) hb1) ?_
 clear Z Y
 intro a w2 Z Y
 refine wlm Z rfl fun a Z => wlv Z (aD rfl rfl) fun a Z => wlv Z (aD rfl rfl) fun a Z => wla Z rfl fun a Z => wla Z rfl fun a Z => ab (hK2 _ _ ?_)
 replace Z : Fr 25 [(3, _), (8, _), (9, _), (10, _)] [] a := Z.pick [3, 8, 9, 10]
 refine aa fun K4 hK4 => wlm Z rfl fun a Z => wlv Z ((v_eq rfl rfl).asb (b' := false) rfl) fun a Z => wlm Z rfl fun a Z => wln Z fun a Z => wln Z fun a Z => wln Z fun a Z => wlv Z (au rfl rfl) fun a Z => wla Z rfl fun a Z => ?_
 refine ab (hK4 _ _ ?_)
 replace Z : Fr 25 [(8, _)] [] a := Z.pick [8]
 refine aw ?_
 refine ao Z Tryz.results33 (ah rfl ag) ?_
 exact ⟨by simp only [retv]; unfold en; simp [hb1], Y.ext⟩
theorem e7 {x : Wsh} {lv : Value} {ps : List Pxy} {w0 : World} (hlv : SlAt w0 lv 7 (ps.map Pxy.cells)) : Ret Tryz.prog 19 #[.agg #[iv x.signer, iv x.holder, iv x.rf, iv x.rt, iv x.carrier, iv x.serial, iv x.sf, iv x.st, sv x.sig], lv] w0 fun v w => v = .bool (bI x ps) ∧ Ext No w0 w := by
 have := i4 x lv ps w0 hlv
 rwa [gG] at this
theorem fq : ∀ {l : List Pxy}, (∀ p ∈ l, p.sig.length = 32) → (l.flatMap Pxy.text).length ≤ 1000 * l.length
 | [], h => by simp
 | p :: l, h => by
  have h1 := h p (by simp)
  have h2 := fq (l := l) (fun q hq => h q (by simp [hq]))
  have h3 : p.content.length ≤ 9 * 7 := cR _
  rw [List.flatMap_cons, List.length_append, Pxy.text, List.length_append, List.length_cons]
  omega
theorem gt {x : Wsh} {ps : List Pxy} (h : bI x ps = true) : ps.length ≤ 4 := by
 simp only [bI, Bool.and_eq_true, decide_eq_true_eq] at h; exact h.1.2
theorem ld {x : Wsh} {ps : List Pxy} (h : bI x ps = true) : x.ok = true := by
 simp only [bI, Bool.and_eq_true, decide_eq_true_eq] at h; exact h.1.1
theorem kD {x : Wsh} {ps : List Pxy} (h : bI x ps = true) : ∀ p ∈ ps, p.ok = true := by
 simp only [bI, Bool.and_eq_true, decide_eq_true_eq, Option.isNone_iff_eq_none] at h; exact cz h.2
theorem pd {ps : List Pxy} (h : (ps.any fun p => !decide ((p.sig.length : Int) = 32)) = false) : ∀ p ∈ ps, p.sig.length = 32 := by
 intro p hp
 have := List.any_eq_false.1 h p hp
 simp only [Bool.not_eq_true', Bool.not_eq_false', decide_eq_false_iff_not, Classical.not_not] at this
 omega
theorem mI {ps : List Pxy} (h : (ps.any fun p => !decide ((p.sig.length : Int) = 32)) = true) : ¬ ∀ p ∈ ps, p.sig.length = 32 := by
 intro hh
 obtain ⟨p, hp, h⟩ := List.any_eq_true.1 h
 simp [hh p hp] at h
theorem gn {x : Wsh} {ps : List Pxy} (h : bI x ps = false ∨ ¬ (x.sig.length : Int) = 32 ∨ (ps.any fun p => !decide ((p.sig.length : Int) = 32)) = true) : cT x ps = none := by
 cases he : cT x ps with
 | none => rfl
 | some s =>
  obtain ⟨h1, h2, h3, _⟩ := cL.1 he
  rcases h with h | h | h
  ·rw [h1] at h; cases h
  ·omega
  ·exact absurd h3 (mI h)
def encB (ps : List Pxy) (k : Nat) : By := puts [(ps.length : Int)] ++ (ps.take k).flatMap Pxy.text
theorem mJ {ps : List Pxy} {k : Nat} (h : k < ps.length) : encB ps (k + 1) = encB ps k ++ (ps.getD k Pxy.z).content ++ (ps.getD k Pxy.z).sig := by
 unfold encB
 rw [cD Pxy.z h, List.flatMap_append]
 simp [Pxy.text, List.append_assoc]
theorem eU {ps : List Pxy} {k : Nat} (h4 : ps.length ≤ 4) (h : ∀ p ∈ ps, p.sig.length = 32) : (encB ps k).length ≤ 10000 := by
 unfold encB
 have h1 := cR [(ps.length : Int)]
 have h2 := fq (l := ps.take k) (fun p hp => h p (List.mem_of_mem_take hp))
 rw [List.length_append]
 rw [List.length_take] at h2
 simp only [List.length_cons, List.length_nil] at h1
 omega
theorem om {x : Wsh} {ps : List Pxy} : encB ps ps.length ++ x.content ++ x.sig = putI (ps.length : Int) ++ (ps.flatMap Pxy.text ++ x.text) := by
 unfold encB Wsh.text; simp [puts, List.append_assoc]
theorem oK {x : Wsh} {ps : List Pxy} (h1 : bI x ps = true) (h2 : x.sig.length = 32) (h3 : ∀ p ∈ ps, p.sig.length = 32) : cT x ps = some (encB ps ps.length ++ x.content ++ x.sig) :=
 cL.2 ⟨h1, h2, h3, om⟩
theorem pa {ps : List Pxy} {k : Nat} {a b : By} : encB ps k ++ a ++ b ≠ [] := by
 intro h
 unfold encB at h
 simp only [List.append_eq_nil_iff] at h
 exact ew h.1.1.1
theorem kl (x : Pxy) : x.content.length ≤ 63 := cR _
theorem gT (x : Wsh) : x.content.length ≤ 81 := cR _
set_option maxHeartbeats 4000000 in
theorem mr (x : Wsh) (lv : Value) (ps : List Pxy) (w0 : World) (hlv : SlAt w0 lv 7 (ps.map Pxy.cells)) :
  Ret Tryz.prog 26 #[.agg #[iv x.signer, iv x.holder, iv x.rf, iv x.rt, iv x.carrier, iv x.serial, iv x.sf, iv x.st, sv x.sig], lv] w0 fun v w => v = (match cT x ps with | some s => .tuple #[sv s, iv 0] | none => .tuple #[sv [], iv 150]) ∧ Ext No w0 w := by
 have hxb := hlv.2.1
 simp only [List.length_map, big] at hxb
 refine aF Tryz.func26 rfl Tryz.ntmps26 (lb rfl) fun a Z => ?_
 replace Z : Fr 50 [(0, _), (1, _)] [] a := Z
 replace Y : St No w0 [] w0 := St.init w0
 refine aa fun K1 hK1 => aY Z Y (by decide) rfl (cs := [iv x.signer, iv x.holder, iv x.rf, iv x.rt, iv x.carrier, iv x.serial, iv x.sf, iv x.st, sv x.sig]) rfl ?_
 clear Z Y
 intro a w1 Z Y
 refine wla Z rfl fun a Z => wla Z rfl fun a Z => ab (hK1 _ _ ?_)
 refine aa fun K2 hK2 => wla Z rfl fun a Z => ab (hK2 _ _ ?_)
 refine ai fun K3 hK3 => aa fun K4 hK4 => wlv Z (ar (Y.get (k := 0) rfl) rfl (Tryz.isAgg30 _) (Tryz.sizeOf30 _)) fun a Z => wlm Z rfl fun a Z => aA Z Y (by decide) Tryz.call19 rfl (e7 (Y.arg hlv)) ?_
 clear Z Y
 intro a w2 Z Y
 refine wlv Z (bS rfl) fun a Z => wlm Z rfl fun a Z => ?_
 rcases Bool.eq_false_or_eq_true (!(bI x ps)) with hb1 | hb1
 ·rw [hb1] at Z
  try simp only [qz] at hb1
  refine wln Z fun a Z => wln Z fun a Z => wln Z fun a Z => wln Z fun a Z => wlv Z (az rfl rfl) fun a Z => wlm Z rfl fun a Z => wln Z fun a Z => wln Z fun a Z => ?_
  refine wln Z fun a Z => wlv Z (az rfl rfl) fun a Z => ab (hK4 _ _ ?_)
  replace Z : Fr 50 [(1, _), (2, _), (4, _), (5, _), (24, _)] [] a := Z.pick [1, 2, 4, 5, 24]
  refine aL Z rfl ?_
  refine aa fun K5 hK5 => wla Z rfl fun a Z => wla Z rfl fun a Z => ab (hK5 _ _ ?_)
  refine aw ?_
  refine ao Z Tryz.results26 (ah rfl (ah rfl ag)) ?_
  exact ⟨by simp only [retv]; rw [gn (.inl hb1)]; rfl, Y.ext⟩
 rw [hb1] at Z
 try simp only [qz] at hb1
 refine wly Z (ac (v := .pointer (some ⟨w0.heap.size, 8, none⟩)) rfl (by kernel_rfl)) fun a Z => wly Z (ae (Y.get (k := 0) rfl) rfl (Tryz.isAgg9 _) rfl) fun a Z => wly Z (bD rfl rfl (Tryz.runUnderlying9 _)) fun a Z => wly Z (v_ne rfl rfl) fun a Z => wlv Z (au rfl rfl) fun a Z => wlm Z rfl fun a Z => ?_
 rcases Bool.eq_false_or_eq_true (!decide ((x.sig.length : Int) = 32)) with hb2 | hb2
 ·rw [hb2] at Z
  try simp only [qz] at hb2
  refine wln Z fun a Z => wln Z fun a Z => wln Z fun a Z => wlv Z (az rfl rfl) fun a Z => ab (hK4 _ _ ?_)
  replace Z : Fr 50 [(1, _), (2, _), (4, _), (5, _), (24, _)] [] a := Z.pick [1, 2, 4, 5, 24]
  refine aL Z rfl ?_
  refine aa fun K6 hK6 => wla Z rfl fun a Z => wla Z rfl fun a Z => ab (hK6 _ _ ?_)
  refine aw ?_
  refine ao Z Tryz.results26 (ah rfl (ah rfl ag)) ?_
  exact ⟨by simp only [retv]; rw [gn (.inr (.inl hb2))]; rfl, Y.ext⟩
 rw [hb2] at Z
 try simp only [qz] at hb2
 refine wly Z (al rfl) fun a Z => wly Z (al rfl) fun a Z => aJ Z Y (by decide) rfl (by decide) rfl Tryz.call76 rfl (oq (fun p => !decide ((p.sig.length : Int) = 32)) _ Tryz.call75 (Y.arg hlv) (fun x w _ => oN x w)) ?_
 clear Z Y
 intro a w3 Z Y
 refine wlv Z (au rfl rfl) fun a Z => ab (hK4 _ _ ?_)
 replace Z : Fr 50 [(1, _), (2, _), (4, _), (5, _), (24, _)] [] a := Z.pick [1, 2, 4, 5, 24]
 refine ay Z rfl (fun hc3 => ?_) (fun hc3 => ?_)
 ·rw [hc3] at Z
  try simp only [qz] at hc3
  refine aa fun K7 hK7 => wla Z rfl fun a Z => wla Z rfl fun a Z => ab (hK7 _ _ ?_)
  refine aw ?_
  refine ao Z Tryz.results26 (ah rfl (ah rfl ag)) ?_
  exact ⟨by simp only [retv]; rw [gn (.inr (.inr hc3))]; rfl, Y.ext⟩
 rw [hc3] at Z
 try simp only [qz] at hc3
 refine ax ?_
 refine hK3 _ _ ?_
 have hfo := hb1
 have hsx : x.sig.length = 32 := by omega
 have hop := pd hc3
 have h4 := gt hfo
 have hxo := ld hfo
 refine aa fun K8 hK8 => aK Z Y (by decide) (Tryz.zeroValue133 _) (cs := [.pointer none, .slice none 0 0]) rfl ?_
 clear Z Y
 intro a w4 Z Y
 refine ab (hK8 _ _ ?_)
 replace Y : St No w0 (own (.slice none 0 0) 5 1 [] :: [blk w3.heap.size [.pointer none, .slice none 0 0] 133, blk w0.heap.size [iv x.signer, iv x.holder, iv x.rf, iv x.rt, iv x.carrier, iv x.serial, iv x.sf, iv x.st, sv x.sig] 30]) w4 := Y.nil_own
 replace Y : St No w0 [blk w3.heap.size [.pointer none, .slice none 0 0] 133, own (.slice none 0 0) 5 1 ([]), blk w0.heap.size [iv x.signer, iv x.holder, iv x.rf, iv x.rt, iv x.carrier, iv x.serial, iv x.sf, iv x.st, sv x.sig] 30] w4 := Y.select [1, 0, 2] (by decide)
 replace Y : St No w0 [bld 133 w3.heap.size (.pointer none) (.slice none 0 0) ([] : By), blk w0.heap.size [iv x.signer, iv x.holder, iv x.rf, iv x.rt, iv x.carrier, iv x.serial, iv x.sf, iv x.st, sv x.sig] 30] w4 := St.join [blk w3.heap.size [.pointer none, .slice none 0 0] 133, own (.slice none 0 0) 5 1 ([])] [blk w0.heap.size [iv x.signer, iv x.holder, iv x.rf, iv x.rt, iv x.carrier, iv x.serial, iv x.sf, iv x.st, sv x.sig] 30] Y
 refine aa fun K9 hK9 => wlm Z rfl fun a Z => wlv Z ((aN (sT := 31) (Y.arg hlv) rfl rfl (Tryz.runUnderlying31 _)).asi (m' := (ps.length : Int)) (by rw [List.length_map])) fun a Z => aG (E := 3) (sz := 1) rfl [[iv (ps.length : Int)]] (by kernel_rfl) (by simp) rfl (by decide) (by decide) Z Y ?_
 clear Z Y
 intro a w5 Z Y
 replace Y : St No w0 [bld 133 w3.heap.size (.pointer none) (.slice none 0 0) ([] : By), own (.slice (some ⟨w4.heap.size, 0, none⟩) 1 1) 3 1 ([[iv (ps.length : Int)]]), blk w0.heap.size [iv x.signer, iv x.holder, iv x.rf, iv x.rt, iv x.carrier, iv x.serial, iv x.sf, iv x.st, sv x.sig] 30] w5 := Y.select [1, 0, 2] (by decide)
 replace Y := St.join [bld 133 w3.heap.size (.pointer none) (.slice none 0 0) ([] : By), own (.slice (some ⟨w4.heap.size, 0, none⟩) 1 1) 3 1 ([[iv (ps.length : Int)]])] [blk w0.heap.size [iv x.signer, iv x.holder, iv x.rf, iv x.rt, iv x.carrier, iv x.serial, iv x.sf, iv x.st, sv x.sig] 30] Y
 refine aV (R := fun u e' => u = .tuple #[] ∧ ∃ v2, e' = bld 133 w3.heap.size (pt w3.heap.size) v2 (puts [(ps.length : Int)])) 0 Z Y rfl (by decide) Tryz.call77 rfl (fun h => (dO 133 w3.heap.size _ _ _ [] [(ps.length : Int)] _ (by kernel_rfl) (.inl rfl) (fun z hz => by rw [List.mem_singleton.1 hz]; unfold small; omega) (by simp) (by simp) (St.unjoin [bld 133 w3.heap.size (.pointer none) (.slice none 0 0) ([] : By), own (.slice (some ⟨w4.heap.size, 0, none⟩) 1 1) 3 1 ([[iv (ps.length : Int)]])] [] h)).mono fun u w ⟨h1, v2, h2⟩ => ⟨_, ⟨h1, v2, rfl⟩, h2⟩) ?_
 clear Z Y
 rintro a w6 _ _ ⟨rfl, v4, rfl⟩ Z Y
 replace Y : St No w0 [bld 133 w3.heap.size (pt w3.heap.size) v4 (encB ps 0), blk w0.heap.size [iv x.signer, iv x.holder, iv x.rf, iv x.rt, iv x.carrier, iv x.serial, iv x.sf, iv x.st, sv x.sig] 30] w6 := by rw [show encB ps 0 = puts [(ps.length : Int)] from by unfold encB; simp]; exact Y
 refine ab (hK9 _ _ ?_)
 refine ai fun K10 hK10 => aa fun K11 hK11 => wlm Z rfl fun a Z => wlv Z ((aN (sT := 31) (Y.arg hlv) rfl rfl (Tryz.runUnderlying31 _)).asi (m' := (ps.length : Int)) (by rw [List.length_map])) fun a Z => wlm Z rfl fun a Z => ab (hK11 _ _ ?_)
 replace Z : Fr 50 [(2, _), (4, _), (5, _), (7, _), (29, _), (30, _), (31, _)] [] a := Z.pick [2, 4, 5, 7, 29, 30, 31]
 refine aq <| aW (fun m a w => ∃ (k : Nat) (v : Value), m = ps.length - k ∧ (k ≤ ps.length) ∧ Fr 50 [(2, pt w0.heap.size), (4, sv ([])), (5, iv 0), (7, pt w3.heap.size), (29, lv), (30, iv (ps.length : Int)), (31, iv (k : Int))] [] a ∧ St No w0 [bld 133 w3.heap.size (pt w3.heap.size) v (encB ps k), blk w0.heap.size [iv x.signer, iv x.holder, iv x.rf, iv x.rt, iv x.carrier, iv x.serial, iv x.sf, iv x.st, sv x.sig] 30] w) _ ⟨0, v4, rfl, Nat.zero_le _, Z.pick [2, 4, 5, 7, 29, 30, 31], Y.select [0, 1] (by decide)⟩ ?_
 rintro _ a w7 ⟨k, v, rfl, hk, Z, Y⟩
 refine aa fun K12 hK12 => wlv Z (v_lt rfl rfl) fun a Z => ab (hK12 _ _ ?_)
 refine ai fun K13 hK13 => ?_
 refine ay Z rfl (fun hc5 => ?_) (fun hc5 => ?_)
 ·rw [hc5] at Z
  try simp only [qz] at hc5
  have hkx : k < ps.length := by omega
  have hpk := kD hfo _ (bR (d := Pxy.z) hkx)
  have hsk := hop _ (bR (d := Pxy.z) hkx)
  refine ax ?_
  refine hK13 _ _ ?_
  refine ai fun K14 hK14 => aq ?_
  refine aa fun K15 hK15 => wlv Z ((ak (i := (k : Int)) (sT := 31) (Y.arg hlv) rfl rfl (Tryz.runUnderlying31 _) (Tryz.sizeOf40 _) (by omega) (by rw [List.length_map]; omega)).as (v' := slAddr lv (k * 7)) rfl) fun a Z => wlv Z ((bO (Y.arg hlv) (i := k) (by rw [List.length_map]; omega) rfl (Tryz.isAgg40 _) (Tryz.sizeOf40 _)).as (v' := .agg #[iv ((ps.getD k Pxy.z).frm), iv ((ps.getD k Pxy.z).to), iv ((ps.getD k Pxy.z).rf), iv ((ps.getD k Pxy.z).rt), iv ((ps.getD k Pxy.z).sf), iv ((ps.getD k Pxy.z).st), sv ((ps.getD k Pxy.z).sig)]) (by rw [bp Pxy.z]; rfl)) fun a Z => aK Z Y (by decide) (Tryz.zeroValue40 _) (cs := [iv 0, iv 0, iv 0, iv 0, iv 0, iv 0, .string (⟨#[]⟩)]) rfl ?_
  clear Z Y
  intro a w8 Z Y
  refine ap 0 Z Y rfl rfl rfl (Tryz.sizeOf40 _) rfl (lb rfl) (ds := [iv ((ps.getD k Pxy.z).frm), iv ((ps.getD k Pxy.z).to), iv ((ps.getD k Pxy.z).rf), iv ((ps.getD k Pxy.z).rt), iv ((ps.getD k Pxy.z).sf), iv ((ps.getD k Pxy.z).st), sv ((ps.getD k Pxy.z).sig)]) rfl rfl ?_
  clear Z Y
  intro a w9 Z Y
  refine ab (hK15 _ _ ?_)
  refine aa fun K16 hK16 => wlv Z (ar (Y.get (k := 0) rfl) rfl (Tryz.isAgg40 _) (Tryz.sizeOf40 _)) fun a Z => aV (R := fun u e' => u = .tuple #[] ∧ ∃ v2, e' = bld 133 w3.heap.size (pt w3.heap.size) v2 ((encB ps k) ++ (ps.getD k Pxy.z).content)) 1 Z Y rfl (by decide) Tryz.call65 rfl (fun h => (fy 133 w3.heap.size _ _ _ (ps.getD k Pxy.z) _ (by kernel_rfl) (.inr rfl) (Pxy.smalls_of hpk) (by have := eU (k := k) h4 hop; omega) h).mono fun u w ⟨h1, v2, h2⟩ => ⟨_, ⟨h1, v2, rfl⟩, h2⟩) ?_
  clear Z Y
  rintro a w10 _ _ ⟨rfl, v6, rfl⟩ Z Y
  replace Y : St No w0 [blk w7.heap.size [iv ((ps.getD k Pxy.z).frm), iv ((ps.getD k Pxy.z).to), iv ((ps.getD k Pxy.z).rf), iv ((ps.getD k Pxy.z).rt), iv ((ps.getD k Pxy.z).sf), iv ((ps.getD k Pxy.z).st), sv ((ps.getD k Pxy.z).sig)] 40, bld 133 w3.heap.size (pt w3.heap.size) v6 ((encB ps k) ++ (ps.getD k Pxy.z).content), blk w0.heap.size [iv x.signer, iv x.holder, iv x.rf, iv x.rt, iv x.carrier, iv x.serial, iv x.sf, iv x.st, sv x.sig] 30] w10 := Y
  refine ab (hK16 _ _ ?_)
  refine am <| wlv Z (ac (v := pt w3.heap.size) rfl (by kernel_rfl)) fun a Z => wlv Z (ac (v := .pointer (some ⟨w7.heap.size, 6, none⟩)) rfl (by kernel_rfl)) fun a Z => wlv Z (ae (Y.get (k := 0) rfl) rfl (Tryz.isAgg9 _) rfl) fun a Z => aV (R := fun u e' => u = .tuple #[iv (((ps.getD k Pxy.z).sig).length : Int), .nilIface] ∧ ∃ v2, e' = bld 133 w3.heap.size (pt w3.heap.size) v2 (((encB ps k) ++ (ps.getD k Pxy.z).content) ++ ((ps.getD k Pxy.z).sig))) 1 Z Y rfl (by decide) Tryz.call78 rfl (fun h => (gy 133 w3.heap.size _ _ _ ((ps.getD k Pxy.z).sig) _ (by kernel_rfl) (.inr rfl) (by intro h; have h9 := congrArg List.length h; rw [List.length_nil] at h9; omega) (by have h7 := eU (k := k) h4 hop; have h8 := kl (ps.getD k Pxy.z); rw [List.length_append]; omega) h).mono fun u w ⟨h1, v2, h2⟩ => ⟨_, ⟨h1, v2, rfl⟩, h2⟩) ?_
  clear Z Y
  rintro a w11 _ _ ⟨rfl, v7, rfl⟩ Z Y
  replace Y : St No w0 [blk w7.heap.size [iv ((ps.getD k Pxy.z).frm), iv ((ps.getD k Pxy.z).to), iv ((ps.getD k Pxy.z).rf), iv ((ps.getD k Pxy.z).rt), iv ((ps.getD k Pxy.z).sf), iv ((ps.getD k Pxy.z).st), sv ((ps.getD k Pxy.z).sig)] 40, bld 133 w3.heap.size (pt w3.heap.size) v7 (((encB ps k) ++ (ps.getD k Pxy.z).content) ++ ((ps.getD k Pxy.z).sig)), blk w0.heap.size [iv x.signer, iv x.holder, iv x.rf, iv x.rt, iv x.carrier, iv x.serial, iv x.sf, iv x.st, sv x.sig] 30] w11 := Y
  refine ab ?_
  refine hK14 _ _ ?_
  replace Z : Fr 50 [(2, _), (4, _), (5, _), (7, _), (29, _), (30, _), (31, _)] [] a := Z.pick [2, 4, 5, 7, 29, 30, 31]
  replace Y : St No w0 [_, _] w11 := Y.mask [false, true, true]
  refine am <| wlv Z (aT rfl rfl ⟨by omega, by omega⟩) fun a Z => wlm Z rfl fun a Z => ab ?_
  replace Y : St No w0 [bld 133 w3.heap.size (pt w3.heap.size) v7 (encB ps (k + 1)), blk w0.heap.size [iv x.signer, iv x.holder, iv x.rf, iv x.rt, iv x.carrier, iv x.serial, iv x.sf, iv x.st, sv x.sig] 30] w11 := by rw [mJ hkx]; exact Y
  refine ⟨_, ?_, k + 1, v7, rfl, (by omega), Z.pick [2, 4, 5, 7, 29, 30, 31], Y.select [0, 1] (by decide)⟩
  omega
 rw [hc5] at Z
 try simp only [qz] at hc5
 have hke : k = ps.length := by omega
 subst hke
 refine aP ?_
 refine hK10 _ _ ?_
 refine aa fun K17 hK17 => wlv Z (ar (Y.get (k := 1) rfl) rfl (Tryz.isAgg30 _) (Tryz.sizeOf30 _)) fun a Z => aV (R := fun u e' => u = .tuple #[] ∧ ∃ v2, e' = bld 133 w3.heap.size (pt w3.heap.size) v2 ((encB ps ps.length) ++ x.content)) 0 Z Y rfl (by decide) Tryz.call67 rfl (fun h => (gQ 133 w3.heap.size _ _ _ x _ (by kernel_rfl) (.inr rfl) (Wsh.smalls_of hxo) (by have := eU (k := ps.length) h4 hop; omega) h).mono fun u w ⟨h1, v2, h2⟩ => ⟨_, ⟨h1, v2, rfl⟩, h2⟩) ?_
 clear Z Y
 rintro a w12 _ _ ⟨rfl, v8, rfl⟩ Z Y
 replace Y : St No w0 [bld 133 w3.heap.size (pt w3.heap.size) v8 ((encB ps ps.length) ++ x.content), blk w0.heap.size [iv x.signer, iv x.holder, iv x.rf, iv x.rt, iv x.carrier, iv x.serial, iv x.sf, iv x.st, sv x.sig] 30] w12 := Y
 refine ab (hK17 _ _ ?_)
 replace Z : Fr 50 [(2, _), (4, _), (5, _), (7, _)] [] a := Z.pick [2, 4, 5, 7]
 refine aa fun K18 hK18 => wlv Z (ac (v := pt w3.heap.size) rfl (by kernel_rfl)) fun a Z => wlv Z (ac (v := .pointer (some ⟨w0.heap.size, 8, none⟩)) rfl (by kernel_rfl)) fun a Z => wlv Z (ae (Y.get (k := 1) rfl) rfl (Tryz.isAgg9 _) rfl) fun a Z => aV (R := fun u e' => u = .tuple #[iv (x.sig.length : Int), .nilIface] ∧ ∃ v2, e' = bld 133 w3.heap.size (pt w3.heap.size) v2 (((encB ps ps.length) ++ x.content) ++ x.sig)) 0 Z Y rfl (by decide) Tryz.call78 rfl (fun h => (gy 133 w3.heap.size _ _ _ x.sig _ (by kernel_rfl) (.inr rfl) (by intro h; have h9 := congrArg List.length h; rw [List.length_nil] at h9; omega) (by have h7 := eU (k := ps.length) h4 hop; have h8 := gT x; rw [List.length_append]; omega) h).mono fun u w ⟨h1, v2, h2⟩ => ⟨_, ⟨h1, v2, rfl⟩, h2⟩) ?_
 clear Z Y
 rintro a w13 _ _ ⟨rfl, v9, rfl⟩ Z Y
 replace Y : St No w0 [bld 133 w3.heap.size (pt w3.heap.size) v9 (((encB ps ps.length) ++ x.content) ++ x.sig), blk w0.heap.size [iv x.signer, iv x.holder, iv x.rf, iv x.rt, iv x.carrier, iv x.serial, iv x.sf, iv x.st, sv x.sig] 30] w13 := Y
 refine ab (hK18 _ _ ?_)
 refine aa fun K19 hK19 => wlv Z (ac (v := pt w3.heap.size) rfl (by kernel_rfl)) fun a Z => aV (R := fun u e' => u = sv (((encB ps ps.length) ++ x.content) ++ x.sig) ∧ e' = blk w3.heap.size [pt w3.heap.size, v9] 133) 0 Z Y rfl (by decide) Tryz.call79 rfl (fun h => (eL 133 w3.heap.size _ _ _ pa h).mono fun u w ⟨h1, h2⟩ => ⟨_, ⟨h1, rfl⟩, h2⟩) ?_
 clear Z Y
 rintro a w14 _ _ ⟨rfl, rfl⟩ Z Y
 replace Y : St No w0 [blk w3.heap.size [pt w3.heap.size, v9] 133, blk w0.heap.size [iv x.signer, iv x.holder, iv x.rf, iv x.rt, iv x.carrier, iv x.serial, iv x.sf, iv x.st, sv x.sig] 30] w14 := Y
 refine wla Z rfl fun a Z => wla Z rfl fun a Z => ab (hK19 _ _ ?_)
 replace Z : Fr 50 [(4, _), (5, _)] [] a := Z.pick [4, 5]
 refine aw ?_
 refine ao Z Tryz.results26 (ah rfl (ah rfl ag)) ?_
 exact ⟨by simp only [retv]; rw [oK hfo hsx hop]; try rfl, Y.ext⟩
end Go.Proofs.YtmmfieceinmloaaGreatDoor
namespace Go.Proofs.YtmmfieceinmloaaGreatDoor
open Go.RowKit Go.PW
set_option linter.unusedVariables false
set_option linter.unusedSimpArgs false
set_option maxRecDepth 4000
theorem p128 (i : Nat) : (128 : Nat) ^ i = 2 ^ (7 * i) := by rw [Nat.pow_mul]
theorem v_ixz {P : Program} {w : World} {L : List (Nat × Value)} {dst : Option Tmp} {T T' ty : TypeId} {pos : String} {af : Array Edge} {gd : Option (Nat × Bool)} {x y : Operand} {z : Nat} (hz : z < 9223372036854775808)
  (hx : ev L x = some (iv ((z / 2 : Nat) : Int))) (hy : ev L y = some (iv (-((z % 2 : Nat) : Int)))) : OpV P ⟨dst, .binOp .xor T x y T', ty, pos, af, gd⟩ L w (iv (uz z)) := by
 have h := pZ (P := P) (w := w) (dst := dst) (T := T) (T' := T') (ty := ty) (pos := pos) (af := af) (gd := gd) (n := ((z / 2 : Nat) : Int)) (decide (z % 2 = 1)) (by omega) (by omega) hx (hy.trans (by
  congr 2
  by_cases h : z % 2 = 1
  ·rw [decide_eq_true h, h]; rfl
  ·rw [decide_eq_false h, show z % 2 = 0 from by omega]; rfl))
 refine h.as ?_
 congr 1
 unfold uz
 by_cases h : z % 2 = 1
 ·rw [decide_eq_true h, if_pos rfl, if_neg (by omega)]
 ·rw [decide_eq_false h, if_neg (by decide), if_pos (by omega)]
theorem pU {f i z : Nat} : wI f i z [] = none := by cases f <;> rfl
theorem jc {s : By} {p : Nat} (h : p < s.length) : s.drop p = s.getD p 0 :: s.drop (p + 1) := by
 rw [List.drop_eq_getElem_cons h, List.getD_eq_getElem?_getD, List.getElem?_eq_getElem h]; rfl
theorem oX {s : By} {p i z : Nat} (hi : i < 9) (hp : p + i < s.length) (hb : 128 ≤ (s.getD (p + i) 0).toNat) :
  wI (9 - i) i z (s.drop (p + i)) = wI (9 - (i + 1)) (i + 1) (z + (s.getD (p + i) 0).toNat % 128 * 2 ^ (7 * i)) (s.drop (p + (i + 1))) := by
 rw [jc hp, show 9 - i = (9 - (i + 1)) + 1 from by omega, wI, if_neg (by omega), p128]; rfl
theorem li {s : By} {p i z : Nat} (hi : i < 9) (hp : p + i < s.length) (hb : (s.getD (p + i) 0).toNat < 128) (h : ((s.getD (p + i) 0).toNat = 0 ∧ 0 < i) ∨ uz (z + (s.getD (p + i) 0).toNat % 128 * 2 ^ (7 * i)) < -4611686018427387903) :
  wI (9 - i) i z (s.drop (p + i)) = none := by
 rw [jc hp, show 9 - i = (9 - (i + 1)) + 1 from by omega, wI, if_pos hb, p128, if_pos]
 exact h.imp_left fun ⟨h1, h2⟩ => ⟨UInt8.toNat_inj.1 (by rw [h1]; rfl), h2⟩
theorem lU {s : By} {p i z : Nat} (hi : i < 9) (hp : p + i < s.length) (hb : (s.getD (p + i) 0).toNat < 128) (h : ¬ ((s.getD (p + i) 0).toNat = 0 ∧ 0 < i)) (h2 : ¬ uz (z + (s.getD (p + i) 0).toNat % 128 * 2 ^ (7 * i)) < -4611686018427387903) :
  wI (9 - i) i z (s.drop (p + i)) = some (uz (z + (s.getD (p + i) 0).toNat % 128 * 2 ^ (7 * i)), i + 1) := by
 rw [jc hp, show 9 - i = (9 - (i + 1)) + 1 from by omega, wI, if_pos hb, p128, if_neg]
 rintro (⟨h3, h4⟩ | h3)
 ·exact h ⟨by rw [h3]; rfl, h4⟩
 ·exact h2 h3
theorem qa {z i b : Nat} (hz : z < 2 ^ (7 * i)) (hb : b < 128) : z + b * 2 ^ (7 * i) < 2 ^ (7 * (i + 1)) := by
 have e : 2 ^ (7 * (i + 1)) = 128 * 2 ^ (7 * i) := by rw [Nat.mul_add, Nat.pow_add, Nat.mul_comm]
 rw [e]
 have : (b + 1) * 2 ^ (7 * i) ≤ 128 * 2 ^ (7 * i) := Nat.mul_le_mul_right _ (by omega)
 rw [Nat.add_mul] at this
 omega
theorem z_63 {z i : Nat} (hi : i < 9) (hz : z < 2 ^ (7 * (i + 1))) : z < 9223372036854775808 := by
 have : (2 : Nat) ^ (7 * (i + 1)) ≤ 2 ^ 63 := Nat.pow_le_pow_right (by decide) (by omega)
 omega
def intV (s : By) (p : Nat) : Value := match rdI (s.drop p) with
 | some (n, r) => .tuple #[iv n, iv ((s.length - r.length : Nat) : Int), iv 0]
 | none => .tuple #[iv 0, iv 0, iv 10]
theorem ef {s : By} {p : Nat} (h : wI 9 0 0 (s.drop p) = none) : intV s p = .tuple #[iv 0, iv 0, iv 10] := by
 rw [nw] at h
 unfold intV
 cases hr : rdI (s.drop p) with
 | none => rfl
 | some x => rw [hr] at h; cases h
theorem kp {s : By} {p k : Nat} {n : Int} (hp : p ≤ s.length) (h : wI 9 0 0 (s.drop p) = some (n, k)) : intV s p = .tuple #[iv n, iv ((p + k : Nat) : Int), iv 0] := by
 rw [nw] at h
 unfold intV
 cases hr : rdI (s.drop p) with
 | none => rw [hr] at h; cases h
 | some x =>
  obtain ⟨n2, r⟩ := x
  rw [hr] at h
  simp only [Option.map_some, Option.some.injEq, Prod.mk.injEq] at h
  obtain ⟨rfl, rfl⟩ := h
  obtain ⟨_, h2⟩ := kt hr
  have h3 := congrArg List.length h2
  rw [List.length_drop, List.length_append] at h3
  have h4 := (dr n2).1
  simp only
  rw [List.length_drop, show p + (s.length - p - r.length) = s.length - r.length from by omega]
set_option maxHeartbeats 4000000 in
theorem jD (s : By) (p : Nat) (w0 : World) (hp : p ≤ s.length) (hsl : s.length ≤ 1000000) :
  Ret Tryz.prog 128 #[sv s, iv (p : Int)] w0 fun v w => v = intV s p ∧ Ext No w0 w := by
 refine aF Tryz.func128 rfl Tryz.ntmps128 (lb rfl) fun a Z => ?_
 replace Z : Fr 67 [(0, _), (1, _)] [] a := Z
 replace Y : St No w0 [] w0 := St.init w0
 refine aa fun K1 hK1 => wla Z rfl fun a Z => wla Z rfl fun a Z => wla Z rfl fun a Z => ab (hK1 _ _ ?_)
 refine ai fun K2 hK2 => aa fun K3 hK3 => wlm Z rfl fun a Z => wlv Z ((v_lt rfl rfl).asb (b' := false) (by exact decide_eq_false (by omega))) fun a Z => wlm Z rfl fun a Z => wly Z (al rfl) fun a Z => wly Z (al rfl) fun a Z => wly Z (bD rfl rfl (Tryz.runUnderlying9 _)) fun a Z => wly Z ((v_gt rfl rfl).asb (b' := false) (by exact decide_eq_false (by omega))) fun a Z => wlv Z (au rfl rfl) fun a Z => ab (hK3 _ _ ?_)
 replace Z : Fr 67 [(0, _), (1, _), (4, _), (5, _), (6, _), (18, _)] [] a := Z.pick [0, 1, 4, 5, 6, 18]
 refine bE Z rfl ?_
 refine ax ?_
 refine hK2 _ _ ?_
 refine aa fun K4 hK4 => wla Z rfl fun a Z => ab (hK4 _ _ ?_)
 refine ai fun K5 hK5 => aa fun K6 hK6 => wlm Z rfl fun a Z => ab (hK6 _ _ ?_)
 refine aq <| aW (fun m a w => ∃ (i : Nat) (z : Nat), m = 9 - i ∧ (i ≤ 9) ∧ (wI 9 0 0 (s.drop p) = wI (9 - i) i z (s.drop (p + i))) ∧ (z < 2 ^ (7 * i)) ∧ Fr 67 [(0, sv s), (1, iv (p : Int)), (7, .int .u64 (z : Int)), (19, iv (i : Int))] [] a ∧ St No w0 [] w) _ ⟨0, 0, rfl, (by decide), rfl, (by decide), Z.pick [0, 1, 7, 19], Y.select [] (by decide)⟩ ?_
 rintro _ a w1 ⟨i, z, rfl, hi, hw, hz, Z, Y⟩
 refine aa fun K7 hK7 => wlv Z (v_lt rfl rfl) fun a Z => ab (hK7 _ _ ?_)
 refine ai fun K8 hK8 => ?_
 refine ay Z rfl (fun hc1 => ?_) (fun hc1 => ?_)
 ·rw [hc1] at Z
  try simp only [qz] at hc1
  refine ax ?_
  refine hK8 _ _ ?_
  refine ai fun K9 hK9 => aq ?_
  refine aa fun K10 hK10 => wlm Z rfl fun a Z => wla Z rfl fun a Z => ab (hK10 _ _ ?_)
  refine ai fun K11 hK11 => aa fun K12 hK12 => wlm Z rfl fun a Z => wlm Z rfl fun a Z => wlv Z (aT rfl rfl ⟨by omega, by omega⟩) fun a Z => wlm Z rfl fun a Z => wlv Z (bD rfl rfl (Tryz.runUnderlying9 _)) fun a Z => wlv Z (v_ge rfl rfl) fun a Z => ab (hK12 _ _ ?_)
  replace Z : Fr 67 [(0, _), (1, _), (7, _), (19, _), (8, _), (27, _)] [] a := Z.pick [0, 1, 7, 19, 8, 27]
  refine ay Z rfl (fun hc2 => ?_) (fun hc2 => ?_)
  ·rw [hc2] at Z
   try simp only [qz] at hc2
   have hwn : wI 9 0 0 (s.drop p) = none := by rw [hw, List.drop_eq_nil_of_le (by omega)]; exact pU
   refine aP ?_
   refine hK5 _ _ ?_
   refine aa fun K13 hK13 => wla Z rfl fun a Z => wla Z rfl fun a Z => wla Z rfl fun a Z => ab (hK13 _ _ ?_)
   replace Z : Fr 67 [(4, _), (5, _), (6, _)] [] a := Z.pick [4, 5, 6]
   refine aw ?_
   refine ao Z Tryz.results128 (ah rfl (ah rfl (ah rfl ag))) ?_
   exact ⟨(ef hwn).symm, Y.ext⟩
  rw [hc2] at Z
  try simp only [qz] at hc2
  have hpi : p + i < s.length := by omega
  have hm8 : (s.getD (p + i) 0).toNat % 128 < 128 := Nat.mod_lt _ (by decide)
  have hzl := qa hz hm8
  have hz6 := z_63 (i := i) (by omega) hzl
  refine ax ?_
  refine hK11 _ _ ?_
  refine aa fun K14 hK14 => wlm Z rfl fun a Z => wlm Z rfl fun a Z => wlm Z rfl fun a Z => wlv Z (aT rfl rfl ⟨by omega, by omega⟩) fun a Z => wlv Z (dw (k := (p + i)) rfl rfl (Tryz.runUnderlying9 _) (by omega) (by omega)) fun a Z => wla Z rfl fun a Z => ab (hK14 _ _ ?_)
  replace Z : Fr 67 [(0, _), (1, _), (7, _), (19, _), (8, _), (9, _)] [] a := Z.pick [0, 1, 7, 19, 8, 9]
  refine aa fun K15 hK15 => wlm Z rfl fun a Z => wlm Z rfl fun a Z => wlv Z (nq (a := s.getD (p + i) 0) (b := (127 : UInt8)) rfl rfl) fun a Z => wlv Z ((mH rfl (by kernel_rfl) Tryz.underlying215).asi (m' := (((s.getD (p + i) 0).toNat % 128 : Nat) : Int)) (by rw [y127])) fun a Z => wlm Z rfl fun a Z => wlv Z ((dp rfl rfl ⟨by omega, by omega⟩).asi (m' := ((7 * i : Nat) : Int)) (by omega)) fun a Z => wlv Z ((m7 (m := (s.getD (p + i) 0).toNat % 128) (n := 7 * i) (by omega) rfl rfl).asi (m' := (((s.getD (p + i) 0).toNat % 128 * 2 ^ (7 * i) : Nat) : Int)) (by rw [Nat.mod_eq_of_lt (by omega)])) fun a Z => wlv Z (v_uor (m := z) (n := (s.getD (p + i) 0).toNat % 128) (k := 7 * i) hz (by omega) rfl rfl) fun a Z => wla Z rfl fun a Z => ?_
  refine ab (hK15 _ _ ?_)
  replace Z : Fr 67 [(0, _), (1, _), (19, _), (8, _), (9, _), (7, _)] [] a := Z.pick [0, 1, 19, 8, 9, 7]
  refine ai fun K16 hK16 => aa fun K17 hK17 => wlm Z rfl fun a Z => wlv Z (v_ge rfl rfl) fun a Z => ab (hK17 _ _ ?_)
  refine ay Z rfl (fun hc3 => ?_) (fun hc3 => ?_)
  ·rw [hc3] at Z
   try simp only [qz] at hc3
   refine aP ?_
   refine hK9 _ _ ?_
   refine am <| wlv Z (aT rfl rfl ⟨by omega, by omega⟩) fun a Z => wlm Z rfl fun a Z => ab ?_
   refine ⟨_, ?_, i + 1, (z + (s.getD (p + i) 0).toNat % 128 * 2 ^ (7 * i)), rfl, (by omega), (by rw [hw]; exact oX (by omega) hpi (by omega)), hzl, Z.pick [0, 1, 7, 19], Y.select [] (by decide)⟩
   omega
  rw [hc3] at Z
  try simp only [qz] at hc3
  refine ax ?_
  refine hK16 _ _ ?_
  refine aa fun K18 hK18 => wlm Z rfl fun a Z => wlv Z ((nr (m := (z + (s.getD (p + i) 0).toNat % 128 * 2 ^ (7 * i))) (n := 1) (by decide) rfl rfl).asi (m' := (((z + (s.getD (p + i) 0).toNat % 128 * 2 ^ (7 * i)) / 2 : Nat) : Int)) rfl) fun a Z => wlv Z (iY (n := (z + (s.getD (p + i) 0).toNat % 128 * 2 ^ (7 * i)) / 2) (by omega) rfl (by kernel_rfl) Tryz.underlying3) fun a Z => wlm Z rfl fun a Z => wlv Z ((m9 (m := (z + (s.getD (p + i) 0).toNat % 128 * 2 ^ (7 * i))) (k := 1) (by omega) (by decide) rfl rfl).asi (m' := (((z + (s.getD (p + i) 0).toNat % 128 * 2 ^ (7 * i)) % 2 : Nat) : Int)) rfl) fun a Z => wlv Z (iY (n := (z + (s.getD (p + i) 0).toNat % 128 * 2 ^ (7 * i)) % 2) (by omega) rfl (by kernel_rfl) Tryz.underlying3) fun a Z => wlv Z (j3 rfl (by omega) (by omega)) fun a Z => ?_
  refine wlv Z (v_ixz (z := (z + (s.getD (p + i) 0).toNat % 128 * 2 ^ (7 * i))) (by omega) rfl rfl) fun a Z => wla Z rfl fun a Z => ab (hK18 _ _ ?_)
  replace Z : Fr 67 [(0, _), (1, _), (19, _), (8, _), (9, _), (7, _), (10, _)] [] a := Z.pick [0, 1, 19, 8, 9, 7, 10]
  refine ai fun K19 hK19 => aa fun K20 hK20 => wlm Z rfl fun a Z => wlv Z (v_eq rfl rfl) fun a Z => wlm Z rfl fun a Z => ?_
  rcases Bool.eq_false_or_eq_true (decide (((s.getD (p + i) 0).toNat : Int) = 0)) with hb4 | hb4
  ·rw [hb4] at Z
   try simp only [qz] at hb4
   refine wly Z (al rfl) fun a Z => wly Z (v_gt rfl rfl) fun a Z => wlv Z (az rfl rfl) fun a Z => wlm Z rfl fun a Z => ?_
   rcases Bool.eq_false_or_eq_true (decide (0 < (i : Int))) with hb5 | hb5
   ·rw [hb5] at Z
    try simp only [qz] at hb5
    have hwn : wI 9 0 0 (s.drop p) = none := by rw [hw]; exact li (by omega) hpi (by omega) (.inl ⟨by omega, by omega⟩)
    refine wln Z fun a Z => wln Z fun a Z => wlv Z (az rfl rfl) fun a Z => ab (hK20 _ _ ?_)
    replace Z : Fr 67 [(0, _), (1, _), (19, _), (8, _), (7, _), (10, _), (60, _)] [] a := Z.pick [0, 1, 19, 8, 7, 10, 60]
    refine aL Z rfl ?_
    refine aP ?_
    refine hK5 _ _ ?_
    refine aa fun K21 hK21 => wla Z rfl fun a Z => wla Z rfl fun a Z => wla Z rfl fun a Z => ab (hK21 _ _ ?_)
    replace Z : Fr 67 [(4, _), (5, _), (6, _)] [] a := Z.pick [4, 5, 6]
    refine aw ?_
    refine ao Z Tryz.results128 (ah rfl (ah rfl (ah rfl ag))) ?_
    exact ⟨(ef hwn).symm, Y.ext⟩
   rw [hb5] at Z
   try simp only [qz] at hb5
   have hng : ¬ ((s.getD (p + i) 0).toNat = 0 ∧ 0 < i) := by omega
   refine wly Z (al rfl) fun a Z => wly Z (v_lt rfl rfl) fun a Z => wlv Z (au rfl rfl) fun a Z => ab (hK20 _ _ ?_)
   replace Z : Fr 67 [(0, _), (1, _), (19, _), (8, _), (7, _), (10, _), (60, _)] [] a := Z.pick [0, 1, 19, 8, 7, 10, 60]
   refine ay Z rfl (fun hc6 => ?_) (fun hc6 => ?_)
   ·rw [hc6] at Z
    try simp only [qz] at hc6
    have hwn : wI 9 0 0 (s.drop p) = none := by rw [hw]; exact li (by omega) hpi (by omega) (.inr hc6)
    refine aP ?_
    refine hK5 _ _ ?_
    refine aa fun K22 hK22 => wla Z rfl fun a Z => wla Z rfl fun a Z => wla Z rfl fun a Z => ab (hK22 _ _ ?_)
    replace Z : Fr 67 [(4, _), (5, _), (6, _)] [] a := Z.pick [4, 5, 6]
    refine aw ?_
    refine ao Z Tryz.results128 (ah rfl (ah rfl (ah rfl ag))) ?_
    exact ⟨(ef hwn).symm, Y.ext⟩
   rw [hc6] at Z
   try simp only [qz] at hc6
   have hwg := hw.trans (lU (by omega) hpi (by omega) (by omega) hc6)
   refine ax ?_
   refine hK19 _ _ ?_
   refine aa fun K23 hK23 => wlm Z rfl fun a Z => wlm Z rfl fun a Z => wlm Z rfl fun a Z => wlv Z (aT rfl rfl ⟨by omega, by omega⟩) fun a Z => wlv Z (aT rfl rfl ⟨by omega, by omega⟩) fun a Z => wla Z rfl fun a Z => wla Z rfl fun a Z => wla Z rfl fun a Z => ab (hK23 _ _ ?_)
   replace Z : Fr 67 [(0, _), (1, _), (19, _), (7, _), (4, _), (5, _), (6, _)] [] a := Z.pick [0, 1, 19, 7, 4, 5, 6]
   refine aw ?_
   refine ao Z Tryz.results128 (ah rfl (ah rfl (ah rfl ag))) ?_
   exact ⟨((kp hp hwg).trans (by simp only [retv]; congr 3; all_goals omega)).symm, Y.ext⟩
  rw [hb4] at Z
  try simp only [qz] at hb4
  refine wln Z fun a Z => wln Z fun a Z => wlv Z (au rfl rfl) fun a Z => wlm Z rfl fun a Z => wly Z (al rfl) fun a Z => wly Z (v_lt rfl rfl) fun a Z => wlv Z (au rfl rfl) fun a Z => ab (hK20 _ _ ?_)
  replace Z : Fr 67 [(0, _), (1, _), (19, _), (8, _), (7, _), (10, _), (60, _)] [] a := Z.pick [0, 1, 19, 8, 7, 10, 60]
  refine ay Z rfl (fun hc7 => ?_) (fun hc7 => ?_)
  ·rw [hc7] at Z
   try simp only [qz] at hc7
   have hwn : wI 9 0 0 (s.drop p) = none := by rw [hw]; exact li (by omega) hpi (by omega) (.inr hc7)
   refine aP ?_
   refine hK5 _ _ ?_
   refine aa fun K24 hK24 => wla Z rfl fun a Z => wla Z rfl fun a Z => wla Z rfl fun a Z => ab (hK24 _ _ ?_)
   replace Z : Fr 67 [(4, _), (5, _), (6, _)] [] a := Z.pick [4, 5, 6]
   refine aw ?_
   refine ao Z Tryz.results128 (ah rfl (ah rfl (ah rfl ag))) ?_
   exact ⟨(ef hwn).symm, Y.ext⟩
  rw [hc7] at Z
  try simp only [qz] at hc7
  have hwg := hw.trans (lU (by omega) hpi (by omega) (by omega) hc7)
  refine ax ?_
  refine hK19 _ _ ?_
  refine aa fun K25 hK25 => wlm Z rfl fun a Z => wlm Z rfl fun a Z => wlm Z rfl fun a Z => wlv Z (aT rfl rfl ⟨by omega, by omega⟩) fun a Z => wlv Z (aT rfl rfl ⟨by omega, by omega⟩) fun a Z => wla Z rfl fun a Z => wla Z rfl fun a Z => wla Z rfl fun a Z => ab (hK25 _ _ ?_)
  replace Z : Fr 67 [(0, _), (1, _), (19, _), (7, _), (4, _), (5, _), (6, _)] [] a := Z.pick [0, 1, 19, 7, 4, 5, 6]
  refine aw ?_
  refine ao Z Tryz.results128 (ah rfl (ah rfl (ah rfl ag))) ?_
  exact ⟨((kp hp hwg).trans (by simp only [retv]; congr 3; all_goals omega)).symm, Y.ext⟩
 rw [hc1] at Z
 try simp only [qz] at hc1
 have hwn : wI 9 0 0 (s.drop p) = none := by rw [hw, show 9 - i = 0 from by omega]; rfl
 refine aP ?_
 refine hK5 _ _ ?_
 refine aa fun K26 hK26 => wla Z rfl fun a Z => wla Z rfl fun a Z => wla Z rfl fun a Z => ab (hK26 _ _ ?_)
 refine aw ?_
 refine ao Z Tryz.results128 (ah rfl (ah rfl (ah rfl ag))) ?_
 exact ⟨(ef hwn).symm, Y.ext⟩
end Go.Proofs.YtmmfieceinmloaaGreatDoor
namespace Go.Proofs.YtmmfieceinmloaaGreatDoor
open Go.RowKit Go.PW
set_option linter.unusedVariables false
set_option linter.unusedSimpArgs false
set_option maxRecDepth 4000
def kdI (x : Int) (r : By) : Option By := match rdI r with
 | some (n, q) => if n = x then some q else none
 | none => none
def dgI (r : By) : Option (By × By) := if 32 ≤ r.length then some (r.take 32, r.drop 32) else none
section
variable {α : Type} {r q g : By} {x n : Int}
theorem gA (h : kdI x r = some q) : rdI r = some (x, q) := by
 unfold kdI at h
 split at h
 ·rename_i n q2 hq
  split at h
  ·rename_i e; cases h; rw [hq, e]
  ·cases h
 ·cases h
theorem jH (h : kdI x r = none) : rdI r = none ∨ ∃ n q, rdI r = some (n, q) ∧ ¬ n = x := by
 unfold kdI at h
 split at h
 ·rename_i n q2 hq
  split at h
  ·cases h
  ·rename_i e; exact .inr ⟨n, q2, hq, e⟩
 ·rename_i hq; exact .inl hq
theorem jO {k : By → Option α} (h : kdI x r = some q) : kindI x r k = k q := by
 unfold kindI; rw [cd (gA h), if_pos rfl]
theorem iI {k : By → Option α} (h : kdI x r = none) : kindI x r k = none := by
 unfold kindI
 rcases jH h with h | ⟨n, q, h, e⟩
 ·exact bY h
 ·rw [cd h, if_neg e]
theorem iC {k : By → By → Option α} (h : dgI r = some (g, q)) : getD32 r k = k g q := by
 unfold dgI at h; unfold getD32
 split at h
 ·rename_i hl; cases h; rw [if_pos hl]
 ·cases h
theorem hP {k : By → By → Option α} (h : dgI r = none) : getD32 r k = none := by
 unfold dgI at h; unfold getD32
 split at h
 ·cases h
 ·rename_i hl; rw [if_neg hl]
theorem co (h : rdI r = some (n, q)) : q <:+ r := by
 obtain ⟨_, rfl⟩ := kt h; exact List.suffix_append _ _
theorem lY (h : kdI x r = some q) : q <:+ r := co (gA h)
theorem lN (h : dgI r = some (g, q)) : q <:+ r := by
 unfold dgI at h
 split at h
 ·cases h; exact List.drop_suffix _ _
 ·cases h
end
theorem pS {s r r2 : By} {n z : Int} {w0 : World} (hz : z = ((s.length - r.length : Nat) : Int)) (hsf : r <:+ s) (hsl : s.length ≤ 1000000) (hq : rdI r = some (n, r2)) :
  Ret Tryz.prog 128 #[sv s, iv z] w0 fun v w => v = .tuple #[iv n, iv ((s.length - r2.length : Nat) : Int), iv 0] ∧ Ext No w0 w := by
 subst hz
 have := jD s (s.length - r.length) w0 (by omega) hsl
 unfold intV at this
 rw [← List.suffix_iff_eq_drop.1 hsf, hq] at this
 exact this
theorem o5 {s r : By} {z : Int} {w0 : World} (hz : z = ((s.length - r.length : Nat) : Int)) (hsf : r <:+ s) (hsl : s.length ≤ 1000000) (hq : rdI r = none) :
  Ret Tryz.prog 128 #[sv s, iv z] w0 fun v w => v = .tuple #[iv 0, iv 0, iv 10] ∧ Ext No w0 w := by
 subst hz
 have := jD s (s.length - r.length) w0 (by omega) hsl
 unfold intV at this
 rw [← List.suffix_iff_eq_drop.1 hsf, hq] at this
 exact this
theorem bQ {M : Nat → Prop} {w0 : World} (b : Nat) (s r r2 : By) (n z : Int) (ws : World) (hz : z = ((s.length - r.length : Nat) : Int)) (hsf : r <:+ s) (hsl : s.length ≤ 1000000) (hq : rdI r = some (n, r2)) (Y : St M w0 [blk b [sv s, iv z] 145] ws) :
  Ret Tryz.prog 82 #[pt b] ws fun u w => u = iv n ∧ St M w0 [blk b [sv s, iv ((s.length - r2.length : Nat) : Int)] 145] w := by
 refine aF Tryz.func82 rfl Tryz.ntmps82 (lb rfl) fun a Z => ?_
 replace Z : Fr 28 [(0, _)] [] a := Z
 skip
 refine aa fun K1 hK1 => wla Z rfl fun a Z => ab (hK1 _ _ ?_)
 refine ai fun K2 hK2 => aM (by kernel_rfl) (aO (by kernel_rfl) fun w1 hxz => ?_)
 replace Y := Y.grow hxz
 refine aX (k := 0) 8 [3, 7] Z (by kernel_rfl) (by kernel_rfl) (by kernel_rfl) (by rfl) ?_
 replace Z : Fr 28 [(0, _), (2, _)] [] a := Z.pick [0, 2]
 refine aB [] (fun i => match i with | _ => fun _ _ => False) 8 [[], [0], [1], [2], [], [4], [5], [6]] [pt b, pt b, pt b, sv s, pt b, pt b, .pointer (some ⟨b, 1, none⟩), iv z] Z Y (by kernel_rfl) (by kernel_rfl) (by kernel_rfl) ?_ ?_ ?_
 ·intro i hi hiq
  match i, hi, hiq with
  | 0, _, _ =>
   intro w Y
   exact OpV.g (al rfl)
  | 1, _, _ =>
   intro w Y
   exact OpV.g (aH rfl)
  | 2, _, _ =>
   intro w Y
   exact OpV.g (ac (v := pt b) rfl (by kernel_rfl))
  | 3, _, _ =>
   intro w Y
   exact OpV.g (ae (Y.get (k := 0) rfl) rfl (Tryz.isAgg9 _) rfl)
  | 4, _, _ =>
   intro w Y
   exact OpV.g (al rfl)
  | 5, _, _ =>
   intro w Y
   exact OpV.g (aH rfl)
  | 6, _, _ =>
   intro w Y
   exact OpV.g (ac (v := .pointer (some ⟨b, 1, none⟩)) rfl (by kernel_rfl))
  | 7, _, _ =>
   intro w Y
   exact OpV.g (ae (Y.get (k := 0) rfl) rfl (Tryz.isAgg3 _) rfl)
 ·intro i hi
  exact absurd hi (by simp)
 clear Z Y
 intro  a w2 Z Y
 replace Z : Fr 28 [(7, pt b), (8, pt b), (9, pt b), (10, sv s), (11, pt b), (12, pt b), (13, .pointer (some ⟨b, 1, none⟩)), (14, iv z), (0, _), (2, _)] [] a := Z
 refine ab <| aQ (k := 8) 10 [9] (by kernel_rfl) (by kernel_rfl) (by kernel_rfl) ?_
 refine aA Z Y (by decide) Tryz.call128 rfl (pS hz hsf hsl hq) ?_
 clear Z Y
 intro a w3 Z Y
 refine wlm Z rfl fun a Z => ab ?_
 refine aX (k := 10) 15 [12, 14] Z (by kernel_rfl) (by kernel_rfl) (by kernel_rfl) (by rfl) ?_
 replace Z : Fr 28 [(0, _), (2, _), (7, _), (8, _), (9, _), (10, _), (11, _), (12, _), (13, _), (14, _), (15, _), (6, _)] [] a := Z.pick [0, 2, 7, 8, 9, 10, 11, 12, 13, 14, 15, 6]
 refine aB [] (fun i => match i with | _ => fun _ _ => False) 5 [[], [], [], [0], [1]] [iv n, iv ((s.length - r2.length : Nat) : Int), iv 0, iv n, iv ((s.length - r2.length : Nat) : Int)] Z Y (by kernel_rfl) (by kernel_rfl) (by kernel_rfl) ?_ ?_ ?_
 ·intro i hi hiq
  match i, hi, hiq with
  | 0, _, _ =>
   intro w Y
   exact OpV.g (aD rfl rfl)
  | 1, _, _ =>
   intro w Y
   exact OpV.g (aD rfl rfl)
  | 2, _, _ =>
   intro w Y
   exact OpV.g (aD rfl rfl)
  | 3, _, _ =>
   intro w Y
   exact OpV.g (cG rfl)
  | 4, _, _ =>
   intro w Y
   exact OpV.g (cG rfl)
 ·intro i hi
  exact absurd hi (by simp)
 clear Z Y
 intro  a w4 Z Y
 replace Z : Fr 28 [(16, iv n), (17, iv ((s.length - r2.length : Nat) : Int)), (18, iv 0), (3, iv n), (4, iv ((s.length - r2.length : Nat) : Int)), (0, _), (2, _), (7, _), (8, _), (9, _), (10, _), (11, _), (12, _), (13, _), (14, _), (15, _), (6, _)] [] a := Z
 refine ab <| aQ (k := 15) 16 [15] (by kernel_rfl) (by kernel_rfl) (by kernel_rfl) ?_
 refine wla Z rfl fun a Z => ab ?_
 refine aZ (by kernel_rfl) ?_
 refine hK2 _ _ ?_
 replace Z : Fr 28 [(0, _), (2, _), (3, _), (4, _), (5, _)] [] a := Z.pick [0, 2, 3, 4, 5]
 refine ai fun K3 hK3 => aa fun K4 hK4 => wlm Z rfl fun a Z => wlv Z ((v_ne rfl rfl).asb (b' := false) rfl) fun a Z => ab (hK4 _ _ ?_)
 refine bE Z rfl ?_
 refine ax ?_
 refine hK3 _ _ ?_
 refine aa fun K5 hK5 => wlm Z rfl fun a Z => wlm Z rfl fun a Z => wlv Z (aH rfl) fun a Z => wlv Z (ac (v := .pointer (some ⟨b, 1, none⟩)) rfl (by kernel_rfl)) fun a Z => ap 0 Z Y rfl rfl rfl (Tryz.sizeOf3 _) rfl (lb rfl) (ds := [sv s, iv ((s.length - r2.length : Nat) : Int)]) rfl rfl ?_
 clear Z Y
 intro a w5 Z Y
 refine ab (hK5 _ _ ?_)
 replace Z : Fr 28 [(2, _), (3, _)] [] a := Z.pick [2, 3]
 refine aa fun K6 hK6 => wlm Z rfl fun a Z => wla Z rfl fun a Z => ab (hK6 _ _ ?_)
 refine aw ?_
 refine ao Z Tryz.results82 (ah rfl ag) ?_
 exact ⟨rfl, Y.select [0] (by decide)⟩
theorem bN {M : Nat → Prop} {w0 : World} (b : Nat) (s r  : By) (z : Int) (ws : World) (hz : z = ((s.length - r.length : Nat) : Int)) (hsf : r <:+ s) (hsl : s.length ≤ 1000000) (hq : rdI r = none) (Y : St M w0 [blk b [sv s, iv z] 145] ws) :
  Pan Tryz.prog 82 #[pt b] ws fun c w => c = [{ v := .iface 142 (.agg #[]), recovered := false }] ∧ St M w0 [blk b [sv s, iv z] 145] w := by
 refine lc Tryz.func82 rfl Tryz.ntmps82 (lb rfl) fun a Z => ?_
 replace Z : Fr 28 [(0, _)] [] a := Z
 skip
 refine aa fun K1 hK1 => wla Z rfl fun a Z => ab (hK1 _ _ ?_)
 refine ai fun K2 hK2 => aM (by kernel_rfl) (aO (by kernel_rfl) fun w1 hxz => ?_)
 replace Y := Y.grow hxz
 refine aX (k := 0) 8 [3, 7] Z (by kernel_rfl) (by kernel_rfl) (by kernel_rfl) (by rfl) ?_
 replace Z : Fr 28 [(0, _), (2, _)] [] a := Z.pick [0, 2]
 refine aB [] (fun i => match i with | _ => fun _ _ => False) 8 [[], [0], [1], [2], [], [4], [5], [6]] [pt b, pt b, pt b, sv s, pt b, pt b, .pointer (some ⟨b, 1, none⟩), iv z] Z Y (by kernel_rfl) (by kernel_rfl) (by kernel_rfl) ?_ ?_ ?_
 ·intro i hi hiq
  match i, hi, hiq with
  | 0, _, _ =>
   intro w Y
   exact OpV.g (al rfl)
  | 1, _, _ =>
   intro w Y
   exact OpV.g (aH rfl)
  | 2, _, _ =>
   intro w Y
   exact OpV.g (ac (v := pt b) rfl (by kernel_rfl))
  | 3, _, _ =>
   intro w Y
   exact OpV.g (ae (Y.get (k := 0) rfl) rfl (Tryz.isAgg9 _) rfl)
  | 4, _, _ =>
   intro w Y
   exact OpV.g (al rfl)
  | 5, _, _ =>
   intro w Y
   exact OpV.g (aH rfl)
  | 6, _, _ =>
   intro w Y
   exact OpV.g (ac (v := .pointer (some ⟨b, 1, none⟩)) rfl (by kernel_rfl))
  | 7, _, _ =>
   intro w Y
   exact OpV.g (ae (Y.get (k := 0) rfl) rfl (Tryz.isAgg3 _) rfl)
 ·intro i hi
  exact absurd hi (by simp)
 clear Z Y
 intro  a w2 Z Y
 replace Z : Fr 28 [(7, pt b), (8, pt b), (9, pt b), (10, sv s), (11, pt b), (12, pt b), (13, .pointer (some ⟨b, 1, none⟩)), (14, iv z), (0, _), (2, _)] [] a := Z
 refine ab <| aQ (k := 8) 10 [9] (by kernel_rfl) (by kernel_rfl) (by kernel_rfl) ?_
 refine aA Z Y (by decide) Tryz.call128 rfl (o5 hz hsf hsl hq) ?_
 clear Z Y
 intro a w3 Z Y
 refine wlm Z rfl fun a Z => ab ?_
 refine aX (k := 10) 15 [12, 14] Z (by kernel_rfl) (by kernel_rfl) (by kernel_rfl) (by rfl) ?_
 replace Z : Fr 28 [(0, _), (2, _), (7, _), (8, _), (9, _), (10, _), (11, _), (12, _), (13, _), (14, _), (15, _), (6, _)] [] a := Z.pick [0, 2, 7, 8, 9, 10, 11, 12, 13, 14, 15, 6]
 refine aB [] (fun i => match i with | _ => fun _ _ => False) 5 [[], [], [], [0], [1]] [iv 0, iv 0, iv 10, iv 0, iv 0] Z Y (by kernel_rfl) (by kernel_rfl) (by kernel_rfl) ?_ ?_ ?_
 ·intro i hi hiq
  match i, hi, hiq with
  | 0, _, _ =>
   intro w Y
   exact OpV.g (aD rfl rfl)
  | 1, _, _ =>
   intro w Y
   exact OpV.g (aD rfl rfl)
  | 2, _, _ =>
   intro w Y
   exact OpV.g (aD rfl rfl)
  | 3, _, _ =>
   intro w Y
   exact OpV.g (cG rfl)
  | 4, _, _ =>
   intro w Y
   exact OpV.g (cG rfl)
 ·intro i hi
  exact absurd hi (by simp)
 clear Z Y
 intro  a w4 Z Y
 replace Z : Fr 28 [(16, iv 0), (17, iv 0), (18, iv 10), (3, iv 0), (4, iv 0), (0, _), (2, _), (7, _), (8, _), (9, _), (10, _), (11, _), (12, _), (13, _), (14, _), (15, _), (6, _)] [] a := Z
 refine ab <| aQ (k := 15) 16 [15] (by kernel_rfl) (by kernel_rfl) (by kernel_rfl) ?_
 refine wla Z rfl fun a Z => ab ?_
 refine aZ (by kernel_rfl) ?_
 refine hK2 _ _ ?_
 replace Z : Fr 28 [(0, _), (2, _), (3, _), (4, _), (5, _)] [] a := Z.pick [0, 2, 3, 4, 5]
 refine ai fun K3 hK3 => aa fun K4 hK4 => wlm Z rfl fun a Z => wlv Z ((v_ne rfl rfl).asb (b' := true) rfl) fun a Z => ab (hK4 _ _ ?_)
 refine aL Z rfl ?_
 refine bA ?_
 refine aS 2 ?_
 refine wlv Z (bC (v := .agg #[]) rfl (by kernel_rfl)) fun a Z => wlv Z (cO rfl Tryz.underlying142) fun a Z => ab ?_
 refine dH Z rfl ?_
 exact dR (X := fun c w => c = [{ v := .iface 142 (.agg #[]), recovered := false }] ∧ St M w0 [blk b [sv s, iv z] 145] w) Z ⟨rfl, Y.select [0] (by decide)⟩
theorem lF {M : Nat → Prop} {w0 : World} (b : Nat) (s r r2 : By) (x z : Int) (ws : World) (hz : z = ((s.length - r.length : Nat) : Int)) (hsf : r <:+ s) (hsl : s.length ≤ 1000000) (hq : kdI x r = some r2) (Y : St M w0 [blk b [sv s, iv z] 145] ws) :
  Ret Tryz.prog 83 #[pt b, iv x] ws fun u w => u = .tuple #[] ∧ St M w0 [blk b [sv s, iv ((s.length - r2.length : Nat) : Int)] 145] w := by
 refine aF Tryz.func83 rfl Tryz.ntmps83 (lb rfl) fun a Z => ?_
 replace Z : Fr 10 [(0, _), (1, _)] [] a := Z
 skip
 refine aa fun K1 hK1 => wlm Z rfl fun a Z => aV (R := fun u e' => u = iv x ∧ e' = blk b [sv s, iv ((s.length - r2.length : Nat) : Int)] 145) 0 Z Y rfl (by decide) Tryz.call82 rfl (fun h => (bQ b s _ r2 x _ _ hz hsf hsl (gA hq) h).mono fun u w ⟨h1, h2⟩ => ⟨_, ⟨h1, rfl⟩, h2⟩) ?_
 clear Z Y
 rintro a w1 _ _ ⟨rfl, rfl⟩ Z Y
 replace Y : St M w0 [blk b [sv s, iv ((s.length - r2.length : Nat) : Int)] 145] w1 := Y
 refine wlm Z rfl fun a Z => wlv Z ((v_ne rfl rfl).asb (b' := false) (by simp)) fun a Z => ab (hK1 _ _ ?_)
 refine bE Z rfl ?_
 refine ax ?_
 refine cA Z Tryz.results83 ag ?_
 exact ⟨rfl, Y.select [0] (by decide)⟩
theorem j7 {M : Nat → Prop} {w0 : World} (b : Nat) (s r  : By) (x z : Int) (ws : World) (hz : z = ((s.length - r.length : Nat) : Int)) (hsf : r <:+ s) (hsl : s.length ≤ 1000000) (hq : kdI x r = none) (Y : St M w0 [blk b [sv s, iv z] 145] ws) :
  Pan Tryz.prog 83 #[pt b, iv x] ws fun c w => c = [{ v := .iface 142 (.agg #[]), recovered := false }] ∧ Ext M w0 w := by
 refine lc Tryz.func83 rfl Tryz.ntmps83 (lb rfl) fun a Z => ?_
 replace Z : Fr 10 [(0, _), (1, _)] [] a := Z
 skip
 refine ct fun K1 hK1 hP1 => aS 1 ?_
 refine wlm Z rfl fun a Z => ab ?_
 rcases jH hq with hq1 | ⟨n, r2, hq1, hnx⟩
 ·refine bX (X := fun c => c = [{ v := .iface 142 (.agg #[]), recovered := false }]) 0 Z Y rfl Tryz.call82 rfl (fun h => (bN b s r z _ hz hsf hsl hq1 h).mono fun e w ⟨c, h1, h2, h3⟩ => ⟨c, h1, _, h2, h3⟩) ?_
  clear Y
  rintro _ w1 e9 rfl Y
  refine hP1 _ _ _ ?_
  exact dR (X := fun c w => c = [{ v := .iface 142 (.agg #[]), recovered := false }] ∧ Ext M w0 w) Z ⟨rfl, Y.ext⟩
 refine aS 1 ?_
 refine aV (R := fun u e' => u = iv n ∧ e' = blk b [sv s, iv ((s.length - r2.length : Nat) : Int)] 145) 0 Z Y rfl (by decide) Tryz.call82 rfl (fun h => (bQ b s _ r2 n _ _ hz hsf hsl hq1 h).mono fun u w ⟨h1, h2⟩ => ⟨_, ⟨h1, rfl⟩, h2⟩) ?_
 clear Z Y
 rintro a w2 _ _ ⟨rfl, rfl⟩ Z Y
 replace Y : St M w0 [blk b [sv s, iv ((s.length - r2.length : Nat) : Int)] 145] w2 := Y
 refine ab <| cP ?_
 refine wlm Z rfl fun a Z => wlv Z (v_ne rfl rfl) fun a Z => ab (hK1 _ _ ?_)
 refine ay Z rfl (fun hc1 => ?_) (fun hc1 => ?_)
 ·rw [hc1] at Z
  try simp only [qz] at hc1
  refine bA ?_
  refine aS 2 ?_
  refine wlv Z (bC (v := .agg #[]) rfl (by kernel_rfl)) fun a Z => wlv Z (cO rfl Tryz.underlying142) fun a Z => ab ?_
  refine dH Z rfl ?_
  exact dR (X := fun c w => c = [{ v := .iface 142 (.agg #[]), recovered := false }] ∧ Ext M w0 w) Z ⟨rfl, Y.ext⟩
 rw [hc1] at Z
 try simp only [qz] at hc1
 exact absurd hc1 hnx
theorem og {r g q : By} (h : dgI r = some (g, q)) : 32 ≤ r.length ∧ q.length + 32 = r.length ∧ g = r.take 32 := by
 unfold dgI at h
 split at h
 ·rename_i hl; cases h; exact ⟨hl, by rw [List.length_drop]; omega, rfl⟩
 ·cases h
theorem pY {s r g q : By} (h : dgI r = some (g, q)) (hs : r <:+ s) : g = (s.drop (s.length - r.length)).take (s.length - r.length + 32 - (s.length - r.length)) := by
 rw [← List.suffix_iff_eq_drop.1 hs, show s.length - r.length + 32 - (s.length - r.length) = 32 from by omega]; exact (og h).2.2
theorem dg_no {r : By} (h : dgI r = none) : r.length < 32 := by
 unfold dgI at h
 split at h
 ·cases h
 ·omega
theorem oi {M : Nat → Prop} {w0 : World} (b : Nat) (s r r2 g : By) (z : Int) (ws : World) (hz : z = ((s.length - r.length : Nat) : Int)) (hsf : r <:+ s) (hsl : s.length ≤ 1000000) (hq : dgI r = some (g, r2)) (Y : St M w0 [blk b [sv s, iv z] 145] ws) :
  Ret Tryz.prog 84 #[pt b] ws fun u w => u = sv g ∧ St M w0 [blk b [sv s, iv ((s.length - r2.length : Nat) : Int)] 145] w := by
 have hsu := hsf.length_le
 obtain ⟨hd1, hd2, -⟩ := og hq
 have hzz := hz
 refine aF Tryz.func84 rfl Tryz.ntmps84 (lb rfl) fun a Z => ?_
 replace Z : Fr 39 [(0, _)] [] a := Z
 skip
 refine aa fun K1 hK1 => wla Z rfl fun a Z => ab (hK1 _ _ ?_)
 refine ai fun K2 hK2 => ai fun K3 hK3 => aM (by kernel_rfl) (aO (by kernel_rfl) fun w1 hxz => ?_)
 replace Y := Y.grow hxz
 refine aX (k := 0) 9 [4, 8] Z (by kernel_rfl) (by kernel_rfl) (by kernel_rfl) (by rfl) ?_
 replace Z : Fr 39 [(0, _), (2, _)] [] a := Z.pick [0, 2]
 refine aB [] (fun i => match i with | _ => fun _ _ => False) 9 [[], [0], [1], [2], [3], [], [5], [6], [7]] [pt b, pt b, pt b, sv s, iv (s.length : Int), pt b, pt b, .pointer (some ⟨b, 1, none⟩), iv z] Z Y (by kernel_rfl) (by kernel_rfl) (by kernel_rfl) ?_ ?_ ?_
 ·intro i hi hiq
  match i, hi, hiq with
  | 0, _, _ =>
   intro w Y
   exact OpV.g (al rfl)
  | 1, _, _ =>
   intro w Y
   exact OpV.g (aH rfl)
  | 2, _, _ =>
   intro w Y
   exact OpV.g (ac (v := pt b) rfl (by kernel_rfl))
  | 3, _, _ =>
   intro w Y
   exact OpV.g (ae (Y.get (k := 0) rfl) rfl (Tryz.isAgg9 _) rfl)
  | 4, _, _ =>
   intro w Y
   exact OpV.g (bD rfl rfl (Tryz.runUnderlying9 _))
  | 5, _, _ =>
   intro w Y
   exact OpV.g (al rfl)
  | 6, _, _ =>
   intro w Y
   exact OpV.g (aH rfl)
  | 7, _, _ =>
   intro w Y
   exact OpV.g (ac (v := .pointer (some ⟨b, 1, none⟩)) rfl (by kernel_rfl))
  | 8, _, _ =>
   intro w Y
   exact OpV.g (ae (Y.get (k := 0) rfl) rfl (Tryz.isAgg3 _) rfl)
 ·intro i hi
  exact absurd hi (by simp)
 clear Z Y
 intro  a w2 Z Y
 replace Z : Fr 39 [(4, pt b), (5, pt b), (6, pt b), (7, sv s), (8, iv (s.length : Int)), (9, pt b), (10, pt b), (11, .pointer (some ⟨b, 1, none⟩)), (12, iv z), (0, _), (2, _)] [] a := Z
 refine ab <| aQ (k := 9) 11 [10] (by kernel_rfl) (by kernel_rfl) (by kernel_rfl) ?_
 refine wlv Z (cc rfl rfl ⟨by omega, by omega⟩) fun a Z => wlv Z ((v_lt rfl rfl).asb (b' := false) (by exact decide_eq_false (by rw [hz]; omega))) fun a Z => ab ?_
 refine aZ (by kernel_rfl) ?_
 refine hK3 _ _ ?_
 replace Z : Fr 39 [(0, _), (2, _), (14, _)] [] a := Z.pick [0, 2, 14]
 refine bE Z rfl ?_
 refine ax ?_
 refine hK2 _ _ ?_
 refine ai fun K4 hK4 => aM (by kernel_rfl) (aO (by kernel_rfl) fun w3 hxz => ?_)
 replace Y := Y.grow hxz
 refine aX (k := 0) 13 [3, 7, 12] Z (by kernel_rfl) (by kernel_rfl) (by kernel_rfl) (by rfl) ?_
 replace Z : Fr 39 [(0, _), (2, _), (14, _)] [] a := Z.pick [0, 2, 14]
 refine aB [] (fun i => match i with | _ => fun _ _ => False) 13 [[], [0], [1], [2], [], [4], [5], [6], [], [8], [9], [10], [11]] [pt b, pt b, pt b, sv s, pt b, pt b, .pointer (some ⟨b, 1, none⟩), iv z, pt b, pt b, .pointer (some ⟨b, 1, none⟩), iv z, iv ((s.length - r2.length : Nat) : Int)] Z Y (by kernel_rfl) (by kernel_rfl) (by kernel_rfl) ?_ ?_ ?_
 ·intro i hi hiq
  match i, hi, hiq with
  | 0, _, _ =>
   intro w Y
   exact OpV.g (al rfl)
  | 1, _, _ =>
   intro w Y
   exact OpV.g (aH rfl)
  | 2, _, _ =>
   intro w Y
   exact OpV.g (ac (v := pt b) rfl (by kernel_rfl))
  | 3, _, _ =>
   intro w Y
   exact OpV.g (ae (Y.get (k := 0) rfl) rfl (Tryz.isAgg9 _) rfl)
  | 4, _, _ =>
   intro w Y
   exact OpV.g (al rfl)
  | 5, _, _ =>
   intro w Y
   exact OpV.g (aH rfl)
  | 6, _, _ =>
   intro w Y
   exact OpV.g (ac (v := .pointer (some ⟨b, 1, none⟩)) rfl (by kernel_rfl))
  | 7, _, _ =>
   intro w Y
   exact OpV.g (ae (Y.get (k := 0) rfl) rfl (Tryz.isAgg3 _) rfl)
  | 8, _, _ =>
   intro w Y
   exact OpV.g (al rfl)
  | 9, _, _ =>
   intro w Y
   exact OpV.g (aH rfl)
  | 10, _, _ =>
   intro w Y
   exact OpV.g (ac (v := .pointer (some ⟨b, 1, none⟩)) rfl (by kernel_rfl))
  | 11, _, _ =>
   intro w Y
   exact OpV.g (ae (Y.get (k := 0) rfl) rfl (Tryz.isAgg3 _) rfl)
  | 12, _, _ =>
   intro w Y
   exact OpV.g ((aT rfl rfl ⟨by omega, by omega⟩).asi (m' := ((s.length - r2.length : Nat) : Int)) (by omega))
  | i + 13, h, _ => exact absurd h (by omega)
 ·intro i hi
  exact absurd hi (by simp)
 clear Z Y
 intro  a w4 Z Y
 replace Z : Fr 39 [(17, pt b), (18, pt b), (19, pt b), (20, sv s), (21, pt b), (22, pt b), (23, .pointer (some ⟨b, 1, none⟩)), (24, iv z), (25, pt b), (26, pt b), (27, .pointer (some ⟨b, 1, none⟩)), (28, iv z), (29, iv ((s.length - r2.length : Nat) : Int)), (0, _), (2, _), (14, _)] [] a := Z
 refine ab <| aQ (k := 13) 15 [14] (by kernel_rfl) (by kernel_rfl) (by kernel_rfl) ?_
 refine wlv Z ((i8 (xs := s) (l := s.length - r.length) (h := s.length - r.length + 32) rfl rfl rfl Tryz.underlying9 (.inr ⟨.i64, congrArg (fun i => some (iv i)) hz⟩) (.inr ⟨.i64, congrArg (fun i => some (iv i)) (by omega)⟩) (by omega) (by omega)).as (v' := sv g) (by rw [← pY hq hsf])) fun a Z => wla Z rfl fun a Z => ab ?_
 refine aZ (by kernel_rfl) ?_
 refine hK4 _ _ ?_
 replace Z : Fr 39 [(0, _), (2, _), (3, _)] [] a := Z.pick [0, 2, 3]
 refine aa fun K5 hK5 => wlm Z rfl fun a Z => wlv Z (aH rfl) fun a Z => wlv Z (ac (v := .pointer (some ⟨b, 1, none⟩)) rfl (by kernel_rfl)) fun a Z => wlv Z (ae (Y.get (k := 0) rfl) rfl (Tryz.isAgg3 _) rfl) fun a Z => wlv Z ((aT rfl rfl ⟨by omega, by omega⟩).asi (m' := ((s.length - r2.length : Nat) : Int)) (by omega)) fun a Z => wlv Z (aH rfl) fun a Z => ?_
 refine wlv Z (ac (v := .pointer (some ⟨b, 1, none⟩)) rfl (by kernel_rfl)) fun a Z => ap 0 Z Y rfl rfl rfl (Tryz.sizeOf3 _) rfl (lb rfl) (ds := [sv s, iv ((s.length - r2.length : Nat) : Int)]) rfl rfl ?_
 clear Z Y
 intro a w5 Z Y
 refine ab (hK5 _ _ ?_)
 replace Z : Fr 39 [(2, _), (3, _)] [] a := Z.pick [2, 3]
 refine aa fun K6 hK6 => wlm Z rfl fun a Z => wla Z rfl fun a Z => ab (hK6 _ _ ?_)
 refine aw ?_
 refine ao Z Tryz.results84 (ah rfl ag) ?_
 exact ⟨rfl, Y.select [0] (by decide)⟩
theorem l9 {M : Nat → Prop} {w0 : World} (b : Nat) (s r  : By) (z : Int) (ws : World) (hz : z = ((s.length - r.length : Nat) : Int)) (hsf : r <:+ s) (hsl : s.length ≤ 1000000) (hq : dgI r = none) (Y : St M w0 [blk b [sv s, iv z] 145] ws) :
  Pan Tryz.prog 84 #[pt b] ws fun c w => c = [{ v := .iface 142 (.agg #[]), recovered := false }] ∧ St M w0 [blk b [sv s, iv z] 145] w := by
 have hsu := hsf.length_le
 have hd1 := dg_no hq
 refine lc Tryz.func84 rfl Tryz.ntmps84 (lb rfl) fun a Z => ?_
 replace Z : Fr 39 [(0, _)] [] a := Z
 skip
 refine aa fun K1 hK1 => wla Z rfl fun a Z => ab (hK1 _ _ ?_)
 refine ai fun K2 hK2 => ai fun K3 hK3 => aM (by kernel_rfl) (aO (by kernel_rfl) fun w1 hxz => ?_)
 replace Y := Y.grow hxz
 refine aX (k := 0) 9 [4, 8] Z (by kernel_rfl) (by kernel_rfl) (by kernel_rfl) (by rfl) ?_
 replace Z : Fr 39 [(0, _), (2, _)] [] a := Z.pick [0, 2]
 refine aB [] (fun i => match i with | _ => fun _ _ => False) 9 [[], [0], [1], [2], [3], [], [5], [6], [7]] [pt b, pt b, pt b, sv s, iv (s.length : Int), pt b, pt b, .pointer (some ⟨b, 1, none⟩), iv z] Z Y (by kernel_rfl) (by kernel_rfl) (by kernel_rfl) ?_ ?_ ?_
 ·intro i hi hiq
  match i, hi, hiq with
  | 0, _, _ =>
   intro w Y
   exact OpV.g (al rfl)
  | 1, _, _ =>
   intro w Y
   exact OpV.g (aH rfl)
  | 2, _, _ =>
   intro w Y
   exact OpV.g (ac (v := pt b) rfl (by kernel_rfl))
  | 3, _, _ =>
   intro w Y
   exact OpV.g (ae (Y.get (k := 0) rfl) rfl (Tryz.isAgg9 _) rfl)
  | 4, _, _ =>
   intro w Y
   exact OpV.g (bD rfl rfl (Tryz.runUnderlying9 _))
  | 5, _, _ =>
   intro w Y
   exact OpV.g (al rfl)
  | 6, _, _ =>
   intro w Y
   exact OpV.g (aH rfl)
  | 7, _, _ =>
   intro w Y
   exact OpV.g (ac (v := .pointer (some ⟨b, 1, none⟩)) rfl (by kernel_rfl))
  | 8, _, _ =>
   intro w Y
   exact OpV.g (ae (Y.get (k := 0) rfl) rfl (Tryz.isAgg3 _) rfl)
 ·intro i hi
  exact absurd hi (by simp)
 clear Z Y
 intro  a w2 Z Y
 replace Z : Fr 39 [(4, pt b), (5, pt b), (6, pt b), (7, sv s), (8, iv (s.length : Int)), (9, pt b), (10, pt b), (11, .pointer (some ⟨b, 1, none⟩)), (12, iv z), (0, _), (2, _)] [] a := Z
 refine ab <| aQ (k := 9) 11 [10] (by kernel_rfl) (by kernel_rfl) (by kernel_rfl) ?_
 refine wlv Z (cc rfl rfl ⟨by omega, by omega⟩) fun a Z => wlv Z ((v_lt rfl rfl).asb (b' := true) (by exact decide_eq_true (by rw [hz]; omega))) fun a Z => ab ?_
 refine aZ (by kernel_rfl) ?_
 refine hK3 _ _ ?_
 replace Z : Fr 39 [(0, _), (2, _), (14, _)] [] a := Z.pick [0, 2, 14]
 refine aL Z rfl ?_
 refine bA ?_
 refine aS 2 ?_
 refine wlv Z (bC (v := .agg #[]) rfl (by kernel_rfl)) fun a Z => wlv Z (cO rfl Tryz.underlying142) fun a Z => ab ?_
 refine dH Z rfl ?_
 exact dR (X := fun c w => c = [{ v := .iface 142 (.agg #[]), recovered := false }] ∧ St M w0 [blk b [sv s, iv z] 145] w) Z ⟨rfl, Y.select [0] (by decide)⟩
end Go.Proofs.YtmmfieceinmloaaGreatDoor
namespace Go.Proofs.YtmmfieceinmloaaGreatDoor
open Go.RowKit Go.PW
set_option linter.unusedVariables false
set_option linter.unusedSimpArgs false
set_option maxRecDepth 4000
theorem mC {P : Program} {w : World} {L : List (Nat × Value)} {dst : Option Tmp} {T T' ty : TypeId} {pos : String} {af : Array Edge} {x y : Operand} (hx : ev L x = some .nilIface) (hy : ev L y = some .nilIface) (hr : (binOp .eql T .nilIface .nilIface).run P w = .ok (.bool true) w) (hg : (eqGuard .eql T x y .nilIface .nilIface).run P w = .ok () w) : OpV P ⟨dst, .binOp .eql T x y T', ty, pos, af, none⟩ L w (.bool true) :=
 ⟨rfl, fun N df a h => by
  simp only [execOp, h.eval hx, h.eval hy, Sem.run_bind, hg, hr, Result.andThen_ok]; rfl⟩
theorem bM {M : Nat → Prop} {w0 : World} (b2 b3 b4 : Nat) (c0 c1 c2 c3 c4 c5 c6 c7 c8 c9 c10 : Value) (ws : World) (Y : St M w0 [blk b2 [c0, c1, c2, c3, c4, c5, c6, c7, c8] 30, blk b3 [c9] 31, blk b4 [c10] 54] ws) :
  CallsDIn Fence.wide 0 Tryz.prog 81 #[pt b2, pt b3, pt b4] (.panicking [{ v := .iface 142 (.agg #[]), recovered := false }]) ws fun e u' w => u' = (.panicking [{ v := .iface 142 (.agg #[]), recovered := true }]) ∧ ∃ x, e = .returned x ∧ St M w0 [blk b2 [iv 0, iv 0, iv 0, iv 0, iv 0, iv 0, iv 0, iv 0, sv ([] : By)] 30, blk b3 [.slice none 0 0] 31, blk b4 [iv 150] 54] w  := by
 refine nv (args := [pt b2, pt b3, pt b4]) Tryz.func81 rfl Tryz.ntmps81 (lb rfl) rfl rfl (by decide) (fun _ _ => rfl) (.inr ⟨rfl, rfl⟩) fun a Z => ?_
 replace Z : Fr 13 [(6, _), (0, _), (1, _), (2, _)] [] a := Z
 skip
 refine aq <| aa fun K1 hK1 => wlv Z (kU rfl rfl (by kernel_rfl) (by kernel_rfl)) fun a Z => ab (hK1 _ _ ?_)
 refine bE Z rfl ?_
 refine aa fun K2 hK2 => wlv Z (jg rfl Tryz.underlying142) fun a Z => wlv Z (aD rfl rfl) fun a Z => wlv Z (aD rfl rfl) fun a Z => ab (hK2 _ _ ?_)
 refine aL Z rfl ?_
 refine aa fun K3 hK3 => aK Z Y (by decide) (Tryz.zeroValue142 _) (cs := []) rfl ?_
 clear Z Y
 intro a w1 Z Y
 refine ap 0 Z Y rfl rfl rfl (Tryz.sizeOf142 _) rfl (lb rfl) (ds := []) rfl rfl ?_
 clear Z Y
 intro a w2 Z Y
 refine ab (hK3 _ _ ?_)
 replace Z : Fr 13 [(0, _), (1, _), (2, _)] [] a := Z.pick [0, 1, 2]
 replace Y : St M w0 [_, _, _] w2 := Y.mask [false, true, true, true]
 refine am <| wlv Z (bC (v := .agg #[iv 0, iv 0, iv 0, iv 0, iv 0, iv 0, iv 0, iv 0, .string (⟨#[]⟩)]) rfl (by kernel_rfl)) fun a Z => ap 0 Z Y rfl rfl rfl (Tryz.sizeOf30 _) rfl (lb rfl) (ds := [iv 0, iv 0, iv 0, iv 0, iv 0, iv 0, iv 0, iv 0, .string (⟨#[]⟩)]) rfl rfl ?_
 clear Z Y
 intro a w3 Z Y
 refine ap 1 Z Y rfl rfl rfl (Tryz.sizeOf31 _) rfl (lb rfl) (ds := [.slice none 0 0]) rfl rfl ?_
 clear Z Y
 intro a w4 Z Y
 refine ap 2 Z Y rfl rfl rfl (Tryz.sizeOf54 _) rfl (lb rfl) (ds := [iv 150]) rfl rfl ?_
 clear Z Y
 intro a w5 Z Y
 refine ab ?_
 refine kb Z Tryz.results81 ag ?_
 exact Y.select [0, 1, 2] (by decide)
theorem nt (b2 b3 b4 : Nat) (ws : World) :
  CallsDIn Fence.wide 0 Tryz.prog 81 #[pt b2, pt b3, pt b4] .returning ws fun e u' w => u' = .returning ∧ ∃ x, e = .returned x ∧ Ext No ws w  := by
 refine nv (args := [pt b2, pt b3, pt b4]) Tryz.func81 rfl Tryz.ntmps81 (lb rfl) rfl rfl (by decide) (fun _ _ => rfl) (.inl ⟨rfl, rfl, rfl⟩) fun a Z => ?_
 replace Z : Fr 13 [(6, _), (0, _), (1, _), (2, _)] [] a := Z
 replace Y : St No ws [] ws := St.init ws
 refine aq <| aa fun K1 hK1 => wlv Z (mC rfl rfl (by kernel_rfl) (by kernel_rfl)) fun a Z => ab (hK1 _ _ ?_)
 refine aL Z rfl ?_
 refine am <| wla Z rfl fun a Z => ab ?_
 refine kb Z Tryz.results81 ag ?_
 exact Y.ext
theorem lD {M : Nat → Prop} {w0 w : World} (h : Ext M w0 w) : St M w0 [join []] w :=
 ⟨h, fun e he => by rw [List.mem_singleton.1 he]; exact ⟨⟨fun e he => (by cases he), List.Pairwise.nil⟩, fun k ⟨e, he, _⟩ => (by cases he)⟩, List.pairwise_singleton _ _⟩
theorem nD {l : List Pxy} {w : Wsh} {r : By} (h : r ≠ []) : shutH l w r = none := if_neg fun hh => h hh.1
theorem n9 {l : List Pxy} {w : Wsh} {r : By} (h : bI w l = false) : shutH l w r = none := if_neg fun hh => by rw [h] at hh; cases hh.2
theorem nj {l : List Pxy} {w : Wsh} {r : By} (h1 : r = []) (h2 : bI w l = true) : shutH l w r = some (w, l) := if_pos ⟨h1, h2⟩
theorem ot {n a b : Int} (h : inB n a b = true) : a ≤ n ∧ n ≤ b := by simpa [inB] using h
set_option maxHeartbeats 4000000 in
theorem lq (s : By) (w0 : World) (hsl : s.length ≤ 1000000) :
  Ret Tryz.prog 28 #[sv s] w0 fun v w => (∃ x ps, db s = some (x, ps) ∧ MemR w0 (fun lv : Value => .tuple #[.agg x.cells.toArray, lv, iv 0]) (fun lv => [own lv 40 7 (ps.map Pxy.cells)]) (fun _ => True) v w) ∨ (db s = none ∧ v = .tuple #[.agg #[iv 0, iv 0, iv 0, iv 0, iv 0, iv 0, iv 0, iv 0, sv ([] : By)], .slice none 0 0, iv 150] ∧ Ext No w0 w) := by
 refine pu Tryz.func28 rfl Tryz.ntmps28 (lb rfl) fun a Z => ?_
 replace Z : Fr 98 [(0, _)] [] a := Z
 replace Y : St No w0 [] w0 := St.init w0
 refine aa fun K1 hK1 => aK Z Y (by decide) (Tryz.zeroValue30 _) (cs := [iv 0, iv 0, iv 0, iv 0, iv 0, iv 0, iv 0, iv 0, .string (⟨#[]⟩)]) rfl ?_
 clear Z Y
 intro a w1 Z Y
 refine aK Z Y (by decide) (Tryz.zeroValue31 _) (cs := [.slice none 0 0]) rfl ?_
 clear Z Y
 intro a w2 Z Y
 refine aK Z Y (by decide) (Tryz.zeroValue54 _) (cs := [iv 0]) rfl ?_
 clear Z Y
 intro a w3 Z Y
 refine ab (hK1 _ _ ?_)
 refine aa fun K2 hK2 => wlv Z (cl rfl rfl) fun a Z => nI Z rfl fun a Z => ab (hK2 _ _ ?_)
 refine aa fun K3 hK3 => wlm Z rfl fun a Z => wlv Z (bC (v := .agg #[sv s, iv 0]) rfl (by kernel_rfl)) fun a Z => aY Z Y (by decide) rfl (cs := [sv s, iv 0]) rfl ?_
 clear Z Y
 intro a w4 Z Y
 refine wla Z rfl fun a Z => ab (hK3 _ _ ?_)
 have hd0 : db s = getI s (fun n r => if inB n 0 4 = true then rdPxys n.toNat [] r tailH else none) := rfl
 refine ct fun K4 hK4 hP4 => aS 1 ?_
 refine wlm Z rfl fun a Z => ab ?_
 rcases hq1 : rdI s with _ | ⟨n3, r2⟩
 ·have hdn := hd0.trans (bY hq1)
  refine bX (X := fun c => c = [{ v := .iface 142 (.agg #[]), recovered := false }]) 0 Z Y rfl Tryz.call82 rfl (fun h => (bN w3.heap.size s s  0 _ (by simp) (List.suffix_refl s) hsl hq1 h).mono fun e w ⟨c, h1, h2, h3⟩ => ⟨c, h1, _, h2, h3⟩) ?_
  clear Y
  rintro _ w5 e9 rfl Y
  refine hP4 _ _ _ ?_
  replace Y : St No w0 [blk w0.heap.size [iv 0, iv 0, iv 0, iv 0, iv 0, iv 0, iv 0, iv 0, .string (⟨#[]⟩)] 30, blk w1.heap.size [.slice none 0 0] 31, blk w2.heap.size [iv 0] 54] w5 := Y.select [3, 2, 1] (by decide)
  exact bn Z Tryz.call81 (bM _ _ _ _ _ _ _ _ _ _ _ _ _ _ _ Y) Tryz.results28 (fun w9 Y => ⟨(aj rfl (ba (Y.get (k := 0) rfl) (Tryz.isAgg30 _) (Tryz.sizeOf30 _)) (aj rfl (aI (Y.get (k := 1) rfl) (Tryz.isAgg31 _)) (aj rfl (aI (Y.get (k := 2) rfl) (Tryz.isAgg54 _)) ag))), .inr ⟨hdn, rfl, Y.ext⟩⟩)
 have hd4 := hd0.trans (cd hq1)
 have hs5 := (co hq1).trans (List.suffix_refl s)
 refine aS 1 ?_
 refine aV (R := fun u e' => u = iv n3 ∧ e' = blk w3.heap.size [sv s, iv ((s.length - r2.length : Nat) : Int)] 145) 0 Z Y rfl (by decide) Tryz.call82 rfl (fun h => (bQ w3.heap.size s s r2 n3 0 _ (by simp) (List.suffix_refl s) hsl hq1 h).mono fun u w ⟨h1, h2⟩ => ⟨_, ⟨h1, rfl⟩, h2⟩) ?_
 clear Z Y
 rintro a w6 _ _ ⟨rfl, rfl⟩ Z Y
 replace Y : St No w0 [blk w3.heap.size [sv s, iv ((s.length - r2.length : Nat) : Int)] 145, blk w2.heap.size [iv 0] 54, blk w1.heap.size [.slice none 0 0] 31, blk w0.heap.size [iv 0, iv 0, iv 0, iv 0, iv 0, iv 0, iv 0, iv 0, .string (⟨#[]⟩)] 30] w6 := Y
 refine ab <| cP ?_
 refine wla Z rfl fun a Z => ab (hK4 _ _ ?_)
 replace Z : Fr 98 [(0, _), (2, _), (3, _), (4, _), (5, _), (6, _)] [{ target := .fn (.func 81) #[pt w0.heap.size, pt w1.heap.size, pt w2.heap.size], args := #[] }] a := Z.pick [0, 2, 3, 4, 5, 6]
 refine ai fun K5 hK5 => aa fun K6 hK6 => wlm Z rfl fun a Z => aA Z Y (by decide) Tryz.call60 rfl (bW n3 0 4 _) ?_
 clear Z Y
 intro a w7 Z Y
 refine wlv Z (bS rfl) fun a Z => ab (hK6 _ _ ?_)
 refine ay Z rfl (fun hc6 => ?_) (fun hc6 => ?_)
 ·rw [hc6] at Z
  try simp only [qz] at hc6
  have hdn : db s = none := hd4.trans (if_neg (by rw [hc6]; decide))
  refine bA ?_
  refine aS 2 ?_
  refine wlv Z (bC (v := .agg #[]) rfl (by kernel_rfl)) fun a Z => wlv Z (cO rfl Tryz.underlying142) fun a Z => ab ?_
  refine dH Z rfl ?_
  replace Y : St No w0 [blk w0.heap.size [iv 0, iv 0, iv 0, iv 0, iv 0, iv 0, iv 0, iv 0, .string (⟨#[]⟩)] 30, blk w1.heap.size [.slice none 0 0] 31, blk w2.heap.size [iv 0] 54] w7 := Y.select [3, 2, 1] (by decide)
  exact bn Z Tryz.call81 (bM _ _ _ _ _ _ _ _ _ _ _ _ _ _ _ Y) Tryz.results28 (fun w9 Y => ⟨(aj rfl (ba (Y.get (k := 0) rfl) (Tryz.isAgg30 _) (Tryz.sizeOf30 _)) (aj rfl (aI (Y.get (k := 1) rfl) (Tryz.isAgg31 _)) (aj rfl (aI (Y.get (k := 2) rfl) (Tryz.isAgg54 _)) ag))), .inr ⟨hdn, rfl, Y.ext⟩⟩)
 rw [hc6] at Z
 try simp only [qz] at hc6
 have hd9 := hd4.trans (if_pos hc6)
 have hib := ot hc6
 refine ax ?_
 refine hK5 _ _ ?_
 refine ai fun K7 hK7 => ?_
 replace Y : St No w0 [own (.slice none 0 0) 40 7 (([] : List Pxy).map Pxy.cells), blk w3.heap.size [sv s, iv ((s.length - r2.length : Nat) : Int)] 145, blk w2.heap.size [iv 0] 54, blk w1.heap.size [.slice none 0 0] 31, blk w0.heap.size [iv 0, iv 0, iv 0, iv 0, iv 0, iv 0, iv 0, iv 0, .string (⟨#[]⟩)] 30] w7 := Y.nil_own
 refine aa fun K8 hK8 => wlm Z rfl fun a Z => wlm Z rfl fun a Z => ab (hK8 _ _ ?_)
 refine aq <| aW (fun m a w => ∃ (k : Nat) (acc : List Pxy) (r : By) (lv : Value), m = n3.toNat - k ∧ ((k : Int) ≤ n3) ∧ (db s = rdPxys (n3.toNat - k) acc r tailH) ∧ (r <:+ s) ∧ (acc.length = k) ∧ Fr 98 [(0, sv s), (2, pt w0.heap.size), (3, pt w1.heap.size), (4, pt w2.heap.size), (5, pt w3.heap.size), (23, iv n3), (24, iv (k : Int))] [{ target := .fn (.func 81) #[pt w0.heap.size, pt w1.heap.size, pt w2.heap.size], args := #[] }] a ∧ St No w0 [blk w3.heap.size [sv s, iv ((s.length - r.length : Nat) : Int)] 145, blk w0.heap.size [iv 0, iv 0, iv 0, iv 0, iv 0, iv 0, iv 0, iv 0, .string (⟨#[]⟩)] 30, blk w1.heap.size [lv] 31, blk w2.heap.size [iv 0] 54, own lv 40 7 ((acc).map Pxy.cells)] w) _ ⟨0, [], r2, .slice none 0 0, rfl, (by omega), hd9, hs5, rfl, Z.pick [0, 2, 3, 4, 5, 23, 24], Y.select [1, 4, 3, 2, 0] (by decide)⟩ ?_
 rintro _ a w8 ⟨k, acc, r, lv, rfl, hk, hdl, hsl2, hal, Z, Y⟩
 refine aa fun K9 hK9 => wlv Z (v_lt rfl rfl) fun a Z => ab (hK9 _ _ ?_)
 refine ai fun K10 hK10 => ?_
 refine ay Z rfl (fun hc7 => ?_) (fun hc7 => ?_)
 ·rw [hc7] at Z
  try simp only [qz] at hc7
  obtain ⟨mm, hm⟩ : ∃ m, n3.toNat - k = m + 1 := ⟨n3.toNat - k - 1, by omega⟩
  rw [hm] at hdl
  have hdk : db s = kindI 2 r _ := hdl
  refine ax ?_
  refine hK10 _ _ ?_
  refine ai fun K11 hK11 => aq ?_
  refine aa fun K12 hK12 => aK Z Y (by decide) (Tryz.zeroValue40 _) (cs := [iv 0, iv 0, iv 0, iv 0, iv 0, iv 0, .string (⟨#[]⟩)]) rfl ?_
  clear Z Y
  intro a w9 Z Y
  refine ab (hK12 _ _ ?_)
  refine ct fun K13 hK13 hP13 => aS 1 ?_
  refine wlm Z rfl fun a Z => ab ?_
  rcases hq8 : kdI 2 r with _ | r9
  ·have hdn := hdk.trans (iI hq8)
   refine bX (X := fun c => c = [{ v := .iface 142 (.agg #[]), recovered := false }]) 1 Z Y rfl Tryz.call83 rfl (fun h => (j7 w3.heap.size s r  2 ((s.length - r.length : Nat) : Int) _ rfl hsl2 hsl hq8 h).mono fun e w ⟨c, h1, h2, h3⟩ => ⟨c, h1, _, h2, lD h3⟩) ?_
   clear Y
   rintro _ w10 e9 rfl Y
   refine hP13 _ _ _ ?_
   replace Y : St No w0 [blk w0.heap.size [iv 0, iv 0, iv 0, iv 0, iv 0, iv 0, iv 0, iv 0, .string (⟨#[]⟩)] 30, blk w1.heap.size [lv] 31, blk w2.heap.size [iv 0] 54] w10 := Y.select [2, 3, 4] (by decide)
   exact bn Z Tryz.call81 (bM _ _ _ _ _ _ _ _ _ _ _ _ _ _ _ Y) Tryz.results28 (fun w9 Y => ⟨(aj rfl (ba (Y.get (k := 0) rfl) (Tryz.isAgg30 _) (Tryz.sizeOf30 _)) (aj rfl (aI (Y.get (k := 1) rfl) (Tryz.isAgg31 _)) (aj rfl (aI (Y.get (k := 2) rfl) (Tryz.isAgg54 _)) ag))), .inr ⟨hdn, rfl, Y.ext⟩⟩)
  have hd10 := hdk.trans (jO hq8)
  have hs11 := (lY hq8).trans hsl2
  refine aS 1 ?_
  refine aV (R := fun u e' => u = .tuple #[] ∧ e' = blk w3.heap.size [sv s, iv ((s.length - r9.length : Nat) : Int)] 145) 1 Z Y rfl (by decide) Tryz.call83 rfl (fun h => (lF w3.heap.size s r r9 2 ((s.length - r.length : Nat) : Int) _ rfl hsl2 hsl hq8 h).mono fun u w ⟨h1, h2⟩ => ⟨_, ⟨h1, rfl⟩, h2⟩) ?_
  clear Z Y
  rintro a w11 _ _ ⟨rfl, rfl⟩ Z Y
  replace Y : St No w0 [blk w8.heap.size [iv 0, iv 0, iv 0, iv 0, iv 0, iv 0, .string (⟨#[]⟩)] 40, blk w3.heap.size [sv s, iv ((s.length - r9.length : Nat) : Int)] 145, blk w0.heap.size [iv 0, iv 0, iv 0, iv 0, iv 0, iv 0, iv 0, iv 0, .string (⟨#[]⟩)] 30, blk w1.heap.size [lv] 31, blk w2.heap.size [iv 0] 54, own lv 40 7 ((acc).map Pxy.cells)] w11 := Y
  refine ab <| cP ?_
  refine ab (hK13 _ _ ?_)
  refine ai fun K14 hK14 => aa fun K15 hK15 => wlv Z (ac (v := pt w8.heap.size) rfl (by kernel_rfl)) fun a Z => wlv Z (ac (v := .pointer (some ⟨w8.heap.size, 1, none⟩)) rfl (by kernel_rfl)) fun a Z => wlv Z (ac (v := .pointer (some ⟨w8.heap.size, 2, none⟩)) rfl (by kernel_rfl)) fun a Z => wlv Z (ac (v := .pointer (some ⟨w8.heap.size, 2, none⟩)) rfl (by kernel_rfl)) fun a Z => wlv Z (ac (v := .pointer (some ⟨w8.heap.size, 2, none⟩)) rfl (by kernel_rfl)) fun a Z => ?_
  refine wlv Z (ac (v := .pointer (some ⟨w8.heap.size, 3, none⟩)) rfl (by kernel_rfl)) fun a Z => wlv Z (ac (v := .pointer (some ⟨w8.heap.size, 4, none⟩)) rfl (by kernel_rfl)) fun a Z => wlv Z (ac (v := .pointer (some ⟨w8.heap.size, 4, none⟩)) rfl (by kernel_rfl)) fun a Z => wlv Z (ac (v := .pointer (some ⟨w8.heap.size, 4, none⟩)) rfl (by kernel_rfl)) fun a Z => wlv Z (ac (v := .pointer (some ⟨w8.heap.size, 5, none⟩)) rfl (by kernel_rfl)) fun a Z => wlv Z (bC (v := .agg #[pt w8.heap.size, .pointer (some ⟨w8.heap.size, 1, none⟩), .pointer (some ⟨w8.heap.size, 2, none⟩), .pointer (some ⟨w8.heap.size, 3, none⟩), .pointer (some ⟨w8.heap.size, 4, none⟩), .pointer (some ⟨w8.heap.size, 5, none⟩)]) rfl (by kernel_rfl)) fun a Z => wlm Z rfl fun a Z => ab (hK15 _ _ ?_)
  replace Z : Fr 98 [(0, _), (2, _), (3, _), (4, _), (5, _), (23, _), (24, _), (7, _), (38, _), (39, _)] [{ target := .fn (.func 81) #[pt w0.heap.size, pt w1.heap.size, pt w2.heap.size], args := #[] }] a := Z.pick [0, 2, 3, 4, 5, 23, 24, 7, 38, 39]
  refine aq <| iD 7 ?_
  refine cn ?_
  refine aa fun K16 hK16 => wlv Z ((v_lt rfl rfl).asb (b' := true) rfl) fun a Z => ab (hK16 _ _ ?_)
  refine ai fun K17 hK17 => aL Z rfl ?_
  refine ax ?_
  refine hK17 _ _ ?_
  refine ai fun K18 hK18 => aq ?_
  refine aa fun K19 hK19 => wlv Z (ck (v := pt w8.heap.size) rfl rfl (by kernel_rfl)) fun a Z => wla Z rfl fun a Z => ab (hK19 _ _ ?_)
  refine bA ?_
  refine aS 2 ?_
  refine wlm Z rfl fun a Z => wlm Z rfl fun a Z => ab ?_
  rcases hq12 : rdI r9 with _ | ⟨n14, r13⟩
  ·have hdn := hd10.trans (bY hq12)
   refine bX (X := fun c => c = [{ v := .iface 142 (.agg #[]), recovered := false }]) 1 Z Y rfl Tryz.call82 rfl (fun h => (bN w3.heap.size s r9  ((s.length - r9.length : Nat) : Int) _ rfl hs11 hsl hq12 h).mono fun e w ⟨c, h1, h2, h3⟩ => ⟨c, h1, _, h2, h3⟩) ?_
   clear Y
   rintro _ w12 e9 rfl Y
   replace Y : St No w0 [blk w0.heap.size [iv 0, iv 0, iv 0, iv 0, iv 0, iv 0, iv 0, iv 0, .string (⟨#[]⟩)] 30, blk w1.heap.size [lv] 31, blk w2.heap.size [iv 0] 54] w12 := Y.select [2, 3, 4] (by decide)
   exact bn Z Tryz.call81 (bM _ _ _ _ _ _ _ _ _ _ _ _ _ _ _ Y) Tryz.results28 (fun w9 Y => ⟨(aj rfl (ba (Y.get (k := 0) rfl) (Tryz.isAgg30 _) (Tryz.sizeOf30 _)) (aj rfl (aI (Y.get (k := 1) rfl) (Tryz.isAgg31 _)) (aj rfl (aI (Y.get (k := 2) rfl) (Tryz.isAgg54 _)) ag))), .inr ⟨hdn, rfl, Y.ext⟩⟩)
  have hd15 := hd10.trans (cd hq12)
  have hs16 := (co hq12).trans hs11
  refine aS 1 ?_
  refine aV (R := fun u e' => u = iv n14 ∧ e' = blk w3.heap.size [sv s, iv ((s.length - r13.length : Nat) : Int)] 145) 1 Z Y rfl (by decide) Tryz.call82 rfl (fun h => (bQ w3.heap.size s r9 r13 n14 ((s.length - r9.length : Nat) : Int) _ rfl hs11 hsl hq12 h).mono fun u w ⟨h1, h2⟩ => ⟨_, ⟨h1, rfl⟩, h2⟩) ?_
  clear Z Y
  rintro a w13 _ _ ⟨rfl, rfl⟩ Z Y
  replace Y : St No w0 [blk w8.heap.size [iv 0, iv 0, iv 0, iv 0, iv 0, iv 0, .string (⟨#[]⟩)] 40, blk w3.heap.size [sv s, iv ((s.length - r13.length : Nat) : Int)] 145, blk w0.heap.size [iv 0, iv 0, iv 0, iv 0, iv 0, iv 0, iv 0, iv 0, .string (⟨#[]⟩)] 30, blk w1.heap.size [lv] 31, blk w2.heap.size [iv 0] 54, own lv 40 7 ((acc).map Pxy.cells)] w13 := Y
  refine ab <| cP ?_
  refine wlv Z (aH rfl) fun a Z => ap 0 Z Y rfl rfl rfl (Tryz.sizeOf3 _) rfl (lb rfl) (ds := [iv n14, iv 0, iv 0, iv 0, iv 0, iv 0, .string (⟨#[]⟩)]) rfl rfl ?_
  clear Z Y
  intro a w14 Z Y
  refine ab ?_
  refine hK18 _ _ ?_
  replace Z : Fr 98 [(0, _), (2, _), (3, _), (4, _), (5, _), (23, _), (24, _), (7, _), (38, _), (39, _)] [{ target := .fn (.func 81) #[pt w0.heap.size, pt w1.heap.size, pt w2.heap.size], args := #[] }] a := Z.pick [0, 2, 3, 4, 5, 23, 24, 7, 38, 39]
  refine am <| wlv Z ((aT rfl rfl (by decide)).asi (m' := 1) rfl) fun a Z => wlm Z rfl fun a Z => ab ?_
  refine cn ?_
  refine aa fun K20 hK20 => wlv Z ((v_lt rfl rfl).asb (b' := true) rfl) fun a Z => ab (hK20 _ _ ?_)
  refine ai fun K21 hK21 => aL Z rfl ?_
  refine ax ?_
  refine hK21 _ _ ?_
  refine ai fun K22 hK22 => aq ?_
  refine aa fun K23 hK23 => wlv Z (ck (v := .pointer (some ⟨w8.heap.size, 1, none⟩)) rfl rfl (by kernel_rfl)) fun a Z => wla Z rfl fun a Z => ab (hK23 _ _ ?_)
  refine bA ?_
  refine aS 2 ?_
  refine wlm Z rfl fun a Z => wlm Z rfl fun a Z => ab ?_
  rcases hq17 : rdI r13 with _ | ⟨n19, r18⟩
  ·have hdn := hd15.trans (bY hq17)
   refine bX (X := fun c => c = [{ v := .iface 142 (.agg #[]), recovered := false }]) 1 Z Y rfl Tryz.call82 rfl (fun h => (bN w3.heap.size s r13  ((s.length - r13.length : Nat) : Int) _ rfl hs16 hsl hq17 h).mono fun e w ⟨c, h1, h2, h3⟩ => ⟨c, h1, _, h2, h3⟩) ?_
   clear Y
   rintro _ w15 e9 rfl Y
   replace Y : St No w0 [blk w0.heap.size [iv 0, iv 0, iv 0, iv 0, iv 0, iv 0, iv 0, iv 0, .string (⟨#[]⟩)] 30, blk w1.heap.size [lv] 31, blk w2.heap.size [iv 0] 54] w15 := Y.select [2, 3, 4] (by decide)
   exact bn Z Tryz.call81 (bM _ _ _ _ _ _ _ _ _ _ _ _ _ _ _ Y) Tryz.results28 (fun w9 Y => ⟨(aj rfl (ba (Y.get (k := 0) rfl) (Tryz.isAgg30 _) (Tryz.sizeOf30 _)) (aj rfl (aI (Y.get (k := 1) rfl) (Tryz.isAgg31 _)) (aj rfl (aI (Y.get (k := 2) rfl) (Tryz.isAgg54 _)) ag))), .inr ⟨hdn, rfl, Y.ext⟩⟩)
  have hd20 := hd15.trans (cd hq17)
  have hs21 := (co hq17).trans hs16
  refine aS 1 ?_
  refine aV (R := fun u e' => u = iv n19 ∧ e' = blk w3.heap.size [sv s, iv ((s.length - r18.length : Nat) : Int)] 145) 1 Z Y rfl (by decide) Tryz.call82 rfl (fun h => (bQ w3.heap.size s r13 r18 n19 ((s.length - r13.length : Nat) : Int) _ rfl hs16 hsl hq17 h).mono fun u w ⟨h1, h2⟩ => ⟨_, ⟨h1, rfl⟩, h2⟩) ?_
  clear Z Y
  rintro a w16 _ _ ⟨rfl, rfl⟩ Z Y
  replace Y : St No w0 [blk w8.heap.size [iv n14, iv 0, iv 0, iv 0, iv 0, iv 0, .string (⟨#[]⟩)] 40, blk w3.heap.size [sv s, iv ((s.length - r18.length : Nat) : Int)] 145, blk w0.heap.size [iv 0, iv 0, iv 0, iv 0, iv 0, iv 0, iv 0, iv 0, .string (⟨#[]⟩)] 30, blk w1.heap.size [lv] 31, blk w2.heap.size [iv 0] 54, own lv 40 7 ((acc).map Pxy.cells)] w16 := Y
  refine ab <| cP ?_
  refine wlv Z (aH rfl) fun a Z => ap 0 Z Y rfl rfl rfl (Tryz.sizeOf3 _) rfl (lb rfl) (ds := [iv n14, iv n19, iv 0, iv 0, iv 0, iv 0, .string (⟨#[]⟩)]) rfl rfl ?_
  clear Z Y
  intro a w17 Z Y
  refine ab ?_
  refine hK22 _ _ ?_
  replace Z : Fr 98 [(0, _), (2, _), (3, _), (4, _), (5, _), (23, _), (24, _), (7, _), (38, _), (39, _)] [{ target := .fn (.func 81) #[pt w0.heap.size, pt w1.heap.size, pt w2.heap.size], args := #[] }] a := Z.pick [0, 2, 3, 4, 5, 23, 24, 7, 38, 39]
  refine am <| wlv Z ((aT rfl rfl (by decide)).asi (m' := 2) rfl) fun a Z => wlm Z rfl fun a Z => ab ?_
  refine cn ?_
  refine aa fun K24 hK24 => wlv Z ((v_lt rfl rfl).asb (b' := true) rfl) fun a Z => ab (hK24 _ _ ?_)
  refine ai fun K25 hK25 => aL Z rfl ?_
  refine ax ?_
  refine hK25 _ _ ?_
  refine ai fun K26 hK26 => aq ?_
  refine aa fun K27 hK27 => wlv Z (ck (v := .pointer (some ⟨w8.heap.size, 2, none⟩)) rfl rfl (by kernel_rfl)) fun a Z => wla Z rfl fun a Z => ab (hK27 _ _ ?_)
  refine bA ?_
  refine aS 2 ?_
  refine wlm Z rfl fun a Z => wlm Z rfl fun a Z => ab ?_
  rcases hq22 : rdI r18 with _ | ⟨n24, r23⟩
  ·have hdn := hd20.trans (bY hq22)
   refine bX (X := fun c => c = [{ v := .iface 142 (.agg #[]), recovered := false }]) 1 Z Y rfl Tryz.call82 rfl (fun h => (bN w3.heap.size s r18  ((s.length - r18.length : Nat) : Int) _ rfl hs21 hsl hq22 h).mono fun e w ⟨c, h1, h2, h3⟩ => ⟨c, h1, _, h2, h3⟩) ?_
   clear Y
   rintro _ w18 e9 rfl Y
   replace Y : St No w0 [blk w0.heap.size [iv 0, iv 0, iv 0, iv 0, iv 0, iv 0, iv 0, iv 0, .string (⟨#[]⟩)] 30, blk w1.heap.size [lv] 31, blk w2.heap.size [iv 0] 54] w18 := Y.select [2, 3, 4] (by decide)
   exact bn Z Tryz.call81 (bM _ _ _ _ _ _ _ _ _ _ _ _ _ _ _ Y) Tryz.results28 (fun w9 Y => ⟨(aj rfl (ba (Y.get (k := 0) rfl) (Tryz.isAgg30 _) (Tryz.sizeOf30 _)) (aj rfl (aI (Y.get (k := 1) rfl) (Tryz.isAgg31 _)) (aj rfl (aI (Y.get (k := 2) rfl) (Tryz.isAgg54 _)) ag))), .inr ⟨hdn, rfl, Y.ext⟩⟩)
  have hd25 := hd20.trans (cd hq22)
  have hs26 := (co hq22).trans hs21
  refine aS 1 ?_
  refine aV (R := fun u e' => u = iv n24 ∧ e' = blk w3.heap.size [sv s, iv ((s.length - r23.length : Nat) : Int)] 145) 1 Z Y rfl (by decide) Tryz.call82 rfl (fun h => (bQ w3.heap.size s r18 r23 n24 ((s.length - r18.length : Nat) : Int) _ rfl hs21 hsl hq22 h).mono fun u w ⟨h1, h2⟩ => ⟨_, ⟨h1, rfl⟩, h2⟩) ?_
  clear Z Y
  rintro a w19 _ _ ⟨rfl, rfl⟩ Z Y
  replace Y : St No w0 [blk w8.heap.size [iv n14, iv n19, iv 0, iv 0, iv 0, iv 0, .string (⟨#[]⟩)] 40, blk w3.heap.size [sv s, iv ((s.length - r23.length : Nat) : Int)] 145, blk w0.heap.size [iv 0, iv 0, iv 0, iv 0, iv 0, iv 0, iv 0, iv 0, .string (⟨#[]⟩)] 30, blk w1.heap.size [lv] 31, blk w2.heap.size [iv 0] 54, own lv 40 7 ((acc).map Pxy.cells)] w19 := Y
  refine ab <| cP ?_
  refine wlv Z (aH rfl) fun a Z => ap 0 Z Y rfl rfl rfl (Tryz.sizeOf3 _) rfl (lb rfl) (ds := [iv n14, iv n19, iv n24, iv 0, iv 0, iv 0, .string (⟨#[]⟩)]) rfl rfl ?_
  clear Z Y
  intro a w20 Z Y
  refine ab ?_
  refine hK26 _ _ ?_
  replace Z : Fr 98 [(0, _), (2, _), (3, _), (4, _), (5, _), (23, _), (24, _), (7, _), (38, _), (39, _)] [{ target := .fn (.func 81) #[pt w0.heap.size, pt w1.heap.size, pt w2.heap.size], args := #[] }] a := Z.pick [0, 2, 3, 4, 5, 23, 24, 7, 38, 39]
  refine am <| wlv Z ((aT rfl rfl (by decide)).asi (m' := 3) rfl) fun a Z => wlm Z rfl fun a Z => ab ?_
  refine cn ?_
  refine aa fun K28 hK28 => wlv Z ((v_lt rfl rfl).asb (b' := true) rfl) fun a Z => ab (hK28 _ _ ?_)
  refine ai fun K29 hK29 => aL Z rfl ?_
  refine ax ?_
  refine hK29 _ _ ?_
  refine ai fun K30 hK30 => aq ?_
  refine aa fun K31 hK31 => wlv Z (ck (v := .pointer (some ⟨w8.heap.size, 3, none⟩)) rfl rfl (by kernel_rfl)) fun a Z => wla Z rfl fun a Z => ab (hK31 _ _ ?_)
  refine bA ?_
  refine aS 2 ?_
  refine wlm Z rfl fun a Z => wlm Z rfl fun a Z => ab ?_
  rcases hq27 : rdI r23 with _ | ⟨n29, r28⟩
  ·have hdn := hd25.trans (bY hq27)
   refine bX (X := fun c => c = [{ v := .iface 142 (.agg #[]), recovered := false }]) 1 Z Y rfl Tryz.call82 rfl (fun h => (bN w3.heap.size s r23  ((s.length - r23.length : Nat) : Int) _ rfl hs26 hsl hq27 h).mono fun e w ⟨c, h1, h2, h3⟩ => ⟨c, h1, _, h2, h3⟩) ?_
   clear Y
   rintro _ w21 e9 rfl Y
   replace Y : St No w0 [blk w0.heap.size [iv 0, iv 0, iv 0, iv 0, iv 0, iv 0, iv 0, iv 0, .string (⟨#[]⟩)] 30, blk w1.heap.size [lv] 31, blk w2.heap.size [iv 0] 54] w21 := Y.select [2, 3, 4] (by decide)
   exact bn Z Tryz.call81 (bM _ _ _ _ _ _ _ _ _ _ _ _ _ _ _ Y) Tryz.results28 (fun w9 Y => ⟨(aj rfl (ba (Y.get (k := 0) rfl) (Tryz.isAgg30 _) (Tryz.sizeOf30 _)) (aj rfl (aI (Y.get (k := 1) rfl) (Tryz.isAgg31 _)) (aj rfl (aI (Y.get (k := 2) rfl) (Tryz.isAgg54 _)) ag))), .inr ⟨hdn, rfl, Y.ext⟩⟩)
  have hd30 := hd25.trans (cd hq27)
  have hs31 := (co hq27).trans hs26
  refine aS 1 ?_
  refine aV (R := fun u e' => u = iv n29 ∧ e' = blk w3.heap.size [sv s, iv ((s.length - r28.length : Nat) : Int)] 145) 1 Z Y rfl (by decide) Tryz.call82 rfl (fun h => (bQ w3.heap.size s r23 r28 n29 ((s.length - r23.length : Nat) : Int) _ rfl hs26 hsl hq27 h).mono fun u w ⟨h1, h2⟩ => ⟨_, ⟨h1, rfl⟩, h2⟩) ?_
  clear Z Y
  rintro a w22 _ _ ⟨rfl, rfl⟩ Z Y
  replace Y : St No w0 [blk w8.heap.size [iv n14, iv n19, iv n24, iv 0, iv 0, iv 0, .string (⟨#[]⟩)] 40, blk w3.heap.size [sv s, iv ((s.length - r28.length : Nat) : Int)] 145, blk w0.heap.size [iv 0, iv 0, iv 0, iv 0, iv 0, iv 0, iv 0, iv 0, .string (⟨#[]⟩)] 30, blk w1.heap.size [lv] 31, blk w2.heap.size [iv 0] 54, own lv 40 7 ((acc).map Pxy.cells)] w22 := Y
  refine ab <| cP ?_
  refine wlv Z (aH rfl) fun a Z => ap 0 Z Y rfl rfl rfl (Tryz.sizeOf3 _) rfl (lb rfl) (ds := [iv n14, iv n19, iv n24, iv n29, iv 0, iv 0, .string (⟨#[]⟩)]) rfl rfl ?_
  clear Z Y
  intro a w23 Z Y
  refine ab ?_
  refine hK30 _ _ ?_
  replace Z : Fr 98 [(0, _), (2, _), (3, _), (4, _), (5, _), (23, _), (24, _), (7, _), (38, _), (39, _)] [{ target := .fn (.func 81) #[pt w0.heap.size, pt w1.heap.size, pt w2.heap.size], args := #[] }] a := Z.pick [0, 2, 3, 4, 5, 23, 24, 7, 38, 39]
  refine am <| wlv Z ((aT rfl rfl (by decide)).asi (m' := 4) rfl) fun a Z => wlm Z rfl fun a Z => ab ?_
  refine cn ?_
  refine aa fun K32 hK32 => wlv Z ((v_lt rfl rfl).asb (b' := true) rfl) fun a Z => ab (hK32 _ _ ?_)
  refine ai fun K33 hK33 => aL Z rfl ?_
  refine ax ?_
  refine hK33 _ _ ?_
  refine ai fun K34 hK34 => aq ?_
  refine aa fun K35 hK35 => wlv Z (ck (v := .pointer (some ⟨w8.heap.size, 4, none⟩)) rfl rfl (by kernel_rfl)) fun a Z => wla Z rfl fun a Z => ab (hK35 _ _ ?_)
  refine bA ?_
  refine aS 2 ?_
  refine wlm Z rfl fun a Z => wlm Z rfl fun a Z => ab ?_
  rcases hq32 : rdI r28 with _ | ⟨n34, r33⟩
  ·have hdn := hd30.trans (bY hq32)
   refine bX (X := fun c => c = [{ v := .iface 142 (.agg #[]), recovered := false }]) 1 Z Y rfl Tryz.call82 rfl (fun h => (bN w3.heap.size s r28  ((s.length - r28.length : Nat) : Int) _ rfl hs31 hsl hq32 h).mono fun e w ⟨c, h1, h2, h3⟩ => ⟨c, h1, _, h2, h3⟩) ?_
   clear Y
   rintro _ w24 e9 rfl Y
   replace Y : St No w0 [blk w0.heap.size [iv 0, iv 0, iv 0, iv 0, iv 0, iv 0, iv 0, iv 0, .string (⟨#[]⟩)] 30, blk w1.heap.size [lv] 31, blk w2.heap.size [iv 0] 54] w24 := Y.select [2, 3, 4] (by decide)
   exact bn Z Tryz.call81 (bM _ _ _ _ _ _ _ _ _ _ _ _ _ _ _ Y) Tryz.results28 (fun w9 Y => ⟨(aj rfl (ba (Y.get (k := 0) rfl) (Tryz.isAgg30 _) (Tryz.sizeOf30 _)) (aj rfl (aI (Y.get (k := 1) rfl) (Tryz.isAgg31 _)) (aj rfl (aI (Y.get (k := 2) rfl) (Tryz.isAgg54 _)) ag))), .inr ⟨hdn, rfl, Y.ext⟩⟩)
  have hd35 := hd30.trans (cd hq32)
  have hs36 := (co hq32).trans hs31
  refine aS 1 ?_
  refine aV (R := fun u e' => u = iv n34 ∧ e' = blk w3.heap.size [sv s, iv ((s.length - r33.length : Nat) : Int)] 145) 1 Z Y rfl (by decide) Tryz.call82 rfl (fun h => (bQ w3.heap.size s r28 r33 n34 ((s.length - r28.length : Nat) : Int) _ rfl hs31 hsl hq32 h).mono fun u w ⟨h1, h2⟩ => ⟨_, ⟨h1, rfl⟩, h2⟩) ?_
  clear Z Y
  rintro a w25 _ _ ⟨rfl, rfl⟩ Z Y
  replace Y : St No w0 [blk w8.heap.size [iv n14, iv n19, iv n24, iv n29, iv 0, iv 0, .string (⟨#[]⟩)] 40, blk w3.heap.size [sv s, iv ((s.length - r33.length : Nat) : Int)] 145, blk w0.heap.size [iv 0, iv 0, iv 0, iv 0, iv 0, iv 0, iv 0, iv 0, .string (⟨#[]⟩)] 30, blk w1.heap.size [lv] 31, blk w2.heap.size [iv 0] 54, own lv 40 7 ((acc).map Pxy.cells)] w25 := Y
  refine ab <| cP ?_
  refine wlv Z (aH rfl) fun a Z => ap 0 Z Y rfl rfl rfl (Tryz.sizeOf3 _) rfl (lb rfl) (ds := [iv n14, iv n19, iv n24, iv n29, iv n34, iv 0, .string (⟨#[]⟩)]) rfl rfl ?_
  clear Z Y
  intro a w26 Z Y
  refine ab ?_
  refine hK34 _ _ ?_
  replace Z : Fr 98 [(0, _), (2, _), (3, _), (4, _), (5, _), (23, _), (24, _), (7, _), (38, _), (39, _)] [{ target := .fn (.func 81) #[pt w0.heap.size, pt w1.heap.size, pt w2.heap.size], args := #[] }] a := Z.pick [0, 2, 3, 4, 5, 23, 24, 7, 38, 39]
  refine am <| wlv Z ((aT rfl rfl (by decide)).asi (m' := 5) rfl) fun a Z => wlm Z rfl fun a Z => ab ?_
  refine cn ?_
  refine aa fun K36 hK36 => wlv Z ((v_lt rfl rfl).asb (b' := true) rfl) fun a Z => ab (hK36 _ _ ?_)
  refine ai fun K37 hK37 => aL Z rfl ?_
  refine ax ?_
  refine hK37 _ _ ?_
  refine ai fun K38 hK38 => aq ?_
  refine aa fun K39 hK39 => wlv Z (ck (v := .pointer (some ⟨w8.heap.size, 5, none⟩)) rfl rfl (by kernel_rfl)) fun a Z => wla Z rfl fun a Z => ab (hK39 _ _ ?_)
  refine bA ?_
  refine aS 2 ?_
  refine wlm Z rfl fun a Z => wlm Z rfl fun a Z => ab ?_
  rcases hq37 : rdI r33 with _ | ⟨n39, r38⟩
  ·have hdn := hd35.trans (bY hq37)
   refine bX (X := fun c => c = [{ v := .iface 142 (.agg #[]), recovered := false }]) 1 Z Y rfl Tryz.call82 rfl (fun h => (bN w3.heap.size s r33  ((s.length - r33.length : Nat) : Int) _ rfl hs36 hsl hq37 h).mono fun e w ⟨c, h1, h2, h3⟩ => ⟨c, h1, _, h2, h3⟩) ?_
   clear Y
   rintro _ w27 e9 rfl Y
   replace Y : St No w0 [blk w0.heap.size [iv 0, iv 0, iv 0, iv 0, iv 0, iv 0, iv 0, iv 0, .string (⟨#[]⟩)] 30, blk w1.heap.size [lv] 31, blk w2.heap.size [iv 0] 54] w27 := Y.select [2, 3, 4] (by decide)
   exact bn Z Tryz.call81 (bM _ _ _ _ _ _ _ _ _ _ _ _ _ _ _ Y) Tryz.results28 (fun w9 Y => ⟨(aj rfl (ba (Y.get (k := 0) rfl) (Tryz.isAgg30 _) (Tryz.sizeOf30 _)) (aj rfl (aI (Y.get (k := 1) rfl) (Tryz.isAgg31 _)) (aj rfl (aI (Y.get (k := 2) rfl) (Tryz.isAgg54 _)) ag))), .inr ⟨hdn, rfl, Y.ext⟩⟩)
  have hd40 := hd35.trans (cd hq37)
  have hs41 := (co hq37).trans hs36
  refine aS 1 ?_
  refine aV (R := fun u e' => u = iv n39 ∧ e' = blk w3.heap.size [sv s, iv ((s.length - r38.length : Nat) : Int)] 145) 1 Z Y rfl (by decide) Tryz.call82 rfl (fun h => (bQ w3.heap.size s r33 r38 n39 ((s.length - r33.length : Nat) : Int) _ rfl hs36 hsl hq37 h).mono fun u w ⟨h1, h2⟩ => ⟨_, ⟨h1, rfl⟩, h2⟩) ?_
  clear Z Y
  rintro a w28 _ _ ⟨rfl, rfl⟩ Z Y
  replace Y : St No w0 [blk w8.heap.size [iv n14, iv n19, iv n24, iv n29, iv n34, iv 0, .string (⟨#[]⟩)] 40, blk w3.heap.size [sv s, iv ((s.length - r38.length : Nat) : Int)] 145, blk w0.heap.size [iv 0, iv 0, iv 0, iv 0, iv 0, iv 0, iv 0, iv 0, .string (⟨#[]⟩)] 30, blk w1.heap.size [lv] 31, blk w2.heap.size [iv 0] 54, own lv 40 7 ((acc).map Pxy.cells)] w28 := Y
  refine ab <| cP ?_
  refine wlv Z (aH rfl) fun a Z => ap 0 Z Y rfl rfl rfl (Tryz.sizeOf3 _) rfl (lb rfl) (ds := [iv n14, iv n19, iv n24, iv n29, iv n34, iv n39, .string (⟨#[]⟩)]) rfl rfl ?_
  clear Z Y
  intro a w29 Z Y
  refine ab ?_
  refine hK38 _ _ ?_
  replace Z : Fr 98 [(0, _), (2, _), (3, _), (4, _), (5, _), (23, _), (24, _), (7, _), (38, _), (39, _)] [{ target := .fn (.func 81) #[pt w0.heap.size, pt w1.heap.size, pt w2.heap.size], args := #[] }] a := Z.pick [0, 2, 3, 4, 5, 23, 24, 7, 38, 39]
  refine am <| wlv Z ((aT rfl rfl (by decide)).asi (m' := 6) rfl) fun a Z => wlm Z rfl fun a Z => ab ?_
  refine cn ?_
  refine aa fun K40 hK40 => wlv Z ((v_lt rfl rfl).asb (b' := false) rfl) fun a Z => ab (hK40 _ _ ?_)
  refine ai fun K41 hK41 => bE Z rfl ?_
  refine aP ?_
  refine hK14 _ _ ?_
  refine ct fun K42 hK42 hP42 => aS 1 ?_
  refine wlm Z rfl fun a Z => ab ?_
  rcases hq42 : dgI r38 with _ | ⟨n44, r43⟩
  ·have hdn := hd40.trans (hP hq42)
   refine bX (X := fun c => c = [{ v := .iface 142 (.agg #[]), recovered := false }]) 1 Z Y rfl Tryz.call84 rfl (fun h => (l9 w3.heap.size s r38  ((s.length - r38.length : Nat) : Int) _ rfl hs41 hsl hq42 h).mono fun e w ⟨c, h1, h2, h3⟩ => ⟨c, h1, _, h2, h3⟩) ?_
   clear Y
   rintro _ w30 e9 rfl Y
   refine hP42 _ _ _ ?_
   replace Y : St No w0 [blk w0.heap.size [iv 0, iv 0, iv 0, iv 0, iv 0, iv 0, iv 0, iv 0, .string (⟨#[]⟩)] 30, blk w1.heap.size [lv] 31, blk w2.heap.size [iv 0] 54] w30 := Y.select [2, 3, 4] (by decide)
   exact bn Z Tryz.call81 (bM _ _ _ _ _ _ _ _ _ _ _ _ _ _ _ Y) Tryz.results28 (fun w9 Y => ⟨(aj rfl (ba (Y.get (k := 0) rfl) (Tryz.isAgg30 _) (Tryz.sizeOf30 _)) (aj rfl (aI (Y.get (k := 1) rfl) (Tryz.isAgg31 _)) (aj rfl (aI (Y.get (k := 2) rfl) (Tryz.isAgg54 _)) ag))), .inr ⟨hdn, rfl, Y.ext⟩⟩)
  have hd45 := hd40.trans (iC hq42)
  have hs46 := (lN hq42).trans hs41
  refine aS 1 ?_
  refine aV (R := fun u e' => u = sv n44 ∧ e' = blk w3.heap.size [sv s, iv ((s.length - r43.length : Nat) : Int)] 145) 1 Z Y rfl (by decide) Tryz.call84 rfl (fun h => (oi w3.heap.size s r38 r43 n44 ((s.length - r38.length : Nat) : Int) _ rfl hs41 hsl hq42 h).mono fun u w ⟨h1, h2⟩ => ⟨_, ⟨h1, rfl⟩, h2⟩) ?_
  clear Z Y
  rintro a w31 _ _ ⟨rfl, rfl⟩ Z Y
  replace Y : St No w0 [blk w8.heap.size [iv n14, iv n19, iv n24, iv n29, iv n34, iv n39, .string (⟨#[]⟩)] 40, blk w3.heap.size [sv s, iv ((s.length - r43.length : Nat) : Int)] 145, blk w0.heap.size [iv 0, iv 0, iv 0, iv 0, iv 0, iv 0, iv 0, iv 0, .string (⟨#[]⟩)] 30, blk w1.heap.size [lv] 31, blk w2.heap.size [iv 0] 54, own lv 40 7 ((acc).map Pxy.cells)] w31 := Y
  refine ab <| cP ?_
  refine wlv Z (ac (v := .pointer (some ⟨w8.heap.size, 6, none⟩)) rfl (by kernel_rfl)) fun a Z => ap 0 Z Y rfl rfl rfl (Tryz.sizeOf9 _) rfl (lb rfl) (ds := [iv n14, iv n19, iv n24, iv n29, iv n34, iv n39, sv n44]) rfl rfl ?_
  clear Z Y
  intro a w32 Z Y
  refine ab (hK42 _ _ ?_)
  replace Z : Fr 98 [(0, _), (2, _), (3, _), (4, _), (5, _), (23, _), (24, _), (7, _)] [{ target := .fn (.func 81) #[pt w0.heap.size, pt w1.heap.size, pt w2.heap.size], args := #[] }] a := Z.pick [0, 2, 3, 4, 5, 23, 24, 7]
  refine am <| wlv Z (ae (Y.get (k := 3) rfl) rfl (Tryz.isAgg31 _) rfl) fun a Z => wlv Z (ar (Y.get (k := 0) rfl) rfl (Tryz.isAgg40 _) (Tryz.sizeOf40 _)) fun a Z => aG (E := 40) (sz := 7) rfl [[iv n14, iv n19, iv n24, iv n29, iv n34, iv n39, sv n44]] (by kernel_rfl) (by simp) rfl (by decide) (by decide) Z Y ?_
  clear Z Y
  intro a w33 Z Y
  refine bF (i := 6) (sT := 31) (inf := Tryz.t40) (z := .agg #[iv 0, iv 0, iv 0, iv 0, iv 0, iv 0, .string (⟨#[]⟩)]) (b := 0) (off := 0) (m := 0) (c := 0) rfl rfl rfl (Y.ownAt (i := 0) rfl) (by simp) Tryz.underlying31 rfl rfl rfl rfl (by decide) (by simp [Value.oneCell', yv, wv, sv]) (by have hby : Tryz.t40.bytes = 64 := rfl; simp [big, hby]; omega) (by have hby : Tryz.t40.bytes = 64 := rfl; simp [big, hby]; omega) (by decide) Z Y fun a w34 s47 Z Y _ => ?_
  replace Y : St No w0 [own (.slice (some ⟨w32.heap.size, 0, none⟩) 1 1) 40 7 ([[iv n14, iv n19, iv n24, iv n29, iv n34, iv n39, sv n44]]), blk w8.heap.size [iv n14, iv n19, iv n24, iv n29, iv n34, iv n39, sv n44] 40, blk w3.heap.size [sv s, iv ((s.length - r43.length : Nat) : Int)] 145, blk w0.heap.size [iv 0, iv 0, iv 0, iv 0, iv 0, iv 0, iv 0, iv 0, .string (⟨#[]⟩)] 30, blk w1.heap.size [lv] 31, blk w2.heap.size [iv 0] 54, own s47 40 7 ((acc ++ [(⟨n14, n19, n24, n29, n34, n39, n44⟩ : Pxy)]).map Pxy.cells)] w34 := by rw [List.map_append]; exact Y
  refine cw 4 Z Y (Y.ownAt (i := 6) rfl) rfl rfl rfl (Tryz.sizeOf31 _) (lb rfl) (ds := [s47]) rfl rfl ?_
  clear Z Y
  intro a w35 Z Y
  refine ab ?_
  refine hK11 _ _ ?_
  refine am <| wlv Z (aT rfl rfl ⟨by omega, by omega⟩) fun a Z => wlm Z rfl fun a Z => ab ?_
  refine ⟨_, ?_, k + 1, acc ++ [(⟨n14, n19, n24, n29, n34, n39, n44⟩ : Pxy)], r43, s47, rfl, (by omega), (by rw [show n3.toNat - (k + 1) = mm from by omega]; exact hd45), hs46, (by rw [List.length_append, hal]; rfl), Z.pick [0, 2, 3, 4, 5, 23, 24], Y.select [2, 3, 4, 5, 6] (by decide)⟩
  omega
 rw [hc7] at Z
 try simp only [qz] at hc7
 have hm : n3.toNat - k = 0 := by omega
 rw [hm] at hdl
 have hdk : db s = kindI 1 r _ := hdl
 refine aP ?_
 refine hK7 _ _ ?_
 refine ct fun K43 hK43 hP43 => aS 1 ?_
 refine wlm Z rfl fun a Z => ab ?_
 rcases hq48 : kdI 1 r with _ | r49
 ·have hdn := hdk.trans (iI hq48)
  refine bX (X := fun c => c = [{ v := .iface 142 (.agg #[]), recovered := false }]) 0 Z Y rfl Tryz.call83 rfl (fun h => (j7 w3.heap.size s r  1 ((s.length - r.length : Nat) : Int) _ rfl hsl2 hsl hq48 h).mono fun e w ⟨c, h1, h2, h3⟩ => ⟨c, h1, _, h2, lD h3⟩) ?_
  clear Y
  rintro _ w36 e9 rfl Y
  refine hP43 _ _ _ ?_
  replace Y : St No w0 [blk w0.heap.size [iv 0, iv 0, iv 0, iv 0, iv 0, iv 0, iv 0, iv 0, .string (⟨#[]⟩)] 30, blk w1.heap.size [lv] 31, blk w2.heap.size [iv 0] 54] w36 := Y.select [1, 2, 3] (by decide)
  exact bn Z Tryz.call81 (bM _ _ _ _ _ _ _ _ _ _ _ _ _ _ _ Y) Tryz.results28 (fun w9 Y => ⟨(aj rfl (ba (Y.get (k := 0) rfl) (Tryz.isAgg30 _) (Tryz.sizeOf30 _)) (aj rfl (aI (Y.get (k := 1) rfl) (Tryz.isAgg31 _)) (aj rfl (aI (Y.get (k := 2) rfl) (Tryz.isAgg54 _)) ag))), .inr ⟨hdn, rfl, Y.ext⟩⟩)
 have hd50 := hdk.trans (jO hq48)
 have hs51 := (lY hq48).trans hsl2
 refine aS 1 ?_
 refine aV (R := fun u e' => u = .tuple #[] ∧ e' = blk w3.heap.size [sv s, iv ((s.length - r49.length : Nat) : Int)] 145) 0 Z Y rfl (by decide) Tryz.call83 rfl (fun h => (lF w3.heap.size s r r49 1 ((s.length - r.length : Nat) : Int) _ rfl hsl2 hsl hq48 h).mono fun u w ⟨h1, h2⟩ => ⟨_, ⟨h1, rfl⟩, h2⟩) ?_
 clear Z Y
 rintro a w37 _ _ ⟨rfl, rfl⟩ Z Y
 replace Y : St No w0 [blk w3.heap.size [sv s, iv ((s.length - r49.length : Nat) : Int)] 145, blk w0.heap.size [iv 0, iv 0, iv 0, iv 0, iv 0, iv 0, iv 0, iv 0, .string (⟨#[]⟩)] 30, blk w1.heap.size [lv] 31, blk w2.heap.size [iv 0] 54, own lv 40 7 ((acc).map Pxy.cells)] w37 := Y
 refine ab <| cP ?_
 refine ab (hK43 _ _ ?_)
 refine ai fun K44 hK44 => aa fun K45 hK45 => wlv Z (ac (v := pt w0.heap.size) rfl (by kernel_rfl)) fun a Z => wlv Z (ac (v := .pointer (some ⟨w0.heap.size, 1, none⟩)) rfl (by kernel_rfl)) fun a Z => wlv Z (ac (v := .pointer (some ⟨w0.heap.size, 2, none⟩)) rfl (by kernel_rfl)) fun a Z => wlv Z (ac (v := .pointer (some ⟨w0.heap.size, 2, none⟩)) rfl (by kernel_rfl)) fun a Z => wlv Z (ac (v := .pointer (some ⟨w0.heap.size, 2, none⟩)) rfl (by kernel_rfl)) fun a Z => ?_
 refine wlv Z (ac (v := .pointer (some ⟨w0.heap.size, 3, none⟩)) rfl (by kernel_rfl)) fun a Z => wlv Z (ac (v := .pointer (some ⟨w0.heap.size, 4, none⟩)) rfl (by kernel_rfl)) fun a Z => wlv Z (ac (v := .pointer (some ⟨w0.heap.size, 5, none⟩)) rfl (by kernel_rfl)) fun a Z => wlv Z (ac (v := .pointer (some ⟨w0.heap.size, 6, none⟩)) rfl (by kernel_rfl)) fun a Z => wlv Z (ac (v := .pointer (some ⟨w0.heap.size, 6, none⟩)) rfl (by kernel_rfl)) fun a Z => wlv Z (ac (v := .pointer (some ⟨w0.heap.size, 6, none⟩)) rfl (by kernel_rfl)) fun a Z => wlv Z (ac (v := .pointer (some ⟨w0.heap.size, 7, none⟩)) rfl (by kernel_rfl)) fun a Z => ?_
 refine wlv Z (bC (v := .agg #[pt w0.heap.size, .pointer (some ⟨w0.heap.size, 1, none⟩), .pointer (some ⟨w0.heap.size, 2, none⟩), .pointer (some ⟨w0.heap.size, 3, none⟩), .pointer (some ⟨w0.heap.size, 4, none⟩), .pointer (some ⟨w0.heap.size, 5, none⟩), .pointer (some ⟨w0.heap.size, 6, none⟩), .pointer (some ⟨w0.heap.size, 7, none⟩)]) rfl (by kernel_rfl)) fun a Z => wlm Z rfl fun a Z => ab (hK45 _ _ ?_)
 replace Z : Fr 98 [(0, _), (2, _), (3, _), (4, _), (5, _), (69, _), (70, _)] [{ target := .fn (.func 81) #[pt w0.heap.size, pt w1.heap.size, pt w2.heap.size], args := #[] }] a := Z.pick [0, 2, 3, 4, 5, 69, 70]
 refine aq <| iD 9 ?_
 refine cn ?_
 refine aa fun K46 hK46 => wlv Z ((v_lt rfl rfl).asb (b' := true) rfl) fun a Z => ab (hK46 _ _ ?_)
 refine ai fun K47 hK47 => aL Z rfl ?_
 refine ax ?_
 refine hK47 _ _ ?_
 refine ai fun K48 hK48 => aq ?_
 refine aa fun K49 hK49 => wlv Z (ck (v := pt w0.heap.size) rfl rfl (by kernel_rfl)) fun a Z => wla Z rfl fun a Z => ab (hK49 _ _ ?_)
 refine bA ?_
 refine aS 2 ?_
 refine wlm Z rfl fun a Z => wlm Z rfl fun a Z => ab ?_
 rcases hq52 : rdI r49 with _ | ⟨n54, r53⟩
 ·have hdn := hd50.trans (bY hq52)
  refine bX (X := fun c => c = [{ v := .iface 142 (.agg #[]), recovered := false }]) 0 Z Y rfl Tryz.call82 rfl (fun h => (bN w3.heap.size s r49  ((s.length - r49.length : Nat) : Int) _ rfl hs51 hsl hq52 h).mono fun e w ⟨c, h1, h2, h3⟩ => ⟨c, h1, _, h2, h3⟩) ?_
  clear Y
  rintro _ w38 e9 rfl Y
  replace Y : St No w0 [blk w0.heap.size [iv 0, iv 0, iv 0, iv 0, iv 0, iv 0, iv 0, iv 0, .string (⟨#[]⟩)] 30, blk w1.heap.size [lv] 31, blk w2.heap.size [iv 0] 54] w38 := Y.select [1, 2, 3] (by decide)
  exact bn Z Tryz.call81 (bM _ _ _ _ _ _ _ _ _ _ _ _ _ _ _ Y) Tryz.results28 (fun w9 Y => ⟨(aj rfl (ba (Y.get (k := 0) rfl) (Tryz.isAgg30 _) (Tryz.sizeOf30 _)) (aj rfl (aI (Y.get (k := 1) rfl) (Tryz.isAgg31 _)) (aj rfl (aI (Y.get (k := 2) rfl) (Tryz.isAgg54 _)) ag))), .inr ⟨hdn, rfl, Y.ext⟩⟩)
 have hd55 := hd50.trans (cd hq52)
 have hs56 := (co hq52).trans hs51
 refine aS 1 ?_
 refine aV (R := fun u e' => u = iv n54 ∧ e' = blk w3.heap.size [sv s, iv ((s.length - r53.length : Nat) : Int)] 145) 0 Z Y rfl (by decide) Tryz.call82 rfl (fun h => (bQ w3.heap.size s r49 r53 n54 ((s.length - r49.length : Nat) : Int) _ rfl hs51 hsl hq52 h).mono fun u w ⟨h1, h2⟩ => ⟨_, ⟨h1, rfl⟩, h2⟩) ?_
 clear Z Y
 rintro a w39 _ _ ⟨rfl, rfl⟩ Z Y
 replace Y : St No w0 [blk w3.heap.size [sv s, iv ((s.length - r53.length : Nat) : Int)] 145, blk w0.heap.size [iv 0, iv 0, iv 0, iv 0, iv 0, iv 0, iv 0, iv 0, .string (⟨#[]⟩)] 30, blk w1.heap.size [lv] 31, blk w2.heap.size [iv 0] 54, own lv 40 7 ((acc).map Pxy.cells)] w39 := Y
 refine ab <| cP ?_
 refine wlv Z (aH rfl) fun a Z => ap 1 Z Y rfl rfl rfl (Tryz.sizeOf3 _) rfl (lb rfl) (ds := [iv n54, iv 0, iv 0, iv 0, iv 0, iv 0, iv 0, iv 0, .string (⟨#[]⟩)]) rfl rfl ?_
 clear Z Y
 intro a w40 Z Y
 refine ab ?_
 refine hK48 _ _ ?_
 replace Z : Fr 98 [(0, _), (2, _), (3, _), (4, _), (5, _), (69, _), (70, _)] [{ target := .fn (.func 81) #[pt w0.heap.size, pt w1.heap.size, pt w2.heap.size], args := #[] }] a := Z.pick [0, 2, 3, 4, 5, 69, 70]
 refine am <| wlv Z ((aT rfl rfl (by decide)).asi (m' := 1) rfl) fun a Z => wlm Z rfl fun a Z => ab ?_
 refine cn ?_
 refine aa fun K50 hK50 => wlv Z ((v_lt rfl rfl).asb (b' := true) rfl) fun a Z => ab (hK50 _ _ ?_)
 refine ai fun K51 hK51 => aL Z rfl ?_
 refine ax ?_
 refine hK51 _ _ ?_
 refine ai fun K52 hK52 => aq ?_
 refine aa fun K53 hK53 => wlv Z (ck (v := .pointer (some ⟨w0.heap.size, 1, none⟩)) rfl rfl (by kernel_rfl)) fun a Z => wla Z rfl fun a Z => ab (hK53 _ _ ?_)
 refine bA ?_
 refine aS 2 ?_
 refine wlm Z rfl fun a Z => wlm Z rfl fun a Z => ab ?_
 rcases hq57 : rdI r53 with _ | ⟨n59, r58⟩
 ·have hdn := hd55.trans (bY hq57)
  refine bX (X := fun c => c = [{ v := .iface 142 (.agg #[]), recovered := false }]) 0 Z Y rfl Tryz.call82 rfl (fun h => (bN w3.heap.size s r53  ((s.length - r53.length : Nat) : Int) _ rfl hs56 hsl hq57 h).mono fun e w ⟨c, h1, h2, h3⟩ => ⟨c, h1, _, h2, h3⟩) ?_
  clear Y
  rintro _ w41 e9 rfl Y
  replace Y : St No w0 [blk w0.heap.size [iv n54, iv 0, iv 0, iv 0, iv 0, iv 0, iv 0, iv 0, .string (⟨#[]⟩)] 30, blk w1.heap.size [lv] 31, blk w2.heap.size [iv 0] 54] w41 := Y.select [1, 2, 3] (by decide)
  exact bn Z Tryz.call81 (bM _ _ _ _ _ _ _ _ _ _ _ _ _ _ _ Y) Tryz.results28 (fun w9 Y => ⟨(aj rfl (ba (Y.get (k := 0) rfl) (Tryz.isAgg30 _) (Tryz.sizeOf30 _)) (aj rfl (aI (Y.get (k := 1) rfl) (Tryz.isAgg31 _)) (aj rfl (aI (Y.get (k := 2) rfl) (Tryz.isAgg54 _)) ag))), .inr ⟨hdn, rfl, Y.ext⟩⟩)
 have hd60 := hd55.trans (cd hq57)
 have hs61 := (co hq57).trans hs56
 refine aS 1 ?_
 refine aV (R := fun u e' => u = iv n59 ∧ e' = blk w3.heap.size [sv s, iv ((s.length - r58.length : Nat) : Int)] 145) 0 Z Y rfl (by decide) Tryz.call82 rfl (fun h => (bQ w3.heap.size s r53 r58 n59 ((s.length - r53.length : Nat) : Int) _ rfl hs56 hsl hq57 h).mono fun u w ⟨h1, h2⟩ => ⟨_, ⟨h1, rfl⟩, h2⟩) ?_
 clear Z Y
 rintro a w42 _ _ ⟨rfl, rfl⟩ Z Y
 replace Y : St No w0 [blk w3.heap.size [sv s, iv ((s.length - r58.length : Nat) : Int)] 145, blk w0.heap.size [iv n54, iv 0, iv 0, iv 0, iv 0, iv 0, iv 0, iv 0, .string (⟨#[]⟩)] 30, blk w1.heap.size [lv] 31, blk w2.heap.size [iv 0] 54, own lv 40 7 ((acc).map Pxy.cells)] w42 := Y
 refine ab <| cP ?_
 refine wlv Z (aH rfl) fun a Z => ap 1 Z Y rfl rfl rfl (Tryz.sizeOf3 _) rfl (lb rfl) (ds := [iv n54, iv n59, iv 0, iv 0, iv 0, iv 0, iv 0, iv 0, .string (⟨#[]⟩)]) rfl rfl ?_
 clear Z Y
 intro a w43 Z Y
 refine ab ?_
 refine hK52 _ _ ?_
 replace Z : Fr 98 [(0, _), (2, _), (3, _), (4, _), (5, _), (69, _), (70, _)] [{ target := .fn (.func 81) #[pt w0.heap.size, pt w1.heap.size, pt w2.heap.size], args := #[] }] a := Z.pick [0, 2, 3, 4, 5, 69, 70]
 refine am <| wlv Z ((aT rfl rfl (by decide)).asi (m' := 2) rfl) fun a Z => wlm Z rfl fun a Z => ab ?_
 refine cn ?_
 refine aa fun K54 hK54 => wlv Z ((v_lt rfl rfl).asb (b' := true) rfl) fun a Z => ab (hK54 _ _ ?_)
 refine ai fun K55 hK55 => aL Z rfl ?_
 refine ax ?_
 refine hK55 _ _ ?_
 refine ai fun K56 hK56 => aq ?_
 refine aa fun K57 hK57 => wlv Z (ck (v := .pointer (some ⟨w0.heap.size, 2, none⟩)) rfl rfl (by kernel_rfl)) fun a Z => wla Z rfl fun a Z => ab (hK57 _ _ ?_)
 refine bA ?_
 refine aS 2 ?_
 refine wlm Z rfl fun a Z => wlm Z rfl fun a Z => ab ?_
 rcases hq62 : rdI r58 with _ | ⟨n64, r63⟩
 ·have hdn := hd60.trans (bY hq62)
  refine bX (X := fun c => c = [{ v := .iface 142 (.agg #[]), recovered := false }]) 0 Z Y rfl Tryz.call82 rfl (fun h => (bN w3.heap.size s r58  ((s.length - r58.length : Nat) : Int) _ rfl hs61 hsl hq62 h).mono fun e w ⟨c, h1, h2, h3⟩ => ⟨c, h1, _, h2, h3⟩) ?_
  clear Y
  rintro _ w44 e9 rfl Y
  replace Y : St No w0 [blk w0.heap.size [iv n54, iv n59, iv 0, iv 0, iv 0, iv 0, iv 0, iv 0, .string (⟨#[]⟩)] 30, blk w1.heap.size [lv] 31, blk w2.heap.size [iv 0] 54] w44 := Y.select [1, 2, 3] (by decide)
  exact bn Z Tryz.call81 (bM _ _ _ _ _ _ _ _ _ _ _ _ _ _ _ Y) Tryz.results28 (fun w9 Y => ⟨(aj rfl (ba (Y.get (k := 0) rfl) (Tryz.isAgg30 _) (Tryz.sizeOf30 _)) (aj rfl (aI (Y.get (k := 1) rfl) (Tryz.isAgg31 _)) (aj rfl (aI (Y.get (k := 2) rfl) (Tryz.isAgg54 _)) ag))), .inr ⟨hdn, rfl, Y.ext⟩⟩)
 have hd65 := hd60.trans (cd hq62)
 have hs66 := (co hq62).trans hs61
 refine aS 1 ?_
 refine aV (R := fun u e' => u = iv n64 ∧ e' = blk w3.heap.size [sv s, iv ((s.length - r63.length : Nat) : Int)] 145) 0 Z Y rfl (by decide) Tryz.call82 rfl (fun h => (bQ w3.heap.size s r58 r63 n64 ((s.length - r58.length : Nat) : Int) _ rfl hs61 hsl hq62 h).mono fun u w ⟨h1, h2⟩ => ⟨_, ⟨h1, rfl⟩, h2⟩) ?_
 clear Z Y
 rintro a w45 _ _ ⟨rfl, rfl⟩ Z Y
 replace Y : St No w0 [blk w3.heap.size [sv s, iv ((s.length - r63.length : Nat) : Int)] 145, blk w0.heap.size [iv n54, iv n59, iv 0, iv 0, iv 0, iv 0, iv 0, iv 0, .string (⟨#[]⟩)] 30, blk w1.heap.size [lv] 31, blk w2.heap.size [iv 0] 54, own lv 40 7 ((acc).map Pxy.cells)] w45 := Y
 refine ab <| cP ?_
 refine wlv Z (aH rfl) fun a Z => ap 1 Z Y rfl rfl rfl (Tryz.sizeOf3 _) rfl (lb rfl) (ds := [iv n54, iv n59, iv n64, iv 0, iv 0, iv 0, iv 0, iv 0, .string (⟨#[]⟩)]) rfl rfl ?_
 clear Z Y
 intro a w46 Z Y
 refine ab ?_
 refine hK56 _ _ ?_
 replace Z : Fr 98 [(0, _), (2, _), (3, _), (4, _), (5, _), (69, _), (70, _)] [{ target := .fn (.func 81) #[pt w0.heap.size, pt w1.heap.size, pt w2.heap.size], args := #[] }] a := Z.pick [0, 2, 3, 4, 5, 69, 70]
 refine am <| wlv Z ((aT rfl rfl (by decide)).asi (m' := 3) rfl) fun a Z => wlm Z rfl fun a Z => ab ?_
 refine cn ?_
 refine aa fun K58 hK58 => wlv Z ((v_lt rfl rfl).asb (b' := true) rfl) fun a Z => ab (hK58 _ _ ?_)
 refine ai fun K59 hK59 => aL Z rfl ?_
 refine ax ?_
 refine hK59 _ _ ?_
 refine ai fun K60 hK60 => aq ?_
 refine aa fun K61 hK61 => wlv Z (ck (v := .pointer (some ⟨w0.heap.size, 3, none⟩)) rfl rfl (by kernel_rfl)) fun a Z => wla Z rfl fun a Z => ab (hK61 _ _ ?_)
 refine bA ?_
 refine aS 2 ?_
 refine wlm Z rfl fun a Z => wlm Z rfl fun a Z => ab ?_
 rcases hq67 : rdI r63 with _ | ⟨n69, r68⟩
 ·have hdn := hd65.trans (bY hq67)
  refine bX (X := fun c => c = [{ v := .iface 142 (.agg #[]), recovered := false }]) 0 Z Y rfl Tryz.call82 rfl (fun h => (bN w3.heap.size s r63  ((s.length - r63.length : Nat) : Int) _ rfl hs66 hsl hq67 h).mono fun e w ⟨c, h1, h2, h3⟩ => ⟨c, h1, _, h2, h3⟩) ?_
  clear Y
  rintro _ w47 e9 rfl Y
  replace Y : St No w0 [blk w0.heap.size [iv n54, iv n59, iv n64, iv 0, iv 0, iv 0, iv 0, iv 0, .string (⟨#[]⟩)] 30, blk w1.heap.size [lv] 31, blk w2.heap.size [iv 0] 54] w47 := Y.select [1, 2, 3] (by decide)
  exact bn Z Tryz.call81 (bM _ _ _ _ _ _ _ _ _ _ _ _ _ _ _ Y) Tryz.results28 (fun w9 Y => ⟨(aj rfl (ba (Y.get (k := 0) rfl) (Tryz.isAgg30 _) (Tryz.sizeOf30 _)) (aj rfl (aI (Y.get (k := 1) rfl) (Tryz.isAgg31 _)) (aj rfl (aI (Y.get (k := 2) rfl) (Tryz.isAgg54 _)) ag))), .inr ⟨hdn, rfl, Y.ext⟩⟩)
 have hd70 := hd65.trans (cd hq67)
 have hs71 := (co hq67).trans hs66
 refine aS 1 ?_
 refine aV (R := fun u e' => u = iv n69 ∧ e' = blk w3.heap.size [sv s, iv ((s.length - r68.length : Nat) : Int)] 145) 0 Z Y rfl (by decide) Tryz.call82 rfl (fun h => (bQ w3.heap.size s r63 r68 n69 ((s.length - r63.length : Nat) : Int) _ rfl hs66 hsl hq67 h).mono fun u w ⟨h1, h2⟩ => ⟨_, ⟨h1, rfl⟩, h2⟩) ?_
 clear Z Y
 rintro a w48 _ _ ⟨rfl, rfl⟩ Z Y
 replace Y : St No w0 [blk w3.heap.size [sv s, iv ((s.length - r68.length : Nat) : Int)] 145, blk w0.heap.size [iv n54, iv n59, iv n64, iv 0, iv 0, iv 0, iv 0, iv 0, .string (⟨#[]⟩)] 30, blk w1.heap.size [lv] 31, blk w2.heap.size [iv 0] 54, own lv 40 7 ((acc).map Pxy.cells)] w48 := Y
 refine ab <| cP ?_
 refine wlv Z (aH rfl) fun a Z => ap 1 Z Y rfl rfl rfl (Tryz.sizeOf3 _) rfl (lb rfl) (ds := [iv n54, iv n59, iv n64, iv n69, iv 0, iv 0, iv 0, iv 0, .string (⟨#[]⟩)]) rfl rfl ?_
 clear Z Y
 intro a w49 Z Y
 refine ab ?_
 refine hK60 _ _ ?_
 replace Z : Fr 98 [(0, _), (2, _), (3, _), (4, _), (5, _), (69, _), (70, _)] [{ target := .fn (.func 81) #[pt w0.heap.size, pt w1.heap.size, pt w2.heap.size], args := #[] }] a := Z.pick [0, 2, 3, 4, 5, 69, 70]
 refine am <| wlv Z ((aT rfl rfl (by decide)).asi (m' := 4) rfl) fun a Z => wlm Z rfl fun a Z => ab ?_
 refine cn ?_
 refine aa fun K62 hK62 => wlv Z ((v_lt rfl rfl).asb (b' := true) rfl) fun a Z => ab (hK62 _ _ ?_)
 refine ai fun K63 hK63 => aL Z rfl ?_
 refine ax ?_
 refine hK63 _ _ ?_
 refine ai fun K64 hK64 => aq ?_
 refine aa fun K65 hK65 => wlv Z (ck (v := .pointer (some ⟨w0.heap.size, 4, none⟩)) rfl rfl (by kernel_rfl)) fun a Z => wla Z rfl fun a Z => ab (hK65 _ _ ?_)
 refine bA ?_
 refine aS 2 ?_
 refine wlm Z rfl fun a Z => wlm Z rfl fun a Z => ab ?_
 rcases hq72 : rdI r68 with _ | ⟨n74, r73⟩
 ·have hdn := hd70.trans (bY hq72)
  refine bX (X := fun c => c = [{ v := .iface 142 (.agg #[]), recovered := false }]) 0 Z Y rfl Tryz.call82 rfl (fun h => (bN w3.heap.size s r68  ((s.length - r68.length : Nat) : Int) _ rfl hs71 hsl hq72 h).mono fun e w ⟨c, h1, h2, h3⟩ => ⟨c, h1, _, h2, h3⟩) ?_
  clear Y
  rintro _ w50 e9 rfl Y
  replace Y : St No w0 [blk w0.heap.size [iv n54, iv n59, iv n64, iv n69, iv 0, iv 0, iv 0, iv 0, .string (⟨#[]⟩)] 30, blk w1.heap.size [lv] 31, blk w2.heap.size [iv 0] 54] w50 := Y.select [1, 2, 3] (by decide)
  exact bn Z Tryz.call81 (bM _ _ _ _ _ _ _ _ _ _ _ _ _ _ _ Y) Tryz.results28 (fun w9 Y => ⟨(aj rfl (ba (Y.get (k := 0) rfl) (Tryz.isAgg30 _) (Tryz.sizeOf30 _)) (aj rfl (aI (Y.get (k := 1) rfl) (Tryz.isAgg31 _)) (aj rfl (aI (Y.get (k := 2) rfl) (Tryz.isAgg54 _)) ag))), .inr ⟨hdn, rfl, Y.ext⟩⟩)
 have hd75 := hd70.trans (cd hq72)
 have hs76 := (co hq72).trans hs71
 refine aS 1 ?_
 refine aV (R := fun u e' => u = iv n74 ∧ e' = blk w3.heap.size [sv s, iv ((s.length - r73.length : Nat) : Int)] 145) 0 Z Y rfl (by decide) Tryz.call82 rfl (fun h => (bQ w3.heap.size s r68 r73 n74 ((s.length - r68.length : Nat) : Int) _ rfl hs71 hsl hq72 h).mono fun u w ⟨h1, h2⟩ => ⟨_, ⟨h1, rfl⟩, h2⟩) ?_
 clear Z Y
 rintro a w51 _ _ ⟨rfl, rfl⟩ Z Y
 replace Y : St No w0 [blk w3.heap.size [sv s, iv ((s.length - r73.length : Nat) : Int)] 145, blk w0.heap.size [iv n54, iv n59, iv n64, iv n69, iv 0, iv 0, iv 0, iv 0, .string (⟨#[]⟩)] 30, blk w1.heap.size [lv] 31, blk w2.heap.size [iv 0] 54, own lv 40 7 ((acc).map Pxy.cells)] w51 := Y
 refine ab <| cP ?_
 refine wlv Z (aH rfl) fun a Z => ap 1 Z Y rfl rfl rfl (Tryz.sizeOf3 _) rfl (lb rfl) (ds := [iv n54, iv n59, iv n64, iv n69, iv n74, iv 0, iv 0, iv 0, .string (⟨#[]⟩)]) rfl rfl ?_
 clear Z Y
 intro a w52 Z Y
 refine ab ?_
 refine hK64 _ _ ?_
 replace Z : Fr 98 [(0, _), (2, _), (3, _), (4, _), (5, _), (69, _), (70, _)] [{ target := .fn (.func 81) #[pt w0.heap.size, pt w1.heap.size, pt w2.heap.size], args := #[] }] a := Z.pick [0, 2, 3, 4, 5, 69, 70]
 refine am <| wlv Z ((aT rfl rfl (by decide)).asi (m' := 5) rfl) fun a Z => wlm Z rfl fun a Z => ab ?_
 refine cn ?_
 refine aa fun K66 hK66 => wlv Z ((v_lt rfl rfl).asb (b' := true) rfl) fun a Z => ab (hK66 _ _ ?_)
 refine ai fun K67 hK67 => aL Z rfl ?_
 refine ax ?_
 refine hK67 _ _ ?_
 refine ai fun K68 hK68 => aq ?_
 refine aa fun K69 hK69 => wlv Z (ck (v := .pointer (some ⟨w0.heap.size, 5, none⟩)) rfl rfl (by kernel_rfl)) fun a Z => wla Z rfl fun a Z => ab (hK69 _ _ ?_)
 refine bA ?_
 refine aS 2 ?_
 refine wlm Z rfl fun a Z => wlm Z rfl fun a Z => ab ?_
 rcases hq77 : rdI r73 with _ | ⟨n79, r78⟩
 ·have hdn := hd75.trans (bY hq77)
  refine bX (X := fun c => c = [{ v := .iface 142 (.agg #[]), recovered := false }]) 0 Z Y rfl Tryz.call82 rfl (fun h => (bN w3.heap.size s r73  ((s.length - r73.length : Nat) : Int) _ rfl hs76 hsl hq77 h).mono fun e w ⟨c, h1, h2, h3⟩ => ⟨c, h1, _, h2, h3⟩) ?_
  clear Y
  rintro _ w53 e9 rfl Y
  replace Y : St No w0 [blk w0.heap.size [iv n54, iv n59, iv n64, iv n69, iv n74, iv 0, iv 0, iv 0, .string (⟨#[]⟩)] 30, blk w1.heap.size [lv] 31, blk w2.heap.size [iv 0] 54] w53 := Y.select [1, 2, 3] (by decide)
  exact bn Z Tryz.call81 (bM _ _ _ _ _ _ _ _ _ _ _ _ _ _ _ Y) Tryz.results28 (fun w9 Y => ⟨(aj rfl (ba (Y.get (k := 0) rfl) (Tryz.isAgg30 _) (Tryz.sizeOf30 _)) (aj rfl (aI (Y.get (k := 1) rfl) (Tryz.isAgg31 _)) (aj rfl (aI (Y.get (k := 2) rfl) (Tryz.isAgg54 _)) ag))), .inr ⟨hdn, rfl, Y.ext⟩⟩)
 have hd80 := hd75.trans (cd hq77)
 have hs81 := (co hq77).trans hs76
 refine aS 1 ?_
 refine aV (R := fun u e' => u = iv n79 ∧ e' = blk w3.heap.size [sv s, iv ((s.length - r78.length : Nat) : Int)] 145) 0 Z Y rfl (by decide) Tryz.call82 rfl (fun h => (bQ w3.heap.size s r73 r78 n79 ((s.length - r73.length : Nat) : Int) _ rfl hs76 hsl hq77 h).mono fun u w ⟨h1, h2⟩ => ⟨_, ⟨h1, rfl⟩, h2⟩) ?_
 clear Z Y
 rintro a w54 _ _ ⟨rfl, rfl⟩ Z Y
 replace Y : St No w0 [blk w3.heap.size [sv s, iv ((s.length - r78.length : Nat) : Int)] 145, blk w0.heap.size [iv n54, iv n59, iv n64, iv n69, iv n74, iv 0, iv 0, iv 0, .string (⟨#[]⟩)] 30, blk w1.heap.size [lv] 31, blk w2.heap.size [iv 0] 54, own lv 40 7 ((acc).map Pxy.cells)] w54 := Y
 refine ab <| cP ?_
 refine wlv Z (aH rfl) fun a Z => ap 1 Z Y rfl rfl rfl (Tryz.sizeOf3 _) rfl (lb rfl) (ds := [iv n54, iv n59, iv n64, iv n69, iv n74, iv n79, iv 0, iv 0, .string (⟨#[]⟩)]) rfl rfl ?_
 clear Z Y
 intro a w55 Z Y
 refine ab ?_
 refine hK68 _ _ ?_
 replace Z : Fr 98 [(0, _), (2, _), (3, _), (4, _), (5, _), (69, _), (70, _)] [{ target := .fn (.func 81) #[pt w0.heap.size, pt w1.heap.size, pt w2.heap.size], args := #[] }] a := Z.pick [0, 2, 3, 4, 5, 69, 70]
 refine am <| wlv Z ((aT rfl rfl (by decide)).asi (m' := 6) rfl) fun a Z => wlm Z rfl fun a Z => ab ?_
 refine cn ?_
 refine aa fun K70 hK70 => wlv Z ((v_lt rfl rfl).asb (b' := true) rfl) fun a Z => ab (hK70 _ _ ?_)
 refine ai fun K71 hK71 => aL Z rfl ?_
 refine ax ?_
 refine hK71 _ _ ?_
 refine ai fun K72 hK72 => aq ?_
 refine aa fun K73 hK73 => wlv Z (ck (v := .pointer (some ⟨w0.heap.size, 6, none⟩)) rfl rfl (by kernel_rfl)) fun a Z => wla Z rfl fun a Z => ab (hK73 _ _ ?_)
 refine bA ?_
 refine aS 2 ?_
 refine wlm Z rfl fun a Z => wlm Z rfl fun a Z => ab ?_
 rcases hq82 : rdI r78 with _ | ⟨n84, r83⟩
 ·have hdn := hd80.trans (bY hq82)
  refine bX (X := fun c => c = [{ v := .iface 142 (.agg #[]), recovered := false }]) 0 Z Y rfl Tryz.call82 rfl (fun h => (bN w3.heap.size s r78  ((s.length - r78.length : Nat) : Int) _ rfl hs81 hsl hq82 h).mono fun e w ⟨c, h1, h2, h3⟩ => ⟨c, h1, _, h2, h3⟩) ?_
  clear Y
  rintro _ w56 e9 rfl Y
  replace Y : St No w0 [blk w0.heap.size [iv n54, iv n59, iv n64, iv n69, iv n74, iv n79, iv 0, iv 0, .string (⟨#[]⟩)] 30, blk w1.heap.size [lv] 31, blk w2.heap.size [iv 0] 54] w56 := Y.select [1, 2, 3] (by decide)
  exact bn Z Tryz.call81 (bM _ _ _ _ _ _ _ _ _ _ _ _ _ _ _ Y) Tryz.results28 (fun w9 Y => ⟨(aj rfl (ba (Y.get (k := 0) rfl) (Tryz.isAgg30 _) (Tryz.sizeOf30 _)) (aj rfl (aI (Y.get (k := 1) rfl) (Tryz.isAgg31 _)) (aj rfl (aI (Y.get (k := 2) rfl) (Tryz.isAgg54 _)) ag))), .inr ⟨hdn, rfl, Y.ext⟩⟩)
 have hd85 := hd80.trans (cd hq82)
 have hs86 := (co hq82).trans hs81
 refine aS 1 ?_
 refine aV (R := fun u e' => u = iv n84 ∧ e' = blk w3.heap.size [sv s, iv ((s.length - r83.length : Nat) : Int)] 145) 0 Z Y rfl (by decide) Tryz.call82 rfl (fun h => (bQ w3.heap.size s r78 r83 n84 ((s.length - r78.length : Nat) : Int) _ rfl hs81 hsl hq82 h).mono fun u w ⟨h1, h2⟩ => ⟨_, ⟨h1, rfl⟩, h2⟩) ?_
 clear Z Y
 rintro a w57 _ _ ⟨rfl, rfl⟩ Z Y
 replace Y : St No w0 [blk w3.heap.size [sv s, iv ((s.length - r83.length : Nat) : Int)] 145, blk w0.heap.size [iv n54, iv n59, iv n64, iv n69, iv n74, iv n79, iv 0, iv 0, .string (⟨#[]⟩)] 30, blk w1.heap.size [lv] 31, blk w2.heap.size [iv 0] 54, own lv 40 7 ((acc).map Pxy.cells)] w57 := Y
 refine ab <| cP ?_
 refine wlv Z (aH rfl) fun a Z => ap 1 Z Y rfl rfl rfl (Tryz.sizeOf3 _) rfl (lb rfl) (ds := [iv n54, iv n59, iv n64, iv n69, iv n74, iv n79, iv n84, iv 0, .string (⟨#[]⟩)]) rfl rfl ?_
 clear Z Y
 intro a w58 Z Y
 refine ab ?_
 refine hK72 _ _ ?_
 replace Z : Fr 98 [(0, _), (2, _), (3, _), (4, _), (5, _), (69, _), (70, _)] [{ target := .fn (.func 81) #[pt w0.heap.size, pt w1.heap.size, pt w2.heap.size], args := #[] }] a := Z.pick [0, 2, 3, 4, 5, 69, 70]
 refine am <| wlv Z ((aT rfl rfl (by decide)).asi (m' := 7) rfl) fun a Z => wlm Z rfl fun a Z => ab ?_
 refine cn ?_
 refine aa fun K74 hK74 => wlv Z ((v_lt rfl rfl).asb (b' := true) rfl) fun a Z => ab (hK74 _ _ ?_)
 refine ai fun K75 hK75 => aL Z rfl ?_
 refine ax ?_
 refine hK75 _ _ ?_
 refine ai fun K76 hK76 => aq ?_
 refine aa fun K77 hK77 => wlv Z (ck (v := .pointer (some ⟨w0.heap.size, 7, none⟩)) rfl rfl (by kernel_rfl)) fun a Z => wla Z rfl fun a Z => ab (hK77 _ _ ?_)
 refine bA ?_
 refine aS 2 ?_
 refine wlm Z rfl fun a Z => wlm Z rfl fun a Z => ab ?_
 rcases hq87 : rdI r83 with _ | ⟨n89, r88⟩
 ·have hdn := hd85.trans (bY hq87)
  refine bX (X := fun c => c = [{ v := .iface 142 (.agg #[]), recovered := false }]) 0 Z Y rfl Tryz.call82 rfl (fun h => (bN w3.heap.size s r83  ((s.length - r83.length : Nat) : Int) _ rfl hs86 hsl hq87 h).mono fun e w ⟨c, h1, h2, h3⟩ => ⟨c, h1, _, h2, h3⟩) ?_
  clear Y
  rintro _ w59 e9 rfl Y
  replace Y : St No w0 [blk w0.heap.size [iv n54, iv n59, iv n64, iv n69, iv n74, iv n79, iv n84, iv 0, .string (⟨#[]⟩)] 30, blk w1.heap.size [lv] 31, blk w2.heap.size [iv 0] 54] w59 := Y.select [1, 2, 3] (by decide)
  exact bn Z Tryz.call81 (bM _ _ _ _ _ _ _ _ _ _ _ _ _ _ _ Y) Tryz.results28 (fun w9 Y => ⟨(aj rfl (ba (Y.get (k := 0) rfl) (Tryz.isAgg30 _) (Tryz.sizeOf30 _)) (aj rfl (aI (Y.get (k := 1) rfl) (Tryz.isAgg31 _)) (aj rfl (aI (Y.get (k := 2) rfl) (Tryz.isAgg54 _)) ag))), .inr ⟨hdn, rfl, Y.ext⟩⟩)
 have hd90 := hd85.trans (cd hq87)
 have hs91 := (co hq87).trans hs86
 refine aS 1 ?_
 refine aV (R := fun u e' => u = iv n89 ∧ e' = blk w3.heap.size [sv s, iv ((s.length - r88.length : Nat) : Int)] 145) 0 Z Y rfl (by decide) Tryz.call82 rfl (fun h => (bQ w3.heap.size s r83 r88 n89 ((s.length - r83.length : Nat) : Int) _ rfl hs86 hsl hq87 h).mono fun u w ⟨h1, h2⟩ => ⟨_, ⟨h1, rfl⟩, h2⟩) ?_
 clear Z Y
 rintro a w60 _ _ ⟨rfl, rfl⟩ Z Y
 replace Y : St No w0 [blk w3.heap.size [sv s, iv ((s.length - r88.length : Nat) : Int)] 145, blk w0.heap.size [iv n54, iv n59, iv n64, iv n69, iv n74, iv n79, iv n84, iv 0, .string (⟨#[]⟩)] 30, blk w1.heap.size [lv] 31, blk w2.heap.size [iv 0] 54, own lv 40 7 ((acc).map Pxy.cells)] w60 := Y
 refine ab <| cP ?_
 refine wlv Z (aH rfl) fun a Z => ap 1 Z Y rfl rfl rfl (Tryz.sizeOf3 _) rfl (lb rfl) (ds := [iv n54, iv n59, iv n64, iv n69, iv n74, iv n79, iv n84, iv n89, .string (⟨#[]⟩)]) rfl rfl ?_
 clear Z Y
 intro a w61 Z Y
 refine ab ?_
 refine hK76 _ _ ?_
 replace Z : Fr 98 [(0, _), (2, _), (3, _), (4, _), (5, _), (69, _), (70, _)] [{ target := .fn (.func 81) #[pt w0.heap.size, pt w1.heap.size, pt w2.heap.size], args := #[] }] a := Z.pick [0, 2, 3, 4, 5, 69, 70]
 refine am <| wlv Z ((aT rfl rfl (by decide)).asi (m' := 8) rfl) fun a Z => wlm Z rfl fun a Z => ab ?_
 refine cn ?_
 refine aa fun K78 hK78 => wlv Z ((v_lt rfl rfl).asb (b' := false) rfl) fun a Z => ab (hK78 _ _ ?_)
 refine ai fun K79 hK79 => bE Z rfl ?_
 refine aP ?_
 refine hK44 _ _ ?_
 refine ct fun K80 hK80 hP80 => aS 1 ?_
 refine wlm Z rfl fun a Z => ab ?_
 rcases hq92 : dgI r88 with _ | ⟨n94, r93⟩
 ·have hdn := hd90.trans (hP hq92)
  refine bX (X := fun c => c = [{ v := .iface 142 (.agg #[]), recovered := false }]) 0 Z Y rfl Tryz.call84 rfl (fun h => (l9 w3.heap.size s r88  ((s.length - r88.length : Nat) : Int) _ rfl hs91 hsl hq92 h).mono fun e w ⟨c, h1, h2, h3⟩ => ⟨c, h1, _, h2, h3⟩) ?_
  clear Y
  rintro _ w62 e9 rfl Y
  refine hP80 _ _ _ ?_
  replace Y : St No w0 [blk w0.heap.size [iv n54, iv n59, iv n64, iv n69, iv n74, iv n79, iv n84, iv n89, .string (⟨#[]⟩)] 30, blk w1.heap.size [lv] 31, blk w2.heap.size [iv 0] 54] w62 := Y.select [1, 2, 3] (by decide)
  exact bn Z Tryz.call81 (bM _ _ _ _ _ _ _ _ _ _ _ _ _ _ _ Y) Tryz.results28 (fun w9 Y => ⟨(aj rfl (ba (Y.get (k := 0) rfl) (Tryz.isAgg30 _) (Tryz.sizeOf30 _)) (aj rfl (aI (Y.get (k := 1) rfl) (Tryz.isAgg31 _)) (aj rfl (aI (Y.get (k := 2) rfl) (Tryz.isAgg54 _)) ag))), .inr ⟨hdn, rfl, Y.ext⟩⟩)
 have hd95 := hd90.trans (iC hq92)
 have hs96 := (lN hq92).trans hs91
 refine aS 1 ?_
 refine aV (R := fun u e' => u = sv n94 ∧ e' = blk w3.heap.size [sv s, iv ((s.length - r93.length : Nat) : Int)] 145) 0 Z Y rfl (by decide) Tryz.call84 rfl (fun h => (oi w3.heap.size s r88 r93 n94 ((s.length - r88.length : Nat) : Int) _ rfl hs91 hsl hq92 h).mono fun u w ⟨h1, h2⟩ => ⟨_, ⟨h1, rfl⟩, h2⟩) ?_
 clear Z Y
 rintro a w63 _ _ ⟨rfl, rfl⟩ Z Y
 replace Y : St No w0 [blk w3.heap.size [sv s, iv ((s.length - r93.length : Nat) : Int)] 145, blk w0.heap.size [iv n54, iv n59, iv n64, iv n69, iv n74, iv n79, iv n84, iv n89, .string (⟨#[]⟩)] 30, blk w1.heap.size [lv] 31, blk w2.heap.size [iv 0] 54, own lv 40 7 ((acc).map Pxy.cells)] w63 := Y
 refine ab <| cP ?_
 refine wlv Z (ac (v := .pointer (some ⟨w0.heap.size, 8, none⟩)) rfl (by kernel_rfl)) fun a Z => ap 1 Z Y rfl rfl rfl (Tryz.sizeOf9 _) rfl (lb rfl) (ds := [iv n54, iv n59, iv n64, iv n69, iv n74, iv n79, iv n84, iv n89, sv n94]) rfl rfl ?_
 clear Z Y
 intro a w64 Z Y
 refine ab (hK80 _ _ ?_)
 replace Z : Fr 98 [(0, _), (2, _), (3, _), (4, _), (5, _)] [{ target := .fn (.func 81) #[pt w0.heap.size, pt w1.heap.size, pt w2.heap.size], args := #[] }] a := Z.pick [0, 2, 3, 4, 5]
 refine ai fun K81 hK81 => aa fun K82 hK82 => wlm Z rfl fun a Z => wlv Z (aH rfl) fun a Z => wlv Z (ac (v := .pointer (some ⟨w3.heap.size, 1, none⟩)) rfl (by kernel_rfl)) fun a Z => wlv Z (ae (Y.get (k := 0) rfl) rfl (Tryz.isAgg3 _) rfl) fun a Z => wlm Z rfl fun a Z => wlv Z (bD rfl rfl (Tryz.runUnderlying9 _)) fun a Z => ?_
 refine wlv Z (v_lt rfl rfl) fun a Z => wlm Z rfl fun a Z => ?_
 rcases Bool.eq_false_or_eq_true (decide (((s.length - r93.length : Nat) : Int) < (s.length : Int))) with hb97 | hb97
 ·rw [hb97] at Z
  try simp only [qz] at hb97
  have hdn := hd95.trans (nD (by intro h0; have h1 := congrArg List.length h0; rw [List.length_nil] at h1; omega))
  refine wln Z fun a Z => wln Z fun a Z => wln Z fun a Z => wln Z fun a Z => wlv Z (az rfl rfl) fun a Z => ab (hK82 _ _ ?_)
  replace Z : Fr 98 [(2, _), (3, _), (4, _), (93, _)] [{ target := .fn (.func 81) #[pt w0.heap.size, pt w1.heap.size, pt w2.heap.size], args := #[] }] a := Z.pick [2, 3, 4, 93]
  replace Y : St No w0 [_, _, _, _] w64 := Y.mask [false, true, true, true, true]
  refine aL Z rfl ?_
  refine bA ?_
  refine aS 2 ?_
  refine wlv Z (bC (v := .agg #[]) rfl (by kernel_rfl)) fun a Z => wlv Z (cO rfl Tryz.underlying142) fun a Z => ab ?_
  refine dH Z rfl ?_
  replace Y : St No w0 [blk w0.heap.size [iv n54, iv n59, iv n64, iv n69, iv n74, iv n79, iv n84, iv n89, sv n94] 30, blk w1.heap.size [lv] 31, blk w2.heap.size [iv 0] 54] w64 := Y.select [0, 1, 2] (by decide)
  exact bn Z Tryz.call81 (bM _ _ _ _ _ _ _ _ _ _ _ _ _ _ _ Y) Tryz.results28 (fun w9 Y => ⟨(aj rfl (ba (Y.get (k := 0) rfl) (Tryz.isAgg30 _) (Tryz.sizeOf30 _)) (aj rfl (aI (Y.get (k := 1) rfl) (Tryz.isAgg31 _)) (aj rfl (aI (Y.get (k := 2) rfl) (Tryz.isAgg54 _)) ag))), .inr ⟨hdn, rfl, Y.ext⟩⟩)
 rw [hb97] at Z
 try simp only [qz] at hb97
 have hrn : r93 = [] := List.eq_nil_of_length_eq_zero (by have := hs96.length_le; omega)
 refine wly Z (ar (Y.get (k := 1) rfl) rfl (Tryz.isAgg30 _) (Tryz.sizeOf30 _)) fun a Z => wly Z (ae (Y.get (k := 2) rfl) rfl (Tryz.isAgg31 _) rfl) fun a Z => aJ Z Y (by decide) rfl (by decide) rfl Tryz.call19 rfl (e7 (x := (⟨n54, n59, n64, n69, n74, n79, n84, n89, n94⟩ : Wsh)) (ps := acc) (Y.ownAt (i := 4) rfl)) ?_
 clear Z Y
 intro a w65 Z Y
 refine wly Z (bS rfl) fun a Z => wlv Z (au rfl rfl) fun a Z => ab (hK82 _ _ ?_)
 replace Z : Fr 98 [(2, _), (3, _), (4, _), (93, _)] [{ target := .fn (.func 81) #[pt w0.heap.size, pt w1.heap.size, pt w2.heap.size], args := #[] }] a := Z.pick [2, 3, 4, 93]
 replace Y : St No w0 [_, _, _, _] w65 := Y.mask [false, true, true, true, true]
 refine ay Z rfl (fun hc98 => ?_) (fun hc98 => ?_)
 ·rw [hc98] at Z
  try simp only [qz] at hc98
  have hdn := hd95.trans (n9 hc98)
  refine bA ?_
  refine aS 2 ?_
  refine wlv Z (bC (v := .agg #[]) rfl (by kernel_rfl)) fun a Z => wlv Z (cO rfl Tryz.underlying142) fun a Z => ab ?_
  refine dH Z rfl ?_
  replace Y : St No w0 [blk w0.heap.size [iv n54, iv n59, iv n64, iv n69, iv n74, iv n79, iv n84, iv n89, sv n94] 30, blk w1.heap.size [lv] 31, blk w2.heap.size [iv 0] 54] w65 := Y.select [0, 1, 2] (by decide)
  exact bn Z Tryz.call81 (bM _ _ _ _ _ _ _ _ _ _ _ _ _ _ _ Y) Tryz.results28 (fun w9 Y => ⟨(aj rfl (ba (Y.get (k := 0) rfl) (Tryz.isAgg30 _) (Tryz.sizeOf30 _)) (aj rfl (aI (Y.get (k := 1) rfl) (Tryz.isAgg31 _)) (aj rfl (aI (Y.get (k := 2) rfl) (Tryz.isAgg54 _)) ag))), .inr ⟨hdn, rfl, Y.ext⟩⟩)
 rw [hc98] at Z
 try simp only [qz] at hc98
 have hd8 := hd95.trans (nj hrn hc98)
 refine ax ?_
 refine hK81 _ _ ?_
 refine ai fun K83 hK83 => aM (by kernel_rfl) (aO (by kernel_rfl) fun w66 hxz => ?_)
 replace Y := Y.grow hxz
 refine aX (k := 0) 3 [1, 2] Z (by kernel_rfl) (by kernel_rfl) (by kernel_rfl) (by rfl) ?_
 replace Z : Fr 98 [(2, _), (3, _), (4, _), (93, _)] [{ target := .fn (.func 81) #[pt w0.heap.size, pt w1.heap.size, pt w2.heap.size], args := #[] }] a := Z.pick [2, 3, 4, 93]
 replace Y : St No w0 [blk w0.heap.size [iv n54, iv n59, iv n64, iv n69, iv n74, iv n79, iv n84, iv n89, sv n94] 30, blk w1.heap.size [lv] 31, blk w2.heap.size [iv 0] 54, own lv 40 7 ((acc).map Pxy.cells)] w66 := Y.select [0, 1, 2, 3] (by decide)
 refine gw [2] (fun q => if q = 2 then blk w0.heap.size [iv n54, iv n59, iv n64, iv n69, iv n74, iv n79, iv n84, iv n89, sv n94] 30 else join []) (fun q => if q = 2 then blk w0.heap.size [iv n54, iv n59, iv n64, iv n69, iv n74, iv n79, iv n84, iv n89, sv n94] 30 else join []) 3 [[], [], [0]] (fun i => match i with | 0 => pv (.agg #[iv n54, iv n59, iv n64, iv n69, iv n74, iv n79, iv n84, iv n89, sv n94]) | 1 => pv (lv) | 2 => fun v E => v = undef ∧ E = [] | _ => fun _ _ => False) (by intro q; by_cases h2 : q = 2; (subst h2; rfl); simp only [h2, if_false]) Z (H := [blk w1.heap.size [lv] 31, blk w2.heap.size [iv 0] 54, own lv 40 7 ((acc).map Pxy.cells)]) Y (by kernel_rfl) (by kernel_rfl) (by kernel_rfl) (by kernel_rfl) (by decide) (by decide) ?_ ?_ ?_ ?_ ?_ ?_
 ·intro i v E h
  match i, h with
  | 0, _ => exact by decide
  | 1, _ => exact by decide
  | 2, _ => exact by decide
  | i + 3, h => exact h.elim
 ·intro q v E hq h
  simp only [List.mem_cons, List.not_mem_nil, or_false] at hq
  rcases hq with rfl <;> exact h
 ·intro q hq
  simp only [List.mem_cons, List.not_mem_nil, or_false] at hq
  rcases hq with rfl <;> exact ⟨rfl, rfl⟩
 ·intro i hi hiq e
  match i, hi, hiq with
  | 0, _, _ =>
   intro w Y
   exact OpV.g (ar (oR (F := fun q => if q = 2 then blk w0.heap.size [iv n54, iv n59, iv n64, iv n69, iv n74, iv n79, iv n84, iv n89, sv n94] 30 else join []) (q := 2) (Y.get (k := 0) rfl)) rfl (Tryz.isAgg30 _) (Tryz.sizeOf30 _))
  | 1, _, _ =>
   intro w Y
   exact OpV.g (ae (Y.get (k := 1) rfl) rfl (Tryz.isAgg31 _) rfl)
  | 2, _, h => exact absurd (by decide) h
 ·intro q hq
  simp only [List.mem_cons, List.not_mem_nil, or_false] at hq
  rcases hq with rfl
  ·rintro _ _ ⟨rfl, rfl⟩
   intro w h
   exact dD (cs := [iv n54, iv n59, iv n64, iv n69, iv n74, iv n79, iv n84, iv n89, sv n94]) (ds := [iv n54, iv n59, iv n64, iv n69, iv n74, iv n79, iv n84, iv n89, sv n94]) rfl rfl h (Tryz.sizeOf30 _) rfl (lb rfl) rfl
 clear Z Y
 rintro _ _ ⟨rfl, rfl⟩ _ _ ⟨rfl, rfl⟩ a w67 Z Y
 replace Z : Fr 98 [(96, _), (97, _), (2, _), (3, _), (4, _), (93, _)] [{ target := .fn (.func 81) #[pt w0.heap.size, pt w1.heap.size, pt w2.heap.size], args := #[] }] a := Z
 replace Y : St No w0 [blk w0.heap.size [iv n54, iv n59, iv n64, iv n69, iv n74, iv n79, iv n84, iv n89, sv n94] 30, blk w1.heap.size [lv] 31, blk w2.heap.size [iv 0] 54, own lv 40 7 ((acc).map Pxy.cells)] w67 := Y
 refine ab <| aQ (k := 3) 5 [4] (by kernel_rfl) (by kernel_rfl) (by kernel_rfl) ?_
 refine cw 1 Z Y (Y.ownAt (i := 3) rfl) rfl rfl rfl (Tryz.sizeOf31 _) (lb rfl) (ds := [lv]) rfl rfl ?_
 clear Z Y
 intro a w68 Z Y
 refine ap 2 Z Y rfl rfl rfl (Tryz.sizeOf54 _) rfl (lb rfl) (ds := [iv 0]) rfl rfl ?_
 clear Z Y
 intro a w69 Z Y
 refine ab <| aZ (by kernel_rfl) ?_
 refine hK83 _ _ ?_
 refine aw ?_
 refine nu (vs := [.agg #[iv n54, iv n59, iv n64, iv n69, iv n74, iv n79, iv n84, iv n89, sv n94], lv, iv 0]) Z Tryz.call81 (nt _ _ _ _) Tryz.results28 (fun w9 hx => ?_)
 have Y := Y.grow hx
 exact ⟨(aj rfl (ba (Y.get (k := 0) rfl) (Tryz.isAgg30 _) (Tryz.sizeOf30 _)) (aj rfl (aI (Y.get (k := 1) rfl) (Tryz.isAgg31 _)) (aj rfl (aI (Y.get (k := 2) rfl) (Tryz.isAgg54 _)) ag))), .inl ⟨_, _, hd8, _, rfl, trivial, Y.ext, St.out (H := []) (Y.select [3] (by decide))⟩⟩
end Go.Proofs.YtmmfieceinmloaaGreatDoor
namespace Go.Proofs.YtmmfieceinmloaaGreatDoor
open Go.RowKit Go.PW
set_option linter.unusedVariables false
set_option linter.unusedSimpArgs false
set_option maxRecDepth 4000
theorem lA {s : By} {x : Wsh} {ps : List Pxy} {w0 : World} (hsl : s.length ≤ 1000000) (h : db s = some (x, ps)) : Ret Tryz.prog 28 #[sv s] w0 (MemR w0 (fun lv : Value => .tuple #[.agg x.cells.toArray, lv, iv 0]) (fun lv => [own lv 40 7 (ps.map Pxy.cells)]) (fun _ => True)) := by
 refine (lq s w0 hsl).mono fun v w hR => ?_
 rcases hR with ⟨x2, ps2, h2, hm⟩ | ⟨h2, _⟩
 ·rw [h] at h2
  simp only [Option.some.injEq, Prod.mk.injEq] at h2
  obtain ⟨rfl, rfl⟩ := h2
  exact hm
 ·rw [h] at h2; cases h2
theorem kH {x : Wsh} {lv : Value} {ps : List Pxy} {s : By} {w0 : World} (hlv : SlAt w0 lv 7 (ps.map Pxy.cells)) (h : cT x ps = some s) : Ret Tryz.prog 26 #[.agg #[iv x.signer, iv x.holder, iv x.rf, iv x.rt, iv x.carrier, iv x.serial, iv x.sf, iv x.st, sv x.sig], lv] w0 fun v w => v = .tuple #[sv s, iv 0] ∧ Ext No w0 w := by
 have := mr x lv ps w0 hlv
 rw [h] at this
 exact this
theorem kC {x : Wsh} {ps : List Pxy} {s : By} (h : cT x ps = some s) : s.length ≤ 20000 ∧ 0 < s.length := by
 obtain ⟨h1, h2, h3, rfl⟩ := cL.1 h
 have h4 := gt h1
 have h5 := fq h3
 have h6 := (dr (ps.length : Int))
 have h7 : x.content.length ≤ 81 := gT x
 unfold Wsh.text
 simp only [List.length_append]
 omega
theorem em {f : FuncId} {args : Array Value} {w : World} {b c : Bool} (h : b = c) (hr : Ret Tryz.prog f args w fun v w' => v = .bool b ∧ Ext No w w') : Ret Tryz.prog f args w fun v w' => v = .bool c ∧ Ext No w w' := by subst h; exact hr
theorem ni {kv lv : Value} {ks : List By} {x : Wsh} {ps : List Pxy} {n t re ix : Int} {w0 : World} (hkv : SlAt w0 kv 1 (ks.map fun s => [sv s])) (hlv : SlAt w0 lv 7 (ps.map Pxy.cells)) (hk0 : (blk 0 (kOf.map wv) 239).ok w0) (h : whyH ks x ps n t = (re, ix)) :
  Ret Tryz.prog 15 #[kv, .agg #[iv x.signer, iv x.holder, iv x.rf, iv x.rt, iv x.carrier, iv x.serial, iv x.sf, iv x.st, sv x.sig], lv, iv n, iv t] w0 fun v w => v = .tuple #[iv re, iv ix] ∧ Ext No w0 w := by
 have := ng kv lv ks x ps n t w0 hkv hlv hk0
 rw [h] at this
 exact this
theorem jR {kv lv : Value} {ks : List By} {x : Wsh} {ps : List Pxy} {n t : Int} {b : Bool} {w0 : World} (hkv : SlAt w0 kv 1 (ks.map fun s => [sv s])) (hlv : SlAt w0 lv 7 (ps.map Pxy.cells)) (hk0 : (blk 0 (kOf.map wv) 239).ok w0) (h : validH ks x ps n t = b) :
  Ret Tryz.prog 17 #[kv, .agg #[iv x.signer, iv x.holder, iv x.rf, iv x.rt, iv x.carrier, iv x.serial, iv x.sf, iv x.st, sv x.sig], lv, iv n, iv t] w0 fun v w => v = .bool b ∧ Ext No w0 w := by
 have := nK kv lv ks x ps n t w0 hkv hlv hk0
 rw [h] at this
 exact this
def exW : Wsh := (dW 200).sealed (keyH 2)
def ex501 : Wsh := (dW 501).sealed (keyH 2)
def exP : Pxy := (dF 500).sealed (keyH 1)
def exO : Wsh := { exW with carrier := 4 }
def exL : Pxy := { exP with st := 600 }
def exZ : Wsh := ⟨0, 0, 0, 0, 0, 0, 0, 0, []⟩
def exC : By := accH (keyH 3) 1100 1
theorem l7 : exW.sig.length = 32 := cN _ _
theorem lX : exP.sig.length = 32 := cN _ _
theorem gu : bI exW [exP] = true := by decide
theorem lj : bI exZ [] = false := by decide
def exS : By := putI 1 ++ ([exP].flatMap Pxy.text ++ exW.text)
theorem kJ : cT exW [exP] = some exS := cL.2 ⟨gu, l7, fun p hp => by rw [List.mem_singleton.1 hp]; exact lX, rfl⟩
theorem oU : en (keyH 3) 1100 1 exC = true := by unfold en exC; rw [decide_eq_true rfl]; decide
theorem o6 : en (keyH 4) 1100 1 exC = false := by decide +kernel
theorem oy : whyH keysH exW [exP] 1100 150 = (0, -1) := by decide +kernel
theorem pC : whyH keysH exW [exP] 1199 199 = (0, -1) := by decide +kernel
theorem oM : whyH keysH exW [exP] 1200 150 = (3, -1) := by decide +kernel
theorem ph : whyH keysH exW [exP] 1100 200 = (2, -1) := by decide +kernel
theorem o9 : whyH keysH exW [exP] 1200 200 = (2, -1) := by decide +kernel
theorem pi : whyH keysH exW [] 1100 150 = (4, -1) := by decide +kernel
theorem oW : whyH keysH ex501 [exP] 1100 150 = (5, -1) := by decide +kernel
theorem pG : whyH keysH exO [exP] 1100 150 = (6, -1) := by decide +kernel
theorem pF : whyH keysH exW [exL] 1100 150 = (6, 0) := by decide +kernel
theorem pq : whyH keysH exZ [] 0 0 = (1, -1) := by decide +kernel
theorem eA (x : Wsh) (lv : Value) (ps : List Pxy) (n t re ix : Int) (w0 : World) (hlv : SlAt w0 lv 7 (ps.map Pxy.cells)) (hk0 : (blk 0 (kOf.map wv) 239).ok w0) (h : whyH keysH x ps n t = (re, ix)) :
  Ret Tryz.prog 52 #[.agg #[iv x.signer, iv x.holder, iv x.rf, iv x.rt, iv x.carrier, iv x.serial, iv x.sf, iv x.st, sv x.sig], lv, iv n, iv t, iv re, iv ix] w0 fun v w => v = .bool true ∧ Ext No w0 w := by
 refine aF Tryz.func52 rfl Tryz.ntmps52 (lb rfl) fun a Z => ?_
 replace Z : Fr 43 [(0, _), (1, _), (2, _), (3, _), (4, _), (5, _)] [] a := Z
 replace Y : St No w0 [] w0 := St.init w0
 refine aa fun K1 hK1 => aY Z Y (by decide) rfl (cs := [iv x.signer, iv x.holder, iv x.rf, iv x.rt, iv x.carrier, iv x.serial, iv x.sf, iv x.st, sv x.sig]) rfl ?_
 clear Z Y
 intro a w1 Z Y
 refine wla Z rfl fun a Z => ab (hK1 _ _ ?_)
 refine ai fun K2 hK2 => aM (by kernel_rfl) (aO (by kernel_rfl) fun w2 hxz => ?_)
 replace Y := Y.grow hxz
 refine aX (k := 0) 5 [0, 1, 2, 3, 4] Z (by kernel_rfl) (by kernel_rfl) (by kernel_rfl) (by rfl) ?_
 replace Z : Fr 43 [(0, _), (1, _), (2, _), (3, _), (4, _), (5, _), (6, _), (12, _)] [] a := Z.pick [0, 1, 2, 3, 4, 5, 6, 12]
 refine aB [0] (fun i => match i with | 0 => pm (fun v : Value => v) (fun v => [own v 9 1 (keysH.map fun s => [sv s])]) (fun _ => True) | _ => fun _ _ => False) 5 [[], [], [], [], []] [undef, .agg #[iv x.signer, iv x.holder, iv x.rf, iv x.rt, iv x.carrier, iv x.serial, iv x.sf, iv x.st, sv x.sig], lv, iv n, iv t] Z Y (by kernel_rfl) (by kernel_rfl) (by kernel_rfl) ?_ ?_ ?_
 ·intro i hi hiq
  match i, hi, hiq with
  | 0, _, h => exact absurd (by simp) h
  | 1, _, _ =>
   intro w Y
   exact OpV.g (ar (Y.get (k := 0) rfl) rfl (Tryz.isAgg30 _) (Tryz.sizeOf30 _))
  | 2, _, _ =>
   intro w Y
   exact OpV.g (al rfl)
  | 3, _, _ =>
   intro w Y
   exact OpV.g (al rfl)
  | 4, _, _ =>
   intro w Y
   exact OpV.g (al rfl)
 ·intro i hi
  simp only [List.mem_cons, List.not_mem_nil, or_false] at hi
  subst hi
  ·intro w Y
   exact l0 Tryz.call13 rfl (fW _)
 clear Z Y
 rintro kv1 _ ⟨_, rfl, -, rfl⟩ a w3 Z Y
 replace Z : Fr 43 [(16, _), (17, .agg #[iv x.signer, iv x.holder, iv x.rf, iv x.rt, iv x.carrier, iv x.serial, iv x.sf, iv x.st, sv x.sig]), (18, lv), (19, iv n), (20, iv t), (0, _), (1, _), (2, _), (3, _), (4, _), (5, _), (6, _), (12, _)] [] a := Z
 replace Y : St No w0 [_, _] w3 := Y
 refine ab <| aQ (k := 5) 7 [6] (by kernel_rfl) (by kernel_rfl) (by kernel_rfl) ?_
 refine aA Z Y (by decide) Tryz.call15 rfl (ni (Y.ownAt (i := 0) rfl) (Y.arg hlv) (Y.keepb hk0) h) ?_
 clear Z Y
 intro a w4 Z Y
 refine wlm Z rfl fun a Z => ab ?_
 refine aX (k := 7) 10 [8, 9] Z (by kernel_rfl) (by kernel_rfl) (by kernel_rfl) (by rfl) ?_
 replace Z : Fr 43 [(0, _), (1, _), (2, _), (3, _), (4, _), (5, _), (6, _), (12, _), (16, _), (17, _), (18, _), (19, _), (20, _), (21, _), (15, _)] [] a := Z.pick [0, 1, 2, 3, 4, 5, 6, 12, 16, 17, 18, 19, 20, 21, 15]
 refine aB [] (fun i => match i with | _ => fun _ _ => False) 3 [[], [], [0]] [iv re, iv ix, iv re] Z Y (by kernel_rfl) (by kernel_rfl) (by kernel_rfl) ?_ ?_ ?_
 ·intro i hi hiq
  match i, hi, hiq with
  | 0, _, _ =>
   intro w Y
   exact OpV.g (aD rfl rfl)
  | 1, _, _ =>
   intro w Y
   exact OpV.g (aD rfl rfl)
  | 2, _, _ =>
   intro w Y
   exact OpV.g (cG rfl)
 ·intro i hi
  exact absurd hi (by simp)
 clear Z Y
 intro  a w5 Z Y
 replace Z : Fr 43 [(22, iv re), (23, iv ix), (13, iv re), (0, _), (1, _), (2, _), (3, _), (4, _), (5, _), (6, _), (12, _), (16, _), (17, _), (18, _), (19, _), (20, _), (21, _), (15, _)] [] a := Z
 refine ab <| aQ (k := 10) 11 [10] (by kernel_rfl) (by kernel_rfl) (by kernel_rfl) ?_
 refine wla Z rfl fun a Z => ab ?_
 refine aZ (by kernel_rfl) ?_
 refine hK2 _ _ ?_
 replace Z : Fr 43 [(1, _), (2, _), (3, _), (4, _), (5, _), (6, _), (12, _), (13, _), (14, _)] [] a := Z.pick [1, 2, 3, 4, 5, 6, 12, 13, 14]
 replace Y : St No w0 [_] w5 := Y.mask [false, true]
 refine ai fun K3 hK3 => aM (by kernel_rfl) (aO (by kernel_rfl) fun w6 hxz => ?_)
 replace Y := Y.grow hxz
 refine aX (k := 0) 2 [0, 1] Z (by kernel_rfl) (by kernel_rfl) (by kernel_rfl) (by rfl) ?_
 replace Z : Fr 43 [(1, _), (2, _), (3, _), (4, _), (5, _), (6, _), (12, _), (13, _), (14, _)] [] a := Z.pick [1, 2, 3, 4, 5, 6, 12, 13, 14]
 refine aB [] (fun i => match i with | _ => fun _ _ => False) 2 [[], []] [iv re, iv re] Z Y (by kernel_rfl) (by kernel_rfl) (by kernel_rfl) ?_ ?_ ?_
 ·intro i hi hiq
  match i, hi, hiq with
  | 0, _, _ =>
   intro w Y
   exact OpV.g (al rfl)
  | 1, _, _ =>
   intro w Y
   exact OpV.g (al rfl)
 ·intro i hi
  exact absurd hi (by simp)
 clear Z Y
 intro  a w7 Z Y
 replace Z : Fr 43 [(24, iv re), (25, iv re), (1, _), (2, _), (3, _), (4, _), (5, _), (6, _), (12, _), (13, _), (14, _)] [] a := Z
 refine ab <| aQ (k := 2) 4 [3] (by kernel_rfl) (by kernel_rfl) (by kernel_rfl) ?_
 refine wlv Z ((v_eq rfl rfl).asb (b' := true) (by exact decide_eq_true rfl)) fun a Z => wlm Z rfl fun a Z => ab ?_
 refine aX (k := 4) 6 [4, 5] Z (by kernel_rfl) (by kernel_rfl) (by kernel_rfl) (by rfl) ?_
 replace Z : Fr 43 [(1, _), (2, _), (3, _), (4, _), (5, _), (6, _), (12, _), (13, _), (14, _), (24, _), (25, _), (26, _), (27, _)] [] a := Z.pick [1, 2, 3, 4, 5, 6, 12, 13, 14, 24, 25, 26, 27]
 refine aB [] (fun i => match i with | _ => fun _ _ => False) 2 [[], []] [iv ix, iv ix] Z Y (by kernel_rfl) (by kernel_rfl) (by kernel_rfl) ?_ ?_ ?_
 ·intro i hi hiq
  match i, hi, hiq with
  | 0, _, _ =>
   intro w Y
   exact OpV.g (al rfl)
  | 1, _, _ =>
   intro w Y
   exact OpV.g (al rfl)
 ·intro i hi
  exact absurd hi (by simp)
 clear Z Y
 intro  a w8 Z Y
 replace Z : Fr 43 [(28, iv ix), (29, iv ix), (1, _), (2, _), (3, _), (4, _), (5, _), (6, _), (12, _), (13, _), (14, _), (24, _), (25, _), (26, _), (27, _)] [] a := Z
 refine ab <| aQ (k := 6) 9 [8] (by kernel_rfl) (by kernel_rfl) (by kernel_rfl) ?_
 refine wly Z ((v_eq rfl rfl).asb (b' := true) (by exact decide_eq_true rfl)) fun a Z => wlv Z (az rfl rfl) fun a Z => wlm Z rfl fun a Z => ab ?_
 refine aX (k := 9) 17 [14, 16] Z (by kernel_rfl) (by kernel_rfl) (by kernel_rfl) (by rfl) ?_
 replace Z : Fr 43 [(1, _), (2, _), (3, _), (4, _), (5, _), (6, _), (12, _), (13, _), (14, _), (24, _), (25, _), (26, _), (27, _), (28, _), (29, _), (30, _), (31, _), (32, _)] [] a := Z.pick [1, 2, 3, 4, 5, 6, 12, 13, 14, 24, 25, 26, 27, 28, 29, 30, 31, 32]
 refine aB [0] (fun i => match i with | 0 => pm (fun v : Value => v) (fun v => [own v 9 1 (keysH.map fun s => [sv s])]) (fun _ => True) | _ => fun _ _ => False) 8 [[], [], [], [], [], [0, 1, 2, 3, 4], [], [6]] [undef, .agg #[iv x.signer, iv x.holder, iv x.rf, iv x.rt, iv x.carrier, iv x.serial, iv x.sf, iv x.st, sv x.sig], lv, iv n, iv t, .bool (decide (re = 0)), iv re, .bool (decide (re = 0))] Z Y (by kernel_rfl) (by kernel_rfl) (by kernel_rfl) ?_ ?_ ?_
 ·intro i hi hiq
  match i, hi, hiq with
  | 0, _, h => exact absurd (by simp) h
  | 1, _, _ =>
   intro w Y
   exact OpV.g (ar (Y.get (k := 0) rfl) rfl (Tryz.isAgg30 _) (Tryz.sizeOf30 _))
  | 2, _, _ =>
   intro w Y
   exact OpV.g (al rfl)
  | 3, _, _ =>
   intro w Y
   exact OpV.g (al rfl)
  | 4, _, _ =>
   intro w Y
   exact OpV.g (al rfl)
  | 5, _, _ =>
   rintro kv2 _ ⟨_, rfl, -, rfl⟩
   intro w Y
   exact br Tryz.call17 rfl (jR (Y.ownAt (i := 0) rfl) (Y.arg hlv) (Y.keepb hk0) (by unfold validH; rw [h]))
  | 6, _, _ =>
   intro w Y
   exact OpV.g (al rfl)
  | 7, _, _ =>
   intro w Y
   exact OpV.g (v_eq rfl rfl)
 ·intro i hi
  simp only [List.mem_cons, List.not_mem_nil, or_false] at hi
  subst hi
  ·intro w Y
   exact l0 Tryz.call13 rfl (fW _)
 clear Z Y
 rintro kv2 _ ⟨_, rfl, -, rfl⟩ a w9 Z Y
 replace Z : Fr 43 [(33, _), (34, .agg #[iv x.signer, iv x.holder, iv x.rf, iv x.rt, iv x.carrier, iv x.serial, iv x.sf, iv x.st, sv x.sig]), (35, lv), (36, iv n), (37, iv t), (38, .bool (decide (re = 0))), (39, iv re), (40, .bool (decide (re = 0))), (1, _), (2, _), (3, _), (4, _), (5, _), (6, _), (12, _), (13, _), (14, _), (24, _), (25, _), (26, _), (27, _), (28, _), (29, _), (30, _), (31, _), (32, _)] [] a := Z
 replace Y : St No w0 [_, _] w9 := Y
 refine ab <| aQ (k := 17) 20 [19] (by kernel_rfl) (by kernel_rfl) (by kernel_rfl) ?_
 rcases Bool.eq_false_or_eq_true (decide (re = 0)) with hb3 | hb3
 ·rw [hb3] at Z
  try simp only [qz] at hb3
  refine wly Z ((iA rfl rfl Tryz.underlying4).asb (b' := true) rfl) fun a Z => wlv Z (az rfl rfl) fun a Z => wla Z rfl fun a Z => ab ?_
  refine aZ (by kernel_rfl) ?_
  refine hK3 _ _ ?_
  replace Z : Fr 43 [(12, _)] [] a := Z.pick [12]
  replace Y : St No w0 [] w9 := Y.mask [false, false]
  refine aw ?_
  refine ao Z Tryz.results52 (ah rfl ag) ?_
  exact ⟨by rfl, Y.ext⟩
 rw [hb3] at Z
 try simp only [qz] at hb3
 refine wly Z ((iA rfl rfl Tryz.underlying4).asb (b' := true) rfl) fun a Z => wlv Z (az rfl rfl) fun a Z => wla Z rfl fun a Z => ab ?_
 refine aZ (by kernel_rfl) ?_
 refine hK3 _ _ ?_
 replace Z : Fr 43 [(12, _)] [] a := Z.pick [12]
 replace Y : St No w0 [] w9 := Y.mask [false, false]
 refine aw ?_
 refine ao Z Tryz.results52 (ah rfl ag) ?_
 exact ⟨by rfl, Y.ext⟩
end Go.Proofs.YtmmfieceinmloaaGreatDoor
namespace Go.Proofs.YtmmfieceinmloaaGreatDoor
open Go.RowKit Go.PW
set_option linter.unusedVariables false
set_option linter.unusedSimpArgs false
set_option maxRecDepth 4000
set_option maxHeartbeats 4000000 in
theorem pk (w0 : World) (hk0 : (blk 0 (kOf.map wv) 239).ok w0) :
  Ret Tryz.prog 8 #[] w0 fun v w => v = .bool true ∧ Ext No w0 w := by
 refine aF Tryz.func8 rfl Tryz.ntmps8 (lb rfl) fun a Z => ?_
 replace Z : Fr 150 [] [] a := Z
 replace Y : St No w0 [] w0 := St.init w0
 refine aa fun K1 hK1 => wla Z rfl fun a Z => ab (hK1 _ _ ?_)
 refine aa fun K2 hK2 => aA Z Y (by decide) Tryz.call50 rfl (ir 200 _ (by decide) (by decide) (Y.keepb hk0)) ?_
 clear Z Y
 intro a w1 Z Y
 refine aK Z Y (by decide) (Tryz.zeroValue30 _) (cs := [iv 0, iv 0, iv 0, iv 0, iv 0, iv 0, iv 0, iv 0, .string (⟨#[]⟩)]) rfl ?_
 clear Z Y
 intro a w2 Z Y
 refine ap 0 Z Y rfl rfl rfl (Tryz.sizeOf30 _) rfl (lb rfl) (ds := [iv exW.signer, iv exW.holder, iv exW.rf, iv exW.rt, iv exW.carrier, iv exW.serial, iv exW.sf, iv exW.st, sv exW.sig]) rfl rfl ?_
 clear Z Y
 intro a w3 Z Y
 refine ab (hK2 _ _ ?_)
 refine aa fun K3 hK3 => aA Z Y (by decide) Tryz.call51 rfl (go 500 _ (by decide) (by decide) (Y.keepb hk0)) ?_
 clear Z Y
 intro a w4 Z Y
 refine aG (E := 40) (sz := 7) rfl [[iv exP.frm, iv exP.to, iv exP.rf, iv exP.rt, iv exP.sf, iv exP.st, sv exP.sig]] (by kernel_rfl) (by simp) rfl (by decide) (by decide) Z Y ?_
 clear Z Y
 intro a w5 Z Y
 refine wla Z rfl fun a Z => ab (hK3 _ _ ?_)
 refine aa fun K4 hK4 => wlv Z (ar (Y.get (k := 1) rfl) rfl (Tryz.isAgg30 _) (Tryz.sizeOf30 _)) fun a Z => aK Z Y (by decide) (Tryz.zeroValue30 _) (cs := [iv 0, iv 0, iv 0, iv 0, iv 0, iv 0, iv 0, iv 0, .string (⟨#[]⟩)]) rfl ?_
 clear Z Y
 intro a w6 Z Y
 refine ap 0 Z Y rfl rfl rfl (Tryz.sizeOf30 _) rfl (lb rfl) (ds := [iv exW.signer, iv exW.holder, iv exW.rf, iv exW.rt, iv exW.carrier, iv exW.serial, iv exW.sf, iv exW.st, sv exW.sig]) rfl rfl ?_
 clear Z Y
 intro a w7 Z Y
 refine ab (hK4 _ _ ?_)
 refine aa fun K5 hK5 => wlv Z (ac (v := .pointer (some ⟨w5.heap.size, 4, none⟩)) rfl (by kernel_rfl)) fun a Z => ap 0 Z Y rfl rfl rfl (Tryz.sizeOf3 _) rfl (lb rfl) (ds := [iv exW.signer, iv exW.holder, iv exW.rf, iv exW.rt, iv 4, iv exW.serial, iv exW.sf, iv exW.st, sv exW.sig]) rfl rfl ?_
 clear Z Y
 intro a w8 Z Y
 refine ab (hK5 _ _ ?_)
 refine aa fun K6 hK6 => aA Z Y (by decide) Tryz.call51 rfl (go 500 _ (by decide) (by decide) (Y.keepb hk0)) ?_
 clear Z Y
 intro a w9 Z Y
 refine aG (E := 40) (sz := 7) rfl [[iv exP.frm, iv exP.to, iv exP.rf, iv exP.rt, iv exP.sf, iv exP.st, sv exP.sig]] (by kernel_rfl) (by simp) rfl (by decide) (by decide) Z Y ?_
 clear Z Y
 intro a w10 Z Y
 refine wla Z rfl fun a Z => ab (hK6 _ _ ?_)
 replace Z : Fr 150 [(0, _), (1, _), (2, _), (3, _), (4, _)] [] a := Z.pick [0, 1, 2, 3, 4]
 refine aa fun K7 hK7 => wlm Z rfl fun a Z => wlv Z ((ak (i := 0) (sT := 31) (Y.ownAt (i := 0) rfl) rfl rfl (Tryz.runUnderlying31 _) (Tryz.sizeOf40 _) (by omega) (by simp)).as (v' := slAddr (.slice (some ⟨w9.heap.size, 0, none⟩) 1 1) (0 * 7)) rfl) fun a Z => wlv Z (bj (k := 0 * 7) (j := 4) (Y.ownAt (i := 0) rfl) (i := 0) (by simp) rfl (fun _ _ => by kernel_rfl)) fun a Z => wlv Z (bj (k := 0 * 7 + 4) (j := 1) (Y.ownAt (i := 0) rfl) (i := 0) (by simp) rfl (fun _ _ => by kernel_rfl)) fun a Z => fm (k := 0) (j := 5) 0 Z Y rfl rfl rfl (by simp) (by omega) (Tryz.sizeOf3 _) (by simp [Value.oneCell', yv, wv, sv, Value.cells]) (by decide) (els' := [[iv exP.frm, iv exP.to, iv exP.rf, iv exP.rt, iv exP.sf, iv 600, sv exP.sig]]) rfl rfl ?_
 clear Z Y
 intro a w11 Z Y
 refine ab (hK7 _ _ ?_)
 refine aa fun K8 hK8 => aA Z Y (by decide) Tryz.call21 rfl (dB 3 _) ?_
 clear Z Y
 intro a w12 Z Y
 refine aA Z Y (by decide) Tryz.call31 rfl (fI (by rw [di]; decide) (Y.keepb hk0) (by decide)) ?_
 clear Z Y
 intro a w13 Z Y
 refine wlm Z rfl fun a Z => wlv Z (aD rfl rfl) fun a Z => wlv Z (aD rfl rfl) fun a Z => wla Z rfl fun a Z => wla Z rfl fun a Z => ab (hK8 _ _ ?_)
 replace Z : Fr 150 [(0, _), (1, _), (2, _), (3, _), (4, _), (5, _), (6, _)] [] a := Z.pick [0, 1, 2, 3, 4, 5, 6]
 refine aa fun K9 hK9 => wlv Z (ar (Y.get (k := 3) rfl) rfl (Tryz.isAgg30 _) (Tryz.sizeOf30 _)) fun a Z => wlm Z rfl fun a Z => aA Z Y (by decide) Tryz.call26 rfl (kH (x := exW) (ps := [exP]) (Y.ownAt (i := 2) rfl) kJ) ?_
 clear Z Y
 intro a w14 Z Y
 refine wlm Z rfl fun a Z => wlv Z (aD rfl rfl) fun a Z => wlv Z (aD rfl rfl) fun a Z => wla Z rfl fun a Z => wla Z rfl fun a Z => ab (hK9 _ _ ?_)
 replace Z : Fr 150 [(0, _), (1, _), (2, _), (3, _), (4, _), (5, _), (6, _), (7, _), (8, _)] [] a := Z.pick [0, 1, 2, 3, 4, 5, 6, 7, 8]
 refine aa fun K10 hK10 => wlm Z rfl fun a Z => ch Z Y (by decide) Tryz.call28 rfl (lA (Nat.le_trans (kC kJ).1 (by decide)) (ig kJ)) ?_
 clear Z Y
 intro a w15 x2 hp Z Y
 revert x2 hp Z Y; rintro lv1 hp Z Y
 clear hp
 replace Y : St No w0 [own lv1 40 7 ([exP].map Pxy.cells), own (.slice (some ⟨w9.heap.size, 0, none⟩) 1 1) 40 7 ([[iv exP.frm, iv exP.to, iv exP.rf, iv exP.rt, iv exP.sf, iv 600, sv exP.sig]]), blk w5.heap.size [iv exW.signer, iv exW.holder, iv exW.rf, iv exW.rt, iv 4, iv exW.serial, iv exW.sf, iv exW.st, sv exW.sig] 30, own (.slice (some ⟨w4.heap.size, 0, none⟩) 1 1) 40 7 ([[iv exP.frm, iv exP.to, iv exP.rf, iv exP.rt, iv exP.sf, iv exP.st, sv exP.sig]]), blk w1.heap.size [iv exW.signer, iv exW.holder, iv exW.rf, iv exW.rt, iv exW.carrier, iv exW.serial, iv exW.sf, iv exW.st, sv exW.sig] 30] w15 := Y
 refine wlm Z rfl fun a Z => wlv Z (aD rfl rfl) fun a Z => wlv Z (aD rfl rfl) fun a Z => wlv Z (aD rfl rfl) fun a Z => aK Z Y (by decide) (Tryz.zeroValue30 _) (cs := [iv 0, iv 0, iv 0, iv 0, iv 0, iv 0, iv 0, iv 0, .string (⟨#[]⟩)]) rfl ?_
 clear Z Y
 intro a w16 Z Y
 refine ap 0 Z Y rfl rfl rfl (Tryz.sizeOf30 _) rfl (lb rfl) (ds := [iv exW.signer, iv exW.holder, iv exW.rf, iv exW.rt, iv exW.carrier, iv exW.serial, iv exW.sf, iv exW.st, sv exW.sig]) rfl rfl ?_
 clear Z Y
 intro a w17 Z Y
 refine wla Z rfl fun a Z => wla Z rfl fun a Z => ab (hK10 _ _ ?_)
 replace Z : Fr 150 [(0, _), (1, _), (2, _), (3, _), (4, _), (5, _), (6, _), (8, _), (9, _), (10, _), (11, _)] [] a := Z.pick [0, 1, 2, 3, 4, 5, 6, 8, 9, 10, 11]
 refine ai fun K11 hK11 => aa fun K12 hK12 => wlm Z rfl fun a Z => wlv Z ((v_ne rfl rfl).asb (b' := false) rfl) fun a Z => wlm Z rfl fun a Z => wly Z (al rfl) fun a Z => wly Z ((v_ne rfl rfl).asb (b' := false) rfl) fun a Z => wlv Z (au rfl rfl) fun a Z => wlm Z rfl fun a Z => wly Z (al rfl) fun a Z => wly Z ((v_ne rfl rfl).asb (b' := false) rfl) fun a Z => wlv Z (au rfl rfl) fun a Z => wlm Z rfl fun a Z => wly Z (ac (v := .pointer (some ⟨w1.heap.size, 8, none⟩)) rfl (by kernel_rfl)) fun a Z => wly Z (ae (Y.get (k := 5) rfl) rfl (Tryz.isAgg9 _) rfl) fun a Z => wly Z (bD rfl rfl (Tryz.runUnderlying9 _)) fun a Z => wly Z ((v_ne rfl rfl).asb (b' := false) (by rw [l7]; decide)) fun a Z => wlv Z (au rfl rfl) fun a Z => wlm Z rfl fun a Z => wly Z (al rfl) fun a Z => wly Z ((ak (i := 0) (sT := 31) (Y.ownAt (i := 4) rfl) rfl rfl (Tryz.runUnderlying31 _) (Tryz.sizeOf40 _) (by omega) (by simp)).as (v' := slAddr (.slice (some ⟨w4.heap.size, 0, none⟩) 1 1) (0 * 7)) rfl) fun a Z => wly Z (bj (k := 0 * 7) (j := 6) (Y.ownAt (i := 4) rfl) (i := 0) (by simp) rfl (fun _ _ => by kernel_rfl)) fun a Z => wly Z (aC (u := sv exP.sig) (i := 0) (j := 6) (Y.ownAt (i := 4) rfl) (by simp) rfl (Tryz.isAgg9 _) (by rfl)) fun a Z => wly Z (bD rfl rfl (Tryz.runUnderlying9 _)) fun a Z => wly Z ((v_ne rfl rfl).asb (b' := false) (by rw [lX]; decide)) fun a Z => ?_
 refine wlv Z (au rfl rfl) fun a Z => wlm Z rfl fun a Z => wly Z (al rfl) fun a Z => wly Z (bD rfl rfl (Tryz.runUnderlying9 _)) fun a Z => wly Z ((v_ne rfl rfl).asb (b' := false) (by first | (rw [j0]; decide) | (unfold exC; rw [j0]; decide))) fun a Z => wlv Z (au rfl rfl) fun a Z => ab (hK12 _ _ ?_)
 replace Z : Fr 150 [(0, _), (1, _), (2, _), (3, _), (4, _), (5, _), (9, _), (10, _), (70, _)] [] a := Z.pick [0, 1, 2, 3, 4, 5, 9, 10, 70]
 refine bE Z rfl ?_
 refine ax ?_
 refine hK11 _ _ ?_
 refine aa fun K13 hK13 => wlv Z (ar (Y.get (k := 5) rfl) rfl (Tryz.isAgg30 _) (Tryz.sizeOf30 _)) fun a Z => wlm Z rfl fun a Z => aA Z Y (by decide) Tryz.call52 rfl (eA exW (.slice (some ⟨w4.heap.size, 0, none⟩) 1 1) [exP] 1100 150 0 (-1) _ (Y.ownAt (i := 4) rfl) (Y.keepb hk0) oy) ?_
 clear Z Y
 intro a w18 Z Y
 refine wlm Z rfl fun a Z => wly Z (ar (Y.get (k := 5) rfl) rfl (Tryz.isAgg30 _) (Tryz.sizeOf30 _)) fun a Z => wly Z (al rfl) fun a Z => aJ Z Y (by decide) rfl (by decide) rfl Tryz.call52 rfl (eA exW (.slice (some ⟨w4.heap.size, 0, none⟩) 1 1) [exP] 1199 199 0 (-1) _ (Y.ownAt (i := 4) rfl) (Y.keepb hk0) pC) ?_
 clear Z Y
 intro a w19 Z Y
 refine wlv Z (az rfl rfl) fun a Z => wla Z rfl fun a Z => ab (hK13 _ _ ?_)
 replace Z : Fr 150 [(0, _), (1, _), (2, _), (3, _), (4, _), (5, _), (9, _), (10, _), (12, _)] [] a := Z.pick [0, 1, 2, 3, 4, 5, 9, 10, 12]
 refine aa fun K14 hK14 => wlv Z (ar (Y.get (k := 5) rfl) rfl (Tryz.isAgg30 _) (Tryz.sizeOf30 _)) fun a Z => wlm Z rfl fun a Z => aA Z Y (by decide) Tryz.call52 rfl (eA exW (.slice (some ⟨w4.heap.size, 0, none⟩) 1 1) [exP] 1200 150 3 (-1) _ (Y.ownAt (i := 4) rfl) (Y.keepb hk0) oM) ?_
 clear Z Y
 intro a w20 Z Y
 refine wlm Z rfl fun a Z => wly Z (ar (Y.get (k := 5) rfl) rfl (Tryz.isAgg30 _) (Tryz.sizeOf30 _)) fun a Z => wly Z (al rfl) fun a Z => aJ Z Y (by decide) rfl (by decide) rfl Tryz.call52 rfl (eA exW (.slice (some ⟨w4.heap.size, 0, none⟩) 1 1) [exP] 1100 200 2 (-1) _ (Y.ownAt (i := 4) rfl) (Y.keepb hk0) ph) ?_
 clear Z Y
 intro a w21 Z Y
 refine wlv Z (az rfl rfl) fun a Z => wlm Z rfl fun a Z => wly Z (ar (Y.get (k := 5) rfl) rfl (Tryz.isAgg30 _) (Tryz.sizeOf30 _)) fun a Z => wly Z (al rfl) fun a Z => aJ Z Y (by decide) rfl (by decide) rfl Tryz.call52 rfl (eA exW (.slice (some ⟨w4.heap.size, 0, none⟩) 1 1) [exP] 1200 200 2 (-1) _ (Y.ownAt (i := 4) rfl) (Y.keepb hk0) o9) ?_
 clear Z Y
 intro a w22 Z Y
 refine wlv Z (az rfl rfl) fun a Z => wlm Z rfl fun a Z => wly Z (ar (Y.get (k := 5) rfl) rfl (Tryz.isAgg30 _) (Tryz.sizeOf30 _)) fun a Z => aJ Z Y (by decide) rfl (by decide) rfl Tryz.call52 rfl (eA exW (.slice none 0 0) ([] : List Pxy) 1100 150 4 (-1) _ (eZ _ _) (Y.keepb hk0) pi) ?_
 clear Z Y
 intro a w23 Z Y
 refine wlv Z (az rfl rfl) fun a Z => wlm Z rfl fun a Z => aJ Z Y (by decide) rfl (by decide) rfl Tryz.call50 rfl (ir 501 _ (by decide) (by decide) (Y.keepb hk0)) ?_
 clear Z Y
 intro a w24 Z Y
 refine wly Z (al rfl) fun a Z => aJ Z Y (by decide) rfl (by decide) rfl Tryz.call52 rfl (eA ex501 (.slice (some ⟨w4.heap.size, 0, none⟩) 1 1) [exP] 1100 150 5 (-1) _ (Y.ownAt (i := 4) rfl) (Y.keepb hk0) oW) ?_
 clear Z Y
 intro a w25 Z Y
 refine wlv Z (az rfl rfl) fun a Z => wlm Z rfl fun a Z => wly Z (ar (Y.get (k := 3) rfl) rfl (Tryz.isAgg30 _) (Tryz.sizeOf30 _)) fun a Z => wly Z (al rfl) fun a Z => aJ Z Y (by decide) rfl (by decide) rfl Tryz.call52 rfl (eA exO (.slice (some ⟨w4.heap.size, 0, none⟩) 1 1) [exP] 1100 150 6 (-1) _ (Y.ownAt (i := 4) rfl) (Y.keepb hk0) pG) ?_
 clear Z Y
 intro a w26 Z Y
 refine wlv Z (az rfl rfl) fun a Z => wlm Z rfl fun a Z => wly Z (ar (Y.get (k := 5) rfl) rfl (Tryz.isAgg30 _) (Tryz.sizeOf30 _)) fun a Z => wly Z (al rfl) fun a Z => aJ Z Y (by decide) rfl (by decide) rfl Tryz.call52 rfl (eA exW (.slice (some ⟨w9.heap.size, 0, none⟩) 1 1) [exL] 1100 150 6 (0) _ (Y.ownAt (i := 2) rfl) (Y.keepb hk0) pF) ?_
 clear Z Y
 intro a w27 Z Y
 refine wlv Z (az rfl rfl) fun a Z => wlm Z rfl fun a Z => wly Z (bC (v := .agg #[iv 0, iv 0, iv 0, iv 0, iv 0, iv 0, iv 0, iv 0, .string (⟨#[]⟩)]) rfl (by kernel_rfl)) fun a Z => aJ Z Y (by decide) rfl (by decide) rfl Tryz.call52 rfl (eA exZ (.slice none 0 0) ([] : List Pxy) 0 0 1 (-1) _ (eZ _ _) (Y.keepb hk0) pq) ?_
 clear Z Y
 intro a w28 Z Y
 refine wlv Z (az rfl rfl) fun a Z => wla Z rfl fun a Z => ab (hK14 _ _ ?_)
 replace Z : Fr 150 [(0, _), (1, _), (2, _), (5, _), (9, _), (10, _), (12, _), (13, _)] [] a := Z.pick [0, 1, 2, 5, 9, 10, 12, 13]
 replace Y : St No w0 [_, _, _, _] w28 := Y.mask [true, true, false, false, true, true]
 refine aa fun K15 hK15 => wlm Z rfl fun a Z => wlm Z rfl fun a Z => wly Z (al rfl) fun a Z => wlv Z (az rfl rfl) fun a Z => wlm Z rfl fun a Z => wly Z (ar (Y.get (k := 0) rfl) rfl (Tryz.isAgg30 _) (Tryz.sizeOf30 _)) fun a Z => wly Z (ar (Y.get (k := 3) rfl) rfl (Tryz.isAgg30 _) (Tryz.sizeOf30 _)) fun a Z => wly Z ((nT rfl rfl (by kernel_rfl) (eqWsh exW.signer exW.holder exW.rf exW.rt exW.carrier exW.serial exW.sf exW.st exW.sig exW.signer exW.holder exW.rf exW.rt exW.carrier exW.serial exW.sf exW.st exW.sig _)).asb (b' := true) (by exact decide_eq_true rfl)) fun a Z => wlv Z (az rfl rfl) fun a Z => wlm Z rfl fun a Z => wly Z (al rfl) fun a Z => wly Z (al rfl) fun a Z => aJ Z Y (by decide) rfl (by decide) rfl Tryz.call30 rfl (em (decide_eq_true rfl) (nn lv1 (.slice (some ⟨w4.heap.size, 0, none⟩) 1 1) [exP] [exP] _ (Y.ownAt (i := 1) rfl) (Y.ownAt (i := 2) rfl))) ?_
 clear Z Y
 intro a w29 Z Y
 refine wlv Z (az rfl rfl) fun a Z => wlm Z rfl fun a Z => aJ Z Y (by decide) rfl (by decide) rfl Tryz.call21 rfl (dB 3 _) ?_
 clear Z Y
 intro a w30 Z Y
 refine wly Z (al rfl) fun a Z => aJ Z Y (by decide) rfl (by decide) rfl Tryz.call33 rfl (em oU (iM (keyH 3) 1100 1 exC _ (by rw [di]; decide) (Y.keepb hk0))) ?_
 clear Z Y
 intro a w31 Z Y
 refine wlv Z (az rfl rfl) fun a Z => wlm Z rfl fun a Z => aJ Z Y (by decide) rfl (by decide) rfl Tryz.call21 rfl (dB 4 _) ?_
 clear Z Y
 intro a w32 Z Y
 refine wly Z (al rfl) fun a Z => aJ Z Y (by decide) rfl (by decide) rfl Tryz.call33 rfl (em o6 (iM (keyH 4) 1100 1 exC _ (by rw [di]; decide) (Y.keepb hk0))) ?_
 clear Z Y
 intro a w33 Z Y
 refine wly Z ((bS rfl).asb (b' := true) rfl) fun a Z => wlv Z (az rfl rfl) fun a Z => wlm Z rfl fun a Z => wly Z (ar (Y.get (k := 3) rfl) rfl (Tryz.isAgg30 _) (Tryz.sizeOf30 _)) fun a Z => wly Z (al rfl) fun a Z => aJ Z Y (by decide) rfl (by decide) rfl Tryz.call19 rfl (em gu (e7 (x := exW) (ps := [exP]) (Y.ownAt (i := 2) rfl))) ?_
 clear Z Y
 intro a w34 Z Y
 refine wlv Z (az rfl rfl) fun a Z => wlm Z rfl fun a Z => wly Z (bC (v := .agg #[iv 0, iv 0, iv 0, iv 0, iv 0, iv 0, iv 0, iv 0, .string (⟨#[]⟩)]) rfl (by kernel_rfl)) fun a Z => aJ Z Y (by decide) rfl (by decide) rfl Tryz.call19 rfl (em lj (e7 (x := exZ) (ps := ([] : List Pxy)) (eZ _ _))) ?_
 clear Z Y
 intro a w35 Z Y
 refine wly Z ((bS rfl).asb (b' := true) rfl) fun a Z => wlv Z (az rfl rfl) fun a Z => wla Z rfl fun a Z => ab (hK15 _ _ ?_)
 replace Z : Fr 150 [(0, _)] [] a := Z.pick [0]
 replace Y : St No w0 [] w35 := Y.mask [false, false, false, false]
 refine aw ?_
 refine ao Z Tryz.results8 (ah rfl ag) ?_
 exact ⟨by rfl, Y.ext⟩
end Go.Proofs.YtmmfieceinmloaaGreatDoor
namespace Go.Proofs.YtmmfieceinmloaaGreatDoor
open Go.RowKit Go.PW
set_option linter.unusedVariables false
set_option linter.unusedSimpArgs false
set_option maxRecDepth 4000
section
variable {ks : List By} {x : Wsh} {ps : List Pxy} {n t : Int}
theorem iB : validH ks x ps n t = true ↔ (¬ formB ks x ps ∧ badIdx ps 0 = none ∧ inB t x.sf (x.st - 1) = true ∧ inB n x.rf (x.rt - 1) = true ∧ bt x.signer x.holder ps 0 = none ∧ aU x none ps 0 = none ∧ bG ks x ps 0 = none) := by
 unfold validH
 rw [decide_eq_true_eq]
 constructor
 ·intro h
  by_cases h0 : formB ks x ps
  ·rw [cQ h0] at h; cases h
  ·cases hb : badIdx ps 0 with
   | some i => rw [lW h0 (by rw [fZ, hb]; exact Int.natCast_nonneg i)] at h; cases h
   | none =>
    cases ht : inB t x.sf (x.st - 1) with
    | false => rw [eb h0 hb ht] at h; cases h
    | true =>
     cases hn : inB n x.rf (x.rt - 1) with
     | false => rw [fe h0 hb ht hn] at h; cases h
     | true =>
      have hp : whyP ks x ps n t := ⟨h0, hb, ht, hn⟩
      cases hc : bt x.signer x.holder ps 0 with
      | some i => rw [es hp hc] at h; cases h
      | none =>
       cases hs : aU x none ps 0 with
       | some i => rw [er hp hc hs] at h; cases h
       | none =>
        cases hl : bG ks x ps 0 with
        | some i => rw [cU hp hc hs hl] at h; cases h
        | none => exact ⟨h0, rfl, rfl, rfl, rfl, rfl, rfl⟩
 ·rintro ⟨h0, hb, ht, hn, hc, hs, hl⟩
  rw [e8 ⟨h0, hb, ht, hn⟩ hc hs hl]
theorem jl {n0 t0 : Int} (h : validH ks x ps n0 t0 = true) (n t : Int) : whyH ks x ps n t = if inB t x.sf (x.st - 1) = false then (2, -1) else if inB n x.rf (x.rt - 1) = false then (3, -1) else (0, -1) := by
 obtain ⟨h0, hb, _, _, hc, hs, hl⟩ := iB.1 h
 by_cases ht : inB t x.sf (x.st - 1) = false
 ·rw [if_pos ht, eb h0 hb ht]
 ·rw [if_neg ht]
  by_cases hn : inB n x.rf (x.rt - 1) = false
  ·rw [if_pos hn, fe h0 hb (by simpa using ht) hn]
  ·rw [if_neg hn, e8 ⟨h0, hb, by simpa using ht, by simpa using hn⟩ hc hs hl]
theorem gm {n0 t0 : Int} (h : validH ks x ps n0 t0 = true) (n t : Int) : validH ks x ps n t = (inB t x.sf (x.st - 1) && inB n x.rf (x.rt - 1)) := by
 unfold validH
 rw [jl h]
 cases inB t x.sf (x.st - 1) <;> cases inB n x.rf (x.rt - 1) <;> rfl
theorem gZ : ∀ {l : List Pxy} {k : Nat}, bG ks x l k = none → (∀ p ∈ l, ∃ key, keyAt ks p.frm = some key ∧ p.sig = sealH key p.content) ∧ ∃ key, keyAt ks x.signer = some key ∧ x.sig = sealH key x.content
 | [], k, h => by
  rw [bG] at h
  split at h
  ·rename_i hc
   cases hq : keyAt ks x.signer with
   | none => rw [hq] at hc; cases hc
   | some key => rw [hq] at hc; exact ⟨by simp, key, rfl, by simpa using hc⟩
  ·cases h
 | p :: l, k, h => by
  rw [bG] at h
  split at h
  ·rename_i hc
   obtain ⟨h1, h2⟩ := gZ h
   refine ⟨fun q hq => ?_, h2⟩
   rcases List.mem_cons.1 hq with rfl | hq
   ·cases he : keyAt ks q.frm with
    | none => rw [he] at hc; cases hc
    | some key => rw [he] at hc; exact ⟨key, rfl, by simpa using hc⟩
   ·exact h1 q hq
  ·cases h
theorem iL {h : Int} {key : By} (hk : keyAt keysH h = some key) : 0 ≤ h ∧ h < 10 ∧ key = keyH h := by
 unfold keyAt at hk
 split at hk
 ·cases hk
 ·rename_i h0
  have hl := (List.getElem?_eq_some_iff.1 hk).1
  rw [fD] at hl
  have h1 : h < 10 := by omega
  have := gX (h := h) (by omega) h1
  unfold keyAt at this
  rw [if_neg h0, hk] at this
  exact ⟨by omega, h1, Option.some.inj this⟩
end
def Mk (x : Wsh) (ps : List Pxy) : Prop := validH keysH x ps x.rf x.sf = true
section
variable {x : Wsh} {ps : List Pxy}
theorem Mk.pieces (h : Mk x ps) : ¬ formB keysH x ps ∧ badIdx ps 0 = none ∧ bt x.signer x.holder ps 0 = none ∧ aU x none ps 0 = none ∧ bG keysH x ps 0 = none := by
 obtain ⟨h0, hb, _, _, hc, hs, hl⟩ := iB.1 h
 exact ⟨h0, hb, hc, hs, hl⟩
theorem Mk.ok (h : Mk x ps) : x.ok = true := by
 have := h.pieces.1
 cases hx : x.ok with
 | true => rfl
 | false => exact absurd (.inr (.inr (.inl hx))) this
theorem Mk.len (h : Mk x ps) : ps.length ≤ 4 := Nat.le_of_not_lt fun hl => h.pieces.1 (.inr (.inr (.inr hl)))
theorem Mk.formed (h : Mk x ps) : bI x ps = true := by
 unfold bI
 rw [h.ok, h.pieces.2.1, decide_eq_true h.len]; rfl
theorem Mk.sgn (h : Mk x ps) : 0 ≤ x.signer ∧ x.signer < 10 ∧ x.sig = sealH (keyH x.signer) x.content := by
 obtain ⟨key, h1, h2⟩ := (gZ h.pieces.2.2.2.2).2
 obtain ⟨h3, h4, rfl⟩ := iL h1
 exact ⟨h3, h4, h2⟩
theorem Mk.each (h : Mk x ps) {p : Pxy} (hp : p ∈ ps) : 0 ≤ p.frm ∧ p.frm < 10 ∧ p.sig = sealH (keyH p.frm) p.content ∧ p.ok = true := by
 obtain ⟨key, h1, h2⟩ := (gZ h.pieces.2.2.2.2).1 p hp
 obtain ⟨h3, h4, rfl⟩ := iL h1
 exact ⟨h3, h4, h2, cz h.pieces.2.1 p hp⟩
theorem Mk.same (h : Mk x ps) : x.sealed (keyH x.signer) = x := by
 have := h.sgn.2.2
 unfold Wsh.sealed
 rw [← this]
theorem Mk.xsig (h : Mk x ps) : x.sig.length = 32 := by rw [h.sgn.2.2]; exact cN _ _
theorem Mk.psig (h : Mk x ps) : ∀ p ∈ ps, p.sig.length = 32 := fun p hp => by rw [(h.each hp).2.2.1]; exact cN _ _
theorem Mk.enc (h : Mk x ps) : ∃ s, cT x ps = some s := ⟨_, cL.2 ⟨h.formed, h.xsig, h.psig, rfl⟩⟩
theorem Mk.valid (h : Mk x ps) (n t : Int) : validH keysH x ps n t = (inB t x.sf (x.st - 1) && inB n x.rf (x.rt - 1)) := gm h n t
theorem Mk.here (h : Mk x ps) : validH keysH x ps x.rf x.sf = true := h
end
theorem oY (holder r0 r1 s0 s1 carrier serial : Int) (l : List Cin) : Mk (madeW holder r0 r1 s0 s1 carrier serial l) (madeL holder r0 r1 s0 s1 l) := by
 have hb := Wsh.ok_bnd (jL holder r0 r1 s0 s1 carrier serial l)
 unfold Mk validH
 rw [nd, if_neg, if_neg]
 ·rfl
 ·simp [inB]; omega
 ·simp [inB]; omega
theorem pW {holder r0 r1 s0 s1 carrier serial : Int} {cv : Value} {ys : List Cin} {w0 : World} {x : Wsh} {ps : List Pxy} (hx : madeW holder r0 r1 s0 s1 carrier serial ys = x) (hps : madeL holder r0 r1 s0 s1 ys = ps) (hcv : SlAt w0 cv 5 (ys.map Cin.cells)) (hys : ∀ y ∈ ys, y.wt) (h0 : i64 holder) (h1 : i64 r0) (h2 : i64 r1) (h3 : i64 s0) (h4 : i64 s1) (h5 : i64 carrier) (h6 : i64 serial) :
  Ret Tryz.prog 9 #[.agg #[iv holder, iv r0, iv r1, iv s0, iv s1, iv carrier, iv serial, cv]] w0 (MemR w0 (fun v : Value => .tuple #[.agg #[iv x.signer, iv x.holder, iv x.rf, iv x.rt, iv x.carrier, iv x.serial, iv x.sf, iv x.st, sv x.sig], v]) (fun v => [own v 40 7 (ps.map Pxy.cells)]) (fun _ => True)) := by
 subst hx; subst hps
 exact oH holder r0 r1 s0 s1 carrier serial cv ys w0 hcv hys h0 h1 h2 h3 h4 h5 h6
end Go.Proofs.YtmmfieceinmloaaGreatDoor
namespace Go.Proofs.YtmmfieceinmloaaGreatDoor
open Go.RowKit Go.PW
set_option linter.unusedVariables false
set_option linter.unusedSimpArgs false
set_option maxRecDepth 4000
theorem len2 {α : Type} {l : List α} (h : l.length = 2) : ∃ a0 a1, l = [a0, a1] := by
 match l, h with
 | [a0, a1], _ => exact ⟨_, _, rfl⟩
theorem len5 {α : Type} {l : List α} (h : l.length = 5) : ∃ a0 a1 a2 a3 a4, l = [a0, a1, a2, a3, a4] := by
 match l, h with
 | [a0, a1, a2, a3, a4], _ => exact ⟨_, _, _, _, _, rfl⟩
theorem len8 {α : Type} {l : List α} (h : l.length = 8) : ∃ a0 a1 a2 a3 a4 a5 a6 a7, l = [a0, a1, a2, a3, a4, a5, a6, a7] := by
 match l, h with
 | [a0, a1, a2, a3, a4, a5, a6, a7], _ => exact ⟨_, _, _, _, _, _, _, _, rfl⟩
open Go.ChangeShapes Go.WideShapes Go.ChangeAt
section
variable {H : Type} {enc : TypeId × Value → H} {W : World} {base b0 : Nat} {sp : Nat → Bool} {hd : Bool} {v : Value} {d : DataW H} {ps : List MemPlace} {r : Reach}
theorem gr {n : Int} (h : Go.PW.i64 n) : i64 n := h
theorem mo {t : TypeId} (ht : Tryz.prog.underlying t = some (.slice 108)) {fuel : Nat} {x : DataW H × List MemPlace} (hok : Cell.okWide Tryz.prog W r b0 t v) (hw : Wt Tryz.prog t x.1) (h : DataW.trod enc Tryz.prog W base sp hd fuel t [v] = some x) :
  ∃ ys : List Cin, SlAt W v 5 (ys.map Cin.cells) ∧ ∀ y ∈ ys, y.wt := by
 obtain ⟨els, h1, h2⟩ := jp 5 ht (by kernel_rfl) (by decide) (of_decide_eq_true (by kernel_rfl)) hok hw h
 exact lr (f := Cin.cells) (q := Cin.wt) h1 fun i hi => by
  obtain ⟨n, y, hy, _⟩ := h2 i hi
  obtain ⟨zs, hz, he, hw⟩ := fx 5 Tryz.underlying108 Tryz.underlying3 (by kernel_rfl) hy (h1.1 _ (List.getElem_mem hi))
  obtain ⟨a0, a1, a2, a3, a4, rfl⟩ := len5 hz
  exact ⟨⟨a0, a1, a2, a3, a4⟩, he, hw a0 (by simp), hw a1 (by simp), hw a2 (by simp), hw a3 (by simp), hw a4 (by simp)⟩
theorem jn (hval : Value.okWide Tryz.prog W r b0 25 v) (hw : Wt Tryz.prog 25 d) (hd0 : DataW.Trod enc Tryz.prog W base sp hd 25 v d ps) :
  ∃ (holder r0 r1 s0 s1 carrier serial : Int) (cv : Value) (ys : List Cin), v = .agg #[iv holder, iv r0, iv r1, iv s0, iv s1, iv carrier, iv serial, cv] ∧ SlAt W cv 5 (ys.map Cin.cells) ∧ (∀ y ∈ ys, y.wt) ∧ i64 holder ∧ i64 r0 ∧ i64 r1 ∧ i64 s0 ∧ i64 s1 ∧ i64 carrier ∧ i64 serial := by
 obtain ⟨csA, rfl, hsz, hrow⟩ := fL (by kernel_rfl) hval
 obtain ⟨fuel, hf⟩ := hd0
 have hc : Tryz.prog.cellsOf 25 = 8 := by kernel_rfl
 obtain ⟨a0, a1, a2, a3, a4, a5, a6, a7, hcs⟩ := len8 (l := csA.toList) (by rw [Array.length_toList, hsz, hc])
 obtain rfl : csA = #[a0, a1, a2, a3, a4, a5, a6, a7] := by cases csA; simp at hcs; rw [hcs]
 obtain ⟨n0, z0, h0, w0⟩ := bo 0 _ Tryz.underlying25 hw hf rfl
 obtain ⟨n1, z1, h1, w1⟩ := bo 1 _ Tryz.underlying25 hw hf rfl
 obtain ⟨n2, z2, h2, w2⟩ := bo 2 _ Tryz.underlying25 hw hf rfl
 obtain ⟨n3, z3, h3, w3⟩ := bo 3 _ Tryz.underlying25 hw hf rfl
 obtain ⟨n4, z4, h4, w4⟩ := bo 4 _ Tryz.underlying25 hw hf rfl
 obtain ⟨n5, z5, h5, w5⟩ := bo 5 _ Tryz.underlying25 hw hf rfl
 have c1 : Tryz.prog.cellsOf 3 = 1 := by kernel_rfl
 have c2 : Tryz.prog.cellsOf 22 = 2 := by kernel_rfl
 have c5 : Tryz.prog.cellsOf 23 = 1 := by kernel_rfl
 simp only [Value.cells, c1] at h0 h3 h4
 simp only [Value.cells, c2] at h1 h2
 simp only [Value.cells, c5] at h5
 obtain ⟨m0, e0, g0⟩ := cj Tryz.underlying3 h0
 obtain ⟨m3, e3, g3⟩ := cj Tryz.underlying3 h3
 obtain ⟨m4, e4, g4⟩ := cj Tryz.underlying3 h4
 obtain ⟨q1, hq1, e1, y1⟩ := fx 2 Tryz.underlying22 Tryz.underlying3 (by kernel_rfl) h1 rfl
 obtain ⟨q2, hq2, e2, y2⟩ := fx 2 Tryz.underlying22 Tryz.underlying3 (by kernel_rfl) h2 rfl
 obtain ⟨b0_, b1, rfl⟩ := len2 hq1
 obtain ⟨c0_, c1_, rfl⟩ := len2 hq2
 simp [c1] at e0 e3 e4
 simp at e1 e2
 obtain ⟨rfl, rfl⟩ := e1
 obtain ⟨rfl, rfl⟩ := e2
 subst e0; subst e3; subst e4
 have hok : Cell.okWide Tryz.prog W r b0 23 a7 := ny (i := 7) (ts := [3, 3, 3, 3, 3, 3, 3, 23]) (by kernel_rfl) rfl hrow rfl
 obtain ⟨ys, k1, k2⟩ := mo Tryz.underlying23 hok w5 h5
 exact ⟨m0, b0_, b1, c0_, c1_, m3, m4, a7, ys, rfl, k1, k2, g0, y1 b0_ (by simp), y1 b1 (by simp), y2 c0_ (by simp), y2 c1_ (by simp), g3, g4⟩
end
end Go.Proofs.YtmmfieceinmloaaGreatDoor
namespace Go.PW
open Go.RowKit Go.ChangeShapes Go.WideShapes Go.ChangeAt
set_option linter.unusedVariables false
set_option linter.unusedSimpArgs false
section
variable {H : Type} {enc : TypeId × Value → H}
theorem j8 {a : Assume} {C : Checked} {os : Os} {f : FuncId} {fn : Func} {s : ChangeSpec} {conds : List PathCond} {apart fresh handsOn again : Bool} {X : World → Array Value → Prop}
  (hX : ∀ (w w' : World) (args : Array Value), w.heap = w'.heap → X w args → X w' args)
  (own : ownKnob C.prog.godebug = none) (started : os.Started) (noInit : C.prog.inits.idxOf? f = none) (hfn : C.prog.funcs[f]? = some fn)
  (witness : ∃ (w : World) (tape : Tape) (i : Input), w.os = os ∧ (w.forCall tape i).Shaped C.prog ∧ i.vars = [] ∧ Input.okWide C.prog (w.forCall tape i) .any w.heap.size f i ∧
   ((s.pre enc C.prog fn conds apart (w.forCall tape i).memory i.args ∧ X (w.forCall tape i).memory i.args) ∧ sizedMet enc C.prog fn (OpenSpec.ofChange s) apart (w.forCall tape i).memory i.args) ∧ a.holds C.prog (lone (Frame.enter C.prog f i.args .normal) [] (w.forCall tape i)))
  (contract : ∀ (W : World) (base : Nat) (args : Array Value) (ds gs : List (DataW H)) (before : List MemPlace),
   (∀ (j : Nat) t v, fn.params[j]? = some t → args[j]? = some v → Value.okWide C.prog W .any base t v) →
   DataW.Whole enc C.prog fn.params.toList s.vars apart W args.toList ds gs before →
   conds.all (PathCond.test C.prog ⟨fn.params.toList, ds, s.plain.varTypes C.prog, gs⟩) = true →
   (DataW.weightsEach C.prog (fn.params.toList ++ s.plain.varTypes C.prog) (ds ++ gs)).all (· ≤ reachBytes) = true → X W args → W.ShapedOpen C.prog →
   Calls C.prog f args W fun e W' => ∃ v, e = .returned v ∧ s.post enc C.prog fn apart fresh handsOn again W args v W') :
  ReturnsInHanded a C os f .any (fun w args => (s.pre enc C.prog fn conds apart w args ∧ X w args) ∧ sizedMet enc C.prog fn (OpenSpec.ofChange s) apart w args) (s.post enc C.prog fn apart fresh handsOn again) := by
 refine returnsInHanded_of_calls own started noInit witness ?_
 intro w tape i _ hsh _ hok hpre _
 obtain ⟨_, _, _, fn', hfn', _, _, _, _, hval⟩ := hok
 have e : fn' = fn := Option.some.inj (hfn'.symm.trans hfn)
 subst e
 obtain ⟨⟨⟨ds, gs, before, hw, hc⟩, hx⟩, hz⟩ := hpre
 have hw' := DataW.Whole.of_heap (w' := w.forCall tape i) (by rfl) hw
 refine (contract (w.forCall tape i) w.heap.size i.args ds gs before hval hw' hc (hz.weights hw) (hX _ _ _ (by rfl) hx) hsh).mono fun e W' ⟨v, he, hp⟩ => ?_
 subst he
 exact ChangeSpec.post_blind hp
end
section
variable {H : Type} {enc : TypeId × Value → H} {P : Program} {w : World} {base : Nat} {spare : Nat → Bool} {held : Bool} {fuel : Nat} {t e : TypeId} {cs : List Value} {x : DataW H × List MemPlace}
theorem lm {n : Nat} {ks : List Int} (ht : P.underlying t = some (.array n e)) (he : P.underlying e = some (.int .u32)) (hc : P.cellsOf e = 1) (hct : P.cellsOf t = n) (h : DataW.trod enc P w base spare held fuel t cs = some x) (hx : x.1 = .agg (ks.map fun k => .lit (.int .u32 k))) : cs = ks.map (fun k => .int .u32 k) := by
 obtain ⟨xs, m, rfl, rfl, hlen, hxs, hel⟩ := DataW.trod_array ht h
 simp only [DataW.agg.injEq] at hx
 have hl : ks.length = n := by
  have h := congrArg List.length hx
  rw [List.length_map, List.length_map] at h
  omega
 refine List.ext_getElem (by rw [hlen, hct, List.length_map, hl]) fun i h1 h2 => ?_
 have hi : i < n := by rw [← hct, ← hlen]; exact h1
 have hi2 : i < ks.length := by omega
 have h3 := hel i hi
 rw [hc, Nat.mul_one, List.getElem?_eq_getElem (by omega)] at h3
 obtain ⟨k, e1, e2, _⟩ := DataW.trod_int he h3
 rw [List.drop_eq_getElem_cons h1, List.take_succ_cons] at e1
 injection e1 with e1 _
 have h4 : (xs.map (·.1))[i]? = (ks.map fun k => DataW.lit (H := H) (.int .u32 k))[i]? := by rw [hx]
 rw [List.getElem?_map, List.getElem?_map, List.getElem?_eq_getElem (by omega), List.getElem?_eq_getElem hi2, Option.map_some, Option.map_some, e2] at h4
 simp only [Option.some.injEq, DataW.lit.injEq, Lit.int.injEq, true_and] at h4
 rw [e1, List.getElem_map, h4]
theorem gq (ht : P.underlying t = some .string) (hw : Wt P t x.1) (h : DataW.trod enc P w base spare held fuel t cs = some x) : ∃ s : List UInt8, cs = [sv s] ∧ s.length ≤ 140737488355328 := by
 obtain ⟨s', hcs, hx, hs⟩ := DataW.trod_string ht h
 subst hx
 refine ⟨s'.data.toList, hcs, ?_⟩
 have h1 := hw s'.data.toList.length (by simp [DataW.weights])
 have h2 := reachBytes_lt
 omega
end
end Go.PW
namespace Go.Proofs.YtmmfieceinmloaaGreatDoor
open Go.RowKit Go.PW
set_option linter.unusedVariables false
set_option linter.unusedSimpArgs false
set_option maxRecDepth 4000
open Go.ChangeShapes Go.WideShapes Go.ChangeAt Go.RowKit Go.PW
theorem ownD : ownKnob Tryz.prog.godebug = none := by kernel_rfl
theorem cS : laidOutB Tryz.prog = true := by kernel_rfl
def laid1 : List (String × DataW Unit) := [("dialtone/digest.round", Rows.laid_dialtone_digest_round)]
theorem gRound : Tryz.prog.globalNamed "dialtone/digest.round" = some 0 := by kernel_rfl
theorem tRound : (Tryz.prog.globals[0]?).map (·.type) = some 239 := by kernel_rfl
theorem oS : (Rows.laid_dialtone_digest_round : DataW Unit) = .agg ((kOf.map fun k => (k.toNat : Int)).map fun k => .lit (.int .u32 k)) := by kernel_rfl
theorem nm (os : Os) (args : Array Value) : laidMetH Tryz.prog laid1 ((World.doorLaid Tryz.prog 4000 os).forCall (fun _ _ => 0) ⟨#[], args, []⟩).memory :=
 laidMetH_of_parts3 (fuel := 8) (laidMet_of_run' 8 (by kernel_rfl) (by kernel_rfl)) (by kernel_rfl) (by kernel_rfl)
theorem kB (os : Os) (args : Array Value) : ((World.doorLaid Tryz.prog 4000 os).forCall (fun _ _ => 0) ⟨#[], args, []⟩).Shaped Tryz.prog := World.shaped_of_RefB (by kernel_rfl) (by kernel_rfl)
theorem qb {W : World} (h : laidMetH Tryz.prog laid1 W) (hs : W.ShapedOpen Tryz.prog) : (blk 0 (kOf.map wv) 239).ok W := by
 rw [MakeChecks.laidMetH_plain _ _ _ (by kernel_rfl)] at h
 obtain ⟨ps, ⟨g0, t0, cs0, f0, p0, q0, hg0, ht0, hv0, hd0, _, _⟩, _, _⟩ := h
 obtain rfl := Option.some.inj (gRound.symm.trans hg0)
 obtain rfl := Option.some.inj (tRound.symm.trans ht0)
 obtain ⟨cs, hcs, _, _⟩ := hs.1 0 (List.replicate 64 (.int .u32 0)).toArray 239 (of_decide_eq_true (by kernel_rfl)) (by kernel_rfl)
 have e : cs0 = cs := by
  have := hv0
  simp only [World.var?, gRound, Option.bind_some, hcs, Option.some.injEq] at this
  exact this.symm
 subst e
 have hw := lm (ks := kOf.map fun k => (k.toNat : Int)) Tryz.underlying239 Tryz.underlying191 (by kernel_rfl) (by kernel_rfl) hd0 oS
 have hl : cs0 = (kOf.map wv).toArray := by
  apply Array.toList_inj.1
  rw [hw, List.map_map]; rfl
 show W.heap[0]? = some (.cells (kOf.map wv).toArray 239)
 rw [← hl]; exact hcs
end Go.Proofs.YtmmfieceinmloaaGreatDoor
