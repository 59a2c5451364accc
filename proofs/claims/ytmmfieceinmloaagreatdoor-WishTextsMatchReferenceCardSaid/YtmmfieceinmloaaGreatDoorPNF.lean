/- Texts joined: LawN. -/
import Derived.Test.YtmmfieceinmloaaGreatDoorPNE
namespace Go.Proofs.YtmmfieceinmloaaGreatDoor
open Go.RowKit Go.PW
set_option linter.unusedVariables false
set_option linter.unusedSimpArgs false
set_option maxRecDepth 4000
theorem pick_x {a n c : Int} {w0 : World} (h : pickI a n = c) (ha : i64 a) (hn : 0 < n ∧ n ≤ 9223372036854775807) : Ret Tryz.prog 11 #[iv a, iv n] w0 fun v w => v = iv c ∧ Ext No w0 w := by
 subst h; exact pickL_ok a n w0 ha hn
theorem encode_x {x : Wsh} {lv : Value} {ps : List Pxy} {t : By} {e : Int} {w0 : World} (h : encT x ps = (t, e)) (hlv : SlAt w0 lv 7 (ps.map Pxy.cells)) : Ret Tryz.prog 26 #[.agg #[iv x.signer, iv x.holder, iv x.rf, iv x.rt, iv x.carrier, iv x.serial, iv x.sf, iv x.st, sv x.sig], lv] w0 fun v w => v = .tuple #[sv t, iv e] ∧ Ext No w0 w := by
 refine (encode_ok x lv ps w0 hlv).mono fun v w ⟨h1, h2⟩ => ⟨h1.trans ?_, h2⟩
 unfold encT at h
 cases hq : encodeH x ps with
 | none => rw [hq] at h; cases h; rfl
 | some z => rw [hq] at h; cases h; rfl
theorem account_x {key : By} {n d e : Int} {t : By} {w0 : World} (h : (if accOk key n d = true then (accH key n d, (0 : Int)) else ([], 150)) = (t, e)) (hkl : key.length ≤ 40000000) (hk0 : (blk 0 (kOf.map wv) 239).ok w0) : Ret Tryz.prog 31 #[sv key, iv n, iv d] w0 fun v w => v = .tuple #[sv t, iv e] ∧ Ext No w0 w := by
 have := account_ok key n d w0 hkl hk0
 split at h
 ·rename_i hc; rw [if_pos hc] at this; cases h; exact this
 ·rename_i hc; rw [if_neg hc] at this; cases h; exact this
theorem rdecode_yes {s : By} {x : Wsh} {ps : List Pxy} {w0 : World} (hsl : s.length ≤ 1000000) (h : decodeH s = some (x, ps)) : Ret Tryz.prog 29 #[sv s] w0 (MemR w0 (fun lv : Value => .tuple #[.agg #[iv x.signer, iv x.holder, iv x.rf, iv x.rt, iv x.carrier, iv x.serial, iv x.sf, iv x.st, sv x.sig], lv, iv 0]) (fun lv => [own lv 40 7 (ps.map Pxy.cells)]) (fun _ => True)) := by
 refine (rdecode_run s w0 hsl).mono fun v w h2 => ?_
 rcases h2 with ⟨x2, ps2, h3, h4⟩ | ⟨h3, _⟩
 ·rw [h] at h3; cases h3; exact h4
 ·rw [h] at h3; cases h3
theorem rdecode_no {s : By} {w0 : World} (hsl : s.length ≤ 1000000) (h : decodeH s = none) : Ret Tryz.prog 29 #[sv s] w0 fun v w => v = .tuple #[.agg #[iv 0, iv 0, iv 0, iv 0, iv 0, iv 0, iv 0, iv 0, sv ([] : By)], .slice none 0 0, iv 150] ∧ Ext No w0 w := by
 refine (rdecode_run s w0 hsl).mono fun v w h2 => ?_
 rcases h2 with ⟨x2, ps2, h3, h4⟩ | ⟨_, h3⟩
 ·rw [h] at h3; cases h3
 ·exact h3
theorem encT_len {x : Wsh} {ps : List Pxy} {t : By} {e : Int} (h : encT x ps = (t, e)) : t.length ≤ 11000 := by
 unfold encT at h
 cases hq : encodeH x ps with
 | none => rw [hq] at h; cases h; simp
 | some z =>
  rw [hq] at h; cases h
  obtain ⟨h1, h2, h3, rfl⟩ := encode_some.1 hq
  have h4 := formed_len h1
  have h5 := texts_len h3
  have h6 := wsh_clen x
  have h7 := (putI_len (ps.length : Int)).2
  simp only [List.length_append, Wsh.text]
  omega
set_option maxHeartbeats 4000000 in
theorem texts_walk (holder r0 r1 s0 s1 carrier serial : Int) (cv : Value) (ys : List Cin) (how n at_ : Int) (cb : UInt8) (text key : By) (number epoch : Int) (code : By) (w0 : World) (hcv : SlAt w0 cv 5 (ys.map Cin.cells)) (hys : ∀ y ∈ ys, y.wt) (h0 : i64 holder) (h1 : i64 r0) (h2 : i64 r1) (h3 : i64 s0) (h4 : i64 s1) (h5 : i64 carrier) (h6 : i64 serial) (hk0 : (blk 0 (kOf.map wv) 239).ok w0) (h7 : i64 how) (h8 : i64 n) (h9 : i64 at_) (h12 : i64 number) (h13 : i64 epoch) (hb1 : text.length ≤ 140737488355328) (hb2 : key.length ≤ 140737488355328) (hb3 : code.length ≤ 140737488355328) :
  Ret Tryz.prog 4 #[.agg #[iv holder, iv r0, iv r1, iv s0, iv s1, iv carrier, iv serial, cv], iv how, iv n, iv at_, yv cb, sv text, sv key, iv number, iv epoch, sv code] w0 fun v w => v = .bool true ∧ Ext No w0 w := by
 obtain ⟨x, hx⟩ : ∃ x, madeW holder r0 r1 s0 s1 carrier serial ys = x := ⟨_, rfl⟩
 obtain ⟨ps, hps⟩ : ∃ ps, madeL holder r0 r1 s0 s1 ys = ps := ⟨_, rfl⟩
 have hmk : Mk x ps := by rw [← hx, ← hps]; exact made_mk _ _ _ _ _ _ _ _
 have hxo := hmk.ok
 have hxd := Wsh.ok_bnd hxo
 have hxg := hmk.sgn
 have hpl := hmk.len
 have h7a := h7.1
 have h7b := h7.2
 obtain ⟨bw, hbw⟩ : ∃ bw, bentW x how n = bw := ⟨_, rfl⟩
 have hxs32 := hmk.xsig
 obtain ⟨pn, hpn⟩ : ∃ z, pickI number 100000000 = z := ⟨_, rfl⟩
 obtain ⟨pt, hpt⟩ : ∃ z, pickI epoch 1000001 = z := ⟨_, rfl⟩
 refine ret_of Tryz.func4 rfl Tryz.ntmps4 (lb rfl) fun a hfr => ?_
 replace hfr : Fr 271 [(0, _), (1, _), (2, _), (3, _), (4, _), (5, _), (6, _), (7, _), (8, _), (9, _)] [] a := hfr
 replace hst : St No w0 [] w0 := St.init w0
 refine wc_seq_region fun K1 hK1 => ?_
 refine wl_box hfr hst (by decide) rfl (cs := [iv holder, iv r0, iv r1, iv s0, iv s1, iv carrier, iv serial, cv]) rfl ?_
 clear hfr hst
 intro a w1 hfr hst
 refine wla hfr rfl fun a hfr => ?_
 refine wl_nil (hK1 _ _ ?_)
 refine wc_seq_region fun K2 hK2 => ?_
 refine wl_callp hfr hst (by decide) Tryz.call8 rfl (sane_ok _ (hst.keepb hk0)) ?_
 clear hfr hst
 intro a w2 hfr hst
 refine wla hfr rfl fun a hfr => ?_
 refine wl_nil (hK2 _ _ ?_)
 refine wc_seq_k fun K3 hK3 => ?_
 refine wc_seq_region fun K4 hK4 => ?_
 refine wlm hfr rfl fun a hfr => ?_
 refine wlv hfr ((v_not rfl).asb (b' := false) rfl) fun a hfr => ?_
 refine wl_nil (hK4 _ _ ?_)
 refine wc_cond_f hfr rfl ?_
 refine wc_skip ?_
 refine hK3 _ _ ?_
 refine wc_seq_region fun K5 hK5 => ?_
 refine wlv hfr (v_load_all (hst.get (k := 0) rfl) rfl (Tryz.isAgg25 _) (Tryz.sizeOf25 _)) fun a hfr => ?_
 refine wl_callm hfr hst (by decide) Tryz.call9 rfl (made_x hx hps (hst.arg hcv) hys h0 h1 h2 h3 h4 h5 h6) ?_
 clear hfr hst
 intro a w3 x2 hp hfr hst
 revert x2 hp hfr hst; rintro pv1 hp hfr hst
 clear hp
 replace hst : St No w0 [own pv1 40 7 (ps.map Pxy.cells), blk w0.heap.size [iv holder, iv r0, iv r1, iv s0, iv s1, iv carrier, iv serial, cv] 25] w3 := hst
 refine wlm hfr rfl fun a hfr => ?_
 refine wlv hfr (v_extract rfl rfl) fun a hfr => ?_
 refine wlv hfr (v_extract rfl rfl) fun a hfr => ?_
 refine wl_alloc hfr hst (by decide) (Tryz.zeroValue30 _) (cs := [iv 0, iv 0, iv 0, iv 0, iv 0, iv 0, iv 0, iv 0, .string (⟨#[]⟩)]) rfl ?_
 clear hfr hst
 intro a w4 hfr hst
 refine wl_store 0 hfr hst rfl rfl rfl (Tryz.sizeOf30 _) rfl (lb rfl) (ds := [iv x.signer, iv x.holder, iv x.rf, iv x.rt, iv x.carrier, iv x.serial, iv x.sf, iv x.st, sv x.sig]) rfl rfl ?_
 clear hfr hst
 intro a w5 hfr hst
 refine wla hfr rfl fun a hfr => ?_
 refine wl_nil (hK5 _ _ ?_)
 replace hfr : Fr 271 [(1, _), (2, _), (3, _), (4, _), (5, _), (6, _), (7, _), (8, _), (9, _), (20, _), (21, _), (22, _), (23, _)] [] a := hfr.pick [1, 2, 3, 4, 5, 6, 7, 8, 9, 20, 21, 22, 23]
 replace hst : St No w0 [_, _] w5 := hst.mask [true, true, false]
 refine wc_seq_region fun K6 hK6 => ?_
 refine wlv hfr (v_load_all (hst.get (k := 0) rfl) rfl (Tryz.isAgg30 _) (Tryz.sizeOf30 _)) fun a hfr => wlm hfr rfl fun a hfr => wlm hfr rfl fun a hfr => ?_
 refine wl_callp hfr hst (by decide) Tryz.call10 rfl (bent_x hbw h7 (by omega) (by omega)) ?_
 clear hfr hst
 intro a w6 hfr hst
 refine wlm hfr rfl fun a hfr => ?_
 refine wlv hfr (v_extract rfl rfl) fun a hfr => ?_
 refine wlv hfr (v_extract rfl rfl) fun a hfr => ?_
 refine wl_alloc hfr hst (by decide) (Tryz.zeroValue30 _) (cs := [iv 0, iv 0, iv 0, iv 0, iv 0, iv 0, iv 0, iv 0, .string (⟨#[]⟩)]) rfl ?_
 clear hfr hst
 intro a w7 hfr hst
 refine wl_store 0 hfr hst rfl rfl rfl (Tryz.sizeOf30 _) rfl (lb rfl) (ds := [iv bw.signer, iv bw.holder, iv bw.rf, iv bw.rt, iv bw.carrier, iv bw.serial, iv bw.sf, iv bw.st, sv bw.sig]) rfl rfl ?_
 clear hfr hst
 intro a w8 hfr hst
 refine wla hfr rfl fun a hfr => ?_
 refine wl_nil (hK6 _ _ ?_)
 replace hfr : Fr 271 [(3, _), (4, _), (5, _), (6, _), (7, _), (8, _), (9, _), (20, _), (21, _), (22, _), (23, _), (24, _)] [] a := hfr.pick [3, 4, 5, 6, 7, 8, 9, 20, 21, 22, 23, 24]
 refine wc_seq_region fun K7 hK7 => ?_
 refine wlv hfr (v_load_all (hst.get (k := 1) rfl) rfl (Tryz.isAgg30 _) (Tryz.sizeOf30 _)) fun a hfr => ?_
 refine wl_alloc hfr hst (by decide) (Tryz.zeroValue30 _) (cs := [iv 0, iv 0, iv 0, iv 0, iv 0, iv 0, iv 0, iv 0, .string (⟨#[]⟩)]) rfl ?_
 clear hfr hst
 intro a w9 hfr hst
 refine wl_store 0 hfr hst rfl rfl rfl (Tryz.sizeOf30 _) rfl (lb rfl) (ds := [iv x.signer, iv x.holder, iv x.rf, iv x.rt, iv x.carrier, iv x.serial, iv x.sf, iv x.st, sv x.sig]) rfl rfl ?_
 clear hfr hst
 intro a w10 hfr hst
 refine wl_nil (hK7 _ _ ?_)
 refine wc_seq_region fun K8 hK8 => ?_
 refine wlv hfr (v_fieldAddr (v := .pointer (some ⟨w3.heap.size, 8, none⟩)) rfl (by kernel_rfl)) fun a hfr => ?_
 refine wlv hfr (v_load_blk1 (hst.get (k := 2) rfl) rfl (Tryz.isAgg9 _) rfl) fun a hfr => ?_
 refine wlv hfr ((v_slice_str (xs := x.sig) (l := 0) (h := 31) rfl rfl rfl Tryz.underlying9 (.inl ⟨rfl, rfl⟩) (.inr rfl) (by omega) (by first | omega | exact Nat.min_le_left _ _)).as (v' := sv (x.sig.take 31)) rfl) fun a hfr => ?_
 refine wlv hfr (v_fieldAddr (v := .pointer (some ⟨w8.heap.size, 8, none⟩)) rfl (by kernel_rfl)) fun a hfr => ?_
 refine wl_store 0 hfr hst rfl rfl rfl (Tryz.sizeOf9 _) rfl (lb rfl) (ds := [iv x.signer, iv x.holder, iv x.rf, iv x.rt, iv x.carrier, iv x.serial, iv x.sf, iv x.st, sv (x.sig.take 31)]) rfl rfl ?_
 clear hfr hst
 intro a w11 hfr hst
 refine wl_nil (hK8 _ _ ?_)
 refine wc_seq_region fun K9 hK9 => ?_
 refine wlm hfr rfl fun a hfr => wlm hfr rfl fun a hfr => ?_
 refine wlv hfr (v_len_str rfl rfl (Tryz.runUnderlying9 _)) fun a hfr => ?_
 refine wlv hfr (v_min2 rfl rfl) fun a hfr => ?_
 refine wlv hfr ((v_slice_str (xs := text) (l := 0) (h := (min text.length 300)) rfl rfl rfl Tryz.underlying9 (.inl ⟨rfl, rfl⟩) (.inr (by rw [show (min (text.length : Int) 300 : Int) = (((min text.length 300) : Nat) : Int) from by omega] <;> rfl)) (by omega) (by first | omega | exact Nat.min_le_left _ _)).as (v' := sv (text.take (min text.length 300))) rfl) fun a hfr => ?_
 refine wl_buildSlice (E := 9) (sz := 1) rfl [[sv (text.take (min text.length 300))]] (by kernel_rfl) (by simp) rfl (by decide) (by decide) hfr hst ?_
 clear hfr hst
 intro a w12 hfr hst
 refine wla hfr rfl fun a hfr => ?_
 refine wl_nil (hK9 _ _ ?_)
 replace hfr : Fr 271 [(3, _), (4, _), (6, _), (7, _), (8, _), (9, _), (20, _), (21, _), (22, _), (23, _), (24, _), (26, _), (27, _)] [] a := hfr.pick [3, 4, 6, 7, 8, 9, 20, 21, 22, 23, 24, 26, 27]
 refine wc_seq_k fun K10 hK10 => ?_
 refine wc_seq_region fun K11 hK11 => ?_
 refine wlv hfr (v_load_all (hst.get (k := 3) rfl) rfl (Tryz.isAgg30 _) (Tryz.sizeOf30 _)) fun a hfr => ?_
 refine wlv hfr (v_load_all (hst.get (k := 2) rfl) rfl (Tryz.isAgg30 _) (Tryz.sizeOf30 _)) fun a hfr => ?_
 refine wlv hfr (v_load_all (hst.get (k := 1) rfl) rfl (Tryz.isAgg30 _) (Tryz.sizeOf30 _)) fun a hfr => ?_
 refine wlv hfr (v_build (v := .agg #[iv 0, iv 0, iv 0, iv 0, iv 0, iv 0, iv 0, iv 0, sv ([] : By)]) rfl (by kernel_rfl)) fun a hfr => ?_
 refine wl_buildSlice (E := 30) (sz := 9) rfl [[iv x.signer, iv x.holder, iv x.rf, iv x.rt, iv x.carrier, iv x.serial, iv x.sf, iv x.st, sv x.sig], [iv bw.signer, iv bw.holder, iv bw.rf, iv bw.rt, iv bw.carrier, iv bw.serial, iv bw.sf, iv bw.st, sv bw.sig], [iv x.signer, iv x.holder, iv x.rf, iv x.rt, iv x.carrier, iv x.serial, iv x.sf, iv x.st, sv (x.sig.take 31)], [iv 0, iv 0, iv 0, iv 0, iv 0, iv 0, iv 0, iv 0, sv ([] : By)]] (by kernel_rfl) (by simp) rfl (by decide) (by decide) hfr hst ?_
 clear hfr hst
 intro a w13 hfr hst
 refine wlv hfr ((v_len_sl (sT := 44) (hst.ownAt (i := 0) rfl) rfl rfl (Tryz.runUnderlying44 _)).asi (m' := 4) (by rfl)) fun a hfr => wlm hfr rfl fun a hfr => ?_
 refine wl_nil (hK11 _ _ ?_)
 replace hfr : Fr 271 [(3, _), (4, _), (6, _), (7, _), (8, _), (9, _), (20, _), (21, _), (23, _), (27, _), (80, _), (81, _), (82, _)] [] a := hfr.pick [3, 4, 6, 7, 8, 9, 20, 21, 23, 27, 80, 81, 82]
 replace hst : St No w0 [_, _, _] w13 := hst.mask [true, true, false, false, false, true]
 refine wc_block ?_
 obtain ⟨zs, hzs⟩ : ∃ zs : List Wsh, zs = [x, bw, { x with sig := x.sig.take 31 }, exZ] := ⟨_, rfl⟩
 have hzl : zs.length = 4 := by rw [hzs]; rfl
 replace hst : St No w0 [own (.slice (some ⟨w12.heap.size, 0, none⟩) 4 4) 30 9 ((zs).map Wsh.cells), own (.slice (some ⟨w11.heap.size, 0, none⟩) 1 1) 9 1 ([[sv (text.take (min text.length 300))]]), own pv1 40 7 (ps.map Pxy.cells)] w13 := by rw [hzs]; exact hst
 obtain ⟨tx0, htx0⟩ : ∃ t, t = (text.take (min text.length 300)) := ⟨_, rfl⟩
 have htl0 : tx0.length ≤ 300 := by rw [htx0, List.length_take]; omega
 replace hst : St No w0 [own (.slice (some ⟨w12.heap.size, 0, none⟩) 4 4) 30 9 ((zs).map Wsh.cells), own (.slice (some ⟨w11.heap.size, 0, none⟩) 1 1) 9 1 (([tx0]).map fun s => [sv s]), own pv1 40 7 (ps.map Pxy.cells)] w13 := by rw [htx0]; exact hst
 refine wc_loop (fun m a w => ∃ (k0 : Nat) (ts : List By) (tv : Value), m = 4 - k0 ∧ (k0 ≤ 4) ∧ (ts.length ≤ 1 + 4 * k0) ∧ (∀ z ∈ ts, z.length ≤ 60000) ∧ Fr 271 [(3, iv at_), (4, yv cb), (6, sv key), (7, iv number), (8, iv epoch), (9, sv code), (21, .bool true), (23, pv1), (80, (.slice (some ⟨w12.heap.size, 0, none⟩) 4 4)), (81, iv 4), (82, iv (k0 : Int)), (27, tv)] [] a ∧ St No w0 [own (.slice (some ⟨w12.heap.size, 0, none⟩) 4 4) 30 9 ((zs).map Wsh.cells), own pv1 40 7 (ps.map Pxy.cells), own tv 9 1 ((ts).map fun s => [sv s])] w) _ ⟨0, [tx0], (.slice (some ⟨w11.heap.size, 0, none⟩) 1 1), rfl, Nat.zero_le _, Nat.le_refl _, (by intro z hz; rw [List.mem_singleton.1 hz]; omega), hfr.pick [3, 4, 6, 7, 8, 9, 21, 23, 80, 81, 82, 27], hst.select [0, 2, 1] (by decide)⟩ ?_
 rintro _ a w14 ⟨k0, ts, tv, rfl, hk0x, htl, htb, hfr, hst⟩
 refine wc_seq_region fun K12 hK12 => ?_
 refine wlv hfr (v_lt rfl rfl) fun a hfr => ?_
 refine wl_nil (hK12 _ _ ?_)
 refine wc_seq_k fun K13 hK13 => ?_
 refine wc_cond hfr rfl (fun hc3 => ?_) (fun hc3 => ?_)
 ·rw [hc3] at hfr
  try simp only [qz] at hc3
  refine wc_skip ?_
  refine hK13 _ _ ?_
  refine wc_seq_k fun K14 hK14 => ?_
  refine wc_block ?_
  refine wc_seq_region fun K15 hK15 => ?_
  refine wlv hfr ((v_indexAddr_sl (i := (k0 : Int)) (sT := 44) (hst.ownAt (i := 0) rfl) rfl rfl (Tryz.runUnderlying44 _) (Tryz.sizeOf30 _) (by omega) (by rw [List.length_map]; omega)).as (v' := slAddr (.slice (some ⟨w12.heap.size, 0, none⟩) 4 4) (k0 * 9)) rfl) fun a hfr => ?_
  refine wlv hfr ((v_load_sl (hst.ownAt (i := 0) rfl) (i := k0) (by rw [List.length_map]; omega) rfl (Tryz.isAgg30 _) (Tryz.sizeOf30 _)).as (v' := .agg #[iv ((zs.getD k0 exZ).signer), iv ((zs.getD k0 exZ).holder), iv ((zs.getD k0 exZ).rf), iv ((zs.getD k0 exZ).rt), iv ((zs.getD k0 exZ).carrier), iv ((zs.getD k0 exZ).serial), iv ((zs.getD k0 exZ).sf), iv ((zs.getD k0 exZ).st), sv ((zs.getD k0 exZ).sig)]) (by rw [el_at exZ]; rfl)) fun a hfr => ?_
  refine wl_alloc hfr hst (by decide) (Tryz.zeroValue30 _) (cs := [iv 0, iv 0, iv 0, iv 0, iv 0, iv 0, iv 0, iv 0, .string (⟨#[]⟩)]) rfl ?_
  clear hfr hst
  intro a w15 hfr hst
  refine wl_store 0 hfr hst rfl rfl rfl (Tryz.sizeOf30 _) rfl (lb rfl) (ds := [iv ((zs.getD k0 exZ).signer), iv ((zs.getD k0 exZ).holder), iv ((zs.getD k0 exZ).rf), iv ((zs.getD k0 exZ).rt), iv ((zs.getD k0 exZ).carrier), iv ((zs.getD k0 exZ).serial), iv ((zs.getD k0 exZ).sf), iv ((zs.getD k0 exZ).st), sv ((zs.getD k0 exZ).sig)]) rfl rfl ?_
  clear hfr hst
  intro a w16 hfr hst
  refine wl_nil (hK15 _ _ ?_)
  obtain ⟨et, ee, hen⟩ : ∃ t e, encT (zs.getD k0 exZ) ps = (t, e) := ⟨_, _, rfl⟩
  have hetl := encT_len hen
  refine wc_seq_region fun K16 hK16 => ?_
  refine wlv hfr (v_load_all (hst.get (k := 0) rfl) rfl (Tryz.isAgg30 _) (Tryz.sizeOf30 _)) fun a hfr => wlm hfr rfl fun a hfr => ?_
  refine wl_callp hfr hst (by decide) Tryz.call26 rfl (encode_x (x := (zs.getD k0 exZ)) (ps := ps) (t := et) (e := ee) hen (hst.ownAt (i := 2) rfl)) ?_
  clear hfr hst
  intro a w17 hfr hst
  refine wlm hfr rfl fun a hfr => ?_
  refine wlv hfr (v_extract rfl rfl) fun a hfr => ?_
  refine wlv hfr (v_extract rfl rfl) fun a hfr => wla hfr rfl fun a hfr => wla hfr rfl fun a hfr => ?_
  refine wl_nil (hK16 _ _ ?_)
  replace hfr : Fr 271 [(3, _), (4, _), (6, _), (7, _), (8, _), (9, _), (21, _), (23, _), (80, _), (81, _), (82, _), (27, _), (29, _), (30, _), (31, _)] [] a := hfr.pick [3, 4, 6, 7, 8, 9, 21, 23, 80, 81, 82, 27, 29, 30, 31]
  refine wc_seq_region fun K17 hK17 => ?_
  refine wlv hfr (v_load_all (hst.get (k := 0) rfl) rfl (Tryz.isAgg30 _) (Tryz.sizeOf30 _)) fun a hfr => wlm hfr rfl fun a hfr => ?_
  refine wl_callp hfr hst (by decide) Tryz.call27 rfl (rencode_x (x := (zs.getD k0 exZ)) (ps := ps) (t := et) (e := ee) hen (hst.ownAt (i := 2) rfl)) ?_
  clear hfr hst
  intro a w18 hfr hst
  refine wlm hfr rfl fun a hfr => ?_
  refine wlv hfr (v_extract rfl rfl) fun a hfr => ?_
  refine wlv hfr (v_extract rfl rfl) fun a hfr => wla hfr rfl fun a hfr => wla hfr rfl fun a hfr => ?_
  refine wl_nil (hK17 _ _ ?_)
  replace hfr : Fr 271 [(3, _), (4, _), (6, _), (7, _), (8, _), (9, _), (21, _), (23, _), (80, _), (81, _), (82, _), (27, _), (30, _), (31, _), (32, _), (33, _)] [] a := hfr.pick [3, 4, 6, 7, 8, 9, 21, 23, 80, 81, 82, 27, 30, 31, 32, 33]
  replace hst : St No w0 [_, _, _] w18 := hst.mask [false, true, true, true]
  refine wc_seq_k fun K18 hK18 => ?_
  refine wc_seq_region fun K19 hK19 => ?_
  refine wlm hfr rfl fun a hfr => wlm hfr rfl fun a hfr => ?_
  refine wlv hfr ((v_sne rfl rfl).asb (b' := false) (by simp)) fun a hfr => wlm hfr rfl fun a hfr => wly hfr (v_move rfl) fun a hfr => wly hfr (v_move rfl) fun a hfr => wly hfr ((v_ne rfl rfl).asb (b' := false) (by simp)) fun a hfr => ?_
  refine wlv hfr (v_pick_f rfl rfl) fun a hfr => ?_
  refine wl_nil (hK19 _ _ ?_)
  replace hfr : Fr 271 [(3, _), (4, _), (6, _), (7, _), (8, _), (9, _), (21, _), (23, _), (80, _), (81, _), (82, _), (27, _), (32, _), (105, _)] [] a := hfr.pick [3, 4, 6, 7, 8, 9, 21, 23, 80, 81, 82, 27, 32, 105]
  refine wc_cond_f hfr rfl ?_
  refine wc_skip ?_
  refine hK18 _ _ ?_
  refine wc_seq_region fun K20 hK20 => ?_
  refine wlm hfr rfl fun a hfr => ?_
  refine wlv hfr (v_len_str rfl rfl (Tryz.runUnderlying9 _)) fun a hfr => ?_
  refine wlv hfr (v_gt rfl rfl) fun a hfr => ?_
  refine wl_nil (hK20 _ _ ?_)
  refine wc_cond hfr rfl (fun hc4 => ?_) (fun hc4 => ?_)
  ·rw [hc4] at hfr
   try simp only [qz] at hc4
   obtain ⟨kk, hkk⟩ : ∃ kk : Nat, pickI at_ (et.length : Int) = (kk : Int) := ⟨(pickI at_ (et.length : Int)).toNat, (Int.toNat_of_nonneg (pickI_lt at_ (by omega)).1).symm⟩
   have hkb : kk < et.length := by have := (pickI_lt at_ (n := (et.length : Int)) (by omega)).2; omega
   refine wc_seq_region fun K21 hK21 => ?_
   refine wlm hfr rfl fun a hfr => wlm hfr rfl fun a hfr => ?_
   refine wlv hfr (v_len_str rfl rfl (Tryz.runUnderlying9 _)) fun a hfr => ?_
   refine wl_callp hfr hst (by decide) Tryz.call11 rfl (pick_x hkk h9 (by omega)) ?_
   clear hfr hst
   intro a w19 hfr hst
   refine wla hfr rfl fun a hfr => ?_
   refine wl_nil (hK21 _ _ ?_)
   replace hfr : Fr 271 [(3, _), (4, _), (6, _), (7, _), (8, _), (9, _), (21, _), (23, _), (80, _), (81, _), (82, _), (27, _), (32, _), (34, _)] [] a := hfr.pick [3, 4, 6, 7, 8, 9, 21, 23, 80, 81, 82, 27, 32, 34]
   refine wc_of_dr (by kernel_rfl) (dr_of_wd (by kernel_rfl) fun w20 hxz => ?_)
   replace hst := hst.grow hxz
   refine wd_sub (k := 0) 22 [0, 21] hfr (by kernel_rfl) (by kernel_rfl) (by kernel_rfl) (by rfl) ?_
   replace hfr : Fr 271 [(3, _), (4, _), (6, _), (7, _), (8, _), (9, _), (21, _), (23, _), (80, _), (81, _), (82, _), (27, _), (32, _), (34, _)] [] a := hfr.pick [3, 4, 6, 7, 8, 9, 21, 23, 80, 81, 82, 27, 32, 34]
   refine wc_phases_q [6, 21] (fun i => match i with | 6 => pm (fun b : Nat => .slice (some ⟨b, 0, none⟩) 1 1) (fun b => [own (.slice (some ⟨b, 0, none⟩) 1 1) 5 1 [[yv cb]]]) (fun _ => True) | 21 => pm (fun b : Nat => .slice (some ⟨b, 0, none⟩) 4 4) (fun b => [own (.slice (some ⟨b, 0, none⟩) 4 4) 9 1 [[sv et], [sv (((et.take kk) ++ ([cb])) ++ (et.drop (kk + 1)))], [sv (et.take kk)], [sv (et ++ (et.take 1))]]]) (fun _ => True) | _ => fun _ _ => False) 22 [[], [], [], [], [2, 3], [], [5], [6], [4, 7], [], [], [10], [9, 11], [8, 12], [], [], [14, 15], [], [], [18], [17, 19], [1, 13, 16, 20]] [tv, sv et, sv et, iv (kk : Int), sv (et.take kk), yv cb, undef, sv ([cb]), sv ((et.take kk) ++ ([cb])), sv et, iv (kk : Int), iv ((kk : Int) + 1), sv (et.drop (kk + 1)), sv (((et.take kk) ++ ([cb])) ++ (et.drop (kk + 1))), sv et, iv (kk : Int), sv (et.take kk), sv et, sv et, sv (et.take 1), sv (et ++ (et.take 1)), undef] hfr hst (by kernel_rfl) (by kernel_rfl) (by kernel_rfl) ?_ ?_ ?_
   ·intro i hi hiq
    match i, hi, hiq with
    | 0, _, _ =>
     intro w hst
     exact OpV.g (v_move rfl)
    | 1, _, _ =>
     intro w hst
     exact OpV.g (v_move rfl)
    | 2, _, _ =>
     intro w hst
     exact OpV.g (v_move rfl)
    | 3, _, _ =>
     intro w hst
     exact OpV.g (v_move rfl)
    | 4, _, _ =>
     intro w hst
     exact OpV.g ((v_slice_str (xs := et) (l := 0) (h := kk) rfl rfl rfl Tryz.underlying9 (.inl ⟨rfl, rfl⟩) (.inr (by rw [show ((kk : Int) : Int) = ((kk : Nat) : Int) from by omega] <;> rfl)) (by omega) (by first | omega | exact Nat.min_le_left _ _)).as (v' := sv (et.take kk)) rfl)
    | 5, _, _ =>
     intro w hst
     exact OpV.g (v_move rfl)
    | 6, _, h => exact absurd (by simp) h
    | 7, _, _ =>
     rintro _ _ ⟨b5, rfl, -, rfl⟩
     intro w hst
     exact OpV.g (v_conv_sls (xs := [cb]) (hst.ownAt (i := 0) rfl) rfl Tryz.underlying62 Tryz.underlying5 Tryz.underlying9)
    | 8, _, _ =>
     intro w hst
     exact OpV.g (v_sadd rfl rfl (by (try simp only [List.length_append, List.length_take, List.length_drop, List.length_cons, List.length_nil]); omega))
    | 9, _, _ =>
     intro w hst
     exact OpV.g (v_move rfl)
    | 10, _, _ =>
     intro w hst
     exact OpV.g (v_move rfl)
    | 11, _, _ =>
     intro w hst
     exact OpV.g (v_add rfl rfl ⟨by omega, by omega⟩)
    | 12, _, _ =>
     intro w hst
     exact OpV.g ((v_slice_str (xs := et) (l := (kk + 1)) (h := et.length) rfl rfl rfl Tryz.underlying9 (.inr (by rw [show ((kk : Int) + 1 : Int) = (((kk + 1) : Nat) : Int) from by omega] <;> rfl)) (.inl ⟨rfl, rfl⟩) (by omega) (Nat.le_refl _)).as (v' := sv (et.drop (kk + 1))) (by rw [List.take_of_length_le (by rw [List.length_drop]; omega)]))
    | 13, _, _ =>
     intro w hst
     exact OpV.g (v_sadd rfl rfl (by (try simp only [List.length_append, List.length_take, List.length_drop, List.length_cons, List.length_nil]); omega))
    | 14, _, _ =>
     intro w hst
     exact OpV.g (v_move rfl)
    | 15, _, _ =>
     intro w hst
     exact OpV.g (v_move rfl)
    | 16, _, _ =>
     intro w hst
     exact OpV.g ((v_slice_str (xs := et) (l := 0) (h := kk) rfl rfl rfl Tryz.underlying9 (.inl ⟨rfl, rfl⟩) (.inr (by rw [show ((kk : Int) : Int) = ((kk : Nat) : Int) from by omega] <;> rfl)) (by omega) (by first | omega | exact Nat.min_le_left _ _)).as (v' := sv (et.take kk)) rfl)
    | 17, _, _ =>
     intro w hst
     exact OpV.g (v_move rfl)
    | 18, _, _ =>
     intro w hst
     exact OpV.g (v_move rfl)
    | 19, _, _ =>
     intro w hst
     exact OpV.g ((v_slice_str (xs := et) (l := 0) (h := 1) rfl rfl rfl Tryz.underlying9 (.inl ⟨rfl, rfl⟩) (.inr rfl) (by omega) (by first | omega | exact Nat.min_le_left _ _)).as (v' := sv (et.take 1)) rfl)
    | 20, _, _ =>
     intro w hst
     exact OpV.g (v_sadd rfl rfl (by (try simp only [List.length_append, List.length_take, List.length_drop, List.length_cons, List.length_nil]); omega))
    | 21, _, h => exact absurd (by simp) h
    | i + 22, h, _ => exact absurd h (by omega)
   ·intro i hi
    simp only [List.mem_cons, List.not_mem_nil, or_false] at hi
    rcases hi with rfl | rfl
    ·intro w hst
     exact g_buildSlice (E := 5) (sz := 1) rfl [[yv cb]] (fun _ => by kernel_rfl) (by simp) rfl (by decide)
    ·intro w hst
     exact g_buildSlice (E := 9) (sz := 1) rfl [[sv et], [sv (((et.take kk) ++ ([cb])) ++ (et.drop (kk + 1)))], [sv (et.take kk)], [sv (et ++ (et.take 1))]] (fun _ => by kernel_rfl) (by simp) rfl (by decide)
   clear hfr hst
   rintro _ _ ⟨b5, rfl, -, rfl⟩ _ _ ⟨b6, rfl, -, rfl⟩ a w21 hfr hst
   replace hfr : Fr 271 [(113, tv), (114, sv et), (115, sv et), (116, iv (kk : Int)), (117, sv (et.take kk)), (118, yv cb), (119, _), (120, sv ([cb])), (121, sv ((et.take kk) ++ ([cb]))), (122, sv et), (123, iv (kk : Int)), (124, iv ((kk : Int) + 1)), (125, sv (et.drop (kk + 1))), (126, sv (((et.take kk) ++ ([cb])) ++ (et.drop (kk + 1)))), (127, sv et), (128, iv (kk : Int)), (129, sv (et.take kk)), (130, sv et), (131, sv et), (132, sv (et.take 1)), (133, sv (et ++ (et.take 1))), (134, _), (3, _), (4, _), (6, _), (7, _), (8, _), (9, _), (21, _), (23, _), (80, _), (81, _), (82, _), (27, _), (32, _), (34, _)] [] a := hfr
   replace hst : St No w0 [_, _, _, _, _] w21 := hst
   refine wl_nil ?_
   refine wd_lin (k := 22) 24 [23] (by kernel_rfl) (by kernel_rfl) (by kernel_rfl) ?_
   refine wl_append (i := 4) (sT := 32) (inf := Tryz.t9) (z := .string (⟨#[]⟩)) (b := 0) (off := 0) (m := 0) (c := 0) rfl rfl rfl (hst.ownAt (i := 1) rfl) (by simp) Tryz.underlying32 rfl rfl rfl rfl (by decide) (by simp [Value.oneCell', yv, wv, sv]) (by have hby : Tryz.t40.bytes = 64 := rfl; have hbs : Tryz.t9.bytes = 16 := rfl; simp only [big, hby, hbs, List.length_append, List.length_map, List.length_cons, List.length_nil]; omega) (by have hby : Tryz.t40.bytes = 64 := rfl; have hbs : Tryz.t9.bytes = 16 := rfl; simp only [big, hby, hbs, List.length_append, List.length_map, List.length_cons, List.length_nil]; omega) (by decide) hfr hst fun a w22 s7 hfr hst _ => ?_
   refine wla hfr rfl fun a hfr => ?_
   refine wl_nil ?_
   refine wd_end (by kernel_rfl) ?_
   refine hK14 _ _ ?_
   replace hfr : Fr 271 [(3, _), (4, _), (6, _), (7, _), (8, _), (9, _), (21, _), (23, _), (80, _), (81, _), (82, _), (27, _)] [] a := hfr.pick [3, 4, 6, 7, 8, 9, 21, 23, 80, 81, 82, 27]
   replace hst : St No w0 [_, _, _] w22 := hst.mask [false, false, true, true, true]
   refine wc_region ?_
   refine wlv hfr (v_add rfl rfl ⟨by omega, by omega⟩) fun a hfr => wlm hfr rfl fun a hfr => ?_
   refine wl_nil ?_
   replace hst : St No w0 [own (.slice (some ⟨w12.heap.size, 0, none⟩) 4 4) 30 9 ((zs).map Wsh.cells), own pv1 40 7 (ps.map Pxy.cells), own s7 9 1 ((ts ++ [et, et.take kk ++ [cb] ++ et.drop (kk + 1), et.take kk, et ++ et.take 1]).map fun s => [sv s])] w22 := by rw [List.map_append]; exact hst
   refine ⟨_, ?_, k0 + 1, ts ++ [et, et.take kk ++ [cb] ++ et.drop (kk + 1), et.take kk, et ++ et.take 1], s7, rfl, (by omega), (by rw [List.length_append]; simp only [List.length_cons, List.length_nil]; omega), (by intro z hz; rcases List.mem_append.1 hz with hz | hz; exact htb z hz; simp only [List.mem_cons, List.not_mem_nil, or_false] at hz; rcases hz with h | h | h | h <;> (rw [h]; (try simp only [List.length_append, List.length_take, List.length_drop, List.length_cons, List.length_nil]); omega)), hfr.pick [3, 4, 6, 7, 8, 9, 21, 23, 80, 81, 82, 27], hst.select [0, 1, 2] (by decide)⟩
   omega
  rw [hc4] at hfr
  try simp only [qz] at hc4
  refine wc_skip ?_
  refine hK14 _ _ ?_
  refine wc_region ?_
  refine wlv hfr (v_add rfl rfl ⟨by omega, by omega⟩) fun a hfr => wlm hfr rfl fun a hfr => ?_
  refine wl_nil ?_
  refine ⟨_, ?_, k0 + 1, ts, tv, rfl, (by omega), (by omega), htb, hfr.pick [3, 4, 6, 7, 8, 9, 21, 23, 80, 81, 82, 27], hst.select [0, 1, 2] (by decide)⟩
  omega
 rw [hc3] at hfr
 try simp only [qz] at hc3
 refine wc_exit ?_
 refine hK10 _ _ ?_
 refine wc_seq_k fun K22 hK22 => ?_
 refine wc_seq_region fun K23 hK23 => ?_
 refine wla hfr rfl fun a hfr => ?_
 refine wl_nil (hK23 _ _ ?_)
 replace hfr : Fr 271 [(3, _), (6, _), (7, _), (8, _), (9, _), (21, _), (27, _), (35, _)] [] a := hfr.pick [3, 6, 7, 8, 9, 21, 27, 35]
 replace hst : St No w0 [_] w14 := hst.mask [false, false, true]
 refine wc_block ?_
 refine wc_loop (fun m a w => ∃ (k1 : Nat), m = ts.length - k1 ∧ (k1 ≤ ts.length) ∧ Fr 271 [(3, iv at_), (6, sv key), (7, iv number), (8, iv epoch), (9, sv code), (21, .bool true), (27, tv), (35, iv (k1 : Int))] [] a ∧ St No w0 [own tv 9 1 ((ts).map fun s => [sv s])] w) _ ⟨0, rfl, Nat.zero_le _, hfr.pick [3, 6, 7, 8, 9, 21, 27, 35], hst.select [0] (by decide)⟩ ?_
 rintro _ a w23 ⟨k1, rfl, hk1, hfr, hst⟩
 refine wc_seq_k fun K24 hK24 => ?_
 refine wc_seq_region fun K25 hK25 => ?_
 refine wlm hfr rfl fun a hfr => wlm hfr rfl fun a hfr => ?_
 refine wlv hfr ((v_len_sl (sT := 32) (hst.ownAt (i := 0) rfl) rfl rfl (Tryz.runUnderlying32 _)).asi (m' := (ts.length : Int)) (by rw [List.length_map])) fun a hfr => ?_
 refine wlv hfr (v_lt rfl rfl) fun a hfr => ?_
 refine wl_nil (hK25 _ _ ?_)
 refine wc_cond hfr rfl (fun hc8 => ?_) (fun hc8 => ?_)
 ·rw [hc8] at hfr
  try simp only [qz] at hc8
  have hzk : (ts.getD k1 []).length ≤ 60000 := htb _ (getD_mem (by omega))
  refine wc_skip ?_
  refine hK24 _ _ ?_
  refine wc_seq_k fun K26 hK26 => ?_
  refine wc_block ?_
  refine wc_seq_region fun K27 hK27 => ?_
  refine wlm hfr rfl fun a hfr => wlm hfr rfl fun a hfr => ?_
  refine wlv hfr ((v_indexAddr_sl (i := (k1 : Int)) (sT := 32) (hst.ownAt (i := 0) rfl) rfl rfl (Tryz.runUnderlying32 _) (Tryz.sizeOf9 _) (by omega) (by rw [List.length_map]; omega)).as (v' := slAddr tv (k1 * 1)) rfl) fun a hfr => ?_
  refine wlv hfr (v_load_sl1 (u := sv (ts.getD k1 [])) (i := k1) (j := 0) (hst.ownAt (i := 0) rfl) (by rw [List.length_map]; omega) rfl (Tryz.isAgg9 _) (by rw [el_at ([] : By)]; rfl)) fun a hfr => ?_
  rcases Bool.eq_false_or_eq_true ((decodeH (ts.getD k1 [])).isSome) with hb9 | hb9
  ·try simp only [qz] at hb9
   obtain ⟨⟨u, up⟩, hdz⟩ := Option.isSome_iff_exists.1 hb9
   refine wl_callm hfr hst (by decide) Tryz.call28 rfl (decode_yes (Nat.le_trans hzk (by decide)) hdz) ?_
   clear hfr hst
   intro a w24 x11 hp hfr hst
   revert x11 hp hfr hst; rintro dv10 hp hfr hst
   clear hp
   replace hst : St No w0 [own dv10 40 7 ((up).map Pxy.cells), own tv 9 1 ((ts).map fun s => [sv s])] w24 := hst
   refine wlm hfr rfl fun a hfr => ?_
   refine wlv hfr (v_extract rfl rfl) fun a hfr => ?_
   refine wlv hfr (v_extract rfl rfl) fun a hfr => ?_
   refine wlv hfr (v_extract rfl rfl) fun a hfr => ?_
   refine wl_alloc hfr hst (by decide) (Tryz.zeroValue30 _) (cs := [iv 0, iv 0, iv 0, iv 0, iv 0, iv 0, iv 0, iv 0, .string (⟨#[]⟩)]) rfl ?_
   clear hfr hst
   intro a w25 hfr hst
   refine wl_store 0 hfr hst rfl rfl rfl (Tryz.sizeOf30 _) rfl (lb rfl) (ds := [iv u.signer, iv u.holder, iv u.rf, iv u.rt, iv u.carrier, iv u.serial, iv u.sf, iv u.st, sv u.sig]) rfl rfl ?_
   clear hfr hst
   intro a w26 hfr hst
   refine wla hfr rfl fun a hfr => wla hfr rfl fun a hfr => ?_
   refine wl_nil (hK27 _ _ ?_)
   replace hfr : Fr 271 [(3, _), (6, _), (7, _), (8, _), (9, _), (21, _), (27, _), (35, _), (36, _), (37, _), (38, _)] [] a := hfr.pick [3, 6, 7, 8, 9, 21, 27, 35, 36, 37, 38]
   refine wc_seq_region fun K28 hK28 => ?_
   refine wlm hfr rfl fun a hfr => wlm hfr rfl fun a hfr => ?_
   refine wlv hfr ((v_indexAddr_sl (i := (k1 : Int)) (sT := 32) (hst.ownAt (i := 2) rfl) rfl rfl (Tryz.runUnderlying32 _) (Tryz.sizeOf9 _) (by omega) (by rw [List.length_map]; omega)).as (v' := slAddr tv (k1 * 1)) rfl) fun a hfr => ?_
   refine wlv hfr (v_load_sl1 (u := sv (ts.getD k1 [])) (i := k1) (j := 0) (hst.ownAt (i := 2) rfl) (by rw [List.length_map]; omega) rfl (Tryz.isAgg9 _) (by rw [el_at ([] : By)]; rfl)) fun a hfr => ?_
   refine wl_callm hfr hst (by decide) Tryz.call29 rfl (rdecode_yes (Nat.le_trans hzk (by decide)) hdz) ?_
   clear hfr hst
   intro a w27 x13 hp hfr hst
   revert x13 hp hfr hst; rintro dv12 hp hfr hst
   clear hp
   replace hst : St No w0 [own dv12 40 7 ((up).map Pxy.cells), blk w24.heap.size [iv u.signer, iv u.holder, iv u.rf, iv u.rt, iv u.carrier, iv u.serial, iv u.sf, iv u.st, sv u.sig] 30, own dv10 40 7 ((up).map Pxy.cells), own tv 9 1 ((ts).map fun s => [sv s])] w27 := hst
   refine wlm hfr rfl fun a hfr => ?_
   refine wlv hfr (v_extract rfl rfl) fun a hfr => ?_
   refine wlv hfr (v_extract rfl rfl) fun a hfr => ?_
   refine wlv hfr (v_extract rfl rfl) fun a hfr => ?_
   refine wl_alloc hfr hst (by decide) (Tryz.zeroValue30 _) (cs := [iv 0, iv 0, iv 0, iv 0, iv 0, iv 0, iv 0, iv 0, .string (⟨#[]⟩)]) rfl ?_
   clear hfr hst
   intro a w28 hfr hst
   refine wl_store 0 hfr hst rfl rfl rfl (Tryz.sizeOf30 _) rfl (lb rfl) (ds := [iv u.signer, iv u.holder, iv u.rf, iv u.rt, iv u.carrier, iv u.serial, iv u.sf, iv u.st, sv u.sig]) rfl rfl ?_
   clear hfr hst
   intro a w29 hfr hst
   refine wla hfr rfl fun a hfr => wla hfr rfl fun a hfr => ?_
   refine wl_nil (hK28 _ _ ?_)
   replace hfr : Fr 271 [(3, _), (6, _), (7, _), (8, _), (9, _), (21, _), (27, _), (35, _), (36, _), (37, _), (38, _), (39, _), (40, _), (41, _)] [] a := hfr.pick [3, 6, 7, 8, 9, 21, 27, 35, 36, 37, 38, 39, 40, 41]
   refine wc_seq_region fun K29 hK29 => ?_
   refine wlv hfr (v_load_all (hst.get (k := 2) rfl) rfl (Tryz.isAgg30 _) (Tryz.sizeOf30 _)) fun a hfr => ?_
   refine wlv hfr (v_load_all (hst.get (k := 0) rfl) rfl (Tryz.isAgg30 _) (Tryz.sizeOf30 _)) fun a hfr => ?_
   refine wlv hfr ((v_ne_agg rfl rfl (by kernel_rfl) (eqWsh u.signer u.holder u.rf u.rt u.carrier u.serial u.sf u.st u.sig u.signer u.holder u.rf u.rt u.carrier u.serial u.sf u.st u.sig _)).asb (b' := false) (by simp)) fun a hfr => wlm hfr rfl fun a hfr => wly hfr (v_move rfl) fun a hfr => wly hfr (v_move rfl) fun a hfr => ?_
   refine wl_callpy hfr hst (by decide) rfl (by decide) rfl Tryz.call30 rfl (ret_bool (decide_eq_true rfl) (samep_ok dv10 dv12 up up _ (hst.ownAt (i := 3) rfl) (hst.ownAt (i := 1) rfl))) ?_
   clear hfr hst
   intro a w30 hfr hst
   refine wly hfr ((v_not rfl).asb (b' := false) rfl) fun a hfr => ?_
   refine wlv hfr (v_pick_f rfl rfl) fun a hfr => wlm hfr rfl fun a hfr => wly hfr (v_move rfl) fun a hfr => wly hfr (v_move rfl) fun a hfr => wly hfr ((v_ne rfl rfl).asb (b' := false) rfl) fun a hfr => ?_
   refine wlv hfr (v_pick_f rfl rfl) fun a hfr => ?_
   refine wl_nil (hK29 _ _ ?_)
   replace hfr : Fr 271 [(3, _), (6, _), (7, _), (8, _), (9, _), (21, _), (27, _), (35, _), (174, _)] [] a := hfr.pick [3, 6, 7, 8, 9, 21, 27, 35, 174]
   replace hst : St No w0 [_] w30 := hst.mask [false, false, false, false, true]
   refine wc_cond_f hfr rfl ?_
   refine wc_skip ?_
   refine hK26 _ _ ?_
   refine wc_region ?_
   refine wlm hfr rfl fun a hfr => ?_
   refine wlv hfr (v_add rfl rfl ⟨by omega, by omega⟩) fun a hfr => wla hfr rfl fun a hfr => ?_
   refine wl_nil ?_
   refine ⟨_, ?_, k1 + 1, rfl, (by omega), hfr.pick [3, 6, 7, 8, 9, 21, 27, 35], hst.select [0] (by decide)⟩
   omega
  try simp only [qz] at hb9
  have hdz : decodeH (ts.getD k1 []) = none := by simpa using hb9
  refine wl_callp hfr hst (by decide) Tryz.call28 rfl (decode_no (Nat.le_trans hzk (by decide)) hdz) ?_
  clear hfr hst
  intro a w31 hfr hst
  refine wlm hfr rfl fun a hfr => ?_
  refine wlv hfr (v_extract rfl rfl) fun a hfr => ?_
  refine wlv hfr (v_extract rfl rfl) fun a hfr => ?_
  refine wlv hfr (v_extract rfl rfl) fun a hfr => ?_
  refine wl_alloc hfr hst (by decide) (Tryz.zeroValue30 _) (cs := [iv 0, iv 0, iv 0, iv 0, iv 0, iv 0, iv 0, iv 0, .string (⟨#[]⟩)]) rfl ?_
  clear hfr hst
  intro a w32 hfr hst
  refine wl_store 0 hfr hst rfl rfl rfl (Tryz.sizeOf30 _) rfl (lb rfl) (ds := [iv 0, iv 0, iv 0, iv 0, iv 0, iv 0, iv 0, iv 0, sv ([] : By)]) rfl rfl ?_
  clear hfr hst
  intro a w33 hfr hst
  refine wla hfr rfl fun a hfr => wla hfr rfl fun a hfr => ?_
  refine wl_nil (hK27 _ _ ?_)
  replace hfr : Fr 271 [(3, _), (6, _), (7, _), (8, _), (9, _), (21, _), (27, _), (35, _), (36, _), (37, _), (38, _)] [] a := hfr.pick [3, 6, 7, 8, 9, 21, 27, 35, 36, 37, 38]
  refine wc_seq_region fun K30 hK30 => ?_
  refine wlm hfr rfl fun a hfr => wlm hfr rfl fun a hfr => ?_
  refine wlv hfr ((v_indexAddr_sl (i := (k1 : Int)) (sT := 32) (hst.ownAt (i := 1) rfl) rfl rfl (Tryz.runUnderlying32 _) (Tryz.sizeOf9 _) (by omega) (by rw [List.length_map]; omega)).as (v' := slAddr tv (k1 * 1)) rfl) fun a hfr => ?_
  refine wlv hfr (v_load_sl1 (u := sv (ts.getD k1 [])) (i := k1) (j := 0) (hst.ownAt (i := 1) rfl) (by rw [List.length_map]; omega) rfl (Tryz.isAgg9 _) (by rw [el_at ([] : By)]; rfl)) fun a hfr => ?_
  refine wl_callp hfr hst (by decide) Tryz.call29 rfl (rdecode_no (Nat.le_trans hzk (by decide)) hdz) ?_
  clear hfr hst
  intro a w34 hfr hst
  refine wlm hfr rfl fun a hfr => ?_
  refine wlv hfr (v_extract rfl rfl) fun a hfr => ?_
  refine wlv hfr (v_extract rfl rfl) fun a hfr => ?_
  refine wlv hfr (v_extract rfl rfl) fun a hfr => ?_
  refine wl_alloc hfr hst (by decide) (Tryz.zeroValue30 _) (cs := [iv 0, iv 0, iv 0, iv 0, iv 0, iv 0, iv 0, iv 0, .string (⟨#[]⟩)]) rfl ?_
  clear hfr hst
  intro a w35 hfr hst
  refine wl_store 0 hfr hst rfl rfl rfl (Tryz.sizeOf30 _) rfl (lb rfl) (ds := [iv 0, iv 0, iv 0, iv 0, iv 0, iv 0, iv 0, iv 0, sv ([] : By)]) rfl rfl ?_
  clear hfr hst
  intro a w36 hfr hst
  refine wla hfr rfl fun a hfr => wla hfr rfl fun a hfr => ?_
  refine wl_nil (hK30 _ _ ?_)
  replace hfr : Fr 271 [(3, _), (6, _), (7, _), (8, _), (9, _), (21, _), (27, _), (35, _), (36, _), (37, _), (38, _), (39, _), (40, _), (41, _)] [] a := hfr.pick [3, 6, 7, 8, 9, 21, 27, 35, 36, 37, 38, 39, 40, 41]
  refine wc_seq_region fun K31 hK31 => ?_
  refine wlv hfr (v_load_all (hst.get (k := 1) rfl) rfl (Tryz.isAgg30 _) (Tryz.sizeOf30 _)) fun a hfr => ?_
  refine wlv hfr (v_load_all (hst.get (k := 0) rfl) rfl (Tryz.isAgg30 _) (Tryz.sizeOf30 _)) fun a hfr => ?_
  refine wlv hfr ((v_ne_agg rfl rfl (by kernel_rfl) (eqWsh 0 0 0 0 0 0 0 0 ([] : By) 0 0 0 0 0 0 0 0 ([] : By) _)).asb (b' := false) (by simp)) fun a hfr => wlm hfr rfl fun a hfr => wly hfr (v_move rfl) fun a hfr => wly hfr (v_move rfl) fun a hfr => ?_
  refine wl_callpy hfr hst (by decide) rfl (by decide) rfl Tryz.call30 rfl (ret_bool (decide_eq_true rfl) (samep_ok (.slice none 0 0) (.slice none 0 0) [] [] _ (slAt_nil _ _) (slAt_nil _ _))) ?_
  clear hfr hst
  intro a w37 hfr hst
  refine wly hfr ((v_not rfl).asb (b' := false) rfl) fun a hfr => ?_
  refine wlv hfr (v_pick_f rfl rfl) fun a hfr => wlm hfr rfl fun a hfr => wly hfr (v_move rfl) fun a hfr => wly hfr (v_move rfl) fun a hfr => wly hfr ((v_ne rfl rfl).asb (b' := false) rfl) fun a hfr => ?_
  refine wlv hfr (v_pick_f rfl rfl) fun a hfr => ?_
  refine wl_nil (hK31 _ _ ?_)
  replace hfr : Fr 271 [(3, _), (6, _), (7, _), (8, _), (9, _), (21, _), (27, _), (35, _), (174, _)] [] a := hfr.pick [3, 6, 7, 8, 9, 21, 27, 35, 174]
  replace hst : St No w0 [_] w37 := hst.mask [false, false, true]
  refine wc_cond_f hfr rfl ?_
  refine wc_skip ?_
  refine hK26 _ _ ?_
  refine wc_region ?_
  refine wlm hfr rfl fun a hfr => ?_
  refine wlv hfr (v_add rfl rfl ⟨by omega, by omega⟩) fun a hfr => wla hfr rfl fun a hfr => ?_
  refine wl_nil ?_
  refine ⟨_, ?_, k1 + 1, rfl, (by omega), hfr.pick [3, 6, 7, 8, 9, 21, 27, 35], hst.select [0] (by decide)⟩
  omega
 rw [hc8] at hfr
 try simp only [qz] at hc8
 refine wc_exit ?_
 refine hK22 _ _ ?_
 refine wc_seq_region fun K32 hK32 => ?_
 refine wlm hfr rfl fun a hfr => wlm hfr rfl fun a hfr => ?_
 refine wlv hfr (v_len_str rfl rfl (Tryz.runUnderlying9 _)) fun a hfr => ?_
 refine wlv hfr (v_min2 rfl rfl) fun a hfr => ?_
 refine wlv hfr ((v_slice_str (xs := key) (l := 0) (h := (min key.length 33)) rfl rfl rfl Tryz.underlying9 (.inl ⟨rfl, rfl⟩) (.inr (by rw [show (min (key.length : Int) 33 : Int) = (((min key.length 33) : Nat) : Int) from by omega] <;> rfl)) (by omega) (by first | omega | exact Nat.min_le_left _ _)).as (v' := sv (key.take (min key.length 33))) rfl) fun a hfr => wla hfr rfl fun a hfr => ?_
 refine wl_nil (hK32 _ _ ?_)
 replace hfr : Fr 271 [(3, _), (7, _), (8, _), (9, _), (21, _), (6, _)] [] a := hfr.pick [3, 7, 8, 9, 21, 6]
 refine wc_seq_region fun K33 hK33 => ?_
 refine wlm hfr rfl fun a hfr => wlm hfr rfl fun a hfr => ?_
 refine wlv hfr (v_len_str rfl rfl (Tryz.runUnderlying9 _)) fun a hfr => ?_
 refine wlv hfr (v_min2 rfl rfl) fun a hfr => ?_
 refine wlv hfr ((v_slice_str (xs := code) (l := 0) (h := (min code.length 17)) rfl rfl rfl Tryz.underlying9 (.inl ⟨rfl, rfl⟩) (.inr (by rw [show (min (code.length : Int) 17 : Int) = (((min code.length 17) : Nat) : Int) from by omega] <;> rfl)) (by omega) (by first | omega | exact Nat.min_le_left _ _)).as (v' := sv (code.take (min code.length 17))) rfl) fun a hfr => wla hfr rfl fun a hfr => ?_
 refine wl_nil (hK33 _ _ ?_)
 refine wc_seq_k fun K34 hK34 => ?_
 refine wc_seq_region fun K35 hK35 => ?_
 refine wlm hfr rfl fun a hfr => wlm hfr rfl fun a hfr => ?_
 refine wl_callp hfr hst (by decide) Tryz.call21 rfl (key_ok at_ _) ?_
 clear hfr hst
 intro a w38 hfr hst
 refine wl_buildSlice (E := 9) (sz := 1) rfl [[sv (key.take (min key.length 33))], [sv (keyH at_)]] (by kernel_rfl) (by simp) rfl (by decide) (by decide) hfr hst ?_
 clear hfr hst
 intro a w39 hfr hst
 refine wlv hfr ((v_len_sl (sT := 32) (hst.ownAt (i := 0) rfl) rfl rfl (Tryz.runUnderlying32 _)).asi (m' := 2) (by rfl)) fun a hfr => wlm hfr rfl fun a hfr => ?_
 refine wl_nil (hK35 _ _ ?_)
 replace hfr : Fr 271 [(7, _), (8, _), (21, _), (9, _), (188, _), (189, _), (190, _)] [] a := hfr.pick [7, 8, 21, 9, 188, 189, 190]
 refine wc_block ?_
 obtain ⟨kq, hkq⟩ : ∃ kq : List By, kq = [key.take (min key.length 33), keyH at_] := ⟨_, rfl⟩
 have hkql : kq.length = 2 := by rw [hkq]; rfl
 have hkqb : ∀ z ∈ kq, z.length ≤ 33 := by
  rw [hkq]; intro z hz
  simp only [List.mem_cons, List.not_mem_nil, or_false] at hz
  rcases hz with h | h
  ·rw [h, List.length_take]; omega
  ·rw [h, keyH_len]; omega
 replace hst : St No w0 [own (.slice (some ⟨w38.heap.size, 0, none⟩) 2 2) 9 1 ((kq).map fun s => [sv s]), own tv 9 1 ((ts).map fun s => [sv s])] w39 := by rw [hkq]; exact hst
 have huz14 := hst
 have hfz14_0 : SlAt w39 (.slice (some ⟨w38.heap.size, 0, none⟩) 2 2) 1 ((kq).map fun s => [sv s]) := hst.ownAt (i := 0) rfl
 have hfz14_1 : SlAt w39 tv 1 ((ts).map fun s => [sv s]) := hst.ownAt (i := 1) rfl
 have hk0z14 := hk0
 have hk0 := hst.keepb hk0
 replace hst : St No w39 [] w39 := St.init w39
 refine wc_loop (fun m a w => ∃ (k2 : Nat), m = 2 - k2 ∧ (k2 ≤ 2) ∧ Fr 271 [(7, iv number), (8, iv epoch), (21, .bool true), (9, sv (code.take (min code.length 17))), (188, (.slice (some ⟨w38.heap.size, 0, none⟩) 2 2)), (189, iv 2), (190, iv (k2 : Int))] [] a ∧ St No w39 [] w) _ ⟨0, rfl, Nat.zero_le _, hfr.pick [7, 8, 21, 9, 188, 189, 190], hst.select [] (by decide)⟩ ?_
 rintro _ a w40 ⟨k2, rfl, hk2, hfr, hst⟩
 refine wc_seq_region fun K36 hK36 => ?_
 refine wlv hfr (v_lt rfl rfl) fun a hfr => ?_
 refine wl_nil (hK36 _ _ ?_)
 refine wc_seq_k fun K37 hK37 => ?_
 refine wc_cond hfr rfl (fun hc15 => ?_) (fun hc15 => ?_)
 ·rw [hc15] at hfr
  try simp only [qz] at hc15
  refine wc_skip ?_
  refine hK37 _ _ ?_
  refine wc_seq_k fun K38 hK38 => ?_
  refine wc_block ?_
  refine wc_seq_region fun K39 hK39 => ?_
  refine wlv hfr ((v_indexAddr_sl (i := (k2 : Int)) (sT := 32) (hst.arg hfz14_0) rfl rfl (Tryz.runUnderlying32 _) (Tryz.sizeOf9 _) (by omega) (by rw [List.length_map]; omega)).as (v' := slAddr (.slice (some ⟨w38.heap.size, 0, none⟩) 2 2) (k2 * 1)) rfl) fun a hfr => ?_
  refine wlv hfr (v_load_sl1 (u := sv (kq.getD k2 [])) (i := k2) (j := 0) (hst.arg hfz14_0) (by rw [List.length_map]; omega) rfl (Tryz.isAgg9 _) (by rw [el_at ([] : By)]; rfl)) fun a hfr => wla hfr rfl fun a hfr => ?_
  refine wl_nil (hK39 _ _ ?_)
  refine wc_seq_region fun K40 hK40 => ?_
  refine wlm hfr rfl fun a hfr => wlm hfr rfl fun a hfr => ?_
  refine wlv hfr (v_build (v := .agg #[iv number, iv epoch]) rfl (by kernel_rfl)) fun a hfr => wlm hfr rfl fun a hfr => ?_
  refine wl_callp hfr hst (by decide) Tryz.call11 rfl (pick_x hpn h12 (by omega)) ?_
  clear hfr hst
  intro a w41 hfr hst
  refine wlm hfr rfl fun a hfr => ?_
  refine wl_callp hfr hst (by decide) Tryz.call11 rfl (pick_x hpt h13 (by omega)) ?_
  clear hfr hst
  intro a w42 hfr hst
  refine wlv hfr (v_build (v := .agg #[iv pn, iv pt]) rfl (by kernel_rfl)) fun a hfr => ?_
  refine wl_buildSlice (E := 22) (sz := 2) rfl [[iv number, iv epoch], [iv pn, iv pt]] (by kernel_rfl) (by simp) rfl (by decide) (by decide) hfr hst ?_
  clear hfr hst
  intro a w43 hfr hst
  refine wlv hfr ((v_len_sl (sT := 48) (hst.ownAt (i := 0) rfl) rfl rfl (Tryz.runUnderlying48 _)).asi (m' := 2) (by rfl)) fun a hfr => wlm hfr rfl fun a hfr => ?_
  refine wl_nil (hK40 _ _ ?_)
  replace hfr : Fr 271 [(7, _), (8, _), (21, _), (9, _), (188, _), (189, _), (190, _), (43, _), (202, _), (203, _), (204, _)] [] a := hfr.pick [7, 8, 21, 9, 188, 189, 190, 43, 202, 203, 204]
  refine wc_block ?_
  have hkl : (kq.getD k2 []).length ≤ 40000000 := Nat.le_trans (hkqb _ (getD_mem (by omega))) (by decide)
  obtain ⟨ws, hws⟩ : ∃ ws : List (Int × Int), ws = [(number, epoch), (pn, pt)] := ⟨_, rfl⟩
  have hwl : ws.length = 2 := by rw [hws]; rfl
  replace hst : St No w39 [own (.slice (some ⟨w42.heap.size, 0, none⟩) 2 2) 22 2 ((ws).map fun z : Int × Int => [iv z.1, iv z.2])] w43 := by rw [hws]; exact hst
  refine wc_loop (fun m a w => ∃ (k3 : Nat), m = 2 - k3 ∧ (k3 ≤ 2) ∧ Fr 271 [(7, iv number), (8, iv epoch), (21, .bool true), (9, sv (code.take (min code.length 17))), (188, (.slice (some ⟨w38.heap.size, 0, none⟩) 2 2)), (189, iv 2), (190, iv (k2 : Int)), (43, sv (kq.getD k2 [])), (202, (.slice (some ⟨w42.heap.size, 0, none⟩) 2 2)), (203, iv 2), (204, iv (k3 : Int))] [] a ∧ St No w39 [own (.slice (some ⟨w42.heap.size, 0, none⟩) 2 2) 22 2 ((ws).map fun z : Int × Int => [iv z.1, iv z.2])] w) _ ⟨0, rfl, Nat.zero_le _, hfr.pick [7, 8, 21, 9, 188, 189, 190, 43, 202, 203, 204], hst.select [0] (by decide)⟩ ?_
  rintro _ a w44 ⟨k3, rfl, hk3, hfr, hst⟩
  refine wc_seq_region fun K41 hK41 => ?_
  refine wlv hfr (v_lt rfl rfl) fun a hfr => ?_
  refine wl_nil (hK41 _ _ ?_)
  refine wc_seq_k fun K42 hK42 => ?_
  refine wc_cond hfr rfl (fun hc16 => ?_) (fun hc16 => ?_)
  ·rw [hc16] at hfr
   try simp only [qz] at hc16
   refine wc_skip ?_
   refine hK42 _ _ ?_
   refine wc_seq_k fun K43 hK43 => ?_
   refine wc_block ?_
   refine wc_seq_region fun K44 hK44 => ?_
   refine wlv hfr ((v_indexAddr_sl (i := (k3 : Int)) (sT := 48) (hst.ownAt (i := 0) rfl) rfl rfl (Tryz.runUnderlying48 _) (Tryz.sizeOf22 _) (by omega) (by rw [List.length_map]; omega)).as (v' := slAddr (.slice (some ⟨w42.heap.size, 0, none⟩) 2 2) (k3 * 2)) rfl) fun a hfr => ?_
   refine wlv hfr ((v_load_sl (hst.ownAt (i := 0) rfl) (i := k3) (by rw [List.length_map]; omega) rfl (Tryz.isAgg22 _) (Tryz.sizeOf22 _)).as (v' := .agg #[iv ((ws.getD k3 (0, 0)).1), iv ((ws.getD k3 (0, 0)).2)]) (by rw [el_at ((0 : Int), (0 : Int))])) fun a hfr => ?_
   refine wl_alloc hfr hst (by decide) (Tryz.zeroValue22 _) (cs := [iv 0, iv 0]) rfl ?_
   clear hfr hst
   intro a w45 hfr hst
   refine wl_store 0 hfr hst rfl rfl rfl (Tryz.sizeOf22 _) rfl (lb rfl) (ds := [iv ((ws.getD k3 (0, 0)).1), iv ((ws.getD k3 (0, 0)).2)]) rfl rfl ?_
   clear hfr hst
   intro a w46 hfr hst
   refine wl_nil (hK44 _ _ ?_)
   obtain ⟨at1, ae, hac⟩ : ∃ t e, (if accOk (kq.getD k2 []) (ws.getD k3 (0, 0)).1 (ws.getD k3 (0, 0)).2 = true then (accH (kq.getD k2 []) (ws.getD k3 (0, 0)).1 (ws.getD k3 (0, 0)).2, (0 : Int)) else ([], 150)) = (t, e) := ⟨_, _, rfl⟩
   refine wc_seq_region fun K45 hK45 => ?_
   refine wlm hfr rfl fun a hfr => ?_
   refine wlv hfr (v_indexAddr (v := .pointer (some ⟨w44.heap.size, 0, none⟩)) rfl rfl (by kernel_rfl)) fun a hfr => ?_
   refine wlv hfr (v_load_blk1 (hst.get (k := 0) rfl) rfl (Tryz.isAgg3 _) rfl) fun a hfr => ?_
   refine wlv hfr (v_indexAddr (v := .pointer (some ⟨w44.heap.size, 1, none⟩)) rfl rfl (by kernel_rfl)) fun a hfr => ?_
   refine wlv hfr (v_load_blk1 (hst.get (k := 0) rfl) rfl (Tryz.isAgg3 _) rfl) fun a hfr => ?_
   refine wl_callp hfr hst (by decide) Tryz.call31 rfl (account_x (t := at1) (e := ae) hac hkl (hst.keepb hk0)) ?_
   clear hfr hst
   intro a w47 hfr hst
   refine wlm hfr rfl fun a hfr => ?_
   refine wlv hfr (v_extract rfl rfl) fun a hfr => ?_
   refine wlv hfr (v_extract rfl rfl) fun a hfr => wla hfr rfl fun a hfr => wla hfr rfl fun a hfr => ?_
   refine wl_nil (hK45 _ _ ?_)
   replace hfr : Fr 271 [(7, _), (8, _), (21, _), (9, _), (188, _), (189, _), (190, _), (43, _), (202, _), (203, _), (204, _), (45, _), (46, _), (47, _)] [] a := hfr.pick [7, 8, 21, 9, 188, 189, 190, 43, 202, 203, 204, 45, 46, 47]
   refine wc_seq_region fun K46 hK46 => ?_
   refine wlm hfr rfl fun a hfr => ?_
   refine wlv hfr (v_indexAddr (v := .pointer (some ⟨w44.heap.size, 0, none⟩)) rfl rfl (by kernel_rfl)) fun a hfr => ?_
   refine wlv hfr (v_load_blk1 (hst.get (k := 0) rfl) rfl (Tryz.isAgg3 _) rfl) fun a hfr => ?_
   refine wlv hfr (v_indexAddr (v := .pointer (some ⟨w44.heap.size, 1, none⟩)) rfl rfl (by kernel_rfl)) fun a hfr => ?_
   refine wlv hfr (v_load_blk1 (hst.get (k := 0) rfl) rfl (Tryz.isAgg3 _) rfl) fun a hfr => ?_
   refine wl_callp hfr hst (by decide) Tryz.call32 rfl (raccount_x (t := at1) (e := ae) hac hkl) ?_
   clear hfr hst
   intro a w48 hfr hst
   refine wlm hfr rfl fun a hfr => ?_
   refine wlv hfr (v_extract rfl rfl) fun a hfr => ?_
   refine wlv hfr (v_extract rfl rfl) fun a hfr => wla hfr rfl fun a hfr => wla hfr rfl fun a hfr => ?_
   refine wl_nil (hK46 _ _ ?_)
   replace hfr : Fr 271 [(7, _), (8, _), (21, _), (9, _), (188, _), (189, _), (190, _), (43, _), (202, _), (203, _), (204, _), (45, _), (46, _), (47, _), (48, _), (49, _)] [] a := hfr.pick [7, 8, 21, 9, 188, 189, 190, 43, 202, 203, 204, 45, 46, 47, 48, 49]
   refine wc_seq_k fun K47 hK47 => ?_
   refine wc_of_dr (by kernel_rfl) (dr_of_wd (by kernel_rfl) fun w49 hxz => ?_)
   replace hst := hst.grow hxz
   refine wd_sub (k := 0) 2 [0, 1] hfr (by kernel_rfl) (by kernel_rfl) (by kernel_rfl) (by rfl) ?_
   replace hfr : Fr 271 [(7, _), (8, _), (21, _), (9, _), (188, _), (189, _), (190, _), (43, _), (202, _), (203, _), (204, _), (45, _), (46, _), (47, _), (48, _), (49, _)] [] a := hfr.pick [7, 8, 21, 9, 188, 189, 190, 43, 202, 203, 204, 45, 46, 47, 48, 49]
   refine wc_phases_q [] (fun i => match i with | _ => fun _ _ => False) 2 [[], []] [sv at1, sv at1] hfr hst (by kernel_rfl) (by kernel_rfl) (by kernel_rfl) ?_ ?_ ?_
   ·intro i hi hiq
    match i, hi, hiq with
    | 0, _, _ =>
     intro w hst
     exact OpV.g (v_move rfl)
    | 1, _, _ =>
     intro w hst
     exact OpV.g (v_move rfl)
   ·intro i hi
    exact absurd hi (by simp)
   clear hfr hst
   intro  a w50 hfr hst
   replace hfr : Fr 271 [(226, sv at1), (227, sv at1), (7, _), (8, _), (21, _), (9, _), (188, _), (189, _), (190, _), (43, _), (202, _), (203, _), (204, _), (45, _), (46, _), (47, _), (48, _), (49, _)] [] a := hfr
   refine wl_nil ?_
   refine wd_lin (k := 2) 4 [3] (by kernel_rfl) (by kernel_rfl) (by kernel_rfl) ?_
   refine wlv hfr ((v_sne rfl rfl).asb (b' := false) (by simp)) fun a hfr => wlm hfr rfl fun a hfr => ?_
   refine wl_nil ?_
   refine wd_sub (k := 4) 6 [4, 5] hfr (by kernel_rfl) (by kernel_rfl) (by kernel_rfl) (by rfl) ?_
   replace hfr : Fr 271 [(7, _), (8, _), (21, _), (9, _), (188, _), (189, _), (190, _), (43, _), (202, _), (203, _), (204, _), (45, _), (46, _), (47, _), (48, _), (49, _), (226, _), (227, _), (228, _), (229, _)] [] a := hfr.pick [7, 8, 21, 9, 188, 189, 190, 43, 202, 203, 204, 45, 46, 47, 48, 49, 226, 227, 228, 229]
   refine wc_phases_q [] (fun i => match i with | _ => fun _ _ => False) 2 [[], []] [iv ae, iv ae] hfr hst (by kernel_rfl) (by kernel_rfl) (by kernel_rfl) ?_ ?_ ?_
   ·intro i hi hiq
    match i, hi, hiq with
    | 0, _, _ =>
     intro w hst
     exact OpV.g (v_move rfl)
    | 1, _, _ =>
     intro w hst
     exact OpV.g (v_move rfl)
   ·intro i hi
    exact absurd hi (by simp)
   clear hfr hst
   intro  a w51 hfr hst
   replace hfr : Fr 271 [(230, iv ae), (231, iv ae), (7, _), (8, _), (21, _), (9, _), (188, _), (189, _), (190, _), (43, _), (202, _), (203, _), (204, _), (45, _), (46, _), (47, _), (48, _), (49, _), (226, _), (227, _), (228, _), (229, _)] [] a := hfr
   refine wl_nil ?_
   refine wd_lin (k := 6) 9 [8] (by kernel_rfl) (by kernel_rfl) (by kernel_rfl) ?_
   refine wly hfr ((v_ne rfl rfl).asb (b' := false) (by simp)) fun a hfr => ?_
   refine wlv hfr (v_pick_f rfl rfl) fun a hfr => wlm hfr rfl fun a hfr => ?_
   refine wl_nil ?_
   refine wd_sub (k := 9) 22 [15, 16, 18, 20, 21] hfr (by kernel_rfl) (by kernel_rfl) (by kernel_rfl) (by rfl) ?_
   replace hfr : Fr 271 [(7, _), (8, _), (21, _), (9, _), (188, _), (189, _), (190, _), (43, _), (202, _), (203, _), (204, _), (45, _), (46, _), (47, _), (48, _), (49, _), (226, _), (227, _), (228, _), (229, _), (230, _), (231, _), (232, _), (233, _), (234, _)] [] a := hfr.pick [7, 8, 21, 9, 188, 189, 190, 43, 202, 203, 204, 45, 46, 47, 48, 49, 226, 227, 228, 229, 230, 231, 232, 233, 234]
   refine wc_phases_q [] (fun i => match i with | _ => fun _ _ => False) 13 [[], [], [1], [], [3], [], [0, 2, 4, 5], [], [], [8], [], [10], []] [sv (kq.getD k2 []), .pointer (some ⟨w44.heap.size, 0, none⟩), iv ((ws.getD k3 (0, 0)).1), .pointer (some ⟨w44.heap.size, 1, none⟩), iv ((ws.getD k3 (0, 0)).2), sv (code.take (min code.length 17)), .bool (checksH (kq.getD k2 []) ((ws.getD k3 (0, 0)).1) ((ws.getD k3 (0, 0)).2) (code.take (min code.length 17))), sv (kq.getD k2 []), .pointer (some ⟨w44.heap.size, 0, none⟩), iv ((ws.getD k3 (0, 0)).1), .pointer (some ⟨w44.heap.size, 1, none⟩), iv ((ws.getD k3 (0, 0)).2), sv (code.take (min code.length 17))] hfr hst (by kernel_rfl) (by kernel_rfl) (by kernel_rfl) ?_ ?_ ?_
   ·intro i hi hiq
    match i, hi, hiq with
    | 0, _, _ =>
     intro w hst
     exact OpV.g (v_move rfl)
    | 1, _, _ =>
     intro w hst
     exact OpV.g (v_indexAddr (v := .pointer (some ⟨w44.heap.size, 0, none⟩)) rfl rfl (by kernel_rfl))
    | 2, _, _ =>
     intro w hst
     exact OpV.g (v_load_blk1 (hst.get (k := 0) rfl) rfl (Tryz.isAgg3 _) rfl)
    | 3, _, _ =>
     intro w hst
     exact OpV.g (v_indexAddr (v := .pointer (some ⟨w44.heap.size, 1, none⟩)) rfl rfl (by kernel_rfl))
    | 4, _, _ =>
     intro w hst
     exact OpV.g (v_load_blk1 (hst.get (k := 0) rfl) rfl (Tryz.isAgg3 _) rfl)
    | 5, _, _ =>
     intro w hst
     exact OpV.g (v_move rfl)
    | 6, _, _ =>
     intro w hst
     exact g_callp Tryz.call33 rfl (checks_ok (kq.getD k2 []) ((ws.getD k3 (0, 0)).1) ((ws.getD k3 (0, 0)).2) (code.take (min code.length 17)) _ hkl (hst.keepb hk0))
    | 7, _, _ =>
     intro w hst
     exact OpV.g (v_move rfl)
    | 8, _, _ =>
     intro w hst
     exact OpV.g (v_indexAddr (v := .pointer (some ⟨w44.heap.size, 0, none⟩)) rfl rfl (by kernel_rfl))
    | 9, _, _ =>
     intro w hst
     exact OpV.g (v_load_blk1 (hst.get (k := 0) rfl) rfl (Tryz.isAgg3 _) rfl)
    | 10, _, _ =>
     intro w hst
     exact OpV.g (v_indexAddr (v := .pointer (some ⟨w44.heap.size, 1, none⟩)) rfl rfl (by kernel_rfl))
    | 11, _, _ =>
     intro w hst
     exact OpV.g (v_load_blk1 (hst.get (k := 0) rfl) rfl (Tryz.isAgg3 _) rfl)
    | 12, _, _ =>
     intro w hst
     exact OpV.g (v_move rfl)
    | i + 13, h, _ => exact absurd h (by omega)
   ·intro i hi
    exact absurd hi (by simp)
   clear hfr hst
   intro  a w52 hfr hst
   replace hfr : Fr 271 [(235, sv (kq.getD k2 [])), (236, .pointer (some ⟨w44.heap.size, 0, none⟩)), (237, iv ((ws.getD k3 (0, 0)).1)), (238, .pointer (some ⟨w44.heap.size, 1, none⟩)), (239, iv ((ws.getD k3 (0, 0)).2)), (240, sv (code.take (min code.length 17))), (241, .bool (checksH (kq.getD k2 []) ((ws.getD k3 (0, 0)).1) ((ws.getD k3 (0, 0)).2) (code.take (min code.length 17)))), (242, sv (kq.getD k2 [])), (243, .pointer (some ⟨w44.heap.size, 0, none⟩)), (244, iv ((ws.getD k3 (0, 0)).1)), (245, .pointer (some ⟨w44.heap.size, 1, none⟩)), (246, iv ((ws.getD k3 (0, 0)).2)), (247, sv (code.take (min code.length 17))), (7, _), (8, _), (21, _), (9, _), (188, _), (189, _), (190, _), (43, _), (202, _), (203, _), (204, _), (45, _), (46, _), (47, _), (48, _), (49, _), (226, _), (227, _), (228, _), (229, _), (230, _), (231, _), (232, _), (233, _), (234, _)] [] a := hfr
   refine wl_nil ?_
   refine wd_lin (k := 22) 26 [25] (by kernel_rfl) (by kernel_rfl) (by kernel_rfl) ?_
   refine wl_callpy hfr hst (by decide) rfl (by decide) rfl Tryz.call34 rfl (rchecks_ok (kq.getD k2 []) ((ws.getD k3 (0, 0)).1) ((ws.getD k3 (0, 0)).2) (code.take (min code.length 17)) _ hkl) ?_
   clear hfr hst
   intro a w53 hfr hst
   refine wly hfr ((v_ne_bool rfl rfl Tryz.underlying4).asb (b' := false) (by simp)) fun a hfr => ?_
   refine wlv hfr (v_pick_f rfl rfl) fun a hfr => wlm hfr rfl fun a hfr => ?_
   refine wl_nil ?_
   refine wd_sub (k := 26) 39 [32, 33, 35, 37, 38] hfr (by kernel_rfl) (by kernel_rfl) (by kernel_rfl) (by rfl) ?_
   replace hfr : Fr 271 [(7, _), (8, _), (21, _), (9, _), (188, _), (189, _), (190, _), (43, _), (202, _), (203, _), (204, _), (45, _), (46, _), (47, _), (48, _), (49, _), (226, _), (227, _), (228, _), (229, _), (230, _), (231, _), (232, _), (233, _), (234, _), (235, _), (236, _), (237, _), (238, _), (239, _), (240, _), (241, _), (242, _), (243, _), (244, _), (245, _), (246, _), (247, _), (248, _), (249, _), (250, _), (251, _)] [] a := hfr.pick [7, 8, 21, 9, 188, 189, 190, 43, 202, 203, 204, 45, 46, 47, 48, 49, 226, 227, 228, 229, 230, 231, 232, 233, 234, 235, 236, 237, 238, 239, 240, 241, 242, 243, 244, 245, 246, 247, 248, 249, 250, 251]
   refine wc_phases_q [] (fun i => match i with | _ => fun _ _ => False) 13 [[], [], [1], [], [3], [], [0, 2, 4, 5], [], [], [8], [], [10], []] [sv (kq.getD k2 []), .pointer (some ⟨w44.heap.size, 0, none⟩), iv ((ws.getD k3 (0, 0)).1), .pointer (some ⟨w44.heap.size, 1, none⟩), iv ((ws.getD k3 (0, 0)).2), sv at1, .bool (checksH (kq.getD k2 []) ((ws.getD k3 (0, 0)).1) ((ws.getD k3 (0, 0)).2) at1), sv (kq.getD k2 []), .pointer (some ⟨w44.heap.size, 0, none⟩), iv ((ws.getD k3 (0, 0)).1), .pointer (some ⟨w44.heap.size, 1, none⟩), iv ((ws.getD k3 (0, 0)).2), sv at1] hfr hst (by kernel_rfl) (by kernel_rfl) (by kernel_rfl) ?_ ?_ ?_
   ·intro i hi hiq
    match i, hi, hiq with
    | 0, _, _ =>
     intro w hst
     exact OpV.g (v_move rfl)
    | 1, _, _ =>
     intro w hst
     exact OpV.g (v_indexAddr (v := .pointer (some ⟨w44.heap.size, 0, none⟩)) rfl rfl (by kernel_rfl))
    | 2, _, _ =>
     intro w hst
     exact OpV.g (v_load_blk1 (hst.get (k := 0) rfl) rfl (Tryz.isAgg3 _) rfl)
    | 3, _, _ =>
     intro w hst
     exact OpV.g (v_indexAddr (v := .pointer (some ⟨w44.heap.size, 1, none⟩)) rfl rfl (by kernel_rfl))
    | 4, _, _ =>
     intro w hst
     exact OpV.g (v_load_blk1 (hst.get (k := 0) rfl) rfl (Tryz.isAgg3 _) rfl)
    | 5, _, _ =>
     intro w hst
     exact OpV.g (v_move rfl)
    | 6, _, _ =>
     intro w hst
     exact g_callp Tryz.call33 rfl (checks_ok (kq.getD k2 []) ((ws.getD k3 (0, 0)).1) ((ws.getD k3 (0, 0)).2) at1 _ hkl (hst.keepb hk0))
    | 7, _, _ =>
     intro w hst
     exact OpV.g (v_move rfl)
    | 8, _, _ =>
     intro w hst
     exact OpV.g (v_indexAddr (v := .pointer (some ⟨w44.heap.size, 0, none⟩)) rfl rfl (by kernel_rfl))
    | 9, _, _ =>
     intro w hst
     exact OpV.g (v_load_blk1 (hst.get (k := 0) rfl) rfl (Tryz.isAgg3 _) rfl)
    | 10, _, _ =>
     intro w hst
     exact OpV.g (v_indexAddr (v := .pointer (some ⟨w44.heap.size, 1, none⟩)) rfl rfl (by kernel_rfl))
    | 11, _, _ =>
     intro w hst
     exact OpV.g (v_load_blk1 (hst.get (k := 0) rfl) rfl (Tryz.isAgg3 _) rfl)
    | 12, _, _ =>
     intro w hst
     exact OpV.g (v_move rfl)
    | i + 13, h, _ => exact absurd h (by omega)
   ·intro i hi
    exact absurd hi (by simp)
   clear hfr hst
   intro  a w54 hfr hst
   replace hfr : Fr 271 [(252, sv (kq.getD k2 [])), (253, .pointer (some ⟨w44.heap.size, 0, none⟩)), (254, iv ((ws.getD k3 (0, 0)).1)), (255, .pointer (some ⟨w44.heap.size, 1, none⟩)), (256, iv ((ws.getD k3 (0, 0)).2)), (257, sv at1), (258, .bool (checksH (kq.getD k2 []) ((ws.getD k3 (0, 0)).1) ((ws.getD k3 (0, 0)).2) at1)), (259, sv (kq.getD k2 [])), (260, .pointer (some ⟨w44.heap.size, 0, none⟩)), (261, iv ((ws.getD k3 (0, 0)).1)), (262, .pointer (some ⟨w44.heap.size, 1, none⟩)), (263, iv ((ws.getD k3 (0, 0)).2)), (264, sv at1), (7, _), (8, _), (21, _), (9, _), (188, _), (189, _), (190, _), (43, _), (202, _), (203, _), (204, _), (45, _), (46, _), (47, _), (48, _), (49, _), (226, _), (227, _), (228, _), (229, _), (230, _), (231, _), (232, _), (233, _), (234, _), (235, _), (236, _), (237, _), (238, _), (239, _), (240, _), (241, _), (242, _), (243, _), (244, _), (245, _), (246, _), (247, _), (248, _), (249, _), (250, _), (251, _)] [] a := hfr
   refine wl_nil ?_
   refine wd_lin (k := 39) 42 [41] (by kernel_rfl) (by kernel_rfl) (by kernel_rfl) ?_
   refine wl_callpy hfr hst (by decide) rfl (by decide) rfl Tryz.call34 rfl (rchecks_ok (kq.getD k2 []) ((ws.getD k3 (0, 0)).1) ((ws.getD k3 (0, 0)).2) at1 _ hkl) ?_
   clear hfr hst
   intro a w55 hfr hst
   refine wly hfr ((v_ne_bool rfl rfl Tryz.underlying4).asb (b' := false) (by simp)) fun a hfr => ?_
   refine wlv hfr (v_pick_f rfl rfl) fun a hfr => ?_
   refine wl_nil ?_
   refine wd_end (by kernel_rfl) ?_
   refine hK47 _ _ ?_
   replace hfr : Fr 271 [(7, _), (8, _), (21, _), (9, _), (188, _), (189, _), (190, _), (43, _), (202, _), (203, _), (204, _), (267, _)] [] a := hfr.pick [7, 8, 21, 9, 188, 189, 190, 43, 202, 203, 204, 267]
   replace hst : St No w39 [_] w55 := hst.mask [false, true]
   refine wc_cond_f hfr rfl ?_
   refine wc_skip ?_
   refine hK43 _ _ ?_
   refine wc_region ?_
   refine wlv hfr (v_add rfl rfl ⟨by omega, by omega⟩) fun a hfr => wlm hfr rfl fun a hfr => ?_
   refine wl_nil ?_
   refine ⟨_, ?_, k3 + 1, rfl, (by omega), hfr.pick [7, 8, 21, 9, 188, 189, 190, 43, 202, 203, 204], hst.select [0] (by decide)⟩
   omega
  rw [hc16] at hfr
  try simp only [qz] at hc16
  refine wc_exit ?_
  refine hK38 _ _ ?_
  refine wc_region ?_
  refine wlv hfr (v_add rfl rfl ⟨by omega, by omega⟩) fun a hfr => wlm hfr rfl fun a hfr => ?_
  refine wl_nil ?_
  refine ⟨_, ?_, k2 + 1, rfl, (by omega), hfr.pick [7, 8, 21, 9, 188, 189, 190], hst.select [] (by decide)⟩
  omega
 rw [hc15] at hfr
 try simp only [qz] at hc15
 refine wc_exit ?_
 replace hst : St No w0 [own (.slice (some ⟨w38.heap.size, 0, none⟩) 2 2) 9 1 ((kq).map fun s => [sv s]), own tv 9 1 ((ts).map fun s => [sv s])] w40 := huz14.grow hst.ext
 have hk0 := hk0z14
 refine hK34 _ _ ?_
 refine wc_seq_region fun K48 hK48 => ?_
 refine wlm hfr rfl fun a hfr => wla hfr rfl fun a hfr => ?_
 refine wl_nil (hK48 _ _ ?_)
 replace hfr : Fr 271 [(20, _)] [] a := hfr.pick [20]
 replace hst : St No w0 [_] w40 := hst.mask [false, true]
 refine wc_ret ?_
 refine fin_ret hfr Tryz.results4 (resAre_tmp rfl resAre_nil) ?_
 exact ⟨by rfl, hst.ext⟩
end Go.Proofs.YtmmfieceinmloaaGreatDoor
