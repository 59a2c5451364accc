/- Texts joined: WshS, WshT, WshU, WshV, Open, Laid, Door, RefV, IntR, WshW, RefI, OpenM, RefJ, RefK. -/
import Derived.Test.YtmmfieceinmloaaGreatDoorPND
import Derived.Test.YtmmfieceinmloaaGreatDoorPNA
import Derived.Test.YtmmfieceinmloaaGreatDoorPNC
import Derived.Test.YtmmfieceinmloaaGreatDoorPNB
import Derived.LaidMore
import Derived.OpenShut
import Derived.Stop.Joined
import Derived.SevenTiedAt
import Derived.ChangeMaps5
import Derived.Test.YtmmfieceinmloaaGreatDoorRows
namespace Go.Proofs.YtmmfieceinmloaaGreatDoor
open Go.RowKit Go.PW
set_option linter.unusedVariables false
set_option linter.unusedSimpArgs false
set_option maxRecDepth 4000
theorem v_ifacenn {P : Program} {w : World} {L : List (Nat × Value)} {dst : Option Tmp} {T T' ty : TypeId} {pos : String} {af : Array Edge} {x y : Operand} (hx : ev L x = some .nilIface) (hy : ev L y = some .nilIface) (hr : (binOp .eql T .nilIface .nilIface).run P w = .ok (.bool true) w) (hg : (eqGuard .eql T x y .nilIface .nilIface).run P w = .ok () w) : OpV P ⟨dst, .binOp .eql T x y T', ty, pos, af, none⟩ L w (.bool true) :=
 ⟨rfl, fun N df a h => by
  simp only [execOp, h.eval hx, h.eval hy, Sem.run_bind, hg, hr, Result.andThen_ok]; rfl⟩
theorem dec1_pan {M : Nat → Prop} {w0 : World} (b2 b3 b4 : Nat) (c0 c1 c2 c3 c4 c5 c6 c7 c8 c9 c10 : Value) (ws : World) (hst : St M w0 [blk b2 [c0, c1, c2, c3, c4, c5, c6, c7, c8] 30, blk b3 [c9] 31, blk b4 [c10] 54] ws) :
  CallsDIn Fence.wide 0 Tryz.prog 81 #[.pointer (some ⟨b2, 0, none⟩), .pointer (some ⟨b3, 0, none⟩), .pointer (some ⟨b4, 0, none⟩)] (.panicking [{ v := .iface 142 (.agg #[]), recovered := false }]) ws fun e u' w => u' = (.panicking [{ v := .iface 142 (.agg #[]), recovered := true }]) ∧ ∃ x, e = .returned x ∧ St M w0 [blk b2 [iv 0, iv 0, iv 0, iv 0, iv 0, iv 0, iv 0, iv 0, sv ([] : By)] 30, blk b3 [.slice none 0 0] 31, blk b4 [iv 150] 54] w  := by
 refine dfr_of (args := [.pointer (some ⟨b2, 0, none⟩), .pointer (some ⟨b3, 0, none⟩), .pointer (some ⟨b4, 0, none⟩)]) Tryz.func81 rfl Tryz.ntmps81 (lb rfl) rfl rfl (by decide) (fun _ _ => rfl) (.inr ⟨rfl, rfl⟩) fun a hfr => ?_
 replace hfr : Fr 13 [(6, _), (0, _), (1, _), (2, _)] [] a := hfr
 skip
 refine wc_block ?_
 refine wc_seq_region fun K1 hK1 => ?_
 refine wlv hfr (v_ifacenil rfl rfl (by kernel_rfl) (by kernel_rfl)) fun a hfr => ?_
 refine wl_nil (hK1 _ _ ?_)
 refine wc_cond_f hfr rfl ?_
 refine wc_seq_region fun K2 hK2 => ?_
 refine wlv hfr (v_assert_yes rfl Tryz.underlying142) fun a hfr => ?_
 refine wlv hfr (v_extract rfl rfl) fun a hfr => ?_
 refine wlv hfr (v_extract rfl rfl) fun a hfr => ?_
 refine wl_nil (hK2 _ _ ?_)
 refine wc_cond_t hfr rfl ?_
 refine wc_seq_region fun K3 hK3 => ?_
 refine wl_alloc hfr hst (by decide) (Tryz.zeroValue142 _) (cs := []) rfl ?_
 clear hfr hst
 intro a w1 hfr hst
 refine wl_store 0 hfr hst rfl rfl rfl (Tryz.sizeOf142 _) rfl (lb rfl) (ds := []) rfl rfl ?_
 clear hfr hst
 intro a w2 hfr hst
 refine wl_nil (hK3 _ _ ?_)
 replace hfr : Fr 13 [(0, _), (1, _), (2, _)] [] a := hfr.pick [0, 1, 2]
 replace hst : St M w0 [_, _, _] w2 := hst.mask [false, true, true, true]
 refine wc_region ?_
 refine wlv hfr (v_build (v := .agg #[iv 0, iv 0, iv 0, iv 0, iv 0, iv 0, iv 0, iv 0, .string (⟨#[]⟩)]) rfl (by kernel_rfl)) fun a hfr => ?_
 refine wl_store 0 hfr hst rfl rfl rfl (Tryz.sizeOf30 _) rfl (lb rfl) (ds := [iv 0, iv 0, iv 0, iv 0, iv 0, iv 0, iv 0, iv 0, .string (⟨#[]⟩)]) rfl rfl ?_
 clear hfr hst
 intro a w3 hfr hst
 refine wl_store 1 hfr hst rfl rfl rfl (Tryz.sizeOf31 _) rfl (lb rfl) (ds := [.slice none 0 0]) rfl rfl ?_
 clear hfr hst
 intro a w4 hfr hst
 refine wl_store 2 hfr hst rfl rfl rfl (Tryz.sizeOf54 _) rfl (lb rfl) (ds := [iv 150]) rfl rfl ?_
 clear hfr hst
 intro a w5 hfr hst
 refine wl_nil ?_
 refine fine_end hfr Tryz.results81 resAre_nil ?_
 exact hst.select [0, 1, 2] (by decide)
theorem dec1_ret (b2 b3 b4 : Nat) (ws : World) :
  CallsDIn Fence.wide 0 Tryz.prog 81 #[.pointer (some ⟨b2, 0, none⟩), .pointer (some ⟨b3, 0, none⟩), .pointer (some ⟨b4, 0, none⟩)] .returning ws fun e u' w => u' = .returning ∧ ∃ x, e = .returned x ∧ Ext No ws w  := by
 refine dfr_of (args := [.pointer (some ⟨b2, 0, none⟩), .pointer (some ⟨b3, 0, none⟩), .pointer (some ⟨b4, 0, none⟩)]) Tryz.func81 rfl Tryz.ntmps81 (lb rfl) rfl rfl (by decide) (fun _ _ => rfl) (.inl ⟨rfl, rfl, rfl⟩) fun a hfr => ?_
 replace hfr : Fr 13 [(6, _), (0, _), (1, _), (2, _)] [] a := hfr
 replace hst : St No ws [] ws := St.init ws
 refine wc_block ?_
 refine wc_seq_region fun K1 hK1 => ?_
 refine wlv hfr (v_ifacenn rfl rfl (by kernel_rfl) (by kernel_rfl)) fun a hfr => ?_
 refine wl_nil (hK1 _ _ ?_)
 refine wc_cond_t hfr rfl ?_
 refine wc_region ?_
 refine wla hfr rfl fun a hfr => ?_
 refine wl_nil ?_
 refine fine_end hfr Tryz.results81 resAre_nil ?_
 exact hst.ext
theorem st_none {M : Nat → Prop} {w0 w : World} (h : Ext M w0 w) : St M w0 [join []] w :=
 ⟨h, fun e he => by rw [List.mem_singleton.1 he]; exact ⟨⟨fun e he => (by cases he), List.Pairwise.nil⟩, fun k ⟨e, he, _⟩ => (by cases he)⟩, List.pairwise_singleton _ _⟩
theorem shut_no1 {l : List Pxy} {w : Wsh} {r : By} (h : r ≠ []) : shutH l w r = none := if_neg fun hh => h hh.1
theorem shut_no2 {l : List Pxy} {w : Wsh} {r : By} (h : formedH w l = false) : shutH l w r = none := if_neg fun hh => by rw [h] at hh; cases hh.2
theorem shut_yes {l : List Pxy} {w : Wsh} {r : By} (h1 : r = []) (h2 : formedH w l = true) : shutH l w r = some (w, l) := if_pos ⟨h1, h2⟩
theorem inB_bnd {n a b : Int} (h : inB n a b = true) : a ≤ n ∧ n ≤ b := by simpa [inB] using h
set_option maxHeartbeats 4000000 in
theorem decode_run (s : By) (w0 : World) (hsl : s.length ≤ 1000000) :
  Ret Tryz.prog 28 #[sv s] w0 fun v w => (∃ x ps, decodeH s = some (x, ps) ∧ MemR w0 (fun lv : Value => .tuple #[.agg x.cells.toArray, lv, iv 0]) (fun lv => [own lv 40 7 (ps.map Pxy.cells)]) (fun _ => True) v w) ∨ (decodeH s = none ∧ v = .tuple #[.agg #[iv 0, iv 0, iv 0, iv 0, iv 0, iv 0, iv 0, iv 0, sv ([] : By)], .slice none 0 0, iv 150] ∧ Ext No w0 w) := by
 refine retd_of Tryz.func28 rfl Tryz.ntmps28 (lb rfl) fun a hfr => ?_
 replace hfr : Fr 98 [(0, _)] [] a := hfr
 replace hst : St No w0 [] w0 := St.init w0
 refine wc_seq_region fun K1 hK1 => ?_
 refine wl_alloc hfr hst (by decide) (Tryz.zeroValue30 _) (cs := [iv 0, iv 0, iv 0, iv 0, iv 0, iv 0, iv 0, iv 0, .string (⟨#[]⟩)]) rfl ?_
 clear hfr hst
 intro a w1 hfr hst
 refine wl_alloc hfr hst (by decide) (Tryz.zeroValue31 _) (cs := [.slice none 0 0]) rfl ?_
 clear hfr hst
 intro a w2 hfr hst
 refine wl_alloc hfr hst (by decide) (Tryz.zeroValue54 _) (cs := [iv 0]) rfl ?_
 clear hfr hst
 intro a w3 hfr hst
 refine wl_nil (hK1 _ _ ?_)
 refine wc_seq_region fun K2 hK2 => ?_
 refine wlv hfr (v_makeFunc rfl rfl) fun a hfr => ?_
 refine wl_defer hfr rfl fun a hfr => ?_
 refine wl_nil (hK2 _ _ ?_)
 refine wc_seq_region fun K3 hK3 => ?_
 refine wlm hfr rfl fun a hfr => ?_
 refine wlv hfr (v_build (v := .agg #[sv s, iv 0]) rfl (by kernel_rfl)) fun a hfr => ?_
 refine wl_box hfr hst (by decide) rfl (cs := [sv s, iv 0]) rfl ?_
 clear hfr hst
 intro a w4 hfr hst
 refine wla hfr rfl fun a hfr => ?_
 refine wl_nil (hK3 _ _ ?_)
 have hd0 : decodeH s = getI s (fun n r => if inB n 0 4 = true then rdPxys n.toNat [] r tailH else none) := rfl
 refine wcx_seq_region fun K4 hK4 hP4 => ?_
 refine wx_split 1 ?_
 refine wlm hfr rfl fun a hfr => ?_
 refine wl_nil ?_
 rcases hq1 : rdI s with _ | ⟨n3, r2⟩
 ·have hdn := hd0.trans (getI_bad hq1)
  refine wx_panE (X := fun c => c = [{ v := .iface 142 (.agg #[]), recovered := false }]) 0 hfr hst rfl Tryz.call82 rfl (fun h => (number_bad w3.heap.size s s  0 _ (by simp) (List.suffix_refl s) hsl hq1 h).mono fun e w ⟨c, h1, h2, h3⟩ => ⟨c, h1, _, h2, h3⟩) ?_
  clear hst
  rintro _ w5 e9 rfl hst
  refine hP4 _ _ _ ?_
  replace hst : St No w0 [blk w0.heap.size [iv 0, iv 0, iv 0, iv 0, iv 0, iv 0, iv 0, iv 0, .string (⟨#[]⟩)] 30, blk w1.heap.size [.slice none 0 0] 31, blk w2.heap.size [iv 0] 54] w5 := hst.select [3, 2, 1] (by decide)
  exact find_panic hfr Tryz.call81 (dec1_pan _ _ _ _ _ _ _ _ _ _ _ _ _ _ _ hst) Tryz.results28 (fun w9 hst => ⟨(resAre_cell rfl (res_all (hst.get (k := 0) rfl) (Tryz.isAgg30 _) (Tryz.sizeOf30 _)) (resAre_cell rfl (res_one (hst.get (k := 1) rfl) (Tryz.isAgg31 _)) (resAre_cell rfl (res_one (hst.get (k := 2) rfl) (Tryz.isAgg54 _)) resAre_nil))), .inr ⟨hdn, rfl, hst.ext⟩⟩)
 have hd4 := hd0.trans (getI_ok hq1)
 have hs5 := (rdI_suf hq1).trans (List.suffix_refl s)
 refine wx_split 1 ?_
 refine wl_callE (R := fun u e' => u = iv n3 ∧ e' = blk w3.heap.size [sv s, iv ((s.length - r2.length : Nat) : Int)] 145) 0 hfr hst rfl (by decide) Tryz.call82 rfl (fun h => (number_ok w3.heap.size s s r2 n3 0 _ (by simp) (List.suffix_refl s) hsl hq1 h).mono fun u w ⟨h1, h2⟩ => ⟨_, ⟨h1, rfl⟩, h2⟩) ?_
 clear hfr hst
 rintro a w6 _ _ ⟨rfl, rfl⟩ hfr hst
 replace hst : St No w0 [blk w3.heap.size [sv s, iv ((s.length - r2.length : Nat) : Int)] 145, blk w2.heap.size [iv 0] 54, blk w1.heap.size [.slice none 0 0] 31, blk w0.heap.size [iv 0, iv 0, iv 0, iv 0, iv 0, iv 0, iv 0, iv 0, .string (⟨#[]⟩)] 30] w6 := hst
 refine wl_nil ?_
 refine wx_wl ?_
 refine wla hfr rfl fun a hfr => ?_
 refine wl_nil (hK4 _ _ ?_)
 replace hfr : Fr 98 [(0, _), (2, _), (3, _), (4, _), (5, _), (6, _)] [{ target := .fn (.func 81) #[.pointer (some ⟨w0.heap.size, 0, none⟩), .pointer (some ⟨w1.heap.size, 0, none⟩), .pointer (some ⟨w2.heap.size, 0, none⟩)], args := #[] }] a := hfr.pick [0, 2, 3, 4, 5, 6]
 refine wc_seq_k fun K5 hK5 => ?_
 refine wc_seq_region fun K6 hK6 => ?_
 refine wlm hfr rfl fun a hfr => ?_
 refine wl_callp hfr hst (by decide) Tryz.call60 rfl (isWithin_ok n3 0 4 _) ?_
 clear hfr hst
 intro a w7 hfr hst
 refine wlv hfr (v_not rfl) fun a hfr => ?_
 refine wl_nil (hK6 _ _ ?_)
 refine wc_cond hfr rfl (fun hc6 => ?_) (fun hc6 => ?_)
 ·rw [hc6] at hfr
  try simp only [qz] at hc6
  have hdn : decodeH s = none := hd4.trans (if_neg (by rw [hc6]; decide))
  refine wcx_region ?_
  refine wx_split 2 ?_
  refine wlv hfr (v_build (v := .agg #[]) rfl (by kernel_rfl)) fun a hfr => ?_
  refine wlv hfr (v_makeIface rfl Tryz.underlying142) fun a hfr => ?_
  refine wl_nil ?_
  refine wx_panic hfr rfl ?_
  replace hst : St No w0 [blk w0.heap.size [iv 0, iv 0, iv 0, iv 0, iv 0, iv 0, iv 0, iv 0, .string (⟨#[]⟩)] 30, blk w1.heap.size [.slice none 0 0] 31, blk w2.heap.size [iv 0] 54] w7 := hst.select [3, 2, 1] (by decide)
  exact find_panic hfr Tryz.call81 (dec1_pan _ _ _ _ _ _ _ _ _ _ _ _ _ _ _ hst) Tryz.results28 (fun w9 hst => ⟨(resAre_cell rfl (res_all (hst.get (k := 0) rfl) (Tryz.isAgg30 _) (Tryz.sizeOf30 _)) (resAre_cell rfl (res_one (hst.get (k := 1) rfl) (Tryz.isAgg31 _)) (resAre_cell rfl (res_one (hst.get (k := 2) rfl) (Tryz.isAgg54 _)) resAre_nil))), .inr ⟨hdn, rfl, hst.ext⟩⟩)
 rw [hc6] at hfr
 try simp only [qz] at hc6
 have hd9 := hd4.trans (if_pos hc6)
 have hib := inB_bnd hc6
 refine wc_skip ?_
 refine hK5 _ _ ?_
 refine wc_seq_k fun K7 hK7 => ?_
 replace hst : St No w0 [own (.slice none 0 0) 40 7 (([] : List Pxy).map Pxy.cells), blk w3.heap.size [sv s, iv ((s.length - r2.length : Nat) : Int)] 145, blk w2.heap.size [iv 0] 54, blk w1.heap.size [.slice none 0 0] 31, blk w0.heap.size [iv 0, iv 0, iv 0, iv 0, iv 0, iv 0, iv 0, iv 0, .string (⟨#[]⟩)] 30] w7 := hst.nil_own
 refine wc_seq_region fun K8 hK8 => ?_
 refine wlm hfr rfl fun a hfr => wlm hfr rfl fun a hfr => ?_
 refine wl_nil (hK8 _ _ ?_)
 refine wc_block ?_
 refine wc_loop (fun m a w => ∃ (k : Nat) (acc : List Pxy) (r : By) (lv : Value), m = n3.toNat - k ∧ ((k : Int) ≤ n3) ∧ (decodeH s = rdPxys (n3.toNat - k) acc r tailH) ∧ (r <:+ s) ∧ (acc.length = k) ∧ Fr 98 [(0, sv s), (2, .pointer (some ⟨w0.heap.size, 0, none⟩)), (3, .pointer (some ⟨w1.heap.size, 0, none⟩)), (4, .pointer (some ⟨w2.heap.size, 0, none⟩)), (5, .pointer (some ⟨w3.heap.size, 0, none⟩)), (23, iv n3), (24, iv (k : Int))] [{ target := .fn (.func 81) #[.pointer (some ⟨w0.heap.size, 0, none⟩), .pointer (some ⟨w1.heap.size, 0, none⟩), .pointer (some ⟨w2.heap.size, 0, none⟩)], args := #[] }] a ∧ St No w0 [blk w3.heap.size [sv s, iv ((s.length - r.length : Nat) : Int)] 145, blk w0.heap.size [iv 0, iv 0, iv 0, iv 0, iv 0, iv 0, iv 0, iv 0, .string (⟨#[]⟩)] 30, blk w1.heap.size [lv] 31, blk w2.heap.size [iv 0] 54, own lv 40 7 ((acc).map Pxy.cells)] w) _ ⟨0, [], r2, .slice none 0 0, rfl, (by omega), hd9, hs5, rfl, hfr.pick [0, 2, 3, 4, 5, 23, 24], hst.select [1, 4, 3, 2, 0] (by decide)⟩ ?_
 rintro _ a w8 ⟨k, acc, r, lv, rfl, hk, hdl, hsl2, hal, hfr, hst⟩
 refine wc_seq_region fun K9 hK9 => ?_
 refine wlv hfr (v_lt rfl rfl) fun a hfr => ?_
 refine wl_nil (hK9 _ _ ?_)
 refine wc_seq_k fun K10 hK10 => ?_
 refine wc_cond hfr rfl (fun hc7 => ?_) (fun hc7 => ?_)
 ·rw [hc7] at hfr
  try simp only [qz] at hc7
  obtain ⟨mm, hm⟩ : ∃ m, n3.toNat - k = m + 1 := ⟨n3.toNat - k - 1, by omega⟩
  rw [hm] at hdl
  have hdk : decodeH s = kindI 2 r _ := hdl
  refine wc_skip ?_
  refine hK10 _ _ ?_
  refine wc_seq_k fun K11 hK11 => ?_
  refine wc_block ?_
  refine wc_seq_region fun K12 hK12 => ?_
  refine wl_alloc hfr hst (by decide) (Tryz.zeroValue40 _) (cs := [iv 0, iv 0, iv 0, iv 0, iv 0, iv 0, .string (⟨#[]⟩)]) rfl ?_
  clear hfr hst
  intro a w9 hfr hst
  refine wl_nil (hK12 _ _ ?_)
  refine wcx_seq_region fun K13 hK13 hP13 => ?_
  refine wx_split 1 ?_
  refine wlm hfr rfl fun a hfr => ?_
  refine wl_nil ?_
  rcases hq8 : kdI 2 r with _ | r9
  ·have hdn := hdk.trans (kindI_bad hq8)
   refine wx_panE (X := fun c => c = [{ v := .iface 142 (.agg #[]), recovered := false }]) 1 hfr hst rfl Tryz.call83 rfl (fun h => (kind_bad w3.heap.size s r  2 ((s.length - r.length : Nat) : Int) _ rfl hsl2 hsl hq8 h).mono fun e w ⟨c, h1, h2, h3⟩ => ⟨c, h1, _, h2, st_none h3⟩) ?_
   clear hst
   rintro _ w10 e9 rfl hst
   refine hP13 _ _ _ ?_
   replace hst : St No w0 [blk w0.heap.size [iv 0, iv 0, iv 0, iv 0, iv 0, iv 0, iv 0, iv 0, .string (⟨#[]⟩)] 30, blk w1.heap.size [lv] 31, blk w2.heap.size [iv 0] 54] w10 := hst.select [2, 3, 4] (by decide)
   exact find_panic hfr Tryz.call81 (dec1_pan _ _ _ _ _ _ _ _ _ _ _ _ _ _ _ hst) Tryz.results28 (fun w9 hst => ⟨(resAre_cell rfl (res_all (hst.get (k := 0) rfl) (Tryz.isAgg30 _) (Tryz.sizeOf30 _)) (resAre_cell rfl (res_one (hst.get (k := 1) rfl) (Tryz.isAgg31 _)) (resAre_cell rfl (res_one (hst.get (k := 2) rfl) (Tryz.isAgg54 _)) resAre_nil))), .inr ⟨hdn, rfl, hst.ext⟩⟩)
  have hd10 := hdk.trans (kindI_ok hq8)
  have hs11 := (kdI_suf hq8).trans hsl2
  refine wx_split 1 ?_
  refine wl_callE (R := fun u e' => u = .tuple #[] ∧ e' = blk w3.heap.size [sv s, iv ((s.length - r9.length : Nat) : Int)] 145) 1 hfr hst rfl (by decide) Tryz.call83 rfl (fun h => (kind_ok w3.heap.size s r r9 2 ((s.length - r.length : Nat) : Int) _ rfl hsl2 hsl hq8 h).mono fun u w ⟨h1, h2⟩ => ⟨_, ⟨h1, rfl⟩, h2⟩) ?_
  clear hfr hst
  rintro a w11 _ _ ⟨rfl, rfl⟩ hfr hst
  replace hst : St No w0 [blk w8.heap.size [iv 0, iv 0, iv 0, iv 0, iv 0, iv 0, .string (⟨#[]⟩)] 40, blk w3.heap.size [sv s, iv ((s.length - r9.length : Nat) : Int)] 145, blk w0.heap.size [iv 0, iv 0, iv 0, iv 0, iv 0, iv 0, iv 0, iv 0, .string (⟨#[]⟩)] 30, blk w1.heap.size [lv] 31, blk w2.heap.size [iv 0] 54, own lv 40 7 ((acc).map Pxy.cells)] w11 := hst
  refine wl_nil ?_
  refine wx_wl ?_
  refine wl_nil (hK13 _ _ ?_)
  refine wc_seq_k fun K14 hK14 => ?_
  refine wc_seq_region fun K15 hK15 => ?_
  refine wlv hfr (v_fieldAddr (v := .pointer (some ⟨w8.heap.size, 0, none⟩)) rfl (by kernel_rfl)) fun a hfr => ?_
  refine wlv hfr (v_fieldAddr (v := .pointer (some ⟨w8.heap.size, 1, none⟩)) rfl (by kernel_rfl)) fun a hfr => ?_
  refine wlv hfr (v_fieldAddr (v := .pointer (some ⟨w8.heap.size, 2, none⟩)) rfl (by kernel_rfl)) fun a hfr => ?_
  refine wlv hfr (v_fieldAddr (v := .pointer (some ⟨w8.heap.size, 2, none⟩)) rfl (by kernel_rfl)) fun a hfr => ?_
  refine wlv hfr (v_fieldAddr (v := .pointer (some ⟨w8.heap.size, 2, none⟩)) rfl (by kernel_rfl)) fun a hfr => ?_
  refine wlv hfr (v_fieldAddr (v := .pointer (some ⟨w8.heap.size, 3, none⟩)) rfl (by kernel_rfl)) fun a hfr => ?_
  refine wlv hfr (v_fieldAddr (v := .pointer (some ⟨w8.heap.size, 4, none⟩)) rfl (by kernel_rfl)) fun a hfr => ?_
  refine wlv hfr (v_fieldAddr (v := .pointer (some ⟨w8.heap.size, 4, none⟩)) rfl (by kernel_rfl)) fun a hfr => ?_
  refine wlv hfr (v_fieldAddr (v := .pointer (some ⟨w8.heap.size, 4, none⟩)) rfl (by kernel_rfl)) fun a hfr => ?_
  refine wlv hfr (v_fieldAddr (v := .pointer (some ⟨w8.heap.size, 5, none⟩)) rfl (by kernel_rfl)) fun a hfr => ?_
  refine wlv hfr (v_build (v := .agg #[.pointer (some ⟨w8.heap.size, 0, none⟩), .pointer (some ⟨w8.heap.size, 1, none⟩), .pointer (some ⟨w8.heap.size, 2, none⟩), .pointer (some ⟨w8.heap.size, 3, none⟩), .pointer (some ⟨w8.heap.size, 4, none⟩), .pointer (some ⟨w8.heap.size, 5, none⟩)]) rfl (by kernel_rfl)) fun a hfr => wlm hfr rfl fun a hfr => ?_
  refine wl_nil (hK15 _ _ ?_)
  replace hfr : Fr 98 [(0, _), (2, _), (3, _), (4, _), (5, _), (23, _), (24, _), (7, _), (38, _), (39, _)] [{ target := .fn (.func 81) #[.pointer (some ⟨w0.heap.size, 0, none⟩), .pointer (some ⟨w1.heap.size, 0, none⟩), .pointer (some ⟨w2.heap.size, 0, none⟩)], args := #[] }] a := hfr.pick [0, 2, 3, 4, 5, 23, 24, 7, 38, 39]
  refine wc_block ?_
  refine wc_rounds 7 ?_
  refine wr_succ ?_
  refine wc_seq_region fun K16 hK16 => ?_
  refine wlv hfr ((v_lt rfl rfl).asb (b' := true) rfl) fun a hfr => ?_
  refine wl_nil (hK16 _ _ ?_)
  refine wc_seq_k fun K17 hK17 => ?_
  refine wc_cond_t hfr rfl ?_
  refine wc_skip ?_
  refine hK17 _ _ ?_
  refine wc_seq_k fun K18 hK18 => ?_
  refine wc_block ?_
  refine wc_seq_region fun K19 hK19 => ?_
  refine wlv hfr (v_index (v := .pointer (some ⟨w8.heap.size, 0, none⟩)) rfl rfl (by kernel_rfl)) fun a hfr => wla hfr rfl fun a hfr => ?_
  refine wl_nil (hK19 _ _ ?_)
  refine wcx_region ?_
  refine wx_split 2 ?_
  refine wlm hfr rfl fun a hfr => wlm hfr rfl fun a hfr => ?_
  refine wl_nil ?_
  rcases hq12 : rdI r9 with _ | ⟨n14, r13⟩
  ·have hdn := hd10.trans (getI_bad hq12)
   refine wx_panE (X := fun c => c = [{ v := .iface 142 (.agg #[]), recovered := false }]) 1 hfr hst rfl Tryz.call82 rfl (fun h => (number_bad w3.heap.size s r9  ((s.length - r9.length : Nat) : Int) _ rfl hs11 hsl hq12 h).mono fun e w ⟨c, h1, h2, h3⟩ => ⟨c, h1, _, h2, h3⟩) ?_
   clear hst
   rintro _ w12 e9 rfl hst
   replace hst : St No w0 [blk w0.heap.size [iv 0, iv 0, iv 0, iv 0, iv 0, iv 0, iv 0, iv 0, .string (⟨#[]⟩)] 30, blk w1.heap.size [lv] 31, blk w2.heap.size [iv 0] 54] w12 := hst.select [2, 3, 4] (by decide)
   exact find_panic hfr Tryz.call81 (dec1_pan _ _ _ _ _ _ _ _ _ _ _ _ _ _ _ hst) Tryz.results28 (fun w9 hst => ⟨(resAre_cell rfl (res_all (hst.get (k := 0) rfl) (Tryz.isAgg30 _) (Tryz.sizeOf30 _)) (resAre_cell rfl (res_one (hst.get (k := 1) rfl) (Tryz.isAgg31 _)) (resAre_cell rfl (res_one (hst.get (k := 2) rfl) (Tryz.isAgg54 _)) resAre_nil))), .inr ⟨hdn, rfl, hst.ext⟩⟩)
  have hd15 := hd10.trans (getI_ok hq12)
  have hs16 := (rdI_suf hq12).trans hs11
  refine wx_split 1 ?_
  refine wl_callE (R := fun u e' => u = iv n14 ∧ e' = blk w3.heap.size [sv s, iv ((s.length - r13.length : Nat) : Int)] 145) 1 hfr hst rfl (by decide) Tryz.call82 rfl (fun h => (number_ok w3.heap.size s r9 r13 n14 ((s.length - r9.length : Nat) : Int) _ rfl hs11 hsl hq12 h).mono fun u w ⟨h1, h2⟩ => ⟨_, ⟨h1, rfl⟩, h2⟩) ?_
  clear hfr hst
  rintro a w13 _ _ ⟨rfl, rfl⟩ hfr hst
  replace hst : St No w0 [blk w8.heap.size [iv 0, iv 0, iv 0, iv 0, iv 0, iv 0, .string (⟨#[]⟩)] 40, blk w3.heap.size [sv s, iv ((s.length - r13.length : Nat) : Int)] 145, blk w0.heap.size [iv 0, iv 0, iv 0, iv 0, iv 0, iv 0, iv 0, iv 0, .string (⟨#[]⟩)] 30, blk w1.heap.size [lv] 31, blk w2.heap.size [iv 0] 54, own lv 40 7 ((acc).map Pxy.cells)] w13 := hst
  refine wl_nil ?_
  refine wx_wl ?_
  refine wlv hfr (v_nilCheck rfl) fun a hfr => ?_
  refine wl_store 0 hfr hst rfl rfl rfl (Tryz.sizeOf3 _) rfl (lb rfl) (ds := [iv n14, iv 0, iv 0, iv 0, iv 0, iv 0, .string (⟨#[]⟩)]) rfl rfl ?_
  clear hfr hst
  intro a w14 hfr hst
  refine wl_nil ?_
  refine hK18 _ _ ?_
  replace hfr : Fr 98 [(0, _), (2, _), (3, _), (4, _), (5, _), (23, _), (24, _), (7, _), (38, _), (39, _)] [{ target := .fn (.func 81) #[.pointer (some ⟨w0.heap.size, 0, none⟩), .pointer (some ⟨w1.heap.size, 0, none⟩), .pointer (some ⟨w2.heap.size, 0, none⟩)], args := #[] }] a := hfr.pick [0, 2, 3, 4, 5, 23, 24, 7, 38, 39]
  refine wc_region ?_
  refine wlv hfr ((v_add rfl rfl (by decide)).asi (m' := 1) rfl) fun a hfr => wlm hfr rfl fun a hfr => ?_
  refine wl_nil ?_
  refine wr_succ ?_
  refine wc_seq_region fun K20 hK20 => ?_
  refine wlv hfr ((v_lt rfl rfl).asb (b' := true) rfl) fun a hfr => ?_
  refine wl_nil (hK20 _ _ ?_)
  refine wc_seq_k fun K21 hK21 => ?_
  refine wc_cond_t hfr rfl ?_
  refine wc_skip ?_
  refine hK21 _ _ ?_
  refine wc_seq_k fun K22 hK22 => ?_
  refine wc_block ?_
  refine wc_seq_region fun K23 hK23 => ?_
  refine wlv hfr (v_index (v := .pointer (some ⟨w8.heap.size, 1, none⟩)) rfl rfl (by kernel_rfl)) fun a hfr => wla hfr rfl fun a hfr => ?_
  refine wl_nil (hK23 _ _ ?_)
  refine wcx_region ?_
  refine wx_split 2 ?_
  refine wlm hfr rfl fun a hfr => wlm hfr rfl fun a hfr => ?_
  refine wl_nil ?_
  rcases hq17 : rdI r13 with _ | ⟨n19, r18⟩
  ·have hdn := hd15.trans (getI_bad hq17)
   refine wx_panE (X := fun c => c = [{ v := .iface 142 (.agg #[]), recovered := false }]) 1 hfr hst rfl Tryz.call82 rfl (fun h => (number_bad w3.heap.size s r13  ((s.length - r13.length : Nat) : Int) _ rfl hs16 hsl hq17 h).mono fun e w ⟨c, h1, h2, h3⟩ => ⟨c, h1, _, h2, h3⟩) ?_
   clear hst
   rintro _ w15 e9 rfl hst
   replace hst : St No w0 [blk w0.heap.size [iv 0, iv 0, iv 0, iv 0, iv 0, iv 0, iv 0, iv 0, .string (⟨#[]⟩)] 30, blk w1.heap.size [lv] 31, blk w2.heap.size [iv 0] 54] w15 := hst.select [2, 3, 4] (by decide)
   exact find_panic hfr Tryz.call81 (dec1_pan _ _ _ _ _ _ _ _ _ _ _ _ _ _ _ hst) Tryz.results28 (fun w9 hst => ⟨(resAre_cell rfl (res_all (hst.get (k := 0) rfl) (Tryz.isAgg30 _) (Tryz.sizeOf30 _)) (resAre_cell rfl (res_one (hst.get (k := 1) rfl) (Tryz.isAgg31 _)) (resAre_cell rfl (res_one (hst.get (k := 2) rfl) (Tryz.isAgg54 _)) resAre_nil))), .inr ⟨hdn, rfl, hst.ext⟩⟩)
  have hd20 := hd15.trans (getI_ok hq17)
  have hs21 := (rdI_suf hq17).trans hs16
  refine wx_split 1 ?_
  refine wl_callE (R := fun u e' => u = iv n19 ∧ e' = blk w3.heap.size [sv s, iv ((s.length - r18.length : Nat) : Int)] 145) 1 hfr hst rfl (by decide) Tryz.call82 rfl (fun h => (number_ok w3.heap.size s r13 r18 n19 ((s.length - r13.length : Nat) : Int) _ rfl hs16 hsl hq17 h).mono fun u w ⟨h1, h2⟩ => ⟨_, ⟨h1, rfl⟩, h2⟩) ?_
  clear hfr hst
  rintro a w16 _ _ ⟨rfl, rfl⟩ hfr hst
  replace hst : St No w0 [blk w8.heap.size [iv n14, iv 0, iv 0, iv 0, iv 0, iv 0, .string (⟨#[]⟩)] 40, blk w3.heap.size [sv s, iv ((s.length - r18.length : Nat) : Int)] 145, blk w0.heap.size [iv 0, iv 0, iv 0, iv 0, iv 0, iv 0, iv 0, iv 0, .string (⟨#[]⟩)] 30, blk w1.heap.size [lv] 31, blk w2.heap.size [iv 0] 54, own lv 40 7 ((acc).map Pxy.cells)] w16 := hst
  refine wl_nil ?_
  refine wx_wl ?_
  refine wlv hfr (v_nilCheck rfl) fun a hfr => ?_
  refine wl_store 0 hfr hst rfl rfl rfl (Tryz.sizeOf3 _) rfl (lb rfl) (ds := [iv n14, iv n19, iv 0, iv 0, iv 0, iv 0, .string (⟨#[]⟩)]) rfl rfl ?_
  clear hfr hst
  intro a w17 hfr hst
  refine wl_nil ?_
  refine hK22 _ _ ?_
  replace hfr : Fr 98 [(0, _), (2, _), (3, _), (4, _), (5, _), (23, _), (24, _), (7, _), (38, _), (39, _)] [{ target := .fn (.func 81) #[.pointer (some ⟨w0.heap.size, 0, none⟩), .pointer (some ⟨w1.heap.size, 0, none⟩), .pointer (some ⟨w2.heap.size, 0, none⟩)], args := #[] }] a := hfr.pick [0, 2, 3, 4, 5, 23, 24, 7, 38, 39]
  refine wc_region ?_
  refine wlv hfr ((v_add rfl rfl (by decide)).asi (m' := 2) rfl) fun a hfr => wlm hfr rfl fun a hfr => ?_
  refine wl_nil ?_
  refine wr_succ ?_
  refine wc_seq_region fun K24 hK24 => ?_
  refine wlv hfr ((v_lt rfl rfl).asb (b' := true) rfl) fun a hfr => ?_
  refine wl_nil (hK24 _ _ ?_)
  refine wc_seq_k fun K25 hK25 => ?_
  refine wc_cond_t hfr rfl ?_
  refine wc_skip ?_
  refine hK25 _ _ ?_
  refine wc_seq_k fun K26 hK26 => ?_
  refine wc_block ?_
  refine wc_seq_region fun K27 hK27 => ?_
  refine wlv hfr (v_index (v := .pointer (some ⟨w8.heap.size, 2, none⟩)) rfl rfl (by kernel_rfl)) fun a hfr => wla hfr rfl fun a hfr => ?_
  refine wl_nil (hK27 _ _ ?_)
  refine wcx_region ?_
  refine wx_split 2 ?_
  refine wlm hfr rfl fun a hfr => wlm hfr rfl fun a hfr => ?_
  refine wl_nil ?_
  rcases hq22 : rdI r18 with _ | ⟨n24, r23⟩
  ·have hdn := hd20.trans (getI_bad hq22)
   refine wx_panE (X := fun c => c = [{ v := .iface 142 (.agg #[]), recovered := false }]) 1 hfr hst rfl Tryz.call82 rfl (fun h => (number_bad w3.heap.size s r18  ((s.length - r18.length : Nat) : Int) _ rfl hs21 hsl hq22 h).mono fun e w ⟨c, h1, h2, h3⟩ => ⟨c, h1, _, h2, h3⟩) ?_
   clear hst
   rintro _ w18 e9 rfl hst
   replace hst : St No w0 [blk w0.heap.size [iv 0, iv 0, iv 0, iv 0, iv 0, iv 0, iv 0, iv 0, .string (⟨#[]⟩)] 30, blk w1.heap.size [lv] 31, blk w2.heap.size [iv 0] 54] w18 := hst.select [2, 3, 4] (by decide)
   exact find_panic hfr Tryz.call81 (dec1_pan _ _ _ _ _ _ _ _ _ _ _ _ _ _ _ hst) Tryz.results28 (fun w9 hst => ⟨(resAre_cell rfl (res_all (hst.get (k := 0) rfl) (Tryz.isAgg30 _) (Tryz.sizeOf30 _)) (resAre_cell rfl (res_one (hst.get (k := 1) rfl) (Tryz.isAgg31 _)) (resAre_cell rfl (res_one (hst.get (k := 2) rfl) (Tryz.isAgg54 _)) resAre_nil))), .inr ⟨hdn, rfl, hst.ext⟩⟩)
  have hd25 := hd20.trans (getI_ok hq22)
  have hs26 := (rdI_suf hq22).trans hs21
  refine wx_split 1 ?_
  refine wl_callE (R := fun u e' => u = iv n24 ∧ e' = blk w3.heap.size [sv s, iv ((s.length - r23.length : Nat) : Int)] 145) 1 hfr hst rfl (by decide) Tryz.call82 rfl (fun h => (number_ok w3.heap.size s r18 r23 n24 ((s.length - r18.length : Nat) : Int) _ rfl hs21 hsl hq22 h).mono fun u w ⟨h1, h2⟩ => ⟨_, ⟨h1, rfl⟩, h2⟩) ?_
  clear hfr hst
  rintro a w19 _ _ ⟨rfl, rfl⟩ hfr hst
  replace hst : St No w0 [blk w8.heap.size [iv n14, iv n19, iv 0, iv 0, iv 0, iv 0, .string (⟨#[]⟩)] 40, blk w3.heap.size [sv s, iv ((s.length - r23.length : Nat) : Int)] 145, blk w0.heap.size [iv 0, iv 0, iv 0, iv 0, iv 0, iv 0, iv 0, iv 0, .string (⟨#[]⟩)] 30, blk w1.heap.size [lv] 31, blk w2.heap.size [iv 0] 54, own lv 40 7 ((acc).map Pxy.cells)] w19 := hst
  refine wl_nil ?_
  refine wx_wl ?_
  refine wlv hfr (v_nilCheck rfl) fun a hfr => ?_
  refine wl_store 0 hfr hst rfl rfl rfl (Tryz.sizeOf3 _) rfl (lb rfl) (ds := [iv n14, iv n19, iv n24, iv 0, iv 0, iv 0, .string (⟨#[]⟩)]) rfl rfl ?_
  clear hfr hst
  intro a w20 hfr hst
  refine wl_nil ?_
  refine hK26 _ _ ?_
  replace hfr : Fr 98 [(0, _), (2, _), (3, _), (4, _), (5, _), (23, _), (24, _), (7, _), (38, _), (39, _)] [{ target := .fn (.func 81) #[.pointer (some ⟨w0.heap.size, 0, none⟩), .pointer (some ⟨w1.heap.size, 0, none⟩), .pointer (some ⟨w2.heap.size, 0, none⟩)], args := #[] }] a := hfr.pick [0, 2, 3, 4, 5, 23, 24, 7, 38, 39]
  refine wc_region ?_
  refine wlv hfr ((v_add rfl rfl (by decide)).asi (m' := 3) rfl) fun a hfr => wlm hfr rfl fun a hfr => ?_
  refine wl_nil ?_
  refine wr_succ ?_
  refine wc_seq_region fun K28 hK28 => ?_
  refine wlv hfr ((v_lt rfl rfl).asb (b' := true) rfl) fun a hfr => ?_
  refine wl_nil (hK28 _ _ ?_)
  refine wc_seq_k fun K29 hK29 => ?_
  refine wc_cond_t hfr rfl ?_
  refine wc_skip ?_
  refine hK29 _ _ ?_
  refine wc_seq_k fun K30 hK30 => ?_
  refine wc_block ?_
  refine wc_seq_region fun K31 hK31 => ?_
  refine wlv hfr (v_index (v := .pointer (some ⟨w8.heap.size, 3, none⟩)) rfl rfl (by kernel_rfl)) fun a hfr => wla hfr rfl fun a hfr => ?_
  refine wl_nil (hK31 _ _ ?_)
  refine wcx_region ?_
  refine wx_split 2 ?_
  refine wlm hfr rfl fun a hfr => wlm hfr rfl fun a hfr => ?_
  refine wl_nil ?_
  rcases hq27 : rdI r23 with _ | ⟨n29, r28⟩
  ·have hdn := hd25.trans (getI_bad hq27)
   refine wx_panE (X := fun c => c = [{ v := .iface 142 (.agg #[]), recovered := false }]) 1 hfr hst rfl Tryz.call82 rfl (fun h => (number_bad w3.heap.size s r23  ((s.length - r23.length : Nat) : Int) _ rfl hs26 hsl hq27 h).mono fun e w ⟨c, h1, h2, h3⟩ => ⟨c, h1, _, h2, h3⟩) ?_
   clear hst
   rintro _ w21 e9 rfl hst
   replace hst : St No w0 [blk w0.heap.size [iv 0, iv 0, iv 0, iv 0, iv 0, iv 0, iv 0, iv 0, .string (⟨#[]⟩)] 30, blk w1.heap.size [lv] 31, blk w2.heap.size [iv 0] 54] w21 := hst.select [2, 3, 4] (by decide)
   exact find_panic hfr Tryz.call81 (dec1_pan _ _ _ _ _ _ _ _ _ _ _ _ _ _ _ hst) Tryz.results28 (fun w9 hst => ⟨(resAre_cell rfl (res_all (hst.get (k := 0) rfl) (Tryz.isAgg30 _) (Tryz.sizeOf30 _)) (resAre_cell rfl (res_one (hst.get (k := 1) rfl) (Tryz.isAgg31 _)) (resAre_cell rfl (res_one (hst.get (k := 2) rfl) (Tryz.isAgg54 _)) resAre_nil))), .inr ⟨hdn, rfl, hst.ext⟩⟩)
  have hd30 := hd25.trans (getI_ok hq27)
  have hs31 := (rdI_suf hq27).trans hs26
  refine wx_split 1 ?_
  refine wl_callE (R := fun u e' => u = iv n29 ∧ e' = blk w3.heap.size [sv s, iv ((s.length - r28.length : Nat) : Int)] 145) 1 hfr hst rfl (by decide) Tryz.call82 rfl (fun h => (number_ok w3.heap.size s r23 r28 n29 ((s.length - r23.length : Nat) : Int) _ rfl hs26 hsl hq27 h).mono fun u w ⟨h1, h2⟩ => ⟨_, ⟨h1, rfl⟩, h2⟩) ?_
  clear hfr hst
  rintro a w22 _ _ ⟨rfl, rfl⟩ hfr hst
  replace hst : St No w0 [blk w8.heap.size [iv n14, iv n19, iv n24, iv 0, iv 0, iv 0, .string (⟨#[]⟩)] 40, blk w3.heap.size [sv s, iv ((s.length - r28.length : Nat) : Int)] 145, blk w0.heap.size [iv 0, iv 0, iv 0, iv 0, iv 0, iv 0, iv 0, iv 0, .string (⟨#[]⟩)] 30, blk w1.heap.size [lv] 31, blk w2.heap.size [iv 0] 54, own lv 40 7 ((acc).map Pxy.cells)] w22 := hst
  refine wl_nil ?_
  refine wx_wl ?_
  refine wlv hfr (v_nilCheck rfl) fun a hfr => ?_
  refine wl_store 0 hfr hst rfl rfl rfl (Tryz.sizeOf3 _) rfl (lb rfl) (ds := [iv n14, iv n19, iv n24, iv n29, iv 0, iv 0, .string (⟨#[]⟩)]) rfl rfl ?_
  clear hfr hst
  intro a w23 hfr hst
  refine wl_nil ?_
  refine hK30 _ _ ?_
  replace hfr : Fr 98 [(0, _), (2, _), (3, _), (4, _), (5, _), (23, _), (24, _), (7, _), (38, _), (39, _)] [{ target := .fn (.func 81) #[.pointer (some ⟨w0.heap.size, 0, none⟩), .pointer (some ⟨w1.heap.size, 0, none⟩), .pointer (some ⟨w2.heap.size, 0, none⟩)], args := #[] }] a := hfr.pick [0, 2, 3, 4, 5, 23, 24, 7, 38, 39]
  refine wc_region ?_
  refine wlv hfr ((v_add rfl rfl (by decide)).asi (m' := 4) rfl) fun a hfr => wlm hfr rfl fun a hfr => ?_
  refine wl_nil ?_
  refine wr_succ ?_
  refine wc_seq_region fun K32 hK32 => ?_
  refine wlv hfr ((v_lt rfl rfl).asb (b' := true) rfl) fun a hfr => ?_
  refine wl_nil (hK32 _ _ ?_)
  refine wc_seq_k fun K33 hK33 => ?_
  refine wc_cond_t hfr rfl ?_
  refine wc_skip ?_
  refine hK33 _ _ ?_
  refine wc_seq_k fun K34 hK34 => ?_
  refine wc_block ?_
  refine wc_seq_region fun K35 hK35 => ?_
  refine wlv hfr (v_index (v := .pointer (some ⟨w8.heap.size, 4, none⟩)) rfl rfl (by kernel_rfl)) fun a hfr => wla hfr rfl fun a hfr => ?_
  refine wl_nil (hK35 _ _ ?_)
  refine wcx_region ?_
  refine wx_split 2 ?_
  refine wlm hfr rfl fun a hfr => wlm hfr rfl fun a hfr => ?_
  refine wl_nil ?_
  rcases hq32 : rdI r28 with _ | ⟨n34, r33⟩
  ·have hdn := hd30.trans (getI_bad hq32)
   refine wx_panE (X := fun c => c = [{ v := .iface 142 (.agg #[]), recovered := false }]) 1 hfr hst rfl Tryz.call82 rfl (fun h => (number_bad w3.heap.size s r28  ((s.length - r28.length : Nat) : Int) _ rfl hs31 hsl hq32 h).mono fun e w ⟨c, h1, h2, h3⟩ => ⟨c, h1, _, h2, h3⟩) ?_
   clear hst
   rintro _ w24 e9 rfl hst
   replace hst : St No w0 [blk w0.heap.size [iv 0, iv 0, iv 0, iv 0, iv 0, iv 0, iv 0, iv 0, .string (⟨#[]⟩)] 30, blk w1.heap.size [lv] 31, blk w2.heap.size [iv 0] 54] w24 := hst.select [2, 3, 4] (by decide)
   exact find_panic hfr Tryz.call81 (dec1_pan _ _ _ _ _ _ _ _ _ _ _ _ _ _ _ hst) Tryz.results28 (fun w9 hst => ⟨(resAre_cell rfl (res_all (hst.get (k := 0) rfl) (Tryz.isAgg30 _) (Tryz.sizeOf30 _)) (resAre_cell rfl (res_one (hst.get (k := 1) rfl) (Tryz.isAgg31 _)) (resAre_cell rfl (res_one (hst.get (k := 2) rfl) (Tryz.isAgg54 _)) resAre_nil))), .inr ⟨hdn, rfl, hst.ext⟩⟩)
  have hd35 := hd30.trans (getI_ok hq32)
  have hs36 := (rdI_suf hq32).trans hs31
  refine wx_split 1 ?_
  refine wl_callE (R := fun u e' => u = iv n34 ∧ e' = blk w3.heap.size [sv s, iv ((s.length - r33.length : Nat) : Int)] 145) 1 hfr hst rfl (by decide) Tryz.call82 rfl (fun h => (number_ok w3.heap.size s r28 r33 n34 ((s.length - r28.length : Nat) : Int) _ rfl hs31 hsl hq32 h).mono fun u w ⟨h1, h2⟩ => ⟨_, ⟨h1, rfl⟩, h2⟩) ?_
  clear hfr hst
  rintro a w25 _ _ ⟨rfl, rfl⟩ hfr hst
  replace hst : St No w0 [blk w8.heap.size [iv n14, iv n19, iv n24, iv n29, iv 0, iv 0, .string (⟨#[]⟩)] 40, blk w3.heap.size [sv s, iv ((s.length - r33.length : Nat) : Int)] 145, blk w0.heap.size [iv 0, iv 0, iv 0, iv 0, iv 0, iv 0, iv 0, iv 0, .string (⟨#[]⟩)] 30, blk w1.heap.size [lv] 31, blk w2.heap.size [iv 0] 54, own lv 40 7 ((acc).map Pxy.cells)] w25 := hst
  refine wl_nil ?_
  refine wx_wl ?_
  refine wlv hfr (v_nilCheck rfl) fun a hfr => ?_
  refine wl_store 0 hfr hst rfl rfl rfl (Tryz.sizeOf3 _) rfl (lb rfl) (ds := [iv n14, iv n19, iv n24, iv n29, iv n34, iv 0, .string (⟨#[]⟩)]) rfl rfl ?_
  clear hfr hst
  intro a w26 hfr hst
  refine wl_nil ?_
  refine hK34 _ _ ?_
  replace hfr : Fr 98 [(0, _), (2, _), (3, _), (4, _), (5, _), (23, _), (24, _), (7, _), (38, _), (39, _)] [{ target := .fn (.func 81) #[.pointer (some ⟨w0.heap.size, 0, none⟩), .pointer (some ⟨w1.heap.size, 0, none⟩), .pointer (some ⟨w2.heap.size, 0, none⟩)], args := #[] }] a := hfr.pick [0, 2, 3, 4, 5, 23, 24, 7, 38, 39]
  refine wc_region ?_
  refine wlv hfr ((v_add rfl rfl (by decide)).asi (m' := 5) rfl) fun a hfr => wlm hfr rfl fun a hfr => ?_
  refine wl_nil ?_
  refine wr_succ ?_
  refine wc_seq_region fun K36 hK36 => ?_
  refine wlv hfr ((v_lt rfl rfl).asb (b' := true) rfl) fun a hfr => ?_
  refine wl_nil (hK36 _ _ ?_)
  refine wc_seq_k fun K37 hK37 => ?_
  refine wc_cond_t hfr rfl ?_
  refine wc_skip ?_
  refine hK37 _ _ ?_
  refine wc_seq_k fun K38 hK38 => ?_
  refine wc_block ?_
  refine wc_seq_region fun K39 hK39 => ?_
  refine wlv hfr (v_index (v := .pointer (some ⟨w8.heap.size, 5, none⟩)) rfl rfl (by kernel_rfl)) fun a hfr => wla hfr rfl fun a hfr => ?_
  refine wl_nil (hK39 _ _ ?_)
  refine wcx_region ?_
  refine wx_split 2 ?_
  refine wlm hfr rfl fun a hfr => wlm hfr rfl fun a hfr => ?_
  refine wl_nil ?_
  rcases hq37 : rdI r33 with _ | ⟨n39, r38⟩
  ·have hdn := hd35.trans (getI_bad hq37)
   refine wx_panE (X := fun c => c = [{ v := .iface 142 (.agg #[]), recovered := false }]) 1 hfr hst rfl Tryz.call82 rfl (fun h => (number_bad w3.heap.size s r33  ((s.length - r33.length : Nat) : Int) _ rfl hs36 hsl hq37 h).mono fun e w ⟨c, h1, h2, h3⟩ => ⟨c, h1, _, h2, h3⟩) ?_
   clear hst
   rintro _ w27 e9 rfl hst
   replace hst : St No w0 [blk w0.heap.size [iv 0, iv 0, iv 0, iv 0, iv 0, iv 0, iv 0, iv 0, .string (⟨#[]⟩)] 30, blk w1.heap.size [lv] 31, blk w2.heap.size [iv 0] 54] w27 := hst.select [2, 3, 4] (by decide)
   exact find_panic hfr Tryz.call81 (dec1_pan _ _ _ _ _ _ _ _ _ _ _ _ _ _ _ hst) Tryz.results28 (fun w9 hst => ⟨(resAre_cell rfl (res_all (hst.get (k := 0) rfl) (Tryz.isAgg30 _) (Tryz.sizeOf30 _)) (resAre_cell rfl (res_one (hst.get (k := 1) rfl) (Tryz.isAgg31 _)) (resAre_cell rfl (res_one (hst.get (k := 2) rfl) (Tryz.isAgg54 _)) resAre_nil))), .inr ⟨hdn, rfl, hst.ext⟩⟩)
  have hd40 := hd35.trans (getI_ok hq37)
  have hs41 := (rdI_suf hq37).trans hs36
  refine wx_split 1 ?_
  refine wl_callE (R := fun u e' => u = iv n39 ∧ e' = blk w3.heap.size [sv s, iv ((s.length - r38.length : Nat) : Int)] 145) 1 hfr hst rfl (by decide) Tryz.call82 rfl (fun h => (number_ok w3.heap.size s r33 r38 n39 ((s.length - r33.length : Nat) : Int) _ rfl hs36 hsl hq37 h).mono fun u w ⟨h1, h2⟩ => ⟨_, ⟨h1, rfl⟩, h2⟩) ?_
  clear hfr hst
  rintro a w28 _ _ ⟨rfl, rfl⟩ hfr hst
  replace hst : St No w0 [blk w8.heap.size [iv n14, iv n19, iv n24, iv n29, iv n34, iv 0, .string (⟨#[]⟩)] 40, blk w3.heap.size [sv s, iv ((s.length - r38.length : Nat) : Int)] 145, blk w0.heap.size [iv 0, iv 0, iv 0, iv 0, iv 0, iv 0, iv 0, iv 0, .string (⟨#[]⟩)] 30, blk w1.heap.size [lv] 31, blk w2.heap.size [iv 0] 54, own lv 40 7 ((acc).map Pxy.cells)] w28 := hst
  refine wl_nil ?_
  refine wx_wl ?_
  refine wlv hfr (v_nilCheck rfl) fun a hfr => ?_
  refine wl_store 0 hfr hst rfl rfl rfl (Tryz.sizeOf3 _) rfl (lb rfl) (ds := [iv n14, iv n19, iv n24, iv n29, iv n34, iv n39, .string (⟨#[]⟩)]) rfl rfl ?_
  clear hfr hst
  intro a w29 hfr hst
  refine wl_nil ?_
  refine hK38 _ _ ?_
  replace hfr : Fr 98 [(0, _), (2, _), (3, _), (4, _), (5, _), (23, _), (24, _), (7, _), (38, _), (39, _)] [{ target := .fn (.func 81) #[.pointer (some ⟨w0.heap.size, 0, none⟩), .pointer (some ⟨w1.heap.size, 0, none⟩), .pointer (some ⟨w2.heap.size, 0, none⟩)], args := #[] }] a := hfr.pick [0, 2, 3, 4, 5, 23, 24, 7, 38, 39]
  refine wc_region ?_
  refine wlv hfr ((v_add rfl rfl (by decide)).asi (m' := 6) rfl) fun a hfr => wlm hfr rfl fun a hfr => ?_
  refine wl_nil ?_
  refine wr_succ ?_
  refine wc_seq_region fun K40 hK40 => ?_
  refine wlv hfr ((v_lt rfl rfl).asb (b' := false) rfl) fun a hfr => ?_
  refine wl_nil (hK40 _ _ ?_)
  refine wc_seq_k fun K41 hK41 => ?_
  refine wc_cond_f hfr rfl ?_
  refine wc_exit ?_
  refine hK14 _ _ ?_
  refine wcx_seq_region fun K42 hK42 hP42 => ?_
  refine wx_split 1 ?_
  refine wlm hfr rfl fun a hfr => ?_
  refine wl_nil ?_
  rcases hq42 : dgI r38 with _ | ⟨n44, r43⟩
  ·have hdn := hd40.trans (getD32_bad hq42)
   refine wx_panE (X := fun c => c = [{ v := .iface 142 (.agg #[]), recovered := false }]) 1 hfr hst rfl Tryz.call84 rfl (fun h => (dgr_bad w3.heap.size s r38  ((s.length - r38.length : Nat) : Int) _ rfl hs41 hsl hq42 h).mono fun e w ⟨c, h1, h2, h3⟩ => ⟨c, h1, _, h2, h3⟩) ?_
   clear hst
   rintro _ w30 e9 rfl hst
   refine hP42 _ _ _ ?_
   replace hst : St No w0 [blk w0.heap.size [iv 0, iv 0, iv 0, iv 0, iv 0, iv 0, iv 0, iv 0, .string (⟨#[]⟩)] 30, blk w1.heap.size [lv] 31, blk w2.heap.size [iv 0] 54] w30 := hst.select [2, 3, 4] (by decide)
   exact find_panic hfr Tryz.call81 (dec1_pan _ _ _ _ _ _ _ _ _ _ _ _ _ _ _ hst) Tryz.results28 (fun w9 hst => ⟨(resAre_cell rfl (res_all (hst.get (k := 0) rfl) (Tryz.isAgg30 _) (Tryz.sizeOf30 _)) (resAre_cell rfl (res_one (hst.get (k := 1) rfl) (Tryz.isAgg31 _)) (resAre_cell rfl (res_one (hst.get (k := 2) rfl) (Tryz.isAgg54 _)) resAre_nil))), .inr ⟨hdn, rfl, hst.ext⟩⟩)
  have hd45 := hd40.trans (getD32_ok hq42)
  have hs46 := (dgI_suf hq42).trans hs41
  refine wx_split 1 ?_
  refine wl_callE (R := fun u e' => u = sv n44 ∧ e' = blk w3.heap.size [sv s, iv ((s.length - r43.length : Nat) : Int)] 145) 1 hfr hst rfl (by decide) Tryz.call84 rfl (fun h => (dgr_ok w3.heap.size s r38 r43 n44 ((s.length - r38.length : Nat) : Int) _ rfl hs41 hsl hq42 h).mono fun u w ⟨h1, h2⟩ => ⟨_, ⟨h1, rfl⟩, h2⟩) ?_
  clear hfr hst
  rintro a w31 _ _ ⟨rfl, rfl⟩ hfr hst
  replace hst : St No w0 [blk w8.heap.size [iv n14, iv n19, iv n24, iv n29, iv n34, iv n39, .string (⟨#[]⟩)] 40, blk w3.heap.size [sv s, iv ((s.length - r43.length : Nat) : Int)] 145, blk w0.heap.size [iv 0, iv 0, iv 0, iv 0, iv 0, iv 0, iv 0, iv 0, .string (⟨#[]⟩)] 30, blk w1.heap.size [lv] 31, blk w2.heap.size [iv 0] 54, own lv 40 7 ((acc).map Pxy.cells)] w31 := hst
  refine wl_nil ?_
  refine wx_wl ?_
  refine wlv hfr (v_fieldAddr (v := .pointer (some ⟨w8.heap.size, 6, none⟩)) rfl (by kernel_rfl)) fun a hfr => ?_
  refine wl_store 0 hfr hst rfl rfl rfl (Tryz.sizeOf9 _) rfl (lb rfl) (ds := [iv n14, iv n19, iv n24, iv n29, iv n34, iv n39, sv n44]) rfl rfl ?_
  clear hfr hst
  intro a w32 hfr hst
  refine wl_nil (hK42 _ _ ?_)
  replace hfr : Fr 98 [(0, _), (2, _), (3, _), (4, _), (5, _), (23, _), (24, _), (7, _)] [{ target := .fn (.func 81) #[.pointer (some ⟨w0.heap.size, 0, none⟩), .pointer (some ⟨w1.heap.size, 0, none⟩), .pointer (some ⟨w2.heap.size, 0, none⟩)], args := #[] }] a := hfr.pick [0, 2, 3, 4, 5, 23, 24, 7]
  refine wc_region ?_
  refine wlv hfr (v_load_blk1 (hst.get (k := 3) rfl) rfl (Tryz.isAgg31 _) rfl) fun a hfr => ?_
  refine wlv hfr (v_load_all (hst.get (k := 0) rfl) rfl (Tryz.isAgg40 _) (Tryz.sizeOf40 _)) fun a hfr => ?_
  refine wl_buildSlice (E := 40) (sz := 7) rfl [[iv n14, iv n19, iv n24, iv n29, iv n34, iv n39, sv n44]] (by kernel_rfl) (by simp) rfl (by decide) (by decide) hfr hst ?_
  clear hfr hst
  intro a w33 hfr hst
  refine wl_append (i := 6) (sT := 31) (inf := Tryz.t40) (z := .agg #[iv 0, iv 0, iv 0, iv 0, iv 0, iv 0, .string (⟨#[]⟩)]) (b := 0) (off := 0) (m := 0) (c := 0) rfl rfl rfl (hst.ownAt (i := 0) rfl) (by simp) Tryz.underlying31 rfl rfl rfl rfl (by decide) (by simp [Value.oneCell', yv, wv, sv]) (by have hby : Tryz.t40.bytes = 64 := rfl; simp [big, hby]; omega) (by have hby : Tryz.t40.bytes = 64 := rfl; simp [big, hby]; omega) (by decide) hfr hst fun a w34 s47 hfr hst _ => ?_
  replace hst : St No w0 [own (.slice (some ⟨w32.heap.size, 0, none⟩) 1 1) 40 7 ([[iv n14, iv n19, iv n24, iv n29, iv n34, iv n39, sv n44]]), blk w8.heap.size [iv n14, iv n19, iv n24, iv n29, iv n34, iv n39, sv n44] 40, blk w3.heap.size [sv s, iv ((s.length - r43.length : Nat) : Int)] 145, blk w0.heap.size [iv 0, iv 0, iv 0, iv 0, iv 0, iv 0, iv 0, iv 0, .string (⟨#[]⟩)] 30, blk w1.heap.size [lv] 31, blk w2.heap.size [iv 0] 54, own s47 40 7 ((acc ++ [(⟨n14, n19, n24, n29, n34, n39, n44⟩ : Pxy)]).map Pxy.cells)] w34 := by rw [List.map_append]; exact hst
  refine wl_store_sl 4 hfr hst (hst.ownAt (i := 6) rfl) rfl rfl rfl (Tryz.sizeOf31 _) (lb rfl) (ds := [s47]) rfl rfl ?_
  clear hfr hst
  intro a w35 hfr hst
  refine wl_nil ?_
  refine hK11 _ _ ?_
  refine wc_region ?_
  refine wlv hfr (v_add rfl rfl ⟨by omega, by omega⟩) fun a hfr => wlm hfr rfl fun a hfr => ?_
  refine wl_nil ?_
  refine ⟨_, ?_, k + 1, acc ++ [(⟨n14, n19, n24, n29, n34, n39, n44⟩ : Pxy)], r43, s47, rfl, (by omega), (by rw [show n3.toNat - (k + 1) = mm from by omega]; exact hd45), hs46, (by rw [List.length_append, hal]; rfl), hfr.pick [0, 2, 3, 4, 5, 23, 24], hst.select [2, 3, 4, 5, 6] (by decide)⟩
  omega
 rw [hc7] at hfr
 try simp only [qz] at hc7
 have hm : n3.toNat - k = 0 := by omega
 rw [hm] at hdl
 have hdk : decodeH s = kindI 1 r _ := hdl
 refine wc_exit ?_
 refine hK7 _ _ ?_
 refine wcx_seq_region fun K43 hK43 hP43 => ?_
 refine wx_split 1 ?_
 refine wlm hfr rfl fun a hfr => ?_
 refine wl_nil ?_
 rcases hq48 : kdI 1 r with _ | r49
 ·have hdn := hdk.trans (kindI_bad hq48)
  refine wx_panE (X := fun c => c = [{ v := .iface 142 (.agg #[]), recovered := false }]) 0 hfr hst rfl Tryz.call83 rfl (fun h => (kind_bad w3.heap.size s r  1 ((s.length - r.length : Nat) : Int) _ rfl hsl2 hsl hq48 h).mono fun e w ⟨c, h1, h2, h3⟩ => ⟨c, h1, _, h2, st_none h3⟩) ?_
  clear hst
  rintro _ w36 e9 rfl hst
  refine hP43 _ _ _ ?_
  replace hst : St No w0 [blk w0.heap.size [iv 0, iv 0, iv 0, iv 0, iv 0, iv 0, iv 0, iv 0, .string (⟨#[]⟩)] 30, blk w1.heap.size [lv] 31, blk w2.heap.size [iv 0] 54] w36 := hst.select [1, 2, 3] (by decide)
  exact find_panic hfr Tryz.call81 (dec1_pan _ _ _ _ _ _ _ _ _ _ _ _ _ _ _ hst) Tryz.results28 (fun w9 hst => ⟨(resAre_cell rfl (res_all (hst.get (k := 0) rfl) (Tryz.isAgg30 _) (Tryz.sizeOf30 _)) (resAre_cell rfl (res_one (hst.get (k := 1) rfl) (Tryz.isAgg31 _)) (resAre_cell rfl (res_one (hst.get (k := 2) rfl) (Tryz.isAgg54 _)) resAre_nil))), .inr ⟨hdn, rfl, hst.ext⟩⟩)
 have hd50 := hdk.trans (kindI_ok hq48)
 have hs51 := (kdI_suf hq48).trans hsl2
 refine wx_split 1 ?_
 refine wl_callE (R := fun u e' => u = .tuple #[] ∧ e' = blk w3.heap.size [sv s, iv ((s.length - r49.length : Nat) : Int)] 145) 0 hfr hst rfl (by decide) Tryz.call83 rfl (fun h => (kind_ok w3.heap.size s r r49 1 ((s.length - r.length : Nat) : Int) _ rfl hsl2 hsl hq48 h).mono fun u w ⟨h1, h2⟩ => ⟨_, ⟨h1, rfl⟩, h2⟩) ?_
 clear hfr hst
 rintro a w37 _ _ ⟨rfl, rfl⟩ hfr hst
 replace hst : St No w0 [blk w3.heap.size [sv s, iv ((s.length - r49.length : Nat) : Int)] 145, blk w0.heap.size [iv 0, iv 0, iv 0, iv 0, iv 0, iv 0, iv 0, iv 0, .string (⟨#[]⟩)] 30, blk w1.heap.size [lv] 31, blk w2.heap.size [iv 0] 54, own lv 40 7 ((acc).map Pxy.cells)] w37 := hst
 refine wl_nil ?_
 refine wx_wl ?_
 refine wl_nil (hK43 _ _ ?_)
 refine wc_seq_k fun K44 hK44 => ?_
 refine wc_seq_region fun K45 hK45 => ?_
 refine wlv hfr (v_fieldAddr (v := .pointer (some ⟨w0.heap.size, 0, none⟩)) rfl (by kernel_rfl)) fun a hfr => ?_
 refine wlv hfr (v_fieldAddr (v := .pointer (some ⟨w0.heap.size, 1, none⟩)) rfl (by kernel_rfl)) fun a hfr => ?_
 refine wlv hfr (v_fieldAddr (v := .pointer (some ⟨w0.heap.size, 2, none⟩)) rfl (by kernel_rfl)) fun a hfr => ?_
 refine wlv hfr (v_fieldAddr (v := .pointer (some ⟨w0.heap.size, 2, none⟩)) rfl (by kernel_rfl)) fun a hfr => ?_
 refine wlv hfr (v_fieldAddr (v := .pointer (some ⟨w0.heap.size, 2, none⟩)) rfl (by kernel_rfl)) fun a hfr => ?_
 refine wlv hfr (v_fieldAddr (v := .pointer (some ⟨w0.heap.size, 3, none⟩)) rfl (by kernel_rfl)) fun a hfr => ?_
 refine wlv hfr (v_fieldAddr (v := .pointer (some ⟨w0.heap.size, 4, none⟩)) rfl (by kernel_rfl)) fun a hfr => ?_
 refine wlv hfr (v_fieldAddr (v := .pointer (some ⟨w0.heap.size, 5, none⟩)) rfl (by kernel_rfl)) fun a hfr => ?_
 refine wlv hfr (v_fieldAddr (v := .pointer (some ⟨w0.heap.size, 6, none⟩)) rfl (by kernel_rfl)) fun a hfr => ?_
 refine wlv hfr (v_fieldAddr (v := .pointer (some ⟨w0.heap.size, 6, none⟩)) rfl (by kernel_rfl)) fun a hfr => ?_
 refine wlv hfr (v_fieldAddr (v := .pointer (some ⟨w0.heap.size, 6, none⟩)) rfl (by kernel_rfl)) fun a hfr => ?_
 refine wlv hfr (v_fieldAddr (v := .pointer (some ⟨w0.heap.size, 7, none⟩)) rfl (by kernel_rfl)) fun a hfr => ?_
 refine wlv hfr (v_build (v := .agg #[.pointer (some ⟨w0.heap.size, 0, none⟩), .pointer (some ⟨w0.heap.size, 1, none⟩), .pointer (some ⟨w0.heap.size, 2, none⟩), .pointer (some ⟨w0.heap.size, 3, none⟩), .pointer (some ⟨w0.heap.size, 4, none⟩), .pointer (some ⟨w0.heap.size, 5, none⟩), .pointer (some ⟨w0.heap.size, 6, none⟩), .pointer (some ⟨w0.heap.size, 7, none⟩)]) rfl (by kernel_rfl)) fun a hfr => wlm hfr rfl fun a hfr => ?_
 refine wl_nil (hK45 _ _ ?_)
 replace hfr : Fr 98 [(0, _), (2, _), (3, _), (4, _), (5, _), (69, _), (70, _)] [{ target := .fn (.func 81) #[.pointer (some ⟨w0.heap.size, 0, none⟩), .pointer (some ⟨w1.heap.size, 0, none⟩), .pointer (some ⟨w2.heap.size, 0, none⟩)], args := #[] }] a := hfr.pick [0, 2, 3, 4, 5, 69, 70]
 refine wc_block ?_
 refine wc_rounds 9 ?_
 refine wr_succ ?_
 refine wc_seq_region fun K46 hK46 => ?_
 refine wlv hfr ((v_lt rfl rfl).asb (b' := true) rfl) fun a hfr => ?_
 refine wl_nil (hK46 _ _ ?_)
 refine wc_seq_k fun K47 hK47 => ?_
 refine wc_cond_t hfr rfl ?_
 refine wc_skip ?_
 refine hK47 _ _ ?_
 refine wc_seq_k fun K48 hK48 => ?_
 refine wc_block ?_
 refine wc_seq_region fun K49 hK49 => ?_
 refine wlv hfr (v_index (v := .pointer (some ⟨w0.heap.size, 0, none⟩)) rfl rfl (by kernel_rfl)) fun a hfr => wla hfr rfl fun a hfr => ?_
 refine wl_nil (hK49 _ _ ?_)
 refine wcx_region ?_
 refine wx_split 2 ?_
 refine wlm hfr rfl fun a hfr => wlm hfr rfl fun a hfr => ?_
 refine wl_nil ?_
 rcases hq52 : rdI r49 with _ | ⟨n54, r53⟩
 ·have hdn := hd50.trans (getI_bad hq52)
  refine wx_panE (X := fun c => c = [{ v := .iface 142 (.agg #[]), recovered := false }]) 0 hfr hst rfl Tryz.call82 rfl (fun h => (number_bad w3.heap.size s r49  ((s.length - r49.length : Nat) : Int) _ rfl hs51 hsl hq52 h).mono fun e w ⟨c, h1, h2, h3⟩ => ⟨c, h1, _, h2, h3⟩) ?_
  clear hst
  rintro _ w38 e9 rfl hst
  replace hst : St No w0 [blk w0.heap.size [iv 0, iv 0, iv 0, iv 0, iv 0, iv 0, iv 0, iv 0, .string (⟨#[]⟩)] 30, blk w1.heap.size [lv] 31, blk w2.heap.size [iv 0] 54] w38 := hst.select [1, 2, 3] (by decide)
  exact find_panic hfr Tryz.call81 (dec1_pan _ _ _ _ _ _ _ _ _ _ _ _ _ _ _ hst) Tryz.results28 (fun w9 hst => ⟨(resAre_cell rfl (res_all (hst.get (k := 0) rfl) (Tryz.isAgg30 _) (Tryz.sizeOf30 _)) (resAre_cell rfl (res_one (hst.get (k := 1) rfl) (Tryz.isAgg31 _)) (resAre_cell rfl (res_one (hst.get (k := 2) rfl) (Tryz.isAgg54 _)) resAre_nil))), .inr ⟨hdn, rfl, hst.ext⟩⟩)
 have hd55 := hd50.trans (getI_ok hq52)
 have hs56 := (rdI_suf hq52).trans hs51
 refine wx_split 1 ?_
 refine wl_callE (R := fun u e' => u = iv n54 ∧ e' = blk w3.heap.size [sv s, iv ((s.length - r53.length : Nat) : Int)] 145) 0 hfr hst rfl (by decide) Tryz.call82 rfl (fun h => (number_ok w3.heap.size s r49 r53 n54 ((s.length - r49.length : Nat) : Int) _ rfl hs51 hsl hq52 h).mono fun u w ⟨h1, h2⟩ => ⟨_, ⟨h1, rfl⟩, h2⟩) ?_
 clear hfr hst
 rintro a w39 _ _ ⟨rfl, rfl⟩ hfr hst
 replace hst : St No w0 [blk w3.heap.size [sv s, iv ((s.length - r53.length : Nat) : Int)] 145, blk w0.heap.size [iv 0, iv 0, iv 0, iv 0, iv 0, iv 0, iv 0, iv 0, .string (⟨#[]⟩)] 30, blk w1.heap.size [lv] 31, blk w2.heap.size [iv 0] 54, own lv 40 7 ((acc).map Pxy.cells)] w39 := hst
 refine wl_nil ?_
 refine wx_wl ?_
 refine wlv hfr (v_nilCheck rfl) fun a hfr => ?_
 refine wl_store 1 hfr hst rfl rfl rfl (Tryz.sizeOf3 _) rfl (lb rfl) (ds := [iv n54, iv 0, iv 0, iv 0, iv 0, iv 0, iv 0, iv 0, .string (⟨#[]⟩)]) rfl rfl ?_
 clear hfr hst
 intro a w40 hfr hst
 refine wl_nil ?_
 refine hK48 _ _ ?_
 replace hfr : Fr 98 [(0, _), (2, _), (3, _), (4, _), (5, _), (69, _), (70, _)] [{ target := .fn (.func 81) #[.pointer (some ⟨w0.heap.size, 0, none⟩), .pointer (some ⟨w1.heap.size, 0, none⟩), .pointer (some ⟨w2.heap.size, 0, none⟩)], args := #[] }] a := hfr.pick [0, 2, 3, 4, 5, 69, 70]
 refine wc_region ?_
 refine wlv hfr ((v_add rfl rfl (by decide)).asi (m' := 1) rfl) fun a hfr => wlm hfr rfl fun a hfr => ?_
 refine wl_nil ?_
 refine wr_succ ?_
 refine wc_seq_region fun K50 hK50 => ?_
 refine wlv hfr ((v_lt rfl rfl).asb (b' := true) rfl) fun a hfr => ?_
 refine wl_nil (hK50 _ _ ?_)
 refine wc_seq_k fun K51 hK51 => ?_
 refine wc_cond_t hfr rfl ?_
 refine wc_skip ?_
 refine hK51 _ _ ?_
 refine wc_seq_k fun K52 hK52 => ?_
 refine wc_block ?_
 refine wc_seq_region fun K53 hK53 => ?_
 refine wlv hfr (v_index (v := .pointer (some ⟨w0.heap.size, 1, none⟩)) rfl rfl (by kernel_rfl)) fun a hfr => wla hfr rfl fun a hfr => ?_
 refine wl_nil (hK53 _ _ ?_)
 refine wcx_region ?_
 refine wx_split 2 ?_
 refine wlm hfr rfl fun a hfr => wlm hfr rfl fun a hfr => ?_
 refine wl_nil ?_
 rcases hq57 : rdI r53 with _ | ⟨n59, r58⟩
 ·have hdn := hd55.trans (getI_bad hq57)
  refine wx_panE (X := fun c => c = [{ v := .iface 142 (.agg #[]), recovered := false }]) 0 hfr hst rfl Tryz.call82 rfl (fun h => (number_bad w3.heap.size s r53  ((s.length - r53.length : Nat) : Int) _ rfl hs56 hsl hq57 h).mono fun e w ⟨c, h1, h2, h3⟩ => ⟨c, h1, _, h2, h3⟩) ?_
  clear hst
  rintro _ w41 e9 rfl hst
  replace hst : St No w0 [blk w0.heap.size [iv n54, iv 0, iv 0, iv 0, iv 0, iv 0, iv 0, iv 0, .string (⟨#[]⟩)] 30, blk w1.heap.size [lv] 31, blk w2.heap.size [iv 0] 54] w41 := hst.select [1, 2, 3] (by decide)
  exact find_panic hfr Tryz.call81 (dec1_pan _ _ _ _ _ _ _ _ _ _ _ _ _ _ _ hst) Tryz.results28 (fun w9 hst => ⟨(resAre_cell rfl (res_all (hst.get (k := 0) rfl) (Tryz.isAgg30 _) (Tryz.sizeOf30 _)) (resAre_cell rfl (res_one (hst.get (k := 1) rfl) (Tryz.isAgg31 _)) (resAre_cell rfl (res_one (hst.get (k := 2) rfl) (Tryz.isAgg54 _)) resAre_nil))), .inr ⟨hdn, rfl, hst.ext⟩⟩)
 have hd60 := hd55.trans (getI_ok hq57)
 have hs61 := (rdI_suf hq57).trans hs56
 refine wx_split 1 ?_
 refine wl_callE (R := fun u e' => u = iv n59 ∧ e' = blk w3.heap.size [sv s, iv ((s.length - r58.length : Nat) : Int)] 145) 0 hfr hst rfl (by decide) Tryz.call82 rfl (fun h => (number_ok w3.heap.size s r53 r58 n59 ((s.length - r53.length : Nat) : Int) _ rfl hs56 hsl hq57 h).mono fun u w ⟨h1, h2⟩ => ⟨_, ⟨h1, rfl⟩, h2⟩) ?_
 clear hfr hst
 rintro a w42 _ _ ⟨rfl, rfl⟩ hfr hst
 replace hst : St No w0 [blk w3.heap.size [sv s, iv ((s.length - r58.length : Nat) : Int)] 145, blk w0.heap.size [iv n54, iv 0, iv 0, iv 0, iv 0, iv 0, iv 0, iv 0, .string (⟨#[]⟩)] 30, blk w1.heap.size [lv] 31, blk w2.heap.size [iv 0] 54, own lv 40 7 ((acc).map Pxy.cells)] w42 := hst
 refine wl_nil ?_
 refine wx_wl ?_
 refine wlv hfr (v_nilCheck rfl) fun a hfr => ?_
 refine wl_store 1 hfr hst rfl rfl rfl (Tryz.sizeOf3 _) rfl (lb rfl) (ds := [iv n54, iv n59, iv 0, iv 0, iv 0, iv 0, iv 0, iv 0, .string (⟨#[]⟩)]) rfl rfl ?_
 clear hfr hst
 intro a w43 hfr hst
 refine wl_nil ?_
 refine hK52 _ _ ?_
 replace hfr : Fr 98 [(0, _), (2, _), (3, _), (4, _), (5, _), (69, _), (70, _)] [{ target := .fn (.func 81) #[.pointer (some ⟨w0.heap.size, 0, none⟩), .pointer (some ⟨w1.heap.size, 0, none⟩), .pointer (some ⟨w2.heap.size, 0, none⟩)], args := #[] }] a := hfr.pick [0, 2, 3, 4, 5, 69, 70]
 refine wc_region ?_
 refine wlv hfr ((v_add rfl rfl (by decide)).asi (m' := 2) rfl) fun a hfr => wlm hfr rfl fun a hfr => ?_
 refine wl_nil ?_
 refine wr_succ ?_
 refine wc_seq_region fun K54 hK54 => ?_
 refine wlv hfr ((v_lt rfl rfl).asb (b' := true) rfl) fun a hfr => ?_
 refine wl_nil (hK54 _ _ ?_)
 refine wc_seq_k fun K55 hK55 => ?_
 refine wc_cond_t hfr rfl ?_
 refine wc_skip ?_
 refine hK55 _ _ ?_
 refine wc_seq_k fun K56 hK56 => ?_
 refine wc_block ?_
 refine wc_seq_region fun K57 hK57 => ?_
 refine wlv hfr (v_index (v := .pointer (some ⟨w0.heap.size, 2, none⟩)) rfl rfl (by kernel_rfl)) fun a hfr => wla hfr rfl fun a hfr => ?_
 refine wl_nil (hK57 _ _ ?_)
 refine wcx_region ?_
 refine wx_split 2 ?_
 refine wlm hfr rfl fun a hfr => wlm hfr rfl fun a hfr => ?_
 refine wl_nil ?_
 rcases hq62 : rdI r58 with _ | ⟨n64, r63⟩
 ·have hdn := hd60.trans (getI_bad hq62)
  refine wx_panE (X := fun c => c = [{ v := .iface 142 (.agg #[]), recovered := false }]) 0 hfr hst rfl Tryz.call82 rfl (fun h => (number_bad w3.heap.size s r58  ((s.length - r58.length : Nat) : Int) _ rfl hs61 hsl hq62 h).mono fun e w ⟨c, h1, h2, h3⟩ => ⟨c, h1, _, h2, h3⟩) ?_
  clear hst
  rintro _ w44 e9 rfl hst
  replace hst : St No w0 [blk w0.heap.size [iv n54, iv n59, iv 0, iv 0, iv 0, iv 0, iv 0, iv 0, .string (⟨#[]⟩)] 30, blk w1.heap.size [lv] 31, blk w2.heap.size [iv 0] 54] w44 := hst.select [1, 2, 3] (by decide)
  exact find_panic hfr Tryz.call81 (dec1_pan _ _ _ _ _ _ _ _ _ _ _ _ _ _ _ hst) Tryz.results28 (fun w9 hst => ⟨(resAre_cell rfl (res_all (hst.get (k := 0) rfl) (Tryz.isAgg30 _) (Tryz.sizeOf30 _)) (resAre_cell rfl (res_one (hst.get (k := 1) rfl) (Tryz.isAgg31 _)) (resAre_cell rfl (res_one (hst.get (k := 2) rfl) (Tryz.isAgg54 _)) resAre_nil))), .inr ⟨hdn, rfl, hst.ext⟩⟩)
 have hd65 := hd60.trans (getI_ok hq62)
 have hs66 := (rdI_suf hq62).trans hs61
 refine wx_split 1 ?_
 refine wl_callE (R := fun u e' => u = iv n64 ∧ e' = blk w3.heap.size [sv s, iv ((s.length - r63.length : Nat) : Int)] 145) 0 hfr hst rfl (by decide) Tryz.call82 rfl (fun h => (number_ok w3.heap.size s r58 r63 n64 ((s.length - r58.length : Nat) : Int) _ rfl hs61 hsl hq62 h).mono fun u w ⟨h1, h2⟩ => ⟨_, ⟨h1, rfl⟩, h2⟩) ?_
 clear hfr hst
 rintro a w45 _ _ ⟨rfl, rfl⟩ hfr hst
 replace hst : St No w0 [blk w3.heap.size [sv s, iv ((s.length - r63.length : Nat) : Int)] 145, blk w0.heap.size [iv n54, iv n59, iv 0, iv 0, iv 0, iv 0, iv 0, iv 0, .string (⟨#[]⟩)] 30, blk w1.heap.size [lv] 31, blk w2.heap.size [iv 0] 54, own lv 40 7 ((acc).map Pxy.cells)] w45 := hst
 refine wl_nil ?_
 refine wx_wl ?_
 refine wlv hfr (v_nilCheck rfl) fun a hfr => ?_
 refine wl_store 1 hfr hst rfl rfl rfl (Tryz.sizeOf3 _) rfl (lb rfl) (ds := [iv n54, iv n59, iv n64, iv 0, iv 0, iv 0, iv 0, iv 0, .string (⟨#[]⟩)]) rfl rfl ?_
 clear hfr hst
 intro a w46 hfr hst
 refine wl_nil ?_
 refine hK56 _ _ ?_
 replace hfr : Fr 98 [(0, _), (2, _), (3, _), (4, _), (5, _), (69, _), (70, _)] [{ target := .fn (.func 81) #[.pointer (some ⟨w0.heap.size, 0, none⟩), .pointer (some ⟨w1.heap.size, 0, none⟩), .pointer (some ⟨w2.heap.size, 0, none⟩)], args := #[] }] a := hfr.pick [0, 2, 3, 4, 5, 69, 70]
 refine wc_region ?_
 refine wlv hfr ((v_add rfl rfl (by decide)).asi (m' := 3) rfl) fun a hfr => wlm hfr rfl fun a hfr => ?_
 refine wl_nil ?_
 refine wr_succ ?_
 refine wc_seq_region fun K58 hK58 => ?_
 refine wlv hfr ((v_lt rfl rfl).asb (b' := true) rfl) fun a hfr => ?_
 refine wl_nil (hK58 _ _ ?_)
 refine wc_seq_k fun K59 hK59 => ?_
 refine wc_cond_t hfr rfl ?_
 refine wc_skip ?_
 refine hK59 _ _ ?_
 refine wc_seq_k fun K60 hK60 => ?_
 refine wc_block ?_
 refine wc_seq_region fun K61 hK61 => ?_
 refine wlv hfr (v_index (v := .pointer (some ⟨w0.heap.size, 3, none⟩)) rfl rfl (by kernel_rfl)) fun a hfr => wla hfr rfl fun a hfr => ?_
 refine wl_nil (hK61 _ _ ?_)
 refine wcx_region ?_
 refine wx_split 2 ?_
 refine wlm hfr rfl fun a hfr => wlm hfr rfl fun a hfr => ?_
 refine wl_nil ?_
 rcases hq67 : rdI r63 with _ | ⟨n69, r68⟩
 ·have hdn := hd65.trans (getI_bad hq67)
  refine wx_panE (X := fun c => c = [{ v := .iface 142 (.agg #[]), recovered := false }]) 0 hfr hst rfl Tryz.call82 rfl (fun h => (number_bad w3.heap.size s r63  ((s.length - r63.length : Nat) : Int) _ rfl hs66 hsl hq67 h).mono fun e w ⟨c, h1, h2, h3⟩ => ⟨c, h1, _, h2, h3⟩) ?_
  clear hst
  rintro _ w47 e9 rfl hst
  replace hst : St No w0 [blk w0.heap.size [iv n54, iv n59, iv n64, iv 0, iv 0, iv 0, iv 0, iv 0, .string (⟨#[]⟩)] 30, blk w1.heap.size [lv] 31, blk w2.heap.size [iv 0] 54] w47 := hst.select [1, 2, 3] (by decide)
  exact find_panic hfr Tryz.call81 (dec1_pan _ _ _ _ _ _ _ _ _ _ _ _ _ _ _ hst) Tryz.results28 (fun w9 hst => ⟨(resAre_cell rfl (res_all (hst.get (k := 0) rfl) (Tryz.isAgg30 _) (Tryz.sizeOf30 _)) (resAre_cell rfl (res_one (hst.get (k := 1) rfl) (Tryz.isAgg31 _)) (resAre_cell rfl (res_one (hst.get (k := 2) rfl) (Tryz.isAgg54 _)) resAre_nil))), .inr ⟨hdn, rfl, hst.ext⟩⟩)
 have hd70 := hd65.trans (getI_ok hq67)
 have hs71 := (rdI_suf hq67).trans hs66
 refine wx_split 1 ?_
 refine wl_callE (R := fun u e' => u = iv n69 ∧ e' = blk w3.heap.size [sv s, iv ((s.length - r68.length : Nat) : Int)] 145) 0 hfr hst rfl (by decide) Tryz.call82 rfl (fun h => (number_ok w3.heap.size s r63 r68 n69 ((s.length - r63.length : Nat) : Int) _ rfl hs66 hsl hq67 h).mono fun u w ⟨h1, h2⟩ => ⟨_, ⟨h1, rfl⟩, h2⟩) ?_
 clear hfr hst
 rintro a w48 _ _ ⟨rfl, rfl⟩ hfr hst
 replace hst : St No w0 [blk w3.heap.size [sv s, iv ((s.length - r68.length : Nat) : Int)] 145, blk w0.heap.size [iv n54, iv n59, iv n64, iv 0, iv 0, iv 0, iv 0, iv 0, .string (⟨#[]⟩)] 30, blk w1.heap.size [lv] 31, blk w2.heap.size [iv 0] 54, own lv 40 7 ((acc).map Pxy.cells)] w48 := hst
 refine wl_nil ?_
 refine wx_wl ?_
 refine wlv hfr (v_nilCheck rfl) fun a hfr => ?_
 refine wl_store 1 hfr hst rfl rfl rfl (Tryz.sizeOf3 _) rfl (lb rfl) (ds := [iv n54, iv n59, iv n64, iv n69, iv 0, iv 0, iv 0, iv 0, .string (⟨#[]⟩)]) rfl rfl ?_
 clear hfr hst
 intro a w49 hfr hst
 refine wl_nil ?_
 refine hK60 _ _ ?_
 replace hfr : Fr 98 [(0, _), (2, _), (3, _), (4, _), (5, _), (69, _), (70, _)] [{ target := .fn (.func 81) #[.pointer (some ⟨w0.heap.size, 0, none⟩), .pointer (some ⟨w1.heap.size, 0, none⟩), .pointer (some ⟨w2.heap.size, 0, none⟩)], args := #[] }] a := hfr.pick [0, 2, 3, 4, 5, 69, 70]
 refine wc_region ?_
 refine wlv hfr ((v_add rfl rfl (by decide)).asi (m' := 4) rfl) fun a hfr => wlm hfr rfl fun a hfr => ?_
 refine wl_nil ?_
 refine wr_succ ?_
 refine wc_seq_region fun K62 hK62 => ?_
 refine wlv hfr ((v_lt rfl rfl).asb (b' := true) rfl) fun a hfr => ?_
 refine wl_nil (hK62 _ _ ?_)
 refine wc_seq_k fun K63 hK63 => ?_
 refine wc_cond_t hfr rfl ?_
 refine wc_skip ?_
 refine hK63 _ _ ?_
 refine wc_seq_k fun K64 hK64 => ?_
 refine wc_block ?_
 refine wc_seq_region fun K65 hK65 => ?_
 refine wlv hfr (v_index (v := .pointer (some ⟨w0.heap.size, 4, none⟩)) rfl rfl (by kernel_rfl)) fun a hfr => wla hfr rfl fun a hfr => ?_
 refine wl_nil (hK65 _ _ ?_)
 refine wcx_region ?_
 refine wx_split 2 ?_
 refine wlm hfr rfl fun a hfr => wlm hfr rfl fun a hfr => ?_
 refine wl_nil ?_
 rcases hq72 : rdI r68 with _ | ⟨n74, r73⟩
 ·have hdn := hd70.trans (getI_bad hq72)
  refine wx_panE (X := fun c => c = [{ v := .iface 142 (.agg #[]), recovered := false }]) 0 hfr hst rfl Tryz.call82 rfl (fun h => (number_bad w3.heap.size s r68  ((s.length - r68.length : Nat) : Int) _ rfl hs71 hsl hq72 h).mono fun e w ⟨c, h1, h2, h3⟩ => ⟨c, h1, _, h2, h3⟩) ?_
  clear hst
  rintro _ w50 e9 rfl hst
  replace hst : St No w0 [blk w0.heap.size [iv n54, iv n59, iv n64, iv n69, iv 0, iv 0, iv 0, iv 0, .string (⟨#[]⟩)] 30, blk w1.heap.size [lv] 31, blk w2.heap.size [iv 0] 54] w50 := hst.select [1, 2, 3] (by decide)
  exact find_panic hfr Tryz.call81 (dec1_pan _ _ _ _ _ _ _ _ _ _ _ _ _ _ _ hst) Tryz.results28 (fun w9 hst => ⟨(resAre_cell rfl (res_all (hst.get (k := 0) rfl) (Tryz.isAgg30 _) (Tryz.sizeOf30 _)) (resAre_cell rfl (res_one (hst.get (k := 1) rfl) (Tryz.isAgg31 _)) (resAre_cell rfl (res_one (hst.get (k := 2) rfl) (Tryz.isAgg54 _)) resAre_nil))), .inr ⟨hdn, rfl, hst.ext⟩⟩)
 have hd75 := hd70.trans (getI_ok hq72)
 have hs76 := (rdI_suf hq72).trans hs71
 refine wx_split 1 ?_
 refine wl_callE (R := fun u e' => u = iv n74 ∧ e' = blk w3.heap.size [sv s, iv ((s.length - r73.length : Nat) : Int)] 145) 0 hfr hst rfl (by decide) Tryz.call82 rfl (fun h => (number_ok w3.heap.size s r68 r73 n74 ((s.length - r68.length : Nat) : Int) _ rfl hs71 hsl hq72 h).mono fun u w ⟨h1, h2⟩ => ⟨_, ⟨h1, rfl⟩, h2⟩) ?_
 clear hfr hst
 rintro a w51 _ _ ⟨rfl, rfl⟩ hfr hst
 replace hst : St No w0 [blk w3.heap.size [sv s, iv ((s.length - r73.length : Nat) : Int)] 145, blk w0.heap.size [iv n54, iv n59, iv n64, iv n69, iv 0, iv 0, iv 0, iv 0, .string (⟨#[]⟩)] 30, blk w1.heap.size [lv] 31, blk w2.heap.size [iv 0] 54, own lv 40 7 ((acc).map Pxy.cells)] w51 := hst
 refine wl_nil ?_
 refine wx_wl ?_
 refine wlv hfr (v_nilCheck rfl) fun a hfr => ?_
 refine wl_store 1 hfr hst rfl rfl rfl (Tryz.sizeOf3 _) rfl (lb rfl) (ds := [iv n54, iv n59, iv n64, iv n69, iv n74, iv 0, iv 0, iv 0, .string (⟨#[]⟩)]) rfl rfl ?_
 clear hfr hst
 intro a w52 hfr hst
 refine wl_nil ?_
 refine hK64 _ _ ?_
 replace hfr : Fr 98 [(0, _), (2, _), (3, _), (4, _), (5, _), (69, _), (70, _)] [{ target := .fn (.func 81) #[.pointer (some ⟨w0.heap.size, 0, none⟩), .pointer (some ⟨w1.heap.size, 0, none⟩), .pointer (some ⟨w2.heap.size, 0, none⟩)], args := #[] }] a := hfr.pick [0, 2, 3, 4, 5, 69, 70]
 refine wc_region ?_
 refine wlv hfr ((v_add rfl rfl (by decide)).asi (m' := 5) rfl) fun a hfr => wlm hfr rfl fun a hfr => ?_
 refine wl_nil ?_
 refine wr_succ ?_
 refine wc_seq_region fun K66 hK66 => ?_
 refine wlv hfr ((v_lt rfl rfl).asb (b' := true) rfl) fun a hfr => ?_
 refine wl_nil (hK66 _ _ ?_)
 refine wc_seq_k fun K67 hK67 => ?_
 refine wc_cond_t hfr rfl ?_
 refine wc_skip ?_
 refine hK67 _ _ ?_
 refine wc_seq_k fun K68 hK68 => ?_
 refine wc_block ?_
 refine wc_seq_region fun K69 hK69 => ?_
 refine wlv hfr (v_index (v := .pointer (some ⟨w0.heap.size, 5, none⟩)) rfl rfl (by kernel_rfl)) fun a hfr => wla hfr rfl fun a hfr => ?_
 refine wl_nil (hK69 _ _ ?_)
 refine wcx_region ?_
 refine wx_split 2 ?_
 refine wlm hfr rfl fun a hfr => wlm hfr rfl fun a hfr => ?_
 refine wl_nil ?_
 rcases hq77 : rdI r73 with _ | ⟨n79, r78⟩
 ·have hdn := hd75.trans (getI_bad hq77)
  refine wx_panE (X := fun c => c = [{ v := .iface 142 (.agg #[]), recovered := false }]) 0 hfr hst rfl Tryz.call82 rfl (fun h => (number_bad w3.heap.size s r73  ((s.length - r73.length : Nat) : Int) _ rfl hs76 hsl hq77 h).mono fun e w ⟨c, h1, h2, h3⟩ => ⟨c, h1, _, h2, h3⟩) ?_
  clear hst
  rintro _ w53 e9 rfl hst
  replace hst : St No w0 [blk w0.heap.size [iv n54, iv n59, iv n64, iv n69, iv n74, iv 0, iv 0, iv 0, .string (⟨#[]⟩)] 30, blk w1.heap.size [lv] 31, blk w2.heap.size [iv 0] 54] w53 := hst.select [1, 2, 3] (by decide)
  exact find_panic hfr Tryz.call81 (dec1_pan _ _ _ _ _ _ _ _ _ _ _ _ _ _ _ hst) Tryz.results28 (fun w9 hst => ⟨(resAre_cell rfl (res_all (hst.get (k := 0) rfl) (Tryz.isAgg30 _) (Tryz.sizeOf30 _)) (resAre_cell rfl (res_one (hst.get (k := 1) rfl) (Tryz.isAgg31 _)) (resAre_cell rfl (res_one (hst.get (k := 2) rfl) (Tryz.isAgg54 _)) resAre_nil))), .inr ⟨hdn, rfl, hst.ext⟩⟩)
 have hd80 := hd75.trans (getI_ok hq77)
 have hs81 := (rdI_suf hq77).trans hs76
 refine wx_split 1 ?_
 refine wl_callE (R := fun u e' => u = iv n79 ∧ e' = blk w3.heap.size [sv s, iv ((s.length - r78.length : Nat) : Int)] 145) 0 hfr hst rfl (by decide) Tryz.call82 rfl (fun h => (number_ok w3.heap.size s r73 r78 n79 ((s.length - r73.length : Nat) : Int) _ rfl hs76 hsl hq77 h).mono fun u w ⟨h1, h2⟩ => ⟨_, ⟨h1, rfl⟩, h2⟩) ?_
 clear hfr hst
 rintro a w54 _ _ ⟨rfl, rfl⟩ hfr hst
 replace hst : St No w0 [blk w3.heap.size [sv s, iv ((s.length - r78.length : Nat) : Int)] 145, blk w0.heap.size [iv n54, iv n59, iv n64, iv n69, iv n74, iv 0, iv 0, iv 0, .string (⟨#[]⟩)] 30, blk w1.heap.size [lv] 31, blk w2.heap.size [iv 0] 54, own lv 40 7 ((acc).map Pxy.cells)] w54 := hst
 refine wl_nil ?_
 refine wx_wl ?_
 refine wlv hfr (v_nilCheck rfl) fun a hfr => ?_
 refine wl_store 1 hfr hst rfl rfl rfl (Tryz.sizeOf3 _) rfl (lb rfl) (ds := [iv n54, iv n59, iv n64, iv n69, iv n74, iv n79, iv 0, iv 0, .string (⟨#[]⟩)]) rfl rfl ?_
 clear hfr hst
 intro a w55 hfr hst
 refine wl_nil ?_
 refine hK68 _ _ ?_
 replace hfr : Fr 98 [(0, _), (2, _), (3, _), (4, _), (5, _), (69, _), (70, _)] [{ target := .fn (.func 81) #[.pointer (some ⟨w0.heap.size, 0, none⟩), .pointer (some ⟨w1.heap.size, 0, none⟩), .pointer (some ⟨w2.heap.size, 0, none⟩)], args := #[] }] a := hfr.pick [0, 2, 3, 4, 5, 69, 70]
 refine wc_region ?_
 refine wlv hfr ((v_add rfl rfl (by decide)).asi (m' := 6) rfl) fun a hfr => wlm hfr rfl fun a hfr => ?_
 refine wl_nil ?_
 refine wr_succ ?_
 refine wc_seq_region fun K70 hK70 => ?_
 refine wlv hfr ((v_lt rfl rfl).asb (b' := true) rfl) fun a hfr => ?_
 refine wl_nil (hK70 _ _ ?_)
 refine wc_seq_k fun K71 hK71 => ?_
 refine wc_cond_t hfr rfl ?_
 refine wc_skip ?_
 refine hK71 _ _ ?_
 refine wc_seq_k fun K72 hK72 => ?_
 refine wc_block ?_
 refine wc_seq_region fun K73 hK73 => ?_
 refine wlv hfr (v_index (v := .pointer (some ⟨w0.heap.size, 6, none⟩)) rfl rfl (by kernel_rfl)) fun a hfr => wla hfr rfl fun a hfr => ?_
 refine wl_nil (hK73 _ _ ?_)
 refine wcx_region ?_
 refine wx_split 2 ?_
 refine wlm hfr rfl fun a hfr => wlm hfr rfl fun a hfr => ?_
 refine wl_nil ?_
 rcases hq82 : rdI r78 with _ | ⟨n84, r83⟩
 ·have hdn := hd80.trans (getI_bad hq82)
  refine wx_panE (X := fun c => c = [{ v := .iface 142 (.agg #[]), recovered := false }]) 0 hfr hst rfl Tryz.call82 rfl (fun h => (number_bad w3.heap.size s r78  ((s.length - r78.length : Nat) : Int) _ rfl hs81 hsl hq82 h).mono fun e w ⟨c, h1, h2, h3⟩ => ⟨c, h1, _, h2, h3⟩) ?_
  clear hst
  rintro _ w56 e9 rfl hst
  replace hst : St No w0 [blk w0.heap.size [iv n54, iv n59, iv n64, iv n69, iv n74, iv n79, iv 0, iv 0, .string (⟨#[]⟩)] 30, blk w1.heap.size [lv] 31, blk w2.heap.size [iv 0] 54] w56 := hst.select [1, 2, 3] (by decide)
  exact find_panic hfr Tryz.call81 (dec1_pan _ _ _ _ _ _ _ _ _ _ _ _ _ _ _ hst) Tryz.results28 (fun w9 hst => ⟨(resAre_cell rfl (res_all (hst.get (k := 0) rfl) (Tryz.isAgg30 _) (Tryz.sizeOf30 _)) (resAre_cell rfl (res_one (hst.get (k := 1) rfl) (Tryz.isAgg31 _)) (resAre_cell rfl (res_one (hst.get (k := 2) rfl) (Tryz.isAgg54 _)) resAre_nil))), .inr ⟨hdn, rfl, hst.ext⟩⟩)
 have hd85 := hd80.trans (getI_ok hq82)
 have hs86 := (rdI_suf hq82).trans hs81
 refine wx_split 1 ?_
 refine wl_callE (R := fun u e' => u = iv n84 ∧ e' = blk w3.heap.size [sv s, iv ((s.length - r83.length : Nat) : Int)] 145) 0 hfr hst rfl (by decide) Tryz.call82 rfl (fun h => (number_ok w3.heap.size s r78 r83 n84 ((s.length - r78.length : Nat) : Int) _ rfl hs81 hsl hq82 h).mono fun u w ⟨h1, h2⟩ => ⟨_, ⟨h1, rfl⟩, h2⟩) ?_
 clear hfr hst
 rintro a w57 _ _ ⟨rfl, rfl⟩ hfr hst
 replace hst : St No w0 [blk w3.heap.size [sv s, iv ((s.length - r83.length : Nat) : Int)] 145, blk w0.heap.size [iv n54, iv n59, iv n64, iv n69, iv n74, iv n79, iv 0, iv 0, .string (⟨#[]⟩)] 30, blk w1.heap.size [lv] 31, blk w2.heap.size [iv 0] 54, own lv 40 7 ((acc).map Pxy.cells)] w57 := hst
 refine wl_nil ?_
 refine wx_wl ?_
 refine wlv hfr (v_nilCheck rfl) fun a hfr => ?_
 refine wl_store 1 hfr hst rfl rfl rfl (Tryz.sizeOf3 _) rfl (lb rfl) (ds := [iv n54, iv n59, iv n64, iv n69, iv n74, iv n79, iv n84, iv 0, .string (⟨#[]⟩)]) rfl rfl ?_
 clear hfr hst
 intro a w58 hfr hst
 refine wl_nil ?_
 refine hK72 _ _ ?_
 replace hfr : Fr 98 [(0, _), (2, _), (3, _), (4, _), (5, _), (69, _), (70, _)] [{ target := .fn (.func 81) #[.pointer (some ⟨w0.heap.size, 0, none⟩), .pointer (some ⟨w1.heap.size, 0, none⟩), .pointer (some ⟨w2.heap.size, 0, none⟩)], args := #[] }] a := hfr.pick [0, 2, 3, 4, 5, 69, 70]
 refine wc_region ?_
 refine wlv hfr ((v_add rfl rfl (by decide)).asi (m' := 7) rfl) fun a hfr => wlm hfr rfl fun a hfr => ?_
 refine wl_nil ?_
 refine wr_succ ?_
 refine wc_seq_region fun K74 hK74 => ?_
 refine wlv hfr ((v_lt rfl rfl).asb (b' := true) rfl) fun a hfr => ?_
 refine wl_nil (hK74 _ _ ?_)
 refine wc_seq_k fun K75 hK75 => ?_
 refine wc_cond_t hfr rfl ?_
 refine wc_skip ?_
 refine hK75 _ _ ?_
 refine wc_seq_k fun K76 hK76 => ?_
 refine wc_block ?_
 refine wc_seq_region fun K77 hK77 => ?_
 refine wlv hfr (v_index (v := .pointer (some ⟨w0.heap.size, 7, none⟩)) rfl rfl (by kernel_rfl)) fun a hfr => wla hfr rfl fun a hfr => ?_
 refine wl_nil (hK77 _ _ ?_)
 refine wcx_region ?_
 refine wx_split 2 ?_
 refine wlm hfr rfl fun a hfr => wlm hfr rfl fun a hfr => ?_
 refine wl_nil ?_
 rcases hq87 : rdI r83 with _ | ⟨n89, r88⟩
 ·have hdn := hd85.trans (getI_bad hq87)
  refine wx_panE (X := fun c => c = [{ v := .iface 142 (.agg #[]), recovered := false }]) 0 hfr hst rfl Tryz.call82 rfl (fun h => (number_bad w3.heap.size s r83  ((s.length - r83.length : Nat) : Int) _ rfl hs86 hsl hq87 h).mono fun e w ⟨c, h1, h2, h3⟩ => ⟨c, h1, _, h2, h3⟩) ?_
  clear hst
  rintro _ w59 e9 rfl hst
  replace hst : St No w0 [blk w0.heap.size [iv n54, iv n59, iv n64, iv n69, iv n74, iv n79, iv n84, iv 0, .string (⟨#[]⟩)] 30, blk w1.heap.size [lv] 31, blk w2.heap.size [iv 0] 54] w59 := hst.select [1, 2, 3] (by decide)
  exact find_panic hfr Tryz.call81 (dec1_pan _ _ _ _ _ _ _ _ _ _ _ _ _ _ _ hst) Tryz.results28 (fun w9 hst => ⟨(resAre_cell rfl (res_all (hst.get (k := 0) rfl) (Tryz.isAgg30 _) (Tryz.sizeOf30 _)) (resAre_cell rfl (res_one (hst.get (k := 1) rfl) (Tryz.isAgg31 _)) (resAre_cell rfl (res_one (hst.get (k := 2) rfl) (Tryz.isAgg54 _)) resAre_nil))), .inr ⟨hdn, rfl, hst.ext⟩⟩)
 have hd90 := hd85.trans (getI_ok hq87)
 have hs91 := (rdI_suf hq87).trans hs86
 refine wx_split 1 ?_
 refine wl_callE (R := fun u e' => u = iv n89 ∧ e' = blk w3.heap.size [sv s, iv ((s.length - r88.length : Nat) : Int)] 145) 0 hfr hst rfl (by decide) Tryz.call82 rfl (fun h => (number_ok w3.heap.size s r83 r88 n89 ((s.length - r83.length : Nat) : Int) _ rfl hs86 hsl hq87 h).mono fun u w ⟨h1, h2⟩ => ⟨_, ⟨h1, rfl⟩, h2⟩) ?_
 clear hfr hst
 rintro a w60 _ _ ⟨rfl, rfl⟩ hfr hst
 replace hst : St No w0 [blk w3.heap.size [sv s, iv ((s.length - r88.length : Nat) : Int)] 145, blk w0.heap.size [iv n54, iv n59, iv n64, iv n69, iv n74, iv n79, iv n84, iv 0, .string (⟨#[]⟩)] 30, blk w1.heap.size [lv] 31, blk w2.heap.size [iv 0] 54, own lv 40 7 ((acc).map Pxy.cells)] w60 := hst
 refine wl_nil ?_
 refine wx_wl ?_
 refine wlv hfr (v_nilCheck rfl) fun a hfr => ?_
 refine wl_store 1 hfr hst rfl rfl rfl (Tryz.sizeOf3 _) rfl (lb rfl) (ds := [iv n54, iv n59, iv n64, iv n69, iv n74, iv n79, iv n84, iv n89, .string (⟨#[]⟩)]) rfl rfl ?_
 clear hfr hst
 intro a w61 hfr hst
 refine wl_nil ?_
 refine hK76 _ _ ?_
 replace hfr : Fr 98 [(0, _), (2, _), (3, _), (4, _), (5, _), (69, _), (70, _)] [{ target := .fn (.func 81) #[.pointer (some ⟨w0.heap.size, 0, none⟩), .pointer (some ⟨w1.heap.size, 0, none⟩), .pointer (some ⟨w2.heap.size, 0, none⟩)], args := #[] }] a := hfr.pick [0, 2, 3, 4, 5, 69, 70]
 refine wc_region ?_
 refine wlv hfr ((v_add rfl rfl (by decide)).asi (m' := 8) rfl) fun a hfr => wlm hfr rfl fun a hfr => ?_
 refine wl_nil ?_
 refine wr_succ ?_
 refine wc_seq_region fun K78 hK78 => ?_
 refine wlv hfr ((v_lt rfl rfl).asb (b' := false) rfl) fun a hfr => ?_
 refine wl_nil (hK78 _ _ ?_)
 refine wc_seq_k fun K79 hK79 => ?_
 refine wc_cond_f hfr rfl ?_
 refine wc_exit ?_
 refine hK44 _ _ ?_
 refine wcx_seq_region fun K80 hK80 hP80 => ?_
 refine wx_split 1 ?_
 refine wlm hfr rfl fun a hfr => ?_
 refine wl_nil ?_
 rcases hq92 : dgI r88 with _ | ⟨n94, r93⟩
 ·have hdn := hd90.trans (getD32_bad hq92)
  refine wx_panE (X := fun c => c = [{ v := .iface 142 (.agg #[]), recovered := false }]) 0 hfr hst rfl Tryz.call84 rfl (fun h => (dgr_bad w3.heap.size s r88  ((s.length - r88.length : Nat) : Int) _ rfl hs91 hsl hq92 h).mono fun e w ⟨c, h1, h2, h3⟩ => ⟨c, h1, _, h2, h3⟩) ?_
  clear hst
  rintro _ w62 e9 rfl hst
  refine hP80 _ _ _ ?_
  replace hst : St No w0 [blk w0.heap.size [iv n54, iv n59, iv n64, iv n69, iv n74, iv n79, iv n84, iv n89, .string (⟨#[]⟩)] 30, blk w1.heap.size [lv] 31, blk w2.heap.size [iv 0] 54] w62 := hst.select [1, 2, 3] (by decide)
  exact find_panic hfr Tryz.call81 (dec1_pan _ _ _ _ _ _ _ _ _ _ _ _ _ _ _ hst) Tryz.results28 (fun w9 hst => ⟨(resAre_cell rfl (res_all (hst.get (k := 0) rfl) (Tryz.isAgg30 _) (Tryz.sizeOf30 _)) (resAre_cell rfl (res_one (hst.get (k := 1) rfl) (Tryz.isAgg31 _)) (resAre_cell rfl (res_one (hst.get (k := 2) rfl) (Tryz.isAgg54 _)) resAre_nil))), .inr ⟨hdn, rfl, hst.ext⟩⟩)
 have hd95 := hd90.trans (getD32_ok hq92)
 have hs96 := (dgI_suf hq92).trans hs91
 refine wx_split 1 ?_
 refine wl_callE (R := fun u e' => u = sv n94 ∧ e' = blk w3.heap.size [sv s, iv ((s.length - r93.length : Nat) : Int)] 145) 0 hfr hst rfl (by decide) Tryz.call84 rfl (fun h => (dgr_ok w3.heap.size s r88 r93 n94 ((s.length - r88.length : Nat) : Int) _ rfl hs91 hsl hq92 h).mono fun u w ⟨h1, h2⟩ => ⟨_, ⟨h1, rfl⟩, h2⟩) ?_
 clear hfr hst
 rintro a w63 _ _ ⟨rfl, rfl⟩ hfr hst
 replace hst : St No w0 [blk w3.heap.size [sv s, iv ((s.length - r93.length : Nat) : Int)] 145, blk w0.heap.size [iv n54, iv n59, iv n64, iv n69, iv n74, iv n79, iv n84, iv n89, .string (⟨#[]⟩)] 30, blk w1.heap.size [lv] 31, blk w2.heap.size [iv 0] 54, own lv 40 7 ((acc).map Pxy.cells)] w63 := hst
 refine wl_nil ?_
 refine wx_wl ?_
 refine wlv hfr (v_fieldAddr (v := .pointer (some ⟨w0.heap.size, 8, none⟩)) rfl (by kernel_rfl)) fun a hfr => ?_
 refine wl_store 1 hfr hst rfl rfl rfl (Tryz.sizeOf9 _) rfl (lb rfl) (ds := [iv n54, iv n59, iv n64, iv n69, iv n74, iv n79, iv n84, iv n89, sv n94]) rfl rfl ?_
 clear hfr hst
 intro a w64 hfr hst
 refine wl_nil (hK80 _ _ ?_)
 replace hfr : Fr 98 [(0, _), (2, _), (3, _), (4, _), (5, _)] [{ target := .fn (.func 81) #[.pointer (some ⟨w0.heap.size, 0, none⟩), .pointer (some ⟨w1.heap.size, 0, none⟩), .pointer (some ⟨w2.heap.size, 0, none⟩)], args := #[] }] a := hfr.pick [0, 2, 3, 4, 5]
 refine wc_seq_k fun K81 hK81 => ?_
 refine wc_seq_region fun K82 hK82 => ?_
 refine wlm hfr rfl fun a hfr => ?_
 refine wlv hfr (v_nilCheck rfl) fun a hfr => ?_
 refine wlv hfr (v_fieldAddr (v := .pointer (some ⟨w3.heap.size, 1, none⟩)) rfl (by kernel_rfl)) fun a hfr => ?_
 refine wlv hfr (v_load_blk1 (hst.get (k := 0) rfl) rfl (Tryz.isAgg3 _) rfl) fun a hfr => wlm hfr rfl fun a hfr => ?_
 refine wlv hfr (v_len_str rfl rfl (Tryz.runUnderlying9 _)) fun a hfr => ?_
 refine wlv hfr (v_lt rfl rfl) fun a hfr => wlm hfr rfl fun a hfr => ?_
 rcases Bool.eq_false_or_eq_true (decide (((s.length - r93.length : Nat) : Int) < (s.length : Int))) with hb97 | hb97
 ·rw [hb97] at hfr
  try simp only [qz] at hb97
  have hdn := hd95.trans (shut_no1 (by intro h0; have h1 := congrArg List.length h0; rw [List.length_nil] at h1; omega))
  refine wln hfr fun a hfr => ?_
  refine wln hfr fun a hfr => ?_
  refine wln hfr fun a hfr => ?_
  refine wln hfr fun a hfr => ?_
  refine wlv hfr (v_pick_t rfl rfl) fun a hfr => ?_
  refine wl_nil (hK82 _ _ ?_)
  replace hfr : Fr 98 [(2, _), (3, _), (4, _), (93, _)] [{ target := .fn (.func 81) #[.pointer (some ⟨w0.heap.size, 0, none⟩), .pointer (some ⟨w1.heap.size, 0, none⟩), .pointer (some ⟨w2.heap.size, 0, none⟩)], args := #[] }] a := hfr.pick [2, 3, 4, 93]
  replace hst : St No w0 [_, _, _, _] w64 := hst.mask [false, true, true, true, true]
  refine wc_cond_t hfr rfl ?_
  refine wcx_region ?_
  refine wx_split 2 ?_
  refine wlv hfr (v_build (v := .agg #[]) rfl (by kernel_rfl)) fun a hfr => ?_
  refine wlv hfr (v_makeIface rfl Tryz.underlying142) fun a hfr => ?_
  refine wl_nil ?_
  refine wx_panic hfr rfl ?_
  replace hst : St No w0 [blk w0.heap.size [iv n54, iv n59, iv n64, iv n69, iv n74, iv n79, iv n84, iv n89, sv n94] 30, blk w1.heap.size [lv] 31, blk w2.heap.size [iv 0] 54] w64 := hst.select [0, 1, 2] (by decide)
  exact find_panic hfr Tryz.call81 (dec1_pan _ _ _ _ _ _ _ _ _ _ _ _ _ _ _ hst) Tryz.results28 (fun w9 hst => ⟨(resAre_cell rfl (res_all (hst.get (k := 0) rfl) (Tryz.isAgg30 _) (Tryz.sizeOf30 _)) (resAre_cell rfl (res_one (hst.get (k := 1) rfl) (Tryz.isAgg31 _)) (resAre_cell rfl (res_one (hst.get (k := 2) rfl) (Tryz.isAgg54 _)) resAre_nil))), .inr ⟨hdn, rfl, hst.ext⟩⟩)
 rw [hb97] at hfr
 try simp only [qz] at hb97
 have hrn : r93 = [] := List.eq_nil_of_length_eq_zero (by have := hs96.length_le; omega)
 refine wly hfr (v_load_all (hst.get (k := 1) rfl) rfl (Tryz.isAgg30 _) (Tryz.sizeOf30 _)) fun a hfr => wly hfr (v_load_blk1 (hst.get (k := 2) rfl) rfl (Tryz.isAgg31 _) rfl) fun a hfr => ?_
 refine wl_callpy hfr hst (by decide) rfl (by decide) rfl Tryz.call19 rfl (formed_H (x := (⟨n54, n59, n64, n69, n74, n79, n84, n89, n94⟩ : Wsh)) (ps := acc) (hst.ownAt (i := 4) rfl)) ?_
 clear hfr hst
 intro a w65 hfr hst
 refine wly hfr (v_not rfl) fun a hfr => ?_
 refine wlv hfr (v_pick_f rfl rfl) fun a hfr => ?_
 refine wl_nil (hK82 _ _ ?_)
 replace hfr : Fr 98 [(2, _), (3, _), (4, _), (93, _)] [{ target := .fn (.func 81) #[.pointer (some ⟨w0.heap.size, 0, none⟩), .pointer (some ⟨w1.heap.size, 0, none⟩), .pointer (some ⟨w2.heap.size, 0, none⟩)], args := #[] }] a := hfr.pick [2, 3, 4, 93]
 replace hst : St No w0 [_, _, _, _] w65 := hst.mask [false, true, true, true, true]
 refine wc_cond hfr rfl (fun hc98 => ?_) (fun hc98 => ?_)
 ·rw [hc98] at hfr
  try simp only [qz] at hc98
  have hdn := hd95.trans (shut_no2 hc98)
  refine wcx_region ?_
  refine wx_split 2 ?_
  refine wlv hfr (v_build (v := .agg #[]) rfl (by kernel_rfl)) fun a hfr => ?_
  refine wlv hfr (v_makeIface rfl Tryz.underlying142) fun a hfr => ?_
  refine wl_nil ?_
  refine wx_panic hfr rfl ?_
  replace hst : St No w0 [blk w0.heap.size [iv n54, iv n59, iv n64, iv n69, iv n74, iv n79, iv n84, iv n89, sv n94] 30, blk w1.heap.size [lv] 31, blk w2.heap.size [iv 0] 54] w65 := hst.select [0, 1, 2] (by decide)
  exact find_panic hfr Tryz.call81 (dec1_pan _ _ _ _ _ _ _ _ _ _ _ _ _ _ _ hst) Tryz.results28 (fun w9 hst => ⟨(resAre_cell rfl (res_all (hst.get (k := 0) rfl) (Tryz.isAgg30 _) (Tryz.sizeOf30 _)) (resAre_cell rfl (res_one (hst.get (k := 1) rfl) (Tryz.isAgg31 _)) (resAre_cell rfl (res_one (hst.get (k := 2) rfl) (Tryz.isAgg54 _)) resAre_nil))), .inr ⟨hdn, rfl, hst.ext⟩⟩)
 rw [hc98] at hfr
 try simp only [qz] at hc98
 have hd8 := hd95.trans (shut_yes hrn hc98)
 refine wc_skip ?_
 refine hK81 _ _ ?_
 refine wc_seq_k fun K83 hK83 => ?_
 refine wc_of_dr (by kernel_rfl) (dr_of_wd (by kernel_rfl) fun w66 hxz => ?_)
 replace hst := hst.grow hxz
 refine wd_sub (k := 0) 3 [1, 2] hfr (by kernel_rfl) (by kernel_rfl) (by kernel_rfl) (by rfl) ?_
 replace hfr : Fr 98 [(2, _), (3, _), (4, _), (93, _)] [{ target := .fn (.func 81) #[.pointer (some ⟨w0.heap.size, 0, none⟩), .pointer (some ⟨w1.heap.size, 0, none⟩), .pointer (some ⟨w2.heap.size, 0, none⟩)], args := #[] }] a := hfr.pick [2, 3, 4, 93]
 replace hst : St No w0 [blk w0.heap.size [iv n54, iv n59, iv n64, iv n69, iv n74, iv n79, iv n84, iv n89, sv n94] 30, blk w1.heap.size [lv] 31, blk w2.heap.size [iv 0] 54, own lv 40 7 ((acc).map Pxy.cells)] w66 := hst.select [0, 1, 2, 3] (by decide)
 refine wc_phases_set2 [2] (fun q => if q = 2 then blk w0.heap.size [iv n54, iv n59, iv n64, iv n69, iv n74, iv n79, iv n84, iv n89, sv n94] 30 else join []) (fun q => if q = 2 then blk w0.heap.size [iv n54, iv n59, iv n64, iv n69, iv n74, iv n79, iv n84, iv n89, sv n94] 30 else join []) 3 [[], [], [0]] (fun i => match i with | 0 => pv (.agg #[iv n54, iv n59, iv n64, iv n69, iv n74, iv n79, iv n84, iv n89, sv n94]) | 1 => pv (lv) | 2 => fun v E => v = undef ∧ E = [] | _ => fun _ _ => False) (by intro q; by_cases h2 : q = 2; (subst h2; rfl); simp only [h2, if_false]) hfr (H := [blk w1.heap.size [lv] 31, blk w2.heap.size [iv 0] 54, own lv 40 7 ((acc).map Pxy.cells)]) hst (by kernel_rfl) (by kernel_rfl) (by kernel_rfl) (by kernel_rfl) (by decide) (by decide) ?_ ?_ ?_ ?_ ?_ ?_
 ·intro i v E h
  match i, h with
  | 0, _ => exact by decide
  | 1, _ => exact by decide
  | 2, _ => exact by decide
  | i + 3, h => exact h.elim
 ·intro q v E hq h
  simp only [List.mem_cons, List.not_mem_nil, or_false] at hq
  rcases hq with rfl <;> exact h
 ·intro q hq
  simp only [List.mem_cons, List.not_mem_nil, or_false] at hq
  rcases hq with rfl <;> exact ⟨rfl, rfl⟩
 ·intro i hi hiq e
  match i, hi, hiq with
  | 0, _, _ =>
   intro w hst
   exact OpV.g (v_load_all (same_ok (F := fun q => if q = 2 then blk w0.heap.size [iv n54, iv n59, iv n64, iv n69, iv n74, iv n79, iv n84, iv n89, sv n94] 30 else join []) (q := 2) (hst.get (k := 0) rfl)) rfl (Tryz.isAgg30 _) (Tryz.sizeOf30 _))
  | 1, _, _ =>
   intro w hst
   exact OpV.g (v_load_blk1 (hst.get (k := 1) rfl) rfl (Tryz.isAgg31 _) rfl)
  | 2, _, h => exact absurd (by decide) h
 ·intro q hq
  simp only [List.mem_cons, List.not_mem_nil, or_false] at hq
  rcases hq with rfl
  ·rintro _ _ ⟨rfl, rfl⟩
   intro w h
   exact r_storeU (cs := [iv n54, iv n59, iv n64, iv n69, iv n74, iv n79, iv n84, iv n89, sv n94]) (ds := [iv n54, iv n59, iv n64, iv n69, iv n74, iv n79, iv n84, iv n89, sv n94]) rfl rfl h (Tryz.sizeOf30 _) rfl (lb rfl) rfl
 clear hfr hst
 rintro _ _ ⟨rfl, rfl⟩ _ _ ⟨rfl, rfl⟩ a w67 hfr hst
 replace hfr : Fr 98 [(96, _), (97, _), (2, _), (3, _), (4, _), (93, _)] [{ target := .fn (.func 81) #[.pointer (some ⟨w0.heap.size, 0, none⟩), .pointer (some ⟨w1.heap.size, 0, none⟩), .pointer (some ⟨w2.heap.size, 0, none⟩)], args := #[] }] a := hfr
 replace hst : St No w0 [blk w0.heap.size [iv n54, iv n59, iv n64, iv n69, iv n74, iv n79, iv n84, iv n89, sv n94] 30, blk w1.heap.size [lv] 31, blk w2.heap.size [iv 0] 54, own lv 40 7 ((acc).map Pxy.cells)] w67 := hst
 refine wl_nil ?_
 refine wd_lin (k := 3) 5 [4] (by kernel_rfl) (by kernel_rfl) (by kernel_rfl) ?_
 refine wl_store_sl 1 hfr hst (hst.ownAt (i := 3) rfl) rfl rfl rfl (Tryz.sizeOf31 _) (lb rfl) (ds := [lv]) rfl rfl ?_
 clear hfr hst
 intro a w68 hfr hst
 refine wl_store 2 hfr hst rfl rfl rfl (Tryz.sizeOf54 _) rfl (lb rfl) (ds := [iv 0]) rfl rfl ?_
 clear hfr hst
 intro a w69 hfr hst
 refine wl_nil ?_
 refine wd_end (by kernel_rfl) ?_
 refine hK83 _ _ ?_
 refine wc_ret ?_
 refine find_ret (vs := [.agg #[iv n54, iv n59, iv n64, iv n69, iv n74, iv n79, iv n84, iv n89, sv n94], lv, iv 0]) hfr Tryz.call81 (dec1_ret _ _ _ _) Tryz.results28 (fun w9 hx => ?_)
 have hst := hst.grow hx
 exact ⟨(resAre_cell rfl (res_all (hst.get (k := 0) rfl) (Tryz.isAgg30 _) (Tryz.sizeOf30 _)) (resAre_cell rfl (res_one (hst.get (k := 1) rfl) (Tryz.isAgg31 _)) (resAre_cell rfl (res_one (hst.get (k := 2) rfl) (Tryz.isAgg54 _)) resAre_nil))), .inl ⟨_, _, hd8, _, rfl, trivial, hst.ext, St.out (H := []) (hst.select [3] (by decide))⟩⟩
end Go.Proofs.YtmmfieceinmloaaGreatDoor
namespace Go.Proofs.YtmmfieceinmloaaGreatDoor
open Go.RowKit Go.PW
set_option linter.unusedVariables false
set_option linter.unusedSimpArgs false
set_option maxRecDepth 4000
theorem decode_yes {s : By} {x : Wsh} {ps : List Pxy} {w0 : World} (hsl : s.length ≤ 1000000) (h : decodeH s = some (x, ps)) : Ret Tryz.prog 28 #[sv s] w0 (MemR w0 (fun lv : Value => .tuple #[.agg x.cells.toArray, lv, iv 0]) (fun lv => [own lv 40 7 (ps.map Pxy.cells)]) (fun _ => True)) := by
 refine (decode_run s w0 hsl).mono fun v w hR => ?_
 rcases hR with ⟨x2, ps2, h2, hm⟩ | ⟨h2, _⟩
 ·rw [h] at h2
  simp only [Option.some.injEq, Prod.mk.injEq] at h2
  obtain ⟨rfl, rfl⟩ := h2
  exact hm
 ·rw [h] at h2; cases h2
theorem decode_no {s : By} {w0 : World} (hsl : s.length ≤ 1000000) (h : decodeH s = none) : Ret Tryz.prog 28 #[sv s] w0 fun v w => v = .tuple #[.agg [iv 0, iv 0, iv 0, iv 0, iv 0, iv 0, iv 0, iv 0, sv ([] : By)].toArray, .slice none 0 0, iv 150] ∧ Ext No w0 w := by
 refine (decode_run s w0 hsl).mono fun v w hR => ?_
 rcases hR with ⟨x2, ps2, h2, hm⟩ | ⟨_, h2⟩
 ·rw [h] at h2; cases h2
 ·exact h2
theorem encode_yes {x : Wsh} {lv : Value} {ps : List Pxy} {s : By} {w0 : World} (hlv : SlAt w0 lv 7 (ps.map Pxy.cells)) (h : encodeH x ps = some s) : Ret Tryz.prog 26 #[.agg #[iv x.signer, iv x.holder, iv x.rf, iv x.rt, iv x.carrier, iv x.serial, iv x.sf, iv x.st, sv x.sig], lv] w0 fun v w => v = .tuple #[sv s, iv 0] ∧ Ext No w0 w := by
 have := encode_ok x lv ps w0 hlv
 rw [h] at this
 exact this
theorem encode_len {x : Wsh} {ps : List Pxy} {s : By} (h : encodeH x ps = some s) : s.length ≤ 20000 ∧ 0 < s.length := by
 obtain ⟨h1, h2, h3, rfl⟩ := encode_some.1 h
 have h4 := formed_len h1
 have h5 := texts_len h3
 have h6 := (putI_len (ps.length : Int))
 have h7 : x.content.length ≤ 81 := wsh_clen x
 unfold Wsh.text
 simp only [List.length_append]
 omega
theorem ret_bool {f : FuncId} {args : Array Value} {w : World} {b c : Bool} (h : b = c) (hr : Ret Tryz.prog f args w fun v w' => v = .bool b ∧ Ext No w w') : Ret Tryz.prog f args w fun v w' => v = .bool c ∧ Ext No w w' := by subst h; exact hr
theorem why_is {kv lv : Value} {ks : List By} {x : Wsh} {ps : List Pxy} {n t re ix : Int} {w0 : World} (hkv : SlAt w0 kv 1 (ks.map fun s => [sv s])) (hlv : SlAt w0 lv 7 (ps.map Pxy.cells)) (hk0 : (blk 0 (kOf.map wv) 239).ok w0) (h : whyH ks x ps n t = (re, ix)) :
  Ret Tryz.prog 15 #[kv, .agg #[iv x.signer, iv x.holder, iv x.rf, iv x.rt, iv x.carrier, iv x.serial, iv x.sf, iv x.st, sv x.sig], lv, iv n, iv t] w0 fun v w => v = .tuple #[iv re, iv ix] ∧ Ext No w0 w := by
 have := why_ok kv lv ks x ps n t w0 hkv hlv hk0
 rw [h] at this
 exact this
theorem valid_is {kv lv : Value} {ks : List By} {x : Wsh} {ps : List Pxy} {n t : Int} {b : Bool} {w0 : World} (hkv : SlAt w0 kv 1 (ks.map fun s => [sv s])) (hlv : SlAt w0 lv 7 (ps.map Pxy.cells)) (hk0 : (blk 0 (kOf.map wv) 239).ok w0) (h : validH ks x ps n t = b) :
  Ret Tryz.prog 17 #[kv, .agg #[iv x.signer, iv x.holder, iv x.rf, iv x.rt, iv x.carrier, iv x.serial, iv x.sf, iv x.st, sv x.sig], lv, iv n, iv t] w0 fun v w => v = .bool b ∧ Ext No w0 w := by
 have := valid_ok kv lv ks x ps n t w0 hkv hlv hk0
 rw [h] at this
 exact this
def exW : Wsh := (wishedW 200).sealed (keyH 2)
def ex501 : Wsh := (wishedW 501).sealed (keyH 2)
def exP : Pxy := (grantedP 500).sealed (keyH 1)
def exO : Wsh := { exW with carrier := 4 }
def exL : Pxy := { exP with st := 600 }
def exZ : Wsh := ⟨0, 0, 0, 0, 0, 0, 0, 0, []⟩
def exC : By := accH (keyH 3) 1100 1
theorem exW_sig : exW.sig.length = 32 := sealH_len _ _
theorem exP_sig : exP.sig.length = 32 := sealH_len _ _
theorem exW_formed : formedH exW [exP] = true := by decide
theorem exZ_formed : formedH exZ [] = false := by decide
def exS : By := putI 1 ++ ([exP].flatMap Pxy.text ++ exW.text)
theorem ex_enc : encodeH exW [exP] = some exS := encode_some.2 ⟨exW_formed, exW_sig, fun p hp => by rw [List.mem_singleton.1 hp]; exact exP_sig, rfl⟩
theorem ex_chk3 : checksH (keyH 3) 1100 1 exC = true := by unfold checksH exC; rw [decide_eq_true rfl]; decide
theorem ex_chk4 : checksH (keyH 4) 1100 1 exC = false := by decide +kernel
theorem ex_why0 : whyH keysH exW [exP] 1100 150 = (0, -1) := by decide +kernel
theorem ex_why1 : whyH keysH exW [exP] 1199 199 = (0, -1) := by decide +kernel
theorem ex_why2 : whyH keysH exW [exP] 1200 150 = (3, -1) := by decide +kernel
theorem ex_why3 : whyH keysH exW [exP] 1100 200 = (2, -1) := by decide +kernel
theorem ex_why4 : whyH keysH exW [exP] 1200 200 = (2, -1) := by decide +kernel
theorem ex_why5 : whyH keysH exW [] 1100 150 = (4, -1) := by decide +kernel
theorem ex_why6 : whyH keysH ex501 [exP] 1100 150 = (5, -1) := by decide +kernel
theorem ex_why7 : whyH keysH exO [exP] 1100 150 = (6, -1) := by decide +kernel
theorem ex_why8 : whyH keysH exW [exL] 1100 150 = (6, 0) := by decide +kernel
theorem ex_why9 : whyH keysH exZ [] 0 0 = (1, -1) := by decide +kernel
theorem is_ok (x : Wsh) (lv : Value) (ps : List Pxy) (n t re ix : Int) (w0 : World) (hlv : SlAt w0 lv 7 (ps.map Pxy.cells)) (hk0 : (blk 0 (kOf.map wv) 239).ok w0) (h : whyH keysH x ps n t = (re, ix)) :
  Ret Tryz.prog 52 #[.agg #[iv x.signer, iv x.holder, iv x.rf, iv x.rt, iv x.carrier, iv x.serial, iv x.sf, iv x.st, sv x.sig], lv, iv n, iv t, iv re, iv ix] w0 fun v w => v = .bool true ∧ Ext No w0 w := by
 refine ret_of Tryz.func52 rfl Tryz.ntmps52 (lb rfl) fun a hfr => ?_
 replace hfr : Fr 43 [(0, _), (1, _), (2, _), (3, _), (4, _), (5, _)] [] a := hfr
 replace hst : St No w0 [] w0 := St.init w0
 refine wc_seq_region fun K1 hK1 => ?_
 refine wl_box hfr hst (by decide) rfl (cs := [iv x.signer, iv x.holder, iv x.rf, iv x.rt, iv x.carrier, iv x.serial, iv x.sf, iv x.st, sv x.sig]) rfl ?_
 clear hfr hst
 intro a w1 hfr hst
 refine wla hfr rfl fun a hfr => ?_
 refine wl_nil (hK1 _ _ ?_)
 refine wc_seq_k fun K2 hK2 => ?_
 refine wc_of_dr (by kernel_rfl) (dr_of_wd (by kernel_rfl) fun w2 hxz => ?_)
 replace hst := hst.grow hxz
 refine wd_sub (k := 0) 5 [0, 1, 2, 3, 4] hfr (by kernel_rfl) (by kernel_rfl) (by kernel_rfl) (by rfl) ?_
 replace hfr : Fr 43 [(0, _), (1, _), (2, _), (3, _), (4, _), (5, _), (6, _), (12, _)] [] a := hfr.pick [0, 1, 2, 3, 4, 5, 6, 12]
 refine wc_phases_q [0] (fun i => match i with | 0 => pm (fun v : Value => v) (fun v => [own v 9 1 (keysH.map fun s => [sv s])]) (fun _ => True) | _ => fun _ _ => False) 5 [[], [], [], [], []] [undef, .agg #[iv x.signer, iv x.holder, iv x.rf, iv x.rt, iv x.carrier, iv x.serial, iv x.sf, iv x.st, sv x.sig], lv, iv n, iv t] hfr hst (by kernel_rfl) (by kernel_rfl) (by kernel_rfl) ?_ ?_ ?_
 ·intro i hi hiq
  match i, hi, hiq with
  | 0, _, h => exact absurd (by simp) h
  | 1, _, _ =>
   intro w hst
   exact OpV.g (v_load_all (hst.get (k := 0) rfl) rfl (Tryz.isAgg30 _) (Tryz.sizeOf30 _))
  | 2, _, _ =>
   intro w hst
   exact OpV.g (v_move rfl)
  | 3, _, _ =>
   intro w hst
   exact OpV.g (v_move rfl)
  | 4, _, _ =>
   intro w hst
   exact OpV.g (v_move rfl)
 ·intro i hi
  simp only [List.mem_cons, List.not_mem_nil, or_false] at hi
  subst hi
  ·intro w hst
   exact g_callm Tryz.call13 rfl (keys_ok _)
 clear hfr hst
 rintro kv1 _ ⟨_, rfl, -, rfl⟩ a w3 hfr hst
 replace hfr : Fr 43 [(16, _), (17, .agg #[iv x.signer, iv x.holder, iv x.rf, iv x.rt, iv x.carrier, iv x.serial, iv x.sf, iv x.st, sv x.sig]), (18, lv), (19, iv n), (20, iv t), (0, _), (1, _), (2, _), (3, _), (4, _), (5, _), (6, _), (12, _)] [] a := hfr
 replace hst : St No w0 [_, _] w3 := hst
 refine wl_nil ?_
 refine wd_lin (k := 5) 7 [6] (by kernel_rfl) (by kernel_rfl) (by kernel_rfl) ?_
 refine wl_callp hfr hst (by decide) Tryz.call15 rfl (why_is (hst.ownAt (i := 0) rfl) (hst.arg hlv) (hst.keepb hk0) h) ?_
 clear hfr hst
 intro a w4 hfr hst
 refine wlm hfr rfl fun a hfr => ?_
 refine wl_nil ?_
 refine wd_sub (k := 7) 10 [8, 9] hfr (by kernel_rfl) (by kernel_rfl) (by kernel_rfl) (by rfl) ?_
 replace hfr : Fr 43 [(0, _), (1, _), (2, _), (3, _), (4, _), (5, _), (6, _), (12, _), (16, _), (17, _), (18, _), (19, _), (20, _), (21, _), (15, _)] [] a := hfr.pick [0, 1, 2, 3, 4, 5, 6, 12, 16, 17, 18, 19, 20, 21, 15]
 refine wc_phases_q [] (fun i => match i with | _ => fun _ _ => False) 3 [[], [], [0]] [iv re, iv ix, iv re] hfr hst (by kernel_rfl) (by kernel_rfl) (by kernel_rfl) ?_ ?_ ?_
 ·intro i hi hiq
  match i, hi, hiq with
  | 0, _, _ =>
   intro w hst
   exact OpV.g (v_extract rfl rfl)
  | 1, _, _ =>
   intro w hst
   exact OpV.g (v_extract rfl rfl)
  | 2, _, _ =>
   intro w hst
   exact OpV.g (v_assign rfl)
 ·intro i hi
  exact absurd hi (by simp)
 clear hfr hst
 intro  a w5 hfr hst
 replace hfr : Fr 43 [(22, iv re), (23, iv ix), (13, iv re), (0, _), (1, _), (2, _), (3, _), (4, _), (5, _), (6, _), (12, _), (16, _), (17, _), (18, _), (19, _), (20, _), (21, _), (15, _)] [] a := hfr
 refine wl_nil ?_
 refine wd_lin (k := 10) 11 [10] (by kernel_rfl) (by kernel_rfl) (by kernel_rfl) ?_
 refine wla hfr rfl fun a hfr => ?_
 refine wl_nil ?_
 refine wd_end (by kernel_rfl) ?_
 refine hK2 _ _ ?_
 replace hfr : Fr 43 [(1, _), (2, _), (3, _), (4, _), (5, _), (6, _), (12, _), (13, _), (14, _)] [] a := hfr.pick [1, 2, 3, 4, 5, 6, 12, 13, 14]
 replace hst : St No w0 [_] w5 := hst.mask [false, true]
 refine wc_seq_k fun K3 hK3 => ?_
 refine wc_of_dr (by kernel_rfl) (dr_of_wd (by kernel_rfl) fun w6 hxz => ?_)
 replace hst := hst.grow hxz
 refine wd_sub (k := 0) 2 [0, 1] hfr (by kernel_rfl) (by kernel_rfl) (by kernel_rfl) (by rfl) ?_
 replace hfr : Fr 43 [(1, _), (2, _), (3, _), (4, _), (5, _), (6, _), (12, _), (13, _), (14, _)] [] a := hfr.pick [1, 2, 3, 4, 5, 6, 12, 13, 14]
 refine wc_phases_q [] (fun i => match i with | _ => fun _ _ => False) 2 [[], []] [iv re, iv re] hfr hst (by kernel_rfl) (by kernel_rfl) (by kernel_rfl) ?_ ?_ ?_
 ·intro i hi hiq
  match i, hi, hiq with
  | 0, _, _ =>
   intro w hst
   exact OpV.g (v_move rfl)
  | 1, _, _ =>
   intro w hst
   exact OpV.g (v_move rfl)
 ·intro i hi
  exact absurd hi (by simp)
 clear hfr hst
 intro  a w7 hfr hst
 replace hfr : Fr 43 [(24, iv re), (25, iv re), (1, _), (2, _), (3, _), (4, _), (5, _), (6, _), (12, _), (13, _), (14, _)] [] a := hfr
 refine wl_nil ?_
 refine wd_lin (k := 2) 4 [3] (by kernel_rfl) (by kernel_rfl) (by kernel_rfl) ?_
 refine wlv hfr ((v_eq rfl rfl).asb (b' := true) (by exact decide_eq_true rfl)) fun a hfr => wlm hfr rfl fun a hfr => ?_
 refine wl_nil ?_
 refine wd_sub (k := 4) 6 [4, 5] hfr (by kernel_rfl) (by kernel_rfl) (by kernel_rfl) (by rfl) ?_
 replace hfr : Fr 43 [(1, _), (2, _), (3, _), (4, _), (5, _), (6, _), (12, _), (13, _), (14, _), (24, _), (25, _), (26, _), (27, _)] [] a := hfr.pick [1, 2, 3, 4, 5, 6, 12, 13, 14, 24, 25, 26, 27]
 refine wc_phases_q [] (fun i => match i with | _ => fun _ _ => False) 2 [[], []] [iv ix, iv ix] hfr hst (by kernel_rfl) (by kernel_rfl) (by kernel_rfl) ?_ ?_ ?_
 ·intro i hi hiq
  match i, hi, hiq with
  | 0, _, _ =>
   intro w hst
   exact OpV.g (v_move rfl)
  | 1, _, _ =>
   intro w hst
   exact OpV.g (v_move rfl)
 ·intro i hi
  exact absurd hi (by simp)
 clear hfr hst
 intro  a w8 hfr hst
 replace hfr : Fr 43 [(28, iv ix), (29, iv ix), (1, _), (2, _), (3, _), (4, _), (5, _), (6, _), (12, _), (13, _), (14, _), (24, _), (25, _), (26, _), (27, _)] [] a := hfr
 refine wl_nil ?_
 refine wd_lin (k := 6) 9 [8] (by kernel_rfl) (by kernel_rfl) (by kernel_rfl) ?_
 refine wly hfr ((v_eq rfl rfl).asb (b' := true) (by exact decide_eq_true rfl)) fun a hfr => ?_
 refine wlv hfr (v_pick_t rfl rfl) fun a hfr => wlm hfr rfl fun a hfr => ?_
 refine wl_nil ?_
 refine wd_sub (k := 9) 17 [14, 16] hfr (by kernel_rfl) (by kernel_rfl) (by kernel_rfl) (by rfl) ?_
 replace hfr : Fr 43 [(1, _), (2, _), (3, _), (4, _), (5, _), (6, _), (12, _), (13, _), (14, _), (24, _), (25, _), (26, _), (27, _), (28, _), (29, _), (30, _), (31, _), (32, _)] [] a := hfr.pick [1, 2, 3, 4, 5, 6, 12, 13, 14, 24, 25, 26, 27, 28, 29, 30, 31, 32]
 refine wc_phases_q [0] (fun i => match i with | 0 => pm (fun v : Value => v) (fun v => [own v 9 1 (keysH.map fun s => [sv s])]) (fun _ => True) | _ => fun _ _ => False) 8 [[], [], [], [], [], [0, 1, 2, 3, 4], [], [6]] [undef, .agg #[iv x.signer, iv x.holder, iv x.rf, iv x.rt, iv x.carrier, iv x.serial, iv x.sf, iv x.st, sv x.sig], lv, iv n, iv t, .bool (decide (re = 0)), iv re, .bool (decide (re = 0))] hfr hst (by kernel_rfl) (by kernel_rfl) (by kernel_rfl) ?_ ?_ ?_
 ·intro i hi hiq
  match i, hi, hiq with
  | 0, _, h => exact absurd (by simp) h
  | 1, _, _ =>
   intro w hst
   exact OpV.g (v_load_all (hst.get (k := 0) rfl) rfl (Tryz.isAgg30 _) (Tryz.sizeOf30 _))
  | 2, _, _ =>
   intro w hst
   exact OpV.g (v_move rfl)
  | 3, _, _ =>
   intro w hst
   exact OpV.g (v_move rfl)
  | 4, _, _ =>
   intro w hst
   exact OpV.g (v_move rfl)
  | 5, _, _ =>
   rintro kv2 _ ⟨_, rfl, -, rfl⟩
   intro w hst
   exact g_callp Tryz.call17 rfl (valid_is (hst.ownAt (i := 0) rfl) (hst.arg hlv) (hst.keepb hk0) (by unfold validH; rw [h]))
  | 6, _, _ =>
   intro w hst
   exact OpV.g (v_move rfl)
  | 7, _, _ =>
   intro w hst
   exact OpV.g (v_eq rfl rfl)
 ·intro i hi
  simp only [List.mem_cons, List.not_mem_nil, or_false] at hi
  subst hi
  ·intro w hst
   exact g_callm Tryz.call13 rfl (keys_ok _)
 clear hfr hst
 rintro kv2 _ ⟨_, rfl, -, rfl⟩ a w9 hfr hst
 replace hfr : Fr 43 [(33, _), (34, .agg #[iv x.signer, iv x.holder, iv x.rf, iv x.rt, iv x.carrier, iv x.serial, iv x.sf, iv x.st, sv x.sig]), (35, lv), (36, iv n), (37, iv t), (38, .bool (decide (re = 0))), (39, iv re), (40, .bool (decide (re = 0))), (1, _), (2, _), (3, _), (4, _), (5, _), (6, _), (12, _), (13, _), (14, _), (24, _), (25, _), (26, _), (27, _), (28, _), (29, _), (30, _), (31, _), (32, _)] [] a := hfr
 replace hst : St No w0 [_, _] w9 := hst
 refine wl_nil ?_
 refine wd_lin (k := 17) 20 [19] (by kernel_rfl) (by kernel_rfl) (by kernel_rfl) ?_
 rcases Bool.eq_false_or_eq_true (decide (re = 0)) with hb3 | hb3
 ·rw [hb3] at hfr
  try simp only [qz] at hb3
  refine wly hfr ((v_eq_bool rfl rfl Tryz.underlying4).asb (b' := true) rfl) fun a hfr => ?_
  refine wlv hfr (v_pick_t rfl rfl) fun a hfr => wla hfr rfl fun a hfr => ?_
  refine wl_nil ?_
  refine wd_end (by kernel_rfl) ?_
  refine hK3 _ _ ?_
  replace hfr : Fr 43 [(12, _)] [] a := hfr.pick [12]
  replace hst : St No w0 [] w9 := hst.mask [false, false]
  refine wc_ret ?_
  refine fin_ret hfr Tryz.results52 (resAre_tmp rfl resAre_nil) ?_
  exact ⟨by rfl, hst.ext⟩
 rw [hb3] at hfr
 try simp only [qz] at hb3
 refine wly hfr ((v_eq_bool rfl rfl Tryz.underlying4).asb (b' := true) rfl) fun a hfr => ?_
 refine wlv hfr (v_pick_t rfl rfl) fun a hfr => wla hfr rfl fun a hfr => ?_
 refine wl_nil ?_
 refine wd_end (by kernel_rfl) ?_
 refine hK3 _ _ ?_
 replace hfr : Fr 43 [(12, _)] [] a := hfr.pick [12]
 replace hst : St No w0 [] w9 := hst.mask [false, false]
 refine wc_ret ?_
 refine fin_ret hfr Tryz.results52 (resAre_tmp rfl resAre_nil) ?_
 exact ⟨by rfl, hst.ext⟩
end Go.Proofs.YtmmfieceinmloaaGreatDoor
namespace Go.Proofs.YtmmfieceinmloaaGreatDoor
open Go.RowKit Go.PW
set_option linter.unusedVariables false
set_option linter.unusedSimpArgs false
set_option maxRecDepth 4000
set_option maxHeartbeats 4000000 in
theorem sane_ok (w0 : World) (hk0 : (blk 0 (kOf.map wv) 239).ok w0) :
  Ret Tryz.prog 8 #[] w0 fun v w => v = .bool true ∧ Ext No w0 w := by
 refine ret_of Tryz.func8 rfl Tryz.ntmps8 (lb rfl) fun a hfr => ?_
 replace hfr : Fr 150 [] [] a := hfr
 replace hst : St No w0 [] w0 := St.init w0
 refine wc_seq_region fun K1 hK1 => ?_
 refine wla hfr rfl fun a hfr => ?_
 refine wl_nil (hK1 _ _ ?_)
 refine wc_seq_region fun K2 hK2 => ?_
 refine wl_callp hfr hst (by decide) Tryz.call50 rfl (wished_ok 200 _ (by decide) (by decide) (hst.keepb hk0)) ?_
 clear hfr hst
 intro a w1 hfr hst
 refine wl_alloc hfr hst (by decide) (Tryz.zeroValue30 _) (cs := [iv 0, iv 0, iv 0, iv 0, iv 0, iv 0, iv 0, iv 0, .string (⟨#[]⟩)]) rfl ?_
 clear hfr hst
 intro a w2 hfr hst
 refine wl_store 0 hfr hst rfl rfl rfl (Tryz.sizeOf30 _) rfl (lb rfl) (ds := [iv exW.signer, iv exW.holder, iv exW.rf, iv exW.rt, iv exW.carrier, iv exW.serial, iv exW.sf, iv exW.st, sv exW.sig]) rfl rfl ?_
 clear hfr hst
 intro a w3 hfr hst
 refine wl_nil (hK2 _ _ ?_)
 refine wc_seq_region fun K3 hK3 => ?_
 refine wl_callp hfr hst (by decide) Tryz.call51 rfl (granted_ok 500 _ (by decide) (by decide) (hst.keepb hk0)) ?_
 clear hfr hst
 intro a w4 hfr hst
 refine wl_buildSlice (E := 40) (sz := 7) rfl [[iv exP.frm, iv exP.to, iv exP.rf, iv exP.rt, iv exP.sf, iv exP.st, sv exP.sig]] (by kernel_rfl) (by simp) rfl (by decide) (by decide) hfr hst ?_
 clear hfr hst
 intro a w5 hfr hst
 refine wla hfr rfl fun a hfr => ?_
 refine wl_nil (hK3 _ _ ?_)
 refine wc_seq_region fun K4 hK4 => ?_
 refine wlv hfr (v_load_all (hst.get (k := 1) rfl) rfl (Tryz.isAgg30 _) (Tryz.sizeOf30 _)) fun a hfr => ?_
 refine wl_alloc hfr hst (by decide) (Tryz.zeroValue30 _) (cs := [iv 0, iv 0, iv 0, iv 0, iv 0, iv 0, iv 0, iv 0, .string (⟨#[]⟩)]) rfl ?_
 clear hfr hst
 intro a w6 hfr hst
 refine wl_store 0 hfr hst rfl rfl rfl (Tryz.sizeOf30 _) rfl (lb rfl) (ds := [iv exW.signer, iv exW.holder, iv exW.rf, iv exW.rt, iv exW.carrier, iv exW.serial, iv exW.sf, iv exW.st, sv exW.sig]) rfl rfl ?_
 clear hfr hst
 intro a w7 hfr hst
 refine wl_nil (hK4 _ _ ?_)
 refine wc_seq_region fun K5 hK5 => ?_
 refine wlv hfr (v_fieldAddr (v := .pointer (some ⟨w5.heap.size, 4, none⟩)) rfl (by kernel_rfl)) fun a hfr => ?_
 refine wl_store 0 hfr hst rfl rfl rfl (Tryz.sizeOf3 _) rfl (lb rfl) (ds := [iv exW.signer, iv exW.holder, iv exW.rf, iv exW.rt, iv 4, iv exW.serial, iv exW.sf, iv exW.st, sv exW.sig]) rfl rfl ?_
 clear hfr hst
 intro a w8 hfr hst
 refine wl_nil (hK5 _ _ ?_)
 refine wc_seq_region fun K6 hK6 => ?_
 refine wl_callp hfr hst (by decide) Tryz.call51 rfl (granted_ok 500 _ (by decide) (by decide) (hst.keepb hk0)) ?_
 clear hfr hst
 intro a w9 hfr hst
 refine wl_buildSlice (E := 40) (sz := 7) rfl [[iv exP.frm, iv exP.to, iv exP.rf, iv exP.rt, iv exP.sf, iv exP.st, sv exP.sig]] (by kernel_rfl) (by simp) rfl (by decide) (by decide) hfr hst ?_
 clear hfr hst
 intro a w10 hfr hst
 refine wla hfr rfl fun a hfr => ?_
 refine wl_nil (hK6 _ _ ?_)
 replace hfr : Fr 150 [(0, _), (1, _), (2, _), (3, _), (4, _)] [] a := hfr.pick [0, 1, 2, 3, 4]
 refine wc_seq_region fun K7 hK7 => ?_
 refine wlm hfr rfl fun a hfr => ?_
 refine wlv hfr ((v_indexAddr_sl (i := 0) (sT := 31) (hst.ownAt (i := 0) rfl) rfl rfl (Tryz.runUnderlying31 _) (Tryz.sizeOf40 _) (by omega) (by simp)).as (v' := slAddr (.slice (some ⟨w9.heap.size, 0, none⟩) 1 1) (0 * 7)) rfl) fun a hfr => ?_
 refine wlv hfr (v_fieldAddr_sl (k := 0 * 7) (j := 4) (hst.ownAt (i := 0) rfl) (i := 0) (by simp) rfl (fun _ _ => by kernel_rfl)) fun a hfr => ?_
 refine wlv hfr (v_fieldAddr_sl (k := 0 * 7 + 4) (j := 1) (hst.ownAt (i := 0) rfl) (i := 0) (by simp) rfl (fun _ _ => by kernel_rfl)) fun a hfr => ?_
 refine wl_store_own (k := 0) (j := 5) 0 hfr hst rfl rfl rfl (by simp) (by omega) (Tryz.sizeOf3 _) (by simp [Value.oneCell', yv, wv, sv, Value.cells]) (by decide) (els' := [[iv exP.frm, iv exP.to, iv exP.rf, iv exP.rt, iv exP.sf, iv 600, sv exP.sig]]) rfl rfl ?_
 clear hfr hst
 intro a w11 hfr hst
 refine wl_nil (hK7 _ _ ?_)
 refine wc_seq_region fun K8 hK8 => ?_
 refine wl_callp hfr hst (by decide) Tryz.call21 rfl (key_ok 3 _) ?_
 clear hfr hst
 intro a w12 hfr hst
 refine wl_callp hfr hst (by decide) Tryz.call31 rfl (account_yes (by rw [keyH_len]; decide) (hst.keepb hk0) (by decide)) ?_
 clear hfr hst
 intro a w13 hfr hst
 refine wlm hfr rfl fun a hfr => ?_
 refine wlv hfr (v_extract rfl rfl) fun a hfr => ?_
 refine wlv hfr (v_extract rfl rfl) fun a hfr => wla hfr rfl fun a hfr => wla hfr rfl fun a hfr => ?_
 refine wl_nil (hK8 _ _ ?_)
 replace hfr : Fr 150 [(0, _), (1, _), (2, _), (3, _), (4, _), (5, _), (6, _)] [] a := hfr.pick [0, 1, 2, 3, 4, 5, 6]
 refine wc_seq_region fun K9 hK9 => ?_
 refine wlv hfr (v_load_all (hst.get (k := 3) rfl) rfl (Tryz.isAgg30 _) (Tryz.sizeOf30 _)) fun a hfr => wlm hfr rfl fun a hfr => ?_
 refine wl_callp hfr hst (by decide) Tryz.call26 rfl (encode_yes (x := exW) (ps := [exP]) (hst.ownAt (i := 2) rfl) ex_enc) ?_
 clear hfr hst
 intro a w14 hfr hst
 refine wlm hfr rfl fun a hfr => ?_
 refine wlv hfr (v_extract rfl rfl) fun a hfr => ?_
 refine wlv hfr (v_extract rfl rfl) fun a hfr => wla hfr rfl fun a hfr => wla hfr rfl fun a hfr => ?_
 refine wl_nil (hK9 _ _ ?_)
 replace hfr : Fr 150 [(0, _), (1, _), (2, _), (3, _), (4, _), (5, _), (6, _), (7, _), (8, _)] [] a := hfr.pick [0, 1, 2, 3, 4, 5, 6, 7, 8]
 refine wc_seq_region fun K10 hK10 => ?_
 refine wlm hfr rfl fun a hfr => ?_
 refine wl_callm hfr hst (by decide) Tryz.call28 rfl (decode_yes (Nat.le_trans (encode_len ex_enc).1 (by decide)) (decode_encode ex_enc)) ?_
 clear hfr hst
 intro a w15 x2 hp hfr hst
 revert x2 hp hfr hst; rintro lv1 hp hfr hst
 clear hp
 replace hst : St No w0 [own lv1 40 7 ([exP].map Pxy.cells), own (.slice (some ⟨w9.heap.size, 0, none⟩) 1 1) 40 7 ([[iv exP.frm, iv exP.to, iv exP.rf, iv exP.rt, iv exP.sf, iv 600, sv exP.sig]]), blk w5.heap.size [iv exW.signer, iv exW.holder, iv exW.rf, iv exW.rt, iv 4, iv exW.serial, iv exW.sf, iv exW.st, sv exW.sig] 30, own (.slice (some ⟨w4.heap.size, 0, none⟩) 1 1) 40 7 ([[iv exP.frm, iv exP.to, iv exP.rf, iv exP.rt, iv exP.sf, iv exP.st, sv exP.sig]]), blk w1.heap.size [iv exW.signer, iv exW.holder, iv exW.rf, iv exW.rt, iv exW.carrier, iv exW.serial, iv exW.sf, iv exW.st, sv exW.sig] 30] w15 := hst
 refine wlm hfr rfl fun a hfr => ?_
 refine wlv hfr (v_extract rfl rfl) fun a hfr => ?_
 refine wlv hfr (v_extract rfl rfl) fun a hfr => ?_
 refine wlv hfr (v_extract rfl rfl) fun a hfr => ?_
 refine wl_alloc hfr hst (by decide) (Tryz.zeroValue30 _) (cs := [iv 0, iv 0, iv 0, iv 0, iv 0, iv 0, iv 0, iv 0, .string (⟨#[]⟩)]) rfl ?_
 clear hfr hst
 intro a w16 hfr hst
 refine wl_store 0 hfr hst rfl rfl rfl (Tryz.sizeOf30 _) rfl (lb rfl) (ds := [iv exW.signer, iv exW.holder, iv exW.rf, iv exW.rt, iv exW.carrier, iv exW.serial, iv exW.sf, iv exW.st, sv exW.sig]) rfl rfl ?_
 clear hfr hst
 intro a w17 hfr hst
 refine wla hfr rfl fun a hfr => wla hfr rfl fun a hfr => ?_
 refine wl_nil (hK10 _ _ ?_)
 replace hfr : Fr 150 [(0, _), (1, _), (2, _), (3, _), (4, _), (5, _), (6, _), (8, _), (9, _), (10, _), (11, _)] [] a := hfr.pick [0, 1, 2, 3, 4, 5, 6, 8, 9, 10, 11]
 refine wc_seq_k fun K11 hK11 => ?_
 refine wc_seq_region fun K12 hK12 => ?_
 refine wlm hfr rfl fun a hfr => ?_
 refine wlv hfr ((v_ne rfl rfl).asb (b' := false) rfl) fun a hfr => wlm hfr rfl fun a hfr => wly hfr (v_move rfl) fun a hfr => wly hfr ((v_ne rfl rfl).asb (b' := false) rfl) fun a hfr => ?_
 refine wlv hfr (v_pick_f rfl rfl) fun a hfr => wlm hfr rfl fun a hfr => wly hfr (v_move rfl) fun a hfr => wly hfr ((v_ne rfl rfl).asb (b' := false) rfl) fun a hfr => ?_
 refine wlv hfr (v_pick_f rfl rfl) fun a hfr => wlm hfr rfl fun a hfr => wly hfr (v_fieldAddr (v := .pointer (some ⟨w1.heap.size, 8, none⟩)) rfl (by kernel_rfl)) fun a hfr => wly hfr (v_load_blk1 (hst.get (k := 5) rfl) rfl (Tryz.isAgg9 _) rfl) fun a hfr => wly hfr (v_len_str rfl rfl (Tryz.runUnderlying9 _)) fun a hfr => wly hfr ((v_ne rfl rfl).asb (b' := false) (by rw [exW_sig]; decide)) fun a hfr => ?_
 refine wlv hfr (v_pick_f rfl rfl) fun a hfr => wlm hfr rfl fun a hfr => wly hfr (v_move rfl) fun a hfr => wly hfr ((v_indexAddr_sl (i := 0) (sT := 31) (hst.ownAt (i := 4) rfl) rfl rfl (Tryz.runUnderlying31 _) (Tryz.sizeOf40 _) (by omega) (by simp)).as (v' := slAddr (.slice (some ⟨w4.heap.size, 0, none⟩) 1 1) (0 * 7)) rfl) fun a hfr => wly hfr (v_fieldAddr_sl (k := 0 * 7) (j := 6) (hst.ownAt (i := 4) rfl) (i := 0) (by simp) rfl (fun _ _ => by kernel_rfl)) fun a hfr => wly hfr (v_load_sl1 (u := sv exP.sig) (i := 0) (j := 6) (hst.ownAt (i := 4) rfl) (by simp) rfl (Tryz.isAgg9 _) (by rfl)) fun a hfr => wly hfr (v_len_str rfl rfl (Tryz.runUnderlying9 _)) fun a hfr => wly hfr ((v_ne rfl rfl).asb (b' := false) (by rw [exP_sig]; decide)) fun a hfr => ?_
 refine wlv hfr (v_pick_f rfl rfl) fun a hfr => wlm hfr rfl fun a hfr => wly hfr (v_move rfl) fun a hfr => wly hfr (v_len_str rfl rfl (Tryz.runUnderlying9 _)) fun a hfr => wly hfr ((v_ne rfl rfl).asb (b' := false) (by first | (rw [accH_len]; decide) | (unfold exC; rw [accH_len]; decide))) fun a hfr => ?_
 refine wlv hfr (v_pick_f rfl rfl) fun a hfr => ?_
 refine wl_nil (hK12 _ _ ?_)
 replace hfr : Fr 150 [(0, _), (1, _), (2, _), (3, _), (4, _), (5, _), (9, _), (10, _), (70, _)] [] a := hfr.pick [0, 1, 2, 3, 4, 5, 9, 10, 70]
 refine wc_cond_f hfr rfl ?_
 refine wc_skip ?_
 refine hK11 _ _ ?_
 refine wc_seq_region fun K13 hK13 => ?_
 refine wlv hfr (v_load_all (hst.get (k := 5) rfl) rfl (Tryz.isAgg30 _) (Tryz.sizeOf30 _)) fun a hfr => wlm hfr rfl fun a hfr => ?_
 refine wl_callp hfr hst (by decide) Tryz.call52 rfl (is_ok exW (.slice (some ⟨w4.heap.size, 0, none⟩) 1 1) [exP] 1100 150 0 (-1) _ (hst.ownAt (i := 4) rfl) (hst.keepb hk0) ex_why0) ?_
 clear hfr hst
 intro a w18 hfr hst
 refine wlm hfr rfl fun a hfr => wly hfr (v_load_all (hst.get (k := 5) rfl) rfl (Tryz.isAgg30 _) (Tryz.sizeOf30 _)) fun a hfr => wly hfr (v_move rfl) fun a hfr => ?_
 refine wl_callpy hfr hst (by decide) rfl (by decide) rfl Tryz.call52 rfl (is_ok exW (.slice (some ⟨w4.heap.size, 0, none⟩) 1 1) [exP] 1199 199 0 (-1) _ (hst.ownAt (i := 4) rfl) (hst.keepb hk0) ex_why1) ?_
 clear hfr hst
 intro a w19 hfr hst
 refine wlv hfr (v_pick_t rfl rfl) fun a hfr => wla hfr rfl fun a hfr => ?_
 refine wl_nil (hK13 _ _ ?_)
 replace hfr : Fr 150 [(0, _), (1, _), (2, _), (3, _), (4, _), (5, _), (9, _), (10, _), (12, _)] [] a := hfr.pick [0, 1, 2, 3, 4, 5, 9, 10, 12]
 refine wc_seq_region fun K14 hK14 => ?_
 refine wlv hfr (v_load_all (hst.get (k := 5) rfl) rfl (Tryz.isAgg30 _) (Tryz.sizeOf30 _)) fun a hfr => wlm hfr rfl fun a hfr => ?_
 refine wl_callp hfr hst (by decide) Tryz.call52 rfl (is_ok exW (.slice (some ⟨w4.heap.size, 0, none⟩) 1 1) [exP] 1200 150 3 (-1) _ (hst.ownAt (i := 4) rfl) (hst.keepb hk0) ex_why2) ?_
 clear hfr hst
 intro a w20 hfr hst
 refine wlm hfr rfl fun a hfr => wly hfr (v_load_all (hst.get (k := 5) rfl) rfl (Tryz.isAgg30 _) (Tryz.sizeOf30 _)) fun a hfr => wly hfr (v_move rfl) fun a hfr => ?_
 refine wl_callpy hfr hst (by decide) rfl (by decide) rfl Tryz.call52 rfl (is_ok exW (.slice (some ⟨w4.heap.size, 0, none⟩) 1 1) [exP] 1100 200 2 (-1) _ (hst.ownAt (i := 4) rfl) (hst.keepb hk0) ex_why3) ?_
 clear hfr hst
 intro a w21 hfr hst
 refine wlv hfr (v_pick_t rfl rfl) fun a hfr => wlm hfr rfl fun a hfr => wly hfr (v_load_all (hst.get (k := 5) rfl) rfl (Tryz.isAgg30 _) (Tryz.sizeOf30 _)) fun a hfr => wly hfr (v_move rfl) fun a hfr => ?_
 refine wl_callpy hfr hst (by decide) rfl (by decide) rfl Tryz.call52 rfl (is_ok exW (.slice (some ⟨w4.heap.size, 0, none⟩) 1 1) [exP] 1200 200 2 (-1) _ (hst.ownAt (i := 4) rfl) (hst.keepb hk0) ex_why4) ?_
 clear hfr hst
 intro a w22 hfr hst
 refine wlv hfr (v_pick_t rfl rfl) fun a hfr => wlm hfr rfl fun a hfr => wly hfr (v_load_all (hst.get (k := 5) rfl) rfl (Tryz.isAgg30 _) (Tryz.sizeOf30 _)) fun a hfr => ?_
 refine wl_callpy hfr hst (by decide) rfl (by decide) rfl Tryz.call52 rfl (is_ok exW (.slice none 0 0) ([] : List Pxy) 1100 150 4 (-1) _ (slAt_nil _ _) (hst.keepb hk0) ex_why5) ?_
 clear hfr hst
 intro a w23 hfr hst
 refine wlv hfr (v_pick_t rfl rfl) fun a hfr => wlm hfr rfl fun a hfr => ?_
 refine wl_callpy hfr hst (by decide) rfl (by decide) rfl Tryz.call50 rfl (wished_ok 501 _ (by decide) (by decide) (hst.keepb hk0)) ?_
 clear hfr hst
 intro a w24 hfr hst
 refine wly hfr (v_move rfl) fun a hfr => ?_
 refine wl_callpy hfr hst (by decide) rfl (by decide) rfl Tryz.call52 rfl (is_ok ex501 (.slice (some ⟨w4.heap.size, 0, none⟩) 1 1) [exP] 1100 150 5 (-1) _ (hst.ownAt (i := 4) rfl) (hst.keepb hk0) ex_why6) ?_
 clear hfr hst
 intro a w25 hfr hst
 refine wlv hfr (v_pick_t rfl rfl) fun a hfr => wlm hfr rfl fun a hfr => wly hfr (v_load_all (hst.get (k := 3) rfl) rfl (Tryz.isAgg30 _) (Tryz.sizeOf30 _)) fun a hfr => wly hfr (v_move rfl) fun a hfr => ?_
 refine wl_callpy hfr hst (by decide) rfl (by decide) rfl Tryz.call52 rfl (is_ok exO (.slice (some ⟨w4.heap.size, 0, none⟩) 1 1) [exP] 1100 150 6 (-1) _ (hst.ownAt (i := 4) rfl) (hst.keepb hk0) ex_why7) ?_
 clear hfr hst
 intro a w26 hfr hst
 refine wlv hfr (v_pick_t rfl rfl) fun a hfr => wlm hfr rfl fun a hfr => wly hfr (v_load_all (hst.get (k := 5) rfl) rfl (Tryz.isAgg30 _) (Tryz.sizeOf30 _)) fun a hfr => wly hfr (v_move rfl) fun a hfr => ?_
 refine wl_callpy hfr hst (by decide) rfl (by decide) rfl Tryz.call52 rfl (is_ok exW (.slice (some ⟨w9.heap.size, 0, none⟩) 1 1) [exL] 1100 150 6 (0) _ (hst.ownAt (i := 2) rfl) (hst.keepb hk0) ex_why8) ?_
 clear hfr hst
 intro a w27 hfr hst
 refine wlv hfr (v_pick_t rfl rfl) fun a hfr => wlm hfr rfl fun a hfr => wly hfr (v_build (v := .agg #[iv 0, iv 0, iv 0, iv 0, iv 0, iv 0, iv 0, iv 0, .string (⟨#[]⟩)]) rfl (by kernel_rfl)) fun a hfr => ?_
 refine wl_callpy hfr hst (by decide) rfl (by decide) rfl Tryz.call52 rfl (is_ok exZ (.slice none 0 0) ([] : List Pxy) 0 0 1 (-1) _ (slAt_nil _ _) (hst.keepb hk0) ex_why9) ?_
 clear hfr hst
 intro a w28 hfr hst
 refine wlv hfr (v_pick_t rfl rfl) fun a hfr => wla hfr rfl fun a hfr => ?_
 refine wl_nil (hK14 _ _ ?_)
 replace hfr : Fr 150 [(0, _), (1, _), (2, _), (5, _), (9, _), (10, _), (12, _), (13, _)] [] a := hfr.pick [0, 1, 2, 5, 9, 10, 12, 13]
 replace hst : St No w0 [_, _, _, _] w28 := hst.mask [true, true, false, false, true, true]
 refine wc_seq_region fun K15 hK15 => ?_
 refine wlm hfr rfl fun a hfr => wlm hfr rfl fun a hfr => wly hfr (v_move rfl) fun a hfr => ?_
 refine wlv hfr (v_pick_t rfl rfl) fun a hfr => wlm hfr rfl fun a hfr => wly hfr (v_load_all (hst.get (k := 0) rfl) rfl (Tryz.isAgg30 _) (Tryz.sizeOf30 _)) fun a hfr => wly hfr (v_load_all (hst.get (k := 3) rfl) rfl (Tryz.isAgg30 _) (Tryz.sizeOf30 _)) fun a hfr => wly hfr ((v_eq_agg rfl rfl (by kernel_rfl) (eqWsh exW.signer exW.holder exW.rf exW.rt exW.carrier exW.serial exW.sf exW.st exW.sig exW.signer exW.holder exW.rf exW.rt exW.carrier exW.serial exW.sf exW.st exW.sig _)).asb (b' := true) (by exact decide_eq_true rfl)) fun a hfr => ?_
 refine wlv hfr (v_pick_t rfl rfl) fun a hfr => wlm hfr rfl fun a hfr => wly hfr (v_move rfl) fun a hfr => wly hfr (v_move rfl) fun a hfr => ?_
 refine wl_callpy hfr hst (by decide) rfl (by decide) rfl Tryz.call30 rfl (ret_bool (decide_eq_true rfl) (samep_ok lv1 (.slice (some ⟨w4.heap.size, 0, none⟩) 1 1) [exP] [exP] _ (hst.ownAt (i := 1) rfl) (hst.ownAt (i := 2) rfl))) ?_
 clear hfr hst
 intro a w29 hfr hst
 refine wlv hfr (v_pick_t rfl rfl) fun a hfr => wlm hfr rfl fun a hfr => ?_
 refine wl_callpy hfr hst (by decide) rfl (by decide) rfl Tryz.call21 rfl (key_ok 3 _) ?_
 clear hfr hst
 intro a w30 hfr hst
 refine wly hfr (v_move rfl) fun a hfr => ?_
 refine wl_callpy hfr hst (by decide) rfl (by decide) rfl Tryz.call33 rfl (ret_bool ex_chk3 (checks_ok (keyH 3) 1100 1 exC _ (by rw [keyH_len]; decide) (hst.keepb hk0))) ?_
 clear hfr hst
 intro a w31 hfr hst
 refine wlv hfr (v_pick_t rfl rfl) fun a hfr => wlm hfr rfl fun a hfr => ?_
 refine wl_callpy hfr hst (by decide) rfl (by decide) rfl Tryz.call21 rfl (key_ok 4 _) ?_
 clear hfr hst
 intro a w32 hfr hst
 refine wly hfr (v_move rfl) fun a hfr => ?_
 refine wl_callpy hfr hst (by decide) rfl (by decide) rfl Tryz.call33 rfl (ret_bool ex_chk4 (checks_ok (keyH 4) 1100 1 exC _ (by rw [keyH_len]; decide) (hst.keepb hk0))) ?_
 clear hfr hst
 intro a w33 hfr hst
 refine wly hfr ((v_not rfl).asb (b' := true) rfl) fun a hfr => ?_
 refine wlv hfr (v_pick_t rfl rfl) fun a hfr => wlm hfr rfl fun a hfr => wly hfr (v_load_all (hst.get (k := 3) rfl) rfl (Tryz.isAgg30 _) (Tryz.sizeOf30 _)) fun a hfr => wly hfr (v_move rfl) fun a hfr => ?_
 refine wl_callpy hfr hst (by decide) rfl (by decide) rfl Tryz.call19 rfl (ret_bool exW_formed (formed_H (x := exW) (ps := [exP]) (hst.ownAt (i := 2) rfl))) ?_
 clear hfr hst
 intro a w34 hfr hst
 refine wlv hfr (v_pick_t rfl rfl) fun a hfr => wlm hfr rfl fun a hfr => wly hfr (v_build (v := .agg #[iv 0, iv 0, iv 0, iv 0, iv 0, iv 0, iv 0, iv 0, .string (⟨#[]⟩)]) rfl (by kernel_rfl)) fun a hfr => ?_
 refine wl_callpy hfr hst (by decide) rfl (by decide) rfl Tryz.call19 rfl (ret_bool exZ_formed (formed_H (x := exZ) (ps := ([] : List Pxy)) (slAt_nil _ _))) ?_
 clear hfr hst
 intro a w35 hfr hst
 refine wly hfr ((v_not rfl).asb (b' := true) rfl) fun a hfr => ?_
 refine wlv hfr (v_pick_t rfl rfl) fun a hfr => wla hfr rfl fun a hfr => ?_
 refine wl_nil (hK15 _ _ ?_)
 replace hfr : Fr 150 [(0, _)] [] a := hfr.pick [0]
 replace hst : St No w0 [] w35 := hst.mask [false, false, false, false]
 refine wc_ret ?_
 refine fin_ret hfr Tryz.results8 (resAre_tmp rfl resAre_nil) ?_
 exact ⟨by rfl, hst.ext⟩
end Go.Proofs.YtmmfieceinmloaaGreatDoor
namespace Go.Proofs.YtmmfieceinmloaaGreatDoor
open Go.RowKit Go.PW
set_option linter.unusedVariables false
set_option linter.unusedSimpArgs false
set_option maxRecDepth 4000
section
variable {ks : List By} {x : Wsh} {ps : List Pxy} {n t : Int}
theorem valid_iff : validH ks x ps n t = true ↔ (¬ formB ks x ps ∧ badIdx ps 0 = none ∧ inB t x.sf (x.st - 1) = true ∧ inB n x.rf (x.rt - 1) = true ∧ chainBad x.signer x.holder ps 0 = none ∧ scopeBad x none ps 0 = none ∧ sealBad ks x ps 0 = none) := by
 unfold validH
 rw [decide_eq_true_eq]
 constructor
 ·intro h
  by_cases h0 : formB ks x ps
  ·rw [why_form h0] at h; cases h
  ·cases hb : badIdx ps 0 with
   | some i => rw [why_bad h0 (by rw [bad_idx, hb]; exact Int.natCast_nonneg i)] at h; cases h
   | none =>
    cases ht : inB t x.sf (x.st - 1) with
    | false => rw [why_time h0 hb ht] at h; cases h
    | true =>
     cases hn : inB n x.rf (x.rt - 1) with
     | false => rw [why_num h0 hb ht hn] at h; cases h
     | true =>
      have hp : whyP ks x ps n t := ⟨h0, hb, ht, hn⟩
      cases hc : chainBad x.signer x.holder ps 0 with
      | some i => rw [why_chain hp hc] at h; cases h
      | none =>
       cases hs : scopeBad x none ps 0 with
       | some i => rw [why_scope hp hc hs] at h; cases h
       | none =>
        cases hl : sealBad ks x ps 0 with
        | some i => rw [why_seal hp hc hs hl] at h; cases h
        | none => exact ⟨h0, rfl, rfl, rfl, rfl, rfl, rfl⟩
 ·rintro ⟨h0, hb, ht, hn, hc, hs, hl⟩
  rw [why_none ⟨h0, hb, ht, hn⟩ hc hs hl]
theorem why_of_valid {n0 t0 : Int} (h : validH ks x ps n0 t0 = true) (n t : Int) : whyH ks x ps n t = if inB t x.sf (x.st - 1) = false then (2, -1) else if inB n x.rf (x.rt - 1) = false then (3, -1) else (0, -1) := by
 obtain ⟨h0, hb, _, _, hc, hs, hl⟩ := valid_iff.1 h
 by_cases ht : inB t x.sf (x.st - 1) = false
 ·rw [if_pos ht, why_time h0 hb ht]
 ·rw [if_neg ht]
  by_cases hn : inB n x.rf (x.rt - 1) = false
  ·rw [if_pos hn, why_num h0 hb (by simpa using ht) hn]
  ·rw [if_neg hn, why_none ⟨h0, hb, by simpa using ht, by simpa using hn⟩ hc hs hl]
theorem valid_of_valid {n0 t0 : Int} (h : validH ks x ps n0 t0 = true) (n t : Int) : validH ks x ps n t = (inB t x.sf (x.st - 1) && inB n x.rf (x.rt - 1)) := by
 unfold validH
 rw [why_of_valid h]
 cases inB t x.sf (x.st - 1) <;> cases inB n x.rf (x.rt - 1) <;> rfl
theorem seal_all : ∀ {l : List Pxy} {k : Nat}, sealBad ks x l k = none → (∀ p ∈ l, ∃ key, keyAt ks p.frm = some key ∧ p.sig = sealH key p.content) ∧ ∃ key, keyAt ks x.signer = some key ∧ x.sig = sealH key x.content
 | [], k, h => by
  rw [sealBad] at h
  split at h
  ·rename_i hc
   cases hq : keyAt ks x.signer with
   | none => rw [hq] at hc; cases hc
   | some key => rw [hq] at hc; exact ⟨by simp, key, rfl, by simpa using hc⟩
  ·cases h
 | p :: l, k, h => by
  rw [sealBad] at h
  split at h
  ·rename_i hc
   obtain ⟨h1, h2⟩ := seal_all h
   refine ⟨fun q hq => ?_, h2⟩
   rcases List.mem_cons.1 hq with rfl | hq
   ·cases he : keyAt ks q.frm with
    | none => rw [he] at hc; cases hc
    | some key => rw [he] at hc; exact ⟨key, rfl, by simpa using hc⟩
   ·exact h1 q hq
  ·cases h
theorem keysH_get {h : Int} {key : By} (hk : keyAt keysH h = some key) : 0 ≤ h ∧ h < 10 ∧ key = keyH h := by
 unfold keyAt at hk
 split at hk
 ·cases hk
 ·rename_i h0
  have hl := (List.getElem?_eq_some_iff.1 hk).1
  rw [keysH_len] at hl
  have h1 : h < 10 := by omega
  have := keysH_at (h := h) (by omega) h1
  unfold keyAt at this
  rw [if_neg h0, hk] at this
  exact ⟨by omega, h1, Option.some.inj this⟩
end
def Mk (x : Wsh) (ps : List Pxy) : Prop := validH keysH x ps x.rf x.sf = true
section
variable {x : Wsh} {ps : List Pxy}
theorem Mk.pieces (h : Mk x ps) : ¬ formB keysH x ps ∧ badIdx ps 0 = none ∧ chainBad x.signer x.holder ps 0 = none ∧ scopeBad x none ps 0 = none ∧ sealBad keysH x ps 0 = none := by
 obtain ⟨h0, hb, _, _, hc, hs, hl⟩ := valid_iff.1 h
 exact ⟨h0, hb, hc, hs, hl⟩
theorem Mk.ok (h : Mk x ps) : x.ok = true := by
 have := h.pieces.1
 cases hx : x.ok with
 | true => rfl
 | false => exact absurd (.inr (.inr (.inl hx))) this
theorem Mk.len (h : Mk x ps) : ps.length ≤ 4 := Nat.le_of_not_lt fun hl => h.pieces.1 (.inr (.inr (.inr hl)))
theorem Mk.formed (h : Mk x ps) : formedH x ps = true := by
 unfold formedH
 rw [h.ok, h.pieces.2.1, decide_eq_true h.len]; rfl
theorem Mk.sgn (h : Mk x ps) : 0 ≤ x.signer ∧ x.signer < 10 ∧ x.sig = sealH (keyH x.signer) x.content := by
 obtain ⟨key, h1, h2⟩ := (seal_all h.pieces.2.2.2.2).2
 obtain ⟨h3, h4, rfl⟩ := keysH_get h1
 exact ⟨h3, h4, h2⟩
theorem Mk.each (h : Mk x ps) {p : Pxy} (hp : p ∈ ps) : 0 ≤ p.frm ∧ p.frm < 10 ∧ p.sig = sealH (keyH p.frm) p.content ∧ p.ok = true := by
 obtain ⟨key, h1, h2⟩ := (seal_all h.pieces.2.2.2.2).1 p hp
 obtain ⟨h3, h4, rfl⟩ := keysH_get h1
 exact ⟨h3, h4, h2, badIdx_all h.pieces.2.1 p hp⟩
theorem Mk.same (h : Mk x ps) : x.sealed (keyH x.signer) = x := by
 have := h.sgn.2.2
 unfold Wsh.sealed
 rw [← this]
theorem Mk.xsig (h : Mk x ps) : x.sig.length = 32 := by rw [h.sgn.2.2]; exact sealH_len _ _
theorem Mk.psig (h : Mk x ps) : ∀ p ∈ ps, p.sig.length = 32 := fun p hp => by rw [(h.each hp).2.2.1]; exact sealH_len _ _
theorem Mk.enc (h : Mk x ps) : ∃ s, encodeH x ps = some s := ⟨_, encode_some.2 ⟨h.formed, h.xsig, h.psig, rfl⟩⟩
theorem Mk.valid (h : Mk x ps) (n t : Int) : validH keysH x ps n t = (inB t x.sf (x.st - 1) && inB n x.rf (x.rt - 1)) := valid_of_valid h n t
theorem Mk.here (h : Mk x ps) : validH keysH x ps x.rf x.sf = true := h
end
theorem made_mk (holder r0 r1 s0 s1 carrier serial : Int) (l : List Cin) : Mk (madeW holder r0 r1 s0 s1 carrier serial l) (madeL holder r0 r1 s0 s1 l) := by
 have hb := Wsh.ok_bnd (madeW_ok holder r0 r1 s0 s1 carrier serial l)
 unfold Mk validH
 rw [made_why, if_neg, if_neg]
 ·rfl
 ·simp [inB]; omega
 ·simp [inB]; omega
theorem made_x {holder r0 r1 s0 s1 carrier serial : Int} {cv : Value} {ys : List Cin} {w0 : World} {x : Wsh} {ps : List Pxy} (hx : madeW holder r0 r1 s0 s1 carrier serial ys = x) (hps : madeL holder r0 r1 s0 s1 ys = ps) (hcv : SlAt w0 cv 5 (ys.map Cin.cells)) (hys : ∀ y ∈ ys, y.wt) (h0 : i64 holder) (h1 : i64 r0) (h2 : i64 r1) (h3 : i64 s0) (h4 : i64 s1) (h5 : i64 carrier) (h6 : i64 serial) :
  Ret Tryz.prog 9 #[.agg #[iv holder, iv r0, iv r1, iv s0, iv s1, iv carrier, iv serial, cv]] w0 (MemR w0 (fun v : Value => .tuple #[.agg #[iv x.signer, iv x.holder, iv x.rf, iv x.rt, iv x.carrier, iv x.serial, iv x.sf, iv x.st, sv x.sig], v]) (fun v => [own v 40 7 (ps.map Pxy.cells)]) (fun _ => True)) := by
 subst hx; subst hps
 exact made_ok holder r0 r1 s0 s1 carrier serial cv ys w0 hcv hys h0 h1 h2 h3 h4 h5 h6
end Go.Proofs.YtmmfieceinmloaaGreatDoor
namespace Go.Proofs.YtmmfieceinmloaaGreatDoor
open Go.RowKit Go.PW
set_option linter.unusedVariables false
set_option linter.unusedSimpArgs false
set_option maxRecDepth 4000
theorem len2 {α : Type} {l : List α} (h : l.length = 2) : ∃ a0 a1, l = [a0, a1] := by
 match l, h with
 | [a0, a1], _ => exact ⟨_, _, rfl⟩
theorem len5 {α : Type} {l : List α} (h : l.length = 5) : ∃ a0 a1 a2 a3 a4, l = [a0, a1, a2, a3, a4] := by
 match l, h with
 | [a0, a1, a2, a3, a4], _ => exact ⟨_, _, _, _, _, rfl⟩
theorem len8 {α : Type} {l : List α} (h : l.length = 8) : ∃ a0 a1 a2 a3 a4 a5 a6 a7, l = [a0, a1, a2, a3, a4, a5, a6, a7] := by
 match l, h with
 | [a0, a1, a2, a3, a4, a5, a6, a7], _ => exact ⟨_, _, _, _, _, _, _, _, rfl⟩
open Go.ChangeShapes Go.WideShapes Go.ChangeAt
section
variable {H : Type} {enc : TypeId × Value → H} {W : World} {base b0 : Nat} {sp : Nat → Bool} {hd : Bool} {v : Value} {d : DataW H} {ps : List MemPlace} {r : Reach}
theorem i64_is {n : Int} (h : Go.PW.i64 n) : i64 n := h
theorem open_cins {t : TypeId} (ht : Tryz.prog.underlying t = some (.slice 108)) {fuel : Nat} {x : DataW H × List MemPlace} (hok : Cell.okWide Tryz.prog W r b0 t v) (hw : Wt Tryz.prog t x.1) (h : DataW.trod enc Tryz.prog W base sp hd fuel t [v] = some x) :
  ∃ ys : List Cin, SlAt W v 5 (ys.map Cin.cells) ∧ ∀ y ∈ ys, y.wt := by
 obtain ⟨els, h1, h2⟩ := trod_sl 5 ht (by kernel_rfl) (by decide) (of_decide_eq_true (by kernel_rfl)) hok hw h
 exact sl_map (f := Cin.cells) (q := Cin.wt) h1 fun i hi => by
  obtain ⟨n, y, hy, _⟩ := h2 i hi
  obtain ⟨zs, hz, he, hw⟩ := trod_ints 5 Tryz.underlying108 Tryz.underlying3 (by kernel_rfl) hy (h1.1 _ (List.getElem_mem hi))
  obtain ⟨a0, a1, a2, a3, a4, rfl⟩ := len5 hz
  exact ⟨⟨a0, a1, a2, a3, a4⟩, he, hw a0 (by simp), hw a1 (by simp), hw a2 (by simp), hw a3 (by simp), hw a4 (by simp)⟩
theorem open_byte {t : TypeId} (ht : Tryz.prog.underlying t = some (.int .u8)) (hval : Value.okWide Tryz.prog W r b0 t v) (hd0 : DataW.Trod enc Tryz.prog W base sp hd t v d ps) : ∃ b : UInt8, v = yv b := by
 obtain ⟨n, rfl, _, _, hw⟩ := open_int ht hval hd0
 have h : 0 ≤ n ∧ n ≤ 255 := by simp [Lit.wf, IntKind.min, IntKind.max, IntKind.signed, IntKind.bits] at hw; exact hw
 refine ⟨UInt8.ofNat n.toNat, ?_⟩
 unfold yv
 rw [UInt8.toNat_ofNat_of_lt' (by simp only [UInt8.size]; omega), Int.toNat_of_nonneg h.1]
theorem open_numbers (hval : Value.okWide Tryz.prog W r b0 25 v) (hw : Wt Tryz.prog 25 d) (hd0 : DataW.Trod enc Tryz.prog W base sp hd 25 v d ps) :
  ∃ (holder r0 r1 s0 s1 carrier serial : Int) (cv : Value) (ys : List Cin), v = .agg #[iv holder, iv r0, iv r1, iv s0, iv s1, iv carrier, iv serial, cv] ∧ SlAt W cv 5 (ys.map Cin.cells) ∧ (∀ y ∈ ys, y.wt) ∧ i64 holder ∧ i64 r0 ∧ i64 r1 ∧ i64 s0 ∧ i64 s1 ∧ i64 carrier ∧ i64 serial := by
 obtain ⟨csA, rfl, hsz, hrow⟩ := okWide_cell (by kernel_rfl) hval
 obtain ⟨fuel, hf⟩ := hd0
 have hc : Tryz.prog.cellsOf 25 = 8 := by kernel_rfl
 obtain ⟨a0, a1, a2, a3, a4, a5, a6, a7, hcs⟩ := len8 (l := csA.toList) (by rw [Array.length_toList, hsz, hc])
 obtain rfl : csA = #[a0, a1, a2, a3, a4, a5, a6, a7] := by cases csA; simp at hcs; rw [hcs]
 obtain ⟨n0, z0, h0, w0⟩ := trod_field 0 _ Tryz.underlying25 hw hf rfl
 obtain ⟨n1, z1, h1, w1⟩ := trod_field 1 _ Tryz.underlying25 hw hf rfl
 obtain ⟨n2, z2, h2, w2⟩ := trod_field 2 _ Tryz.underlying25 hw hf rfl
 obtain ⟨n3, z3, h3, w3⟩ := trod_field 3 _ Tryz.underlying25 hw hf rfl
 obtain ⟨n4, z4, h4, w4⟩ := trod_field 4 _ Tryz.underlying25 hw hf rfl
 obtain ⟨n5, z5, h5, w5⟩ := trod_field 5 _ Tryz.underlying25 hw hf rfl
 have c1 : Tryz.prog.cellsOf 3 = 1 := by kernel_rfl
 have c2 : Tryz.prog.cellsOf 22 = 2 := by kernel_rfl
 have c5 : Tryz.prog.cellsOf 23 = 1 := by kernel_rfl
 simp only [Value.cells, c1] at h0 h3 h4
 simp only [Value.cells, c2] at h1 h2
 simp only [Value.cells, c5] at h5
 obtain ⟨m0, e0, g0⟩ := trod_i64 Tryz.underlying3 h0
 obtain ⟨m3, e3, g3⟩ := trod_i64 Tryz.underlying3 h3
 obtain ⟨m4, e4, g4⟩ := trod_i64 Tryz.underlying3 h4
 obtain ⟨q1, hq1, e1, y1⟩ := trod_ints 2 Tryz.underlying22 Tryz.underlying3 (by kernel_rfl) h1 rfl
 obtain ⟨q2, hq2, e2, y2⟩ := trod_ints 2 Tryz.underlying22 Tryz.underlying3 (by kernel_rfl) h2 rfl
 obtain ⟨b0_, b1, rfl⟩ := len2 hq1
 obtain ⟨c0_, c1_, rfl⟩ := len2 hq2
 simp [c1] at e0 e3 e4
 simp at e1 e2
 obtain ⟨rfl, rfl⟩ := e1
 obtain ⟨rfl, rfl⟩ := e2
 subst e0; subst e3; subst e4
 have hok : Cell.okWide Tryz.prog W r b0 23 a7 := row_cell (i := 7) (ts := [3, 3, 3, 3, 3, 3, 3, 23]) (by kernel_rfl) rfl hrow rfl
 obtain ⟨ys, k1, k2⟩ := open_cins Tryz.underlying23 hok w5 h5
 exact ⟨m0, b0_, b1, c0_, c1_, m3, m4, a7, ys, rfl, k1, k2, g0, y1 b0_ (by simp), y1 b1 (by simp), y2 c0_ (by simp), y2 c1_ (by simp), g3, g4⟩
end
end Go.Proofs.YtmmfieceinmloaaGreatDoor
namespace Go.PW
open Go.RowKit Go.ChangeShapes Go.WideShapes Go.ChangeAt
set_option linter.unusedVariables false
set_option linter.unusedSimpArgs false
section
variable {H : Type} {enc : TypeId × Value → H}
theorem handed_laid {a : Assume} {C : Checked} {os : Os} {f : FuncId} {fn : Func} {s : ChangeSpec} {conds : List PathCond} {apart fresh handsOn again : Bool} {X : World → Array Value → Prop}
  (hX : ∀ (w w' : World) (args : Array Value), w.heap = w'.heap → X w args → X w' args)
  (own : ownKnob C.prog.godebug = none) (started : os.Started) (noInit : C.prog.inits.idxOf? f = none) (hfn : C.prog.funcs[f]? = some fn)
  (witness : ∃ (w : World) (tape : Tape) (i : Input), w.os = os ∧ (w.forCall tape i).Shaped C.prog ∧ i.vars = [] ∧ Input.okWide C.prog (w.forCall tape i) .any w.heap.size f i ∧
   ((s.pre enc C.prog fn conds apart (w.forCall tape i).memory i.args ∧ X (w.forCall tape i).memory i.args) ∧ sizedMet enc C.prog fn (OpenSpec.ofChange s) apart (w.forCall tape i).memory i.args) ∧ a.holds C.prog (lone (Frame.enter C.prog f i.args .normal) [] (w.forCall tape i)))
  (contract : ∀ (W : World) (base : Nat) (args : Array Value) (ds gs : List (DataW H)) (before : List MemPlace),
   (∀ (j : Nat) t v, fn.params[j]? = some t → args[j]? = some v → Value.okWide C.prog W .any base t v) →
   DataW.Whole enc C.prog fn.params.toList s.vars apart W args.toList ds gs before →
   conds.all (PathCond.test C.prog ⟨fn.params.toList, ds, s.plain.varTypes C.prog, gs⟩) = true →
   (DataW.weightsEach C.prog (fn.params.toList ++ s.plain.varTypes C.prog) (ds ++ gs)).all (· ≤ reachBytes) = true → X W args → W.ShapedOpen C.prog →
   Calls C.prog f args W fun e W' => ∃ v, e = .returned v ∧ s.post enc C.prog fn apart fresh handsOn again W args v W') :
  ReturnsInHanded a C os f .any (fun w args => (s.pre enc C.prog fn conds apart w args ∧ X w args) ∧ sizedMet enc C.prog fn (OpenSpec.ofChange s) apart w args) (s.post enc C.prog fn apart fresh handsOn again) := by
 refine returnsInHanded_of_calls own started noInit witness ?_
 intro w tape i _ hsh _ hok hpre _
 obtain ⟨_, _, _, fn', hfn', _, _, _, _, hval⟩ := hok
 have e : fn' = fn := Option.some.inj (hfn'.symm.trans hfn)
 subst e
 obtain ⟨⟨⟨ds, gs, before, hw, hc⟩, hx⟩, hz⟩ := hpre
 have hw' := DataW.Whole.of_heap (w' := w.forCall tape i) (by rfl) hw
 refine (contract (w.forCall tape i) w.heap.size i.args ds gs before hval hw' hc (hz.weights hw) (hX _ _ _ (by rfl) hx) hsh).mono fun e W' ⟨v, he, hp⟩ => ?_
 subst he
 exact ChangeSpec.post_blind hp
end
section
variable {H : Type} {enc : TypeId × Value → H} {P : Program} {w : World} {base : Nat} {spare : Nat → Bool} {held : Bool} {fuel : Nat} {t e : TypeId} {cs : List Value} {x : DataW H × List MemPlace}
theorem trod_words {n : Nat} {ks : List Int} (ht : P.underlying t = some (.array n e)) (he : P.underlying e = some (.int .u32)) (hc : P.cellsOf e = 1) (hct : P.cellsOf t = n) (h : DataW.trod enc P w base spare held fuel t cs = some x) (hx : x.1 = .agg (ks.map fun k => .lit (.int .u32 k))) : cs = ks.map (fun k => .int .u32 k) := by
 obtain ⟨xs, m, rfl, rfl, hlen, hxs, hel⟩ := DataW.trod_array ht h
 simp only [DataW.agg.injEq] at hx
 have hl : ks.length = n := by
  have h := congrArg List.length hx
  rw [List.length_map, List.length_map] at h
  omega
 refine List.ext_getElem (by rw [hlen, hct, List.length_map, hl]) fun i h1 h2 => ?_
 have hi : i < n := by rw [← hct, ← hlen]; exact h1
 have hi2 : i < ks.length := by omega
 have h3 := hel i hi
 rw [hc, Nat.mul_one, List.getElem?_eq_getElem (by omega)] at h3
 obtain ⟨k, e1, e2, _⟩ := DataW.trod_int he h3
 rw [List.drop_eq_getElem_cons h1, List.take_succ_cons] at e1
 injection e1 with e1 _
 have h4 : (xs.map (·.1))[i]? = (ks.map fun k => DataW.lit (H := H) (.int .u32 k))[i]? := by rw [hx]
 rw [List.getElem?_map, List.getElem?_map, List.getElem?_eq_getElem (by omega), List.getElem?_eq_getElem hi2, Option.map_some, Option.map_some, e2] at h4
 simp only [Option.some.injEq, DataW.lit.injEq, Lit.int.injEq, true_and] at h4
 rw [e1, List.getElem_map, h4]
theorem open_str {r : Reach} {b0 : Nat} {v : Value} {d : DataW H} {ps : List MemPlace} {sp : Nat → Bool} (ht : P.underlying t = some .string) (hval : Value.okWide P w r b0 t v) (hw : Wt P t d) (hd : DataW.Trod enc P w base sp held t v d ps) :
  ∃ s : List UInt8, v = sv s ∧ s.length ≤ 140737488355328 := by
 obtain ⟨s, rfl, rfl, _, _⟩ := Go.ChangeMaps.open_string ht hval hd
 refine ⟨s.data.toList, rfl, ?_⟩
 have h1 := hw s.data.toList.length (by simp [DataW.weights])
 have h2 := reachBytes_lt
 omega
end
end Go.PW
namespace Go.Proofs.YtmmfieceinmloaaGreatDoor
open Go.RowKit Go.PW
set_option linter.unusedVariables false
set_option linter.unusedSimpArgs false
set_option maxRecDepth 4000
open Go.ChangeShapes Go.WideShapes Go.ChangeAt Go.RowKit Go.PW
theorem ownD : ownKnob Tryz.prog.godebug = none := by kernel_rfl
theorem laidOutD : laidOutB Tryz.prog = true := by kernel_rfl
def laid1 : List (String × DataW Unit) := [("dialtone/digest.round", Rows.laid_dialtone_digest_round)]
theorem gRound : Tryz.prog.globalNamed "dialtone/digest.round" = some 0 := by kernel_rfl
theorem tRound : (Tryz.prog.globals[0]?).map (·.type) = some 239 := by kernel_rfl
theorem ks_laid : (Rows.laid_dialtone_digest_round : DataW Unit) = .agg ((kOf.map fun k => (k.toNat : Int)).map fun k => .lit (.int .u32 k)) := by kernel_rfl
theorem door_met (os : Os) (args : Array Value) : laidMetH Tryz.prog laid1 ((World.doorLaid Tryz.prog 4000 os).forCall (fun _ _ => 0) ⟨#[], args, []⟩).memory :=
 laidMetH_of_parts3 (fuel := 8) (laidMet_of_run' 8 (by kernel_rfl) (by kernel_rfl)) (by kernel_rfl) (by kernel_rfl)
theorem shaped_met (os : Os) (args : Array Value) : ((World.doorLaid Tryz.prog 4000 os).forCall (fun _ _ => 0) ⟨#[], args, []⟩).Shaped Tryz.prog := World.shaped_of_RefB (by kernel_rfl) (by kernel_rfl)
theorem hk0_of {W : World} (h : laidMetH Tryz.prog laid1 W) (hs : W.ShapedOpen Tryz.prog) : (blk 0 (kOf.map wv) 239).ok W := by
 rw [MakeChecks.laidMetH_plain _ _ _ (by kernel_rfl)] at h
 obtain ⟨ps, ⟨g0, t0, cs0, f0, p0, q0, hg0, ht0, hv0, hd0, _, _⟩, _, _⟩ := h
 obtain rfl := Option.some.inj (gRound.symm.trans hg0)
 obtain rfl := Option.some.inj (tRound.symm.trans ht0)
 obtain ⟨cs, hcs, _, _⟩ := hs.1 0 (List.replicate 64 (.int .u32 0)).toArray 239 (of_decide_eq_true (by kernel_rfl)) (by kernel_rfl)
 have e : cs0 = cs := by
  have := hv0
  simp only [World.var?, gRound, Option.bind_some, hcs, Option.some.injEq] at this
  exact this.symm
 subst e
 have hw := trod_words (ks := kOf.map fun k => (k.toNat : Int)) Tryz.underlying239 Tryz.underlying191 (by kernel_rfl) (by kernel_rfl) hd0 ks_laid
 have hl : cs0 = (kOf.map wv).toArray := by
  apply Array.toList_inj.1
  rw [hw, List.map_map]; rfl
 show W.heap[0]? = some (.cells (kOf.map wv).toArray 239)
 rw [← hl]; exact hcs
end Go.Proofs.YtmmfieceinmloaaGreatDoor
namespace Go.Proofs.YtmmfieceinmloaaGreatDoor
open Go.RowKit Go.PW
set_option linter.unusedVariables false
set_option linter.unusedSimpArgs false
set_option maxRecDepth 4000
theorem Pxy.ok_bnd {p : Pxy} (h : p.ok = true) : 0 ≤ p.rt ∧ p.rt ≤ 100000000 := by
 simp only [Pxy.ok, isRangeB, Bool.and_eq_true, decide_eq_true_eq] at h; omega
theorem bent_x {x bw : Wsh} {how n : Int} {w0 : World} (hbw : bentW x how n = bw) (hh : -9223372036854775808 ≤ how ∧ how ≤ 9223372036854775807) (hx : x.rt < 9223372036854775807) (hx2 : -9223372036854775808 ≤ x.rt) :
  Ret Tryz.prog 10 #[.agg #[iv x.signer, iv x.holder, iv x.rf, iv x.rt, iv x.carrier, iv x.serial, iv x.sf, iv x.st, sv x.sig], iv how, iv n] w0 fun v w => v = .tuple #[.agg #[iv bw.signer, iv bw.holder, iv bw.rf, iv bw.rt, iv bw.carrier, iv bw.serial, iv bw.sf, iv bw.st, sv bw.sig], .bool (!(decide (bw = x)))] ∧ Ext No w0 w := by
 subst hbw; exact bent_ok x how n w0 hh hx hx2
section
variable {ks : List By} {x : Wsh} {ps : List Pxy} {number t : Int}
theorem bad_step {k : Nat} (hk : k < ps.length) (h : (ps.getD k Pxy.z).ok = true) : badIdx (ps.drop k) k = badIdx (ps.drop (k + 1)) (k + 1) := by
 rw [drop_cons Pxy.z hk, badIdx, if_pos h]
theorem bad_hit {k : Nat} (hk : k < ps.length) (h : (ps.getD k Pxy.z).ok = false) : badIdx (ps.drop k) k = some k := by
 rw [drop_cons Pxy.z hk, badIdx, if_neg (by rw [h]; simp)]
end
theorem rformed_ok (x : Wsh) (lv : Value) (ps : List Pxy) (w0 : World) (hlv : SlAt w0 lv 7 (ps.map Pxy.cells)) :
  Ret Tryz.prog 20 #[.agg #[iv x.signer, iv x.holder, iv x.rf, iv x.rt, iv x.carrier, iv x.serial, iv x.sf, iv x.st, sv x.sig], lv] w0 fun v w => v = .bool (formedH x ps) ∧ Ext No w0 w := by
 have hxb := hlv.2.1
 simp only [List.length_map, big] at hxb
 refine ret_of Tryz.func20 rfl Tryz.ntmps20 (lb rfl) fun a hfr => ?_
 replace hfr : Fr 26 [(0, _), (1, _)] [] a := hfr
 replace hst : St No w0 [] w0 := St.init w0
 refine wc_seq_region fun K1 hK1 => ?_
 refine wl_box hfr hst (by decide) rfl (cs := [iv x.signer, iv x.holder, iv x.rf, iv x.rt, iv x.carrier, iv x.serial, iv x.sf, iv x.st, sv x.sig]) rfl ?_
 clear hfr hst
 intro a w1 hfr hst
 refine wla hfr rfl fun a hfr => ?_
 refine wl_nil (hK1 _ _ ?_)
 refine wc_seq_k fun K2 hK2 => ?_
 refine wc_seq_region fun K3 hK3 => ?_
 refine wlv hfr (v_load_all (hst.get (k := 0) rfl) rfl (Tryz.isAgg30 _) (Tryz.sizeOf30 _)) fun a hfr => ?_
 refine wl_callp hfr hst (by decide) Tryz.call68 rfl (rwish_ok x _) ?_
 clear hfr hst
 intro a w2 hfr hst
 refine wlv hfr (v_not rfl) fun a hfr => wlm hfr rfl fun a hfr => ?_
 rcases Bool.eq_false_or_eq_true (!x.ok) with hb1 | hb1
 ·rw [hb1] at hfr
  try simp only [qz] at hb1
  refine wln hfr fun a hfr => ?_
  refine wln hfr fun a hfr => ?_
  refine wln hfr fun a hfr => ?_
  refine wlv hfr (v_pick_t rfl rfl) fun a hfr => ?_
  refine wl_nil (hK3 _ _ ?_)
  replace hfr : Fr 26 [(1, _), (4, _), (13, _)] [] a := hfr.pick [1, 4, 13]
  replace hst : St No w0 [] w2 := hst.mask [false]
  refine wc_cond_t hfr rfl ?_
  refine wc_seq_region fun K4 hK4 => ?_
  refine wla hfr rfl fun a hfr => ?_
  refine wl_nil (hK4 _ _ ?_)
  refine wc_ret ?_
  refine fin_ret hfr Tryz.results20 (resAre_tmp rfl resAre_nil) ?_
  refine ⟨?_, hst.ext⟩
  simp only [retv]
  unfold formedH
  first | (rw [hbi, bad_hit hkx (by simpa using hb1)]; simp; done) | (rw [decide_eq_false (by omega : ¬ ps.length ≤ 4)]; simp; done) | (rw [(by simpa using hb1 : x.ok = false)]; rfl)
 rw [hb1] at hfr
 try simp only [qz] at hb1
 refine wly hfr (v_move rfl) fun a hfr => wly hfr ((v_len_sl (sT := 31) (hst.arg hlv) rfl rfl (Tryz.runUnderlying31 _)).asi (m' := (ps.length : Int)) (by rw [List.length_map])) fun a hfr => wly hfr (v_gt rfl rfl) fun a hfr => ?_
 refine wlv hfr (v_pick_f rfl rfl) fun a hfr => ?_
 refine wl_nil (hK3 _ _ ?_)
 replace hfr : Fr 26 [(1, _), (4, _), (13, _)] [] a := hfr.pick [1, 4, 13]
 replace hst : St No w0 [] w2 := hst.mask [false]
 refine wc_cond hfr rfl (fun hc2 => ?_) (fun hc2 => ?_)
 ·rw [hc2] at hfr
  try simp only [qz] at hc2
  refine wc_seq_region fun K5 hK5 => ?_
  refine wla hfr rfl fun a hfr => ?_
  refine wl_nil (hK5 _ _ ?_)
  refine wc_ret ?_
  refine fin_ret hfr Tryz.results20 (resAre_tmp rfl resAre_nil) ?_
  refine ⟨?_, hst.ext⟩
  simp only [retv]
  unfold formedH
  first | (rw [hbi, bad_hit hkx (by simpa using hc2)]; simp; done) | (rw [decide_eq_false (by omega : ¬ ps.length ≤ 4)]; simp; done) | (rw [(by simpa using hc2 : x.ok = false)]; rfl)
 rw [hc2] at hfr
 try simp only [qz] at hc2
 refine wc_skip ?_
 refine hK2 _ _ ?_
 refine wc_seq_k fun K6 hK6 => ?_
 have hxo : x.ok = true := by simpa using hb1
 refine wc_seq_region fun K7 hK7 => ?_
 refine wla hfr rfl fun a hfr => ?_
 refine wl_nil (hK7 _ _ ?_)
 refine wc_block ?_
 refine wc_loop (fun m a w => ∃ (k : Nat), m = ps.length - k ∧ (k ≤ ps.length) ∧ (badIdx ps 0 = badIdx (ps.drop k) k) ∧ Fr 26 [(1, lv), (5, iv (k : Int))] [] a ∧ St No w0 [] w) _ ⟨0, rfl, Nat.zero_le _, rfl, hfr.pick [1, 5], hst.select [] (by decide)⟩ ?_
 rintro _ a w3 ⟨k, rfl, hk, hbi, hfr, hst⟩
 refine wc_seq_k fun K8 hK8 => ?_
 refine wc_seq_region fun K9 hK9 => ?_
 refine wlm hfr rfl fun a hfr => wlm hfr rfl fun a hfr => ?_
 refine wlv hfr ((v_len_sl (sT := 31) (hst.arg hlv) rfl rfl (Tryz.runUnderlying31 _)).asi (m' := (ps.length : Int)) (by rw [List.length_map])) fun a hfr => ?_
 refine wlv hfr (v_lt rfl rfl) fun a hfr => ?_
 refine wl_nil (hK9 _ _ ?_)
 refine wc_cond hfr rfl (fun hc3 => ?_) (fun hc3 => ?_)
 ·rw [hc3] at hfr
  try simp only [qz] at hc3
  have hkx : k < ps.length := by omega
  refine wc_skip ?_
  refine hK8 _ _ ?_
  refine wc_seq_k fun K10 hK10 => ?_
  refine wc_block ?_
  refine wc_seq_region fun K11 hK11 => ?_
  refine wlm hfr rfl fun a hfr => wlm hfr rfl fun a hfr => ?_
  refine wlv hfr ((v_indexAddr_sl (i := (k : Int)) (sT := 31) (hst.arg hlv) rfl rfl (Tryz.runUnderlying31 _) (Tryz.sizeOf40 _) (by omega) (by rw [List.length_map]; omega)).as (v' := slAddr lv (k * 7)) rfl) fun a hfr => ?_
  refine wlv hfr ((v_load_sl (hst.arg hlv) (i := k) (by rw [List.length_map]; omega) rfl (Tryz.isAgg40 _) (Tryz.sizeOf40 _)).as (v' := .agg #[iv ((ps.getD k Pxy.z).frm), iv ((ps.getD k Pxy.z).to), iv ((ps.getD k Pxy.z).rf), iv ((ps.getD k Pxy.z).rt), iv ((ps.getD k Pxy.z).sf), iv ((ps.getD k Pxy.z).st), sv ((ps.getD k Pxy.z).sig)]) (by rw [el_at Pxy.z]; rfl)) fun a hfr => ?_
  refine wl_callp hfr hst (by decide) Tryz.call69 rfl (rproxy_ok (ps.getD k Pxy.z) _) ?_
  clear hfr hst
  intro a w4 hfr hst
  refine wlv hfr (v_not rfl) fun a hfr => ?_
  refine wl_nil (hK11 _ _ ?_)
  replace hfr : Fr 26 [(1, _), (5, _), (25, _)] [] a := hfr.pick [1, 5, 25]
  refine wc_cond hfr rfl (fun hc4 => ?_) (fun hc4 => ?_)
  ·rw [hc4] at hfr
   try simp only [qz] at hc4
   refine wc_seq_region fun K12 hK12 => ?_
   refine wla hfr rfl fun a hfr => ?_
   refine wl_nil (hK12 _ _ ?_)
   refine wc_ret ?_
   refine fin_ret hfr Tryz.results20 (resAre_tmp rfl resAre_nil) ?_
   refine ⟨?_, hst.ext⟩
   simp only [retv]
   unfold formedH
   first | (rw [hbi, bad_hit hkx (by simpa using hc4)]; simp; done) | (rw [decide_eq_false (by omega : ¬ ps.length ≤ 4)]; simp; done) | (rw [(by simpa using hc4 : x.ok = false)]; rfl)
  rw [hc4] at hfr
  try simp only [qz] at hc4
  refine wc_skip ?_
  refine hK10 _ _ ?_
  refine wc_region ?_
  refine wlm hfr rfl fun a hfr => ?_
  refine wlv hfr (v_add rfl rfl ⟨by omega, by omega⟩) fun a hfr => wla hfr rfl fun a hfr => ?_
  refine wl_nil ?_
  refine ⟨_, ?_, k + 1, rfl, (by omega), (by rw [hbi]; exact bad_step hkx (by simpa using hc4)), hfr.pick [1, 5], hst.select [] (by decide)⟩
  omega
 rw [hc3] at hfr
 try simp only [qz] at hc3
 have hke : k = ps.length := by omega
 rw [hke, List.drop_length] at hbi
 refine wc_exit ?_
 refine hK6 _ _ ?_
 refine wc_seq_region fun K13 hK13 => ?_
 refine wla hfr rfl fun a hfr => ?_
 refine wl_nil (hK13 _ _ ?_)
 replace hfr : Fr 26 [(4, _)] [] a := hfr.pick [4]
 refine wc_ret ?_
 refine fin_ret hfr Tryz.results20 (resAre_tmp rfl resAre_nil) ?_
 exact ⟨by simp only [retv]; unfold formedH; rw [hbi, badIdx, hxo, decide_eq_true (by omega : ps.length ≤ 4)]; rfl, hst.ext⟩
end Go.Proofs.YtmmfieceinmloaaGreatDoor
namespace Go.Proofs.YtmmfieceinmloaaGreatDoor
set_option linter.unusedVariables false
set_option linter.unusedSimpArgs false
def intsR : Nat → By → Option (List Int × By)
 | 0, s => some ([], s)
 | m + 1, s => match rdI s with
  | none => none
  | some (n, r) => (intsR m r).map fun p => (n :: p.1, p.2)
theorem intsR_len : ∀ {m : Nat} {s : By} {l : List Int} {r : By}, intsR m s = some (l, r) → l.length = m ∧ r.length ≤ s.length
 | 0, s, l, r, h => by cases h; exact ⟨rfl, Nat.le_refl _⟩
 | m + 1, s, l, r, h => by
  rw [intsR] at h
  cases hq : rdI s with
  | none => rw [hq] at h; cases h
  | some p =>
   obtain ⟨n, t⟩ := p
   rw [hq] at h
   simp only at h
   cases hz : intsR m t with
   | none => rw [hz] at h; cases h
   | some z =>
    obtain ⟨l1, r1⟩ := z
    rw [hz] at h
    cases h
    obtain ⟨h1, h2⟩ := intsR_len hz
    obtain ⟨_, h3⟩ := rdI_some hq
    exact ⟨by simp [h1], by rw [h3, List.length_append]; show r1.length ≤ _; omega⟩
theorem intsR_ok {m : Nat} {s r : By} {n : Int} (h : rdI s = some (n, r)) : intsR (m + 1) s = (intsR m r).map fun p => (n :: p.1, p.2) := by rw [intsR, h]
theorem intsR_bad {m : Nat} {s : By} (h : rdI s = none) : intsR (m + 1) s = none := by rw [intsR, h]
theorem intsR_put : ∀ (l : List Int) (r : By), (∀ n ∈ l, small n) → intsR l.length (puts l ++ r) = some (l, r)
 | [], r, h => rfl
 | n :: l, r, h => by
  have : puts (n :: l) ++ r = putI n ++ (puts l ++ r) := by simp [puts]
  rw [this, List.length_cons, intsR_ok (rdI_put (h n (by simp)) _), intsR_put l r fun x hx => h x (by simp [hx])]
  rfl
theorem rdG_more {s : By} : ∀ {f : Nat} (l r : By), (∀ c ∈ l, 128 ≤ c.toNat) → rdG (f + l.length) (l ++ r) = (rdG f r).map fun p => (l ++ p.1, p.2)
 | f, [], r, h => by simp
 | f, c :: l, r, h => by
  rw [List.length_cons, ← Nat.add_assoc, List.cons_append, rdG, if_neg (by have := h c (by simp); omega), rdG_more (s := s) l r fun d hd => h d (by simp [hd])]
  cases rdG f r <;> rfl
theorem rdI_of {l r : By} {b : UInt8} (hl : l.length < 9) (h : ∀ c ∈ l, 128 ≤ c.toNat) (hb : b.toNat < 128) :
  rdI (l ++ b :: r) = if vb 8 (gv (l ++ [b])) = l ++ [b] ∧ -4611686018427387903 ≤ uz (gv (l ++ [b])) then some (uz (gv (l ++ [b])), r) else none := by
 unfold rdI
 rw [show (9 : Nat) = (9 - l.length - 1 + 1) + l.length from by omega, rdG_more (s := []) l _ h, rdG, if_pos hb]
 rfl
theorem rdI_end {l : By} (h : ∀ c ∈ l, 128 ≤ c.toNat) (hl : l.length ≤ 9) : rdI l = none := by
 unfold rdI
 have := rdG_more (s := []) (f := 9 - l.length) l [] h
 rw [List.append_nil, show 9 - l.length + l.length = 9 from by omega] at this
 rw [this]
 cases 9 - l.length <;> rfl
theorem rdI_nine {l r : By} (h : ∀ c ∈ l, 128 ≤ c.toNat) (hl : l.length = 9) : rdI (l ++ r) = none := by
 unfold rdI
 have := rdG_more (s := []) (f := 0) l r h
 rw [hl] at this
 rw [this]; rfl
theorem intsR_some : ∀ {m : Nat} {s : By} {l : List Int} {r : By}, intsR m s = some (l, r) → s = puts l ++ r ∧ ∀ n ∈ l, small n
 | 0, s, l, r, h => by cases h; exact ⟨rfl, by simp⟩
 | m + 1, s, l, r, h => by
  rw [intsR] at h
  cases hq : rdI s with
  | none => rw [hq] at h; cases h
  | some p =>
   obtain ⟨n, t⟩ := p
   rw [hq] at h
   simp only at h
   cases hz : intsR m t with
   | none => rw [hz] at h; cases h
   | some z =>
    obtain ⟨l1, r1⟩ := z
    rw [hz] at h
    cases h
    obtain ⟨h1, h2⟩ := intsR_some hz
    obtain ⟨h3, h4⟩ := rdI_some hq
    refine ⟨by rw [h4, h1]; simp [puts], fun x hx => ?_⟩
    rcases List.mem_cons.1 hx with rfl | hx
    ·exact h3
    ·exact h2 x hx
end Go.Proofs.YtmmfieceinmloaaGreatDoor
namespace Go.Proofs.YtmmfieceinmloaaGreatDoor
set_option linter.unusedVariables false
set_option linter.unusedSimpArgs false
def pxyN (l : List Int) (g : By) : Pxy := ⟨l.getD 1 0, l.getD 2 0, l.getD 3 0, l.getD 4 0, l.getD 5 0, l.getD 6 0, g⟩
def wshN (l : List Int) (g : By) : Wsh := ⟨l.getD 1 0, l.getD 2 0, l.getD 3 0, l.getD 4 0, l.getD 5 0, l.getD 6 0, l.getD 7 0, l.getD 8 0, g⟩
def pxyR (s : By) : Option (Pxy × By) := match intsR 7 s with
 | none => none
 | some (l, r) => if 32 ≤ r.length then some (pxyN l (r.take 32), r.drop 32) else none
def pxysR : Nat → By → Option (List Pxy × By)
 | 0, s => some ([], s)
 | m + 1, s => match pxyR s with
  | none => none
  | some (p, r) => (pxysR m r).map fun z => (p :: z.1, z.2)
def wishR (l : List Pxy) (s : By) : Option (Wsh × List Pxy) := match intsR 9 s with
 | none => none
 | some (n, r) => some (wshN n r, l)
def readR (s : By) : Option (Wsh × List Pxy) := match rdI s with
 | none => none
 | some (n, r) => if inB n 0 4 = true then (match pxysR n.toNat r with
  | none => none
  | some (l, q) => wishR l q) else none
theorem pxysR_ok {m : Nat} {s r : By} {p : Pxy} (h : pxyR s = some (p, r)) : pxysR (m + 1) s = (pxysR m r).map fun z => (p :: z.1, z.2) := by rw [pxysR, h]
theorem pxysR_bad {m : Nat} {s : By} (h : pxyR s = none) : pxysR (m + 1) s = none := by rw [pxysR, h]
theorem pxy_smalls {p : Pxy} (h : p.ok = true) : ∀ n ∈ ([2, p.frm, p.to, p.rf, p.rt, p.sf, p.st] : List Int), small n := by
 simp only [Pxy.ok, inB, isRangeB, isSpellB, Bool.and_eq_true, decide_eq_true_eq] at h
 intro n hn
 simp only [List.mem_cons, List.not_mem_nil, or_false] at hn
 unfold small
 rcases hn with rfl | rfl | rfl | rfl | rfl | rfl | rfl <;> omega
theorem wsh_smalls {p : Wsh} (h : p.ok = true) : ∀ n ∈ ([1, p.signer, p.holder, p.rf, p.rt, p.carrier, p.serial, p.sf, p.st] : List Int), small n := by
 simp only [Wsh.ok, inB, isRangeB, isSpellB, Bool.and_eq_true, decide_eq_true_eq] at h
 intro n hn
 simp only [List.mem_cons, List.not_mem_nil, or_false] at hn
 unfold small
 rcases hn with rfl | rfl | rfl | rfl | rfl | rfl | rfl | rfl | rfl <;> omega
theorem pxyR_text {p : Pxy} (h : p.ok = true) (hs : p.sig.length = 32) (r : By) : pxyR (p.text ++ r) = some (p, r) := by
 have e : intsR 7 (p.text ++ r) = some ([2, p.frm, p.to, p.rf, p.rt, p.sf, p.st], p.sig ++ r) := by
  unfold Pxy.text Pxy.content
  rw [List.append_assoc]
  exact intsR_put [2, p.frm, p.to, p.rf, p.rt, p.sf, p.st] _ (pxy_smalls h)
 unfold pxyR
 rw [e]
 simp only
 rw [if_pos (by rw [List.length_append]; omega), ← hs, List.take_left, List.drop_left]
 rfl
theorem pxysR_text : ∀ {l : List Pxy} (r : By), (∀ p ∈ l, p.ok = true) → (∀ p ∈ l, p.sig.length = 32) → pxysR l.length (l.flatMap Pxy.text ++ r) = some (l, r)
 | [], r, h1, h2 => rfl
 | p :: l, r, h1, h2 => by
  rw [List.length_cons, List.flatMap_cons, List.append_assoc, pxysR_ok (pxyR_text (h1 p (by simp)) (h2 p (by simp)) _), pxysR_text r (fun q h => h1 q (by simp [h])) (fun q h => h2 q (by simp [h]))]
  rfl
theorem wishR_text {w : Wsh} {l : List Pxy} (h : w.ok = true) : wishR l w.text = some (w, l) := by
 have e : intsR 9 w.text = some ([1, w.signer, w.holder, w.rf, w.rt, w.carrier, w.serial, w.sf, w.st], w.sig) := intsR_put [1, w.signer, w.holder, w.rf, w.rt, w.carrier, w.serial, w.sf, w.st] _ (wsh_smalls h)
 unfold wishR
 rw [e]
 rfl
theorem readR_text {w : Wsh} {l : List Pxy} {s : By} (h : encodeH w l = some s) : readR s = some (w, l) := by
 obtain ⟨h1, h2, h3, rfl⟩ := encode_some.1 h
 simp only [formedH, Bool.and_eq_true, decide_eq_true_eq, Option.isNone_iff_eq_none] at h1
 obtain ⟨⟨h4, h5⟩, h6⟩ := h1
 unfold readR
 rw [rdI_put (by unfold small; omega)]
 simp only
 rw [if_pos (by simp [inB]; omega), Int.toNat_natCast, pxysR_text _ (badIdx_all h6) h3]
 simp only
 exact wishR_text h4
def decR (s : By) : Option (Wsh × List Pxy) := match readR s with
 | none => none
 | some (w, l) => if encodeH w l = some s then some (w, l) else none
theorem decR_eq (s : By) : decR s = decodeH s := by
 unfold decR
 cases h : decodeH s with
 | some p =>
  obtain ⟨w, l⟩ := p
  have he := encode_decode h
  rw [readR_text he]
  simp only
  rw [if_pos he]
 | none =>
  cases hr : readR s with
  | none => rfl
  | some p =>
   obtain ⟨w, l⟩ := p
   simp only
   rw [if_neg]
   intro he
   rw [decode_encode he] at h
   cases h
theorem dec_read {s : By} {w : Wsh} {l : List Pxy} (hr : readR s = some (w, l)) (he : encodeH w l = some s) : decodeH s = some (w, l) := decode_encode he
theorem dec_unread {s : By} (hr : readR s = none) : decodeH s = none := by rw [← decR_eq]; unfold decR; rw [hr]
theorem dec_other {s : By} {w : Wsh} {l : List Pxy} (hr : readR s = some (w, l)) (he : encodeH w l ≠ some s) : decodeH s = none := by rw [← decR_eq]; unfold decR; rw [hr]; exact if_neg he
end Go.Proofs.YtmmfieceinmloaaGreatDoor
namespace Go.Proofs.YtmmfieceinmloaaGreatDoor
open Go.RowKit Go.PW
set_option linter.unusedVariables false
set_option linter.unusedSimpArgs false
set_option maxRecDepth 4000
theorem gv_more {s : By} {p i : Nat} (hp : p + i < s.length) : gv ((s.drop p).take (i + 1)) = gv ((s.drop p).take i) + (s.getD (p + i) 0).toNat % 128 * 2 ^ (7 * i) := by
 have e : (s.drop p).take (i + 1) = (s.drop p).take i ++ [s.getD (p + i) 0] := by
  rw [take_one (by rw [List.length_drop]; omega)]
  congr 2
  simp [List.getD_eq_getElem?_getD]
 rw [e, gv_snoc, p128, List.length_take, List.length_drop, Nat.min_eq_left (by omega)]
theorem rdI_at {s : By} {p i z : Nat} (hi : i < 9) (hp : p + i < s.length) (hl : ∀ c ∈ (s.drop p).take i, 128 ≤ c.toNat) (hz : z = gv ((s.drop p).take i)) (hb : (s.getD (p + i) 0).toNat < 128) {Z : Nat} (hZ : Z = z + (s.getD (p + i) 0).toNat % 128 * 2 ^ (7 * i)) :
  rdI (s.drop p) = if vb 8 Z = (s.drop p).take (i + 1) ∧ -4611686018427387903 ≤ uz Z then some (uz Z, s.drop (p + (i + 1))) else none := by
 have e0 : s.drop p = (s.drop p).take i ++ s.getD (p + i) 0 :: s.drop (p + (i + 1)) := by
  rw [show s.drop (p + (i + 1)) = (s.drop p).drop (i + 1) from by rw [List.drop_drop], ]
  have e1 : (s.drop p).drop i = s.getD (p + i) 0 :: (s.drop p).drop (i + 1) := by
   rw [drop_at (by rw [List.length_drop]; omega)]
   congr 1
   simp [List.getD_eq_getElem?_getD]
  rw [← e1, List.take_append_drop]
 have e2 : (s.drop p).take (i + 1) = (s.drop p).take i ++ [s.getD (p + i) 0] := by
  rw [take_one (by rw [List.length_drop]; omega)]
  congr 2
  simp [List.getD_eq_getElem?_getD]
 have hlen : ((s.drop p).take i).length = i := by rw [List.length_take, List.length_drop]; omega
 have h := rdI_of (l := (s.drop p).take i) (r := s.drop (p + (i + 1))) (b := s.getD (p + i) 0) (by omega) hl hb
 rw [← e0, gv_snoc, ← hz, hlen, p128, ← hZ, ← e2] at h
 exact h
def putR (n : Int) : By × Int := if -4611686018427387903 ≤ n then (putI n, 0) else ([], 10)
theorem putR_uz (Z : Nat) {t : By} {e : Int} (h : putR (uz Z) = (t, e)) : (e = 0 ∧ -4611686018427387903 ≤ uz Z ∧ t = vb 8 Z) ∨ (e ≠ 0 ∧ ¬ -4611686018427387903 ≤ uz Z) := by
 unfold putR at h
 split at h
 ·rename_i hc
  simp only [Prod.mk.injEq] at h
  left; exact ⟨h.2.symm, hc, by rw [← h.1]; unfold putI; rw [zz_uz]⟩
 ·rename_i hc
  simp only [Prod.mk.injEq] at h
  right; exact ⟨by rw [← h.2]; decide, hc⟩
def intR (s : By) (p : Nat) : Int × Int × Int := match rdI (s.drop p) with
 | some (n, r) => (n, ((s.length - r.length : Nat) : Int), 0)
 | none => (0, 0, 10)
theorem intV_R (s : By) (p : Nat) : intV s p = .tuple #[iv (intR s p).1, iv (intR s p).2.1, iv (intR s p).2.2] := by
 unfold intV intR
 cases rdI (s.drop p) with
 | none => rfl
 | some x => rfl
theorem intR_ok {s : By} {p : Nat} {n x e : Int} (h : intR s p = (n, x, e)) (he : e = 0) : ∃ r, rdI (s.drop p) = some (n, r) ∧ x = ((s.length - r.length : Nat) : Int) ∧ s.drop (s.length - r.length) = r ∧ r.length < s.length := by
 unfold intR at h
 cases hq : rdI (s.drop p) with
 | none => rw [hq] at h; simp only [Prod.mk.injEq] at h; rw [← h.2.2] at he; cases he
 | some z =>
  obtain ⟨m, r⟩ := z
  rw [hq] at h
  simp only [Prod.mk.injEq] at h
  obtain ⟨h1, h2⟩ := rdI_some hq
  have h3 := congrArg List.length h2
  have h4 := (putI_len m).1
  rw [List.length_drop, List.length_append] at h3
  refine ⟨r, by rw [h.1], h.2.1.symm, ?_, by omega⟩
  have h5 : s = (s.take p ++ putI m) ++ r := by rw [List.append_assoc, ← h2, List.take_append_drop]
  have h6 : s.length = (s.take p ++ putI m).length + r.length := by rw [← List.length_append, ← h5]
  have h7 := List.drop_left (l₁ := s.take p ++ putI m) (l₂ := r)
  rw [← h5] at h7
  rw [show s.length - r.length = (s.take p ++ putI m).length from by omega]
  exact h7
theorem intR_bad {s : By} {p : Nat} {n x e : Int} (h : intR s p = (n, x, e)) (he : ¬ e = 0) : rdI (s.drop p) = none := by
 unfold intR at h
 cases hq : rdI (s.drop p) with
 | none => rfl
 | some z => rw [hq] at h; simp only [Prod.mk.injEq] at h; exact absurd h.2.2.symm he
theorem rputInt_bad (n : Int) (w0 : World) (hs : n < -4611686018427387903) :
  Ret Tryz.prog 127 #[iv n] w0 fun v w => v = .tuple #[sv [], iv 10] ∧ Ext No w0 w := by
 refine ret_of Tryz.func127 rfl Tryz.ntmps127 (lb rfl) fun a hfr => ?_
 replace hfr : Fr 31 [(0, _)] [] a := hfr
 replace hst : St No w0 [] w0 := St.init w0
 refine wc_seq_region fun K1 hK1 => ?_
 refine wla hfr rfl fun a hfr => wla hfr rfl fun a hfr => ?_
 refine wl_nil (hK1 _ _ ?_)
 refine wc_seq_k fun K2 hK2 => ?_
 refine wc_seq_region fun K3 hK3 => ?_
 refine wlm hfr rfl fun a hfr => ?_
 refine wlv hfr ((v_lt rfl rfl).asb (b' := true) (by exact decide_eq_true (by omega))) fun a hfr => wlm hfr rfl fun a hfr => ?_
 refine wln hfr fun a hfr => ?_
 refine wln hfr fun a hfr => ?_
 refine wlv hfr (v_pick_t rfl rfl) fun a hfr => ?_
 refine wl_nil (hK3 _ _ ?_)
 refine wc_cond_t hfr rfl ?_
 refine wc_seq_region fun K4 hK4 => ?_
 refine wla hfr rfl fun a hfr => wla hfr rfl fun a hfr => ?_
 refine wl_nil (hK4 _ _ ?_)
 replace hfr : Fr 31 [(0, _), (2, _), (3, _)] [] a := hfr.pick [0, 2, 3]
 refine wc_ret ?_
 refine fin_ret hfr Tryz.results127 (resAre_tmp rfl (resAre_tmp rfl resAre_nil)) ?_
 exact ⟨by rfl, hst.ext⟩
theorem rputInt_any {n e : Int} {t : By} {w0 : World} (h : putR n = (t, e)) (hn : n ≤ 4611686018427387903) : Ret Tryz.prog 127 #[iv n] w0 fun v w => v = .tuple #[sv t, iv e] ∧ Ext No w0 w := by
 unfold putR at h
 split at h
 ·cases h; exact rputInt_ok n w0 ⟨by assumption, hn⟩
 ·cases h; exact rputInt_bad n w0 (by omega)
set_option maxHeartbeats 4000000 in
theorem rint_walk (s : By) (p : Nat) (w0 : World) (hp : p ≤ s.length) (hsl : s.length ≤ 1000000) :
  Ret Tryz.prog 129 #[sv s, iv (p : Int)] w0 fun v w => v = intV s p ∧ Ext No w0 w := by
 refine ret_of Tryz.func129 rfl Tryz.ntmps129 (lb rfl) fun a hfr => ?_
 replace hfr : Fr 80 [(0, _), (1, _)] [] a := hfr
 replace hst : St No w0 [] w0 := St.init w0
 refine wc_seq_region fun K1 hK1 => ?_
 refine wla hfr rfl fun a hfr => wla hfr rfl fun a hfr => wla hfr rfl fun a hfr => ?_
 refine wl_nil (hK1 _ _ ?_)
 refine wc_seq_k fun K2 hK2 => ?_
 refine wc_seq_region fun K3 hK3 => ?_
 refine wlm hfr rfl fun a hfr => ?_
 refine wlv hfr ((v_lt rfl rfl).asb (b' := false) (by exact decide_eq_false (by omega))) fun a hfr => wlm hfr rfl fun a hfr => wly hfr (v_move rfl) fun a hfr => wly hfr (v_move rfl) fun a hfr => wly hfr (v_len_str rfl rfl (Tryz.runUnderlying9 _)) fun a hfr => wly hfr ((v_gt rfl rfl).asb (b' := false) (by exact decide_eq_false (by omega))) fun a hfr => ?_
 refine wlv hfr (v_pick_f rfl rfl) fun a hfr => ?_
 refine wl_nil (hK3 _ _ ?_)
 replace hfr : Fr 80 [(0, _), (1, _), (4, _), (5, _), (6, _), (20, _)] [] a := hfr.pick [0, 1, 4, 5, 6, 20]
 refine wc_cond_f hfr rfl ?_
 refine wc_skip ?_
 refine hK2 _ _ ?_
 refine wc_seq_region fun K4 hK4 => ?_
 refine wla hfr rfl fun a hfr => ?_
 refine wl_nil (hK4 _ _ ?_)
 refine wc_seq_k fun K5 hK5 => ?_
 refine wc_seq_region fun K6 hK6 => ?_
 refine wla hfr rfl fun a hfr => ?_
 refine wl_nil (hK6 _ _ ?_)
 refine wc_block ?_
 refine wc_loop (fun m a w => ∃ (i : Nat) (z : Nat), m = 9 - i ∧ (i ≤ 9) ∧ (p + i ≤ s.length) ∧ (∀ c ∈ (s.drop p).take i, 128 ≤ c.toNat) ∧ (z = gv ((s.drop p).take i)) ∧ (z < 2 ^ (7 * i)) ∧ Fr 80 [(0, sv s), (1, iv (p : Int)), (7, .int .u64 (z : Int)), (8, iv (i : Int))] [] a ∧ St No w0 [] w) _ ⟨0, 0, rfl, (by decide), (by omega), (by simp), rfl, (by decide), hfr.pick [0, 1, 7, 8], hst.select [] (by decide)⟩ ?_
 rintro _ a w1 ⟨i, z, rfl, hi, hpi0, hl, hzg, hzb, hfr, hst⟩
 refine wc_seq_k fun K7 hK7 => ?_
 refine wc_seq_region fun K8 hK8 => ?_
 refine wlm hfr rfl fun a hfr => ?_
 refine wlv hfr (v_lt rfl rfl) fun a hfr => wlm hfr rfl fun a hfr => ?_
 rcases Bool.eq_false_or_eq_true (decide ((i : Int) < 9)) with hb1 | hb1
 ·rw [hb1] at hfr
  try simp only [qz] at hb1
  refine wly hfr (v_move rfl) fun a hfr => wly hfr (v_move rfl) fun a hfr => wly hfr (v_add rfl rfl ⟨by omega, by omega⟩) fun a hfr => wly hfr (v_move rfl) fun a hfr => wly hfr (v_len_str rfl rfl (Tryz.runUnderlying9 _)) fun a hfr => wly hfr (v_lt rfl rfl) fun a hfr => ?_
  refine wlv hfr (v_pick_t rfl rfl) fun a hfr => ?_
  refine wl_nil (hK8 _ _ ?_)
  replace hfr : Fr 80 [(0, _), (1, _), (7, _), (8, _), (30, _)] [] a := hfr.pick [0, 1, 7, 8, 30]
  refine wc_cond hfr rfl (fun hc2 => ?_) (fun hc2 => ?_)
  ·rw [hc2] at hfr
   try simp only [qz] at hc2
   have hpi : p + i < s.length := by omega
   have hm8 : (s.getD (p + i) 0).toNat % 128 < 128 := Nat.mod_lt _ (by decide)
   have hzl := z_less hzb hm8
   have hz6 := z_63 (i := i) (by omega) hzl
   refine wc_skip ?_
   refine hK7 _ _ ?_
   refine wc_seq_k fun K9 hK9 => ?_
   refine wc_block ?_
   refine wc_seq_region fun K10 hK10 => ?_
   refine wlm hfr rfl fun a hfr => wlm hfr rfl fun a hfr => wlm hfr rfl fun a hfr => ?_
   refine wlv hfr (v_add rfl rfl ⟨by omega, by omega⟩) fun a hfr => ?_
   refine wlv hfr (v_index_str (k := (p + i)) rfl rfl (Tryz.runUnderlying9 _) (by omega) (by omega)) fun a hfr => ?_
   refine wlv hfr (v_conv_yu rfl (by kernel_rfl) Tryz.underlying215) fun a hfr => wla hfr rfl fun a hfr => ?_
   refine wl_nil (hK10 _ _ ?_)
   replace hfr : Fr 80 [(0, _), (1, _), (7, _), (8, _), (9, _)] [] a := hfr.pick [0, 1, 7, 8, 9]
   refine wc_seq_region fun K11 hK11 => ?_
   refine wlm hfr rfl fun a hfr => wlm hfr rfl fun a hfr => ?_
   refine wlv hfr (v_urem (m := (s.getD (p + i) 0).toNat) (n := 128) (by decide) rfl rfl) fun a hfr => wlm hfr rfl fun a hfr => ?_
   refine wlv hfr ((v_mul rfl rfl ⟨by omega, by omega⟩).asi (m' := ((7 * i : Nat) : Int)) (by omega)) fun a hfr => ?_
   refine wlv hfr ((v_ushl (m := (s.getD (p + i) 0).toNat % 128) (n := 7 * i) (by omega) rfl rfl).asi (m' := (((s.getD (p + i) 0).toNat % 128 * 2 ^ (7 * i) : Nat) : Int)) (by rw [Nat.mod_eq_of_lt (by omega)])) fun a hfr => ?_
   refine wlv hfr (v_uadd (m := z) (n := (s.getD (p + i) 0).toNat % 128 * 2 ^ (7 * i)) (by omega) rfl rfl) fun a hfr => wla hfr rfl fun a hfr => ?_
   refine wl_nil (hK11 _ _ ?_)
   replace hfr : Fr 80 [(0, _), (1, _), (8, _), (9, _), (7, _)] [] a := hfr.pick [0, 1, 8, 9, 7]
   refine wc_seq_k fun K12 hK12 => ?_
   refine wc_seq_region fun K13 hK13 => ?_
   refine wlm hfr rfl fun a hfr => ?_
   refine wlv hfr (v_ge rfl rfl) fun a hfr => ?_
   refine wl_nil (hK13 _ _ ?_)
   refine wc_cond hfr rfl (fun hc3 => ?_) (fun hc3 => ?_)
   ·rw [hc3] at hfr
    try simp only [qz] at hc3
    refine wc_exit ?_
    refine hK9 _ _ ?_
    refine wc_region ?_
    refine wlm hfr rfl fun a hfr => ?_
    refine wlv hfr (v_add rfl rfl ⟨by omega, by omega⟩) fun a hfr => wla hfr rfl fun a hfr => ?_
    refine wl_nil ?_
    refine ⟨_, ?_, i + 1, (z + (s.getD (p + i) 0).toNat % 128 * 2 ^ (7 * i)), rfl, (by omega), (by omega), (by intro c hc; rw [take_one (by rw [List.length_drop]; omega), List.mem_append, List.mem_singleton] at hc; rcases hc with hc | rfl; exact hl c hc; simp only [List.getD_eq_getElem?_getD, List.getElem?_drop] at *; omega), (by rw [gv_more hpi, ← hzg]), hzl, hfr.pick [0, 1, 7, 8], hst.select [] (by decide)⟩
    omega
   rw [hc3] at hfr
   try simp only [qz] at hc3
   obtain ⟨Z, hZ⟩ : ∃ Z, Z = (z + (s.getD (p + i) 0).toNat % 128 * 2 ^ (7 * i)) := ⟨_, rfl⟩
   have hra := rdI_at (by omega) hpi hl hzg (by omega) hZ
   obtain ⟨pt, pe, hpt⟩ : ∃ t e, putR (uz Z) = (t, e) := ⟨_, _, rfl⟩
   have hps := putR_uz Z hpt
   refine wc_skip ?_
   refine hK12 _ _ ?_
   refine wc_seq_region fun K14 hK14 => ?_
   refine wlm hfr rfl fun a hfr => ?_
   refine wlv hfr (v_uquo (m := (z + (s.getD (p + i) 0).toNat % 128 * 2 ^ (7 * i))) (n := 2) (by omega) (by decide) rfl rfl) fun a hfr => ?_
   refine wlv hfr (v_conv_ui (n := (z + (s.getD (p + i) 0).toNat % 128 * 2 ^ (7 * i)) / 2) (by omega) rfl (by kernel_rfl) Tryz.underlying3) fun a hfr => wla hfr rfl fun a hfr => ?_
   refine wl_nil (hK14 _ _ ?_)
   replace hfr : Fr 80 [(0, _), (1, _), (8, _), (7, _), (10, _)] [] a := hfr.pick [0, 1, 8, 7, 10]
   refine wc_seq_k fun K15 hK15 => ?_
   refine wc_seq_region fun K16 hK16 => ?_
   refine wlm hfr rfl fun a hfr => ?_
   refine wlv hfr (v_urem (m := (z + (s.getD (p + i) 0).toNat % 128 * 2 ^ (7 * i))) (n := 2) (by decide) rfl rfl) fun a hfr => ?_
   refine wlv hfr (v_eq rfl rfl) fun a hfr => ?_
   refine wl_nil (hK16 _ _ ?_)
   refine wc_cond hfr rfl (fun hc4 => ?_) (fun hc4 => ?_)
   ·rw [hc4] at hfr
    try simp only [qz] at hc4
    have huz : -(((z + (s.getD (p + i) 0).toNat % 128 * 2 ^ (7 * i)) / 2 : Nat) : Int) - 1 = uz Z := by rw [hZ]; unfold uz; rw [if_neg (by omega)]
    refine wc_region ?_
    refine wlm hfr rfl fun a hfr => ?_
    refine wlv hfr (v_neg rfl (by omega) (by omega)) fun a hfr => ?_
    refine wlv hfr (v_sub rfl rfl ⟨by omega, by omega⟩) fun a hfr => wla hfr rfl fun a hfr => ?_
    refine wl_nil ?_
    refine hK15 _ _ ?_
    replace hfr : Fr 80 [(0, _), (1, _), (8, _), (7, _), (10, _)] [] a := hfr.pick [0, 1, 8, 7, 10]
    refine wc_seq_region fun K17 hK17 => ?_
    refine wlm hfr rfl fun a hfr => ?_
    refine wl_callp hfr hst (by decide) Tryz.call127 rfl (rputInt_any (n := (-(((z + (s.getD (p + i) 0).toNat % 128 * 2 ^ (7 * i)) / 2 : Nat) : Int)) - 1) (t := pt) (e := pe) (by rw [huz]; exact hpt) (by omega)) ?_
    clear hfr hst
    intro a w2 hfr hst
    refine wlm hfr rfl fun a hfr => ?_
    refine wlv hfr (v_extract rfl rfl) fun a hfr => ?_
    refine wlv hfr (v_extract rfl rfl) fun a hfr => wla hfr rfl fun a hfr => wla hfr rfl fun a hfr => ?_
    refine wl_nil (hK17 _ _ ?_)
    refine wc_seq_k fun K18 hK18 => ?_
    refine wc_seq_region fun K19 hK19 => ?_
    refine wlm hfr rfl fun a hfr => ?_
    refine wlv hfr (v_ne rfl rfl) fun a hfr => wlm hfr rfl fun a hfr => ?_
    rcases Bool.eq_false_or_eq_true (!decide (pe = 0)) with hb5 | hb5
    ·rw [hb5] at hfr
     try simp only [qz] at hb5
     refine wln hfr fun a hfr => ?_
     refine wln hfr fun a hfr => ?_
     refine wln hfr fun a hfr => ?_
     refine wln hfr fun a hfr => ?_
     refine wln hfr fun a hfr => ?_
     refine wln hfr fun a hfr => ?_
     refine wln hfr fun a hfr => ?_
     refine wln hfr fun a hfr => ?_
     refine wln hfr fun a hfr => ?_
     refine wlv hfr (v_pick_t rfl rfl) fun a hfr => ?_
     refine wl_nil (hK19 _ _ ?_)
     replace hfr : Fr 80 [(0, _), (1, _), (8, _), (7, _), (10, _), (74, _)] [] a := hfr.pick [0, 1, 8, 7, 10, 74]
     refine wc_cond_t hfr rfl ?_
     refine wc_seq_region fun K20 hK20 => ?_
     refine wla hfr rfl fun a hfr => wla hfr rfl fun a hfr => wla hfr rfl fun a hfr => ?_
     refine wl_nil (hK20 _ _ ?_)
     refine wc_ret ?_
     refine fin_ret hfr Tryz.results129 (resAre_tmp rfl (resAre_tmp rfl (resAre_tmp rfl resAre_nil))) ?_
     refine ⟨?_, hst.ext⟩
     have hrn : rdI (s.drop p) = none := by
      rw [hra]; refine if_neg fun hc => ?_
      rcases hps with ⟨h1, h2, h3⟩ | ⟨h1, h2⟩
      ·exact hb5 h1
      ·exact h2 hc.2
     unfold intV; rw [hrn]; rfl
    rw [hb5] at hfr
    try simp only [qz] at hb5
    refine wly hfr (v_move rfl) fun a hfr => wly hfr (v_move rfl) fun a hfr => wly hfr (v_move rfl) fun a hfr => wly hfr (v_move rfl) fun a hfr => wly hfr (v_move rfl) fun a hfr => wly hfr (v_add rfl rfl ⟨by omega, by omega⟩) fun a hfr => wly hfr (v_add rfl rfl ⟨by omega, by omega⟩) fun a hfr => wly hfr ((v_slice_str (xs := s) (l := p) (h := (p + i + 1)) rfl rfl rfl Tryz.underlying9 (.inr (by rw [show ((p : Int) : Int) = ((p : Nat) : Int) from by omega] <;> rfl)) (.inr (by rw [show (((p : Int) + (i : Int)) + 1 : Int) = (((p + i + 1) : Nat) : Int) from by omega] <;> rfl)) (by omega) (by first | omega | exact Nat.min_le_left _ _)).as (v' := sv ((s.drop p).take ((p + i + 1) - p))) rfl) fun a hfr => wly hfr (v_sne rfl rfl) fun a hfr => ?_
    refine wlv hfr (v_pick_f rfl rfl) fun a hfr => ?_
    refine wl_nil (hK19 _ _ ?_)
    replace hfr : Fr 80 [(0, _), (1, _), (8, _), (7, _), (10, _), (74, _)] [] a := hfr.pick [0, 1, 8, 7, 10, 74]
    refine wc_cond hfr rfl (fun hc6 => ?_) (fun hc6 => ?_)
    ·rw [hc6] at hfr
     try simp only [qz] at hc6
     rw [show (p + i + 1) - p = i + 1 from by omega] at hc6
     refine wc_seq_region fun K21 hK21 => ?_
     refine wla hfr rfl fun a hfr => wla hfr rfl fun a hfr => wla hfr rfl fun a hfr => ?_
     refine wl_nil (hK21 _ _ ?_)
     refine wc_ret ?_
     refine fin_ret hfr Tryz.results129 (resAre_tmp rfl (resAre_tmp rfl (resAre_tmp rfl resAre_nil))) ?_
     refine ⟨?_, hst.ext⟩
     have hrn : rdI (s.drop p) = none := by
      rw [hra]; refine if_neg fun hc => ?_
      rcases hps with ⟨h1, h2, h3⟩ | ⟨h1, h2⟩
      ·exact hc6 (h3.trans hc.1)
      ·exact h2 hc.2
     unfold intV; rw [hrn]; rfl
    rw [hc6] at hfr
    try simp only [qz] at hc6
    rw [show (p + i + 1) - p = i + 1 from by omega] at hc6
    refine wc_skip ?_
    refine hK18 _ _ ?_
    refine wc_seq_region fun K22 hK22 => ?_
    refine wlm hfr rfl fun a hfr => wlm hfr rfl fun a hfr => wlm hfr rfl fun a hfr => ?_
    refine wlv hfr (v_add rfl rfl ⟨by omega, by omega⟩) fun a hfr => ?_
    refine wlv hfr (v_add rfl rfl ⟨by omega, by omega⟩) fun a hfr => wla hfr rfl fun a hfr => wla hfr rfl fun a hfr => wla hfr rfl fun a hfr => ?_
    refine wl_nil (hK22 _ _ ?_)
    replace hfr : Fr 80 [(0, _), (1, _), (8, _), (7, _), (4, _), (5, _), (6, _)] [] a := hfr.pick [0, 1, 8, 7, 4, 5, 6]
    refine wc_ret ?_
    refine fin_ret hfr Tryz.results129 (resAre_tmp rfl (resAre_tmp rfl (resAre_tmp rfl resAre_nil))) ?_
    refine ⟨?_, hst.ext⟩
    have hrs : rdI (s.drop p) = some (uz Z, s.drop (p + (i + 1))) := by
     rw [hra]; refine if_pos ?_; rcases hps with ⟨h1, h2, h3⟩ | ⟨h1, h2⟩
     ·exact ⟨h3.symm.trans hc6, h2⟩
     ·exact absurd hb5 h1
    unfold intV; rw [hrs]; simp only [retv, List.length_drop]; rw [huz, show ((s.length - (s.length - (p + (i + 1))) : Nat) : Int) = (p : Int) + (i : Int) + 1 from by omega]
   rw [hc4] at hfr
   try simp only [qz] at hc4
   have huz : (((z + (s.getD (p + i) 0).toNat % 128 * 2 ^ (7 * i)) / 2 : Nat) : Int) = uz Z := by rw [hZ]; unfold uz; rw [if_pos (by omega)]
   refine wc_skip ?_
   refine hK15 _ _ ?_
   refine wc_seq_region fun K23 hK23 => ?_
   refine wlm hfr rfl fun a hfr => ?_
   refine wl_callp hfr hst (by decide) Tryz.call127 rfl (rputInt_any (n := (((z + (s.getD (p + i) 0).toNat % 128 * 2 ^ (7 * i)) / 2 : Nat) : Int)) (t := pt) (e := pe) (by rw [huz]; exact hpt) (by omega)) ?_
   clear hfr hst
   intro a w3 hfr hst
   refine wlm hfr rfl fun a hfr => ?_
   refine wlv hfr (v_extract rfl rfl) fun a hfr => ?_
   refine wlv hfr (v_extract rfl rfl) fun a hfr => wla hfr rfl fun a hfr => wla hfr rfl fun a hfr => ?_
   refine wl_nil (hK23 _ _ ?_)
   replace hfr : Fr 80 [(0, _), (1, _), (8, _), (7, _), (10, _), (11, _), (12, _)] [] a := hfr.pick [0, 1, 8, 7, 10, 11, 12]
   refine wc_seq_k fun K24 hK24 => ?_
   refine wc_seq_region fun K25 hK25 => ?_
   refine wlm hfr rfl fun a hfr => ?_
   refine wlv hfr (v_ne rfl rfl) fun a hfr => wlm hfr rfl fun a hfr => ?_
   rcases Bool.eq_false_or_eq_true (!decide (pe = 0)) with hb7 | hb7
   ·rw [hb7] at hfr
    try simp only [qz] at hb7
    refine wln hfr fun a hfr => ?_
    refine wln hfr fun a hfr => ?_
    refine wln hfr fun a hfr => ?_
    refine wln hfr fun a hfr => ?_
    refine wln hfr fun a hfr => ?_
    refine wln hfr fun a hfr => ?_
    refine wln hfr fun a hfr => ?_
    refine wln hfr fun a hfr => ?_
    refine wln hfr fun a hfr => ?_
    refine wlv hfr (v_pick_t rfl rfl) fun a hfr => ?_
    refine wl_nil (hK25 _ _ ?_)
    replace hfr : Fr 80 [(0, _), (1, _), (8, _), (7, _), (10, _), (74, _)] [] a := hfr.pick [0, 1, 8, 7, 10, 74]
    refine wc_cond_t hfr rfl ?_
    refine wc_seq_region fun K26 hK26 => ?_
    refine wla hfr rfl fun a hfr => wla hfr rfl fun a hfr => wla hfr rfl fun a hfr => ?_
    refine wl_nil (hK26 _ _ ?_)
    refine wc_ret ?_
    refine fin_ret hfr Tryz.results129 (resAre_tmp rfl (resAre_tmp rfl (resAre_tmp rfl resAre_nil))) ?_
    refine ⟨?_, hst.ext⟩
    have hrn : rdI (s.drop p) = none := by
     rw [hra]; refine if_neg fun hc => ?_
     rcases hps with ⟨h1, h2, h3⟩ | ⟨h1, h2⟩
     ·exact hb7 h1
     ·exact h2 hc.2
    unfold intV; rw [hrn]; rfl
   rw [hb7] at hfr
   try simp only [qz] at hb7
   refine wly hfr (v_move rfl) fun a hfr => wly hfr (v_move rfl) fun a hfr => wly hfr (v_move rfl) fun a hfr => wly hfr (v_move rfl) fun a hfr => wly hfr (v_move rfl) fun a hfr => wly hfr (v_add rfl rfl ⟨by omega, by omega⟩) fun a hfr => wly hfr (v_add rfl rfl ⟨by omega, by omega⟩) fun a hfr => wly hfr ((v_slice_str (xs := s) (l := p) (h := (p + i + 1)) rfl rfl rfl Tryz.underlying9 (.inr (by rw [show ((p : Int) : Int) = ((p : Nat) : Int) from by omega] <;> rfl)) (.inr (by rw [show (((p : Int) + (i : Int)) + 1 : Int) = (((p + i + 1) : Nat) : Int) from by omega] <;> rfl)) (by omega) (by first | omega | exact Nat.min_le_left _ _)).as (v' := sv ((s.drop p).take ((p + i + 1) - p))) rfl) fun a hfr => wly hfr (v_sne rfl rfl) fun a hfr => ?_
   refine wlv hfr (v_pick_f rfl rfl) fun a hfr => ?_
   refine wl_nil (hK25 _ _ ?_)
   replace hfr : Fr 80 [(0, _), (1, _), (8, _), (7, _), (10, _), (74, _)] [] a := hfr.pick [0, 1, 8, 7, 10, 74]
   refine wc_cond hfr rfl (fun hc8 => ?_) (fun hc8 => ?_)
   ·rw [hc8] at hfr
    try simp only [qz] at hc8
    rw [show (p + i + 1) - p = i + 1 from by omega] at hc8
    refine wc_seq_region fun K27 hK27 => ?_
    refine wla hfr rfl fun a hfr => wla hfr rfl fun a hfr => wla hfr rfl fun a hfr => ?_
    refine wl_nil (hK27 _ _ ?_)
    refine wc_ret ?_
    refine fin_ret hfr Tryz.results129 (resAre_tmp rfl (resAre_tmp rfl (resAre_tmp rfl resAre_nil))) ?_
    refine ⟨?_, hst.ext⟩
    have hrn : rdI (s.drop p) = none := by
     rw [hra]; refine if_neg fun hc => ?_
     rcases hps with ⟨h1, h2, h3⟩ | ⟨h1, h2⟩
     ·exact hc8 (h3.trans hc.1)
     ·exact h2 hc.2
    unfold intV; rw [hrn]; rfl
   rw [hc8] at hfr
   try simp only [qz] at hc8
   rw [show (p + i + 1) - p = i + 1 from by omega] at hc8
   refine wc_skip ?_
   refine hK24 _ _ ?_
   refine wc_seq_region fun K28 hK28 => ?_
   refine wlm hfr rfl fun a hfr => wlm hfr rfl fun a hfr => wlm hfr rfl fun a hfr => ?_
   refine wlv hfr (v_add rfl rfl ⟨by omega, by omega⟩) fun a hfr => ?_
   refine wlv hfr (v_add rfl rfl ⟨by omega, by omega⟩) fun a hfr => wla hfr rfl fun a hfr => wla hfr rfl fun a hfr => wla hfr rfl fun a hfr => ?_
   refine wl_nil (hK28 _ _ ?_)
   replace hfr : Fr 80 [(0, _), (1, _), (8, _), (7, _), (4, _), (5, _), (6, _)] [] a := hfr.pick [0, 1, 8, 7, 4, 5, 6]
   refine wc_ret ?_
   refine fin_ret hfr Tryz.results129 (resAre_tmp rfl (resAre_tmp rfl (resAre_tmp rfl resAre_nil))) ?_
   refine ⟨?_, hst.ext⟩
   have hrs : rdI (s.drop p) = some (uz Z, s.drop (p + (i + 1))) := by
    rw [hra]; refine if_pos ?_; rcases hps with ⟨h1, h2, h3⟩ | ⟨h1, h2⟩
    ·exact ⟨h3.symm.trans hc8, h2⟩
    ·exact absurd hb7 h1
   unfold intV; rw [hrs]; simp only [retv, List.length_drop]; rw [huz, show ((s.length - (s.length - (p + (i + 1))) : Nat) : Int) = (p : Int) + (i : Int) + 1 from by omega]
  rw [hc2] at hfr
  try simp only [qz] at hc2
  have hrn : rdI (s.drop p) = none := by
   have := rdI_end (l := (s.drop p).take i) hl (by rw [List.length_take]; omega)
   rwa [List.take_of_length_le (by rw [List.length_drop]; omega)] at this
  refine wc_exit ?_
  refine hK5 _ _ ?_
  refine wc_seq_region fun K29 hK29 => ?_
  refine wla hfr rfl fun a hfr => wla hfr rfl fun a hfr => wla hfr rfl fun a hfr => ?_
  refine wl_nil (hK29 _ _ ?_)
  refine wc_ret ?_
  refine fin_ret hfr Tryz.results129 (resAre_tmp rfl (resAre_tmp rfl (resAre_tmp rfl resAre_nil))) ?_
  refine ⟨?_, hst.ext⟩
  unfold intV; rw [hrn]; rfl
 rw [hb1] at hfr
 try simp only [qz] at hb1
 have hrn : rdI (s.drop p) = none := by
  have h9 : i = 9 := by omega
  subst h9
  have := rdI_nine (l := (s.drop p).take 9) (r := (s.drop p).drop 9) hl (by rw [List.length_take, List.length_drop]; omega)
  rwa [List.take_append_drop] at this
 refine wln hfr fun a hfr => ?_
 refine wln hfr fun a hfr => ?_
 refine wln hfr fun a hfr => ?_
 refine wln hfr fun a hfr => ?_
 refine wln hfr fun a hfr => ?_
 refine wln hfr fun a hfr => ?_
 refine wlv hfr (v_pick_f rfl rfl) fun a hfr => ?_
 refine wl_nil (hK8 _ _ ?_)
 replace hfr : Fr 80 [(0, _), (1, _), (7, _), (8, _), (30, _)] [] a := hfr.pick [0, 1, 7, 8, 30]
 refine wc_cond_f hfr rfl ?_
 refine wc_exit ?_
 refine hK5 _ _ ?_
 refine wc_seq_region fun K30 hK30 => ?_
 refine wla hfr rfl fun a hfr => wla hfr rfl fun a hfr => wla hfr rfl fun a hfr => ?_
 refine wl_nil (hK30 _ _ ?_)
 refine wc_ret ?_
 refine fin_ret hfr Tryz.results129 (resAre_tmp rfl (resAre_tmp rfl (resAre_tmp rfl resAre_nil))) ?_
 refine ⟨?_, hst.ext⟩
 unfold intV; rw [hrn]; rfl
end Go.Proofs.YtmmfieceinmloaaGreatDoor
namespace Go.Proofs.YtmmfieceinmloaaGreatDoor
open Go.RowKit Go.PW
set_option linter.unusedVariables false
set_option linter.unusedSimpArgs false
set_option maxRecDepth 4000
open Go.ChangeShapes Go.WideShapes Go.ChangeAt
end Go.Proofs.YtmmfieceinmloaaGreatDoor
namespace Go.Proofs.YtmmfieceinmloaaGreatDoor
open Go.RowKit Go.PW
set_option linter.unusedVariables false
set_option linter.unusedSimpArgs false
set_option maxRecDepth 4000
theorem intsR_drop {s : By} {p m : Nat} {l : List Int} {r : By} (hp : p ≤ s.length) (h : intsR m (s.drop p) = some (l, r)) : s.drop (s.length - r.length) = r ∧ r.length ≤ s.length := by
 obtain ⟨h1, _⟩ := intsR_some h
 have h5 : s = (s.take p ++ puts l) ++ r := by rw [List.append_assoc, ← h1, List.take_append_drop]
 have h6 : s.length = (s.take p ++ puts l).length + r.length := by rw [← List.length_append, ← h5]
 refine ⟨?_, by omega⟩
 have h7 := List.drop_left (l₁ := s.take p ++ puts l) (l₂ := r)
 rw [← h5] at h7
 rw [show s.length - r.length = (s.take p ++ puts l).length from by omega]
 exact h7
theorem v_u8inc {P : Program} {w : World} {L : List (Nat × Value)} {dst : Option Tmp} {T T' ty : TypeId} {pos : String} {af : Array Edge} {gd : Option (Nat × Bool)} {x y : Operand} {n : Nat} (h : n < 255) (hx : ev L x = some (.int .u8 (n : Int))) (hy : ev L y = some (.int .u8 1)) : OpV P ⟨dst, .binOp .add T x y T', ty, pos, af, gd⟩ L w (.int .u8 ((n + 1 : Nat) : Int)) :=
 v_bin hx hy (by
  rw [run_arith (.inl rfl)]
  have : IntKind.u8.wrap ((n : Int) + 1) = ((n + 1 : Nat) : Int) := by
   rw [show (n : Int) + 1 = ((n + 1 : Nat) : Int) from rfl, wrap_u8]; simp; omega
  simp only [this])
def digs : By := [48, 49, 50, 51, 52, 53, 54, 55, 56, 57, 97, 98, 99, 100, 101, 102]
theorem hex_cut : ∀ n, n < 16 → (digs.drop n).take (n + 1 - n) = [hexD n] := by decide
theorem texts_take {ps : List Pxy} {k : Nat} (h : ∀ p ∈ ps.take k, p.sig.length = 32) (h4 : ps.length ≤ 4) : (encB ps k).length ≤ 10000 := by
 unfold encB
 have h1 := puts_len [(ps.length : Int)]
 have h2 := texts_len (l := ps.take k) h
 rw [List.length_append]
 rw [List.length_take] at h2
 simp only [List.length_cons, List.length_nil] at h1
 omega
theorem enc_no2 {x : Wsh} {ps : List Pxy} {k : Nat} (hk : k < ps.length) (h : ¬ ((ps.getD k Pxy.z).sig.length : Int) = 32) : encodeH x ps = none := by
 cases he : encodeH x ps with
 | none => rfl
 | some s =>
  obtain ⟨_, _, h3, _⟩ := encode_some.1 he
  have := h3 _ (getD_mem (d := Pxy.z) hk)
  omega
theorem take_all {ps : List Pxy} {k : Nat} (h : ∀ p ∈ ps.take k, p.sig.length = 32) (hk : k = ps.length) : ∀ p ∈ ps, p.sig.length = 32 := by
 subst hk; rwa [List.take_length] at h
def encT (x : Wsh) (ps : List Pxy) : By × Int := match encodeH x ps with
 | some s => (s, 0)
 | none => ([], 150)
theorem enc_T (x : Wsh) (ps : List Pxy) : (match encodeH x ps with | some s => Value.tuple #[sv s, iv 0] | none => .tuple #[sv [], iv 150]) = .tuple #[sv (encT x ps).1, iv (encT x ps).2] := by
 unfold encT; cases encodeH x ps <;> rfl
theorem rint_x {s : By} {p : Nat} {a b e : Int} {w0 : World} (h : intR s p = (a, b, e)) (hp : p ≤ s.length) (hsl : s.length ≤ 1000000) : Ret Tryz.prog 129 #[sv s, iv (p : Int)] w0 fun v w => v = .tuple #[iv a, iv b, iv e] ∧ Ext No w0 w := by
 have := rint_walk s p w0 hp hsl
 rw [intV_R, h] at this
 exact this
theorem rints_run (s : By) (p mm : Nat) (w0 : World) (hp : p ≤ s.length) (hsl : s.length ≤ 1000000) (hm : mm ≤ 100) :
  Ret Tryz.prog 85 #[sv s, iv (p : Int), iv (mm : Int)] w0 fun v w => (∃ l r, intsR mm (s.drop p) = some (l, r) ∧ MemR w0 (fun lv : Value => .tuple #[lv, iv ((s.length - r.length : Nat) : Int), .bool true]) (fun lv => [own lv 3 1 ((l).map fun n => [iv n])]) (fun _ => True) v w) ∨ (intsR mm (s.drop p) = none ∧ v = .tuple #[.slice none 0 0, iv 0, .bool false] ∧ Ext No w0 w) := by
 refine ret_of Tryz.func85 rfl Tryz.ntmps85 (lb rfl) fun a hfr => ?_
 replace hfr : Fr 35 [(0, _), (1, _), (2, _)] [] a := hfr
 replace hst : St No w0 [] w0 := St.init w0
 refine wc_seq_region fun K1 hK1 => ?_
 refine wla hfr rfl fun a hfr => wla hfr rfl fun a hfr => wla hfr rfl fun a hfr => ?_
 refine wl_nil (hK1 _ _ ?_)
 refine wc_seq_region fun K2 hK2 => ?_
 refine wla hfr rfl fun a hfr => ?_
 refine wl_nil (hK2 _ _ ?_)
 refine wc_seq_k fun K3 hK3 => ?_
 refine wc_seq_region fun K4 hK4 => ?_
 refine wla hfr rfl fun a hfr => ?_
 refine wl_nil (hK4 _ _ ?_)
 refine wc_block ?_
 replace hst : St No w0 [own (.slice none 0 0) 3 1 ((([] : List Int)).map fun n => [iv n])] w0 := hst.nil_own
 refine wc_loop (fun m a w => ∃ (k : Nat) (q : Nat) (pre : List Int) (v : Value), m = mm - k ∧ (k ≤ mm) ∧ (q ≤ s.length) ∧ (intsR mm (s.drop p) = (intsR (mm - k) (s.drop q)).map fun x => (pre ++ x.1, x.2)) ∧ (pre.length = k) ∧ Fr 35 [(0, sv s), (2, iv (mm : Int)), (1, iv (q : Int)), (9, v), (10, iv (k : Int))] [] a ∧ St No w0 [own v 3 1 ((pre).map fun n => [iv n])] w) _ ⟨0, p, [], .slice none 0 0, rfl, Nat.zero_le _, hp, (by rw [Nat.sub_zero]; cases intsR mm (s.drop p) <;> simp), rfl, hfr.pick [0, 2, 1, 9, 10], hst.select [0] (by decide)⟩ ?_
 rintro _ a w1 ⟨k, q, pre, v, rfl, hk, hq, hr, hpl, hfr, hst⟩
 refine wc_seq_k fun K5 hK5 => ?_
 refine wc_seq_region fun K6 hK6 => ?_
 refine wlm hfr rfl fun a hfr => wlm hfr rfl fun a hfr => ?_
 refine wlv hfr (v_lt rfl rfl) fun a hfr => ?_
 refine wl_nil (hK6 _ _ ?_)
 refine wc_cond hfr rfl (fun hc1 => ?_) (fun hc1 => ?_)
 ·rw [hc1] at hfr
  try simp only [qz] at hc1
  refine wc_skip ?_
  refine hK5 _ _ ?_
  refine wc_seq_k fun K7 hK7 => ?_
  refine wc_block ?_
  obtain ⟨en, ex, ee, hin⟩ : ∃ a b d, intR s q = (a, b, d) := ⟨_, _, _, rfl⟩
  refine wc_seq_region fun K8 hK8 => ?_
  refine wlm hfr rfl fun a hfr => wlm hfr rfl fun a hfr => ?_
  refine wl_callp hfr hst (by decide) Tryz.call129 rfl (rint_x hin hq hsl) ?_
  clear hfr hst
  intro a w2 hfr hst
  refine wlm hfr rfl fun a hfr => ?_
  refine wlv hfr (v_extract rfl rfl) fun a hfr => ?_
  refine wlv hfr (v_extract rfl rfl) fun a hfr => ?_
  refine wlv hfr (v_extract rfl rfl) fun a hfr => wla hfr rfl fun a hfr => wla hfr rfl fun a hfr => wla hfr rfl fun a hfr => ?_
  refine wl_nil (hK8 _ _ ?_)
  replace hfr : Fr 35 [(0, _), (2, _), (1, _), (9, _), (10, _), (11, _), (12, _), (13, _)] [] a := hfr.pick [0, 2, 1, 9, 10, 11, 12, 13]
  refine wc_seq_k fun K9 hK9 => ?_
  refine wc_seq_region fun K10 hK10 => ?_
  refine wlm hfr rfl fun a hfr => ?_
  refine wlv hfr (v_ne rfl rfl) fun a hfr => ?_
  refine wl_nil (hK10 _ _ ?_)
  refine wc_cond hfr rfl (fun hc2 => ?_) (fun hc2 => ?_)
  ·rw [hc2] at hfr
   try simp only [qz] at hc2
   have hno : intsR mm (s.drop p) = none := by rw [hr, show mm - k = (mm - (k + 1)) + 1 from by omega, intsR_bad (intR_bad hin hc2)]; rfl
   refine wc_seq_region fun K11 hK11 => ?_
   refine wla hfr rfl fun a hfr => wla hfr rfl fun a hfr => wla hfr rfl fun a hfr => ?_
   refine wl_nil (hK11 _ _ ?_)
   refine wc_ret ?_
   refine fin_ret hfr Tryz.results85 (resAre_tmp rfl (resAre_tmp rfl (resAre_tmp rfl resAre_nil))) ?_
   exact .inr ⟨hno, rfl, hst.ext⟩
  rw [hc2] at hfr
  try simp only [qz] at hc2
  obtain ⟨r, hrd, hex, hdr, hrl⟩ := intR_ok hin hc2
  refine wc_skip ?_
  refine hK9 _ _ ?_
  refine wc_seq_region fun K12 hK12 => ?_
  refine wlm hfr rfl fun a hfr => wlm hfr rfl fun a hfr => ?_
  refine wl_buildSlice (E := 3) (sz := 1) rfl [[iv en]] (by kernel_rfl) (by simp) rfl (by decide) (by decide) hfr hst ?_
  clear hfr hst
  intro a w3 hfr hst
  refine wl_append (i := 1) (sT := 88) (inf := Tryz.t3) (z := iv 0) (b := 0) (off := 0) (m := 0) (c := 0) rfl rfl rfl (hst.ownAt (i := 0) rfl) (by simp) Tryz.underlying88 rfl rfl rfl rfl (by decide) (by simp [Value.oneCell', yv, wv, sv]) (by have hby : Tryz.t3.bytes = 8 := rfl; simp only [big, hby, List.length_append, List.length_map, List.length_cons, List.length_nil]; omega) (by have hby : Tryz.t3.bytes = 8 := rfl; simp only [big, hby, List.length_append, List.length_map, List.length_cons, List.length_nil]; omega) (by decide) hfr hst fun a w4 s3 hfr hst _ => ?_
  replace hst : St No w0 [own (.slice (some ⟨w2.heap.size, 0, none⟩) 1 1) 3 1 ([[iv en]]), own s3 3 1 ((pre ++ [en]).map fun n => [iv n])] w4 := by rw [List.map_append]; exact hst
  refine wla hfr rfl fun a hfr => ?_
  refine wl_nil (hK12 _ _ ?_)
  replace hfr : Fr 35 [(0, _), (2, _), (10, _), (12, _), (9, _)] [] a := hfr.pick [0, 2, 10, 12, 9]
  replace hst : St No w0 [_] w4 := hst.mask [false, true]
  refine wc_region ?_
  refine wlm hfr rfl fun a hfr => wla hfr rfl fun a hfr => ?_
  refine wl_nil ?_
  refine hK7 _ _ ?_
  refine wc_region ?_
  refine wlm hfr rfl fun a hfr => ?_
  refine wlv hfr (v_add rfl rfl ⟨by omega, by omega⟩) fun a hfr => wla hfr rfl fun a hfr => ?_
  refine wl_nil ?_
  rw [hex] at hfr
  refine ⟨_, ?_, k + 1, s.length - r.length, pre ++ [en], s3, rfl, (by omega), (by omega), (by rw [hr, show mm - k = (mm - (k + 1)) + 1 from by omega, intsR_ok hrd, hdr]; cases intsR (mm - (k + 1)) r <;> simp), (by rw [List.length_append, hpl]; rfl), hfr.pick [0, 2, 1, 9, 10], hst.select [0] (by decide)⟩
  omega
 rw [hc1] at hfr
 try simp only [qz] at hc1
 refine wc_exit ?_
 refine hK3 _ _ ?_
 refine wc_seq_region fun K13 hK13 => ?_
 refine wlm hfr rfl fun a hfr => wlm hfr rfl fun a hfr => wla hfr rfl fun a hfr => wla hfr rfl fun a hfr => wla hfr rfl fun a hfr => ?_
 refine wl_nil (hK13 _ _ ?_)
 replace hfr : Fr 35 [(6, _), (7, _), (8, _)] [] a := hfr.pick [6, 7, 8]
 refine wc_ret ?_
 refine fin_ret hfr Tryz.results85 (resAre_tmp rfl (resAre_tmp rfl (resAre_tmp rfl resAre_nil))) ?_
 have hmk : mm - k = 0 := by omega
 rw [hmk] at hr
 have hqq : s.length - (s.drop q).length = q := by rw [List.length_drop]; omega
 exact .inl ⟨pre, s.drop q, by rw [hr]; simp [intsR], v, by rw [hqq]; rfl, trivial, hst.ext, St.out (E := [own v 3 1 ((pre).map fun n => [iv n])]) (H := []) hst⟩
theorem rints_ok {s : By} {p m : Nat} {l : List Int} {r : By} {w0 : World} (h : intsR m (s.drop p) = some (l, r)) (hp : p ≤ s.length) (hsl : s.length ≤ 1000000) (hm : m ≤ 100) : Ret Tryz.prog 85 #[sv s, iv (p : Int), iv (m : Int)] w0 (MemR w0 (fun lv : Value => .tuple #[lv, iv ((s.length - r.length : Nat) : Int), .bool true]) (fun lv => [own lv 3 1 ((l).map fun n => [iv n])]) (fun _ => True)) := by
 refine (rints_run s p m w0 hp hsl hm).mono fun v w h2 => ?_
 rcases h2 with ⟨l2, r2, h3, h4⟩ | ⟨h3, _⟩
 ·rw [h] at h3; cases h3; exact h4
 ·rw [h] at h3; cases h3
theorem rints_bad {s : By} {p m : Nat} {w0 : World} (h : intsR m (s.drop p) = none) (hp : p ≤ s.length) (hsl : s.length ≤ 1000000) (hm : m ≤ 100) : Ret Tryz.prog 85 #[sv s, iv (p : Int), iv (m : Int)] w0 fun v w => v = .tuple #[.slice none 0 0, iv 0, .bool false] ∧ Ext No w0 w := by
 refine (rints_run s p m w0 hp hsl hm).mono fun v w h2 => ?_
 rcases h2 with ⟨l2, r2, h3, h4⟩ | ⟨_, h3⟩
 ·rw [h] at h3; cases h3
 ·exact h3
theorem rhex_ok (s : By) (w0 : World) (hs : 8 ≤ s.length) (hs2 : s.length ≤ 1000) :
  Ret Tryz.prog 89 #[sv s] w0 fun v w => v = sv (hexs (s.take 8)) ∧ Ext No w0 w := by
 refine ret_of Tryz.func89 rfl Tryz.ntmps89 (lb rfl) fun a hfr => ?_
 replace hfr : Fr 33 [(0, _)] [] a := hfr
 replace hst : St No w0 [] w0 := St.init w0
 refine wc_seq_region fun K1 hK1 => ?_
 refine wla hfr rfl fun a hfr => ?_
 refine wl_nil (hK1 _ _ ?_)
 refine wc_seq_region fun K2 hK2 => ?_
 refine wla hfr rfl fun a hfr => ?_
 refine wl_nil (hK2 _ _ ?_)
 refine wc_seq_k fun K3 hK3 => ?_
 refine wc_seq_region fun K4 hK4 => ?_
 refine wla hfr rfl fun a hfr => ?_
 refine wl_nil (hK4 _ _ ?_)
 refine wc_block ?_
 have hz0 : ([] : By) = hexs (s.take 0) := rfl
 rw [hz0] at hfr
 refine wc_loop (fun m a w => ∃ (k : Nat), m = 8 - k ∧ (k ≤ 8) ∧ Fr 33 [(0, sv s), (2, sv (hexs (s.take 0))), (4, iv (k : Int)), (3, sv (hexs (s.take k)))] [] a ∧ St No w0 [] w) _ ⟨0, rfl, Nat.zero_le _, hfr.pick [0, 2, 4, 3], hst.select [] (by decide)⟩ ?_
 rintro _ a w1 ⟨k, rfl, hk, hfr, hst⟩
 refine wc_seq_k fun K5 hK5 => ?_
 refine wc_seq_region fun K6 hK6 => ?_
 refine wlm hfr rfl fun a hfr => ?_
 refine wlv hfr (v_lt rfl rfl) fun a hfr => ?_
 refine wl_nil (hK6 _ _ ?_)
 refine wc_cond hfr rfl (fun hc1 => ?_) (fun hc1 => ?_)
 ·rw [hc1] at hfr
  try simp only [qz] at hc1
  refine wc_skip ?_
  refine hK5 _ _ ?_
  refine wc_seq_k fun K7 hK7 => ?_
  refine wc_block ?_
  refine wc_of_dr (by kernel_rfl) (dr_of_wd (by kernel_rfl) fun w2 hxz => ?_)
  replace hst := hst.grow hxz
  refine wd_sub (k := 0) 22 [11, 21] hfr (by kernel_rfl) (by kernel_rfl) (by kernel_rfl) (by rfl) ?_
  replace hfr : Fr 33 [(0, _), (2, _), (4, _), (3, _), (5, _), (6, _)] [] a := hfr.pick [0, 2, 4, 3, 5, 6]
  refine wc_phases_q [] (fun i => match i with | _ => fun _ _ => False) 22 [[], [], [], [1, 2], [3], [], [], [5, 6], [7], [8], [4, 9], [0, 10], [], [], [12, 13], [14], [], [], [16, 17], [18], [19], [15, 20]] [sv (hexs (s.take k)), sv s, iv (k : Int), yv (s.getD k 0), .int .u8 (((s.getD k 0).toNat / 16 : Nat) : Int), sv s, iv (k : Int), yv (s.getD k 0), .int .u8 (((s.getD k 0).toNat / 16 : Nat) : Int), .int .u8 (((s.getD k 0).toNat / 16 + 1 : Nat) : Int), sv ([hexD ((s.getD k 0).toNat / 16)]), sv ((hexs (s.take k)) ++ ([hexD ((s.getD k 0).toNat / 16)])), sv s, iv (k : Int), yv (s.getD k 0), .int .u8 (((s.getD k 0).toNat % 16 : Nat) : Int), sv s, iv (k : Int), yv (s.getD k 0), .int .u8 (((s.getD k 0).toNat % 16 : Nat) : Int), .int .u8 (((s.getD k 0).toNat % 16 + 1 : Nat) : Int), sv ([hexD ((s.getD k 0).toNat % 16)])] hfr hst (by kernel_rfl) (by kernel_rfl) (by kernel_rfl) ?_ ?_ ?_
  ·intro i hi hiq
   match i, hi, hiq with
   | 0, _, _ =>
    intro w hst
    exact OpV.g (v_move rfl)
   | 1, _, _ =>
    intro w hst
    exact OpV.g (v_move rfl)
   | 2, _, _ =>
    intro w hst
    exact OpV.g (v_move rfl)
   | 3, _, _ =>
    intro w hst
    exact OpV.g (v_index_str (k := k) rfl rfl (Tryz.runUnderlying9 _) (by omega) (by omega))
   | 4, _, _ =>
    intro w hst
    exact OpV.g ((v_yquo (a := (s.getD k 0)) (b := 16) (by decide) rfl rfl).as (v' := .int .u8 (((s.getD k 0).toNat / 16 : Nat) : Int)) (by unfold yv; rw [UInt8.toNat_div]; rfl))
   | 5, _, _ =>
    intro w hst
    exact OpV.g (v_move rfl)
   | 6, _, _ =>
    intro w hst
    exact OpV.g (v_move rfl)
   | 7, _, _ =>
    intro w hst
    exact OpV.g (v_index_str (k := k) rfl rfl (Tryz.runUnderlying9 _) (by omega) (by omega))
   | 8, _, _ =>
    intro w hst
    exact OpV.g ((v_yquo (a := (s.getD k 0)) (b := 16) (by decide) rfl rfl).as (v' := .int .u8 (((s.getD k 0).toNat / 16 : Nat) : Int)) (by unfold yv; rw [UInt8.toNat_div]; rfl))
   | 9, _, _ =>
    intro w hst
    exact OpV.g (v_u8inc (n := (s.getD k 0).toNat / 16) (by have := UInt8.toNat_lt (s.getD k 0); omega) rfl rfl)
   | 10, _, _ =>
    intro w hst
    exact OpV.g ((v_slice_strk (xs := digs) (l := (s.getD k 0).toNat / 16) (h := (s.getD k 0).toNat / 16 + 1) rfl rfl rfl Tryz.underlying9 (.inr ⟨_, rfl⟩) (.inr ⟨_, rfl⟩) (by omega) (by have := UInt8.toNat_lt (s.getD k 0); show _ ≤ 16; omega)).as (v' := sv [hexD ((s.getD k 0).toNat / 16)]) (by rw [hex_cut _ (by have := UInt8.toNat_lt (s.getD k 0); omega)]))
   | 11, _, _ =>
    intro w hst
    exact OpV.g (v_sadd rfl rfl (by simp only [List.length_append, hexs_len, List.length_take, List.length_cons, List.length_nil]; omega))
   | 12, _, _ =>
    intro w hst
    exact OpV.g (v_move rfl)
   | 13, _, _ =>
    intro w hst
    exact OpV.g (v_move rfl)
   | 14, _, _ =>
    intro w hst
    exact OpV.g (v_index_str (k := k) rfl rfl (Tryz.runUnderlying9 _) (by omega) (by omega))
   | 15, _, _ =>
    intro w hst
    exact OpV.g ((v_yrem (a := (s.getD k 0)) (b := 16) (by decide) rfl rfl).as (v' := .int .u8 (((s.getD k 0).toNat % 16 : Nat) : Int)) (by unfold yv; rw [UInt8.toNat_mod]; rfl))
   | 16, _, _ =>
    intro w hst
    exact OpV.g (v_move rfl)
   | 17, _, _ =>
    intro w hst
    exact OpV.g (v_move rfl)
   | 18, _, _ =>
    intro w hst
    exact OpV.g (v_index_str (k := k) rfl rfl (Tryz.runUnderlying9 _) (by omega) (by omega))
   | 19, _, _ =>
    intro w hst
    exact OpV.g ((v_yrem (a := (s.getD k 0)) (b := 16) (by decide) rfl rfl).as (v' := .int .u8 (((s.getD k 0).toNat % 16 : Nat) : Int)) (by unfold yv; rw [UInt8.toNat_mod]; rfl))
   | 20, _, _ =>
    intro w hst
    exact OpV.g (v_u8inc (n := (s.getD k 0).toNat % 16) (by have := UInt8.toNat_lt (s.getD k 0); omega) rfl rfl)
   | 21, _, _ =>
    intro w hst
    exact OpV.g ((v_slice_strk (xs := digs) (l := (s.getD k 0).toNat % 16) (h := (s.getD k 0).toNat % 16 + 1) rfl rfl rfl Tryz.underlying9 (.inr ⟨_, rfl⟩) (.inr ⟨_, rfl⟩) (by omega) (by have := UInt8.toNat_lt (s.getD k 0); show _ ≤ 16; omega)).as (v' := sv [hexD ((s.getD k 0).toNat % 16)]) (by rw [hex_cut _ (by have := UInt8.toNat_lt (s.getD k 0); omega)]))
   | i + 22, h, _ => exact absurd h (by omega)
  ·intro i hi
   exact absurd hi (by simp)
  clear hfr hst
  intro  a w3 hfr hst
  replace hfr : Fr 33 [(9, sv (hexs (s.take k))), (10, sv s), (11, iv (k : Int)), (12, yv (s.getD k 0)), (13, .int .u8 (((s.getD k 0).toNat / 16 : Nat) : Int)), (14, sv s), (15, iv (k : Int)), (16, yv (s.getD k 0)), (17, .int .u8 (((s.getD k 0).toNat / 16 : Nat) : Int)), (18, .int .u8 (((s.getD k 0).toNat / 16 + 1 : Nat) : Int)), (19, sv ([hexD ((s.getD k 0).toNat / 16)])), (20, sv ((hexs (s.take k)) ++ ([hexD ((s.getD k 0).toNat / 16)]))), (21, sv s), (22, iv (k : Int)), (23, yv (s.getD k 0)), (24, .int .u8 (((s.getD k 0).toNat % 16 : Nat) : Int)), (25, sv s), (26, iv (k : Int)), (27, yv (s.getD k 0)), (28, .int .u8 (((s.getD k 0).toNat % 16 : Nat) : Int)), (29, .int .u8 (((s.getD k 0).toNat % 16 + 1 : Nat) : Int)), (30, sv ([hexD ((s.getD k 0).toNat % 16)])), (0, _), (2, _), (4, _), (3, _), (5, _), (6, _)] [] a := hfr
  refine wl_nil ?_
  refine wd_lin (k := 22) 24 [23] (by kernel_rfl) (by kernel_rfl) (by kernel_rfl) ?_
  refine wlv hfr (v_sadd rfl rfl (by simp only [List.length_append, hexs_len, List.length_take, List.length_cons, List.length_nil]; omega)) fun a hfr => wla hfr rfl fun a hfr => ?_
  refine wl_nil ?_
  refine wd_end (by kernel_rfl) ?_
  refine hK7 _ _ ?_
  replace hfr : Fr 33 [(0, _), (2, _), (4, _), (3, _)] [] a := hfr.pick [0, 2, 4, 3]
  refine wc_region ?_
  refine wlm hfr rfl fun a hfr => ?_
  refine wlv hfr (v_add rfl rfl ⟨by omega, by omega⟩) fun a hfr => wla hfr rfl fun a hfr => ?_
  refine wl_nil ?_
  rw [show ((hexs (s.take k)) ++ ([hexD ((s.getD k 0).toNat / 16)])) ++ ([hexD ((s.getD k 0).toNat % 16)]) = hexs (s.take (k + 1)) from by rw [take_one (by omega), hexs_snoc]] at hfr
  refine ⟨_, ?_, k + 1, rfl, (by omega), hfr.pick [0, 2, 4, 3], hst.select [] (by decide)⟩
  omega
 rw [hc1] at hfr
 try simp only [qz] at hc1
 obtain rfl : k = 8 := by omega
 refine wc_exit ?_
 refine hK3 _ _ ?_
 refine wc_seq_region fun K8 hK8 => ?_
 refine wlm hfr rfl fun a hfr => wla hfr rfl fun a hfr => ?_
 refine wl_nil (hK8 _ _ ?_)
 replace hfr : Fr 33 [(2, _)] [] a := hfr.pick [2]
 refine wc_ret ?_
 refine fin_ret hfr Tryz.results89 (resAre_tmp rfl resAre_nil) ?_
 exact ⟨by rfl, hst.ext⟩
theorem raccount_ok (key : By) (n d : Int) (w0 : World) (hkl : key.length ≤ 40000000) :
  Ret Tryz.prog 32 #[sv key, iv n, iv d] w0 fun v w => v = (if accOk key n d = true then .tuple #[sv (accH key n d), iv 0] else .tuple #[sv [], iv 150]) ∧ Ext No w0 w := by
 refine ret_of Tryz.func32 rfl Tryz.ntmps32 (lb rfl) fun a hfr => ?_
 replace hfr : Fr 27 [(0, _), (1, _), (2, _)] [] a := hfr
 replace hst : St No w0 [] w0 := St.init w0
 refine wc_seq_region fun K1 hK1 => ?_
 refine wla hfr rfl fun a hfr => wla hfr rfl fun a hfr => ?_
 refine wl_nil (hK1 _ _ ?_)
 refine wc_seq_k fun K2 hK2 => ?_
 refine wc_seq_region fun K3 hK3 => ?_
 refine wlm hfr rfl fun a hfr => ?_
 refine wlv hfr (v_len_str rfl rfl (Tryz.runUnderlying9 _)) fun a hfr => ?_
 refine wlv hfr (v_ne rfl rfl) fun a hfr => wlm hfr rfl fun a hfr => ?_
 rcases Bool.eq_false_or_eq_true (!decide ((key.length : Int) = 32)) with hb1 | hb1
 ·rw [hb1] at hfr
  try simp only [qz] at hb1
  refine wln hfr fun a hfr => ?_
  refine wln hfr fun a hfr => ?_
  refine wln hfr fun a hfr => ?_
  refine wlv hfr (v_pick_t rfl rfl) fun a hfr => wlm hfr rfl fun a hfr => ?_
  refine wln hfr fun a hfr => ?_
  refine wln hfr fun a hfr => ?_
  refine wln hfr fun a hfr => ?_
  refine wlv hfr (v_pick_t rfl rfl) fun a hfr => ?_
  refine wl_nil (hK3 _ _ ?_)
  replace hfr : Fr 27 [(0, _), (1, _), (2, _), (6, _), (7, _), (20, _)] [] a := hfr.pick [0, 1, 2, 6, 7, 20]
  refine wc_cond_t hfr rfl ?_
  refine wc_seq_region fun K4 hK4 => ?_
  refine wla hfr rfl fun a hfr => wla hfr rfl fun a hfr => ?_
  refine wl_nil (hK4 _ _ ?_)
  refine wc_ret ?_
  refine fin_ret hfr Tryz.results32 (resAre_tmp rfl (resAre_tmp rfl resAre_nil)) ?_
  exact ⟨by simp only [retv]; rw [if_neg (by unfold accOk; simp [hb1]; omega)]; rfl, hst.ext⟩
 rw [hb1] at hfr
 try simp only [qz] at hb1
 refine wly hfr (v_move rfl) fun a hfr => ?_
 refine wl_callpy hfr hst (by decide) rfl (by decide) rfl Tryz.call86 rfl (in_ok n 0 99999999 _) ?_
 clear hfr hst
 intro a w1 hfr hst
 refine wly hfr (v_not rfl) fun a hfr => ?_
 refine wlv hfr (v_pick_f rfl rfl) fun a hfr => wlm hfr rfl fun a hfr => ?_
 rcases Bool.eq_false_or_eq_true (!(inB n 0 99999999)) with hb2 | hb2
 ·rw [hb2] at hfr
  try simp only [qz] at hb2
  refine wln hfr fun a hfr => ?_
  refine wln hfr fun a hfr => ?_
  refine wln hfr fun a hfr => ?_
  refine wlv hfr (v_pick_t rfl rfl) fun a hfr => ?_
  refine wl_nil (hK3 _ _ ?_)
  replace hfr : Fr 27 [(0, _), (1, _), (2, _), (6, _), (7, _), (20, _)] [] a := hfr.pick [0, 1, 2, 6, 7, 20]
  refine wc_cond_t hfr rfl ?_
  refine wc_seq_region fun K5 hK5 => ?_
  refine wla hfr rfl fun a hfr => wla hfr rfl fun a hfr => ?_
  refine wl_nil (hK5 _ _ ?_)
  refine wc_ret ?_
  refine fin_ret hfr Tryz.results32 (resAre_tmp rfl (resAre_tmp rfl resAre_nil)) ?_
  exact ⟨by simp only [retv]; rw [if_neg (by unfold accOk; simp [hb2])]; rfl, hst.ext⟩
 rw [hb2] at hfr
 try simp only [qz] at hb2
 refine wly hfr (v_move rfl) fun a hfr => ?_
 refine wl_callpy hfr hst (by decide) rfl (by decide) rfl Tryz.call86 rfl (in_ok d 0 1000000 _) ?_
 clear hfr hst
 intro a w2 hfr hst
 refine wly hfr (v_not rfl) fun a hfr => ?_
 refine wlv hfr (v_pick_f rfl rfl) fun a hfr => ?_
 refine wl_nil (hK3 _ _ ?_)
 replace hfr : Fr 27 [(0, _), (1, _), (2, _), (6, _), (7, _), (20, _)] [] a := hfr.pick [0, 1, 2, 6, 7, 20]
 refine wc_cond hfr rfl (fun hc3 => ?_) (fun hc3 => ?_)
 ·rw [hc3] at hfr
  try simp only [qz] at hc3
  refine wc_seq_region fun K6 hK6 => ?_
  refine wla hfr rfl fun a hfr => wla hfr rfl fun a hfr => ?_
  refine wl_nil (hK6 _ _ ?_)
  refine wc_ret ?_
  refine fin_ret hfr Tryz.results32 (resAre_tmp rfl (resAre_tmp rfl resAre_nil)) ?_
  exact ⟨by simp only [retv]; rw [if_neg (by unfold accOk; simp [hc3])]; rfl, hst.ext⟩
 rw [hc3] at hfr
 try simp only [qz] at hc3
 refine wc_skip ?_
 refine hK2 _ _ ?_
 refine wc_seq_region fun K7 hK7 => ?_
 refine wlm hfr rfl fun a hfr => wlm hfr rfl fun a hfr => wlm hfr rfl fun a hfr => ?_
 refine wl_callp hfr hst (by decide) Tryz.call90 rfl (racontent_ok n d _ (acc_smalls hb2 hc3)) ?_
 clear hfr hst
 intro a w3 hfr hst
 refine wl_callp hfr hst (by decide) Tryz.call71 rfl (rseal_ok key (accC n d) _ (by omega) (acc_len n d)) ?_
 clear hfr hst
 intro a w4 hfr hst
 refine wl_callp hfr hst (by decide) Tryz.call89 rfl (rhex_ok (sealH key (accC n d)) _ (by rw [sealH_len]; decide) (by rw [sealH_len]; decide)) ?_
 clear hfr hst
 intro a w5 hfr hst
 refine wla hfr rfl fun a hfr => wla hfr rfl fun a hfr => ?_
 refine wl_nil (hK7 _ _ ?_)
 replace hfr : Fr 27 [(6, _), (7, _)] [] a := hfr.pick [6, 7]
 refine wc_ret ?_
 refine fin_ret hfr Tryz.results32 (resAre_tmp rfl (resAre_tmp rfl resAre_nil)) ?_
 exact ⟨by simp only [retv]; rw [if_pos (by unfold accOk; simp [hb2, hc3]; omega)]; rfl, hst.ext⟩
theorem raccount_x {key : By} {n d e : Int} {t : By} {w0 : World} (h : (if accOk key n d = true then (accH key n d, (0 : Int)) else ([], 150)) = (t, e)) (hkl : key.length ≤ 40000000) : Ret Tryz.prog 32 #[sv key, iv n, iv d] w0 fun v w => v = .tuple #[sv t, iv e] ∧ Ext No w0 w := by
 have := raccount_ok key n d w0 hkl
 split at h
 ·rename_i hc; rw [if_pos hc] at this; cases h; exact this
 ·rename_i hc; rw [if_neg hc] at this; cases h; exact this
theorem checks_T {key : By} {n d e : Int} {t code : By} (h : (if accOk key n d = true then (accH key n d, (0 : Int)) else ([], 150)) = (t, e)) : checksH key n d code = (decide (e = 0) && decide (t = code)) := by
 unfold checksH
 split at h
 ·rename_i hc; cases h; rw [hc]; rfl
 ·rename_i hc; cases h; rw [Bool.not_eq_true _ |>.mp hc]; rfl
theorem rchecks_ok (key : By) (n d : Int) (code : By) (w0 : World) (hkl : key.length ≤ 40000000) :
  Ret Tryz.prog 34 #[sv key, iv n, iv d, sv code] w0 fun v w => v = .bool (checksH key n d code) ∧ Ext No w0 w := by
 obtain ⟨at1, ae, hac⟩ : ∃ t e, (if accOk key n d = true then (accH key n d, (0 : Int)) else ([], 150)) = (t, e) := ⟨_, _, rfl⟩
 refine ret_of Tryz.func34 rfl Tryz.ntmps34 (lb rfl) fun a hfr => ?_
 replace hfr : Fr 25 [(0, _), (1, _), (2, _), (3, _)] [] a := hfr
 replace hst : St No w0 [] w0 := St.init w0
 refine wc_seq_region fun K1 hK1 => ?_
 refine wla hfr rfl fun a hfr => ?_
 refine wl_nil (hK1 _ _ ?_)
 refine wc_seq_region fun K2 hK2 => ?_
 refine wlm hfr rfl fun a hfr => wlm hfr rfl fun a hfr => wlm hfr rfl fun a hfr => ?_
 refine wl_callp hfr hst (by decide) Tryz.call32 rfl (raccount_x (t := at1) (e := ae) hac hkl) ?_
 clear hfr hst
 intro a w1 hfr hst
 refine wlm hfr rfl fun a hfr => ?_
 refine wlv hfr (v_extract rfl rfl) fun a hfr => ?_
 refine wlv hfr (v_extract rfl rfl) fun a hfr => wla hfr rfl fun a hfr => wla hfr rfl fun a hfr => ?_
 refine wl_nil (hK2 _ _ ?_)
 replace hfr : Fr 25 [(3, _), (8, _), (9, _), (10, _)] [] a := hfr.pick [3, 8, 9, 10]
 refine wc_seq_region fun K3 hK3 => ?_
 refine wlm hfr rfl fun a hfr => ?_
 refine wlv hfr (v_eq rfl rfl) fun a hfr => wlm hfr rfl fun a hfr => ?_
 rcases Bool.eq_false_or_eq_true (decide (ae = 0)) with hb1 | hb1
 ·rw [hb1] at hfr
  try simp only [qz] at hb1
  refine wly hfr (v_move rfl) fun a hfr => wly hfr (v_move rfl) fun a hfr => wly hfr (v_seq rfl rfl) fun a hfr => ?_
  refine wlv hfr (v_pick_t rfl rfl) fun a hfr => wla hfr rfl fun a hfr => ?_
  refine wl_nil (hK3 _ _ ?_)
  replace hfr : Fr 25 [(8, _)] [] a := hfr.pick [8]
  refine wc_ret ?_
  refine fin_ret hfr Tryz.results34 (resAre_tmp rfl resAre_nil) ?_
  refine ⟨?_, hst.ext⟩
  simp only [retv]
  rw [checks_T hac]
  simp [hb1]
 rw [hb1] at hfr
 try simp only [qz] at hb1
 refine wln hfr fun a hfr => ?_
 refine wln hfr fun a hfr => ?_
 refine wln hfr fun a hfr => ?_
 refine wlv hfr (v_pick_f rfl rfl) fun a hfr => wla hfr rfl fun a hfr => ?_
 refine wl_nil (hK3 _ _ ?_)
 replace hfr : Fr 25 [(8, _)] [] a := hfr.pick [8]
 refine wc_ret ?_
 refine fin_ret hfr Tryz.results34 (resAre_tmp rfl resAre_nil) ?_
 refine ⟨?_, hst.ext⟩
 simp only [retv]
 rw [checks_T hac]
 simp [hb1]
set_option maxHeartbeats 4000000 in
theorem rencode_ok (x : Wsh) (lv : Value) (ps : List Pxy) (w0 : World) (hlv : SlAt w0 lv 7 (ps.map Pxy.cells)) :
  Ret Tryz.prog 27 #[.agg #[iv x.signer, iv x.holder, iv x.rf, iv x.rt, iv x.carrier, iv x.serial, iv x.sf, iv x.st, sv x.sig], lv] w0 fun v w => v = (match encodeH x ps with | some s => .tuple #[sv s, iv 0] | none => .tuple #[sv [], iv 150]) ∧ Ext No w0 w := by
 have hxb := hlv.2.1
 simp only [List.length_map, big] at hxb
 refine ret_of Tryz.func27 rfl Tryz.ntmps27 (lb rfl) fun a hfr => ?_
 replace hfr : Fr 55 [(0, _), (1, _)] [] a := hfr
 replace hst : St No w0 [] w0 := St.init w0
 refine wc_seq_region fun K1 hK1 => ?_
 refine wl_box hfr hst (by decide) rfl (cs := [iv x.signer, iv x.holder, iv x.rf, iv x.rt, iv x.carrier, iv x.serial, iv x.sf, iv x.st, sv x.sig]) rfl ?_
 clear hfr hst
 intro a w1 hfr hst
 refine wla hfr rfl fun a hfr => wla hfr rfl fun a hfr => ?_
 refine wl_nil (hK1 _ _ ?_)
 refine wc_seq_k fun K2 hK2 => ?_
 refine wc_seq_region fun K3 hK3 => ?_
 refine wlv hfr (v_load_all (hst.get (k := 0) rfl) rfl (Tryz.isAgg30 _) (Tryz.sizeOf30 _)) fun a hfr => wlm hfr rfl fun a hfr => ?_
 refine wl_callp hfr hst (by decide) Tryz.call20 rfl (rformed_ok x lv ps _ (hst.arg hlv)) ?_
 clear hfr hst
 intro a w2 hfr hst
 refine wlv hfr (v_not rfl) fun a hfr => wlm hfr rfl fun a hfr => ?_
 rcases Bool.eq_false_or_eq_true (!(formedH x ps)) with hb1 | hb1
 ·rw [hb1] at hfr
  try simp only [qz] at hb1
  refine wln hfr fun a hfr => ?_
  refine wln hfr fun a hfr => ?_
  refine wln hfr fun a hfr => ?_
  refine wln hfr fun a hfr => ?_
  refine wlv hfr (v_pick_t rfl rfl) fun a hfr => ?_
  refine wl_nil (hK3 _ _ ?_)
  replace hfr : Fr 55 [(1, _), (2, _), (4, _), (5, _), (17, _)] [] a := hfr.pick [1, 2, 4, 5, 17]
  refine wc_cond_t hfr rfl ?_
  refine wc_seq_region fun K4 hK4 => ?_
  refine wla hfr rfl fun a hfr => wla hfr rfl fun a hfr => ?_
  refine wl_nil (hK4 _ _ ?_)
  refine wc_ret ?_
  refine fin_ret hfr Tryz.results27 (resAre_tmp rfl (resAre_tmp rfl resAre_nil)) ?_
  exact ⟨by simp only [retv]; rw [enc_none (.inl (by simpa using hb1))]; rfl, hst.ext⟩
 rw [hb1] at hfr
 try simp only [qz] at hb1
 refine wly hfr (v_fieldAddr (v := .pointer (some ⟨w0.heap.size, 8, none⟩)) rfl (by kernel_rfl)) fun a hfr => wly hfr (v_load_blk1 (hst.get (k := 0) rfl) rfl (Tryz.isAgg9 _) rfl) fun a hfr => wly hfr (v_len_str rfl rfl (Tryz.runUnderlying9 _)) fun a hfr => wly hfr (v_ne rfl rfl) fun a hfr => ?_
 refine wlv hfr (v_pick_f rfl rfl) fun a hfr => ?_
 refine wl_nil (hK3 _ _ ?_)
 replace hfr : Fr 55 [(1, _), (2, _), (4, _), (5, _), (17, _)] [] a := hfr.pick [1, 2, 4, 5, 17]
 refine wc_cond hfr rfl (fun hc2 => ?_) (fun hc2 => ?_)
 ·rw [hc2] at hfr
  try simp only [qz] at hc2
  refine wc_seq_region fun K5 hK5 => ?_
  refine wla hfr rfl fun a hfr => wla hfr rfl fun a hfr => ?_
  refine wl_nil (hK5 _ _ ?_)
  refine wc_ret ?_
  refine fin_ret hfr Tryz.results27 (resAre_tmp rfl (resAre_tmp rfl resAre_nil)) ?_
  exact ⟨by simp only [retv]; rw [enc_none (.inr (.inl (by simpa using hc2)))]; rfl, hst.ext⟩
 rw [hc2] at hfr
 try simp only [qz] at hc2
 refine wc_skip ?_
 refine hK2 _ _ ?_
 have hfo : formedH x ps = true := by simpa using hb1
 have hsx : x.sig.length = 32 := by omega
 have h4 := formed_len hfo
 have hxo := formed_wok hfo
 refine wc_seq_region fun K6 hK6 => ?_
 refine wlm hfr rfl fun a hfr => ?_
 refine wlv hfr ((v_len_sl (sT := 31) (hst.arg hlv) rfl rfl (Tryz.runUnderlying31 _)).asi (m' := (ps.length : Int)) (by rw [List.length_map])) fun a hfr => ?_
 refine wl_buildSlice (E := 3) (sz := 1) rfl [[iv (ps.length : Int)]] (by kernel_rfl) (by simp) rfl (by decide) (by decide) hfr hst ?_
 clear hfr hst
 intro a w3 hfr hst
 refine wl_callp hfr hst (by decide) Tryz.call80 rfl (rputs_ok [(ps.length : Int)] (.slice (some ⟨w2.heap.size, 0, none⟩) 1 1) _ (hst.ownAt (i := 0) rfl) (by intro z hz; rw [List.mem_singleton.1 hz]; unfold small; omega) (by simp)) ?_
 clear hfr hst
 intro a w4 hfr hst
 refine wla hfr rfl fun a hfr => ?_
 refine wl_nil (hK6 _ _ ?_)
 refine wc_seq_k fun K7 hK7 => ?_
 refine wc_seq_region fun K8 hK8 => ?_
 refine wla hfr rfl fun a hfr => ?_
 refine wl_nil (hK8 _ _ ?_)
 refine wc_block ?_
 have hz0 : puts [(ps.length : Int)] = encB ps 0 := by unfold encB; simp
 rw [hz0] at hfr
 refine wc_loop (fun m a w => ∃ (k : Nat), m = ps.length - k ∧ (k ≤ ps.length) ∧ (∀ p ∈ ps.take k, p.sig.length = 32) ∧ Fr 55 [(1, lv), (2, .pointer (some ⟨w0.heap.size, 0, none⟩)), (7, iv (k : Int)), (6, sv (encB ps k))] [] a ∧ St No w0 [blk w0.heap.size [iv x.signer, iv x.holder, iv x.rf, iv x.rt, iv x.carrier, iv x.serial, iv x.sf, iv x.st, sv x.sig] 30] w) _ ⟨0, rfl, Nat.zero_le _, (by simp), hfr.pick [1, 2, 7, 6], hst.select [1] (by decide)⟩ ?_
 rintro _ a w5 ⟨k, rfl, hk, hsg, hfr, hst⟩
 refine wc_seq_k fun K9 hK9 => ?_
 refine wc_seq_region fun K10 hK10 => ?_
 refine wlm hfr rfl fun a hfr => wlm hfr rfl fun a hfr => ?_
 refine wlv hfr ((v_len_sl (sT := 31) (hst.arg hlv) rfl rfl (Tryz.runUnderlying31 _)).asi (m' := (ps.length : Int)) (by rw [List.length_map])) fun a hfr => ?_
 refine wlv hfr (v_lt rfl rfl) fun a hfr => ?_
 refine wl_nil (hK10 _ _ ?_)
 refine wc_cond hfr rfl (fun hc3 => ?_) (fun hc3 => ?_)
 ·rw [hc3] at hfr
  try simp only [qz] at hc3
  have hkx : k < ps.length := by omega
  have hpk := formed_pok hfo _ (getD_mem (d := Pxy.z) hkx)
  refine wc_skip ?_
  refine hK9 _ _ ?_
  refine wc_seq_k fun K11 hK11 => ?_
  refine wc_block ?_
  refine wc_seq_k fun K12 hK12 => ?_
  refine wc_seq_region fun K13 hK13 => ?_
  refine wlm hfr rfl fun a hfr => wlm hfr rfl fun a hfr => ?_
  refine wlv hfr ((v_indexAddr_sl (i := (k : Int)) (sT := 31) (hst.arg hlv) rfl rfl (Tryz.runUnderlying31 _) (Tryz.sizeOf40 _) (by omega) (by rw [List.length_map]; omega)).as (v' := slAddr lv (k * 7)) rfl) fun a hfr => ?_
  refine wlv hfr (v_fieldAddr_sl (k := k * 7) (j := 6) (hst.arg hlv) (i := k) (by rw [List.length_map]; omega) rfl (fun _ _ => by kernel_rfl)) fun a hfr => ?_
  refine wlv hfr (v_load_sl1 (u := sv ((ps.getD k Pxy.z).sig)) (i := k) (j := 6) (hst.arg hlv) (by rw [List.length_map]; omega) rfl (Tryz.isAgg9 _) (by rw [el_at Pxy.z]; rfl)) fun a hfr => ?_
  refine wlv hfr (v_len_str rfl rfl (Tryz.runUnderlying9 _)) fun a hfr => ?_
  refine wlv hfr (v_ne rfl rfl) fun a hfr => ?_
  refine wl_nil (hK13 _ _ ?_)
  replace hfr : Fr 55 [(1, _), (2, _), (7, _), (6, _), (34, _)] [] a := hfr.pick [1, 2, 7, 6, 34]
  refine wc_cond hfr rfl (fun hc4 => ?_) (fun hc4 => ?_)
  ·rw [hc4] at hfr
   try simp only [qz] at hc4
   refine wc_seq_region fun K14 hK14 => ?_
   refine wla hfr rfl fun a hfr => wla hfr rfl fun a hfr => ?_
   refine wl_nil (hK14 _ _ ?_)
   refine wc_ret ?_
   refine fin_ret hfr Tryz.results27 (resAre_tmp rfl (resAre_tmp rfl resAre_nil)) ?_
   exact ⟨by simp only [retv]; rw [enc_no2 hkx hc4]; rfl, hst.ext⟩
  rw [hc4] at hfr
  try simp only [qz] at hc4
  have hsk : (ps.getD k Pxy.z).sig.length = 32 := by omega
  refine wc_skip ?_
  refine hK12 _ _ ?_
  refine wc_of_dr (by kernel_rfl) (dr_of_wd (by kernel_rfl) fun w6 hxz => ?_)
  replace hst := hst.grow hxz
  refine wd_sub (k := 0) 12 [6, 11] hfr (by kernel_rfl) (by kernel_rfl) (by kernel_rfl) (by rfl) ?_
  replace hfr : Fr 55 [(1, _), (2, _), (7, _), (6, _), (34, _)] [] a := hfr.pick [1, 2, 7, 6, 34]
  refine wc_phases_q [] (fun i => match i with | _ => fun _ _ => False) 12 [[], [], [], [1, 2], [3], [4], [0, 5], [], [], [7, 8], [9], [10]] [sv (encB ps k), lv, iv (k : Int), slAddr lv (k * 7), .agg #[iv ((ps.getD k Pxy.z).frm), iv ((ps.getD k Pxy.z).to), iv ((ps.getD k Pxy.z).rf), iv ((ps.getD k Pxy.z).rt), iv ((ps.getD k Pxy.z).sf), iv ((ps.getD k Pxy.z).st), sv ((ps.getD k Pxy.z).sig)], sv ((ps.getD k Pxy.z).content), sv ((encB ps k) ++ ((ps.getD k Pxy.z).content)), lv, iv (k : Int), slAddr lv (k * 7), slAddr lv (k * 7 + 6), sv ((ps.getD k Pxy.z).sig)] hfr hst (by kernel_rfl) (by kernel_rfl) (by kernel_rfl) ?_ ?_ ?_
  ·intro i hi hiq
   match i, hi, hiq with
   | 0, _, _ =>
    intro w hst
    exact OpV.g (v_move rfl)
   | 1, _, _ =>
    intro w hst
    exact OpV.g (v_move rfl)
   | 2, _, _ =>
    intro w hst
    exact OpV.g (v_move rfl)
   | 3, _, _ =>
    intro w hst
    exact OpV.g ((v_indexAddr_sl (i := (k : Int)) (sT := 31) (hst.arg hlv) rfl rfl (Tryz.runUnderlying31 _) (Tryz.sizeOf40 _) (by omega) (by rw [List.length_map]; omega)).as (v' := slAddr lv (k * 7)) rfl)
   | 4, _, _ =>
    intro w hst
    exact OpV.g ((v_load_sl (hst.arg hlv) (i := k) (by rw [List.length_map]; omega) rfl (Tryz.isAgg40 _) (Tryz.sizeOf40 _)).as (v' := .agg #[iv ((ps.getD k Pxy.z).frm), iv ((ps.getD k Pxy.z).to), iv ((ps.getD k Pxy.z).rf), iv ((ps.getD k Pxy.z).rt), iv ((ps.getD k Pxy.z).sf), iv ((ps.getD k Pxy.z).st), sv ((ps.getD k Pxy.z).sig)]) (by rw [el_at Pxy.z]; rfl))
   | 5, _, _ =>
    intro w hst
    exact g_callp Tryz.call38 rfl (rpcontent_ok (ps.getD k Pxy.z) _ (Pxy.smalls_of hpk))
   | 6, _, _ =>
    intro w hst
    exact OpV.g (v_sadd rfl rfl (by (have h7 := texts_take hsg h4); (have h8 := pxy_clen (ps.getD k Pxy.z)); (have h9 := wsh_clen x); (try simp only [List.length_append]); omega))
   | 7, _, _ =>
    intro w hst
    exact OpV.g (v_move rfl)
   | 8, _, _ =>
    intro w hst
    exact OpV.g (v_move rfl)
   | 9, _, _ =>
    intro w hst
    exact OpV.g ((v_indexAddr_sl (i := (k : Int)) (sT := 31) (hst.arg hlv) rfl rfl (Tryz.runUnderlying31 _) (Tryz.sizeOf40 _) (by omega) (by rw [List.length_map]; omega)).as (v' := slAddr lv (k * 7)) rfl)
   | 10, _, _ =>
    intro w hst
    exact OpV.g (v_fieldAddr_sl (k := k * 7) (j := 6) (hst.arg hlv) (i := k) (by rw [List.length_map]; omega) rfl (fun _ _ => by kernel_rfl))
   | 11, _, _ =>
    intro w hst
    exact OpV.g (v_load_sl1 (u := sv ((ps.getD k Pxy.z).sig)) (i := k) (j := 6) (hst.arg hlv) (by rw [List.length_map]; omega) rfl (Tryz.isAgg9 _) (by rw [el_at Pxy.z]; rfl))
   | i + 12, h, _ => exact absurd h (by omega)
  ·intro i hi
   exact absurd hi (by simp)
  clear hfr hst
  intro  a w7 hfr hst
  replace hfr : Fr 55 [(35, sv (encB ps k)), (36, lv), (37, iv (k : Int)), (38, slAddr lv (k * 7)), (39, .agg #[iv ((ps.getD k Pxy.z).frm), iv ((ps.getD k Pxy.z).to), iv ((ps.getD k Pxy.z).rf), iv ((ps.getD k Pxy.z).rt), iv ((ps.getD k Pxy.z).sf), iv ((ps.getD k Pxy.z).st), sv ((ps.getD k Pxy.z).sig)]), (40, sv ((ps.getD k Pxy.z).content)), (41, sv ((encB ps k) ++ ((ps.getD k Pxy.z).content))), (42, lv), (43, iv (k : Int)), (44, slAddr lv (k * 7)), (45, slAddr lv (k * 7 + 6)), (46, sv ((ps.getD k Pxy.z).sig)), (1, _), (2, _), (7, _), (6, _), (34, _)] [] a := hfr
  refine wl_nil ?_
  refine wd_lin (k := 12) 14 [13] (by kernel_rfl) (by kernel_rfl) (by kernel_rfl) ?_
  refine wlv hfr (v_sadd rfl rfl (by (have h7 := texts_take hsg h4); (have h8 := pxy_clen (ps.getD k Pxy.z)); (have h9 := wsh_clen x); (try simp only [List.length_append]); omega)) fun a hfr => wla hfr rfl fun a hfr => ?_
  refine wl_nil ?_
  refine wd_end (by kernel_rfl) ?_
  refine hK11 _ _ ?_
  replace hfr : Fr 55 [(1, _), (2, _), (7, _), (6, _)] [] a := hfr.pick [1, 2, 7, 6]
  refine wc_region ?_
  refine wlm hfr rfl fun a hfr => ?_
  refine wlv hfr (v_add rfl rfl ⟨by omega, by omega⟩) fun a hfr => wla hfr rfl fun a hfr => ?_
  refine wl_nil ?_
  rw [show ((encB ps k) ++ ((ps.getD k Pxy.z).content)) ++ ((ps.getD k Pxy.z).sig) = encB ps (k + 1) from by rw [encB_snoc hkx]] at hfr
  refine ⟨_, ?_, k + 1, rfl, (by omega), (by intro p hp; rw [take_snoc Pxy.z hkx] at hp; rcases List.mem_append.1 hp with hp | hp; exact hsg p hp; rw [List.mem_singleton.1 hp]; exact hsk), hfr.pick [1, 2, 7, 6], hst.select [0] (by decide)⟩
  omega
 rw [hc3] at hfr
 try simp only [qz] at hc3
 have hke : k = ps.length := by omega
 have hal := take_all hsg hke
 refine wc_exit ?_
 refine hK7 _ _ ?_
 refine wc_seq_k fun K15 hK15 => ?_
 refine wc_of_dr (by kernel_rfl) (dr_of_wd (by kernel_rfl) fun w8 hxz => ?_)
 replace hst := hst.grow hxz
 refine wd_sub (k := 0) 6 [3, 5] hfr (by kernel_rfl) (by kernel_rfl) (by kernel_rfl) (by rfl) ?_
 replace hfr : Fr 55 [(1, _), (2, _), (7, _), (6, _), (22, _), (23, _), (24, _), (25, _)] [] a := hfr.pick [1, 2, 7, 6, 22, 23, 24, 25]
 refine wc_phases_q [] (fun i => match i with | _ => fun _ _ => False) 6 [[], [], [1], [0, 2], [], [4]] [sv (encB ps k), .agg #[iv x.signer, iv x.holder, iv x.rf, iv x.rt, iv x.carrier, iv x.serial, iv x.sf, iv x.st, sv x.sig], sv x.content, sv ((encB ps k) ++ x.content), .pointer (some ⟨w0.heap.size, 8, none⟩), sv x.sig] hfr hst (by kernel_rfl) (by kernel_rfl) (by kernel_rfl) ?_ ?_ ?_
 ·intro i hi hiq
  match i, hi, hiq with
  | 0, _, _ =>
   intro w hst
   exact OpV.g (v_move rfl)
  | 1, _, _ =>
   intro w hst
   exact OpV.g (v_load_all (hst.get (k := 0) rfl) rfl (Tryz.isAgg30 _) (Tryz.sizeOf30 _))
  | 2, _, _ =>
   intro w hst
   exact g_callp Tryz.call37 rfl (rwcontent_ok x _ (Wsh.smalls_of hxo))
  | 3, _, _ =>
   intro w hst
   exact OpV.g (v_sadd rfl rfl (by (have h7 := texts_take hsg h4); (have h8 := pxy_clen (ps.getD k Pxy.z)); (have h9 := wsh_clen x); (try simp only [List.length_append]); omega))
  | 4, _, _ =>
   intro w hst
   exact OpV.g (v_fieldAddr (v := .pointer (some ⟨w0.heap.size, 8, none⟩)) rfl (by kernel_rfl))
  | 5, _, _ =>
   intro w hst
   exact OpV.g (v_load_blk1 (hst.get (k := 0) rfl) rfl (Tryz.isAgg9 _) rfl)
 ·intro i hi
  exact absurd hi (by simp)
 clear hfr hst
 intro  a w9 hfr hst
 replace hfr : Fr 55 [(48, sv (encB ps k)), (49, .agg #[iv x.signer, iv x.holder, iv x.rf, iv x.rt, iv x.carrier, iv x.serial, iv x.sf, iv x.st, sv x.sig]), (50, sv x.content), (51, sv ((encB ps k) ++ x.content)), (52, .pointer (some ⟨w0.heap.size, 8, none⟩)), (53, sv x.sig), (1, _), (2, _), (7, _), (6, _), (22, _), (23, _), (24, _), (25, _)] [] a := hfr
 refine wl_nil ?_
 refine wd_lin (k := 6) 9 [8] (by kernel_rfl) (by kernel_rfl) (by kernel_rfl) ?_
 refine wlv hfr (v_sadd rfl rfl (by (have h7 := texts_take hsg h4); (have h8 := pxy_clen (ps.getD k Pxy.z)); (have h9 := wsh_clen x); (try simp only [List.length_append]); omega)) fun a hfr => wla hfr rfl fun a hfr => wla hfr rfl fun a hfr => ?_
 refine wl_nil ?_
 refine wd_end (by kernel_rfl) ?_
 refine hK15 _ _ ?_
 replace hfr : Fr 55 [(4, _), (5, _)] [] a := hfr.pick [4, 5]
 refine wc_ret ?_
 refine fin_ret hfr Tryz.results27 (resAre_tmp rfl (resAre_tmp rfl resAre_nil)) ?_
 exact ⟨by simp only [retv]; rw [enc_yes hfo hsx hal, hke], hst.ext⟩
theorem rencode_x {x : Wsh} {lv : Value} {ps : List Pxy} {t : By} {e : Int} {w0 : World} (h : encT x ps = (t, e)) (hlv : SlAt w0 lv 7 (ps.map Pxy.cells)) : Ret Tryz.prog 27 #[.agg #[iv x.signer, iv x.holder, iv x.rf, iv x.rt, iv x.carrier, iv x.serial, iv x.sf, iv x.st, sv x.sig], lv] w0 fun v w => v = .tuple #[sv t, iv e] ∧ Ext No w0 w := by
 have := rencode_ok x lv ps w0 hlv
 rw [enc_T, h] at this
 exact this
end Go.Proofs.YtmmfieceinmloaaGreatDoor
namespace Go.Proofs.YtmmfieceinmloaaGreatDoor
open Go.RowKit Go.PW
set_option linter.unusedVariables false
set_option linter.unusedSimpArgs false
set_option maxRecDepth 4000
def isS (m : Nat) (s : By) : Bool := (intsR m s).isSome
theorem isS_t {m : Nat} {s : By} (h : isS m s = true) : ∃ l r, intsR m s = some (l, r) := by
 unfold isS at h
 cases hq : intsR m s with
 | none => rw [hq] at h; cases h
 | some z => exact ⟨z.1, z.2, rfl⟩
theorem isS_f {m : Nat} {s : By} (h : isS m s = false) : intsR m s = none := by
 unfold isS at h
 cases hq : intsR m s with
 | none => rfl
 | some z => rw [hq] at h; cases h
def accR (acc : List Pxy) (m : Nat) (t : By) : Option (Wsh × List Pxy) := match pxysR m t with
 | none => none
 | some (l, q) => wishR (acc ++ l) q
theorem readR_none {s : By} (h : intsR 1 (s.drop 0) = none) : readR s = none := by
 rw [List.drop_zero] at h
 unfold readR
 cases hq : rdI s with
 | none => rfl
 | some z => obtain ⟨n, r⟩ := z; rw [intsR_ok hq] at h; cases h
theorem readR_in {s r : By} {l : List Int} (h : intsR 1 (s.drop 0) = some (l, r)) : readR s = if inB (l.getD 0 0) 0 4 = true then accR [] (l.getD 0 0).toNat r else none := by
 rw [List.drop_zero] at h
 unfold readR accR
 cases hq : rdI s with
 | none => rw [intsR_bad hq] at h; cases h
 | some z =>
  obtain ⟨n, q⟩ := z
  rw [intsR_ok hq] at h
  cases h
  rfl
theorem accR_more {acc : List Pxy} {m : Nat} {t r : By} {l : List Int} (h : intsR 7 t = some (l, r)) (h2 : 32 ≤ r.length) : accR acc (m + 1) t = accR (acc ++ [pxyN l (r.take 32)]) m (r.drop 32) := by
 have e : pxyR t = some (pxyN l (r.take 32), r.drop 32) := by unfold pxyR; rw [h]; exact if_pos h2
 unfold accR
 rw [pxysR_ok e]
 cases pxysR m (r.drop 32) with
 | none => rfl
 | some z => simp
theorem accR_bad1 {acc : List Pxy} {m : Nat} {t : By} (h : intsR 7 t = none) : accR acc (m + 1) t = none := by
 unfold accR
 rw [pxysR_bad (by unfold pxyR; rw [h])]
theorem accR_bad2 {acc : List Pxy} {m : Nat} {t r : By} {l : List Int} (h : intsR 7 t = some (l, r)) (h2 : ¬ 32 ≤ r.length) : accR acc (m + 1) t = none := by
 unfold accR
 rw [pxysR_bad (by unfold pxyR; rw [h]; exact if_neg h2)]
theorem accR_end {acc : List Pxy} {t r : By} {l : List Int} (h : intsR 9 t = some (l, r)) : accR acc 0 t = some (wshN l r, acc) := by
 unfold accR pxysR wishR
 simp only [List.append_nil]
 rw [h]
theorem accR_endbad {acc : List Pxy} {t : By} (h : intsR 9 t = none) : accR acc 0 t = none := by
 unfold accR pxysR wishR
 simp only
 rw [h]
theorem encT_ok {x : Wsh} {ps : List Pxy} {t s : By} {e : Int} (h : encT x ps = (t, e)) (he : e = 0) (ht : t = s) : encodeH x ps = some s := by
 unfold encT at h
 cases hq : encodeH x ps with
 | none => rw [hq] at h; cases h; cases he
 | some z => rw [hq] at h; cases h; rw [ht]
theorem encT_no {x : Wsh} {ps : List Pxy} {t s : By} {e : Int} (h : encT x ps = (t, e)) (hn : ¬ e = 0 ∨ ¬ t = s) : encodeH x ps ≠ some s := by
 intro hq
 unfold encT at h
 rw [hq] at h
 cases h
 rcases hn with hn | hn
 ·exact hn rfl
 ·exact hn rfl
theorem inB_b {n a b : Int} (h : inB n a b = true) : a ≤ n ∧ n ≤ b := by simpa [inB] using h
set_option maxHeartbeats 4000000 in
theorem rdecode_run (s : By) (w0 : World) (hsl : s.length ≤ 1000000) :
  Ret Tryz.prog 29 #[sv s] w0 fun v w => (∃ x ps, decodeH s = some (x, ps) ∧ MemR w0 (fun lv : Value => .tuple #[.agg x.cells.toArray, lv, iv 0]) (fun lv => [own lv 40 7 (ps.map Pxy.cells)]) (fun _ => True) v w) ∨ (decodeH s = none ∧ v = .tuple #[.agg #[iv 0, iv 0, iv 0, iv 0, iv 0, iv 0, iv 0, iv 0, sv ([] : By)], .slice none 0 0, iv 150] ∧ Ext No w0 w) := by
 refine ret_of Tryz.func29 rfl Tryz.ntmps29 (lb rfl) fun a hfr => ?_
 replace hfr : Fr 146 [(0, _)] [] a := hfr
 replace hst : St No w0 [] w0 := St.init w0
 refine wc_seq_region fun K1 hK1 => ?_
 refine wl_alloc hfr hst (by decide) (Tryz.zeroValue30 _) (cs := [iv 0, iv 0, iv 0, iv 0, iv 0, iv 0, iv 0, iv 0, .string (⟨#[]⟩)]) rfl ?_
 clear hfr hst
 intro a w1 hfr hst
 refine wla hfr rfl fun a hfr => wla hfr rfl fun a hfr => ?_
 refine wl_nil (hK1 _ _ ?_)
 refine wc_seq_region fun K2 hK2 => ?_
 refine wlm hfr rfl fun a hfr => ?_
 rcases Bool.eq_false_or_eq_true (isS 1 (s.drop 0)) with hb1 | hb1
 ·try simp only [qz] at hb1
  obtain ⟨l1, r1, h1⟩ := isS_t hb1
  have hl1 := (intsR_len h1).1
  have hd1 := intsR_drop (by first | exact Nat.zero_le _ | omega) h1
  refine wl_callm hfr hst (by decide) Tryz.call85 rfl (rints_ok h1 (by first | exact Nat.zero_le _ | omega) hsl (by decide)) ?_
  clear hfr hst
  intro a w2 x3 hp hfr hst
  revert x3 hp hfr hst; rintro iv2 hp hfr hst
  clear hp
  replace hst : St No w0 [own iv2 3 1 ((l1).map fun n => [iv n]), blk w0.heap.size [iv 0, iv 0, iv 0, iv 0, iv 0, iv 0, iv 0, iv 0, .string (⟨#[]⟩)] 30] w2 := hst
  refine wlm hfr rfl fun a hfr => ?_
  refine wlv hfr (v_extract rfl rfl) fun a hfr => ?_
  refine wlv hfr (v_extract rfl rfl) fun a hfr => ?_
  refine wlv hfr (v_extract rfl rfl) fun a hfr => wla hfr rfl fun a hfr => wla hfr rfl fun a hfr => wla hfr rfl fun a hfr => ?_
  refine wl_nil (hK2 _ _ ?_)
  replace hfr : Fr 146 [(0, _), (2, _), (3, _), (4, _), (5, _), (6, _), (7, _)] [] a := hfr.pick [0, 2, 3, 4, 5, 6, 7]
  refine wc_seq_k fun K3 hK3 => ?_
  refine wc_seq_region fun K4 hK4 => ?_
  refine wlm hfr rfl fun a hfr => ?_
  refine wlv hfr ((v_not rfl).asb (b' := false) rfl) fun a hfr => wlm hfr rfl fun a hfr => wly hfr (v_move rfl) fun a hfr => wly hfr ((v_indexAddr_sl (i := 0) (sT := 88) (hst.ownAt (i := 0) rfl) rfl rfl (Tryz.runUnderlying88 _) (Tryz.sizeOf3 _) (by omega) (by rw [List.length_map]; omega)).as (v' := slAddr iv2 (0 * 1)) rfl) fun a hfr => wly hfr (v_load_sl1 (u := iv (l1.getD 0 0)) (i := 0) (j := 0) (hst.ownAt (i := 0) rfl) (by rw [List.length_map]; omega) rfl (Tryz.isAgg3 _) (by rw [el_at (0 : Int)]; rfl)) fun a hfr => ?_
  refine wl_callpy hfr hst (by decide) rfl (by decide) rfl Tryz.call86 rfl (in_ok (l1.getD 0 0) 0 4 _) ?_
  clear hfr hst
  intro a w3 hfr hst
  refine wly hfr (v_not rfl) fun a hfr => ?_
  refine wlv hfr (v_pick_f rfl rfl) fun a hfr => ?_
  refine wl_nil (hK4 _ _ ?_)
  replace hfr : Fr 146 [(0, _), (2, _), (3, _), (4, _), (5, _), (6, _), (33, _)] [] a := hfr.pick [0, 2, 3, 4, 5, 6, 33]
  refine wc_cond hfr rfl (fun hc4 => ?_) (fun hc4 => ?_)
  ·rw [hc4] at hfr
   try simp only [qz] at hc4
   have hno : readR s = none := by rw [readR_in h1]; exact if_neg (by rw [show inB (l1.getD 0 0) 0 4 = false from by first | exact hc4 | simpa using hc4]; decide)
   refine wc_seq_region fun K5 hK5 => ?_
   refine wlv hfr (v_build (v := .agg #[iv 0, iv 0, iv 0, iv 0, iv 0, iv 0, iv 0, iv 0, sv ([] : By)]) rfl (by kernel_rfl)) fun a hfr => ?_
   refine wl_store 1 hfr hst rfl rfl rfl (Tryz.sizeOf30 _) rfl (lb rfl) (ds := [iv 0, iv 0, iv 0, iv 0, iv 0, iv 0, iv 0, iv 0, sv ([] : By)]) rfl rfl ?_
   clear hfr hst
   intro a w4 hfr hst
   refine wla hfr rfl fun a hfr => wla hfr rfl fun a hfr => ?_
   refine wl_nil (hK5 _ _ ?_)
   refine wc_ret ?_
   refine fin_ret hfr Tryz.results29 (resAre_cell rfl (res_all (hst.get (k := 1) rfl) (Tryz.isAgg30 _) (Tryz.sizeOf30 _)) (resAre_tmp rfl (resAre_tmp rfl resAre_nil))) ?_
   exact .inr ⟨dec_unread hno, rfl, hst.ext⟩
  rw [hc4] at hfr
  try simp only [qz] at hc4
  have hib : inB (l1.getD 0 0) 0 4 = true := by simpa using hc4
  have hn4 := inB_b hib
  have hin := readR_in h1
  rw [if_pos hib] at hin
  refine wc_skip ?_
  refine hK3 _ _ ?_
  refine wc_seq_region fun K6 hK6 => ?_
  refine wla hfr rfl fun a hfr => ?_
  refine wl_nil (hK6 _ _ ?_)
  refine wc_seq_k fun K7 hK7 => ?_
  refine wc_seq_region fun K8 hK8 => ?_
  refine wla hfr rfl fun a hfr => ?_
  refine wl_nil (hK8 _ _ ?_)
  refine wc_block ?_
  replace hst : St No w0 [own (.slice none 0 0) 40 7 (([] : List Pxy).map Pxy.cells), own iv2 3 1 ((l1).map fun n => [iv n]), blk w0.heap.size [iv 0, iv 0, iv 0, iv 0, iv 0, iv 0, iv 0, iv 0, .string (⟨#[]⟩)] 30] w3 := hst.nil_own
  refine wc_loop (fun m a w => ∃ (k : Nat) (q : Nat) (acc : List Pxy) (lv : Value), m = (l1.getD 0 0).toNat - k ∧ ((k : Int) ≤ (l1.getD 0 0)) ∧ (q ≤ s.length) ∧ (readR s = accR acc ((l1.getD 0 0).toNat - k) (s.drop q)) ∧ (acc.length = k) ∧ Fr 146 [(0, sv s), (2, .pointer (some ⟨w0.heap.size, 0, none⟩)), (5, iv2), (6, iv (q : Int)), (8, lv), (9, iv (k : Int))] [] a ∧ St No w0 [own lv 40 7 ((acc).map Pxy.cells), own iv2 3 1 ((l1).map fun n => [iv n]), blk w0.heap.size [iv 0, iv 0, iv 0, iv 0, iv 0, iv 0, iv 0, iv 0, .string (⟨#[]⟩)] 30] w) _ ⟨0, s.length - r1.length, [], .slice none 0 0, rfl, (by omega), (by omega), (by rw [hin, hd1.1]; rfl), rfl, hfr.pick [0, 2, 5, 6, 8, 9], hst.select [0, 1, 2] (by decide)⟩ ?_
  rintro _ a w5 ⟨k, q, acc, lv, rfl, hk, hq, hacc, hal, hfr, hst⟩
  refine wc_seq_k fun K9 hK9 => ?_
  refine wc_seq_region fun K10 hK10 => ?_
  refine wlm hfr rfl fun a hfr => wlm hfr rfl fun a hfr => ?_
  refine wlv hfr ((v_indexAddr_sl (i := 0) (sT := 88) (hst.ownAt (i := 1) rfl) rfl rfl (Tryz.runUnderlying88 _) (Tryz.sizeOf3 _) (by omega) (by rw [List.length_map]; omega)).as (v' := slAddr iv2 (0 * 1)) rfl) fun a hfr => ?_
  refine wlv hfr (v_load_sl1 (u := iv (l1.getD 0 0)) (i := 0) (j := 0) (hst.ownAt (i := 1) rfl) (by rw [List.length_map]; omega) rfl (Tryz.isAgg3 _) (by rw [el_at (0 : Int)]; rfl)) fun a hfr => ?_
  refine wlv hfr (v_lt rfl rfl) fun a hfr => ?_
  refine wl_nil (hK10 _ _ ?_)
  refine wc_cond hfr rfl (fun hc5 => ?_) (fun hc5 => ?_)
  ·rw [hc5] at hfr
   try simp only [qz] at hc5
   rw [show (l1.getD 0 0).toNat - k = ((l1.getD 0 0).toNat - (k + 1)) + 1 from by omega] at hacc
   refine wc_skip ?_
   refine hK9 _ _ ?_
   refine wc_seq_k fun K11 hK11 => ?_
   refine wc_block ?_
   refine wc_seq_region fun K12 hK12 => ?_
   refine wlm hfr rfl fun a hfr => wlm hfr rfl fun a hfr => ?_
   rcases Bool.eq_false_or_eq_true (isS 7 (s.drop q)) with hb6 | hb6
   ·try simp only [qz] at hb6
    obtain ⟨l7, r7, h7⟩ := isS_t hb6
    have hl7 := (intsR_len h7).1
    have hd7 := intsR_drop (by first | exact Nat.zero_le _ | omega) h7
    refine wl_callm hfr hst (by decide) Tryz.call85 rfl (rints_ok h7 (by first | exact Nat.zero_le _ | omega) hsl (by decide)) ?_
    clear hfr hst
    intro a w6 x8 hp hfr hst
    revert x8 hp hfr hst; rintro iv7 hp hfr hst
    clear hp
    replace hst : St No w0 [own iv7 3 1 ((l7).map fun n => [iv n]), own lv 40 7 ((acc).map Pxy.cells), own iv2 3 1 ((l1).map fun n => [iv n]), blk w0.heap.size [iv 0, iv 0, iv 0, iv 0, iv 0, iv 0, iv 0, iv 0, .string (⟨#[]⟩)] 30] w6 := hst
    refine wlm hfr rfl fun a hfr => ?_
    refine wlv hfr (v_extract rfl rfl) fun a hfr => ?_
    refine wlv hfr (v_extract rfl rfl) fun a hfr => ?_
    refine wlv hfr (v_extract rfl rfl) fun a hfr => wla hfr rfl fun a hfr => wla hfr rfl fun a hfr => wla hfr rfl fun a hfr => ?_
    refine wl_nil (hK12 _ _ ?_)
    replace hfr : Fr 146 [(0, _), (2, _), (5, _), (6, _), (8, _), (9, _), (10, _), (11, _), (12, _)] [] a := hfr.pick [0, 2, 5, 6, 8, 9, 10, 11, 12]
    refine wc_seq_k fun K13 hK13 => ?_
    refine wc_seq_region fun K14 hK14 => ?_
    refine wlm hfr rfl fun a hfr => ?_
    refine wlv hfr ((v_not rfl).asb (b' := false) rfl) fun a hfr => wlm hfr rfl fun a hfr => wly hfr (v_move rfl) fun a hfr => wly hfr (v_len_str rfl rfl (Tryz.runUnderlying9 _)) fun a hfr => wly hfr (v_move rfl) fun a hfr => wly hfr (v_sub rfl rfl ⟨by omega, by omega⟩) fun a hfr => wly hfr (v_lt rfl rfl) fun a hfr => ?_
    refine wlv hfr (v_pick_f rfl rfl) fun a hfr => ?_
    refine wl_nil (hK14 _ _ ?_)
    replace hfr : Fr 146 [(0, _), (2, _), (5, _), (8, _), (9, _), (10, _), (11, _), (57, _)] [] a := hfr.pick [0, 2, 5, 8, 9, 10, 11, 57]
    refine wc_cond hfr rfl (fun hc9 => ?_) (fun hc9 => ?_)
    ·rw [hc9] at hfr
     try simp only [qz] at hc9
     have hno : readR s = none := by rw [hacc]; exact accR_bad2 h7 (by omega)
     refine wc_seq_region fun K15 hK15 => ?_
     refine wlv hfr (v_build (v := .agg #[iv 0, iv 0, iv 0, iv 0, iv 0, iv 0, iv 0, iv 0, sv ([] : By)]) rfl (by kernel_rfl)) fun a hfr => ?_
     refine wl_store 3 hfr hst rfl rfl rfl (Tryz.sizeOf30 _) rfl (lb rfl) (ds := [iv 0, iv 0, iv 0, iv 0, iv 0, iv 0, iv 0, iv 0, sv ([] : By)]) rfl rfl ?_
     clear hfr hst
     intro a w7 hfr hst
     refine wla hfr rfl fun a hfr => wla hfr rfl fun a hfr => ?_
     refine wl_nil (hK15 _ _ ?_)
     refine wc_ret ?_
     refine fin_ret hfr Tryz.results29 (resAre_cell rfl (res_all (hst.get (k := 3) rfl) (Tryz.isAgg30 _) (Tryz.sizeOf30 _)) (resAre_tmp rfl (resAre_tmp rfl resAre_nil))) ?_
     exact .inr ⟨dec_unread hno, rfl, hst.ext⟩
    rw [hc9] at hfr
    try simp only [qz] at hc9
    have h32 : 32 ≤ r7.length := by omega
    rw [accR_more h7 h32] at hacc
    refine wc_skip ?_
    refine hK13 _ _ ?_
    refine wc_seq_k fun K16 hK16 => ?_
    refine wc_of_dr (by kernel_rfl) (dr_of_wd (by kernel_rfl) fun w8 hxz => ?_)
    replace hst := hst.grow hxz
    refine wd_sub (k := 0) 28 [0, 27] hfr (by kernel_rfl) (by kernel_rfl) (by kernel_rfl) (by rfl) ?_
    replace hfr : Fr 146 [(0, _), (2, _), (5, _), (8, _), (9, _), (10, _), (11, _), (57, _)] [] a := hfr.pick [0, 2, 5, 8, 9, 10, 11, 57]
    refine wc_phases_q [27] (fun i => match i with | 27 => pm (fun b : Nat => .slice (some ⟨b, 0, none⟩) 1 1) (fun b => [own (.slice (some ⟨b, 0, none⟩) 1 1) 40 7 [[iv (l7.getD 1 0), iv (l7.getD 2 0), iv (l7.getD 3 0), iv (l7.getD 4 0), iv (l7.getD 5 0), iv (l7.getD 6 0), sv ((s.drop (s.length - r7.length)).take (((s.length - r7.length) + 32) - (s.length - r7.length)))]]]) (fun _ => True) | _ => fun _ _ => False) 28 [[], [], [1], [2], [], [4], [5], [], [7], [8], [], [10], [11], [9, 12], [], [14], [15], [], [17], [18], [16, 19], [], [], [], [23], [21, 22, 24], [3, 6, 13, 20, 25], [26]] [lv, iv7, slAddr iv7 (1 * 1), iv (l7.getD 1 0), iv7, slAddr iv7 (2 * 1), iv (l7.getD 2 0), iv7, slAddr iv7 (3 * 1), iv (l7.getD 3 0), iv7, slAddr iv7 (4 * 1), iv (l7.getD 4 0), .agg #[iv (l7.getD 3 0), iv (l7.getD 4 0)], iv7, slAddr iv7 (5 * 1), iv (l7.getD 5 0), iv7, slAddr iv7 (6 * 1), iv (l7.getD 6 0), .agg #[iv (l7.getD 5 0), iv (l7.getD 6 0)], sv s, iv ((s.length - r7.length : Nat) : Int), iv ((s.length - r7.length : Nat) : Int), iv (((s.length - r7.length : Nat) : Int) + 32), sv ((s.drop (s.length - r7.length)).take (((s.length - r7.length) + 32) - (s.length - r7.length))), .agg #[iv (l7.getD 1 0), iv (l7.getD 2 0), iv (l7.getD 3 0), iv (l7.getD 4 0), iv (l7.getD 5 0), iv (l7.getD 6 0), sv ((s.drop (s.length - r7.length)).take (((s.length - r7.length) + 32) - (s.length - r7.length)))], undef] hfr hst (by kernel_rfl) (by kernel_rfl) (by kernel_rfl) ?_ ?_ ?_
    ·intro i hi hiq
     match i, hi, hiq with
     | 0, _, _ =>
      intro w hst
      exact OpV.g (v_move rfl)
     | 1, _, _ =>
      intro w hst
      exact OpV.g (v_move rfl)
     | 2, _, _ =>
      intro w hst
      exact OpV.g ((v_indexAddr_sl (i := 1) (sT := 88) (hst.ownAt (i := 0) rfl) rfl rfl (Tryz.runUnderlying88 _) (Tryz.sizeOf3 _) (by omega) (by rw [List.length_map]; omega)).as (v' := slAddr iv7 (1 * 1)) rfl)
     | 3, _, _ =>
      intro w hst
      exact OpV.g (v_load_sl1 (u := iv (l7.getD 1 0)) (i := 1) (j := 0) (hst.ownAt (i := 0) rfl) (by rw [List.length_map]; omega) rfl (Tryz.isAgg3 _) (by rw [el_at (0 : Int)]; rfl))
     | 4, _, _ =>
      intro w hst
      exact OpV.g (v_move rfl)
     | 5, _, _ =>
      intro w hst
      exact OpV.g ((v_indexAddr_sl (i := 2) (sT := 88) (hst.ownAt (i := 0) rfl) rfl rfl (Tryz.runUnderlying88 _) (Tryz.sizeOf3 _) (by omega) (by rw [List.length_map]; omega)).as (v' := slAddr iv7 (2 * 1)) rfl)
     | 6, _, _ =>
      intro w hst
      exact OpV.g (v_load_sl1 (u := iv (l7.getD 2 0)) (i := 2) (j := 0) (hst.ownAt (i := 0) rfl) (by rw [List.length_map]; omega) rfl (Tryz.isAgg3 _) (by rw [el_at (0 : Int)]; rfl))
     | 7, _, _ =>
      intro w hst
      exact OpV.g (v_move rfl)
     | 8, _, _ =>
      intro w hst
      exact OpV.g ((v_indexAddr_sl (i := 3) (sT := 88) (hst.ownAt (i := 0) rfl) rfl rfl (Tryz.runUnderlying88 _) (Tryz.sizeOf3 _) (by omega) (by rw [List.length_map]; omega)).as (v' := slAddr iv7 (3 * 1)) rfl)
     | 9, _, _ =>
      intro w hst
      exact OpV.g (v_load_sl1 (u := iv (l7.getD 3 0)) (i := 3) (j := 0) (hst.ownAt (i := 0) rfl) (by rw [List.length_map]; omega) rfl (Tryz.isAgg3 _) (by rw [el_at (0 : Int)]; rfl))
     | 10, _, _ =>
      intro w hst
      exact OpV.g (v_move rfl)
     | 11, _, _ =>
      intro w hst
      exact OpV.g ((v_indexAddr_sl (i := 4) (sT := 88) (hst.ownAt (i := 0) rfl) rfl rfl (Tryz.runUnderlying88 _) (Tryz.sizeOf3 _) (by omega) (by rw [List.length_map]; omega)).as (v' := slAddr iv7 (4 * 1)) rfl)
     | 12, _, _ =>
      intro w hst
      exact OpV.g (v_load_sl1 (u := iv (l7.getD 4 0)) (i := 4) (j := 0) (hst.ownAt (i := 0) rfl) (by rw [List.length_map]; omega) rfl (Tryz.isAgg3 _) (by rw [el_at (0 : Int)]; rfl))
     | 13, _, _ =>
      intro w hst
      exact OpV.g (v_build (v := .agg #[iv (l7.getD 3 0), iv (l7.getD 4 0)]) rfl (by kernel_rfl))
     | 14, _, _ =>
      intro w hst
      exact OpV.g (v_move rfl)
     | 15, _, _ =>
      intro w hst
      exact OpV.g ((v_indexAddr_sl (i := 5) (sT := 88) (hst.ownAt (i := 0) rfl) rfl rfl (Tryz.runUnderlying88 _) (Tryz.sizeOf3 _) (by omega) (by rw [List.length_map]; omega)).as (v' := slAddr iv7 (5 * 1)) rfl)
     | 16, _, _ =>
      intro w hst
      exact OpV.g (v_load_sl1 (u := iv (l7.getD 5 0)) (i := 5) (j := 0) (hst.ownAt (i := 0) rfl) (by rw [List.length_map]; omega) rfl (Tryz.isAgg3 _) (by rw [el_at (0 : Int)]; rfl))
     | 17, _, _ =>
      intro w hst
      exact OpV.g (v_move rfl)
     | 18, _, _ =>
      intro w hst
      exact OpV.g ((v_indexAddr_sl (i := 6) (sT := 88) (hst.ownAt (i := 0) rfl) rfl rfl (Tryz.runUnderlying88 _) (Tryz.sizeOf3 _) (by omega) (by rw [List.length_map]; omega)).as (v' := slAddr iv7 (6 * 1)) rfl)
     | 19, _, _ =>
      intro w hst
      exact OpV.g (v_load_sl1 (u := iv (l7.getD 6 0)) (i := 6) (j := 0) (hst.ownAt (i := 0) rfl) (by rw [List.length_map]; omega) rfl (Tryz.isAgg3 _) (by rw [el_at (0 : Int)]; rfl))
     | 20, _, _ =>
      intro w hst
      exact OpV.g (v_build (v := .agg #[iv (l7.getD 5 0), iv (l7.getD 6 0)]) rfl (by kernel_rfl))
     | 21, _, _ =>
      intro w hst
      exact OpV.g (v_move rfl)
     | 22, _, _ =>
      intro w hst
      exact OpV.g (v_move rfl)
     | 23, _, _ =>
      intro w hst
      exact OpV.g (v_move rfl)
     | 24, _, _ =>
      intro w hst
      exact OpV.g (v_add rfl rfl ⟨by omega, by omega⟩)
     | 25, _, _ =>
      intro w hst
      exact OpV.g ((v_slice_str (xs := s) (l := (s.length - r7.length)) (h := ((s.length - r7.length) + 32)) rfl rfl rfl Tryz.underlying9 (.inr (by rw [show (((s.length - r7.length : Nat) : Int) : Int) = (((s.length - r7.length) : Nat) : Int) from by omega] <;> rfl)) (.inr (by rw [show (((s.length - r7.length : Nat) : Int) + 32 : Int) = ((((s.length - r7.length) + 32) : Nat) : Int) from by omega] <;> rfl)) (by omega) (by first | omega | exact Nat.min_le_left _ _)).as (v' := sv ((s.drop (s.length - r7.length)).take (((s.length - r7.length) + 32) - (s.length - r7.length)))) rfl)
     | 26, _, _ =>
      intro w hst
      exact OpV.g (v_build (v := .agg #[iv (l7.getD 1 0), iv (l7.getD 2 0), iv (l7.getD 3 0), iv (l7.getD 4 0), iv (l7.getD 5 0), iv (l7.getD 6 0), sv ((s.drop (s.length - r7.length)).take (((s.length - r7.length) + 32) - (s.length - r7.length)))]) rfl (by kernel_rfl))
     | 27, _, h => exact absurd (by simp) h
     | i + 28, h, _ => exact absurd h (by omega)
    ·intro i hi
     simp only [List.mem_cons, List.not_mem_nil, or_false] at hi
     subst hi
     ·intro w hst
      exact g_buildSlice (E := 40) (sz := 7) rfl [[iv (l7.getD 1 0), iv (l7.getD 2 0), iv (l7.getD 3 0), iv (l7.getD 4 0), iv (l7.getD 5 0), iv (l7.getD 6 0), sv ((s.drop (s.length - r7.length)).take (((s.length - r7.length) + 32) - (s.length - r7.length)))]] (fun _ => by kernel_rfl) (by simp) rfl (by decide)
    clear hfr hst
    rintro _ _ ⟨b10, rfl, -, rfl⟩ a w9 hfr hst
    replace hfr : Fr 146 [(59, lv), (60, iv7), (61, slAddr iv7 (1 * 1)), (62, iv (l7.getD 1 0)), (63, iv7), (64, slAddr iv7 (2 * 1)), (65, iv (l7.getD 2 0)), (66, iv7), (67, slAddr iv7 (3 * 1)), (68, iv (l7.getD 3 0)), (69, iv7), (70, slAddr iv7 (4 * 1)), (71, iv (l7.getD 4 0)), (72, .agg #[iv (l7.getD 3 0), iv (l7.getD 4 0)]), (73, iv7), (74, slAddr iv7 (5 * 1)), (75, iv (l7.getD 5 0)), (76, iv7), (77, slAddr iv7 (6 * 1)), (78, iv (l7.getD 6 0)), (79, .agg #[iv (l7.getD 5 0), iv (l7.getD 6 0)]), (80, sv s), (81, iv ((s.length - r7.length : Nat) : Int)), (82, iv ((s.length - r7.length : Nat) : Int)), (83, iv (((s.length - r7.length : Nat) : Int) + 32)), (84, sv ((s.drop (s.length - r7.length)).take (((s.length - r7.length) + 32) - (s.length - r7.length)))), (85, .agg #[iv (l7.getD 1 0), iv (l7.getD 2 0), iv (l7.getD 3 0), iv (l7.getD 4 0), iv (l7.getD 5 0), iv (l7.getD 6 0), sv ((s.drop (s.length - r7.length)).take (((s.length - r7.length) + 32) - (s.length - r7.length)))]), (86, _), (0, _), (2, _), (5, _), (8, _), (9, _), (10, _), (11, _), (57, _)] [] a := hfr
    replace hst : St No w0 [_, _, _, _, _] w9 := hst
    refine wl_nil ?_
    refine wd_lin (k := 28) 30 [29] (by kernel_rfl) (by kernel_rfl) (by kernel_rfl) ?_
    refine wl_append (i := 2) (sT := 31) (inf := Tryz.t40) (z := .agg #[iv 0, iv 0, iv 0, iv 0, iv 0, iv 0, .string (⟨#[]⟩)]) (b := 0) (off := 0) (m := 0) (c := 0) rfl rfl rfl (hst.ownAt (i := 0) rfl) (by simp) Tryz.underlying31 rfl rfl rfl rfl (by decide) (by simp [Value.oneCell', yv, wv, sv]) (by have hby : Tryz.t40.bytes = 64 := rfl; simp [big, hby]; omega) (by have hby : Tryz.t40.bytes = 64 := rfl; simp [big, hby]; omega) (by decide) hfr hst fun a w10 s11 hfr hst _ => ?_
    refine wla hfr rfl fun a hfr => ?_
    refine wl_nil ?_
    refine wd_end (by kernel_rfl) ?_
    refine hK16 _ _ ?_
    replace hfr : Fr 146 [(0, _), (2, _), (5, _), (9, _), (11, _), (8, _)] [] a := hfr.pick [0, 2, 5, 9, 11, 8]
    replace hst : St No w0 [_, _, _] w10 := hst.mask [false, false, true, true, true]
    refine wc_region ?_
    refine wlm hfr rfl fun a hfr => ?_
    refine wlv hfr (v_add rfl rfl ⟨by omega, by omega⟩) fun a hfr => wla hfr rfl fun a hfr => ?_
    refine wl_nil ?_
    refine hK11 _ _ ?_
    refine wc_region ?_
    refine wlm hfr rfl fun a hfr => ?_
    refine wlv hfr (v_add rfl rfl ⟨by omega, by omega⟩) fun a hfr => wla hfr rfl fun a hfr => ?_
    refine wl_nil ?_
    replace hst : St No w0 [own s11 40 7 (((acc ++ [pxyN l7 (r7.take 32)])).map Pxy.cells), own iv2 3 1 ((l1).map fun n => [iv n]), blk w0.heap.size [iv 0, iv 0, iv 0, iv 0, iv 0, iv 0, iv 0, iv 0, .string (⟨#[]⟩)] 30] w10 := by
     rw [hd7.1, show s.length - r7.length + 32 - (s.length - r7.length) = 32 from by omega] at hst
     rw [List.map_append]; exact hst
    refine ⟨_, ?_, k + 1, s.length - r7.length + 32, (acc ++ [pxyN l7 (r7.take 32)]), s11, rfl, (by omega), (by omega), (by rw [hacc, ← List.drop_drop, hd7.1]), (by rw [List.length_append, hal]; rfl), hfr.pick [0, 2, 5, 6, 8, 9], hst.select [0, 1, 2] (by decide)⟩
    omega
   try simp only [qz] at hb6
   have h7 := isS_f hb6
   have hno : readR s = none := by rw [hacc]; exact accR_bad1 h7
   refine wl_callp hfr hst (by decide) Tryz.call85 rfl (rints_bad h7 (by first | exact Nat.zero_le _ | omega) hsl (by decide)) ?_
   clear hfr hst
   intro a w11 hfr hst
   refine wlm hfr rfl fun a hfr => ?_
   refine wlv hfr (v_extract rfl rfl) fun a hfr => ?_
   refine wlv hfr (v_extract rfl rfl) fun a hfr => ?_
   refine wlv hfr (v_extract rfl rfl) fun a hfr => wla hfr rfl fun a hfr => wla hfr rfl fun a hfr => wla hfr rfl fun a hfr => ?_
   refine wl_nil (hK12 _ _ ?_)
   replace hfr : Fr 146 [(0, _), (2, _), (5, _), (6, _), (8, _), (9, _), (10, _), (11, _), (12, _)] [] a := hfr.pick [0, 2, 5, 6, 8, 9, 10, 11, 12]
   refine wc_seq_k fun K17 hK17 => ?_
   refine wc_seq_region fun K18 hK18 => ?_
   refine wlm hfr rfl fun a hfr => ?_
   refine wlv hfr ((v_not rfl).asb (b' := true) rfl) fun a hfr => wlm hfr rfl fun a hfr => ?_
   refine wln hfr fun a hfr => ?_
   refine wln hfr fun a hfr => ?_
   refine wln hfr fun a hfr => ?_
   refine wln hfr fun a hfr => ?_
   refine wln hfr fun a hfr => ?_
   refine wlv hfr (v_pick_t rfl rfl) fun a hfr => ?_
   refine wl_nil (hK18 _ _ ?_)
   replace hfr : Fr 146 [(0, _), (2, _), (5, _), (8, _), (9, _), (10, _), (11, _), (57, _)] [] a := hfr.pick [0, 2, 5, 8, 9, 10, 11, 57]
   refine wc_cond_t hfr rfl ?_
   refine wc_seq_region fun K19 hK19 => ?_
   refine wlv hfr (v_build (v := .agg #[iv 0, iv 0, iv 0, iv 0, iv 0, iv 0, iv 0, iv 0, sv ([] : By)]) rfl (by kernel_rfl)) fun a hfr => ?_
   refine wl_store 2 hfr hst rfl rfl rfl (Tryz.sizeOf30 _) rfl (lb rfl) (ds := [iv 0, iv 0, iv 0, iv 0, iv 0, iv 0, iv 0, iv 0, sv ([] : By)]) rfl rfl ?_
   clear hfr hst
   intro a w12 hfr hst
   refine wla hfr rfl fun a hfr => wla hfr rfl fun a hfr => ?_
   refine wl_nil (hK19 _ _ ?_)
   refine wc_ret ?_
   refine fin_ret hfr Tryz.results29 (resAre_cell rfl (res_all (hst.get (k := 2) rfl) (Tryz.isAgg30 _) (Tryz.sizeOf30 _)) (resAre_tmp rfl (resAre_tmp rfl resAre_nil))) ?_
   exact .inr ⟨dec_unread hno, rfl, hst.ext⟩
  rw [hc5] at hfr
  try simp only [qz] at hc5
  rw [show (l1.getD 0 0).toNat - k = 0 from by omega] at hacc
  refine wc_exit ?_
  refine hK7 _ _ ?_
  refine wc_seq_region fun K20 hK20 => ?_
  refine wlm hfr rfl fun a hfr => wlm hfr rfl fun a hfr => ?_
  rcases Bool.eq_false_or_eq_true (isS 9 (s.drop q)) with hb12 | hb12
  ·try simp only [qz] at hb12
   obtain ⟨l9, r9, h9⟩ := isS_t hb12
   have hl9 := (intsR_len h9).1
   have hd9 := intsR_drop (by first | exact Nat.zero_le _ | omega) h9
   refine wl_callm hfr hst (by decide) Tryz.call85 rfl (rints_ok h9 (by first | exact Nat.zero_le _ | omega) hsl (by decide)) ?_
   clear hfr hst
   intro a w13 x14 hp hfr hst
   revert x14 hp hfr hst; rintro iv13 hp hfr hst
   clear hp
   replace hst : St No w0 [own iv13 3 1 ((l9).map fun n => [iv n]), own lv 40 7 ((acc).map Pxy.cells), own iv2 3 1 ((l1).map fun n => [iv n]), blk w0.heap.size [iv 0, iv 0, iv 0, iv 0, iv 0, iv 0, iv 0, iv 0, .string (⟨#[]⟩)] 30] w13 := hst
   refine wlm hfr rfl fun a hfr => ?_
   refine wlv hfr (v_extract rfl rfl) fun a hfr => ?_
   refine wlv hfr (v_extract rfl rfl) fun a hfr => ?_
   refine wlv hfr (v_extract rfl rfl) fun a hfr => wla hfr rfl fun a hfr => wla hfr rfl fun a hfr => wla hfr rfl fun a hfr => ?_
   refine wl_nil (hK20 _ _ ?_)
   replace hfr : Fr 146 [(0, _), (2, _), (8, _), (13, _), (14, _), (15, _)] [] a := hfr.pick [0, 2, 8, 13, 14, 15]
   replace hst : St No w0 [_, _, _] w13 := hst.mask [true, true, false, true]
   refine wc_seq_k fun K21 hK21 => ?_
   refine wc_seq_region fun K22 hK22 => ?_
   refine wlm hfr rfl fun a hfr => ?_
   refine wlv hfr ((v_not rfl).asb (b' := false) rfl) fun a hfr => ?_
   refine wl_nil (hK22 _ _ ?_)
   refine wc_cond_f hfr rfl ?_
   refine wc_skip ?_
   refine hK21 _ _ ?_
   refine wc_seq_k fun K23 hK23 => ?_
   refine wc_of_dr (by kernel_rfl) (dr_of_wd (by kernel_rfl) fun w14 hxz => ?_)
   replace hst := hst.grow hxz
   refine wd_sub (k := 0) 31 [29, 30] hfr (by kernel_rfl) (by kernel_rfl) (by kernel_rfl) (by rfl) ?_
   replace hfr : Fr 146 [(0, _), (2, _), (8, _), (13, _), (14, _), (15, _), (97, _), (98, _)] [] a := hfr.pick [0, 2, 8, 13, 14, 15, 97, 98]
   refine wc_phases_q [30] (fun i => match i with | 30 => pm (fun b : Nat => .pointer (some ⟨b, 0, none⟩)) (fun b => [blk b [iv 0, iv 0, iv 0, iv 0, iv 0, iv 0, iv 0, iv 0, .string (⟨#[]⟩)] 30]) (fun _ => True) | _ => fun _ _ => False) 31 [[], [0], [1], [], [3], [4], [], [6], [7], [], [9], [10], [8, 11], [], [13], [14], [], [16], [17], [], [19], [20], [], [22], [23], [21, 24], [], [], [26, 27], [2, 5, 12, 15, 18, 25, 28], []] [iv13, slAddr iv13 (1 * 1), iv (l9.getD 1 0), iv13, slAddr iv13 (2 * 1), iv (l9.getD 2 0), iv13, slAddr iv13 (3 * 1), iv (l9.getD 3 0), iv13, slAddr iv13 (4 * 1), iv (l9.getD 4 0), .agg #[iv (l9.getD 3 0), iv (l9.getD 4 0)], iv13, slAddr iv13 (5 * 1), iv (l9.getD 5 0), iv13, slAddr iv13 (6 * 1), iv (l9.getD 6 0), iv13, slAddr iv13 (7 * 1), iv (l9.getD 7 0), iv13, slAddr iv13 (8 * 1), iv (l9.getD 8 0), .agg #[iv (l9.getD 7 0), iv (l9.getD 8 0)], sv s, iv ((s.length - r9.length : Nat) : Int), sv (s.drop (s.length - r9.length)), .agg #[iv (l9.getD 1 0), iv (l9.getD 2 0), iv (l9.getD 3 0), iv (l9.getD 4 0), iv (l9.getD 5 0), iv (l9.getD 6 0), iv (l9.getD 7 0), iv (l9.getD 8 0), sv (s.drop (s.length - r9.length))], undef] hfr hst (by kernel_rfl) (by kernel_rfl) (by kernel_rfl) ?_ ?_ ?_
   ·intro i hi hiq
    match i, hi, hiq with
    | 0, _, _ =>
     intro w hst
     exact OpV.g (v_move rfl)
    | 1, _, _ =>
     intro w hst
     exact OpV.g ((v_indexAddr_sl (i := 1) (sT := 88) (hst.ownAt (i := 0) rfl) rfl rfl (Tryz.runUnderlying88 _) (Tryz.sizeOf3 _) (by omega) (by rw [List.length_map]; omega)).as (v' := slAddr iv13 (1 * 1)) rfl)
    | 2, _, _ =>
     intro w hst
     exact OpV.g (v_load_sl1 (u := iv (l9.getD 1 0)) (i := 1) (j := 0) (hst.ownAt (i := 0) rfl) (by rw [List.length_map]; omega) rfl (Tryz.isAgg3 _) (by rw [el_at (0 : Int)]; rfl))
    | 3, _, _ =>
     intro w hst
     exact OpV.g (v_move rfl)
    | 4, _, _ =>
     intro w hst
     exact OpV.g ((v_indexAddr_sl (i := 2) (sT := 88) (hst.ownAt (i := 0) rfl) rfl rfl (Tryz.runUnderlying88 _) (Tryz.sizeOf3 _) (by omega) (by rw [List.length_map]; omega)).as (v' := slAddr iv13 (2 * 1)) rfl)
    | 5, _, _ =>
     intro w hst
     exact OpV.g (v_load_sl1 (u := iv (l9.getD 2 0)) (i := 2) (j := 0) (hst.ownAt (i := 0) rfl) (by rw [List.length_map]; omega) rfl (Tryz.isAgg3 _) (by rw [el_at (0 : Int)]; rfl))
    | 6, _, _ =>
     intro w hst
     exact OpV.g (v_move rfl)
    | 7, _, _ =>
     intro w hst
     exact OpV.g ((v_indexAddr_sl (i := 3) (sT := 88) (hst.ownAt (i := 0) rfl) rfl rfl (Tryz.runUnderlying88 _) (Tryz.sizeOf3 _) (by omega) (by rw [List.length_map]; omega)).as (v' := slAddr iv13 (3 * 1)) rfl)
    | 8, _, _ =>
     intro w hst
     exact OpV.g (v_load_sl1 (u := iv (l9.getD 3 0)) (i := 3) (j := 0) (hst.ownAt (i := 0) rfl) (by rw [List.length_map]; omega) rfl (Tryz.isAgg3 _) (by rw [el_at (0 : Int)]; rfl))
    | 9, _, _ =>
     intro w hst
     exact OpV.g (v_move rfl)
    | 10, _, _ =>
     intro w hst
     exact OpV.g ((v_indexAddr_sl (i := 4) (sT := 88) (hst.ownAt (i := 0) rfl) rfl rfl (Tryz.runUnderlying88 _) (Tryz.sizeOf3 _) (by omega) (by rw [List.length_map]; omega)).as (v' := slAddr iv13 (4 * 1)) rfl)
    | 11, _, _ =>
     intro w hst
     exact OpV.g (v_load_sl1 (u := iv (l9.getD 4 0)) (i := 4) (j := 0) (hst.ownAt (i := 0) rfl) (by rw [List.length_map]; omega) rfl (Tryz.isAgg3 _) (by rw [el_at (0 : Int)]; rfl))
    | 12, _, _ =>
     intro w hst
     exact OpV.g (v_build (v := .agg #[iv (l9.getD 3 0), iv (l9.getD 4 0)]) rfl (by kernel_rfl))
    | 13, _, _ =>
     intro w hst
     exact OpV.g (v_move rfl)
    | 14, _, _ =>
     intro w hst
     exact OpV.g ((v_indexAddr_sl (i := 5) (sT := 88) (hst.ownAt (i := 0) rfl) rfl rfl (Tryz.runUnderlying88 _) (Tryz.sizeOf3 _) (by omega) (by rw [List.length_map]; omega)).as (v' := slAddr iv13 (5 * 1)) rfl)
    | 15, _, _ =>
     intro w hst
     exact OpV.g (v_load_sl1 (u := iv (l9.getD 5 0)) (i := 5) (j := 0) (hst.ownAt (i := 0) rfl) (by rw [List.length_map]; omega) rfl (Tryz.isAgg3 _) (by rw [el_at (0 : Int)]; rfl))
    | 16, _, _ =>
     intro w hst
     exact OpV.g (v_move rfl)
    | 17, _, _ =>
     intro w hst
     exact OpV.g ((v_indexAddr_sl (i := 6) (sT := 88) (hst.ownAt (i := 0) rfl) rfl rfl (Tryz.runUnderlying88 _) (Tryz.sizeOf3 _) (by omega) (by rw [List.length_map]; omega)).as (v' := slAddr iv13 (6 * 1)) rfl)
    | 18, _, _ =>
     intro w hst
     exact OpV.g (v_load_sl1 (u := iv (l9.getD 6 0)) (i := 6) (j := 0) (hst.ownAt (i := 0) rfl) (by rw [List.length_map]; omega) rfl (Tryz.isAgg3 _) (by rw [el_at (0 : Int)]; rfl))
    | 19, _, _ =>
     intro w hst
     exact OpV.g (v_move rfl)
    | 20, _, _ =>
     intro w hst
     exact OpV.g ((v_indexAddr_sl (i := 7) (sT := 88) (hst.ownAt (i := 0) rfl) rfl rfl (Tryz.runUnderlying88 _) (Tryz.sizeOf3 _) (by omega) (by rw [List.length_map]; omega)).as (v' := slAddr iv13 (7 * 1)) rfl)
    | 21, _, _ =>
     intro w hst
     exact OpV.g (v_load_sl1 (u := iv (l9.getD 7 0)) (i := 7) (j := 0) (hst.ownAt (i := 0) rfl) (by rw [List.length_map]; omega) rfl (Tryz.isAgg3 _) (by rw [el_at (0 : Int)]; rfl))
    | 22, _, _ =>
     intro w hst
     exact OpV.g (v_move rfl)
    | 23, _, _ =>
     intro w hst
     exact OpV.g ((v_indexAddr_sl (i := 8) (sT := 88) (hst.ownAt (i := 0) rfl) rfl rfl (Tryz.runUnderlying88 _) (Tryz.sizeOf3 _) (by omega) (by rw [List.length_map]; omega)).as (v' := slAddr iv13 (8 * 1)) rfl)
    | 24, _, _ =>
     intro w hst
     exact OpV.g (v_load_sl1 (u := iv (l9.getD 8 0)) (i := 8) (j := 0) (hst.ownAt (i := 0) rfl) (by rw [List.length_map]; omega) rfl (Tryz.isAgg3 _) (by rw [el_at (0 : Int)]; rfl))
    | 25, _, _ =>
     intro w hst
     exact OpV.g (v_build (v := .agg #[iv (l9.getD 7 0), iv (l9.getD 8 0)]) rfl (by kernel_rfl))
    | 26, _, _ =>
     intro w hst
     exact OpV.g (v_move rfl)
    | 27, _, _ =>
     intro w hst
     exact OpV.g (v_move rfl)
    | 28, _, _ =>
     intro w hst
     exact OpV.g ((v_slice_str (xs := s) (l := (s.length - r9.length)) (h := s.length) rfl rfl rfl Tryz.underlying9 (.inr (by rw [show (((s.length - r9.length : Nat) : Int) : Int) = (((s.length - r9.length) : Nat) : Int) from by omega] <;> rfl)) (.inl ⟨rfl, rfl⟩) (by omega) (Nat.le_refl _)).as (v' := sv (s.drop (s.length - r9.length))) (by rw [List.take_of_length_le (by rw [List.length_drop]; omega)]))
    | 29, _, _ =>
     intro w hst
     exact OpV.g (v_build (v := .agg #[iv (l9.getD 1 0), iv (l9.getD 2 0), iv (l9.getD 3 0), iv (l9.getD 4 0), iv (l9.getD 5 0), iv (l9.getD 6 0), iv (l9.getD 7 0), iv (l9.getD 8 0), sv (s.drop (s.length - r9.length))]) rfl (by kernel_rfl))
    | 30, _, h => exact absurd (by simp) h
    | i + 31, h, _ => exact absurd h (by omega)
   ·intro i hi
    simp only [List.mem_cons, List.not_mem_nil, or_false] at hi
    subst hi
    ·intro w hst
     exact g_alloc (Tryz.zeroValue30 _) (cs := [iv 0, iv 0, iv 0, iv 0, iv 0, iv 0, iv 0, iv 0, .string (⟨#[]⟩)]) rfl
   clear hfr hst
   rintro _ _ ⟨b15, rfl, -, rfl⟩ a w15 hfr hst
   replace hfr : Fr 146 [(100, iv13), (101, slAddr iv13 (1 * 1)), (102, iv (l9.getD 1 0)), (103, iv13), (104, slAddr iv13 (2 * 1)), (105, iv (l9.getD 2 0)), (106, iv13), (107, slAddr iv13 (3 * 1)), (108, iv (l9.getD 3 0)), (109, iv13), (110, slAddr iv13 (4 * 1)), (111, iv (l9.getD 4 0)), (112, .agg #[iv (l9.getD 3 0), iv (l9.getD 4 0)]), (113, iv13), (114, slAddr iv13 (5 * 1)), (115, iv (l9.getD 5 0)), (116, iv13), (117, slAddr iv13 (6 * 1)), (118, iv (l9.getD 6 0)), (119, iv13), (120, slAddr iv13 (7 * 1)), (121, iv (l9.getD 7 0)), (122, iv13), (123, slAddr iv13 (8 * 1)), (124, iv (l9.getD 8 0)), (125, .agg #[iv (l9.getD 7 0), iv (l9.getD 8 0)]), (126, sv s), (127, iv ((s.length - r9.length : Nat) : Int)), (128, sv (s.drop (s.length - r9.length))), (129, .agg #[iv (l9.getD 1 0), iv (l9.getD 2 0), iv (l9.getD 3 0), iv (l9.getD 4 0), iv (l9.getD 5 0), iv (l9.getD 6 0), iv (l9.getD 7 0), iv (l9.getD 8 0), sv (s.drop (s.length - r9.length))]), (16, _), (0, _), (2, _), (8, _), (13, _), (14, _), (15, _), (97, _), (98, _)] [] a := hfr
   replace hst : St No w0 [_, _, _, _] w15 := hst
   refine wl_nil ?_
   refine wd_lin (k := 31) 32 [31] (by kernel_rfl) (by kernel_rfl) (by kernel_rfl) ?_
   refine wl_store 0 hfr hst rfl rfl rfl (Tryz.sizeOf30 _) rfl (lb rfl) (ds := [iv (l9.getD 1 0), iv (l9.getD 2 0), iv (l9.getD 3 0), iv (l9.getD 4 0), iv (l9.getD 5 0), iv (l9.getD 6 0), iv (l9.getD 7 0), iv (l9.getD 8 0), sv (s.drop (s.length - r9.length))]) rfl rfl ?_
   clear hfr hst
   intro a w16 hfr hst
   refine wl_nil ?_
   refine wd_end (by kernel_rfl) ?_
   refine hK23 _ _ ?_
   replace hfr : Fr 146 [(0, _), (2, _), (8, _), (16, _)] [] a := hfr.pick [0, 2, 8, 16]
   replace hst : St No w0 [_, _, _] w16 := hst.mask [true, false, true, true]
   replace hst : St No w0 [blk b15 [iv (l9.getD 1 0), iv (l9.getD 2 0), iv (l9.getD 3 0), iv (l9.getD 4 0), iv (l9.getD 5 0), iv (l9.getD 6 0), iv (l9.getD 7 0), iv (l9.getD 8 0), sv r9] 30, own lv 40 7 ((acc).map Pxy.cells), blk w0.heap.size [iv 0, iv 0, iv 0, iv 0, iv 0, iv 0, iv 0, iv 0, .string (⟨#[]⟩)] 30] w16 := by rw [hd9.1] at hst; exact hst
   obtain ⟨et, ee, hen⟩ : ∃ t e, encT (wshN l9 r9) acc = (t, e) := ⟨_, _, rfl⟩
   have hrd := hacc.trans (accR_end h9)
   refine wc_seq_region fun K24 hK24 => ?_
   refine wlv hfr (v_load_all (hst.get (k := 0) rfl) rfl (Tryz.isAgg30 _) (Tryz.sizeOf30 _)) fun a hfr => wlm hfr rfl fun a hfr => ?_
   refine wl_callp hfr hst (by decide) Tryz.call27 rfl (rencode_x (x := wshN l9 r9) (ps := acc) (t := et) (e := ee) hen (hst.ownAt (i := 1) rfl)) ?_
   clear hfr hst
   intro a w17 hfr hst
   refine wlm hfr rfl fun a hfr => ?_
   refine wlv hfr (v_extract rfl rfl) fun a hfr => ?_
   refine wlv hfr (v_extract rfl rfl) fun a hfr => wla hfr rfl fun a hfr => wla hfr rfl fun a hfr => ?_
   refine wl_nil (hK24 _ _ ?_)
   replace hfr : Fr 146 [(0, _), (2, _), (8, _), (16, _), (17, _), (18, _)] [] a := hfr.pick [0, 2, 8, 16, 17, 18]
   refine wc_seq_k fun K25 hK25 => ?_
   refine wc_seq_region fun K26 hK26 => ?_
   refine wlm hfr rfl fun a hfr => ?_
   refine wlv hfr (v_ne rfl rfl) fun a hfr => wlm hfr rfl fun a hfr => ?_
   rcases Bool.eq_false_or_eq_true (!decide (ee = 0)) with hb16 | hb16
   ·rw [hb16] at hfr
    try simp only [qz] at hb16
    refine wln hfr fun a hfr => ?_
    refine wln hfr fun a hfr => ?_
    refine wln hfr fun a hfr => ?_
    refine wlv hfr (v_pick_t rfl rfl) fun a hfr => ?_
    refine wl_nil (hK26 _ _ ?_)
    replace hfr : Fr 146 [(2, _), (8, _), (16, _), (142, _)] [] a := hfr.pick [2, 8, 16, 142]
    refine wc_cond_t hfr rfl ?_
    refine wc_seq_region fun K27 hK27 => ?_
    refine wlv hfr (v_build (v := .agg #[iv 0, iv 0, iv 0, iv 0, iv 0, iv 0, iv 0, iv 0, sv ([] : By)]) rfl (by kernel_rfl)) fun a hfr => ?_
    refine wl_store 2 hfr hst rfl rfl rfl (Tryz.sizeOf30 _) rfl (lb rfl) (ds := [iv 0, iv 0, iv 0, iv 0, iv 0, iv 0, iv 0, iv 0, sv ([] : By)]) rfl rfl ?_
    clear hfr hst
    intro a w18 hfr hst
    refine wla hfr rfl fun a hfr => wla hfr rfl fun a hfr => ?_
    refine wl_nil (hK27 _ _ ?_)
    refine wc_ret ?_
    refine fin_ret hfr Tryz.results29 (resAre_cell rfl (res_all (hst.get (k := 2) rfl) (Tryz.isAgg30 _) (Tryz.sizeOf30 _)) (resAre_tmp rfl (resAre_tmp rfl resAre_nil))) ?_
    exact .inr ⟨dec_other hrd (encT_no hen (.inl hb16)), rfl, hst.ext⟩
   rw [hb16] at hfr
   try simp only [qz] at hb16
   refine wly hfr (v_move rfl) fun a hfr => wly hfr (v_move rfl) fun a hfr => wly hfr (v_sne rfl rfl) fun a hfr => ?_
   refine wlv hfr (v_pick_f rfl rfl) fun a hfr => ?_
   refine wl_nil (hK26 _ _ ?_)
   replace hfr : Fr 146 [(2, _), (8, _), (16, _), (142, _)] [] a := hfr.pick [2, 8, 16, 142]
   refine wc_cond hfr rfl (fun hc17 => ?_) (fun hc17 => ?_)
   ·rw [hc17] at hfr
    try simp only [qz] at hc17
    refine wc_seq_region fun K28 hK28 => ?_
    refine wlv hfr (v_build (v := .agg #[iv 0, iv 0, iv 0, iv 0, iv 0, iv 0, iv 0, iv 0, sv ([] : By)]) rfl (by kernel_rfl)) fun a hfr => ?_
    refine wl_store 2 hfr hst rfl rfl rfl (Tryz.sizeOf30 _) rfl (lb rfl) (ds := [iv 0, iv 0, iv 0, iv 0, iv 0, iv 0, iv 0, iv 0, sv ([] : By)]) rfl rfl ?_
    clear hfr hst
    intro a w19 hfr hst
    refine wla hfr rfl fun a hfr => wla hfr rfl fun a hfr => ?_
    refine wl_nil (hK28 _ _ ?_)
    refine wc_ret ?_
    refine fin_ret hfr Tryz.results29 (resAre_cell rfl (res_all (hst.get (k := 2) rfl) (Tryz.isAgg30 _) (Tryz.sizeOf30 _)) (resAre_tmp rfl (resAre_tmp rfl resAre_nil))) ?_
    exact .inr ⟨dec_other hrd (encT_no hen (.inr hc17)), rfl, hst.ext⟩
   rw [hc17] at hfr
   try simp only [qz] at hc17
   refine wc_skip ?_
   refine hK25 _ _ ?_
   refine wc_seq_region fun K29 hK29 => ?_
   refine wlv hfr (v_load_all (hst.get (k := 0) rfl) rfl (Tryz.isAgg30 _) (Tryz.sizeOf30 _)) fun a hfr => wlm hfr rfl fun a hfr => ?_
   refine wl_store 2 hfr hst rfl rfl rfl (Tryz.sizeOf30 _) rfl (lb rfl) (ds := [iv (l9.getD 1 0), iv (l9.getD 2 0), iv (l9.getD 3 0), iv (l9.getD 4 0), iv (l9.getD 5 0), iv (l9.getD 6 0), iv (l9.getD 7 0), iv (l9.getD 8 0), sv r9]) rfl rfl ?_
   clear hfr hst
   intro a w20 hfr hst
   refine wla hfr rfl fun a hfr => wla hfr rfl fun a hfr => ?_
   refine wl_nil (hK29 _ _ ?_)
   refine wc_ret ?_
   refine fin_ret hfr Tryz.results29 (resAre_cell rfl (res_all (hst.get (k := 2) rfl) (Tryz.isAgg30 _) (Tryz.sizeOf30 _)) (resAre_tmp rfl (resAre_tmp rfl resAre_nil))) ?_
   exact .inl ⟨wshN l9 r9, acc, dec_read hrd (encT_ok hen hb16 hc17), _, rfl, trivial, hst.ext, St.out (E := [own lv 40 7 (acc.map Pxy.cells)]) (H := []) (hst.select [1] (by decide))⟩
  try simp only [qz] at hb12
  have h9 := isS_f hb12
  have hno : readR s = none := by rw [hacc]; exact accR_endbad h9
  refine wl_callp hfr hst (by decide) Tryz.call85 rfl (rints_bad h9 (by first | exact Nat.zero_le _ | omega) hsl (by decide)) ?_
  clear hfr hst
  intro a w21 hfr hst
  refine wlm hfr rfl fun a hfr => ?_
  refine wlv hfr (v_extract rfl rfl) fun a hfr => ?_
  refine wlv hfr (v_extract rfl rfl) fun a hfr => ?_
  refine wlv hfr (v_extract rfl rfl) fun a hfr => wla hfr rfl fun a hfr => wla hfr rfl fun a hfr => wla hfr rfl fun a hfr => ?_
  refine wl_nil (hK20 _ _ ?_)
  replace hfr : Fr 146 [(0, _), (2, _), (8, _), (13, _), (14, _), (15, _)] [] a := hfr.pick [0, 2, 8, 13, 14, 15]
  replace hst : St No w0 [_, _] w21 := hst.mask [true, false, true]
  refine wc_seq_k fun K30 hK30 => ?_
  refine wc_seq_region fun K31 hK31 => ?_
  refine wlm hfr rfl fun a hfr => ?_
  refine wlv hfr ((v_not rfl).asb (b' := true) rfl) fun a hfr => ?_
  refine wl_nil (hK31 _ _ ?_)
  refine wc_cond_t hfr rfl ?_
  refine wc_seq_region fun K32 hK32 => ?_
  refine wlv hfr (v_build (v := .agg #[iv 0, iv 0, iv 0, iv 0, iv 0, iv 0, iv 0, iv 0, sv ([] : By)]) rfl (by kernel_rfl)) fun a hfr => ?_
  refine wl_store 1 hfr hst rfl rfl rfl (Tryz.sizeOf30 _) rfl (lb rfl) (ds := [iv 0, iv 0, iv 0, iv 0, iv 0, iv 0, iv 0, iv 0, sv ([] : By)]) rfl rfl ?_
  clear hfr hst
  intro a w22 hfr hst
  refine wla hfr rfl fun a hfr => wla hfr rfl fun a hfr => ?_
  refine wl_nil (hK32 _ _ ?_)
  refine wc_ret ?_
  refine fin_ret hfr Tryz.results29 (resAre_cell rfl (res_all (hst.get (k := 1) rfl) (Tryz.isAgg30 _) (Tryz.sizeOf30 _)) (resAre_tmp rfl (resAre_tmp rfl resAre_nil))) ?_
  exact .inr ⟨dec_unread hno, rfl, hst.ext⟩
 try simp only [qz] at hb1
 have h1 := isS_f hb1
 have hno : readR s = none := readR_none h1
 refine wl_callp hfr hst (by decide) Tryz.call85 rfl (rints_bad h1 (by first | exact Nat.zero_le _ | omega) hsl (by decide)) ?_
 clear hfr hst
 intro a w23 hfr hst
 refine wlm hfr rfl fun a hfr => ?_
 refine wlv hfr (v_extract rfl rfl) fun a hfr => ?_
 refine wlv hfr (v_extract rfl rfl) fun a hfr => ?_
 refine wlv hfr (v_extract rfl rfl) fun a hfr => wla hfr rfl fun a hfr => wla hfr rfl fun a hfr => wla hfr rfl fun a hfr => ?_
 refine wl_nil (hK2 _ _ ?_)
 replace hfr : Fr 146 [(0, _), (2, _), (3, _), (4, _), (5, _), (6, _), (7, _)] [] a := hfr.pick [0, 2, 3, 4, 5, 6, 7]
 refine wc_seq_k fun K33 hK33 => ?_
 refine wc_seq_region fun K34 hK34 => ?_
 refine wlm hfr rfl fun a hfr => ?_
 refine wlv hfr ((v_not rfl).asb (b' := true) rfl) fun a hfr => wlm hfr rfl fun a hfr => ?_
 refine wln hfr fun a hfr => ?_
 refine wln hfr fun a hfr => ?_
 refine wln hfr fun a hfr => ?_
 refine wln hfr fun a hfr => ?_
 refine wln hfr fun a hfr => ?_
 refine wlv hfr (v_pick_t rfl rfl) fun a hfr => ?_
 refine wl_nil (hK34 _ _ ?_)
 replace hfr : Fr 146 [(0, _), (2, _), (3, _), (4, _), (5, _), (6, _), (33, _)] [] a := hfr.pick [0, 2, 3, 4, 5, 6, 33]
 refine wc_cond_t hfr rfl ?_
 refine wc_seq_region fun K35 hK35 => ?_
 refine wlv hfr (v_build (v := .agg #[iv 0, iv 0, iv 0, iv 0, iv 0, iv 0, iv 0, iv 0, sv ([] : By)]) rfl (by kernel_rfl)) fun a hfr => ?_
 refine wl_store 0 hfr hst rfl rfl rfl (Tryz.sizeOf30 _) rfl (lb rfl) (ds := [iv 0, iv 0, iv 0, iv 0, iv 0, iv 0, iv 0, iv 0, sv ([] : By)]) rfl rfl ?_
 clear hfr hst
 intro a w24 hfr hst
 refine wla hfr rfl fun a hfr => wla hfr rfl fun a hfr => ?_
 refine wl_nil (hK35 _ _ ?_)
 refine wc_ret ?_
 refine fin_ret hfr Tryz.results29 (resAre_cell rfl (res_all (hst.get (k := 0) rfl) (Tryz.isAgg30 _) (Tryz.sizeOf30 _)) (resAre_tmp rfl (resAre_tmp rfl resAre_nil))) ?_
 exact .inr ⟨dec_unread hno, rfl, hst.ext⟩
end Go.Proofs.YtmmfieceinmloaaGreatDoor
