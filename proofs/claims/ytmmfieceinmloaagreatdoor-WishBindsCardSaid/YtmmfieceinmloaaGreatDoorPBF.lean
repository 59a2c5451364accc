/- Texts joined: WshS, WshT, WshU, WshV, Open, Laid, Door, LawB. -/
import Derived.Test.YtmmfieceinmloaaGreatDoorPBE
import Derived.Test.YtmmfieceinmloaaGreatDoorPBA
import Derived.Test.YtmmfieceinmloaaGreatDoorPBC
import Derived.Test.YtmmfieceinmloaaGreatDoorPBB
import Derived.LaidMore
import Derived.OpenShut
import Derived.Stop.Joined
import Derived.SevenTiedAt
import Derived.ChangeMaps5
import Derived.Test.YtmmfieceinmloaaGreatDoorRows
namespace Go.Proofs.YtmmfieceinmloaaGreatDoor
open Go.RowKit Go.PW
set_option linter.unusedVariables false
set_option linter.unusedSimpArgs false
set_option maxRecDepth 4000
theorem v_ifacenn {P : Program} {w : World} {L : List (Nat × Value)} {dst : Option Tmp} {T T' ty : TypeId} {pos : String} {af : Array Edge} {x y : Operand} (hx : ev L x = some .nilIface) (hy : ev L y = some .nilIface) (hr : (binOp .eql T .nilIface .nilIface).run P w = .ok (.bool true) w) (hg : (eqGuard .eql T x y .nilIface .nilIface).run P w = .ok () w) : OpV P ⟨dst, .binOp .eql T x y T', ty, pos, af, none⟩ L w (.bool true) :=
 ⟨rfl, fun N df a h => by
  simp only [execOp, h.eval hx, h.eval hy, Sem.run_bind, hg, hr, Result.andThen_ok]; rfl⟩
/-- dialtone/wish.Decode$1 -/
theorem dec1_pan {M : Nat → Prop} {w0 : World} (b2 b3 b4 : Nat) (c0 c1 c2 c3 c4 c5 c6 c7 c8 c9 c10 : Value) (ws : World) (hst : St M w0 [blk b2 [c0, c1, c2, c3, c4, c5, c6, c7, c8] 30, blk b3 [c9] 31, blk b4 [c10] 54] ws) :
  CallsDIn Fence.wide 0 Tryz.prog 81 #[.pointer (some ⟨b2, 0, none⟩), .pointer (some ⟨b3, 0, none⟩), .pointer (some ⟨b4, 0, none⟩)] (.panicking [{ v := .iface 142 (.agg #[]), recovered := false }]) ws fun e u' w => u' = (.panicking [{ v := .iface 142 (.agg #[]), recovered := true }]) ∧ ∃ x, e = .returned x ∧ St M w0 [blk b2 [.int .i64 0, .int .i64 0, .int .i64 0, .int .i64 0, .int .i64 0, .int .i64 0, .int .i64 0, .int .i64 0, sv ([] : By)] 30, blk b3 [.slice none 0 0] 31, blk b4 [.int .i64 150] 54] w  := by
 refine dfr_of (args := [.pointer (some ⟨b2, 0, none⟩), .pointer (some ⟨b3, 0, none⟩), .pointer (some ⟨b4, 0, none⟩)]) Tryz.func81 rfl Tryz.ntmps81 (Nat.le_of_ble_eq_true rfl) rfl rfl (by decide) (fun _ _ => rfl) (.inr ⟨rfl, rfl⟩) fun a hfr => ?_
 replace hfr : Fr 13 [(6, _), (0, _), (1, _), (2, _)] [] a := hfr
 skip
 refine wc_block ?_
 refine wc_seq_region fun K1 hK1 => ?_
 refine wlv hfr (v_ifacenil rfl rfl (by kernel_rfl) (by kernel_rfl)) fun a hfr => ?_
 refine wl_nil (hK1 _ _ ?_)
 refine wc_cond_f hfr rfl ?_
 refine wc_seq_region fun K2 hK2 => ?_
 refine wlv hfr (v_assert_yes rfl Tryz.underlying142) fun a hfr => ?_
 refine wlv hfr (v_extract rfl rfl) fun a hfr => ?_
 refine wlv hfr (v_extract rfl rfl) fun a hfr => ?_
 refine wl_nil (hK2 _ _ ?_)
 refine wc_cond_t hfr rfl ?_
 refine wc_seq_region fun K3 hK3 => ?_
 refine wl_alloc hfr hst (by decide) (Tryz.zeroValue142 _) (cs := []) rfl ?_
 clear hfr hst
 intro a w1 hfr hst
 refine wl_store 0 hfr hst rfl rfl rfl (Tryz.sizeOf142 _) rfl (Nat.le_of_ble_eq_true rfl) (ds := []) rfl rfl ?_
 clear hfr hst
 intro a w2 hfr hst
 refine wl_nil (hK3 _ _ ?_)
 replace hfr : Fr 13 [(0, _), (1, _), (2, _)] [] a := hfr.pick [0, 1, 2]
 replace hst : St M w0 [_, _, _] w2 := hst.mask [false, true, true, true]
 refine wc_region ?_
 refine wlv hfr (v_build (v := .agg #[.int .i64 0, .int .i64 0, .int .i64 0, .int .i64 0, .int .i64 0, .int .i64 0, .int .i64 0, .int .i64 0, .string (⟨#[]⟩)]) rfl (by kernel_rfl)) fun a hfr => ?_
 refine wl_store 0 hfr hst rfl rfl rfl (Tryz.sizeOf30 _) rfl (Nat.le_of_ble_eq_true rfl) (ds := [.int .i64 0, .int .i64 0, .int .i64 0, .int .i64 0, .int .i64 0, .int .i64 0, .int .i64 0, .int .i64 0, .string (⟨#[]⟩)]) rfl rfl ?_
 clear hfr hst
 intro a w3 hfr hst
 refine wl_store 1 hfr hst rfl rfl rfl (Tryz.sizeOf31 _) rfl (Nat.le_of_ble_eq_true rfl) (ds := [.slice none 0 0]) rfl rfl ?_
 clear hfr hst
 intro a w4 hfr hst
 refine wl_store 2 hfr hst rfl rfl rfl (Tryz.sizeOf54 _) rfl (Nat.le_of_ble_eq_true rfl) (ds := [.int .i64 150]) rfl rfl ?_
 clear hfr hst
 intro a w5 hfr hst
 refine wl_nil ?_
 refine fine_end hfr Tryz.results81 resAre_nil ?_
 exact hst.select [0, 1, 2] (by decide)
/-- dialtone/wish.Decode$1 -/
theorem dec1_ret (b2 b3 b4 : Nat) (ws : World) :
  CallsDIn Fence.wide 0 Tryz.prog 81 #[.pointer (some ⟨b2, 0, none⟩), .pointer (some ⟨b3, 0, none⟩), .pointer (some ⟨b4, 0, none⟩)] .returning ws fun e u' w => u' = .returning ∧ ∃ x, e = .returned x ∧ Ext No ws w  := by
 refine dfr_of (args := [.pointer (some ⟨b2, 0, none⟩), .pointer (some ⟨b3, 0, none⟩), .pointer (some ⟨b4, 0, none⟩)]) Tryz.func81 rfl Tryz.ntmps81 (Nat.le_of_ble_eq_true rfl) rfl rfl (by decide) (fun _ _ => rfl) (.inl ⟨rfl, rfl, rfl⟩) fun a hfr => ?_
 replace hfr : Fr 13 [(6, _), (0, _), (1, _), (2, _)] [] a := hfr
 replace hst : St No ws [] ws := St.init ws
 refine wc_block ?_
 refine wc_seq_region fun K1 hK1 => ?_
 refine wlv hfr (v_ifacenn rfl rfl (by kernel_rfl) (by kernel_rfl)) fun a hfr => ?_
 refine wl_nil (hK1 _ _ ?_)
 refine wc_cond_t hfr rfl ?_
 refine wc_region ?_
 refine wla hfr rfl fun a hfr => ?_
 refine wl_nil ?_
 refine fine_end hfr Tryz.results81 resAre_nil ?_
 exact hst.ext
theorem st_none {M : Nat → Prop} {w0 w : World} (h : Ext M w0 w) : St M w0 [join []] w :=
 ⟨h, fun e he => by rw [List.mem_singleton.1 he]; exact ⟨⟨fun e he => (by cases he), List.Pairwise.nil⟩, fun k ⟨e, he, _⟩ => (by cases he)⟩, List.pairwise_singleton _ _⟩
theorem shut_no1 {l : List Pxy} {w : Wsh} {r : By} (h : r ≠ []) : shutH l w r = none := if_neg fun hh => h hh.1
theorem shut_no2 {l : List Pxy} {w : Wsh} {r : By} (h : formedH w l = false) : shutH l w r = none := if_neg fun hh => by rw [h] at hh; cases hh.2
theorem shut_yes {l : List Pxy} {w : Wsh} {r : By} (h1 : r = []) (h2 : formedH w l = true) : shutH l w r = some (w, l) := if_pos ⟨h1, h2⟩
theorem inB_bnd {n a b : Int} (h : inB n a b = true) : a ≤ n ∧ n ≤ b := by simpa [inB] using h
set_option maxHeartbeats 4000000 in
/-- dialtone/wish.Decode -/
theorem decode_run (s : By) (w0 : World) (hsl : s.length ≤ 1000000) :
  Ret Tryz.prog 28 #[sv s] w0 fun v w => (∃ x ps, decodeH s = some (x, ps) ∧ MemR w0 (fun lv : Value => .tuple #[.agg x.cells.toArray, lv, .int .i64 0]) (fun lv => [own lv 40 7 (ps.map Pxy.cells)]) (fun _ => True) v w) ∨ (decodeH s = none ∧ v = .tuple #[.agg #[.int .i64 0, .int .i64 0, .int .i64 0, .int .i64 0, .int .i64 0, .int .i64 0, .int .i64 0, .int .i64 0, sv ([] : By)], .slice none 0 0, .int .i64 150] ∧ Ext No w0 w) := by
 refine retd_of Tryz.func28 rfl Tryz.ntmps28 (Nat.le_of_ble_eq_true rfl) fun a hfr => ?_
 replace hfr : Fr 98 [(0, _)] [] a := hfr
 replace hst : St No w0 [] w0 := St.init w0
 refine wc_seq_region fun K1 hK1 => ?_
 refine wl_alloc hfr hst (by decide) (Tryz.zeroValue30 _) (cs := [.int .i64 0, .int .i64 0, .int .i64 0, .int .i64 0, .int .i64 0, .int .i64 0, .int .i64 0, .int .i64 0, .string (⟨#[]⟩)]) rfl ?_
 clear hfr hst
 intro a w1 hfr hst
 refine wl_alloc hfr hst (by decide) (Tryz.zeroValue31 _) (cs := [.slice none 0 0]) rfl ?_
 clear hfr hst
 intro a w2 hfr hst
 refine wl_alloc hfr hst (by decide) (Tryz.zeroValue54 _) (cs := [.int .i64 0]) rfl ?_
 clear hfr hst
 intro a w3 hfr hst
 refine wl_nil (hK1 _ _ ?_)
 refine wc_seq_region fun K2 hK2 => ?_
 refine wlv hfr (v_makeFunc rfl rfl) fun a hfr => ?_
 refine wl_defer hfr rfl fun a hfr => ?_
 refine wl_nil (hK2 _ _ ?_)
 refine wc_seq_region fun K3 hK3 => ?_
 refine wlm hfr rfl fun a hfr => ?_
 refine wlv hfr (v_build (v := .agg #[sv s, .int .i64 0]) rfl (by kernel_rfl)) fun a hfr => ?_
 refine wl_box hfr hst (by decide) rfl (cs := [sv s, .int .i64 0]) rfl ?_
 clear hfr hst
 intro a w4 hfr hst
 refine wla hfr rfl fun a hfr => ?_
 refine wl_nil (hK3 _ _ ?_)
 have hd0 : decodeH s = getI s (fun n r => if inB n 0 4 = true then rdPxys n.toNat [] r tailH else none) := rfl
 refine wcx_seq_region fun K4 hK4 hP4 => ?_
 refine wx_split 1 ?_
 refine wlm hfr rfl fun a hfr => ?_
 refine wl_nil ?_
 rcases hq1 : rdI s with _ | ⟨n3, r2⟩
 ·have hdn := hd0.trans (getI_bad hq1)
  refine wx_panE (X := fun c => c = [{ v := .iface 142 (.agg #[]), recovered := false }]) 0 hfr hst rfl Tryz.call82 rfl (fun h => (number_bad w3.heap.size s s  0 _ (by simp) (List.suffix_refl s) hsl hq1 h).mono fun e w ⟨c, h1, h2, h3⟩ => ⟨c, h1, _, h2, h3⟩) ?_
  clear hst
  rintro _ w5 e9 rfl hst
  refine hP4 _ _ _ ?_
  replace hst : St No w0 [blk w0.heap.size [.int .i64 0, .int .i64 0, .int .i64 0, .int .i64 0, .int .i64 0, .int .i64 0, .int .i64 0, .int .i64 0, .string (⟨#[]⟩)] 30, blk w1.heap.size [.slice none 0 0] 31, blk w2.heap.size [.int .i64 0] 54] w5 := hst.select [3, 2, 1] (by decide)
  exact find_panic hfr Tryz.call81 (dec1_pan _ _ _ _ _ _ _ _ _ _ _ _ _ _ _ hst) Tryz.results28 (fun w9 hst => ⟨(resAre_cell rfl (res_all (hst.get (k := 0) rfl) (Tryz.isAgg30 _) (Tryz.sizeOf30 _)) (resAre_cell rfl (res_one (hst.get (k := 1) rfl) (Tryz.isAgg31 _)) (resAre_cell rfl (res_one (hst.get (k := 2) rfl) (Tryz.isAgg54 _)) resAre_nil))), .inr ⟨hdn, rfl, hst.ext⟩⟩)
 have hd4 := hd0.trans (getI_ok hq1)
 have hs5 := (rdI_suf hq1).trans (List.suffix_refl s)
 refine wx_split 1 ?_
 refine wl_callE (R := fun u e' => u = .int .i64 n3 ∧ e' = blk w3.heap.size [sv s, .int .i64 ((s.length - r2.length : Nat) : Int)] 145) 0 hfr hst rfl (by decide) Tryz.call82 rfl (fun h => (number_ok w3.heap.size s s r2 n3 0 _ (by simp) (List.suffix_refl s) hsl hq1 h).mono fun u w ⟨h1, h2⟩ => ⟨_, ⟨h1, rfl⟩, h2⟩) ?_
 clear hfr hst
 rintro a w6 _ _ ⟨rfl, rfl⟩ hfr hst
 replace hst : St No w0 [blk w3.heap.size [sv s, .int .i64 ((s.length - r2.length : Nat) : Int)] 145, blk w2.heap.size [.int .i64 0] 54, blk w1.heap.size [.slice none 0 0] 31, blk w0.heap.size [.int .i64 0, .int .i64 0, .int .i64 0, .int .i64 0, .int .i64 0, .int .i64 0, .int .i64 0, .int .i64 0, .string (⟨#[]⟩)] 30] w6 := hst
 refine wl_nil ?_
 refine wx_wl ?_
 refine wla hfr rfl fun a hfr => ?_
 refine wl_nil (hK4 _ _ ?_)
 replace hfr : Fr 98 [(0, _), (2, _), (3, _), (4, _), (5, _), (6, _)] [{ target := .fn (.func 81) #[.pointer (some ⟨w0.heap.size, 0, none⟩), .pointer (some ⟨w1.heap.size, 0, none⟩), .pointer (some ⟨w2.heap.size, 0, none⟩)], args := #[] }] a := hfr.pick [0, 2, 3, 4, 5, 6]
 refine wc_seq_k fun K5 hK5 => ?_
 refine wc_seq_region fun K6 hK6 => ?_
 refine wlm hfr rfl fun a hfr => ?_
 refine wl_callp hfr hst (by decide) Tryz.call60 rfl (isWithin_ok n3 0 4 _) ?_
 clear hfr hst
 intro a w7 hfr hst
 refine wlv hfr (v_not rfl) fun a hfr => ?_
 refine wl_nil (hK6 _ _ ?_)
 refine wc_cond hfr rfl (fun hc6 => ?_) (fun hc6 => ?_)
 ·rw [hc6] at hfr
  try simp only [qz] at hc6
  have hdn : decodeH s = none := hd4.trans (if_neg (by rw [hc6]; decide))
  refine wcx_region ?_
  refine wx_split 2 ?_
  refine wlv hfr (v_build (v := .agg #[]) rfl (by kernel_rfl)) fun a hfr => ?_
  refine wlv hfr (v_makeIface rfl Tryz.underlying142) fun a hfr => ?_
  refine wl_nil ?_
  refine wx_panic hfr rfl ?_
  replace hst : St No w0 [blk w0.heap.size [.int .i64 0, .int .i64 0, .int .i64 0, .int .i64 0, .int .i64 0, .int .i64 0, .int .i64 0, .int .i64 0, .string (⟨#[]⟩)] 30, blk w1.heap.size [.slice none 0 0] 31, blk w2.heap.size [.int .i64 0] 54] w7 := hst.select [3, 2, 1] (by decide)
  exact find_panic hfr Tryz.call81 (dec1_pan _ _ _ _ _ _ _ _ _ _ _ _ _ _ _ hst) Tryz.results28 (fun w9 hst => ⟨(resAre_cell rfl (res_all (hst.get (k := 0) rfl) (Tryz.isAgg30 _) (Tryz.sizeOf30 _)) (resAre_cell rfl (res_one (hst.get (k := 1) rfl) (Tryz.isAgg31 _)) (resAre_cell rfl (res_one (hst.get (k := 2) rfl) (Tryz.isAgg54 _)) resAre_nil))), .inr ⟨hdn, rfl, hst.ext⟩⟩)
 rw [hc6] at hfr
 try simp only [qz] at hc6
 have hd9 := hd4.trans (if_pos hc6)
 have hib := inB_bnd hc6
 refine wc_skip ?_
 refine hK5 _ _ ?_
 refine wc_seq_k fun K7 hK7 => ?_
 replace hst : St No w0 [own (.slice none 0 0) 40 7 (([] : List Pxy).map Pxy.cells), blk w3.heap.size [sv s, .int .i64 ((s.length - r2.length : Nat) : Int)] 145, blk w2.heap.size [.int .i64 0] 54, blk w1.heap.size [.slice none 0 0] 31, blk w0.heap.size [.int .i64 0, .int .i64 0, .int .i64 0, .int .i64 0, .int .i64 0, .int .i64 0, .int .i64 0, .int .i64 0, .string (⟨#[]⟩)] 30] w7 := hst.nil_own
 refine wc_seq_region fun K8 hK8 => ?_
 refine wlm hfr rfl fun a hfr => ?_
 refine wlm hfr rfl fun a hfr => ?_
 refine wl_nil (hK8 _ _ ?_)
 refine wc_block ?_
 refine wc_loop (fun m a w => ∃ (k : Nat) (acc : List Pxy) (r : By) (lv : Value), m = n3.toNat - k ∧ ((k : Int) ≤ n3) ∧ (decodeH s = rdPxys (n3.toNat - k) acc r tailH) ∧ (r <:+ s) ∧ (acc.length = k) ∧ Fr 98 [(0, sv s), (2, .pointer (some ⟨w0.heap.size, 0, none⟩)), (3, .pointer (some ⟨w1.heap.size, 0, none⟩)), (4, .pointer (some ⟨w2.heap.size, 0, none⟩)), (5, .pointer (some ⟨w3.heap.size, 0, none⟩)), (23, .int .i64 n3), (24, .int .i64 (k : Int))] [{ target := .fn (.func 81) #[.pointer (some ⟨w0.heap.size, 0, none⟩), .pointer (some ⟨w1.heap.size, 0, none⟩), .pointer (some ⟨w2.heap.size, 0, none⟩)], args := #[] }] a ∧ St No w0 [blk w3.heap.size [sv s, .int .i64 ((s.length - r.length : Nat) : Int)] 145, blk w0.heap.size [.int .i64 0, .int .i64 0, .int .i64 0, .int .i64 0, .int .i64 0, .int .i64 0, .int .i64 0, .int .i64 0, .string (⟨#[]⟩)] 30, blk w1.heap.size [lv] 31, blk w2.heap.size [.int .i64 0] 54, own lv 40 7 ((acc).map Pxy.cells)] w) _ ⟨0, [], r2, .slice none 0 0, rfl, (by omega), hd9, hs5, rfl, hfr.pick [0, 2, 3, 4, 5, 23, 24], hst.select [1, 4, 3, 2, 0] (by decide)⟩ ?_
 rintro _ a w8 ⟨k, acc, r, lv, rfl, hk, hdl, hsl2, hal, hfr, hst⟩
 refine wc_seq_region fun K9 hK9 => ?_
 refine wlv hfr (v_lt rfl rfl) fun a hfr => ?_
 refine wl_nil (hK9 _ _ ?_)
 refine wc_seq_k fun K10 hK10 => ?_
 refine wc_cond hfr rfl (fun hc7 => ?_) (fun hc7 => ?_)
 ·rw [hc7] at hfr
  try simp only [qz] at hc7
  obtain ⟨mm, hm⟩ : ∃ m, n3.toNat - k = m + 1 := ⟨n3.toNat - k - 1, by omega⟩
  rw [hm] at hdl
  have hdk : decodeH s = kindI 2 r _ := hdl
  refine wc_skip ?_
  refine hK10 _ _ ?_
  refine wc_seq_k fun K11 hK11 => ?_
  refine wc_block ?_
  refine wc_seq_region fun K12 hK12 => ?_
  refine wl_alloc hfr hst (by decide) (Tryz.zeroValue40 _) (cs := [.int .i64 0, .int .i64 0, .int .i64 0, .int .i64 0, .int .i64 0, .int .i64 0, .string (⟨#[]⟩)]) rfl ?_
  clear hfr hst
  intro a w9 hfr hst
  refine wl_nil (hK12 _ _ ?_)
  refine wcx_seq_region fun K13 hK13 hP13 => ?_
  refine wx_split 1 ?_
  refine wlm hfr rfl fun a hfr => ?_
  refine wl_nil ?_
  rcases hq8 : kdI 2 r with _ | r9
  ·have hdn := hdk.trans (kindI_bad hq8)
   refine wx_panE (X := fun c => c = [{ v := .iface 142 (.agg #[]), recovered := false }]) 1 hfr hst rfl Tryz.call83 rfl (fun h => (kind_bad w3.heap.size s r  2 ((s.length - r.length : Nat) : Int) _ rfl hsl2 hsl hq8 h).mono fun e w ⟨c, h1, h2, h3⟩ => ⟨c, h1, _, h2, st_none h3⟩) ?_
   clear hst
   rintro _ w10 e9 rfl hst
   refine hP13 _ _ _ ?_
   replace hst : St No w0 [blk w0.heap.size [.int .i64 0, .int .i64 0, .int .i64 0, .int .i64 0, .int .i64 0, .int .i64 0, .int .i64 0, .int .i64 0, .string (⟨#[]⟩)] 30, blk w1.heap.size [lv] 31, blk w2.heap.size [.int .i64 0] 54] w10 := hst.select [2, 3, 4] (by decide)
   exact find_panic hfr Tryz.call81 (dec1_pan _ _ _ _ _ _ _ _ _ _ _ _ _ _ _ hst) Tryz.results28 (fun w9 hst => ⟨(resAre_cell rfl (res_all (hst.get (k := 0) rfl) (Tryz.isAgg30 _) (Tryz.sizeOf30 _)) (resAre_cell rfl (res_one (hst.get (k := 1) rfl) (Tryz.isAgg31 _)) (resAre_cell rfl (res_one (hst.get (k := 2) rfl) (Tryz.isAgg54 _)) resAre_nil))), .inr ⟨hdn, rfl, hst.ext⟩⟩)
  have hd10 := hdk.trans (kindI_ok hq8)
  have hs11 := (kdI_suf hq8).trans hsl2
  refine wx_split 1 ?_
  refine wl_callE (R := fun u e' => u = .tuple #[] ∧ e' = blk w3.heap.size [sv s, .int .i64 ((s.length - r9.length : Nat) : Int)] 145) 1 hfr hst rfl (by decide) Tryz.call83 rfl (fun h => (kind_ok w3.heap.size s r r9 2 ((s.length - r.length : Nat) : Int) _ rfl hsl2 hsl hq8 h).mono fun u w ⟨h1, h2⟩ => ⟨_, ⟨h1, rfl⟩, h2⟩) ?_
  clear hfr hst
  rintro a w11 _ _ ⟨rfl, rfl⟩ hfr hst
  replace hst : St No w0 [blk w8.heap.size [.int .i64 0, .int .i64 0, .int .i64 0, .int .i64 0, .int .i64 0, .int .i64 0, .string (⟨#[]⟩)] 40, blk w3.heap.size [sv s, .int .i64 ((s.length - r9.length : Nat) : Int)] 145, blk w0.heap.size [.int .i64 0, .int .i64 0, .int .i64 0, .int .i64 0, .int .i64 0, .int .i64 0, .int .i64 0, .int .i64 0, .string (⟨#[]⟩)] 30, blk w1.heap.size [lv] 31, blk w2.heap.size [.int .i64 0] 54, own lv 40 7 ((acc).map Pxy.cells)] w11 := hst
  refine wl_nil ?_
  refine wx_wl ?_
  refine wl_nil (hK13 _ _ ?_)
  refine wc_seq_k fun K14 hK14 => ?_
  refine wc_seq_region fun K15 hK15 => ?_
  refine wlv hfr (v_fieldAddr (v := .pointer (some ⟨w8.heap.size, 0, none⟩)) rfl (by kernel_rfl)) fun a hfr => ?_
  refine wlv hfr (v_fieldAddr (v := .pointer (some ⟨w8.heap.size, 1, none⟩)) rfl (by kernel_rfl)) fun a hfr => ?_
  refine wlv hfr (v_fieldAddr (v := .pointer (some ⟨w8.heap.size, 2, none⟩)) rfl (by kernel_rfl)) fun a hfr => ?_
  refine wlv hfr (v_fieldAddr (v := .pointer (some ⟨w8.heap.size, 2, none⟩)) rfl (by kernel_rfl)) fun a hfr => ?_
  refine wlv hfr (v_fieldAddr (v := .pointer (some ⟨w8.heap.size, 2, none⟩)) rfl (by kernel_rfl)) fun a hfr => ?_
  refine wlv hfr (v_fieldAddr (v := .pointer (some ⟨w8.heap.size, 3, none⟩)) rfl (by kernel_rfl)) fun a hfr => ?_
  refine wlv hfr (v_fieldAddr (v := .pointer (some ⟨w8.heap.size, 4, none⟩)) rfl (by kernel_rfl)) fun a hfr => ?_
  refine wlv hfr (v_fieldAddr (v := .pointer (some ⟨w8.heap.size, 4, none⟩)) rfl (by kernel_rfl)) fun a hfr => ?_
  refine wlv hfr (v_fieldAddr (v := .pointer (some ⟨w8.heap.size, 4, none⟩)) rfl (by kernel_rfl)) fun a hfr => ?_
  refine wlv hfr (v_fieldAddr (v := .pointer (some ⟨w8.heap.size, 5, none⟩)) rfl (by kernel_rfl)) fun a hfr => ?_
  refine wlv hfr (v_build (v := .agg #[.pointer (some ⟨w8.heap.size, 0, none⟩), .pointer (some ⟨w8.heap.size, 1, none⟩), .pointer (some ⟨w8.heap.size, 2, none⟩), .pointer (some ⟨w8.heap.size, 3, none⟩), .pointer (some ⟨w8.heap.size, 4, none⟩), .pointer (some ⟨w8.heap.size, 5, none⟩)]) rfl (by kernel_rfl)) fun a hfr => ?_
  refine wlm hfr rfl fun a hfr => ?_
  refine wl_nil (hK15 _ _ ?_)
  replace hfr : Fr 98 [(0, _), (2, _), (3, _), (4, _), (5, _), (23, _), (24, _), (7, _), (38, _), (39, _)] [{ target := .fn (.func 81) #[.pointer (some ⟨w0.heap.size, 0, none⟩), .pointer (some ⟨w1.heap.size, 0, none⟩), .pointer (some ⟨w2.heap.size, 0, none⟩)], args := #[] }] a := hfr.pick [0, 2, 3, 4, 5, 23, 24, 7, 38, 39]
  refine wc_block ?_
  refine wc_rounds 7 ?_
  refine wr_succ ?_
  refine wc_seq_region fun K16 hK16 => ?_
  refine wlv hfr ((v_lt rfl rfl).asb (b' := true) rfl) fun a hfr => ?_
  refine wl_nil (hK16 _ _ ?_)
  refine wc_seq_k fun K17 hK17 => ?_
  refine wc_cond_t hfr rfl ?_
  refine wc_skip ?_
  refine hK17 _ _ ?_
  refine wc_seq_k fun K18 hK18 => ?_
  refine wc_block ?_
  refine wc_seq_region fun K19 hK19 => ?_
  refine wlv hfr (v_index (v := .pointer (some ⟨w8.heap.size, 0, none⟩)) rfl rfl (by kernel_rfl)) fun a hfr => ?_
  refine wla hfr rfl fun a hfr => ?_
  refine wl_nil (hK19 _ _ ?_)
  refine wcx_region ?_
  refine wx_split 2 ?_
  refine wlm hfr rfl fun a hfr => ?_
  refine wlm hfr rfl fun a hfr => ?_
  refine wl_nil ?_
  rcases hq12 : rdI r9 with _ | ⟨n14, r13⟩
  ·have hdn := hd10.trans (getI_bad hq12)
   refine wx_panE (X := fun c => c = [{ v := .iface 142 (.agg #[]), recovered := false }]) 1 hfr hst rfl Tryz.call82 rfl (fun h => (number_bad w3.heap.size s r9  ((s.length - r9.length : Nat) : Int) _ rfl hs11 hsl hq12 h).mono fun e w ⟨c, h1, h2, h3⟩ => ⟨c, h1, _, h2, h3⟩) ?_
   clear hst
   rintro _ w12 e9 rfl hst
   replace hst : St No w0 [blk w0.heap.size [.int .i64 0, .int .i64 0, .int .i64 0, .int .i64 0, .int .i64 0, .int .i64 0, .int .i64 0, .int .i64 0, .string (⟨#[]⟩)] 30, blk w1.heap.size [lv] 31, blk w2.heap.size [.int .i64 0] 54] w12 := hst.select [2, 3, 4] (by decide)
   exact find_panic hfr Tryz.call81 (dec1_pan _ _ _ _ _ _ _ _ _ _ _ _ _ _ _ hst) Tryz.results28 (fun w9 hst => ⟨(resAre_cell rfl (res_all (hst.get (k := 0) rfl) (Tryz.isAgg30 _) (Tryz.sizeOf30 _)) (resAre_cell rfl (res_one (hst.get (k := 1) rfl) (Tryz.isAgg31 _)) (resAre_cell rfl (res_one (hst.get (k := 2) rfl) (Tryz.isAgg54 _)) resAre_nil))), .inr ⟨hdn, rfl, hst.ext⟩⟩)
  have hd15 := hd10.trans (getI_ok hq12)
  have hs16 := (rdI_suf hq12).trans hs11
  refine wx_split 1 ?_
  refine wl_callE (R := fun u e' => u = .int .i64 n14 ∧ e' = blk w3.heap.size [sv s, .int .i64 ((s.length - r13.length : Nat) : Int)] 145) 1 hfr hst rfl (by decide) Tryz.call82 rfl (fun h => (number_ok w3.heap.size s r9 r13 n14 ((s.length - r9.length : Nat) : Int) _ rfl hs11 hsl hq12 h).mono fun u w ⟨h1, h2⟩ => ⟨_, ⟨h1, rfl⟩, h2⟩) ?_
  clear hfr hst
  rintro a w13 _ _ ⟨rfl, rfl⟩ hfr hst
  replace hst : St No w0 [blk w8.heap.size [.int .i64 0, .int .i64 0, .int .i64 0, .int .i64 0, .int .i64 0, .int .i64 0, .string (⟨#[]⟩)] 40, blk w3.heap.size [sv s, .int .i64 ((s.length - r13.length : Nat) : Int)] 145, blk w0.heap.size [.int .i64 0, .int .i64 0, .int .i64 0, .int .i64 0, .int .i64 0, .int .i64 0, .int .i64 0, .int .i64 0, .string (⟨#[]⟩)] 30, blk w1.heap.size [lv] 31, blk w2.heap.size [.int .i64 0] 54, own lv 40 7 ((acc).map Pxy.cells)] w13 := hst
  refine wl_nil ?_
  refine wx_wl ?_
  refine wlv hfr (v_nilCheck rfl) fun a hfr => ?_
  refine wl_store 0 hfr hst rfl rfl rfl (Tryz.sizeOf3 _) rfl (Nat.le_of_ble_eq_true rfl) (ds := [.int .i64 n14, .int .i64 0, .int .i64 0, .int .i64 0, .int .i64 0, .int .i64 0, .string (⟨#[]⟩)]) rfl rfl ?_
  clear hfr hst
  intro a w14 hfr hst
  refine wl_nil ?_
  refine hK18 _ _ ?_
  replace hfr : Fr 98 [(0, _), (2, _), (3, _), (4, _), (5, _), (23, _), (24, _), (7, _), (38, _), (39, _)] [{ target := .fn (.func 81) #[.pointer (some ⟨w0.heap.size, 0, none⟩), .pointer (some ⟨w1.heap.size, 0, none⟩), .pointer (some ⟨w2.heap.size, 0, none⟩)], args := #[] }] a := hfr.pick [0, 2, 3, 4, 5, 23, 24, 7, 38, 39]
  refine wc_region ?_
  refine wlv hfr ((v_add rfl rfl (by decide)).asi (m' := 1) rfl) fun a hfr => ?_
  refine wlm hfr rfl fun a hfr => ?_
  refine wl_nil ?_
  refine wr_succ ?_
  refine wc_seq_region fun K20 hK20 => ?_
  refine wlv hfr ((v_lt rfl rfl).asb (b' := true) rfl) fun a hfr => ?_
  refine wl_nil (hK20 _ _ ?_)
  refine wc_seq_k fun K21 hK21 => ?_
  refine wc_cond_t hfr rfl ?_
  refine wc_skip ?_
  refine hK21 _ _ ?_
  refine wc_seq_k fun K22 hK22 => ?_
  refine wc_block ?_
  refine wc_seq_region fun K23 hK23 => ?_
  refine wlv hfr (v_index (v := .pointer (some ⟨w8.heap.size, 1, none⟩)) rfl rfl (by kernel_rfl)) fun a hfr => ?_
  refine wla hfr rfl fun a hfr => ?_
  refine wl_nil (hK23 _ _ ?_)
  refine wcx_region ?_
  refine wx_split 2 ?_
  refine wlm hfr rfl fun a hfr => ?_
  refine wlm hfr rfl fun a hfr => ?_
  refine wl_nil ?_
  rcases hq17 : rdI r13 with _ | ⟨n19, r18⟩
  ·have hdn := hd15.trans (getI_bad hq17)
   refine wx_panE (X := fun c => c = [{ v := .iface 142 (.agg #[]), recovered := false }]) 1 hfr hst rfl Tryz.call82 rfl (fun h => (number_bad w3.heap.size s r13  ((s.length - r13.length : Nat) : Int) _ rfl hs16 hsl hq17 h).mono fun e w ⟨c, h1, h2, h3⟩ => ⟨c, h1, _, h2, h3⟩) ?_
   clear hst
   rintro _ w15 e9 rfl hst
   replace hst : St No w0 [blk w0.heap.size [.int .i64 0, .int .i64 0, .int .i64 0, .int .i64 0, .int .i64 0, .int .i64 0, .int .i64 0, .int .i64 0, .string (⟨#[]⟩)] 30, blk w1.heap.size [lv] 31, blk w2.heap.size [.int .i64 0] 54] w15 := hst.select [2, 3, 4] (by decide)
   exact find_panic hfr Tryz.call81 (dec1_pan _ _ _ _ _ _ _ _ _ _ _ _ _ _ _ hst) Tryz.results28 (fun w9 hst => ⟨(resAre_cell rfl (res_all (hst.get (k := 0) rfl) (Tryz.isAgg30 _) (Tryz.sizeOf30 _)) (resAre_cell rfl (res_one (hst.get (k := 1) rfl) (Tryz.isAgg31 _)) (resAre_cell rfl (res_one (hst.get (k := 2) rfl) (Tryz.isAgg54 _)) resAre_nil))), .inr ⟨hdn, rfl, hst.ext⟩⟩)
  have hd20 := hd15.trans (getI_ok hq17)
  have hs21 := (rdI_suf hq17).trans hs16
  refine wx_split 1 ?_
  refine wl_callE (R := fun u e' => u = .int .i64 n19 ∧ e' = blk w3.heap.size [sv s, .int .i64 ((s.length - r18.length : Nat) : Int)] 145) 1 hfr hst rfl (by decide) Tryz.call82 rfl (fun h => (number_ok w3.heap.size s r13 r18 n19 ((s.length - r13.length : Nat) : Int) _ rfl hs16 hsl hq17 h).mono fun u w ⟨h1, h2⟩ => ⟨_, ⟨h1, rfl⟩, h2⟩) ?_
  clear hfr hst
  rintro a w16 _ _ ⟨rfl, rfl⟩ hfr hst
  replace hst : St No w0 [blk w8.heap.size [.int .i64 n14, .int .i64 0, .int .i64 0, .int .i64 0, .int .i64 0, .int .i64 0, .string (⟨#[]⟩)] 40, blk w3.heap.size [sv s, .int .i64 ((s.length - r18.length : Nat) : Int)] 145, blk w0.heap.size [.int .i64 0, .int .i64 0, .int .i64 0, .int .i64 0, .int .i64 0, .int .i64 0, .int .i64 0, .int .i64 0, .string (⟨#[]⟩)] 30, blk w1.heap.size [lv] 31, blk w2.heap.size [.int .i64 0] 54, own lv 40 7 ((acc).map Pxy.cells)] w16 := hst
  refine wl_nil ?_
  refine wx_wl ?_
  refine wlv hfr (v_nilCheck rfl) fun a hfr => ?_
  refine wl_store 0 hfr hst rfl rfl rfl (Tryz.sizeOf3 _) rfl (Nat.le_of_ble_eq_true rfl) (ds := [.int .i64 n14, .int .i64 n19, .int .i64 0, .int .i64 0, .int .i64 0, .int .i64 0, .string (⟨#[]⟩)]) rfl rfl ?_
  clear hfr hst
  intro a w17 hfr hst
  refine wl_nil ?_
  refine hK22 _ _ ?_
  replace hfr : Fr 98 [(0, _), (2, _), (3, _), (4, _), (5, _), (23, _), (24, _), (7, _), (38, _), (39, _)] [{ target := .fn (.func 81) #[.pointer (some ⟨w0.heap.size, 0, none⟩), .pointer (some ⟨w1.heap.size, 0, none⟩), .pointer (some ⟨w2.heap.size, 0, none⟩)], args := #[] }] a := hfr.pick [0, 2, 3, 4, 5, 23, 24, 7, 38, 39]
  refine wc_region ?_
  refine wlv hfr ((v_add rfl rfl (by decide)).asi (m' := 2) rfl) fun a hfr => ?_
  refine wlm hfr rfl fun a hfr => ?_
  refine wl_nil ?_
  refine wr_succ ?_
  refine wc_seq_region fun K24 hK24 => ?_
  refine wlv hfr ((v_lt rfl rfl).asb (b' := true) rfl) fun a hfr => ?_
  refine wl_nil (hK24 _ _ ?_)
  refine wc_seq_k fun K25 hK25 => ?_
  refine wc_cond_t hfr rfl ?_
  refine wc_skip ?_
  refine hK25 _ _ ?_
  refine wc_seq_k fun K26 hK26 => ?_
  refine wc_block ?_
  refine wc_seq_region fun K27 hK27 => ?_
  refine wlv hfr (v_index (v := .pointer (some ⟨w8.heap.size, 2, none⟩)) rfl rfl (by kernel_rfl)) fun a hfr => ?_
  refine wla hfr rfl fun a hfr => ?_
  refine wl_nil (hK27 _ _ ?_)
  refine wcx_region ?_
  refine wx_split 2 ?_
  refine wlm hfr rfl fun a hfr => ?_
  refine wlm hfr rfl fun a hfr => ?_
  refine wl_nil ?_
  rcases hq22 : rdI r18 with _ | ⟨n24, r23⟩
  ·have hdn := hd20.trans (getI_bad hq22)
   refine wx_panE (X := fun c => c = [{ v := .iface 142 (.agg #[]), recovered := false }]) 1 hfr hst rfl Tryz.call82 rfl (fun h => (number_bad w3.heap.size s r18  ((s.length - r18.length : Nat) : Int) _ rfl hs21 hsl hq22 h).mono fun e w ⟨c, h1, h2, h3⟩ => ⟨c, h1, _, h2, h3⟩) ?_
   clear hst
   rintro _ w18 e9 rfl hst
   replace hst : St No w0 [blk w0.heap.size [.int .i64 0, .int .i64 0, .int .i64 0, .int .i64 0, .int .i64 0, .int .i64 0, .int .i64 0, .int .i64 0, .string (⟨#[]⟩)] 30, blk w1.heap.size [lv] 31, blk w2.heap.size [.int .i64 0] 54] w18 := hst.select [2, 3, 4] (by decide)
   exact find_panic hfr Tryz.call81 (dec1_pan _ _ _ _ _ _ _ _ _ _ _ _ _ _ _ hst) Tryz.results28 (fun w9 hst => ⟨(resAre_cell rfl (res_all (hst.get (k := 0) rfl) (Tryz.isAgg30 _) (Tryz.sizeOf30 _)) (resAre_cell rfl (res_one (hst.get (k := 1) rfl) (Tryz.isAgg31 _)) (resAre_cell rfl (res_one (hst.get (k := 2) rfl) (Tryz.isAgg54 _)) resAre_nil))), .inr ⟨hdn, rfl, hst.ext⟩⟩)
  have hd25 := hd20.trans (getI_ok hq22)
  have hs26 := (rdI_suf hq22).trans hs21
  refine wx_split 1 ?_
  refine wl_callE (R := fun u e' => u = .int .i64 n24 ∧ e' = blk w3.heap.size [sv s, .int .i64 ((s.length - r23.length : Nat) : Int)] 145) 1 hfr hst rfl (by decide) Tryz.call82 rfl (fun h => (number_ok w3.heap.size s r18 r23 n24 ((s.length - r18.length : Nat) : Int) _ rfl hs21 hsl hq22 h).mono fun u w ⟨h1, h2⟩ => ⟨_, ⟨h1, rfl⟩, h2⟩) ?_
  clear hfr hst
  rintro a w19 _ _ ⟨rfl, rfl⟩ hfr hst
  replace hst : St No w0 [blk w8.heap.size [.int .i64 n14, .int .i64 n19, .int .i64 0, .int .i64 0, .int .i64 0, .int .i64 0, .string (⟨#[]⟩)] 40, blk w3.heap.size [sv s, .int .i64 ((s.length - r23.length : Nat) : Int)] 145, blk w0.heap.size [.int .i64 0, .int .i64 0, .int .i64 0, .int .i64 0, .int .i64 0, .int .i64 0, .int .i64 0, .int .i64 0, .string (⟨#[]⟩)] 30, blk w1.heap.size [lv] 31, blk w2.heap.size [.int .i64 0] 54, own lv 40 7 ((acc).map Pxy.cells)] w19 := hst
  refine wl_nil ?_
  refine wx_wl ?_
  refine wlv hfr (v_nilCheck rfl) fun a hfr => ?_
  refine wl_store 0 hfr hst rfl rfl rfl (Tryz.sizeOf3 _) rfl (Nat.le_of_ble_eq_true rfl) (ds := [.int .i64 n14, .int .i64 n19, .int .i64 n24, .int .i64 0, .int .i64 0, .int .i64 0, .string (⟨#[]⟩)]) rfl rfl ?_
  clear hfr hst
  intro a w20 hfr hst
  refine wl_nil ?_
  refine hK26 _ _ ?_
  replace hfr : Fr 98 [(0, _), (2, _), (3, _), (4, _), (5, _), (23, _), (24, _), (7, _), (38, _), (39, _)] [{ target := .fn (.func 81) #[.pointer (some ⟨w0.heap.size, 0, none⟩), .pointer (some ⟨w1.heap.size, 0, none⟩), .pointer (some ⟨w2.heap.size, 0, none⟩)], args := #[] }] a := hfr.pick [0, 2, 3, 4, 5, 23, 24, 7, 38, 39]
  refine wc_region ?_
  refine wlv hfr ((v_add rfl rfl (by decide)).asi (m' := 3) rfl) fun a hfr => ?_
  refine wlm hfr rfl fun a hfr => ?_
  refine wl_nil ?_
  refine wr_succ ?_
  refine wc_seq_region fun K28 hK28 => ?_
  refine wlv hfr ((v_lt rfl rfl).asb (b' := true) rfl) fun a hfr => ?_
  refine wl_nil (hK28 _ _ ?_)
  refine wc_seq_k fun K29 hK29 => ?_
  refine wc_cond_t hfr rfl ?_
  refine wc_skip ?_
  refine hK29 _ _ ?_
  refine wc_seq_k fun K30 hK30 => ?_
  refine wc_block ?_
  refine wc_seq_region fun K31 hK31 => ?_
  refine wlv hfr (v_index (v := .pointer (some ⟨w8.heap.size, 3, none⟩)) rfl rfl (by kernel_rfl)) fun a hfr => ?_
  refine wla hfr rfl fun a hfr => ?_
  refine wl_nil (hK31 _ _ ?_)
  refine wcx_region ?_
  refine wx_split 2 ?_
  refine wlm hfr rfl fun a hfr => ?_
  refine wlm hfr rfl fun a hfr => ?_
  refine wl_nil ?_
  rcases hq27 : rdI r23 with _ | ⟨n29, r28⟩
  ·have hdn := hd25.trans (getI_bad hq27)
   refine wx_panE (X := fun c => c = [{ v := .iface 142 (.agg #[]), recovered := false }]) 1 hfr hst rfl Tryz.call82 rfl (fun h => (number_bad w3.heap.size s r23  ((s.length - r23.length : Nat) : Int) _ rfl hs26 hsl hq27 h).mono fun e w ⟨c, h1, h2, h3⟩ => ⟨c, h1, _, h2, h3⟩) ?_
   clear hst
   rintro _ w21 e9 rfl hst
   replace hst : St No w0 [blk w0.heap.size [.int .i64 0, .int .i64 0, .int .i64 0, .int .i64 0, .int .i64 0, .int .i64 0, .int .i64 0, .int .i64 0, .string (⟨#[]⟩)] 30, blk w1.heap.size [lv] 31, blk w2.heap.size [.int .i64 0] 54] w21 := hst.select [2, 3, 4] (by decide)
   exact find_panic hfr Tryz.call81 (dec1_pan _ _ _ _ _ _ _ _ _ _ _ _ _ _ _ hst) Tryz.results28 (fun w9 hst => ⟨(resAre_cell rfl (res_all (hst.get (k := 0) rfl) (Tryz.isAgg30 _) (Tryz.sizeOf30 _)) (resAre_cell rfl (res_one (hst.get (k := 1) rfl) (Tryz.isAgg31 _)) (resAre_cell rfl (res_one (hst.get (k := 2) rfl) (Tryz.isAgg54 _)) resAre_nil))), .inr ⟨hdn, rfl, hst.ext⟩⟩)
  have hd30 := hd25.trans (getI_ok hq27)
  have hs31 := (rdI_suf hq27).trans hs26
  refine wx_split 1 ?_
  refine wl_callE (R := fun u e' => u = .int .i64 n29 ∧ e' = blk w3.heap.size [sv s, .int .i64 ((s.length - r28.length : Nat) : Int)] 145) 1 hfr hst rfl (by decide) Tryz.call82 rfl (fun h => (number_ok w3.heap.size s r23 r28 n29 ((s.length - r23.length : Nat) : Int) _ rfl hs26 hsl hq27 h).mono fun u w ⟨h1, h2⟩ => ⟨_, ⟨h1, rfl⟩, h2⟩) ?_
  clear hfr hst
  rintro a w22 _ _ ⟨rfl, rfl⟩ hfr hst
  replace hst : St No w0 [blk w8.heap.size [.int .i64 n14, .int .i64 n19, .int .i64 n24, .int .i64 0, .int .i64 0, .int .i64 0, .string (⟨#[]⟩)] 40, blk w3.heap.size [sv s, .int .i64 ((s.length - r28.length : Nat) : Int)] 145, blk w0.heap.size [.int .i64 0, .int .i64 0, .int .i64 0, .int .i64 0, .int .i64 0, .int .i64 0, .int .i64 0, .int .i64 0, .string (⟨#[]⟩)] 30, blk w1.heap.size [lv] 31, blk w2.heap.size [.int .i64 0] 54, own lv 40 7 ((acc).map Pxy.cells)] w22 := hst
  refine wl_nil ?_
  refine wx_wl ?_
  refine wlv hfr (v_nilCheck rfl) fun a hfr => ?_
  refine wl_store 0 hfr hst rfl rfl rfl (Tryz.sizeOf3 _) rfl (Nat.le_of_ble_eq_true rfl) (ds := [.int .i64 n14, .int .i64 n19, .int .i64 n24, .int .i64 n29, .int .i64 0, .int .i64 0, .string (⟨#[]⟩)]) rfl rfl ?_
  clear hfr hst
  intro a w23 hfr hst
  refine wl_nil ?_
  refine hK30 _ _ ?_
  replace hfr : Fr 98 [(0, _), (2, _), (3, _), (4, _), (5, _), (23, _), (24, _), (7, _), (38, _), (39, _)] [{ target := .fn (.func 81) #[.pointer (some ⟨w0.heap.size, 0, none⟩), .pointer (some ⟨w1.heap.size, 0, none⟩), .pointer (some ⟨w2.heap.size, 0, none⟩)], args := #[] }] a := hfr.pick [0, 2, 3, 4, 5, 23, 24, 7, 38, 39]
  refine wc_region ?_
  refine wlv hfr ((v_add rfl rfl (by decide)).asi (m' := 4) rfl) fun a hfr => ?_
  refine wlm hfr rfl fun a hfr => ?_
  refine wl_nil ?_
  refine wr_succ ?_
  refine wc_seq_region fun K32 hK32 => ?_
  refine wlv hfr ((v_lt rfl rfl).asb (b' := true) rfl) fun a hfr => ?_
  refine wl_nil (hK32 _ _ ?_)
  refine wc_seq_k fun K33 hK33 => ?_
  refine wc_cond_t hfr rfl ?_
  refine wc_skip ?_
  refine hK33 _ _ ?_
  refine wc_seq_k fun K34 hK34 => ?_
  refine wc_block ?_
  refine wc_seq_region fun K35 hK35 => ?_
  refine wlv hfr (v_index (v := .pointer (some ⟨w8.heap.size, 4, none⟩)) rfl rfl (by kernel_rfl)) fun a hfr => ?_
  refine wla hfr rfl fun a hfr => ?_
  refine wl_nil (hK35 _ _ ?_)
  refine wcx_region ?_
  refine wx_split 2 ?_
  refine wlm hfr rfl fun a hfr => ?_
  refine wlm hfr rfl fun a hfr => ?_
  refine wl_nil ?_
  rcases hq32 : rdI r28 with _ | ⟨n34, r33⟩
  ·have hdn := hd30.trans (getI_bad hq32)
   refine wx_panE (X := fun c => c = [{ v := .iface 142 (.agg #[]), recovered := false }]) 1 hfr hst rfl Tryz.call82 rfl (fun h => (number_bad w3.heap.size s r28  ((s.length - r28.length : Nat) : Int) _ rfl hs31 hsl hq32 h).mono fun e w ⟨c, h1, h2, h3⟩ => ⟨c, h1, _, h2, h3⟩) ?_
   clear hst
   rintro _ w24 e9 rfl hst
   replace hst : St No w0 [blk w0.heap.size [.int .i64 0, .int .i64 0, .int .i64 0, .int .i64 0, .int .i64 0, .int .i64 0, .int .i64 0, .int .i64 0, .string (⟨#[]⟩)] 30, blk w1.heap.size [lv] 31, blk w2.heap.size [.int .i64 0] 54] w24 := hst.select [2, 3, 4] (by decide)
   exact find_panic hfr Tryz.call81 (dec1_pan _ _ _ _ _ _ _ _ _ _ _ _ _ _ _ hst) Tryz.results28 (fun w9 hst => ⟨(resAre_cell rfl (res_all (hst.get (k := 0) rfl) (Tryz.isAgg30 _) (Tryz.sizeOf30 _)) (resAre_cell rfl (res_one (hst.get (k := 1) rfl) (Tryz.isAgg31 _)) (resAre_cell rfl (res_one (hst.get (k := 2) rfl) (Tryz.isAgg54 _)) resAre_nil))), .inr ⟨hdn, rfl, hst.ext⟩⟩)
  have hd35 := hd30.trans (getI_ok hq32)
  have hs36 := (rdI_suf hq32).trans hs31
  refine wx_split 1 ?_
  refine wl_callE (R := fun u e' => u = .int .i64 n34 ∧ e' = blk w3.heap.size [sv s, .int .i64 ((s.length - r33.length : Nat) : Int)] 145) 1 hfr hst rfl (by decide) Tryz.call82 rfl (fun h => (number_ok w3.heap.size s r28 r33 n34 ((s.length - r28.length : Nat) : Int) _ rfl hs31 hsl hq32 h).mono fun u w ⟨h1, h2⟩ => ⟨_, ⟨h1, rfl⟩, h2⟩) ?_
  clear hfr hst
  rintro a w25 _ _ ⟨rfl, rfl⟩ hfr hst
  replace hst : St No w0 [blk w8.heap.size [.int .i64 n14, .int .i64 n19, .int .i64 n24, .int .i64 n29, .int .i64 0, .int .i64 0, .string (⟨#[]⟩)] 40, blk w3.heap.size [sv s, .int .i64 ((s.length - r33.length : Nat) : Int)] 145, blk w0.heap.size [.int .i64 0, .int .i64 0, .int .i64 0, .int .i64 0, .int .i64 0, .int .i64 0, .int .i64 0, .int .i64 0, .string (⟨#[]⟩)] 30, blk w1.heap.size [lv] 31, blk w2.heap.size [.int .i64 0] 54, own lv 40 7 ((acc).map Pxy.cells)] w25 := hst
  refine wl_nil ?_
  refine wx_wl ?_
  refine wlv hfr (v_nilCheck rfl) fun a hfr => ?_
  refine wl_store 0 hfr hst rfl rfl rfl (Tryz.sizeOf3 _) rfl (Nat.le_of_ble_eq_true rfl) (ds := [.int .i64 n14, .int .i64 n19, .int .i64 n24, .int .i64 n29, .int .i64 n34, .int .i64 0, .string (⟨#[]⟩)]) rfl rfl ?_
  clear hfr hst
  intro a w26 hfr hst
  refine wl_nil ?_
  refine hK34 _ _ ?_
  replace hfr : Fr 98 [(0, _), (2, _), (3, _), (4, _), (5, _), (23, _), (24, _), (7, _), (38, _), (39, _)] [{ target := .fn (.func 81) #[.pointer (some ⟨w0.heap.size, 0, none⟩), .pointer (some ⟨w1.heap.size, 0, none⟩), .pointer (some ⟨w2.heap.size, 0, none⟩)], args := #[] }] a := hfr.pick [0, 2, 3, 4, 5, 23, 24, 7, 38, 39]
  refine wc_region ?_
  refine wlv hfr ((v_add rfl rfl (by decide)).asi (m' := 5) rfl) fun a hfr => ?_
  refine wlm hfr rfl fun a hfr => ?_
  refine wl_nil ?_
  refine wr_succ ?_
  refine wc_seq_region fun K36 hK36 => ?_
  refine wlv hfr ((v_lt rfl rfl).asb (b' := true) rfl) fun a hfr => ?_
  refine wl_nil (hK36 _ _ ?_)
  refine wc_seq_k fun K37 hK37 => ?_
  refine wc_cond_t hfr rfl ?_
  refine wc_skip ?_
  refine hK37 _ _ ?_
  refine wc_seq_k fun K38 hK38 => ?_
  refine wc_block ?_
  refine wc_seq_region fun K39 hK39 => ?_
  refine wlv hfr (v_index (v := .pointer (some ⟨w8.heap.size, 5, none⟩)) rfl rfl (by kernel_rfl)) fun a hfr => ?_
  refine wla hfr rfl fun a hfr => ?_
  refine wl_nil (hK39 _ _ ?_)
  refine wcx_region ?_
  refine wx_split 2 ?_
  refine wlm hfr rfl fun a hfr => ?_
  refine wlm hfr rfl fun a hfr => ?_
  refine wl_nil ?_
  rcases hq37 : rdI r33 with _ | ⟨n39, r38⟩
  ·have hdn := hd35.trans (getI_bad hq37)
   refine wx_panE (X := fun c => c = [{ v := .iface 142 (.agg #[]), recovered := false }]) 1 hfr hst rfl Tryz.call82 rfl (fun h => (number_bad w3.heap.size s r33  ((s.length - r33.length : Nat) : Int) _ rfl hs36 hsl hq37 h).mono fun e w ⟨c, h1, h2, h3⟩ => ⟨c, h1, _, h2, h3⟩) ?_
   clear hst
   rintro _ w27 e9 rfl hst
   replace hst : St No w0 [blk w0.heap.size [.int .i64 0, .int .i64 0, .int .i64 0, .int .i64 0, .int .i64 0, .int .i64 0, .int .i64 0, .int .i64 0, .string (⟨#[]⟩)] 30, blk w1.heap.size [lv] 31, blk w2.heap.size [.int .i64 0] 54] w27 := hst.select [2, 3, 4] (by decide)
   exact find_panic hfr Tryz.call81 (dec1_pan _ _ _ _ _ _ _ _ _ _ _ _ _ _ _ hst) Tryz.results28 (fun w9 hst => ⟨(resAre_cell rfl (res_all (hst.get (k := 0) rfl) (Tryz.isAgg30 _) (Tryz.sizeOf30 _)) (resAre_cell rfl (res_one (hst.get (k := 1) rfl) (Tryz.isAgg31 _)) (resAre_cell rfl (res_one (hst.get (k := 2) rfl) (Tryz.isAgg54 _)) resAre_nil))), .inr ⟨hdn, rfl, hst.ext⟩⟩)
  have hd40 := hd35.trans (getI_ok hq37)
  have hs41 := (rdI_suf hq37).trans hs36
  refine wx_split 1 ?_
  refine wl_callE (R := fun u e' => u = .int .i64 n39 ∧ e' = blk w3.heap.size [sv s, .int .i64 ((s.length - r38.length : Nat) : Int)] 145) 1 hfr hst rfl (by decide) Tryz.call82 rfl (fun h => (number_ok w3.heap.size s r33 r38 n39 ((s.length - r33.length : Nat) : Int) _ rfl hs36 hsl hq37 h).mono fun u w ⟨h1, h2⟩ => ⟨_, ⟨h1, rfl⟩, h2⟩) ?_
  clear hfr hst
  rintro a w28 _ _ ⟨rfl, rfl⟩ hfr hst
  replace hst : St No w0 [blk w8.heap.size [.int .i64 n14, .int .i64 n19, .int .i64 n24, .int .i64 n29, .int .i64 n34, .int .i64 0, .string (⟨#[]⟩)] 40, blk w3.heap.size [sv s, .int .i64 ((s.length - r38.length : Nat) : Int)] 145, blk w0.heap.size [.int .i64 0, .int .i64 0, .int .i64 0, .int .i64 0, .int .i64 0, .int .i64 0, .int .i64 0, .int .i64 0, .string (⟨#[]⟩)] 30, blk w1.heap.size [lv] 31, blk w2.heap.size [.int .i64 0] 54, own lv 40 7 ((acc).map Pxy.cells)] w28 := hst
  refine wl_nil ?_
  refine wx_wl ?_
  refine wlv hfr (v_nilCheck rfl) fun a hfr => ?_
  refine wl_store 0 hfr hst rfl rfl rfl (Tryz.sizeOf3 _) rfl (Nat.le_of_ble_eq_true rfl) (ds := [.int .i64 n14, .int .i64 n19, .int .i64 n24, .int .i64 n29, .int .i64 n34, .int .i64 n39, .string (⟨#[]⟩)]) rfl rfl ?_
  clear hfr hst
  intro a w29 hfr hst
  refine wl_nil ?_
  refine hK38 _ _ ?_
  replace hfr : Fr 98 [(0, _), (2, _), (3, _), (4, _), (5, _), (23, _), (24, _), (7, _), (38, _), (39, _)] [{ target := .fn (.func 81) #[.pointer (some ⟨w0.heap.size, 0, none⟩), .pointer (some ⟨w1.heap.size, 0, none⟩), .pointer (some ⟨w2.heap.size, 0, none⟩)], args := #[] }] a := hfr.pick [0, 2, 3, 4, 5, 23, 24, 7, 38, 39]
  refine wc_region ?_
  refine wlv hfr ((v_add rfl rfl (by decide)).asi (m' := 6) rfl) fun a hfr => ?_
  refine wlm hfr rfl fun a hfr => ?_
  refine wl_nil ?_
  refine wr_succ ?_
  refine wc_seq_region fun K40 hK40 => ?_
  refine wlv hfr ((v_lt rfl rfl).asb (b' := false) rfl) fun a hfr => ?_
  refine wl_nil (hK40 _ _ ?_)
  refine wc_seq_k fun K41 hK41 => ?_
  refine wc_cond_f hfr rfl ?_
  refine wc_exit ?_
  refine hK14 _ _ ?_
  refine wcx_seq_region fun K42 hK42 hP42 => ?_
  refine wx_split 1 ?_
  refine wlm hfr rfl fun a hfr => ?_
  refine wl_nil ?_
  rcases hq42 : dgI r38 with _ | ⟨n44, r43⟩
  ·have hdn := hd40.trans (getD32_bad hq42)
   refine wx_panE (X := fun c => c = [{ v := .iface 142 (.agg #[]), recovered := false }]) 1 hfr hst rfl Tryz.call84 rfl (fun h => (dgr_bad w3.heap.size s r38  ((s.length - r38.length : Nat) : Int) _ rfl hs41 hsl hq42 h).mono fun e w ⟨c, h1, h2, h3⟩ => ⟨c, h1, _, h2, h3⟩) ?_
   clear hst
   rintro _ w30 e9 rfl hst
   refine hP42 _ _ _ ?_
   replace hst : St No w0 [blk w0.heap.size [.int .i64 0, .int .i64 0, .int .i64 0, .int .i64 0, .int .i64 0, .int .i64 0, .int .i64 0, .int .i64 0, .string (⟨#[]⟩)] 30, blk w1.heap.size [lv] 31, blk w2.heap.size [.int .i64 0] 54] w30 := hst.select [2, 3, 4] (by decide)
   exact find_panic hfr Tryz.call81 (dec1_pan _ _ _ _ _ _ _ _ _ _ _ _ _ _ _ hst) Tryz.results28 (fun w9 hst => ⟨(resAre_cell rfl (res_all (hst.get (k := 0) rfl) (Tryz.isAgg30 _) (Tryz.sizeOf30 _)) (resAre_cell rfl (res_one (hst.get (k := 1) rfl) (Tryz.isAgg31 _)) (resAre_cell rfl (res_one (hst.get (k := 2) rfl) (Tryz.isAgg54 _)) resAre_nil))), .inr ⟨hdn, rfl, hst.ext⟩⟩)
  have hd45 := hd40.trans (getD32_ok hq42)
  have hs46 := (dgI_suf hq42).trans hs41
  refine wx_split 1 ?_
  refine wl_callE (R := fun u e' => u = sv n44 ∧ e' = blk w3.heap.size [sv s, .int .i64 ((s.length - r43.length : Nat) : Int)] 145) 1 hfr hst rfl (by decide) Tryz.call84 rfl (fun h => (dgr_ok w3.heap.size s r38 r43 n44 ((s.length - r38.length : Nat) : Int) _ rfl hs41 hsl hq42 h).mono fun u w ⟨h1, h2⟩ => ⟨_, ⟨h1, rfl⟩, h2⟩) ?_
  clear hfr hst
  rintro a w31 _ _ ⟨rfl, rfl⟩ hfr hst
  replace hst : St No w0 [blk w8.heap.size [.int .i64 n14, .int .i64 n19, .int .i64 n24, .int .i64 n29, .int .i64 n34, .int .i64 n39, .string (⟨#[]⟩)] 40, blk w3.heap.size [sv s, .int .i64 ((s.length - r43.length : Nat) : Int)] 145, blk w0.heap.size [.int .i64 0, .int .i64 0, .int .i64 0, .int .i64 0, .int .i64 0, .int .i64 0, .int .i64 0, .int .i64 0, .string (⟨#[]⟩)] 30, blk w1.heap.size [lv] 31, blk w2.heap.size [.int .i64 0] 54, own lv 40 7 ((acc).map Pxy.cells)] w31 := hst
  refine wl_nil ?_
  refine wx_wl ?_
  refine wlv hfr (v_fieldAddr (v := .pointer (some ⟨w8.heap.size, 6, none⟩)) rfl (by kernel_rfl)) fun a hfr => ?_
  refine wl_store 0 hfr hst rfl rfl rfl (Tryz.sizeOf9 _) rfl (Nat.le_of_ble_eq_true rfl) (ds := [.int .i64 n14, .int .i64 n19, .int .i64 n24, .int .i64 n29, .int .i64 n34, .int .i64 n39, sv n44]) rfl rfl ?_
  clear hfr hst
  intro a w32 hfr hst
  refine wl_nil (hK42 _ _ ?_)
  replace hfr : Fr 98 [(0, _), (2, _), (3, _), (4, _), (5, _), (23, _), (24, _), (7, _)] [{ target := .fn (.func 81) #[.pointer (some ⟨w0.heap.size, 0, none⟩), .pointer (some ⟨w1.heap.size, 0, none⟩), .pointer (some ⟨w2.heap.size, 0, none⟩)], args := #[] }] a := hfr.pick [0, 2, 3, 4, 5, 23, 24, 7]
  refine wc_region ?_
  refine wlv hfr (v_load_blk1 (hst.get (k := 3) rfl) rfl (Tryz.isAgg31 _) rfl) fun a hfr => ?_
  refine wlv hfr (v_load_all (hst.get (k := 0) rfl) rfl (Tryz.isAgg40 _) (Tryz.sizeOf40 _)) fun a hfr => ?_
  refine wl_buildSlice (E := 40) (sz := 7) rfl [[.int .i64 n14, .int .i64 n19, .int .i64 n24, .int .i64 n29, .int .i64 n34, .int .i64 n39, sv n44]] (by kernel_rfl) (by simp) rfl (by decide) (by decide) hfr hst ?_
  clear hfr hst
  intro a w33 hfr hst
  refine wl_append (i := 6) (sT := 31) (inf := Tryz.t40) (z := .agg #[.int .i64 0, .int .i64 0, .int .i64 0, .int .i64 0, .int .i64 0, .int .i64 0, .string (⟨#[]⟩)]) (b := 0) (off := 0) (m := 0) (c := 0) rfl rfl rfl (hst.ownAt (i := 0) rfl) (by simp) Tryz.underlying31 rfl rfl rfl rfl (by decide) (by simp [Value.oneCell', yv, wv, sv]) (by have hby : Tryz.t40.bytes = 64 := rfl; simp [big, hby]; omega) (by have hby : Tryz.t40.bytes = 64 := rfl; simp [big, hby]; omega) (by decide) hfr hst fun a w34 s47 hfr hst _ => ?_
  replace hst : St No w0 [own (.slice (some ⟨w32.heap.size, 0, none⟩) 1 1) 40 7 ([[.int .i64 n14, .int .i64 n19, .int .i64 n24, .int .i64 n29, .int .i64 n34, .int .i64 n39, sv n44]]), blk w8.heap.size [.int .i64 n14, .int .i64 n19, .int .i64 n24, .int .i64 n29, .int .i64 n34, .int .i64 n39, sv n44] 40, blk w3.heap.size [sv s, .int .i64 ((s.length - r43.length : Nat) : Int)] 145, blk w0.heap.size [.int .i64 0, .int .i64 0, .int .i64 0, .int .i64 0, .int .i64 0, .int .i64 0, .int .i64 0, .int .i64 0, .string (⟨#[]⟩)] 30, blk w1.heap.size [lv] 31, blk w2.heap.size [.int .i64 0] 54, own s47 40 7 ((acc ++ [(⟨n14, n19, n24, n29, n34, n39, n44⟩ : Pxy)]).map Pxy.cells)] w34 := by rw [List.map_append]; exact hst
  refine wl_store_sl 4 hfr hst (hst.ownAt (i := 6) rfl) rfl rfl rfl (Tryz.sizeOf31 _) (Nat.le_of_ble_eq_true rfl) (ds := [s47]) rfl rfl ?_
  clear hfr hst
  intro a w35 hfr hst
  refine wl_nil ?_
  refine hK11 _ _ ?_
  refine wc_region ?_
  refine wlv hfr (v_add rfl rfl ⟨by omega, by omega⟩) fun a hfr => ?_
  refine wlm hfr rfl fun a hfr => ?_
  refine wl_nil ?_
  refine ⟨_, ?_, k + 1, acc ++ [(⟨n14, n19, n24, n29, n34, n39, n44⟩ : Pxy)], r43, s47, rfl, (by omega), (by rw [show n3.toNat - (k + 1) = mm from by omega]; exact hd45), hs46, (by rw [List.length_append, hal]; rfl), hfr.pick [0, 2, 3, 4, 5, 23, 24], hst.select [2, 3, 4, 5, 6] (by decide)⟩
  omega
 rw [hc7] at hfr
 try simp only [qz] at hc7
 have hm : n3.toNat - k = 0 := by omega
 rw [hm] at hdl
 have hdk : decodeH s = kindI 1 r _ := hdl
 refine wc_exit ?_
 refine hK7 _ _ ?_
 refine wcx_seq_region fun K43 hK43 hP43 => ?_
 refine wx_split 1 ?_
 refine wlm hfr rfl fun a hfr => ?_
 refine wl_nil ?_
 rcases hq48 : kdI 1 r with _ | r49
 ·have hdn := hdk.trans (kindI_bad hq48)
  refine wx_panE (X := fun c => c = [{ v := .iface 142 (.agg #[]), recovered := false }]) 0 hfr hst rfl Tryz.call83 rfl (fun h => (kind_bad w3.heap.size s r  1 ((s.length - r.length : Nat) : Int) _ rfl hsl2 hsl hq48 h).mono fun e w ⟨c, h1, h2, h3⟩ => ⟨c, h1, _, h2, st_none h3⟩) ?_
  clear hst
  rintro _ w36 e9 rfl hst
  refine hP43 _ _ _ ?_
  replace hst : St No w0 [blk w0.heap.size [.int .i64 0, .int .i64 0, .int .i64 0, .int .i64 0, .int .i64 0, .int .i64 0, .int .i64 0, .int .i64 0, .string (⟨#[]⟩)] 30, blk w1.heap.size [lv] 31, blk w2.heap.size [.int .i64 0] 54] w36 := hst.select [1, 2, 3] (by decide)
  exact find_panic hfr Tryz.call81 (dec1_pan _ _ _ _ _ _ _ _ _ _ _ _ _ _ _ hst) Tryz.results28 (fun w9 hst => ⟨(resAre_cell rfl (res_all (hst.get (k := 0) rfl) (Tryz.isAgg30 _) (Tryz.sizeOf30 _)) (resAre_cell rfl (res_one (hst.get (k := 1) rfl) (Tryz.isAgg31 _)) (resAre_cell rfl (res_one (hst.get (k := 2) rfl) (Tryz.isAgg54 _)) resAre_nil))), .inr ⟨hdn, rfl, hst.ext⟩⟩)
 have hd50 := hdk.trans (kindI_ok hq48)
 have hs51 := (kdI_suf hq48).trans hsl2
 refine wx_split 1 ?_
 refine wl_callE (R := fun u e' => u = .tuple #[] ∧ e' = blk w3.heap.size [sv s, .int .i64 ((s.length - r49.length : Nat) : Int)] 145) 0 hfr hst rfl (by decide) Tryz.call83 rfl (fun h => (kind_ok w3.heap.size s r r49 1 ((s.length - r.length : Nat) : Int) _ rfl hsl2 hsl hq48 h).mono fun u w ⟨h1, h2⟩ => ⟨_, ⟨h1, rfl⟩, h2⟩) ?_
 clear hfr hst
 rintro a w37 _ _ ⟨rfl, rfl⟩ hfr hst
 replace hst : St No w0 [blk w3.heap.size [sv s, .int .i64 ((s.length - r49.length : Nat) : Int)] 145, blk w0.heap.size [.int .i64 0, .int .i64 0, .int .i64 0, .int .i64 0, .int .i64 0, .int .i64 0, .int .i64 0, .int .i64 0, .string (⟨#[]⟩)] 30, blk w1.heap.size [lv] 31, blk w2.heap.size [.int .i64 0] 54, own lv 40 7 ((acc).map Pxy.cells)] w37 := hst
 refine wl_nil ?_
 refine wx_wl ?_
 refine wl_nil (hK43 _ _ ?_)
 refine wc_seq_k fun K44 hK44 => ?_
 refine wc_seq_region fun K45 hK45 => ?_
 refine wlv hfr (v_fieldAddr (v := .pointer (some ⟨w0.heap.size, 0, none⟩)) rfl (by kernel_rfl)) fun a hfr => ?_
 refine wlv hfr (v_fieldAddr (v := .pointer (some ⟨w0.heap.size, 1, none⟩)) rfl (by kernel_rfl)) fun a hfr => ?_
 refine wlv hfr (v_fieldAddr (v := .pointer (some ⟨w0.heap.size, 2, none⟩)) rfl (by kernel_rfl)) fun a hfr => ?_
 refine wlv hfr (v_fieldAddr (v := .pointer (some ⟨w0.heap.size, 2, none⟩)) rfl (by kernel_rfl)) fun a hfr => ?_
 refine wlv hfr (v_fieldAddr (v := .pointer (some ⟨w0.heap.size, 2, none⟩)) rfl (by kernel_rfl)) fun a hfr => ?_
 refine wlv hfr (v_fieldAddr (v := .pointer (some ⟨w0.heap.size, 3, none⟩)) rfl (by kernel_rfl)) fun a hfr => ?_
 refine wlv hfr (v_fieldAddr (v := .pointer (some ⟨w0.heap.size, 4, none⟩)) rfl (by kernel_rfl)) fun a hfr => ?_
 refine wlv hfr (v_fieldAddr (v := .pointer (some ⟨w0.heap.size, 5, none⟩)) rfl (by kernel_rfl)) fun a hfr => ?_
 refine wlv hfr (v_fieldAddr (v := .pointer (some ⟨w0.heap.size, 6, none⟩)) rfl (by kernel_rfl)) fun a hfr => ?_
 refine wlv hfr (v_fieldAddr (v := .pointer (some ⟨w0.heap.size, 6, none⟩)) rfl (by kernel_rfl)) fun a hfr => ?_
 refine wlv hfr (v_fieldAddr (v := .pointer (some ⟨w0.heap.size, 6, none⟩)) rfl (by kernel_rfl)) fun a hfr => ?_
 refine wlv hfr (v_fieldAddr (v := .pointer (some ⟨w0.heap.size, 7, none⟩)) rfl (by kernel_rfl)) fun a hfr => ?_
 refine wlv hfr (v_build (v := .agg #[.pointer (some ⟨w0.heap.size, 0, none⟩), .pointer (some ⟨w0.heap.size, 1, none⟩), .pointer (some ⟨w0.heap.size, 2, none⟩), .pointer (some ⟨w0.heap.size, 3, none⟩), .pointer (some ⟨w0.heap.size, 4, none⟩), .pointer (some ⟨w0.heap.size, 5, none⟩), .pointer (some ⟨w0.heap.size, 6, none⟩), .pointer (some ⟨w0.heap.size, 7, none⟩)]) rfl (by kernel_rfl)) fun a hfr => ?_
 refine wlm hfr rfl fun a hfr => ?_
 refine wl_nil (hK45 _ _ ?_)
 replace hfr : Fr 98 [(0, _), (2, _), (3, _), (4, _), (5, _), (69, _), (70, _)] [{ target := .fn (.func 81) #[.pointer (some ⟨w0.heap.size, 0, none⟩), .pointer (some ⟨w1.heap.size, 0, none⟩), .pointer (some ⟨w2.heap.size, 0, none⟩)], args := #[] }] a := hfr.pick [0, 2, 3, 4, 5, 69, 70]
 refine wc_block ?_
 refine wc_rounds 9 ?_
 refine wr_succ ?_
 refine wc_seq_region fun K46 hK46 => ?_
 refine wlv hfr ((v_lt rfl rfl).asb (b' := true) rfl) fun a hfr => ?_
 refine wl_nil (hK46 _ _ ?_)
 refine wc_seq_k fun K47 hK47 => ?_
 refine wc_cond_t hfr rfl ?_
 refine wc_skip ?_
 refine hK47 _ _ ?_
 refine wc_seq_k fun K48 hK48 => ?_
 refine wc_block ?_
 refine wc_seq_region fun K49 hK49 => ?_
 refine wlv hfr (v_index (v := .pointer (some ⟨w0.heap.size, 0, none⟩)) rfl rfl (by kernel_rfl)) fun a hfr => ?_
 refine wla hfr rfl fun a hfr => ?_
 refine wl_nil (hK49 _ _ ?_)
 refine wcx_region ?_
 refine wx_split 2 ?_
 refine wlm hfr rfl fun a hfr => ?_
 refine wlm hfr rfl fun a hfr => ?_
 refine wl_nil ?_
 rcases hq52 : rdI r49 with _ | ⟨n54, r53⟩
 ·have hdn := hd50.trans (getI_bad hq52)
  refine wx_panE (X := fun c => c = [{ v := .iface 142 (.agg #[]), recovered := false }]) 0 hfr hst rfl Tryz.call82 rfl (fun h => (number_bad w3.heap.size s r49  ((s.length - r49.length : Nat) : Int) _ rfl hs51 hsl hq52 h).mono fun e w ⟨c, h1, h2, h3⟩ => ⟨c, h1, _, h2, h3⟩) ?_
  clear hst
  rintro _ w38 e9 rfl hst
  replace hst : St No w0 [blk w0.heap.size [.int .i64 0, .int .i64 0, .int .i64 0, .int .i64 0, .int .i64 0, .int .i64 0, .int .i64 0, .int .i64 0, .string (⟨#[]⟩)] 30, blk w1.heap.size [lv] 31, blk w2.heap.size [.int .i64 0] 54] w38 := hst.select [1, 2, 3] (by decide)
  exact find_panic hfr Tryz.call81 (dec1_pan _ _ _ _ _ _ _ _ _ _ _ _ _ _ _ hst) Tryz.results28 (fun w9 hst => ⟨(resAre_cell rfl (res_all (hst.get (k := 0) rfl) (Tryz.isAgg30 _) (Tryz.sizeOf30 _)) (resAre_cell rfl (res_one (hst.get (k := 1) rfl) (Tryz.isAgg31 _)) (resAre_cell rfl (res_one (hst.get (k := 2) rfl) (Tryz.isAgg54 _)) resAre_nil))), .inr ⟨hdn, rfl, hst.ext⟩⟩)
 have hd55 := hd50.trans (getI_ok hq52)
 have hs56 := (rdI_suf hq52).trans hs51
 refine wx_split 1 ?_
 refine wl_callE (R := fun u e' => u = .int .i64 n54 ∧ e' = blk w3.heap.size [sv s, .int .i64 ((s.length - r53.length : Nat) : Int)] 145) 0 hfr hst rfl (by decide) Tryz.call82 rfl (fun h => (number_ok w3.heap.size s r49 r53 n54 ((s.length - r49.length : Nat) : Int) _ rfl hs51 hsl hq52 h).mono fun u w ⟨h1, h2⟩ => ⟨_, ⟨h1, rfl⟩, h2⟩) ?_
 clear hfr hst
 rintro a w39 _ _ ⟨rfl, rfl⟩ hfr hst
 replace hst : St No w0 [blk w3.heap.size [sv s, .int .i64 ((s.length - r53.length : Nat) : Int)] 145, blk w0.heap.size [.int .i64 0, .int .i64 0, .int .i64 0, .int .i64 0, .int .i64 0, .int .i64 0, .int .i64 0, .int .i64 0, .string (⟨#[]⟩)] 30, blk w1.heap.size [lv] 31, blk w2.heap.size [.int .i64 0] 54, own lv 40 7 ((acc).map Pxy.cells)] w39 := hst
 refine wl_nil ?_
 refine wx_wl ?_
 refine wlv hfr (v_nilCheck rfl) fun a hfr => ?_
 refine wl_store 1 hfr hst rfl rfl rfl (Tryz.sizeOf3 _) rfl (Nat.le_of_ble_eq_true rfl) (ds := [.int .i64 n54, .int .i64 0, .int .i64 0, .int .i64 0, .int .i64 0, .int .i64 0, .int .i64 0, .int .i64 0, .string (⟨#[]⟩)]) rfl rfl ?_
 clear hfr hst
 intro a w40 hfr hst
 refine wl_nil ?_
 refine hK48 _ _ ?_
 replace hfr : Fr 98 [(0, _), (2, _), (3, _), (4, _), (5, _), (69, _), (70, _)] [{ target := .fn (.func 81) #[.pointer (some ⟨w0.heap.size, 0, none⟩), .pointer (some ⟨w1.heap.size, 0, none⟩), .pointer (some ⟨w2.heap.size, 0, none⟩)], args := #[] }] a := hfr.pick [0, 2, 3, 4, 5, 69, 70]
 refine wc_region ?_
 refine wlv hfr ((v_add rfl rfl (by decide)).asi (m' := 1) rfl) fun a hfr => ?_
 refine wlm hfr rfl fun a hfr => ?_
 refine wl_nil ?_
 refine wr_succ ?_
 refine wc_seq_region fun K50 hK50 => ?_
 refine wlv hfr ((v_lt rfl rfl).asb (b' := true) rfl) fun a hfr => ?_
 refine wl_nil (hK50 _ _ ?_)
 refine wc_seq_k fun K51 hK51 => ?_
 refine wc_cond_t hfr rfl ?_
 refine wc_skip ?_
 refine hK51 _ _ ?_
 refine wc_seq_k fun K52 hK52 => ?_
 refine wc_block ?_
 refine wc_seq_region fun K53 hK53 => ?_
 refine wlv hfr (v_index (v := .pointer (some ⟨w0.heap.size, 1, none⟩)) rfl rfl (by kernel_rfl)) fun a hfr => ?_
 refine wla hfr rfl fun a hfr => ?_
 refine wl_nil (hK53 _ _ ?_)
 refine wcx_region ?_
 refine wx_split 2 ?_
 refine wlm hfr rfl fun a hfr => ?_
 refine wlm hfr rfl fun a hfr => ?_
 refine wl_nil ?_
 rcases hq57 : rdI r53 with _ | ⟨n59, r58⟩
 ·have hdn := hd55.trans (getI_bad hq57)
  refine wx_panE (X := fun c => c = [{ v := .iface 142 (.agg #[]), recovered := false }]) 0 hfr hst rfl Tryz.call82 rfl (fun h => (number_bad w3.heap.size s r53  ((s.length - r53.length : Nat) : Int) _ rfl hs56 hsl hq57 h).mono fun e w ⟨c, h1, h2, h3⟩ => ⟨c, h1, _, h2, h3⟩) ?_
  clear hst
  rintro _ w41 e9 rfl hst
  replace hst : St No w0 [blk w0.heap.size [.int .i64 n54, .int .i64 0, .int .i64 0, .int .i64 0, .int .i64 0, .int .i64 0, .int .i64 0, .int .i64 0, .string (⟨#[]⟩)] 30, blk w1.heap.size [lv] 31, blk w2.heap.size [.int .i64 0] 54] w41 := hst.select [1, 2, 3] (by decide)
  exact find_panic hfr Tryz.call81 (dec1_pan _ _ _ _ _ _ _ _ _ _ _ _ _ _ _ hst) Tryz.results28 (fun w9 hst => ⟨(resAre_cell rfl (res_all (hst.get (k := 0) rfl) (Tryz.isAgg30 _) (Tryz.sizeOf30 _)) (resAre_cell rfl (res_one (hst.get (k := 1) rfl) (Tryz.isAgg31 _)) (resAre_cell rfl (res_one (hst.get (k := 2) rfl) (Tryz.isAgg54 _)) resAre_nil))), .inr ⟨hdn, rfl, hst.ext⟩⟩)
 have hd60 := hd55.trans (getI_ok hq57)
 have hs61 := (rdI_suf hq57).trans hs56
 refine wx_split 1 ?_
 refine wl_callE (R := fun u e' => u = .int .i64 n59 ∧ e' = blk w3.heap.size [sv s, .int .i64 ((s.length - r58.length : Nat) : Int)] 145) 0 hfr hst rfl (by decide) Tryz.call82 rfl (fun h => (number_ok w3.heap.size s r53 r58 n59 ((s.length - r53.length : Nat) : Int) _ rfl hs56 hsl hq57 h).mono fun u w ⟨h1, h2⟩ => ⟨_, ⟨h1, rfl⟩, h2⟩) ?_
 clear hfr hst
 rintro a w42 _ _ ⟨rfl, rfl⟩ hfr hst
 replace hst : St No w0 [blk w3.heap.size [sv s, .int .i64 ((s.length - r58.length : Nat) : Int)] 145, blk w0.heap.size [.int .i64 n54, .int .i64 0, .int .i64 0, .int .i64 0, .int .i64 0, .int .i64 0, .int .i64 0, .int .i64 0, .string (⟨#[]⟩)] 30, blk w1.heap.size [lv] 31, blk w2.heap.size [.int .i64 0] 54, own lv 40 7 ((acc).map Pxy.cells)] w42 := hst
 refine wl_nil ?_
 refine wx_wl ?_
 refine wlv hfr (v_nilCheck rfl) fun a hfr => ?_
 refine wl_store 1 hfr hst rfl rfl rfl (Tryz.sizeOf3 _) rfl (Nat.le_of_ble_eq_true rfl) (ds := [.int .i64 n54, .int .i64 n59, .int .i64 0, .int .i64 0, .int .i64 0, .int .i64 0, .int .i64 0, .int .i64 0, .string (⟨#[]⟩)]) rfl rfl ?_
 clear hfr hst
 intro a w43 hfr hst
 refine wl_nil ?_
 refine hK52 _ _ ?_
 replace hfr : Fr 98 [(0, _), (2, _), (3, _), (4, _), (5, _), (69, _), (70, _)] [{ target := .fn (.func 81) #[.pointer (some ⟨w0.heap.size, 0, none⟩), .pointer (some ⟨w1.heap.size, 0, none⟩), .pointer (some ⟨w2.heap.size, 0, none⟩)], args := #[] }] a := hfr.pick [0, 2, 3, 4, 5, 69, 70]
 refine wc_region ?_
 refine wlv hfr ((v_add rfl rfl (by decide)).asi (m' := 2) rfl) fun a hfr => ?_
 refine wlm hfr rfl fun a hfr => ?_
 refine wl_nil ?_
 refine wr_succ ?_
 refine wc_seq_region fun K54 hK54 => ?_
 refine wlv hfr ((v_lt rfl rfl).asb (b' := true) rfl) fun a hfr => ?_
 refine wl_nil (hK54 _ _ ?_)
 refine wc_seq_k fun K55 hK55 => ?_
 refine wc_cond_t hfr rfl ?_
 refine wc_skip ?_
 refine hK55 _ _ ?_
 refine wc_seq_k fun K56 hK56 => ?_
 refine wc_block ?_
 refine wc_seq_region fun K57 hK57 => ?_
 refine wlv hfr (v_index (v := .pointer (some ⟨w0.heap.size, 2, none⟩)) rfl rfl (by kernel_rfl)) fun a hfr => ?_
 refine wla hfr rfl fun a hfr => ?_
 refine wl_nil (hK57 _ _ ?_)
 refine wcx_region ?_
 refine wx_split 2 ?_
 refine wlm hfr rfl fun a hfr => ?_
 refine wlm hfr rfl fun a hfr => ?_
 refine wl_nil ?_
 rcases hq62 : rdI r58 with _ | ⟨n64, r63⟩
 ·have hdn := hd60.trans (getI_bad hq62)
  refine wx_panE (X := fun c => c = [{ v := .iface 142 (.agg #[]), recovered := false }]) 0 hfr hst rfl Tryz.call82 rfl (fun h => (number_bad w3.heap.size s r58  ((s.length - r58.length : Nat) : Int) _ rfl hs61 hsl hq62 h).mono fun e w ⟨c, h1, h2, h3⟩ => ⟨c, h1, _, h2, h3⟩) ?_
  clear hst
  rintro _ w44 e9 rfl hst
  replace hst : St No w0 [blk w0.heap.size [.int .i64 n54, .int .i64 n59, .int .i64 0, .int .i64 0, .int .i64 0, .int .i64 0, .int .i64 0, .int .i64 0, .string (⟨#[]⟩)] 30, blk w1.heap.size [lv] 31, blk w2.heap.size [.int .i64 0] 54] w44 := hst.select [1, 2, 3] (by decide)
  exact find_panic hfr Tryz.call81 (dec1_pan _ _ _ _ _ _ _ _ _ _ _ _ _ _ _ hst) Tryz.results28 (fun w9 hst => ⟨(resAre_cell rfl (res_all (hst.get (k := 0) rfl) (Tryz.isAgg30 _) (Tryz.sizeOf30 _)) (resAre_cell rfl (res_one (hst.get (k := 1) rfl) (Tryz.isAgg31 _)) (resAre_cell rfl (res_one (hst.get (k := 2) rfl) (Tryz.isAgg54 _)) resAre_nil))), .inr ⟨hdn, rfl, hst.ext⟩⟩)
 have hd65 := hd60.trans (getI_ok hq62)
 have hs66 := (rdI_suf hq62).trans hs61
 refine wx_split 1 ?_
 refine wl_callE (R := fun u e' => u = .int .i64 n64 ∧ e' = blk w3.heap.size [sv s, .int .i64 ((s.length - r63.length : Nat) : Int)] 145) 0 hfr hst rfl (by decide) Tryz.call82 rfl (fun h => (number_ok w3.heap.size s r58 r63 n64 ((s.length - r58.length : Nat) : Int) _ rfl hs61 hsl hq62 h).mono fun u w ⟨h1, h2⟩ => ⟨_, ⟨h1, rfl⟩, h2⟩) ?_
 clear hfr hst
 rintro a w45 _ _ ⟨rfl, rfl⟩ hfr hst
 replace hst : St No w0 [blk w3.heap.size [sv s, .int .i64 ((s.length - r63.length : Nat) : Int)] 145, blk w0.heap.size [.int .i64 n54, .int .i64 n59, .int .i64 0, .int .i64 0, .int .i64 0, .int .i64 0, .int .i64 0, .int .i64 0, .string (⟨#[]⟩)] 30, blk w1.heap.size [lv] 31, blk w2.heap.size [.int .i64 0] 54, own lv 40 7 ((acc).map Pxy.cells)] w45 := hst
 refine wl_nil ?_
 refine wx_wl ?_
 refine wlv hfr (v_nilCheck rfl) fun a hfr => ?_
 refine wl_store 1 hfr hst rfl rfl rfl (Tryz.sizeOf3 _) rfl (Nat.le_of_ble_eq_true rfl) (ds := [.int .i64 n54, .int .i64 n59, .int .i64 n64, .int .i64 0, .int .i64 0, .int .i64 0, .int .i64 0, .int .i64 0, .string (⟨#[]⟩)]) rfl rfl ?_
 clear hfr hst
 intro a w46 hfr hst
 refine wl_nil ?_
 refine hK56 _ _ ?_
 replace hfr : Fr 98 [(0, _), (2, _), (3, _), (4, _), (5, _), (69, _), (70, _)] [{ target := .fn (.func 81) #[.pointer (some ⟨w0.heap.size, 0, none⟩), .pointer (some ⟨w1.heap.size, 0, none⟩), .pointer (some ⟨w2.heap.size, 0, none⟩)], args := #[] }] a := hfr.pick [0, 2, 3, 4, 5, 69, 70]
 refine wc_region ?_
 refine wlv hfr ((v_add rfl rfl (by decide)).asi (m' := 3) rfl) fun a hfr => ?_
 refine wlm hfr rfl fun a hfr => ?_
 refine wl_nil ?_
 refine wr_succ ?_
 refine wc_seq_region fun K58 hK58 => ?_
 refine wlv hfr ((v_lt rfl rfl).asb (b' := true) rfl) fun a hfr => ?_
 refine wl_nil (hK58 _ _ ?_)
 refine wc_seq_k fun K59 hK59 => ?_
 refine wc_cond_t hfr rfl ?_
 refine wc_skip ?_
 refine hK59 _ _ ?_
 refine wc_seq_k fun K60 hK60 => ?_
 refine wc_block ?_
 refine wc_seq_region fun K61 hK61 => ?_
 refine wlv hfr (v_index (v := .pointer (some ⟨w0.heap.size, 3, none⟩)) rfl rfl (by kernel_rfl)) fun a hfr => ?_
 refine wla hfr rfl fun a hfr => ?_
 refine wl_nil (hK61 _ _ ?_)
 refine wcx_region ?_
 refine wx_split 2 ?_
 refine wlm hfr rfl fun a hfr => ?_
 refine wlm hfr rfl fun a hfr => ?_
 refine wl_nil ?_
 rcases hq67 : rdI r63 with _ | ⟨n69, r68⟩
 ·have hdn := hd65.trans (getI_bad hq67)
  refine wx_panE (X := fun c => c = [{ v := .iface 142 (.agg #[]), recovered := false }]) 0 hfr hst rfl Tryz.call82 rfl (fun h => (number_bad w3.heap.size s r63  ((s.length - r63.length : Nat) : Int) _ rfl hs66 hsl hq67 h).mono fun e w ⟨c, h1, h2, h3⟩ => ⟨c, h1, _, h2, h3⟩) ?_
  clear hst
  rintro _ w47 e9 rfl hst
  replace hst : St No w0 [blk w0.heap.size [.int .i64 n54, .int .i64 n59, .int .i64 n64, .int .i64 0, .int .i64 0, .int .i64 0, .int .i64 0, .int .i64 0, .string (⟨#[]⟩)] 30, blk w1.heap.size [lv] 31, blk w2.heap.size [.int .i64 0] 54] w47 := hst.select [1, 2, 3] (by decide)
  exact find_panic hfr Tryz.call81 (dec1_pan _ _ _ _ _ _ _ _ _ _ _ _ _ _ _ hst) Tryz.results28 (fun w9 hst => ⟨(resAre_cell rfl (res_all (hst.get (k := 0) rfl) (Tryz.isAgg30 _) (Tryz.sizeOf30 _)) (resAre_cell rfl (res_one (hst.get (k := 1) rfl) (Tryz.isAgg31 _)) (resAre_cell rfl (res_one (hst.get (k := 2) rfl) (Tryz.isAgg54 _)) resAre_nil))), .inr ⟨hdn, rfl, hst.ext⟩⟩)
 have hd70 := hd65.trans (getI_ok hq67)
 have hs71 := (rdI_suf hq67).trans hs66
 refine wx_split 1 ?_
 refine wl_callE (R := fun u e' => u = .int .i64 n69 ∧ e' = blk w3.heap.size [sv s, .int .i64 ((s.length - r68.length : Nat) : Int)] 145) 0 hfr hst rfl (by decide) Tryz.call82 rfl (fun h => (number_ok w3.heap.size s r63 r68 n69 ((s.length - r63.length : Nat) : Int) _ rfl hs66 hsl hq67 h).mono fun u w ⟨h1, h2⟩ => ⟨_, ⟨h1, rfl⟩, h2⟩) ?_
 clear hfr hst
 rintro a w48 _ _ ⟨rfl, rfl⟩ hfr hst
 replace hst : St No w0 [blk w3.heap.size [sv s, .int .i64 ((s.length - r68.length : Nat) : Int)] 145, blk w0.heap.size [.int .i64 n54, .int .i64 n59, .int .i64 n64, .int .i64 0, .int .i64 0, .int .i64 0, .int .i64 0, .int .i64 0, .string (⟨#[]⟩)] 30, blk w1.heap.size [lv] 31, blk w2.heap.size [.int .i64 0] 54, own lv 40 7 ((acc).map Pxy.cells)] w48 := hst
 refine wl_nil ?_
 refine wx_wl ?_
 refine wlv hfr (v_nilCheck rfl) fun a hfr => ?_
 refine wl_store 1 hfr hst rfl rfl rfl (Tryz.sizeOf3 _) rfl (Nat.le_of_ble_eq_true rfl) (ds := [.int .i64 n54, .int .i64 n59, .int .i64 n64, .int .i64 n69, .int .i64 0, .int .i64 0, .int .i64 0, .int .i64 0, .string (⟨#[]⟩)]) rfl rfl ?_
 clear hfr hst
 intro a w49 hfr hst
 refine wl_nil ?_
 refine hK60 _ _ ?_
 replace hfr : Fr 98 [(0, _), (2, _), (3, _), (4, _), (5, _), (69, _), (70, _)] [{ target := .fn (.func 81) #[.pointer (some ⟨w0.heap.size, 0, none⟩), .pointer (some ⟨w1.heap.size, 0, none⟩), .pointer (some ⟨w2.heap.size, 0, none⟩)], args := #[] }] a := hfr.pick [0, 2, 3, 4, 5, 69, 70]
 refine wc_region ?_
 refine wlv hfr ((v_add rfl rfl (by decide)).asi (m' := 4) rfl) fun a hfr => ?_
 refine wlm hfr rfl fun a hfr => ?_
 refine wl_nil ?_
 refine wr_succ ?_
 refine wc_seq_region fun K62 hK62 => ?_
 refine wlv hfr ((v_lt rfl rfl).asb (b' := true) rfl) fun a hfr => ?_
 refine wl_nil (hK62 _ _ ?_)
 refine wc_seq_k fun K63 hK63 => ?_
 refine wc_cond_t hfr rfl ?_
 refine wc_skip ?_
 refine hK63 _ _ ?_
 refine wc_seq_k fun K64 hK64 => ?_
 refine wc_block ?_
 refine wc_seq_region fun K65 hK65 => ?_
 refine wlv hfr (v_index (v := .pointer (some ⟨w0.heap.size, 4, none⟩)) rfl rfl (by kernel_rfl)) fun a hfr => ?_
 refine wla hfr rfl fun a hfr => ?_
 refine wl_nil (hK65 _ _ ?_)
 refine wcx_region ?_
 refine wx_split 2 ?_
 refine wlm hfr rfl fun a hfr => ?_
 refine wlm hfr rfl fun a hfr => ?_
 refine wl_nil ?_
 rcases hq72 : rdI r68 with _ | ⟨n74, r73⟩
 ·have hdn := hd70.trans (getI_bad hq72)
  refine wx_panE (X := fun c => c = [{ v := .iface 142 (.agg #[]), recovered := false }]) 0 hfr hst rfl Tryz.call82 rfl (fun h => (number_bad w3.heap.size s r68  ((s.length - r68.length : Nat) : Int) _ rfl hs71 hsl hq72 h).mono fun e w ⟨c, h1, h2, h3⟩ => ⟨c, h1, _, h2, h3⟩) ?_
  clear hst
  rintro _ w50 e9 rfl hst
  replace hst : St No w0 [blk w0.heap.size [.int .i64 n54, .int .i64 n59, .int .i64 n64, .int .i64 n69, .int .i64 0, .int .i64 0, .int .i64 0, .int .i64 0, .string (⟨#[]⟩)] 30, blk w1.heap.size [lv] 31, blk w2.heap.size [.int .i64 0] 54] w50 := hst.select [1, 2, 3] (by decide)
  exact find_panic hfr Tryz.call81 (dec1_pan _ _ _ _ _ _ _ _ _ _ _ _ _ _ _ hst) Tryz.results28 (fun w9 hst => ⟨(resAre_cell rfl (res_all (hst.get (k := 0) rfl) (Tryz.isAgg30 _) (Tryz.sizeOf30 _)) (resAre_cell rfl (res_one (hst.get (k := 1) rfl) (Tryz.isAgg31 _)) (resAre_cell rfl (res_one (hst.get (k := 2) rfl) (Tryz.isAgg54 _)) resAre_nil))), .inr ⟨hdn, rfl, hst.ext⟩⟩)
 have hd75 := hd70.trans (getI_ok hq72)
 have hs76 := (rdI_suf hq72).trans hs71
 refine wx_split 1 ?_
 refine wl_callE (R := fun u e' => u = .int .i64 n74 ∧ e' = blk w3.heap.size [sv s, .int .i64 ((s.length - r73.length : Nat) : Int)] 145) 0 hfr hst rfl (by decide) Tryz.call82 rfl (fun h => (number_ok w3.heap.size s r68 r73 n74 ((s.length - r68.length : Nat) : Int) _ rfl hs71 hsl hq72 h).mono fun u w ⟨h1, h2⟩ => ⟨_, ⟨h1, rfl⟩, h2⟩) ?_
 clear hfr hst
 rintro a w51 _ _ ⟨rfl, rfl⟩ hfr hst
 replace hst : St No w0 [blk w3.heap.size [sv s, .int .i64 ((s.length - r73.length : Nat) : Int)] 145, blk w0.heap.size [.int .i64 n54, .int .i64 n59, .int .i64 n64, .int .i64 n69, .int .i64 0, .int .i64 0, .int .i64 0, .int .i64 0, .string (⟨#[]⟩)] 30, blk w1.heap.size [lv] 31, blk w2.heap.size [.int .i64 0] 54, own lv 40 7 ((acc).map Pxy.cells)] w51 := hst
 refine wl_nil ?_
 refine wx_wl ?_
 refine wlv hfr (v_nilCheck rfl) fun a hfr => ?_
 refine wl_store 1 hfr hst rfl rfl rfl (Tryz.sizeOf3 _) rfl (Nat.le_of_ble_eq_true rfl) (ds := [.int .i64 n54, .int .i64 n59, .int .i64 n64, .int .i64 n69, .int .i64 n74, .int .i64 0, .int .i64 0, .int .i64 0, .string (⟨#[]⟩)]) rfl rfl ?_
 clear hfr hst
 intro a w52 hfr hst
 refine wl_nil ?_
 refine hK64 _ _ ?_
 replace hfr : Fr 98 [(0, _), (2, _), (3, _), (4, _), (5, _), (69, _), (70, _)] [{ target := .fn (.func 81) #[.pointer (some ⟨w0.heap.size, 0, none⟩), .pointer (some ⟨w1.heap.size, 0, none⟩), .pointer (some ⟨w2.heap.size, 0, none⟩)], args := #[] }] a := hfr.pick [0, 2, 3, 4, 5, 69, 70]
 refine wc_region ?_
 refine wlv hfr ((v_add rfl rfl (by decide)).asi (m' := 5) rfl) fun a hfr => ?_
 refine wlm hfr rfl fun a hfr => ?_
 refine wl_nil ?_
 refine wr_succ ?_
 refine wc_seq_region fun K66 hK66 => ?_
 refine wlv hfr ((v_lt rfl rfl).asb (b' := true) rfl) fun a hfr => ?_
 refine wl_nil (hK66 _ _ ?_)
 refine wc_seq_k fun K67 hK67 => ?_
 refine wc_cond_t hfr rfl ?_
 refine wc_skip ?_
 refine hK67 _ _ ?_
 refine wc_seq_k fun K68 hK68 => ?_
 refine wc_block ?_
 refine wc_seq_region fun K69 hK69 => ?_
 refine wlv hfr (v_index (v := .pointer (some ⟨w0.heap.size, 5, none⟩)) rfl rfl (by kernel_rfl)) fun a hfr => ?_
 refine wla hfr rfl fun a hfr => ?_
 refine wl_nil (hK69 _ _ ?_)
 refine wcx_region ?_
 refine wx_split 2 ?_
 refine wlm hfr rfl fun a hfr => ?_
 refine wlm hfr rfl fun a hfr => ?_
 refine wl_nil ?_
 rcases hq77 : rdI r73 with _ | ⟨n79, r78⟩
 ·have hdn := hd75.trans (getI_bad hq77)
  refine wx_panE (X := fun c => c = [{ v := .iface 142 (.agg #[]), recovered := false }]) 0 hfr hst rfl Tryz.call82 rfl (fun h => (number_bad w3.heap.size s r73  ((s.length - r73.length : Nat) : Int) _ rfl hs76 hsl hq77 h).mono fun e w ⟨c, h1, h2, h3⟩ => ⟨c, h1, _, h2, h3⟩) ?_
  clear hst
  rintro _ w53 e9 rfl hst
  replace hst : St No w0 [blk w0.heap.size [.int .i64 n54, .int .i64 n59, .int .i64 n64, .int .i64 n69, .int .i64 n74, .int .i64 0, .int .i64 0, .int .i64 0, .string (⟨#[]⟩)] 30, blk w1.heap.size [lv] 31, blk w2.heap.size [.int .i64 0] 54] w53 := hst.select [1, 2, 3] (by decide)
  exact find_panic hfr Tryz.call81 (dec1_pan _ _ _ _ _ _ _ _ _ _ _ _ _ _ _ hst) Tryz.results28 (fun w9 hst => ⟨(resAre_cell rfl (res_all (hst.get (k := 0) rfl) (Tryz.isAgg30 _) (Tryz.sizeOf30 _)) (resAre_cell rfl (res_one (hst.get (k := 1) rfl) (Tryz.isAgg31 _)) (resAre_cell rfl (res_one (hst.get (k := 2) rfl) (Tryz.isAgg54 _)) resAre_nil))), .inr ⟨hdn, rfl, hst.ext⟩⟩)
 have hd80 := hd75.trans (getI_ok hq77)
 have hs81 := (rdI_suf hq77).trans hs76
 refine wx_split 1 ?_
 refine wl_callE (R := fun u e' => u = .int .i64 n79 ∧ e' = blk w3.heap.size [sv s, .int .i64 ((s.length - r78.length : Nat) : Int)] 145) 0 hfr hst rfl (by decide) Tryz.call82 rfl (fun h => (number_ok w3.heap.size s r73 r78 n79 ((s.length - r73.length : Nat) : Int) _ rfl hs76 hsl hq77 h).mono fun u w ⟨h1, h2⟩ => ⟨_, ⟨h1, rfl⟩, h2⟩) ?_
 clear hfr hst
 rintro a w54 _ _ ⟨rfl, rfl⟩ hfr hst
 replace hst : St No w0 [blk w3.heap.size [sv s, .int .i64 ((s.length - r78.length : Nat) : Int)] 145, blk w0.heap.size [.int .i64 n54, .int .i64 n59, .int .i64 n64, .int .i64 n69, .int .i64 n74, .int .i64 0, .int .i64 0, .int .i64 0, .string (⟨#[]⟩)] 30, blk w1.heap.size [lv] 31, blk w2.heap.size [.int .i64 0] 54, own lv 40 7 ((acc).map Pxy.cells)] w54 := hst
 refine wl_nil ?_
 refine wx_wl ?_
 refine wlv hfr (v_nilCheck rfl) fun a hfr => ?_
 refine wl_store 1 hfr hst rfl rfl rfl (Tryz.sizeOf3 _) rfl (Nat.le_of_ble_eq_true rfl) (ds := [.int .i64 n54, .int .i64 n59, .int .i64 n64, .int .i64 n69, .int .i64 n74, .int .i64 n79, .int .i64 0, .int .i64 0, .string (⟨#[]⟩)]) rfl rfl ?_
 clear hfr hst
 intro a w55 hfr hst
 refine wl_nil ?_
 refine hK68 _ _ ?_
 replace hfr : Fr 98 [(0, _), (2, _), (3, _), (4, _), (5, _), (69, _), (70, _)] [{ target := .fn (.func 81) #[.pointer (some ⟨w0.heap.size, 0, none⟩), .pointer (some ⟨w1.heap.size, 0, none⟩), .pointer (some ⟨w2.heap.size, 0, none⟩)], args := #[] }] a := hfr.pick [0, 2, 3, 4, 5, 69, 70]
 refine wc_region ?_
 refine wlv hfr ((v_add rfl rfl (by decide)).asi (m' := 6) rfl) fun a hfr => ?_
 refine wlm hfr rfl fun a hfr => ?_
 refine wl_nil ?_
 refine wr_succ ?_
 refine wc_seq_region fun K70 hK70 => ?_
 refine wlv hfr ((v_lt rfl rfl).asb (b' := true) rfl) fun a hfr => ?_
 refine wl_nil (hK70 _ _ ?_)
 refine wc_seq_k fun K71 hK71 => ?_
 refine wc_cond_t hfr rfl ?_
 refine wc_skip ?_
 refine hK71 _ _ ?_
 refine wc_seq_k fun K72 hK72 => ?_
 refine wc_block ?_
 refine wc_seq_region fun K73 hK73 => ?_
 refine wlv hfr (v_index (v := .pointer (some ⟨w0.heap.size, 6, none⟩)) rfl rfl (by kernel_rfl)) fun a hfr => ?_
 refine wla hfr rfl fun a hfr => ?_
 refine wl_nil (hK73 _ _ ?_)
 refine wcx_region ?_
 refine wx_split 2 ?_
 refine wlm hfr rfl fun a hfr => ?_
 refine wlm hfr rfl fun a hfr => ?_
 refine wl_nil ?_
 rcases hq82 : rdI r78 with _ | ⟨n84, r83⟩
 ·have hdn := hd80.trans (getI_bad hq82)
  refine wx_panE (X := fun c => c = [{ v := .iface 142 (.agg #[]), recovered := false }]) 0 hfr hst rfl Tryz.call82 rfl (fun h => (number_bad w3.heap.size s r78  ((s.length - r78.length : Nat) : Int) _ rfl hs81 hsl hq82 h).mono fun e w ⟨c, h1, h2, h3⟩ => ⟨c, h1, _, h2, h3⟩) ?_
  clear hst
  rintro _ w56 e9 rfl hst
  replace hst : St No w0 [blk w0.heap.size [.int .i64 n54, .int .i64 n59, .int .i64 n64, .int .i64 n69, .int .i64 n74, .int .i64 n79, .int .i64 0, .int .i64 0, .string (⟨#[]⟩)] 30, blk w1.heap.size [lv] 31, blk w2.heap.size [.int .i64 0] 54] w56 := hst.select [1, 2, 3] (by decide)
  exact find_panic hfr Tryz.call81 (dec1_pan _ _ _ _ _ _ _ _ _ _ _ _ _ _ _ hst) Tryz.results28 (fun w9 hst => ⟨(resAre_cell rfl (res_all (hst.get (k := 0) rfl) (Tryz.isAgg30 _) (Tryz.sizeOf30 _)) (resAre_cell rfl (res_one (hst.get (k := 1) rfl) (Tryz.isAgg31 _)) (resAre_cell rfl (res_one (hst.get (k := 2) rfl) (Tryz.isAgg54 _)) resAre_nil))), .inr ⟨hdn, rfl, hst.ext⟩⟩)
 have hd85 := hd80.trans (getI_ok hq82)
 have hs86 := (rdI_suf hq82).trans hs81
 refine wx_split 1 ?_
 refine wl_callE (R := fun u e' => u = .int .i64 n84 ∧ e' = blk w3.heap.size [sv s, .int .i64 ((s.length - r83.length : Nat) : Int)] 145) 0 hfr hst rfl (by decide) Tryz.call82 rfl (fun h => (number_ok w3.heap.size s r78 r83 n84 ((s.length - r78.length : Nat) : Int) _ rfl hs81 hsl hq82 h).mono fun u w ⟨h1, h2⟩ => ⟨_, ⟨h1, rfl⟩, h2⟩) ?_
 clear hfr hst
 rintro a w57 _ _ ⟨rfl, rfl⟩ hfr hst
 replace hst : St No w0 [blk w3.heap.size [sv s, .int .i64 ((s.length - r83.length : Nat) : Int)] 145, blk w0.heap.size [.int .i64 n54, .int .i64 n59, .int .i64 n64, .int .i64 n69, .int .i64 n74, .int .i64 n79, .int .i64 0, .int .i64 0, .string (⟨#[]⟩)] 30, blk w1.heap.size [lv] 31, blk w2.heap.size [.int .i64 0] 54, own lv 40 7 ((acc).map Pxy.cells)] w57 := hst
 refine wl_nil ?_
 refine wx_wl ?_
 refine wlv hfr (v_nilCheck rfl) fun a hfr => ?_
 refine wl_store 1 hfr hst rfl rfl rfl (Tryz.sizeOf3 _) rfl (Nat.le_of_ble_eq_true rfl) (ds := [.int .i64 n54, .int .i64 n59, .int .i64 n64, .int .i64 n69, .int .i64 n74, .int .i64 n79, .int .i64 n84, .int .i64 0, .string (⟨#[]⟩)]) rfl rfl ?_
 clear hfr hst
 intro a w58 hfr hst
 refine wl_nil ?_
 refine hK72 _ _ ?_
 replace hfr : Fr 98 [(0, _), (2, _), (3, _), (4, _), (5, _), (69, _), (70, _)] [{ target := .fn (.func 81) #[.pointer (some ⟨w0.heap.size, 0, none⟩), .pointer (some ⟨w1.heap.size, 0, none⟩), .pointer (some ⟨w2.heap.size, 0, none⟩)], args := #[] }] a := hfr.pick [0, 2, 3, 4, 5, 69, 70]
 refine wc_region ?_
 refine wlv hfr ((v_add rfl rfl (by decide)).asi (m' := 7) rfl) fun a hfr => ?_
 refine wlm hfr rfl fun a hfr => ?_
 refine wl_nil ?_
 refine wr_succ ?_
 refine wc_seq_region fun K74 hK74 => ?_
 refine wlv hfr ((v_lt rfl rfl).asb (b' := true) rfl) fun a hfr => ?_
 refine wl_nil (hK74 _ _ ?_)
 refine wc_seq_k fun K75 hK75 => ?_
 refine wc_cond_t hfr rfl ?_
 refine wc_skip ?_
 refine hK75 _ _ ?_
 refine wc_seq_k fun K76 hK76 => ?_
 refine wc_block ?_
 refine wc_seq_region fun K77 hK77 => ?_
 refine wlv hfr (v_index (v := .pointer (some ⟨w0.heap.size, 7, none⟩)) rfl rfl (by kernel_rfl)) fun a hfr => ?_
 refine wla hfr rfl fun a hfr => ?_
 refine wl_nil (hK77 _ _ ?_)
 refine wcx_region ?_
 refine wx_split 2 ?_
 refine wlm hfr rfl fun a hfr => ?_
 refine wlm hfr rfl fun a hfr => ?_
 refine wl_nil ?_
 rcases hq87 : rdI r83 with _ | ⟨n89, r88⟩
 ·have hdn := hd85.trans (getI_bad hq87)
  refine wx_panE (X := fun c => c = [{ v := .iface 142 (.agg #[]), recovered := false }]) 0 hfr hst rfl Tryz.call82 rfl (fun h => (number_bad w3.heap.size s r83  ((s.length - r83.length : Nat) : Int) _ rfl hs86 hsl hq87 h).mono fun e w ⟨c, h1, h2, h3⟩ => ⟨c, h1, _, h2, h3⟩) ?_
  clear hst
  rintro _ w59 e9 rfl hst
  replace hst : St No w0 [blk w0.heap.size [.int .i64 n54, .int .i64 n59, .int .i64 n64, .int .i64 n69, .int .i64 n74, .int .i64 n79, .int .i64 n84, .int .i64 0, .string (⟨#[]⟩)] 30, blk w1.heap.size [lv] 31, blk w2.heap.size [.int .i64 0] 54] w59 := hst.select [1, 2, 3] (by decide)
  exact find_panic hfr Tryz.call81 (dec1_pan _ _ _ _ _ _ _ _ _ _ _ _ _ _ _ hst) Tryz.results28 (fun w9 hst => ⟨(resAre_cell rfl (res_all (hst.get (k := 0) rfl) (Tryz.isAgg30 _) (Tryz.sizeOf30 _)) (resAre_cell rfl (res_one (hst.get (k := 1) rfl) (Tryz.isAgg31 _)) (resAre_cell rfl (res_one (hst.get (k := 2) rfl) (Tryz.isAgg54 _)) resAre_nil))), .inr ⟨hdn, rfl, hst.ext⟩⟩)
 have hd90 := hd85.trans (getI_ok hq87)
 have hs91 := (rdI_suf hq87).trans hs86
 refine wx_split 1 ?_
 refine wl_callE (R := fun u e' => u = .int .i64 n89 ∧ e' = blk w3.heap.size [sv s, .int .i64 ((s.length - r88.length : Nat) : Int)] 145) 0 hfr hst rfl (by decide) Tryz.call82 rfl (fun h => (number_ok w3.heap.size s r83 r88 n89 ((s.length - r83.length : Nat) : Int) _ rfl hs86 hsl hq87 h).mono fun u w ⟨h1, h2⟩ => ⟨_, ⟨h1, rfl⟩, h2⟩) ?_
 clear hfr hst
 rintro a w60 _ _ ⟨rfl, rfl⟩ hfr hst
 replace hst : St No w0 [blk w3.heap.size [sv s, .int .i64 ((s.length - r88.length : Nat) : Int)] 145, blk w0.heap.size [.int .i64 n54, .int .i64 n59, .int .i64 n64, .int .i64 n69, .int .i64 n74, .int .i64 n79, .int .i64 n84, .int .i64 0, .string (⟨#[]⟩)] 30, blk w1.heap.size [lv] 31, blk w2.heap.size [.int .i64 0] 54, own lv 40 7 ((acc).map Pxy.cells)] w60 := hst
 refine wl_nil ?_
 refine wx_wl ?_
 refine wlv hfr (v_nilCheck rfl) fun a hfr => ?_
 refine wl_store 1 hfr hst rfl rfl rfl (Tryz.sizeOf3 _) rfl (Nat.le_of_ble_eq_true rfl) (ds := [.int .i64 n54, .int .i64 n59, .int .i64 n64, .int .i64 n69, .int .i64 n74, .int .i64 n79, .int .i64 n84, .int .i64 n89, .string (⟨#[]⟩)]) rfl rfl ?_
 clear hfr hst
 intro a w61 hfr hst
 refine wl_nil ?_
 refine hK76 _ _ ?_
 replace hfr : Fr 98 [(0, _), (2, _), (3, _), (4, _), (5, _), (69, _), (70, _)] [{ target := .fn (.func 81) #[.pointer (some ⟨w0.heap.size, 0, none⟩), .pointer (some ⟨w1.heap.size, 0, none⟩), .pointer (some ⟨w2.heap.size, 0, none⟩)], args := #[] }] a := hfr.pick [0, 2, 3, 4, 5, 69, 70]
 refine wc_region ?_
 refine wlv hfr ((v_add rfl rfl (by decide)).asi (m' := 8) rfl) fun a hfr => ?_
 refine wlm hfr rfl fun a hfr => ?_
 refine wl_nil ?_
 refine wr_succ ?_
 refine wc_seq_region fun K78 hK78 => ?_
 refine wlv hfr ((v_lt rfl rfl).asb (b' := false) rfl) fun a hfr => ?_
 refine wl_nil (hK78 _ _ ?_)
 refine wc_seq_k fun K79 hK79 => ?_
 refine wc_cond_f hfr rfl ?_
 refine wc_exit ?_
 refine hK44 _ _ ?_
 refine wcx_seq_region fun K80 hK80 hP80 => ?_
 refine wx_split 1 ?_
 refine wlm hfr rfl fun a hfr => ?_
 refine wl_nil ?_
 rcases hq92 : dgI r88 with _ | ⟨n94, r93⟩
 ·have hdn := hd90.trans (getD32_bad hq92)
  refine wx_panE (X := fun c => c = [{ v := .iface 142 (.agg #[]), recovered := false }]) 0 hfr hst rfl Tryz.call84 rfl (fun h => (dgr_bad w3.heap.size s r88  ((s.length - r88.length : Nat) : Int) _ rfl hs91 hsl hq92 h).mono fun e w ⟨c, h1, h2, h3⟩ => ⟨c, h1, _, h2, h3⟩) ?_
  clear hst
  rintro _ w62 e9 rfl hst
  refine hP80 _ _ _ ?_
  replace hst : St No w0 [blk w0.heap.size [.int .i64 n54, .int .i64 n59, .int .i64 n64, .int .i64 n69, .int .i64 n74, .int .i64 n79, .int .i64 n84, .int .i64 n89, .string (⟨#[]⟩)] 30, blk w1.heap.size [lv] 31, blk w2.heap.size [.int .i64 0] 54] w62 := hst.select [1, 2, 3] (by decide)
  exact find_panic hfr Tryz.call81 (dec1_pan _ _ _ _ _ _ _ _ _ _ _ _ _ _ _ hst) Tryz.results28 (fun w9 hst => ⟨(resAre_cell rfl (res_all (hst.get (k := 0) rfl) (Tryz.isAgg30 _) (Tryz.sizeOf30 _)) (resAre_cell rfl (res_one (hst.get (k := 1) rfl) (Tryz.isAgg31 _)) (resAre_cell rfl (res_one (hst.get (k := 2) rfl) (Tryz.isAgg54 _)) resAre_nil))), .inr ⟨hdn, rfl, hst.ext⟩⟩)
 have hd95 := hd90.trans (getD32_ok hq92)
 have hs96 := (dgI_suf hq92).trans hs91
 refine wx_split 1 ?_
 refine wl_callE (R := fun u e' => u = sv n94 ∧ e' = blk w3.heap.size [sv s, .int .i64 ((s.length - r93.length : Nat) : Int)] 145) 0 hfr hst rfl (by decide) Tryz.call84 rfl (fun h => (dgr_ok w3.heap.size s r88 r93 n94 ((s.length - r88.length : Nat) : Int) _ rfl hs91 hsl hq92 h).mono fun u w ⟨h1, h2⟩ => ⟨_, ⟨h1, rfl⟩, h2⟩) ?_
 clear hfr hst
 rintro a w63 _ _ ⟨rfl, rfl⟩ hfr hst
 replace hst : St No w0 [blk w3.heap.size [sv s, .int .i64 ((s.length - r93.length : Nat) : Int)] 145, blk w0.heap.size [.int .i64 n54, .int .i64 n59, .int .i64 n64, .int .i64 n69, .int .i64 n74, .int .i64 n79, .int .i64 n84, .int .i64 n89, .string (⟨#[]⟩)] 30, blk w1.heap.size [lv] 31, blk w2.heap.size [.int .i64 0] 54, own lv 40 7 ((acc).map Pxy.cells)] w63 := hst
 refine wl_nil ?_
 refine wx_wl ?_
 refine wlv hfr (v_fieldAddr (v := .pointer (some ⟨w0.heap.size, 8, none⟩)) rfl (by kernel_rfl)) fun a hfr => ?_
 refine wl_store 1 hfr hst rfl rfl rfl (Tryz.sizeOf9 _) rfl (Nat.le_of_ble_eq_true rfl) (ds := [.int .i64 n54, .int .i64 n59, .int .i64 n64, .int .i64 n69, .int .i64 n74, .int .i64 n79, .int .i64 n84, .int .i64 n89, sv n94]) rfl rfl ?_
 clear hfr hst
 intro a w64 hfr hst
 refine wl_nil (hK80 _ _ ?_)
 replace hfr : Fr 98 [(0, _), (2, _), (3, _), (4, _), (5, _)] [{ target := .fn (.func 81) #[.pointer (some ⟨w0.heap.size, 0, none⟩), .pointer (some ⟨w1.heap.size, 0, none⟩), .pointer (some ⟨w2.heap.size, 0, none⟩)], args := #[] }] a := hfr.pick [0, 2, 3, 4, 5]
 refine wc_seq_k fun K81 hK81 => ?_
 refine wc_seq_region fun K82 hK82 => ?_
 refine wlm hfr rfl fun a hfr => ?_
 refine wlv hfr (v_nilCheck rfl) fun a hfr => ?_
 refine wlv hfr (v_fieldAddr (v := .pointer (some ⟨w3.heap.size, 1, none⟩)) rfl (by kernel_rfl)) fun a hfr => ?_
 refine wlv hfr (v_load_blk1 (hst.get (k := 0) rfl) rfl (Tryz.isAgg3 _) rfl) fun a hfr => ?_
 refine wlm hfr rfl fun a hfr => ?_
 refine wlv hfr (v_len_str rfl rfl (Tryz.runUnderlying9 _)) fun a hfr => ?_
 refine wlv hfr (v_lt rfl rfl) fun a hfr => ?_
 refine wlm hfr rfl fun a hfr => ?_
 rcases Bool.eq_false_or_eq_true (decide (((s.length - r93.length : Nat) : Int) < (s.length : Int))) with hb97 | hb97
 ·rw [hb97] at hfr
  try simp only [qz] at hb97
  have hdn := hd95.trans (shut_no1 (by intro h0; have h1 := congrArg List.length h0; rw [List.length_nil] at h1; omega))
  refine wln hfr fun a hfr => ?_
  refine wln hfr fun a hfr => ?_
  refine wln hfr fun a hfr => ?_
  refine wln hfr fun a hfr => ?_
  refine wlv hfr (v_pick_t rfl rfl) fun a hfr => ?_
  refine wl_nil (hK82 _ _ ?_)
  replace hfr : Fr 98 [(2, _), (3, _), (4, _), (93, _)] [{ target := .fn (.func 81) #[.pointer (some ⟨w0.heap.size, 0, none⟩), .pointer (some ⟨w1.heap.size, 0, none⟩), .pointer (some ⟨w2.heap.size, 0, none⟩)], args := #[] }] a := hfr.pick [2, 3, 4, 93]
  replace hst : St No w0 [_, _, _, _] w64 := hst.mask [false, true, true, true, true]
  refine wc_cond_t hfr rfl ?_
  refine wcx_region ?_
  refine wx_split 2 ?_
  refine wlv hfr (v_build (v := .agg #[]) rfl (by kernel_rfl)) fun a hfr => ?_
  refine wlv hfr (v_makeIface rfl Tryz.underlying142) fun a hfr => ?_
  refine wl_nil ?_
  refine wx_panic hfr rfl ?_
  replace hst : St No w0 [blk w0.heap.size [.int .i64 n54, .int .i64 n59, .int .i64 n64, .int .i64 n69, .int .i64 n74, .int .i64 n79, .int .i64 n84, .int .i64 n89, sv n94] 30, blk w1.heap.size [lv] 31, blk w2.heap.size [.int .i64 0] 54] w64 := hst.select [0, 1, 2] (by decide)
  exact find_panic hfr Tryz.call81 (dec1_pan _ _ _ _ _ _ _ _ _ _ _ _ _ _ _ hst) Tryz.results28 (fun w9 hst => ⟨(resAre_cell rfl (res_all (hst.get (k := 0) rfl) (Tryz.isAgg30 _) (Tryz.sizeOf30 _)) (resAre_cell rfl (res_one (hst.get (k := 1) rfl) (Tryz.isAgg31 _)) (resAre_cell rfl (res_one (hst.get (k := 2) rfl) (Tryz.isAgg54 _)) resAre_nil))), .inr ⟨hdn, rfl, hst.ext⟩⟩)
 rw [hb97] at hfr
 try simp only [qz] at hb97
 have hrn : r93 = [] := List.eq_nil_of_length_eq_zero (by have := hs96.length_le; omega)
 refine wly hfr (v_load_all (hst.get (k := 1) rfl) rfl (Tryz.isAgg30 _) (Tryz.sizeOf30 _)) fun a hfr => ?_
 refine wly hfr (v_load_blk1 (hst.get (k := 2) rfl) rfl (Tryz.isAgg31 _) rfl) fun a hfr => ?_
 refine wl_callpy hfr hst (by decide) rfl (by decide) rfl Tryz.call19 rfl (formed_H (x := (⟨n54, n59, n64, n69, n74, n79, n84, n89, n94⟩ : Wsh)) (ps := acc) (hst.ownAt (i := 4) rfl)) ?_
 clear hfr hst
 intro a w65 hfr hst
 refine wly hfr (v_not rfl) fun a hfr => ?_
 refine wlv hfr (v_pick_f rfl rfl) fun a hfr => ?_
 refine wl_nil (hK82 _ _ ?_)
 replace hfr : Fr 98 [(2, _), (3, _), (4, _), (93, _)] [{ target := .fn (.func 81) #[.pointer (some ⟨w0.heap.size, 0, none⟩), .pointer (some ⟨w1.heap.size, 0, none⟩), .pointer (some ⟨w2.heap.size, 0, none⟩)], args := #[] }] a := hfr.pick [2, 3, 4, 93]
 replace hst : St No w0 [_, _, _, _] w65 := hst.mask [false, true, true, true, true]
 refine wc_cond hfr rfl (fun hc98 => ?_) (fun hc98 => ?_)
 ·rw [hc98] at hfr
  try simp only [qz] at hc98
  have hdn := hd95.trans (shut_no2 hc98)
  refine wcx_region ?_
  refine wx_split 2 ?_
  refine wlv hfr (v_build (v := .agg #[]) rfl (by kernel_rfl)) fun a hfr => ?_
  refine wlv hfr (v_makeIface rfl Tryz.underlying142) fun a hfr => ?_
  refine wl_nil ?_
  refine wx_panic hfr rfl ?_
  replace hst : St No w0 [blk w0.heap.size [.int .i64 n54, .int .i64 n59, .int .i64 n64, .int .i64 n69, .int .i64 n74, .int .i64 n79, .int .i64 n84, .int .i64 n89, sv n94] 30, blk w1.heap.size [lv] 31, blk w2.heap.size [.int .i64 0] 54] w65 := hst.select [0, 1, 2] (by decide)
  exact find_panic hfr Tryz.call81 (dec1_pan _ _ _ _ _ _ _ _ _ _ _ _ _ _ _ hst) Tryz.results28 (fun w9 hst => ⟨(resAre_cell rfl (res_all (hst.get (k := 0) rfl) (Tryz.isAgg30 _) (Tryz.sizeOf30 _)) (resAre_cell rfl (res_one (hst.get (k := 1) rfl) (Tryz.isAgg31 _)) (resAre_cell rfl (res_one (hst.get (k := 2) rfl) (Tryz.isAgg54 _)) resAre_nil))), .inr ⟨hdn, rfl, hst.ext⟩⟩)
 rw [hc98] at hfr
 try simp only [qz] at hc98
 have hd8 := hd95.trans (shut_yes hrn hc98)
 refine wc_skip ?_
 refine hK81 _ _ ?_
 refine wc_seq_k fun K83 hK83 => ?_
 refine wc_of_dr (by kernel_rfl) (dr_of_wd (by kernel_rfl) fun w66 hxz => ?_)
 replace hst := hst.grow hxz
 refine wd_sub (k := 0) 3 [1, 2] hfr (by kernel_rfl) (by kernel_rfl) (by kernel_rfl) (by rfl) ?_
 replace hfr : Fr 98 [(2, _), (3, _), (4, _), (93, _)] [{ target := .fn (.func 81) #[.pointer (some ⟨w0.heap.size, 0, none⟩), .pointer (some ⟨w1.heap.size, 0, none⟩), .pointer (some ⟨w2.heap.size, 0, none⟩)], args := #[] }] a := hfr.pick [2, 3, 4, 93]
 replace hst : St No w0 [blk w0.heap.size [.int .i64 n54, .int .i64 n59, .int .i64 n64, .int .i64 n69, .int .i64 n74, .int .i64 n79, .int .i64 n84, .int .i64 n89, sv n94] 30, blk w1.heap.size [lv] 31, blk w2.heap.size [.int .i64 0] 54, own lv 40 7 ((acc).map Pxy.cells)] w66 := hst.select [0, 1, 2, 3] (by decide)
 refine wc_phases_set2 [2] (fun q => if q = 2 then blk w0.heap.size [.int .i64 n54, .int .i64 n59, .int .i64 n64, .int .i64 n69, .int .i64 n74, .int .i64 n79, .int .i64 n84, .int .i64 n89, sv n94] 30 else join []) (fun q => if q = 2 then blk w0.heap.size [.int .i64 n54, .int .i64 n59, .int .i64 n64, .int .i64 n69, .int .i64 n74, .int .i64 n79, .int .i64 n84, .int .i64 n89, sv n94] 30 else join []) 3 [[], [], [0]] (fun i => match i with | 0 => pv (.agg #[.int .i64 n54, .int .i64 n59, .int .i64 n64, .int .i64 n69, .int .i64 n74, .int .i64 n79, .int .i64 n84, .int .i64 n89, sv n94]) | 1 => pv (lv) | 2 => fun v E => v = undef ∧ E = [] | _ => fun _ _ => False) (by intro q; by_cases h2 : q = 2; (subst h2; rfl); simp only [h2, if_false]) hfr (H := [blk w1.heap.size [lv] 31, blk w2.heap.size [.int .i64 0] 54, own lv 40 7 ((acc).map Pxy.cells)]) hst (by kernel_rfl) (by kernel_rfl) (by kernel_rfl) (by kernel_rfl) (by decide) (by decide) ?_ ?_ ?_ ?_ ?_ ?_
 ·intro i v E h
  match i, h with
  | 0, _ => exact by decide
  | 1, _ => exact by decide
  | 2, _ => exact by decide
  | i + 3, h => exact h.elim
 ·intro q v E hq h
  simp only [List.mem_cons, List.not_mem_nil, or_false] at hq
  rcases hq with rfl <;> exact h
 ·intro q hq
  simp only [List.mem_cons, List.not_mem_nil, or_false] at hq
  rcases hq with rfl <;> exact ⟨rfl, rfl⟩
 ·intro i hi hiq e
  match i, hi, hiq with
  | 0, _, _ =>
   intro w hst
   exact OpV.g (v_load_all (same_ok (F := fun q => if q = 2 then blk w0.heap.size [.int .i64 n54, .int .i64 n59, .int .i64 n64, .int .i64 n69, .int .i64 n74, .int .i64 n79, .int .i64 n84, .int .i64 n89, sv n94] 30 else join []) (q := 2) (hst.get (k := 0) rfl)) rfl (Tryz.isAgg30 _) (Tryz.sizeOf30 _))
  | 1, _, _ =>
   intro w hst
   exact OpV.g (v_load_blk1 (hst.get (k := 1) rfl) rfl (Tryz.isAgg31 _) rfl)
  | 2, _, h => exact absurd (by decide) h
 ·intro q hq
  simp only [List.mem_cons, List.not_mem_nil, or_false] at hq
  rcases hq with rfl
  ·rintro _ _ ⟨rfl, rfl⟩
   intro w h
   exact r_storeU (cs := [.int .i64 n54, .int .i64 n59, .int .i64 n64, .int .i64 n69, .int .i64 n74, .int .i64 n79, .int .i64 n84, .int .i64 n89, sv n94]) (ds := [.int .i64 n54, .int .i64 n59, .int .i64 n64, .int .i64 n69, .int .i64 n74, .int .i64 n79, .int .i64 n84, .int .i64 n89, sv n94]) rfl rfl h (Tryz.sizeOf30 _) rfl (Nat.le_of_ble_eq_true rfl) rfl
 clear hfr hst
 rintro _ _ ⟨rfl, rfl⟩ _ _ ⟨rfl, rfl⟩ a w67 hfr hst
 replace hfr : Fr 98 [(96, _), (97, _), (2, _), (3, _), (4, _), (93, _)] [{ target := .fn (.func 81) #[.pointer (some ⟨w0.heap.size, 0, none⟩), .pointer (some ⟨w1.heap.size, 0, none⟩), .pointer (some ⟨w2.heap.size, 0, none⟩)], args := #[] }] a := hfr
 replace hst : St No w0 [blk w0.heap.size [.int .i64 n54, .int .i64 n59, .int .i64 n64, .int .i64 n69, .int .i64 n74, .int .i64 n79, .int .i64 n84, .int .i64 n89, sv n94] 30, blk w1.heap.size [lv] 31, blk w2.heap.size [.int .i64 0] 54, own lv 40 7 ((acc).map Pxy.cells)] w67 := hst
 refine wl_nil ?_
 refine wd_lin (k := 3) 5 [4] (by kernel_rfl) (by kernel_rfl) (by kernel_rfl) ?_
 refine wl_store_sl 1 hfr hst (hst.ownAt (i := 3) rfl) rfl rfl rfl (Tryz.sizeOf31 _) (Nat.le_of_ble_eq_true rfl) (ds := [lv]) rfl rfl ?_
 clear hfr hst
 intro a w68 hfr hst
 refine wl_store 2 hfr hst rfl rfl rfl (Tryz.sizeOf54 _) rfl (Nat.le_of_ble_eq_true rfl) (ds := [.int .i64 0]) rfl rfl ?_
 clear hfr hst
 intro a w69 hfr hst
 refine wl_nil ?_
 refine wd_end (by kernel_rfl) ?_
 refine hK83 _ _ ?_
 refine wc_ret ?_
 refine find_ret (vs := [.agg #[.int .i64 n54, .int .i64 n59, .int .i64 n64, .int .i64 n69, .int .i64 n74, .int .i64 n79, .int .i64 n84, .int .i64 n89, sv n94], lv, .int .i64 0]) hfr Tryz.call81 (dec1_ret _ _ _ _) Tryz.results28 (fun w9 hx => ?_)
 have hst := hst.grow hx
 exact ⟨(resAre_cell rfl (res_all (hst.get (k := 0) rfl) (Tryz.isAgg30 _) (Tryz.sizeOf30 _)) (resAre_cell rfl (res_one (hst.get (k := 1) rfl) (Tryz.isAgg31 _)) (resAre_cell rfl (res_one (hst.get (k := 2) rfl) (Tryz.isAgg54 _)) resAre_nil))), .inl ⟨_, _, hd8, _, rfl, trivial, hst.ext, St.out (H := []) (hst.select [3] (by decide))⟩⟩
end Go.Proofs.YtmmfieceinmloaaGreatDoor
namespace Go.Proofs.YtmmfieceinmloaaGreatDoor
open Go.RowKit Go.PW
set_option linter.unusedVariables false
set_option linter.unusedSimpArgs false
set_option maxRecDepth 4000
theorem decode_yes {s : By} {x : Wsh} {ps : List Pxy} {w0 : World} (hsl : s.length ≤ 1000000) (h : decodeH s = some (x, ps)) : Ret Tryz.prog 28 #[sv s] w0 (MemR w0 (fun lv : Value => .tuple #[.agg x.cells.toArray, lv, .int .i64 0]) (fun lv => [own lv 40 7 (ps.map Pxy.cells)]) (fun _ => True)) := by
 refine (decode_run s w0 hsl).mono fun v w hR => ?_
 rcases hR with ⟨x2, ps2, h2, hm⟩ | ⟨h2, _⟩
 ·rw [h] at h2
  simp only [Option.some.injEq, Prod.mk.injEq] at h2
  obtain ⟨rfl, rfl⟩ := h2
  exact hm
 ·rw [h] at h2; cases h2
theorem encode_yes {x : Wsh} {lv : Value} {ps : List Pxy} {s : By} {w0 : World} (hlv : SlAt w0 lv 7 (ps.map Pxy.cells)) (h : encodeH x ps = some s) : Ret Tryz.prog 26 #[.agg #[.int .i64 x.signer, .int .i64 x.holder, .int .i64 x.rf, .int .i64 x.rt, .int .i64 x.carrier, .int .i64 x.serial, .int .i64 x.sf, .int .i64 x.st, sv x.sig], lv] w0 fun v w => v = .tuple #[sv s, .int .i64 0] ∧ Ext No w0 w := by
 have := encode_ok x lv ps w0 hlv
 rw [h] at this
 exact this
theorem encode_len {x : Wsh} {ps : List Pxy} {s : By} (h : encodeH x ps = some s) : s.length ≤ 20000 ∧ 0 < s.length := by
 obtain ⟨h1, h2, h3, rfl⟩ := encode_some.1 h
 have h4 := formed_len h1
 have h5 := texts_len h3
 have h6 := (putI_len (ps.length : Int))
 have h7 : x.content.length ≤ 81 := wsh_clen x
 unfold Wsh.text
 simp only [List.length_append]
 omega
theorem ret_bool {f : FuncId} {args : Array Value} {w : World} {b c : Bool} (h : b = c) (hr : Ret Tryz.prog f args w fun v w' => v = .bool b ∧ Ext No w w') : Ret Tryz.prog f args w fun v w' => v = .bool c ∧ Ext No w w' := by subst h; exact hr
theorem why_is {kv lv : Value} {ks : List By} {x : Wsh} {ps : List Pxy} {n t re ix : Int} {w0 : World} (hkv : SlAt w0 kv 1 (ks.map fun s => [sv s])) (hlv : SlAt w0 lv 7 (ps.map Pxy.cells)) (hk0 : (blk 0 (kOf.map wv) 239).ok w0) (h : whyH ks x ps n t = (re, ix)) :
  Ret Tryz.prog 15 #[kv, .agg #[.int .i64 x.signer, .int .i64 x.holder, .int .i64 x.rf, .int .i64 x.rt, .int .i64 x.carrier, .int .i64 x.serial, .int .i64 x.sf, .int .i64 x.st, sv x.sig], lv, .int .i64 n, .int .i64 t] w0 fun v w => v = .tuple #[.int .i64 re, .int .i64 ix] ∧ Ext No w0 w := by
 have := why_ok kv lv ks x ps n t w0 hkv hlv hk0
 rw [h] at this
 exact this
theorem valid_is {kv lv : Value} {ks : List By} {x : Wsh} {ps : List Pxy} {n t : Int} {b : Bool} {w0 : World} (hkv : SlAt w0 kv 1 (ks.map fun s => [sv s])) (hlv : SlAt w0 lv 7 (ps.map Pxy.cells)) (hk0 : (blk 0 (kOf.map wv) 239).ok w0) (h : validH ks x ps n t = b) :
  Ret Tryz.prog 17 #[kv, .agg #[.int .i64 x.signer, .int .i64 x.holder, .int .i64 x.rf, .int .i64 x.rt, .int .i64 x.carrier, .int .i64 x.serial, .int .i64 x.sf, .int .i64 x.st, sv x.sig], lv, .int .i64 n, .int .i64 t] w0 fun v w => v = .bool b ∧ Ext No w0 w := by
 have := valid_ok kv lv ks x ps n t w0 hkv hlv hk0
 rw [h] at this
 exact this
def exW : Wsh := (wishedW 200).sealed (keyH 2)
def ex501 : Wsh := (wishedW 501).sealed (keyH 2)
def exP : Pxy := (grantedP 500).sealed (keyH 1)
def exO : Wsh := { exW with carrier := 4 }
def exL : Pxy := { exP with st := 600 }
def exZ : Wsh := ⟨0, 0, 0, 0, 0, 0, 0, 0, []⟩
def exC : By := accH (keyH 3) 1100 1
theorem exW_sig : exW.sig.length = 32 := sealH_len _ _
theorem exP_sig : exP.sig.length = 32 := sealH_len _ _
theorem exW_formed : formedH exW [exP] = true := by decide
theorem exZ_formed : formedH exZ [] = false := by decide
def exS : By := putI 1 ++ ([exP].flatMap Pxy.text ++ exW.text)
theorem ex_enc : encodeH exW [exP] = some exS := encode_some.2 ⟨exW_formed, exW_sig, fun p hp => by rw [List.mem_singleton.1 hp]; exact exP_sig, rfl⟩
theorem ex_chk3 : checksH (keyH 3) 1100 1 exC = true := by unfold checksH exC; rw [decide_eq_true rfl]; decide
theorem ex_chk4 : checksH (keyH 4) 1100 1 exC = false := by decide +kernel
theorem ex_why0 : whyH keysH exW [exP] 1100 150 = (0, -1) := by decide +kernel
theorem ex_why1 : whyH keysH exW [exP] 1199 199 = (0, -1) := by decide +kernel
theorem ex_why2 : whyH keysH exW [exP] 1200 150 = (3, -1) := by decide +kernel
theorem ex_why3 : whyH keysH exW [exP] 1100 200 = (2, -1) := by decide +kernel
theorem ex_why4 : whyH keysH exW [exP] 1200 200 = (2, -1) := by decide +kernel
theorem ex_why5 : whyH keysH exW [] 1100 150 = (4, -1) := by decide +kernel
theorem ex_why6 : whyH keysH ex501 [exP] 1100 150 = (5, -1) := by decide +kernel
theorem ex_why7 : whyH keysH exO [exP] 1100 150 = (6, -1) := by decide +kernel
theorem ex_why8 : whyH keysH exW [exL] 1100 150 = (6, 0) := by decide +kernel
theorem ex_why9 : whyH keysH exZ [] 0 0 = (1, -1) := by decide +kernel
/-- dialtone/dialtonelaw15.is -/
theorem is_ok (x : Wsh) (lv : Value) (ps : List Pxy) (n t re ix : Int) (w0 : World) (hlv : SlAt w0 lv 7 (ps.map Pxy.cells)) (hk0 : (blk 0 (kOf.map wv) 239).ok w0) (h : whyH keysH x ps n t = (re, ix)) :
  Ret Tryz.prog 52 #[.agg #[.int .i64 x.signer, .int .i64 x.holder, .int .i64 x.rf, .int .i64 x.rt, .int .i64 x.carrier, .int .i64 x.serial, .int .i64 x.sf, .int .i64 x.st, sv x.sig], lv, .int .i64 n, .int .i64 t, .int .i64 re, .int .i64 ix] w0 fun v w => v = .bool true ∧ Ext No w0 w := by
 refine ret_of Tryz.func52 rfl Tryz.ntmps52 (Nat.le_of_ble_eq_true rfl) fun a hfr => ?_
 replace hfr : Fr 43 [(0, _), (1, _), (2, _), (3, _), (4, _), (5, _)] [] a := hfr
 replace hst : St No w0 [] w0 := St.init w0
 refine wc_seq_region fun K1 hK1 => ?_
 refine wl_box hfr hst (by decide) rfl (cs := [.int .i64 x.signer, .int .i64 x.holder, .int .i64 x.rf, .int .i64 x.rt, .int .i64 x.carrier, .int .i64 x.serial, .int .i64 x.sf, .int .i64 x.st, sv x.sig]) rfl ?_
 clear hfr hst
 intro a w1 hfr hst
 refine wla hfr rfl fun a hfr => ?_
 refine wl_nil (hK1 _ _ ?_)
 refine wc_seq_k fun K2 hK2 => ?_
 refine wc_of_dr (by kernel_rfl) (dr_of_wd (by kernel_rfl) fun w2 hxz => ?_)
 replace hst := hst.grow hxz
 refine wd_sub (k := 0) 5 [0, 1, 2, 3, 4] hfr (by kernel_rfl) (by kernel_rfl) (by kernel_rfl) (by rfl) ?_
 replace hfr : Fr 43 [(0, _), (1, _), (2, _), (3, _), (4, _), (5, _), (6, _), (12, _)] [] a := hfr.pick [0, 1, 2, 3, 4, 5, 6, 12]
 refine wc_phases_q [0] (fun i => match i with | 0 => pm (fun v : Value => v) (fun v => [own v 9 1 (keysH.map fun s => [sv s])]) (fun _ => True) | _ => fun _ _ => False) 5 [[], [], [], [], []] [undef, .agg #[.int .i64 x.signer, .int .i64 x.holder, .int .i64 x.rf, .int .i64 x.rt, .int .i64 x.carrier, .int .i64 x.serial, .int .i64 x.sf, .int .i64 x.st, sv x.sig], lv, .int .i64 n, .int .i64 t] hfr hst (by kernel_rfl) (by kernel_rfl) (by kernel_rfl) ?_ ?_ ?_
 ·intro i hi hiq
  match i, hi, hiq with
  | 0, _, h => exact absurd (by simp) h
  | 1, _, _ =>
   intro w hst
   exact OpV.g (v_load_all (hst.get (k := 0) rfl) rfl (Tryz.isAgg30 _) (Tryz.sizeOf30 _))
  | 2, _, _ =>
   intro w hst
   exact OpV.g (v_move rfl)
  | 3, _, _ =>
   intro w hst
   exact OpV.g (v_move rfl)
  | 4, _, _ =>
   intro w hst
   exact OpV.g (v_move rfl)
 ·intro i hi
  simp only [List.mem_cons, List.not_mem_nil, or_false] at hi
  subst hi
  ·intro w hst
   exact g_callm Tryz.call13 rfl (keys_ok _)
 clear hfr hst
 rintro kv1 _ ⟨_, rfl, -, rfl⟩ a w3 hfr hst
 replace hfr : Fr 43 [(16, _), (17, .agg #[.int .i64 x.signer, .int .i64 x.holder, .int .i64 x.rf, .int .i64 x.rt, .int .i64 x.carrier, .int .i64 x.serial, .int .i64 x.sf, .int .i64 x.st, sv x.sig]), (18, lv), (19, .int .i64 n), (20, .int .i64 t), (0, _), (1, _), (2, _), (3, _), (4, _), (5, _), (6, _), (12, _)] [] a := hfr
 replace hst : St No w0 [_, _] w3 := hst
 refine wl_nil ?_
 refine wd_lin (k := 5) 7 [6] (by kernel_rfl) (by kernel_rfl) (by kernel_rfl) ?_
 refine wl_callp hfr hst (by decide) Tryz.call15 rfl (why_is (hst.ownAt (i := 0) rfl) (hst.arg hlv) (hst.keepb hk0) h) ?_
 clear hfr hst
 intro a w4 hfr hst
 refine wlm hfr rfl fun a hfr => ?_
 refine wl_nil ?_
 refine wd_sub (k := 7) 10 [8, 9] hfr (by kernel_rfl) (by kernel_rfl) (by kernel_rfl) (by rfl) ?_
 replace hfr : Fr 43 [(0, _), (1, _), (2, _), (3, _), (4, _), (5, _), (6, _), (12, _), (16, _), (17, _), (18, _), (19, _), (20, _), (21, _), (15, _)] [] a := hfr.pick [0, 1, 2, 3, 4, 5, 6, 12, 16, 17, 18, 19, 20, 21, 15]
 refine wc_phases_q [] (fun i => match i with | _ => fun _ _ => False) 3 [[], [], [0]] [.int .i64 re, .int .i64 ix, .int .i64 re] hfr hst (by kernel_rfl) (by kernel_rfl) (by kernel_rfl) ?_ ?_ ?_
 ·intro i hi hiq
  match i, hi, hiq with
  | 0, _, _ =>
   intro w hst
   exact OpV.g (v_extract rfl rfl)
  | 1, _, _ =>
   intro w hst
   exact OpV.g (v_extract rfl rfl)
  | 2, _, _ =>
   intro w hst
   exact OpV.g (v_assign rfl)
 ·intro i hi
  exact absurd hi (by simp)
 clear hfr hst
 intro  a w5 hfr hst
 replace hfr : Fr 43 [(22, .int .i64 re), (23, .int .i64 ix), (13, .int .i64 re), (0, _), (1, _), (2, _), (3, _), (4, _), (5, _), (6, _), (12, _), (16, _), (17, _), (18, _), (19, _), (20, _), (21, _), (15, _)] [] a := hfr
 refine wl_nil ?_
 refine wd_lin (k := 10) 11 [10] (by kernel_rfl) (by kernel_rfl) (by kernel_rfl) ?_
 refine wla hfr rfl fun a hfr => ?_
 refine wl_nil ?_
 refine wd_end (by kernel_rfl) ?_
 refine hK2 _ _ ?_
 replace hfr : Fr 43 [(1, _), (2, _), (3, _), (4, _), (5, _), (6, _), (12, _), (13, _), (14, _)] [] a := hfr.pick [1, 2, 3, 4, 5, 6, 12, 13, 14]
 replace hst : St No w0 [_] w5 := hst.mask [false, true]
 refine wc_seq_k fun K3 hK3 => ?_
 refine wc_of_dr (by kernel_rfl) (dr_of_wd (by kernel_rfl) fun w6 hxz => ?_)
 replace hst := hst.grow hxz
 refine wd_sub (k := 0) 2 [0, 1] hfr (by kernel_rfl) (by kernel_rfl) (by kernel_rfl) (by rfl) ?_
 replace hfr : Fr 43 [(1, _), (2, _), (3, _), (4, _), (5, _), (6, _), (12, _), (13, _), (14, _)] [] a := hfr.pick [1, 2, 3, 4, 5, 6, 12, 13, 14]
 refine wc_phases_q [] (fun i => match i with | _ => fun _ _ => False) 2 [[], []] [.int .i64 re, .int .i64 re] hfr hst (by kernel_rfl) (by kernel_rfl) (by kernel_rfl) ?_ ?_ ?_
 ·intro i hi hiq
  match i, hi, hiq with
  | 0, _, _ =>
   intro w hst
   exact OpV.g (v_move rfl)
  | 1, _, _ =>
   intro w hst
   exact OpV.g (v_move rfl)
 ·intro i hi
  exact absurd hi (by simp)
 clear hfr hst
 intro  a w7 hfr hst
 replace hfr : Fr 43 [(24, .int .i64 re), (25, .int .i64 re), (1, _), (2, _), (3, _), (4, _), (5, _), (6, _), (12, _), (13, _), (14, _)] [] a := hfr
 refine wl_nil ?_
 refine wd_lin (k := 2) 4 [3] (by kernel_rfl) (by kernel_rfl) (by kernel_rfl) ?_
 refine wlv hfr ((v_eq rfl rfl).asb (b' := true) (by exact decide_eq_true rfl)) fun a hfr => ?_
 refine wlm hfr rfl fun a hfr => ?_
 refine wl_nil ?_
 refine wd_sub (k := 4) 6 [4, 5] hfr (by kernel_rfl) (by kernel_rfl) (by kernel_rfl) (by rfl) ?_
 replace hfr : Fr 43 [(1, _), (2, _), (3, _), (4, _), (5, _), (6, _), (12, _), (13, _), (14, _), (24, _), (25, _), (26, _), (27, _)] [] a := hfr.pick [1, 2, 3, 4, 5, 6, 12, 13, 14, 24, 25, 26, 27]
 refine wc_phases_q [] (fun i => match i with | _ => fun _ _ => False) 2 [[], []] [.int .i64 ix, .int .i64 ix] hfr hst (by kernel_rfl) (by kernel_rfl) (by kernel_rfl) ?_ ?_ ?_
 ·intro i hi hiq
  match i, hi, hiq with
  | 0, _, _ =>
   intro w hst
   exact OpV.g (v_move rfl)
  | 1, _, _ =>
   intro w hst
   exact OpV.g (v_move rfl)
 ·intro i hi
  exact absurd hi (by simp)
 clear hfr hst
 intro  a w8 hfr hst
 replace hfr : Fr 43 [(28, .int .i64 ix), (29, .int .i64 ix), (1, _), (2, _), (3, _), (4, _), (5, _), (6, _), (12, _), (13, _), (14, _), (24, _), (25, _), (26, _), (27, _)] [] a := hfr
 refine wl_nil ?_
 refine wd_lin (k := 6) 9 [8] (by kernel_rfl) (by kernel_rfl) (by kernel_rfl) ?_
 refine wly hfr ((v_eq rfl rfl).asb (b' := true) (by exact decide_eq_true rfl)) fun a hfr => ?_
 refine wlv hfr (v_pick_t rfl rfl) fun a hfr => ?_
 refine wlm hfr rfl fun a hfr => ?_
 refine wl_nil ?_
 refine wd_sub (k := 9) 17 [14, 16] hfr (by kernel_rfl) (by kernel_rfl) (by kernel_rfl) (by rfl) ?_
 replace hfr : Fr 43 [(1, _), (2, _), (3, _), (4, _), (5, _), (6, _), (12, _), (13, _), (14, _), (24, _), (25, _), (26, _), (27, _), (28, _), (29, _), (30, _), (31, _), (32, _)] [] a := hfr.pick [1, 2, 3, 4, 5, 6, 12, 13, 14, 24, 25, 26, 27, 28, 29, 30, 31, 32]
 refine wc_phases_q [0] (fun i => match i with | 0 => pm (fun v : Value => v) (fun v => [own v 9 1 (keysH.map fun s => [sv s])]) (fun _ => True) | _ => fun _ _ => False) 8 [[], [], [], [], [], [0, 1, 2, 3, 4], [], [6]] [undef, .agg #[.int .i64 x.signer, .int .i64 x.holder, .int .i64 x.rf, .int .i64 x.rt, .int .i64 x.carrier, .int .i64 x.serial, .int .i64 x.sf, .int .i64 x.st, sv x.sig], lv, .int .i64 n, .int .i64 t, .bool (decide (re = 0)), .int .i64 re, .bool (decide (re = 0))] hfr hst (by kernel_rfl) (by kernel_rfl) (by kernel_rfl) ?_ ?_ ?_
 ·intro i hi hiq
  match i, hi, hiq with
  | 0, _, h => exact absurd (by simp) h
  | 1, _, _ =>
   intro w hst
   exact OpV.g (v_load_all (hst.get (k := 0) rfl) rfl (Tryz.isAgg30 _) (Tryz.sizeOf30 _))
  | 2, _, _ =>
   intro w hst
   exact OpV.g (v_move rfl)
  | 3, _, _ =>
   intro w hst
   exact OpV.g (v_move rfl)
  | 4, _, _ =>
   intro w hst
   exact OpV.g (v_move rfl)
  | 5, _, _ =>
   rintro kv2 _ ⟨_, rfl, -, rfl⟩
   intro w hst
   exact g_callp Tryz.call17 rfl (valid_is (hst.ownAt (i := 0) rfl) (hst.arg hlv) (hst.keepb hk0) (by unfold validH; rw [h]))
  | 6, _, _ =>
   intro w hst
   exact OpV.g (v_move rfl)
  | 7, _, _ =>
   intro w hst
   exact OpV.g (v_eq rfl rfl)
 ·intro i hi
  simp only [List.mem_cons, List.not_mem_nil, or_false] at hi
  subst hi
  ·intro w hst
   exact g_callm Tryz.call13 rfl (keys_ok _)
 clear hfr hst
 rintro kv2 _ ⟨_, rfl, -, rfl⟩ a w9 hfr hst
 replace hfr : Fr 43 [(33, _), (34, .agg #[.int .i64 x.signer, .int .i64 x.holder, .int .i64 x.rf, .int .i64 x.rt, .int .i64 x.carrier, .int .i64 x.serial, .int .i64 x.sf, .int .i64 x.st, sv x.sig]), (35, lv), (36, .int .i64 n), (37, .int .i64 t), (38, .bool (decide (re = 0))), (39, .int .i64 re), (40, .bool (decide (re = 0))), (1, _), (2, _), (3, _), (4, _), (5, _), (6, _), (12, _), (13, _), (14, _), (24, _), (25, _), (26, _), (27, _), (28, _), (29, _), (30, _), (31, _), (32, _)] [] a := hfr
 replace hst : St No w0 [_, _] w9 := hst
 refine wl_nil ?_
 refine wd_lin (k := 17) 20 [19] (by kernel_rfl) (by kernel_rfl) (by kernel_rfl) ?_
 rcases Bool.eq_false_or_eq_true (decide (re = 0)) with hb3 | hb3
 ·rw [hb3] at hfr
  try simp only [qz] at hb3
  refine wly hfr ((v_eq_bool rfl rfl Tryz.underlying4).asb (b' := true) rfl) fun a hfr => ?_
  refine wlv hfr (v_pick_t rfl rfl) fun a hfr => ?_
  refine wla hfr rfl fun a hfr => ?_
  refine wl_nil ?_
  refine wd_end (by kernel_rfl) ?_
  refine hK3 _ _ ?_
  replace hfr : Fr 43 [(12, _)] [] a := hfr.pick [12]
  replace hst : St No w0 [] w9 := hst.mask [false, false]
  refine wc_ret ?_
  refine fin_ret hfr Tryz.results52 (resAre_tmp rfl resAre_nil) ?_
  exact ⟨by rfl, hst.ext⟩
 rw [hb3] at hfr
 try simp only [qz] at hb3
 refine wly hfr ((v_eq_bool rfl rfl Tryz.underlying4).asb (b' := true) rfl) fun a hfr => ?_
 refine wlv hfr (v_pick_t rfl rfl) fun a hfr => ?_
 refine wla hfr rfl fun a hfr => ?_
 refine wl_nil ?_
 refine wd_end (by kernel_rfl) ?_
 refine hK3 _ _ ?_
 replace hfr : Fr 43 [(12, _)] [] a := hfr.pick [12]
 replace hst : St No w0 [] w9 := hst.mask [false, false]
 refine wc_ret ?_
 refine fin_ret hfr Tryz.results52 (resAre_tmp rfl resAre_nil) ?_
 exact ⟨by rfl, hst.ext⟩
end Go.Proofs.YtmmfieceinmloaaGreatDoor
namespace Go.Proofs.YtmmfieceinmloaaGreatDoor
open Go.RowKit Go.PW
set_option linter.unusedVariables false
set_option linter.unusedSimpArgs false
set_option maxRecDepth 4000
set_option maxHeartbeats 4000000 in
/-- dialtone/dialtonelaw15.sane -/
theorem sane_ok (w0 : World) (hk0 : (blk 0 (kOf.map wv) 239).ok w0) :
  Ret Tryz.prog 8 #[] w0 fun v w => v = .bool true ∧ Ext No w0 w := by
 refine ret_of Tryz.func8 rfl Tryz.ntmps8 (Nat.le_of_ble_eq_true rfl) fun a hfr => ?_
 replace hfr : Fr 150 [] [] a := hfr
 replace hst : St No w0 [] w0 := St.init w0
 refine wc_seq_region fun K1 hK1 => ?_
 refine wla hfr rfl fun a hfr => ?_
 refine wl_nil (hK1 _ _ ?_)
 refine wc_seq_region fun K2 hK2 => ?_
 refine wl_callp hfr hst (by decide) Tryz.call50 rfl (wished_ok 200 _ (by decide) (by decide) (hst.keepb hk0)) ?_
 clear hfr hst
 intro a w1 hfr hst
 refine wl_alloc hfr hst (by decide) (Tryz.zeroValue30 _) (cs := [.int .i64 0, .int .i64 0, .int .i64 0, .int .i64 0, .int .i64 0, .int .i64 0, .int .i64 0, .int .i64 0, .string (⟨#[]⟩)]) rfl ?_
 clear hfr hst
 intro a w2 hfr hst
 refine wl_store 0 hfr hst rfl rfl rfl (Tryz.sizeOf30 _) rfl (Nat.le_of_ble_eq_true rfl) (ds := [.int .i64 exW.signer, .int .i64 exW.holder, .int .i64 exW.rf, .int .i64 exW.rt, .int .i64 exW.carrier, .int .i64 exW.serial, .int .i64 exW.sf, .int .i64 exW.st, sv exW.sig]) rfl rfl ?_
 clear hfr hst
 intro a w3 hfr hst
 refine wl_nil (hK2 _ _ ?_)
 refine wc_seq_region fun K3 hK3 => ?_
 refine wl_callp hfr hst (by decide) Tryz.call51 rfl (granted_ok 500 _ (by decide) (by decide) (hst.keepb hk0)) ?_
 clear hfr hst
 intro a w4 hfr hst
 refine wl_buildSlice (E := 40) (sz := 7) rfl [[.int .i64 exP.frm, .int .i64 exP.to, .int .i64 exP.rf, .int .i64 exP.rt, .int .i64 exP.sf, .int .i64 exP.st, sv exP.sig]] (by kernel_rfl) (by simp) rfl (by decide) (by decide) hfr hst ?_
 clear hfr hst
 intro a w5 hfr hst
 refine wla hfr rfl fun a hfr => ?_
 refine wl_nil (hK3 _ _ ?_)
 refine wc_seq_region fun K4 hK4 => ?_
 refine wlv hfr (v_load_all (hst.get (k := 1) rfl) rfl (Tryz.isAgg30 _) (Tryz.sizeOf30 _)) fun a hfr => ?_
 refine wl_alloc hfr hst (by decide) (Tryz.zeroValue30 _) (cs := [.int .i64 0, .int .i64 0, .int .i64 0, .int .i64 0, .int .i64 0, .int .i64 0, .int .i64 0, .int .i64 0, .string (⟨#[]⟩)]) rfl ?_
 clear hfr hst
 intro a w6 hfr hst
 refine wl_store 0 hfr hst rfl rfl rfl (Tryz.sizeOf30 _) rfl (Nat.le_of_ble_eq_true rfl) (ds := [.int .i64 exW.signer, .int .i64 exW.holder, .int .i64 exW.rf, .int .i64 exW.rt, .int .i64 exW.carrier, .int .i64 exW.serial, .int .i64 exW.sf, .int .i64 exW.st, sv exW.sig]) rfl rfl ?_
 clear hfr hst
 intro a w7 hfr hst
 refine wl_nil (hK4 _ _ ?_)
 refine wc_seq_region fun K5 hK5 => ?_
 refine wlv hfr (v_fieldAddr (v := .pointer (some ⟨w5.heap.size, 4, none⟩)) rfl (by kernel_rfl)) fun a hfr => ?_
 refine wl_store 0 hfr hst rfl rfl rfl (Tryz.sizeOf3 _) rfl (Nat.le_of_ble_eq_true rfl) (ds := [.int .i64 exW.signer, .int .i64 exW.holder, .int .i64 exW.rf, .int .i64 exW.rt, .int .i64 4, .int .i64 exW.serial, .int .i64 exW.sf, .int .i64 exW.st, sv exW.sig]) rfl rfl ?_
 clear hfr hst
 intro a w8 hfr hst
 refine wl_nil (hK5 _ _ ?_)
 refine wc_seq_region fun K6 hK6 => ?_
 refine wl_callp hfr hst (by decide) Tryz.call51 rfl (granted_ok 500 _ (by decide) (by decide) (hst.keepb hk0)) ?_
 clear hfr hst
 intro a w9 hfr hst
 refine wl_buildSlice (E := 40) (sz := 7) rfl [[.int .i64 exP.frm, .int .i64 exP.to, .int .i64 exP.rf, .int .i64 exP.rt, .int .i64 exP.sf, .int .i64 exP.st, sv exP.sig]] (by kernel_rfl) (by simp) rfl (by decide) (by decide) hfr hst ?_
 clear hfr hst
 intro a w10 hfr hst
 refine wla hfr rfl fun a hfr => ?_
 refine wl_nil (hK6 _ _ ?_)
 replace hfr : Fr 150 [(0, _), (1, _), (2, _), (3, _), (4, _)] [] a := hfr.pick [0, 1, 2, 3, 4]
 refine wc_seq_region fun K7 hK7 => ?_
 refine wlm hfr rfl fun a hfr => ?_
 refine wlv hfr ((v_indexAddr_sl (i := 0) (sT := 31) (hst.ownAt (i := 0) rfl) rfl rfl (Tryz.runUnderlying31 _) (Tryz.sizeOf40 _) (by omega) (by simp)).as (v' := slAddr (.slice (some ⟨w9.heap.size, 0, none⟩) 1 1) (0 * 7)) rfl) fun a hfr => ?_
 refine wlv hfr (v_fieldAddr_sl (k := 0 * 7) (j := 4) (hst.ownAt (i := 0) rfl) (i := 0) (by simp) rfl (fun _ _ => by kernel_rfl)) fun a hfr => ?_
 refine wlv hfr (v_fieldAddr_sl (k := 0 * 7 + 4) (j := 1) (hst.ownAt (i := 0) rfl) (i := 0) (by simp) rfl (fun _ _ => by kernel_rfl)) fun a hfr => ?_
 refine wl_store_own (k := 0) (j := 5) 0 hfr hst rfl rfl rfl (by simp) (by omega) (Tryz.sizeOf3 _) (by simp [Value.oneCell', yv, wv, sv, Value.cells]) (by decide) (els' := [[.int .i64 exP.frm, .int .i64 exP.to, .int .i64 exP.rf, .int .i64 exP.rt, .int .i64 exP.sf, .int .i64 600, sv exP.sig]]) rfl rfl ?_
 clear hfr hst
 intro a w11 hfr hst
 refine wl_nil (hK7 _ _ ?_)
 refine wc_seq_region fun K8 hK8 => ?_
 refine wl_callp hfr hst (by decide) Tryz.call21 rfl (key_ok 3 _) ?_
 clear hfr hst
 intro a w12 hfr hst
 refine wl_callp hfr hst (by decide) Tryz.call31 rfl (account_yes (by rw [keyH_len]; decide) (hst.keepb hk0) (by decide)) ?_
 clear hfr hst
 intro a w13 hfr hst
 refine wlm hfr rfl fun a hfr => ?_
 refine wlv hfr (v_extract rfl rfl) fun a hfr => ?_
 refine wlv hfr (v_extract rfl rfl) fun a hfr => ?_
 refine wla hfr rfl fun a hfr => ?_
 refine wla hfr rfl fun a hfr => ?_
 refine wl_nil (hK8 _ _ ?_)
 replace hfr : Fr 150 [(0, _), (1, _), (2, _), (3, _), (4, _), (5, _), (6, _)] [] a := hfr.pick [0, 1, 2, 3, 4, 5, 6]
 refine wc_seq_region fun K9 hK9 => ?_
 refine wlv hfr (v_load_all (hst.get (k := 3) rfl) rfl (Tryz.isAgg30 _) (Tryz.sizeOf30 _)) fun a hfr => ?_
 refine wlm hfr rfl fun a hfr => ?_
 refine wl_callp hfr hst (by decide) Tryz.call26 rfl (encode_yes (x := exW) (ps := [exP]) (hst.ownAt (i := 2) rfl) ex_enc) ?_
 clear hfr hst
 intro a w14 hfr hst
 refine wlm hfr rfl fun a hfr => ?_
 refine wlv hfr (v_extract rfl rfl) fun a hfr => ?_
 refine wlv hfr (v_extract rfl rfl) fun a hfr => ?_
 refine wla hfr rfl fun a hfr => ?_
 refine wla hfr rfl fun a hfr => ?_
 refine wl_nil (hK9 _ _ ?_)
 replace hfr : Fr 150 [(0, _), (1, _), (2, _), (3, _), (4, _), (5, _), (6, _), (7, _), (8, _)] [] a := hfr.pick [0, 1, 2, 3, 4, 5, 6, 7, 8]
 refine wc_seq_region fun K10 hK10 => ?_
 refine wlm hfr rfl fun a hfr => ?_
 refine wl_callm hfr hst (by decide) Tryz.call28 rfl (decode_yes (Nat.le_trans (encode_len ex_enc).1 (by decide)) (decode_encode ex_enc)) ?_
 clear hfr hst
 intro a w15 x2 hp hfr hst
 revert x2 hp hfr hst; rintro lv1 hp hfr hst
 clear hp
 replace hst : St No w0 [own lv1 40 7 ([exP].map Pxy.cells), own (.slice (some ⟨w9.heap.size, 0, none⟩) 1 1) 40 7 ([[.int .i64 exP.frm, .int .i64 exP.to, .int .i64 exP.rf, .int .i64 exP.rt, .int .i64 exP.sf, .int .i64 600, sv exP.sig]]), blk w5.heap.size [.int .i64 exW.signer, .int .i64 exW.holder, .int .i64 exW.rf, .int .i64 exW.rt, .int .i64 4, .int .i64 exW.serial, .int .i64 exW.sf, .int .i64 exW.st, sv exW.sig] 30, own (.slice (some ⟨w4.heap.size, 0, none⟩) 1 1) 40 7 ([[.int .i64 exP.frm, .int .i64 exP.to, .int .i64 exP.rf, .int .i64 exP.rt, .int .i64 exP.sf, .int .i64 exP.st, sv exP.sig]]), blk w1.heap.size [.int .i64 exW.signer, .int .i64 exW.holder, .int .i64 exW.rf, .int .i64 exW.rt, .int .i64 exW.carrier, .int .i64 exW.serial, .int .i64 exW.sf, .int .i64 exW.st, sv exW.sig] 30] w15 := hst
 refine wlm hfr rfl fun a hfr => ?_
 refine wlv hfr (v_extract rfl rfl) fun a hfr => ?_
 refine wlv hfr (v_extract rfl rfl) fun a hfr => ?_
 refine wlv hfr (v_extract rfl rfl) fun a hfr => ?_
 refine wl_alloc hfr hst (by decide) (Tryz.zeroValue30 _) (cs := [.int .i64 0, .int .i64 0, .int .i64 0, .int .i64 0, .int .i64 0, .int .i64 0, .int .i64 0, .int .i64 0, .string (⟨#[]⟩)]) rfl ?_
 clear hfr hst
 intro a w16 hfr hst
 refine wl_store 0 hfr hst rfl rfl rfl (Tryz.sizeOf30 _) rfl (Nat.le_of_ble_eq_true rfl) (ds := [.int .i64 exW.signer, .int .i64 exW.holder, .int .i64 exW.rf, .int .i64 exW.rt, .int .i64 exW.carrier, .int .i64 exW.serial, .int .i64 exW.sf, .int .i64 exW.st, sv exW.sig]) rfl rfl ?_
 clear hfr hst
 intro a w17 hfr hst
 refine wla hfr rfl fun a hfr => ?_
 refine wla hfr rfl fun a hfr => ?_
 refine wl_nil (hK10 _ _ ?_)
 replace hfr : Fr 150 [(0, _), (1, _), (2, _), (3, _), (4, _), (5, _), (6, _), (8, _), (9, _), (10, _), (11, _)] [] a := hfr.pick [0, 1, 2, 3, 4, 5, 6, 8, 9, 10, 11]
 refine wc_seq_k fun K11 hK11 => ?_
 refine wc_seq_region fun K12 hK12 => ?_
 refine wlm hfr rfl fun a hfr => ?_
 refine wlv hfr ((v_ne rfl rfl).asb (b' := false) rfl) fun a hfr => ?_
 refine wlm hfr rfl fun a hfr => ?_
 refine wly hfr (v_move rfl) fun a hfr => ?_
 refine wly hfr ((v_ne rfl rfl).asb (b' := false) rfl) fun a hfr => ?_
 refine wlv hfr (v_pick_f rfl rfl) fun a hfr => ?_
 refine wlm hfr rfl fun a hfr => ?_
 refine wly hfr (v_move rfl) fun a hfr => ?_
 refine wly hfr ((v_ne rfl rfl).asb (b' := false) rfl) fun a hfr => ?_
 refine wlv hfr (v_pick_f rfl rfl) fun a hfr => ?_
 refine wlm hfr rfl fun a hfr => ?_
 refine wly hfr (v_fieldAddr (v := .pointer (some ⟨w1.heap.size, 8, none⟩)) rfl (by kernel_rfl)) fun a hfr => ?_
 refine wly hfr (v_load_blk1 (hst.get (k := 5) rfl) rfl (Tryz.isAgg9 _) rfl) fun a hfr => ?_
 refine wly hfr (v_len_str rfl rfl (Tryz.runUnderlying9 _)) fun a hfr => ?_
 refine wly hfr ((v_ne rfl rfl).asb (b' := false) (by rw [exW_sig]; decide)) fun a hfr => ?_
 refine wlv hfr (v_pick_f rfl rfl) fun a hfr => ?_
 refine wlm hfr rfl fun a hfr => ?_
 refine wly hfr (v_move rfl) fun a hfr => ?_
 refine wly hfr ((v_indexAddr_sl (i := 0) (sT := 31) (hst.ownAt (i := 4) rfl) rfl rfl (Tryz.runUnderlying31 _) (Tryz.sizeOf40 _) (by omega) (by simp)).as (v' := slAddr (.slice (some ⟨w4.heap.size, 0, none⟩) 1 1) (0 * 7)) rfl) fun a hfr => ?_
 refine wly hfr (v_fieldAddr_sl (k := 0 * 7) (j := 6) (hst.ownAt (i := 4) rfl) (i := 0) (by simp) rfl (fun _ _ => by kernel_rfl)) fun a hfr => ?_
 refine wly hfr (v_load_sl1 (u := sv exP.sig) (i := 0) (j := 6) (hst.ownAt (i := 4) rfl) (by simp) rfl (Tryz.isAgg9 _) (by rfl)) fun a hfr => ?_
 refine wly hfr (v_len_str rfl rfl (Tryz.runUnderlying9 _)) fun a hfr => ?_
 refine wly hfr ((v_ne rfl rfl).asb (b' := false) (by rw [exP_sig]; decide)) fun a hfr => ?_
 refine wlv hfr (v_pick_f rfl rfl) fun a hfr => ?_
 refine wlm hfr rfl fun a hfr => ?_
 refine wly hfr (v_move rfl) fun a hfr => ?_
 refine wly hfr (v_len_str rfl rfl (Tryz.runUnderlying9 _)) fun a hfr => ?_
 refine wly hfr ((v_ne rfl rfl).asb (b' := false) (by first | (rw [accH_len]; decide) | (unfold exC; rw [accH_len]; decide))) fun a hfr => ?_
 refine wlv hfr (v_pick_f rfl rfl) fun a hfr => ?_
 refine wl_nil (hK12 _ _ ?_)
 replace hfr : Fr 150 [(0, _), (1, _), (2, _), (3, _), (4, _), (5, _), (9, _), (10, _), (70, _)] [] a := hfr.pick [0, 1, 2, 3, 4, 5, 9, 10, 70]
 refine wc_cond_f hfr rfl ?_
 refine wc_skip ?_
 refine hK11 _ _ ?_
 refine wc_seq_region fun K13 hK13 => ?_
 refine wlv hfr (v_load_all (hst.get (k := 5) rfl) rfl (Tryz.isAgg30 _) (Tryz.sizeOf30 _)) fun a hfr => ?_
 refine wlm hfr rfl fun a hfr => ?_
 refine wl_callp hfr hst (by decide) Tryz.call52 rfl (is_ok exW (.slice (some ⟨w4.heap.size, 0, none⟩) 1 1) [exP] 1100 150 0 (-1) _ (hst.ownAt (i := 4) rfl) (hst.keepb hk0) ex_why0) ?_
 clear hfr hst
 intro a w18 hfr hst
 refine wlm hfr rfl fun a hfr => ?_
 refine wly hfr (v_load_all (hst.get (k := 5) rfl) rfl (Tryz.isAgg30 _) (Tryz.sizeOf30 _)) fun a hfr => ?_
 refine wly hfr (v_move rfl) fun a hfr => ?_
 refine wl_callpy hfr hst (by decide) rfl (by decide) rfl Tryz.call52 rfl (is_ok exW (.slice (some ⟨w4.heap.size, 0, none⟩) 1 1) [exP] 1199 199 0 (-1) _ (hst.ownAt (i := 4) rfl) (hst.keepb hk0) ex_why1) ?_
 clear hfr hst
 intro a w19 hfr hst
 refine wlv hfr (v_pick_t rfl rfl) fun a hfr => ?_
 refine wla hfr rfl fun a hfr => ?_
 refine wl_nil (hK13 _ _ ?_)
 replace hfr : Fr 150 [(0, _), (1, _), (2, _), (3, _), (4, _), (5, _), (9, _), (10, _), (12, _)] [] a := hfr.pick [0, 1, 2, 3, 4, 5, 9, 10, 12]
 refine wc_seq_region fun K14 hK14 => ?_
 refine wlv hfr (v_load_all (hst.get (k := 5) rfl) rfl (Tryz.isAgg30 _) (Tryz.sizeOf30 _)) fun a hfr => ?_
 refine wlm hfr rfl fun a hfr => ?_
 refine wl_callp hfr hst (by decide) Tryz.call52 rfl (is_ok exW (.slice (some ⟨w4.heap.size, 0, none⟩) 1 1) [exP] 1200 150 3 (-1) _ (hst.ownAt (i := 4) rfl) (hst.keepb hk0) ex_why2) ?_
 clear hfr hst
 intro a w20 hfr hst
 refine wlm hfr rfl fun a hfr => ?_
 refine wly hfr (v_load_all (hst.get (k := 5) rfl) rfl (Tryz.isAgg30 _) (Tryz.sizeOf30 _)) fun a hfr => ?_
 refine wly hfr (v_move rfl) fun a hfr => ?_
 refine wl_callpy hfr hst (by decide) rfl (by decide) rfl Tryz.call52 rfl (is_ok exW (.slice (some ⟨w4.heap.size, 0, none⟩) 1 1) [exP] 1100 200 2 (-1) _ (hst.ownAt (i := 4) rfl) (hst.keepb hk0) ex_why3) ?_
 clear hfr hst
 intro a w21 hfr hst
 refine wlv hfr (v_pick_t rfl rfl) fun a hfr => ?_
 refine wlm hfr rfl fun a hfr => ?_
 refine wly hfr (v_load_all (hst.get (k := 5) rfl) rfl (Tryz.isAgg30 _) (Tryz.sizeOf30 _)) fun a hfr => ?_
 refine wly hfr (v_move rfl) fun a hfr => ?_
 refine wl_callpy hfr hst (by decide) rfl (by decide) rfl Tryz.call52 rfl (is_ok exW (.slice (some ⟨w4.heap.size, 0, none⟩) 1 1) [exP] 1200 200 2 (-1) _ (hst.ownAt (i := 4) rfl) (hst.keepb hk0) ex_why4) ?_
 clear hfr hst
 intro a w22 hfr hst
 refine wlv hfr (v_pick_t rfl rfl) fun a hfr => ?_
 refine wlm hfr rfl fun a hfr => ?_
 refine wly hfr (v_load_all (hst.get (k := 5) rfl) rfl (Tryz.isAgg30 _) (Tryz.sizeOf30 _)) fun a hfr => ?_
 refine wl_callpy hfr hst (by decide) rfl (by decide) rfl Tryz.call52 rfl (is_ok exW (.slice none 0 0) ([] : List Pxy) 1100 150 4 (-1) _ (slAt_nil _ _) (hst.keepb hk0) ex_why5) ?_
 clear hfr hst
 intro a w23 hfr hst
 refine wlv hfr (v_pick_t rfl rfl) fun a hfr => ?_
 refine wlm hfr rfl fun a hfr => ?_
 refine wl_callpy hfr hst (by decide) rfl (by decide) rfl Tryz.call50 rfl (wished_ok 501 _ (by decide) (by decide) (hst.keepb hk0)) ?_
 clear hfr hst
 intro a w24 hfr hst
 refine wly hfr (v_move rfl) fun a hfr => ?_
 refine wl_callpy hfr hst (by decide) rfl (by decide) rfl Tryz.call52 rfl (is_ok ex501 (.slice (some ⟨w4.heap.size, 0, none⟩) 1 1) [exP] 1100 150 5 (-1) _ (hst.ownAt (i := 4) rfl) (hst.keepb hk0) ex_why6) ?_
 clear hfr hst
 intro a w25 hfr hst
 refine wlv hfr (v_pick_t rfl rfl) fun a hfr => ?_
 refine wlm hfr rfl fun a hfr => ?_
 refine wly hfr (v_load_all (hst.get (k := 3) rfl) rfl (Tryz.isAgg30 _) (Tryz.sizeOf30 _)) fun a hfr => ?_
 refine wly hfr (v_move rfl) fun a hfr => ?_
 refine wl_callpy hfr hst (by decide) rfl (by decide) rfl Tryz.call52 rfl (is_ok exO (.slice (some ⟨w4.heap.size, 0, none⟩) 1 1) [exP] 1100 150 6 (-1) _ (hst.ownAt (i := 4) rfl) (hst.keepb hk0) ex_why7) ?_
 clear hfr hst
 intro a w26 hfr hst
 refine wlv hfr (v_pick_t rfl rfl) fun a hfr => ?_
 refine wlm hfr rfl fun a hfr => ?_
 refine wly hfr (v_load_all (hst.get (k := 5) rfl) rfl (Tryz.isAgg30 _) (Tryz.sizeOf30 _)) fun a hfr => ?_
 refine wly hfr (v_move rfl) fun a hfr => ?_
 refine wl_callpy hfr hst (by decide) rfl (by decide) rfl Tryz.call52 rfl (is_ok exW (.slice (some ⟨w9.heap.size, 0, none⟩) 1 1) [exL] 1100 150 6 (0) _ (hst.ownAt (i := 2) rfl) (hst.keepb hk0) ex_why8) ?_
 clear hfr hst
 intro a w27 hfr hst
 refine wlv hfr (v_pick_t rfl rfl) fun a hfr => ?_
 refine wlm hfr rfl fun a hfr => ?_
 refine wly hfr (v_build (v := .agg #[.int .i64 0, .int .i64 0, .int .i64 0, .int .i64 0, .int .i64 0, .int .i64 0, .int .i64 0, .int .i64 0, .string (⟨#[]⟩)]) rfl (by kernel_rfl)) fun a hfr => ?_
 refine wl_callpy hfr hst (by decide) rfl (by decide) rfl Tryz.call52 rfl (is_ok exZ (.slice none 0 0) ([] : List Pxy) 0 0 1 (-1) _ (slAt_nil _ _) (hst.keepb hk0) ex_why9) ?_
 clear hfr hst
 intro a w28 hfr hst
 refine wlv hfr (v_pick_t rfl rfl) fun a hfr => ?_
 refine wla hfr rfl fun a hfr => ?_
 refine wl_nil (hK14 _ _ ?_)
 replace hfr : Fr 150 [(0, _), (1, _), (2, _), (5, _), (9, _), (10, _), (12, _), (13, _)] [] a := hfr.pick [0, 1, 2, 5, 9, 10, 12, 13]
 replace hst : St No w0 [_, _, _, _] w28 := hst.mask [true, true, false, false, true, true]
 refine wc_seq_region fun K15 hK15 => ?_
 refine wlm hfr rfl fun a hfr => ?_
 refine wlm hfr rfl fun a hfr => ?_
 refine wly hfr (v_move rfl) fun a hfr => ?_
 refine wlv hfr (v_pick_t rfl rfl) fun a hfr => ?_
 refine wlm hfr rfl fun a hfr => ?_
 refine wly hfr (v_load_all (hst.get (k := 0) rfl) rfl (Tryz.isAgg30 _) (Tryz.sizeOf30 _)) fun a hfr => ?_
 refine wly hfr (v_load_all (hst.get (k := 3) rfl) rfl (Tryz.isAgg30 _) (Tryz.sizeOf30 _)) fun a hfr => ?_
 refine wly hfr ((v_eq_agg rfl rfl (by kernel_rfl) (eqWsh exW.signer exW.holder exW.rf exW.rt exW.carrier exW.serial exW.sf exW.st exW.sig exW.signer exW.holder exW.rf exW.rt exW.carrier exW.serial exW.sf exW.st exW.sig _)).asb (b' := true) (by exact decide_eq_true rfl)) fun a hfr => ?_
 refine wlv hfr (v_pick_t rfl rfl) fun a hfr => ?_
 refine wlm hfr rfl fun a hfr => ?_
 refine wly hfr (v_move rfl) fun a hfr => ?_
 refine wly hfr (v_move rfl) fun a hfr => ?_
 refine wl_callpy hfr hst (by decide) rfl (by decide) rfl Tryz.call30 rfl (ret_bool (decide_eq_true rfl) (samep_ok lv1 (.slice (some ⟨w4.heap.size, 0, none⟩) 1 1) [exP] [exP] _ (hst.ownAt (i := 1) rfl) (hst.ownAt (i := 2) rfl))) ?_
 clear hfr hst
 intro a w29 hfr hst
 refine wlv hfr (v_pick_t rfl rfl) fun a hfr => ?_
 refine wlm hfr rfl fun a hfr => ?_
 refine wl_callpy hfr hst (by decide) rfl (by decide) rfl Tryz.call21 rfl (key_ok 3 _) ?_
 clear hfr hst
 intro a w30 hfr hst
 refine wly hfr (v_move rfl) fun a hfr => ?_
 refine wl_callpy hfr hst (by decide) rfl (by decide) rfl Tryz.call33 rfl (ret_bool ex_chk3 (checks_ok (keyH 3) 1100 1 exC _ (by rw [keyH_len]; decide) (hst.keepb hk0))) ?_
 clear hfr hst
 intro a w31 hfr hst
 refine wlv hfr (v_pick_t rfl rfl) fun a hfr => ?_
 refine wlm hfr rfl fun a hfr => ?_
 refine wl_callpy hfr hst (by decide) rfl (by decide) rfl Tryz.call21 rfl (key_ok 4 _) ?_
 clear hfr hst
 intro a w32 hfr hst
 refine wly hfr (v_move rfl) fun a hfr => ?_
 refine wl_callpy hfr hst (by decide) rfl (by decide) rfl Tryz.call33 rfl (ret_bool ex_chk4 (checks_ok (keyH 4) 1100 1 exC _ (by rw [keyH_len]; decide) (hst.keepb hk0))) ?_
 clear hfr hst
 intro a w33 hfr hst
 refine wly hfr ((v_not rfl).asb (b' := true) rfl) fun a hfr => ?_
 refine wlv hfr (v_pick_t rfl rfl) fun a hfr => ?_
 refine wlm hfr rfl fun a hfr => ?_
 refine wly hfr (v_load_all (hst.get (k := 3) rfl) rfl (Tryz.isAgg30 _) (Tryz.sizeOf30 _)) fun a hfr => ?_
 refine wly hfr (v_move rfl) fun a hfr => ?_
 refine wl_callpy hfr hst (by decide) rfl (by decide) rfl Tryz.call19 rfl (ret_bool exW_formed (formed_H (x := exW) (ps := [exP]) (hst.ownAt (i := 2) rfl))) ?_
 clear hfr hst
 intro a w34 hfr hst
 refine wlv hfr (v_pick_t rfl rfl) fun a hfr => ?_
 refine wlm hfr rfl fun a hfr => ?_
 refine wly hfr (v_build (v := .agg #[.int .i64 0, .int .i64 0, .int .i64 0, .int .i64 0, .int .i64 0, .int .i64 0, .int .i64 0, .int .i64 0, .string (⟨#[]⟩)]) rfl (by kernel_rfl)) fun a hfr => ?_
 refine wl_callpy hfr hst (by decide) rfl (by decide) rfl Tryz.call19 rfl (ret_bool exZ_formed (formed_H (x := exZ) (ps := ([] : List Pxy)) (slAt_nil _ _))) ?_
 clear hfr hst
 intro a w35 hfr hst
 refine wly hfr ((v_not rfl).asb (b' := true) rfl) fun a hfr => ?_
 refine wlv hfr (v_pick_t rfl rfl) fun a hfr => ?_
 refine wla hfr rfl fun a hfr => ?_
 refine wl_nil (hK15 _ _ ?_)
 replace hfr : Fr 150 [(0, _)] [] a := hfr.pick [0]
 replace hst : St No w0 [] w35 := hst.mask [false, false, false, false]
 refine wc_ret ?_
 refine fin_ret hfr Tryz.results8 (resAre_tmp rfl resAre_nil) ?_
 exact ⟨by rfl, hst.ext⟩
end Go.Proofs.YtmmfieceinmloaaGreatDoor
namespace Go.Proofs.YtmmfieceinmloaaGreatDoor
open Go.RowKit Go.PW
set_option linter.unusedVariables false
set_option linter.unusedSimpArgs false
set_option maxRecDepth 4000
section
variable {ks : List By} {x : Wsh} {ps : List Pxy} {n t : Int}
theorem valid_iff : validH ks x ps n t = true ↔ (¬ formB ks x ps ∧ badIdx ps 0 = none ∧ inB t x.sf (x.st - 1) = true ∧ inB n x.rf (x.rt - 1) = true ∧ chainBad x.signer x.holder ps 0 = none ∧ scopeBad x none ps 0 = none ∧ sealBad ks x ps 0 = none) := by
 unfold validH
 rw [decide_eq_true_eq]
 constructor
 ·intro h
  by_cases h0 : formB ks x ps
  ·rw [why_form h0] at h; cases h
  ·cases hb : badIdx ps 0 with
   | some i => rw [why_bad h0 (by rw [bad_idx, hb]; exact Int.natCast_nonneg i)] at h; cases h
   | none =>
    cases ht : inB t x.sf (x.st - 1) with
    | false => rw [why_time h0 hb ht] at h; cases h
    | true =>
     cases hn : inB n x.rf (x.rt - 1) with
     | false => rw [why_num h0 hb ht hn] at h; cases h
     | true =>
      have hp : whyP ks x ps n t := ⟨h0, hb, ht, hn⟩
      cases hc : chainBad x.signer x.holder ps 0 with
      | some i => rw [why_chain hp hc] at h; cases h
      | none =>
       cases hs : scopeBad x none ps 0 with
       | some i => rw [why_scope hp hc hs] at h; cases h
       | none =>
        cases hl : sealBad ks x ps 0 with
        | some i => rw [why_seal hp hc hs hl] at h; cases h
        | none => exact ⟨h0, rfl, rfl, rfl, rfl, rfl, rfl⟩
 ·rintro ⟨h0, hb, ht, hn, hc, hs, hl⟩
  rw [why_none ⟨h0, hb, ht, hn⟩ hc hs hl]
/-- A wish that is valid somewhere: why it is not valid elsewhere. -/
theorem why_of_valid {n0 t0 : Int} (h : validH ks x ps n0 t0 = true) (n t : Int) : whyH ks x ps n t = if inB t x.sf (x.st - 1) = false then (2, -1) else if inB n x.rf (x.rt - 1) = false then (3, -1) else (0, -1) := by
 obtain ⟨h0, hb, _, _, hc, hs, hl⟩ := valid_iff.1 h
 by_cases ht : inB t x.sf (x.st - 1) = false
 ·rw [if_pos ht, why_time h0 hb ht]
 ·rw [if_neg ht]
  by_cases hn : inB n x.rf (x.rt - 1) = false
  ·rw [if_pos hn, why_num h0 hb (by simpa using ht) hn]
  ·rw [if_neg hn, why_none ⟨h0, hb, by simpa using ht, by simpa using hn⟩ hc hs hl]
theorem valid_of_valid {n0 t0 : Int} (h : validH ks x ps n0 t0 = true) (n t : Int) : validH ks x ps n t = (inB t x.sf (x.st - 1) && inB n x.rf (x.rt - 1)) := by
 unfold validH
 rw [why_of_valid h]
 cases inB t x.sf (x.st - 1) <;> cases inB n x.rf (x.rt - 1) <;> rfl
theorem seal_all : ∀ {l : List Pxy} {k : Nat}, sealBad ks x l k = none → (∀ p ∈ l, ∃ key, keyAt ks p.frm = some key ∧ p.sig = sealH key p.content) ∧ ∃ key, keyAt ks x.signer = some key ∧ x.sig = sealH key x.content
 | [], k, h => by
  rw [sealBad] at h
  split at h
  ·rename_i hc
   cases hq : keyAt ks x.signer with
   | none => rw [hq] at hc; cases hc
   | some key => rw [hq] at hc; exact ⟨by simp, key, rfl, by simpa using hc⟩
  ·cases h
 | p :: l, k, h => by
  rw [sealBad] at h
  split at h
  ·rename_i hc
   obtain ⟨h1, h2⟩ := seal_all h
   refine ⟨fun q hq => ?_, h2⟩
   rcases List.mem_cons.1 hq with rfl | hq
   ·cases he : keyAt ks q.frm with
    | none => rw [he] at hc; cases hc
    | some key => rw [he] at hc; exact ⟨key, rfl, by simpa using hc⟩
   ·exact h1 q hq
  ·cases h
theorem keysH_get {h : Int} {key : By} (hk : keyAt keysH h = some key) : 0 ≤ h ∧ h < 10 ∧ key = keyH h := by
 unfold keyAt at hk
 split at hk
 ·cases hk
 ·rename_i h0
  have hl := (List.getElem?_eq_some_iff.1 hk).1
  rw [keysH_len] at hl
  have h1 : h < 10 := by omega
  have := keysH_at (h := h) (by omega) h1
  unfold keyAt at this
  rw [if_neg h0, hk] at this
  exact ⟨by omega, h1, Option.some.inj this⟩
end
/-- A wish with its proxies that is valid with the persons' keys. -/
def Mk (x : Wsh) (ps : List Pxy) : Prop := validH keysH x ps x.rf x.sf = true
section
variable {x : Wsh} {ps : List Pxy}
theorem Mk.pieces (h : Mk x ps) : ¬ formB keysH x ps ∧ badIdx ps 0 = none ∧ chainBad x.signer x.holder ps 0 = none ∧ scopeBad x none ps 0 = none ∧ sealBad keysH x ps 0 = none := by
 obtain ⟨h0, hb, _, _, hc, hs, hl⟩ := valid_iff.1 h
 exact ⟨h0, hb, hc, hs, hl⟩
theorem Mk.ok (h : Mk x ps) : x.ok = true := by
 have := h.pieces.1
 cases hx : x.ok with
 | true => rfl
 | false => exact absurd (.inr (.inr (.inl hx))) this
theorem Mk.len (h : Mk x ps) : ps.length ≤ 4 := Nat.le_of_not_lt fun hl => h.pieces.1 (.inr (.inr (.inr hl)))
theorem Mk.formed (h : Mk x ps) : formedH x ps = true := by
 unfold formedH
 rw [h.ok, h.pieces.2.1, decide_eq_true h.len]; rfl
theorem Mk.sgn (h : Mk x ps) : 0 ≤ x.signer ∧ x.signer < 10 ∧ x.sig = sealH (keyH x.signer) x.content := by
 obtain ⟨key, h1, h2⟩ := (seal_all h.pieces.2.2.2.2).2
 obtain ⟨h3, h4, rfl⟩ := keysH_get h1
 exact ⟨h3, h4, h2⟩
theorem Mk.each (h : Mk x ps) {p : Pxy} (hp : p ∈ ps) : 0 ≤ p.frm ∧ p.frm < 10 ∧ p.sig = sealH (keyH p.frm) p.content ∧ p.ok = true := by
 obtain ⟨key, h1, h2⟩ := (seal_all h.pieces.2.2.2.2).1 p hp
 obtain ⟨h3, h4, rfl⟩ := keysH_get h1
 exact ⟨h3, h4, h2, badIdx_all h.pieces.2.1 p hp⟩
theorem Mk.same (h : Mk x ps) : x.sealed (keyH x.signer) = x := by
 have := h.sgn.2.2
 unfold Wsh.sealed
 rw [← this]
theorem Mk.xsig (h : Mk x ps) : x.sig.length = 32 := by rw [h.sgn.2.2]; exact sealH_len _ _
theorem Mk.psig (h : Mk x ps) : ∀ p ∈ ps, p.sig.length = 32 := fun p hp => by rw [(h.each hp).2.2.1]; exact sealH_len _ _
theorem Mk.enc (h : Mk x ps) : ∃ s, encodeH x ps = some s := ⟨_, encode_some.2 ⟨h.formed, h.xsig, h.psig, rfl⟩⟩
theorem Mk.valid (h : Mk x ps) (n t : Int) : validH keysH x ps n t = (inB t x.sf (x.st - 1) && inB n x.rf (x.rt - 1)) := valid_of_valid h n t
theorem Mk.here (h : Mk x ps) : validH keysH x ps x.rf x.sf = true := h
end
theorem made_mk (holder r0 r1 s0 s1 carrier serial : Int) (l : List Cin) : Mk (madeW holder r0 r1 s0 s1 carrier serial l) (madeL holder r0 r1 s0 s1 l) := by
 have hb := Wsh.ok_bnd (madeW_ok holder r0 r1 s0 s1 carrier serial l)
 unfold Mk validH
 rw [made_why, if_neg, if_neg]
 ·rfl
 ·simp [inB]; omega
 ·simp [inB]; omega
theorem made_x {holder r0 r1 s0 s1 carrier serial : Int} {cv : Value} {ys : List Cin} {w0 : World} {x : Wsh} {ps : List Pxy} (hx : madeW holder r0 r1 s0 s1 carrier serial ys = x) (hps : madeL holder r0 r1 s0 s1 ys = ps) (hcv : SlAt w0 cv 5 (ys.map Cin.cells)) (hys : ∀ y ∈ ys, y.wt) (h0 : i64 holder) (h1 : i64 r0) (h2 : i64 r1) (h3 : i64 s0) (h4 : i64 s1) (h5 : i64 carrier) (h6 : i64 serial) :
  Ret Tryz.prog 9 #[.agg #[.int .i64 holder, .int .i64 r0, .int .i64 r1, .int .i64 s0, .int .i64 s1, .int .i64 carrier, .int .i64 serial, cv]] w0 (MemR w0 (fun v : Value => .tuple #[.agg #[.int .i64 x.signer, .int .i64 x.holder, .int .i64 x.rf, .int .i64 x.rt, .int .i64 x.carrier, .int .i64 x.serial, .int .i64 x.sf, .int .i64 x.st, sv x.sig], v]) (fun v => [own v 40 7 (ps.map Pxy.cells)]) (fun _ => True)) := by
 subst hx; subst hps
 exact made_ok holder r0 r1 s0 s1 carrier serial cv ys w0 hcv hys h0 h1 h2 h3 h4 h5 h6
end Go.Proofs.YtmmfieceinmloaaGreatDoor
namespace Go.Proofs.YtmmfieceinmloaaGreatDoor
open Go.RowKit Go.PW
set_option linter.unusedVariables false
set_option linter.unusedSimpArgs false
set_option maxRecDepth 4000
theorem len2 {α : Type} {l : List α} (h : l.length = 2) : ∃ a0 a1, l = [a0, a1] := by
 match l, h with
 | [a0, a1], _ => exact ⟨_, _, rfl⟩
theorem len5 {α : Type} {l : List α} (h : l.length = 5) : ∃ a0 a1 a2 a3 a4, l = [a0, a1, a2, a3, a4] := by
 match l, h with
 | [a0, a1, a2, a3, a4], _ => exact ⟨_, _, _, _, _, rfl⟩
theorem len8 {α : Type} {l : List α} (h : l.length = 8) : ∃ a0 a1 a2 a3 a4 a5 a6 a7, l = [a0, a1, a2, a3, a4, a5, a6, a7] := by
 match l, h with
 | [a0, a1, a2, a3, a4, a5, a6, a7], _ => exact ⟨_, _, _, _, _, _, _, _, rfl⟩
open Go.ChangeShapes Go.WideShapes Go.ChangeAt
section
variable {H : Type} {enc : TypeId × Value → H} {W : World} {base b0 : Nat} {sp : Nat → Bool} {hd : Bool} {v : Value} {d : DataW H} {ps : List MemPlace} {r : Reach}
theorem i64_is {n : Int} (h : Go.PW.i64 n) : i64 n := h
theorem open_cins {t : TypeId} (ht : Tryz.prog.underlying t = some (.slice 108)) {fuel : Nat} {x : DataW H × List MemPlace} (hok : Cell.okWide Tryz.prog W r b0 t v) (hw : Wt Tryz.prog t x.1) (h : DataW.trod enc Tryz.prog W base sp hd fuel t [v] = some x) :
  ∃ ys : List Cin, SlAt W v 5 (ys.map Cin.cells) ∧ ∀ y ∈ ys, y.wt := by
 obtain ⟨els, h1, h2⟩ := trod_sl 5 ht (by kernel_rfl) (by decide) (of_decide_eq_true (by kernel_rfl)) hok hw h
 exact sl_map (f := Cin.cells) (q := Cin.wt) h1 fun i hi => by
  obtain ⟨n, y, hy, _⟩ := h2 i hi
  obtain ⟨zs, hz, he, hw⟩ := trod_ints 5 Tryz.underlying108 Tryz.underlying3 (by kernel_rfl) hy (h1.1 _ (List.getElem_mem hi))
  obtain ⟨a0, a1, a2, a3, a4, rfl⟩ := len5 hz
  exact ⟨⟨a0, a1, a2, a3, a4⟩, he, hw a0 (by simp), hw a1 (by simp), hw a2 (by simp), hw a3 (by simp), hw a4 (by simp)⟩
theorem open_numbers (hval : Value.okWide Tryz.prog W r b0 25 v) (hw : Wt Tryz.prog 25 d) (hd0 : DataW.Trod enc Tryz.prog W base sp hd 25 v d ps) :
  ∃ (holder r0 r1 s0 s1 carrier serial : Int) (cv : Value) (ys : List Cin), v = .agg #[.int .i64 holder, .int .i64 r0, .int .i64 r1, .int .i64 s0, .int .i64 s1, .int .i64 carrier, .int .i64 serial, cv] ∧ SlAt W cv 5 (ys.map Cin.cells) ∧ (∀ y ∈ ys, y.wt) ∧ i64 holder ∧ i64 r0 ∧ i64 r1 ∧ i64 s0 ∧ i64 s1 ∧ i64 carrier ∧ i64 serial := by
 obtain ⟨csA, rfl, hsz, hrow⟩ := okWide_cell (by kernel_rfl) hval
 obtain ⟨fuel, hf⟩ := hd0
 have hc : Tryz.prog.cellsOf 25 = 8 := by kernel_rfl
 obtain ⟨a0, a1, a2, a3, a4, a5, a6, a7, hcs⟩ := len8 (l := csA.toList) (by rw [Array.length_toList, hsz, hc])
 obtain rfl : csA = #[a0, a1, a2, a3, a4, a5, a6, a7] := by cases csA; simp at hcs; rw [hcs]
 obtain ⟨n0, z0, h0, w0⟩ := trod_field 0 _ Tryz.underlying25 hw hf rfl
 obtain ⟨n1, z1, h1, w1⟩ := trod_field 1 _ Tryz.underlying25 hw hf rfl
 obtain ⟨n2, z2, h2, w2⟩ := trod_field 2 _ Tryz.underlying25 hw hf rfl
 obtain ⟨n3, z3, h3, w3⟩ := trod_field 3 _ Tryz.underlying25 hw hf rfl
 obtain ⟨n4, z4, h4, w4⟩ := trod_field 4 _ Tryz.underlying25 hw hf rfl
 obtain ⟨n5, z5, h5, w5⟩ := trod_field 5 _ Tryz.underlying25 hw hf rfl
 have c1 : Tryz.prog.cellsOf 3 = 1 := by kernel_rfl
 have c2 : Tryz.prog.cellsOf 22 = 2 := by kernel_rfl
 have c5 : Tryz.prog.cellsOf 23 = 1 := by kernel_rfl
 simp only [Value.cells, c1] at h0 h3 h4
 simp only [Value.cells, c2] at h1 h2
 simp only [Value.cells, c5] at h5
 obtain ⟨m0, e0, g0⟩ := trod_i64 Tryz.underlying3 h0
 obtain ⟨m3, e3, g3⟩ := trod_i64 Tryz.underlying3 h3
 obtain ⟨m4, e4, g4⟩ := trod_i64 Tryz.underlying3 h4
 obtain ⟨q1, hq1, e1, y1⟩ := trod_ints 2 Tryz.underlying22 Tryz.underlying3 (by kernel_rfl) h1 rfl
 obtain ⟨q2, hq2, e2, y2⟩ := trod_ints 2 Tryz.underlying22 Tryz.underlying3 (by kernel_rfl) h2 rfl
 obtain ⟨b0_, b1, rfl⟩ := len2 hq1
 obtain ⟨c0_, c1_, rfl⟩ := len2 hq2
 simp [c1] at e0 e3 e4
 simp at e1 e2
 obtain ⟨rfl, rfl⟩ := e1
 obtain ⟨rfl, rfl⟩ := e2
 subst e0; subst e3; subst e4
 have hok : Cell.okWide Tryz.prog W r b0 23 a7 := row_cell (i := 7) (ts := [3, 3, 3, 3, 3, 3, 3, 23]) (by kernel_rfl) rfl hrow rfl
 obtain ⟨ys, k1, k2⟩ := open_cins Tryz.underlying23 hok w5 h5
 exact ⟨m0, b0_, b1, c0_, c1_, m3, m4, a7, ys, rfl, k1, k2, g0, y1 b0_ (by simp), y1 b1 (by simp), y2 c0_ (by simp), y2 c1_ (by simp), g3, g4⟩
end
end Go.Proofs.YtmmfieceinmloaaGreatDoor
namespace Go.PW
open Go.RowKit Go.ChangeShapes Go.WideShapes Go.ChangeAt
set_option linter.unusedVariables false
set_option linter.unusedSimpArgs false
section
variable {H : Type} {enc : TypeId × Value → H}
theorem handed_laid {a : Assume} {C : Checked} {os : Os} {f : FuncId} {fn : Func} {s : ChangeSpec} {conds : List PathCond} {apart fresh handsOn again : Bool} {X : World → Array Value → Prop}
    (hX : ∀ (w w' : World) (args : Array Value), w.heap = w'.heap → X w args → X w' args)
    (own : ownKnob C.prog.godebug = none) (started : os.Started) (noInit : C.prog.inits.idxOf? f = none) (hfn : C.prog.funcs[f]? = some fn)
    (witness : ∃ (w : World) (tape : Tape) (i : Input), w.os = os ∧ (w.forCall tape i).Shaped C.prog ∧ i.vars = [] ∧ Input.okWide C.prog (w.forCall tape i) .any w.heap.size f i ∧
      ((s.pre enc C.prog fn conds apart (w.forCall tape i).memory i.args ∧ X (w.forCall tape i).memory i.args) ∧ sizedMet enc C.prog fn (OpenSpec.ofChange s) apart (w.forCall tape i).memory i.args) ∧ a.holds C.prog (lone (Frame.enter C.prog f i.args .normal) [] (w.forCall tape i)))
    (contract : ∀ (W : World) (base : Nat) (args : Array Value) (ds gs : List (DataW H)) (before : List MemPlace),
      (∀ (j : Nat) t v, fn.params[j]? = some t → args[j]? = some v → Value.okWide C.prog W .any base t v) →
      DataW.Whole enc C.prog fn.params.toList s.vars apart W args.toList ds gs before →
      conds.all (PathCond.test C.prog ⟨fn.params.toList, ds, s.plain.varTypes C.prog, gs⟩) = true →
      (DataW.weightsEach C.prog (fn.params.toList ++ s.plain.varTypes C.prog) (ds ++ gs)).all (· ≤ reachBytes) = true → X W args → W.ShapedOpen C.prog →
      Calls C.prog f args W fun e W' => ∃ v, e = .returned v ∧ s.post enc C.prog fn apart fresh handsOn again W args v W') :
    ReturnsInHanded a C os f .any (fun w args => (s.pre enc C.prog fn conds apart w args ∧ X w args) ∧ sizedMet enc C.prog fn (OpenSpec.ofChange s) apart w args) (s.post enc C.prog fn apart fresh handsOn again) := by
  refine returnsInHanded_of_calls own started noInit witness ?_
  intro w tape i _ hsh _ hok hpre _
  obtain ⟨_, _, _, fn', hfn', _, _, _, _, hval⟩ := hok
  have e : fn' = fn := Option.some.inj (hfn'.symm.trans hfn)
  subst e
  obtain ⟨⟨⟨ds, gs, before, hw, hc⟩, hx⟩, hz⟩ := hpre
  have hw' := DataW.Whole.of_heap (w' := w.forCall tape i) (by rfl) hw
  refine (contract (w.forCall tape i) w.heap.size i.args ds gs before hval hw' hc (hz.weights hw) (hX _ _ _ (by rfl) hx) hsh).mono fun e W' ⟨v, he, hp⟩ => ?_
  subst he
  exact ChangeSpec.post_blind hp
end
section
variable {H : Type} {enc : TypeId × Value → H} {P : Program} {w : World} {base : Nat} {spare : Nat → Bool} {held : Bool} {fuel : Nat} {t e : TypeId} {cs : List Value} {x : DataW H × List MemPlace}
/-- An array of words that reads as ks. -/
theorem trod_words {n : Nat} {ks : List Int} (ht : P.underlying t = some (.array n e)) (he : P.underlying e = some (.int .u32)) (hc : P.cellsOf e = 1) (hct : P.cellsOf t = n) (h : DataW.trod enc P w base spare held fuel t cs = some x) (hx : x.1 = .agg (ks.map fun k => .lit (.int .u32 k))) : cs = ks.map (fun k => .int .u32 k) := by
  obtain ⟨xs, m, rfl, rfl, hlen, hxs, hel⟩ := DataW.trod_array ht h
  simp only [DataW.agg.injEq] at hx
  have hl : ks.length = n := by
    have h := congrArg List.length hx
    rw [List.length_map, List.length_map] at h
    omega
  refine List.ext_getElem (by rw [hlen, hct, List.length_map, hl]) fun i h1 h2 => ?_
  have hi : i < n := by rw [← hct, ← hlen]; exact h1
  have hi2 : i < ks.length := by omega
  have h3 := hel i hi
  rw [hc, Nat.mul_one, List.getElem?_eq_getElem (by omega)] at h3
  obtain ⟨k, e1, e2, _⟩ := DataW.trod_int he h3
  rw [List.drop_eq_getElem_cons h1, List.take_succ_cons] at e1
  injection e1 with e1 _
  have h4 : (xs.map (·.1))[i]? = (ks.map fun k => DataW.lit (H := H) (.int .u32 k))[i]? := by rw [hx]
  rw [List.getElem?_map, List.getElem?_map, List.getElem?_eq_getElem (by omega), List.getElem?_eq_getElem hi2, Option.map_some, Option.map_some, e2] at h4
  simp only [Option.some.injEq, DataW.lit.injEq, Lit.int.injEq, true_and] at h4
  rw [e1, List.getElem_map, h4]
end
end Go.PW
namespace Go.Proofs.YtmmfieceinmloaaGreatDoor
open Go.RowKit Go.PW
set_option linter.unusedVariables false
set_option linter.unusedSimpArgs false
set_option maxRecDepth 4000
open Go.ChangeShapes Go.WideShapes Go.ChangeAt Go.RowKit Go.PW
theorem ownD : ownKnob Tryz.prog.godebug = none := by kernel_rfl
theorem laidOutD : laidOutB Tryz.prog = true := by kernel_rfl
def laid1 : List (String × DataW Unit) := [("dialtone/digest.round", Rows.laid_dialtone_digest_round)]
theorem gRound : Tryz.prog.globalNamed "dialtone/digest.round" = some 0 := by kernel_rfl
theorem tRound : (Tryz.prog.globals[0]?).map (·.type) = some 239 := by kernel_rfl
/-- The words in the program's text are those of the digest. -/
theorem ks_laid : (Rows.laid_dialtone_digest_round : DataW Unit) = .agg ((kOf.map fun k => (k.toNat : Int)).map fun k => .lit (.int .u32 k)) := by kernel_rfl
theorem door_met (os : Os) (args : Array Value) : laidMetH Tryz.prog laid1 ((World.doorLaid Tryz.prog 4000 os).forCall (fun _ _ => 0) ⟨#[], args, []⟩).memory :=
 laidMetH_of_parts3 (fuel := 8) (laidMet_of_run' 8 (by kernel_rfl) (by kernel_rfl)) (by kernel_rfl) (by kernel_rfl)
theorem shaped_met (os : Os) (args : Array Value) : ((World.doorLaid Tryz.prog 4000 os).forCall (fun _ _ => 0) ⟨#[], args, []⟩).Shaped Tryz.prog := World.shaped_of_RefB (by kernel_rfl) (by kernel_rfl)
theorem hk0_of {W : World} (h : laidMetH Tryz.prog laid1 W) (hs : W.ShapedOpen Tryz.prog) : (blk 0 (kOf.map wv) 239).ok W := by
 rw [MakeChecks.laidMetH_plain _ _ _ (by kernel_rfl)] at h
 obtain ⟨ps, ⟨g0, t0, cs0, f0, p0, q0, hg0, ht0, hv0, hd0, _, _⟩, _, _⟩ := h
 obtain rfl := Option.some.inj (gRound.symm.trans hg0)
 obtain rfl := Option.some.inj (tRound.symm.trans ht0)
 obtain ⟨cs, hcs, _, _⟩ := hs.1 0 (List.replicate 64 (.int .u32 0)).toArray 239 (of_decide_eq_true (by kernel_rfl)) (by kernel_rfl)
 have e : cs0 = cs := by
  have := hv0
  simp only [World.var?, gRound, Option.bind_some, hcs, Option.some.injEq] at this
  exact this.symm
 subst e
 have hw := trod_words (ks := kOf.map fun k => (k.toNat : Int)) Tryz.underlying239 Tryz.underlying191 (by kernel_rfl) (by kernel_rfl) hd0 ks_laid
 have hl : cs0 = (kOf.map wv).toArray := by
  apply Array.toList_inj.1
  rw [hw, List.map_map]; rfl
 show W.heap[0]? = some (.cells (kOf.map wv).toArray 239)
 rw [← hl]; exact hcs
end Go.Proofs.YtmmfieceinmloaaGreatDoor
namespace Go.Proofs.YtmmfieceinmloaaGreatDoor
open Go.RowKit Go.PW
set_option linter.unusedVariables false
set_option linter.unusedSimpArgs false
set_option maxRecDepth 4000
theorem pick_x {a n c : Int} {w0 : World} (h : pickI a n = c) (ha : i64 a) (hn : 0 < n ∧ n ≤ 9223372036854775807) : Ret Tryz.prog 11 #[.int .i64 a, .int .i64 n] w0 fun v w => v = .int .i64 c ∧ Ext No w0 w := by
 subst h; exact pickL_ok a n w0 ha hn
theorem pxy_ones {l : List (List Value)} (h : ∀ e ∈ l, ∃ p : Pxy, e = p.cells) : ∀ e ∈ l, ∀ u ∈ e, u.oneCell' = true := by
 intro e he u hu
 obtain ⟨p, rfl⟩ := h e he
 simp only [Pxy.cells, List.mem_cons, List.not_mem_nil, or_false] at hu
 rcases hu with rfl | rfl | rfl | rfl | rfl | rfl | rfl <;> rfl
theorem hashed_len {key s : By} (hk : key.length ≤ 1000) (hs : s.length ≤ 1000) : ∀ z ∈ hashedH key s, z.length ≤ 100000000 := by
 intro z hz
 simp only [hashedH, List.mem_cons, List.not_mem_nil, or_false] at hz
 rcases hz with rfl | rfl
 ·simp; omega
 ·have := leaf_len sha_len (s := s)
  simp only [List.length_append, List.length_cons, List.length_nil]; omega
theorem keysH_getD {who : Int} (h : 0 ≤ who ∧ who < 10) : keysH.getD who.toNat [] = keyH who := by
 have h1 := keysH_at h.1 h.2
 unfold keyAt at h1
 rw [if_neg (by omega)] at h1
 rw [List.getD_eq_getElem?_getD, h1]; rfl
/-- One seal for two contents: two strings are found. -/
theorem coll_two {k k' c c' : By} (hc : c ≠ c') (h1 : k.length = 32) (h2 : k'.length = 32) (h : sealH k c = sealH k' c') : collH (hashedH k c) (hashedH k' c') = true := by
 by_cases e : k ++ leafH sha c = k' ++ leafH sha c'
 ·have e3 := (List.append_inj e (by rw [h1, h2])).2
  refine coll_true (i := 0) (j := 0) (by simp [hashedH]) (by simp [hashedH]) ?_
  have e1 : ¬ (hashedH k c).getD 0 [] = (hashedH k' c').getD 0 [] := fun e => hc (by simpa [hashedH] using e)
  have e2 : sha ((hashedH k c).getD 0 []) = sha ((hashedH k' c').getD 0 []) := e3
  unfold collB
  rw [decide_eq_false e1, decide_eq_true e2]; rfl
 ·refine coll_true (i := 1) (j := 1) (by simp [hashedH]) (by simp [hashedH]) ?_
  have e1 : ¬ (hashedH k c).getD 1 [] = (hashedH k' c').getD 1 [] := fun e2 => e (by simpa [hashedH] using e2)
  have e2 : sha ((hashedH k c).getD 1 []) = sha ((hashedH k' c').getD 1 []) := by
   unfold sealH nodeH at h; simpa [hashedH] using h
  unfold collB
  rw [decide_eq_false e1, decide_eq_true e2]; rfl
theorem Wsh.content_inj {v x : Wsh} (hv : v.ok = true) (hx : x.ok = true) (hs : v.sig = x.sig) (h : v.content = x.content) : v = x := by
 obtain ⟨e, _⟩ := puts_inj (k := v.nums) (l := x.nums) (a := []) (b := []) rfl (Wsh.smalls_of hv) (Wsh.smalls_of hx) (by
  show v.content ++ [] = x.content ++ []
  rw [h])
 cases v; cases x
 simp only [Wsh.nums, List.cons.injEq, true_and, and_true] at e
 simp only at hs
 obtain ⟨rfl, rfl, rfl, rfl, rfl, rfl, rfl, rfl⟩ := e
 subst hs; rfl
theorem Pxy.content_inj {v x : Pxy} (hv : v.ok = true) (hx : x.ok = true) (hs : v.sig = x.sig) (h : v.content = x.content) : v = x := by
 obtain ⟨e, _⟩ := puts_inj (k := v.nums) (l := x.nums) (a := []) (b := []) rfl (Pxy.smalls_of hv) (Pxy.smalls_of hx) (by
  show v.content ++ [] = x.content ++ []
  rw [h])
 cases v; cases x
 simp only [Pxy.nums, List.cons.injEq, true_and, and_true] at e
 simp only at hs
 obtain ⟨rfl, rfl, rfl, rfl, rfl, rfl⟩ := e
 subst hs; rfl
theorem valid_ok_of {ks : List By} {x : Wsh} {ps : List Pxy} {n t : Int} (h : validH ks x ps n t = true) : x.ok = true := by
 obtain ⟨h0, _⟩ := valid_iff.1 h
 cases hx : x.ok with
 | true => rfl
 | false => exact absurd (.inr (.inr (.inl hx))) h0
theorem binds_w {x v : Wsh} {ps : List Pxy} (h : Mk x ps) (hs : v.sig = x.sig) (hne : ¬ v = x) {n t : Int} (hv : validH keysH v ps n t = true) :
  v.ok = true ∧ (0 ≤ v.signer ∧ v.signer < 10) ∧ collH (hashedH (keysH.getD x.signer.toNat []) x.content) (hashedH (keysH.getD v.signer.toNat []) v.content) = true := by
 have hok := valid_ok_of hv
 obtain ⟨_, _, _, _, _, _, hl⟩ := valid_iff.1 hv
 obtain ⟨key, h1, h2⟩ := (seal_all hl).2
 obtain ⟨h3, h4, rfl⟩ := keysH_get h1
 refine ⟨hok, ⟨h3, h4⟩, ?_⟩
 rw [keysH_getD ⟨h3, h4⟩, keysH_getD ⟨h.sgn.1, h.sgn.2.1⟩]
 exact coll_two (fun e => hne (Wsh.content_inj hok h.ok hs e.symm)) (keyH_len _) (keyH_len _) (by rw [← h2, ← h.sgn.2.2, hs])
theorem binds_p {x : Wsh} {ps : List Pxy} (h : Mk x ps) {k : Nat} (hk : k < ps.length) {q : Pxy} (hs : q.sig = (ps.getD k Pxy.z).sig) (hne : ¬ q = ps.getD k Pxy.z) {n t : Int} (hv : validH keysH x (ps.set k q) n t = true) :
  q.ok = true ∧ (0 ≤ q.frm ∧ q.frm < 10) ∧ collH (hashedH (keysH.getD (ps.getD k Pxy.z).frm.toNat []) (ps.getD k Pxy.z).content) (hashedH (keysH.getD q.frm.toNat []) q.content) = true := by
 obtain ⟨_, hb, _, _, _, _, hl⟩ := valid_iff.1 hv
 have hm : q ∈ ps.set k q := List.mem_set hk q
 have hok := badIdx_all hb q hm
 obtain ⟨key, h1, h2⟩ := (seal_all hl).1 q hm
 obtain ⟨h3, h4, rfl⟩ := keysH_get h1
 have he := h.each (getD_mem (d := Pxy.z) hk)
 refine ⟨hok, ⟨h3, h4⟩, ?_⟩
 rw [keysH_getD ⟨h3, h4⟩, keysH_getD ⟨he.1, he.2.1⟩]
 exact coll_two (fun e => hne (Pxy.content_inj hok he.2.2.2 hs e.symm)) (keyH_len _) (keyH_len _) (by rw [← h2, ← he.2.2.1, hs])
theorem v_subw {P : Program} {w : World} {L : List (Nat × Value)} {dst : Option Tmp} {T T' ty : TypeId} {pos : String} {af : Array Edge} {gd : Option (Nat × Bool)} {x y : Operand} {m n : Int} (hx : ev L x = some (.int .i64 m)) (hy : ev L y = some (.int .i64 n)) :
  OpV P ⟨dst, .binOp .sub T x y T', ty, pos, af, gd⟩ L w (.int .i64 (IntKind.i64.wrap (m - n))) := v_bin hx hy (run_arith (.inr (.inl rfl)))
def bentP (x : Pxy) (how n : Int) : Pxy :=
 if pickI how 7 = 0 then { x with frm := n } else if pickI how 7 = 1 then { x with to := n } else if pickI how 7 = 2 then { x with rf := n } else if pickI how 7 = 3 then { x with rt := n } else
 if pickI how 7 = 4 then { x with sf := n } else if pickI how 7 = 5 then { x with st := n } else { x with rt := x.rt + 1 }
theorem bentP_sig (x : Pxy) (how n : Int) : (bentP x how n).sig = x.sig := by unfold bentP; repeat' split <;> try rfl
theorem bentW_sig (x : Wsh) (how n : Int) : (bentW x how n).sig = x.sig := by unfold bentW; repeat' split <;> try rfl
theorem bent_x {x bw : Wsh} {how n : Int} {w0 : World} (hbw : bentW x how n = bw) (hh : -9223372036854775808 ≤ how ∧ how ≤ 9223372036854775807) (hx : x.rt < 9223372036854775807) (hx2 : -9223372036854775808 ≤ x.rt) :
  Ret Tryz.prog 10 #[.agg #[.int .i64 x.signer, .int .i64 x.holder, .int .i64 x.rf, .int .i64 x.rt, .int .i64 x.carrier, .int .i64 x.serial, .int .i64 x.sf, .int .i64 x.st, sv x.sig], .int .i64 how, .int .i64 n] w0 fun v w => v = .tuple #[.agg #[.int .i64 bw.signer, .int .i64 bw.holder, .int .i64 bw.rf, .int .i64 bw.rt, .int .i64 bw.carrier, .int .i64 bw.serial, .int .i64 bw.sf, .int .i64 bw.st, sv bw.sig], .bool (!(decide (bw = x)))] ∧ Ext No w0 w := by
 subst hbw; exact bent_ok x how n w0 hh hx hx2
set_option maxHeartbeats 4000000 in
/-- dialtone/dialtoneref15.BentProxy -/
theorem bentp_ok (x : Pxy) (how n : Int) (w0 : World) (hh : -9223372036854775808 ≤ how ∧ how ≤ 9223372036854775807) (hx : x.rt < 9223372036854775807) (hx2 : -9223372036854775808 ≤ x.rt) :
  Ret Tryz.prog 12 #[.agg #[.int .i64 x.frm, .int .i64 x.to, .int .i64 x.rf, .int .i64 x.rt, .int .i64 x.sf, .int .i64 x.st, sv x.sig], .int .i64 how, .int .i64 n] w0 fun v w => v = .tuple #[.agg (bentP x how n).cells.toArray, .bool (!(decide (bentP x how n = x)))] ∧ Ext No w0 w := by
 refine ret_of Tryz.func12 rfl Tryz.ntmps12 (Nat.le_of_ble_eq_true rfl) fun a hfr => ?_
 replace hfr : Fr 50 [(0, _), (1, _), (2, _)] [] a := hfr
 replace hst : St No w0 [] w0 := St.init w0
 refine wc_seq_region fun K1 hK1 => ?_
 refine wl_box hfr hst (by decide) rfl (cs := [.int .i64 x.frm, .int .i64 x.to, .int .i64 x.rf, .int .i64 x.rt, .int .i64 x.sf, .int .i64 x.st, sv x.sig]) rfl ?_
 clear hfr hst
 intro a w1 hfr hst
 refine wl_alloc hfr hst (by decide) (Tryz.zeroValue40 _) (cs := [.int .i64 0, .int .i64 0, .int .i64 0, .int .i64 0, .int .i64 0, .int .i64 0, .string (⟨#[]⟩)]) rfl ?_
 clear hfr hst
 intro a w2 hfr hst
 refine wla hfr rfl fun a hfr => ?_
 refine wl_nil (hK1 _ _ ?_)
 refine wc_seq_region fun K2 hK2 => ?_
 refine wlv hfr (v_load_all (hst.get (k := 1) rfl) rfl (Tryz.isAgg40 _) (Tryz.sizeOf40 _)) fun a hfr => ?_
 refine wl_alloc hfr hst (by decide) (Tryz.zeroValue40 _) (cs := [.int .i64 0, .int .i64 0, .int .i64 0, .int .i64 0, .int .i64 0, .int .i64 0, .string (⟨#[]⟩)]) rfl ?_
 clear hfr hst
 intro a w3 hfr hst
 refine wl_store 0 hfr hst rfl rfl rfl (Tryz.sizeOf40 _) rfl (Nat.le_of_ble_eq_true rfl) (ds := [.int .i64 x.frm, .int .i64 x.to, .int .i64 x.rf, .int .i64 x.rt, .int .i64 x.sf, .int .i64 x.st, sv x.sig]) rfl rfl ?_
 clear hfr hst
 intro a w4 hfr hst
 refine wl_nil (hK2 _ _ ?_)
 refine wc_seq_k fun K3 hK3 => ?_
 refine wc_seq_region fun K4 hK4 => ?_
 refine wlm hfr rfl fun a hfr => ?_
 refine wl_callp hfr hst (by decide) Tryz.call53 rfl (pick15_ok how 7 _ (by first | assumption | omega) (by omega)) ?_
 clear hfr hst
 intro a w5 hfr hst
 refine wl_nil (hK4 _ _ ?_)
 refine wc_block ?_
 refine wc_seq_region fun K5 hK5 => ?_
 refine wlv hfr (v_eq rfl rfl) fun a hfr => ?_
 refine wla hfr rfl fun a hfr => ?_
 refine wl_nil (hK5 _ _ ?_)
 refine wc_cond hfr rfl (fun hc1 => ?_) (fun hc1 => ?_)
 ·rw [hc1] at hfr
  try simp only [qz] at hc1
  refine wc_region ?_
  refine wlm hfr rfl fun a hfr => ?_
  refine wlv hfr (v_fieldAddr (v := .pointer (some ⟨w2.heap.size, 0, none⟩)) rfl (by kernel_rfl)) fun a hfr => ?_
  refine wl_store 0 hfr hst rfl rfl rfl (Tryz.sizeOf3 _) rfl (Nat.le_of_ble_eq_true rfl) (ds := [.int .i64 n, .int .i64 x.to, .int .i64 x.rf, .int .i64 x.rt, .int .i64 x.sf, .int .i64 x.st, sv x.sig]) rfl rfl ?_
  clear hfr hst
  intro a w6 hfr hst
  refine wl_nil ?_
  refine hK3 _ _ ?_
  replace hfr : Fr 50 [(3, _), (6, _), (7, _), (8, _)] [] a := hfr.pick [3, 6, 7, 8]
  refine wc_seq_k fun K6 hK6 => ?_
  refine wc_of_dr (by kernel_rfl) (dr_of_wd (by kernel_rfl) fun w7 hxz => ?_)
  replace hst := hst.grow hxz
  refine wd_sub (k := 0) 5 [3, 4] hfr (by kernel_rfl) (by kernel_rfl) (by kernel_rfl) (by rfl) ?_
  replace hfr : Fr 50 [(3, _), (6, _), (7, _), (8, _)] [] a := hfr.pick [3, 6, 7, 8]
  replace hst : St No w0 [blk w1.heap.size [.int .i64 0, .int .i64 0, .int .i64 0, .int .i64 0, .int .i64 0, .int .i64 0, .string (⟨#[]⟩)] 40, blk w2.heap.size [.int .i64 n, .int .i64 x.to, .int .i64 x.rf, .int .i64 x.rt, .int .i64 x.sf, .int .i64 x.st, sv x.sig] 40, blk w0.heap.size [.int .i64 x.frm, .int .i64 x.to, .int .i64 x.rf, .int .i64 x.rt, .int .i64 x.sf, .int .i64 x.st, sv x.sig] 40] w7 := hst.select [1, 0, 2] (by decide)
  refine wc_phases_set [4] (fun q => if q = 4 then blk w1.heap.size [.int .i64 0, .int .i64 0, .int .i64 0, .int .i64 0, .int .i64 0, .int .i64 0, .string (⟨#[]⟩)] 40 else join []) (fun q => if q = 4 then blk w1.heap.size [.int .i64 n, .int .i64 x.to, .int .i64 x.rf, .int .i64 x.rt, .int .i64 x.sf, .int .i64 x.st, sv x.sig] 40 else join []) 5 [[], [], [], [1, 2], [0]] (fun i => match i with | 0 => pv (.agg #[.int .i64 n, .int .i64 x.to, .int .i64 x.rf, .int .i64 x.rt, .int .i64 x.sf, .int .i64 x.st, sv x.sig]) | 1 => pv (.agg #[.int .i64 n, .int .i64 x.to, .int .i64 x.rf, .int .i64 x.rt, .int .i64 x.sf, .int .i64 x.st, sv x.sig]) | 2 => pv (.agg #[.int .i64 x.frm, .int .i64 x.to, .int .i64 x.rf, .int .i64 x.rt, .int .i64 x.sf, .int .i64 x.st, sv x.sig]) | 3 => pv (.bool (!(decide ((Pxy.mk n x.to x.rf x.rt x.sf x.st x.sig) = x)))) | 4 => fun v E => v = undef ∧ E = [] | _ => fun _ _ => False) (by intro q; by_cases h4 : q = 4; (subst h4; rfl); simp only [h4, if_false]) hfr (H := [blk w2.heap.size [.int .i64 n, .int .i64 x.to, .int .i64 x.rf, .int .i64 x.rt, .int .i64 x.sf, .int .i64 x.st, sv x.sig] 40, blk w0.heap.size [.int .i64 x.frm, .int .i64 x.to, .int .i64 x.rf, .int .i64 x.rt, .int .i64 x.sf, .int .i64 x.st, sv x.sig] 40]) hst (by kernel_rfl) (by kernel_rfl) (by kernel_rfl) (by kernel_rfl) (by decide) (by decide) ?_ ?_ ?_ ?_ ?_ ?_
  ·intro i v E h
   match i, h with
   | 0, _ => exact by decide
   | 1, _ => exact by decide
   | 2, _ => exact by decide
   | 3, _ => exact by decide
   | 4, _ => exact by decide
   | i + 5, h => exact h.elim
  ·intro q v E hq h
   simp only [List.mem_cons, List.not_mem_nil, or_false] at hq
   rcases hq with rfl <;> exact h
  ·intro q hq
   simp only [List.mem_cons, List.not_mem_nil, or_false] at hq
   rcases hq with rfl <;> exact ⟨rfl, rfl⟩
  ·intro i hi hiq e
   match i, hi, hiq with
   | 0, _, _ =>
    intro w hst
    exact OpV.g (v_load_all (hst.get (k := 1) rfl) rfl (Tryz.isAgg40 _) (Tryz.sizeOf40 _))
   | 1, _, _ =>
    intro w hst
    exact OpV.g (v_load_all (hst.get (k := 1) rfl) rfl (Tryz.isAgg40 _) (Tryz.sizeOf40 _))
   | 2, _, _ =>
    intro w hst
    exact OpV.g (v_load_all (hst.get (k := 2) rfl) rfl (Tryz.isAgg40 _) (Tryz.sizeOf40 _))
   | 3, _, _ =>
    rintro _ _ ⟨rfl, rfl⟩ _ _ ⟨rfl, rfl⟩
    intro w hst
    exact OpV.g ((v_ne_agg rfl rfl (by kernel_rfl) (eqPxy n x.to x.rf x.rt x.sf x.st x.sig x.frm x.to x.rf x.rt x.sf x.st x.sig _)).asb (b' := !(decide ((Pxy.mk n x.to x.rf x.rt x.sf x.st x.sig) = x))) (by rfl))
   | 4, _, h => exact absurd (by decide) h
  ·intro q hq
   simp only [List.mem_cons, List.not_mem_nil, or_false] at hq
   rcases hq with rfl
   ·rintro _ _ ⟨rfl, rfl⟩
    intro w h
    exact r_storeU (cs := [.int .i64 0, .int .i64 0, .int .i64 0, .int .i64 0, .int .i64 0, .int .i64 0, .string (⟨#[]⟩)]) (ds := [.int .i64 n, .int .i64 x.to, .int .i64 x.rf, .int .i64 x.rt, .int .i64 x.sf, .int .i64 x.st, sv x.sig]) rfl rfl h (Tryz.sizeOf40 _) rfl (Nat.le_of_ble_eq_true rfl) rfl
  clear hfr hst
  rintro _ _ ⟨rfl, rfl⟩ _ _ ⟨rfl, rfl⟩ _ _ ⟨rfl, rfl⟩ _ _ ⟨rfl, rfl⟩ a w8 hfr hst
  replace hfr : Fr 50 [(46, _), (47, _), (48, _), (49, _), (3, _), (6, _), (7, _), (8, _)] [] a := hfr
  replace hst : St No w0 [blk w1.heap.size [.int .i64 n, .int .i64 x.to, .int .i64 x.rf, .int .i64 x.rt, .int .i64 x.sf, .int .i64 x.st, sv x.sig] 40, blk w2.heap.size [.int .i64 n, .int .i64 x.to, .int .i64 x.rf, .int .i64 x.rt, .int .i64 x.sf, .int .i64 x.st, sv x.sig] 40, blk w0.heap.size [.int .i64 x.frm, .int .i64 x.to, .int .i64 x.rf, .int .i64 x.rt, .int .i64 x.sf, .int .i64 x.st, sv x.sig] 40] w8 := hst
  refine wl_nil ?_
  refine wd_lin (k := 5) 6 [5] (by kernel_rfl) (by kernel_rfl) (by kernel_rfl) ?_
  refine wla hfr rfl fun a hfr => ?_
  refine wl_nil ?_
  refine wd_end (by kernel_rfl) ?_
  refine hK6 _ _ ?_
  replace hfr : Fr 50 [(6, _), (7, _)] [] a := hfr.pick [6, 7]
  replace hst : St No w0 [_] w8 := hst.mask [true, false, false]
  refine wc_ret ?_
  refine fin_ret hfr Tryz.results12 (resAre_cell rfl (res_all (hst.get (k := 0) rfl) (Tryz.isAgg40 _) (Tryz.sizeOf40 _)) (resAre_tmp rfl resAre_nil)) ?_
  have e : bentP x how n = Pxy.mk n x.to x.rf x.rt x.sf x.st x.sig := by unfold bentP; simp [hc1]
  rw [e]
  exact ⟨rfl, hst.ext⟩
 rw [hc1] at hfr
 try simp only [qz] at hc1
 refine wc_seq_region fun K7 hK7 => ?_
 refine wlv hfr (v_eq rfl rfl) fun a hfr => ?_
 refine wla hfr rfl fun a hfr => ?_
 refine wl_nil (hK7 _ _ ?_)
 replace hfr : Fr 50 [(2, _), (3, _), (6, _), (7, _), (8, _), (11, _), (22, _)] [] a := hfr.pick [2, 3, 6, 7, 8, 11, 22]
 refine wc_cond hfr rfl (fun hc2 => ?_) (fun hc2 => ?_)
 ·rw [hc2] at hfr
  try simp only [qz] at hc2
  refine wc_region ?_
  refine wlm hfr rfl fun a hfr => ?_
  refine wlv hfr (v_fieldAddr (v := .pointer (some ⟨w2.heap.size, 1, none⟩)) rfl (by kernel_rfl)) fun a hfr => ?_
  refine wl_store 0 hfr hst rfl rfl rfl (Tryz.sizeOf3 _) rfl (Nat.le_of_ble_eq_true rfl) (ds := [.int .i64 x.frm, .int .i64 n, .int .i64 x.rf, .int .i64 x.rt, .int .i64 x.sf, .int .i64 x.st, sv x.sig]) rfl rfl ?_
  clear hfr hst
  intro a w9 hfr hst
  refine wl_nil ?_
  refine hK3 _ _ ?_
  refine wc_seq_k fun K8 hK8 => ?_
  refine wc_of_dr (by kernel_rfl) (dr_of_wd (by kernel_rfl) fun w10 hxz => ?_)
  replace hst := hst.grow hxz
  refine wd_sub (k := 0) 5 [3, 4] hfr (by kernel_rfl) (by kernel_rfl) (by kernel_rfl) (by rfl) ?_
  replace hfr : Fr 50 [(2, _), (3, _), (6, _), (7, _), (8, _), (11, _), (22, _), (24, _), (25, _)] [] a := hfr.pick [2, 3, 6, 7, 8, 11, 22, 24, 25]
  replace hst : St No w0 [blk w1.heap.size [.int .i64 0, .int .i64 0, .int .i64 0, .int .i64 0, .int .i64 0, .int .i64 0, .string (⟨#[]⟩)] 40, blk w2.heap.size [.int .i64 x.frm, .int .i64 n, .int .i64 x.rf, .int .i64 x.rt, .int .i64 x.sf, .int .i64 x.st, sv x.sig] 40, blk w0.heap.size [.int .i64 x.frm, .int .i64 x.to, .int .i64 x.rf, .int .i64 x.rt, .int .i64 x.sf, .int .i64 x.st, sv x.sig] 40] w10 := hst.select [1, 0, 2] (by decide)
  refine wc_phases_set [4] (fun q => if q = 4 then blk w1.heap.size [.int .i64 0, .int .i64 0, .int .i64 0, .int .i64 0, .int .i64 0, .int .i64 0, .string (⟨#[]⟩)] 40 else join []) (fun q => if q = 4 then blk w1.heap.size [.int .i64 x.frm, .int .i64 n, .int .i64 x.rf, .int .i64 x.rt, .int .i64 x.sf, .int .i64 x.st, sv x.sig] 40 else join []) 5 [[], [], [], [1, 2], [0]] (fun i => match i with | 0 => pv (.agg #[.int .i64 x.frm, .int .i64 n, .int .i64 x.rf, .int .i64 x.rt, .int .i64 x.sf, .int .i64 x.st, sv x.sig]) | 1 => pv (.agg #[.int .i64 x.frm, .int .i64 n, .int .i64 x.rf, .int .i64 x.rt, .int .i64 x.sf, .int .i64 x.st, sv x.sig]) | 2 => pv (.agg #[.int .i64 x.frm, .int .i64 x.to, .int .i64 x.rf, .int .i64 x.rt, .int .i64 x.sf, .int .i64 x.st, sv x.sig]) | 3 => pv (.bool (!(decide ((Pxy.mk x.frm n x.rf x.rt x.sf x.st x.sig) = x)))) | 4 => fun v E => v = undef ∧ E = [] | _ => fun _ _ => False) (by intro q; by_cases h4 : q = 4; (subst h4; rfl); simp only [h4, if_false]) hfr (H := [blk w2.heap.size [.int .i64 x.frm, .int .i64 n, .int .i64 x.rf, .int .i64 x.rt, .int .i64 x.sf, .int .i64 x.st, sv x.sig] 40, blk w0.heap.size [.int .i64 x.frm, .int .i64 x.to, .int .i64 x.rf, .int .i64 x.rt, .int .i64 x.sf, .int .i64 x.st, sv x.sig] 40]) hst (by kernel_rfl) (by kernel_rfl) (by kernel_rfl) (by kernel_rfl) (by decide) (by decide) ?_ ?_ ?_ ?_ ?_ ?_
  ·intro i v E h
   match i, h with
   | 0, _ => exact by decide
   | 1, _ => exact by decide
   | 2, _ => exact by decide
   | 3, _ => exact by decide
   | 4, _ => exact by decide
   | i + 5, h => exact h.elim
  ·intro q v E hq h
   simp only [List.mem_cons, List.not_mem_nil, or_false] at hq
   rcases hq with rfl <;> exact h
  ·intro q hq
   simp only [List.mem_cons, List.not_mem_nil, or_false] at hq
   rcases hq with rfl <;> exact ⟨rfl, rfl⟩
  ·intro i hi hiq e
   match i, hi, hiq with
   | 0, _, _ =>
    intro w hst
    exact OpV.g (v_load_all (hst.get (k := 1) rfl) rfl (Tryz.isAgg40 _) (Tryz.sizeOf40 _))
   | 1, _, _ =>
    intro w hst
    exact OpV.g (v_load_all (hst.get (k := 1) rfl) rfl (Tryz.isAgg40 _) (Tryz.sizeOf40 _))
   | 2, _, _ =>
    intro w hst
    exact OpV.g (v_load_all (hst.get (k := 2) rfl) rfl (Tryz.isAgg40 _) (Tryz.sizeOf40 _))
   | 3, _, _ =>
    rintro _ _ ⟨rfl, rfl⟩ _ _ ⟨rfl, rfl⟩
    intro w hst
    exact OpV.g ((v_ne_agg rfl rfl (by kernel_rfl) (eqPxy x.frm n x.rf x.rt x.sf x.st x.sig x.frm x.to x.rf x.rt x.sf x.st x.sig _)).asb (b' := !(decide ((Pxy.mk x.frm n x.rf x.rt x.sf x.st x.sig) = x))) (by rfl))
   | 4, _, h => exact absurd (by decide) h
  ·intro q hq
   simp only [List.mem_cons, List.not_mem_nil, or_false] at hq
   rcases hq with rfl
   ·rintro _ _ ⟨rfl, rfl⟩
    intro w h
    exact r_storeU (cs := [.int .i64 0, .int .i64 0, .int .i64 0, .int .i64 0, .int .i64 0, .int .i64 0, .string (⟨#[]⟩)]) (ds := [.int .i64 x.frm, .int .i64 n, .int .i64 x.rf, .int .i64 x.rt, .int .i64 x.sf, .int .i64 x.st, sv x.sig]) rfl rfl h (Tryz.sizeOf40 _) rfl (Nat.le_of_ble_eq_true rfl) rfl
  clear hfr hst
  rintro _ _ ⟨rfl, rfl⟩ _ _ ⟨rfl, rfl⟩ _ _ ⟨rfl, rfl⟩ _ _ ⟨rfl, rfl⟩ a w11 hfr hst
  replace hfr : Fr 50 [(46, _), (47, _), (48, _), (49, _), (2, _), (3, _), (6, _), (7, _), (8, _), (11, _), (22, _), (24, _), (25, _)] [] a := hfr
  replace hst : St No w0 [blk w1.heap.size [.int .i64 x.frm, .int .i64 n, .int .i64 x.rf, .int .i64 x.rt, .int .i64 x.sf, .int .i64 x.st, sv x.sig] 40, blk w2.heap.size [.int .i64 x.frm, .int .i64 n, .int .i64 x.rf, .int .i64 x.rt, .int .i64 x.sf, .int .i64 x.st, sv x.sig] 40, blk w0.heap.size [.int .i64 x.frm, .int .i64 x.to, .int .i64 x.rf, .int .i64 x.rt, .int .i64 x.sf, .int .i64 x.st, sv x.sig] 40] w11 := hst
  refine wl_nil ?_
  refine wd_lin (k := 5) 6 [5] (by kernel_rfl) (by kernel_rfl) (by kernel_rfl) ?_
  refine wla hfr rfl fun a hfr => ?_
  refine wl_nil ?_
  refine wd_end (by kernel_rfl) ?_
  refine hK8 _ _ ?_
  replace hfr : Fr 50 [(6, _), (7, _)] [] a := hfr.pick [6, 7]
  replace hst : St No w0 [_] w11 := hst.mask [true, false, false]
  refine wc_ret ?_
  refine fin_ret hfr Tryz.results12 (resAre_cell rfl (res_all (hst.get (k := 0) rfl) (Tryz.isAgg40 _) (Tryz.sizeOf40 _)) (resAre_tmp rfl resAre_nil)) ?_
  have e : bentP x how n = Pxy.mk x.frm n x.rf x.rt x.sf x.st x.sig := by unfold bentP; simp [hc1, hc2]
  rw [e]
  exact ⟨rfl, hst.ext⟩
 rw [hc2] at hfr
 try simp only [qz] at hc2
 refine wc_seq_region fun K9 hK9 => ?_
 refine wlv hfr (v_eq rfl rfl) fun a hfr => ?_
 refine wla hfr rfl fun a hfr => ?_
 refine wl_nil (hK9 _ _ ?_)
 refine wc_cond hfr rfl (fun hc3 => ?_) (fun hc3 => ?_)
 ·rw [hc3] at hfr
  try simp only [qz] at hc3
  refine wc_region ?_
  refine wlm hfr rfl fun a hfr => ?_
  refine wlv hfr (v_fieldAddr (v := .pointer (some ⟨w2.heap.size, 2, none⟩)) rfl (by kernel_rfl)) fun a hfr => ?_
  refine wlv hfr (v_fieldAddr (v := .pointer (some ⟨w2.heap.size, 2, none⟩)) rfl (by kernel_rfl)) fun a hfr => ?_
  refine wl_store 0 hfr hst rfl rfl rfl (Tryz.sizeOf3 _) rfl (Nat.le_of_ble_eq_true rfl) (ds := [.int .i64 x.frm, .int .i64 x.to, .int .i64 n, .int .i64 x.rt, .int .i64 x.sf, .int .i64 x.st, sv x.sig]) rfl rfl ?_
  clear hfr hst
  intro a w12 hfr hst
  refine wl_nil ?_
  refine hK3 _ _ ?_
  replace hfr : Fr 50 [(3, _), (6, _), (7, _), (8, _)] [] a := hfr.pick [3, 6, 7, 8]
  refine wc_seq_k fun K10 hK10 => ?_
  refine wc_of_dr (by kernel_rfl) (dr_of_wd (by kernel_rfl) fun w13 hxz => ?_)
  replace hst := hst.grow hxz
  refine wd_sub (k := 0) 5 [3, 4] hfr (by kernel_rfl) (by kernel_rfl) (by kernel_rfl) (by rfl) ?_
  replace hfr : Fr 50 [(3, _), (6, _), (7, _), (8, _)] [] a := hfr.pick [3, 6, 7, 8]
  replace hst : St No w0 [blk w1.heap.size [.int .i64 0, .int .i64 0, .int .i64 0, .int .i64 0, .int .i64 0, .int .i64 0, .string (⟨#[]⟩)] 40, blk w2.heap.size [.int .i64 x.frm, .int .i64 x.to, .int .i64 n, .int .i64 x.rt, .int .i64 x.sf, .int .i64 x.st, sv x.sig] 40, blk w0.heap.size [.int .i64 x.frm, .int .i64 x.to, .int .i64 x.rf, .int .i64 x.rt, .int .i64 x.sf, .int .i64 x.st, sv x.sig] 40] w13 := hst.select [1, 0, 2] (by decide)
  refine wc_phases_set [4] (fun q => if q = 4 then blk w1.heap.size [.int .i64 0, .int .i64 0, .int .i64 0, .int .i64 0, .int .i64 0, .int .i64 0, .string (⟨#[]⟩)] 40 else join []) (fun q => if q = 4 then blk w1.heap.size [.int .i64 x.frm, .int .i64 x.to, .int .i64 n, .int .i64 x.rt, .int .i64 x.sf, .int .i64 x.st, sv x.sig] 40 else join []) 5 [[], [], [], [1, 2], [0]] (fun i => match i with | 0 => pv (.agg #[.int .i64 x.frm, .int .i64 x.to, .int .i64 n, .int .i64 x.rt, .int .i64 x.sf, .int .i64 x.st, sv x.sig]) | 1 => pv (.agg #[.int .i64 x.frm, .int .i64 x.to, .int .i64 n, .int .i64 x.rt, .int .i64 x.sf, .int .i64 x.st, sv x.sig]) | 2 => pv (.agg #[.int .i64 x.frm, .int .i64 x.to, .int .i64 x.rf, .int .i64 x.rt, .int .i64 x.sf, .int .i64 x.st, sv x.sig]) | 3 => pv (.bool (!(decide ((Pxy.mk x.frm x.to n x.rt x.sf x.st x.sig) = x)))) | 4 => fun v E => v = undef ∧ E = [] | _ => fun _ _ => False) (by intro q; by_cases h4 : q = 4; (subst h4; rfl); simp only [h4, if_false]) hfr (H := [blk w2.heap.size [.int .i64 x.frm, .int .i64 x.to, .int .i64 n, .int .i64 x.rt, .int .i64 x.sf, .int .i64 x.st, sv x.sig] 40, blk w0.heap.size [.int .i64 x.frm, .int .i64 x.to, .int .i64 x.rf, .int .i64 x.rt, .int .i64 x.sf, .int .i64 x.st, sv x.sig] 40]) hst (by kernel_rfl) (by kernel_rfl) (by kernel_rfl) (by kernel_rfl) (by decide) (by decide) ?_ ?_ ?_ ?_ ?_ ?_
  ·intro i v E h
   match i, h with
   | 0, _ => exact by decide
   | 1, _ => exact by decide
   | 2, _ => exact by decide
   | 3, _ => exact by decide
   | 4, _ => exact by decide
   | i + 5, h => exact h.elim
  ·intro q v E hq h
   simp only [List.mem_cons, List.not_mem_nil, or_false] at hq
   rcases hq with rfl <;> exact h
  ·intro q hq
   simp only [List.mem_cons, List.not_mem_nil, or_false] at hq
   rcases hq with rfl <;> exact ⟨rfl, rfl⟩
  ·intro i hi hiq e
   match i, hi, hiq with
   | 0, _, _ =>
    intro w hst
    exact OpV.g (v_load_all (hst.get (k := 1) rfl) rfl (Tryz.isAgg40 _) (Tryz.sizeOf40 _))
   | 1, _, _ =>
    intro w hst
    exact OpV.g (v_load_all (hst.get (k := 1) rfl) rfl (Tryz.isAgg40 _) (Tryz.sizeOf40 _))
   | 2, _, _ =>
    intro w hst
    exact OpV.g (v_load_all (hst.get (k := 2) rfl) rfl (Tryz.isAgg40 _) (Tryz.sizeOf40 _))
   | 3, _, _ =>
    rintro _ _ ⟨rfl, rfl⟩ _ _ ⟨rfl, rfl⟩
    intro w hst
    exact OpV.g ((v_ne_agg rfl rfl (by kernel_rfl) (eqPxy x.frm x.to n x.rt x.sf x.st x.sig x.frm x.to x.rf x.rt x.sf x.st x.sig _)).asb (b' := !(decide ((Pxy.mk x.frm x.to n x.rt x.sf x.st x.sig) = x))) (by rfl))
   | 4, _, h => exact absurd (by decide) h
  ·intro q hq
   simp only [List.mem_cons, List.not_mem_nil, or_false] at hq
   rcases hq with rfl
   ·rintro _ _ ⟨rfl, rfl⟩
    intro w h
    exact r_storeU (cs := [.int .i64 0, .int .i64 0, .int .i64 0, .int .i64 0, .int .i64 0, .int .i64 0, .string (⟨#[]⟩)]) (ds := [.int .i64 x.frm, .int .i64 x.to, .int .i64 n, .int .i64 x.rt, .int .i64 x.sf, .int .i64 x.st, sv x.sig]) rfl rfl h (Tryz.sizeOf40 _) rfl (Nat.le_of_ble_eq_true rfl) rfl
  clear hfr hst
  rintro _ _ ⟨rfl, rfl⟩ _ _ ⟨rfl, rfl⟩ _ _ ⟨rfl, rfl⟩ _ _ ⟨rfl, rfl⟩ a w14 hfr hst
  replace hfr : Fr 50 [(46, _), (47, _), (48, _), (49, _), (3, _), (6, _), (7, _), (8, _)] [] a := hfr
  replace hst : St No w0 [blk w1.heap.size [.int .i64 x.frm, .int .i64 x.to, .int .i64 n, .int .i64 x.rt, .int .i64 x.sf, .int .i64 x.st, sv x.sig] 40, blk w2.heap.size [.int .i64 x.frm, .int .i64 x.to, .int .i64 n, .int .i64 x.rt, .int .i64 x.sf, .int .i64 x.st, sv x.sig] 40, blk w0.heap.size [.int .i64 x.frm, .int .i64 x.to, .int .i64 x.rf, .int .i64 x.rt, .int .i64 x.sf, .int .i64 x.st, sv x.sig] 40] w14 := hst
  refine wl_nil ?_
  refine wd_lin (k := 5) 6 [5] (by kernel_rfl) (by kernel_rfl) (by kernel_rfl) ?_
  refine wla hfr rfl fun a hfr => ?_
  refine wl_nil ?_
  refine wd_end (by kernel_rfl) ?_
  refine hK10 _ _ ?_
  replace hfr : Fr 50 [(6, _), (7, _)] [] a := hfr.pick [6, 7]
  replace hst : St No w0 [_] w14 := hst.mask [true, false, false]
  refine wc_ret ?_
  refine fin_ret hfr Tryz.results12 (resAre_cell rfl (res_all (hst.get (k := 0) rfl) (Tryz.isAgg40 _) (Tryz.sizeOf40 _)) (resAre_tmp rfl resAre_nil)) ?_
  have e : bentP x how n = Pxy.mk x.frm x.to n x.rt x.sf x.st x.sig := by unfold bentP; simp [hc1, hc2, hc3]
  rw [e]
  exact ⟨rfl, hst.ext⟩
 rw [hc3] at hfr
 try simp only [qz] at hc3
 refine wc_seq_region fun K11 hK11 => ?_
 refine wlv hfr (v_eq rfl rfl) fun a hfr => ?_
 refine wla hfr rfl fun a hfr => ?_
 refine wl_nil (hK11 _ _ ?_)
 refine wc_cond hfr rfl (fun hc4 => ?_) (fun hc4 => ?_)
 ·rw [hc4] at hfr
  try simp only [qz] at hc4
  refine wc_region ?_
  refine wlm hfr rfl fun a hfr => ?_
  refine wlv hfr (v_fieldAddr (v := .pointer (some ⟨w2.heap.size, 2, none⟩)) rfl (by kernel_rfl)) fun a hfr => ?_
  refine wlv hfr (v_fieldAddr (v := .pointer (some ⟨w2.heap.size, 3, none⟩)) rfl (by kernel_rfl)) fun a hfr => ?_
  refine wl_store 0 hfr hst rfl rfl rfl (Tryz.sizeOf3 _) rfl (Nat.le_of_ble_eq_true rfl) (ds := [.int .i64 x.frm, .int .i64 x.to, .int .i64 x.rf, .int .i64 n, .int .i64 x.sf, .int .i64 x.st, sv x.sig]) rfl rfl ?_
  clear hfr hst
  intro a w15 hfr hst
  refine wl_nil ?_
  refine hK3 _ _ ?_
  replace hfr : Fr 50 [(3, _), (6, _), (7, _), (8, _)] [] a := hfr.pick [3, 6, 7, 8]
  refine wc_seq_k fun K12 hK12 => ?_
  refine wc_of_dr (by kernel_rfl) (dr_of_wd (by kernel_rfl) fun w16 hxz => ?_)
  replace hst := hst.grow hxz
  refine wd_sub (k := 0) 5 [3, 4] hfr (by kernel_rfl) (by kernel_rfl) (by kernel_rfl) (by rfl) ?_
  replace hfr : Fr 50 [(3, _), (6, _), (7, _), (8, _)] [] a := hfr.pick [3, 6, 7, 8]
  replace hst : St No w0 [blk w1.heap.size [.int .i64 0, .int .i64 0, .int .i64 0, .int .i64 0, .int .i64 0, .int .i64 0, .string (⟨#[]⟩)] 40, blk w2.heap.size [.int .i64 x.frm, .int .i64 x.to, .int .i64 x.rf, .int .i64 n, .int .i64 x.sf, .int .i64 x.st, sv x.sig] 40, blk w0.heap.size [.int .i64 x.frm, .int .i64 x.to, .int .i64 x.rf, .int .i64 x.rt, .int .i64 x.sf, .int .i64 x.st, sv x.sig] 40] w16 := hst.select [1, 0, 2] (by decide)
  refine wc_phases_set [4] (fun q => if q = 4 then blk w1.heap.size [.int .i64 0, .int .i64 0, .int .i64 0, .int .i64 0, .int .i64 0, .int .i64 0, .string (⟨#[]⟩)] 40 else join []) (fun q => if q = 4 then blk w1.heap.size [.int .i64 x.frm, .int .i64 x.to, .int .i64 x.rf, .int .i64 n, .int .i64 x.sf, .int .i64 x.st, sv x.sig] 40 else join []) 5 [[], [], [], [1, 2], [0]] (fun i => match i with | 0 => pv (.agg #[.int .i64 x.frm, .int .i64 x.to, .int .i64 x.rf, .int .i64 n, .int .i64 x.sf, .int .i64 x.st, sv x.sig]) | 1 => pv (.agg #[.int .i64 x.frm, .int .i64 x.to, .int .i64 x.rf, .int .i64 n, .int .i64 x.sf, .int .i64 x.st, sv x.sig]) | 2 => pv (.agg #[.int .i64 x.frm, .int .i64 x.to, .int .i64 x.rf, .int .i64 x.rt, .int .i64 x.sf, .int .i64 x.st, sv x.sig]) | 3 => pv (.bool (!(decide ((Pxy.mk x.frm x.to x.rf n x.sf x.st x.sig) = x)))) | 4 => fun v E => v = undef ∧ E = [] | _ => fun _ _ => False) (by intro q; by_cases h4 : q = 4; (subst h4; rfl); simp only [h4, if_false]) hfr (H := [blk w2.heap.size [.int .i64 x.frm, .int .i64 x.to, .int .i64 x.rf, .int .i64 n, .int .i64 x.sf, .int .i64 x.st, sv x.sig] 40, blk w0.heap.size [.int .i64 x.frm, .int .i64 x.to, .int .i64 x.rf, .int .i64 x.rt, .int .i64 x.sf, .int .i64 x.st, sv x.sig] 40]) hst (by kernel_rfl) (by kernel_rfl) (by kernel_rfl) (by kernel_rfl) (by decide) (by decide) ?_ ?_ ?_ ?_ ?_ ?_
  ·intro i v E h
   match i, h with
   | 0, _ => exact by decide
   | 1, _ => exact by decide
   | 2, _ => exact by decide
   | 3, _ => exact by decide
   | 4, _ => exact by decide
   | i + 5, h => exact h.elim
  ·intro q v E hq h
   simp only [List.mem_cons, List.not_mem_nil, or_false] at hq
   rcases hq with rfl <;> exact h
  ·intro q hq
   simp only [List.mem_cons, List.not_mem_nil, or_false] at hq
   rcases hq with rfl <;> exact ⟨rfl, rfl⟩
  ·intro i hi hiq e
   match i, hi, hiq with
   | 0, _, _ =>
    intro w hst
    exact OpV.g (v_load_all (hst.get (k := 1) rfl) rfl (Tryz.isAgg40 _) (Tryz.sizeOf40 _))
   | 1, _, _ =>
    intro w hst
    exact OpV.g (v_load_all (hst.get (k := 1) rfl) rfl (Tryz.isAgg40 _) (Tryz.sizeOf40 _))
   | 2, _, _ =>
    intro w hst
    exact OpV.g (v_load_all (hst.get (k := 2) rfl) rfl (Tryz.isAgg40 _) (Tryz.sizeOf40 _))
   | 3, _, _ =>
    rintro _ _ ⟨rfl, rfl⟩ _ _ ⟨rfl, rfl⟩
    intro w hst
    exact OpV.g ((v_ne_agg rfl rfl (by kernel_rfl) (eqPxy x.frm x.to x.rf n x.sf x.st x.sig x.frm x.to x.rf x.rt x.sf x.st x.sig _)).asb (b' := !(decide ((Pxy.mk x.frm x.to x.rf n x.sf x.st x.sig) = x))) (by rfl))
   | 4, _, h => exact absurd (by decide) h
  ·intro q hq
   simp only [List.mem_cons, List.not_mem_nil, or_false] at hq
   rcases hq with rfl
   ·rintro _ _ ⟨rfl, rfl⟩
    intro w h
    exact r_storeU (cs := [.int .i64 0, .int .i64 0, .int .i64 0, .int .i64 0, .int .i64 0, .int .i64 0, .string (⟨#[]⟩)]) (ds := [.int .i64 x.frm, .int .i64 x.to, .int .i64 x.rf, .int .i64 n, .int .i64 x.sf, .int .i64 x.st, sv x.sig]) rfl rfl h (Tryz.sizeOf40 _) rfl (Nat.le_of_ble_eq_true rfl) rfl
  clear hfr hst
  rintro _ _ ⟨rfl, rfl⟩ _ _ ⟨rfl, rfl⟩ _ _ ⟨rfl, rfl⟩ _ _ ⟨rfl, rfl⟩ a w17 hfr hst
  replace hfr : Fr 50 [(46, _), (47, _), (48, _), (49, _), (3, _), (6, _), (7, _), (8, _)] [] a := hfr
  replace hst : St No w0 [blk w1.heap.size [.int .i64 x.frm, .int .i64 x.to, .int .i64 x.rf, .int .i64 n, .int .i64 x.sf, .int .i64 x.st, sv x.sig] 40, blk w2.heap.size [.int .i64 x.frm, .int .i64 x.to, .int .i64 x.rf, .int .i64 n, .int .i64 x.sf, .int .i64 x.st, sv x.sig] 40, blk w0.heap.size [.int .i64 x.frm, .int .i64 x.to, .int .i64 x.rf, .int .i64 x.rt, .int .i64 x.sf, .int .i64 x.st, sv x.sig] 40] w17 := hst
  refine wl_nil ?_
  refine wd_lin (k := 5) 6 [5] (by kernel_rfl) (by kernel_rfl) (by kernel_rfl) ?_
  refine wla hfr rfl fun a hfr => ?_
  refine wl_nil ?_
  refine wd_end (by kernel_rfl) ?_
  refine hK12 _ _ ?_
  replace hfr : Fr 50 [(6, _), (7, _)] [] a := hfr.pick [6, 7]
  replace hst : St No w0 [_] w17 := hst.mask [true, false, false]
  refine wc_ret ?_
  refine fin_ret hfr Tryz.results12 (resAre_cell rfl (res_all (hst.get (k := 0) rfl) (Tryz.isAgg40 _) (Tryz.sizeOf40 _)) (resAre_tmp rfl resAre_nil)) ?_
  have e : bentP x how n = Pxy.mk x.frm x.to x.rf n x.sf x.st x.sig := by unfold bentP; simp [hc1, hc2, hc3, hc4]
  rw [e]
  exact ⟨rfl, hst.ext⟩
 rw [hc4] at hfr
 try simp only [qz] at hc4
 refine wc_seq_region fun K13 hK13 => ?_
 refine wlv hfr (v_eq rfl rfl) fun a hfr => ?_
 refine wla hfr rfl fun a hfr => ?_
 refine wl_nil (hK13 _ _ ?_)
 replace hfr : Fr 50 [(2, _), (3, _), (6, _), (7, _), (8, _), (11, _), (36, _)] [] a := hfr.pick [2, 3, 6, 7, 8, 11, 36]
 refine wc_cond hfr rfl (fun hc5 => ?_) (fun hc5 => ?_)
 ·rw [hc5] at hfr
  try simp only [qz] at hc5
  refine wc_region ?_
  refine wlm hfr rfl fun a hfr => ?_
  refine wlv hfr (v_fieldAddr (v := .pointer (some ⟨w2.heap.size, 4, none⟩)) rfl (by kernel_rfl)) fun a hfr => ?_
  refine wlv hfr (v_fieldAddr (v := .pointer (some ⟨w2.heap.size, 4, none⟩)) rfl (by kernel_rfl)) fun a hfr => ?_
  refine wl_store 0 hfr hst rfl rfl rfl (Tryz.sizeOf3 _) rfl (Nat.le_of_ble_eq_true rfl) (ds := [.int .i64 x.frm, .int .i64 x.to, .int .i64 x.rf, .int .i64 x.rt, .int .i64 n, .int .i64 x.st, sv x.sig]) rfl rfl ?_
  clear hfr hst
  intro a w18 hfr hst
  refine wl_nil ?_
  refine hK3 _ _ ?_
  replace hfr : Fr 50 [(3, _), (6, _), (7, _), (8, _)] [] a := hfr.pick [3, 6, 7, 8]
  refine wc_seq_k fun K14 hK14 => ?_
  refine wc_of_dr (by kernel_rfl) (dr_of_wd (by kernel_rfl) fun w19 hxz => ?_)
  replace hst := hst.grow hxz
  refine wd_sub (k := 0) 5 [3, 4] hfr (by kernel_rfl) (by kernel_rfl) (by kernel_rfl) (by rfl) ?_
  replace hfr : Fr 50 [(3, _), (6, _), (7, _), (8, _)] [] a := hfr.pick [3, 6, 7, 8]
  replace hst : St No w0 [blk w1.heap.size [.int .i64 0, .int .i64 0, .int .i64 0, .int .i64 0, .int .i64 0, .int .i64 0, .string (⟨#[]⟩)] 40, blk w2.heap.size [.int .i64 x.frm, .int .i64 x.to, .int .i64 x.rf, .int .i64 x.rt, .int .i64 n, .int .i64 x.st, sv x.sig] 40, blk w0.heap.size [.int .i64 x.frm, .int .i64 x.to, .int .i64 x.rf, .int .i64 x.rt, .int .i64 x.sf, .int .i64 x.st, sv x.sig] 40] w19 := hst.select [1, 0, 2] (by decide)
  refine wc_phases_set [4] (fun q => if q = 4 then blk w1.heap.size [.int .i64 0, .int .i64 0, .int .i64 0, .int .i64 0, .int .i64 0, .int .i64 0, .string (⟨#[]⟩)] 40 else join []) (fun q => if q = 4 then blk w1.heap.size [.int .i64 x.frm, .int .i64 x.to, .int .i64 x.rf, .int .i64 x.rt, .int .i64 n, .int .i64 x.st, sv x.sig] 40 else join []) 5 [[], [], [], [1, 2], [0]] (fun i => match i with | 0 => pv (.agg #[.int .i64 x.frm, .int .i64 x.to, .int .i64 x.rf, .int .i64 x.rt, .int .i64 n, .int .i64 x.st, sv x.sig]) | 1 => pv (.agg #[.int .i64 x.frm, .int .i64 x.to, .int .i64 x.rf, .int .i64 x.rt, .int .i64 n, .int .i64 x.st, sv x.sig]) | 2 => pv (.agg #[.int .i64 x.frm, .int .i64 x.to, .int .i64 x.rf, .int .i64 x.rt, .int .i64 x.sf, .int .i64 x.st, sv x.sig]) | 3 => pv (.bool (!(decide ((Pxy.mk x.frm x.to x.rf x.rt n x.st x.sig) = x)))) | 4 => fun v E => v = undef ∧ E = [] | _ => fun _ _ => False) (by intro q; by_cases h4 : q = 4; (subst h4; rfl); simp only [h4, if_false]) hfr (H := [blk w2.heap.size [.int .i64 x.frm, .int .i64 x.to, .int .i64 x.rf, .int .i64 x.rt, .int .i64 n, .int .i64 x.st, sv x.sig] 40, blk w0.heap.size [.int .i64 x.frm, .int .i64 x.to, .int .i64 x.rf, .int .i64 x.rt, .int .i64 x.sf, .int .i64 x.st, sv x.sig] 40]) hst (by kernel_rfl) (by kernel_rfl) (by kernel_rfl) (by kernel_rfl) (by decide) (by decide) ?_ ?_ ?_ ?_ ?_ ?_
  ·intro i v E h
   match i, h with
   | 0, _ => exact by decide
   | 1, _ => exact by decide
   | 2, _ => exact by decide
   | 3, _ => exact by decide
   | 4, _ => exact by decide
   | i + 5, h => exact h.elim
  ·intro q v E hq h
   simp only [List.mem_cons, List.not_mem_nil, or_false] at hq
   rcases hq with rfl <;> exact h
  ·intro q hq
   simp only [List.mem_cons, List.not_mem_nil, or_false] at hq
   rcases hq with rfl <;> exact ⟨rfl, rfl⟩
  ·intro i hi hiq e
   match i, hi, hiq with
   | 0, _, _ =>
    intro w hst
    exact OpV.g (v_load_all (hst.get (k := 1) rfl) rfl (Tryz.isAgg40 _) (Tryz.sizeOf40 _))
   | 1, _, _ =>
    intro w hst
    exact OpV.g (v_load_all (hst.get (k := 1) rfl) rfl (Tryz.isAgg40 _) (Tryz.sizeOf40 _))
   | 2, _, _ =>
    intro w hst
    exact OpV.g (v_load_all (hst.get (k := 2) rfl) rfl (Tryz.isAgg40 _) (Tryz.sizeOf40 _))
   | 3, _, _ =>
    rintro _ _ ⟨rfl, rfl⟩ _ _ ⟨rfl, rfl⟩
    intro w hst
    exact OpV.g ((v_ne_agg rfl rfl (by kernel_rfl) (eqPxy x.frm x.to x.rf x.rt n x.st x.sig x.frm x.to x.rf x.rt x.sf x.st x.sig _)).asb (b' := !(decide ((Pxy.mk x.frm x.to x.rf x.rt n x.st x.sig) = x))) (by rfl))
   | 4, _, h => exact absurd (by decide) h
  ·intro q hq
   simp only [List.mem_cons, List.not_mem_nil, or_false] at hq
   rcases hq with rfl
   ·rintro _ _ ⟨rfl, rfl⟩
    intro w h
    exact r_storeU (cs := [.int .i64 0, .int .i64 0, .int .i64 0, .int .i64 0, .int .i64 0, .int .i64 0, .string (⟨#[]⟩)]) (ds := [.int .i64 x.frm, .int .i64 x.to, .int .i64 x.rf, .int .i64 x.rt, .int .i64 n, .int .i64 x.st, sv x.sig]) rfl rfl h (Tryz.sizeOf40 _) rfl (Nat.le_of_ble_eq_true rfl) rfl
  clear hfr hst
  rintro _ _ ⟨rfl, rfl⟩ _ _ ⟨rfl, rfl⟩ _ _ ⟨rfl, rfl⟩ _ _ ⟨rfl, rfl⟩ a w20 hfr hst
  replace hfr : Fr 50 [(46, _), (47, _), (48, _), (49, _), (3, _), (6, _), (7, _), (8, _)] [] a := hfr
  replace hst : St No w0 [blk w1.heap.size [.int .i64 x.frm, .int .i64 x.to, .int .i64 x.rf, .int .i64 x.rt, .int .i64 n, .int .i64 x.st, sv x.sig] 40, blk w2.heap.size [.int .i64 x.frm, .int .i64 x.to, .int .i64 x.rf, .int .i64 x.rt, .int .i64 n, .int .i64 x.st, sv x.sig] 40, blk w0.heap.size [.int .i64 x.frm, .int .i64 x.to, .int .i64 x.rf, .int .i64 x.rt, .int .i64 x.sf, .int .i64 x.st, sv x.sig] 40] w20 := hst
  refine wl_nil ?_
  refine wd_lin (k := 5) 6 [5] (by kernel_rfl) (by kernel_rfl) (by kernel_rfl) ?_
  refine wla hfr rfl fun a hfr => ?_
  refine wl_nil ?_
  refine wd_end (by kernel_rfl) ?_
  refine hK14 _ _ ?_
  replace hfr : Fr 50 [(6, _), (7, _)] [] a := hfr.pick [6, 7]
  replace hst : St No w0 [_] w20 := hst.mask [true, false, false]
  refine wc_ret ?_
  refine fin_ret hfr Tryz.results12 (resAre_cell rfl (res_all (hst.get (k := 0) rfl) (Tryz.isAgg40 _) (Tryz.sizeOf40 _)) (resAre_tmp rfl resAre_nil)) ?_
  have e : bentP x how n = Pxy.mk x.frm x.to x.rf x.rt n x.st x.sig := by unfold bentP; simp [hc1, hc2, hc3, hc4, hc5]
  rw [e]
  exact ⟨rfl, hst.ext⟩
 rw [hc5] at hfr
 try simp only [qz] at hc5
 refine wc_seq_region fun K15 hK15 => ?_
 refine wlv hfr (v_eq rfl rfl) fun a hfr => ?_
 refine wla hfr rfl fun a hfr => ?_
 refine wl_nil (hK15 _ _ ?_)
 refine wc_cond hfr rfl (fun hc6 => ?_) (fun hc6 => ?_)
 ·rw [hc6] at hfr
  try simp only [qz] at hc6
  refine wc_region ?_
  refine wlm hfr rfl fun a hfr => ?_
  refine wlv hfr (v_fieldAddr (v := .pointer (some ⟨w2.heap.size, 4, none⟩)) rfl (by kernel_rfl)) fun a hfr => ?_
  refine wlv hfr (v_fieldAddr (v := .pointer (some ⟨w2.heap.size, 5, none⟩)) rfl (by kernel_rfl)) fun a hfr => ?_
  refine wl_store 0 hfr hst rfl rfl rfl (Tryz.sizeOf3 _) rfl (Nat.le_of_ble_eq_true rfl) (ds := [.int .i64 x.frm, .int .i64 x.to, .int .i64 x.rf, .int .i64 x.rt, .int .i64 x.sf, .int .i64 n, sv x.sig]) rfl rfl ?_
  clear hfr hst
  intro a w21 hfr hst
  refine wl_nil ?_
  refine hK3 _ _ ?_
  replace hfr : Fr 50 [(3, _), (6, _), (7, _), (8, _)] [] a := hfr.pick [3, 6, 7, 8]
  refine wc_seq_k fun K16 hK16 => ?_
  refine wc_of_dr (by kernel_rfl) (dr_of_wd (by kernel_rfl) fun w22 hxz => ?_)
  replace hst := hst.grow hxz
  refine wd_sub (k := 0) 5 [3, 4] hfr (by kernel_rfl) (by kernel_rfl) (by kernel_rfl) (by rfl) ?_
  replace hfr : Fr 50 [(3, _), (6, _), (7, _), (8, _)] [] a := hfr.pick [3, 6, 7, 8]
  replace hst : St No w0 [blk w1.heap.size [.int .i64 0, .int .i64 0, .int .i64 0, .int .i64 0, .int .i64 0, .int .i64 0, .string (⟨#[]⟩)] 40, blk w2.heap.size [.int .i64 x.frm, .int .i64 x.to, .int .i64 x.rf, .int .i64 x.rt, .int .i64 x.sf, .int .i64 n, sv x.sig] 40, blk w0.heap.size [.int .i64 x.frm, .int .i64 x.to, .int .i64 x.rf, .int .i64 x.rt, .int .i64 x.sf, .int .i64 x.st, sv x.sig] 40] w22 := hst.select [1, 0, 2] (by decide)
  refine wc_phases_set [4] (fun q => if q = 4 then blk w1.heap.size [.int .i64 0, .int .i64 0, .int .i64 0, .int .i64 0, .int .i64 0, .int .i64 0, .string (⟨#[]⟩)] 40 else join []) (fun q => if q = 4 then blk w1.heap.size [.int .i64 x.frm, .int .i64 x.to, .int .i64 x.rf, .int .i64 x.rt, .int .i64 x.sf, .int .i64 n, sv x.sig] 40 else join []) 5 [[], [], [], [1, 2], [0]] (fun i => match i with | 0 => pv (.agg #[.int .i64 x.frm, .int .i64 x.to, .int .i64 x.rf, .int .i64 x.rt, .int .i64 x.sf, .int .i64 n, sv x.sig]) | 1 => pv (.agg #[.int .i64 x.frm, .int .i64 x.to, .int .i64 x.rf, .int .i64 x.rt, .int .i64 x.sf, .int .i64 n, sv x.sig]) | 2 => pv (.agg #[.int .i64 x.frm, .int .i64 x.to, .int .i64 x.rf, .int .i64 x.rt, .int .i64 x.sf, .int .i64 x.st, sv x.sig]) | 3 => pv (.bool (!(decide ((Pxy.mk x.frm x.to x.rf x.rt x.sf n x.sig) = x)))) | 4 => fun v E => v = undef ∧ E = [] | _ => fun _ _ => False) (by intro q; by_cases h4 : q = 4; (subst h4; rfl); simp only [h4, if_false]) hfr (H := [blk w2.heap.size [.int .i64 x.frm, .int .i64 x.to, .int .i64 x.rf, .int .i64 x.rt, .int .i64 x.sf, .int .i64 n, sv x.sig] 40, blk w0.heap.size [.int .i64 x.frm, .int .i64 x.to, .int .i64 x.rf, .int .i64 x.rt, .int .i64 x.sf, .int .i64 x.st, sv x.sig] 40]) hst (by kernel_rfl) (by kernel_rfl) (by kernel_rfl) (by kernel_rfl) (by decide) (by decide) ?_ ?_ ?_ ?_ ?_ ?_
  ·intro i v E h
   match i, h with
   | 0, _ => exact by decide
   | 1, _ => exact by decide
   | 2, _ => exact by decide
   | 3, _ => exact by decide
   | 4, _ => exact by decide
   | i + 5, h => exact h.elim
  ·intro q v E hq h
   simp only [List.mem_cons, List.not_mem_nil, or_false] at hq
   rcases hq with rfl <;> exact h
  ·intro q hq
   simp only [List.mem_cons, List.not_mem_nil, or_false] at hq
   rcases hq with rfl <;> exact ⟨rfl, rfl⟩
  ·intro i hi hiq e
   match i, hi, hiq with
   | 0, _, _ =>
    intro w hst
    exact OpV.g (v_load_all (hst.get (k := 1) rfl) rfl (Tryz.isAgg40 _) (Tryz.sizeOf40 _))
   | 1, _, _ =>
    intro w hst
    exact OpV.g (v_load_all (hst.get (k := 1) rfl) rfl (Tryz.isAgg40 _) (Tryz.sizeOf40 _))
   | 2, _, _ =>
    intro w hst
    exact OpV.g (v_load_all (hst.get (k := 2) rfl) rfl (Tryz.isAgg40 _) (Tryz.sizeOf40 _))
   | 3, _, _ =>
    rintro _ _ ⟨rfl, rfl⟩ _ _ ⟨rfl, rfl⟩
    intro w hst
    exact OpV.g ((v_ne_agg rfl rfl (by kernel_rfl) (eqPxy x.frm x.to x.rf x.rt x.sf n x.sig x.frm x.to x.rf x.rt x.sf x.st x.sig _)).asb (b' := !(decide ((Pxy.mk x.frm x.to x.rf x.rt x.sf n x.sig) = x))) (by rfl))
   | 4, _, h => exact absurd (by decide) h
  ·intro q hq
   simp only [List.mem_cons, List.not_mem_nil, or_false] at hq
   rcases hq with rfl
   ·rintro _ _ ⟨rfl, rfl⟩
    intro w h
    exact r_storeU (cs := [.int .i64 0, .int .i64 0, .int .i64 0, .int .i64 0, .int .i64 0, .int .i64 0, .string (⟨#[]⟩)]) (ds := [.int .i64 x.frm, .int .i64 x.to, .int .i64 x.rf, .int .i64 x.rt, .int .i64 x.sf, .int .i64 n, sv x.sig]) rfl rfl h (Tryz.sizeOf40 _) rfl (Nat.le_of_ble_eq_true rfl) rfl
  clear hfr hst
  rintro _ _ ⟨rfl, rfl⟩ _ _ ⟨rfl, rfl⟩ _ _ ⟨rfl, rfl⟩ _ _ ⟨rfl, rfl⟩ a w23 hfr hst
  replace hfr : Fr 50 [(46, _), (47, _), (48, _), (49, _), (3, _), (6, _), (7, _), (8, _)] [] a := hfr
  replace hst : St No w0 [blk w1.heap.size [.int .i64 x.frm, .int .i64 x.to, .int .i64 x.rf, .int .i64 x.rt, .int .i64 x.sf, .int .i64 n, sv x.sig] 40, blk w2.heap.size [.int .i64 x.frm, .int .i64 x.to, .int .i64 x.rf, .int .i64 x.rt, .int .i64 x.sf, .int .i64 n, sv x.sig] 40, blk w0.heap.size [.int .i64 x.frm, .int .i64 x.to, .int .i64 x.rf, .int .i64 x.rt, .int .i64 x.sf, .int .i64 x.st, sv x.sig] 40] w23 := hst
  refine wl_nil ?_
  refine wd_lin (k := 5) 6 [5] (by kernel_rfl) (by kernel_rfl) (by kernel_rfl) ?_
  refine wla hfr rfl fun a hfr => ?_
  refine wl_nil ?_
  refine wd_end (by kernel_rfl) ?_
  refine hK16 _ _ ?_
  replace hfr : Fr 50 [(6, _), (7, _)] [] a := hfr.pick [6, 7]
  replace hst : St No w0 [_] w23 := hst.mask [true, false, false]
  refine wc_ret ?_
  refine fin_ret hfr Tryz.results12 (resAre_cell rfl (res_all (hst.get (k := 0) rfl) (Tryz.isAgg40 _) (Tryz.sizeOf40 _)) (resAre_tmp rfl resAre_nil)) ?_
  have e : bentP x how n = Pxy.mk x.frm x.to x.rf x.rt x.sf n x.sig := by unfold bentP; simp [hc1, hc2, hc3, hc4, hc5, hc6]
  rw [e]
  exact ⟨rfl, hst.ext⟩
 rw [hc6] at hfr
 try simp only [qz] at hc6
 refine wc_region ?_
 refine wlv hfr (v_fieldAddr (v := .pointer (some ⟨w2.heap.size, 2, none⟩)) rfl (by kernel_rfl)) fun a hfr => ?_
 refine wlv hfr (v_fieldAddr (v := .pointer (some ⟨w2.heap.size, 3, none⟩)) rfl (by kernel_rfl)) fun a hfr => ?_
 refine wlv hfr (v_load_blk1 (hst.get (k := 0) rfl) rfl (Tryz.isAgg3 _) rfl) fun a hfr => ?_
 refine wlv hfr (v_add rfl rfl ⟨by omega, by omega⟩) fun a hfr => ?_
 refine wlv hfr (v_fieldAddr (v := .pointer (some ⟨w2.heap.size, 2, none⟩)) rfl (by kernel_rfl)) fun a hfr => ?_
 refine wlv hfr (v_fieldAddr (v := .pointer (some ⟨w2.heap.size, 3, none⟩)) rfl (by kernel_rfl)) fun a hfr => ?_
 refine wl_store 0 hfr hst rfl rfl rfl (Tryz.sizeOf3 _) rfl (Nat.le_of_ble_eq_true rfl) (ds := [.int .i64 x.frm, .int .i64 x.to, .int .i64 x.rf, .int .i64 (x.rt + 1), .int .i64 x.sf, .int .i64 x.st, sv x.sig]) rfl rfl ?_
 clear hfr hst
 intro a w24 hfr hst
 refine wl_nil ?_
 refine hK3 _ _ ?_
 replace hfr : Fr 50 [(3, _), (6, _), (7, _), (8, _)] [] a := hfr.pick [3, 6, 7, 8]
 refine wc_seq_k fun K17 hK17 => ?_
 refine wc_of_dr (by kernel_rfl) (dr_of_wd (by kernel_rfl) fun w25 hxz => ?_)
 replace hst := hst.grow hxz
 refine wd_sub (k := 0) 5 [3, 4] hfr (by kernel_rfl) (by kernel_rfl) (by kernel_rfl) (by rfl) ?_
 replace hfr : Fr 50 [(3, _), (6, _), (7, _), (8, _)] [] a := hfr.pick [3, 6, 7, 8]
 replace hst : St No w0 [blk w1.heap.size [.int .i64 0, .int .i64 0, .int .i64 0, .int .i64 0, .int .i64 0, .int .i64 0, .string (⟨#[]⟩)] 40, blk w2.heap.size [.int .i64 x.frm, .int .i64 x.to, .int .i64 x.rf, .int .i64 (x.rt + 1), .int .i64 x.sf, .int .i64 x.st, sv x.sig] 40, blk w0.heap.size [.int .i64 x.frm, .int .i64 x.to, .int .i64 x.rf, .int .i64 x.rt, .int .i64 x.sf, .int .i64 x.st, sv x.sig] 40] w25 := hst.select [1, 0, 2] (by decide)
 refine wc_phases_set [4] (fun q => if q = 4 then blk w1.heap.size [.int .i64 0, .int .i64 0, .int .i64 0, .int .i64 0, .int .i64 0, .int .i64 0, .string (⟨#[]⟩)] 40 else join []) (fun q => if q = 4 then blk w1.heap.size [.int .i64 x.frm, .int .i64 x.to, .int .i64 x.rf, .int .i64 (x.rt + 1), .int .i64 x.sf, .int .i64 x.st, sv x.sig] 40 else join []) 5 [[], [], [], [1, 2], [0]] (fun i => match i with | 0 => pv (.agg #[.int .i64 x.frm, .int .i64 x.to, .int .i64 x.rf, .int .i64 (x.rt + 1), .int .i64 x.sf, .int .i64 x.st, sv x.sig]) | 1 => pv (.agg #[.int .i64 x.frm, .int .i64 x.to, .int .i64 x.rf, .int .i64 (x.rt + 1), .int .i64 x.sf, .int .i64 x.st, sv x.sig]) | 2 => pv (.agg #[.int .i64 x.frm, .int .i64 x.to, .int .i64 x.rf, .int .i64 x.rt, .int .i64 x.sf, .int .i64 x.st, sv x.sig]) | 3 => pv (.bool (!(decide ((Pxy.mk x.frm x.to x.rf (x.rt + 1) x.sf x.st x.sig) = x)))) | 4 => fun v E => v = undef ∧ E = [] | _ => fun _ _ => False) (by intro q; by_cases h4 : q = 4; (subst h4; rfl); simp only [h4, if_false]) hfr (H := [blk w2.heap.size [.int .i64 x.frm, .int .i64 x.to, .int .i64 x.rf, .int .i64 (x.rt + 1), .int .i64 x.sf, .int .i64 x.st, sv x.sig] 40, blk w0.heap.size [.int .i64 x.frm, .int .i64 x.to, .int .i64 x.rf, .int .i64 x.rt, .int .i64 x.sf, .int .i64 x.st, sv x.sig] 40]) hst (by kernel_rfl) (by kernel_rfl) (by kernel_rfl) (by kernel_rfl) (by decide) (by decide) ?_ ?_ ?_ ?_ ?_ ?_
 ·intro i v E h
  match i, h with
  | 0, _ => exact by decide
  | 1, _ => exact by decide
  | 2, _ => exact by decide
  | 3, _ => exact by decide
  | 4, _ => exact by decide
  | i + 5, h => exact h.elim
 ·intro q v E hq h
  simp only [List.mem_cons, List.not_mem_nil, or_false] at hq
  rcases hq with rfl <;> exact h
 ·intro q hq
  simp only [List.mem_cons, List.not_mem_nil, or_false] at hq
  rcases hq with rfl <;> exact ⟨rfl, rfl⟩
 ·intro i hi hiq e
  match i, hi, hiq with
  | 0, _, _ =>
   intro w hst
   exact OpV.g (v_load_all (hst.get (k := 1) rfl) rfl (Tryz.isAgg40 _) (Tryz.sizeOf40 _))
  | 1, _, _ =>
   intro w hst
   exact OpV.g (v_load_all (hst.get (k := 1) rfl) rfl (Tryz.isAgg40 _) (Tryz.sizeOf40 _))
  | 2, _, _ =>
   intro w hst
   exact OpV.g (v_load_all (hst.get (k := 2) rfl) rfl (Tryz.isAgg40 _) (Tryz.sizeOf40 _))
  | 3, _, _ =>
   rintro _ _ ⟨rfl, rfl⟩ _ _ ⟨rfl, rfl⟩
   intro w hst
   exact OpV.g ((v_ne_agg rfl rfl (by kernel_rfl) (eqPxy x.frm x.to x.rf (x.rt + 1) x.sf x.st x.sig x.frm x.to x.rf x.rt x.sf x.st x.sig _)).asb (b' := !(decide ((Pxy.mk x.frm x.to x.rf (x.rt + 1) x.sf x.st x.sig) = x))) (by rfl))
  | 4, _, h => exact absurd (by decide) h
 ·intro q hq
  simp only [List.mem_cons, List.not_mem_nil, or_false] at hq
  rcases hq with rfl
  ·rintro _ _ ⟨rfl, rfl⟩
   intro w h
   exact r_storeU (cs := [.int .i64 0, .int .i64 0, .int .i64 0, .int .i64 0, .int .i64 0, .int .i64 0, .string (⟨#[]⟩)]) (ds := [.int .i64 x.frm, .int .i64 x.to, .int .i64 x.rf, .int .i64 (x.rt + 1), .int .i64 x.sf, .int .i64 x.st, sv x.sig]) rfl rfl h (Tryz.sizeOf40 _) rfl (Nat.le_of_ble_eq_true rfl) rfl
 clear hfr hst
 rintro _ _ ⟨rfl, rfl⟩ _ _ ⟨rfl, rfl⟩ _ _ ⟨rfl, rfl⟩ _ _ ⟨rfl, rfl⟩ a w26 hfr hst
 replace hfr : Fr 50 [(46, _), (47, _), (48, _), (49, _), (3, _), (6, _), (7, _), (8, _)] [] a := hfr
 replace hst : St No w0 [blk w1.heap.size [.int .i64 x.frm, .int .i64 x.to, .int .i64 x.rf, .int .i64 (x.rt + 1), .int .i64 x.sf, .int .i64 x.st, sv x.sig] 40, blk w2.heap.size [.int .i64 x.frm, .int .i64 x.to, .int .i64 x.rf, .int .i64 (x.rt + 1), .int .i64 x.sf, .int .i64 x.st, sv x.sig] 40, blk w0.heap.size [.int .i64 x.frm, .int .i64 x.to, .int .i64 x.rf, .int .i64 x.rt, .int .i64 x.sf, .int .i64 x.st, sv x.sig] 40] w26 := hst
 refine wl_nil ?_
 refine wd_lin (k := 5) 6 [5] (by kernel_rfl) (by kernel_rfl) (by kernel_rfl) ?_
 refine wla hfr rfl fun a hfr => ?_
 refine wl_nil ?_
 refine wd_end (by kernel_rfl) ?_
 refine hK17 _ _ ?_
 replace hfr : Fr 50 [(6, _), (7, _)] [] a := hfr.pick [6, 7]
 replace hst : St No w0 [_] w26 := hst.mask [true, false, false]
 refine wc_ret ?_
 refine fin_ret hfr Tryz.results12 (resAre_cell rfl (res_all (hst.get (k := 0) rfl) (Tryz.isAgg40 _) (Tryz.sizeOf40 _)) (resAre_tmp rfl resAre_nil)) ?_
 have e : bentP x how n = Pxy.mk x.frm x.to x.rf (x.rt + 1) x.sf x.st x.sig := by unfold bentP; simp [hc1, hc2, hc3, hc4, hc5, hc6]
 rw [e]
 exact ⟨rfl, hst.ext⟩
theorem bentp_x {x bq : Pxy} {how n : Int} {w0 : World} (hbq : bentP x how n = bq) (hh : -9223372036854775808 ≤ how ∧ how ≤ 9223372036854775807) (hx : x.rt < 9223372036854775807) (hx2 : -9223372036854775808 ≤ x.rt) :
  Ret Tryz.prog 12 #[.agg #[.int .i64 x.frm, .int .i64 x.to, .int .i64 x.rf, .int .i64 x.rt, .int .i64 x.sf, .int .i64 x.st, sv x.sig], .int .i64 how, .int .i64 n] w0 fun v w => v = .tuple #[.agg #[.int .i64 bq.frm, .int .i64 bq.to, .int .i64 bq.rf, .int .i64 bq.rt, .int .i64 bq.sf, .int .i64 bq.st, sv bq.sig], .bool (!(decide (bq = x)))] ∧ Ext No w0 w := by
 subst hbq; exact bentp_ok x how n w0 hh hx hx2
theorem Pxy.ok_bnd {p : Pxy} (h : p.ok = true) : 0 ≤ p.rt ∧ p.rt ≤ 100000000 := by
 simp only [Pxy.ok, isRangeB, Bool.and_eq_true, decide_eq_true_eq] at h; omega
set_option maxHeartbeats 4000000 in
/-- dialtone/dialtonelaw15.WishBinds -/
theorem binds_walk (holder r0 r1 s0 s1 carrier serial : Int) (cv : Value) (ys : List Cin) (how n at_ : Int) (w0 : World) (hcv : SlAt w0 cv 5 (ys.map Cin.cells)) (hys : ∀ y ∈ ys, y.wt) (h0 : i64 holder) (h1 : i64 r0) (h2 : i64 r1) (h3 : i64 s0) (h4 : i64 s1) (h5 : i64 carrier) (h6 : i64 serial) (hk0 : (blk 0 (kOf.map wv) 239).ok w0) (h7 : i64 how) (h8 : i64 n) (h9 : i64 at_) :
  Ret Tryz.prog 5 #[.agg #[.int .i64 holder, .int .i64 r0, .int .i64 r1, .int .i64 s0, .int .i64 s1, .int .i64 carrier, .int .i64 serial, cv], .int .i64 how, .int .i64 n, .int .i64 at_] w0 fun v w => v = .bool true ∧ Ext No w0 w := by
 obtain ⟨x, hx⟩ : ∃ x, madeW holder r0 r1 s0 s1 carrier serial ys = x := ⟨_, rfl⟩
 obtain ⟨ps, hps⟩ : ∃ ps, madeL holder r0 r1 s0 s1 ys = ps := ⟨_, rfl⟩
 have hmk : Mk x ps := by rw [← hx, ← hps]; exact made_mk _ _ _ _ _ _ _ _
 have hxo := hmk.ok
 have hxd := Wsh.ok_bnd hxo
 have hxg := hmk.sgn
 have hpl := hmk.len
 have hk10 := keysH_len
 have h7a := h7.1
 have h7b := h7.2
 obtain ⟨bw, hbw⟩ : ∃ bw, bentW x how n = bw := ⟨_, rfl⟩
 have hbsig : bw.sig = x.sig := by rw [← hbw]; exact bentW_sig _ _ _
 refine ret_of Tryz.func5 rfl Tryz.ntmps5 (Nat.le_of_ble_eq_true rfl) fun a hfr => ?_
 replace hfr : Fr 191 [(0, _), (1, _), (2, _), (3, _)] [] a := hfr
 replace hst : St No w0 [] w0 := St.init w0
 refine wc_seq_region fun K1 hK1 => ?_
 refine wl_box hfr hst (by decide) rfl (cs := [.int .i64 holder, .int .i64 r0, .int .i64 r1, .int .i64 s0, .int .i64 s1, .int .i64 carrier, .int .i64 serial, cv]) rfl ?_
 clear hfr hst
 intro a w1 hfr hst
 refine wla hfr rfl fun a hfr => ?_
 refine wl_nil (hK1 _ _ ?_)
 refine wc_seq_region fun K2 hK2 => ?_
 refine wl_callp hfr hst (by decide) Tryz.call8 rfl (sane_ok _ (hst.keepb hk0)) ?_
 clear hfr hst
 intro a w2 hfr hst
 refine wla hfr rfl fun a hfr => ?_
 refine wl_nil (hK2 _ _ ?_)
 refine wc_seq_k fun K3 hK3 => ?_
 refine wc_seq_region fun K4 hK4 => ?_
 refine wlm hfr rfl fun a hfr => ?_
 refine wlv hfr ((v_not rfl).asb (b' := false) rfl) fun a hfr => ?_
 refine wl_nil (hK4 _ _ ?_)
 refine wc_cond_f hfr rfl ?_
 refine wc_skip ?_
 refine hK3 _ _ ?_
 refine wc_seq_region fun K5 hK5 => ?_
 refine wlv hfr (v_load_all (hst.get (k := 0) rfl) rfl (Tryz.isAgg25 _) (Tryz.sizeOf25 _)) fun a hfr => ?_
 refine wl_callm hfr hst (by decide) Tryz.call9 rfl (made_x hx hps (hst.arg hcv) hys h0 h1 h2 h3 h4 h5 h6) ?_
 clear hfr hst
 intro a w3 x2 hp hfr hst
 revert x2 hp hfr hst; rintro pv1 hp hfr hst
 clear hp
 replace hst : St No w0 [own pv1 40 7 (ps.map Pxy.cells), blk w0.heap.size [.int .i64 holder, .int .i64 r0, .int .i64 r1, .int .i64 s0, .int .i64 s1, .int .i64 carrier, .int .i64 serial, cv] 25] w3 := hst
 refine wlm hfr rfl fun a hfr => ?_
 refine wlv hfr (v_extract rfl rfl) fun a hfr => ?_
 refine wlv hfr (v_extract rfl rfl) fun a hfr => ?_
 refine wl_alloc hfr hst (by decide) (Tryz.zeroValue30 _) (cs := [.int .i64 0, .int .i64 0, .int .i64 0, .int .i64 0, .int .i64 0, .int .i64 0, .int .i64 0, .int .i64 0, .string (⟨#[]⟩)]) rfl ?_
 clear hfr hst
 intro a w4 hfr hst
 refine wl_store 0 hfr hst rfl rfl rfl (Tryz.sizeOf30 _) rfl (Nat.le_of_ble_eq_true rfl) (ds := [.int .i64 x.signer, .int .i64 x.holder, .int .i64 x.rf, .int .i64 x.rt, .int .i64 x.carrier, .int .i64 x.serial, .int .i64 x.sf, .int .i64 x.st, sv x.sig]) rfl rfl ?_
 clear hfr hst
 intro a w5 hfr hst
 refine wla hfr rfl fun a hfr => ?_
 refine wl_nil (hK5 _ _ ?_)
 replace hfr : Fr 191 [(1, _), (2, _), (3, _), (8, _), (9, _), (10, _), (11, _)] [] a := hfr.pick [1, 2, 3, 8, 9, 10, 11]
 replace hst : St No w0 [_, _] w5 := hst.mask [true, true, false]
 refine wc_seq_region fun K6 hK6 => ?_
 refine wl_callm hfr hst (by decide) Tryz.call13 rfl (keys_ok _) ?_
 clear hfr hst
 intro a w6 x4 hp hfr hst
 revert x4 hp hfr hst; rintro kv3 hp hfr hst
 clear hp
 replace hst : St No w0 [own kv3 9 1 (keysH.map fun s => [sv s]), blk w3.heap.size [.int .i64 x.signer, .int .i64 x.holder, .int .i64 x.rf, .int .i64 x.rt, .int .i64 x.carrier, .int .i64 x.serial, .int .i64 x.sf, .int .i64 x.st, sv x.sig] 30, own pv1 40 7 (ps.map Pxy.cells)] w6 := hst
 refine wla hfr rfl fun a hfr => ?_
 refine wl_nil (hK6 _ _ ?_)
 refine wc_seq_region fun K7 hK7 => ?_
 refine wlv hfr (v_load_all (hst.get (k := 1) rfl) rfl (Tryz.isAgg30 _) (Tryz.sizeOf30 _)) fun a hfr => ?_
 refine wlm hfr rfl fun a hfr => ?_
 refine wlm hfr rfl fun a hfr => ?_
 refine wl_callp hfr hst (by decide) Tryz.call10 rfl (bent_x hbw h7 (by omega) (by omega)) ?_
 clear hfr hst
 intro a w7 hfr hst
 refine wlm hfr rfl fun a hfr => ?_
 refine wlv hfr (v_extract rfl rfl) fun a hfr => ?_
 refine wlv hfr (v_extract rfl rfl) fun a hfr => ?_
 refine wl_alloc hfr hst (by decide) (Tryz.zeroValue30 _) (cs := [.int .i64 0, .int .i64 0, .int .i64 0, .int .i64 0, .int .i64 0, .int .i64 0, .int .i64 0, .int .i64 0, .string (⟨#[]⟩)]) rfl ?_
 clear hfr hst
 intro a w8 hfr hst
 refine wl_store 0 hfr hst rfl rfl rfl (Tryz.sizeOf30 _) rfl (Nat.le_of_ble_eq_true rfl) (ds := [.int .i64 bw.signer, .int .i64 bw.holder, .int .i64 bw.rf, .int .i64 bw.rt, .int .i64 bw.carrier, .int .i64 bw.serial, .int .i64 bw.sf, .int .i64 bw.st, sv bw.sig]) rfl rfl ?_
 clear hfr hst
 intro a w9 hfr hst
 refine wla hfr rfl fun a hfr => ?_
 refine wl_nil (hK7 _ _ ?_)
 replace hfr : Fr 191 [(1, _), (2, _), (3, _), (8, _), (9, _), (10, _), (11, _), (12, _), (13, _), (14, _)] [] a := hfr.pick [1, 2, 3, 8, 9, 10, 11, 12, 13, 14]
 refine wc_seq_k fun K8 hK8 => ?_
 refine wc_seq_region fun K9 hK9 => ?_
 refine wlv hfr (v_fieldAddr (v := .pointer (some ⟨w3.heap.size, 2, none⟩)) rfl (by kernel_rfl)) fun a hfr => ?_
 refine wlv hfr (v_fieldAddr (v := .pointer (some ⟨w3.heap.size, 2, none⟩)) rfl (by kernel_rfl)) fun a hfr => ?_
 refine wlv hfr (v_load_blk1 (hst.get (k := 2) rfl) rfl (Tryz.isAgg3 _) rfl) fun a hfr => ?_
 refine wlv hfr (v_fieldAddr (v := .pointer (some ⟨w3.heap.size, 6, none⟩)) rfl (by kernel_rfl)) fun a hfr => ?_
 refine wlv hfr (v_fieldAddr (v := .pointer (some ⟨w3.heap.size, 6, none⟩)) rfl (by kernel_rfl)) fun a hfr => ?_
 refine wlv hfr (v_load_blk1 (hst.get (k := 2) rfl) rfl (Tryz.isAgg3 _) rfl) fun a hfr => ?_
 refine wlv hfr (v_build (v := .agg #[.int .i64 x.rf, .int .i64 x.sf]) rfl (by kernel_rfl)) fun a hfr => ?_
 refine wlv hfr (v_fieldAddr (v := .pointer (some ⟨w7.heap.size, 2, none⟩)) rfl (by kernel_rfl)) fun a hfr => ?_
 refine wlv hfr (v_fieldAddr (v := .pointer (some ⟨w7.heap.size, 2, none⟩)) rfl (by kernel_rfl)) fun a hfr => ?_
 refine wlv hfr (v_load_blk1 (hst.get (k := 0) rfl) rfl (Tryz.isAgg3 _) rfl) fun a hfr => ?_
 refine wlv hfr (v_fieldAddr (v := .pointer (some ⟨w7.heap.size, 6, none⟩)) rfl (by kernel_rfl)) fun a hfr => ?_
 refine wlv hfr (v_fieldAddr (v := .pointer (some ⟨w7.heap.size, 6, none⟩)) rfl (by kernel_rfl)) fun a hfr => ?_
 refine wlv hfr (v_load_blk1 (hst.get (k := 0) rfl) rfl (Tryz.isAgg3 _) rfl) fun a hfr => ?_
 refine wlv hfr (v_build (v := .agg #[.int .i64 bw.rf, .int .i64 bw.sf]) rfl (by kernel_rfl)) fun a hfr => ?_
 refine wlv hfr (v_fieldAddr (v := .pointer (some ⟨w7.heap.size, 2, none⟩)) rfl (by kernel_rfl)) fun a hfr => ?_
 refine wlv hfr (v_fieldAddr (v := .pointer (some ⟨w7.heap.size, 3, none⟩)) rfl (by kernel_rfl)) fun a hfr => ?_
 refine wlv hfr (v_load_blk1 (hst.get (k := 0) rfl) rfl (Tryz.isAgg3 _) rfl) fun a hfr => ?_
 refine wlv hfr (v_subw rfl rfl) fun a hfr => ?_
 refine wlv hfr (v_fieldAddr (v := .pointer (some ⟨w7.heap.size, 6, none⟩)) rfl (by kernel_rfl)) fun a hfr => ?_
 refine wlv hfr (v_fieldAddr (v := .pointer (some ⟨w7.heap.size, 7, none⟩)) rfl (by kernel_rfl)) fun a hfr => ?_
 refine wlv hfr (v_load_blk1 (hst.get (k := 0) rfl) rfl (Tryz.isAgg3 _) rfl) fun a hfr => ?_
 refine wlv hfr (v_subw rfl rfl) fun a hfr => ?_
 refine wlv hfr (v_build (v := .agg #[.int .i64 (IntKind.i64.wrap (bw.rt - 1)), .int .i64 (IntKind.i64.wrap (bw.st - 1))]) rfl (by kernel_rfl)) fun a hfr => ?_
 refine wl_buildSlice (E := 22) (sz := 2) rfl [[.int .i64 x.rf, .int .i64 x.sf], [.int .i64 bw.rf, .int .i64 bw.sf], [.int .i64 (IntKind.i64.wrap (bw.rt - 1)), .int .i64 (IntKind.i64.wrap (bw.st - 1))]] (by kernel_rfl) (by simp) rfl (by decide) (by decide) hfr hst ?_
 clear hfr hst
 intro a w10 hfr hst
 refine wlv hfr ((v_len_sl (sT := 48) (hst.ownAt (i := 0) rfl) rfl rfl (Tryz.runUnderlying48 _)).asi (m' := 3) (by rfl)) fun a hfr => ?_
 refine wlm hfr rfl fun a hfr => ?_
 refine wl_nil (hK9 _ _ ?_)
 replace hfr : Fr 191 [(1, _), (2, _), (3, _), (8, _), (9, _), (10, _), (11, _), (12, _), (13, _), (14, _), (58, _), (59, _), (60, _)] [] a := hfr.pick [1, 2, 3, 8, 9, 10, 11, 12, 13, 14, 58, 59, 60]
 refine wc_block ?_
 obtain ⟨zs, hzs⟩ : ∃ zs : List (Int × Int), zs = [(x.rf, x.sf), (bw.rf, bw.sf), (IntKind.i64.wrap (bw.rt - 1), IntKind.i64.wrap (bw.st - 1))] := ⟨_, rfl⟩
 have hzl : zs.length = 3 := by rw [hzs]; rfl
 have hst : St No w0 [own (.slice (some ⟨w9.heap.size, 0, none⟩) 3 3) 22 2 ((zs).map fun z : Int × Int => [Value.int .i64 z.1, Value.int .i64 z.2]), blk w7.heap.size [.int .i64 bw.signer, .int .i64 bw.holder, .int .i64 bw.rf, .int .i64 bw.rt, .int .i64 bw.carrier, .int .i64 bw.serial, .int .i64 bw.sf, .int .i64 bw.st, sv bw.sig] 30, own kv3 9 1 (keysH.map fun s => [sv s]), blk w3.heap.size [.int .i64 x.signer, .int .i64 x.holder, .int .i64 x.rf, .int .i64 x.rt, .int .i64 x.carrier, .int .i64 x.serial, .int .i64 x.sf, .int .i64 x.st, sv x.sig] 30, own pv1 40 7 (ps.map Pxy.cells)] w10 := by rw [hzs]; exact hst
 obtain ⟨cg, hcg⟩ : ∃ cg, (!(decide (bw = x))) = cg := ⟨_, rfl⟩
 rw [hcg] at hfr
 refine wc_loop (fun m a w => ∃ (k : Nat), m = 3 - k ∧ (k ≤ 3) ∧ Fr 191 [(1, .int .i64 how), (2, .int .i64 n), (3, .int .i64 at_), (9, .bool true), (10, .pointer (some ⟨w3.heap.size, 0, none⟩)), (11, pv1), (12, kv3), (13, .pointer (some ⟨w7.heap.size, 0, none⟩)), (14, .bool cg), (58, (.slice (some ⟨w9.heap.size, 0, none⟩) 3 3)), (59, .int .i64 3), (60, .int .i64 (k : Int))] [] a ∧ St No w0 [own (.slice (some ⟨w9.heap.size, 0, none⟩) 3 3) 22 2 ((zs).map fun z : Int × Int => [Value.int .i64 z.1, Value.int .i64 z.2]), blk w7.heap.size [.int .i64 bw.signer, .int .i64 bw.holder, .int .i64 bw.rf, .int .i64 bw.rt, .int .i64 bw.carrier, .int .i64 bw.serial, .int .i64 bw.sf, .int .i64 bw.st, sv bw.sig] 30, own kv3 9 1 (keysH.map fun s => [sv s]), blk w3.heap.size [.int .i64 x.signer, .int .i64 x.holder, .int .i64 x.rf, .int .i64 x.rt, .int .i64 x.carrier, .int .i64 x.serial, .int .i64 x.sf, .int .i64 x.st, sv x.sig] 30, own pv1 40 7 (ps.map Pxy.cells)] w) _ ⟨0, rfl, Nat.zero_le _, hfr.pick [1, 2, 3, 9, 10, 11, 12, 13, 14, 58, 59, 60], hst.select [0, 1, 2, 3, 4] (by decide)⟩ ?_
 rintro _ a w11 ⟨k, rfl, hk, hfr, hst⟩
 refine wc_seq_region fun K10 hK10 => ?_
 refine wlv hfr (v_lt rfl rfl) fun a hfr => ?_
 refine wl_nil (hK10 _ _ ?_)
 refine wc_seq_k fun K11 hK11 => ?_
 refine wc_cond hfr rfl (fun hc5 => ?_) (fun hc5 => ?_)
 ·rw [hc5] at hfr
  try simp only [qz] at hc5
  refine wc_skip ?_
  refine hK11 _ _ ?_
  refine wc_seq_k fun K12 hK12 => ?_
  refine wc_block ?_
  refine wc_seq_region fun K13 hK13 => ?_
  refine wlv hfr ((v_indexAddr_sl (i := (k : Int)) (sT := 48) (hst.ownAt (i := 0) rfl) rfl rfl (Tryz.runUnderlying48 _) (Tryz.sizeOf22 _) (by omega) (by rw [List.length_map]; first | omega | (rw [List.length_set]; omega))).as (v' := slAddr (.slice (some ⟨w9.heap.size, 0, none⟩) 3 3) (k * 2)) rfl) fun a hfr => ?_
  refine wlv hfr ((v_load_sl (hst.ownAt (i := 0) rfl) (i := k) (by rw [List.length_map]; first | omega | (rw [List.length_set]; omega)) rfl (Tryz.isAgg22 _) (Tryz.sizeOf22 _)).as (v' := .agg #[.int .i64 ((zs.getD k (0, 0)).1), .int .i64 ((zs.getD k (0, 0)).2)]) (by rw [el_at ((0 : Int), (0 : Int))])) fun a hfr => ?_
  refine wl_alloc hfr hst (by decide) (Tryz.zeroValue22 _) (cs := [.int .i64 0, .int .i64 0]) rfl ?_
  clear hfr hst
  intro a w12 hfr hst
  refine wl_store 0 hfr hst rfl rfl rfl (Tryz.sizeOf22 _) rfl (Nat.le_of_ble_eq_true rfl) (ds := [.int .i64 ((zs.getD k (0, 0)).1), .int .i64 ((zs.getD k (0, 0)).2)]) rfl rfl ?_
  clear hfr hst
  intro a w13 hfr hst
  refine wl_nil (hK13 _ _ ?_)
  refine wc_seq_region fun K14 hK14 => ?_
  refine wlm hfr rfl fun a hfr => ?_
  refine wlm hfr rfl fun a hfr => ?_
  rcases Bool.eq_false_or_eq_true (cg) with hb6 | hb6
  ·rw [hb6] at hfr
   try simp only [qz] at hb6
   have hnb : ¬ bw = x := by intro e; rw [← hcg, e] at hb6; simp at hb6
   refine wly hfr (v_move rfl) fun a hfr => ?_
   refine wly hfr (v_load_all (hst.get (k := 2) rfl) rfl (Tryz.isAgg30 _) (Tryz.sizeOf30 _)) fun a hfr => ?_
   refine wly hfr (v_move rfl) fun a hfr => ?_
   refine wly hfr (v_indexAddr (v := .pointer (some ⟨w11.heap.size, 0, none⟩)) rfl rfl (by kernel_rfl)) fun a hfr => ?_
   refine wly hfr (v_load_blk1 (hst.get (k := 0) rfl) rfl (Tryz.isAgg3 _) rfl) fun a hfr => ?_
   refine wly hfr (v_indexAddr (v := .pointer (some ⟨w11.heap.size, 1, none⟩)) rfl rfl (by kernel_rfl)) fun a hfr => ?_
   refine wly hfr (v_load_blk1 (hst.get (k := 0) rfl) rfl (Tryz.isAgg3 _) rfl) fun a hfr => ?_
   refine wl_callpy hfr hst (by decide) rfl (by decide) rfl Tryz.call17 rfl (valid_is (x := bw) (ps := ps) (b := validH keysH bw ps ((zs.getD k (0, 0)).1) ((zs.getD k (0, 0)).2)) (hst.ownAt (i := 3) rfl) (hst.ownAt (i := 5) rfl) (hst.keepb hk0) rfl) ?_
   clear hfr hst
   intro a w14 hfr hst
   refine wlv hfr (v_pick_t rfl rfl) fun a hfr => ?_
   refine wl_nil (hK14 _ _ ?_)
   replace hfr : Fr 191 [(1, _), (2, _), (3, _), (9, _), (10, _), (11, _), (12, _), (13, _), (14, _), (58, _), (59, _), (60, _), (74, _)] [] a := hfr.pick [1, 2, 3, 9, 10, 11, 12, 13, 14, 58, 59, 60, 74]
   replace hst : St No w0 [_, _, _, _, _] w14 := hst.mask [false, true, true, true, true, true]
   refine wc_cond hfr rfl (fun hc7 => ?_) (fun hc7 => ?_)
   ·rw [hc7] at hfr
    try simp only [qz] at hc7
    obtain ⟨hbo, ⟨hbs1, hbs2⟩, hbc⟩ := binds_w hmk hbsig hnb hc7
    refine wc_seq_k fun K15 hK15 => ?_
    refine wc_of_dr (by kernel_rfl) (dr_of_wd (by kernel_rfl) fun w15 hxz => ?_)
    replace hst := hst.grow hxz
    refine wd_lin (k := 0) 4 [3] (by kernel_rfl) (by kernel_rfl) (by kernel_rfl) ?_
    refine wlv hfr (v_fieldAddr (v := .pointer (some ⟨w7.heap.size, 0, none⟩)) rfl (by kernel_rfl)) fun a hfr => ?_
    refine wlv hfr (v_load_blk1 (hst.get (k := 1) rfl) rfl (Tryz.isAgg3 _) rfl) fun a hfr => ?_
    refine wlv hfr ((v_lt rfl rfl).asb (b' := false) (by exact decide_eq_false (by omega))) fun a hfr => ?_
    refine wlm hfr rfl fun a hfr => ?_
    refine wl_nil ?_
    refine wd_sub (k := 4) 8 [5, 7] hfr (by kernel_rfl) (by kernel_rfl) (by kernel_rfl) (by rfl) ?_
    replace hfr : Fr 191 [(1, _), (2, _), (3, _), (9, _), (10, _), (11, _), (12, _), (13, _), (14, _), (58, _), (59, _), (60, _), (74, _), (75, _), (76, _), (77, _), (78, _)] [] a := hfr.pick [1, 2, 3, 9, 10, 11, 12, 13, 14, 58, 59, 60, 74, 75, 76, 77, 78]
    refine wc_phases_q [] (fun i => match i with | _ => fun _ _ => False) 4 [[], [0], [], [2]] [.pointer (some ⟨w7.heap.size, 0, none⟩), .int .i64 bw.signer, kv3, .int .i64 (keysH.length : Int)] hfr hst (by kernel_rfl) (by kernel_rfl) (by kernel_rfl) ?_ ?_ ?_
    ·intro i hi hiq
     match i, hi, hiq with
     | 0, _, _ =>
      intro w hst
      exact OpV.g (v_fieldAddr (v := .pointer (some ⟨w7.heap.size, 0, none⟩)) rfl (by kernel_rfl))
     | 1, _, _ =>
      intro w hst
      exact OpV.g (v_load_blk1 (hst.get (k := 1) rfl) rfl (Tryz.isAgg3 _) rfl)
     | 2, _, _ =>
      intro w hst
      exact OpV.g (v_move rfl)
     | 3, _, _ =>
      intro w hst
      exact OpV.g ((v_len_sl (sT := 32) (hst.ownAt (i := 2) rfl) rfl rfl (Tryz.runUnderlying32 _)).asi (m' := (keysH.length : Int)) (by rw [List.length_map]))
    ·intro i hi
     exact absurd hi (by simp)
    clear hfr hst
    intro  a w16 hfr hst
    replace hfr : Fr 191 [(79, .pointer (some ⟨w7.heap.size, 0, none⟩)), (80, .int .i64 bw.signer), (81, kv3), (82, .int .i64 (keysH.length : Int)), (1, _), (2, _), (3, _), (9, _), (10, _), (11, _), (12, _), (13, _), (14, _), (58, _), (59, _), (60, _), (74, _), (75, _), (76, _), (77, _), (78, _)] [] a := hfr
    refine wl_nil ?_
    refine wd_lin (k := 8) 11 [10] (by kernel_rfl) (by kernel_rfl) (by kernel_rfl) ?_
    refine wly hfr ((v_ge rfl rfl).asb (b' := false) (by exact decide_eq_false (by omega))) fun a hfr => ?_
    refine wlv hfr (v_pick_f rfl rfl) fun a hfr => ?_
    refine wlm hfr rfl fun a hfr => ?_
    refine wl_nil ?_
    refine wd_sub (k := 11) 26 [23, 25] hfr (by kernel_rfl) (by kernel_rfl) (by kernel_rfl) (by rfl) ?_
    replace hfr : Fr 191 [(1, _), (2, _), (3, _), (9, _), (10, _), (11, _), (12, _), (13, _), (14, _), (58, _), (59, _), (60, _), (74, _), (75, _), (76, _), (77, _), (78, _), (79, _), (80, _), (81, _), (82, _), (83, _), (84, _), (85, _)] [] a := hfr.pick [1, 2, 3, 9, 10, 11, 12, 13, 14, 58, 59, 60, 74, 75, 76, 77, 78, 79, 80, 81, 82, 83, 84, 85]
    refine wc_phases_q [7] (fun i => match i with | 7 => pm (fun v : Value => v) (fun v => [own v 9 1 ((hashedH (keysH.getD x.signer.toNat []) x.content).map fun s => [sv s])]) (fun _ => True) | _ => fun _ _ => False) 15 [[], [], [1], [0, 2], [3], [], [5], [4, 6], [], [], [9], [8, 10], [11], [], [13]] [kv3, .pointer (some ⟨w3.heap.size, 0, none⟩), .int .i64 x.signer, slAddr kv3 (x.signer.toNat * 1), sv (keysH.getD x.signer.toNat []), .agg #[.int .i64 x.signer, .int .i64 x.holder, .int .i64 x.rf, .int .i64 x.rt, .int .i64 x.carrier, .int .i64 x.serial, .int .i64 x.sf, .int .i64 x.st, sv x.sig], sv x.content, undef, kv3, .pointer (some ⟨w7.heap.size, 0, none⟩), .int .i64 bw.signer, slAddr kv3 (bw.signer.toNat * 1), sv (keysH.getD bw.signer.toNat []), .agg #[.int .i64 bw.signer, .int .i64 bw.holder, .int .i64 bw.rf, .int .i64 bw.rt, .int .i64 bw.carrier, .int .i64 bw.serial, .int .i64 bw.sf, .int .i64 bw.st, sv bw.sig], sv bw.content] hfr hst (by kernel_rfl) (by kernel_rfl) (by kernel_rfl) ?_ ?_ ?_
    ·intro i hi hiq
     match i, hi, hiq with
     | 0, _, _ =>
      intro w hst
      exact OpV.g (v_move rfl)
     | 1, _, _ =>
      intro w hst
      exact OpV.g (v_fieldAddr (v := .pointer (some ⟨w3.heap.size, 0, none⟩)) rfl (by kernel_rfl))
     | 2, _, _ =>
      intro w hst
      exact OpV.g (v_load_blk1 (hst.get (k := 3) rfl) rfl (Tryz.isAgg3 _) rfl)
     | 3, _, _ =>
      intro w hst
      exact OpV.g ((v_indexAddr_sl (i := x.signer) (sT := 32) (hst.ownAt (i := 2) rfl) rfl rfl (Tryz.runUnderlying32 _) (Tryz.sizeOf9 _) (by omega) (by rw [List.length_map]; first | omega | (rw [List.length_set]; omega))).as (v' := slAddr kv3 (x.signer.toNat * 1)) (by rw [show (x.signer).toNat = x.signer.toNat from by omega]))
     | 4, _, _ =>
      intro w hst
      exact OpV.g (v_load_sl1 (u := sv (keysH.getD x.signer.toNat [])) (i := x.signer.toNat) (j := 0) (hst.ownAt (i := 2) rfl) (by rw [List.length_map]; first | omega | (rw [List.length_set]; omega)) rfl (Tryz.isAgg9 _) (by rw [el_at ([] : By)]; rfl))
     | 5, _, _ =>
      intro w hst
      exact OpV.g (v_load_all (hst.get (k := 3) rfl) rfl (Tryz.isAgg30 _) (Tryz.sizeOf30 _))
     | 6, _, _ =>
      intro w hst
      exact g_callp Tryz.call37 rfl (rwcontent_ok x _ (Wsh.smalls_of hxo))
     | 7, _, h => exact absurd (by simp) h
     | 8, _, _ =>
      intro w hst
      exact OpV.g (v_move rfl)
     | 9, _, _ =>
      intro w hst
      exact OpV.g (v_fieldAddr (v := .pointer (some ⟨w7.heap.size, 0, none⟩)) rfl (by kernel_rfl))
     | 10, _, _ =>
      intro w hst
      exact OpV.g (v_load_blk1 (hst.get (k := 1) rfl) rfl (Tryz.isAgg3 _) rfl)
     | 11, _, _ =>
      intro w hst
      exact OpV.g ((v_indexAddr_sl (i := bw.signer) (sT := 32) (hst.ownAt (i := 2) rfl) rfl rfl (Tryz.runUnderlying32 _) (Tryz.sizeOf9 _) (by omega) (by rw [List.length_map]; first | omega | (rw [List.length_set]; omega))).as (v' := slAddr kv3 (bw.signer.toNat * 1)) (by rw [show (bw.signer).toNat = bw.signer.toNat from by omega]))
     | 12, _, _ =>
      intro w hst
      exact OpV.g (v_load_sl1 (u := sv (keysH.getD bw.signer.toNat [])) (i := bw.signer.toNat) (j := 0) (hst.ownAt (i := 2) rfl) (by rw [List.length_map]; first | omega | (rw [List.length_set]; omega)) rfl (Tryz.isAgg9 _) (by rw [el_at ([] : By)]; rfl))
     | 13, _, _ =>
      intro w hst
      exact OpV.g (v_load_all (hst.get (k := 1) rfl) rfl (Tryz.isAgg30 _) (Tryz.sizeOf30 _))
     | 14, _, _ =>
      intro w hst
      exact g_callp Tryz.call37 rfl (rwcontent_ok bw _ (Wsh.smalls_of hbo))
     | i + 15, h, _ => exact absurd h (by omega)
    ·intro i hi
     simp only [List.mem_cons, List.not_mem_nil, or_false] at hi
     subst hi
     ·intro w hst
      exact g_callm Tryz.call36 rfl (hashed_ok (keysH.getD x.signer.toNat []) x.content _ (by rw [keysH_getD (by omega)]; exact Nat.le_trans (Nat.le_of_eq (keyH_len _)) (by decide)) (Nat.le_trans (wsh_clen _) (by decide)))
    clear hfr hst
    rintro hv8 _ ⟨_, rfl, -, rfl⟩ a w17 hfr hst
    replace hfr : Fr 191 [(86, kv3), (87, .pointer (some ⟨w3.heap.size, 0, none⟩)), (88, .int .i64 x.signer), (89, slAddr kv3 (x.signer.toNat * 1)), (90, sv (keysH.getD x.signer.toNat [])), (91, .agg #[.int .i64 x.signer, .int .i64 x.holder, .int .i64 x.rf, .int .i64 x.rt, .int .i64 x.carrier, .int .i64 x.serial, .int .i64 x.sf, .int .i64 x.st, sv x.sig]), (92, sv x.content), (93, _), (94, kv3), (95, .pointer (some ⟨w7.heap.size, 0, none⟩)), (96, .int .i64 bw.signer), (97, slAddr kv3 (bw.signer.toNat * 1)), (98, sv (keysH.getD bw.signer.toNat [])), (99, .agg #[.int .i64 bw.signer, .int .i64 bw.holder, .int .i64 bw.rf, .int .i64 bw.rt, .int .i64 bw.carrier, .int .i64 bw.serial, .int .i64 bw.sf, .int .i64 bw.st, sv bw.sig]), (100, sv bw.content), (1, _), (2, _), (3, _), (9, _), (10, _), (11, _), (12, _), (13, _), (14, _), (58, _), (59, _), (60, _), (74, _), (75, _), (76, _), (77, _), (78, _), (79, _), (80, _), (81, _), (82, _), (83, _), (84, _), (85, _)] [] a := hfr
    replace hst : St No w0 [_, _, _, _, _, _] w17 := hst
    refine wl_nil ?_
    refine wd_lin (k := 26) 30 [29] (by kernel_rfl) (by kernel_rfl) (by kernel_rfl) ?_
    refine wl_open hfr rfl rfl (by decide) rfl ?_
    refine wl_callm hfr hst (by decide) Tryz.call36 rfl (hashed_ok (keysH.getD bw.signer.toNat []) bw.content _ (by rw [keysH_getD (by omega)]; exact Nat.le_trans (Nat.le_of_eq (keyH_len _)) (by decide)) (Nat.le_trans (wsh_clen _) (by decide))) ?_
    clear hfr hst
    intro a w18 x10 hp hfr hst
    revert x10 hp hfr hst; rintro hv9 hp hfr hst
    clear hp
    replace hst : St No w0 [own hv9 9 1 ((hashedH (keysH.getD bw.signer.toNat []) bw.content).map fun s => [sv s]), own hv8 9 1 ((hashedH (keysH.getD x.signer.toNat []) x.content).map fun s => [sv s]), own (.slice (some ⟨w9.heap.size, 0, none⟩) 3 3) 22 2 ((zs).map fun z : Int × Int => [Value.int .i64 z.1, Value.int .i64 z.2]), blk w7.heap.size [.int .i64 bw.signer, .int .i64 bw.holder, .int .i64 bw.rf, .int .i64 bw.rt, .int .i64 bw.carrier, .int .i64 bw.serial, .int .i64 bw.sf, .int .i64 bw.st, sv bw.sig] 30, own kv3 9 1 (keysH.map fun s => [sv s]), blk w3.heap.size [.int .i64 x.signer, .int .i64 x.holder, .int .i64 x.rf, .int .i64 x.rt, .int .i64 x.carrier, .int .i64 x.serial, .int .i64 x.sf, .int .i64 x.st, sv x.sig] 30, own pv1 40 7 (ps.map Pxy.cells)] w18 := hst
    refine wl_callpy hfr hst (by decide) rfl (by decide) rfl Tryz.call35 rfl (ret_bool hbc (collided_ok hv8 hv9 _ _ _ (hst.ownAt (i := 1) rfl) (hst.ownAt (i := 0) rfl) (hashed_len (by rw [keysH_getD (by omega)]; exact Nat.le_trans (Nat.le_of_eq (keyH_len _)) (by decide)) (Nat.le_trans (wsh_clen _) (by decide))) (hashed_len (by rw [keysH_getD (by omega)]; exact Nat.le_trans (Nat.le_of_eq (keyH_len _)) (by decide)) (Nat.le_trans (wsh_clen _) (by decide))) (by simp [hashedH]))) ?_
    clear hfr hst
    intro a w19 hfr hst
    refine wly hfr ((v_not rfl).asb (b' := false) rfl) fun a hfr => ?_
    refine wlv hfr (v_pick_f rfl rfl) fun a hfr => ?_
    refine wl_nil ?_
    refine wd_end (by kernel_rfl) ?_
    refine hK15 _ _ ?_
    replace hfr : Fr 191 [(1, _), (2, _), (3, _), (9, _), (10, _), (11, _), (12, _), (13, _), (14, _), (58, _), (59, _), (60, _), (104, _)] [] a := hfr.pick [1, 2, 3, 9, 10, 11, 12, 13, 14, 58, 59, 60, 104]
    replace hst : St No w0 [_, _, _, _, _] w19 := hst.mask [false, false, true, true, true, true, true]
    refine wc_cond_f hfr rfl ?_
    refine wc_skip ?_
    refine hK12 _ _ ?_
    refine wc_region ?_
    refine wlv hfr (v_add rfl rfl ⟨by omega, by omega⟩) fun a hfr => ?_
    refine wlm hfr rfl fun a hfr => ?_
    refine wl_nil ?_
    rw [hb6]
    refine ⟨_, ?_, k + 1, rfl, (by omega), hfr.pick [1, 2, 3, 9, 10, 11, 12, 13, 14, 58, 59, 60], hst.select [0, 1, 2, 3, 4] (by decide)⟩
    omega
   rw [hc7] at hfr
   try simp only [qz] at hc7
   refine wc_skip ?_
   refine hK12 _ _ ?_
   refine wc_region ?_
   refine wlv hfr (v_add rfl rfl ⟨by omega, by omega⟩) fun a hfr => ?_
   refine wlm hfr rfl fun a hfr => ?_
   refine wl_nil ?_
   rw [hb6]
   refine ⟨_, ?_, k + 1, rfl, (by omega), hfr.pick [1, 2, 3, 9, 10, 11, 12, 13, 14, 58, 59, 60], hst.select [0, 1, 2, 3, 4] (by decide)⟩
   omega
  rw [hb6] at hfr
  try simp only [qz] at hb6
  refine wln hfr fun a hfr => ?_
  refine wln hfr fun a hfr => ?_
  refine wln hfr fun a hfr => ?_
  refine wln hfr fun a hfr => ?_
  refine wln hfr fun a hfr => ?_
  refine wln hfr fun a hfr => ?_
  refine wln hfr fun a hfr => ?_
  refine wln hfr fun a hfr => ?_
  refine wlv hfr (v_pick_f rfl rfl) fun a hfr => ?_
  refine wl_nil (hK14 _ _ ?_)
  replace hfr : Fr 191 [(1, _), (2, _), (3, _), (9, _), (10, _), (11, _), (12, _), (13, _), (14, _), (58, _), (59, _), (60, _), (74, _)] [] a := hfr.pick [1, 2, 3, 9, 10, 11, 12, 13, 14, 58, 59, 60, 74]
  replace hst : St No w0 [_, _, _, _, _] w13 := hst.mask [false, true, true, true, true, true]
  refine wc_cond_f hfr rfl ?_
  refine wc_skip ?_
  refine hK12 _ _ ?_
  refine wc_region ?_
  refine wlv hfr (v_add rfl rfl ⟨by omega, by omega⟩) fun a hfr => ?_
  refine wlm hfr rfl fun a hfr => ?_
  refine wl_nil ?_
  rw [hb6]
  refine ⟨_, ?_, k + 1, rfl, (by omega), hfr.pick [1, 2, 3, 9, 10, 11, 12, 13, 14, 58, 59, 60], hst.select [0, 1, 2, 3, 4] (by decide)⟩
  omega
 rw [hc5] at hfr
 try simp only [qz] at hc5
 refine wc_exit ?_
 refine hK8 _ _ ?_
 refine wc_seq_k fun K16 hK16 => ?_
 refine wc_seq_region fun K17 hK17 => ?_
 refine wlm hfr rfl fun a hfr => ?_
 refine wlv hfr ((v_len_sl (sT := 31) (hst.ownAt (i := 4) rfl) rfl rfl (Tryz.runUnderlying31 _)).asi (m' := (ps.length : Int)) (by rw [List.length_map])) fun a hfr => ?_
 refine wlv hfr (v_eq rfl rfl) fun a hfr => ?_
 refine wl_nil (hK17 _ _ ?_)
 replace hfr : Fr 191 [(1, _), (2, _), (3, _), (9, _), (10, _), (11, _), (12, _), (108, _)] [] a := hfr.pick [1, 2, 3, 9, 10, 11, 12, 108]
 replace hst : St No w0 [_, _, _] w11 := hst.mask [false, false, true, true, true]
 refine wc_cond hfr rfl (fun hc11 => ?_) (fun hc11 => ?_)
 ·rw [hc11] at hfr
  try simp only [qz] at hc11
  refine wc_seq_region fun K18 hK18 => ?_
  refine wlm hfr rfl fun a hfr => ?_
  refine wla hfr rfl fun a hfr => ?_
  refine wl_nil (hK18 _ _ ?_)
  refine wc_ret ?_
  refine fin_ret hfr Tryz.results5 (resAre_tmp rfl resAre_nil) ?_
  exact ⟨by rfl, hst.ext⟩
 rw [hc11] at hfr
 try simp only [qz] at hc11
 obtain ⟨kk, hkk⟩ : ∃ kk : Nat, pickI at_ (ps.length : Int) = (kk : Int) := ⟨(pickI at_ (ps.length : Int)).toNat, (Int.toNat_of_nonneg (pickI_lt at_ (by omega)).1).symm⟩
 have hkb : kk < ps.length := by have := (pickI_lt at_ (n := (ps.length : Int)) (by omega)).2; omega
 have hmem := getD_mem (d := Pxy.z) hkb
 obtain ⟨hpe1, hpe2, -, hpe4⟩ := hmk.each hmem
 have hpe5 := Pxy.ok_bnd hpe4
 obtain ⟨bq, hbq⟩ : ∃ bq, bentP (ps.getD kk Pxy.z) how n = bq := ⟨_, rfl⟩
 have hqsig : bq.sig = (ps.getD kk Pxy.z).sig := by rw [← hbq]; exact bentP_sig _ _ _
 have hgq : (ps.set kk bq).getD kk Pxy.z = bq := by rw [List.getD_eq_getElem?_getD, List.getElem?_set_self hkb]; rfl
 refine wc_skip ?_
 refine hK16 _ _ ?_
 refine wc_seq_region fun K19 hK19 => ?_
 refine wlm hfr rfl fun a hfr => ?_
 refine wlm hfr rfl fun a hfr => ?_
 refine wlv hfr ((v_len_sl (sT := 31) (hst.ownAt (i := 2) rfl) rfl rfl (Tryz.runUnderlying31 _)).asi (m' := (ps.length : Int)) (by rw [List.length_map])) fun a hfr => ?_
 refine wl_callp hfr hst (by decide) Tryz.call11 rfl (pick_x hkk h9 (by omega)) ?_
 clear hfr hst
 intro a w20 hfr hst
 refine wla hfr rfl fun a hfr => ?_
 refine wl_nil (hK19 _ _ ?_)
 replace hfr : Fr 191 [(1, _), (2, _), (9, _), (10, _), (11, _), (12, _), (17, _)] [] a := hfr.pick [1, 2, 9, 10, 11, 12, 17]
 refine wc_seq_region fun K20 hK20 => ?_
 refine wl_buildSlice (E := 40) (sz := 7) rfl [] (by kernel_rfl) (by simp) rfl (by decide) (by decide) hfr hst ?_
 clear hfr hst
 intro a w21 hfr hst
 refine wlm hfr rfl fun a hfr => ?_
 refine wl_append_any (i := 0) (sT := 31) (inf := Tryz.t40) (z := .agg #[.int .i64 0, .int .i64 0, .int .i64 0, .int .i64 0, .int .i64 0, .int .i64 0, .string (⟨#[]⟩)]) rfl rfl rfl (hst.ownAt (i := 3) rfl) Tryz.underlying31 rfl rfl rfl rfl (by decide) (by exact pxy_ones (by intro e he; first | (obtain ⟨p, _, rfl⟩ := List.mem_map.1 he; exact ⟨p, rfl⟩) | (obtain ⟨p, _, rfl⟩ := List.mem_map.1 (List.mem_of_mem_take he); exact ⟨p, rfl⟩) | (obtain ⟨p, _, rfl⟩ := List.mem_map.1 (List.mem_of_mem_drop he); exact ⟨p, rfl⟩))) (by have hby : Tryz.t40.bytes = 64 := rfl; simp only [big, hby, List.length_append, List.length_map, List.length_cons, List.length_nil]; omega) (by have hby : Tryz.t40.bytes = 64 := rfl; simp only [big, hby, List.length_append, List.length_map, List.length_cons, List.length_nil]; omega) (by decide) hfr hst ?_
 clear hfr hst
 intro a w22 s12 hfr hst
 replace hst : St No w0 [own s12 40 7 ((ps).map Pxy.cells), own kv3 9 1 (keysH.map fun s => [sv s]), blk w3.heap.size [.int .i64 x.signer, .int .i64 x.holder, .int .i64 x.rf, .int .i64 x.rt, .int .i64 x.carrier, .int .i64 x.serial, .int .i64 x.sf, .int .i64 x.st, sv x.sig] 30, own pv1 40 7 (ps.map Pxy.cells)] w22 := by simpa using hst
 refine wla hfr rfl fun a hfr => ?_
 refine wl_nil (hK20 _ _ ?_)
 refine wc_seq_region fun K21 hK21 => ?_
 refine wlm hfr rfl fun a hfr => ?_
 refine wlm hfr rfl fun a hfr => ?_
 refine wlm hfr rfl fun a hfr => ?_
 refine wlm hfr rfl fun a hfr => ?_
 refine wlv hfr ((v_indexAddr_sl (i := (kk : Int)) (sT := 31) (hst.ownAt (i := 3) rfl) rfl rfl (Tryz.runUnderlying31 _) (Tryz.sizeOf40 _) (by omega) (by rw [List.length_map]; first | omega | (rw [List.length_set]; omega))).as (v' := slAddr pv1 (kk * 7)) rfl) fun a hfr => ?_
 refine wlv hfr ((v_load_sl (hst.ownAt (i := 3) rfl) (i := kk) (by rw [List.length_map]; first | omega | (rw [List.length_set]; omega)) rfl (Tryz.isAgg40 _) (Tryz.sizeOf40 _)).as (v' := .agg #[.int .i64 ((ps.getD kk Pxy.z).frm), .int .i64 ((ps.getD kk Pxy.z).to), .int .i64 ((ps.getD kk Pxy.z).rf), .int .i64 ((ps.getD kk Pxy.z).rt), .int .i64 ((ps.getD kk Pxy.z).sf), .int .i64 ((ps.getD kk Pxy.z).st), sv ((ps.getD kk Pxy.z).sig)]) (by rw [el_at Pxy.z]; rfl)) fun a hfr => ?_
 refine wlm hfr rfl fun a hfr => ?_
 refine wlm hfr rfl fun a hfr => ?_
 refine wl_callp hfr hst (by decide) Tryz.call12 rfl (bentp_x hbq h7 (by omega) (by omega)) ?_
 clear hfr hst
 intro a w23 hfr hst
 refine wlm hfr rfl fun a hfr => ?_
 refine wlv hfr (v_extract rfl rfl) fun a hfr => ?_
 refine wlv hfr (v_extract rfl rfl) fun a hfr => ?_
 refine wlv hfr ((v_indexAddr_sl (i := (kk : Int)) (sT := 31) (hst.ownAt (i := 0) rfl) rfl rfl (Tryz.runUnderlying31 _) (Tryz.sizeOf40 _) (by omega) (by rw [List.length_map]; first | omega | (rw [List.length_set]; omega))).as (v' := slAddr s12 (kk * 7)) rfl) fun a hfr => ?_
 refine wl_store_el (k := kk) (us := [.int .i64 bq.frm, .int .i64 bq.to, .int .i64 bq.rf, .int .i64 bq.rt, .int .i64 bq.sf, .int .i64 bq.st, sv bq.sig]) 0 hfr hst rfl rfl rfl (by rw [List.length_map]; first | omega | (rw [List.length_set]; omega)) (by omega) (Tryz.sizeOf40 _) rfl (by first | rfl | simp [Value.oneCell', yv, wv, sv]) rfl rfl ?_
 clear hfr hst
 intro a w24 hfr hst
 refine wla hfr rfl fun a hfr => ?_
 refine wl_nil (hK21 _ _ ?_)
 replace hfr : Fr 191 [(9, _), (10, _), (11, _), (12, _), (17, _), (18, _), (14, _)] [] a := hfr.pick [9, 10, 11, 12, 17, 18, 14]
 refine wc_seq_k fun K22 hK22 => ?_
 replace hst : St No w0 [own s12 40 7 ((ps.set kk bq).map Pxy.cells), own kv3 9 1 (keysH.map fun s => [sv s]), blk w3.heap.size [.int .i64 x.signer, .int .i64 x.holder, .int .i64 x.rf, .int .i64 x.rt, .int .i64 x.carrier, .int .i64 x.serial, .int .i64 x.sf, .int .i64 x.st, sv x.sig] 30, own pv1 40 7 (ps.map Pxy.cells)] w24 := by rw [List.map_set]; exact hst
 refine wc_seq_region fun K23 hK23 => ?_
 refine wlm hfr rfl fun a hfr => ?_
 refine wlm hfr rfl fun a hfr => ?_
 rcases Bool.eq_false_or_eq_true (!(decide (bq = (ps.getD kk Pxy.z)))) with hb13 | hb13
 ·rw [hb13] at hfr
  try simp only [qz] at hb13
  refine wly hfr (v_move rfl) fun a hfr => ?_
  refine wly hfr (v_load_all (hst.get (k := 2) rfl) rfl (Tryz.isAgg30 _) (Tryz.sizeOf30 _)) fun a hfr => ?_
  refine wly hfr (v_move rfl) fun a hfr => ?_
  refine wly hfr (v_fieldAddr (v := .pointer (some ⟨w3.heap.size, 2, none⟩)) rfl (by kernel_rfl)) fun a hfr => ?_
  refine wly hfr (v_fieldAddr (v := .pointer (some ⟨w3.heap.size, 2, none⟩)) rfl (by kernel_rfl)) fun a hfr => ?_
  refine wly hfr (v_load_blk1 (hst.get (k := 2) rfl) rfl (Tryz.isAgg3 _) rfl) fun a hfr => ?_
  refine wly hfr (v_fieldAddr (v := .pointer (some ⟨w3.heap.size, 6, none⟩)) rfl (by kernel_rfl)) fun a hfr => ?_
  refine wly hfr (v_fieldAddr (v := .pointer (some ⟨w3.heap.size, 6, none⟩)) rfl (by kernel_rfl)) fun a hfr => ?_
  refine wly hfr (v_load_blk1 (hst.get (k := 2) rfl) rfl (Tryz.isAgg3 _) rfl) fun a hfr => ?_
  refine wl_callpy hfr hst (by decide) rfl (by decide) rfl Tryz.call17 rfl (valid_is (x := x) (ps := (ps.set kk bq)) (b := validH keysH x (ps.set kk bq) x.rf x.sf) (hst.ownAt (i := 1) rfl) (hst.ownAt (i := 0) rfl) (hst.keepb hk0) rfl) ?_
  clear hfr hst
  intro a w25 hfr hst
  refine wlv hfr (v_pick_t rfl rfl) fun a hfr => ?_
  refine wl_nil (hK23 _ _ ?_)
  replace hfr : Fr 191 [(9, _), (11, _), (12, _), (17, _), (18, _), (142, _)] [] a := hfr.pick [9, 11, 12, 17, 18, 142]
  replace hst : St No w0 [_, _, _] w25 := hst.mask [true, true, false, true]
  refine wc_cond hfr rfl (fun hc14 => ?_) (fun hc14 => ?_)
  ·rw [hc14] at hfr
   try simp only [qz] at hc14
   obtain ⟨hqo, ⟨hqs1, hqs2⟩, hqc⟩ := binds_p hmk hkb hqsig hb13 hc14
   refine wc_seq_k fun K24 hK24 => ?_
   refine wc_of_dr (by kernel_rfl) (dr_of_wd (by kernel_rfl) fun w26 hxz => ?_)
   replace hst := hst.grow hxz
   refine wd_sub (k := 0) 2 [0, 1] hfr (by kernel_rfl) (by kernel_rfl) (by kernel_rfl) (by rfl) ?_
   replace hfr : Fr 191 [(9, _), (11, _), (12, _), (17, _), (18, _), (142, _)] [] a := hfr.pick [9, 11, 12, 17, 18, 142]
   refine wc_phases_q [] (fun i => match i with | _ => fun _ _ => False) 2 [[], []] [s12, .int .i64 (kk : Int)] hfr hst (by kernel_rfl) (by kernel_rfl) (by kernel_rfl) ?_ ?_ ?_
   ·intro i hi hiq
    match i, hi, hiq with
    | 0, _, _ =>
     intro w hst
     exact OpV.g (v_move rfl)
    | 1, _, _ =>
     intro w hst
     exact OpV.g (v_move rfl)
   ·intro i hi
    exact absurd hi (by simp)
   clear hfr hst
   intro  a w27 hfr hst
   replace hfr : Fr 191 [(143, s12), (144, .int .i64 (kk : Int)), (9, _), (11, _), (12, _), (17, _), (18, _), (142, _)] [] a := hfr
   refine wl_nil ?_
   refine wd_lin (k := 2) 7 [6] (by kernel_rfl) (by kernel_rfl) (by kernel_rfl) ?_
   refine wlv hfr ((v_indexAddr_sl (i := (kk : Int)) (sT := 31) (hst.ownAt (i := 0) rfl) rfl rfl (Tryz.runUnderlying31 _) (Tryz.sizeOf40 _) (by omega) (by rw [List.length_map]; first | omega | (rw [List.length_set]; omega))).as (v' := slAddr s12 (kk * 7)) rfl) fun a hfr => ?_
   refine wlv hfr (v_fieldAddr_sl (k := kk * 7) (j := 0) (hst.ownAt (i := 0) rfl) (i := kk) (by rw [List.length_map]; first | omega | (rw [List.length_set]; omega)) rfl (fun _ _ => by kernel_rfl)) fun a hfr => ?_
   refine wlv hfr (v_load_sl1 (u := .int .i64 bq.frm) (i := kk) (j := 0) (hst.ownAt (i := 0) rfl) (by rw [List.length_map]; first | omega | (rw [List.length_set]; omega)) rfl (Tryz.isAgg3 _) (by rw [el_at Pxy.z, hgq]; rfl)) fun a hfr => ?_
   refine wlv hfr ((v_ge rfl rfl).asb (b' := true) (by exact decide_eq_true (by omega))) fun a hfr => ?_
   refine wlm hfr rfl fun a hfr => ?_
   refine wl_nil ?_
   refine wd_sub (k := 7) 14 [11, 13] hfr (by kernel_rfl) (by kernel_rfl) (by kernel_rfl) (by rfl) ?_
   replace hfr : Fr 191 [(9, _), (11, _), (12, _), (17, _), (18, _), (142, _), (143, _), (144, _), (145, _), (146, _), (147, _), (148, _), (149, _)] [] a := hfr.pick [9, 11, 12, 17, 18, 142, 143, 144, 145, 146, 147, 148, 149]
   refine wc_phases_q [] (fun i => match i with | _ => fun _ _ => False) 7 [[], [], [0, 1], [2], [3], [], [5]] [s12, .int .i64 (kk : Int), slAddr s12 (kk * 7), slAddr s12 (kk * 7 + 0), .int .i64 bq.frm, kv3, .int .i64 (keysH.length : Int)] hfr hst (by kernel_rfl) (by kernel_rfl) (by kernel_rfl) ?_ ?_ ?_
   ·intro i hi hiq
    match i, hi, hiq with
    | 0, _, _ =>
     intro w hst
     exact OpV.g (v_move rfl)
    | 1, _, _ =>
     intro w hst
     exact OpV.g (v_move rfl)
    | 2, _, _ =>
     intro w hst
     exact OpV.g ((v_indexAddr_sl (i := (kk : Int)) (sT := 31) (hst.ownAt (i := 0) rfl) rfl rfl (Tryz.runUnderlying31 _) (Tryz.sizeOf40 _) (by omega) (by rw [List.length_map]; first | omega | (rw [List.length_set]; omega))).as (v' := slAddr s12 (kk * 7)) rfl)
    | 3, _, _ =>
     intro w hst
     exact OpV.g (v_fieldAddr_sl (k := kk * 7) (j := 0) (hst.ownAt (i := 0) rfl) (i := kk) (by rw [List.length_map]; first | omega | (rw [List.length_set]; omega)) rfl (fun _ _ => by kernel_rfl))
    | 4, _, _ =>
     intro w hst
     exact OpV.g (v_load_sl1 (u := .int .i64 bq.frm) (i := kk) (j := 0) (hst.ownAt (i := 0) rfl) (by rw [List.length_map]; first | omega | (rw [List.length_set]; omega)) rfl (Tryz.isAgg3 _) (by rw [el_at Pxy.z, hgq]; rfl))
    | 5, _, _ =>
     intro w hst
     exact OpV.g (v_move rfl)
    | 6, _, _ =>
     intro w hst
     exact OpV.g ((v_len_sl (sT := 32) (hst.ownAt (i := 1) rfl) rfl rfl (Tryz.runUnderlying32 _)).asi (m' := (keysH.length : Int)) (by rw [List.length_map]))
   ·intro i hi
    exact absurd hi (by simp)
   clear hfr hst
   intro  a w28 hfr hst
   replace hfr : Fr 191 [(150, s12), (151, .int .i64 (kk : Int)), (152, slAddr s12 (kk * 7)), (153, slAddr s12 (kk * 7 + 0)), (154, .int .i64 bq.frm), (155, kv3), (156, .int .i64 (keysH.length : Int)), (9, _), (11, _), (12, _), (17, _), (18, _), (142, _), (143, _), (144, _), (145, _), (146, _), (147, _), (148, _), (149, _)] [] a := hfr
   refine wl_nil ?_
   refine wd_lin (k := 14) 17 [16] (by kernel_rfl) (by kernel_rfl) (by kernel_rfl) ?_
   refine wly hfr ((v_lt rfl rfl).asb (b' := true) (by exact decide_eq_true (by omega))) fun a hfr => ?_
   refine wlv hfr (v_pick_t rfl rfl) fun a hfr => ?_
   refine wlm hfr rfl fun a hfr => ?_
   refine wl_nil ?_
   refine wd_sub (k := 17) 44 [38, 43] hfr (by kernel_rfl) (by kernel_rfl) (by kernel_rfl) (by rfl) ?_
   replace hfr : Fr 191 [(9, _), (11, _), (12, _), (17, _), (18, _), (142, _), (143, _), (144, _), (145, _), (146, _), (147, _), (148, _), (149, _), (150, _), (151, _), (152, _), (153, _), (154, _), (155, _), (156, _), (157, _), (158, _), (159, _)] [] a := hfr.pick [9, 11, 12, 17, 18, 142, 143, 144, 145, 146, 147, 148, 149, 150, 151, 152, 153, 154, 155, 156, 157, 158, 159]
   refine wc_phases_q [13] (fun i => match i with | 13 => pm (fun v : Value => v) (fun v => [own v 9 1 ((hashedH (keysH.getD ((ps.getD kk Pxy.z).frm.toNat) []) ((ps.getD kk Pxy.z).content)).map fun s => [sv s])]) (fun _ => True) | _ => fun _ _ => False) 27 [[], [], [], [1, 2], [3], [4], [0, 5], [6], [], [], [8, 9], [10], [11], [7, 12], [], [], [], [15, 16], [17], [18], [14, 19], [20], [], [], [22, 23], [24], [25]] [kv3, pv1, .int .i64 (kk : Int), slAddr pv1 (kk * 7), slAddr pv1 (kk * 7 + 0), .int .i64 ((ps.getD kk Pxy.z).frm), slAddr kv3 (((ps.getD kk Pxy.z).frm.toNat) * 1), sv (keysH.getD ((ps.getD kk Pxy.z).frm.toNat) []), pv1, .int .i64 (kk : Int), slAddr pv1 (kk * 7), .agg #[.int .i64 ((ps.getD kk Pxy.z).frm), .int .i64 ((ps.getD kk Pxy.z).to), .int .i64 ((ps.getD kk Pxy.z).rf), .int .i64 ((ps.getD kk Pxy.z).rt), .int .i64 ((ps.getD kk Pxy.z).sf), .int .i64 ((ps.getD kk Pxy.z).st), sv ((ps.getD kk Pxy.z).sig)], sv ((ps.getD kk Pxy.z).content), undef, kv3, s12, .int .i64 (kk : Int), slAddr s12 (kk * 7), slAddr s12 (kk * 7 + 0), .int .i64 bq.frm, slAddr kv3 (bq.frm.toNat * 1), sv (keysH.getD bq.frm.toNat []), s12, .int .i64 (kk : Int), slAddr s12 (kk * 7), .agg #[.int .i64 bq.frm, .int .i64 bq.to, .int .i64 bq.rf, .int .i64 bq.rt, .int .i64 bq.sf, .int .i64 bq.st, sv bq.sig], sv bq.content] hfr hst (by kernel_rfl) (by kernel_rfl) (by kernel_rfl) ?_ ?_ ?_
   ·intro i hi hiq
    match i, hi, hiq with
    | 0, _, _ =>
     intro w hst
     exact OpV.g (v_move rfl)
    | 1, _, _ =>
     intro w hst
     exact OpV.g (v_move rfl)
    | 2, _, _ =>
     intro w hst
     exact OpV.g (v_move rfl)
    | 3, _, _ =>
     intro w hst
     exact OpV.g ((v_indexAddr_sl (i := (kk : Int)) (sT := 31) (hst.ownAt (i := 2) rfl) rfl rfl (Tryz.runUnderlying31 _) (Tryz.sizeOf40 _) (by omega) (by rw [List.length_map]; first | omega | (rw [List.length_set]; omega))).as (v' := slAddr pv1 (kk * 7)) rfl)
    | 4, _, _ =>
     intro w hst
     exact OpV.g (v_fieldAddr_sl (k := kk * 7) (j := 0) (hst.ownAt (i := 2) rfl) (i := kk) (by rw [List.length_map]; first | omega | (rw [List.length_set]; omega)) rfl (fun _ _ => by kernel_rfl))
    | 5, _, _ =>
     intro w hst
     exact OpV.g (v_load_sl1 (u := .int .i64 ((ps.getD kk Pxy.z).frm)) (i := kk) (j := 0) (hst.ownAt (i := 2) rfl) (by rw [List.length_map]; first | omega | (rw [List.length_set]; omega)) rfl (Tryz.isAgg3 _) (by rw [el_at Pxy.z]; rfl))
    | 6, _, _ =>
     intro w hst
     exact OpV.g ((v_indexAddr_sl (i := (ps.getD kk Pxy.z).frm) (sT := 32) (hst.ownAt (i := 1) rfl) rfl rfl (Tryz.runUnderlying32 _) (Tryz.sizeOf9 _) (by omega) (by rw [List.length_map]; first | omega | (rw [List.length_set]; omega))).as (v' := slAddr kv3 (((ps.getD kk Pxy.z).frm.toNat) * 1)) (by rw [show ((ps.getD kk Pxy.z).frm).toNat = (ps.getD kk Pxy.z).frm.toNat from by omega]))
    | 7, _, _ =>
     intro w hst
     exact OpV.g (v_load_sl1 (u := sv (keysH.getD ((ps.getD kk Pxy.z).frm.toNat) [])) (i := ((ps.getD kk Pxy.z).frm.toNat)) (j := 0) (hst.ownAt (i := 1) rfl) (by rw [List.length_map]; first | omega | (rw [List.length_set]; omega)) rfl (Tryz.isAgg9 _) (by rw [el_at ([] : By)]; rfl))
    | 8, _, _ =>
     intro w hst
     exact OpV.g (v_move rfl)
    | 9, _, _ =>
     intro w hst
     exact OpV.g (v_move rfl)
    | 10, _, _ =>
     intro w hst
     exact OpV.g ((v_indexAddr_sl (i := (kk : Int)) (sT := 31) (hst.ownAt (i := 2) rfl) rfl rfl (Tryz.runUnderlying31 _) (Tryz.sizeOf40 _) (by omega) (by rw [List.length_map]; first | omega | (rw [List.length_set]; omega))).as (v' := slAddr pv1 (kk * 7)) rfl)
    | 11, _, _ =>
     intro w hst
     exact OpV.g ((v_load_sl (hst.ownAt (i := 2) rfl) (i := kk) (by rw [List.length_map]; first | omega | (rw [List.length_set]; omega)) rfl (Tryz.isAgg40 _) (Tryz.sizeOf40 _)).as (v' := .agg #[.int .i64 ((ps.getD kk Pxy.z).frm), .int .i64 ((ps.getD kk Pxy.z).to), .int .i64 ((ps.getD kk Pxy.z).rf), .int .i64 ((ps.getD kk Pxy.z).rt), .int .i64 ((ps.getD kk Pxy.z).sf), .int .i64 ((ps.getD kk Pxy.z).st), sv ((ps.getD kk Pxy.z).sig)]) (by rw [el_at Pxy.z]; rfl))
    | 12, _, _ =>
     intro w hst
     exact g_callp Tryz.call38 rfl (rpcontent_ok (ps.getD kk Pxy.z) _ (Pxy.smalls_of (hmk.each hmem).2.2.2))
    | 13, _, h => exact absurd (by simp) h
    | 14, _, _ =>
     intro w hst
     exact OpV.g (v_move rfl)
    | 15, _, _ =>
     intro w hst
     exact OpV.g (v_move rfl)
    | 16, _, _ =>
     intro w hst
     exact OpV.g (v_move rfl)
    | 17, _, _ =>
     intro w hst
     exact OpV.g ((v_indexAddr_sl (i := (kk : Int)) (sT := 31) (hst.ownAt (i := 0) rfl) rfl rfl (Tryz.runUnderlying31 _) (Tryz.sizeOf40 _) (by omega) (by rw [List.length_map]; first | omega | (rw [List.length_set]; omega))).as (v' := slAddr s12 (kk * 7)) rfl)
    | 18, _, _ =>
     intro w hst
     exact OpV.g (v_fieldAddr_sl (k := kk * 7) (j := 0) (hst.ownAt (i := 0) rfl) (i := kk) (by rw [List.length_map]; first | omega | (rw [List.length_set]; omega)) rfl (fun _ _ => by kernel_rfl))
    | 19, _, _ =>
     intro w hst
     exact OpV.g (v_load_sl1 (u := .int .i64 bq.frm) (i := kk) (j := 0) (hst.ownAt (i := 0) rfl) (by rw [List.length_map]; first | omega | (rw [List.length_set]; omega)) rfl (Tryz.isAgg3 _) (by rw [el_at Pxy.z, hgq]; rfl))
    | 20, _, _ =>
     intro w hst
     exact OpV.g ((v_indexAddr_sl (i := bq.frm) (sT := 32) (hst.ownAt (i := 1) rfl) rfl rfl (Tryz.runUnderlying32 _) (Tryz.sizeOf9 _) (by omega) (by rw [List.length_map]; first | omega | (rw [List.length_set]; omega))).as (v' := slAddr kv3 (bq.frm.toNat * 1)) (by rw [show (bq.frm).toNat = bq.frm.toNat from by omega]))
    | 21, _, _ =>
     intro w hst
     exact OpV.g (v_load_sl1 (u := sv (keysH.getD bq.frm.toNat [])) (i := bq.frm.toNat) (j := 0) (hst.ownAt (i := 1) rfl) (by rw [List.length_map]; first | omega | (rw [List.length_set]; omega)) rfl (Tryz.isAgg9 _) (by rw [el_at ([] : By)]; rfl))
    | 22, _, _ =>
     intro w hst
     exact OpV.g (v_move rfl)
    | 23, _, _ =>
     intro w hst
     exact OpV.g (v_move rfl)
    | 24, _, _ =>
     intro w hst
     exact OpV.g ((v_indexAddr_sl (i := (kk : Int)) (sT := 31) (hst.ownAt (i := 0) rfl) rfl rfl (Tryz.runUnderlying31 _) (Tryz.sizeOf40 _) (by omega) (by rw [List.length_map]; first | omega | (rw [List.length_set]; omega))).as (v' := slAddr s12 (kk * 7)) rfl)
    | 25, _, _ =>
     intro w hst
     exact OpV.g ((v_load_sl (hst.ownAt (i := 0) rfl) (i := kk) (by rw [List.length_map]; first | omega | (rw [List.length_set]; omega)) rfl (Tryz.isAgg40 _) (Tryz.sizeOf40 _)).as (v' := .agg #[.int .i64 bq.frm, .int .i64 bq.to, .int .i64 bq.rf, .int .i64 bq.rt, .int .i64 bq.sf, .int .i64 bq.st, sv bq.sig]) (by rw [el_at Pxy.z, hgq]; rfl))
    | 26, _, _ =>
     intro w hst
     exact g_callp Tryz.call38 rfl (rpcontent_ok bq _ (Pxy.smalls_of hqo))
    | i + 27, h, _ => exact absurd h (by omega)
   ·intro i hi
    simp only [List.mem_cons, List.not_mem_nil, or_false] at hi
    subst hi
    ·intro w hst
     exact g_callm Tryz.call36 rfl (hashed_ok (keysH.getD ((ps.getD kk Pxy.z).frm.toNat) []) ((ps.getD kk Pxy.z).content) _ (by rw [keysH_getD (by omega)]; exact Nat.le_trans (Nat.le_of_eq (keyH_len _)) (by decide)) (Nat.le_trans (pxy_clen _) (by decide)))
   clear hfr hst
   rintro hv15 _ ⟨_, rfl, -, rfl⟩ a w29 hfr hst
   replace hfr : Fr 191 [(160, kv3), (161, pv1), (162, .int .i64 (kk : Int)), (163, slAddr pv1 (kk * 7)), (164, slAddr pv1 (kk * 7 + 0)), (165, .int .i64 ((ps.getD kk Pxy.z).frm)), (166, slAddr kv3 (((ps.getD kk Pxy.z).frm.toNat) * 1)), (167, sv (keysH.getD ((ps.getD kk Pxy.z).frm.toNat) [])), (168, pv1), (169, .int .i64 (kk : Int)), (170, slAddr pv1 (kk * 7)), (171, .agg #[.int .i64 ((ps.getD kk Pxy.z).frm), .int .i64 ((ps.getD kk Pxy.z).to), .int .i64 ((ps.getD kk Pxy.z).rf), .int .i64 ((ps.getD kk Pxy.z).rt), .int .i64 ((ps.getD kk Pxy.z).sf), .int .i64 ((ps.getD kk Pxy.z).st), sv ((ps.getD kk Pxy.z).sig)]), (172, sv ((ps.getD kk Pxy.z).content)), (173, _), (174, kv3), (175, s12), (176, .int .i64 (kk : Int)), (177, slAddr s12 (kk * 7)), (178, slAddr s12 (kk * 7 + 0)), (179, .int .i64 bq.frm), (180, slAddr kv3 (bq.frm.toNat * 1)), (181, sv (keysH.getD bq.frm.toNat [])), (182, s12), (183, .int .i64 (kk : Int)), (184, slAddr s12 (kk * 7)), (185, .agg #[.int .i64 bq.frm, .int .i64 bq.to, .int .i64 bq.rf, .int .i64 bq.rt, .int .i64 bq.sf, .int .i64 bq.st, sv bq.sig]), (186, sv bq.content), (9, _), (11, _), (12, _), (17, _), (18, _), (142, _), (143, _), (144, _), (145, _), (146, _), (147, _), (148, _), (149, _), (150, _), (151, _), (152, _), (153, _), (154, _), (155, _), (156, _), (157, _), (158, _), (159, _)] [] a := hfr
   replace hst : St No w0 [_, _, _, _] w29 := hst
   refine wl_nil ?_
   refine wd_lin (k := 44) 48 [47] (by kernel_rfl) (by kernel_rfl) (by kernel_rfl) ?_
   refine wl_open hfr rfl rfl (by decide) rfl ?_
   refine wl_callm hfr hst (by decide) Tryz.call36 rfl (hashed_ok (keysH.getD bq.frm.toNat []) bq.content _ (by rw [keysH_getD (by omega)]; exact Nat.le_trans (Nat.le_of_eq (keyH_len _)) (by decide)) (Nat.le_trans (pxy_clen _) (by decide))) ?_
   clear hfr hst
   intro a w30 x17 hp hfr hst
   revert x17 hp hfr hst; rintro hv16 hp hfr hst
   clear hp
   replace hst : St No w0 [own hv16 9 1 ((hashedH (keysH.getD bq.frm.toNat []) bq.content).map fun s => [sv s]), own hv15 9 1 ((hashedH (keysH.getD ((ps.getD kk Pxy.z).frm.toNat) []) ((ps.getD kk Pxy.z).content)).map fun s => [sv s]), own s12 40 7 ((ps.set kk bq).map Pxy.cells), own kv3 9 1 (keysH.map fun s => [sv s]), own pv1 40 7 (ps.map Pxy.cells)] w30 := hst
   refine wl_callpy hfr hst (by decide) rfl (by decide) rfl Tryz.call35 rfl (ret_bool hqc (collided_ok hv15 hv16 _ _ _ (hst.ownAt (i := 1) rfl) (hst.ownAt (i := 0) rfl) (hashed_len (by rw [keysH_getD (by omega)]; exact Nat.le_trans (Nat.le_of_eq (keyH_len _)) (by decide)) (Nat.le_trans (pxy_clen _) (by decide))) (hashed_len (by rw [keysH_getD (by omega)]; exact Nat.le_trans (Nat.le_of_eq (keyH_len _)) (by decide)) (Nat.le_trans (pxy_clen _) (by decide))) (by simp [hashedH]))) ?_
   clear hfr hst
   intro a w31 hfr hst
   refine wlv hfr (v_pick_t rfl rfl) fun a hfr => ?_
   refine wla hfr rfl fun a hfr => ?_
   refine wl_nil ?_
   refine wd_end (by kernel_rfl) ?_
   refine hK24 _ _ ?_
   replace hfr : Fr 191 [(9, _), (8, _)] [] a := hfr.pick [9, 8]
   replace hst : St No w0 [] w31 := hst.mask [false, false, false, false, false]
   refine wc_ret ?_
   refine fin_ret hfr Tryz.results5 (resAre_tmp rfl resAre_nil) ?_
   exact ⟨by rfl, hst.ext⟩
  rw [hc14] at hfr
  try simp only [qz] at hc14
  refine wc_skip ?_
  refine hK22 _ _ ?_
  refine wc_seq_region fun K25 hK25 => ?_
  refine wlm hfr rfl fun a hfr => ?_
  refine wla hfr rfl fun a hfr => ?_
  refine wl_nil (hK25 _ _ ?_)
  replace hfr : Fr 191 [(8, _)] [] a := hfr.pick [8]
  replace hst : St No w0 [] w25 := hst.mask [false, false, false]
  refine wc_ret ?_
  refine fin_ret hfr Tryz.results5 (resAre_tmp rfl resAre_nil) ?_
  exact ⟨by rfl, hst.ext⟩
 rw [hb13] at hfr
 try simp only [qz] at hb13
 refine wln hfr fun a hfr => ?_
 refine wln hfr fun a hfr => ?_
 refine wln hfr fun a hfr => ?_
 refine wln hfr fun a hfr => ?_
 refine wln hfr fun a hfr => ?_
 refine wln hfr fun a hfr => ?_
 refine wln hfr fun a hfr => ?_
 refine wln hfr fun a hfr => ?_
 refine wln hfr fun a hfr => ?_
 refine wln hfr fun a hfr => ?_
 refine wlv hfr (v_pick_f rfl rfl) fun a hfr => ?_
 refine wl_nil (hK23 _ _ ?_)
 replace hfr : Fr 191 [(9, _), (11, _), (12, _), (17, _), (18, _), (142, _)] [] a := hfr.pick [9, 11, 12, 17, 18, 142]
 replace hst : St No w0 [_, _, _] w24 := hst.mask [true, true, false, true]
 refine wc_cond_f hfr rfl ?_
 refine wc_skip ?_
 refine hK22 _ _ ?_
 refine wc_seq_region fun K26 hK26 => ?_
 refine wlm hfr rfl fun a hfr => ?_
 refine wla hfr rfl fun a hfr => ?_
 refine wl_nil (hK26 _ _ ?_)
 replace hfr : Fr 191 [(8, _)] [] a := hfr.pick [8]
 replace hst : St No w0 [] w24 := hst.mask [false, false, false]
 refine wc_ret ?_
 refine fin_ret hfr Tryz.results5 (resAre_tmp rfl resAre_nil) ?_
 exact ⟨by rfl, hst.ext⟩
end Go.Proofs.YtmmfieceinmloaaGreatDoor
