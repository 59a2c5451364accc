/- Texts joined: BldA, BldB, WshE, WshF, WshG, WshH, WshI, WshJ, WshR. -/
import Derived.Test.YtmmfieceinmloaaDoorPCC
import Derived.Test.YtmmfieceinmloaaDoorPCB
import Derived.Test.YtmmfieceinmloaaDoorPCA
namespace Go.Proofs.YtmmfieceinmloaaDoor
open Go.RowKit Go.PW
set_option linter.unusedVariables false
set_option linter.unusedSimpArgs false
set_option maxRecDepth 4000
/-- A builder: its block (of a type in which a strings.Builder lies), its bytes. -/
def bld (T : TypeId) (b : Nat) (ad v : Value) (bs : By) : Ent := join [blk b [ad, v] T, own v 5 1 ((bs).map fun b => [yv b])]
theorem bld_open {M : Nat → Prop} {w0 w : World} {T : TypeId} {b : Nat} {ad v : Value} {bs : By} {H : List Ent} (h : St M w0 (bld T b ad v bs :: H) w) : St M w0 ([blk b [ad, v] T, own v 5 1 ((bs).map fun b => [yv b])] ++ H) w := St.unjoin _ _ h
/-- (*strings.Builder).copyCheck -/
theorem check_fresh (T : TypeId) (b : Nat) (v : Value) (w0 : World) (hlie : liesAt Tryd.prog Tryd.prog.depth T (2 / Tryd.prog.cellsOf T) 0 100 1 = true) (hb : (blk b [.pointer none, v] T).ok w0) :
  Ret Tryd.prog 85 #[.pointer (some ⟨b, 0, none⟩)] w0 fun u w => u = .tuple #[] ∧ Ext (· = b) w0 w ∧ (blk b [.pointer (some ⟨b, 0, none⟩), v] T).ok w := by
 refine ret_of Tryd.func85 rfl Tryd.ntmps85 (Nat.le_of_ble_eq_true rfl) fun a hfr => ?_
 replace hfr : Fr 20 [(0, _)] [] a := hfr
 replace hst : St (· = b) w0 [blk b [.pointer none, v] T] w0 := St.one hb
 refine wc_seq_region fun K1 hK1 => ?_
 refine wlv hfr (v_move rfl) ?_
 clear hfr
 intro a hfr
 refine wlv hfr (v_nilCheck rfl) ?_
 clear hfr
 intro a hfr
 refine wlv hfr (v_fieldAddr (v := .pointer (some ⟨b, 0, none⟩)) rfl (by kernel_rfl)) ?_
 clear hfr
 intro a hfr
 refine wlv hfr (v_load_blk1 (hst.get (k := 0) rfl) rfl (Tryd.isAgg98 _) rfl) ?_
 clear hfr
 intro a hfr
 refine wlv hfr (v_nilp rfl rfl Tryd.underlying98) ?_
 clear hfr
 intro a hfr
 refine wl_nil (hK1 _ _ ?_)
 refine wc_cond_t hfr rfl ?_
 refine wc_region ?_
 refine wlv hfr (v_move rfl) ?_
 clear hfr
 intro a hfr
 refine wlv hfr (v_move rfl) ?_
 clear hfr
 intro a hfr
 refine wlv hfr (v_tounsafe (j := Tryd.t100) (hst.get (k := 0) rfl) rfl Tryd.underlying98 Tryd.underlying145 rfl rfl (by simp)) ?_
 clear hfr
 intro a hfr
 refine wlv hfr (v_noescape Tryd.func96 (by kernel_rfl) (by kernel_rfl) (by kernel_rfl) (by kernel_rfl) rfl) ?_
 clear hfr
 intro a hfr
 refine wlv hfr (v_fromunsafe (j := Tryd.t100) (hst.get (k := 0) rfl) rfl Tryd.underlying145 Tryd.underlying98 rfl hlie) ?_
 clear hfr
 intro a hfr
 refine wlv hfr (v_nilCheck rfl) ?_
 clear hfr
 intro a hfr
 refine wlv hfr (v_fieldAddr (v := .pointer (some ⟨b, 0, none⟩)) rfl (by kernel_rfl)) ?_
 clear hfr
 intro a hfr
 refine wl_store 0 hfr hst rfl rfl rfl (Tryd.sizeOf98 _) rfl (Nat.le_of_ble_eq_true rfl) (ds := [.pointer (some ⟨b, 0, none⟩), v]) rfl rfl ?_
 clear hfr hst
 intro a w2 hfr hst
 refine wl_nil ?_
 refine fin_end hfr Tryd.results85 resAre_nil ?_
 exact ⟨rfl, hst.ext, hst.get (k := 0) rfl⟩
/-- (*strings.Builder).copyCheck -/
theorem check_used (T : TypeId) (b : Nat) (v : Value) (w0 : World) (hlie : liesAt Tryd.prog Tryd.prog.depth T (2 / Tryd.prog.cellsOf T) 0 100 1 = true) (hb : (blk b [.pointer (some ⟨b, 0, none⟩), v] T).ok w0) :
  Ret Tryd.prog 85 #[.pointer (some ⟨b, 0, none⟩)] w0 fun u w => u = .tuple #[] ∧ Ext (· = b) w0 w ∧ (blk b [.pointer (some ⟨b, 0, none⟩), v] T).ok w := by
 refine ret_of Tryd.func85 rfl Tryd.ntmps85 (Nat.le_of_ble_eq_true rfl) fun a hfr => ?_
 replace hfr : Fr 20 [(0, _)] [] a := hfr
 replace hst : St (· = b) w0 [blk b [.pointer (some ⟨b, 0, none⟩), v] T] w0 := St.one hb
 refine wc_seq_region fun K1 hK1 => ?_
 refine wlv hfr (v_move rfl) ?_
 clear hfr
 intro a hfr
 refine wlv hfr (v_nilCheck rfl) ?_
 clear hfr
 intro a hfr
 refine wlv hfr (v_fieldAddr (v := .pointer (some ⟨b, 0, none⟩)) rfl (by kernel_rfl)) ?_
 clear hfr
 intro a hfr
 refine wlv hfr (v_load_blk1 (hst.get (k := 0) rfl) rfl (Tryd.isAgg98 _) rfl) ?_
 clear hfr
 intro a hfr
 refine wlv hfr (v_ptrnil rfl rfl Tryd.underlying98) ?_
 clear hfr
 intro a hfr
 refine wl_nil (hK1 _ _ ?_)
 refine wc_cond_f hfr rfl ?_
 refine wc_seq_region fun K2 hK2 => ?_
 refine wlv hfr (v_move rfl) ?_
 clear hfr
 intro a hfr
 refine wlv hfr (v_nilCheck rfl) ?_
 clear hfr
 intro a hfr
 refine wlv hfr (v_fieldAddr (v := .pointer (some ⟨b, 0, none⟩)) rfl (by kernel_rfl)) ?_
 clear hfr
 intro a hfr
 refine wlv hfr (v_load_blk1 (hst.get (k := 0) rfl) rfl (Tryd.isAgg98 _) rfl) ?_
 clear hfr
 intro a hfr
 refine wlv hfr (v_move rfl) ?_
 clear hfr
 intro a hfr
 refine wlv hfr (v_ptrne (j := Tryd.t100) rfl rfl Tryd.underlying98 rfl) ?_
 clear hfr
 intro a hfr
 refine wl_nil (hK2 _ _ ?_)
 replace hfr : Fr 20 [(19, _)] [] a := hfr.pick [19]
 refine wc_cond_f hfr rfl ?_
 refine wc_skip ?_
 refine fin_end hfr Tryd.results85 resAre_nil ?_
 exact ⟨rfl, hst.ext, hst.get (k := 0) rfl⟩
/-- (*strings.Builder).WriteString -/
theorem wstr_fresh {M : Nat → Prop} {w0 : World} (T : TypeId) (b : Nat) (v : Value) (bs : By) (s : By) (ws : World) (hlie : liesAt Tryd.prog Tryd.prog.depth T (2 / Tryd.prog.cellsOf T) 0 100 1 = true) (hne : s ≠ []) (hbn : bs.length + s.length ≤ 1000000000) (hst : St M w0 [bld T b (.pointer none) v bs] ws) :
  Ret Tryd.prog 64 #[.pointer (some ⟨b, 0, none⟩), sv s] ws fun u w => u = .tuple #[.int .i64 (s.length : Int), .nilIface] ∧ ∃ v2, St M w0 [bld T b (.pointer (some ⟨b, 0, none⟩)) v2 (bs ++ s)] w := by
 refine ret_of Tryd.func64 rfl Tryd.ntmps64 (Nat.le_of_ble_eq_true rfl) fun a hfr => ?_
 replace hfr : Fr 19 [(0, _), (1, _)] [] a := hfr
 replace hst : St M w0 [blk b [.pointer none, v] T, own v 5 1 ((bs).map fun b => [yv b])] ws := bld_open hst
 refine wc_seq_region fun K1 hK1 => ?_
 refine wlv hfr (v_assign rfl) ?_
 clear hfr
 intro a hfr
 refine wlv hfr (v_assign rfl) ?_
 clear hfr
 intro a hfr
 refine wl_nil (hK1 _ _ ?_)
 refine wc_seq_region fun K2 hK2 => ?_
 refine wlv hfr (v_move rfl) ?_
 clear hfr
 intro a hfr
 refine wl_callw 0 hfr hst (by decide) Tryd.call85 rfl rfl (check_fresh T b _ _ hlie (hst.get (k := 0) rfl)) rfl ?_
 clear hfr hst
 intro a w1 hfr hst
 refine wl_nil (hK2 _ _ ?_)
 refine wc_seq_region fun K3 hK3 => ?_
 refine wlv hfr (v_move rfl) ?_
 clear hfr
 intro a hfr
 refine wlv hfr (v_move rfl) ?_
 clear hfr
 intro a hfr
 refine wlv hfr (v_nilCheck rfl) ?_
 clear hfr
 intro a hfr
 refine wlv hfr (v_fieldAddr (v := .pointer (some ⟨b, 1, none⟩)) rfl (by kernel_rfl)) ?_
 clear hfr
 intro a hfr
 refine wlv hfr (v_load_blk1 (hst.get (k := 0) rfl) rfl (Tryd.isAgg71 _) rfl) ?_
 clear hfr
 intro a hfr
 refine wlv hfr (v_move rfl) ?_
 clear hfr
 intro a hfr
 refine wl_append_str (i := 1) (sT := 71) (uT := 9) (inf := Tryd.t5) (bs := bs) (s := s) rfl rfl rfl hne Tryd.underlying71 Tryd.underlying9 rfl rfl rfl rfl (by omega) (by decide) hfr hst ?_
 clear hfr hst
 intro a w2 s1 hfr hst
 refine wlv hfr (v_nilCheck rfl) ?_
 clear hfr
 intro a hfr
 refine wlv hfr (v_fieldAddr (v := .pointer (some ⟨b, 1, none⟩)) rfl (by kernel_rfl)) ?_
 clear hfr
 intro a hfr
 refine wl_store_sl 0 hfr hst (hst.ownAt (i := 1) rfl) rfl rfl rfl (Tryd.sizeOf71 _) (Nat.le_of_ble_eq_true rfl) (ds := [.pointer (some ⟨b, 0, none⟩), s1]) rfl rfl ?_
 clear hfr hst
 intro a w3 hfr hst
 refine wl_nil (hK3 _ _ ?_)
 replace hfr : Fr 19 [(1, _), (4, _), (5, _)] [] a := hfr.pick [1, 4, 5]
 refine wc_seq_region fun K4 hK4 => ?_
 refine wlv hfr (v_move rfl) ?_
 clear hfr
 intro a hfr
 refine wlv hfr (v_len_str rfl rfl (Tryd.runUnderlying9 _)) ?_
 clear hfr
 intro a hfr
 refine wlv hfr (v_assign rfl) ?_
 clear hfr
 intro a hfr
 refine wlv hfr (v_assign rfl) ?_
 clear hfr
 intro a hfr
 refine wl_nil (hK4 _ _ ?_)
 refine wc_ret ?_
 refine fin_ret hfr Tryd.results64 (resAre_tmp rfl (resAre_tmp rfl resAre_nil)) ?_
 replace hst : St M w0 [blk b [.pointer (some ⟨b, 0, none⟩), s1] T, own s1 5 1 ((bs ++ s).map fun b => [yv b])] _ := hst.select [0, 1] (by decide)
 exact ⟨rfl, s1, St.join [blk b [.pointer (some ⟨b, 0, none⟩), s1] T, own s1 5 1 ((bs ++ s).map fun b => [yv b])] [] hst⟩
/-- (*strings.Builder).WriteByte -/
theorem wbyte_fresh {M : Nat → Prop} {w0 : World} (T : TypeId) (b : Nat) (v : Value) (bs : By) (z : UInt8) (ws : World) (hlie : liesAt Tryd.prog Tryd.prog.depth T (2 / Tryd.prog.cellsOf T) 0 100 1 = true) (hbn : bs.length + 1 ≤ 1000000000) (hst : St M w0 [bld T b (.pointer none) v bs] ws) :
  Ret Tryd.prog 60 #[.pointer (some ⟨b, 0, none⟩), yv z] ws fun u w => u = .nilIface ∧ ∃ v2, St M w0 [bld T b (.pointer (some ⟨b, 0, none⟩)) v2 (bs ++ [z])] w := by
 refine ret_of Tryd.func60 rfl Tryd.ntmps60 (Nat.le_of_ble_eq_true rfl) fun a hfr => ?_
 replace hfr : Fr 17 [(0, _), (1, _)] [] a := hfr
 replace hst : St M w0 [blk b [.pointer none, v] T, own v 5 1 ((bs).map fun b => [yv b])] ws := bld_open hst
 refine wc_seq_region fun K1 hK1 => ?_
 refine wlv hfr (v_assign rfl) ?_
 clear hfr
 intro a hfr
 refine wl_nil (hK1 _ _ ?_)
 refine wc_seq_region fun K2 hK2 => ?_
 refine wlv hfr (v_move rfl) ?_
 clear hfr
 intro a hfr
 refine wl_callw 0 hfr hst (by decide) Tryd.call85 rfl rfl (check_fresh T b _ _ hlie (hst.get (k := 0) rfl)) rfl ?_
 clear hfr hst
 intro a w1 hfr hst
 refine wl_nil (hK2 _ _ ?_)
 refine wc_seq_region fun K3 hK3 => ?_
 refine wlv hfr (v_move rfl) ?_
 clear hfr
 intro a hfr
 refine wlv hfr (v_move rfl) ?_
 clear hfr
 intro a hfr
 refine wlv hfr (v_nilCheck rfl) ?_
 clear hfr
 intro a hfr
 refine wlv hfr (v_fieldAddr (v := .pointer (some ⟨b, 1, none⟩)) rfl (by kernel_rfl)) ?_
 clear hfr
 intro a hfr
 refine wlv hfr (v_load_blk1 (hst.get (k := 0) rfl) rfl (Tryd.isAgg71 _) rfl) ?_
 clear hfr
 intro a hfr
 refine wlv hfr (v_move rfl) ?_
 clear hfr
 intro a hfr
 refine wl_buildSlice (E := 5) (sz := 1) rfl [[yv z]] (by kernel_rfl) (by simp) rfl (by decide) (by decide) hfr hst ?_
 clear hfr hst
 intro a w2 hfr hst
 refine wl_append (i := 2) (sT := 71) (inf := Tryd.t5) (z := yv (0 : UInt8)) (b := 0) (off := 0) (m := 0) (c := 0) rfl rfl rfl (hst.ownAt (i := 0) rfl) (by simp) Tryd.underlying71 rfl rfl rfl rfl (by decide) (by simp [Value.oneCell', yv, wv, sv]) (by have hby : Tryd.t5.bytes = 1 := rfl; simp [big, hby] <;> omega) (by have hby : Tryd.t5.bytes = 1 := rfl; simp [big, hby] <;> omega) (by decide) hfr hst fun a w3 s1 hfr hst _ => ?_
 rw [show ((bs).map fun b => [yv b]) ++ ([[yv z]]) = ((bs ++ [z]).map fun b => [yv b]) from by simp] at hst
 refine wlv hfr (v_nilCheck rfl) ?_
 clear hfr
 intro a hfr
 refine wlv hfr (v_fieldAddr (v := .pointer (some ⟨b, 1, none⟩)) rfl (by kernel_rfl)) ?_
 clear hfr
 intro a hfr
 refine wl_store_sl 1 hfr hst (hst.ownAt (i := 2) rfl) rfl rfl rfl (Tryd.sizeOf71 _) (Nat.le_of_ble_eq_true rfl) (ds := [.pointer (some ⟨b, 0, none⟩), s1]) rfl rfl ?_
 clear hfr hst
 intro a w4 hfr hst
 refine wl_nil (hK3 _ _ ?_)
 replace hfr : Fr 17 [(4, _)] [] a := hfr.pick [4]
 replace hst : St M w0 [_, _] w4 := hst.mask [false, true, true]
 refine wc_seq_region fun K4 hK4 => ?_
 refine wlv hfr (v_assign rfl) ?_
 clear hfr
 intro a hfr
 refine wl_nil (hK4 _ _ ?_)
 refine wc_ret ?_
 refine fin_ret hfr Tryd.results60 (resAre_tmp rfl resAre_nil) ?_
 replace hst : St M w0 [blk b [.pointer (some ⟨b, 0, none⟩), s1] T, own s1 5 1 ((bs ++ [z]).map fun b => [yv b])] _ := hst.select [0, 1] (by decide)
 exact ⟨rfl, s1, St.join [blk b [.pointer (some ⟨b, 0, none⟩), s1] T, own s1 5 1 ((bs ++ [z]).map fun b => [yv b])] [] hst⟩
/-- (*strings.Builder).WriteString -/
theorem wstr_used {M : Nat → Prop} {w0 : World} (T : TypeId) (b : Nat) (v : Value) (bs : By) (s : By) (ws : World) (hlie : liesAt Tryd.prog Tryd.prog.depth T (2 / Tryd.prog.cellsOf T) 0 100 1 = true) (hne : s ≠ []) (hbn : bs.length + s.length ≤ 1000000000) (hst : St M w0 [bld T b (.pointer (some ⟨b, 0, none⟩)) v bs] ws) :
  Ret Tryd.prog 64 #[.pointer (some ⟨b, 0, none⟩), sv s] ws fun u w => u = .tuple #[.int .i64 (s.length : Int), .nilIface] ∧ ∃ v2, St M w0 [bld T b (.pointer (some ⟨b, 0, none⟩)) v2 (bs ++ s)] w := by
 refine ret_of Tryd.func64 rfl Tryd.ntmps64 (Nat.le_of_ble_eq_true rfl) fun a hfr => ?_
 replace hfr : Fr 19 [(0, _), (1, _)] [] a := hfr
 replace hst : St M w0 [blk b [.pointer (some ⟨b, 0, none⟩), v] T, own v 5 1 ((bs).map fun b => [yv b])] ws := bld_open hst
 refine wc_seq_region fun K1 hK1 => ?_
 refine wlv hfr (v_assign rfl) ?_
 clear hfr
 intro a hfr
 refine wlv hfr (v_assign rfl) ?_
 clear hfr
 intro a hfr
 refine wl_nil (hK1 _ _ ?_)
 refine wc_seq_region fun K2 hK2 => ?_
 refine wlv hfr (v_move rfl) ?_
 clear hfr
 intro a hfr
 refine wl_callw 0 hfr hst (by decide) Tryd.call85 rfl rfl (check_used T b _ _ hlie (hst.get (k := 0) rfl)) rfl ?_
 clear hfr hst
 intro a w1 hfr hst
 refine wl_nil (hK2 _ _ ?_)
 refine wc_seq_region fun K3 hK3 => ?_
 refine wlv hfr (v_move rfl) ?_
 clear hfr
 intro a hfr
 refine wlv hfr (v_move rfl) ?_
 clear hfr
 intro a hfr
 refine wlv hfr (v_nilCheck rfl) ?_
 clear hfr
 intro a hfr
 refine wlv hfr (v_fieldAddr (v := .pointer (some ⟨b, 1, none⟩)) rfl (by kernel_rfl)) ?_
 clear hfr
 intro a hfr
 refine wlv hfr (v_load_blk1 (hst.get (k := 0) rfl) rfl (Tryd.isAgg71 _) rfl) ?_
 clear hfr
 intro a hfr
 refine wlv hfr (v_move rfl) ?_
 clear hfr
 intro a hfr
 refine wl_append_str (i := 1) (sT := 71) (uT := 9) (inf := Tryd.t5) (bs := bs) (s := s) rfl rfl rfl hne Tryd.underlying71 Tryd.underlying9 rfl rfl rfl rfl (by omega) (by decide) hfr hst ?_
 clear hfr hst
 intro a w2 s1 hfr hst
 refine wlv hfr (v_nilCheck rfl) ?_
 clear hfr
 intro a hfr
 refine wlv hfr (v_fieldAddr (v := .pointer (some ⟨b, 1, none⟩)) rfl (by kernel_rfl)) ?_
 clear hfr
 intro a hfr
 refine wl_store_sl 0 hfr hst (hst.ownAt (i := 1) rfl) rfl rfl rfl (Tryd.sizeOf71 _) (Nat.le_of_ble_eq_true rfl) (ds := [.pointer (some ⟨b, 0, none⟩), s1]) rfl rfl ?_
 clear hfr hst
 intro a w3 hfr hst
 refine wl_nil (hK3 _ _ ?_)
 replace hfr : Fr 19 [(1, _), (4, _), (5, _)] [] a := hfr.pick [1, 4, 5]
 refine wc_seq_region fun K4 hK4 => ?_
 refine wlv hfr (v_move rfl) ?_
 clear hfr
 intro a hfr
 refine wlv hfr (v_len_str rfl rfl (Tryd.runUnderlying9 _)) ?_
 clear hfr
 intro a hfr
 refine wlv hfr (v_assign rfl) ?_
 clear hfr
 intro a hfr
 refine wlv hfr (v_assign rfl) ?_
 clear hfr
 intro a hfr
 refine wl_nil (hK4 _ _ ?_)
 refine wc_ret ?_
 refine fin_ret hfr Tryd.results64 (resAre_tmp rfl (resAre_tmp rfl resAre_nil)) ?_
 replace hst : St M w0 [blk b [.pointer (some ⟨b, 0, none⟩), s1] T, own s1 5 1 ((bs ++ s).map fun b => [yv b])] _ := hst.select [0, 1] (by decide)
 exact ⟨rfl, s1, St.join [blk b [.pointer (some ⟨b, 0, none⟩), s1] T, own s1 5 1 ((bs ++ s).map fun b => [yv b])] [] hst⟩
/-- (*strings.Builder).WriteByte -/
theorem wbyte_used {M : Nat → Prop} {w0 : World} (T : TypeId) (b : Nat) (v : Value) (bs : By) (z : UInt8) (ws : World) (hlie : liesAt Tryd.prog Tryd.prog.depth T (2 / Tryd.prog.cellsOf T) 0 100 1 = true) (hbn : bs.length + 1 ≤ 1000000000) (hst : St M w0 [bld T b (.pointer (some ⟨b, 0, none⟩)) v bs] ws) :
  Ret Tryd.prog 60 #[.pointer (some ⟨b, 0, none⟩), yv z] ws fun u w => u = .nilIface ∧ ∃ v2, St M w0 [bld T b (.pointer (some ⟨b, 0, none⟩)) v2 (bs ++ [z])] w := by
 refine ret_of Tryd.func60 rfl Tryd.ntmps60 (Nat.le_of_ble_eq_true rfl) fun a hfr => ?_
 replace hfr : Fr 17 [(0, _), (1, _)] [] a := hfr
 replace hst : St M w0 [blk b [.pointer (some ⟨b, 0, none⟩), v] T, own v 5 1 ((bs).map fun b => [yv b])] ws := bld_open hst
 refine wc_seq_region fun K1 hK1 => ?_
 refine wlv hfr (v_assign rfl) ?_
 clear hfr
 intro a hfr
 refine wl_nil (hK1 _ _ ?_)
 refine wc_seq_region fun K2 hK2 => ?_
 refine wlv hfr (v_move rfl) ?_
 clear hfr
 intro a hfr
 refine wl_callw 0 hfr hst (by decide) Tryd.call85 rfl rfl (check_used T b _ _ hlie (hst.get (k := 0) rfl)) rfl ?_
 clear hfr hst
 intro a w1 hfr hst
 refine wl_nil (hK2 _ _ ?_)
 refine wc_seq_region fun K3 hK3 => ?_
 refine wlv hfr (v_move rfl) ?_
 clear hfr
 intro a hfr
 refine wlv hfr (v_move rfl) ?_
 clear hfr
 intro a hfr
 refine wlv hfr (v_nilCheck rfl) ?_
 clear hfr
 intro a hfr
 refine wlv hfr (v_fieldAddr (v := .pointer (some ⟨b, 1, none⟩)) rfl (by kernel_rfl)) ?_
 clear hfr
 intro a hfr
 refine wlv hfr (v_load_blk1 (hst.get (k := 0) rfl) rfl (Tryd.isAgg71 _) rfl) ?_
 clear hfr
 intro a hfr
 refine wlv hfr (v_move rfl) ?_
 clear hfr
 intro a hfr
 refine wl_buildSlice (E := 5) (sz := 1) rfl [[yv z]] (by kernel_rfl) (by simp) rfl (by decide) (by decide) hfr hst ?_
 clear hfr hst
 intro a w2 hfr hst
 refine wl_append (i := 2) (sT := 71) (inf := Tryd.t5) (z := yv (0 : UInt8)) (b := 0) (off := 0) (m := 0) (c := 0) rfl rfl rfl (hst.ownAt (i := 0) rfl) (by simp) Tryd.underlying71 rfl rfl rfl rfl (by decide) (by simp [Value.oneCell', yv, wv, sv]) (by have hby : Tryd.t5.bytes = 1 := rfl; simp [big, hby] <;> omega) (by have hby : Tryd.t5.bytes = 1 := rfl; simp [big, hby] <;> omega) (by decide) hfr hst fun a w3 s1 hfr hst _ => ?_
 rw [show ((bs).map fun b => [yv b]) ++ ([[yv z]]) = ((bs ++ [z]).map fun b => [yv b]) from by simp] at hst
 refine wlv hfr (v_nilCheck rfl) ?_
 clear hfr
 intro a hfr
 refine wlv hfr (v_fieldAddr (v := .pointer (some ⟨b, 1, none⟩)) rfl (by kernel_rfl)) ?_
 clear hfr
 intro a hfr
 refine wl_store_sl 1 hfr hst (hst.ownAt (i := 2) rfl) rfl rfl rfl (Tryd.sizeOf71 _) (Nat.le_of_ble_eq_true rfl) (ds := [.pointer (some ⟨b, 0, none⟩), s1]) rfl rfl ?_
 clear hfr hst
 intro a w4 hfr hst
 refine wl_nil (hK3 _ _ ?_)
 replace hfr : Fr 17 [(4, _)] [] a := hfr.pick [4]
 replace hst : St M w0 [_, _] w4 := hst.mask [false, true, true]
 refine wc_seq_region fun K4 hK4 => ?_
 refine wlv hfr (v_assign rfl) ?_
 clear hfr
 intro a hfr
 refine wl_nil (hK4 _ _ ?_)
 refine wc_ret ?_
 refine fin_ret hfr Tryd.results60 (resAre_tmp rfl resAre_nil) ?_
 replace hst : St M w0 [blk b [.pointer (some ⟨b, 0, none⟩), s1] T, own s1 5 1 ((bs ++ [z]).map fun b => [yv b])] _ := hst.select [0, 1] (by decide)
 exact ⟨rfl, s1, St.join [blk b [.pointer (some ⟨b, 0, none⟩), s1] T, own s1 5 1 ((bs ++ [z]).map fun b => [yv b])] [] hst⟩
theorem own_lit {w : World} {E : TypeId} {v : Value} {bs : By} (h : (own v E 1 ((bs).map fun b => [yv b])).ok w) (hne : bs ≠ []) : ∃ g cap, v = .slice (some ⟨g, 0, none⟩) bs.length cap ∧ cap ≠ 0 := by
 obtain ⟨h1, h2, h3, h4⟩ := h
 have hn : bs.length ≠ 0 := by simpa using hne
 rcases h4 with ⟨_, h0⟩ | ⟨g, cap, cur, fz, hv, _, _, hnc, _⟩
 ·rw [List.length_map] at h0; exact absurd h0 hn
 ·rw [List.length_map] at hv hnc; exact ⟨g, cap, hv, by omega⟩
/-- (*strings.Builder).String -/
theorem bstring_lit {M : Nat → Prop} {w0 : World} (T : TypeId) (b g cap : Nat) (bs : By) (ws : World) (hne : bs ≠ []) (hcap : cap ≠ 0) (hst : St M w0 [blk b [.pointer (some ⟨b, 0, none⟩), .slice (some ⟨g, 0, none⟩) bs.length cap] T, own (.slice (some ⟨g, 0, none⟩) bs.length cap) 5 1 ((bs).map fun b => [yv b])] ws) :
  Ret Tryd.prog 61 #[.pointer (some ⟨b, 0, none⟩)] ws fun u w => u = sv bs ∧ St M w0 [blk b [.pointer (some ⟨b, 0, none⟩), .slice (some ⟨g, 0, none⟩) bs.length cap] T] w := by
 refine ret_of Tryd.func61 rfl Tryd.ntmps61 (Nat.le_of_ble_eq_true rfl) fun a hfr => ?_
 replace hfr : Fr 14 [(0, _)] [] a := hfr
 skip
 refine wc_seq_region fun K1 hK1 => ?_
 refine wlv hfr (v_assign rfl) ?_
 clear hfr
 intro a hfr
 refine wl_nil (hK1 _ _ ?_)
 refine wc_seq_k fun K2 hK2 => ?_
 refine wc_of_dr (by kernel_rfl) ?_
 replace hfr : Fr 14 [(0, _), (2, _)] [] a := hfr.pick [0, 2]
 replace hst : St M w0 (own (.slice (some ⟨g, 0, none⟩) bs.length cap) 5 1 ((bs).map fun b => [yv b]) :: [blk b [.pointer (some ⟨b, 0, none⟩), .slice (some ⟨g, 0, none⟩) bs.length cap] T]) ws := hst.front (i := 1) rfl
 refine wc_phases_one 10 (own (.slice (some ⟨g, 0, none⟩) bs.length cap) 5 1 ((bs).map fun b => [yv b])) (fun _ => sl (.slice (some ⟨g, 0, none⟩) bs.length cap) 1 ((bs).map fun b => [yv b])) 11 [[], [0], [1], [2], [3], [], [5], [6], [7], [8], [4, 9]] (fun i => match i with | 0 => pv (.pointer (some ⟨b, 0, none⟩)) | 1 => pv (.pointer (some ⟨b, 0, none⟩)) | 2 => pv (.pointer (some ⟨b, 1, none⟩)) | 3 => pv (.slice (some ⟨g, 0, none⟩) bs.length cap) | 4 => pv (.pointer (some ⟨g, 0, none⟩)) | 5 => pv (.pointer (some ⟨b, 0, none⟩)) | 6 => pv (.pointer (some ⟨b, 0, none⟩)) | 7 => pv (.pointer (some ⟨b, 1, none⟩)) | 8 => pv (.slice (some ⟨g, 0, none⟩) bs.length cap) | 9 => pv (.int .i64 (bs.length : Int)) | 10 => fun v E => v = sv bs ∧ E = [] | _ => fun _ _ => False) hfr hst (by kernel_rfl) (by kernel_rfl) (by kernel_rfl) (by decide) ?_ ?_ ?_ ?_
 ·intro i v E h
  match i, h with
  | 0, _ => exact by decide
  | 1, _ => exact by decide
  | 2, _ => exact by decide
  | 3, _ => exact by decide
  | 4, _ => exact by decide
  | 5, _ => exact by decide
  | 6, _ => exact by decide
  | 7, _ => exact by decide
  | 8, _ => exact by decide
  | 9, _ => exact by decide
  | 10, _ => exact by decide
  | i + 11, h => exact h.elim
 ·intro i hi hiq e
  match i, hi, hiq with
  | 0, _, _ =>
   intro w hst
   exact OpV.g (v_move rfl)
  | 1, _, _ =>
   rintro _ _ ⟨rfl, rfl⟩
   intro w hst
   exact OpV.g (v_nilCheck rfl)
  | 2, _, _ =>
   rintro _ _ ⟨rfl, rfl⟩
   intro w hst
   exact OpV.g (v_fieldAddr (v := .pointer (some ⟨b, 1, none⟩)) rfl (by kernel_rfl))
  | 3, _, _ =>
   rintro _ _ ⟨rfl, rfl⟩
   intro w hst
   exact OpV.g (v_load_blk1 (hst.get (k := 1) rfl) rfl (Tryd.isAgg71 _) rfl)
  | 4, _, _ =>
   rintro _ _ ⟨rfl, rfl⟩
   intro w hst
   exact OpV.g (v_sliceData rfl hcap)
  | 5, _, _ =>
   intro w hst
   exact OpV.g (v_move rfl)
  | 6, _, _ =>
   rintro _ _ ⟨rfl, rfl⟩
   intro w hst
   exact OpV.g (v_nilCheck rfl)
  | 7, _, _ =>
   rintro _ _ ⟨rfl, rfl⟩
   intro w hst
   exact OpV.g (v_fieldAddr (v := .pointer (some ⟨b, 1, none⟩)) rfl (by kernel_rfl))
  | 8, _, _ =>
   rintro _ _ ⟨rfl, rfl⟩
   intro w hst
   exact OpV.g (v_load_blk1 (hst.get (k := 1) rfl) rfl (Tryd.isAgg71 _) rfl)
  | 9, _, _ =>
   rintro _ _ ⟨rfl, rfl⟩
   intro w hst
   exact OpV.g ((v_builtin (v := .int .i64 (bs.length : Int)) (vs := [.slice (some ⟨g, 0, none⟩) bs.length cap]) (by simp [evs]; rfl) (by simp [builtin, Builtin.len_, Tryd.runUnderlying71]; rfl)).as rfl)
  | 10, _, h => exact absurd rfl h
 ·rintro _ _ ⟨rfl, rfl⟩ _ _ ⟨rfl, rfl⟩
  intro w hst
  exact (r_unsafeString (hst.get (k := 0) rfl) hne rfl rfl Tryd.underlying133 (by kernel_rfl)).mono fun v w' ⟨h1, h2, h3, h4⟩ => ⟨h2, h3, h4, ⟨h1, rfl⟩⟩
 clear hfr hst
 rintro vq _ _ ⟨⟨rfl, rfl⟩, -⟩ _ _ ⟨⟨rfl, rfl⟩, -⟩ _ _ ⟨⟨rfl, rfl⟩, -⟩ _ _ ⟨⟨rfl, rfl⟩, -⟩ _ _ ⟨⟨rfl, rfl⟩, -⟩ _ _ ⟨⟨rfl, rfl⟩, -⟩ _ _ ⟨⟨rfl, rfl⟩, -⟩ _ _ ⟨⟨rfl, rfl⟩, -⟩ _ _ ⟨⟨rfl, rfl⟩, -⟩ _ _ ⟨⟨rfl, rfl⟩, -⟩ _ _ ⟨⟨rfl, rfl⟩, -⟩ a w1 hfr hst
 replace hfr : Fr 14 [(3, _), (4, _), (5, _), (6, _), (7, _), (8, _), (9, _), (10, _), (11, _), (12, _), (13, _), (0, _), (2, _)] [] a := hfr
 replace hst : St M w0 [(fun _ => sl (.slice (some ⟨g, 0, none⟩) bs.length cap) 1 ((bs).map fun b => [yv b])) vq, blk b [.pointer (some ⟨b, 0, none⟩), .slice (some ⟨g, 0, none⟩) bs.length cap] T] w1 := hst
 refine wlv hfr (v_assign rfl) ?_
 clear hfr
 intro a hfr
 refine wl_nil ?_
 refine hK2 _ _ ?_
 replace hfr : Fr 14 [(2, _)] [] a := hfr.pick [2]
 refine wc_ret ?_
 refine fin_ret hfr Tryd.results61 (resAre_tmp rfl resAre_nil) ?_
 exact ⟨rfl, hst.select [1] (by decide)⟩
theorem bstring_ok {M : Nat → Prop} {w0 : World} (T : TypeId) (b : Nat) (v : Value) (bs : By) (ws : World) (hne : bs ≠ []) (hst : St M w0 [bld T b (.pointer (some ⟨b, 0, none⟩)) v bs] ws) :
  Ret Tryd.prog 61 #[.pointer (some ⟨b, 0, none⟩)] ws fun u w => u = sv bs ∧ St M w0 [blk b [.pointer (some ⟨b, 0, none⟩), v] T] w := by
 have hst : St M w0 [blk b [.pointer (some ⟨b, 0, none⟩), v] T, own v 5 1 ((bs).map fun b => [yv b])] ws := bld_open hst
 obtain ⟨g, cap, rfl, hcap⟩ := own_lit (hst.get (k := 1) rfl) hne
 exact bstring_lit T b g cap bs ws hne hcap hst
end Go.Proofs.YtmmfieceinmloaaDoor
namespace Go.Proofs.YtmmfieceinmloaaDoor
open Go.RowKit Go.PW
set_option linter.unusedVariables false
set_option linter.unusedSimpArgs false
set_option maxRecDepth 4000
theorem wstr_any {M : Nat → Prop} {w0 : World} (T : TypeId) (b : Nat) (ad v : Value) (bs s : By) (ws : World) (hlie : liesAt Tryd.prog Tryd.prog.depth T (2 / Tryd.prog.cellsOf T) 0 100 1 = true) (had : ad = .pointer none ∨ ad = .pointer (some ⟨b, 0, none⟩)) (hne : s ≠ []) (hbn : bs.length + s.length ≤ 1000000000) (hst : St M w0 [bld T b ad v bs] ws) :
  Ret Tryd.prog 64 #[.pointer (some ⟨b, 0, none⟩), sv s] ws fun u w => u = .tuple #[.int .i64 (s.length : Int), .nilIface] ∧ ∃ v2, St M w0 [bld T b (.pointer (some ⟨b, 0, none⟩)) v2 (bs ++ s)] w := by
 rcases had with rfl | rfl
 ·exact wstr_fresh T b v bs s ws hlie hne hbn hst
 ·exact wstr_used T b v bs s ws hlie hne hbn hst
theorem putI_ne (n : Int) : putI n ≠ [] := fun h => by have := (putI_len n).1; rw [h] at this; simp at this
/-- (*dialtone/wish.writer).numbers -/
theorem numbers_ok {M : Nat → Prop} {w0 : World} (T : TypeId) (b : Nat) (ad v lv : Value) (bs : By) (ns : List Int) (ws : World) (hlie : liesAt Tryd.prog Tryd.prog.depth T (2 / Tryd.prog.cellsOf T) 0 100 1 = true) (had : ad = .pointer none ∨ ad = .pointer (some ⟨b, 0, none⟩)) (hns : smalls ns) (hnn : ns ≠ []) (hbn : bs.length + 9 * ns.length ≤ 1000000000) (hst : St M w0 [bld T b (ad) v bs, own lv 3 1 ((ns).map fun n => [Value.int .i64 n])] ws) :
  Ret Tryd.prog 59 #[.pointer (some ⟨b, 0, none⟩), lv] ws fun u w => u = .tuple #[] ∧ ∃ v2, St M w0 [bld T b (.pointer (some ⟨b, 0, none⟩)) v2 (bs ++ puts ns)] w := by
 refine ret_of Tryd.func59 rfl Tryd.ntmps59 (Nat.le_of_ble_eq_true rfl) fun a hfr => ?_
 replace hfr : Fr 25 [(0, _), (1, _)] [] a := hfr
 skip
 refine wc_seq_region fun K1 hK1 => ?_
 refine wlv hfr (v_move rfl) ?_
 clear hfr
 intro a hfr
 refine wlv hfr ((v_len_sl (sT := 88) (hst.ownAt (i := 1) rfl) rfl rfl (Tryd.runUnderlying88 _)).asi (m' := (ns.length : Int)) (by rw [List.length_map])) ?_
 clear hfr
 intro a hfr
 refine wlv hfr (v_move rfl) ?_
 clear hfr
 intro a hfr
 refine wl_nil (hK1 _ _ ?_)
 refine wc_block ?_
 replace hst : St M w0 [bld T b ad v (bs ++ puts (ns.take 0)), own lv 3 1 ((ns).map fun n => [Value.int .i64 n])] ws := by rw [show bs ++ puts (ns.take 0) = bs from by simp [puts]]; exact hst
 refine wc_loop (fun m a w => ∃ (k : Nat) (ad : Value) (v : Value), m = ns.length - k ∧ (k ≤ ns.length) ∧ (ad = .pointer none ∨ ad = .pointer (some ⟨b, 0, none⟩)) ∧ (0 < k → ad = .pointer (some ⟨b, 0, none⟩)) ∧ Fr 25 [(0, .pointer (some ⟨b, 0, none⟩)), (8, lv), (9, .int .i64 (ns.length : Int)), (10, .int .i64 (k : Int))] [] a ∧ St M w0 [bld T b (ad) v (bs ++ puts (ns.take k)), own lv 3 1 ((ns).map fun n => [Value.int .i64 n])] w) _ ⟨0, ad, v, rfl, Nat.zero_le _, had, (fun h => absurd h (Nat.lt_irrefl 0)), hfr.pick [0, 8, 9, 10], hst⟩ ?_
 rintro _ a w1 ⟨k, ad, v, rfl, hk, had, hak, hfr, hst⟩
 refine wc_seq_region fun K2 hK2 => ?_
 refine wlv hfr (v_lt rfl rfl) ?_
 clear hfr
 intro a hfr
 refine wl_nil (hK2 _ _ ?_)
 refine wc_seq_k fun K3 hK3 => ?_
 refine wc_cond hfr rfl (fun hc1 => ?_) (fun hc1 => ?_)
 ·rw [hc1] at hfr
  try simp only [Bool.not_eq_true', Bool.not_eq_false', decide_eq_true_eq, decide_eq_false_iff_not] at hc1
  refine wc_skip ?_
  refine hK3 _ _ ?_
  refine wc_seq_k fun K4 hK4 => ?_
  refine wc_block ?_
  refine wc_seq_region fun K5 hK5 => ?_
  refine wlv hfr ((v_indexAddr_sl (i := (k : Int)) (sT := 88) (hst.ownAt (i := 1) rfl) rfl rfl (Tryd.runUnderlying88 _) (Tryd.sizeOf3 _) (by omega) (by rw [List.length_map]; omega)).as (v' := slAddr lv (k * 1)) rfl) ?_
  clear hfr
  intro a hfr
  refine wlv hfr (v_load_sl1 (u := .int .i64 (ns.getD k 0)) (i := k) (j := 0) (hst.ownAt (i := 1) rfl) (by rw [List.length_map]; omega) rfl (Tryd.isAgg3 _) (by rw [el_at (0 : Int)]; rfl)) ?_
  clear hfr
  intro a hfr
  refine wlv hfr (v_assign rfl) ?_
  clear hfr
  intro a hfr
  refine wl_nil (hK5 _ _ ?_)
  refine wc_seq_region fun K6 hK6 => ?_
  refine wlv hfr (v_move rfl) ?_
  clear hfr
  intro a hfr
  refine wl_callp hfr hst (by decide) Tryd.call84 rfl (putInt_ok (ns.getD k 0) _ (hns _ (getD_mem (by omega)))) ?_
  clear hfr hst
  intro a w2 hfr hst
  refine wlv hfr (v_move rfl) ?_
  clear hfr
  intro a hfr
  refine wlv hfr (v_extract rfl rfl) ?_
  clear hfr
  intro a hfr
  refine wlv hfr (v_extract rfl rfl) ?_
  clear hfr
  intro a hfr
  refine wlv hfr (v_assign rfl) ?_
  clear hfr
  intro a hfr
  refine wlv hfr (v_assign rfl) ?_
  clear hfr
  intro a hfr
  refine wl_nil (hK6 _ _ ?_)
  replace hfr : Fr 25 [(0, _), (8, _), (9, _), (10, _), (6, _)] [] a := hfr.pick [0, 8, 9, 10, 6]
  refine wc_region ?_
  refine wlv hfr (v_move rfl) ?_
  clear hfr
  intro a hfr
  refine wlv hfr (v_nilCheck rfl) ?_
  clear hfr
  intro a hfr
  refine wlv hfr (v_fieldAddr (v := .pointer (some ⟨b, 0, none⟩)) rfl (by kernel_rfl)) ?_
  clear hfr
  intro a hfr
  refine wlv hfr (v_move rfl) ?_
  clear hfr
  intro a hfr
  refine wl_callE (R := fun u e' => u = .tuple #[.int .i64 ((putI (ns.getD k 0)).length : Int), .nilIface] ∧ ∃ v2, e' = bld T b (.pointer (some ⟨b, 0, none⟩)) v2 ((bs ++ puts (ns.take k)) ++ (putI (ns.getD k 0)))) 0 hfr hst rfl (by decide) Tryd.call64 rfl (fun h => (wstr_any T b _ _ _ _ _ hlie (had) (putI_ne _) (by have h1 := puts_len (ns.take k); have h2 := (putI_len (ns.getD k 0)).2; rw [List.length_take] at h1; rw [List.length_append]; omega) h).mono fun u w ⟨h1, v2, h2⟩ => ⟨_, ⟨h1, v2, rfl⟩, h2⟩) ?_
  clear hfr hst
  rintro a w3 _ _ ⟨rfl, v2, rfl⟩ hfr hst
  replace hst : St M w0 [bld T b (.pointer (some ⟨b, 0, none⟩)) v2 ((bs ++ puts (ns.take k)) ++ (putI (ns.getD k 0))), own lv 3 1 ((ns).map fun n => [Value.int .i64 n])] w3 := hst
  refine wl_nil ?_
  refine hK4 _ _ ?_
  replace hfr : Fr 25 [(0, _), (8, _), (9, _), (10, _)] [] a := hfr.pick [0, 8, 9, 10]
  refine wc_region ?_
  refine wlv hfr (v_add rfl rfl ⟨by omega, by omega⟩) ?_
  clear hfr
  intro a hfr
  refine wlv hfr (v_move rfl) ?_
  clear hfr
  intro a hfr
  refine wl_nil ?_
  replace hst : St M w0 [bld T b (.pointer (some ⟨b, 0, none⟩)) v2 (bs ++ puts (ns.take (k + 1))), own lv 3 1 ((ns).map fun n => [Value.int .i64 n])] w3 := by rw [show bs ++ puts (ns.take (k + 1)) = (bs ++ puts (ns.take k)) ++ (putI (ns.getD k 0)) from by rw [take_snoc 0 (by omega), puts_snoc, List.append_assoc]]; exact hst
  refine ⟨_, ?_, k + 1, .pointer (some ⟨b, 0, none⟩), v2, rfl, (by omega), (.inr rfl), (fun _ => rfl), hfr.pick [0, 8, 9, 10], hst⟩
  omega
 rw [hc1] at hfr
 try simp only [Bool.not_eq_true', Bool.not_eq_false', decide_eq_true_eq, decide_eq_false_iff_not] at hc1
 obtain rfl : k = ns.length := by omega
 rw [List.take_length] at hst
 obtain rfl := hak (List.length_pos_iff.2 hnn)
 refine wc_exit ?_
 refine fin_end hfr Tryd.results59 resAre_nil ?_
 exact ⟨rfl, _, hst.select [0] (by decide)⟩
/-- (*dialtone/wish.writer).wish -/
theorem wwish_ok {M : Nat → Prop} {w0 : World} (T : TypeId) (b : Nat) (ad v : Value) (bs : By) (x : Wsh) (ws : World) (hlie : liesAt Tryd.prog Tryd.prog.depth T (2 / Tryd.prog.cellsOf T) 0 100 1 = true) (had : ad = .pointer none ∨ ad = .pointer (some ⟨b, 0, none⟩)) (hx : smalls x.nums) (hbn : bs.length ≤ 1000000) (hst : St M w0 [bld T b (ad) v bs] ws) :
  Ret Tryd.prog 43 #[.pointer (some ⟨b, 0, none⟩), .agg #[.int .i64 x.signer, .int .i64 x.holder, .int .i64 x.rf, .int .i64 x.rt, .int .i64 x.carrier, .int .i64 x.serial, .int .i64 x.sf, .int .i64 x.st, sv x.sig]] ws fun u w => u = .tuple #[] ∧ ∃ v2, St M w0 [bld T b (.pointer (some ⟨b, 0, none⟩)) v2 (bs ++ x.content)] w := by
 refine ret_of Tryd.func43 rfl Tryd.ntmps43 (Nat.le_of_ble_eq_true rfl) fun a hfr => ?_
 replace hfr : Fr 27 [(0, _), (1, _)] [] a := hfr
 skip
 refine wc_seq_region fun K1 hK1 => ?_
 refine wl_box hfr hst (by decide) rfl (cs := [.int .i64 x.signer, .int .i64 x.holder, .int .i64 x.rf, .int .i64 x.rt, .int .i64 x.carrier, .int .i64 x.serial, .int .i64 x.sf, .int .i64 x.st, sv x.sig]) rfl ?_
 clear hfr hst
 intro a w1 hfr hst
 refine wl_nil (hK1 _ _ ?_)
 refine wc_region ?_
 refine wlv hfr (v_move rfl) ?_
 clear hfr
 intro a hfr
 refine wlv hfr (v_fieldAddr (v := .pointer (some ⟨ws.heap.size, 0, none⟩)) rfl (by kernel_rfl)) ?_
 clear hfr
 intro a hfr
 refine wlv hfr (v_load_blk1 (hst.get (k := 0) rfl) rfl (Tryd.isAgg3 _) rfl) ?_
 clear hfr
 intro a hfr
 refine wlv hfr (v_fieldAddr (v := .pointer (some ⟨ws.heap.size, 1, none⟩)) rfl (by kernel_rfl)) ?_
 clear hfr
 intro a hfr
 refine wlv hfr (v_load_blk1 (hst.get (k := 0) rfl) rfl (Tryd.isAgg3 _) rfl) ?_
 clear hfr
 intro a hfr
 refine wlv hfr (v_fieldAddr (v := .pointer (some ⟨ws.heap.size, 2, none⟩)) rfl (by kernel_rfl)) ?_
 clear hfr
 intro a hfr
 refine wlv hfr (v_fieldAddr (v := .pointer (some ⟨ws.heap.size, 2, none⟩)) rfl (by kernel_rfl)) ?_
 clear hfr
 intro a hfr
 refine wlv hfr (v_load_blk1 (hst.get (k := 0) rfl) rfl (Tryd.isAgg3 _) rfl) ?_
 clear hfr
 intro a hfr
 refine wlv hfr (v_fieldAddr (v := .pointer (some ⟨ws.heap.size, 2, none⟩)) rfl (by kernel_rfl)) ?_
 clear hfr
 intro a hfr
 refine wlv hfr (v_fieldAddr (v := .pointer (some ⟨ws.heap.size, 3, none⟩)) rfl (by kernel_rfl)) ?_
 clear hfr
 intro a hfr
 refine wlv hfr (v_load_blk1 (hst.get (k := 0) rfl) rfl (Tryd.isAgg3 _) rfl) ?_
 clear hfr
 intro a hfr
 refine wlv hfr (v_fieldAddr (v := .pointer (some ⟨ws.heap.size, 4, none⟩)) rfl (by kernel_rfl)) ?_
 clear hfr
 intro a hfr
 refine wlv hfr (v_load_blk1 (hst.get (k := 0) rfl) rfl (Tryd.isAgg3 _) rfl) ?_
 clear hfr
 intro a hfr
 refine wlv hfr (v_fieldAddr (v := .pointer (some ⟨ws.heap.size, 5, none⟩)) rfl (by kernel_rfl)) ?_
 clear hfr
 intro a hfr
 refine wlv hfr (v_load_blk1 (hst.get (k := 0) rfl) rfl (Tryd.isAgg3 _) rfl) ?_
 clear hfr
 intro a hfr
 refine wlv hfr (v_fieldAddr (v := .pointer (some ⟨ws.heap.size, 6, none⟩)) rfl (by kernel_rfl)) ?_
 clear hfr
 intro a hfr
 refine wlv hfr (v_fieldAddr (v := .pointer (some ⟨ws.heap.size, 6, none⟩)) rfl (by kernel_rfl)) ?_
 clear hfr
 intro a hfr
 refine wlv hfr (v_load_blk1 (hst.get (k := 0) rfl) rfl (Tryd.isAgg3 _) rfl) ?_
 clear hfr
 intro a hfr
 refine wlv hfr (v_fieldAddr (v := .pointer (some ⟨ws.heap.size, 6, none⟩)) rfl (by kernel_rfl)) ?_
 clear hfr
 intro a hfr
 refine wlv hfr (v_fieldAddr (v := .pointer (some ⟨ws.heap.size, 7, none⟩)) rfl (by kernel_rfl)) ?_
 clear hfr
 intro a hfr
 refine wlv hfr (v_load_blk1 (hst.get (k := 0) rfl) rfl (Tryd.isAgg3 _) rfl) ?_
 clear hfr
 intro a hfr
 refine wl_buildSlice (E := 3) (sz := 1) rfl [[.int .i64 1], [.int .i64 x.signer], [.int .i64 x.holder], [.int .i64 x.rf], [.int .i64 x.rt], [.int .i64 x.carrier], [.int .i64 x.serial], [.int .i64 x.sf], [.int .i64 x.st]] (by kernel_rfl) (by simp) rfl (by decide) (by decide) hfr hst ?_
 clear hfr hst
 intro a w2 hfr hst
 replace hst : St M w0 [bld T b (ad) v bs, own (.slice (some ⟨w1.heap.size, 0, none⟩) 9 9) 3 1 ([[.int .i64 1], [.int .i64 x.signer], [.int .i64 x.holder], [.int .i64 x.rf], [.int .i64 x.rt], [.int .i64 x.carrier], [.int .i64 x.serial], [.int .i64 x.sf], [.int .i64 x.st]]), blk ws.heap.size [.int .i64 x.signer, .int .i64 x.holder, .int .i64 x.rf, .int .i64 x.rt, .int .i64 x.carrier, .int .i64 x.serial, .int .i64 x.sf, .int .i64 x.st, sv x.sig] 31] w2 := hst.select [2, 0, 1] (by decide)
 replace hst := St.join [bld T b (ad) v bs, own (.slice (some ⟨w1.heap.size, 0, none⟩) 9 9) 3 1 ([[.int .i64 1], [.int .i64 x.signer], [.int .i64 x.holder], [.int .i64 x.rf], [.int .i64 x.rt], [.int .i64 x.carrier], [.int .i64 x.serial], [.int .i64 x.sf], [.int .i64 x.st]])] [blk ws.heap.size [.int .i64 x.signer, .int .i64 x.holder, .int .i64 x.rf, .int .i64 x.rt, .int .i64 x.carrier, .int .i64 x.serial, .int .i64 x.sf, .int .i64 x.st, sv x.sig] 31] hst
 refine wl_callE (R := fun u e' => u = .tuple #[] ∧ ∃ v2, e' = bld T b (.pointer (some ⟨b, 0, none⟩)) v2 (bs ++ puts [1, x.signer, x.holder, x.rf, x.rt, x.carrier, x.serial, x.sf, x.st])) 0 hfr hst rfl (by decide) Tryd.call59 rfl (fun h => (numbers_ok T b _ _ _ _ [1, x.signer, x.holder, x.rf, x.rt, x.carrier, x.serial, x.sf, x.st] _ hlie (had) (hx) (by simp) (by simp <;> omega) (St.unjoin [bld T b (ad) v bs, own (.slice (some ⟨w1.heap.size, 0, none⟩) 9 9) 3 1 ([[.int .i64 1], [.int .i64 x.signer], [.int .i64 x.holder], [.int .i64 x.rf], [.int .i64 x.rt], [.int .i64 x.carrier], [.int .i64 x.serial], [.int .i64 x.sf], [.int .i64 x.st]])] [] h)).mono fun u w ⟨h1, v2, h2⟩ => ⟨_, ⟨h1, v2, rfl⟩, h2⟩) ?_
 clear hfr hst
 rintro a w3 _ _ ⟨rfl, v1, rfl⟩ hfr hst
 replace hst : St M w0 [bld T b (.pointer (some ⟨b, 0, none⟩)) v1 (bs ++ puts [1, x.signer, x.holder, x.rf, x.rt, x.carrier, x.serial, x.sf, x.st]), blk ws.heap.size [.int .i64 x.signer, .int .i64 x.holder, .int .i64 x.rf, .int .i64 x.rt, .int .i64 x.carrier, .int .i64 x.serial, .int .i64 x.sf, .int .i64 x.st, sv x.sig] 31] w3 := hst
 refine wl_nil ?_
 refine fin_end hfr Tryd.results43 resAre_nil ?_
 exact ⟨rfl, _, hst.select [0] (by decide)⟩
/-- (*dialtone/wish.writer).proxy -/
theorem wproxy_ok {M : Nat → Prop} {w0 : World} (T : TypeId) (b : Nat) (ad v : Value) (bs : By) (x : Pxy) (ws : World) (hlie : liesAt Tryd.prog Tryd.prog.depth T (2 / Tryd.prog.cellsOf T) 0 100 1 = true) (had : ad = .pointer none ∨ ad = .pointer (some ⟨b, 0, none⟩)) (hx : smalls x.nums) (hbn : bs.length ≤ 1000000) (hst : St M w0 [bld T b (ad) v bs] ws) :
  Ret Tryd.prog 47 #[.pointer (some ⟨b, 0, none⟩), .agg #[.int .i64 x.frm, .int .i64 x.to, .int .i64 x.rf, .int .i64 x.rt, .int .i64 x.sf, .int .i64 x.st, sv x.sig]] ws fun u w => u = .tuple #[] ∧ ∃ v2, St M w0 [bld T b (.pointer (some ⟨b, 0, none⟩)) v2 (bs ++ x.content)] w := by
 refine ret_of Tryd.func47 rfl Tryd.ntmps47 (Nat.le_of_ble_eq_true rfl) fun a hfr => ?_
 replace hfr : Fr 23 [(0, _), (1, _)] [] a := hfr
 skip
 refine wc_seq_region fun K1 hK1 => ?_
 refine wl_box hfr hst (by decide) rfl (cs := [.int .i64 x.frm, .int .i64 x.to, .int .i64 x.rf, .int .i64 x.rt, .int .i64 x.sf, .int .i64 x.st, sv x.sig]) rfl ?_
 clear hfr hst
 intro a w1 hfr hst
 refine wl_nil (hK1 _ _ ?_)
 refine wc_region ?_
 refine wlv hfr (v_move rfl) ?_
 clear hfr
 intro a hfr
 refine wlv hfr (v_fieldAddr (v := .pointer (some ⟨ws.heap.size, 0, none⟩)) rfl (by kernel_rfl)) ?_
 clear hfr
 intro a hfr
 refine wlv hfr (v_load_blk1 (hst.get (k := 0) rfl) rfl (Tryd.isAgg3 _) rfl) ?_
 clear hfr
 intro a hfr
 refine wlv hfr (v_fieldAddr (v := .pointer (some ⟨ws.heap.size, 1, none⟩)) rfl (by kernel_rfl)) ?_
 clear hfr
 intro a hfr
 refine wlv hfr (v_load_blk1 (hst.get (k := 0) rfl) rfl (Tryd.isAgg3 _) rfl) ?_
 clear hfr
 intro a hfr
 refine wlv hfr (v_fieldAddr (v := .pointer (some ⟨ws.heap.size, 2, none⟩)) rfl (by kernel_rfl)) ?_
 clear hfr
 intro a hfr
 refine wlv hfr (v_fieldAddr (v := .pointer (some ⟨ws.heap.size, 2, none⟩)) rfl (by kernel_rfl)) ?_
 clear hfr
 intro a hfr
 refine wlv hfr (v_load_blk1 (hst.get (k := 0) rfl) rfl (Tryd.isAgg3 _) rfl) ?_
 clear hfr
 intro a hfr
 refine wlv hfr (v_fieldAddr (v := .pointer (some ⟨ws.heap.size, 2, none⟩)) rfl (by kernel_rfl)) ?_
 clear hfr
 intro a hfr
 refine wlv hfr (v_fieldAddr (v := .pointer (some ⟨ws.heap.size, 3, none⟩)) rfl (by kernel_rfl)) ?_
 clear hfr
 intro a hfr
 refine wlv hfr (v_load_blk1 (hst.get (k := 0) rfl) rfl (Tryd.isAgg3 _) rfl) ?_
 clear hfr
 intro a hfr
 refine wlv hfr (v_fieldAddr (v := .pointer (some ⟨ws.heap.size, 4, none⟩)) rfl (by kernel_rfl)) ?_
 clear hfr
 intro a hfr
 refine wlv hfr (v_fieldAddr (v := .pointer (some ⟨ws.heap.size, 4, none⟩)) rfl (by kernel_rfl)) ?_
 clear hfr
 intro a hfr
 refine wlv hfr (v_load_blk1 (hst.get (k := 0) rfl) rfl (Tryd.isAgg3 _) rfl) ?_
 clear hfr
 intro a hfr
 refine wlv hfr (v_fieldAddr (v := .pointer (some ⟨ws.heap.size, 4, none⟩)) rfl (by kernel_rfl)) ?_
 clear hfr
 intro a hfr
 refine wlv hfr (v_fieldAddr (v := .pointer (some ⟨ws.heap.size, 5, none⟩)) rfl (by kernel_rfl)) ?_
 clear hfr
 intro a hfr
 refine wlv hfr (v_load_blk1 (hst.get (k := 0) rfl) rfl (Tryd.isAgg3 _) rfl) ?_
 clear hfr
 intro a hfr
 refine wl_buildSlice (E := 3) (sz := 1) rfl [[.int .i64 2], [.int .i64 x.frm], [.int .i64 x.to], [.int .i64 x.rf], [.int .i64 x.rt], [.int .i64 x.sf], [.int .i64 x.st]] (by kernel_rfl) (by simp) rfl (by decide) (by decide) hfr hst ?_
 clear hfr hst
 intro a w2 hfr hst
 replace hst : St M w0 [bld T b (ad) v bs, own (.slice (some ⟨w1.heap.size, 0, none⟩) 7 7) 3 1 ([[.int .i64 2], [.int .i64 x.frm], [.int .i64 x.to], [.int .i64 x.rf], [.int .i64 x.rt], [.int .i64 x.sf], [.int .i64 x.st]]), blk ws.heap.size [.int .i64 x.frm, .int .i64 x.to, .int .i64 x.rf, .int .i64 x.rt, .int .i64 x.sf, .int .i64 x.st, sv x.sig] 41] w2 := hst.select [2, 0, 1] (by decide)
 replace hst := St.join [bld T b (ad) v bs, own (.slice (some ⟨w1.heap.size, 0, none⟩) 7 7) 3 1 ([[.int .i64 2], [.int .i64 x.frm], [.int .i64 x.to], [.int .i64 x.rf], [.int .i64 x.rt], [.int .i64 x.sf], [.int .i64 x.st]])] [blk ws.heap.size [.int .i64 x.frm, .int .i64 x.to, .int .i64 x.rf, .int .i64 x.rt, .int .i64 x.sf, .int .i64 x.st, sv x.sig] 41] hst
 refine wl_callE (R := fun u e' => u = .tuple #[] ∧ ∃ v2, e' = bld T b (.pointer (some ⟨b, 0, none⟩)) v2 (bs ++ puts [2, x.frm, x.to, x.rf, x.rt, x.sf, x.st])) 0 hfr hst rfl (by decide) Tryd.call59 rfl (fun h => (numbers_ok T b _ _ _ _ [2, x.frm, x.to, x.rf, x.rt, x.sf, x.st] _ hlie (had) (hx) (by simp) (by simp <;> omega) (St.unjoin [bld T b (ad) v bs, own (.slice (some ⟨w1.heap.size, 0, none⟩) 7 7) 3 1 ([[.int .i64 2], [.int .i64 x.frm], [.int .i64 x.to], [.int .i64 x.rf], [.int .i64 x.rt], [.int .i64 x.sf], [.int .i64 x.st]])] [] h)).mono fun u w ⟨h1, v2, h2⟩ => ⟨_, ⟨h1, v2, rfl⟩, h2⟩) ?_
 clear hfr hst
 rintro a w3 _ _ ⟨rfl, v1, rfl⟩ hfr hst
 replace hst : St M w0 [bld T b (.pointer (some ⟨b, 0, none⟩)) v1 (bs ++ puts [2, x.frm, x.to, x.rf, x.rt, x.sf, x.st]), blk ws.heap.size [.int .i64 x.frm, .int .i64 x.to, .int .i64 x.rf, .int .i64 x.rt, .int .i64 x.sf, .int .i64 x.st, sv x.sig] 41] w3 := hst
 refine wl_nil ?_
 refine fin_end hfr Tryd.results47 resAre_nil ?_
 exact ⟨rfl, _, hst.select [0] (by decide)⟩
/-- dialtone/wish.seal -/
theorem seal_ok {M : Nat → Prop} {w0 : World} (key content : By) (g : FuncId) (caps : List Value) (ec : Ent) (ws : World) (hen : ∀ args w, (callFunc g args).run Tryd.prog w = .ok (.enter g args) w)
  (hc : ∀ {M : Nat → Prop} {w0 : World} (b : Nat) (v : Value) (ws : World), St M w0 [bld 108 b (.pointer none) v [], ec] ws → Ret Tryd.prog g ([Value.pointer (some ⟨b, 0, none⟩)] ++ caps).toArray ws fun u w => u = .tuple #[] ∧ ∃ v2, St M w0 [bld 108 b (.pointer (some ⟨b, 0, none⟩)) v2 content, ec] w)
  (hne : content ≠ []) (hkl : key.length ≤ 40000000) (hcl : content.length ≤ 40000000) (hst : St M w0 [blk 0 (kOf.map wv) 157, ec] ws) :
  Ret Tryd.prog 41 #[sv key, .func (.func g) #[] caps.toArray] ws fun u w => u = sv (sealH key content) ∧ St M w0 [blk 0 (kOf.map wv) 157, ec] w := by
 refine ret_of Tryd.func41 rfl Tryd.ntmps41 (Nat.le_of_ble_eq_true rfl) fun a hfr => ?_
 replace hfr : Fr 13 [(0, _), (1, _)] [] a := hfr
 skip
 refine wc_seq_region fun K1 hK1 => ?_
 refine wlv hfr (v_assign rfl) ?_
 clear hfr
 intro a hfr
 refine wl_nil (hK1 _ _ ?_)
 refine wc_seq_region fun K2 hK2 => ?_
 refine wl_alloc hfr hst (by decide) (Tryd.zeroValue108 _) (cs := [.pointer none, .slice none 0 0]) rfl ?_
 clear hfr hst
 intro a w1 hfr hst
 refine wl_nil (hK2 _ _ ?_)
 refine wc_seq_region fun K3 hK3 => ?_
 refine wlv hfr (v_move rfl) ?_
 clear hfr
 intro a hfr
 replace hst : St M w0 (own (.slice none 0 0) 5 1 [] :: [blk ws.heap.size [.pointer none, .slice none 0 0] 108, blk 0 (kOf.map wv) 157, ec]) w1 := hst.nil_own
 replace hst : St M w0 [blk ws.heap.size [.pointer none, .slice none 0 0] 108, own (.slice none 0 0) 5 1 ([]), ec, blk 0 (kOf.map wv) 157] w1 := hst.select [1, 0, 3, 2] (by decide)
 replace hst : St M w0 ([bld 108 (ws.heap.size) (.pointer none) (.slice none 0 0) [], ec] ++ [blk 0 (kOf.map wv) 157]) w1 := St.join [blk ws.heap.size [.pointer none, .slice none 0 0] 108, own (.slice none 0 0) 5 1 ([])] [ec, blk 0 (kOf.map wv) 157] hst
 replace hst := St.join _ _ hst
 refine wl_callEv (R := fun u e' => u = .tuple #[] ∧ ∃ v2, e' = join [bld 108 (ws.heap.size) (.pointer (some ⟨ws.heap.size, 0, none⟩)) v2 content, ec]) 0 hfr hst rfl (by decide) rfl hen rfl (fun h => (hc (ws.heap.size) _ _ (St.unjoin [bld 108 (ws.heap.size) (.pointer none) (.slice none 0 0) [], ec] [] h)).mono fun u w ⟨h1, v2, h2⟩ => ⟨_, ⟨h1, v2, rfl⟩, St.join _ [] h2⟩) ?_
 clear hfr hst
 rintro a w2 _ _ ⟨rfl, v1, rfl⟩ hfr hst
 replace hst : St M w0 [bld 108 (ws.heap.size) (.pointer (some ⟨ws.heap.size, 0, none⟩)) v1 content, ec, blk 0 (kOf.map wv) 157] w2 := St.unjoin [bld 108 (ws.heap.size) (.pointer (some ⟨ws.heap.size, 0, none⟩)) v1 content, ec] [blk 0 (kOf.map wv) 157] hst
 refine wl_nil (hK3 _ _ ?_)
 refine wc_seq_region fun K4 hK4 => ?_
 refine wlv hfr (v_move rfl) ?_
 clear hfr
 intro a hfr
 refine wlv hfr (v_fieldAddr (v := .pointer (some ⟨ws.heap.size, 0, none⟩)) rfl (by kernel_rfl)) ?_
 clear hfr
 intro a hfr
 refine wl_callE (R := fun u e' => u = sv (content) ∧ e' = blk (ws.heap.size) [.pointer (some ⟨ws.heap.size, 0, none⟩), v1] 108) 0 hfr hst rfl (by decide) Tryd.call61 rfl (fun h => (bstring_ok 108 (ws.heap.size) _ _ _ hne h).mono fun u w ⟨h1, h2⟩ => ⟨_, ⟨h1, rfl⟩, h2⟩) ?_
 clear hfr hst
 rintro a w3 _ _ ⟨rfl, rfl⟩ hfr hst
 replace hst : St M w0 [blk (ws.heap.size) [.pointer (some ⟨ws.heap.size, 0, none⟩), v1] 108, ec, blk 0 (kOf.map wv) 157] w3 := hst
 refine wl_callp hfr hst (by decide) Tryd.call75 rfl (leaf_ok content _ (by omega) (hst.get (k := 2) rfl)) ?_
 clear hfr hst
 intro a w4 hfr hst
 refine wl_callp hfr hst (by decide) Tryd.call74 rfl (node_ok key (leafH sha content) _ (by omega) (by rw [leaf_len sha_len]; decide) (hst.get (k := 2) rfl)) ?_
 clear hfr hst
 intro a w5 hfr hst
 refine wlv hfr (v_assign rfl) ?_
 clear hfr
 intro a hfr
 refine wl_nil (hK4 _ _ ?_)
 replace hfr : Fr 13 [(4, _)] [] a := hfr.pick [4]
 refine wc_ret ?_
 refine fin_ret hfr Tryd.results41 (resAre_tmp rfl resAre_nil) ?_
 exact ⟨rfl, hst.select [2, 1] (by decide)⟩
end Go.Proofs.YtmmfieceinmloaaDoor
namespace Go.Proofs.YtmmfieceinmloaaDoor
open Go.RowKit Go.PW
set_option linter.unusedVariables false
set_option linter.unusedSimpArgs false
set_option maxRecDepth 4000
/-- dialtone/wish.isKey -/
theorem isKey_ok (s : By) (w0 : World) :
  Ret Tryd.prog 39 #[sv s] w0 fun v w => v = .bool (decide ((s.length : Int) = 32)) ∧ Ext No w0 w := by
 refine ret_of Tryd.func39 rfl Tryd.ntmps39 (Nat.le_of_ble_eq_true rfl) fun a hfr => ?_
 replace hfr : Fr 6 [(0, _)] [] a := hfr
 replace hst : St No w0 [] w0 := St.init w0
 refine wc_seq_region fun K1 hK1 => ?_
 refine wlv hfr (v_assign rfl) ?_
 clear hfr
 intro a hfr
 refine wl_nil (hK1 _ _ ?_)
 refine wc_seq_region fun K2 hK2 => ?_
 refine wlv hfr (v_move rfl) ?_
 clear hfr
 intro a hfr
 refine wlv hfr (v_len_str rfl rfl (Tryd.runUnderlying9 _)) ?_
 clear hfr
 intro a hfr
 refine wlv hfr (v_eq rfl rfl) ?_
 clear hfr
 intro a hfr
 refine wlv hfr (v_assign rfl) ?_
 clear hfr
 intro a hfr
 refine wl_nil (hK2 _ _ ?_)
 refine wc_ret ?_
 refine fin_ret hfr Tryd.results39 (resAre_tmp rfl resAre_nil) ?_
 exact ⟨by rfl, hst.ext⟩
/-- dialtone/wish.isWithin -/
theorem isWithin_ok (n lo hi : Int) (w0 : World) :
  Ret Tryd.prog 53 #[.int .i64 n, .int .i64 lo, .int .i64 hi] w0 fun v w => v = .bool (inB n lo hi) ∧ Ext No w0 w := by
 refine ret_of Tryd.func53 rfl Tryd.ntmps53 (Nat.le_of_ble_eq_true rfl) fun a hfr => ?_
 replace hfr : Fr 15 [(0, _), (1, _), (2, _)] [] a := hfr
 replace hst : St No w0 [] w0 := St.init w0
 refine wc_seq_region fun K1 hK1 => ?_
 refine wlv hfr (v_assign rfl) ?_
 clear hfr
 intro a hfr
 refine wl_nil (hK1 _ _ ?_)
 refine wc_seq_region fun K2 hK2 => ?_
 refine wlv hfr (v_move rfl) ?_
 clear hfr
 intro a hfr
 refine wlv hfr (v_move rfl) ?_
 clear hfr
 intro a hfr
 refine wlv hfr (v_le rfl rfl) ?_
 clear hfr
 intro a hfr
 refine wlv hfr (v_move rfl) ?_
 clear hfr
 intro a hfr
 refine wl_join (N := 15) (df := []) 4 [(14, .bool ((decide (lo ≤ n)) && (decide (n ≤ hi)))), (0, .int .i64 n), (1, .int .i64 lo), (2, .int .i64 hi), (6, .bool false)] ?_ (fun hj => ?_)
 rotate_left
 ·rcases Bool.eq_false_or_eq_true (decide (lo ≤ n)) with hb1 | hb1
  ·rw [hb1] at hfr
   have hb1b := hb1
   try simp only [Bool.not_eq_true', Bool.not_eq_false', decide_eq_true_eq, decide_eq_false_iff_not, Bool.and_eq_true, Bool.or_eq_true, Bool.and_eq_false_iff, Bool.or_eq_false_iff] at hb1
   refine wly hfr (v_move rfl) ?_
   clear hfr
   intro a hfr
   refine wly hfr (v_move rfl) ?_
   clear hfr
   intro a hfr
   refine wly hfr (v_le rfl rfl) ?_
   clear hfr
   intro a hfr
   refine wlv hfr (v_pick_t rfl rfl) ?_
   clear hfr
   intro a hfr
   refine hj _ ?_
   try rw [hb1b]
   exact hfr.pick [14, 0, 1, 2, 6]
  rw [hb1] at hfr
  have hb1b := hb1
  try simp only [Bool.not_eq_true', Bool.not_eq_false', decide_eq_true_eq, decide_eq_false_iff_not, Bool.and_eq_true, Bool.or_eq_true, Bool.and_eq_false_iff, Bool.or_eq_false_iff] at hb1
  refine wln hfr ?_
  clear hfr
  intro a hfr
  refine wln hfr ?_
  clear hfr
  intro a hfr
  refine wln hfr ?_
  clear hfr
  intro a hfr
  refine wlv hfr (v_pick_f rfl rfl) ?_
  clear hfr
  intro a hfr
  refine hj _ ?_
  try rw [hb1b]
  exact hfr.pick [14, 0, 1, 2, 6]
 intro a hfr
 refine wlv hfr (v_assign rfl) ?_
 clear hfr
 intro a hfr
 refine wl_nil (hK2 _ _ ?_)
 refine wc_ret ?_
 refine fin_ret hfr Tryd.results53 (resAre_tmp rfl resAre_nil) ?_
 exact ⟨by rfl, hst.ext⟩
/-- dialtone/wish.isRange -/
theorem isRange_ok (b d : Int) (w0 : World) :
  Ret Tryd.prog 72 #[.agg #[.int .i64 b, .int .i64 d]] w0 fun v w => v = .bool (isRangeB b d) ∧ Ext No w0 w := by
 refine ret_of Tryd.func72 rfl Tryd.ntmps72 (Nat.le_of_ble_eq_true rfl) fun a hfr => ?_
 replace hfr : Fr 18 [(0, _)] [] a := hfr
 replace hst : St No w0 [] w0 := St.init w0
 refine wc_seq_region fun K1 hK1 => ?_
 refine wl_box hfr hst (by decide) rfl (cs := [.int .i64 b, .int .i64 d]) rfl ?_
 clear hfr hst
 intro a w1 hfr hst
 refine wlv hfr (v_assign rfl) ?_
 clear hfr
 intro a hfr
 refine wl_nil (hK1 _ _ ?_)
 refine wc_seq_region fun K2 hK2 => ?_
 refine wlv hfr (v_fieldAddr (v := .pointer (some ⟨w0.heap.size, 0, none⟩)) rfl (by kernel_rfl)) ?_
 clear hfr
 intro a hfr
 refine wlv hfr (v_load_blk1 (hst.get (k := 0) rfl) rfl (Tryd.isAgg3 _) rfl) ?_
 clear hfr
 intro a hfr
 refine wlv hfr (v_le rfl rfl) ?_
 clear hfr
 intro a hfr
 refine wlv hfr (v_move rfl) ?_
 clear hfr
 intro a hfr
 refine wl_join (N := 18) (df := []) 6 [(12, .bool ((decide (0 ≤ b)) && (decide (b < d)))), (0, .agg #[.int .i64 b, .int .i64 d]), (1, .pointer (some ⟨w0.heap.size, 0, none⟩)), (2, .bool false)] ?_ (fun hj => ?_)
 rotate_left
 ·rcases Bool.eq_false_or_eq_true (decide (0 ≤ b)) with hb1 | hb1
  ·rw [hb1] at hfr
   have hb1b := hb1
   try simp only [Bool.not_eq_true', Bool.not_eq_false', decide_eq_true_eq, decide_eq_false_iff_not, Bool.and_eq_true, Bool.or_eq_true, Bool.and_eq_false_iff, Bool.or_eq_false_iff] at hb1
   refine wly hfr (v_fieldAddr (v := .pointer (some ⟨w0.heap.size, 0, none⟩)) rfl (by kernel_rfl)) ?_
   clear hfr
   intro a hfr
   refine wly hfr (v_load_blk1 (hst.get (k := 0) rfl) rfl (Tryd.isAgg3 _) rfl) ?_
   clear hfr
   intro a hfr
   refine wly hfr (v_fieldAddr (v := .pointer (some ⟨w0.heap.size, 1, none⟩)) rfl (by kernel_rfl)) ?_
   clear hfr
   intro a hfr
   refine wly hfr (v_load_blk1 (hst.get (k := 0) rfl) rfl (Tryd.isAgg3 _) rfl) ?_
   clear hfr
   intro a hfr
   refine wly hfr (v_lt rfl rfl) ?_
   clear hfr
   intro a hfr
   refine wlv hfr (v_pick_t rfl rfl) ?_
   clear hfr
   intro a hfr
   refine hj _ ?_
   try rw [hb1b]
   exact hfr.pick [12, 0, 1, 2]
  rw [hb1] at hfr
  have hb1b := hb1
  try simp only [Bool.not_eq_true', Bool.not_eq_false', decide_eq_true_eq, decide_eq_false_iff_not, Bool.and_eq_true, Bool.or_eq_true, Bool.and_eq_false_iff, Bool.or_eq_false_iff] at hb1
  refine wln hfr ?_
  clear hfr
  intro a hfr
  refine wln hfr ?_
  clear hfr
  intro a hfr
  refine wln hfr ?_
  clear hfr
  intro a hfr
  refine wln hfr ?_
  clear hfr
  intro a hfr
  refine wln hfr ?_
  clear hfr
  intro a hfr
  refine wlv hfr (v_pick_f rfl rfl) ?_
  clear hfr
  intro a hfr
  refine hj _ ?_
  try rw [hb1b]
  exact hfr.pick [12, 0, 1, 2]
 intro a hfr
 refine wlv hfr (v_move rfl) ?_
 clear hfr
 intro a hfr
 refine wl_join (N := 18) (df := []) 4 [(17, .bool (((decide (0 ≤ b)) && (decide (b < d))) && (decide (d ≤ 100000000)))), (0, .agg #[.int .i64 b, .int .i64 d]), (1, .pointer (some ⟨w0.heap.size, 0, none⟩)), (2, .bool false)] ?_ (fun hj => ?_)
 rotate_left
 ·rcases Bool.eq_false_or_eq_true ((decide (0 ≤ b)) && (decide (b < d))) with hb2 | hb2
  ·rw [hb2] at hfr
   have hb2b := hb2
   try simp only [Bool.not_eq_true', Bool.not_eq_false', decide_eq_true_eq, decide_eq_false_iff_not, Bool.and_eq_true, Bool.or_eq_true, Bool.and_eq_false_iff, Bool.or_eq_false_iff] at hb2
   refine wly hfr (v_fieldAddr (v := .pointer (some ⟨w0.heap.size, 1, none⟩)) rfl (by kernel_rfl)) ?_
   clear hfr
   intro a hfr
   refine wly hfr (v_load_blk1 (hst.get (k := 0) rfl) rfl (Tryd.isAgg3 _) rfl) ?_
   clear hfr
   intro a hfr
   refine wly hfr (v_le rfl rfl) ?_
   clear hfr
   intro a hfr
   refine wlv hfr (v_pick_t rfl rfl) ?_
   clear hfr
   intro a hfr
   refine hj _ ?_
   try rw [hb2b]
   exact hfr.pick [17, 0, 1, 2]
  rw [hb2] at hfr
  have hb2b := hb2
  try simp only [Bool.not_eq_true', Bool.not_eq_false', decide_eq_true_eq, decide_eq_false_iff_not, Bool.and_eq_true, Bool.or_eq_true, Bool.and_eq_false_iff, Bool.or_eq_false_iff] at hb2
  refine wln hfr ?_
  clear hfr
  intro a hfr
  refine wln hfr ?_
  clear hfr
  intro a hfr
  refine wln hfr ?_
  clear hfr
  intro a hfr
  refine wlv hfr (v_pick_f rfl rfl) ?_
  clear hfr
  intro a hfr
  refine hj _ ?_
  try rw [hb2b]
  exact hfr.pick [17, 0, 1, 2]
 intro a hfr
 refine wlv hfr (v_assign rfl) ?_
 clear hfr
 intro a hfr
 refine wl_nil (hK2 _ _ ?_)
 refine wc_ret ?_
 refine fin_ret hfr Tryd.results72 (resAre_tmp rfl resAre_nil) ?_
 exact ⟨by rfl, hst.ext⟩
/-- dialtone/wish.isSpell -/
theorem isSpell_ok (b d : Int) (w0 : World) :
  Ret Tryd.prog 73 #[.agg #[.int .i64 b, .int .i64 d]] w0 fun v w => v = .bool (isSpellB b d) ∧ Ext No w0 w := by
 refine ret_of Tryd.func73 rfl Tryd.ntmps73 (Nat.le_of_ble_eq_true rfl) fun a hfr => ?_
 replace hfr : Fr 18 [(0, _)] [] a := hfr
 replace hst : St No w0 [] w0 := St.init w0
 refine wc_seq_region fun K1 hK1 => ?_
 refine wl_box hfr hst (by decide) rfl (cs := [.int .i64 b, .int .i64 d]) rfl ?_
 clear hfr hst
 intro a w1 hfr hst
 refine wlv hfr (v_assign rfl) ?_
 clear hfr
 intro a hfr
 refine wl_nil (hK1 _ _ ?_)
 refine wc_seq_region fun K2 hK2 => ?_
 refine wlv hfr (v_fieldAddr (v := .pointer (some ⟨w0.heap.size, 0, none⟩)) rfl (by kernel_rfl)) ?_
 clear hfr
 intro a hfr
 refine wlv hfr (v_load_blk1 (hst.get (k := 0) rfl) rfl (Tryd.isAgg3 _) rfl) ?_
 clear hfr
 intro a hfr
 refine wlv hfr (v_le rfl rfl) ?_
 clear hfr
 intro a hfr
 refine wlv hfr (v_move rfl) ?_
 clear hfr
 intro a hfr
 refine wl_join (N := 18) (df := []) 6 [(12, .bool ((decide (0 ≤ b)) && (decide (b < d)))), (0, .agg #[.int .i64 b, .int .i64 d]), (1, .pointer (some ⟨w0.heap.size, 0, none⟩)), (2, .bool false)] ?_ (fun hj => ?_)
 rotate_left
 ·rcases Bool.eq_false_or_eq_true (decide (0 ≤ b)) with hb1 | hb1
  ·rw [hb1] at hfr
   have hb1b := hb1
   try simp only [Bool.not_eq_true', Bool.not_eq_false', decide_eq_true_eq, decide_eq_false_iff_not, Bool.and_eq_true, Bool.or_eq_true, Bool.and_eq_false_iff, Bool.or_eq_false_iff] at hb1
   refine wly hfr (v_fieldAddr (v := .pointer (some ⟨w0.heap.size, 0, none⟩)) rfl (by kernel_rfl)) ?_
   clear hfr
   intro a hfr
   refine wly hfr (v_load_blk1 (hst.get (k := 0) rfl) rfl (Tryd.isAgg3 _) rfl) ?_
   clear hfr
   intro a hfr
   refine wly hfr (v_fieldAddr (v := .pointer (some ⟨w0.heap.size, 1, none⟩)) rfl (by kernel_rfl)) ?_
   clear hfr
   intro a hfr
   refine wly hfr (v_load_blk1 (hst.get (k := 0) rfl) rfl (Tryd.isAgg3 _) rfl) ?_
   clear hfr
   intro a hfr
   refine wly hfr (v_lt rfl rfl) ?_
   clear hfr
   intro a hfr
   refine wlv hfr (v_pick_t rfl rfl) ?_
   clear hfr
   intro a hfr
   refine hj _ ?_
   try rw [hb1b]
   exact hfr.pick [12, 0, 1, 2]
  rw [hb1] at hfr
  have hb1b := hb1
  try simp only [Bool.not_eq_true', Bool.not_eq_false', decide_eq_true_eq, decide_eq_false_iff_not, Bool.and_eq_true, Bool.or_eq_true, Bool.and_eq_false_iff, Bool.or_eq_false_iff] at hb1
  refine wln hfr ?_
  clear hfr
  intro a hfr
  refine wln hfr ?_
  clear hfr
  intro a hfr
  refine wln hfr ?_
  clear hfr
  intro a hfr
  refine wln hfr ?_
  clear hfr
  intro a hfr
  refine wln hfr ?_
  clear hfr
  intro a hfr
  refine wlv hfr (v_pick_f rfl rfl) ?_
  clear hfr
  intro a hfr
  refine hj _ ?_
  try rw [hb1b]
  exact hfr.pick [12, 0, 1, 2]
 intro a hfr
 refine wlv hfr (v_move rfl) ?_
 clear hfr
 intro a hfr
 refine wl_join (N := 18) (df := []) 4 [(17, .bool (((decide (0 ≤ b)) && (decide (b < d))) && (decide (d ≤ 10000001)))), (0, .agg #[.int .i64 b, .int .i64 d]), (1, .pointer (some ⟨w0.heap.size, 0, none⟩)), (2, .bool false)] ?_ (fun hj => ?_)
 rotate_left
 ·rcases Bool.eq_false_or_eq_true ((decide (0 ≤ b)) && (decide (b < d))) with hb2 | hb2
  ·rw [hb2] at hfr
   have hb2b := hb2
   try simp only [Bool.not_eq_true', Bool.not_eq_false', decide_eq_true_eq, decide_eq_false_iff_not, Bool.and_eq_true, Bool.or_eq_true, Bool.and_eq_false_iff, Bool.or_eq_false_iff] at hb2
   refine wly hfr (v_fieldAddr (v := .pointer (some ⟨w0.heap.size, 1, none⟩)) rfl (by kernel_rfl)) ?_
   clear hfr
   intro a hfr
   refine wly hfr (v_load_blk1 (hst.get (k := 0) rfl) rfl (Tryd.isAgg3 _) rfl) ?_
   clear hfr
   intro a hfr
   refine wly hfr (v_le rfl rfl) ?_
   clear hfr
   intro a hfr
   refine wlv hfr (v_pick_t rfl rfl) ?_
   clear hfr
   intro a hfr
   refine hj _ ?_
   try rw [hb2b]
   exact hfr.pick [17, 0, 1, 2]
  rw [hb2] at hfr
  have hb2b := hb2
  try simp only [Bool.not_eq_true', Bool.not_eq_false', decide_eq_true_eq, decide_eq_false_iff_not, Bool.and_eq_true, Bool.or_eq_true, Bool.and_eq_false_iff, Bool.or_eq_false_iff] at hb2
  refine wln hfr ?_
  clear hfr
  intro a hfr
  refine wln hfr ?_
  clear hfr
  intro a hfr
  refine wln hfr ?_
  clear hfr
  intro a hfr
  refine wlv hfr (v_pick_f rfl rfl) ?_
  clear hfr
  intro a hfr
  refine hj _ ?_
  try rw [hb2b]
  exact hfr.pick [17, 0, 1, 2]
 intro a hfr
 refine wlv hfr (v_assign rfl) ?_
 clear hfr
 intro a hfr
 refine wl_nil (hK2 _ _ ?_)
 refine wc_ret ?_
 refine fin_ret hfr Tryd.results73 (resAre_tmp rfl resAre_nil) ?_
 exact ⟨by rfl, hst.ext⟩
set_option maxHeartbeats 4000000 in
/-- dialtone/wish.isWish -/
theorem isWish_ok (x : Wsh) (w0 : World) :
  Ret Tryd.prog 40 #[.agg #[.int .i64 x.signer, .int .i64 x.holder, .int .i64 x.rf, .int .i64 x.rt, .int .i64 x.carrier, .int .i64 x.serial, .int .i64 x.sf, .int .i64 x.st, sv x.sig]] w0 fun v w => v = .bool x.ok ∧ Ext No w0 w := by
 refine ret_of Tryd.func40 rfl Tryd.ntmps40 (Nat.le_of_ble_eq_true rfl) fun a hfr => ?_
 replace hfr : Fr 33 [(0, _)] [] a := hfr
 replace hst : St No w0 [] w0 := St.init w0
 refine wc_seq_region fun K1 hK1 => ?_
 refine wl_box hfr hst (by decide) rfl (cs := [.int .i64 x.signer, .int .i64 x.holder, .int .i64 x.rf, .int .i64 x.rt, .int .i64 x.carrier, .int .i64 x.serial, .int .i64 x.sf, .int .i64 x.st, sv x.sig]) rfl ?_
 clear hfr hst
 intro a w1 hfr hst
 refine wlv hfr (v_assign rfl) ?_
 clear hfr
 intro a hfr
 refine wl_nil (hK1 _ _ ?_)
 refine wc_seq_region fun K2 hK2 => ?_
 refine wlv hfr (v_fieldAddr (v := .pointer (some ⟨w0.heap.size, 0, none⟩)) rfl (by kernel_rfl)) ?_
 clear hfr
 intro a hfr
 refine wlv hfr (v_load_blk1 (hst.get (k := 0) rfl) rfl (Tryd.isAgg3 _) rfl) ?_
 clear hfr
 intro a hfr
 refine wl_callp hfr hst (by decide) Tryd.call53 rfl (isWithin_ok x.signer 0 63 _) ?_
 clear hfr hst
 intro a w2 hfr hst
 refine wlv hfr (v_move rfl) ?_
 clear hfr
 intro a hfr
 rcases Bool.eq_false_or_eq_true (inB x.signer 0 63) with hb1 | hb1
 ·rw [hb1] at hfr
  try simp only [Bool.not_eq_true', Bool.not_eq_false', decide_eq_true_eq, decide_eq_false_iff_not] at hb1
  refine wly hfr (v_fieldAddr (v := .pointer (some ⟨w0.heap.size, 1, none⟩)) rfl (by kernel_rfl)) ?_
  clear hfr
  intro a hfr
  refine wly hfr (v_load_blk1 (hst.get (k := 0) rfl) rfl (Tryd.isAgg3 _) rfl) ?_
  clear hfr
  intro a hfr
  refine wl_callpy hfr hst (by decide) rfl (by decide) rfl Tryd.call53 rfl (isWithin_ok x.holder 0 63 _) ?_
  clear hfr hst
  intro a w3 hfr hst
  refine wlv hfr (v_pick_t rfl rfl) ?_
  clear hfr
  intro a hfr
  refine wlv hfr (v_assign rfl) ?_
  clear hfr
  intro a hfr
  refine wl_nil (hK2 _ _ ?_)
  replace hfr : Fr 33 [(1, _), (2, _), (3, _)] [] a := hfr.pick [1, 2, 3]
  refine wc_seq_region fun K3 hK3 => ?_
  refine wlv hfr (v_move rfl) ?_
  clear hfr
  intro a hfr
  refine wlv hfr (v_move rfl) ?_
  clear hfr
  intro a hfr
  rcases Bool.eq_false_or_eq_true (inB x.holder 0 63) with hb2 | hb2
  ·rw [hb2] at hfr
   try simp only [Bool.not_eq_true', Bool.not_eq_false', decide_eq_true_eq, decide_eq_false_iff_not] at hb2
   refine wly hfr (v_fieldAddr (v := .pointer (some ⟨w0.heap.size, 2, none⟩)) rfl (by kernel_rfl)) ?_
   clear hfr
   intro a hfr
   refine wly hfr (v_load_blk (ds := [.int .i64 x.rf, .int .i64 x.rt]) (hst.get (k := 0) rfl) rfl (Tryd.isAgg28 _) (Tryd.sizeOf28 _) rfl) ?_
   clear hfr
   intro a hfr
   refine wl_callpy hfr hst (by decide) rfl (by decide) rfl Tryd.call72 rfl (isRange_ok x.rf x.rt _) ?_
   clear hfr hst
   intro a w4 hfr hst
   refine wlv hfr (v_pick_t rfl rfl) ?_
   clear hfr
   intro a hfr
   refine wlv hfr (v_move rfl) ?_
   clear hfr
   intro a hfr
   rcases Bool.eq_false_or_eq_true (isRangeB x.rf x.rt) with hb3 | hb3
   ·rw [hb3] at hfr
    try simp only [Bool.not_eq_true', Bool.not_eq_false', decide_eq_true_eq, decide_eq_false_iff_not] at hb3
    refine wly hfr (v_fieldAddr (v := .pointer (some ⟨w0.heap.size, 4, none⟩)) rfl (by kernel_rfl)) ?_
    clear hfr
    intro a hfr
    refine wly hfr (v_load_blk1 (hst.get (k := 0) rfl) rfl (Tryd.isAgg3 _) rfl) ?_
    clear hfr
    intro a hfr
    refine wl_callpy hfr hst (by decide) rfl (by decide) rfl Tryd.call53 rfl (isWithin_ok x.carrier 0 7 _) ?_
    clear hfr hst
    intro a w5 hfr hst
    refine wlv hfr (v_pick_t rfl rfl) ?_
    clear hfr
    intro a hfr
    refine wlv hfr (v_move rfl) ?_
    clear hfr
    intro a hfr
    rcases Bool.eq_false_or_eq_true (inB x.carrier 0 7) with hb4 | hb4
    ·rw [hb4] at hfr
     try simp only [Bool.not_eq_true', Bool.not_eq_false', decide_eq_true_eq, decide_eq_false_iff_not] at hb4
     refine wly hfr (v_fieldAddr (v := .pointer (some ⟨w0.heap.size, 5, none⟩)) rfl (by kernel_rfl)) ?_
     clear hfr
     intro a hfr
     refine wly hfr (v_load_blk1 (hst.get (k := 0) rfl) rfl (Tryd.isAgg3 _) rfl) ?_
     clear hfr
     intro a hfr
     refine wl_callpy hfr hst (by decide) rfl (by decide) rfl Tryd.call53 rfl (isWithin_ok x.serial 0 1000000 _) ?_
     clear hfr hst
     intro a w6 hfr hst
     refine wlv hfr (v_pick_t rfl rfl) ?_
     clear hfr
     intro a hfr
     refine wlv hfr (v_move rfl) ?_
     clear hfr
     intro a hfr
     rcases Bool.eq_false_or_eq_true (inB x.serial 0 1000000) with hb5 | hb5
     ·rw [hb5] at hfr
      try simp only [Bool.not_eq_true', Bool.not_eq_false', decide_eq_true_eq, decide_eq_false_iff_not] at hb5
      refine wly hfr (v_fieldAddr (v := .pointer (some ⟨w0.heap.size, 6, none⟩)) rfl (by kernel_rfl)) ?_
      clear hfr
      intro a hfr
      refine wly hfr (v_load_blk (ds := [.int .i64 x.sf, .int .i64 x.st]) (hst.get (k := 0) rfl) rfl (Tryd.isAgg29 _) (Tryd.sizeOf29 _) rfl) ?_
      clear hfr
      intro a hfr
      refine wl_callpy hfr hst (by decide) rfl (by decide) rfl Tryd.call73 rfl (isSpell_ok x.sf x.st _) ?_
      clear hfr hst
      intro a w7 hfr hst
      refine wlv hfr (v_pick_t rfl rfl) ?_
      clear hfr
      intro a hfr
      refine wlv hfr (v_assign rfl) ?_
      clear hfr
      intro a hfr
      refine wl_nil (hK3 _ _ ?_)
      replace hfr : Fr 33 [(2, _)] [] a := hfr.pick [2]
      replace hst : St No w0 [] w7 := hst.mask [false]
      refine wc_ret ?_
      refine fin_ret hfr Tryd.results40 (resAre_tmp rfl resAre_nil) ?_
      exact ⟨by simp only [retv]; unfold Wsh.ok; simp [hb1, hb2, hb3, hb4, hb5], hst.ext⟩
     rw [hb5] at hfr
     try simp only [Bool.not_eq_true', Bool.not_eq_false', decide_eq_true_eq, decide_eq_false_iff_not] at hb5
     refine wln hfr ?_
     clear hfr
     intro a hfr
     refine wln hfr ?_
     clear hfr
     intro a hfr
     refine wln hfr ?_
     clear hfr
     intro a hfr
     refine wlv hfr (v_pick_f rfl rfl) ?_
     clear hfr
     intro a hfr
     refine wlv hfr (v_assign rfl) ?_
     clear hfr
     intro a hfr
     refine wl_nil (hK3 _ _ ?_)
     replace hfr : Fr 33 [(2, _)] [] a := hfr.pick [2]
     replace hst : St No w0 [] w6 := hst.mask [false]
     refine wc_ret ?_
     refine fin_ret hfr Tryd.results40 (resAre_tmp rfl resAre_nil) ?_
     exact ⟨by simp only [retv]; unfold Wsh.ok; simp [hb1, hb2, hb3, hb4, hb5], hst.ext⟩
    rw [hb4] at hfr
    try simp only [Bool.not_eq_true', Bool.not_eq_false', decide_eq_true_eq, decide_eq_false_iff_not] at hb4
    refine wln hfr ?_
    clear hfr
    intro a hfr
    refine wln hfr ?_
    clear hfr
    intro a hfr
    refine wln hfr ?_
    clear hfr
    intro a hfr
    refine wlv hfr (v_pick_f rfl rfl) ?_
    clear hfr
    intro a hfr
    refine wlv hfr (v_move rfl) ?_
    clear hfr
    intro a hfr
    refine wln hfr ?_
    clear hfr
    intro a hfr
    refine wln hfr ?_
    clear hfr
    intro a hfr
    refine wln hfr ?_
    clear hfr
    intro a hfr
    refine wlv hfr (v_pick_f rfl rfl) ?_
    clear hfr
    intro a hfr
    refine wlv hfr (v_assign rfl) ?_
    clear hfr
    intro a hfr
    refine wl_nil (hK3 _ _ ?_)
    replace hfr : Fr 33 [(2, _)] [] a := hfr.pick [2]
    replace hst : St No w0 [] w5 := hst.mask [false]
    refine wc_ret ?_
    refine fin_ret hfr Tryd.results40 (resAre_tmp rfl resAre_nil) ?_
    exact ⟨by simp only [retv]; unfold Wsh.ok; simp [hb1, hb2, hb3, hb4], hst.ext⟩
   rw [hb3] at hfr
   try simp only [Bool.not_eq_true', Bool.not_eq_false', decide_eq_true_eq, decide_eq_false_iff_not] at hb3
   refine wln hfr ?_
   clear hfr
   intro a hfr
   refine wln hfr ?_
   clear hfr
   intro a hfr
   refine wln hfr ?_
   clear hfr
   intro a hfr
   refine wlv hfr (v_pick_f rfl rfl) ?_
   clear hfr
   intro a hfr
   refine wlv hfr (v_move rfl) ?_
   clear hfr
   intro a hfr
   refine wln hfr ?_
   clear hfr
   intro a hfr
   refine wln hfr ?_
   clear hfr
   intro a hfr
   refine wln hfr ?_
   clear hfr
   intro a hfr
   refine wlv hfr (v_pick_f rfl rfl) ?_
   clear hfr
   intro a hfr
   refine wlv hfr (v_move rfl) ?_
   clear hfr
   intro a hfr
   refine wln hfr ?_
   clear hfr
   intro a hfr
   refine wln hfr ?_
   clear hfr
   intro a hfr
   refine wln hfr ?_
   clear hfr
   intro a hfr
   refine wlv hfr (v_pick_f rfl rfl) ?_
   clear hfr
   intro a hfr
   refine wlv hfr (v_assign rfl) ?_
   clear hfr
   intro a hfr
   refine wl_nil (hK3 _ _ ?_)
   replace hfr : Fr 33 [(2, _)] [] a := hfr.pick [2]
   replace hst : St No w0 [] w4 := hst.mask [false]
   refine wc_ret ?_
   refine fin_ret hfr Tryd.results40 (resAre_tmp rfl resAre_nil) ?_
   exact ⟨by simp only [retv]; unfold Wsh.ok; simp [hb1, hb2, hb3], hst.ext⟩
  rw [hb2] at hfr
  try simp only [Bool.not_eq_true', Bool.not_eq_false', decide_eq_true_eq, decide_eq_false_iff_not] at hb2
  refine wln hfr ?_
  clear hfr
  intro a hfr
  refine wln hfr ?_
  clear hfr
  intro a hfr
  refine wln hfr ?_
  clear hfr
  intro a hfr
  refine wlv hfr (v_pick_f rfl rfl) ?_
  clear hfr
  intro a hfr
  refine wlv hfr (v_move rfl) ?_
  clear hfr
  intro a hfr
  refine wln hfr ?_
  clear hfr
  intro a hfr
  refine wln hfr ?_
  clear hfr
  intro a hfr
  refine wln hfr ?_
  clear hfr
  intro a hfr
  refine wlv hfr (v_pick_f rfl rfl) ?_
  clear hfr
  intro a hfr
  refine wlv hfr (v_move rfl) ?_
  clear hfr
  intro a hfr
  refine wln hfr ?_
  clear hfr
  intro a hfr
  refine wln hfr ?_
  clear hfr
  intro a hfr
  refine wln hfr ?_
  clear hfr
  intro a hfr
  refine wlv hfr (v_pick_f rfl rfl) ?_
  clear hfr
  intro a hfr
  refine wlv hfr (v_move rfl) ?_
  clear hfr
  intro a hfr
  refine wln hfr ?_
  clear hfr
  intro a hfr
  refine wln hfr ?_
  clear hfr
  intro a hfr
  refine wln hfr ?_
  clear hfr
  intro a hfr
  refine wlv hfr (v_pick_f rfl rfl) ?_
  clear hfr
  intro a hfr
  refine wlv hfr (v_assign rfl) ?_
  clear hfr
  intro a hfr
  refine wl_nil (hK3 _ _ ?_)
  replace hfr : Fr 33 [(2, _)] [] a := hfr.pick [2]
  replace hst : St No w0 [] w3 := hst.mask [false]
  refine wc_ret ?_
  refine fin_ret hfr Tryd.results40 (resAre_tmp rfl resAre_nil) ?_
  exact ⟨by simp only [retv]; unfold Wsh.ok; simp [hb1, hb2], hst.ext⟩
 rw [hb1] at hfr
 try simp only [Bool.not_eq_true', Bool.not_eq_false', decide_eq_true_eq, decide_eq_false_iff_not] at hb1
 refine wln hfr ?_
 clear hfr
 intro a hfr
 refine wln hfr ?_
 clear hfr
 intro a hfr
 refine wln hfr ?_
 clear hfr
 intro a hfr
 refine wlv hfr (v_pick_f rfl rfl) ?_
 clear hfr
 intro a hfr
 refine wlv hfr (v_assign rfl) ?_
 clear hfr
 intro a hfr
 refine wl_nil (hK2 _ _ ?_)
 replace hfr : Fr 33 [(1, _), (2, _), (3, _)] [] a := hfr.pick [1, 2, 3]
 refine wc_seq_region fun K4 hK4 => ?_
 refine wlv hfr (v_move rfl) ?_
 clear hfr
 intro a hfr
 refine wlv hfr (v_move rfl) ?_
 clear hfr
 intro a hfr
 refine wln hfr ?_
 clear hfr
 intro a hfr
 refine wln hfr ?_
 clear hfr
 intro a hfr
 refine wln hfr ?_
 clear hfr
 intro a hfr
 refine wlv hfr (v_pick_f rfl rfl) ?_
 clear hfr
 intro a hfr
 refine wlv hfr (v_move rfl) ?_
 clear hfr
 intro a hfr
 refine wln hfr ?_
 clear hfr
 intro a hfr
 refine wln hfr ?_
 clear hfr
 intro a hfr
 refine wln hfr ?_
 clear hfr
 intro a hfr
 refine wlv hfr (v_pick_f rfl rfl) ?_
 clear hfr
 intro a hfr
 refine wlv hfr (v_move rfl) ?_
 clear hfr
 intro a hfr
 refine wln hfr ?_
 clear hfr
 intro a hfr
 refine wln hfr ?_
 clear hfr
 intro a hfr
 refine wln hfr ?_
 clear hfr
 intro a hfr
 refine wlv hfr (v_pick_f rfl rfl) ?_
 clear hfr
 intro a hfr
 refine wlv hfr (v_move rfl) ?_
 clear hfr
 intro a hfr
 refine wln hfr ?_
 clear hfr
 intro a hfr
 refine wln hfr ?_
 clear hfr
 intro a hfr
 refine wln hfr ?_
 clear hfr
 intro a hfr
 refine wlv hfr (v_pick_f rfl rfl) ?_
 clear hfr
 intro a hfr
 refine wlv hfr (v_assign rfl) ?_
 clear hfr
 intro a hfr
 refine wl_nil (hK4 _ _ ?_)
 replace hfr : Fr 33 [(2, _)] [] a := hfr.pick [2]
 replace hst : St No w0 [] w2 := hst.mask [false]
 refine wc_ret ?_
 refine fin_ret hfr Tryd.results40 (resAre_tmp rfl resAre_nil) ?_
 exact ⟨by simp only [retv]; unfold Wsh.ok; simp [hb1], hst.ext⟩
set_option maxHeartbeats 4000000 in
/-- dialtone/wish.isProxy -/
theorem isProxy_ok (x : Pxy) (w0 : World) :
  Ret Tryd.prog 45 #[.agg #[.int .i64 x.frm, .int .i64 x.to, .int .i64 x.rf, .int .i64 x.rt, .int .i64 x.sf, .int .i64 x.st, sv x.sig]] w0 fun v w => v = .bool x.ok ∧ Ext No w0 w := by
 refine ret_of Tryd.func45 rfl Tryd.ntmps45 (Nat.le_of_ble_eq_true rfl) fun a hfr => ?_
 replace hfr : Fr 30 [(0, _)] [] a := hfr
 replace hst : St No w0 [] w0 := St.init w0
 refine wc_seq_region fun K1 hK1 => ?_
 refine wl_box hfr hst (by decide) rfl (cs := [.int .i64 x.frm, .int .i64 x.to, .int .i64 x.rf, .int .i64 x.rt, .int .i64 x.sf, .int .i64 x.st, sv x.sig]) rfl ?_
 clear hfr hst
 intro a w1 hfr hst
 refine wlv hfr (v_assign rfl) ?_
 clear hfr
 intro a hfr
 refine wl_nil (hK1 _ _ ?_)
 refine wc_seq_region fun K2 hK2 => ?_
 refine wlv hfr (v_fieldAddr (v := .pointer (some ⟨w0.heap.size, 0, none⟩)) rfl (by kernel_rfl)) ?_
 clear hfr
 intro a hfr
 refine wlv hfr (v_load_blk1 (hst.get (k := 0) rfl) rfl (Tryd.isAgg3 _) rfl) ?_
 clear hfr
 intro a hfr
 refine wl_callp hfr hst (by decide) Tryd.call53 rfl (isWithin_ok x.frm 0 63 _) ?_
 clear hfr hst
 intro a w2 hfr hst
 refine wlv hfr (v_move rfl) ?_
 clear hfr
 intro a hfr
 rcases Bool.eq_false_or_eq_true (inB x.frm 0 63) with hb1 | hb1
 ·rw [hb1] at hfr
  try simp only [Bool.not_eq_true', Bool.not_eq_false', decide_eq_true_eq, decide_eq_false_iff_not] at hb1
  refine wly hfr (v_fieldAddr (v := .pointer (some ⟨w0.heap.size, 1, none⟩)) rfl (by kernel_rfl)) ?_
  clear hfr
  intro a hfr
  refine wly hfr (v_load_blk1 (hst.get (k := 0) rfl) rfl (Tryd.isAgg3 _) rfl) ?_
  clear hfr
  intro a hfr
  refine wl_callpy hfr hst (by decide) rfl (by decide) rfl Tryd.call53 rfl (isWithin_ok x.to 0 63 _) ?_
  clear hfr hst
  intro a w3 hfr hst
  refine wlv hfr (v_pick_t rfl rfl) ?_
  clear hfr
  intro a hfr
  refine wlv hfr (v_move rfl) ?_
  clear hfr
  intro a hfr
  rcases Bool.eq_false_or_eq_true (inB x.to 0 63) with hb2 | hb2
  ·rw [hb2] at hfr
   try simp only [Bool.not_eq_true', Bool.not_eq_false', decide_eq_true_eq, decide_eq_false_iff_not] at hb2
   refine wly hfr (v_fieldAddr (v := .pointer (some ⟨w0.heap.size, 0, none⟩)) rfl (by kernel_rfl)) ?_
   clear hfr
   intro a hfr
   refine wly hfr (v_load_blk1 (hst.get (k := 0) rfl) rfl (Tryd.isAgg3 _) rfl) ?_
   clear hfr
   intro a hfr
   refine wly hfr (v_fieldAddr (v := .pointer (some ⟨w0.heap.size, 1, none⟩)) rfl (by kernel_rfl)) ?_
   clear hfr
   intro a hfr
   refine wly hfr (v_load_blk1 (hst.get (k := 0) rfl) rfl (Tryd.isAgg3 _) rfl) ?_
   clear hfr
   intro a hfr
   refine wly hfr (v_ne rfl rfl) ?_
   clear hfr
   intro a hfr
   refine wlv hfr (v_pick_t rfl rfl) ?_
   clear hfr
   intro a hfr
   refine wlv hfr (v_assign rfl) ?_
   clear hfr
   intro a hfr
   refine wl_nil (hK2 _ _ ?_)
   replace hfr : Fr 30 [(1, _), (2, _), (3, _)] [] a := hfr.pick [1, 2, 3]
   refine wc_seq_region fun K3 hK3 => ?_
   refine wlv hfr (v_move rfl) ?_
   clear hfr
   intro a hfr
   refine wlv hfr (v_move rfl) ?_
   clear hfr
   intro a hfr
   rcases Bool.eq_false_or_eq_true (!decide (x.frm = x.to)) with hb3 | hb3
   ·rw [hb3] at hfr
    try simp only [Bool.not_eq_true', Bool.not_eq_false', decide_eq_true_eq, decide_eq_false_iff_not] at hb3
    refine wly hfr (v_fieldAddr (v := .pointer (some ⟨w0.heap.size, 2, none⟩)) rfl (by kernel_rfl)) ?_
    clear hfr
    intro a hfr
    refine wly hfr (v_load_blk (ds := [.int .i64 x.rf, .int .i64 x.rt]) (hst.get (k := 0) rfl) rfl (Tryd.isAgg28 _) (Tryd.sizeOf28 _) rfl) ?_
    clear hfr
    intro a hfr
    refine wl_callpy hfr hst (by decide) rfl (by decide) rfl Tryd.call72 rfl (isRange_ok x.rf x.rt _) ?_
    clear hfr hst
    intro a w4 hfr hst
    refine wlv hfr (v_pick_t rfl rfl) ?_
    clear hfr
    intro a hfr
    refine wlv hfr (v_move rfl) ?_
    clear hfr
    intro a hfr
    rcases Bool.eq_false_or_eq_true (isRangeB x.rf x.rt) with hb4 | hb4
    ·rw [hb4] at hfr
     try simp only [Bool.not_eq_true', Bool.not_eq_false', decide_eq_true_eq, decide_eq_false_iff_not] at hb4
     refine wly hfr (v_fieldAddr (v := .pointer (some ⟨w0.heap.size, 4, none⟩)) rfl (by kernel_rfl)) ?_
     clear hfr
     intro a hfr
     refine wly hfr (v_load_blk (ds := [.int .i64 x.sf, .int .i64 x.st]) (hst.get (k := 0) rfl) rfl (Tryd.isAgg29 _) (Tryd.sizeOf29 _) rfl) ?_
     clear hfr
     intro a hfr
     refine wl_callpy hfr hst (by decide) rfl (by decide) rfl Tryd.call73 rfl (isSpell_ok x.sf x.st _) ?_
     clear hfr hst
     intro a w5 hfr hst
     refine wlv hfr (v_pick_t rfl rfl) ?_
     clear hfr
     intro a hfr
     refine wlv hfr (v_assign rfl) ?_
     clear hfr
     intro a hfr
     refine wl_nil (hK3 _ _ ?_)
     replace hfr : Fr 30 [(2, _)] [] a := hfr.pick [2]
     replace hst : St No w0 [] w5 := hst.mask [false]
     refine wc_ret ?_
     refine fin_ret hfr Tryd.results45 (resAre_tmp rfl resAre_nil) ?_
     exact ⟨by simp only [retv]; unfold Pxy.ok; simp [hb1, hb2, hb3, hb4], hst.ext⟩
    rw [hb4] at hfr
    try simp only [Bool.not_eq_true', Bool.not_eq_false', decide_eq_true_eq, decide_eq_false_iff_not] at hb4
    refine wln hfr ?_
    clear hfr
    intro a hfr
    refine wln hfr ?_
    clear hfr
    intro a hfr
    refine wln hfr ?_
    clear hfr
    intro a hfr
    refine wlv hfr (v_pick_f rfl rfl) ?_
    clear hfr
    intro a hfr
    refine wlv hfr (v_assign rfl) ?_
    clear hfr
    intro a hfr
    refine wl_nil (hK3 _ _ ?_)
    replace hfr : Fr 30 [(2, _)] [] a := hfr.pick [2]
    replace hst : St No w0 [] w4 := hst.mask [false]
    refine wc_ret ?_
    refine fin_ret hfr Tryd.results45 (resAre_tmp rfl resAre_nil) ?_
    exact ⟨by simp only [retv]; unfold Pxy.ok; simp [hb1, hb2, hb3, hb4], hst.ext⟩
   rw [hb3] at hfr
   try simp only [Bool.not_eq_true', Bool.not_eq_false', decide_eq_true_eq, decide_eq_false_iff_not] at hb3
   refine wln hfr ?_
   clear hfr
   intro a hfr
   refine wln hfr ?_
   clear hfr
   intro a hfr
   refine wln hfr ?_
   clear hfr
   intro a hfr
   refine wlv hfr (v_pick_f rfl rfl) ?_
   clear hfr
   intro a hfr
   refine wlv hfr (v_move rfl) ?_
   clear hfr
   intro a hfr
   refine wln hfr ?_
   clear hfr
   intro a hfr
   refine wln hfr ?_
   clear hfr
   intro a hfr
   refine wln hfr ?_
   clear hfr
   intro a hfr
   refine wlv hfr (v_pick_f rfl rfl) ?_
   clear hfr
   intro a hfr
   refine wlv hfr (v_assign rfl) ?_
   clear hfr
   intro a hfr
   refine wl_nil (hK3 _ _ ?_)
   replace hfr : Fr 30 [(2, _)] [] a := hfr.pick [2]
   replace hst : St No w0 [] w3 := hst.mask [false]
   refine wc_ret ?_
   refine fin_ret hfr Tryd.results45 (resAre_tmp rfl resAre_nil) ?_
   exact ⟨by simp only [retv]; unfold Pxy.ok; simp [hb1, hb2, hb3], hst.ext⟩
  rw [hb2] at hfr
  try simp only [Bool.not_eq_true', Bool.not_eq_false', decide_eq_true_eq, decide_eq_false_iff_not] at hb2
  refine wln hfr ?_
  clear hfr
  intro a hfr
  refine wln hfr ?_
  clear hfr
  intro a hfr
  refine wln hfr ?_
  clear hfr
  intro a hfr
  refine wln hfr ?_
  clear hfr
  intro a hfr
  refine wln hfr ?_
  clear hfr
  intro a hfr
  refine wlv hfr (v_pick_f rfl rfl) ?_
  clear hfr
  intro a hfr
  refine wlv hfr (v_assign rfl) ?_
  clear hfr
  intro a hfr
  refine wl_nil (hK2 _ _ ?_)
  replace hfr : Fr 30 [(1, _), (2, _), (3, _)] [] a := hfr.pick [1, 2, 3]
  refine wc_seq_region fun K4 hK4 => ?_
  refine wlv hfr (v_move rfl) ?_
  clear hfr
  intro a hfr
  refine wlv hfr (v_move rfl) ?_
  clear hfr
  intro a hfr
  refine wln hfr ?_
  clear hfr
  intro a hfr
  refine wln hfr ?_
  clear hfr
  intro a hfr
  refine wln hfr ?_
  clear hfr
  intro a hfr
  refine wlv hfr (v_pick_f rfl rfl) ?_
  clear hfr
  intro a hfr
  refine wlv hfr (v_move rfl) ?_
  clear hfr
  intro a hfr
  refine wln hfr ?_
  clear hfr
  intro a hfr
  refine wln hfr ?_
  clear hfr
  intro a hfr
  refine wln hfr ?_
  clear hfr
  intro a hfr
  refine wlv hfr (v_pick_f rfl rfl) ?_
  clear hfr
  intro a hfr
  refine wlv hfr (v_assign rfl) ?_
  clear hfr
  intro a hfr
  refine wl_nil (hK4 _ _ ?_)
  replace hfr : Fr 30 [(2, _)] [] a := hfr.pick [2]
  replace hst : St No w0 [] w3 := hst.mask [false]
  refine wc_ret ?_
  refine fin_ret hfr Tryd.results45 (resAre_tmp rfl resAre_nil) ?_
  exact ⟨by simp only [retv]; unfold Pxy.ok; simp [hb1, hb2], hst.ext⟩
 rw [hb1] at hfr
 try simp only [Bool.not_eq_true', Bool.not_eq_false', decide_eq_true_eq, decide_eq_false_iff_not] at hb1
 refine wln hfr ?_
 clear hfr
 intro a hfr
 refine wln hfr ?_
 clear hfr
 intro a hfr
 refine wln hfr ?_
 clear hfr
 intro a hfr
 refine wlv hfr (v_pick_f rfl rfl) ?_
 clear hfr
 intro a hfr
 refine wlv hfr (v_move rfl) ?_
 clear hfr
 intro a hfr
 refine wln hfr ?_
 clear hfr
 intro a hfr
 refine wln hfr ?_
 clear hfr
 intro a hfr
 refine wln hfr ?_
 clear hfr
 intro a hfr
 refine wln hfr ?_
 clear hfr
 intro a hfr
 refine wln hfr ?_
 clear hfr
 intro a hfr
 refine wlv hfr (v_pick_f rfl rfl) ?_
 clear hfr
 intro a hfr
 refine wlv hfr (v_assign rfl) ?_
 clear hfr
 intro a hfr
 refine wl_nil (hK2 _ _ ?_)
 replace hfr : Fr 30 [(1, _), (2, _), (3, _)] [] a := hfr.pick [1, 2, 3]
 refine wc_seq_region fun K5 hK5 => ?_
 refine wlv hfr (v_move rfl) ?_
 clear hfr
 intro a hfr
 refine wlv hfr (v_move rfl) ?_
 clear hfr
 intro a hfr
 refine wln hfr ?_
 clear hfr
 intro a hfr
 refine wln hfr ?_
 clear hfr
 intro a hfr
 refine wln hfr ?_
 clear hfr
 intro a hfr
 refine wlv hfr (v_pick_f rfl rfl) ?_
 clear hfr
 intro a hfr
 refine wlv hfr (v_move rfl) ?_
 clear hfr
 intro a hfr
 refine wln hfr ?_
 clear hfr
 intro a hfr
 refine wln hfr ?_
 clear hfr
 intro a hfr
 refine wln hfr ?_
 clear hfr
 intro a hfr
 refine wlv hfr (v_pick_f rfl rfl) ?_
 clear hfr
 intro a hfr
 refine wlv hfr (v_assign rfl) ?_
 clear hfr
 intro a hfr
 refine wl_nil (hK5 _ _ ?_)
 replace hfr : Fr 30 [(2, _)] [] a := hfr.pick [2]
 replace hst : St No w0 [] w2 := hst.mask [false]
 refine wc_ret ?_
 refine fin_ret hfr Tryd.results45 (resAre_tmp rfl resAre_nil) ?_
 exact ⟨by simp only [retv]; unfold Pxy.ok; simp [hb1], hst.ext⟩
/-- dialtone/wish.SignWish$1 -/
theorem sw1_run {M : Nat → Prop} {w0 : World} (b bx : Nat) (v : Value) (x : Wsh) (ws : World) (hx : smalls x.nums) (hst : St M w0 [bld 108 b (.pointer none) v ([] : By), blk bx [.int .i64 x.signer, .int .i64 x.holder, .int .i64 x.rf, .int .i64 x.rt, .int .i64 x.carrier, .int .i64 x.serial, .int .i64 x.sf, .int .i64 x.st, sv x.sig] 31] ws) :
  Ret Tryd.prog 42 #[.pointer (some ⟨b, 0, none⟩), .pointer (some ⟨bx, 0, none⟩)] ws fun u w => u = .tuple #[] ∧ ∃ v2, St M w0 [bld 108 b (.pointer (some ⟨b, 0, none⟩)) v2 x.content, blk bx [.int .i64 x.signer, .int .i64 x.holder, .int .i64 x.rf, .int .i64 x.rt, .int .i64 x.carrier, .int .i64 x.serial, .int .i64 x.sf, .int .i64 x.st, sv x.sig] 31] w := by
 refine ret_of Tryd.func42 rfl Tryd.ntmps42 (Nat.le_of_ble_eq_true rfl) fun a hfr => ?_
 replace hfr : Fr 6 [(0, _), (1, _)] [] a := hfr
 skip
 refine wc_region ?_
 refine wlv hfr (v_move rfl) ?_
 clear hfr
 intro a hfr
 refine wlv hfr (v_load_all (hst.get (k := 1) rfl) rfl (Tryd.isAgg31 _) (Tryd.sizeOf31 _)) ?_
 clear hfr
 intro a hfr
 refine wl_callE (R := fun u e' => u = .tuple #[] ∧ ∃ v2, e' = bld 108 b (.pointer (some ⟨b, 0, none⟩)) v2 (([] : By) ++ x.content)) 0 hfr hst rfl (by decide) Tryd.call43 rfl (fun h => (wwish_ok 108 b _ _ _ x _ (by kernel_rfl) (.inl rfl) hx (by simp) h).mono fun u w ⟨h1, v2, h2⟩ => ⟨_, ⟨h1, v2, rfl⟩, h2⟩) ?_
 clear hfr hst
 rintro a w1 _ _ ⟨rfl, v1, rfl⟩ hfr hst
 replace hst : St M w0 [bld 108 b (.pointer (some ⟨b, 0, none⟩)) v1 (([] : By) ++ x.content), blk bx [.int .i64 x.signer, .int .i64 x.holder, .int .i64 x.rf, .int .i64 x.rt, .int .i64 x.carrier, .int .i64 x.serial, .int .i64 x.sf, .int .i64 x.st, sv x.sig] 31] w1 := hst
 refine wl_nil ?_
 refine fin_end hfr Tryd.results42 resAre_nil ?_
 exact ⟨rfl, _, hst.select [0, 1] (by decide)⟩
/-- dialtone/wish.SignProxy$1 -/
theorem sp1_run {M : Nat → Prop} {w0 : World} (b bx : Nat) (v : Value) (x : Pxy) (ws : World) (hx : smalls x.nums) (hst : St M w0 [bld 108 b (.pointer none) v ([] : By), blk bx [.int .i64 x.frm, .int .i64 x.to, .int .i64 x.rf, .int .i64 x.rt, .int .i64 x.sf, .int .i64 x.st, sv x.sig] 41] ws) :
  Ret Tryd.prog 46 #[.pointer (some ⟨b, 0, none⟩), .pointer (some ⟨bx, 0, none⟩)] ws fun u w => u = .tuple #[] ∧ ∃ v2, St M w0 [bld 108 b (.pointer (some ⟨b, 0, none⟩)) v2 x.content, blk bx [.int .i64 x.frm, .int .i64 x.to, .int .i64 x.rf, .int .i64 x.rt, .int .i64 x.sf, .int .i64 x.st, sv x.sig] 41] w := by
 refine ret_of Tryd.func46 rfl Tryd.ntmps46 (Nat.le_of_ble_eq_true rfl) fun a hfr => ?_
 replace hfr : Fr 6 [(0, _), (1, _)] [] a := hfr
 skip
 refine wc_region ?_
 refine wlv hfr (v_move rfl) ?_
 clear hfr
 intro a hfr
 refine wlv hfr (v_load_all (hst.get (k := 1) rfl) rfl (Tryd.isAgg41 _) (Tryd.sizeOf41 _)) ?_
 clear hfr
 intro a hfr
 refine wl_callE (R := fun u e' => u = .tuple #[] ∧ ∃ v2, e' = bld 108 b (.pointer (some ⟨b, 0, none⟩)) v2 (([] : By) ++ x.content)) 0 hfr hst rfl (by decide) Tryd.call47 rfl (fun h => (wproxy_ok 108 b _ _ _ x _ (by kernel_rfl) (.inl rfl) hx (by simp) h).mono fun u w ⟨h1, v2, h2⟩ => ⟨_, ⟨h1, v2, rfl⟩, h2⟩) ?_
 clear hfr hst
 rintro a w1 _ _ ⟨rfl, v1, rfl⟩ hfr hst
 replace hst : St M w0 [bld 108 b (.pointer (some ⟨b, 0, none⟩)) v1 (([] : By) ++ x.content), blk bx [.int .i64 x.frm, .int .i64 x.to, .int .i64 x.rf, .int .i64 x.rt, .int .i64 x.sf, .int .i64 x.st, sv x.sig] 41] w1 := hst
 refine wl_nil ?_
 refine fin_end hfr Tryd.results46 resAre_nil ?_
 exact ⟨rfl, _, hst.select [0, 1] (by decide)⟩
/-- dialtone/wish.Why$2 -/
theorem wp2_run {M : Nat → Prop} {w0 : World} (b bx : Nat) (v : Value) (x : Pxy) (ws : World) (hx : smalls x.nums) (hst : St M w0 [bld 108 b (.pointer none) v ([] : By), blk bx [.int .i64 x.frm, .int .i64 x.to, .int .i64 x.rf, .int .i64 x.rt, .int .i64 x.sf, .int .i64 x.st, sv x.sig] 41] ws) :
  Ret Tryd.prog 56 #[.pointer (some ⟨b, 0, none⟩), .pointer (some ⟨bx, 0, none⟩)] ws fun u w => u = .tuple #[] ∧ ∃ v2, St M w0 [bld 108 b (.pointer (some ⟨b, 0, none⟩)) v2 x.content, blk bx [.int .i64 x.frm, .int .i64 x.to, .int .i64 x.rf, .int .i64 x.rt, .int .i64 x.sf, .int .i64 x.st, sv x.sig] 41] w := by
 refine ret_of Tryd.func56 rfl Tryd.ntmps56 (Nat.le_of_ble_eq_true rfl) fun a hfr => ?_
 replace hfr : Fr 6 [(0, _), (1, _)] [] a := hfr
 skip
 refine wc_region ?_
 refine wlv hfr (v_move rfl) ?_
 clear hfr
 intro a hfr
 refine wlv hfr (v_load_all (hst.get (k := 1) rfl) rfl (Tryd.isAgg41 _) (Tryd.sizeOf41 _)) ?_
 clear hfr
 intro a hfr
 refine wl_callE (R := fun u e' => u = .tuple #[] ∧ ∃ v2, e' = bld 108 b (.pointer (some ⟨b, 0, none⟩)) v2 (([] : By) ++ x.content)) 0 hfr hst rfl (by decide) Tryd.call47 rfl (fun h => (wproxy_ok 108 b _ _ _ x _ (by kernel_rfl) (.inl rfl) hx (by simp) h).mono fun u w ⟨h1, v2, h2⟩ => ⟨_, ⟨h1, v2, rfl⟩, h2⟩) ?_
 clear hfr hst
 rintro a w1 _ _ ⟨rfl, v1, rfl⟩ hfr hst
 replace hst : St M w0 [bld 108 b (.pointer (some ⟨b, 0, none⟩)) v1 (([] : By) ++ x.content), blk bx [.int .i64 x.frm, .int .i64 x.to, .int .i64 x.rf, .int .i64 x.rt, .int .i64 x.sf, .int .i64 x.st, sv x.sig] 41] w1 := hst
 refine wl_nil ?_
 refine fin_end hfr Tryd.results56 resAre_nil ?_
 exact ⟨rfl, _, hst.select [0, 1] (by decide)⟩
/-- dialtone/wish.Why$3 -/
theorem ww3_run {M : Nat → Prop} {w0 : World} (b bx : Nat) (v : Value) (x : Wsh) (ws : World) (hx : smalls x.nums) (hst : St M w0 [bld 108 b (.pointer none) v ([] : By), blk bx [.int .i64 x.signer, .int .i64 x.holder, .int .i64 x.rf, .int .i64 x.rt, .int .i64 x.carrier, .int .i64 x.serial, .int .i64 x.sf, .int .i64 x.st, sv x.sig] 31] ws) :
  Ret Tryd.prog 57 #[.pointer (some ⟨b, 0, none⟩), .pointer (some ⟨bx, 0, none⟩)] ws fun u w => u = .tuple #[] ∧ ∃ v2, St M w0 [bld 108 b (.pointer (some ⟨b, 0, none⟩)) v2 x.content, blk bx [.int .i64 x.signer, .int .i64 x.holder, .int .i64 x.rf, .int .i64 x.rt, .int .i64 x.carrier, .int .i64 x.serial, .int .i64 x.sf, .int .i64 x.st, sv x.sig] 31] w := by
 refine ret_of Tryd.func57 rfl Tryd.ntmps57 (Nat.le_of_ble_eq_true rfl) fun a hfr => ?_
 replace hfr : Fr 6 [(0, _), (1, _)] [] a := hfr
 skip
 refine wc_region ?_
 refine wlv hfr (v_move rfl) ?_
 clear hfr
 intro a hfr
 refine wlv hfr (v_load_all (hst.get (k := 1) rfl) rfl (Tryd.isAgg31 _) (Tryd.sizeOf31 _)) ?_
 clear hfr
 intro a hfr
 refine wl_callE (R := fun u e' => u = .tuple #[] ∧ ∃ v2, e' = bld 108 b (.pointer (some ⟨b, 0, none⟩)) v2 (([] : By) ++ x.content)) 0 hfr hst rfl (by decide) Tryd.call43 rfl (fun h => (wwish_ok 108 b _ _ _ x _ (by kernel_rfl) (.inl rfl) hx (by simp) h).mono fun u w ⟨h1, v2, h2⟩ => ⟨_, ⟨h1, v2, rfl⟩, h2⟩) ?_
 clear hfr hst
 rintro a w1 _ _ ⟨rfl, v1, rfl⟩ hfr hst
 replace hst : St M w0 [bld 108 b (.pointer (some ⟨b, 0, none⟩)) v1 (([] : By) ++ x.content), blk bx [.int .i64 x.signer, .int .i64 x.holder, .int .i64 x.rf, .int .i64 x.rt, .int .i64 x.carrier, .int .i64 x.serial, .int .i64 x.sf, .int .i64 x.st, sv x.sig] 31] w1 := hst
 refine wl_nil ?_
 refine fin_end hfr Tryd.results57 resAre_nil ?_
 exact ⟨rfl, _, hst.select [0, 1] (by decide)⟩
theorem puts_ne {n : Int} {l : List Int} : puts (n :: l) ≠ [] := fun h => by
 have := (putI_len n).1
 simp only [puts, List.flatMap_cons, List.append_eq_nil_iff] at h
 rw [h.1] at this; simp at this
/-- dialtone/wish.SignWish -/
theorem signwish_ok (key : By) (x : Wsh) (w0 : World) (hk : key.length = 32) (hok : x.ok = true) (hk0 : (blk 0 (kOf.map wv) 157).ok w0) :
  Ret Tryd.prog 12 #[sv key, .agg #[.int .i64 x.signer, .int .i64 x.holder, .int .i64 x.rf, .int .i64 x.rt, .int .i64 x.carrier, .int .i64 x.serial, .int .i64 x.sf, .int .i64 x.st, sv x.sig]] w0 fun v w => v = .tuple #[.agg (x.sealed key).cells.toArray, .int .i64 0] ∧ Ext No w0 w := by
 refine ret_of Tryd.func12 rfl Tryd.ntmps12 (Nat.le_of_ble_eq_true rfl) fun a hfr => ?_
 replace hfr : Fr 20 [(0, _), (1, _)] [] a := hfr
 replace hst : St (· = 0) w0 [blk 0 (kOf.map wv) 157] w0 := St.one hk0
 refine wc_seq_region fun K1 hK1 => ?_
 refine wl_box hfr hst (by decide) rfl (cs := [.int .i64 x.signer, .int .i64 x.holder, .int .i64 x.rf, .int .i64 x.rt, .int .i64 x.carrier, .int .i64 x.serial, .int .i64 x.sf, .int .i64 x.st, sv x.sig]) rfl ?_
 clear hfr hst
 intro a w1 hfr hst
 refine wl_alloc hfr hst (by decide) (Tryd.zeroValue31 _) (cs := [.int .i64 0, .int .i64 0, .int .i64 0, .int .i64 0, .int .i64 0, .int .i64 0, .int .i64 0, .int .i64 0, .string (⟨#[]⟩)]) rfl ?_
 clear hfr hst
 intro a w2 hfr hst
 refine wlv hfr (v_assign rfl) ?_
 clear hfr
 intro a hfr
 refine wl_nil (hK1 _ _ ?_)
 refine wc_seq_k fun K2 hK2 => ?_
 refine wc_seq_region fun K3 hK3 => ?_
 refine wlv hfr (v_move rfl) ?_
 clear hfr
 intro a hfr
 refine wl_callp hfr hst (by decide) Tryd.call39 rfl (isKey_ok key _) ?_
 clear hfr hst
 intro a w3 hfr hst
 refine wlv hfr (v_not rfl) ?_
 clear hfr
 intro a hfr
 refine wlv hfr (v_move rfl) ?_
 clear hfr
 intro a hfr
 rcases Bool.eq_false_or_eq_true (!(decide ((key.length : Int) = 32))) with hb1 | hb1
 ·rw [hb1] at hfr
  try simp only [Bool.not_eq_true', Bool.not_eq_false', decide_eq_true_eq, decide_eq_false_iff_not] at hb1
  exfalso; omega
 rw [hb1] at hfr
 try simp only [Bool.not_eq_true', Bool.not_eq_false', decide_eq_true_eq, decide_eq_false_iff_not] at hb1
 refine wly hfr (v_load_all (hst.get (k := 1) rfl) rfl (Tryd.isAgg31 _) (Tryd.sizeOf31 _)) ?_
 clear hfr
 intro a hfr
 refine wl_callpy hfr hst (by decide) rfl (by decide) rfl Tryd.call40 rfl (isWish_ok x _) ?_
 clear hfr hst
 intro a w4 hfr hst
 refine wly hfr (v_not rfl) ?_
 clear hfr
 intro a hfr
 refine wlv hfr (v_pick_f rfl rfl) ?_
 clear hfr
 intro a hfr
 refine wl_nil (hK3 _ _ ?_)
 replace hfr : Fr 20 [(0, _), (3, _), (4, _), (5, _), (13, _)] [] a := hfr.pick [0, 3, 4, 5, 13]
 refine wc_cond hfr rfl (fun hc2 => ?_) (fun hc2 => ?_)
 ·rw [hc2] at hfr
  try simp only [Bool.not_eq_true', Bool.not_eq_false', decide_eq_true_eq, decide_eq_false_iff_not] at hc2
  simp [hok] at hc2
 rw [hc2] at hfr
 try simp only [Bool.not_eq_true', Bool.not_eq_false', decide_eq_true_eq, decide_eq_false_iff_not] at hc2
 refine wc_skip ?_
 refine hK2 _ _ ?_
 refine wc_seq_region fun K4 hK4 => ?_
 refine wlv hfr (v_move rfl) ?_
 clear hfr
 intro a hfr
 refine wlv hfr (v_makeFunc rfl rfl) ?_
 clear hfr
 intro a hfr
 replace hst : St (· = 0) w0 [blk 0 (kOf.map wv) 157, blk w0.heap.size [.int .i64 x.signer, .int .i64 x.holder, .int .i64 x.rf, .int .i64 x.rt, .int .i64 x.carrier, .int .i64 x.serial, .int .i64 x.sf, .int .i64 x.st, sv x.sig] 31, blk w1.heap.size [.int .i64 0, .int .i64 0, .int .i64 0, .int .i64 0, .int .i64 0, .int .i64 0, .int .i64 0, .int .i64 0, .string (⟨#[]⟩)] 31] w4 := hst.select [2, 1, 0] (by decide)
 replace hst := St.join [blk 0 (kOf.map wv) 157, blk w0.heap.size [.int .i64 x.signer, .int .i64 x.holder, .int .i64 x.rf, .int .i64 x.rt, .int .i64 x.carrier, .int .i64 x.serial, .int .i64 x.sf, .int .i64 x.st, sv x.sig] 31] [blk w1.heap.size [.int .i64 0, .int .i64 0, .int .i64 0, .int .i64 0, .int .i64 0, .int .i64 0, .int .i64 0, .int .i64 0, .string (⟨#[]⟩)] 31] hst
 refine wl_callE (R := fun u e' => u = sv (sealH key x.content) ∧ e' = join [blk 0 (kOf.map wv) 157, blk w0.heap.size [.int .i64 x.signer, .int .i64 x.holder, .int .i64 x.rf, .int .i64 x.rt, .int .i64 x.carrier, .int .i64 x.serial, .int .i64 x.sf, .int .i64 x.st, sv x.sig] 31]) 0 hfr hst rfl (by decide) Tryd.call41 rfl (fun h => (seal_ok key x.content 42 [.pointer (some ⟨w0.heap.size, 0, none⟩)] (blk w0.heap.size [.int .i64 x.signer, .int .i64 x.holder, .int .i64 x.rf, .int .i64 x.rt, .int .i64 x.carrier, .int .i64 x.serial, .int .i64 x.sf, .int .i64 x.st, sv x.sig] 31) _ Tryd.call42 (fun b v ws h => sw1_run b _ v x ws (Wsh.smalls_of hok) h) puts_ne (by omega) (Nat.le_trans x.content_len (by decide)) (St.unjoin [blk 0 (kOf.map wv) 157, blk w0.heap.size [.int .i64 x.signer, .int .i64 x.holder, .int .i64 x.rf, .int .i64 x.rt, .int .i64 x.carrier, .int .i64 x.serial, .int .i64 x.sf, .int .i64 x.st, sv x.sig] 31] [] h)).mono fun u w ⟨h1, h2⟩ => ⟨_, ⟨h1, rfl⟩, St.join _ [] h2⟩) ?_
 clear hfr hst
 rintro a w5 _ _ ⟨rfl, rfl⟩ hfr hst
 replace hst : St (· = 0) w0 [blk 0 (kOf.map wv) 157, blk w0.heap.size [.int .i64 x.signer, .int .i64 x.holder, .int .i64 x.rf, .int .i64 x.rt, .int .i64 x.carrier, .int .i64 x.serial, .int .i64 x.sf, .int .i64 x.st, sv x.sig] 31, blk w1.heap.size [.int .i64 0, .int .i64 0, .int .i64 0, .int .i64 0, .int .i64 0, .int .i64 0, .int .i64 0, .int .i64 0, .string (⟨#[]⟩)] 31] w5 := St.unjoin [blk 0 (kOf.map wv) 157, blk w0.heap.size [.int .i64 x.signer, .int .i64 x.holder, .int .i64 x.rf, .int .i64 x.rt, .int .i64 x.carrier, .int .i64 x.serial, .int .i64 x.sf, .int .i64 x.st, sv x.sig] 31] [blk w1.heap.size [.int .i64 0, .int .i64 0, .int .i64 0, .int .i64 0, .int .i64 0, .int .i64 0, .int .i64 0, .int .i64 0, .string (⟨#[]⟩)] 31] hst
 refine wlv hfr (v_fieldAddr (v := .pointer (some ⟨w0.heap.size, 8, none⟩)) rfl (by kernel_rfl)) ?_
 clear hfr
 intro a hfr
 refine wl_store 1 hfr hst rfl rfl rfl (Tryd.sizeOf9 _) rfl (Nat.le_of_ble_eq_true rfl) (ds := [.int .i64 x.signer, .int .i64 x.holder, .int .i64 x.rf, .int .i64 x.rt, .int .i64 x.carrier, .int .i64 x.serial, .int .i64 x.sf, .int .i64 x.st, sv (sealH key x.content)]) rfl rfl ?_
 clear hfr hst
 intro a w6 hfr hst
 refine wl_nil (hK4 _ _ ?_)
 replace hfr : Fr 20 [(3, _), (4, _), (5, _)] [] a := hfr.pick [3, 4, 5]
 refine wc_seq_region fun K5 hK5 => ?_
 refine wlv hfr (v_load_all (hst.get (k := 1) rfl) rfl (Tryd.isAgg31 _) (Tryd.sizeOf31 _)) ?_
 clear hfr
 intro a hfr
 refine wl_store 2 hfr hst rfl rfl rfl (Tryd.sizeOf31 _) rfl (Nat.le_of_ble_eq_true rfl) (ds := [.int .i64 x.signer, .int .i64 x.holder, .int .i64 x.rf, .int .i64 x.rt, .int .i64 x.carrier, .int .i64 x.serial, .int .i64 x.sf, .int .i64 x.st, sv (sealH key x.content)]) rfl rfl ?_
 clear hfr hst
 intro a w7 hfr hst
 refine wlv hfr (v_assign rfl) ?_
 clear hfr
 intro a hfr
 refine wl_nil (hK5 _ _ ?_)
 refine wc_ret ?_
 refine fin_ret hfr Tryd.results12 (resAre_cell rfl (res_all (hst.get (k := 2) rfl) (Tryd.isAgg31 _) (Tryd.sizeOf31 _)) (resAre_tmp rfl resAre_nil)) ?_
 exact ⟨rfl, hst.ext.const hk0 (hst.get (k := 0) rfl)⟩
/-- dialtone/wish.SignProxy -/
theorem signproxy_ok (key : By) (x : Pxy) (w0 : World) (hk : key.length = 32) (hok : x.ok = true) (hk0 : (blk 0 (kOf.map wv) 157).ok w0) :
  Ret Tryd.prog 15 #[sv key, .agg #[.int .i64 x.frm, .int .i64 x.to, .int .i64 x.rf, .int .i64 x.rt, .int .i64 x.sf, .int .i64 x.st, sv x.sig]] w0 fun v w => v = .tuple #[.agg (x.sealed key).cells.toArray, .int .i64 0] ∧ Ext No w0 w := by
 refine ret_of Tryd.func15 rfl Tryd.ntmps15 (Nat.le_of_ble_eq_true rfl) fun a hfr => ?_
 replace hfr : Fr 20 [(0, _), (1, _)] [] a := hfr
 replace hst : St (· = 0) w0 [blk 0 (kOf.map wv) 157] w0 := St.one hk0
 refine wc_seq_region fun K1 hK1 => ?_
 refine wl_box hfr hst (by decide) rfl (cs := [.int .i64 x.frm, .int .i64 x.to, .int .i64 x.rf, .int .i64 x.rt, .int .i64 x.sf, .int .i64 x.st, sv x.sig]) rfl ?_
 clear hfr hst
 intro a w1 hfr hst
 refine wl_alloc hfr hst (by decide) (Tryd.zeroValue41 _) (cs := [.int .i64 0, .int .i64 0, .int .i64 0, .int .i64 0, .int .i64 0, .int .i64 0, .string (⟨#[]⟩)]) rfl ?_
 clear hfr hst
 intro a w2 hfr hst
 refine wlv hfr (v_assign rfl) ?_
 clear hfr
 intro a hfr
 refine wl_nil (hK1 _ _ ?_)
 refine wc_seq_k fun K2 hK2 => ?_
 refine wc_seq_region fun K3 hK3 => ?_
 refine wlv hfr (v_move rfl) ?_
 clear hfr
 intro a hfr
 refine wl_callp hfr hst (by decide) Tryd.call39 rfl (isKey_ok key _) ?_
 clear hfr hst
 intro a w3 hfr hst
 refine wlv hfr (v_not rfl) ?_
 clear hfr
 intro a hfr
 refine wlv hfr (v_move rfl) ?_
 clear hfr
 intro a hfr
 rcases Bool.eq_false_or_eq_true (!(decide ((key.length : Int) = 32))) with hb1 | hb1
 ·rw [hb1] at hfr
  try simp only [Bool.not_eq_true', Bool.not_eq_false', decide_eq_true_eq, decide_eq_false_iff_not] at hb1
  exfalso; omega
 rw [hb1] at hfr
 try simp only [Bool.not_eq_true', Bool.not_eq_false', decide_eq_true_eq, decide_eq_false_iff_not] at hb1
 refine wly hfr (v_load_all (hst.get (k := 1) rfl) rfl (Tryd.isAgg41 _) (Tryd.sizeOf41 _)) ?_
 clear hfr
 intro a hfr
 refine wl_callpy hfr hst (by decide) rfl (by decide) rfl Tryd.call45 rfl (isProxy_ok x _) ?_
 clear hfr hst
 intro a w4 hfr hst
 refine wly hfr (v_not rfl) ?_
 clear hfr
 intro a hfr
 refine wlv hfr (v_pick_f rfl rfl) ?_
 clear hfr
 intro a hfr
 refine wl_nil (hK3 _ _ ?_)
 replace hfr : Fr 20 [(0, _), (3, _), (4, _), (5, _), (13, _)] [] a := hfr.pick [0, 3, 4, 5, 13]
 refine wc_cond hfr rfl (fun hc2 => ?_) (fun hc2 => ?_)
 ·rw [hc2] at hfr
  try simp only [Bool.not_eq_true', Bool.not_eq_false', decide_eq_true_eq, decide_eq_false_iff_not] at hc2
  simp [hok] at hc2
 rw [hc2] at hfr
 try simp only [Bool.not_eq_true', Bool.not_eq_false', decide_eq_true_eq, decide_eq_false_iff_not] at hc2
 refine wc_skip ?_
 refine hK2 _ _ ?_
 refine wc_seq_region fun K4 hK4 => ?_
 refine wlv hfr (v_move rfl) ?_
 clear hfr
 intro a hfr
 refine wlv hfr (v_makeFunc rfl rfl) ?_
 clear hfr
 intro a hfr
 replace hst : St (· = 0) w0 [blk 0 (kOf.map wv) 157, blk w0.heap.size [.int .i64 x.frm, .int .i64 x.to, .int .i64 x.rf, .int .i64 x.rt, .int .i64 x.sf, .int .i64 x.st, sv x.sig] 41, blk w1.heap.size [.int .i64 0, .int .i64 0, .int .i64 0, .int .i64 0, .int .i64 0, .int .i64 0, .string (⟨#[]⟩)] 41] w4 := hst.select [2, 1, 0] (by decide)
 replace hst := St.join [blk 0 (kOf.map wv) 157, blk w0.heap.size [.int .i64 x.frm, .int .i64 x.to, .int .i64 x.rf, .int .i64 x.rt, .int .i64 x.sf, .int .i64 x.st, sv x.sig] 41] [blk w1.heap.size [.int .i64 0, .int .i64 0, .int .i64 0, .int .i64 0, .int .i64 0, .int .i64 0, .string (⟨#[]⟩)] 41] hst
 refine wl_callE (R := fun u e' => u = sv (sealH key x.content) ∧ e' = join [blk 0 (kOf.map wv) 157, blk w0.heap.size [.int .i64 x.frm, .int .i64 x.to, .int .i64 x.rf, .int .i64 x.rt, .int .i64 x.sf, .int .i64 x.st, sv x.sig] 41]) 0 hfr hst rfl (by decide) Tryd.call41 rfl (fun h => (seal_ok key x.content 46 [.pointer (some ⟨w0.heap.size, 0, none⟩)] (blk w0.heap.size [.int .i64 x.frm, .int .i64 x.to, .int .i64 x.rf, .int .i64 x.rt, .int .i64 x.sf, .int .i64 x.st, sv x.sig] 41) _ Tryd.call46 (fun b v ws h => sp1_run b _ v x ws (Pxy.smalls_of hok) h) puts_ne (by omega) (Nat.le_trans x.content_len (by decide)) (St.unjoin [blk 0 (kOf.map wv) 157, blk w0.heap.size [.int .i64 x.frm, .int .i64 x.to, .int .i64 x.rf, .int .i64 x.rt, .int .i64 x.sf, .int .i64 x.st, sv x.sig] 41] [] h)).mono fun u w ⟨h1, h2⟩ => ⟨_, ⟨h1, rfl⟩, St.join _ [] h2⟩) ?_
 clear hfr hst
 rintro a w5 _ _ ⟨rfl, rfl⟩ hfr hst
 replace hst : St (· = 0) w0 [blk 0 (kOf.map wv) 157, blk w0.heap.size [.int .i64 x.frm, .int .i64 x.to, .int .i64 x.rf, .int .i64 x.rt, .int .i64 x.sf, .int .i64 x.st, sv x.sig] 41, blk w1.heap.size [.int .i64 0, .int .i64 0, .int .i64 0, .int .i64 0, .int .i64 0, .int .i64 0, .string (⟨#[]⟩)] 41] w5 := St.unjoin [blk 0 (kOf.map wv) 157, blk w0.heap.size [.int .i64 x.frm, .int .i64 x.to, .int .i64 x.rf, .int .i64 x.rt, .int .i64 x.sf, .int .i64 x.st, sv x.sig] 41] [blk w1.heap.size [.int .i64 0, .int .i64 0, .int .i64 0, .int .i64 0, .int .i64 0, .int .i64 0, .string (⟨#[]⟩)] 41] hst
 refine wlv hfr (v_fieldAddr (v := .pointer (some ⟨w0.heap.size, 6, none⟩)) rfl (by kernel_rfl)) ?_
 clear hfr
 intro a hfr
 refine wl_store 1 hfr hst rfl rfl rfl (Tryd.sizeOf9 _) rfl (Nat.le_of_ble_eq_true rfl) (ds := [.int .i64 x.frm, .int .i64 x.to, .int .i64 x.rf, .int .i64 x.rt, .int .i64 x.sf, .int .i64 x.st, sv (sealH key x.content)]) rfl rfl ?_
 clear hfr hst
 intro a w6 hfr hst
 refine wl_nil (hK4 _ _ ?_)
 replace hfr : Fr 20 [(3, _), (4, _), (5, _)] [] a := hfr.pick [3, 4, 5]
 refine wc_seq_region fun K5 hK5 => ?_
 refine wlv hfr (v_load_all (hst.get (k := 1) rfl) rfl (Tryd.isAgg41 _) (Tryd.sizeOf41 _)) ?_
 clear hfr
 intro a hfr
 refine wl_store 2 hfr hst rfl rfl rfl (Tryd.sizeOf41 _) rfl (Nat.le_of_ble_eq_true rfl) (ds := [.int .i64 x.frm, .int .i64 x.to, .int .i64 x.rf, .int .i64 x.rt, .int .i64 x.sf, .int .i64 x.st, sv (sealH key x.content)]) rfl rfl ?_
 clear hfr hst
 intro a w7 hfr hst
 refine wlv hfr (v_assign rfl) ?_
 clear hfr
 intro a hfr
 refine wl_nil (hK5 _ _ ?_)
 refine wc_ret ?_
 refine fin_ret hfr Tryd.results15 (resAre_cell rfl (res_all (hst.get (k := 2) rfl) (Tryd.isAgg41 _) (Tryd.sizeOf41 _)) (resAre_tmp rfl resAre_nil)) ?_
 exact ⟨rfl, hst.ext.const hk0 (hst.get (k := 0) rfl)⟩
end Go.Proofs.YtmmfieceinmloaaDoor
namespace Go.Proofs.YtmmfieceinmloaaDoor
open Go.RowKit Go.PW
set_option linter.unusedVariables false
set_option linter.unusedSimpArgs false
set_option maxRecDepth 4000
/-- slices.IndexFunc[[]dialtone/api.Proxy,dialtone/api.Proxy]: the first index at which the closure says yes. -/
theorem indexP_ok {M : Nat → Prop} {wb : World} {H : List Ent} {sv : Value} {els : List (List Value)} {caps : List Value} {g : FuncId} (p : Nat → Bool) (ev_ : Nat → Value) (J : Nat → Ent → Prop) (e0 : Ent) (w0 : World)
  (hen : ∀ args w, (callFunc g args).run Tryd.prog w = .ok (.enter g args) w) (hs : ∀ e w, St M wb (e :: H) w → SlAt w sv 7 els)
  (hev : ∀ k (h : k < els.length), .agg (els[k]).toArray = ev_ k) (hJ0 : J 0 e0) (hst : St M wb (e0 :: H) w0)
  (hcl : ∀ k e w, k < els.length → J k e → e.ok w → (∀ b, e.foot b → b < w.heap.size) → Ret Tryd.prog g ([ev_ k] ++ caps).toArray w fun v w' => v = .bool (p k) ∧ ∃ e', Ext e.foot w w' ∧ e'.ok w' ∧ (∀ b, e'.foot b → b < w'.heap.size ∧ (e.foot b ∨ w.heap.size ≤ b)) ∧ J (k + 1) e') :
  Ret Tryd.prog 76 #[sv, .func (.func g) #[] caps.toArray] w0 fun v w => v = .int .i64 (fstIdx p els.length) ∧ ∃ k e', J k e' ∧ St M wb (e' :: H) w := by
 have hsl := (hs _ _ hst).le
 refine ret_of Tryd.func76 rfl Tryd.ntmps76 (Nat.le_of_ble_eq_true rfl) fun a hfr => ?_
 have hfr : Fr 19 [(0, _), (1, _)] [] a := hfr
 refine wc_seq_region fun K1 hK1 => ?_
 refine wlv hfr (v_assign rfl) fun a hfr => ?_
 refine wl_nil (hK1 _ _ ?_)
 refine wc_seq_k fun K2 hK2 => ?_
 refine wc_seq_region fun K3 hK3 => ?_
 refine wlv hfr (v_move rfl) fun a hfr => ?_
 refine wlv hfr (v_len_sl (sT := 32) (hs _ _ hst) rfl rfl (Tryd.runUnderlying32 _)) fun a hfr => ?_
 refine wlv hfr (v_move rfl) fun a hfr => ?_
 refine wl_nil (hK3 _ _ ?_)
 refine wc_block ?_
 refine wc_loop (fun m a w => ∃ (k : Nat) (e : Ent), m = els.length - k ∧ (k ≤ els.length) ∧ (∀ j, j < k → p j = false) ∧ (J k e) ∧ Fr 19 [(0, sv), (1, .func (.func g) #[] caps.toArray), (6, sv), (7, .int .i64 els.length), (8, .int .i64 (k : Int))] [] a ∧ St M wb (e :: H) w) _ ⟨0, e0, rfl, Nat.zero_le _, (by intro j hj; omega), hJ0, hfr.pick [0, 1, 6, 7, 8], hst⟩ ?_
 rintro _ a w1 ⟨k, e, rfl, hk, hp, hJ, hfr, hst⟩
 refine wc_seq_region fun K4 hK4 => ?_
 refine wlv hfr (v_lt rfl rfl) fun a hfr => ?_
 refine wl_nil (hK4 _ _ ?_)
 refine wc_seq_k fun K5 hK5 => ?_
 refine wc_cond hfr rfl (fun hc1 => ?_) (fun hc1 => ?_)
 ·rw [hc1] at hfr
  try simp only [Bool.not_eq_true', Bool.not_eq_false', decide_eq_true_eq, decide_eq_false_iff_not] at hc1
  refine wc_skip ?_
  refine hK5 _ _ ?_
  refine wc_seq_k fun K6 hK6 => ?_
  refine wc_block ?_
  refine wc_seq_region fun K7 hK7 => ?_
  refine wlv hfr (v_move rfl) fun a hfr => ?_
  refine wlv hfr (v_assign rfl) fun a hfr => ?_
  refine wl_nil (hK7 _ _ ?_)
  refine wc_seq_region fun K8 hK8 => ?_
  refine wlv hfr (v_move rfl) fun a hfr => ?_
  refine wlv hfr (v_move rfl) fun a hfr => ?_
  refine wlv hfr (v_move rfl) fun a hfr => ?_
  refine wlv hfr ((v_indexAddr_sl (i := (k : Int)) (sT := 32) (hs _ _ hst) rfl rfl (Tryd.runUnderlying32 _) (Tryd.sizeOf41 _) (by omega) (by omega)).as (v' := slAddr sv (k * 7)) rfl) fun a hfr => ?_
  refine wlv hfr ((v_load_sl (hs _ _ hst) (i := k) (by omega) rfl (Tryd.isAgg41 _) (Tryd.sizeOf41 _)).as (v' := ev_ k) (hev k (by omega))) fun a hfr => ?_
  refine wl_r (r_callv (cap := caps) rfl hen rfl (hcl k _ _ (by omega) hJ (hst.get (k := 0) rfl) (fun b hb => hst.lt (k := 0) rfl hb))) rfl rfl hfr fun a v w2 hR hfr => ?_
  obtain ⟨rfl, e1, hx, hok, hft, hJ1⟩ := hR
  have hst := hst.exchange (k := 0) rfl hx hok hft
  have hst : St M wb (e1 :: H) w2 := hst
  refine wl_nil (hK8 _ _ ?_)
  refine wc_cond hfr rfl (fun hc2 => ?_) (fun hc2 => ?_)
  ·rw [hc2] at hfr
   try simp only [Bool.not_eq_true', Bool.not_eq_false', decide_eq_true_eq, decide_eq_false_iff_not] at hc2
   refine wc_seq_region fun K9 hK9 => ?_
   refine wlv hfr (v_move rfl) fun a hfr => ?_
   refine wlv hfr (v_assign rfl) fun a hfr => ?_
   refine wl_nil (hK9 _ _ ?_)
   refine wc_ret ?_
   refine fin_ret hfr Tryd.results76 (resAre_tmp rfl resAre_nil) ?_
   exact ⟨by rw [fstIdx_some (k := k) (by omega) hp (by assumption)]; rfl, _, _, hJ1, hst⟩
  rw [hc2] at hfr
  try simp only [Bool.not_eq_true', Bool.not_eq_false', decide_eq_true_eq, decide_eq_false_iff_not] at hc2
  refine wc_skip ?_
  refine hK6 _ _ ?_
  refine wc_region ?_
  refine wlv hfr (v_add rfl rfl ⟨by omega, by omega⟩) fun a hfr => ?_
  refine wlv hfr (v_move rfl) fun a hfr => ?_
  refine wl_nil ?_
  refine ⟨_, ?_, k + 1, e1, rfl, (by omega), (by intro j hj; by_cases h : j = k; (subst h; assumption); exact hp j (by omega)), hJ1, hfr.pick [0, 1, 6, 7, 8], hst⟩
  omega
 rw [hc1] at hfr
 try simp only [Bool.not_eq_true', Bool.not_eq_false', decide_eq_true_eq, decide_eq_false_iff_not] at hc1
 refine wc_exit ?_
 refine hK2 _ _ ?_
 refine wc_seq_region fun K10 hK10 => ?_
 refine wlv hfr (v_assign rfl) fun a hfr => ?_
 refine wl_nil (hK10 _ _ ?_)
 refine wc_ret ?_
 refine fin_ret hfr Tryd.results76 (resAre_tmp rfl resAre_nil) ?_
 have hkl : k = els.length := by omega
 subst hkl
 exact ⟨by rw [fstIdx_none hp]; rfl, _, _, hJ, hst⟩
theorem index_pxy {sv : Value} {xs : List Pxy} {g : FuncId} (p : Pxy → Bool) (w0 : World) (hen : ∀ args w, (callFunc g args).run Tryd.prog w = .ok (.enter g args) w) (hs : SlAt w0 sv 7 (xs.map Pxy.cells))
  (hcl : ∀ (x : Pxy) (w : World), Ret Tryd.prog g #[.agg x.cells.toArray] w fun v w' => v = .bool (p x) ∧ Ext No w w') :
  Ret Tryd.prog 76 #[sv, .func (.func g) #[] #[]] w0 fun v w => v = .int .i64 (fstIdx (fun k => p (xs.getD k Pxy.z)) xs.length) ∧ Ext No w0 w := by
 have hst : St No w0 [join []] w0 := St.join [] [] (St.init w0)
 have h := indexP_ok (M := No) (wb := w0) (H := []) (sv := sv) (els := xs.map Pxy.cells) (caps := []) (g := g) (fun k => p (xs.getD k Pxy.z)) (fun k => .agg (xs.getD k Pxy.z).cells.toArray) (fun _ e => e = join []) (join []) w0 hen
  (fun e w h => h.arg hs) (fun k h => by rw [el_at Pxy.z]) rfl hst (fun k e w hk he hok hlt => by
   subst he
   refine (hcl _ w).mono fun v w' ⟨h1, h2⟩ => ⟨h1, join [], h2.mono (fun k _ hk => hk.elim), ?_, ?_, rfl⟩
   ·exact ⟨fun e he => (by cases he), List.Pairwise.nil⟩
   ·rintro b ⟨e, he, _⟩
    cases he)
 refine h.mono fun v w ⟨h1, k, e, he, hst⟩ => ⟨by rw [h1, List.length_map], hst.ext⟩
/-- dialtone/wish.badProxy$1 -/
theorem badp1_ok (x : Pxy) (w0 : World) :
  Ret Tryd.prog 77 #[.agg #[.int .i64 x.frm, .int .i64 x.to, .int .i64 x.rf, .int .i64 x.rt, .int .i64 x.sf, .int .i64 x.st, sv x.sig]] w0 fun v w => v = .bool (!x.ok) ∧ Ext No w0 w := by
 refine ret_of Tryd.func77 rfl Tryd.ntmps77 (Nat.le_of_ble_eq_true rfl) fun a hfr => ?_
 have hfr : Fr 6 [(0, _)] [] a := hfr
 have hst : St No w0 [] w0 := St.init w0
 refine wc_seq_region fun K1 hK1 => ?_
 refine wl_box hfr hst (by decide) rfl (cs := [.int .i64 x.frm, .int .i64 x.to, .int .i64 x.rf, .int .i64 x.rt, .int .i64 x.sf, .int .i64 x.st, sv x.sig]) rfl fun a w1 hfr hst => ?_
 refine wlv hfr (v_assign rfl) fun a hfr => ?_
 refine wl_nil (hK1 _ _ ?_)
 refine wc_seq_region fun K2 hK2 => ?_
 refine wlv hfr (v_load_all (hst.get (k := 0) rfl) rfl (Tryd.isAgg41 _) (Tryd.sizeOf41 _)) fun a hfr => ?_
 refine wl_callp hfr hst (by decide) Tryd.call45 rfl (isProxy_ok x _) fun a w2 hfr hst => ?_
 refine wlv hfr (v_not rfl) fun a hfr => ?_
 refine wlv hfr (v_assign rfl) fun a hfr => ?_
 refine wl_nil (hK2 _ _ ?_)
 refine wc_ret ?_
 refine fin_ret hfr Tryd.results77 (resAre_tmp rfl resAre_nil) ?_
 exact ⟨by rfl, hst.ext⟩
/-- The first index whose proxy is not formed, or -1. -/
def badN (xs : List Pxy) : Int := fstIdx (fun k => !(xs.getD k Pxy.z).ok) xs.length
theorem badp_call (v : Value) (xs : List Pxy) (w0 : World) (hv : SlAt w0 v 7 (xs.map Pxy.cells)) : Ret Tryd.prog 76 #[v, .func (.func 77) #[] #[]] w0 fun v w => v = .int .i64 (badN xs) ∧ Ext No w0 w :=
 index_pxy (fun x => !x.ok) w0 Tryd.call77 hv (fun x w => badp1_ok x w)
/-- dialtone/wish.badProxy -/
theorem badProxy_ok (lv : Value) (xs : List Pxy) (w0 : World) (hlv : SlAt w0 lv 7 (xs.map Pxy.cells)) :
  Ret Tryd.prog 44 #[lv] w0 fun v w => v = .int .i64 (badN xs) ∧ Ext No w0 w := by
 refine ret_of Tryd.func44 rfl Tryd.ntmps44 (Nat.le_of_ble_eq_true rfl) fun a hfr => ?_
 have hfr : Fr 5 [(0, _)] [] a := hfr
 have hst : St No w0 [] w0 := St.init w0
 refine wc_seq_region fun K1 hK1 => ?_
 refine wlv hfr (v_assign rfl) fun a hfr => ?_
 refine wl_nil (hK1 _ _ ?_)
 refine wc_seq_region fun K2 hK2 => ?_
 refine wlv hfr (v_move rfl) fun a hfr => ?_
 refine wl_callp hfr hst (by decide) Tryd.call76 rfl (badp_call lv xs _ (hst.arg hlv)) fun a w1 hfr hst => ?_
 refine wlv hfr (v_assign rfl) fun a hfr => ?_
 refine wl_nil (hK2 _ _ ?_)
 refine wc_ret ?_
 refine fin_ret hfr Tryd.results44 (resAre_tmp rfl resAre_nil) ?_
 exact ⟨by rfl, hst.ext⟩
/-- dialtone/wish.Formed -/
theorem formed_ok (x : Wsh) (lv : Value) (xs : List Pxy) (w0 : World) (hlv : SlAt w0 lv 7 (xs.map Pxy.cells)) :
  Ret Tryd.prog 14 #[.agg #[.int .i64 x.signer, .int .i64 x.holder, .int .i64 x.rf, .int .i64 x.rt, .int .i64 x.carrier, .int .i64 x.serial, .int .i64 x.sf, .int .i64 x.st, sv x.sig], lv] w0 fun v w => v = .bool (x.ok && decide ((xs.length : Int) ≤ 4) && decide (badN xs < 0)) ∧ Ext No w0 w := by
 refine ret_of Tryd.func14 rfl Tryd.ntmps14 (Nat.le_of_ble_eq_true rfl) fun a hfr => ?_
 have hfr : Fr 17 [(0, _), (1, _)] [] a := hfr
 have hst : St No w0 [] w0 := St.init w0
 refine wc_seq_region fun K1 hK1 => ?_
 refine wl_box hfr hst (by decide) rfl (cs := [.int .i64 x.signer, .int .i64 x.holder, .int .i64 x.rf, .int .i64 x.rt, .int .i64 x.carrier, .int .i64 x.serial, .int .i64 x.sf, .int .i64 x.st, sv x.sig]) rfl fun a w1 hfr hst => ?_
 refine wlv hfr (v_assign rfl) fun a hfr => ?_
 refine wl_nil (hK1 _ _ ?_)
 refine wc_seq_region fun K2 hK2 => ?_
 refine wlv hfr (v_load_all (hst.get (k := 0) rfl) rfl (Tryd.isAgg31 _) (Tryd.sizeOf31 _)) fun a hfr => ?_
 refine wl_callp hfr hst (by decide) Tryd.call40 rfl (isWish_ok x _) fun a w2 hfr hst => ?_
 refine wlv hfr (v_move rfl) fun a hfr => ?_
 rcases Bool.eq_false_or_eq_true (x.ok) with hb1 | hb1
 ·rw [hb1] at hfr
  try simp only [Bool.not_eq_true', Bool.not_eq_false', decide_eq_true_eq, decide_eq_false_iff_not] at hb1
  refine wly hfr (v_move rfl) fun a hfr => ?_
  refine wly hfr ((v_len_sl (sT := 32) (hst.arg hlv) rfl rfl (Tryd.runUnderlying32 _)).asi (m' := (xs.length : Int)) (by rw [List.length_map])) fun a hfr => ?_
  refine wly hfr (v_le rfl rfl) fun a hfr => ?_
  refine wlv hfr (v_pick_t rfl rfl) fun a hfr => ?_
  refine wlv hfr (v_move rfl) fun a hfr => ?_
  rcases Bool.eq_false_or_eq_true (decide ((xs.length : Int) ≤ 4)) with hb2 | hb2
  ·rw [hb2] at hfr
   try simp only [Bool.not_eq_true', Bool.not_eq_false', decide_eq_true_eq, decide_eq_false_iff_not] at hb2
   refine wly hfr (v_move rfl) fun a hfr => ?_
   refine wl_callpy hfr hst (by decide) rfl (by decide) rfl Tryd.call44 rfl (badProxy_ok lv xs _ (hst.arg hlv)) fun a w3 hfr hst => ?_
   refine wly hfr (v_lt rfl rfl) fun a hfr => ?_
   refine wlv hfr (v_pick_t rfl rfl) fun a hfr => ?_
   refine wlv hfr (v_assign rfl) fun a hfr => ?_
   refine wl_nil (hK2 _ _ ?_)
   have hfr : Fr 17 [(0, _), (1, _), (2, _), (4, _)] [] a := hfr.pick [0, 1, 2, 4]
   refine wc_ret ?_
   refine fin_ret hfr Tryd.results14 (resAre_tmp rfl resAre_nil) ?_
   exact ⟨by simp only [retv]; simp [hb1, hb2], hst.ext⟩
  rw [hb2] at hfr
  try simp only [Bool.not_eq_true', Bool.not_eq_false', decide_eq_true_eq, decide_eq_false_iff_not] at hb2
  refine wln hfr fun a hfr => ?_
  refine wln hfr fun a hfr => ?_
  refine wln hfr fun a hfr => ?_
  refine wlv hfr (v_pick_f rfl rfl) fun a hfr => ?_
  refine wlv hfr (v_assign rfl) fun a hfr => ?_
  refine wl_nil (hK2 _ _ ?_)
  have hfr : Fr 17 [(0, _), (1, _), (2, _), (4, _)] [] a := hfr.pick [0, 1, 2, 4]
  refine wc_ret ?_
  refine fin_ret hfr Tryd.results14 (resAre_tmp rfl resAre_nil) ?_
  exact ⟨by simp only [retv]; simp [hb1, hb2], hst.ext⟩
 rw [hb1] at hfr
 try simp only [Bool.not_eq_true', Bool.not_eq_false', decide_eq_true_eq, decide_eq_false_iff_not] at hb1
 refine wln hfr fun a hfr => ?_
 refine wln hfr fun a hfr => ?_
 refine wln hfr fun a hfr => ?_
 refine wlv hfr (v_pick_f rfl rfl) fun a hfr => ?_
 refine wlv hfr (v_move rfl) fun a hfr => ?_
 refine wln hfr fun a hfr => ?_
 refine wln hfr fun a hfr => ?_
 refine wln hfr fun a hfr => ?_
 refine wlv hfr (v_pick_f rfl rfl) fun a hfr => ?_
 refine wlv hfr (v_assign rfl) fun a hfr => ?_
 refine wl_nil (hK2 _ _ ?_)
 have hfr : Fr 17 [(0, _), (1, _), (2, _), (4, _)] [] a := hfr.pick [0, 1, 2, 4]
 refine wc_ret ?_
 refine fin_ret hfr Tryd.results14 (resAre_tmp rfl resAre_nil) ?_
 exact ⟨by simp only [retv]; simp [hb1], hst.ext⟩
end Go.Proofs.YtmmfieceinmloaaDoor
namespace Go.Proofs.YtmmfieceinmloaaDoor
open Go.RowKit Go.PW
set_option linter.unusedVariables false
set_option linter.unusedSimpArgs false
set_option maxRecDepth 4000
set_option maxHeartbeats 4000000 in
/-- dialtone/wish.isIn -/
theorem isIn_ok (rf rt sf st : Int) (x : Pxy) (w0 : World) :
  Ret Tryd.prog 83 #[.agg #[.int .i64 rf, .int .i64 rt], .agg #[.int .i64 sf, .int .i64 st], .agg #[.int .i64 x.frm, .int .i64 x.to, .int .i64 x.rf, .int .i64 x.rt, .int .i64 x.sf, .int .i64 x.st, sv x.sig]] w0 fun v w => v = .bool (isInH rf rt sf st x) ∧ Ext No w0 w := by
 refine ret_of Tryd.func83 rfl Tryd.ntmps83 (Nat.le_of_ble_eq_true rfl) fun a hfr => ?_
 replace hfr : Fr 37 [(0, _), (1, _), (2, _)] [] a := hfr
 replace hst : St No w0 [] w0 := St.init w0
 refine wc_seq_region fun K1 hK1 => ?_
 refine wl_box hfr hst (by decide) rfl (cs := [.int .i64 rf, .int .i64 rt]) rfl ?_
 clear hfr hst
 intro a w1 hfr hst
 refine wl_box hfr hst (by decide) rfl (cs := [.int .i64 sf, .int .i64 st]) rfl ?_
 clear hfr hst
 intro a w2 hfr hst
 refine wl_box hfr hst (by decide) rfl (cs := [.int .i64 x.frm, .int .i64 x.to, .int .i64 x.rf, .int .i64 x.rt, .int .i64 x.sf, .int .i64 x.st, sv x.sig]) rfl ?_
 clear hfr hst
 intro a w3 hfr hst
 refine wlv hfr (v_assign rfl) ?_
 clear hfr
 intro a hfr
 refine wl_nil (hK1 _ _ ?_)
 refine wc_seq_region fun K2 hK2 => ?_
 refine wlv hfr (v_fieldAddr (v := .pointer (some ⟨w2.heap.size, 2, none⟩)) rfl (by kernel_rfl)) ?_
 clear hfr
 intro a hfr
 refine wlv hfr (v_fieldAddr (v := .pointer (some ⟨w2.heap.size, 2, none⟩)) rfl (by kernel_rfl)) ?_
 clear hfr
 intro a hfr
 refine wlv hfr (v_load_blk1 (hst.get (k := 0) rfl) rfl (Tryd.isAgg3 _) rfl) ?_
 clear hfr
 intro a hfr
 refine wlv hfr (v_fieldAddr (v := .pointer (some ⟨w0.heap.size, 0, none⟩)) rfl (by kernel_rfl)) ?_
 clear hfr
 intro a hfr
 refine wlv hfr (v_load_blk1 (hst.get (k := 2) rfl) rfl (Tryd.isAgg3 _) rfl) ?_
 clear hfr
 intro a hfr
 refine wlv hfr (v_le rfl rfl) ?_
 clear hfr
 intro a hfr
 refine wlv hfr (v_move rfl) ?_
 clear hfr
 intro a hfr
 refine wl_join (N := 37) (df := []) 7 [(20, .bool ((decide (x.rf ≤ rf)) && (decide (rt ≤ x.rt)))), (0, .agg #[.int .i64 rf, .int .i64 rt]), (1, .agg #[.int .i64 sf, .int .i64 st]), (2, .agg #[.int .i64 x.frm, .int .i64 x.to, .int .i64 x.rf, .int .i64 x.rt, .int .i64 x.sf, .int .i64 x.st, sv x.sig]), (3, .pointer (some ⟨w0.heap.size, 0, none⟩)), (4, .pointer (some ⟨w1.heap.size, 0, none⟩)), (5, .pointer (some ⟨w2.heap.size, 0, none⟩)), (6, .bool false)] ?_ (fun hj => ?_)
 rotate_left
 ·rcases Bool.eq_false_or_eq_true (decide (x.rf ≤ rf)) with hb1 | hb1
  ·rw [hb1] at hfr
   have hb1b := hb1
   try simp only [Bool.not_eq_true', Bool.not_eq_false', decide_eq_true_eq, decide_eq_false_iff_not, Bool.and_eq_true, Bool.or_eq_true, Bool.and_eq_false_iff, Bool.or_eq_false_iff] at hb1
   refine wly hfr (v_fieldAddr (v := .pointer (some ⟨w0.heap.size, 1, none⟩)) rfl (by kernel_rfl)) ?_
   clear hfr
   intro a hfr
   refine wly hfr (v_load_blk1 (hst.get (k := 2) rfl) rfl (Tryd.isAgg3 _) rfl) ?_
   clear hfr
   intro a hfr
   refine wly hfr (v_fieldAddr (v := .pointer (some ⟨w2.heap.size, 2, none⟩)) rfl (by kernel_rfl)) ?_
   clear hfr
   intro a hfr
   refine wly hfr (v_fieldAddr (v := .pointer (some ⟨w2.heap.size, 3, none⟩)) rfl (by kernel_rfl)) ?_
   clear hfr
   intro a hfr
   refine wly hfr (v_load_blk1 (hst.get (k := 0) rfl) rfl (Tryd.isAgg3 _) rfl) ?_
   clear hfr
   intro a hfr
   refine wly hfr (v_le rfl rfl) ?_
   clear hfr
   intro a hfr
   refine wlv hfr (v_pick_t rfl rfl) ?_
   clear hfr
   intro a hfr
   refine hj _ ?_
   try rw [hb1b]
   exact hfr.pick [20, 0, 1, 2, 3, 4, 5, 6]
  rw [hb1] at hfr
  have hb1b := hb1
  try simp only [Bool.not_eq_true', Bool.not_eq_false', decide_eq_true_eq, decide_eq_false_iff_not, Bool.and_eq_true, Bool.or_eq_true, Bool.and_eq_false_iff, Bool.or_eq_false_iff] at hb1
  refine wln hfr ?_
  clear hfr
  intro a hfr
  refine wln hfr ?_
  clear hfr
  intro a hfr
  refine wln hfr ?_
  clear hfr
  intro a hfr
  refine wln hfr ?_
  clear hfr
  intro a hfr
  refine wln hfr ?_
  clear hfr
  intro a hfr
  refine wln hfr ?_
  clear hfr
  intro a hfr
  refine wlv hfr (v_pick_f rfl rfl) ?_
  clear hfr
  intro a hfr
  refine hj _ ?_
  try rw [hb1b]
  exact hfr.pick [20, 0, 1, 2, 3, 4, 5, 6]
 intro a hfr
 refine wlv hfr (v_move rfl) ?_
 clear hfr
 intro a hfr
 refine wl_join (N := 37) (df := []) 7 [(28, .bool (((decide (x.rf ≤ rf)) && (decide (rt ≤ x.rt))) && (decide (x.sf ≤ sf)))), (0, .agg #[.int .i64 rf, .int .i64 rt]), (1, .agg #[.int .i64 sf, .int .i64 st]), (2, .agg #[.int .i64 x.frm, .int .i64 x.to, .int .i64 x.rf, .int .i64 x.rt, .int .i64 x.sf, .int .i64 x.st, sv x.sig]), (3, .pointer (some ⟨w0.heap.size, 0, none⟩)), (4, .pointer (some ⟨w1.heap.size, 0, none⟩)), (5, .pointer (some ⟨w2.heap.size, 0, none⟩)), (6, .bool false)] ?_ (fun hj => ?_)
 rotate_left
 ·rcases Bool.eq_false_or_eq_true ((decide (x.rf ≤ rf)) && (decide (rt ≤ x.rt))) with hb2 | hb2
  ·rw [hb2] at hfr
   have hb2b := hb2
   try simp only [Bool.not_eq_true', Bool.not_eq_false', decide_eq_true_eq, decide_eq_false_iff_not, Bool.and_eq_true, Bool.or_eq_true, Bool.and_eq_false_iff, Bool.or_eq_false_iff] at hb2
   refine wly hfr (v_fieldAddr (v := .pointer (some ⟨w2.heap.size, 4, none⟩)) rfl (by kernel_rfl)) ?_
   clear hfr
   intro a hfr
   refine wly hfr (v_fieldAddr (v := .pointer (some ⟨w2.heap.size, 4, none⟩)) rfl (by kernel_rfl)) ?_
   clear hfr
   intro a hfr
   refine wly hfr (v_load_blk1 (hst.get (k := 0) rfl) rfl (Tryd.isAgg3 _) rfl) ?_
   clear hfr
   intro a hfr
   refine wly hfr (v_fieldAddr (v := .pointer (some ⟨w1.heap.size, 0, none⟩)) rfl (by kernel_rfl)) ?_
   clear hfr
   intro a hfr
   refine wly hfr (v_load_blk1 (hst.get (k := 1) rfl) rfl (Tryd.isAgg3 _) rfl) ?_
   clear hfr
   intro a hfr
   refine wly hfr (v_le rfl rfl) ?_
   clear hfr
   intro a hfr
   refine wlv hfr (v_pick_t rfl rfl) ?_
   clear hfr
   intro a hfr
   refine hj _ ?_
   try rw [hb2b]
   exact hfr.pick [28, 0, 1, 2, 3, 4, 5, 6]
  rw [hb2] at hfr
  have hb2b := hb2
  try simp only [Bool.not_eq_true', Bool.not_eq_false', decide_eq_true_eq, decide_eq_false_iff_not, Bool.and_eq_true, Bool.or_eq_true, Bool.and_eq_false_iff, Bool.or_eq_false_iff] at hb2
  refine wln hfr ?_
  clear hfr
  intro a hfr
  refine wln hfr ?_
  clear hfr
  intro a hfr
  refine wln hfr ?_
  clear hfr
  intro a hfr
  refine wln hfr ?_
  clear hfr
  intro a hfr
  refine wln hfr ?_
  clear hfr
  intro a hfr
  refine wln hfr ?_
  clear hfr
  intro a hfr
  refine wlv hfr (v_pick_f rfl rfl) ?_
  clear hfr
  intro a hfr
  refine hj _ ?_
  try rw [hb2b]
  exact hfr.pick [28, 0, 1, 2, 3, 4, 5, 6]
 intro a hfr
 refine wlv hfr (v_move rfl) ?_
 clear hfr
 intro a hfr
 refine wl_join (N := 37) (df := []) 7 [(36, .bool ((((decide (x.rf ≤ rf)) && (decide (rt ≤ x.rt))) && (decide (x.sf ≤ sf))) && (decide (st ≤ x.st)))), (0, .agg #[.int .i64 rf, .int .i64 rt]), (1, .agg #[.int .i64 sf, .int .i64 st]), (2, .agg #[.int .i64 x.frm, .int .i64 x.to, .int .i64 x.rf, .int .i64 x.rt, .int .i64 x.sf, .int .i64 x.st, sv x.sig]), (3, .pointer (some ⟨w0.heap.size, 0, none⟩)), (4, .pointer (some ⟨w1.heap.size, 0, none⟩)), (5, .pointer (some ⟨w2.heap.size, 0, none⟩)), (6, .bool false)] ?_ (fun hj => ?_)
 rotate_left
 ·rcases Bool.eq_false_or_eq_true (((decide (x.rf ≤ rf)) && (decide (rt ≤ x.rt))) && (decide (x.sf ≤ sf))) with hb3 | hb3
  ·rw [hb3] at hfr
   have hb3b := hb3
   try simp only [Bool.not_eq_true', Bool.not_eq_false', decide_eq_true_eq, decide_eq_false_iff_not, Bool.and_eq_true, Bool.or_eq_true, Bool.and_eq_false_iff, Bool.or_eq_false_iff] at hb3
   refine wly hfr (v_fieldAddr (v := .pointer (some ⟨w1.heap.size, 1, none⟩)) rfl (by kernel_rfl)) ?_
   clear hfr
   intro a hfr
   refine wly hfr (v_load_blk1 (hst.get (k := 1) rfl) rfl (Tryd.isAgg3 _) rfl) ?_
   clear hfr
   intro a hfr
   refine wly hfr (v_fieldAddr (v := .pointer (some ⟨w2.heap.size, 4, none⟩)) rfl (by kernel_rfl)) ?_
   clear hfr
   intro a hfr
   refine wly hfr (v_fieldAddr (v := .pointer (some ⟨w2.heap.size, 5, none⟩)) rfl (by kernel_rfl)) ?_
   clear hfr
   intro a hfr
   refine wly hfr (v_load_blk1 (hst.get (k := 0) rfl) rfl (Tryd.isAgg3 _) rfl) ?_
   clear hfr
   intro a hfr
   refine wly hfr (v_le rfl rfl) ?_
   clear hfr
   intro a hfr
   refine wlv hfr (v_pick_t rfl rfl) ?_
   clear hfr
   intro a hfr
   refine hj _ ?_
   try rw [hb3b]
   exact hfr.pick [36, 0, 1, 2, 3, 4, 5, 6]
  rw [hb3] at hfr
  have hb3b := hb3
  try simp only [Bool.not_eq_true', Bool.not_eq_false', decide_eq_true_eq, decide_eq_false_iff_not, Bool.and_eq_true, Bool.or_eq_true, Bool.and_eq_false_iff, Bool.or_eq_false_iff] at hb3
  refine wln hfr ?_
  clear hfr
  intro a hfr
  refine wln hfr ?_
  clear hfr
  intro a hfr
  refine wln hfr ?_
  clear hfr
  intro a hfr
  refine wln hfr ?_
  clear hfr
  intro a hfr
  refine wln hfr ?_
  clear hfr
  intro a hfr
  refine wln hfr ?_
  clear hfr
  intro a hfr
  refine wlv hfr (v_pick_f rfl rfl) ?_
  clear hfr
  intro a hfr
  refine hj _ ?_
  try rw [hb3b]
  exact hfr.pick [36, 0, 1, 2, 3, 4, 5, 6]
 intro a hfr
 refine wlv hfr (v_assign rfl) ?_
 clear hfr
 intro a hfr
 refine wl_nil (hK2 _ _ ?_)
 replace hfr : Fr 37 [(6, _)] [] a := hfr.pick [6]
 replace hst : St No w0 [] w3 := hst.mask [false, false, false]
 refine wc_ret ?_
 refine fin_ret hfr Tryd.results83 (resAre_tmp rfl resAre_nil) ?_
 exact ⟨by rfl, hst.ext⟩
def prevP (xs : List Pxy) (k : Nat) : Option Pxy := if k = 0 then none else some (xs.getD (k - 1) Pxy.z)
theorem drop_cons {α : Type} {xs : List α} {k : Nat} (d : α) (h : k < xs.length) : xs.drop k = xs.getD k d :: xs.drop (k + 1) := by
 rw [List.drop_eq_getElem_cons h, List.getD_eq_getElem?_getD, List.getElem?_eq_getElem h]; rfl
def scopeV (x : Wsh) (xs : List Pxy) : Int × Bool := match scopeBad x none xs 0 with | some n => (n, true) | none => (-1, false)
theorem scope_none {x : Wsh} {xs : List Pxy} (h : scopeBad x none xs 0 = none) : scopeV x xs = (-1, false) := by unfold scopeV; rw [h]
theorem scope_some {x : Wsh} {xs : List Pxy} {n : Int} (h : scopeBad x none xs 0 = some n) : scopeV x xs = (n, true) := by unfold scopeV; rw [h]
theorem scope_step {x : Wsh} {xs : List Pxy} {k : Nat} (hk : k < xs.length) (h : k = 0 ∨ isInH (xs.getD k Pxy.z).rf (xs.getD k Pxy.z).rt (xs.getD k Pxy.z).sf (xs.getD k Pxy.z).st (xs.getD (k - 1) Pxy.z) = true) :
  scopeBad x (prevP xs k) (xs.drop k) k = scopeBad x (prevP xs (k + 1)) (xs.drop (k + 1)) (k + 1) := by
 rw [drop_cons Pxy.z hk]
 by_cases h0 : k = 0
 ·subst h0; rfl
 ·unfold prevP
  rw [if_neg h0, if_neg (by omega), scopeBad, if_pos (h.resolve_left h0)]; rfl
theorem scope_hit {x : Wsh} {xs : List Pxy} {k : Nat} (hk : k < xs.length) (h0 : 0 < k) (h : isInH (xs.getD k Pxy.z).rf (xs.getD k Pxy.z).rt (xs.getD k Pxy.z).sf (xs.getD k Pxy.z).st (xs.getD (k - 1) Pxy.z) = false) :
  scopeBad x (prevP xs k) (xs.drop k) k = some (k : Int) := by
 rw [drop_cons Pxy.z hk]
 unfold prevP
 rw [if_neg (by omega), scopeBad, if_neg (by rw [h]; simp)]
theorem scope_end {x : Wsh} {xs : List Pxy} : scopeBad x (prevP xs xs.length) (xs.drop xs.length) xs.length = if xs.length = 0 ∨ isInH x.rf x.rt x.sf x.st (xs.getD (xs.length - 1) Pxy.z) = true then none else some (-1) := by
 rw [List.drop_length]
 unfold prevP
 by_cases h0 : xs.length = 0
 ·rw [if_pos h0, if_pos (.inl h0)]; rfl
 ·rw [if_neg h0, scopeBad]; simp [h0]
theorem scope_zero {x : Wsh} {xs : List Pxy} (h : xs.length = 0) (hs : scopeBad x none xs 0 = if xs.length = 0 ∨ isInH x.rf x.rt x.sf x.st (xs.getD (xs.length - 1) Pxy.z) = true then none else some (-1)) : scopeV x xs = (-1, false) := by
 rw [if_pos (.inl h)] at hs; exact scope_none hs
theorem scope_last {x : Wsh} {xs : List Pxy} (h : 0 < xs.length) (hs : scopeBad x none xs 0 = if xs.length = 0 ∨ isInH x.rf x.rt x.sf x.st (xs.getD (xs.length - 1) Pxy.z) = true then none else some (-1)) : scopeV x xs = (-1, !isInH x.rf x.rt x.sf x.st (xs.getD (xs.length - 1) Pxy.z)) := by
 cases hc : isInH x.rf x.rt x.sf x.st (xs.getD (xs.length - 1) Pxy.z) with
 | true => rw [if_pos (.inr hc)] at hs; exact scope_none hs
 | false => rw [if_neg (fun hh => by rcases hh with hh | hh; omega; rw [hc] at hh; cases hh)] at hs; exact scope_some hs
set_option maxHeartbeats 4000000 in
/-- dialtone/wish.scope -/
theorem scope_ok (x : Wsh) (lv : Value) (xs : List Pxy) (w0 : World) (hlv : SlAt w0 lv 7 (xs.map Pxy.cells)) :
  Ret Tryd.prog 55 #[.agg #[.int .i64 x.signer, .int .i64 x.holder, .int .i64 x.rf, .int .i64 x.rt, .int .i64 x.carrier, .int .i64 x.serial, .int .i64 x.sf, .int .i64 x.st, sv x.sig], lv] w0 fun v w => v = .tuple #[.int .i64 (scopeV x xs).1, .bool (scopeV x xs).2] ∧ Ext No w0 w := by
 have hxb := hlv.2.1
 simp only [List.length_map, big] at hxb
 refine ret_of Tryd.func55 rfl Tryd.ntmps55 (Nat.le_of_ble_eq_true rfl) fun a hfr => ?_
 replace hfr : Fr 49 [(0, _), (1, _)] [] a := hfr
 replace hst : St No w0 [] w0 := St.init w0
 refine wc_seq_region fun K1 hK1 => ?_
 refine wl_box hfr hst (by decide) rfl (cs := [.int .i64 x.signer, .int .i64 x.holder, .int .i64 x.rf, .int .i64 x.rt, .int .i64 x.carrier, .int .i64 x.serial, .int .i64 x.sf, .int .i64 x.st, sv x.sig]) rfl ?_
 clear hfr hst
 intro a w1 hfr hst
 refine wlv hfr (v_assign rfl) ?_
 clear hfr
 intro a hfr
 refine wlv hfr (v_assign rfl) ?_
 clear hfr
 intro a hfr
 refine wl_nil (hK1 _ _ ?_)
 refine wc_seq_k fun K2 hK2 => ?_
 refine wc_seq_region fun K3 hK3 => ?_
 refine wlv hfr (v_move rfl) ?_
 clear hfr
 intro a hfr
 refine wlv hfr ((v_len_sl (sT := 32) (hst.arg hlv) rfl rfl (Tryd.runUnderlying32 _)).asi (m' := (xs.length : Int)) (by rw [List.length_map])) ?_
 clear hfr
 intro a hfr
 refine wlv hfr (v_move rfl) ?_
 clear hfr
 intro a hfr
 refine wl_nil (hK3 _ _ ?_)
 refine wc_block ?_
 refine wc_loop (fun m a w => ∃ (k : Nat), m = xs.length - k ∧ (k ≤ xs.length) ∧ (scopeBad x none xs 0 = scopeBad x (prevP xs k) (xs.drop k) k) ∧ Fr 49 [(1, lv), (2, .pointer (some ⟨w0.heap.size, 0, none⟩)), (8, lv), (9, .int .i64 (xs.length : Int)), (10, .int .i64 (k : Int))] [] a ∧ St No w0 [blk w0.heap.size [.int .i64 x.signer, .int .i64 x.holder, .int .i64 x.rf, .int .i64 x.rt, .int .i64 x.carrier, .int .i64 x.serial, .int .i64 x.sf, .int .i64 x.st, sv x.sig] 31] w) _ ⟨0, rfl, Nat.zero_le _, rfl, hfr.pick [1, 2, 8, 9, 10], hst.select [0] (by decide)⟩ ?_
 rintro _ a w2 ⟨k, rfl, hk, hs, hfr, hst⟩
 refine wc_seq_region fun K4 hK4 => ?_
 refine wlv hfr (v_lt rfl rfl) ?_
 clear hfr
 intro a hfr
 refine wl_nil (hK4 _ _ ?_)
 refine wc_seq_k fun K5 hK5 => ?_
 refine wc_cond hfr rfl (fun hc1 => ?_) (fun hc1 => ?_)
 ·rw [hc1] at hfr
  try simp only [Bool.not_eq_true', Bool.not_eq_false', decide_eq_true_eq, decide_eq_false_iff_not] at hc1
  have hkx : k < xs.length := by omega
  refine wc_skip ?_
  refine hK5 _ _ ?_
  refine wc_seq_k fun K6 hK6 => ?_
  refine wc_block ?_
  refine wc_seq_region fun K7 hK7 => ?_
  refine wlv hfr (v_move rfl) ?_
  clear hfr
  intro a hfr
  refine wlv hfr ((v_indexAddr_sl (i := (k : Int)) (sT := 32) (hst.arg hlv) rfl rfl (Tryd.runUnderlying32 _) (Tryd.sizeOf41 _) (by omega) (by rw [List.length_map]; omega)).as (v' := slAddr lv (k * 7)) rfl) ?_
  clear hfr
  intro a hfr
  refine wlv hfr ((v_load_sl (hst.arg hlv) (i := k) (by rw [List.length_map]; omega) rfl (Tryd.isAgg41 _) (Tryd.sizeOf41 _)).as (v' := .agg #[.int .i64 ((xs.getD k Pxy.z).frm), .int .i64 ((xs.getD k Pxy.z).to), .int .i64 ((xs.getD k Pxy.z).rf), .int .i64 ((xs.getD k Pxy.z).rt), .int .i64 ((xs.getD k Pxy.z).sf), .int .i64 ((xs.getD k Pxy.z).st), sv ((xs.getD k Pxy.z).sig)]) (by rw [el_at Pxy.z]; rfl)) ?_
  clear hfr
  intro a hfr
  refine wl_alloc hfr hst (by decide) (Tryd.zeroValue41 _) (cs := [.int .i64 0, .int .i64 0, .int .i64 0, .int .i64 0, .int .i64 0, .int .i64 0, .string (⟨#[]⟩)]) rfl ?_
  clear hfr hst
  intro a w3 hfr hst
  refine wlv hfr (v_assign rfl) ?_
  clear hfr
  intro a hfr
  refine wl_store 0 hfr hst rfl rfl rfl (Tryd.sizeOf41 _) rfl (Nat.le_of_ble_eq_true rfl) (ds := [.int .i64 ((xs.getD k Pxy.z).frm), .int .i64 ((xs.getD k Pxy.z).to), .int .i64 ((xs.getD k Pxy.z).rf), .int .i64 ((xs.getD k Pxy.z).rt), .int .i64 ((xs.getD k Pxy.z).sf), .int .i64 ((xs.getD k Pxy.z).st), sv ((xs.getD k Pxy.z).sig)]) rfl rfl ?_
  clear hfr hst
  intro a w4 hfr hst
  refine wl_nil (hK7 _ _ ?_)
  refine wc_seq_k fun K8 hK8 => ?_
  refine wc_of_dr (by kernel_rfl) (dr_of_wd (by kernel_rfl) fun w5 hxz => ?_)
  replace hst : St No w0 [blk w2.heap.size [.int .i64 ((xs.getD k Pxy.z).frm), .int .i64 ((xs.getD k Pxy.z).to), .int .i64 ((xs.getD k Pxy.z).rf), .int .i64 ((xs.getD k Pxy.z).rt), .int .i64 ((xs.getD k Pxy.z).sf), .int .i64 ((xs.getD k Pxy.z).st), sv ((xs.getD k Pxy.z).sig)] 41, blk w0.heap.size [.int .i64 x.signer, .int .i64 x.holder, .int .i64 x.rf, .int .i64 x.rt, .int .i64 x.carrier, .int .i64 x.serial, .int .i64 x.sf, .int .i64 x.st, sv x.sig] 31] w5 := hst.grow hxz
  refine wd_lin (k := 0) 3 [2] (by kernel_rfl) (by kernel_rfl) (by kernel_rfl) ?_
  refine wlv hfr (v_move rfl) ?_
  clear hfr
  intro a hfr
  refine wlv hfr (v_gt rfl rfl) ?_
  clear hfr
  intro a hfr
  refine wlv hfr (v_move rfl) ?_
  clear hfr
  intro a hfr
  refine wl_nil ?_
  rcases Bool.eq_false_or_eq_true (decide (0 < (k : Int))) with hb2 | hb2
  ·rw [hb2] at hfr
   try simp only [Bool.not_eq_true', Bool.not_eq_false', decide_eq_true_eq, decide_eq_false_iff_not] at hb2
   refine wd_sub (k := 3) 12 [4, 6, 11] hfr (by kernel_rfl) (by kernel_rfl) (by kernel_rfl) (by rfl) ?_
   replace hfr : Fr 49 [(1, _), (2, _), (8, _), (9, _), (10, _), (11, _), (12, _), (13, _), (14, _), (7, _), (6, _), (15, _), (16, _), (17, _)] [] a := hfr.pick [1, 2, 8, 9, 10, 11, 12, 13, 14, 7, 6, 15, 16, 17]
   refine wc_phases_q [] (fun i => match i with | _ => fun _ _ => False) 9 [[], [0], [], [2], [], [], [5], [4, 6], [7]] [.pointer (some ⟨w2.heap.size, 2, none⟩), .agg #[.int .i64 ((xs.getD k Pxy.z).rf), .int .i64 ((xs.getD k Pxy.z).rt)], .pointer (some ⟨w2.heap.size, 4, none⟩), .agg #[.int .i64 ((xs.getD k Pxy.z).sf), .int .i64 ((xs.getD k Pxy.z).st)], lv, .int .i64 (k : Int), .int .i64 ((k : Int) - 1), slAddr lv ((k - 1) * 7), .agg #[.int .i64 ((xs.getD (k - 1) Pxy.z).frm), .int .i64 ((xs.getD (k - 1) Pxy.z).to), .int .i64 ((xs.getD (k - 1) Pxy.z).rf), .int .i64 ((xs.getD (k - 1) Pxy.z).rt), .int .i64 ((xs.getD (k - 1) Pxy.z).sf), .int .i64 ((xs.getD (k - 1) Pxy.z).st), sv ((xs.getD (k - 1) Pxy.z).sig)]] hfr hst (by kernel_rfl) (by kernel_rfl) (by kernel_rfl) ?_ ?_ ?_
   ·intro i hi hiq
    match i, hi, hiq with
    | 0, _, _ =>
     intro w hst
     exact OpV.g (v_fieldAddr (v := .pointer (some ⟨w2.heap.size, 2, none⟩)) rfl (by kernel_rfl))
    | 1, _, _ =>
     intro w hst
     exact OpV.g (v_load_blk (ds := [.int .i64 ((xs.getD k Pxy.z).rf), .int .i64 ((xs.getD k Pxy.z).rt)]) (hst.get (k := 0) rfl) rfl (Tryd.isAgg28 _) (Tryd.sizeOf28 _) rfl)
    | 2, _, _ =>
     intro w hst
     exact OpV.g (v_fieldAddr (v := .pointer (some ⟨w2.heap.size, 4, none⟩)) rfl (by kernel_rfl))
    | 3, _, _ =>
     intro w hst
     exact OpV.g (v_load_blk (ds := [.int .i64 ((xs.getD k Pxy.z).sf), .int .i64 ((xs.getD k Pxy.z).st)]) (hst.get (k := 0) rfl) rfl (Tryd.isAgg29 _) (Tryd.sizeOf29 _) rfl)
    | 4, _, _ =>
     intro w hst
     exact OpV.g (v_move rfl)
    | 5, _, _ =>
     intro w hst
     exact OpV.g (v_move rfl)
    | 6, _, _ =>
     intro w hst
     exact OpV.g (v_sub rfl rfl ⟨by omega, by omega⟩)
    | 7, _, _ =>
     intro w hst
     exact OpV.g ((v_indexAddr_sl (i := (k : Int) - 1) (sT := 32) (hst.arg hlv) rfl rfl (Tryd.runUnderlying32 _) (Tryd.sizeOf41 _) (by omega) (by rw [List.length_map]; omega)).as (v' := slAddr lv ((k - 1) * 7)) (by rw [show ((k : Int) - 1).toNat = (k - 1) from by omega]))
    | 8, _, _ =>
     intro w hst
     exact OpV.g ((v_load_sl (hst.arg hlv) (i := (k - 1)) (by rw [List.length_map]; omega) rfl (Tryd.isAgg41 _) (Tryd.sizeOf41 _)).as (v' := .agg #[.int .i64 ((xs.getD (k - 1) Pxy.z).frm), .int .i64 ((xs.getD (k - 1) Pxy.z).to), .int .i64 ((xs.getD (k - 1) Pxy.z).rf), .int .i64 ((xs.getD (k - 1) Pxy.z).rt), .int .i64 ((xs.getD (k - 1) Pxy.z).sf), .int .i64 ((xs.getD (k - 1) Pxy.z).st), sv ((xs.getD (k - 1) Pxy.z).sig)]) (by rw [el_at Pxy.z]; rfl))
   ·intro i hi
    exact absurd hi (by simp)
   clear hfr hst
   intro  a w6 hfr hst
   replace hfr : Fr 49 [(18, .pointer (some ⟨w2.heap.size, 2, none⟩)), (19, .agg #[.int .i64 ((xs.getD k Pxy.z).rf), .int .i64 ((xs.getD k Pxy.z).rt)]), (20, .pointer (some ⟨w2.heap.size, 4, none⟩)), (21, .agg #[.int .i64 ((xs.getD k Pxy.z).sf), .int .i64 ((xs.getD k Pxy.z).st)]), (22, lv), (23, .int .i64 (k : Int)), (24, .int .i64 ((k : Int) - 1)), (25, slAddr lv ((k - 1) * 7)), (26, .agg #[.int .i64 ((xs.getD (k - 1) Pxy.z).frm), .int .i64 ((xs.getD (k - 1) Pxy.z).to), .int .i64 ((xs.getD (k - 1) Pxy.z).rf), .int .i64 ((xs.getD (k - 1) Pxy.z).rt), .int .i64 ((xs.getD (k - 1) Pxy.z).sf), .int .i64 ((xs.getD (k - 1) Pxy.z).st), sv ((xs.getD (k - 1) Pxy.z).sig)]), (1, _), (2, _), (8, _), (9, _), (10, _), (11, _), (12, _), (13, _), (14, _), (7, _), (6, _), (15, _), (16, _), (17, _)] [] a := hfr
   refine wl_nil ?_
   refine wd_lin (k := 12) 15 [14] (by kernel_rfl) (by kernel_rfl) (by kernel_rfl) ?_
   refine wl_callpy hfr hst (by decide) rfl (by decide) rfl Tryd.call83 rfl (isIn_ok ((xs.getD k Pxy.z).rf) ((xs.getD k Pxy.z).rt) ((xs.getD k Pxy.z).sf) ((xs.getD k Pxy.z).st) (xs.getD (k - 1) Pxy.z) _) ?_
   clear hfr hst
   intro a w7 hfr hst
   refine wly hfr (v_not rfl) ?_
   clear hfr
   intro a hfr
   refine wlv hfr (v_pick_t rfl rfl) ?_
   clear hfr
   intro a hfr
   refine wl_nil ?_
   refine wd_end (by kernel_rfl) ?_
   refine hK8 _ _ ?_
   replace hfr : Fr 49 [(1, _), (2, _), (8, _), (9, _), (10, _), (6, _), (29, _)] [] a := hfr.pick [1, 2, 8, 9, 10, 6, 29]
   replace hst : St No w0 [_] w7 := hst.mask [false, true]
   refine wc_cond hfr rfl (fun hc3 => ?_) (fun hc3 => ?_)
   ·rw [hc3] at hfr
    try simp only [Bool.not_eq_true', Bool.not_eq_false', decide_eq_true_eq, decide_eq_false_iff_not] at hc3
    refine wc_seq_region fun K9 hK9 => ?_
    refine wlv hfr (v_move rfl) ?_
    clear hfr
    intro a hfr
    refine wlv hfr (v_assign rfl) ?_
    clear hfr
    intro a hfr
    refine wlv hfr (v_assign rfl) ?_
    clear hfr
    intro a hfr
    refine wl_nil (hK9 _ _ ?_)
    refine wc_ret ?_
    refine fin_ret hfr Tryd.results55 (resAre_tmp rfl (resAre_tmp rfl resAre_nil)) ?_
    exact ⟨by simp only [retv]; rw [scope_some (by rw [hs]; exact scope_hit hkx (by omega) (by simpa using hc3))], hst.ext⟩
   rw [hc3] at hfr
   try simp only [Bool.not_eq_true', Bool.not_eq_false', decide_eq_true_eq, decide_eq_false_iff_not] at hc3
   refine wc_skip ?_
   refine hK6 _ _ ?_
   refine wc_region ?_
   refine wlv hfr (v_add rfl rfl ⟨by omega, by omega⟩) ?_
   clear hfr
   intro a hfr
   refine wlv hfr (v_move rfl) ?_
   clear hfr
   intro a hfr
   refine wl_nil ?_
   refine ⟨_, ?_, k + 1, rfl, (by omega), (by rw [hs]; exact scope_step hkx (by first | (left; omega) | (right; simpa using hc3))), hfr.pick [1, 2, 8, 9, 10], hst.select [0] (by decide)⟩
   omega
  rw [hb2] at hfr
  try simp only [Bool.not_eq_true', Bool.not_eq_false', decide_eq_true_eq, decide_eq_false_iff_not] at hb2
  replace hfr : Fr 49 [(1, lv), (2, .pointer (some ⟨w0.heap.size, 0, none⟩)), (8, lv), (9, .int .i64 (xs.length : Int)), (10, .int .i64 (k : Int)), (11, .bool true), (12, .int .i64 (k : Int)), (13, slAddr lv (k * 7)), (14, .agg #[.int .i64 ((xs.getD k Pxy.z).frm), .int .i64 ((xs.getD k Pxy.z).to), .int .i64 ((xs.getD k Pxy.z).rf), .int .i64 ((xs.getD k Pxy.z).rt), .int .i64 ((xs.getD k Pxy.z).sf), .int .i64 ((xs.getD k Pxy.z).st), sv ((xs.getD k Pxy.z).sig)]), (7, .pointer (some ⟨w2.heap.size, 0, none⟩)), (6, .int .i64 (k : Int)), (15, .int .i64 (k : Int)), (16, .bool false), (17, .bool false)] [] a := hfr.pick [1, 2, 8, 9, 10, 11, 12, 13, 14, 7, 6, 15, 16, 17]
  refine wd_skip (k := 3) 12 [4, 6, 11] hfr (by kernel_rfl) (by kernel_rfl) (by kernel_rfl) (by rfl) ?_
  clear hfr
  intro a hfr
  replace hfr : Fr 49 [(18, undef), (19, undef), (20, undef), (21, undef), (22, undef), (23, undef), (24, undef), (25, undef), (26, undef), (1, lv), (2, .pointer (some ⟨w0.heap.size, 0, none⟩)), (8, lv), (9, .int .i64 (xs.length : Int)), (10, .int .i64 (k : Int)), (11, .bool true), (12, .int .i64 (k : Int)), (13, slAddr lv (k * 7)), (14, .agg #[.int .i64 ((xs.getD k Pxy.z).frm), .int .i64 ((xs.getD k Pxy.z).to), .int .i64 ((xs.getD k Pxy.z).rf), .int .i64 ((xs.getD k Pxy.z).rt), .int .i64 ((xs.getD k Pxy.z).sf), .int .i64 ((xs.getD k Pxy.z).st), sv ((xs.getD k Pxy.z).sig)]), (7, .pointer (some ⟨w2.heap.size, 0, none⟩)), (6, .int .i64 (k : Int)), (15, .int .i64 (k : Int)), (16, .bool false), (17, .bool false)] [] a := hfr
  refine wd_lin (k := 12) 15 [14] (by kernel_rfl) (by kernel_rfl) (by kernel_rfl) ?_
  refine wln hfr ?_
  clear hfr
  intro a hfr
  refine wln hfr ?_
  clear hfr
  intro a hfr
  refine wlv hfr (v_pick_f rfl rfl) ?_
  clear hfr
  intro a hfr
  refine wl_nil ?_
  refine wd_end (by kernel_rfl) ?_
  refine hK8 _ _ ?_
  replace hfr : Fr 49 [(1, _), (2, _), (8, _), (9, _), (10, _), (6, _), (29, _)] [] a := hfr.pick [1, 2, 8, 9, 10, 6, 29]
  replace hst : St No w0 [_] w5 := hst.mask [false, true]
  refine wc_cond_f hfr rfl ?_
  refine wc_skip ?_
  refine hK6 _ _ ?_
  refine wc_region ?_
  refine wlv hfr (v_add rfl rfl ⟨by omega, by omega⟩) ?_
  clear hfr
  intro a hfr
  refine wlv hfr (v_move rfl) ?_
  clear hfr
  intro a hfr
  refine wl_nil ?_
  refine ⟨_, ?_, k + 1, rfl, (by omega), (by rw [hs]; exact scope_step hkx (by first | (left; omega) | (right; simpa using hb2))), hfr.pick [1, 2, 8, 9, 10], hst.select [0] (by decide)⟩
  omega
 rw [hc1] at hfr
 try simp only [Bool.not_eq_true', Bool.not_eq_false', decide_eq_true_eq, decide_eq_false_iff_not] at hc1
 have hke : k = xs.length := by omega
 rw [hke, scope_end] at hs
 refine wc_exit ?_
 refine hK2 _ _ ?_
 refine wc_seq_k fun K10 hK10 => ?_
 refine wc_of_dr (by kernel_rfl) (dr_of_wd (by kernel_rfl) fun w8 hxz => ?_)
 replace hst : St No w0 [blk w0.heap.size [.int .i64 x.signer, .int .i64 x.holder, .int .i64 x.rf, .int .i64 x.rt, .int .i64 x.carrier, .int .i64 x.serial, .int .i64 x.sf, .int .i64 x.st, sv x.sig] 31] w8 := hst.grow hxz
 refine wd_lin (k := 0) 4 [3] (by kernel_rfl) (by kernel_rfl) (by kernel_rfl) ?_
 refine wlv hfr (v_move rfl) ?_
 clear hfr
 intro a hfr
 refine wlv hfr ((v_len_sl (sT := 32) (hst.arg hlv) rfl rfl (Tryd.runUnderlying32 _)).asi (m' := (xs.length : Int)) (by rw [List.length_map])) ?_
 clear hfr
 intro a hfr
 refine wlv hfr (v_gt rfl rfl) ?_
 clear hfr
 intro a hfr
 refine wlv hfr (v_move rfl) ?_
 clear hfr
 intro a hfr
 refine wl_nil ?_
 rcases Bool.eq_false_or_eq_true (decide (0 < (xs.length : Int))) with hb4 | hb4
 ·rw [hb4] at hfr
  try simp only [Bool.not_eq_true', Bool.not_eq_false', decide_eq_true_eq, decide_eq_false_iff_not] at hb4
  refine wd_sub (k := 4) 14 [5, 7, 13] hfr (by kernel_rfl) (by kernel_rfl) (by kernel_rfl) (by rfl) ?_
  replace hfr : Fr 49 [(1, _), (2, _), (8, _), (9, _), (10, _), (11, _), (32, _), (33, _), (34, _), (35, _)] [] a := hfr.pick [1, 2, 8, 9, 10, 11, 32, 33, 34, 35]
  refine wc_phases_q [] (fun i => match i with | _ => fun _ _ => False) 10 [[], [0], [], [2], [], [], [5], [6], [4, 7], [8]] [.pointer (some ⟨w0.heap.size, 2, none⟩), .agg #[.int .i64 x.rf, .int .i64 x.rt], .pointer (some ⟨w0.heap.size, 6, none⟩), .agg #[.int .i64 x.sf, .int .i64 x.st], lv, lv, .int .i64 (xs.length : Int), .int .i64 ((xs.length : Int) - 1), slAddr lv ((xs.length - 1) * 7), .agg #[.int .i64 ((xs.getD (xs.length - 1) Pxy.z).frm), .int .i64 ((xs.getD (xs.length - 1) Pxy.z).to), .int .i64 ((xs.getD (xs.length - 1) Pxy.z).rf), .int .i64 ((xs.getD (xs.length - 1) Pxy.z).rt), .int .i64 ((xs.getD (xs.length - 1) Pxy.z).sf), .int .i64 ((xs.getD (xs.length - 1) Pxy.z).st), sv ((xs.getD (xs.length - 1) Pxy.z).sig)]] hfr hst (by kernel_rfl) (by kernel_rfl) (by kernel_rfl) ?_ ?_ ?_
  ·intro i hi hiq
   match i, hi, hiq with
   | 0, _, _ =>
    intro w hst
    exact OpV.g (v_fieldAddr (v := .pointer (some ⟨w0.heap.size, 2, none⟩)) rfl (by kernel_rfl))
   | 1, _, _ =>
    intro w hst
    exact OpV.g (v_load_blk (ds := [.int .i64 x.rf, .int .i64 x.rt]) (hst.get (k := 0) rfl) rfl (Tryd.isAgg28 _) (Tryd.sizeOf28 _) rfl)
   | 2, _, _ =>
    intro w hst
    exact OpV.g (v_fieldAddr (v := .pointer (some ⟨w0.heap.size, 6, none⟩)) rfl (by kernel_rfl))
   | 3, _, _ =>
    intro w hst
    exact OpV.g (v_load_blk (ds := [.int .i64 x.sf, .int .i64 x.st]) (hst.get (k := 0) rfl) rfl (Tryd.isAgg29 _) (Tryd.sizeOf29 _) rfl)
   | 4, _, _ =>
    intro w hst
    exact OpV.g (v_move rfl)
   | 5, _, _ =>
    intro w hst
    exact OpV.g (v_move rfl)
   | 6, _, _ =>
    intro w hst
    exact OpV.g ((v_len_sl (sT := 32) (hst.arg hlv) rfl rfl (Tryd.runUnderlying32 _)).asi (m' := (xs.length : Int)) (by rw [List.length_map]))
   | 7, _, _ =>
    intro w hst
    exact OpV.g (v_sub rfl rfl ⟨by omega, by omega⟩)
   | 8, _, _ =>
    intro w hst
    exact OpV.g ((v_indexAddr_sl (i := (xs.length : Int) - 1) (sT := 32) (hst.arg hlv) rfl rfl (Tryd.runUnderlying32 _) (Tryd.sizeOf41 _) (by omega) (by rw [List.length_map]; omega)).as (v' := slAddr lv ((xs.length - 1) * 7)) (by rw [show ((xs.length : Int) - 1).toNat = (xs.length - 1) from by omega]))
   | 9, _, _ =>
    intro w hst
    exact OpV.g ((v_load_sl (hst.arg hlv) (i := (xs.length - 1)) (by rw [List.length_map]; omega) rfl (Tryd.isAgg41 _) (Tryd.sizeOf41 _)).as (v' := .agg #[.int .i64 ((xs.getD (xs.length - 1) Pxy.z).frm), .int .i64 ((xs.getD (xs.length - 1) Pxy.z).to), .int .i64 ((xs.getD (xs.length - 1) Pxy.z).rf), .int .i64 ((xs.getD (xs.length - 1) Pxy.z).rt), .int .i64 ((xs.getD (xs.length - 1) Pxy.z).sf), .int .i64 ((xs.getD (xs.length - 1) Pxy.z).st), sv ((xs.getD (xs.length - 1) Pxy.z).sig)]) (by rw [el_at Pxy.z]; rfl))
  ·intro i hi
   exact absurd hi (by simp)
  clear hfr hst
  intro  a w9 hfr hst
  replace hfr : Fr 49 [(36, .pointer (some ⟨w0.heap.size, 2, none⟩)), (37, .agg #[.int .i64 x.rf, .int .i64 x.rt]), (38, .pointer (some ⟨w0.heap.size, 6, none⟩)), (39, .agg #[.int .i64 x.sf, .int .i64 x.st]), (40, lv), (41, lv), (42, .int .i64 (xs.length : Int)), (43, .int .i64 ((xs.length : Int) - 1)), (44, slAddr lv ((xs.length - 1) * 7)), (45, .agg #[.int .i64 ((xs.getD (xs.length - 1) Pxy.z).frm), .int .i64 ((xs.getD (xs.length - 1) Pxy.z).to), .int .i64 ((xs.getD (xs.length - 1) Pxy.z).rf), .int .i64 ((xs.getD (xs.length - 1) Pxy.z).rt), .int .i64 ((xs.getD (xs.length - 1) Pxy.z).sf), .int .i64 ((xs.getD (xs.length - 1) Pxy.z).st), sv ((xs.getD (xs.length - 1) Pxy.z).sig)]), (1, _), (2, _), (8, _), (9, _), (10, _), (11, _), (32, _), (33, _), (34, _), (35, _)] [] a := hfr
  refine wl_nil ?_
  refine wd_lin (k := 14) 15 [14] (by kernel_rfl) (by kernel_rfl) (by kernel_rfl) ?_
  refine wl_callpy hfr hst (by decide) rfl (by decide) rfl Tryd.call83 rfl (isIn_ok x.rf x.rt x.sf x.st (xs.getD (xs.length - 1) Pxy.z) _) ?_
  clear hfr hst
  intro a w10 hfr hst
  refine wl_nil ?_
  refine wd_sub (k := 15) 18 [16, 17] hfr (by kernel_rfl) (by kernel_rfl) (by kernel_rfl) (by rfl) ?_
  replace hfr : Fr 49 [(1, _), (2, _), (8, _), (9, _), (10, _), (11, _), (32, _), (33, _), (34, _), (35, _), (36, _), (37, _), (38, _), (39, _), (40, _), (41, _), (42, _), (43, _), (44, _), (45, _), (46, _)] [] a := hfr.pick [1, 2, 8, 9, 10, 11, 32, 33, 34, 35, 36, 37, 38, 39, 40, 41, 42, 43, 44, 45, 46]
  refine wc_phases_q [] (fun i => match i with | _ => fun _ _ => False) 3 [[], [0], []] [.bool (!(isInH x.rf x.rt x.sf x.st (xs.getD (xs.length - 1) Pxy.z))), .bool (!(isInH x.rf x.rt x.sf x.st (xs.getD (xs.length - 1) Pxy.z))), .int .i64 (-1)] hfr hst (by kernel_rfl) (by kernel_rfl) (by kernel_rfl) ?_ ?_ ?_
  ·intro i hi hiq
   match i, hi, hiq with
   | 0, _, _ =>
    intro w hst
    exact OpV.g (v_not rfl)
   | 1, _, _ =>
    intro w hst
    exact OpV.g (v_pick_t rfl rfl)
   | 2, _, _ =>
    intro w hst
    exact OpV.g (v_assign rfl)
  ·intro i hi
   exact absurd hi (by simp)
  clear hfr hst
  intro  a w11 hfr hst
  replace hfr : Fr 49 [(47, .bool (!(isInH x.rf x.rt x.sf x.st (xs.getD (xs.length - 1) Pxy.z)))), (48, .bool (!(isInH x.rf x.rt x.sf x.st (xs.getD (xs.length - 1) Pxy.z)))), (4, .int .i64 (-1)), (1, _), (2, _), (8, _), (9, _), (10, _), (11, _), (32, _), (33, _), (34, _), (35, _), (36, _), (37, _), (38, _), (39, _), (40, _), (41, _), (42, _), (43, _), (44, _), (45, _), (46, _)] [] a := hfr
  refine wl_nil ?_
  refine wd_lin (k := 18) 19 [18] (by kernel_rfl) (by kernel_rfl) (by kernel_rfl) ?_
  refine wlv hfr (v_assign rfl) ?_
  clear hfr
  intro a hfr
  refine wl_nil ?_
  refine wd_end (by kernel_rfl) ?_
  refine hK10 _ _ ?_
  replace hfr : Fr 49 [(4, _), (5, _)] [] a := hfr.pick [4, 5]
  replace hst : St No w0 [] w11 := hst.mask [false]
  refine wc_ret ?_
  refine fin_ret hfr Tryd.results55 (resAre_tmp rfl (resAre_tmp rfl resAre_nil)) ?_
  exact ⟨by simp only [retv]; rw [scope_last (by omega) hs], hst.ext⟩
 rw [hb4] at hfr
 try simp only [Bool.not_eq_true', Bool.not_eq_false', decide_eq_true_eq, decide_eq_false_iff_not] at hb4
 replace hfr : Fr 49 [(1, lv), (2, .pointer (some ⟨w0.heap.size, 0, none⟩)), (8, lv), (9, .int .i64 (xs.length : Int)), (10, .int .i64 (k : Int)), (11, .bool false), (32, lv), (33, .int .i64 (xs.length : Int)), (34, .bool false), (35, .bool false)] [] a := hfr.pick [1, 2, 8, 9, 10, 11, 32, 33, 34, 35]
 refine wd_skip (k := 4) 14 [5, 7, 13] hfr (by kernel_rfl) (by kernel_rfl) (by kernel_rfl) (by rfl) ?_
 clear hfr
 intro a hfr
 replace hfr : Fr 49 [(36, undef), (37, undef), (38, undef), (39, undef), (40, undef), (41, undef), (42, undef), (43, undef), (44, undef), (45, undef), (1, lv), (2, .pointer (some ⟨w0.heap.size, 0, none⟩)), (8, lv), (9, .int .i64 (xs.length : Int)), (10, .int .i64 (k : Int)), (11, .bool false), (32, lv), (33, .int .i64 (xs.length : Int)), (34, .bool false), (35, .bool false)] [] a := hfr
 refine wd_lin (k := 14) 15 [14] (by kernel_rfl) (by kernel_rfl) (by kernel_rfl) ?_
 refine wln hfr ?_
 clear hfr
 intro a hfr
 refine wl_nil ?_
 replace hfr : Fr 49 [(36, undef), (37, undef), (38, undef), (39, undef), (40, undef), (41, undef), (42, undef), (43, undef), (44, undef), (45, undef), (1, lv), (2, .pointer (some ⟨w0.heap.size, 0, none⟩)), (8, lv), (9, .int .i64 (xs.length : Int)), (10, .int .i64 (k : Int)), (11, .bool false), (32, lv), (33, .int .i64 (xs.length : Int)), (34, .bool false), (35, .bool false), (46, undef)] [] a := hfr.pick [36, 37, 38, 39, 40, 41, 42, 43, 44, 45, 1, 2, 8, 9, 10, 11, 32, 33, 34, 35, 46]
 refine wd_mix (k := 15) 18 [16, 17] (fun i => match i with | 15 => undef | 16 => .bool false | 17 => .int .i64 (-1) | _ => undef) hfr (by kernel_rfl) (by kernel_rfl) (by kernel_rfl) (by rfl) ?_ ?_
 ·intro i h1 h2
  have hi : i = 15 ∨ i = 16 ∨ i = 17 := by omega
  rcases hi with rfl | rfl | rfl
  ·exact ⟨fun _ => rfl, fun h => by cases h⟩
  ·exact ⟨fun h => (by cases h), fun _ => v_pick_f rfl rfl⟩
  ·exact ⟨fun h => (by cases h), fun _ => v_assign rfl⟩
 intro a hfr
 replace hfr : Fr 49 [(47, undef), (48, .bool false), (4, .int .i64 (-1)), (36, undef), (37, undef), (38, undef), (39, undef), (40, undef), (41, undef), (42, undef), (43, undef), (44, undef), (45, undef), (1, lv), (2, .pointer (some ⟨w0.heap.size, 0, none⟩)), (8, lv), (9, .int .i64 (xs.length : Int)), (10, .int .i64 (k : Int)), (11, .bool false), (32, lv), (33, .int .i64 (xs.length : Int)), (34, .bool false), (35, .bool false), (46, undef)] [] a := hfr
 refine wd_lin (k := 18) 19 [18] (by kernel_rfl) (by kernel_rfl) (by kernel_rfl) ?_
 refine wlv hfr (v_assign rfl) ?_
 clear hfr
 intro a hfr
 refine wl_nil ?_
 refine wd_end (by kernel_rfl) ?_
 refine hK10 _ _ ?_
 replace hfr : Fr 49 [(4, _), (5, _)] [] a := hfr.pick [4, 5]
 replace hst : St No w0 [] w8 := hst.mask [false]
 refine wc_ret ?_
 refine fin_ret hfr Tryd.results55 (resAre_tmp rfl (resAre_tmp rfl resAre_nil)) ?_
 exact ⟨by simp only [retv]; rw [scope_zero (by omega) hs], hst.ext⟩
/-- dialtone/dialtonelaw15.pick -/
theorem pickL_ok (n m : Int) (w0 : World) (hn : -9223372036854775808 ≤ n ∧ n ≤ 9223372036854775807) (hm : 0 < m ∧ m ≤ 9223372036854775807) :
  Ret Tryd.prog 16 #[.int .i64 n, .int .i64 m] w0 fun v w => v = .int .i64 (pickI n m) ∧ Ext No w0 w := by
 refine ret_of Tryd.func16 rfl Tryd.ntmps16 (Nat.le_of_ble_eq_true rfl) fun a hfr => ?_
 replace hfr : Fr 13 [(0, _), (1, _)] [] a := hfr
 replace hst : St No w0 [] w0 := St.init w0
 refine wc_seq_region fun K1 hK1 => ?_
 refine wlv hfr (v_assign rfl) ?_
 clear hfr
 intro a hfr
 refine wl_nil (hK1 _ _ ?_)
 refine wc_seq_k fun K2 hK2 => ?_
 refine wc_seq_region fun K3 hK3 => ?_
 refine wlv hfr (v_move rfl) ?_
 clear hfr
 intro a hfr
 refine wlv hfr (v_lt rfl rfl) ?_
 clear hfr
 intro a hfr
 refine wl_nil (hK3 _ _ ?_)
 refine wc_cond hfr rfl (fun hc1 => ?_) (fun hc1 => ?_)
 ·rw [hc1] at hfr
  try simp only [Bool.not_eq_true', Bool.not_eq_false', decide_eq_true_eq, decide_eq_false_iff_not] at hc1
  refine wc_region ?_
  refine wlv hfr (v_move rfl) ?_
  clear hfr
  intro a hfr
  refine wlv hfr (v_add rfl rfl ⟨by omega, by omega⟩) ?_
  clear hfr
  intro a hfr
  refine wlv hfr (v_neg rfl (by omega) (by omega)) ?_
  clear hfr
  intro a hfr
  refine wlv hfr (v_assign rfl) ?_
  clear hfr
  intro a hfr
  refine wl_nil ?_
  refine hK2 _ _ ?_
  refine wc_seq_region fun K4 hK4 => ?_
  refine wlv hfr (v_move rfl) ?_
  clear hfr
  intro a hfr
  refine wlv hfr (v_move rfl) ?_
  clear hfr
  intro a hfr
  refine wlv hfr (v_rem rfl rfl (by omega) (by omega)) ?_
  clear hfr
  intro a hfr
  refine wlv hfr (v_assign rfl) ?_
  clear hfr
  intro a hfr
  refine wl_nil (hK4 _ _ ?_)
  replace hfr : Fr 13 [(4, _)] [] a := hfr.pick [4]
  refine wc_ret ?_
  refine fin_ret hfr Tryd.results16 (resAre_tmp rfl resAre_nil) ?_
  exact ⟨by simp only [retv, pickI]; simp [hc1], hst.ext⟩
 rw [hc1] at hfr
 try simp only [Bool.not_eq_true', Bool.not_eq_false', decide_eq_true_eq, decide_eq_false_iff_not] at hc1
 refine wc_skip ?_
 refine hK2 _ _ ?_
 refine wc_seq_region fun K5 hK5 => ?_
 refine wlv hfr (v_move rfl) ?_
 clear hfr
 intro a hfr
 refine wlv hfr (v_move rfl) ?_
 clear hfr
 intro a hfr
 refine wlv hfr (v_rem rfl rfl (by omega) (by omega)) ?_
 clear hfr
 intro a hfr
 refine wlv hfr (v_assign rfl) ?_
 clear hfr
 intro a hfr
 refine wl_nil (hK5 _ _ ?_)
 replace hfr : Fr 13 [(4, _)] [] a := hfr.pick [4]
 refine wc_ret ?_
 refine fin_ret hfr Tryd.results16 (resAre_tmp rfl resAre_nil) ?_
 exact ⟨by simp only [retv, pickI]; simp [hc1], hst.ext⟩
def grantedP (to : Int) : Pxy := ⟨1, 2, 1000, 2000, 100, to, []⟩
def wishedW (to : Int) : Wsh := ⟨2, 1, 1100, 1200, 3, 7, 150, to, []⟩
theorem grantedP_ok {to : Int} (h : 100 < to) (h2 : to ≤ 10000001) : (grantedP to).ok = true := by
 show (inB 1 0 63 && inB 2 0 63 && !decide ((1 : Int) = 2) && isRangeB 1000 2000 && isSpellB 100 to) = true
 simp [inB, isRangeB, isSpellB, h, h2]
theorem wishedW_ok {to : Int} (h : 150 < to) (h2 : to ≤ 10000001) : (wishedW to).ok = true := by
 show ((inB 2 0 63 && inB 1 0 63) && isRangeB 1100 1200 && inB 3 0 7 && inB 7 0 1000000 && isSpellB 150 to) = true
 simp [inB, isRangeB, isSpellB, h, h2]
/-- dialtone/dialtonelaw15.granted -/
theorem granted_ok (to : Int) (w0 : World) (h1 : 100 < to) (h2 : to ≤ 10000001) (hk0 : (blk 0 (kOf.map wv) 157).ok w0) :
  Ret Tryd.prog 33 #[.int .i64 to] w0 fun v w => v = .agg (((grantedP to).sealed (keyH 1)).cells).toArray ∧ Ext No w0 w := by
 refine ret_of Tryd.func33 rfl Tryd.ntmps33 (Nat.le_of_ble_eq_true rfl) fun a hfr => ?_
 replace hfr : Fr 15 [(0, _)] [] a := hfr
 replace hst : St (· = 0) w0 [blk 0 (kOf.map wv) 157] w0 := St.one hk0
 refine wc_seq_region fun K1 hK1 => ?_
 refine wl_alloc hfr hst (by decide) (Tryd.zeroValue41 _) (cs := [.int .i64 0, .int .i64 0, .int .i64 0, .int .i64 0, .int .i64 0, .int .i64 0, .string (⟨#[]⟩)]) rfl ?_
 clear hfr hst
 intro a w1 hfr hst
 refine wl_nil (hK1 _ _ ?_)
 refine wc_seq_region fun K2 hK2 => ?_
 refine wl_callp hfr hst (by decide) Tryd.call13 rfl (key_ok 1 _) ?_
 clear hfr hst
 intro a w2 hfr hst
 refine wlv hfr (v_build (v := .agg #[.int .i64 1000, .int .i64 2000]) rfl (by kernel_rfl)) ?_
 clear hfr
 intro a hfr
 refine wlv hfr (v_move rfl) ?_
 clear hfr
 intro a hfr
 refine wlv hfr (v_build (v := .agg #[.int .i64 100, .int .i64 to]) rfl (by kernel_rfl)) ?_
 clear hfr
 intro a hfr
 refine wlv hfr (v_build (v := .agg #[.int .i64 1, .int .i64 2, .int .i64 1000, .int .i64 2000, .int .i64 100, .int .i64 to, .string (⟨#[]⟩)]) rfl (by kernel_rfl)) ?_
 clear hfr
 intro a hfr
 refine wl_callp hfr hst (by decide) Tryd.call15 rfl (signproxy_ok (keyH 1) (grantedP to) _ (keyH_len _) (grantedP_ok h1 h2) (hst.get (k := 1) rfl)) ?_
 clear hfr hst
 intro a w3 hfr hst
 refine wlv hfr (v_move rfl) ?_
 clear hfr
 intro a hfr
 refine wlv hfr (v_extract rfl rfl) ?_
 clear hfr
 intro a hfr
 refine wlv hfr (v_extract rfl rfl) ?_
 clear hfr
 intro a hfr
 refine wl_alloc hfr hst (by decide) (Tryd.zeroValue41 _) (cs := [.int .i64 0, .int .i64 0, .int .i64 0, .int .i64 0, .int .i64 0, .int .i64 0, .string (⟨#[]⟩)]) rfl ?_
 clear hfr hst
 intro a w4 hfr hst
 refine wl_store 0 hfr hst rfl rfl rfl (Tryd.sizeOf41 _) rfl (Nat.le_of_ble_eq_true rfl) (ds := [.int .i64 1, .int .i64 2, .int .i64 1000, .int .i64 2000, .int .i64 100, .int .i64 to, sv (sealH (keyH 1) (grantedP to).content)]) rfl rfl ?_
 clear hfr hst
 intro a w5 hfr hst
 refine wlv hfr (v_assign rfl) ?_
 clear hfr
 intro a hfr
 refine wl_nil (hK2 _ _ ?_)
 replace hfr : Fr 15 [(2, _), (3, _)] [] a := hfr.pick [2, 3]
 refine wc_seq_region fun K3 hK3 => ?_
 refine wlv hfr (v_load_all (hst.get (k := 0) rfl) rfl (Tryd.isAgg41 _) (Tryd.sizeOf41 _)) ?_
 clear hfr
 intro a hfr
 refine wl_store 1 hfr hst rfl rfl rfl (Tryd.sizeOf41 _) rfl (Nat.le_of_ble_eq_true rfl) (ds := [.int .i64 1, .int .i64 2, .int .i64 1000, .int .i64 2000, .int .i64 100, .int .i64 to, sv (sealH (keyH 1) (grantedP to).content)]) rfl rfl ?_
 clear hfr hst
 intro a w6 hfr hst
 refine wl_nil (hK3 _ _ ?_)
 refine wc_ret ?_
 refine fin_ret hfr Tryd.results33 (resAre_cell rfl (res_all (hst.get (k := 1) rfl) (Tryd.isAgg41 _) (Tryd.sizeOf41 _)) resAre_nil) ?_
 exact ⟨rfl, hst.ext.const hk0 (hst.get (k := 2) rfl)⟩
/-- dialtone/dialtonelaw15.wished -/
theorem wished_ok (to : Int) (w0 : World) (h1 : 150 < to) (h2 : to ≤ 10000001) (hk0 : (blk 0 (kOf.map wv) 157).ok w0) :
  Ret Tryd.prog 32 #[.int .i64 to] w0 fun v w => v = .agg (((wishedW to).sealed (keyH 2)).cells).toArray ∧ Ext No w0 w := by
 refine ret_of Tryd.func32 rfl Tryd.ntmps32 (Nat.le_of_ble_eq_true rfl) fun a hfr => ?_
 replace hfr : Fr 15 [(0, _)] [] a := hfr
 replace hst : St (· = 0) w0 [blk 0 (kOf.map wv) 157] w0 := St.one hk0
 refine wc_seq_region fun K1 hK1 => ?_
 refine wl_alloc hfr hst (by decide) (Tryd.zeroValue31 _) (cs := [.int .i64 0, .int .i64 0, .int .i64 0, .int .i64 0, .int .i64 0, .int .i64 0, .int .i64 0, .int .i64 0, .string (⟨#[]⟩)]) rfl ?_
 clear hfr hst
 intro a w1 hfr hst
 refine wl_nil (hK1 _ _ ?_)
 refine wc_seq_region fun K2 hK2 => ?_
 refine wl_callp hfr hst (by decide) Tryd.call13 rfl (key_ok 2 _) ?_
 clear hfr hst
 intro a w2 hfr hst
 refine wlv hfr (v_build (v := .agg #[.int .i64 1100, .int .i64 1200]) rfl (by kernel_rfl)) ?_
 clear hfr
 intro a hfr
 refine wlv hfr (v_move rfl) ?_
 clear hfr
 intro a hfr
 refine wlv hfr (v_build (v := .agg #[.int .i64 150, .int .i64 to]) rfl (by kernel_rfl)) ?_
 clear hfr
 intro a hfr
 refine wlv hfr (v_build (v := .agg #[.int .i64 2, .int .i64 1, .int .i64 1100, .int .i64 1200, .int .i64 3, .int .i64 7, .int .i64 150, .int .i64 to, .string (⟨#[]⟩)]) rfl (by kernel_rfl)) ?_
 clear hfr
 intro a hfr
 refine wl_callp hfr hst (by decide) Tryd.call12 rfl (signwish_ok (keyH 2) (wishedW to) _ (keyH_len _) (wishedW_ok h1 h2) (hst.get (k := 1) rfl)) ?_
 clear hfr hst
 intro a w3 hfr hst
 refine wlv hfr (v_move rfl) ?_
 clear hfr
 intro a hfr
 refine wlv hfr (v_extract rfl rfl) ?_
 clear hfr
 intro a hfr
 refine wlv hfr (v_extract rfl rfl) ?_
 clear hfr
 intro a hfr
 refine wl_alloc hfr hst (by decide) (Tryd.zeroValue31 _) (cs := [.int .i64 0, .int .i64 0, .int .i64 0, .int .i64 0, .int .i64 0, .int .i64 0, .int .i64 0, .int .i64 0, .string (⟨#[]⟩)]) rfl ?_
 clear hfr hst
 intro a w4 hfr hst
 refine wl_store 0 hfr hst rfl rfl rfl (Tryd.sizeOf31 _) rfl (Nat.le_of_ble_eq_true rfl) (ds := [.int .i64 2, .int .i64 1, .int .i64 1100, .int .i64 1200, .int .i64 3, .int .i64 7, .int .i64 150, .int .i64 to, sv (sealH (keyH 2) (wishedW to).content)]) rfl rfl ?_
 clear hfr hst
 intro a w5 hfr hst
 refine wlv hfr (v_assign rfl) ?_
 clear hfr
 intro a hfr
 refine wl_nil (hK2 _ _ ?_)
 replace hfr : Fr 15 [(2, _), (3, _)] [] a := hfr.pick [2, 3]
 refine wc_seq_region fun K3 hK3 => ?_
 refine wlv hfr (v_load_all (hst.get (k := 0) rfl) rfl (Tryd.isAgg31 _) (Tryd.sizeOf31 _)) ?_
 clear hfr
 intro a hfr
 refine wl_store 1 hfr hst rfl rfl rfl (Tryd.sizeOf31 _) rfl (Nat.le_of_ble_eq_true rfl) (ds := [.int .i64 2, .int .i64 1, .int .i64 1100, .int .i64 1200, .int .i64 3, .int .i64 7, .int .i64 150, .int .i64 to, sv (sealH (keyH 2) (wishedW to).content)]) rfl rfl ?_
 clear hfr hst
 intro a w6 hfr hst
 refine wl_nil (hK3 _ _ ?_)
 refine wc_ret ?_
 refine fin_ret hfr Tryd.results32 (resAre_cell rfl (res_all (hst.get (k := 1) rfl) (Tryd.isAgg31 _) (Tryd.sizeOf31 _)) resAre_nil) ?_
 exact ⟨rfl, hst.ext.const hk0 (hst.get (k := 2) rfl)⟩
end Go.Proofs.YtmmfieceinmloaaDoor
namespace Go.Proofs.YtmmfieceinmloaaDoor
open Go.RowKit Go.PW
set_option linter.unusedVariables false
set_option linter.unusedSimpArgs false
set_option maxRecDepth 4000
/-- The persons that the proxies lead to, each with the index of the proxy that it must have granted; the last one with -1. -/
def pers : Int → List Pxy → Nat → List (Int × Int)
 | who, [], _ => [(-1, who)]
 | who, p :: l, k => ((k : Int), who) :: pers p.to l (k + 1)
def encQ (x : Int × Int) : List Value := [.int .i64 x.1, .int .i64 x.2]
def NxQ (h : Int) (xs : List Pxy) (pre : List (Int × Int)) (x : Int × Int) : Prop := ∃ suf, pers h xs 0 = pre ++ x :: suf
/-- dialtone/wish.persons$1 -/
theorem persons_run {M : Nat → Prop} {w0 : World} (h : Int) (lv : Value) (xs : List Pxy) (lp bh bl : Nat) (J Jx : List (Int × Int) → Ent → Prop) (hY : Rounds Tryd.prog M w0 lp encQ (NxQ h xs) J Jx) (e0 : Ent) (ws : World) (hsv : ∀ H w, St M w0 H w → SlAt w lv 7 (xs.map Pxy.cells)) (hJ : J [] e0) (hst : St M w0 [e0, blk bh [.int .i64 h] 3, blk bl [lv] 32] ws) :
  Ret Tryd.prog 82 #[.func (.yield lp) #[] #[], .pointer (some ⟨bh, 0, none⟩), .pointer (some ⟨bl, 0, none⟩)] ws fun _ w => ∃ e1 Hi1, St M w0 (e1 :: Hi1) w ∧ ((∃ zs, (zs = pers h xs 0 ∧ Hi1 = [blk bh [.int .i64 h] 3, blk bl [lv] 32]) ∧ J zs e1) ∨ (∃ pre, Hi1 = [blk bh [.int .i64 h] 3, blk bl [lv] 32] ∧ Jx pre e1)) := by
 refine ret_of Tryd.func82 rfl Tryd.ntmps82 (Nat.le_of_ble_eq_true rfl) fun a hfr => ?_
 replace hfr : Fr 26 [(0, _), (1, _), (2, _)] [] a := hfr
 have hlb := (hsv _ _ hst).2.1
 rw [List.length_map] at hlb
 unfold big at hlb
 refine wc_seq_region fun K1 hK1 => ?_
 refine wlv hfr (v_load_blk1 (hst.get (k := 1) rfl) rfl (Tryd.isAgg3 _) rfl) ?_
 clear hfr
 intro a hfr
 refine wlv hfr (v_assign rfl) ?_
 clear hfr
 intro a hfr
 refine wl_nil (hK1 _ _ ?_)
 refine wc_seq_k fun K2 hK2 => ?_
 refine wc_seq_region fun K3 hK3 => ?_
 refine wlv hfr (v_load_blk1 (hst.get (k := 2) rfl) rfl (Tryd.isAgg32 _) rfl) ?_
 clear hfr
 intro a hfr
 refine wlv hfr ((v_len_sl (sT := 32) (hsv _ _ hst) rfl rfl (Tryd.runUnderlying32 _)).asi (m' := (xs.length : Int)) (by rw [List.length_map])) ?_
 clear hfr
 intro a hfr
 refine wlv hfr (v_move rfl) ?_
 clear hfr
 intro a hfr
 refine wl_nil (hK3 _ _ ?_)
 refine wc_block ?_
 refine wc_loop (fun m a w => ∃ (k : Nat) (who : Int) (e : Ent) (dn : List (Int × Int)), m = xs.length - k ∧ (k ≤ xs.length) ∧ (pers h xs 0 = dn ++ pers who (xs.drop k) k) ∧ (J dn e) ∧ Fr 26 [(0, .func (.yield lp) #[] #[]), (8, lv), (9, .int .i64 (xs.length : Int)), (4, .int .i64 who), (10, .int .i64 (k : Int))] [] a ∧ St M w0 [e, blk bh [.int .i64 h] 3, blk bl [lv] 32] w) _ ⟨0, h, e0, [], rfl, Nat.zero_le _, rfl, hJ, hfr.pick [0, 8, 9, 4, 10], hst.select [0, 1, 2] (by decide)⟩ ?_
 rintro _ a w1 ⟨k, who, e, dn, rfl, hk, hp, hJ, hfr, hst⟩
 refine wc_seq_region fun K4 hK4 => ?_
 refine wlv hfr (v_lt rfl rfl) ?_
 clear hfr
 intro a hfr
 refine wl_nil (hK4 _ _ ?_)
 refine wc_seq_k fun K5 hK5 => ?_
 refine wc_cond hfr rfl (fun hc1 => ?_) (fun hc1 => ?_)
 ·rw [hc1] at hfr
  try simp only [Bool.not_eq_true', Bool.not_eq_false', decide_eq_true_eq, decide_eq_false_iff_not] at hc1
  have hkx : k < xs.length := by omega
  refine wc_skip ?_
  refine hK5 _ _ ?_
  refine wc_seq_k fun K6 hK6 => ?_
  refine wc_block ?_
  refine wc_seq_region fun K7 hK7 => ?_
  refine wlv hfr (v_move rfl) ?_
  clear hfr
  intro a hfr
  refine wlv hfr ((v_indexAddr_sl (i := (k : Int)) (sT := 32) (hsv _ _ hst) rfl rfl (Tryd.runUnderlying32 _) (Tryd.sizeOf41 _) (by omega) (by rw [List.length_map]; omega)).as (v' := slAddr lv (k * 7)) rfl) ?_
  clear hfr
  intro a hfr
  refine wlv hfr ((v_load_sl (hsv _ _ hst) (i := k) (by rw [List.length_map]; omega) rfl (Tryd.isAgg41 _) (Tryd.sizeOf41 _)).as (v' := .agg #[.int .i64 ((xs.getD k Pxy.z).frm), .int .i64 ((xs.getD k Pxy.z).to), .int .i64 ((xs.getD k Pxy.z).rf), .int .i64 ((xs.getD k Pxy.z).rt), .int .i64 ((xs.getD k Pxy.z).sf), .int .i64 ((xs.getD k Pxy.z).st), sv ((xs.getD k Pxy.z).sig)]) (by rw [el_at Pxy.z]; rfl)) ?_
  clear hfr
  intro a hfr
  refine wl_alloc hfr hst (by decide) (Tryd.zeroValue41 _) (cs := [.int .i64 0, .int .i64 0, .int .i64 0, .int .i64 0, .int .i64 0, .int .i64 0, .string (⟨#[]⟩)]) rfl ?_
  clear hfr hst
  intro a w2 hfr hst
  refine wlv hfr (v_assign rfl) ?_
  clear hfr
  intro a hfr
  refine wl_store 0 hfr hst rfl rfl rfl (Tryd.sizeOf41 _) rfl (Nat.le_of_ble_eq_true rfl) (ds := [.int .i64 ((xs.getD k Pxy.z).frm), .int .i64 ((xs.getD k Pxy.z).to), .int .i64 ((xs.getD k Pxy.z).rf), .int .i64 ((xs.getD k Pxy.z).rt), .int .i64 ((xs.getD k Pxy.z).sf), .int .i64 ((xs.getD k Pxy.z).st), sv ((xs.getD k Pxy.z).sig)]) rfl rfl ?_
  clear hfr hst
  intro a w3 hfr hst
  refine wl_nil (hK7 _ _ ?_)
  refine wc_seq_k fun K8 hK8 => ?_
  refine wc_seq_region fun K9 hK9 => ?_
  refine wlv hfr (v_move rfl) ?_
  clear hfr
  intro a hfr
  refine wlv hfr (v_move rfl) ?_
  clear hfr
  intro a hfr
  refine wlv hfr (v_move rfl) ?_
  clear hfr
  intro a hfr
  refine wl_r (r_yield rfl rfl (hY.yield (pre := dn) (x := ((k : Int), who)) ⟨_, by rw [hp, drop_cons Pxy.z hkx]; rfl⟩ hJ (hst.only (i := 1) rfl))) rfl rfl hfr ?_
  clear hfr
  intro a v w4 hR hfr
  obtain ⟨y2, e3, rfl, hx, hok, hft, hJt, hJf⟩ := hR
  replace hst := hst.exchange (k := 1) rfl hx hok hft
  replace hst : St M w0 [blk w1.heap.size [.int .i64 ((xs.getD k Pxy.z).frm), .int .i64 ((xs.getD k Pxy.z).to), .int .i64 ((xs.getD k Pxy.z).rf), .int .i64 ((xs.getD k Pxy.z).rt), .int .i64 ((xs.getD k Pxy.z).sf), .int .i64 ((xs.getD k Pxy.z).st), sv ((xs.getD k Pxy.z).sig)] 41, e3, blk bh [.int .i64 h] 3, blk bl [lv] 32] w4 := hst
  clear hx hok hft
  refine wlv hfr (v_not rfl) ?_
  clear hfr
  intro a hfr
  refine wl_nil (hK9 _ _ ?_)
  replace hfr : Fr 26 [(0, _), (8, _), (9, _), (10, _), (6, _), (19, _)] [] a := hfr.pick [0, 8, 9, 10, 6, 19]
  refine wc_cond hfr rfl (fun hc4 => ?_) (fun hc4 => ?_)
  ·rw [hc4] at hfr
   try simp only [Bool.not_eq_true', Bool.not_eq_false', decide_eq_true_eq, decide_eq_false_iff_not] at hc4
   have hJ := hJf hc4
   refine wc_ret ?_
   refine fin_ret hfr Tryd.results82 resAre_nil ?_
   exact ⟨_, _, hst.select [1, 2, 3] (by decide), .inr ⟨_, rfl, hJ⟩⟩
  rw [hc4] at hfr
  try simp only [Bool.not_eq_true', Bool.not_eq_false', decide_eq_true_eq, decide_eq_false_iff_not] at hc4
  have hJ := hJt hc4
  refine wc_skip ?_
  refine hK8 _ _ ?_
  refine wc_region ?_
  refine wlv hfr (v_fieldAddr (v := .pointer (some ⟨w1.heap.size, 1, none⟩)) rfl (by kernel_rfl)) ?_
  clear hfr
  intro a hfr
  refine wlv hfr (v_load_blk1 (hst.get (k := 0) rfl) rfl (Tryd.isAgg3 _) rfl) ?_
  clear hfr
  intro a hfr
  refine wlv hfr (v_assign rfl) ?_
  clear hfr
  intro a hfr
  refine wl_nil ?_
  refine hK6 _ _ ?_
  refine wc_region ?_
  refine wlv hfr (v_add rfl rfl ⟨by omega, by omega⟩) ?_
  clear hfr
  intro a hfr
  refine wlv hfr (v_move rfl) ?_
  clear hfr
  intro a hfr
  refine wl_nil ?_
  refine ⟨_, ?_, k + 1, (xs.getD k Pxy.z).to, e3, dn ++ [((k : Int), who)], rfl, (by omega), (by rw [hp, drop_cons Pxy.z hkx, pers, List.append_assoc]; rfl), hJ, hfr.pick [0, 8, 9, 4, 10], hst.select [1, 2, 3] (by decide)⟩
  omega
 rw [hc1] at hfr
 try simp only [Bool.not_eq_true', Bool.not_eq_false', decide_eq_true_eq, decide_eq_false_iff_not] at hc1
 obtain rfl : k = xs.length := by omega
 rw [List.drop_length] at hp
 refine wc_exit ?_
 refine hK2 _ _ ?_
 refine wc_region ?_
 refine wlv hfr (v_move rfl) ?_
 clear hfr
 intro a hfr
 refine wlv hfr (v_move rfl) ?_
 clear hfr
 intro a hfr
 refine wl_r (r_yield rfl rfl (hY.yield (pre := dn) (x := ((-1 : Int), who)) ⟨[], hp⟩ hJ (hst.only (i := 0) rfl))) rfl rfl hfr ?_
 clear hfr
 intro a v w5 hR hfr
 obtain ⟨y5, e6, rfl, hx, hok, hft, hJt, hJf⟩ := hR
 replace hst := hst.exchange (k := 0) rfl hx hok hft
 replace hst : St M w0 [e6, blk bh [.int .i64 h] 3, blk bl [lv] 32] w5 := hst
 clear hx hok hft
 refine wl_nil ?_
 refine fin_end hfr Tryd.results82 resAre_nil ?_
 rcases Bool.eq_false_or_eq_true y5 with hyy | hyy
 ·exact ⟨_, _, hst.select [0, 1, 2] (by decide), .inl ⟨_, ⟨hp.symm.symm ▸ rfl, rfl⟩, hJt hyy⟩⟩
 ·exact ⟨_, _, hst.select [0, 1, 2] (by decide), .inr ⟨_, rfl, hJf hyy⟩⟩
theorem persons_iter {M : Nat → Prop} {w0 : World} (h : Int) (lv : Value) (xs : List Pxy) (bh bl : Nat) (hsv : ∀ H w, St M w0 H w → SlAt w lv 7 (xs.map Pxy.cells)) :
  Iter Tryd.prog 82 [.pointer (some ⟨bh, 0, none⟩), .pointer (some ⟨bl, 0, none⟩)] encQ (NxQ h xs) (fun zs Hi1 => zs = pers h xs 0 ∧ Hi1 = [blk bh [.int .i64 h] 3, blk bl [lv] 32]) (fun pre Hi1 => Hi1 = [blk bh [.int .i64 h] 3, blk bl [lv] 32]) M w0 [blk bh [.int .i64 h] 3, blk bl [lv] 32] :=
 fun lp J Jx w e hY hJ hst => persons_run h lv xs lp bh bl J Jx hY e w hsv hJ hst
/-- dialtone/wish.persons -/
theorem persons_ok (h : Int) (lv : Value) (xs : List Pxy) (w0 : World) (hlv : SlAt w0 lv 7 (xs.map Pxy.cells)) :
  Ret Tryd.prog 54 #[.int .i64 h, lv] w0 (MemR w0 (fun z : Nat × Nat => .func (.func 82) #[] #[.pointer (some ⟨z.1, 0, none⟩), .pointer (some ⟨z.2, 0, none⟩)]) (fun z => [blk z.2 [lv] 32, blk z.1 [.int .i64 h] 3]) (fun _ => True)) := by
 refine ret_of Tryd.func54 rfl Tryd.ntmps54 (Nat.le_of_ble_eq_true rfl) fun a hfr => ?_
 replace hfr : Fr 6 [(0, _), (1, _)] [] a := hfr
 replace hst : St No w0 [] w0 := St.init w0
 refine wc_seq_region fun K1 hK1 => ?_
 refine wl_box hfr hst (by decide) rfl (cs := [.int .i64 h]) rfl ?_
 clear hfr hst
 intro a w1 hfr hst
 refine wl_box hfr hst (by decide) rfl (cs := [lv]) (by rw [(hst.arg hlv).cells]) ?_
 clear hfr hst
 intro a w2 hfr hst
 refine wlv hfr (v_assign rfl) ?_
 clear hfr
 intro a hfr
 refine wl_nil (hK1 _ _ ?_)
 refine wc_seq_region fun K2 hK2 => ?_
 refine wlv hfr (v_makeFunc rfl rfl) ?_
 clear hfr
 intro a hfr
 refine wlv hfr (v_assign rfl) ?_
 clear hfr
 intro a hfr
 refine wl_nil (hK2 _ _ ?_)
 refine wc_ret ?_
 refine fin_ret hfr Tryd.results54 (resAre_tmp rfl resAre_nil) ?_
 exact ⟨(w0.heap.size, w1.heap.size), rfl, trivial, hst.ext, St.out (H := []) hst⟩
end Go.Proofs.YtmmfieceinmloaaDoor
namespace Go.Proofs.YtmmfieceinmloaaDoor
open Go.RowKit Go.PW
set_option linter.unusedVariables false
set_option linter.unusedSimpArgs false
set_option maxRecDepth 4000
/-- slices.IndexFunc[[]string,string]: the first index at which the closure says yes. -/
theorem indexS_ok {M : Nat → Prop} {wb : World} {H : List Ent} {sv : Value} {els : List (List Value)} {caps : List Value} {g : FuncId} (p : Nat → Bool) (ev_ : Nat → Value) (J : Nat → Ent → Prop) (e0 : Ent) (w0 : World)
  (hen : ∀ args w, (callFunc g args).run Tryd.prog w = .ok (.enter g args) w) (hs : ∀ e w, St M wb (e :: H) w → SlAt w sv 1 els)
  (hev : ∀ k (h : k < els.length), (els[k])[0]? = some (ev_ k)) (hJ0 : J 0 e0) (hst : St M wb (e0 :: H) w0)
  (hcl : ∀ k e w, k < els.length → J k e → e.ok w → (∀ b, e.foot b → b < w.heap.size) → Ret Tryd.prog g ([ev_ k] ++ caps).toArray w fun v w' => v = .bool (p k) ∧ ∃ e', Ext e.foot w w' ∧ e'.ok w' ∧ (∀ b, e'.foot b → b < w'.heap.size ∧ (e.foot b ∨ w.heap.size ≤ b)) ∧ J (k + 1) e') :
  Ret Tryd.prog 81 #[sv, .func (.func g) #[] caps.toArray] w0 fun v w => v = .int .i64 (fstIdx p els.length) ∧ ∃ k e', J k e' ∧ St M wb (e' :: H) w := by
 have hsl := (hs _ _ hst).le
 refine ret_of Tryd.func81 rfl Tryd.ntmps81 (Nat.le_of_ble_eq_true rfl) fun a hfr => ?_
 have hfr : Fr 19 [(0, _), (1, _)] [] a := hfr
 refine wc_seq_region fun K1 hK1 => ?_
 refine wlv hfr (v_assign rfl) fun a hfr => ?_
 refine wl_nil (hK1 _ _ ?_)
 refine wc_seq_k fun K2 hK2 => ?_
 refine wc_seq_region fun K3 hK3 => ?_
 refine wlv hfr (v_move rfl) fun a hfr => ?_
 refine wlv hfr (v_len_sl (sT := 46) (hs _ _ hst) rfl rfl (Tryd.runUnderlying46 _)) fun a hfr => ?_
 refine wlv hfr (v_move rfl) fun a hfr => ?_
 refine wl_nil (hK3 _ _ ?_)
 refine wc_block ?_
 refine wc_loop (fun m a w => ∃ (k : Nat) (e : Ent), m = els.length - k ∧ (k ≤ els.length) ∧ (∀ j, j < k → p j = false) ∧ (J k e) ∧ Fr 19 [(0, sv), (1, .func (.func g) #[] caps.toArray), (6, sv), (7, .int .i64 els.length), (8, .int .i64 (k : Int))] [] a ∧ St M wb (e :: H) w) _ ⟨0, e0, rfl, Nat.zero_le _, (by intro j hj; omega), hJ0, hfr.pick [0, 1, 6, 7, 8], hst⟩ ?_
 rintro _ a w1 ⟨k, e, rfl, hk, hp, hJ, hfr, hst⟩
 refine wc_seq_region fun K4 hK4 => ?_
 refine wlv hfr (v_lt rfl rfl) fun a hfr => ?_
 refine wl_nil (hK4 _ _ ?_)
 refine wc_seq_k fun K5 hK5 => ?_
 refine wc_cond hfr rfl (fun hc1 => ?_) (fun hc1 => ?_)
 ·rw [hc1] at hfr
  try simp only [Bool.not_eq_true', Bool.not_eq_false', decide_eq_true_eq, decide_eq_false_iff_not] at hc1
  refine wc_skip ?_
  refine hK5 _ _ ?_
  refine wc_seq_k fun K6 hK6 => ?_
  refine wc_block ?_
  refine wc_seq_region fun K7 hK7 => ?_
  refine wlv hfr (v_move rfl) fun a hfr => ?_
  refine wlv hfr (v_assign rfl) fun a hfr => ?_
  refine wl_nil (hK7 _ _ ?_)
  refine wc_seq_region fun K8 hK8 => ?_
  refine wlv hfr (v_move rfl) fun a hfr => ?_
  refine wlv hfr (v_move rfl) fun a hfr => ?_
  refine wlv hfr (v_move rfl) fun a hfr => ?_
  refine wlv hfr ((v_indexAddr_sl (i := (k : Int)) (sT := 46) (hs _ _ hst) rfl rfl (Tryd.runUnderlying46 _) (Tryd.sizeOf9 _) (by omega) (by omega)).as (v' := slAddr sv (k * 1)) rfl) fun a hfr => ?_
  refine wlv hfr ((v_load_sl1 (u := ev_ k) (i := k) (j := 0) (hs _ _ hst) (by omega) rfl (Tryd.isAgg9 _) (hev k (by omega)))) fun a hfr => ?_
  refine wl_r (r_callv (cap := caps) rfl hen rfl (hcl k _ _ (by omega) hJ (hst.get (k := 0) rfl) (fun b hb => hst.lt (k := 0) rfl hb))) rfl rfl hfr fun a v w2 hR hfr => ?_
  obtain ⟨rfl, e1, hx, hok, hft, hJ1⟩ := hR
  have hst := hst.exchange (k := 0) rfl hx hok hft
  have hst : St M wb (e1 :: H) w2 := hst
  refine wl_nil (hK8 _ _ ?_)
  refine wc_cond hfr rfl (fun hc2 => ?_) (fun hc2 => ?_)
  ·rw [hc2] at hfr
   try simp only [Bool.not_eq_true', Bool.not_eq_false', decide_eq_true_eq, decide_eq_false_iff_not] at hc2
   refine wc_seq_region fun K9 hK9 => ?_
   refine wlv hfr (v_move rfl) fun a hfr => ?_
   refine wlv hfr (v_assign rfl) fun a hfr => ?_
   refine wl_nil (hK9 _ _ ?_)
   refine wc_ret ?_
   refine fin_ret hfr Tryd.results81 (resAre_tmp rfl resAre_nil) ?_
   exact ⟨by rw [fstIdx_some (k := k) (by omega) hp (by assumption)]; rfl, _, _, hJ1, hst⟩
  rw [hc2] at hfr
  try simp only [Bool.not_eq_true', Bool.not_eq_false', decide_eq_true_eq, decide_eq_false_iff_not] at hc2
  refine wc_skip ?_
  refine hK6 _ _ ?_
  refine wc_region ?_
  refine wlv hfr (v_add rfl rfl ⟨by omega, by omega⟩) fun a hfr => ?_
  refine wlv hfr (v_move rfl) fun a hfr => ?_
  refine wl_nil ?_
  refine ⟨_, ?_, k + 1, e1, rfl, (by omega), (by intro j hj; by_cases h : j = k; (subst h; assumption); exact hp j (by omega)), hJ1, hfr.pick [0, 1, 6, 7, 8], hst⟩
  omega
 rw [hc1] at hfr
 try simp only [Bool.not_eq_true', Bool.not_eq_false', decide_eq_true_eq, decide_eq_false_iff_not] at hc1
 refine wc_exit ?_
 refine hK2 _ _ ?_
 refine wc_seq_region fun K10 hK10 => ?_
 refine wlv hfr (v_assign rfl) fun a hfr => ?_
 refine wl_nil (hK10 _ _ ?_)
 refine wc_ret ?_
 refine fin_ret hfr Tryd.results81 (resAre_tmp rfl resAre_nil) ?_
 have hkl : k = els.length := by omega
 subst hkl
 exact ⟨by rw [fstIdx_none hp]; rfl, _, _, hJ, hst⟩
/-- slices.ContainsFunc[[]string,string]: does the closure say yes anywhere? -/
theorem containsS_ok {M : Nat → Prop} {wb : World} {H : List Ent} {sv : Value} {els : List (List Value)} {caps : List Value} {g : FuncId} (p : Nat → Bool) (ev_ : Nat → Value) (J : Nat → Ent → Prop) (e0 : Ent) (w0 : World)
  (hen : ∀ args w, (callFunc g args).run Tryd.prog w = .ok (.enter g args) w) (hs : ∀ e w, St M wb (e :: H) w → SlAt w sv 1 els)
  (hev : ∀ k (h : k < els.length), (els[k])[0]? = some (ev_ k)) (hJ0 : J 0 e0) (hst : St M wb (e0 :: H) w0)
  (hcl : ∀ k e w, k < els.length → J k e → e.ok w → (∀ b, e.foot b → b < w.heap.size) → Ret Tryd.prog g ([ev_ k] ++ caps).toArray w fun v w' => v = .bool (p k) ∧ ∃ e', Ext e.foot w w' ∧ e'.ok w' ∧ (∀ b, e'.foot b → b < w'.heap.size ∧ (e.foot b ∨ w.heap.size ≤ b)) ∧ J (k + 1) e') :
  Ret Tryd.prog 52 #[sv, .func (.func g) #[] caps.toArray] w0 fun v w => v = .bool ((List.range els.length).any p) ∧ ∃ k e', J k e' ∧ St M wb (e' :: H) w := by
 refine ret_of Tryd.func52 rfl Tryd.ntmps52 (Nat.le_of_ble_eq_true rfl) fun a hfr => ?_
 have hfr : Fr 9 [(0, _), (1, _)] [] a := hfr
 refine wc_seq_region fun K1 hK1 => ?_
 refine wlv hfr (v_assign rfl) fun a hfr => ?_
 refine wl_nil (hK1 _ _ ?_)
 refine wc_seq_region fun K2 hK2 => ?_
 refine wlv hfr (v_move rfl) fun a hfr => ?_
 refine wlv hfr (v_move rfl) fun a hfr => ?_
 refine wl_r (r_call Tryd.call81 rfl (indexS_ok p ev_ J e0 _ hen hs hev hJ0 hst hcl)) rfl rfl hfr fun a v w1 hR hfr => ?_
 obtain ⟨rfl, kk, e1, hJ1, hst⟩ := hR
 refine wlv hfr (v_ge rfl rfl) fun a hfr => ?_
 refine wlv hfr (v_assign rfl) fun a hfr => ?_
 refine wl_nil (hK2 _ _ ?_)
 refine wc_ret ?_
 refine fin_ret hfr Tryd.results52 (resAre_tmp rfl resAre_nil) ?_
 exact ⟨by rw [fstIdx_any]; rfl, _, _, hJ1, hst⟩
/-- slices.ContainsFunc[[]dialtone/api.Proxy,dialtone/api.Proxy]: does the closure say yes anywhere? -/
theorem containsP_ok {M : Nat → Prop} {wb : World} {H : List Ent} {sv : Value} {els : List (List Value)} {caps : List Value} {g : FuncId} (p : Nat → Bool) (ev_ : Nat → Value) (J : Nat → Ent → Prop) (e0 : Ent) (w0 : World)
  (hen : ∀ args w, (callFunc g args).run Tryd.prog w = .ok (.enter g args) w) (hs : ∀ e w, St M wb (e :: H) w → SlAt w sv 7 els)
  (hev : ∀ k (h : k < els.length), .agg (els[k]).toArray = ev_ k) (hJ0 : J 0 e0) (hst : St M wb (e0 :: H) w0)
  (hcl : ∀ k e w, k < els.length → J k e → e.ok w → (∀ b, e.foot b → b < w.heap.size) → Ret Tryd.prog g ([ev_ k] ++ caps).toArray w fun v w' => v = .bool (p k) ∧ ∃ e', Ext e.foot w w' ∧ e'.ok w' ∧ (∀ b, e'.foot b → b < w'.heap.size ∧ (e.foot b ∨ w.heap.size ≤ b)) ∧ J (k + 1) e') :
  Ret Tryd.prog 63 #[sv, .func (.func g) #[] caps.toArray] w0 fun v w => v = .bool ((List.range els.length).any p) ∧ ∃ k e', J k e' ∧ St M wb (e' :: H) w := by
 refine ret_of Tryd.func63 rfl Tryd.ntmps63 (Nat.le_of_ble_eq_true rfl) fun a hfr => ?_
 have hfr : Fr 9 [(0, _), (1, _)] [] a := hfr
 refine wc_seq_region fun K1 hK1 => ?_
 refine wlv hfr (v_assign rfl) fun a hfr => ?_
 refine wl_nil (hK1 _ _ ?_)
 refine wc_seq_region fun K2 hK2 => ?_
 refine wlv hfr (v_move rfl) fun a hfr => ?_
 refine wlv hfr (v_move rfl) fun a hfr => ?_
 refine wl_r (r_call Tryd.call76 rfl (indexP_ok p ev_ J e0 _ hen hs hev hJ0 hst hcl)) rfl rfl hfr fun a v w1 hR hfr => ?_
 obtain ⟨rfl, kk, e1, hJ1, hst⟩ := hR
 refine wlv hfr (v_ge rfl rfl) fun a hfr => ?_
 refine wlv hfr (v_assign rfl) fun a hfr => ?_
 refine wl_nil (hK2 _ _ ?_)
 refine wc_ret ?_
 refine fin_ret hfr Tryd.results63 (resAre_tmp rfl resAre_nil) ?_
 exact ⟨by rw [fstIdx_any]; rfl, _, _, hJ1, hst⟩
theorem any_pxy {u : Value} {xs : List Pxy} {g : FuncId} (p : Pxy → Bool) (w0 : World) (hen : ∀ args w, (callFunc g args).run Tryd.prog w = .ok (.enter g args) w) (hs : SlAt w0 u 7 (xs.map Pxy.cells))
  (hcl : ∀ (x : Pxy) (w : World), x ∈ xs → Ret Tryd.prog g #[.agg x.cells.toArray] w fun v w' => v = .bool (p x) ∧ Ext No w w') :
  Ret Tryd.prog 63 #[u, .func (.func g) #[] #[]] w0 fun v w => v = .bool (xs.any p) ∧ Ext No w0 w := by
 have hst : St No w0 [join []] w0 := St.join [] [] (St.init w0)
 have h := containsP_ok (M := No) (wb := w0) (H := []) (sv := u) (els := xs.map Pxy.cells) (caps := []) (g := g) (fun k => p (xs.getD k Pxy.z)) (fun k => .agg (xs.getD k Pxy.z).cells.toArray) (fun _ e => e = join []) (join []) w0 hen
  (fun e w h => h.arg hs) (fun k h => by rw [el_at Pxy.z]) rfl hst (fun k e w hk he hok hlt => by
   subst he
   refine (hcl _ w (getD_mem (by simpa using hk))).mono fun v w' ⟨h1, h2⟩ => ⟨h1, join [], h2.mono (fun k _ hk => hk.elim), ?_, ?_, rfl⟩
   ·exact ⟨fun e he => (by cases he), List.Pairwise.nil⟩
   ·rintro b ⟨e, he, _⟩
    cases he)
 refine h.mono fun v w ⟨h1, k, e, he, hst⟩ => ⟨?_, hst.ext⟩
 rw [h1, List.length_map]
 congr 1
 rw [Bool.eq_iff_iff, List.any_eq_true, List.any_eq_true]
 constructor
 ·rintro ⟨k, hk, hp⟩
  exact ⟨_, getD_mem (List.mem_range.1 hk), hp⟩
 ·rintro ⟨x, hx, hp⟩
  obtain ⟨k, hk, rfl⟩ := List.getElem_of_mem hx
  exact ⟨k, List.mem_range.2 hk, by rw [List.getD_eq_getElem?_getD, List.getElem?_eq_getElem hk]; exact hp⟩
theorem any_str {u : Value} {xs : List By} {g : FuncId} (p : By → Bool) (w0 : World) (hen : ∀ args w, (callFunc g args).run Tryd.prog w = .ok (.enter g args) w) (hs : SlAt w0 u 1 (xs.map (fun s => [sv s])))
  (hcl : ∀ (x : By) (w : World), x ∈ xs → Ret Tryd.prog g #[sv x] w fun v w' => v = .bool (p x) ∧ Ext No w w') :
  Ret Tryd.prog 52 #[u, .func (.func g) #[] #[]] w0 fun v w => v = .bool (xs.any p) ∧ Ext No w0 w := by
 have hst : St No w0 [join []] w0 := St.join [] [] (St.init w0)
 have h := containsS_ok (M := No) (wb := w0) (H := []) (sv := u) (els := xs.map (fun s => [sv s])) (caps := []) (g := g) (fun k => p (xs.getD k [])) (fun k => sv (xs.getD k [])) (fun _ e => e = join []) (join []) w0 hen
  (fun e w h => h.arg hs) (fun k h => by rw [el_at []]; rfl) rfl hst (fun k e w hk he hok hlt => by
   subst he
   refine (hcl _ w (getD_mem (by simpa using hk))).mono fun v w' ⟨h1, h2⟩ => ⟨h1, join [], h2.mono (fun k _ hk => hk.elim), ?_, ?_, rfl⟩
   ·exact ⟨fun e he => (by cases he), List.Pairwise.nil⟩
   ·rintro b ⟨e, he, _⟩
    cases he)
 refine h.mono fun v w ⟨h1, k, e, he, hst⟩ => ⟨?_, hst.ext⟩
 rw [h1, List.length_map]
 congr 1
 rw [Bool.eq_iff_iff, List.any_eq_true, List.any_eq_true]
 constructor
 ·rintro ⟨k, hk, hp⟩
  exact ⟨_, getD_mem (List.mem_range.1 hk), hp⟩
 ·rintro ⟨x, hx, hp⟩
  obtain ⟨k, hk, rfl⟩ := List.getElem_of_mem hx
  exact ⟨k, List.mem_range.2 hk, by rw [List.getD_eq_getElem?_getD, List.getElem?_eq_getElem hk]; exact hp⟩
/-- dialtone/wish.Why$1 -/
theorem why1_ok (s : By) (w0 : World) :
  Ret Tryd.prog 51 #[sv s] w0 fun v w => v = .bool (!decide ((s.length : Int) = 32)) ∧ Ext No w0 w := by
 refine ret_of Tryd.func51 rfl Tryd.ntmps51 (Nat.le_of_ble_eq_true rfl) fun a hfr => ?_
 replace hfr : Fr 6 [(0, _)] [] a := hfr
 replace hst : St No w0 [] w0 := St.init w0
 refine wc_seq_region fun K1 hK1 => ?_
 refine wlv hfr (v_assign rfl) ?_
 clear hfr
 intro a hfr
 refine wl_nil (hK1 _ _ ?_)
 refine wc_seq_region fun K2 hK2 => ?_
 refine wlv hfr (v_move rfl) ?_
 clear hfr
 intro a hfr
 refine wl_callp hfr hst (by decide) Tryd.call39 rfl (isKey_ok s _) ?_
 clear hfr hst
 intro a w1 hfr hst
 refine wlv hfr (v_not rfl) ?_
 clear hfr
 intro a hfr
 refine wlv hfr (v_assign rfl) ?_
 clear hfr
 intro a hfr
 refine wl_nil (hK2 _ _ ?_)
 refine wc_ret ?_
 refine fin_ret hfr Tryd.results51 (resAre_tmp rfl resAre_nil) ?_
 exact ⟨by rfl, hst.ext⟩
/-- dialtone/wish.Encode$1 -/
theorem enc1_ok (x : Pxy) (w0 : World) :
  Ret Tryd.prog 62 #[.agg #[.int .i64 x.frm, .int .i64 x.to, .int .i64 x.rf, .int .i64 x.rt, .int .i64 x.sf, .int .i64 x.st, sv x.sig]] w0 fun v w => v = .bool (!decide ((x.sig.length : Int) = 32)) ∧ Ext No w0 w := by
 refine ret_of Tryd.func62 rfl Tryd.ntmps62 (Nat.le_of_ble_eq_true rfl) fun a hfr => ?_
 replace hfr : Fr 7 [(0, _)] [] a := hfr
 replace hst : St No w0 [] w0 := St.init w0
 refine wc_seq_region fun K1 hK1 => ?_
 refine wl_box hfr hst (by decide) rfl (cs := [.int .i64 x.frm, .int .i64 x.to, .int .i64 x.rf, .int .i64 x.rt, .int .i64 x.sf, .int .i64 x.st, sv x.sig]) rfl ?_
 clear hfr hst
 intro a w1 hfr hst
 refine wlv hfr (v_assign rfl) ?_
 clear hfr
 intro a hfr
 refine wl_nil (hK1 _ _ ?_)
 refine wc_seq_region fun K2 hK2 => ?_
 refine wlv hfr (v_fieldAddr (v := .pointer (some ⟨w0.heap.size, 6, none⟩)) rfl (by kernel_rfl)) ?_
 clear hfr
 intro a hfr
 refine wlv hfr (v_load_blk1 (hst.get (k := 0) rfl) rfl (Tryd.isAgg9 _) rfl) ?_
 clear hfr
 intro a hfr
 refine wlv hfr (v_len_str rfl rfl (Tryd.runUnderlying9 _)) ?_
 clear hfr
 intro a hfr
 refine wlv hfr (v_ne rfl rfl) ?_
 clear hfr
 intro a hfr
 refine wlv hfr (v_assign rfl) ?_
 clear hfr
 intro a hfr
 refine wl_nil (hK2 _ _ ?_)
 replace hfr : Fr 7 [(2, _)] [] a := hfr.pick [2]
 replace hst : St No w0 [] w1 := hst.mask [false]
 refine wc_ret ?_
 refine fin_ret hfr Tryd.results62 (resAre_tmp rfl resAre_nil) ?_
 exact ⟨by rfl, hst.ext⟩
end Go.Proofs.YtmmfieceinmloaaDoor
namespace Go.Proofs.YtmmfieceinmloaaDoor
open Go.RowKit Go.PW
set_option linter.unusedVariables false
set_option linter.unusedSimpArgs false
set_option maxRecDepth 4000
/-- dialtone/wish.Account$1 -/
theorem acc1_run {M : Nat → Prop} {w0 : World} (b bx by_ : Nat) (v : Value) (n d : Int) (ws : World) (hx : smalls [3, n, d]) (hst : St M w0 [bld 108 b (.pointer none) v ([] : By), blk bx [.int .i64 n] 3, blk by_ [.int .i64 d] 3] ws) :
  Ret Tryd.prog 58 #[.pointer (some ⟨b, 0, none⟩), .pointer (some ⟨bx, 0, none⟩), .pointer (some ⟨by_, 0, none⟩)] ws fun u w => u = .tuple #[] ∧ ∃ v2, St M w0 [bld 108 b (.pointer (some ⟨b, 0, none⟩)) v2 (puts [3, n, d]), blk bx [.int .i64 n] 3, blk by_ [.int .i64 d] 3] w := by
 refine ret_of Tryd.func58 rfl Tryd.ntmps58 (Nat.le_of_ble_eq_true rfl) fun a hfr => ?_
 replace hfr : Fr 9 [(0, _), (1, _), (2, _)] [] a := hfr
 skip
 refine wc_region ?_
 refine wlv hfr (v_move rfl) ?_
 clear hfr
 intro a hfr
 refine wlv hfr (v_load_blk1 (hst.get (k := 1) rfl) rfl (Tryd.isAgg3 _) rfl) ?_
 clear hfr
 intro a hfr
 refine wlv hfr (v_load_blk1 (hst.get (k := 2) rfl) rfl (Tryd.isAgg3 _) rfl) ?_
 clear hfr
 intro a hfr
 refine wl_buildSlice (E := 3) (sz := 1) rfl [[.int .i64 3], [.int .i64 n], [.int .i64 d]] (by kernel_rfl) (by simp) rfl (by decide) (by decide) hfr hst ?_
 clear hfr hst
 intro a w1 hfr hst
 replace hst : St M w0 [bld 108 b (.pointer none) v ([] : By), own (.slice (some ⟨ws.heap.size, 0, none⟩) 3 3) 3 1 ([[.int .i64 3], [.int .i64 n], [.int .i64 d]]), blk bx [.int .i64 n] 3, blk by_ [.int .i64 d] 3] w1 := hst.select [1, 0, 2, 3] (by decide)
 replace hst := St.join [bld 108 b (.pointer none) v ([] : By), own (.slice (some ⟨ws.heap.size, 0, none⟩) 3 3) 3 1 ([[.int .i64 3], [.int .i64 n], [.int .i64 d]])] [blk bx [.int .i64 n] 3, blk by_ [.int .i64 d] 3] hst
 refine wl_callE (R := fun u e' => u = .tuple #[] ∧ ∃ v2, e' = bld 108 b (.pointer (some ⟨b, 0, none⟩)) v2 (([] : By) ++ puts [3, n, d])) 0 hfr hst rfl (by decide) Tryd.call59 rfl (fun h => (numbers_ok 108 b _ _ _ _ [3, n, d] _ (by kernel_rfl) (.inl rfl) hx (by simp) (by simp) (St.unjoin [bld 108 b (.pointer none) v ([] : By), own (.slice (some ⟨ws.heap.size, 0, none⟩) 3 3) 3 1 ([[.int .i64 3], [.int .i64 n], [.int .i64 d]])] [] h)).mono fun u w ⟨h1, v2, h2⟩ => ⟨_, ⟨h1, v2, rfl⟩, h2⟩) ?_
 clear hfr hst
 rintro a w2 _ _ ⟨rfl, v1, rfl⟩ hfr hst
 replace hst : St M w0 [bld 108 b (.pointer (some ⟨b, 0, none⟩)) v1 (([] : By) ++ puts [3, n, d]), blk bx [.int .i64 n] 3, blk by_ [.int .i64 d] 3] w2 := hst
 refine wl_nil ?_
 refine fin_end hfr Tryd.results58 resAre_nil ?_
 exact ⟨rfl, _, hst.select [0, 1, 2] (by decide)⟩
end Go.Proofs.YtmmfieceinmloaaDoor
namespace Go.Proofs.YtmmfieceinmloaaDoor
set_option linter.unusedVariables false
set_option linter.unusedSimpArgs false
/-- The value of groups of seven bits. -/
def gv : By → Nat
  | [] => 0
  | b :: l => b.toNat % 128 + 128 * gv l
/-- The integer that a number encodes. -/
def uz (z : Nat) : Int := if z % 2 = 0 then ((z / 2 : Nat) : Int) else -((z / 2 : Nat) : Int) - 1
theorem uz_zz (n : Int) : uz (zz n) = n := by
  unfold uz zz
  split <;> split <;> omega
theorem zz_uz (z : Nat) : zz (uz z) = z := by
  unfold uz zz
  split <;> split <;> omega
/-- The bytes of one integer, and the rest. -/
def rdG : Nat → By → Option (By × By)
  | 0, _ => none
  | _ + 1, [] => none
  | f + 1, b :: s => if b.toNat < 128 then some ([b], s) else (rdG f s).map fun p => (b :: p.1, p.2)
def rdI (s : By) : Option (Int × By) :=
  match rdG 9 s with
  | none => none
  | some (l, r) => if vb 8 (gv l) = l ∧ -4611686018427387903 ≤ uz (gv l) then some (uz (gv l), r) else none
theorem gv_lt : ∀ l : By, gv l < 128 ^ l.length
  | [] => by simp [gv]
  | b :: l => by
    have h := gv_lt l
    have := Nat.mod_lt b.toNat (y := 128) (by decide)
    rw [gv, List.length_cons, Nat.pow_succ]
    omega
theorem gv_vb : ∀ (f z : Nat), z < 128 ^ (f + 1) → gv (vb f z) = z
  | 0, z, h => by
    have h : z < 128 := by simpa using h
    rw [vb, gv, ofNat_lt (by omega), gv]; omega
  | f + 1, z, h => by
    unfold vb
    split
    · rw [gv, ofNat_lt (by omega), gv]; omega
    · rw [gv, ofNat_lt (by omega), gv_vb f _ (by rw [Nat.pow_succ] at h; exact Nat.div_lt_of_lt_mul (by rw [Nat.mul_comm]; exact h))]
      omega
theorem rdG_vb : ∀ (f z : Nat) (r : By), z < 128 ^ (f + 1) → rdG (f + 1) (vb f z ++ r) = some (vb f z, r)
  | 0, z, r, h => by
    have h : z < 128 := by simpa using h
    rw [vb, List.cons_append, List.nil_append, rdG, ofNat_lt (by omega), if_pos h]
  | f + 1, z, r, h => by
    unfold vb
    split
    · rw [List.cons_append, List.nil_append, rdG, ofNat_lt (by omega), if_pos (by assumption)]
    · rw [List.cons_append, rdG, ofNat_lt (by omega), if_neg (by omega), rdG_vb f _ r (by rw [Nat.pow_succ] at h; exact Nat.div_lt_of_lt_mul (by rw [Nat.mul_comm]; exact h))]
      rfl
theorem rdG_some : ∀ {f : Nat} {s l r : By}, rdG f s = some (l, r) → s = l ++ r ∧ l.length ≤ f
  | 0, s, l, r, h => by cases h
  | f + 1, [], l, r, h => by cases h
  | f + 1, b :: s, l, r, h => by
    rw [rdG] at h
    split at h
    · cases h; exact ⟨rfl, by simp⟩
    · cases hq : rdG f s with
      | none => rw [hq] at h; cases h
      | some p =>
        rw [hq] at h
        obtain ⟨l1, r1⟩ := p
        cases h
        obtain ⟨h1, h2⟩ := rdG_some hq
        exact ⟨by rw [h1]; rfl, by simp; omega⟩
theorem pow128 : (128 : Nat) ^ 9 = 9223372036854775808 := by decide
theorem rdI_put {n : Int} (h : small n) (r : By) : rdI (putI n ++ r) = some (n, r) := by
  have hz := zz_lt h.1 h.2
  unfold rdI putI
  rw [rdG_vb 8 _ r (by rw [pow128]; exact hz)]
  simp only
  rw [gv_vb 8 _ (by rw [pow128]; exact hz), uz_zz, if_pos ⟨rfl, h.1⟩]
theorem rdI_some {s r : By} {n : Int} (h : rdI s = some (n, r)) : small n ∧ s = putI n ++ r := by
  unfold rdI at h
  split at h
  · cases h
  · rename_i l r1 hq
    split at h
    · rename_i hc
      cases h
      obtain ⟨h1, h2⟩ := rdG_some hq
      refine ⟨⟨hc.2, ?_⟩, ?_⟩
      · have h3 := gv_lt l
        have h4 : (128 : Nat) ^ l.length ≤ 128 ^ 9 := Nat.pow_le_pow_right (by decide) h2
        rw [pow128] at h4
        unfold uz
        split <;> omega
      · rw [h1]; unfold putI; rw [zz_uz, hc.1]
    · cases h
theorem canon : ∀ (f : Nat) (l : By) (b : UInt8), l.length ≤ f → (∀ c ∈ l, 128 ≤ c.toNat) → b.toNat < 128 → (vb f (gv (l ++ [b])) = l ++ [b] ↔ (l = [] ∨ b ≠ 0))
  | f, [], b, hl, hc, hb => by
    have e : gv ([] ++ [b]) = b.toNat := by simp [gv]; omega
    rw [e]
    have h2 : UInt8.ofNat b.toNat = b := by simp
    cases f with
    | zero => simp [vb]
    | succ f => rw [vb, if_pos hb]; simp
  | 0, c :: l, b, hl, hc, hb => by simp at hl
  | f + 1, c :: l, b, hl, hc, hb => by
    have hcc := hc c (by simp)
    have hc2 : c.toNat < 256 := c.toNat_lt
    have ih := canon f l b (by simpa using hl) (fun c h => hc c (by simp [h])) hb
    have e : gv (c :: l ++ [b]) = c.toNat % 128 + 128 * gv (l ++ [b]) := rfl
    have hcb : UInt8.ofNat (c.toNat % 128 + 128) = c := by
      rw [show c.toNat % 128 + 128 = c.toNat from by omega]; simp
    constructor
    · intro h
      right
      intro hb0
      rw [e, vb] at h
      split at h
      · have := congrArg List.length h
        simp at this
      · rename_i h128
        rw [List.cons_append] at h
        injection h with h1 h2
        rw [show (c.toNat % 128 + 128 * gv (l ++ [b])) / 128 = gv (l ++ [b]) from by omega] at h2
        rcases ih.1 h2 with rfl | h3
        · subst hb0
          simp [gv] at h128; omega
        · exact h3 hb0
    · intro h
      have hb0 : b ≠ 0 := h.resolve_left (by simp)
      have hpos : ∀ l : By, 0 < gv (l ++ [b]) := by
        intro l
        induction l with
        | nil =>
          have : b.toNat ≠ 0 := fun h0 => hb0 (UInt8.toNat_inj.1 (by rw [h0]; rfl))
          simp [gv]; omega
        | cons d l ih => rw [List.cons_append, gv]; omega
      have hp := hpos l
      rw [e, vb, if_neg (by omega), show (c.toNat % 128 + 128 * gv (l ++ [b])) / 128 = gv (l ++ [b]) from by omega, show (c.toNat % 128 + 128 * gv (l ++ [b])) % 128 = c.toNat % 128 from by omega, hcb, ih.2 (.inr hb0)]
      rfl
theorem gv_snoc : ∀ (l : By) (b : UInt8), gv (l ++ [b]) = gv l + b.toNat % 128 * 128 ^ l.length
  | [], b => by simp [gv]
  | c :: l, b => by
    rw [List.cons_append, gv, gv_snoc l b, gv, List.length_cons, Nat.pow_succ, Nat.mul_add, Nat.add_assoc]
    congr 1
    congr 1
    rw [Nat.mul_comm, Nat.mul_assoc]
/-- The walk's own words: f groups may follow, i were read, their value is z. -/
def wI : Nat → Nat → Nat → By → Option (Int × Nat)
  | 0, _, _, _ => none
  | _ + 1, _, _, [] => none
  | f + 1, i, z, b :: s =>
    if b.toNat < 128 then (if (b = 0 ∧ 0 < i) ∨ uz (z + b.toNat % 128 * 128 ^ i) < -4611686018427387903 then none else some (uz (z + b.toNat % 128 * 128 ^ i), i + 1))
    else wI f (i + 1) (z + b.toNat % 128 * 128 ^ i) s
theorem wI_gen : ∀ (f : Nat) (l s : By), f + l.length = 9 → (∀ c ∈ l, 128 ≤ c.toNat) →
    wI f l.length (gv l) s = match rdG f s with
      | none => none
      | some (m, r) => if vb 8 (gv (l ++ m)) = l ++ m ∧ -4611686018427387903 ≤ uz (gv (l ++ m)) then some (uz (gv (l ++ m)), (l ++ m).length) else none
  | 0, l, s, hf, hl => rfl
  | f + 1, l, [], hf, hl => rfl
  | f + 1, l, b :: s, hf, hl => by
    rw [wI, rdG]
    by_cases hb : b.toNat < 128
    · rw [if_pos hb, if_pos hb]
      simp only
      rw [← gv_snoc]
      have hc := canon 8 l b (by omega) hl hb
      have h0 : 0 < l.length ↔ l ≠ [] := by rw [List.length_pos_iff]
      by_cases h1 : vb 8 (gv (l ++ [b])) = l ++ [b]
      · have h2 := hc.1 h1
        by_cases h3 : uz (gv (l ++ [b])) < -4611686018427387903
        · rw [if_pos (.inr h3), if_neg (by omega)]
        · rw [if_neg, if_pos ⟨h1, by omega⟩]
          · simp
          · rintro (⟨h4, h5⟩ | h4)
            · rcases h2 with h2 | h2
              · exact (h0.1 h5) h2
              · exact h2 h4
            · exact h3 h4
      · have h2 : ¬ (l = [] ∨ b ≠ 0) := fun h => h1 (hc.2 h)
        rw [if_pos, if_neg (fun h => h1 h.1)]
        refine .inl ⟨?_, ?_⟩
        · exact Classical.byContradiction fun h => h2 (.inr h)
        · exact h0.2 fun h => h2 (.inl h)
    · rw [if_neg hb, if_neg hb, ← gv_snoc]
      have := wI_gen f (l ++ [b]) s (by simp; omega) (by
        intro c h
        rcases List.mem_append.1 h with h | h
        · exact hl c h
        · rw [List.mem_singleton.1 h]; omega)
      rw [List.length_append, List.length_cons, List.length_nil] at this
      rw [this]
      cases hq : rdG f s with
      | none => rfl
      | some p => simp [List.append_assoc]
theorem wI_rdI (s : By) : wI 9 0 0 s = (rdI s).map fun p => (p.1, s.length - p.2.length) := by
  have h := wI_gen 9 [] s rfl (by simp)
  rw [show gv [] = 0 from rfl, show ([] : By).length = 0 from rfl] at h
  rw [h]
  unfold rdI
  cases hq : rdG 9 s with
  | none => rfl
  | some p =>
    obtain ⟨m, r⟩ := p
    obtain ⟨h1, h2⟩ := rdG_some hq
    simp only [List.nil_append]
    split
    · rw [h1]; simp
    · rfl
section
variable {α : Type}
def getI (s : By) (k : Int → By → Option α) : Option α := match rdI s with
  | some (n, r) => k n r
  | none => none
def kindI (x : Int) (s : By) (k : By → Option α) : Option α := getI s fun n r => if n = x then k r else none
def getD32 (s : By) (k : By → By → Option α) : Option α := if 32 ≤ s.length then k (s.take 32) (s.drop 32) else none
def rdPxy (s : By) (k : Pxy → By → Option α) : Option α := kindI 2 s fun s => getI s fun a s => getI s fun b s => getI s fun c s => getI s fun d s => getI s fun e s => getI s fun f s => getD32 s fun g s => k ⟨a, b, c, d, e, f, g⟩ s
def rdWsh (s : By) (k : Wsh → By → Option α) : Option α := kindI 1 s fun s => getI s fun a s => getI s fun b s => getI s fun c s => getI s fun d s => getI s fun e s => getI s fun f s => getI s fun g s => getI s fun h s => getD32 s fun y s => k ⟨a, b, c, d, e, f, g, h, y⟩ s
def rdPxys : Nat → List Pxy → By → (List Pxy → By → Option α) → Option α
  | 0, acc, s, k => k acc s
  | n + 1, acc, s, k => rdPxy s fun p s => rdPxys n (acc ++ [p]) s k
theorem getI_ok {s r : By} {n : Int} {k : Int → By → Option α} (h : rdI s = some (n, r)) : getI s k = k n r := by unfold getI; rw [h]
theorem getI_bad {s : By} {k : Int → By → Option α} (h : rdI s = none) : getI s k = none := by unfold getI; rw [h]
theorem getI_put {n : Int} (h : small n) (r : By) (k : Int → By → Option α) : getI (putI n ++ r) k = k n r := getI_ok (rdI_put h r)
theorem getD32_put {g : By} (h : g.length = 32) (r : By) (k : By → By → Option α) : getD32 (g ++ r) k = k g r := by
  unfold getD32
  rw [if_pos (by rw [List.length_append]; omega), ← h, List.take_left, List.drop_left]
def Pxy.text (p : Pxy) : By := p.content ++ p.sig
def Wsh.text (w : Wsh) : By := w.content ++ w.sig
theorem kindI_put {n : Int} (h : small n) (r : By) (k : By → Option α) : kindI n (putI n ++ r) k = k r := by
  unfold kindI; rw [getI_put h, if_pos rfl]
theorem rdPxy_put {p : Pxy} (h : p.ok = true) (hs : p.sig.length = 32) (r : By) (k : Pxy → By → Option α) : rdPxy (p.text ++ r) k = k p r := by
  simp only [Pxy.ok, inB, isRangeB, isSpellB, Bool.and_eq_true, decide_eq_true_eq] at h
  unfold rdPxy Pxy.text Pxy.content
  simp only [puts, List.flatMap_cons, List.flatMap_nil, List.append_assoc, List.nil_append]
  rw [kindI_put (by unfold small; omega), getI_put (by unfold small; omega), getI_put (by unfold small; omega), getI_put (by unfold small; omega), getI_put (by unfold small; omega), getI_put (by unfold small; omega), getI_put (by unfold small; omega), getD32_put hs]
theorem rdWsh_put {w : Wsh} (h : w.ok = true) (hs : w.sig.length = 32) (r : By) (k : Wsh → By → Option α) : rdWsh (w.text ++ r) k = k w r := by
  simp only [Wsh.ok, inB, isRangeB, isSpellB, Bool.and_eq_true, decide_eq_true_eq] at h
  unfold rdWsh Wsh.text Wsh.content
  simp only [puts, List.flatMap_cons, List.flatMap_nil, List.append_assoc, List.nil_append]
  rw [kindI_put (by unfold small; omega), getI_put (by unfold small; omega), getI_put (by unfold small; omega), getI_put (by unfold small; omega), getI_put (by unfold small; omega), getI_put (by unfold small; omega), getI_put (by unfold small; omega), getI_put (by unfold small; omega), getI_put (by unfold small; omega), getD32_put hs]
theorem rdPxys_put : ∀ {l : List Pxy} {acc : List Pxy} (r : By) (k : List Pxy → By → Option α), (∀ p ∈ l, p.ok = true) → (∀ p ∈ l, p.sig.length = 32) → rdPxys l.length acc (l.flatMap Pxy.text ++ r) k = k (acc ++ l) r
  | [], acc, r, k, h1, h2 => by simp [rdPxys]
  | p :: l, acc, r, k, h1, h2 => by
    rw [List.length_cons, rdPxys, List.flatMap_cons, List.append_assoc, rdPxy_put (h1 p (by simp)) (h2 p (by simp)), rdPxys_put r k (fun p h => h1 p (by simp [h])) (fun p h => h2 p (by simp [h]))]
    simp
end
theorem badIdx_all : ∀ {l : List Pxy} {k : Nat}, badIdx l k = none → ∀ p ∈ l, p.ok = true
  | [], k, h => by simp
  | q :: l, k, h => by
    rw [badIdx] at h
    split at h
    · rename_i hq
      intro p hp
      rcases List.mem_cons.1 hp with rfl | hp
      · exact hq
      · exact badIdx_all h p hp
    · cases h
def shutH (l : List Pxy) (w : Wsh) (r : By) : Option (Wsh × List Pxy) := if r = [] ∧ formedH w l = true then some (w, l) else none
def tailH (l : List Pxy) (s : By) : Option (Wsh × List Pxy) := rdWsh s (shutH l)
/-- What a text says, if it is one of a wish. -/
def decodeH (s : By) : Option (Wsh × List Pxy) := getI s fun n r => if inB n 0 4 = true then rdPxys n.toNat [] r tailH else none
def sealedH (w : Wsh) (l : List Pxy) : Bool := decide (w.sig.length = 32) && l.all fun p => decide (p.sig.length = 32)
def encodeH (w : Wsh) (l : List Pxy) : Option By := if formedH w l && sealedH w l then some (putI (l.length : Int) ++ (l.flatMap Pxy.text ++ w.text)) else none
theorem encode_some {w : Wsh} {l : List Pxy} {s : By} : encodeH w l = some s ↔ formedH w l = true ∧ w.sig.length = 32 ∧ (∀ p ∈ l, p.sig.length = 32) ∧ s = putI (l.length : Int) ++ (l.flatMap Pxy.text ++ w.text) := by
  unfold encodeH sealedH
  constructor
  · intro h
    split at h
    · rename_i hc
      cases h
      simpa [and_assoc] using hc
    · cases h
  · rintro ⟨h1, h2, h3, rfl⟩
    rw [if_pos (by simp [h1, h2]; exact h3)]
theorem decode_encode {w : Wsh} {l : List Pxy} {s : By} (h : encodeH w l = some s) : decodeH s = some (w, l) := by
  obtain ⟨h1, h2, h3, rfl⟩ := encode_some.1 h
  have hf := h1
  simp only [formedH, Bool.and_eq_true, decide_eq_true_eq, Option.isNone_iff_eq_none] at h1
  obtain ⟨⟨h4, h5⟩, h6⟩ := h1
  unfold decodeH
  rw [getI_put (by unfold small; omega), if_pos (by simp [inB]; omega), Int.toNat_natCast, rdPxys_put _ _ (badIdx_all h6) h3]
  unfold tailH
  have := rdWsh_put h4 h2 [] (shutH ([] ++ l))
  rw [List.append_nil] at this
  rw [this, List.nil_append]
  exact if_pos ⟨rfl, hf⟩
end Go.Proofs.YtmmfieceinmloaaDoor
