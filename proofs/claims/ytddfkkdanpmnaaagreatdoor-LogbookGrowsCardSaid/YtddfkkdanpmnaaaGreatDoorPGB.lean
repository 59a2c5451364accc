/- Texts joined: Chk, Pre, Byt, App, Scp, Chn, Sto, Chd, Lnk, Cut, Mks, Lst, U64, Bld, Pan, Rdr, DigP, DigQ, DigR, DigT, DigU, WirP, WshP, WshQ, WshR, IntR, LogP, LogQ, Tak, Shelf, DigA. -/
import Derived.Test.YtddfkkdanpmnaaaGreatDoorPGA
import Derived.Scope
import Derived.ArgAppend
import Derived.Laws.MakeOwn
import Derived.Lib.AppendStr
import Derived.Lib.Builder
import Derived.Lib.UnsafeStr
import Derived.Laws.Externs
import Derived.RecoverIn
import GoSem.Core.Value
import Derived.Shelf.Strings.Builder1
import Derived.Shelf.Strings.Builder2
import Derived.Shelf.Strings.OnBuilder
import Derived.Shelf.Small.Bits
import Derived.Shelf.Strings.BuilderF
import Derived.Shelf.Strings.BuilderK
import Derived.Shelf.Strings.Builder2Cap
import Derived.Shelf.Strconv.Itoa0
import Derived.Shelf.Strings.BuilderCap
import Derived.Ground.Names2Prog
import Derived.Shelf.Slices.ReverseS
import Derived.Shelf.Slices.Cells
import Derived.Ground.SlgnProg
import Derived.Shelf.SlicesE.Reverse
import Derived.Test.YtddfkkdanpmnaaaGreatDoorProg
import Derived.Test.YtddfkkdanpmnaaaGreatDoorRows
set_option linter.unusedVariables false
set_option linter.unusedSimpArgs false
set_option maxRecDepth 4000
set_option maxHeartbeats 4000000
namespace Go.PW
open Go.RowKit
def cut (v : Value) (sz l h m : Nat) : Value :=
 match v with
 | .slice a n c => .slice (if m = l then a else a.map (·.add (l * sz))) (h - l) (m - l)
 | v => v
def slCap : Value → Nat
 | .slice _ _ c => c
 | _ => 0
def Shp (v : Value) (n : Nat) : Prop := ∃ a c, v = .slice a n c ∧ n ≤ c
section
variable {P : Program} {w0 w : World} {M : Nat → Prop} {H : List Ent} {N : Nat} {df : List Deferred} {L : List (Nat × Value)} {a : Act} {r : Option Nat} {ops : Array Oper} {K : Act → World → Prop} {rest : List Oper} {d : Nat} {dst : Option Tmp} {ty T T' E : TypeId} {pos : String} {af : Array Edge} {gd : Option (Nat × Bool)} {x y : Operand} {v u : Value} {sz : Nat} {els : List (List Value)}
theorem SlAt.shp (h : SlAt w v sz els) : Shp v els.length := by
 rcases h.2.2 with ⟨rfl, rfl⟩ | ⟨b, off, cap, rfl, hc, _⟩
 ·exact ⟨none, 0, rfl, Nat.le_refl _⟩
 ·exact ⟨_, _, rfl, hc⟩
theorem Shp.cap {n : Nat} (h : Shp v n) : n ≤ slCap v := by
 obtain ⟨a, c, rfl, hc⟩ := h; exact hc
theorem Shp.cut {n l h m : Nat} (hs : Shp v n) (hhm : h ≤ m) : Shp (cut v sz l h m) (h - l) := by
 obtain ⟨a, c, rfl, hc⟩ := hs; exact ⟨_, _, rfl, by omega⟩
theorem lF {ats : Array TypeId} {sT : TypeId} {n : Nat} (h : Shp v n) (hx : ev L x = some v) (hat : ats[0]? = some sT) (hu : (underlying sT).run P w = .ok (.slice E) w) :
  OpV P ⟨dst, .call { callee := .builtin .len, args := #[x], argTypes := ats }, ty, pos, af, gd⟩ L w (.int .i64 n) := by
 refine cN (xs := [x]) (vs := [v]) (by simp [evs, hx]) ?_
 obtain ⟨a, c, rfl, hc⟩ := h
 simp [builtin, Builtin.len_, hat, hu, goInt]
theorem jW {n l h m : Nat} {lo hi mx : Option Value} (hs : Shp v n) (hu : P.underlying T = some (.slice E)) (hsz : (P.info? E).map (·.size) = some sz)
  (hlo : lo = none ∧ l = 0 ∨ lo = some (.int .i64 (l : Int))) (hhi : (hi = none ∧ mx = none ∧ h = n) ∨ hi = some (.int .i64 (h : Int))) (hmx : mx = none ∧ m = slCap v ∨ mx = some (.int .i64 (m : Int))) (hlh : l ≤ h) (hhm : h ≤ m) (hmc : m ≤ slCap v) :
  (Instr.sliceAt T v lo hi mx).run P w = .ok (cut v sz l h m) w := by
 obtain ⟨a, c, rfl, hc⟩ := hs
 cases hq : P.info? E with
 | none => simp [hq] at hsz
 | some i =>
  have hi1 : i.size = sz := by simpa [hq] using hsz
  simp only [slCap] at hmx hmc
  have hl2 : (l : Int) ≤ (h : Int) := by omega
  have hh2 : (h : Int) ≤ (m : Int) := by omega
  have hm2 : (m : Int) ≤ (c : Int) := by omega
  rcases hlo with ⟨rfl, rfl⟩ | rfl <;> rcases hhi with ⟨rfl, rfl, rfl⟩ | rfl <;> rcases hmx with ⟨hz, rfl⟩ | hz <;> cases hz <;>
   simp [Instr.sliceAt, Instr.slice, run_underlying hu, Instr.sliceBounds, Instr.sliceBound, asIntOf, sizeOf, typeInfo, hq, hi1, hlh, hhm, hmc, cut]
theorem eo {n l h m : Nat} {lo hi mx : Option Operand} {lv hv mv : Option Value} (hs : Shp v n) (hx : ev L x = some v) (e1 : evo L lo = some lv) (e2 : evo L hi = some hv) (e3 : evo L mx = some mv) (hu : P.underlying T = some (.slice E)) (hsz : (P.info? E).map (·.size) = some sz)
  (hlo : lv = none ∧ l = 0 ∨ lv = some (.int .i64 (l : Int))) (hhi : (hv = none ∧ mv = none ∧ h = n) ∨ hv = some (.int .i64 (h : Int))) (hmx : mv = none ∧ m = slCap v ∨ mv = some (.int .i64 (m : Int))) (hlh : l ≤ h) (hhm : h ≤ m) (hmc : m ≤ slCap v) :
  OpV P ⟨dst, .slice T x lo hi mx, ty, pos, af, gd⟩ L w (cut v sz l h m) :=
 eq hx e1 e2 e3 (jW hs hu hsz hlo hhi hmx hlh hhm hmc)
theorem mC {els : List (List Value)} (h1 : ∀ e ∈ els, e.length = sz) : ∀ l, els.flatten.drop (l * sz) = (els.drop l).flatten := by
 induction els with
 | nil => intro l; simp
 | cons e els ih =>
  intro l
  cases l with
  | zero => simp
  | succ l =>
   have he := h1 e sm
   rw [List.flatten_cons, List.drop_succ_cons, ← ih (fun x hx => h1 x (by simp [hx])), Nat.succ_mul, List.drop_append, List.drop_eq_nil_of_le om, List.nil_append]
   congr 1; omega
theorem iy {els : List (List Value)} (h1 : ∀ e ∈ els, e.length = sz) : ∀ l, els.flatten.take (l * sz) = (els.take l).flatten := by
 induction els with
 | nil => intro l; simp
 | cons e els ih =>
  intro l
  cases l with
  | zero => simp
  | succ l =>
   have he := h1 e sm
   rw [List.flatten_cons, List.take_succ_cons, List.flatten_cons, ← ih (fun x hx => h1 x (by simp [hx])), Nat.succ_mul, List.take_append, List.take_of_length_le om]
   congr 2; omega
theorem SlAt.cut {l h m : Nat} (hv : SlAt w v sz els) (hlh : l ≤ h) (hh : h ≤ els.length) (hhm : h ≤ m) (hmc : m ≤ slCap v) : SlAt w (PW.cut v sz l h m) sz ((els.drop l).take (h - l)) := by
 obtain ⟨h1, h2, h3⟩ := hv
 have hlen : ((els.drop l).take (h - l)).length = h - l := by simp; omega
 refine ⟨fun e he => h1 e (List.mem_of_mem_drop (List.mem_of_mem_take he)), by omega, ?_⟩
 rcases h3 with ⟨rfl, rfl⟩ | ⟨b, off, cap, rfl, hc, hb, hcells⟩
 ·have : h = 0 := by simpa using hh
  subst this
  have : l = 0 := by omega
  subst this
  have : m = 0 := by simpa [slCap] using hmc
  subst this; exact .inl ⟨rfl, by simp⟩
 ·right
  by_cases hm : m = l
  ·have : h - l = 0 := by omega
   refine ⟨b, off, m - l, by simp [PW.cut, hm, hlen, this], by omega, hb, ?_⟩
   rw [List.eq_nil_of_length_eq_zero (hlen.trans this)]
   intro j u hj; simp at hj
  ·refine ⟨b, off + l * sz, m - l, by simp [PW.cut, hm, hlen, bH], by omega, hb, hcells.sub (n := (h - l) * sz) ?_⟩
   rw [mC h1, iy fun e he => h1 e (List.mem_of_mem_drop he)]
theorem ja {xs : List UInt8} {eT : TypeId} (hx : ev L x = some (sv xs)) (hs : P.underlying T = some .string) (hd : P.underlying T' = some (.slice eT)) (he : P.underlying eT = some (.int .u8)) (hlen : xs.length ≤ big) :
  OpR P r ⟨dst, .convert T T' x, ty, pos, af, gd⟩ L w fun v' w' => Ext No w w' ∧ (own v' eT 1 (xs.map fun b => [yv b])).ok w' ∧ ∀ k, (own v' eT 1 (xs.map fun b => [yv b])).foot k → w.heap.size ≤ k ∧ k < w'.heap.size := by
 intro N df a Z
 have hr := run_bytes_of_string (P := P) w T T' eT ⟨xs.toArray⟩ hs hd he
 have hsz : (ByteArray.mk xs.toArray).size = xs.length := by simp [ByteArray.size]
 rw [hsz] at hr
 have hge := grownCap_ge w xs.length 0 eT
 have hcm : grownCap w xs.length 0 eT ≤ maxLen := grownCap_le_maxLen w xs.length 0 eT (by simp only [maxLen]; unfold big at hlen; omega)
 have hbs : (bytesRow ⟨xs.toArray⟩ (grownCap w xs.length 0 eT)).size = grownCap w xs.length 0 eT := by simp [bytesRow, hsz]; omega
 refine bD rfl (v := .slice (some ⟨w.heap.size, 0, none⟩) xs.length (grownCap w xs.length 0 eT)) (w' := w.drew.alloc (.cells (bytesRow ⟨xs.toArray⟩ (grownCap w xs.length 0 eT)) eT ((bytesRow ⟨xs.toArray⟩ (grownCap w xs.length 0 eT)).size, (bytesRow ⟨xs.toArray⟩ (grownCap w xs.length 0 eT)).size + 1))) ?_ ⟨_, rfl, ?_, ?_, ?_⟩
 ·simp only [execOp, Z.eval hx, sv, Sem.run_bind, hr, Result.andThen_ok]; rfl
 ·exact (Ext.drew No w).trans' (Ext.alloc No w.drew _)
 ·refine ⟨by simp, by simpa using hlen, by simp [eO], .inr ⟨w.heap.size, grownCap w xs.length 0 eT, _, _, by simp, World.alloc_heap_new w.drew _, .inr (by rw [hbs]; omega), by simpa using hge, hcm, by rw [hbs]; omega, ?_⟩⟩
  simp only [List.length_map, Nat.mul_one, bytesRow, eO, Array.toList_append]
  rw [List.take_left' sm]
  simp [yv]
 ·intro k hk
  have : w.heap.size = k := by simpa [own, Value.ownBlock] using hk
  subst this; simp
theorem gW {xs : List UInt8} {eT : TypeId} (hx : ev L x = some (sv xs)) (hs : P.underlying T = some .string) (hd : P.underlying T' = some (.slice eT)) (he : P.underlying eT = some (.int .u8)) (hlen : xs.length ≤ big) (hdn : d < N) (Z : Fr N L df a) (Y : St M w0 H w)
  (k : ∀ a w' v', Fr N ((d, v') :: L) df a → St M w0 (own v' eT 1 (xs.map fun b => [yv b]) :: H) w' → WL P r ops K rest a w') :
  WL P r ops K (⟨some d, .convert T T' x, ty, pos, af, none⟩ :: rest) a w :=
 wl_r (ja hx hs hd he hlen) rfl (decide_eq_true hdn) Z fun a v' w' ⟨h1, h2, h3⟩ h => k _ _ v' h (Y.push h1 h2 h3)
theorem ge {f : FuncId} {xs : List Operand} {vs : List Value} {ats : Array TypeId} {b : Nat} {cs ds : List Value} {E : TypeId} {H' : List Ent} (i : Nat) (Z : Fr N L df a) (Y : St M w0 H w) (hd : d < N) (hen : ∀ args w, (callFunc f args).run P w = .ok (.enter f args) w) (hx : evs L xs = some vs)
  (hi : H[i]? = some (blk b cs E)) (hc : Ret P f vs.toArray w fun v' w' => v' = v ∧ Ext (· = b) w w' ∧ (blk b ds E).ok w') (hH : H.set i (blk b ds E) = H')
  (k : ∀ a w', Fr N ((d, v) :: L) df a → St M w0 H' w' → WL P r ops K rest a w') :
  WL P r ops K (⟨some d, .call { callee := .value (.func f), args := xs.toArray, argTypes := ats }, ty, pos, af, none⟩ :: rest) a w :=
 wl_r (dN hen hx hc) rfl (decide_eq_true hd) Z fun a v' w' ⟨hv, hw, ho⟩ h => by
  subst hv; subst hH
  exact k _ _ h (Y.exchange (e := blk b cs E) (e' := blk b ds E) hi hw ho fun b' hb' => by
   cases hb'
   exact ⟨Nat.lt_of_lt_of_le (Y.lt hi rfl) hw.size, .inl rfl⟩)
theorem Ext.const {b : Nat} {cs : List Value} {E : TypeId} (h : Ext (· = b) w0 w) (h1 : (blk b cs E).ok w0) (h2 : (blk b cs E).ok w) : Ext No w0 w :=
 ⟨h.os, h.tape, h.output, h.size, fun k hk _ => by
  by_cases hb : k = b
  ·subst hb; exact (h2 : w.heap[k]? = _).trans (h1 : w0.heap[k]? = _).symm
  ·exact h.same k hk hb⟩
end
end Go.PW
namespace Go.PW
open Go.RowKit
section
variable {w0 w : World} {M : Nat → Prop} {H : List Ent} {E : TypeId} {v : Value} {sz : Nat} {els : List (List Value)}
theorem f8 {k : Nat} (h : (own v E sz els).ok w) (hk : k ≤ els.length) : (own (cut v sz 0 k (slCap v)) E sz (els.take k)).ok w ∧ ∀ j, (own (cut v sz 0 k (slCap v)) E sz (els.take k)).foot j → (own v E sz els).foot j := by
 obtain ⟨h1, h2, h3, h4⟩ := h
 have hl : (els.take k).length = k := by rw [List.length_take]; omega
 have hfl : (els.take k).flatten.length = k * sz := by rw [cx fun e he => h1 e (List.mem_of_mem_take he), hl]
 rcases h4 with ⟨rfl, h0⟩ | ⟨g, cap, cur, fz, rfl, hg, hfz, hnc, hcm, hcs, htk⟩
 ·obtain rfl : els = [] := List.eq_nil_of_length_eq_zero h0
  obtain rfl : k = 0 := by simpa using hk
  exact ⟨⟨by simp, by simp, by simp, .inl ⟨by simp [cut, slCap], by simp⟩⟩, fun j hj => by simp [own, cut, slCap, Value.ownBlock] at hj⟩
 ·have hv : cut (.slice (some ⟨g, 0, none⟩) els.length cap) sz 0 k (slCap (.slice (some ⟨g, 0, none⟩) els.length cap)) = .slice (some ⟨g, 0, none⟩) k cap := by
   simp only [cut, slCap, Nat.zero_mul, Nat.sub_zero, Option.map_some]
   split
   ·rfl
   ·rw [bH]
  refine ⟨⟨fun e he => h1 e (List.mem_of_mem_take he), by omega, by rw [hfl, hl], .inr ⟨g, cap, cur, fz, by rw [hv, hl], hg, hfz, by omega, hcm, hcs, ?_⟩⟩, fun j hj => by rw [hv] at hj; exact hj⟩
  rw [hl, ← iy h1, ← htk, List.take_take, Nat.min_eq_left (Nat.mul_le_mul_right sz hk)]
theorem St.take {i k : Nat} (Y : St M w0 H w) (hi : H[i]? = some (own v E sz els)) (hk : k ≤ els.length) : St M w0 (H.set i (own (cut v sz 0 k (slCap v)) E sz (els.take k))) w :=
 Y.exchange hi (Ext.refl _ _) (f8 (Y.get hi) hk).1 fun j hj => ⟨Y.lt hi ((f8 (Y.get hi) hk).2 j hj), .inl ((f8 (Y.get hi) hk).2 j hj)⟩
theorem SlAt.cut0 {α : Type} {xs : List α} {f : α → List Value} {h : Nat} (hs : SlAt w v sz (xs.map f)) (hh : h ≤ xs.length) : SlAt w (PW.cut v sz 0 h (slCap v)) sz ((xs.take h).map f) := by
 have := hs.cut (l := 0) (h := h) (m := slCap v) (Nat.zero_le _) (by simpa using hh) (Nat.le_trans (by simpa using hh) hs.shp.cap) (Nat.le_refl _)
 simpa [List.map_take] using this
theorem SlAt.cutd {α : Type} {xs : List α} {f : α → List Value} {l : Nat} (hs : SlAt w v sz (xs.map f)) (hl : l ≤ xs.length) : SlAt w (PW.cut v sz l xs.length (slCap v)) sz ((xs.drop l).map f) := by
 have := hs.cut (l := l) (h := xs.length) (m := slCap v) hl sm (by have := hs.shp.cap; simpa using this) (Nat.le_refl _)
 rw [← List.map_drop, ← List.map_take] at this
 rwa [List.take_of_length_le sm] at this
theorem bd {P : Program} {L : List (Nat × Value)} {dst : Option Tmp} {T ty eT : TypeId} {pos : String} {af : Array Edge} {gd : Option (Nat × Bool)} {x : Operand} {lo hi : Option Operand} {lv hv : Option Value} {l h : Nat} (hs : SlAt w v sz els) (hx : ev L x = some v) (e1 : evo L lo = some lv) (e2 : evo L hi = some hv) (hu : P.underlying T = some (.slice eT)) (hsz : (P.info? eT).map (·.size) = some sz)
  (hlo : lv = none ∧ l = 0 ∨ lv = some (.int .i64 (l : Int))) (hhi : hv = none ∧ h = els.length ∨ hv = some (.int .i64 (h : Int))) (hlh : l ≤ h) (hh : h ≤ els.length) :
  OpV P ⟨dst, .slice T x lo hi none, ty, pos, af, gd⟩ L w (cut v sz l h (slCap v)) :=
 eo hs.shp hx e1 e2 rfl hu hsz hlo (hhi.elim (fun ⟨a, b⟩ => .inl ⟨a, rfl, b⟩) .inr) (.inl ⟨rfl, rfl⟩) hlh (Nat.le_trans hh hs.shp.cap) (Nat.le_refl _)
end
theorem iz (xs : List UInt8) (l h : Nat) : (ByteArray.mk xs.toArray).extract l h = ⟨((xs.drop l).take (h - l)).toArray⟩ := by
 apply ByteArray.ext
 simp [ByteArray.data_extract]
theorem jK {P : Program} {w : World} {L : List (Nat × Value)} {dst : Option Tmp} {T ty : TypeId} {pos : String} {af : Array Edge} {gd : Option (Nat × Bool)} {x : Operand} {lo hi : Option Operand} {lv hv : Option Value} {l h : Nat} {xs : List UInt8} (hx : ev L x = some (sv xs)) (e1 : evo L lo = some lv) (e2 : evo L hi = some hv) (hu : P.underlying T = some .string)
  (hlo : lv = none ∧ l = 0 ∨ lv = some (.int .i64 (l : Int))) (hhi : hv = none ∧ h = xs.length ∨ hv = some (.int .i64 (h : Int))) (hlh : l ≤ h) (hh : h ≤ xs.length) :
  OpV P ⟨dst, .slice T x lo hi none, ty, pos, af, gd⟩ L w (sv ((xs.drop l).take (h - l))) := by
 refine eq hx e1 e2 rfl ?_
 have hsz : (ByteArray.mk xs.toArray).size = xs.length := by simp [ByteArray.size]
 have hl2 : (l : Int) ≤ (h : Int) := by omega
 have hh2 : (h : Int) ≤ (xs.length : Int) := by omega
 rcases hlo with ⟨rfl, rfl⟩ | rfl <;> rcases hhi with ⟨rfl, rfl⟩ | rfl <;>
  simp [Instr.sliceAt, Instr.slice, run_underlying hu, Instr.sliceBounds, Instr.sliceBound, asIntOf, sv, hsz, hlh, hh, iz, -List.extract_toArray]
theorem dX {P : Program} {w : World} {L : List (Nat × Value)} {dst : Option Tmp} {T T' ty : TypeId} {pos : String} {af : Array Edge} {gd : Option (Nat × Bool)} {x y : Operand} {s t : List UInt8} (hx : ev L x = some (sv s)) (hy : ev L y = some (sv t)) : OpV P ⟨dst, .binOp .eql T x y T', ty, pos, af, gd⟩ L w (.bool (decide (s = t))) :=
 cH hx hy rfl (by simp only [sv]; rw [binOp_string_eql, ByteArray.toList_mk, ByteArray.toList_mk]; simp only [Sem.run_pure]; congr 2; first | (rw [Bool.eq_iff_iff]; simp) | (congr 1; rw [Bool.eq_iff_iff]; simp))
theorem v_sne {P : Program} {w : World} {L : List (Nat × Value)} {dst : Option Tmp} {T T' ty : TypeId} {pos : String} {af : Array Edge} {gd : Option (Nat × Bool)} {x y : Operand} {s t : List UInt8} (hx : ev L x = some (sv s)) (hy : ev L y = some (sv t)) : OpV P ⟨dst, .binOp .neq T x y T', ty, pos, af, gd⟩ L w (.bool (!decide (s = t))) :=
 cH hx hy rfl (by simp only [sv]; rw [binOp_string_neq, ByteArray.toList_mk, ByteArray.toList_mk]; simp only [Sem.run_pure]; congr 2; first | (rw [Bool.eq_iff_iff]; simp) | (congr 1; rw [Bool.eq_iff_iff]; simp))
end Go.PW
namespace Go.PW
open Go.RowKit
section
variable {P : Program} {w : World} {L : List (Nat × Value)} {dst : Option Tmp} {T T' ty : TypeId} {pos : String} {af : Array Edge} {gd : Option (Nat × Bool)} {x y : Operand}
theorem SlAt.cutm {v : Value} {sz l h : Nat} {α : Type} {xs : List α} {f : α → List Value} (hs : SlAt w v sz (xs.map f)) (hl : l ≤ h) (hh : h ≤ xs.length) : SlAt w (PW.cut v sz l h (slCap v)) sz (((xs.drop l).take (h - l)).map f) := by
 have := hs.cut (l := l) (h := h) (m := slCap v) hl (by simpa using hh) (Nat.le_trans (by simpa using hh) hs.shp.cap) (Nat.le_refl _)
 rwa [← List.map_drop, ← List.map_take] at this
theorem fE {i : Int} {k : Nat} {s : List UInt8} (hx : ev L x = some (sv s)) (hy : ev L y = some (.int .i64 i)) (hu : (underlying T).run P w = .ok .string w) (hk : i = (k : Int)) (hl : k < s.length) : OpV P ⟨dst, .index T x y, ty, pos, af, gd⟩ L w (yv (s.getD k 0)) := by
 subst hk
 refine eg hx hy ?_
 have hsz : (ByteArray.mk s.toArray).size = s.length := by simp [ByteArray.size]
 have h2 : (k : Int) < (s.length : Int) := by omega
 simp only [sv, Instr.index, asIntOf, Sem.run_bind, Sem.run_pure, Result.andThen_ok, hu]
 have hg : s.getD k 0 = s[k] := by simp [List.getD_eq_getElem?_getD, hl]
 simp [hsz, hl, yv, -List.getD_eq_getElem?_getD, hg]
 rfl
theorem iX {lo hi : Option Operand} {lv hv : Option Value} {l h : Nat} {xs : List UInt8} (hx : ev L x = some (sv xs)) (e1 : evo L lo = some lv) (e2 : evo L hi = some hv) (hu : P.underlying T = some .string)
  (hlo : lv = none ∧ l = 0 ∨ ∃ k, lv = some (.int k (l : Int))) (hhi : hv = none ∧ h = xs.length ∨ ∃ k, hv = some (.int k (h : Int))) (hlh : l ≤ h) (hh : h ≤ xs.length) :
  OpV P ⟨dst, .slice T x lo hi none, ty, pos, af, gd⟩ L w (sv ((xs.drop l).take (h - l))) := by
 refine eq hx e1 e2 rfl ?_
 have hsz : (ByteArray.mk xs.toArray).size = xs.length := by simp [ByteArray.size]
 have hl2 : (l : Int) ≤ (h : Int) := by omega
 have hh2 : (h : Int) ≤ (xs.length : Int) := by omega
 rcases hlo with ⟨rfl, rfl⟩ | ⟨k1, rfl⟩ <;> rcases hhi with ⟨rfl, rfl⟩ | ⟨k2, rfl⟩ <;>
  simp [Instr.sliceAt, Instr.slice, run_underlying hu, Instr.sliceBounds, Instr.sliceBound, asIntOf, sv, hsz, hlh, hh, iz, -List.extract_toArray]
end
end Go.PW
namespace Go.PW
open Go.RowKit
section
variable {P : Program} {w : World} {e : TypeId} {v u : Value} {n : Nat} {xs : List Value}
theorem fK (t ty e : TypeId) (i : TypeInfo) (ht : P.underlying t = some (.slice e)) (hi : P.info? e = some i) (hown : ownsG w e i.size v n xs) (hu : u = .slice none 0 0 ∨ ∃ a c, u = .slice (some a) 0 c) :
  (Builtin.append_ #[t, t] ty #[v, u]).run P w = .ok v w := by
 have hf : (Builtin.firstCells i.size 0 u).run P w = .ok #[] w := by
  rcases hu with rfl | ⟨a, c, rfl⟩
  ·rfl
  ·simp [Builtin.firstCells, loadCells, loadCellsFrom]
 have hl : (Builtin.lenOf u).run P w = .ok 0 w := by
  rcases hu with rfl | ⟨a, c, rfl⟩ <;> rfl
 rcases hown.2 with ⟨rfl, rfl⟩ | ⟨g, cap, cur, fz, rfl, hg, hfz, hnc, hcm, hcs, htake⟩
 ·simp [Builtin.append_, run_underlying ht, sizeOf, typeInfo, hi, hl, hf]
 ·simp [Builtin.append_, run_underlying ht, sizeOf, typeInfo, hi, hl, hf, hnc, storeCells]
end
section
variable {P : Program} {r : Option Nat} {ops : Array Oper} {K : Act → World → Prop} {rest : List Oper} {a : Act} {w w' w0 : World} {M : Nat → Prop} {H : List Ent}
variable {N : Nat} {L : List (Nat × Value)} {df : List Deferred} {d : Nat} {ty : TypeId} {pos : String} {af : Array Edge} {E T : TypeId} {sz : Nat} {v u : Value} {els els' : List (List Value)} {x y : Operand}
theorem cg {sT : TypeId} {inf : TypeInfo} {z : Value} (hok : (own v E sz els).ok w) (hx : ev L x = some v) (hy : ev L y = some u) (hu : SlAt w u sz els')
  (ht : P.underlying sT = some (.slice E)) (hinf : P.info? E = some inf) (hz : inf.zero = some z) (hsize : inf.size = sz) (hzs : z.cells.size = sz) (hsz : 0 < sz) (hone : ∀ e ∈ els', ∀ u ∈ e, u.oneCell' = true)
  (hbytes : (els.length + els'.length) * inf.bytes ≤ 140737488355328) (hbig : els.length + els'.length ≤ big) {dst : Option Tmp} {gd : Option (Nat × Bool)} :
  OpR P r ⟨dst, .call { callee := .builtin .append, args := #[x, y], argTypes := #[sT, sT] }, ty, pos, af, gd⟩ L w fun v' w' =>
   Ext (own v E sz els).foot w w' ∧ (own v' E sz (els ++ els')).ok w' ∧ (∀ g, (own v' E sz (els ++ els')).foot g → g < w'.heap.size ∧ ((own v E sz els).foot g ∨ w.heap.size ≤ g)) := by
 by_cases hne : els' = []
 ·subst hne
  obtain ⟨h1, h2, h3⟩ := hok
  have hu' : u = .slice none 0 0 ∨ ∃ a c, u = .slice (some a) 0 c := by
   rcases hu.2.2 with ⟨h, _⟩ | ⟨b, off, cap, h, _⟩
   ·exact .inl h
   ·exact .inr ⟨_, _, h⟩
  have hr := fK (P := P) sT ty E inf ht hinf (by rw [hsize]; exact h3) hu'
  intro N df a Z
  refine bD rfl (v := v) (w' := w) ?_ ⟨v, rfl, Ext.refl _ _, by rw [List.append_nil]; exact ⟨h1, h2, h3⟩, fun g hg => ?_⟩
  ·simp only [execOp, resolve, invoke, builtin, Sem.run_bind, Sem.run_pure, Result.andThen_ok, List.map_toArray, List.map_cons, List.map_nil, Z.eval hx, Z.eval hy, hr]
  ·exact ⟨h3.lt g hg, .inl hg⟩
 ·intro N df a Z
  exact OpK.mono (j3 hok hx hy hu hne ht hinf hz hsize hzs hsz hone hbytes hbig N df a Z) fun a w ⟨v, h1, h2, h3, h4, _⟩ => ⟨v, h1, h2, h3, h4⟩
theorem bE {i : Nat} {sT : TypeId} {inf : TypeInfo} {z : Value} (hi : H[i]? = some (own v E sz els)) (hx : ev L x = some v) (hy : ev L y = some u) (hu : SlAt w u sz els')
  (ht : P.underlying sT = some (.slice E)) (hinf : P.info? E = some inf) (hz : inf.zero = some z) (hsize : inf.size = sz) (hzs : z.cells.size = sz) (hsz : 0 < sz) (hone : ∀ e ∈ els', ∀ u ∈ e, u.oneCell' = true)
  (hbytes : (els.length + els'.length) * inf.bytes ≤ 140737488355328) (hbig : els.length + els'.length ≤ big) (hd : d < N) (Z : Fr N L df a) (Y : St M w0 H w)
  (k : ∀ a w' v', Fr N ((d, v') :: L) df a → St M w0 (H.set i (own v' E sz (els ++ els'))) w' → WL P r ops K rest a w') :
  WL P r ops K (⟨some d, .call { callee := .builtin .append, args := #[x, y], argTypes := #[sT, sT] }, ty, pos, af, none⟩ :: rest) a w :=
 wl_r (cg (Y.get hi) hx hy hu ht hinf hz hsize hzs hsz hone hbytes hbig) rfl (decide_eq_true hd) Z fun a v' w' ⟨h1, h2, h3⟩ h => k _ _ v' h (Y.exchange hi h1 h2 h3)
theorem iU {n : Nat} {lv cv : Value} (hx : ev L x = some lv) (hy : ev L y = some cv) (els : List (List Value)) (hr : (Instr.makeSlice T lv cv).run P w = .ok (.slice (some ⟨w.heap.size, 0, none⟩) n n) (w.alloc (.cells els.flatten.toArray E)))
  (hsz : ∀ e ∈ els, e.length = sz) (hn : els.length = n) (hbig : n ≤ big) (hd : d < N) (Z : Fr N L df a) (Y : St M w0 H w)
  (k : ∀ a w', Fr N ((d, .slice (some ⟨w.heap.size, 0, none⟩) n n) :: L) df a → St M w0 (own (.slice (some ⟨w.heap.size, 0, none⟩) n n) E sz els :: H) w' → WL P r ops K rest a w') :
  WL P r ops K (⟨some d, .makeSlice T x y, ty, pos, af, none⟩ :: rest) a w := by
 refine j8 rfl (bD rfl (v := .slice (some ⟨w.heap.size, 0, none⟩) n n) (w' := w.alloc (.cells els.flatten.toArray E)) ?_ (k _ _ (Z.put hd _) ?_))
 ·simp only [execOp, Z.eval hx, Z.eval hy, Sem.run_bind, hr, Result.andThen_ok]; rfl
 ·have hflat : els.flatten.length = n * sz := by rw [← hn]; exact cx hsz
  refine Y.push (Ext.alloc _ _ _) ⟨hsz, by omega, by rw [hn]; exact hflat, .inr ⟨w.heap.size, n, _, (0, 0), by rw [hn], World.alloc_heap_new w _, .inl rfl, by omega, by simp only [maxLen]; unfold big at hbig; omega, by simpa using hflat, by rw [hn, ← hflat, List.toList_toArray, List.take_length]⟩⟩ ?_
  intro k hk
  have : w.heap.size = k := by simpa [own, Value.ownBlock] using hk
  subst this; simp
end
end Go.PW
namespace Go.PW
open Go.RowKit
section
variable {P : Program} {a : Act} {w : World} {Q : Exit → Act → World → Prop} {c : Code}
theorem og (h : WC P none c (Exit.noGoto Q) a w) : WC P none (.scope c) Q a w :=
 (wpIn_wide (n := 0)).2 (wp_scope_straight ((wpIn_wide (n := 0)).1 h))
theorem m1 {r : Option Nat} {l : Nat} (h : Q .normal a w) : WC P r (.label l) Q a w := wpIn_label h
end
end Go.PW
namespace Go.PW
open Go.RowKit
section
variable {P : Program} {r : Option Nat} {K : Act → World → Prop} {a : Act} {w w0 : World} {M : Nat → Prop} {H : List Ent}
variable {N : Nat} {L : List (Nat × Value)} {df : List Deferred}
theorem jv {T ty : TypeId} {pos : String} {af : Array Edge} {gd : Option (Nat × Bool)} {dst : Option Tmp} {x y : Operand} {n : Nat} {lv cv : Value} {E : TypeId} {sz : Nat} (hx : ev L x = some lv) (hy : ev L y = some cv) (els : List (List Value)) (hr : ∀ w : World, (Instr.makeSlice T lv cv).run P w = .ok (.slice (some ⟨w.heap.size, 0, none⟩) n n) (w.alloc (.cells els.flatten.toArray E)))
  (hsz : ∀ e ∈ els, e.length = sz) (hn : els.length = n) (hbig : n ≤ big) :
  OpR P r ⟨dst, .makeSlice T x y, ty, pos, af, gd⟩ L w (GrowR w (pm (fun b : Nat => .slice (some ⟨b, 0, none⟩) n n) (fun b => [own (.slice (some ⟨b, 0, none⟩) n n) E sz els]) fun _ => True)) := by
 intro N df a Z
 refine bD rfl (v := .slice (some ⟨w.heap.size, 0, none⟩) n n) (w' := w.alloc (.cells els.flatten.toArray E)) ?_ ⟨_, rfl, Ext.alloc _ _ _, _, ⟨w.heap.size, rfl, trivial, rfl⟩, dQ ?_ ?_⟩
 ·simp only [execOp, Z.eval hx, Z.eval hy, Sem.run_bind, hr, Result.andThen_ok]; rfl
 ·have hflat : els.flatten.length = n * sz := by rw [← hn]; exact cx hsz
  exact ⟨hsz, by omega, by rw [hn]; exact hflat, .inr ⟨w.heap.size, n, _, (0, 0), by rw [hn], World.alloc_heap_new w _, .inl rfl, by omega, by simp only [maxLen]; unfold big at hbig; omega, by simpa using hflat, by rw [hn, ← hflat, List.toList_toArray, List.take_length]⟩⟩
 ·intro k hk
  have : w.heap.size = k := by simpa [own, Value.ownBlock] using hk
  subst this; simp
def HopC (P : Program) (r : Option Nat) (M : Nat → Prop) (w0 : World) (pc : Nat) (e0 e1 : Value → Ent) (H : List Ent) (L : List (Nat × Value)) (l : List Oper) (R : Nat → Value → List Ent → Prop) (i : Nat) : List Nat → List (Nat × Value) → List Ent → Value → Prop
 | [], Lv, Es, u => ∀ w, St M w0 (e0 u :: (Es ++ H)) w → OpR P r (opAt l i) (Lv ++ L) w (fun v w' => Ext (e0 u).foot w w' ∧ (e1 v).ok w' ∧ (∀ b, (e1 v).foot b → b < w'.heap.size ∧ ((e0 u).foot b ∨ w.heap.size ≤ b)) ∧ R i v [])
 | p :: ps, Lv, Es, u => ∀ v E, R p v E → HopC P r M w0 pc e0 e1 H L l R i ps (Lv ++ [(dsOf l p, v)]) (Es ++ E) (bif Nat.beq p pc then v else u)
theorem HopC.use {pc : Nat} {e0 e1 : Value → Ent} {l : List Oper} {R : Nat → Value → List Ent → Prop} {i : Nat} {V : Nat → Value} {E : Nat → List Ent} : ∀ {ps : List Nat} {Lv : List (Nat × Value)} {Es : List Ent} {u : Value}, HopC P r M w0 pc e0 e1 H L l R i ps Lv Es u → (∀ p ∈ ps, R p (V p) (E p)) → (pc ∈ ps ∨ u = V pc) →
  ∀ w, St M w0 (e0 (V pc) :: (Es ++ ps.flatMap E ++ H)) w → OpR P r (opAt l i) (Lv ++ ps.map (fun p => (dsOf l p, V p)) ++ L) w (fun v w' => Ext (e0 (V pc)).foot w w' ∧ (e1 v).ok w' ∧ (∀ b, (e1 v).foot b → b < w'.heap.size ∧ ((e0 (V pc)).foot b ∨ w.heap.size ≤ b)) ∧ R i v [])
 | [], Lv, Es, u, h, _, hu, w, hs => by
  rcases hu with hu | hu
  ·cases hu
  ·subst hu; simpa using h w (by simpa using hs)
 | p :: ps, Lv, Es, u, h, hR, hu, w, hs => by
  have h2 : pc ∈ ps ∨ (bif Nat.beq p pc then V p else u) = V pc := by
   by_cases hp : p = pc
   ·subst hp; exact .inr sm
   ·rcases hu with hu | hu
    ·rcases List.mem_cons.1 hu with h3 | h3
     ·exact absurd h3.symm hp
     ·exact .inl h3
    ·have : Nat.beq p pc = false := by cases hb : Nat.beq p pc with | false => rfl | true => exact absurd (Nat.eq_of_beq_eq_true hb) hp
     exact .inr (by rw [this]; exact hu)
  have := HopC.use (h (V p) (E p) (hR p sm)) (fun q hq => hR q (by simp [hq])) h2 w (by simpa using hs)
  simpa using this
theorem OpR.to_own {o : Oper} {f : Nat → Value} {e : Value → Ent} {R : Value → List Ent → Prop} (h : OpR P r o L w (GrowR w (pm f (fun b => [e (f b)]) fun _ => True))) (hR : ∀ v, R v []) : OpR P r o L w (fun v w' => Ext (join []).foot w w' ∧ (e v).ok w' ∧ (∀ b, (e v).foot b → b < w'.heap.size ∧ ((join []).foot b ∨ w.heap.size ≤ b)) ∧ R v []) :=
 OpR.mono h fun v w' ⟨hx, E, ⟨x, hv, _, hE⟩, hin⟩ => by
  subst hv; subst hE
  exact ⟨hx.mono fun _ _ h => h.elim, (hin.1 _ (List.mem_singleton.2 rfl)).1, fun b hb => ⟨((hin.1 _ (List.mem_singleton.2 rfl)).2 b hb).2, .inr ((hin.1 _ (List.mem_singleton.2 rfl)).2 b hb).1⟩, hR _⟩
theorem St.hollow (h : St M w0 H w) : St M w0 (PW.join [] :: H) w := St.join [] H h
theorem fP {l : List Oper} (q0 q1 q2 : Nat) (e1 e2 e3 : Value → Ent) (m : Nat) (ps : List (List Nat)) (R : Nat → Value → List Ent → Prop) (Z : Fr N L df a) (Y : St M w0 H w)
  (hmix : P.follows .mixedOrders = true) (hok : phOkM l m N (keys L) ps = true) (hds : ((List.range m).all fun i => (opAt l i).dst.isSome) = true) (hqm : q0 < m ∧ q1 < m ∧ q2 < m) (hne : q0 ≠ q1 ∧ q0 ≠ q2 ∧ q1 ≠ q2) (h01 : q0 ∈ ps.getD q1 []) (h12 : q1 ∈ ps.getD q2 []) (hRm : ∀ i v E, R i v E → i < m)
  (hop : ∀ i, i < m → i ≠ q0 → i ≠ q1 → i ≠ q2 → ∀ e, Hop P r M w0 (e :: H) L l R i (ps.getD i []) [] [])
  (hq0 : HopQ P r M w0 (join []) e1 H L l R q0 (ps.getD q0 []) [] [])
  (hq1 : HopC P r M w0 q0 e1 e2 H L l R q1 (ps.getD q1 []) [] [] undef)
  (hq2 : HopC P r M w0 q1 e2 e3 H L l R q2 (ps.getD q2 []) [] [] undef)
  (hk : ∀ vq, HopK P r M w0 (e3 vq :: H) N L df l m (fun i v E => R i v E ∧ (i = q2 → v = vq)) K (List.range m) [] []) : DR P r l.toArray K a w := by
 obtain ⟨hn1, hn2, hn3⟩ := hne
 obtain ⟨hm0, hm1, hm2⟩ := hqm
 have hsome : ∀ i, i < m → (opAt l i).dst.isSome = true := fun i hi => List.all_eq_true.1 hds i (List.mem_range.2 hi)
 have hpsm : ∀ i, i < m → ∀ p ∈ ps.getD i [], p < m := by
  intro i hi p hp
  have hok2 := hok
  simp only [phOkM, Bool.and_eq_true, List.all_eq_true, decide_eq_true_eq, List.mem_range] at hok2
  exact ((hok2.1.1.1.2 i hi).1.2 p hp).2
 have hmap : ∀ (V : Nat → Value) (is : List Nat), (∀ p ∈ is, p < m) → is.map (fun p => (dsv l N p, V p)) = is.map fun p => (dsOf l p, V p) := fun V is h => List.map_congr_left fun p hp => by rw [je (hsome p (h p hp))]
 refine cP (M := M) (w0 := w0) (e0 := join []) m ps [q0, q1, q2] hmix hok R (fun i v E hd hR => ?_)
  (fun D V e => (∀ i ∈ D, i < m) ∧ ((q0 ∉ D ∧ q1 ∉ D ∧ q2 ∉ D ∧ e = join []) ∨ (q0 ∈ D ∧ q1 ∉ D ∧ q2 ∉ D ∧ e = e1 (V q0)) ∨ (q0 ∈ D ∧ q1 ∈ D ∧ q2 ∉ D ∧ e = e2 (V q1)) ∨ (q0 ∈ D ∧ q1 ∈ D ∧ q2 ∈ D ∧ e = e3 (V q2))))
  (fun V => ⟨by simp, .inl ⟨by simp, by simp, by simp, rfl⟩⟩) ?_ Z Y.hollow ?_ ?_ ?_
 ·have := hsome i (hRm i v E hR)
  rw [hd] at this; cases this
 ·rintro i D V V' e him hmq hV ⟨hlt, hor⟩
  simp only [List.mem_cons, List.not_mem_nil, or_false, not_or] at hmq
  obtain ⟨i0, i1, i2⟩ := hmq
  refine ⟨by simpa using ⟨him, hlt⟩, ?_⟩
  rcases hor with ⟨a0, a1, a2, rfl⟩ | ⟨a0, a1, a2, rfl⟩ | ⟨a0, a1, a2, rfl⟩ | ⟨a0, a1, a2, rfl⟩
  ·exact .inl ⟨by simp [a0, Ne.symm i0], by simp [a1, Ne.symm i1], by simp [a2, Ne.symm i2], rfl⟩
  ·exact .inr (.inl ⟨by simp [a0], by simp [a1, Ne.symm i1], by simp [a2, Ne.symm i2], by rw [hV q0 a0]⟩)
  ·exact .inr (.inr (.inl ⟨by simp [a0], by simp [a1], by simp [a2, Ne.symm i2], by rw [hV q1 a1]⟩))
  ·exact .inr (.inr (.inr ⟨by simp [a0], by simp [a1], by simp [a2], by rw [hV q2 a2]⟩))
 ·intro i him hmq V E w hR D e hp hG hni hs
  rw [hmap V _ (hpsm i him)]
  simp only [List.mem_cons, List.not_mem_nil, or_false, not_or] at hmq
  have := Hop.use (V := V) (E := E) (hop i him hmq.1 hmq.2.1 hmq.2.2 e) hR w (by simpa using hs.perm List.perm_middle.symm)
  simpa using this
 ·intro i him hmq V E w hR D e hp hG hni hs
  obtain ⟨hlt, hor⟩ := hG
  rw [hmap V _ (hpsm i him)]
  simp only [List.mem_cons, List.not_mem_nil, or_false] at hmq
  rcases hmq with rfl | rfl | rfl
  ·have he : e = join [] := by rcases hor with h | h | h | h; exact h.2.2.2; exact absurd h.1 hni; exact absurd h.1 hni; exact absurd h.1 hni
   have hd1 : q1 ∉ D := by rcases hor with h | h | h | h; exact h.2.1; exact absurd h.1 hni; exact absurd h.1 hni; exact absurd h.1 hni
   have hd2 : q2 ∉ D := by rcases hor with h | h | h | h; exact h.2.2.1; exact absurd h.1 hni; exact absurd h.1 hni; exact absurd h.1 hni
   subst he
   have := HopQ.use (V := V) (E := E) hq0 hR w (by simpa using hs)
   refine OpR.mono (by simpa using this) ?_
   rintro v w' ⟨h1, h2, h3, h4⟩
   exact ⟨_, h1, h2, h3, h4, fun V' hV' hv => ⟨by simpa using ⟨him, hlt⟩, .inr (.inl ⟨by simp, by simp [hd1, Ne.symm hn1], by simp [hd2, Ne.symm hn2], by rw [hv]⟩)⟩⟩
  ·have h0 : q0 ∈ D := hp q0 h01
   have he : e = e1 (V q0) := by rcases hor with h | h | h | h; exact absurd h0 h.1; exact h.2.2.2; exact absurd h.2.1 hni; exact absurd h.2.1 hni
   have hd2 : q2 ∉ D := by rcases hor with h | h | h | h; exact h.2.2.1; exact h.2.2.1; exact h.2.2.1; exact absurd h.2.1 hni
   subst he
   have := HopC.use (V := V) (E := E) hq1 hR (.inl h01) w (by simpa using hs)
   refine OpR.mono (by simpa using this) ?_
   rintro v w' ⟨h1, h2, h3, h4⟩
   exact ⟨_, h1, h2, h3, h4, fun V' hV' hv => ⟨by simpa using ⟨him, hlt⟩, .inr (.inr (.inl ⟨by simp [h0], by simp, by simp [hd2, Ne.symm hn3], by rw [hv]⟩))⟩⟩
  ·have h1D : q1 ∈ D := hp q1 h12
   have he : e = e2 (V q1) := by rcases hor with h | h | h | h; exact absurd h1D h.2.1; exact absurd h1D h.2.1; exact h.2.2.2; exact absurd h.2.2.1 hni
   have h0D : q0 ∈ D := by rcases hor with h | h | h | h; exact absurd h1D h.2.1; exact h.1; exact h.1; exact h.1
   subst he
   have := HopC.use (V := V) (E := E) hq2 hR (.inl h12) w (by simpa using hs)
   refine OpR.mono (by simpa using this) ?_
   rintro v w' ⟨h1, h2, h3, h4⟩
   exact ⟨_, h1, h2, h3, h4, fun V' hV' hv => ⟨by simpa using ⟨him, hlt⟩, .inr (.inr (.inr ⟨by simp [h0D], by simp [h1D], by simp, by rw [hv]⟩))⟩⟩
 ·rintro D V E e a w hD ⟨_, hor⟩ hR hf hs
  have hqD : ∀ q, q < m → q ∈ D := fun q hq => hD.mem_iff.2 (List.mem_range.2 hq)
  have he : e = e3 (V q2) := by rcases hor with h | h | h | h; exact absurd (hqD _ hm2) h.2.2.1; exact absurd (hqD _ hm2) h.2.2.1; exact absurd (hqD _ hm2) h.2.2.1; exact h.2.2.2
  subst he
  rw [hmap V _ (fun p hp => List.mem_range.1 hp)] at hf
  exact HopK.use (V := V) (E := E) (hk (V q2)) (fun p hp => ⟨hR p (List.mem_range.1 hp), fun h => by rw [h]⟩) a w (by simpa using hf) (by simpa using hs.perm List.perm_middle.symm)
end
end Go.PW
namespace Go.PW
open Go.RowKit
theorem fH {A B us : List Value} {o : Nat} (h : o + us.length ≤ A.length) : splice (A ++ B) o us = splice A o us ++ B := by
 unfold splice
 rw [List.take_append_of_le_length om, List.drop_append_of_le_length om]
 simp
theorem iV {A B us : List Value} {o : Nat} : splice (A ++ B) (A.length + o) us = A ++ splice B o us := by
 unfold splice
 rw [List.take_length_add_append, Nat.add_assoc, ← List.drop_drop, List.drop_left]
 simp
theorem dK {A us : List Value} {o : Nat} (h : o + us.length ≤ A.length) : (splice A o us).length = A.length := by
 unfold splice
 simp only [List.length_append, List.length_take, List.length_drop]
 omega
theorem ec {sz j : Nat} {us : List Value} : ∀ {els : List (List Value)} {k : Nat} (h1 : ∀ e ∈ els, e.length = sz) (hk : k < els.length) (hj : j + us.length ≤ sz),
  splice els.flatten (k * sz + j) us = (els.set k (splice els[k] j us)).flatten
 | [], k, h1, hk, hj => by simp at hk
 | e :: els, 0, h1, hk, hj => by
  have he := h1 e sm
  simp only [List.flatten_cons, Nat.zero_mul, Nat.zero_add, List.set_cons_zero, List.getElem_cons_zero]
  exact fH om
 | e :: els, k + 1, h1, hk, hj => by
  have he := h1 e sm
  have e1 : (k + 1) * sz + j = e.length + (k * sz + j) := by rw [he, Nat.succ_mul]; omega
  have hk' : k < els.length := by simpa using hk
  rw [e1]
  simp only [List.flatten_cons, List.set_cons_succ, List.getElem_cons_succ]
  rw [iV, ec (fun e he => h1 e (by simp [he])) hk' hj]
section
variable {P : Program} {r : Option Nat} {ops : Array Oper} {K : Act → World → Prop} {rest : List Oper} {a : Act} {w w' w0 : World} {M : Nat → Prop} {H : List Ent}
variable {N : Nat} {L : List (Nat × Value)} {df : List Deferred} {ty : TypeId} {pos : String} {af : Array Edge}
variable {v u : Value} {sz : Nat} {els : List (List Value)} {E T : TypeId} {x y : Operand}
theorem gX {g off : Nat} {cur : Array Value} {fz : Nat × Nat} (hg : w.heap[g]? = some (.cells cur E fz)) (hfz : rowFz fz cur.size) (hsz : (sizeOf T).run P w = .ok u.cells.size w) (hone : ∀ x ∈ u.cells.toList, x.oneCell' = true) (hfit : off + u.cells.size ≤ cur.size) :
  (storeVar T ⟨g, off, none⟩ u).run P w = .ok () (w.setRow g (splice cur.toList off u.cells.toList).toArray) := by
 have h := bZ P g off E fz u.cells.toList 0 cur w hg (by rcases hfz with h | h <;> simp <;> omega) (by simpa using hfit) hone
 simp only [storeVar, Sem.run_bind, hsz, Result.andThen_ok]
 simp only [ne_eq, not_true_eq_false, if_false]
 rw [← Array.toArray_toList (xs := u.cells)] at h
 simpa [splice] using h
theorem ip {k j : Nat} (hk : k < els.length) (ho : (own v E sz els).ok w) (hsz : (sizeOf T).run P w = .ok u.cells.size w) (hone : ∀ x ∈ u.cells.toList, x.oneCell' = true) (hj : j + u.cells.size ≤ sz) :
  ∃ g cap w', v = .slice (some ⟨g, 0, none⟩) els.length cap ∧ (storeVar T ⟨g, 0 + (k * sz + j), none⟩ u).run P w = .ok () w' ∧ Ext (own v E sz els).foot w w' ∧ w'.heap.size = w.heap.size ∧ (own v E sz (els.set k (splice els[k] j u.cells.toList))).ok w' := by
 obtain ⟨h1, h2, h3, h4⟩ := ho
 rcases h4 with ⟨rfl, h0⟩ | ⟨g, cap, cur, fz, rfl, hg, hfz, hnc, hcm, hcs, htk⟩
 ·omega
 ·have hks : (k + 1) * sz ≤ els.length * sz := Nat.mul_le_mul_right _ hk
  have hcc : els.length * sz ≤ cap * sz := Nat.mul_le_mul_right _ hnc
  rw [Nat.succ_mul] at hks
  have hfl : els.flatten.length = els.length * sz := cx h1
  have hr := gX (P := P) (T := T) (u := u) (off := k * sz + j) hg (by rw [hcs]; exact hfz) hsz hone om
  refine ⟨g, cap, w.setRow g (splice cur.toList (k * sz + j) u.cells.toList).toArray, rfl, by rw [Nat.zero_add]; exact hr, ⟨rfl, rfl, rfl, by simp, fun b _ hb => setRow_other w g b _ (fun e => hb (by subst e; rfl))⟩, by simp, ?_, by simpa using h2, ?_, .inr ⟨g, cap, _, fz, by simp, setRow_heap w g cur _ E _ hg, hfz, by simpa using hnc, hcm, ?_, ?_⟩⟩
  ·intro e he
   rcases List.mem_or_eq_of_mem_set he with he | rfl
   ·exact h1 e he
   ·rw [dK (by rw [h1 _ (List.getElem_mem hk)]; simpa using hj)]; exact h1 _ (List.getElem_mem hk)
  ·rw [← ec h1 hk (by simpa using hj), dK (by rw [hfl]; simp; omega), hfl]; simp
  ·simp only [List.size_toArray]
   rw [dK (by simp; omega)]; simpa using hcs
  ·rw [← ec h1 hk (by simpa using hj), ← htk]
   simp only [List.length_set]
   have hl : (cur.toList.take (els.length * sz)).length = els.length * sz := by rw [htk]; exact hfl
   conv => lhs; arg 2; arg 1; rw [← List.take_append_drop (els.length * sz) cur.toList]
   rw [fH (by rw [hl]; simp; omega)]
   have hl2 : (splice (cur.toList.take (els.length * sz)) (k * sz + j) u.cells.toList).length = els.length * sz := by rw [dK (by rw [hl]; simp; omega), hl]
   exact List.take_left' hl2
theorem iJ {k j q : Nat} {els' : List (List Value)} {H' : List Ent} (i : Nat) (Z : Fr N L df a) (Y : St M w0 H w) (hx : ev L x = some (slAddr v q)) (hy : ev L y = some u) (hi : H[i]? = some (own v E sz els)) (hk : k < els.length) (hq : q = k * sz + j)
  (hsz : (sizeOf T).run P w = .ok u.cells.size w) (hone : ∀ x ∈ u.cells.toList, x.oneCell' = true) (hj : j + u.cells.size ≤ sz) (hels : els.set k (splice els[k] j u.cells.toList) = els') (hH : H.set i (own v E sz els') = H')
  (kk : ∀ a w', Fr N L df a → St M w0 H' w' → WL P r ops K rest a w') :
  WL P r ops K (⟨none, .store T x y, ty, pos, af, none⟩ :: rest) a w := by
 subst hels; subst hH; subst hq
 obtain ⟨g, cap, w', hv, hr, hext, hsize, hok⟩ := ip hk (Y.get hi) hsz hone hj
 have hx' : ev L x = some (.pointer (some ⟨g, 0 + (k * sz + j), none⟩)) := by rw [hx, hv]; rfl
 refine wl_r (R := fun _ w2 => w2 = w') ?_ rfl rfl Z fun a _ w2 hw h => by
  subst hw
  refine kk _ _ h (Y.exchange hi hext hok fun b hb => ?_)
  have hlt := Y.lt hi (b := b) hb
  exact ⟨by rw [hsize]; exact hlt, .inl hb⟩
 intro N df a Z
 refine fi rfl (w' := w') ?_ ⟨_, rfl, rfl⟩
 simp only [execOp, Z.eval hx', Z.eval hy, Instr.storeAt, Instr.sureAddr, Sem.run_bind, Sem.run_pure, Result.andThen_ok, hr]
end
end Go.PW
namespace Go.PW
open Go.RowKit
section
variable {P : Program} {r : Option Nat} {K : Act → World → Prop} {a : Act} {w w0 : World} {M : Nat → Prop} {H : List Ent}
variable {N : Nat} {L : List (Nat × Value)} {df : List Deferred}
theorem ee {v : Value} {sz : Nat} {els : List (List Value)} (h : SlAt w v sz els) : ∃ a n c, v = .slice a n c := by
 rcases h.2.2 with ⟨rfl, _⟩ | ⟨b, off, cap, rfl, _⟩
 ·exact ⟨_, _, _, rfl⟩
 ·exact ⟨_, _, _, rfl⟩
def HopV (P : Program) (r : Option Nat) (M : Nat → Prop) (w0 : World) (pc : Nat) (e3 : Value → Ent) (f : Value → Value) (H : List Ent) (L : List (Nat × Value)) (l : List Oper) (R : Nat → Value → List Ent → Prop) (i : Nat) : List Nat → List (Nat × Value) → List Ent → Value → Prop
 | [], Lv, Es, u => ∀ w, St M w0 (e3 u :: (Es ++ H)) w → OpR P r (opAt l i) (Lv ++ L) w (fun v w' => Ext No w w' ∧ v = f u ∧ R i v [])
 | p :: ps, Lv, Es, u => ∀ v E, R p v E → HopV P r M w0 pc e3 f H L l R i ps (Lv ++ [(dsOf l p, v)]) (Es ++ E) (bif Nat.beq p pc then v else u)
theorem HopV.use {pc : Nat} {e3 : Value → Ent} {f : Value → Value} {l : List Oper} {R : Nat → Value → List Ent → Prop} {i : Nat} {V : Nat → Value} {E : Nat → List Ent} : ∀ {ps : List Nat} {Lv : List (Nat × Value)} {Es : List Ent} {u : Value}, HopV P r M w0 pc e3 f H L l R i ps Lv Es u → (∀ p ∈ ps, R p (V p) (E p)) → (pc ∈ ps ∨ u = V pc) →
  ∀ w, St M w0 (e3 (V pc) :: (Es ++ ps.flatMap E ++ H)) w → OpR P r (opAt l i) (Lv ++ ps.map (fun p => (dsOf l p, V p)) ++ L) w (fun v w' => Ext No w w' ∧ v = f (V pc) ∧ R i v [])
 | [], Lv, Es, u, h, _, hu, w, hs => by
  rcases hu with hu | hu
  ·cases hu
  ·subst hu; simpa using h w (by simpa using hs)
 | p :: ps, Lv, Es, u, h, hR, hu, w, hs => by
  have h2 : pc ∈ ps ∨ (bif Nat.beq p pc then V p else u) = V pc := by
   by_cases hp : p = pc
   ·subst hp; exact .inr sm
   ·rcases hu with hu | hu
    ·rcases List.mem_cons.1 hu with h3 | h3
     ·exact absurd h3.symm hp
     ·exact .inl h3
    ·have : Nat.beq p pc = false := by cases hb : Nat.beq p pc with | false => rfl | true => exact absurd (Nat.eq_of_beq_eq_true hb) hp
     exact .inr (by rw [this]; exact hu)
  have := HopV.use (h (V p) (E p) (hR p sm)) (fun q hq => hR q (by simp [hq])) h2 w (by simpa using hs)
  simpa using this
theorem OpV.hopv {o : Oper} {v : Value} {R : Value → List Ent → Prop} (h : OpR P r o L w (GrowR w (pv v))) (hR : R v []) : OpR P r o L w (fun v' w' => Ext No w w' ∧ v' = v ∧ R v' []) :=
 OpR.mono h fun v' w' ⟨hx, E, hv, _⟩ => by
  obtain ⟨rfl, _⟩ := hv
  exact ⟨hx, rfl, hR⟩
theorem dF {l : List Oper} (q0 q1 q2 q3 : Nat) (e1 e2 e3 : Value → Ent) (f : Value → Value) (m : Nat) (ps : List (List Nat)) (R : Nat → Value → List Ent → Prop) (Z : Fr N L df a) (Y : St M w0 H w)
  (hmix : P.follows .mixedOrders = true) (hok : phOkM l m N (keys L) ps = true) (hds : ((List.range m).all fun i => (opAt l i).dst.isSome) = true) (hqm : q0 < m ∧ q1 < m ∧ q2 < m ∧ q3 < m) (hne : q0 ≠ q1 ∧ q0 ≠ q2 ∧ q1 ≠ q2 ∧ q0 ≠ q3 ∧ q1 ≠ q3 ∧ q2 ≠ q3) (h01 : q0 ∈ ps.getD q1 []) (h12 : q1 ∈ ps.getD q2 []) (h23 : q2 ∈ ps.getD q3 []) (hRm : ∀ i v E, R i v E → i < m)
  (hop : ∀ i, i < m → i ≠ q0 → i ≠ q1 → i ≠ q2 → i ≠ q3 → ∀ e, Hop P r M w0 (e :: H) L l R i (ps.getD i []) [] [])
  (hq0 : HopQ P r M w0 (join []) e1 H L l R q0 (ps.getD q0 []) [] [])
  (hq1 : HopC P r M w0 q0 e1 e2 H L l R q1 (ps.getD q1 []) [] [] undef)
  (hq2 : HopC P r M w0 q1 e2 e3 H L l R q2 (ps.getD q2 []) [] [] undef)
  (hq3 : HopV P r M w0 q2 e3 f H L l R q3 (ps.getD q3 []) [] [] undef)
  (hk : ∀ vq, HopK P r M w0 (e3 vq :: H) N L df l m (fun i v E => R i v E ∧ (i = q2 → v = vq) ∧ (i = q3 → v = f vq)) K (List.range m) [] []) : DR P r l.toArray K a w := by
 obtain ⟨hn1, hn2, hn3, hn4, hn5, hn6⟩ := hne
 obtain ⟨hm0, hm1, hm2, hm3⟩ := hqm
 have hsome : ∀ i, i < m → (opAt l i).dst.isSome = true := fun i hi => List.all_eq_true.1 hds i (List.mem_range.2 hi)
 have hpsm : ∀ i, i < m → ∀ p ∈ ps.getD i [], p < m := by
  intro i hi p hp
  have hok2 := hok
  simp only [phOkM, Bool.and_eq_true, List.all_eq_true, decide_eq_true_eq, List.mem_range] at hok2
  exact ((hok2.1.1.1.2 i hi).1.2 p hp).2
 have hmap : ∀ (V : Nat → Value) (is : List Nat), (∀ p ∈ is, p < m) → is.map (fun p => (dsv l N p, V p)) = is.map fun p => (dsOf l p, V p) := fun V is h => List.map_congr_left fun p hp => by rw [je (hsome p (h p hp))]
 refine cP (M := M) (w0 := w0) (e0 := join []) m ps [q0, q1, q2, q3] hmix hok R (fun i v E hd hR => ?_)
  (fun D V e => (∀ i ∈ D, i < m) ∧ ((q0 ∉ D ∧ q1 ∉ D ∧ q2 ∉ D ∧ e = join []) ∨ (q0 ∈ D ∧ q1 ∉ D ∧ q2 ∉ D ∧ e = e1 (V q0)) ∨ (q0 ∈ D ∧ q1 ∈ D ∧ q2 ∉ D ∧ e = e2 (V q1)) ∨ (q0 ∈ D ∧ q1 ∈ D ∧ q2 ∈ D ∧ e = e3 (V q2))) ∧ (q3 ∈ D → q2 ∈ D ∧ V q3 = f (V q2)))
  (fun V => ⟨by simp, .inl ⟨by simp, by simp, by simp, rfl⟩, by simp⟩) ?_ Z Y.hollow ?_ ?_ ?_
 ·have := hsome i (hRm i v E hR)
  rw [hd] at this; cases this
 ·rintro i D V V' e him hmq hV ⟨hlt, hor, hf3⟩
  simp only [List.mem_cons, List.not_mem_nil, or_false, not_or] at hmq
  obtain ⟨i0, i1, i2, i3⟩ := hmq
  refine ⟨by simpa using ⟨him, hlt⟩, ?_, fun h => ?_⟩
  ·rcases hor with ⟨a0, a1, a2, rfl⟩ | ⟨a0, a1, a2, rfl⟩ | ⟨a0, a1, a2, rfl⟩ | ⟨a0, a1, a2, rfl⟩
   ·exact .inl ⟨by simp [a0, Ne.symm i0], by simp [a1, Ne.symm i1], by simp [a2, Ne.symm i2], rfl⟩
   ·exact .inr (.inl ⟨by simp [a0], by simp [a1, Ne.symm i1], by simp [a2, Ne.symm i2], by rw [hV q0 a0]⟩)
   ·exact .inr (.inr (.inl ⟨by simp [a0], by simp [a1], by simp [a2, Ne.symm i2], by rw [hV q1 a1]⟩))
   ·exact .inr (.inr (.inr ⟨by simp [a0], by simp [a1], by simp [a2], by rw [hV q2 a2]⟩))
  ·rcases List.mem_cons.1 h with h | h
   ·exact absurd h.symm i3
   ·obtain ⟨h2, h3⟩ := hf3 h
    exact ⟨by simp [h2], by rw [hV q3 h, hV q2 h2, h3]⟩
 ·intro i him hmq V E w hR D e hp hG hni hs
  rw [hmap V _ (hpsm i him)]
  simp only [List.mem_cons, List.not_mem_nil, or_false, not_or] at hmq
  have := Hop.use (V := V) (E := E) (hop i him hmq.1 hmq.2.1 hmq.2.2.1 hmq.2.2.2 e) hR w (by simpa using hs.perm List.perm_middle.symm)
  simpa using this
 ·intro i him hmq V E w hR D e hp hG hni hs
  obtain ⟨hlt, hor, hf3⟩ := hG
  rw [hmap V _ (hpsm i him)]
  simp only [List.mem_cons, List.not_mem_nil, or_false] at hmq
  rcases hmq with rfl | rfl | rfl | rfl
  ·have he : e = join [] := by rcases hor with h | h | h | h; exact h.2.2.2; exact absurd h.1 hni; exact absurd h.1 hni; exact absurd h.1 hni
   have hd1 : q1 ∉ D := by rcases hor with h | h | h | h; exact h.2.1; exact absurd h.1 hni; exact absurd h.1 hni; exact absurd h.1 hni
   have hd2 : q2 ∉ D := by rcases hor with h | h | h | h; exact h.2.2.1; exact absurd h.1 hni; exact absurd h.1 hni; exact absurd h.1 hni
   have hd3 : q3 ∉ D := fun h => hd2 (hf3 h).1
   subst he
   have := HopQ.use (V := V) (E := E) hq0 hR w (by simpa using hs)
   refine OpR.mono (by simpa using this) ?_
   rintro v w' ⟨h1, h2, h3, h4⟩
   exact ⟨_, h1, h2, h3, h4, fun V' hV' hv => ⟨by simpa using ⟨him, hlt⟩, .inr (.inl ⟨by simp, by simp [hd1, Ne.symm hn1], by simp [hd2, Ne.symm hn2], by rw [hv]⟩), fun h => by rcases List.mem_cons.1 h with h | h; exact absurd h.symm hn4; exact absurd h hd3⟩⟩
  ·have h0 : q0 ∈ D := hp q0 h01
   have he : e = e1 (V q0) := by rcases hor with h | h | h | h; exact absurd h0 h.1; exact h.2.2.2; exact absurd h.2.1 hni; exact absurd h.2.1 hni
   have hd2 : q2 ∉ D := by rcases hor with h | h | h | h; exact h.2.2.1; exact h.2.2.1; exact h.2.2.1; exact absurd h.2.1 hni
   have hd3 : q3 ∉ D := fun h => hd2 (hf3 h).1
   subst he
   have := HopC.use (V := V) (E := E) hq1 hR (.inl h01) w (by simpa using hs)
   refine OpR.mono (by simpa using this) ?_
   rintro v w' ⟨h1, h2, h3, h4⟩
   exact ⟨_, h1, h2, h3, h4, fun V' hV' hv => ⟨by simpa using ⟨him, hlt⟩, .inr (.inr (.inl ⟨by simp [h0], by simp, by simp [hd2, Ne.symm hn3], by rw [hv]⟩)), fun h => by rcases List.mem_cons.1 h with h | h; exact absurd h.symm hn5; exact absurd h hd3⟩⟩
  ·have h1D : q1 ∈ D := hp q1 h12
   have he : e = e2 (V q1) := by rcases hor with h | h | h | h; exact absurd h1D h.2.1; exact absurd h1D h.2.1; exact h.2.2.2; exact absurd h.2.2.1 hni
   have h0D : q0 ∈ D := by rcases hor with h | h | h | h; exact absurd h1D h.2.1; exact h.1; exact h.1; exact h.1
   have hd3 : q3 ∉ D := fun h => hni (hf3 h).1
   subst he
   have := HopC.use (V := V) (E := E) hq2 hR (.inl h12) w (by simpa using hs)
   refine OpR.mono (by simpa using this) ?_
   rintro v w' ⟨h1, h2, h3, h4⟩
   exact ⟨_, h1, h2, h3, h4, fun V' hV' hv => ⟨by simpa using ⟨him, hlt⟩, .inr (.inr (.inr ⟨by simp [h0D], by simp [h1D], by simp, by rw [hv]⟩)), fun h => by rcases List.mem_cons.1 h with h | h; exact absurd h.symm hn6; exact absurd h hd3⟩⟩
  ·have h2D : q2 ∈ D := hp q2 h23
   have he : (q0 ∈ D ∧ q1 ∈ D) ∧ e = e3 (V q2) := by rcases hor with h | h | h | h; exact absurd h2D h.2.2.1; exact absurd h2D h.2.2.1; exact absurd h2D h.2.2.1; exact ⟨⟨h.1, h.2.1⟩, h.2.2.2⟩
   obtain ⟨⟨h0D, h1D⟩, rfl⟩ := he
   have := HopV.use (V := V) (E := E) hq3 hR (.inl h23) w (by simpa using hs)
   refine OpR.mono (by simpa using this) ?_
   rintro v w' ⟨h1, h2, h3⟩
   refine ⟨e3 (V q2), h1.mono fun _ _ h => h.elim, ?_, ?_, h3, fun V' hV' hv => ⟨by simpa using ⟨him, hlt⟩, .inr (.inr (.inr ⟨by simp [h0D], by simp [h1D], by simp [h2D], by rw [hV' q2 h2D]⟩)), fun _ => ⟨by simp [h2D], by rw [hv, hV' q2 h2D, h2]⟩⟩⟩
   ·exact (hs.grow h1).mem sm
   ·intro b hb
    have := ((hs.grow h1).ok (e3 (V q2)) sm).2 b hb
    exact ⟨this.1, .inl hb⟩
 ·rintro D V E e a w hD ⟨_, hor, hf3⟩ hR hf hs
  have hqD : ∀ q, q < m → q ∈ D := fun q hq => hD.mem_iff.2 (List.mem_range.2 hq)
  have he : e = e3 (V q2) := by rcases hor with h | h | h | h; exact absurd (hqD _ hm2) h.2.2.1; exact absurd (hqD _ hm2) h.2.2.1; exact absurd (hqD _ hm2) h.2.2.1; exact h.2.2.2
  subst he
  rw [hmap V _ (fun p hp => List.mem_range.1 hp)] at hf
  exact HopK.use (V := V) (E := E) (hk (V q2)) (fun p hp => ⟨hR p (List.mem_range.1 hp), fun h => by rw [h], fun h => by rw [h]; exact (hf3 (hqD _ hm3)).2⟩) a w (by simpa using hf) (by simpa using hs.perm List.perm_middle.symm)
section state
variable {rest : List Oper} {d : Nat} {ty : TypeId} {pos : String} {af : Array Edge} {x : Operand} {ops : Array Oper}
theorem il {X : Type} {fv : X → Value} {Ex : X → List Ent} {Pr : X → Prop} {f : FuncId} {cap : List Value} {xs : List Operand} {vs : List Value} {ats : Array TypeId} (Z : Fr N L df a) (Y : St M w0 H w) (hd : d < N) (hf : ev L x = some (.func (.func f) #[] cap.toArray)) (hen : ∀ args w, (callFunc f args).run P w = .ok (.enter f args) w) (hx : evs L xs = some vs)
  (hc : Ret P f (vs ++ cap).toArray w (MemR w fv Ex Pr)) (k : ∀ a w' z, Pr z → Fr N ((d, fv z) :: L) df a → St M w0 (Ex z ++ H) w' → WL P r ops K rest a w') :
  WL P r ops K (⟨some d, .call { callee := .value x, args := xs.toArray, argTypes := ats }, ty, pos, af, none⟩ :: rest) a w :=
 wl_r (iK hf hen hx hc) rfl (decide_eq_true hd) Z fun a v' w' ⟨z, h1, h2, h3, h4⟩ h => by subst h1; exact k _ _ z h2 h (Y.pushes h3 h4)
end state
section slices
variable {dst : Option Tmp} {T E ty : TypeId} {pos : String} {af : Array Edge} {gd : Option (Nat × Bool)} {x y : Operand} {v u : Value} {sz : Nat} {els : List (List Value)} {w1 : World}
theorem fN {i : Int} (h : SlAt w1 v sz els) (hx : ev L x = some v) (hy : ev L y = some (.int .i64 i)) (hu : (underlying T).run P w = .ok (.slice E) w) (hs : (sizeOf E).run P w = .ok sz w) (h0 : 0 ≤ i) (hi : i.toNat < els.length) :
  OpV P ⟨dst, .indexAddr T x y, ty, pos, af, gd⟩ L w (slAddr v (i.toNat * sz)) := by
 obtain ⟨b, off, cap, rfl, _⟩ := h.at hi
 refine aY hx hy ?_
 have hlt : i < (els.length : Int) := by omega
 simp only [Instr.indexAt, asIntOf, Sem.run_bind, Sem.run_pure, Result.andThen_ok, hu]
 simp only [h0, hlt, and_self, if_true]
 simp [hs, bH, slAddr]
theorem kq {k j q : Nat} {els' : List (List Value)} (hx : ev L x = some (slAddr v q)) (hy : ev L y = some u) (ho : (own v E sz els).ok w) (hk : k < els.length) (hq : q = k * sz + j)
  (hsz : (sizeOf T).run P w = .ok u.cells.size w) (hone : ∀ x ∈ u.cells.toList, x.oneCell' = true) (hj : j + u.cells.size ≤ sz) (hels : els.set k (splice els[k] j u.cells.toList) = els') :
  OpR P r ⟨dst, .store T x y, ty, pos, af, gd⟩ L w fun v2 w' => v2 = undef ∧ Ext (own v E sz els).foot w w' ∧ (own v E sz els').ok w' := by
 subst hels; subst hq
 obtain ⟨g, cap, w', hv, hr, hext, hsize, hok⟩ := ip hk ho hsz hone hj
 have hx' : ev L x = some (.pointer (some ⟨g, 0 + (k * sz + j), none⟩)) := by rw [hx, hv]; rfl
 exact fun N df a h => fi rfl (w' := w') (by
  simp only [execOp, h.eval hx', h.eval hy, Instr.storeAt, Instr.sureAddr, Sem.run_bind, Sem.run_pure, Result.andThen_ok, hr]) ⟨undef, rfl, rfl, hext, hok⟩
end slices
end
end Go.PW
namespace Go.PW
open Go.RowKit
section
variable {P : Program} {r : Option Nat} {K : Act → World → Prop} {a : Act} {w w0 : World} {M : Nat → Prop} {H : List Ent}
variable {N : Nat} {L : List (Nat × Value)} {df : List Deferred}
def HopL (P : Program) (r : Option Nat) (M : Nat → Prop) (w0 : World) (E2 : (Nat → Value) → Value → Ent) (H : List Ent) (L : List (Nat × Value)) (l : List Oper) (R : Nat → Value → List Ent → Prop) (i : Nat) : List Nat → List (Nat × Value) → List Ent → (Nat → Value) → Prop
 | [], Lv, Es, u => ∀ w, St M w0 (join [] :: (Es ++ H)) w → OpR P r (opAt l i) (Lv ++ L) w (fun v w' => Ext (join []).foot w w' ∧ (E2 u v).ok w' ∧ (∀ b, (E2 u v).foot b → b < w'.heap.size ∧ ((join []).foot b ∨ w.heap.size ≤ b)) ∧ R i v [])
 | p :: ps, Lv, Es, u => ∀ v E, R p v E → HopL P r M w0 E2 H L l R i ps (Lv ++ [(dsOf l p, v)]) (Es ++ E) (fun j => bif Nat.beq j p then v else u j)
theorem HopL.use {E2 : (Nat → Value) → Value → Ent} {l : List Oper} {R : Nat → Value → List Ent → Prop} {i : Nat} {V : Nat → Value} {E : Nat → List Ent} {qs : List Nat} (hdep : ∀ (V V' : Nat → Value) v, (∀ q ∈ qs, V q = V' q) → E2 V v = E2 V' v) :
  ∀ {ps : List Nat} {Lv : List (Nat × Value)} {Es : List Ent} {u : Nat → Value}, HopL P r M w0 E2 H L l R i ps Lv Es u → (∀ p ∈ ps, R p (V p) (E p)) → (∀ q ∈ qs, q ∈ ps ∨ u q = V q) →
  ∀ w, St M w0 (join [] :: (Es ++ ps.flatMap E ++ H)) w → OpR P r (opAt l i) (Lv ++ ps.map (fun p => (dsOf l p, V p)) ++ L) w (fun v w' => Ext (join []).foot w w' ∧ (E2 V v).ok w' ∧ (∀ b, (E2 V v).foot b → b < w'.heap.size ∧ ((join []).foot b ∨ w.heap.size ≤ b)) ∧ R i v [])
 | [], Lv, Es, u, h, _, hu, w, hs => by
  have he : ∀ v, E2 u v = E2 V v := fun v => hdep u V v fun q hq => by
   rcases hu q hq with h | h
   ·cases h
   ·exact h
  have := h w (by simpa using hs)
  simp only [he] at this
  simpa using this
 | p :: ps, Lv, Es, u, h, hR, hu, w, hs => by
  have := HopL.use hdep (h (V p) (E p) (hR p sm)) (fun q hq => hR q (by simp [hq])) (fun q hq => by
   by_cases hp : q = p
   ·subst hp; exact .inr sm
   ·rcases hu q hq with h3 | h3
    ·rcases List.mem_cons.1 h3 with h4 | h4
     ·exact absurd h4 hp
     ·exact .inl h4
    ·have : Nat.beq q p = false := by cases hb : Nat.beq q p with | false => rfl | true => exact absurd (Nat.eq_of_beq_eq_true hb) hp
     exact .inr (by show (bif Nat.beq q p then V p else u q) = V q; rw [this]; exact h3)) w (by simpa using hs)
  simpa using this
def scd (v : Value) : Value := v.cells.toList.getD 1 undef
end
end Go.PW
namespace Go.PW
open Go.RowKit Go.Builtin
section
variable {P : Program} {r : Option Nat} {ops : Array Oper} {K : Act → World → Prop} {rest : List Oper} {a : Act} {w w' w0 : World} {M : Nat → Prop} {H : List Ent}
variable {N : Nat} {L : List (Nat × Value)} {df : List Deferred} {d : Nat} {ty : TypeId} {pos : String} {af : Array Edge} {E T : TypeId} {sz : Nat} {v u : Value} {els els' : List (List Value)} {x y : Operand}
theorem SlAt.cutk {α : Type} {xs : List α} {f : α → List Value} {h : Nat} (hs : SlAt w v sz (xs.map f)) (hh : h ≤ xs.length) : SlAt w (PW.cut v sz 0 h h) sz ((xs.take h).map f) := by
 have := hs.cut (l := 0) (h := h) (m := h) (Nat.zero_le _) (by simpa using hh) (Nat.le_refl _) (Nat.le_trans (by simpa using hh) hs.shp.cap)
 simpa [List.map_take] using this
theorem fy {w1 : World} {dst : Option Tmp} {gd : Option (Nat × Bool)} {hi mx : Operand} {h : Nat} (hs : SlAt w1 v sz els) (hx : ev L x = some v) (e2 : ev L hi = some (.int .i64 (h : Int))) (e3 : ev L mx = some (.int .i64 (h : Int))) (hu : P.underlying T = some (.slice E)) (hsz : (P.info? E).map (·.size) = some sz) (hh : h ≤ els.length) :
  OpV P ⟨dst, .slice T x none (some hi) (some mx), ty, pos, af, gd⟩ L w (cut v sz 0 h h) :=
 eo (lo := none) (hi := some hi) (mx := some mx) (lv := none) (hv := some (.int .i64 (h : Int))) (mv := some (.int .i64 (h : Int))) hs.shp hx rfl (by simp [evo, e2]) (by simp [evo, e3]) hu hsz (.inl ⟨rfl, rfl⟩) (.inr rfl) (.inr rfl) (Nat.zero_le _) (Nat.le_refl _) (Nat.le_trans hh hs.shp.cap)
theorem fu (h : (own v E sz els).ok w) : (sl v sz els).ok w ∧ ∀ k, (sl v sz els).foot k → (own v E sz els).foot k := by
 refine ⟨dz h, fun k hk => ?_⟩
 have hk' : slBlk v = some k := hk
 show v.ownBlock = some k
 rw [← hk']
 cases v <;> first | rfl | (rename_i a _ _; cases a <;> rfl)
theorem St.own_sl {i : Nat} (Y : St M w0 H w) (hi : H[i]? = some (own v E sz els)) : St M w0 (H.set i (sl v sz els)) w :=
 Y.exchange hi (Ext.refl _ _) (fu (Y.get hi)).1 fun j hj => ⟨Y.lt hi ((fu (Y.get hi)).2 j hj), .inl ((fu (Y.get hi)).2 j hj)⟩
theorem fO (t tyy e : TypeId) (i : TypeInfo) (ht : P.underlying t = some (.slice e)) (hi : P.info? e = some i) {g : Addr} {n c : Nat} (hc : n ≤ c) (hu : u = .slice none 0 0 ∨ ∃ a c, u = .slice (some a) 0 c) :
  (Builtin.append_ #[t, t] tyy #[.slice (some g) n c, u]).run P w = .ok (.slice (some g) n c) w := by
 have hf : (firstCells i.size 0 u).run P w = .ok #[] w := by
  rcases hu with rfl | ⟨a, c, rfl⟩
  ·simp [firstCells]
  ·exact run_firstCells_some (P := P) w i.size 0 a 0 c [] sm sm
 have hl : (Builtin.lenOf u).run P w = .ok 0 w := by
  rcases hu with rfl | ⟨a, c, rfl⟩ <;> rfl
 simp [Builtin.append_, run_underlying ht, sizeOf, typeInfo, hi, hl, hf, hc, storeCells]
theorem gZ {sT : TypeId} {inf : TypeInfo} {z : Value} {i : Nat} (hok : (own v E sz els).ok w) (hpos : 0 < els.length) (hi : i ≤ els.length) (hx : ev L x = some (cut v sz 0 i i)) (hy : ev L y = some u) (hu : SlAt w u sz els')
  (ht : P.underlying sT = some (.slice E)) (hinf : P.info? E = some inf) (hz : inf.zero = some z) (hsize : inf.size = sz) (hzs : z.cells.size = sz) (hsz : 0 < sz)
  (hbytes : (i + els'.length) * inf.bytes ≤ 140737488355328) (hbig : i + els'.length ≤ big) {dst : Option Tmp} {gd : Option (Nat × Bool)} :
  OpR P r ⟨dst, .call { callee := .builtin .append, args := #[x, y], argTypes := #[sT, sT] }, ty, pos, af, gd⟩ L w fun v' w' =>
   Ext (own v E sz els).foot w w' ∧ (sl v' sz (els.take i ++ els')).ok w' ∧ (∀ g, (sl v' sz (els.take i ++ els')).foot g → g < w'.heap.size ∧ ((own v E sz els).foot g ∨ w.heap.size ≤ g)) := by
 have hsl := dz hok
 obtain ⟨h1, h2, h3, h4⟩ := hok
 rcases h4 with ⟨rfl, h0⟩ | ⟨g, cap, cur, fz, rfl, hg, hfz, hnc, hcm, hcs, htk⟩
 ·omega
 have hcut : cut (.slice (some ⟨g, 0, none⟩) els.length cap) sz 0 i i = .slice (some ⟨g, 0, none⟩) i i := by
  simp only [cut, Nat.zero_mul, Nat.sub_zero, Option.map_some]
  split
  ·rfl
  ·rw [bH]
 have hsx := hsl.cut (l := 0) (h := i) (m := i) (Nat.zero_le _) hi (Nat.le_refl _) (by simp only [slCap]; omega)
 rw [hcut] at hx hsx
 rw [List.drop_zero, Nat.sub_zero] at hsx
 have hgl : g < w.heap.size := (Array.getElem?_eq_some_iff.1 hg).1
 by_cases hne : els' = []
 ·subst hne
  have hu' : u = .slice none 0 0 ∨ ∃ a c, u = .slice (some a) 0 c := by
   rcases hu.2.2 with ⟨h, _⟩ | ⟨b, off, cap, h, _⟩
   ·exact .inl h
   ·exact .inr ⟨_, _, h⟩
  have hr := fO (P := P) (w := w) sT ty E inf ht hinf (g := ⟨g, 0, none⟩) (Nat.le_refl i) hu'
  intro N df a Z
  refine bD rfl (v := .slice (some ⟨g, 0, none⟩) i i) (w' := w) ?_ ⟨_, rfl, Ext.refl _ _, by rw [List.append_nil]; exact hsx, fun k hk => ?_⟩
  ·simp only [execOp, resolve, invoke, builtin, Sem.run_bind, Sem.run_pure, Result.andThen_ok, List.map_toArray, List.map_cons, List.map_nil, Z.eval hx, Z.eval hy, hr]
  ·have : g = k := by simpa [sl, slBlk] using hk
   subst this
   exact ⟨hgl, .inl rfl⟩
 ·obtain ⟨b, off, cp, hub, hcells⟩ : ∃ b off cap, u = .slice (some ⟨b, off, none⟩) els'.length cap ∧ bR w b off els'.flatten := by
   rcases hu.2.2 with ⟨_, h⟩ | ⟨b, off, cap, h1, _, _, h2⟩
   ·exact absurd h hne
   ·exact ⟨b, off, cap, h1, h2⟩
  subst hub
  have hfl : els'.flatten.length = els'.length * sz := cx hu.1
  have hti : (els.take i).length = i := by rw [List.length_take]; omega
  have hfo : (els.take i).flatten.length = i * sz := by rw [cx hsx.1, hti]
  have hco : bR w g 0 (els.take i).flatten := by
   rcases hsx.2.2 with ⟨h, _⟩ | ⟨b2, o2, c2, h, _, _, hc⟩
   ·cases h
   ·simp only [Value.slice.injEq, Option.some.injEq, Addr.mk.injEq] at h
    obtain ⟨⟨rfl, rfl, _⟩, _, _⟩ := h
    exact hc
  have hm : 0 < els'.length := List.length_pos_iff.2 hne
  obtain ⟨v', w', hr, h5, h6⟩ := run_append_arg_grows (P := P) w sT ty E inf z sz inf.bytes ht hinf hz hsize rfl hzs hsz ⟨g, 0, none⟩ i i (els.take i).flatten hfo (fun j u hj => by rw [bH]; exact hco j u hj) ⟨b, off, none⟩ els'.length cp els'.flatten hfl
   (fun j u hj => by rw [bH]; exact hcells j u hj) om (by simp only [maxLen]; unfold big at hbig; omega) hbytes
  intro N df a Z
  obtain ⟨h7, h8⟩ := h5
  rcases h8 with ⟨_, h8⟩ | ⟨g2, c2, cur2, rfl, hge, hh2, hn2, hm2, hs2, ht2⟩
  ·omega
  have hown : (own (.slice (some ⟨g2, 0, none⟩) (i + els'.length) c2) E sz (els.take i ++ els')).ok w' := by
   refine ⟨fun e he => ?_, by rw [List.length_append, hti]; exact hbig, ?_⟩
   ·rcases List.mem_append.1 he with he | he
    ·exact hsx.1 e he
    ·exact hu.1 e he
   ·refine ⟨by rw [List.flatten_append, List.length_append, hfo, hfl, List.length_append, hti, Nat.add_mul], .inr ⟨g2, c2, cur2, (0, 0), by rw [List.length_append, hti], hh2, .inl rfl, by rw [List.length_append, hti]; exact hn2, hm2, hs2, by rw [List.length_append, hti, List.flatten_append]; exact ht2⟩⟩
  refine bD rfl (v := .slice (some ⟨g2, 0, none⟩) (i + els'.length) c2) (w' := w') ?_ ⟨_, rfl, ?_, dz hown, ?_⟩
  ·simp only [execOp, resolve, invoke, builtin, Sem.run_bind, Sem.run_pure, Result.andThen_ok, List.map_toArray, List.map_cons, List.map_nil, Z.eval hx, Z.eval hy, hr]
  ·exact ⟨h6.os, h6.tape, h6.output, h6.size, fun k hk hn => h6.block k hk sm⟩
  ·intro k hk
   have : g2 = k := by simpa [sl, slBlk] using hk
   subst this
   exact ⟨(Array.getElem?_eq_some_iff.1 hh2).1, .inr hge⟩
theorem OpV.to_hopc {o : Oper} {f : Value} {e2 e3 : Ent} {R : Value → List Ent → Prop} (h : OpV P o L w f) (h2 : e2.ok w) (hl : ∀ b, e2.foot b → b < w.heap.size) (he : e3 = e2) (hR : R f []) (E3 : Value → Ent) (hE : E3 f = e3) :
  OpR P r o L w (fun v w' => Ext e2.foot w w' ∧ (E3 v).ok w' ∧ (∀ b, (E3 v).foot b → b < w'.heap.size ∧ (e2.foot b ∨ w.heap.size ≤ b)) ∧ R v []) :=
 OpR.mono (OpV.g h) fun v w' ⟨hx, E, hv, hin⟩ => by
  obtain ⟨rfl, rfl⟩ := hv
  subst he; rw [hE]
  exact ⟨hx.mono fun _ _ h => h.elim, e3.stable _ _ (fun b hb => hx.same b (hl b hb) (fun h => h)) h2, fun b hb => ⟨Nat.lt_of_lt_of_le (hl b hb) hx.size, .inl hb⟩, hR⟩
end
end Go.PW
namespace Go.PW
open Go.RowKit
theorem oc (z : Value) (n : Nat) : madeCells #[z] n = (List.replicate n z).toArray := by
 apply Array.ext
 ·simp [madeCells]
 ·intro i h1 h2
  simp [madeCells, Nat.mod_one]
theorem l3 {P : Program} {t e : TypeId} {inf : TypeInfo} {z : Value} (ht : P.underlying t = some (.slice e)) (hi : P.info? e = some inf) (hz : inf.zero = some z) (hs : inf.size = 1) (h1 : z.cells = #[z]) (hb : inf.bytes ≤ 16) {els : List (List Value)} (n : Nat) (he : els = List.replicate n [z]) (hn : n ≤ 1000000) (w : World) :
  (Instr.makeSlice t (.int .i64 (n : Int)) (.int .i64 (n : Int))).run P w = .ok (.slice (some ⟨w.heap.size, 0, none⟩) n n) (w.alloc (.cells els.flatten.toArray e)) := by
 have hbn : (inf.bytes : Int) * (n : Int) ≤ 281474976710656 := by
  have h : inf.bytes * n ≤ 16 * 1000000 := Nat.mul_le_mul hb hn
  have h2 : ((inf.bytes * n : Nat) : Int) ≤ 281474976710656 := by omega
  rwa [Int.natCast_mul] at h2
 have h := run_make (P := P) w t e inf z ht hi hz .i64 .i64 n n (Int.natCast_nonneg n) (Int.le_refl _) hbn om
 rw [hs, h1, Nat.mul_one, Int.toNat_natCast, oc] at h
 rw [h, he, List.flatten_replicate_singleton]
end Go.PW
namespace Go.Proofs.YtddfkkdanpmnaaaGreatDoor
theorem br {α : Type} {f : α → List Value} {l : List α} {i : Nat} (d : α) {h : i < (l.map f).length} : (l.map f)[i] = f (l.getD i d) := by
 have h' : i < l.length := by simpa using h
 rw [List.getElem_map, List.getD_eq_getElem?_getD, List.getElem?_eq_getElem h']; rfl
theorem aW {α : Type} {l : List α} {i : Nat} {d : α} (h : i < l.length) : l.getD i d ∈ l := by
 rw [List.getD_eq_getElem?_getD, List.getElem?_eq_getElem h]; exact List.getElem_mem h
theorem bO {α : Type} {l : List α} {k : Nat} (d : α) (h : k < l.length) : l.take (k + 1) = l.take k ++ [l.getD k d] := by
 rw [List.take_succ_eq_append_getElem h, List.getD_eq_getElem?_getD, List.getElem?_eq_getElem h]; rfl
end Go.Proofs.YtddfkkdanpmnaaaGreatDoor
namespace Go.PW
open Go.RowKit
section
variable {P : Program} {w : World} {L : List (Nat × Value)} {dst : Option Tmp} {T T' ty : TypeId} {pos : String} {af : Array Edge} {gd : Option (Nat × Bool)} {x y : Operand}
theorem cX {m : Nat} (hm : m < 18446744073709551616) : IntKind.u64.wrap (m : Int) = (m : Int) := by simp [IntKind.wrap, IntKind.signed, IntKind.bits]; omega
theorem pY {m n : Nat} (hb : m + n < 18446744073709551616) (hx : ev L x = some (.int .u64 (m : Int))) (hy : ev L y = some (.int .u64 (n : Int))) : OpV P ⟨dst, .binOp .add T x y T', ty, pos, af, gd⟩ L w (.int .u64 ((m + n : Nat) : Int)) :=
 bT hx hy (by rw [cJ (.inl rfl)]; simp only [← Int.natCast_add]; rw [cX hb])
theorem nf {m n : Nat} (hb : m * n < 18446744073709551616) (hx : ev L x = some (.int .u64 (m : Int))) (hy : ev L y = some (.int .u64 (n : Int))) : OpV P ⟨dst, .binOp .mul T x y T', ty, pos, af, gd⟩ L w (.int .u64 ((m * n : Nat) : Int)) :=
 bT hx hy (by rw [cJ (.inr (.inr rfl))]; simp only [← Int.natCast_mul]; rw [cX hb])
theorem qe {m n : Nat} (hm : m < 18446744073709551616) (hn : 0 < n) (hx : ev L x = some (.int .u64 (m : Int))) (hy : ev L y = some (.int .u64 (n : Int))) : OpV P ⟨dst, .binOp .quo T x y T', ty, pos, af, gd⟩ L w (.int .u64 ((m / n : Nat) : Int)) :=
 bT hx hy (by
  have e : (m : Int).tdiv (n : Int) = ((m / n : Nat) : Int) := by rw [Int.tdiv_eq_ediv_of_nonneg (Int.natCast_nonneg _)]; rfl
  have hne : ¬ (n = 0) := by omega
  have hw : IntKind.u64.wrap ((m : Int).tdiv (n : Int)) = ((m / n : Nat) : Int) := by rw [e, cX (Nat.lt_of_le_of_lt (Nat.div_le_self _ _) hm)]
  rw [← hw]
  simp [binOp, Op.intDiv, hne])
theorem qj {m n : Nat} (hn : 0 < n) (hx : ev L x = some (.int .u64 (m : Int))) (hy : ev L y = some (.int .u64 (n : Int))) : OpV P ⟨dst, .binOp .rem T x y T', ty, pos, af, gd⟩ L w (.int .u64 ((m % n : Nat) : Int)) :=
 bT hx hy (by
  have e : (m : Int).tmod (n : Int) = ((m % n : Nat) : Int) := by rw [Int.tmod_eq_emod_of_nonneg (Int.natCast_nonneg _)]; rfl
  have hne : ¬ (n = 0) := by omega
  rw [← e]
  simp [binOp, Op.intDiv, hne])
theorem nr {m k : Nat} (hm : m < 18446744073709551616) (hk : k ≤ 63) (hx : ev L x = some (.int .u64 (m : Int))) (hy : ev L y = some (.int .u64 ((2 ^ k - 1 : Nat) : Int))) : OpV P ⟨dst, .binOp .and T x y T', ty, pos, af, gd⟩ L w (.int .u64 ((m % 2 ^ k : Nat) : Int)) :=
 bT hx hy (by
  simp only [binOp, Op.intBits, ck]
  have h2 : 2 ^ k ≤ 2 ^ 63 := Nat.pow_le_pow_right de hk
  have e : (BitVec.ofNat 64 m &&& BitVec.ofNat 64 (2 ^ k - 1)).toNat = m % 2 ^ k := by
   rw [BitVec.toNat_and, BitVec.toNat_ofNat, BitVec.toNat_ofNat, Nat.mod_eq_of_lt hm, Nat.mod_eq_of_lt om]
   exact Nat.and_two_pow_sub_one_eq_mod m k
  show Result.ok (Value.int .u64 (IntKind.u64.wrap ((BitVec.ofNat 64 m &&& BitVec.ofNat 64 (2 ^ k - 1)).toNat : Int))) w = _
  rw [e, cX (Nat.lt_of_le_of_lt (Nat.mod_le _ _) hm)])
theorem v_uor {m n k : Nat} (hm : m < 2 ^ k) (hb : m + n * 2 ^ k < 18446744073709551616) (hx : ev L x = some (.int .u64 (m : Int))) (hy : ev L y = some (.int .u64 ((n * 2 ^ k : Nat) : Int))) : OpV P ⟨dst, .binOp .or T x y T', ty, pos, af, gd⟩ L w (.int .u64 ((m + n * 2 ^ k : Nat) : Int)) :=
 bT hx hy (by
  simp only [binOp, Op.intBits, ck]
  have e : (BitVec.ofNat 64 m ||| BitVec.ofNat 64 (n * 2 ^ k)).toNat = m + n * 2 ^ k := by
   rw [BitVec.toNat_or, BitVec.toNat_ofNat, BitVec.toNat_ofNat, Nat.mod_eq_of_lt om, Nat.mod_eq_of_lt om]
   rw [Nat.or_comm, Nat.mul_comm n, ← Nat.two_pow_add_eq_or_of_lt hm, Nat.add_comm]
  show Result.ok (Value.int .u64 (IntKind.u64.wrap ((BitVec.ofNat 64 m ||| BitVec.ofNat 64 (n * 2 ^ k)).toNat : Int))) w = _
  rw [e, cX hb])
theorem oQ {m : Nat} (hm : m < 18446744073709551616) (hx : ev L x = some (.int .u64 (m : Int))) (hy : ev L y = some (.int .u64 0)) : OpV P ⟨dst, .binOp .xor T x y T', ty, pos, af, gd⟩ L w (.int .u64 (m : Int)) :=
 bT hx hy (by
  have h0 : (0 : Int) = ((0 : Nat) : Int) := rfl
  rw [h0]
  simp only [binOp, Op.intBits, ck]
  have e : (BitVec.ofNat 64 m ^^^ BitVec.ofNat 64 0).toNat = m := by
   rw [BitVec.toNat_xor, BitVec.toNat_ofNat, Nat.mod_eq_of_lt hm]; simp
  show Result.ok (Value.int .u64 (IntKind.u64.wrap ((BitVec.ofNat 64 m ^^^ BitVec.ofNat 64 0).toNat : Int))) w = _
  rw [e, cX hm])
theorem pd {m : Nat} (hm : m < 18446744073709551616) (hx : ev L x = some (.int .u64 (m : Int))) (hy : ev L y = some (.int .u64 18446744073709551615)) : OpV P ⟨dst, .binOp .xor T x y T', ty, pos, af, gd⟩ L w (.int .u64 ((18446744073709551615 - m : Nat) : Int)) :=
 bT hx hy (by
  have h0 : (18446744073709551615 : Int) = ((18446744073709551615 : Nat) : Int) := rfl
  rw [h0]
  simp only [binOp, Op.intBits, ck]
  have e : (BitVec.ofNat 64 m ^^^ BitVec.ofNat 64 18446744073709551615).toNat = 18446744073709551615 - m := by
   have h1 : BitVec.ofNat 64 18446744073709551615 = BitVec.allOnes 64 := by decide
   rw [h1, BitVec.xor_allOnes, BitVec.toNat_not, BitVec.toNat_ofNat, Nat.mod_eq_of_lt hm]
  show Result.ok (Value.int .u64 (IntKind.u64.wrap ((BitVec.ofNat 64 m ^^^ BitVec.ofNat 64 18446744073709551615).toNat : Int))) w = _
  rw [e, cX om])
theorem nM {m n : Nat} {k : IntKind} (hn : n ≤ 64) (hx : ev L x = some (.int .u64 (m : Int))) (hy : ev L y = some (.int k (n : Int))) : OpV P ⟨dst, .binOp .shr T x y T', ty, pos, af, gd⟩ L w (.int .u64 ((m / 2 ^ n : Nat) : Int)) :=
 cH hx hy rfl (by
  have h0 : ¬ ((n : Int) < 0) := by omega
  show (Op.shift .shr .u64 (m : Int) k (n : Int)).run P w = _
  simp only [Op.shift, if_neg h0, Int.toNat_natCast]
  show Result.ok (Value.int .u64 ((m : Int).fdiv (2 ^ (min n 64)))) w = _
  rw [Nat.min_eq_left hn]
  have : ((2 : Int) ^ n) = ((2 ^ n : Nat) : Int) := by push_cast; rfl
  rw [this, Int.fdiv_eq_ediv_of_nonneg _ (Int.natCast_nonneg _), ← Int.natCast_ediv])
theorem oJ {m n : Nat} {k : IntKind} (hn : n ≤ 64) (hx : ev L x = some (.int .u64 (m : Int))) (hy : ev L y = some (.int k (n : Int))) : OpV P ⟨dst, .binOp .shl T x y T', ty, pos, af, gd⟩ L w (.int .u64 ((m * 2 ^ n % 18446744073709551616 : Nat) : Int)) :=
 cH hx hy rfl (by
  have h0 : ¬ ((n : Int) < 0) := by omega
  show (Op.shift .shl .u64 (m : Int) k (n : Int)).run P w = _
  simp only [Op.shift, if_neg h0, Int.toNat_natCast]
  show Result.ok (Value.int .u64 (IntKind.u64.wrap ((m : Int) * 2 ^ (min n 64)))) w = _
  rw [Nat.min_eq_left hn]
  have : (m : Int) * ((2 : Int) ^ n) = ((m * 2 ^ n : Nat) : Int) := by push_cast; rfl
  rw [this]
  have h2 : IntKind.u64.wrap ((m * 2 ^ n : Nat) : Int) = ((m * 2 ^ n % 18446744073709551616 : Nat) : Int) := by
   generalize m * 2 ^ n = q
   simp [IntKind.wrap, IntKind.signed, IntKind.bits]
  rw [h2])
theorem fC {n : Nat} (hx : ev L x = some (.int .u64 (n : Int))) (hs : (P.underlying T).isSome = true) (hd : P.underlying T' = some (.int .u8)) : OpV P ⟨dst, .convert T T' x, ty, pos, af, gd⟩ L w (yv (UInt8.ofNat n)) :=
 (dq hx hs hd).as (by rw [ji]; rfl)
theorem g9 {n : Nat} (hn : n < 9223372036854775808) (hx : ev L x = some (.int .u64 (n : Int))) (hs : (P.underlying T).isSome = true) (hd : P.underlying T' = some (.int .i64)) : OpV P ⟨dst, .convert T T' x, ty, pos, af, gd⟩ L w (.int .i64 (n : Int)) :=
 (dq hx hs hd).as (by rw [IntWalk.i64_in _ ⟨om, om⟩])
theorem ma {b : UInt8} (hx : ev L x = some (yv b)) (hs : (P.underlying T).isSome = true) (hd : P.underlying T' = some (.int .u64)) : OpV P ⟨dst, .convert T T' x, ty, pos, af, gd⟩ L w (.int .u64 ((b.toNat : Nat) : Int)) :=
 (dq hx hs hd).as (by rw [cX (by have := b.toNat_lt; omega)])
theorem hZ {a b : UInt8} {op : BinOp} (h : op = .and ∨ op = .or) : (binOp op T (yv a) (yv b)).run P w = .ok (yv (match op with | .and => a &&& b | _ => a ||| b)) w := by
 have key : ∀ c : BitVec 8, IntKind.u8.wrap (c.toNat : Int) = (c.toNat : Int) := fun c => by
  have := c.isLt
  simp [IntKind.wrap, IntKind.signed, IntKind.bits]; omega
 rcases h with rfl | rfl
 ·simp only [binOp, yv, Op.intBits, ck]
  show Result.ok (Value.int .u8 (IntKind.u8.wrap ((BitVec.ofNat 8 a.toNat &&& BitVec.ofNat 8 b.toNat).toNat : Int))) w = _
  rw [key]
  have e : (BitVec.ofNat 8 a.toNat &&& BitVec.ofNat 8 b.toNat).toNat = (a &&& b).toNat := by
   have h1 := a.toNat_lt
   have h2 := b.toNat_lt
   rw [BitVec.toNat_and, BitVec.toNat_ofNat, BitVec.toNat_ofNat, Nat.mod_eq_of_lt om, Nat.mod_eq_of_lt om, UInt8.toNat_and]
  rw [e]
 ·simp only [binOp, yv, Op.intBits, ck]
  show Result.ok (Value.int .u8 (IntKind.u8.wrap ((BitVec.ofNat 8 a.toNat ||| BitVec.ofNat 8 b.toNat).toNat : Int))) w = _
  rw [key]
  have e : (BitVec.ofNat 8 a.toNat ||| BitVec.ofNat 8 b.toNat).toNat = (a ||| b).toNat := by
   have h1 := a.toNat_lt
   have h2 := b.toNat_lt
   rw [BitVec.toNat_or, BitVec.toNat_ofNat, BitVec.toNat_ofNat, Nat.mod_eq_of_lt om, Nat.mod_eq_of_lt om, UInt8.toNat_or]
  rw [e]
theorem qf {a b : UInt8} (hx : ev L x = some (yv a)) (hy : ev L y = some (yv b)) : OpV P ⟨dst, .binOp .and T x y T', ty, pos, af, gd⟩ L w (yv (a &&& b)) := bT hx hy (hZ (.inl rfl))
theorem v_yor {a b : UInt8} (hx : ev L x = some (yv a)) (hy : ev L y = some (yv b)) : OpV P ⟨dst, .binOp .or T x y T', ty, pos, af, gd⟩ L w (yv (a ||| b)) := bT hx hy (hZ (.inr rfl))
theorem o5 {n : Int} {k : IntKind} (h1 : -9223372036854775808 ≤ n) (h2 : n ≤ 9223372036854775807) (hx : ev L x = some (.int .i64 n)) (hy : ev L y = some (.int k 63)) : OpV P ⟨dst, .binOp .shr T x y T', ty, pos, af, gd⟩ L w (.int .i64 (if n < 0 then -1 else 0)) :=
 cH hx hy rfl (by
  show (Op.shift .shr .i64 n k 63).run P w = _
  have h0 : ¬ ((63 : Int) < 0) := by omega
  simp only [Op.shift, if_neg h0]
  show Result.ok (Value.int .i64 (n.fdiv (2 ^ 63))) w = _
  have e : n.fdiv (2 ^ 63) = if n < 0 then -1 else 0 := by
   rw [Int.fdiv_eq_ediv_of_nonneg _ de]
   split <;> omega
  rw [e])
theorem nj {n : Int} (h1 : -9223372036854775808 ≤ n) (h2 : n ≤ 9223372036854775807) (b : Bool) : (binOp .xor T (.int .i64 n) (.int .i64 (if b then -1 else 0))).run P w = .ok (.int .i64 (if b then -n - 1 else n)) w := by
 have e1 : (BitVec.ofInt 64 n).toInt = n := by
  rw [BitVec.toInt_ofInt]
  exact Int.bmod_eq_of_le om om
 cases b with
 | false =>
  simp only [binOp, Op.intBits]
  show Result.ok (Value.int .i64 (IntKind.i64.wrap ((BitVec.ofInt 64 n ^^^ BitVec.ofInt 64 0).toNat : Int))) w = _
  have e : BitVec.ofInt 64 n ^^^ BitVec.ofInt 64 0 = BitVec.ofInt 64 n := by simp
  rw [e]
  have : IntKind.i64.wrap ((BitVec.ofInt 64 n).toNat : Int) = n := by
   have h := BitVec.toInt_eq_toNat_bmod (BitVec.ofInt 64 n)
   rw [e1] at h
   rw [h]
   simp only [IntKind.wrap, IntKind.signed, IntKind.bits, Int.bmod]
   have := (BitVec.ofInt 64 n).isLt
   simp; split <;> omega
  rw [this]; rfl
 | true =>
  simp only [binOp, Op.intBits]
  show Result.ok (Value.int .i64 (IntKind.i64.wrap ((BitVec.ofInt 64 n ^^^ BitVec.ofInt 64 (-1)).toNat : Int))) w = _
  have e : BitVec.ofInt 64 n ^^^ BitVec.ofInt 64 (-1) = BitVec.ofInt 64 (-n - 1) := by
   have h : BitVec.ofInt 64 (-1) = BitVec.allOnes 64 := by decide
   rw [h, BitVec.xor_allOnes]
   apply BitVec.eq_of_toInt_eq
   rw [BitVec.toInt_not, BitVec.toInt_ofInt]
   have h := BitVec.toInt_eq_toNat_bmod (BitVec.ofInt 64 n)
   rw [e1] at h
   have h3 := (BitVec.ofInt 64 n).isLt
   generalize (BitVec.ofInt 64 n).toNat = q at *
   rw [Int.bmod_eq_of_le (n := -n-1) om om]
   rw [h]
   simp only [Int.bmod] at *
   omega
  rw [e]
  have e2 : (BitVec.ofInt 64 (-n - 1)).toInt = -n - 1 := by
   rw [BitVec.toInt_ofInt]
   exact Int.bmod_eq_of_le om om
  have : IntKind.i64.wrap ((BitVec.ofInt 64 (-n - 1)).toNat : Int) = -n - 1 := by
   have h := BitVec.toInt_eq_toNat_bmod (BitVec.ofInt 64 (-n - 1))
   rw [e2] at h
   rw [h]
   simp only [IntKind.wrap, IntKind.signed, IntKind.bits, Int.bmod]
   have := (BitVec.ofInt 64 (-n - 1)).isLt
   simp; split <;> omega
  rw [this]; rfl
theorem qx {n : Int} (b : Bool) (h1 : -9223372036854775808 ≤ n) (h2 : n ≤ 9223372036854775807) (hx : ev L x = some (.int .i64 n)) (hy : ev L y = some (.int .i64 (if b then -1 else 0))) : OpV P ⟨dst, .binOp .xor T x y T', ty, pos, af, gd⟩ L w (.int .i64 (if b then -n - 1 else n)) := bT hx hy (nj h1 h2 b)
end
end Go.PW
namespace Go.PW
open Go.RowKit Go.Lib
theorem fL {P : Program} (w : World) (t u ty e : TypeId) (i : TypeInfo) (ht : P.underlying t = some (.slice e)) (hu : P.underlying u = some .string) (hi : P.info? e = some i) (hz : i.zero = some (.int .u8 0)) (hsize : i.size = 1) (hby : i.bytes = 1)
  (v : Value) (n : Nat) (xs : List Value) (hown : ownsG w e 1 v n xs) (s : ByteArray) (h0 : 0 < s.size) (hbytes : n + s.size ≤ 140737488355328) :
  ∃ v' w', (Builtin.append_ #[t, u] ty #[v, .string s]).run P w = .ok v' w' ∧ ownsG w' e 1 v' (n + s.size) (xs ++ strCells s) ∧ w.grownBy w' v.ownBlock ∧ (v'.ownBlock = v.ownBlock ∨ v'.ownBlock = some w.heap.size) := by
 have hxl : xs.length = n := by simpa using hown.1
 have hlen : (xs ++ strCells s).length = (n + s.size) * 1 := by rw [List.length_append, hxl, strCells_length, Nat.mul_one]
 have h63 : n + s.size ≤ maxLen := by unfold maxLen; omega
 have hz1 : (Value.int IntKind.u8 0).cells.size = 1 := rfl
 have grown : ∀ (old : Nat) (xsa : Array Value), xsa.toList = xs ++ strCells s → old < n + s.size → ∀ (row : Option Nat),
   ownsG (w.drew.alloc (.cells (xsa ++ Builtin.zeroCells (Value.int IntKind.u8 0).cells (grownCap w (n + s.size) old e - (n + s.size))) e)) e 1
    (.slice (some ⟨w.heap.size, 0, none⟩) (n + s.size) (grownCap w (n + s.size) old e)) (n + s.size) (xs ++ strCells s) ∧
   w.grownBy (w.drew.alloc (.cells (xsa ++ Builtin.zeroCells (Value.int IntKind.u8 0).cells (grownCap w (n + s.size) old e - (n + s.size))) e)) row := by
  intro old xsa hxa ho row
  have hge := grownCap_ge w (n + s.size) old e
  have hcm : grownCap w (n + s.size) old e ≤ maxLen := grownCap_le_maxLen w (n + s.size) old e h63
  have hxs : xsa.size = n + s.size := by rw [← Array.length_toList, hxa, hlen, Nat.mul_one]
  refine ⟨⟨hlen, .inr ⟨w.heap.size, _, _, (0, 0), rfl, heap_alloc_new w.drew _, .inl rfl, hge, hcm, ?_, ?_⟩⟩, ⟨rfl, rfl, rfl, by simp, fun k hk _ => Below.heap_alloc w.drew _ k hk⟩⟩
  ·simp only [Array.size_append, size_zeroCells, hz1, hxs]; omega
  ·rw [Array.toList_append, hxa, ← hlen]; exact List.take_left
 rcases hown.2 with ⟨rfl, rfl⟩ | ⟨g, cap, cur, fz, rfl, hg, hfz, hnc, hcm, hcs, htake⟩
 ·have hx : xs = [] := List.eq_nil_of_length_eq_zero hxl
  subst hx
  have hr := run_append_nil_string (P := P) w t u ty e i (.int .u8 0) ht hu hi hz s h0 om (by rw [hby]; omega)
  have hgr := grown 0 (s.data.map fun b => Value.int .u8 b.toNat) (by simp [strCells]) om (Value.ownBlock (.slice none 0 0))
  simp only [Nat.zero_add, List.nil_append] at hgr ⊢
  exact ⟨_, _, hr, hgr.1, hgr.2, .inr rfl⟩
 ·by_cases hroom : n + s.size ≤ cap
  ·have hcs' : cur.size = cap := by simpa using hcs
   have hf := run_firstCells_string (P := P) w 1 s
   have Y := bZ P g n e fz (strCells s) 0 cur w hg (by rcases hfz with h | h <;> simp [strCells_length] at h ⊢ <;> omega) (by rw [strCells_length]; omega) (strCells_oneCell s)
   simp only [Nat.add_zero, strCells_length] at Y
   have hr : (Builtin.append_ #[t, u] ty #[.slice (some ⟨g, 0, none⟩) n cap, .string s]).run P w =
     .ok (.slice (some ⟨g, 0, none⟩) (n + s.size) cap) (w.setRow g (cur.toList.take n ++ strCells s ++ cur.toList.drop (n + s.size)).toArray) := by
    simp [Builtin.append_, run_underlying ht, run_underlying hu, sizeOf, typeInfo, hi, hsize, Builtin.lenOf, hroom, hf, Addr.add_lit, Y]
   refine ⟨_, _, hr, ⟨hlen, .inr ⟨g, cap, _, fz, rfl, setRow_heap w g cur _ e _ hg, hfz, hroom, hcm, ?_, ?_⟩⟩, ⟨rfl, rfl, rfl, by simp, fun k _ hk => setRow_other w g k _ (fun e => hk (by simp [Value.ownBlock, e]))⟩, .inl rfl⟩
   ·simp only [List.size_toArray, List.length_append, List.length_take, List.length_drop, Array.length_toList, strCells_length]
    omega
   ·have ht' : cur.toList.take n = xs := by simpa using htake
    rw [ht', ← hlen]
    exact List.take_left
  ·have holds : ∀ j u, xs[j]? = some u → w.cell? ((⟨g, 0, none⟩ : Addr).add j) = some u := hown.cells (g := g) rfl
   have hr := run_append_grow_string (P := P) w t u ty e i (.int .u8 0) ht hu hi hz ⟨g, 0, none⟩ n cap xs (by rw [hsize]; simpa using hxl) holds s om om (by rw [hby]; exact growslice_fits om om)
   have hgr := grown cap (xs.toArray ++ (strCells s).toArray) sm om (Value.ownBlock (.slice (some ⟨g, 0, none⟩) n cap))
   exact ⟨_, _, hr, hgr.1, hgr.2, .inr rfl⟩
section
variable {P : Program} {r : Option Nat} {ops : Array Oper} {K : Act → World → Prop} {rest : List Oper} {a : Act} {w w' w0 : World} {M : Nat → Prop} {H : List Ent}
variable {N : Nat} {L : List (Nat × Value)} {df : List Deferred} {d : Nat} {dst : Option Tmp} {ty : TypeId} {pos : String} {af : Array Edge} {gd : Option (Nat × Bool)}
variable {v : Value} {E T T' : TypeId} {x y : Operand}
theorem kf (s : List UInt8) : strCells ⟨s.toArray⟩ = s.map yv := by simp [strCells, yv]
theorem f6 (xs : List UInt8) : (xs.map fun b => [yv b]).flatten = xs.map yv := by
 induction xs with
 | nil => rfl
 | cons x xs ih => rw [List.map_cons, List.flatten_cons, ih]; rfl
theorem ew {i : Nat} {bs s : List UInt8} {sT uT : TypeId} {inf : TypeInfo} (hi : H[i]? = some (own v E 1 (bs.map fun b => [yv b]))) (hx : ev L x = some v) (hy : ev L y = some (sv s)) (hne : s ≠ [])
  (ht : P.underlying sT = some (.slice E)) (hu : P.underlying uT = some .string) (hinf : P.info? E = some inf) (hz : inf.zero = some (.int .u8 0)) (hsize : inf.size = 1) (hby : inf.bytes = 1) (hb : bs.length + s.length ≤ 140737488355328) (hd : d < N) (Z : Fr N L df a) (Y : St M w0 H w)
  (k : ∀ a w' v', Fr N ((d, v') :: L) df a → St M w0 (H.set i (own v' E 1 ((bs ++ s).map fun b => [yv b]))) w' → WL P r ops K rest a w') :
  WL P r ops K (⟨some d, .call { callee := .builtin .append, args := #[x, y], argTypes := #[sT, uT] }, ty, pos, af, none⟩ :: rest) a w := by
 obtain ⟨h1, h2, h3⟩ := Y.get hi
 rw [List.length_map, f6] at h3
 have hss : (ByteArray.mk s.toArray).size = s.length := by simp [ByteArray.size]
 obtain ⟨v', w', hr, h4, h5, h7⟩ := fL (P := P) w sT uT ty E inf ht hu hinf hz hsize hby v bs.length (bs.map yv) h3 ⟨s.toArray⟩ (by rw [hss]; exact List.length_pos_iff.2 hne) (by rw [hss]; exact hb)
 rw [hss, kf, ← List.map_append] at h4
 have hok : (own v' E 1 ((bs ++ s).map fun b => [yv b])).ok w' := ⟨fun e he => by obtain ⟨_, _, rfl⟩ := List.mem_map.1 he; rfl, by simp [big]; omega, by rw [List.length_map, f6, List.length_append]; exact h4⟩
 refine wl_r (R := fun v2 w2 => v2 = v' ∧ w2 = w') ?_ rfl (decide_eq_true hd) Z fun a v2 w2 ⟨e1, e2⟩ h => ?_
 ·intro N df a Z
  refine bD rfl (v := v') (w' := w') ?_ ⟨v', rfl, rfl, rfl⟩
  have hy' : ev L y = some (.string ⟨s.toArray⟩) := hy
  simp only [execOp, resolve, invoke, builtin, Sem.run_bind, Sem.run_pure, Result.andThen_ok, List.map_toArray, List.map_cons, List.map_nil, Z.eval hx, Z.eval hy', hr]
 ·subst e1; subst e2
  refine k _ _ _ h (Y.exchange hi ⟨h5.os, h5.tape, h5.output, h5.size, fun k hk hn => h5.block k hk (fun e => hn e.symm)⟩ hok fun g hg => ?_)
  have hg' : v2.ownBlock = some g := hg
  refine ⟨h4.lt g hg, ?_⟩
  rcases h7 with hb | hb
  ·exact .inl (by show v.ownBlock = some g; rw [← hb]; exact hg')
  ·rw [hg'] at hb; cases hb; exact .inr (Nat.le_refl _)
theorem k9 {b : Nat} {cs : List Value} {t : TypeId} {j : TypeInfo} (hb : (blk b cs E).ok w) (hx : ev L x = some (.pointer (some ⟨b, 0, none⟩))) (hs : P.underlying T = some (.pointer t)) (hd : P.underlying T' = some .unsafePointer) (ht : P.info? t = some j) (hj : (j.size == 0) = false) (hc : cs ≠ []) :
  OpV P ⟨dst, .convert T T' x, ty, pos, af, gd⟩ L w (pt b) :=
 c6 hx (run_to_unsafe w (e := E) (cells := cs.length) ⟨b, 0, none⟩ hs hd ht (by simpa using hj) (by have hb' : w.heap[b]? = some (.cells cs.toArray E) := hb; simp [World.shape?, hb']) (List.length_pos_iff.2 hc))
theorem jf {b : Nat} {cs : List Value} {t : TypeId} {j : TypeInfo} (hb : (blk b cs E).ok w) (hx : ev L x = some (.pointer (some ⟨b, 0, none⟩))) (hs : P.underlying T = some .unsafePointer) (hd : P.underlying T' = some (.pointer t)) (ht : P.info? t = some j) (hl : liesAt P P.depth E (cs.length / P.cellsOf E) 0 t 1 = true) :
  OpV P ⟨dst, .convert T T' x, ty, pos, af, gd⟩ L w (pt b) :=
 c6 hx (run_from_unsafe w (e := E) (cells := cs.length) ⟨b, 0, none⟩ hs hd ht (by have hb' : w.heap[b]? = some (.cells cs.toArray E) := hb; simp [World.shape?, hb']) hl)
theorem kV {f : FuncId} {fn : Func} {u : Value} {ats : Array TypeId} (hf : P.funcs[f]? = some fn) (hname : (fn.name == "runtime.NumGoroutine") = false) (hb : fn.body.isNone = true) (hn : Extern.findNext fn = none) (he : Extern.find fn = some Extern.AbiNoEscape.same) (hx : ev L x = some u) :
  OpV P ⟨dst, .call { callee := .value (.func f), args := #[x], argTypes := ats }, ty, pos, af, gd⟩ L w u :=
 ⟨rfl, fun N df a h => by
  have e1 : a.eval x = u := h.eval hx
  have e2 : a.eval (.func f) = .func (.func f) #[] #[] := rfl
  have e3 : (callFunc f #[u]).run P w = .ok (.value u) w := by rw [run_callFunc_extern hf hname hb hn he, run_noEscape]; rfl
  simp [execOp, resolve, e1, e2, Deferred.ofValue, invoke, e3]⟩
theorem lV {g n : Nat} {cur : Array Value} {fz : Nat × Nat} (hn : n ≠ 0) (hg : w.heap[g]? = some (.cells cur E fz)) : ∃ fz', (w.freeze ⟨g, 0, none⟩ n).heap[g]? = some (.cells cur E fz') ∧ (w.freeze ⟨g, 0, none⟩ n).heap.size = w.heap.size ∧ Ext (· = g) w (w.freeze ⟨g, 0, none⟩ n) := by
 unfold World.freeze
 rw [if_neg hn]
 obtain ⟨lo, hi⟩ := fz
 refine ⟨(if lo == hi then (0, 0 + n) else (min lo 0, max hi (0 + n))), ?_, by simp, ⟨rfl, rfl, rfl, by simp, fun k hk hne => ?_⟩⟩
 ·simp only [Array.getElem?_modify, if_true, hg, Option.map_some]
 ·simp only [Array.getElem?_modify]
  rw [if_neg (fun e => hne e.symm)]
theorem gz {g cap : Nat} {bs : List UInt8} {pT iT : TypeId} (hok : (own (.slice (some ⟨g, 0, none⟩) bs.length cap) E 1 (bs.map fun b => [yv b])).ok w) (hne : bs ≠ []) (hx : ev L x = some (.pointer (some ⟨g, 0, none⟩))) (hy : ev L y = some (.int .i64 (bs.length : Int))) (hp : P.underlying pT = some (.pointer E)) (hc : P.cellsOf E = 1) :
  OpR P r ⟨dst, .call { callee := .builtin .unsafeString, args := #[x, y], argTypes := #[pT, iT] }, ty, pos, af, gd⟩ L w fun v w' => v = sv bs ∧ Ext (own (.slice (some ⟨g, 0, none⟩) bs.length cap) E 1 (bs.map fun b => [yv b])).foot w w' ∧ (sl (.slice (some ⟨g, 0, none⟩) bs.length cap) 1 (bs.map fun b => [yv b])).ok w' ∧
   ∀ k, (sl (.slice (some ⟨g, 0, none⟩) bs.length cap) 1 (bs.map fun b => [yv b])).foot k → k < w'.heap.size ∧ ((own (.slice (some ⟨g, 0, none⟩) bs.length cap) E 1 (bs.map fun b => [yv b])).foot k ∨ w.heap.size ≤ k) := by
 have hat := dz hok
 obtain ⟨h1, h2, h3⟩ := hok
 rw [List.length_map, f6] at h3
 have hcells := h3.cells (g := g) rfl
 rcases h3.2 with ⟨hv, _⟩ | ⟨g', cap', cur, fz, hv, hg, hfz, hnc, hcm, hcs, htk⟩
 ·cases hv
 ·obtain ⟨rfl, rfl⟩ : g = g' ∧ cap = cap' := by simpa using hv
  have hn0 : bs.length ≠ 0 := by simpa using hne
  obtain ⟨fz', hg2, hs2, hx2⟩ := lV (n := bs.length) hn0 hg
  have hr := run_unsafeString_row (P := P) w pT iT ty E hp hc g cur.size (by simp [World.shape?, hg]) bs hne om (by unfold maxLen at hcm; omega) (fun j b hj => hcells j (.int .u8 b.toNat) (by simp [hj, yv]))
  have hlt : g < w.heap.size := (Array.getElem?_eq_some_iff.1 hg).1
  refine fun N df a h => bD rfl (v := sv bs) (w' := w.freeze ⟨g, 0, none⟩ bs.length) ?_ ⟨_, rfl, rfl, hx2.mono (fun k _ hk => by subst hk; rfl), ⟨hat.1, hat.2.1, .inr ⟨g, 0, cap, by simp, by simpa using hnc, by rw [hs2]; exact hlt, fun j u hu => ?_⟩⟩, fun k hk => ?_⟩
  ·simp only [execOp, resolve, invoke, builtin, Sem.run_bind, Sem.run_pure, Result.andThen_ok, List.map_toArray, List.map_cons, List.map_nil, h.eval hx, h.eval hy, hr]
   rfl
  ·rw [f6] at hu
   have := hcells j u hu
   rw [bH] at this
   rw [cell_of_row w g _ cur E fz hg] at this
   rw [cell_of_row _ g _ cur E fz' hg2]
   exact this
  ·have hk' : g = k := by simpa [sl, slBlk] using hk
   subst hk'
   exact ⟨by rw [hs2]; exact hlt, .inl rfl⟩
theorem jT {g n cap : Nat} {ats : Array TypeId} (hx : ev L x = some (.slice (some ⟨g, 0, none⟩) n cap)) (hc : cap ≠ 0) : OpV P ⟨dst, .call { callee := .builtin .unsafeSliceData, args := #[x], argTypes := ats }, ty, pos, af, gd⟩ L w (.pointer (some ⟨g, 0, none⟩)) :=
 cN (xs := [x]) (vs := [.slice (some ⟨g, 0, none⟩) n cap]) (by simp [evs, hx]) (by
  have := run_unsafeSliceData_row (P := P) w ats ty ⟨g, 0, none⟩ n cap hc
  simp [builtin, this])
theorem qA {tp te : TypeId} (hx : ev L x = some (.pointer none)) (hy : ev L y = some (.pointer none)) (hp : P.underlying tp = some (.pointer te)) : OpV P ⟨dst, .binOp .eql tp x y T', ty, pos, af, gd⟩ L w (.bool true) :=
 cH hx hy rfl (by
  have h : ∀ d : Nat, (Op.equalIn (d + 1) tp (.pointer none) (.pointer none)).run P w = .ok true w := fun d => by simp [Op.equalIn, run_underlying hp]
  simp only [binOp]
  simp [Op.equal, Op.maxDepth, h 9999])
theorem nR {tp te : TypeId} {a : Addr} (hx : ev L x = some (.pointer (some a))) (hy : ev L y = some (.pointer none)) (hp : P.underlying tp = some (.pointer te)) : OpV P ⟨dst, .binOp .eql tp x y T', ty, pos, af, gd⟩ L w (.bool false) :=
 cH hx hy rfl (by
  have h : ∀ d : Nat, (Op.equalIn (d + 1) tp (.pointer (some a)) (.pointer none)).run P w = .ok false w := fun d => by simp [Op.equalIn, run_underlying hp]
  simp only [binOp]
  simp [Op.equal, Op.maxDepth, h 9999])
theorem pi {tp te : TypeId} {j : TypeInfo} {a : Addr} (hx : ev L x = some (.pointer (some a))) (hy : ev L y = some (.pointer (some a))) (hp : P.underlying tp = some (.pointer te)) (hte : P.info? te = some j) : OpV P ⟨dst, .binOp .neq tp x y T', ty, pos, af, gd⟩ L w (.bool false) :=
 cH hx hy rfl (run_neq_ptr_same w a hp hte)
theorem St.single {i : Nat} {e : Ent} (Y : St M w0 H w) (hi : H[i]? = some e) : St e.foot w [e] w :=
 ⟨Ext.refl _ _, fun e' he => by rw [List.mem_singleton.1 he]; exact ⟨Y.get hi, fun k hk => ⟨Y.lt hi hk, fun _ => hk⟩⟩, by simp⟩
theorem dg {f : FuncId} {xs : List Operand} {vs : List Value} {ats : Array TypeId} {e : Ent} {R : Value → Ent → Prop} (i : Nat) (Z : Fr N L df a) (Y : St M w0 H w) (hi : H[i]? = some e) (hd : d < N) (hen : ∀ args w, (callFunc f args).run P w = .ok (.enter f args) w) (hx : evs L xs = some vs)
  (hc : St e.foot w [e] w → Ret P f vs.toArray w fun u w' => ∃ e', R u e' ∧ St e.foot w [e'] w')
  (k : ∀ a w' u e', R u e' → Fr N ((d, u) :: L) df a → St M w0 (H.set i e') w' → WL P r ops K rest a w') :
  WL P r ops K (⟨some d, .call { callee := .value (.func f), args := xs.toArray, argTypes := ats }, ty, pos, af, none⟩ :: rest) a w :=
 wl_r (dN hen hx (hc (St.single Y hi))) rfl (decide_eq_true hd) Z fun a u w' ⟨e', hR, hs⟩ h =>
  k _ _ _ _ hR h (Y.exchange hi hs.ext (hs.ok e' sm).1 fun b hb => by
   obtain ⟨h1, h2⟩ := (hs.ok e' sm).2 b hb
   refine ⟨h1, ?_⟩
   rcases Nat.lt_or_ge b w.heap.size with h | h
   ·exact .inl (h2 h)
   ·exact .inr h)
end
end Go.PW
namespace Go.PW
open Go.RowKit
section
variable {P : Program} {r : Option Nat} {a : Act} {w w' w0 : World} {M : Nat → Prop} {H : List Ent} {N d : Nat} {L : List (Nat × Value)} {df : List Deferred} {Q : Exit → Act → World → Prop} {ops : Array Oper} {l l1 l2 rest : List Oper} {y : Code}
variable {dst : Option Tmp} {T ty : TypeId} {pos : String} {af : Array Edge} {x : Operand} {xs : List Operand} {vs : List Value} {ats : Array TypeId}
def WX (P : Program) (r : Option Nat) (ops : Array Oper) (Q : Exit → Act → World → Prop) (l : List Oper) (a : Act) (w : World) : Prop := wpListIn (Fw r) 0 P ops Q l a w
theorem iG : ∀ {l1 : List Oper} {a : Act} {w : World}, WL P r ops (WX P r ops Q l2) l1 a w → WX P r ops Q (l1 ++ l2) a w
 | [], a, w, h => h
 | o :: l1, a, w, h => by
  unfold WL at h
  show wpListIn (Fw r) 0 P ops Q (o :: (l1 ++ l2)) a w
  unfold wpListIn
  split
  ·rename_i hw
   rw [if_pos hw] at h
   exact ⟨h.1, dr (fun a w h => iG h) (fun e a w h => h.elim) h.2⟩
  ·rename_i hw
   rw [if_neg hw] at h
   exact ⟨fun _ _ => trivial, iG h⟩
theorem j5 (h : WL P r ops (fun a w => Q .normal a w) l a w) : WX P r ops Q l a w := by
 have := iG (l1 := l) (l2 := []) (P := P) (r := r) (ops := ops) (Q := Q) h
 rwa [List.append_nil] at this
theorem bQ (k : Nat) (h : WL P r ops (WX P r ops Q (l.drop k)) (l.take k) a w) : WX P r ops Q l a w := by
 have := iG h
 rwa [List.take_append_drop] at this
theorem bY {id : Nat} (h : WX P r l.toArray Q l a w) : WC P r (.region id l.toArray false) Q a w := wpIn_region_lit h
theorem gh {id : Nat} (h : ∀ Q' : Exit → Act → World → Prop, (∀ a w, WC P r y Q a w → Q' .normal a w) → (∀ c a w, Q (.panic c) a w → Q' (.panic c) a w) → WX P r l.toArray Q' l a w) :
  WC P r (.seq (.region id l.toArray false) y) Q a w := kQ (bY (h _ (fun _ _ h => h) (fun _ _ _ h => h)))
theorem iR {K : Act → World → Prop} {x : Code} (J : Act → World → Prop) (hx : WC P r x (Exit.then J Q) a w) (hy : ∀ a w, J a w → K a w) : WC P r x (Exit.then K Q) a w :=
 oN hx fun e a w h => by cases e <;> first | exact hy _ _ h | exact h
theorem ff {v : Value} (Z : Fr N L df a) (hx : ev L x = some (.iface T v)) (k : Q (.panic [{ v := .iface T v, recovered := false }]) a w) :
  WX P r ops Q (⟨dst, .panic x, ty, pos, af, none⟩ :: rest) a w := by
 show wpListIn (Fw r) 0 P ops Q (⟨dst, .panic x, ty, pos, af, none⟩ :: rest) a w
 unfold wpListIn
 rw [if_pos (by simp [Region.wanted])]
 refine ⟨fun _ _ => trivial, ?_⟩
 rw [cC rfl]
 have e : (execOp a.eval ⟨dst, .panic x, ty, pos, af, none⟩).run P w = .halt (.panic (.iface T v)) w := by
  simp only [execOp, Z.eval hx, Instr.panic]; rfl
 rw [e]
 exact k
theorem dm {fs : Array Field} {v : Value} (hx : ev L x = some v) (hu : P.underlying T = some (.struct fs)) : OpV P ⟨dst, .makeInterface T x, ty, pos, af, none⟩ L w (.iface T v) :=
 ⟨rfl, fun N df a h => by
  simp only [execOp, h.eval hx, Instr.makeInterface, Sem.run_bind, run_underlying hu, Result.andThen_ok]; rfl⟩
def Pan (P : Program) (f : FuncId) (args : Array Value) (w : World) (X : List PanicEntry → World → Prop) : Prop := Calls P f args w fun e w' => ∃ c, e = .panicked c ∧ X c w'
theorem gb {f : FuncId} {X : List PanicEntry → World → Prop} (Z : Fr N L df a) (hen : ∀ args w, (callFunc f args).run P w = .ok (.enter f args) w) (hx : evs L xs = some vs) (hc : Pan P f vs.toArray w X)
  (k : ∀ c w', X c w' → Q (.panic c) a w') : WX P r ops Q (⟨dst, .call { callee := .value (.func f), args := xs.toArray, argTypes := ats }, ty, pos, af, none⟩ :: rest) a w := by
 show wpListIn (Fw r) 0 P ops Q (_ :: rest) a w
 unfold wpListIn
 rw [if_pos (by simp [Region.wanted])]
 refine ⟨fun _ _ => trivial, ?_⟩
 rw [cC rfl]
 have e1 : xs.toArray.map a.eval = vs.toArray := by rw [List.map_toArray]; exact congrArg _ (Z.evals hx)
 have e : (execOp a.eval ⟨dst, .call { callee := .value (.func f), args := xs.toArray, argTypes := ats }, ty, pos, af, none⟩).run P w = .ok (.enter f vs.toArray) w := by
  simp only [execOp, resolve, e1, Act.eval, Deferred.ofValue, Sem.run_bind, Sem.run_pure, Result.andThen_ok, invoke]
  simpa using hen vs.toArray w
 rw [e]
 refine ⟨fun h => (by cases h), ?_⟩
 have hc : CallsIn Fence.wide (0 - 1) P f vs.toArray w _ := callsIn_wide.2 hc
 refine ⟨trivial, fun cs hr => ?_⟩
 obtain ⟨e, w2, fr, ⟨c, rfl, hX⟩, hrest⟩ := hc.2 cs (room_wide _)
 exact ⟨.panicked c, w2, fr, k _ _ hX, hrest⟩
def PostP (X : List PanicEntry → World → Prop) : Exit → Act → World → Prop
 | .panic c, a, w => a.defers = [] ∧ X c w
 | _, _, _ => False
theorem gK {X : List PanicEntry → World → Prop} {c : List PanicEntry} (Z : Fr N L [] a) (h : X c w) : PostP X (.panic c) a w := ⟨Z.dfs, h⟩
theorem nU {f : FuncId} {fn : Func} {c : Code} {args : List Value} {X : List PanicEntry → World → Prop} (hf : P.funcs[f]? = some fn) (hb : fn.body = some c) (hn : fn.ntmps = N) (hl : args.length ≤ N)
  (h : ∀ a, Fr N (args.zipIdx.map fun p => (p.2, p.1)) [] a → WC P none c (PostP X) a w) : Pan P f args.toArray w X := by
 refine (callsIn_wide (n := 0)).1 (callsIn_of_wp_marks hf hb trivial ?_)
 have Z := Fr.entry (f := f) hl
 rw [← hn] at Z
 refine wpIn_mono (h _ (hn ▸ Z)) fun e a w hp => ?_
 cases e with
 | panic c =>
  show LeavesInM Fence.wide 0 P fn a.tmps _ a.defers (.panicking c) w
  rw [hp.1]
  exact ⟨c, rfl, hp.2⟩
 | normal => exact hp.elim
 | ret => exact hp.elim
 | exit _ => exact hp.elim
 | goto _ => exact hp.elim
 | outgrown => exact hp.elim
theorem ob {K : Act → World → Prop} {g : Fn} {cap : List Value} (Z : Fr N L df a) (hx : ev L x = some (.func g #[] cap.toArray)) (k : ∀ a, Fr N L ({ target := .fn g cap.toArray, args := #[] } :: df) a → WL P none ops K rest a w) :
  WL P none ops K (⟨none, .defer { callee := .value x, args := #[], argTypes := ats }, ty, pos, af, none⟩ :: rest) a w := by
 refine j8 rfl ⟨fun _ _ => trivial, ?_⟩
 have e : (Oper.semAt (Fw none).round a.eval ⟨none, .defer { callee := .value x, args := #[], argTypes := ats }, ty, pos, af, none⟩).run P w = .ok (.defer { target := .fn g cap.toArray, args := #[] }) w := by
  rw [show (Fw none).round = none from rfl, Oper.semAt_none]
  simp only [execOp, resolve, Z.eval hx, Deferred.ofValue, Sem.run_bind, Sem.run_pure, Result.andThen_ok]
  simp
 rw [e]
 exact k _ ⟨Z.size, Z.get, by show _ :: _ = _; rw [Z.dfs]⟩
def PostE (P : Program) (fn : Func) (R : Value → World → Prop) : Exit → Act → World → Prop
 | .normal, a, w | .ret, a, w => a.defers = [] ∧ ∃ v, (results fn a.tmps).run P w = .ok v w ∧ R v w
 | _, _, _ => False
theorem jm {fn : Func} {rs : List ResultVar} {vs : List Value} {R : Value → World → Prop} (Z : Fr N L [] a) (hres : fn.results = rs.toArray) (h : resAre P L w rs vs) (hR : R (retv vs) w) : PostE P fn R .normal a w :=
 ⟨Z.dfs, _, cV hres Z h, hR⟩
def Recd (u : FrameMode) (v : Value) (u2 : FrameMode) : Prop :=
 (u = .returning ∧ v = .nilIface ∧ u2 = .returning) ∨ (u = .panicking [{ v := v, recovered := false }] ∧ u2 = .panicking [{ v := v, recovered := true }])
theorem Recd.settle {u u2 : FrameMode} {v : Value} (h : Recd u v u2) : settle u2 = .returning := by
 rcases h with ⟨_, _, rfl⟩ | ⟨_, rfl⟩ <;> rfl
theorem n5 {f : FuncId} {fn : Func} {id : Nat} {o : Oper} {args : List Value} {u u2 : FrameMode} {v : Value} {R : Value → World → Prop}
  (hf : P.funcs[f]? = some fn) (hb : fn.body = some (.seq (.region id #[o] false) y)) (hn : fn.ntmps = N) (hl : args.length ≤ N) (hg : o.guard = none) (hdst : o.dst = some d) (hd : d < N)
  (ho : ∀ ρ w, (execOp ρ o).run P w = .ok .recover w) (hu : Recd u v u2)
  (h : ∀ a, Fr N ((d, v) :: args.zipIdx.map fun p => (p.2, p.1)) [] a → WC P none y (PostE P fn R) a w) :
  CallsDIn Fence.wide 0 P f args.toArray u w fun e u' w' => u' = u2 ∧ ∃ x, e = .returned x ∧ R x w' := by
 refine callsDIn_of_wpSIn hf hb trivial fun c₀ cs hm => wpSIn_seq (wpSIn_region ?_)
 have Z := Fr.entry (f := f) hl
 rw [← hn] at Z
 have Z : Fr N _ [] _ := Fr.put (N := N) (by rw [← hn]; exact Z) hd v
 have key : ∀ u2 : FrameMode, wpOpsSIn Fence.wide 0 P #[o] (Exit.thenS (y.wpSIn Fence.wide 0 P (bodyPostS P fn c₀ cs fun e u' w' => u' = u2 ∧ ∃ x, e = .returned x ∧ R x w')) (bodyPostS P fn c₀ cs fun e u' w' => u' = u2 ∧ ∃ x, e = .returned x ∧ R x w')) [] (Act.put { tmps := args.toArray ++ Array.replicate (fn.ntmps - args.toArray.size) undef, defers := [] } o.dst v) ({ c₀ with mode := u2 } :: cs) w := by
  intro u2
  refine wpSIn_of_wpIn rfl (wpIn_mono (h _ (by rw [hdst]; exact Z)) fun e a w hp => ?_)
  cases e with
  | normal => obtain ⟨h1, x, h2, h3⟩ := hp; exact ⟨h1, u2, rfl, x, h2, rfl, x, rfl, h3⟩
  | ret => obtain ⟨h1, x, h2, h3⟩ := hp; exact ⟨h1, u2, rfl, x, h2, rfl, x, rfl, h3⟩
  | exit _ => exact hp.elim
  | goto _ => exact hp.elim
  | panic _ => exact hp.elim
  | outgrown => exact hp.elim
 show wpOpsSIn Fence.wide 0 P #[o] _ [0] _ _ w
 unfold wpOpsSIn
 have e0 : (#[o] : Array Oper)[0]? = some o := rfl
 simp only [e0]
 refine ⟨fun _ _ => trivial, ?_⟩
 rw [if_pos (by simp [Region.wanted, hg]), ho]
 simp only
 rcases hu with ⟨rfl, rfl, rfl⟩ | ⟨rfl, rfl⟩
 ·have : recoverD (c₀ :: cs) = none := by simp only [recoverD, hm]
  rw [this]
  have hc : ({ c₀ with mode := .returning } : Frame) = c₀ := by rw [← hm]
  have := key .returning
  rw [hc] at this
  exact this
 ·have : recoverD (c₀ :: cs) = some (v, { c₀ with mode := .panicking [{ v := v, recovered := true }] } :: cs) := by simp only [recoverD, hm]
  rw [this]
  exact key _
def PostD (P : Program) (fn : Func) (R : Value → World → Prop) : Exit → Act → World → Prop := bodyPostM Fence.wide 0 P fn fun e w' => ∃ v, e = .returned v ∧ R v w'
theorem oZ {f : FuncId} {fn : Func} {c : Code} {args : List Value} {R : Value → World → Prop} (hf : P.funcs[f]? = some fn) (hb : fn.body = some c) (hn : fn.ntmps = N) (hl : args.length ≤ N)
  (h : ∀ a, Fr N (args.zipIdx.map fun p => (p.2, p.1)) [] a → WC P none c (PostD P fn R) a w) : Ret P f args.toArray w R := by
 refine (callsIn_wide (n := 0)).1 (callsIn_of_wp_marks hf hb trivial ?_)
 have Z := Fr.entry (f := f) hl
 rw [← hn] at Z
 exact h _ (hn ▸ Z)
theorem gS {fn : Func} {g : FuncId} {cap : List Value} {rs : List ResultVar} {vs : List Value} {R : Value → World → Prop} {R1 : World → Prop} {u u2 : FrameMode} {v : Value} (Z : Fr N L [{ target := .fn (.func g) cap.toArray, args := #[] }] a) (hen : ∀ args w, (callFunc g args).run P w = .ok (.enter g args) w) (hu : Recd u v u2)
  (hD : CallsDIn Fence.wide (0 - 1) P g cap.toArray u w fun e u' w' => u' = u2 ∧ ∃ x, e = .returned x ∧ R1 w') (hres : fn.results = rs.toArray) (h : ∀ w', R1 w' → resAre P L w' rs vs ∧ R (retv vs) w') :
  LeavesInM Fence.wide 0 P fn a.tmps (fun e w' => ∃ v, e = .returned v ∧ R v w') a.defers u w := by
 rw [Z.dfs]
 refine ⟨?_, .inr ⟨fun h => (by cases h), .func g, cap.toArray, g, cap.toArray, rfl, ?_, fun _ _ => trivial, hD.mono ?_⟩⟩
 ·rcases hu with ⟨rfl, _⟩ | ⟨rfl, _⟩ <;> simp
 ·show (invoke (.fn (.func g) cap.toArray) #[]).run P w = _
  simp only [invoke, hen]
  simp
 ·rintro e u' w' ⟨rfl, x, rfl, h1⟩
  show LeavesInM Fence.wide 0 P fn a.tmps _ [] (settle u') w'
  rw [hu.settle]
  obtain ⟨h2, h3⟩ := h w' h1
  exact ⟨_, cV hres Z h2, _, rfl, h3⟩
theorem m2 {fn : Func} {g : FuncId} {cap : List Value} {rs : List ResultVar} {vs : List Value} {R : Value → World → Prop} {R1 : World → Prop} (Z : Fr N L [{ target := .fn (.func g) cap.toArray, args := #[] }] a) (hen : ∀ args w, (callFunc g args).run P w = .ok (.enter g args) w)
  (hD : CallsDIn Fence.wide (0 - 1) P g cap.toArray .returning w fun e u' w' => u' = .returning ∧ ∃ x, e = .returned x ∧ R1 w') (hres : fn.results = rs.toArray) (h : ∀ w', R1 w' → resAre P L w' rs vs ∧ R (retv vs) w') : PostD P fn R .ret a w :=
 gS (u2 := .returning) (v := .nilIface) Z hen (.inl ⟨rfl, rfl, rfl⟩) hD hres h
theorem cz {fn : Func} {g : FuncId} {cap : List Value} {rs : List ResultVar} {vs : List Value} {R : Value → World → Prop} {R1 : World → Prop} {v : Value} (Z : Fr N L [{ target := .fn (.func g) cap.toArray, args := #[] }] a) (hen : ∀ args w, (callFunc g args).run P w = .ok (.enter g args) w)
  (hD : CallsDIn Fence.wide (0 - 1) P g cap.toArray (.panicking [{ v := v, recovered := false }]) w fun e u' w' => u' = .panicking [{ v := v, recovered := true }] ∧ ∃ x, e = .returned x ∧ R1 w') (hres : fn.results = rs.toArray) (h : ∀ w', R1 w' → resAre P L w' rs vs ∧ R (retv vs) w') : PostD P fn R (.panic [{ v := v, recovered := false }]) a w :=
 gS Z hen (.inr ⟨rfl, rfl⟩) hD hres h
theorem jc {v : Value} {fs : Array Field} {A : TypeId} (hx : ev L x = some (.iface A v)) (hu : P.underlying A = some (.struct fs)) : OpV P ⟨dst, .typeAssert x T A true, ty, pos, af, none⟩ L w (.tuple #[v, .bool true]) :=
 ⟨rfl, fun N df a h => by
  simp only [execOp, h.eval hx, Instr.typeAssert, Sem.run_bind, run_underlying hu, Result.andThen_ok]; simp⟩
theorem kA {T' : TypeId} {t : TypeId} {v : Value} {y : Operand} (hx : ev L x = some (.iface t v)) (hy : ev L y = some .nilIface) (hr : (binOp .eql T (.iface t v) .nilIface).run P w = .ok (.bool false) w) (hg : (eqGuard .eql T x y (.iface t v) .nilIface).run P w = .ok () w) : OpV P ⟨dst, .binOp .eql T x y T', ty, pos, af, none⟩ L w (.bool false) :=
 ⟨rfl, fun N df a h => by
  simp only [execOp, h.eval hx, h.eval hy, Sem.run_bind, hg, hr, Result.andThen_ok]; rfl⟩
end
end Go.PW
namespace Go.PW
open Go.RowKit
section
variable {P : Program} {w : World} {L : List (Nat × Value)} {dst : Option Tmp} {T T' ty : TypeId} {pos : String} {af : Array Edge} {gd : Option (Nat × Bool)} {x y : Operand}
theorem y127 (b : UInt8) : (b &&& 127).toNat = b.toNat % 128 := by rw [UInt8.toNat_and]; exact Nat.and_two_pow_sub_one_eq_mod b.toNat 7
end
end Go.PW
namespace Go.Proofs.YtddfkkdanpmnaaaGreatDoor
abbrev By := List UInt8
def lft (n : Nat) : Nat := 2 ^ Nat.log2 (n - 1)
theorem bB (n : Nat) : 0 < lft n := Nat.pow_pos om
theorem bG {n : Nat} (h : 2 ≤ n) : lft n < n := by
 have := Nat.log2_self_le (n := n - 1) om
 unfold lft; omega
theorem kN {n : Nat} (h : 2 ≤ n) : n ≤ 2 * lft n := by
 have := Nat.lt_log2_self (n := n - 1)
 unfold lft; rw [Nat.pow_succ] at this; omega
section
variable (S : By → By)
def leafH (s : By) : By := S (0 :: s)
def nodeH (a b : By) : By := S (1 :: (a ++ b))
def rootF : Nat → List By → By
 | 0, _ => S []
 | f + 1, l => match l with
  | [] => S []
  | [s] => leafH S s
  | _ => nodeH S (rootF f (l.take (lft l.length))) (rootF f (l.drop (lft l.length)))
def rootH (l : List By) : By := rootF S l.length l
theorem jO : ∀ (f g : Nat) (l : List By), l.length ≤ f → l.length ≤ g → rootF S f l = rootF S g l := by
 intro f
 induction f with
 | zero =>
  intro g l h _
  obtain rfl : l = [] := List.eq_nil_of_length_eq_zero om
  cases g <;> rfl
 | succ f ih =>
  intro g l h hg
  match l, g with
  | [], 0 => rfl
  | [], g + 1 => rfl
  | [s], g + 1 => rfl
  | a :: b :: l, g + 1 =>
   have h1 := bG (n := (a :: b :: l).length) sm
   have h2 := bB (a :: b :: l).length
   simp only [rootF]
   rw [ih g _ (by rw [List.length_take]; omega) (by rw [List.length_take]; omega), ih g _ (by rw [List.length_drop]; omega) (by rw [List.length_drop]; omega)]
theorem mM : rootH S [] = S [] := rfl
theorem mO (s : By) : rootH S [s] = leafH S s := rfl
theorem ch {l : List By} (h : 2 ≤ l.length) : rootH S l = nodeH S (rootH S (l.take (lft l.length))) (rootH S (l.drop (lft l.length))) := by
 match l, h with
 | a :: b :: l, _ =>
  have h1 := bG (n := (a :: b :: l).length) sm
  have h2 := bB (a :: b :: l).length
  have e : rootH S (a :: b :: l) = nodeH S (rootF S (l.length + 1) ((a :: b :: l).take (lft (a :: b :: l).length))) (rootF S (l.length + 1) ((a :: b :: l).drop (lft (a :: b :: l).length))) := rfl
  rw [e]
  have h3 : (a :: b :: l).length = l.length + 2 := rfl
  rw [jO S (l.length + 1) ((a :: b :: l).take (lft (a :: b :: l).length)).length _ (by rw [List.length_take]; omega) (Nat.le_refl _), jO S (l.length + 1) ((a :: b :: l).drop (lft (a :: b :: l).length)).length _ (by rw [List.length_drop]; omega) (Nat.le_refl _)]
  rfl
def proofF : Nat → List By → Nat → List By
 | 0, _, _ => []
 | f + 1, l, i =>
  if l.length ≤ 1 then [] else
  if i < lft l.length then proofF f (l.take (lft l.length)) i ++ [rootH S (l.drop (lft l.length))]
  else proofF f (l.drop (lft l.length)) (i - lft l.length) ++ [rootH S (l.take (lft l.length))]
def proofH (l : List By) (i : Nat) : List By := proofF S l.length l i
theorem iw : ∀ (f g : Nat) (l : List By) (i : Nat), l.length ≤ f → l.length ≤ g → proofF S f l i = proofF S g l i := by
 intro f
 induction f with
 | zero =>
  intro g l i h _
  obtain rfl : l = [] := List.eq_nil_of_length_eq_zero om
  cases g <;> rfl
 | succ f ih =>
  intro g l i h hg
  cases g with
  | zero => obtain rfl : l = [] := List.eq_nil_of_length_eq_zero om; rfl
  | succ g =>
   simp only [proofF]
   by_cases h1 : l.length ≤ 1
   ·rw [if_pos h1, if_pos h1]
   ·have h2 := bG (n := l.length) om
    have h3 := bB l.length
    rw [if_neg h1, if_neg h1, ih g (l.take _) _ (by rw [List.length_take]; omega) (by rw [List.length_take]; omega), ih g (l.drop _) _ (by rw [List.length_drop]; omega) (by rw [List.length_drop]; omega)]
theorem eG {l : List By} {i : Nat} (h : l.length ≤ 1) : proofH S l i = [] := by
 unfold proofH
 cases hl : l.length with
 | zero => rfl
 | succ n => rw [proofF, if_pos h]
theorem dR {l : List By} {i : Nat} (h : 2 ≤ l.length) : proofH S l i = if i < lft l.length then proofH S (l.take (lft l.length)) i ++ [rootH S (l.drop (lft l.length))] else proofH S (l.drop (lft l.length)) (i - lft l.length) ++ [rootH S (l.take (lft l.length))] := by
 have h2 := bG h
 have h3 := bB l.length
 obtain ⟨f, hf⟩ : ∃ f, l.length = f + 1 := ⟨l.length - 1, by omega⟩
 conv => lhs; unfold proofH; rw [hf, proofF, if_neg om]
 rw [iw S f (l.take (lft l.length)).length (l.take _) _ (by rw [List.length_take]; omega) (Nat.le_refl _), iw S f (l.drop (lft l.length)).length (l.drop _) _ (by rw [List.length_drop]; omega) (Nat.le_refl _)]
 rfl
def valueF : Nat → Nat → Nat → By → List By → By × Bool
 | 0, _, _, s, p => (leafH S s, p.isEmpty)
 | f + 1, n, i, s, p =>
  if n ≤ 1 then (leafH S s, p.isEmpty) else
  match p.getLast? with
  | none => ([], false)
  | some x =>
   if i < lft n then (nodeH S (valueF f (lft n) i s p.dropLast).1 x, (valueF f (lft n) i s p.dropLast).2)
   else (nodeH S x (valueF f (n - lft n) (i - lft n) s p.dropLast).1, (valueF f (n - lft n) (i - lft n) s p.dropLast).2)
def valueH (n i : Nat) (s : By) (p : List By) : By × Bool := valueF S (p.length + 1) n i s p
theorem gO {n i : Nat} {s : By} {p : List By} (h : n ≤ 1) : valueH S n i s p = (leafH S s, p.isEmpty) := by rw [valueH, valueF, if_pos h]
theorem lg {n i : Nat} {s : By} (h : 2 ≤ n) : valueH S n i s [] = ([], false) := by rw [valueH, valueF, if_neg om]; rfl
theorem dl {n i : Nat} {s x : By} {p : List By} (h : 2 ≤ n) : valueH S n i s (p ++ [x]) =
  if i < lft n then (nodeH S (valueH S (lft n) i s p).1 x, (valueH S (lft n) i s p).2) else (nodeH S x (valueH S (n - lft n) (i - lft n) s p).1, (valueH S (n - lft n) (i - lft n) s p).2) := by
 rw [valueH, valueF, if_neg om]
 simp only [List.getLast?_append, List.getLast?_singleton, Option.some_or, List.dropLast_concat, List.length_append, List.length_singleton]
 rfl
def cE (root : By) (n i : Int) (s : By) (p : List By) : Bool :=
 decide (0 ≤ i) && decide (i < n) && (p.all fun x => decide (x.length = 32)) && (valueH S n.toNat i.toNat s p).2 && decide ((valueH S n.toNat i.toNat s p).1 = root)
def partF : Nat → List By → Nat → Bool → List By
 | 0, _, _, _ => []
 | f + 1, l, m, whole =>
  if m = l.length then (if whole then [] else [rootH S l]) else
  if m ≤ lft l.length then partF f (l.take (lft l.length)) m whole ++ [rootH S (l.drop (lft l.length))]
  else partF f (l.drop (lft l.length)) (m - lft l.length) false ++ [rootH S (l.take (lft l.length))]
def partH (l : List By) (m : Nat) (whole : Bool) : List By := partF S (l.length + 1) l m whole
theorem jE : ∀ (f g : Nat) (l : List By) (m : Nat) (w : Bool), 1 ≤ m → m ≤ l.length → l.length < f → l.length < g → partF S f l m w = partF S g l m w := by
 intro f
 induction f with
 | zero => intro g l m w _ _ h; omega
 | succ f ih =>
  intro g l m w hm hml h hg
  obtain ⟨g, rfl⟩ : ∃ k, g = k + 1 := ⟨g - 1, by omega⟩
  simp only [partF]
  by_cases h1 : m = l.length
  ·rw [if_pos h1, if_pos h1]
  ·have h2 := bG (n := l.length) om
   have h3 := bB l.length
   rw [if_neg h1, if_neg h1]
   by_cases h4 : m ≤ lft l.length
   ·rw [if_pos h4, if_pos h4, ih g _ _ _ hm (by rw [List.length_take]; omega) (by rw [List.length_take]; omega) (by rw [List.length_take]; omega)]
   ·rw [if_neg h4, if_neg h4, ih g _ _ _ om (by rw [List.length_drop]; omega) (by rw [List.length_drop]; omega) (by rw [List.length_drop]; omega)]
theorem cM {l : List By} {w : Bool} : partH S l l.length w = if w then [] else [rootH S l] := by rw [partH, partF, if_pos rfl]
theorem dj {l : List By} {m : Nat} {w : Bool} (hm : 1 ≤ m) (h : m < l.length) : partH S l m w = if m ≤ lft l.length then partH S (l.take (lft l.length)) m w ++ [rootH S (l.drop (lft l.length))] else partH S (l.drop (lft l.length)) (m - lft l.length) false ++ [rootH S (l.take (lft l.length))] := by
 have h2 := bG (n := l.length) om
 have h3 := bB l.length
 conv => lhs; rw [partH, partF, if_neg om]
 split
 ·rename_i h4
  rw [jE S l.length ((l.take (lft l.length)).length + 1) _ _ _ hm (by rw [List.length_take]; omega) (by rw [List.length_take]; omega) om]; rfl
 ·rename_i h4
  rw [jE S l.length ((l.drop (lft l.length)).length + 1) _ _ _ om (by rw [List.length_drop]; omega) (by rw [List.length_drop]; omega) om]; rfl
def extH (l : List By) (m : Nat) : List By := if m = 0 then [] else partH S l m true
def endH : List By → By × By × Bool
 | [x] => (x, x, true)
 | _ => ([], [], false)
def bothF : Nat → By → Nat → Nat → List By → Bool → By × By × Bool
 | 0, _, _, _, _, _ => ([], [], false)
 | f + 1, old, m, n, p, whole =>
  if m = n then (if whole then (old, old, p.isEmpty) else endH p) else
  match p.getLast? with
  | none => ([], [], false)
  | some x =>
   if m ≤ lft n then ((bothF f old m (lft n) p.dropLast whole).1, nodeH S (bothF f old m (lft n) p.dropLast whole).2.1 x, (bothF f old m (lft n) p.dropLast whole).2.2)
   else (nodeH S x (bothF f old (m - lft n) (n - lft n) p.dropLast false).1, nodeH S x (bothF f old (m - lft n) (n - lft n) p.dropLast false).2.1, (bothF f old (m - lft n) (n - lft n) p.dropLast false).2.2)
def bothH (old : By) (m n : Nat) (p : List By) (whole : Bool) : By × By × Bool := bothF S (p.length + 1) old m n p whole
theorem cB {old : By} {n : Nat} {p : List By} {w : Bool} : bothH S old n n p w = (if w then (old, old, p.isEmpty) else endH p) := by rw [bothH, bothF, if_pos rfl]
theorem fx {old : By} {m n : Nat} {w : Bool} (h : m ≠ n) : bothH S old m n [] w = ([], [], false) := by rw [bothH, bothF, if_neg h]; rfl
theorem cI {old x : By} {m n : Nat} {p : List By} {w : Bool} (h : m ≠ n) : bothH S old m n (p ++ [x]) w =
  if m ≤ lft n then ((bothH S old m (lft n) p w).1, nodeH S (bothH S old m (lft n) p w).2.1 x, (bothH S old m (lft n) p w).2.2)
  else (nodeH S x (bothH S old (m - lft n) (n - lft n) p false).1, nodeH S x (bothH S old (m - lft n) (n - lft n) p false).2.1, (bothH S old (m - lft n) (n - lft n) p false).2.2) := by
 rw [bothH, bothF, if_neg h]
 simp only [List.getLast?_append, List.getLast?_singleton, Option.some_or, List.dropLast_concat, List.length_append, List.length_singleton]
 rfl
def aO (old : By) (m : Int) (root : By) (n : Int) (p : List By) : Bool :=
 if m < 0 ∨ n < m ∨ (p.all fun x => decide (x.length = 32)) = false ∨ old.length ≠ 32 ∨ root.length ≠ 32 then false
 else if m = 0 then p.isEmpty && decide (old = S [])
 else if m = n then p.isEmpty && decide (old = root)
 else (bothH S old m.toNat n.toNat p true).2.2 && decide ((bothH S old m.toNat n.toNat p true).1 = old) && decide ((bothH S old m.toNat n.toNat p true).2.1 = root)
end
end Go.Proofs.YtddfkkdanpmnaaaGreatDoor
namespace Go.Proofs.YtddfkkdanpmnaaaGreatDoor
section
variable {S : By → By}
theorem jw : ∀ (n : Nat) (l : List By) (i : Nat), l.length = n → i < n → valueH S n i (l.getD i []) (proofH S l i) = (rootH S l, true) := by
 intro n
 induction n using Nat.strongRecOn with
 | _ n ih =>
  intro l i hl hi
  by_cases h1 : n ≤ 1
  ·obtain ⟨s, rfl⟩ : ∃ s, l = [s] := by
    match l, hl with
    | [s], _ => exact ⟨s, rfl⟩
    | [], hl => simp at hl; omega
    | _ :: _ :: _, hl => simp at hl; omega
   rw [gO S h1, eG S sm]
   have : i = 0 := by omega
   subst this; rfl
  ·subst hl
   have h2 := bG (n := l.length) om
   have h3 := bB l.length
   rw [dR S om, ch S (l := l) om]
   by_cases h4 : i < lft l.length
   ·have h5 : (l.take (lft l.length)).length = lft l.length := by rw [List.length_take]; omega
    have h6 : (l.take (lft l.length)).getD i [] = l.getD i [] := by simp [List.getD_eq_getElem?_getD, List.getElem?_take, h4]
    have := ih _ h2 _ i h5 h4
    rw [h6] at this
    rw [if_pos h4, dl S om, if_pos h4, this]
   ·have h5 : (l.drop (lft l.length)).length = l.length - lft l.length := by rw [List.length_drop]
    have h6 : (l.drop (lft l.length)).getD (i - lft l.length) [] = l.getD i [] := by
     simp only [List.getD_eq_getElem?_getD, List.getElem?_drop]; rw [show lft l.length + (i - lft l.length) = i by omega]
    have := ih _ om _ (i - lft l.length) h5 om
    rw [h6] at this
    rw [if_neg h4, dl S om, if_neg h4, this]
theorem pg {n a : Nat} (h : n ≤ 2 ^ a) (h2 : 2 ≤ n) : Nat.log2 (n - 1) + 1 ≤ a := by
 have h1 := Nat.log2_self_le (n := n - 1) om
 have : 2 ^ Nat.log2 (n - 1) < 2 ^ a := by omega
 exact (Nat.pow_lt_pow_iff_right om).1 this
variable (hS : ∀ s, (S s).length = 32)
include hS
theorem jD (s : By) : (leafH S s).length = 32 := hS _
theorem j1 (a b : By) : (nodeH S a b).length = 32 := hS _
theorem bc (l : List By) : (rootH S l).length = 32 := by
 by_cases h : 2 ≤ l.length
 ·rw [ch S h]; exact j1 hS _ _
 ·match l with
  | [] => exact hS _
  | [s] => exact hS _
  | _ :: _ :: _ => simp at h
theorem mG : ∀ (n : Nat) (l : List By) (i : Nat), l.length = n → (proofH S l i).all (fun x => decide (x.length = 32)) = true := by
 intro n
 induction n using Nat.strongRecOn with
 | _ n ih =>
  intro l i hl
  by_cases h1 : n ≤ 1
  ·rw [eG S om]; rfl
  ·subst hl
   have h2 := bG (n := l.length) om
   have h3 := bB l.length
   rw [dR S om]
   split
   ·rw [List.all_append, ih _ h2 _ i (by rw [List.length_take]; omega)]; simp [bc hS]
   ·rw [List.all_append, ih (l.length - lft l.length) om _ _ (by rw [List.length_drop])]; simp [bc hS]
theorem iP {l : List By} {i : Nat} (h : i < l.length) : cE S (rootH S l) l.length i (l.getD i []) (proofH S l i) = true := by
 have := jw (S := S) l.length l i rfl h
 simp only [cE, Int.toNat_natCast, this, mG hS _ l i rfl]
 simp; omega
omit hS in
theorem ms : ∀ (n : Nat) (l : List By) (m : Nat) (w : Bool) (old : By), l.length = n → 1 ≤ m → m ≤ n → (w = true → old = rootH S (l.take m)) → bothH S old m n (partH S l m w) w = (rootH S (l.take m), rootH S l, true) := by
 intro n
 induction n using Nat.strongRecOn with
 | _ n ih =>
  intro l m w old hl hm hml hw
  by_cases h1 : m = n
  ·subst h1; subst hl
   rw [cM, cB]
   cases w with
   | true => simp [hw rfl]
   | false => simp [endH]
  ·subst hl
   have h2 := bG (n := l.length) om
   have h3 := bB l.length
   have h4 := kN (n := l.length) om
   rw [dj S hm om]
   by_cases h5 : m ≤ lft l.length
   ·rw [if_pos h5, cI S h1, if_pos h5]
    have e : (l.take (lft l.length)).take m = l.take m := by rw [List.take_take]; congr 1; omega
    have := ih _ h2 (l.take (lft l.length)) m w old (by rw [List.length_take]; omega) hm h5 (fun hh => by rw [e]; exact hw hh)
    rw [e] at this
    rw [this, ch S (l := l) om]
   ·rw [if_neg h5, cI S h1, if_neg h5]
    have := ih (l.length - lft l.length) om (l.drop (lft l.length)) (m - lft l.length) false old (by rw [List.length_drop]) om om sm
    rw [this, ch S (l := l) om]
    have e1 : 2 ≤ (l.take m).length := by rw [List.length_take]; omega
    have e2 : lft (l.take m).length = lft l.length := by
     rw [List.length_take, show min m l.length = m by omega]
     have h6 := bG (n := m) om
     have h7 := kN (n := m) om
     unfold lft at *
     congr 1
     rw [Nat.log2_eq_iff om]
     constructor <;> omega
    rw [ch S e1, e2]
    have e3 : (l.take m).take (lft l.length) = l.take (lft l.length) := by rw [List.take_take]; congr 1; omega
    have e4 : (l.take m).drop (lft l.length) = (l.drop (lft l.length)).take (m - lft l.length) := by rw [List.drop_take]
    rw [e3, e4]
end
end Go.Proofs.YtddfkkdanpmnaaaGreatDoor
namespace Go.Proofs.YtddfkkdanpmnaaaGreatDoor
section
variable (S : By → By)
def Coll (a b : List By) : Prop := ∃ (i : Nat) (x y : By), a[i]? = some x ∧ b[i]? = some y ∧ x ≠ y ∧ S x = S y
def collH (a b : List By) : Bool := (List.range (min a.length b.length)).any fun i => !decide (a.getD i [] = b.getD i []) && decide (S (a.getD i []) = S (b.getD i []))
variable {S}
theorem g6 {x y : By} {a b : List By} (h : x ≠ y) (e : S x = S y) : Coll S (x :: a) (y :: b) := ⟨0, x, y, rfl, rfl, h, e⟩
theorem iq {x y : By} {a b : List By} (h : Coll S a b) : Coll S (x :: a) (y :: b) := let ⟨i, p, q, h1, h2, h3, h4⟩ := h; ⟨i + 1, p, q, by simpa using h1, by simpa using h2, h3, h4⟩
theorem iC {a b : List By} : collH S a b = true ↔ Coll S a b := by
 simp only [collH, List.any_eq_true, List.mem_range, Bool.and_eq_true, Bool.not_eq_true', decide_eq_false_iff_not, decide_eq_true_eq]
 constructor
 ·rintro ⟨i, hi, h1, h2⟩
  have ha : i < a.length := by omega
  have hb : i < b.length := by omega
  simp only [List.getD_eq_getElem?_getD, List.getElem?_eq_getElem ha, List.getElem?_eq_getElem hb, Option.getD_some] at h1 h2
  exact ⟨i, _, _, List.getElem?_eq_getElem ha, List.getElem?_eq_getElem hb, h1, h2⟩
 ·rintro ⟨i, x, y, h1, h2, h3, h4⟩
  have ha := (List.getElem?_eq_some_iff.1 h1).1
  have hb := (List.getElem?_eq_some_iff.1 h2).1
  exact ⟨i, by omega, by simp only [List.getD_eq_getElem?_getD, h1, h2, Option.getD_some]; exact h3, by simp only [List.getD_eq_getElem?_getD, h1, h2, Option.getD_some]; exact h4⟩
variable (hS : ∀ s, (S s).length = 32)
include hS
end
end Go.Proofs.YtddfkkdanpmnaaaGreatDoor
namespace Go.Proofs.YtddfkkdanpmnaaaGreatDoor
section
variable (S : By → By)
def zero32 : By := List.replicate 32 0
variable {S}
variable (hS : ∀ s, (S s).length = 32)
include hS
theorem m3 : ∀ (n : Nat) (l : List By) (m : Nat) (w : Bool), l.length = n → 1 ≤ m → m ≤ n → (partH S l m w).all (fun x => decide (x.length = 32)) = true := by
 intro n
 induction n using Nat.strongRecOn with
 | _ n ih =>
  intro l m w hl hm hml
  by_cases h1 : m = n
  ·subst h1; subst hl
   rw [cM]
   cases w <;> simp [bc hS]
  ·subst hl
   have h2 := bG (n := l.length) om
   have h3 := bB l.length
   rw [dj S hm om]
   split
   ·rw [List.all_append, ih _ h2 _ m w (by rw [List.length_take]; omega) hm (by assumption)]; simp [bc hS]
   ·rw [List.all_append, ih (l.length - lft l.length) om _ _ _ (by rw [List.length_drop]) om om]; simp [bc hS]
omit hS in
theorem jR : ∀ (n : Nat) (l : List By) (m a : Nat) (w : Bool), l.length = n → 1 ≤ m → m ≤ n → n ≤ 2 ^ a → (partH S l m w).length ≤ a + 1 := by
 intro n
 induction n using Nat.strongRecOn with
 | _ n ih =>
  intro l m a w hl hm hml ha
  by_cases h1 : m = n
  ·subst h1; subst hl
   rw [cM]
   cases w <;> simp
  ·subst hl
   have h2 := bG (n := l.length) om
   have h3 := bB l.length
   have h4 := kN (n := l.length) om
   have h5 := pg ha om
   rw [dj S hm om]
   split
   ·have := ih _ h2 (l.take (lft l.length)) m (Nat.log2 (l.length - 1)) w (by rw [List.length_take]; omega) hm (by assumption) (Nat.le_refl _)
    simp; omega
   ·have := ih (l.length - lft l.length) om (l.drop (lft l.length)) (m - lft l.length) (Nat.log2 (l.length - 1)) false (by rw [List.length_drop]) om om (by show _ ≤ lft l.length; omega)
    simp; omega
omit hS in
theorem oS {l : List By} {m : Nat} (h : m ≤ l.length) : (extH S l m).length ≤ 2 * (if l.length = 0 then 0 else Nat.log2 l.length + 1) := by
 unfold extH
 by_cases h0 : m = 0
 ·rw [if_pos h0]; simp
 ·rw [if_neg h0]
  have := jR (S := S) l.length l m (Nat.log2 l.length + 1) true rfl om h (Nat.le_of_lt Nat.lt_log2_self)
  rw [if_neg om]; omega
theorem eC {l : List By} {m : Nat} (h : m ≤ l.length) : aO S (rootH S (l.take m)) m (rootH S l) l.length (extH S l m) = true := by
 unfold aO extH
 by_cases h0 : m = 0
 ·subst h0
  rw [if_neg (by simp [bc hS])]
  simp [mM]
 ·rw [if_neg h0, if_neg (by
   have := m3 hS l.length l m true rfl om h
   simp [bc hS, this]; omega), if_neg om]
  by_cases h1 : m = l.length
  ·subst h1
   rw [if_pos rfl, cM]; simp
  ·rw [if_neg om, Int.toNat_natCast, Int.toNat_natCast, ms (S := S) l.length l m true _ rfl om h (fun _ => rfl)]
   simp
omit hS in
variable (S) in
def sidesF : Nat → By → Nat → Nat → List By → Bool → List By × By
 | 0, old, _, _, _, _ => ([], old)
 | f + 1, old, m, n, p, whole =>
  if n ≤ m ∨ p = [] then ([], if whole ∨ p = [] then old else p.headD []) else
  match p.getLast? with
  | none => ([], old)
  | some x =>
   if m ≤ lft n then ((1 :: ((sidesF f old m (lft n) p.dropLast whole).2 ++ x)) :: (sidesF f old m (lft n) p.dropLast whole).1, nodeH S (sidesF f old m (lft n) p.dropLast whole).2 x)
   else ((1 :: (x ++ (sidesF f old (m - lft n) (n - lft n) p.dropLast false).2)) :: (sidesF f old (m - lft n) (n - lft n) p.dropLast false).1, nodeH S x (sidesF f old (m - lft n) (n - lft n) p.dropLast false).2)
omit hS in
variable (S) in
def sidesH (old : By) (m n : Nat) (p : List By) (w : Bool) : List By × By := sidesF S (p.length + 1) old m n p w
omit hS in
theorem cd {old : By} {m n : Nat} {p : List By} {w : Bool} (h : n ≤ m ∨ p = []) : sidesH S old m n p w = ([], if w ∨ p = [] then old else p.headD []) := by rw [sidesH, sidesF, if_pos h]
omit hS in
theorem dk {old x : By} {m n : Nat} {p : List By} {w : Bool} (h : m < n) : sidesH S old m n (p ++ [x]) w =
  if m ≤ lft n then ((1 :: ((sidesH S old m (lft n) p w).2 ++ x)) :: (sidesH S old m (lft n) p w).1, nodeH S (sidesH S old m (lft n) p w).2 x)
  else ((1 :: (x ++ (sidesH S old (m - lft n) (n - lft n) p false).2)) :: (sidesH S old (m - lft n) (n - lft n) p false).1, nodeH S x (sidesH S old (m - lft n) (n - lft n) p false).2) := by
 rw [sidesH, sidesF, if_neg (by simp; omega)]
 simp only [List.getLast?_append, List.getLast?_singleton, Option.some_or, List.dropLast_concat, List.length_append, List.length_singleton]
 rfl
theorem iA {old : By} (ho : old.length = 32) : ∀ (p : List By) (m n : Nat) (w : Bool), (∀ x ∈ p, x.length = 32) → (sidesH S old m n p w).2.length = 32 := by
 intro p m n w hp
 rcases List.eq_nil_or_concat p with rfl | ⟨p, x, rfl⟩
 ·rw [cd (.inr rfl)]; simp [ho]
 ·rw [List.concat_eq_append] at *
  by_cases h : n ≤ m
  ·rw [cd (.inl h)]
   simp only
   split
   ·exact ho
   ·cases p with
    | nil => exact hp x sm
    | cons a p => exact hp a sm
  ·rw [dk om]; split <;> exact hS _
theorem kL {a b : By} (ha : a.length = 32) (hb : b.length = 32) : ∀ (p q : List By) (m n : Nat) (w : Bool), 1 ≤ m → m ≤ n → (∀ x ∈ p, x.length = 32) → (∀ x ∈ q, x.length = 32) → (bothH S a m n p w).2.2 = true → (bothH S b m n q w).2.2 = true →
  (sidesH S a m n p w).2 = (bothH S a m n p w).2.1 ∧ (sidesH S b m n q w).2 = (bothH S b m n q w).2.1 ∧
  ((bothH S a m n p w).2.1 = (bothH S b m n q w).2.1 → Coll S (sidesH S a m n p w).1 (sidesH S b m n q w).1 ∨ (bothH S a m n p w).1 = (bothH S b m n q w).1) := by
 intro p
 induction hpl : p.length generalizing p with
 | zero =>
  intro q m n w hm hmn h1 h2 o1 o2
  obtain rfl : p = [] := List.eq_nil_of_length_eq_zero hpl
  by_cases hmn2 : m = n
  ·subst hmn2
   rw [cB] at *
   rw [cB] at *
   cases w with
   | true =>
    simp only [if_true] at *
    have : q = [] := by simpa using o2
    subst this
    rw [cd (.inr rfl), cd (.inr rfl)]; simp; exact fun h => .inr h
   | false => simp [endH] at o1
  ·rw [fx S hmn2] at o1; cases o1
 | succ k ih =>
  intro q m n w hm hmn h1 h2 o1 o2
  by_cases hmn2 : m = n
  ·subst hmn2
   rw [cB] at *
   rw [cB] at *
   cases w with
   | true =>
    simp only [if_true] at o1; obtain rfl : p = [] := by simpa using o1
    simp at hpl
   | false =>
    simp only [Bool.false_eq_true, if_false] at *
    have e : ∀ r : List By, (endH r).2.2 = true → ∃ x, r = [x] := by
     intro r h
     match r with
     | [x] => exact ⟨x, rfl⟩
     | [] => cases h
     | _ :: _ :: _ => cases h
    obtain ⟨x, rfl⟩ := e p o1
    obtain ⟨y, rfl⟩ := e q o2
    rw [cd (.inl (Nat.le_refl _)), cd (.inl (Nat.le_refl _))]
    simp [endH]; exact fun h => .inr h
  ·rcases List.eq_nil_or_concat p with rfl | ⟨p, x, rfl⟩
   ·simp at hpl
   rcases List.eq_nil_or_concat q with rfl | ⟨q, y, rfl⟩
   ·rw [fx S hmn2] at o2; cases o2
   rw [List.concat_eq_append] at *
   rw [List.concat_eq_append] at *
   have hk : p.length = k := by simpa using hpl
   have hx : x.length = 32 := h1 x sm
   have hy : y.length = 32 := h2 y sm
   have g1 : ∀ z ∈ p, z.length = 32 := fun z hz => h1 z (by simp [hz])
   have g2 : ∀ z ∈ q, z.length = 32 := fun z hz => h2 z (by simp [hz])
   rw [cI S hmn2] at *
   rw [cI S hmn2] at *
   rw [dk om, dk om]
   have h3 := bB n
   have h4 := bG (n := n) om
   by_cases h5 : m ≤ lft n
   ·simp only [if_pos h5] at *
    obtain ⟨i1, i2, i3⟩ := ih p hk q m (lft n) w hm h5 g1 g2 o1 o2
    refine ⟨by rw [i1], by rw [i2], fun he => ?_⟩
    by_cases h6 : (1 :: ((sidesH S a m (lft n) p w).2 ++ x) : By) = 1 :: ((sidesH S b m (lft n) q w).2 ++ y)
    ·have h7 := List.append_inj (by simpa using h6) (by rw [iA hS ha _ _ _ _ g1, iA hS hb _ _ _ _ g2])
     rcases i3 (by rw [← i1, ← i2, h7.1]) with h8 | h8
     ·exact .inl (iq h8)
     ·exact .inr h8
    ·refine .inl (g6 h6 ?_)
     rw [i1, i2]; exact he
   ·simp only [if_neg h5] at *
    obtain ⟨i1, i2, i3⟩ := ih p hk q (m - lft n) (n - lft n) false om om g1 g2 o1 o2
    refine ⟨by rw [i1], by rw [i2], fun he => ?_⟩
    by_cases h6 : (1 :: (x ++ (sidesH S a (m - lft n) (n - lft n) p false).2) : By) = 1 :: (y ++ (sidesH S b (m - lft n) (n - lft n) q false).2)
    ·have h7 := List.append_inj (by simpa using h6) (by rw [hx, hy])
     rcases i3 (by rw [← i1, ← i2, h7.2]) with h8 | h8
     ·exact .inl (iq h8)
     ·exact .inr (by rw [h8, h7.1])
    ·refine .inl (g6 h6 ?_)
     rw [i1, i2]; exact he
theorem jx {a b root : By} {m n : Int} {p q : List By} (h1 : aO S a m root n p = true) (h2 : aO S b m root n q = true) (hne : a ≠ b) : collH S (sidesH S a m.toNat n.toNat p true).1 (sidesH S b m.toNat n.toNat q true).1 = true := by
 have parts : ∀ {old : By} {p : List By}, aO S old m root n p = true → 0 ≤ m ∧ m ≤ n ∧ (∀ x ∈ p, x.length = 32) ∧ old.length = 32 ∧ ((m = 0 ∧ old = S []) ∨ (m = n ∧ old = root) ∨ (1 ≤ m ∧ m < n ∧ (bothH S old m.toNat n.toNat p true).2.2 = true ∧ (bothH S old m.toNat n.toNat p true).1 = old ∧ (bothH S old m.toNat n.toNat p true).2.1 = root)) := by
  intro old p h
  unfold aO at h
  split at h
  ·cases h
  ·rename_i hc
   simp only [not_or, Int.not_lt, Bool.not_eq_false, Classical.not_not, List.all_eq_true, decide_eq_true_eq] at hc
   obtain ⟨c1, c2, c3, c4, c5⟩ := hc
   refine ⟨c1, c2, c3, c4, ?_⟩
   split at h
   ·simp only [Bool.and_eq_true, decide_eq_true_eq] at h
    exact .inl ⟨by assumption, h.2⟩
   ·split at h
    ·simp only [Bool.and_eq_true, decide_eq_true_eq] at h
     exact .inr (.inl ⟨by assumption, h.2⟩)
    ·simp only [Bool.and_eq_true, decide_eq_true_eq] at h
     exact .inr (.inr ⟨by omega, by omega, h.1.1, h.1.2, h.2⟩)
 obtain ⟨a1, a2, a3, a4, a5⟩ := parts h1
 obtain ⟨b1, b2, b3, b4, b5⟩ := parts h2
 rw [iC]
 rcases a5 with ⟨e, e1⟩ | ⟨e, e1⟩ | ⟨e1, e2, e3, e4, e5⟩
 ·rcases b5 with ⟨f, f1⟩ | ⟨f, f1⟩ | ⟨f1, f2, f3, f4, f5⟩
  ·exact absurd (e1.trans f1.symm) hne
  ·have : root.length = 32 ∧ p = [] ∧ root = S [] := by
    unfold aO at h2
    split at h2
    ·cases h2
    ·rename_i hc
     simp only [not_or, Classical.not_not] at hc
     try rw [if_pos e] at h2
     simp only [Bool.and_eq_true, decide_eq_true_eq] at h2
     exact absurd (e1.trans h2.2.symm) hne
   exact absurd (e1.trans (this.2.2.symm.trans f1.symm)) hne
  ·omega
 ·rcases b5 with ⟨f, f1⟩ | ⟨f, f1⟩ | ⟨f1, f2, f3, f4, f5⟩
  ·unfold aO at h1
   split at h1
   ·cases h1
   ·try rw [if_pos f] at h1
    simp only [Bool.and_eq_true, decide_eq_true_eq] at h1
    exact absurd (h1.2.trans f1.symm) hne
  ·exact absurd (e1.trans f1.symm) hne
  ·omega
 ·rcases b5 with ⟨f, f1⟩ | ⟨f, f1⟩ | ⟨f1, f2, f3, f4, f5⟩
  ·omega
  ·omega
  ·obtain ⟨_, _, h⟩ := kL hS a4 b4 p q m.toNat n.toNat true om om a3 b3 e3 f3
   rcases h (by rw [e5, f5]) with h | h
   ·exact h
   ·rw [e4, f4] at h; exact absurd h hne
end
end Go.Proofs.YtddfkkdanpmnaaaGreatDoor
namespace Go.Proofs.YtddfkkdanpmnaaaGreatDoor
theorem gg {s t : Nat} (hs : ∃ a, s = 2 ^ a) (ht : ∃ a, t = 2 ^ a) (h : s < t) : 2 * s ≤ t := by
 obtain ⟨a, rfl⟩ := hs
 obtain ⟨b, rfl⟩ := ht
 have : a < b := (Nat.pow_lt_pow_iff_right de).1 h
 calc 2 * 2 ^ a = 2 ^ (a + 1) := by rw [Nat.pow_succ, Nat.mul_comm]
  _ ≤ 2 ^ b := Nat.pow_le_pow_right de this
theorem oT {a m : Nat} (h0 : 0 < m) (h : m ≤ 2 ^ a) : lft (2 ^ a + m) = 2 ^ a := by
 unfold lft
 congr 1
 exact (Nat.log2_eq_iff om).2 ⟨by omega, by rw [Nat.pow_succ]; omega⟩
section
variable (S : By → By)
theorem gm {c d : List By} {a : Nat} (hc : c.length = 2 ^ a) (h0 : 0 < d.length) (hd : d.length ≤ 2 ^ a) : rootH S (c ++ d) = nodeH S (rootH S c) (rootH S d) := by
 have hp : 0 < 2 ^ a := Nat.pow_pos de
 have hl : lft (c ++ d).length = c.length := by rw [List.length_append, hc]; exact oT h0 hd
 rw [ch S (by rw [List.length_append]; omega), hl, List.take_left, List.drop_left]
def Stk : List (By × Nat) → List By → Prop
 | [], l => l = []
 | x :: st, l => ∃ l1 c, l = l1 ++ c ∧ c.length = x.2 ∧ (∃ a, x.2 = 2 ^ a) ∧ x.1 = rootH S c ∧ Stk st l1
def incr : List (By × Nat) → Prop
 | [] => True
 | [_] => True
 | x :: y :: st => x.2 < y.2 ∧ incr (y :: st)
def incrW : List (By × Nat) → Prop
 | [] => True
 | [_] => True
 | x :: y :: st => x.2 ≤ y.2 ∧ incr (y :: st)
theorem incr.tail {x : By × Nat} {st : List (By × Nat)} (h : incr (x :: st)) : incr st := by
 cases st with
 | nil => trivial
 | cons y st => exact h.2
theorem Stk.pow {x : By × Nat} {st : List (By × Nat)} {l : List By} (h : Stk S (x :: st) l) : ∃ a, x.2 = 2 ^ a := by
 obtain ⟨_, _, _, _, hp, _⟩ := h; exact hp
theorem Stk.push {st : List (By × Nat)} {l : List By} (h : Stk S st l) (hi : incr st) (e : By) : Stk S ((leafH S e, 1) :: st) (l ++ [e]) ∧ incrW ((leafH S e, 1) :: st) := by
 refine ⟨⟨l, [e], rfl, rfl, ⟨0, rfl⟩, (mO S e).symm, h⟩, ?_⟩
 cases st with
 | nil => trivial
 | cons y st =>
  obtain ⟨a, ha⟩ := Stk.pow S h
  exact ⟨by show 1 ≤ y.2; rw [ha]; exact Nat.pow_pos de, hi⟩
theorem Stk.merge {r1 r2 : By} {s : Nat} {st : List (By × Nat)} {l : List By} (h : Stk S ((r2, s) :: (r1, s) :: st) l) (hi : incrW ((r2, s) :: (r1, s) :: st)) :
  Stk S ((nodeH S r1 r2, 2 * s) :: st) l ∧ incrW ((nodeH S r1 r2, 2 * s) :: st) := by
 obtain ⟨l1, c, rfl, hc, ⟨a, ha⟩, hr, l2, d, rfl, hd, hp, hq, Y⟩ := h
 simp only at hc hd ha hp hr hq
 subst hr hq
 have h0 : 0 < s := by rw [ha]; exact Nat.pow_pos de
 refine ⟨⟨l2, d ++ c, by rw [List.append_assoc], by show (d ++ c).length = 2 * s; rw [List.length_append]; omega, ⟨a + 1, by show 2 * s = 2 ^ (a + 1); rw [ha, Nat.pow_succ, Nat.mul_comm]⟩, (gm S (hd.trans ha) om om).symm, Y⟩, ?_⟩
 cases st with
 | nil => trivial
 | cons y st =>
  have h1 : s < y.2 := hi.2.1
  exact ⟨gg ⟨a, ha⟩ (Stk.pow S Y) h1, hi.2.2⟩
theorem incrW.strict {st : List (By × Nat)} (h : incrW st) (hn : ∀ x y t, st = x :: y :: t → x.2 ≠ y.2) : incr st := by
 match st, h with
 | [], _ => trivial
 | [_], _ => trivial
 | x :: y :: t, h => exact ⟨Nat.lt_of_le_of_ne h.1 (hn x y t rfl), h.2⟩
theorem ig : ∀ (st : List (By × Nat)) (l1 d : List By), Stk S st l1 → incr st → 0 < d.length → (∀ y t, st = y :: t → d.length ≤ y.2) → st.foldl (fun o x => nodeH S x.1 o) (rootH S d) = rootH S (l1 ++ d)
 | [], l1, d, h, _, _, _ => by
  obtain rfl : l1 = [] := h
  rfl
 | x :: st, l1, d, h, hi, h0, hd => by
  obtain ⟨l2, c, rfl, hc, ⟨a, ha⟩, hr, Y⟩ := h
  have hle := hd x st rfl
  rw [List.foldl_cons, hr, ← gm S (hc.trans ha) h0 om, ig st l2 (c ++ d) Y hi.tail (by rw [List.length_append]; omega) (fun y t e => ?_), List.append_assoc]
  subst e
  have := gg ⟨a, ha⟩ (Stk.pow S Y) hi.1
  rw [List.length_append]; omega
theorem kY {x : By × Nat} {st : List (By × Nat)} {l : List By} (h : Stk S (x :: st) l) (hi : incr (x :: st)) : st.foldl (fun o y => nodeH S y.1 o) x.1 = rootH S l := by
 obtain ⟨l1, c, rfl, hc, ⟨a, ha⟩, hr, Y⟩ := h
 rw [hr]
 refine ig S st l1 c Y hi.tail (by rw [hc, ha]; exact Nat.pow_pos de) fun y t e => ?_
 subst e
 have := hi.1
 omega
end
end Go.Proofs.YtddfkkdanpmnaaaGreatDoor
namespace Go.Proofs.YtddfkkdanpmnaaaGreatDoor
def zz (n : Int) : Nat := if n < 0 then 2 * (-n).toNat - 1 else 2 * n.toNat
def vb : Nat → Nat → By
 | 0, z => [UInt8.ofNat z]
 | f + 1, z => if z < 128 then [UInt8.ofNat z] else UInt8.ofNat (z % 128 + 128) :: vb f (z / 128)
def putI (n : Int) : By := vb 8 (zz n)
def puts (l : List Int) : By := l.flatMap putI
theorem qm {m n : Int} (h : zz m = zz n) : m = n := by
 unfold zz at h; split at h <;> split at h <;> omega
theorem jY {n : Int} (h1 : -4611686018427387903 ≤ n) (h2 : n ≤ 4611686018427387903) : zz n < 9223372036854775808 := by
 unfold zz; split <;> omega
theorem bJ {a : Nat} (h : a < 256) : (UInt8.ofNat a).toNat = a := by simp; omega
theorem n8 : ∀ (f y z : Nat) (a b : By), y < 128 ^ (f + 1) → z < 128 ^ (f + 1) → vb f y ++ a = vb f z ++ b → y = z ∧ a = b
 | 0, y, z, a, b, hy, hz, h => by
  simp only [vb, List.cons_append, List.nil_append] at h
  injection h with h1 h2
  have := congrArg UInt8.toNat h1
  rw [bJ om, bJ om] at this
  exact ⟨this, h2⟩
 | f + 1, y, z, a, b, hy, hz, h => by
  rw [Nat.pow_succ] at hy hz
  have hy2 : y / 128 < 128 ^ (f + 1) := Nat.div_lt_of_lt_mul (by rw [Nat.mul_comm]; exact hy)
  have hz2 : z / 128 < 128 ^ (f + 1) := Nat.div_lt_of_lt_mul (by rw [Nat.mul_comm]; exact hz)
  unfold vb at h
  by_cases h1 : y < 128
  ·by_cases h2 : z < 128
   ·rw [if_pos h1, if_pos h2] at h
    simp only [List.cons_append, List.nil_append] at h
    injection h with h3 h4
    have := congrArg UInt8.toNat h3
    rw [bJ om, bJ om] at this
    exact ⟨this, h4⟩
   ·rw [if_pos h1, if_neg h2] at h
    simp only [List.cons_append, List.nil_append] at h
    injection h with h3 h4
    have := congrArg UInt8.toNat h3
    rw [bJ om, bJ om] at this
    omega
  ·by_cases h2 : z < 128
   ·rw [if_neg h1, if_pos h2] at h
    simp only [List.cons_append, List.nil_append] at h
    injection h with h3 h4
    have := congrArg UInt8.toNat h3
    rw [bJ om, bJ om] at this
    omega
   ·rw [if_neg h1, if_neg h2] at h
    simp only [List.cons_append] at h
    injection h with h3 h4
    have h5 := congrArg UInt8.toNat h3
    rw [bJ om, bJ om] at h5
    obtain ⟨h6, h7⟩ := n8 f _ _ _ _ hy2 hz2 h4
    exact ⟨by omega, h7⟩
def small (n : Int) : Prop := -4611686018427387903 ≤ n ∧ n ≤ 4611686018427387903
theorem mY {m n : Int} {a b : By} (hm : small m) (hn : small n) (h : putI m ++ a = putI n ++ b) : m = n ∧ a = b := by
 have e : (128 : Nat) ^ 9 = 9223372036854775808 := by decide
 obtain ⟨h1, h2⟩ := n8 8 _ _ _ _ (by rw [e]; exact jY hm.1 hm.2) (by rw [e]; exact jY hn.1 hn.2) h
 exact ⟨qm h1, h2⟩
theorem jN : ∀ {k l : List Int} {a b : By}, k.length = l.length → (∀ n ∈ k, small n) → (∀ n ∈ l, small n) → puts k ++ a = puts l ++ b → k = l ∧ a = b
 | [], [], a, b, _, _, _, h => ⟨rfl, by simpa [puts] using h⟩
 | m :: k, n :: l, a, b, hl, hk, hl2, h => by
  simp only [puts, List.flatMap_cons, List.append_assoc] at h
  obtain ⟨h1, h2⟩ := mY (hk m sm) (hl2 n sm) h
  obtain ⟨h3, h4⟩ := jN (k := k) (l := l) (by simpa using hl) (fun x hx => hk x (by simp [hx])) (fun x hx => hl2 x (by simp [hx])) h2
  exact ⟨by rw [h1, h3], h4⟩
theorem nN : ∀ (f z : Nat), 1 ≤ (vb f z).length ∧ (vb f z).length ≤ f + 1
 | 0, z => ⟨Nat.le_refl _, Nat.le_refl _⟩
 | f + 1, z => by
  unfold vb
  split
  ·simp
  ·have := nN f (z / 128)
   simp; omega
theorem bI (n : Int) : 1 ≤ (putI n).length ∧ (putI n).length ≤ 9 := nN 8 _
theorem gu (l : List Int) : (puts l).length ≤ 9 * l.length := by
 induction l with
 | nil => simp [puts]
 | cons n l ih =>
  have := (bI n).2
  simp only [puts, List.flatMap_cons, List.length_append, List.length_cons] at *
  omega
theorem mP (l : List Int) (n : Int) : puts (l ++ [n]) = puts l ++ putI n := by simp [puts]
end Go.Proofs.YtddfkkdanpmnaaaGreatDoor
namespace Go.Proofs.YtddfkkdanpmnaaaGreatDoor
structure Wsh where
 signer : Int
 holder : Int
 rf : Int
 rt : Int
 carrier : Int
 serial : Int
 sf : Int
 st : Int
 sig : By
 deriving DecidableEq
structure Pxy where
 frm : Int
 to : Int
 rf : Int
 rt : Int
 sf : Int
 st : Int
 sig : By
 deriving DecidableEq
def inB (n lo hi : Int) : Bool := decide (lo ≤ n) && decide (n ≤ hi)
def jS (a b : Int) : Bool := decide (0 ≤ a) && decide (a < b) && decide (b ≤ 100000000)
def ke (a b : Int) : Bool := decide (0 ≤ a) && decide (a < b) && decide (b ≤ 10000001)
def Wsh.ok (w : Wsh) : Bool := (inB w.signer 0 63 && inB w.holder 0 63) && jS w.rf w.rt && inB w.carrier 0 7 && inB w.serial 0 1000000 && ke w.sf w.st
def Pxy.ok (p : Pxy) : Bool := (inB p.frm 0 63 && inB p.to 0 63 && !decide (p.frm = p.to)) && jS p.rf p.rt && ke p.sf p.st
def Wsh.content (w : Wsh) : By := puts [1, w.signer, w.holder, w.rf, w.rt, w.carrier, w.serial, w.sf, w.st]
def Pxy.content (p : Pxy) : By := puts [2, p.frm, p.to, p.rf, p.rt, p.sf, p.st]
end Go.Proofs.YtddfkkdanpmnaaaGreatDoor
namespace Go.Proofs.YtddfkkdanpmnaaaGreatDoor
def pickI (c n : Int) : Int := (if c < 0 then -(c + 1) else c) % n
theorem bF (c : Int) {n : Int} (h : 0 < n) : 0 ≤ pickI c n ∧ pickI c n < n := ⟨Int.emod_nonneg _ om, Int.emod_lt_of_pos _ h⟩
structure Cin where
 y0 : Int
 y1 : Int
 y2 : Int
 y3 : Int
 y4 : Int
structure Left where
 who : Int
 rf : Int
 rt : Int
 sf : Int
 st : Int
def Left.ok (o : Left) : Prop := 0 ≤ o.who ∧ o.who < 10 ∧ 0 ≤ o.rf ∧ o.rf < o.rt ∧ o.rt ≤ 11000 ∧ 0 ≤ o.sf ∧ o.sf < o.st ∧ o.st ≤ 11000
def Left.next (o : Left) (y : Cin) : Left :=
 ⟨(o.who + 1 + pickI y.y0 9) % 10, o.rf + pickI y.y1 (o.rt - o.rf), o.rt - pickI y.y2 (o.rt - (o.rf + pickI y.y1 (o.rt - o.rf))), o.sf + pickI y.y3 (o.st - o.sf), o.st - pickI y.y4 (o.st - (o.sf + pickI y.y3 (o.st - o.sf)))⟩
end Go.Proofs.YtddfkkdanpmnaaaGreatDoor
namespace Go.Proofs.YtddfkkdanpmnaaaGreatDoor
def gv : By → Nat
 | [] => 0
 | b :: l => b.toNat % 128 + 128 * gv l
def uz (z : Nat) : Int := if z % 2 = 0 then ((z / 2 : Nat) : Int) else -((z / 2 : Nat) : Int) - 1
theorem uz_zz (n : Int) : uz (zz n) = n := by
 unfold uz zz
 split <;> split <;> omega
theorem zz_uz (z : Nat) : zz (uz z) = z := by
 unfold uz zz
 split <;> split <;> omega
def rdG : Nat → By → Option (By × By)
 | 0, _ => none
 | _ + 1, [] => none
 | f + 1, b :: s => if b.toNat < 128 then some ([b], s) else (rdG f s).map fun p => (b :: p.1, p.2)
def rdI (s : By) : Option (Int × By) :=
 match rdG 9 s with
 | none => none
 | some (l, r) => if vb 8 (gv l) = l ∧ -4611686018427387903 ≤ uz (gv l) then some (uz (gv l), r) else none
theorem pR : ∀ l : By, gv l < 128 ^ l.length
 | [] => by simp [gv]
 | b :: l => by
  have h := pR l
  have := Nat.mod_lt b.toNat (y := 128) de
  rw [gv, List.length_cons, Nat.pow_succ]
  omega
theorem pU : ∀ (f z : Nat), z < 128 ^ (f + 1) → gv (vb f z) = z
 | 0, z, h => by
  have h : z < 128 := by simpa using h
  rw [vb, gv, bJ om, gv]; omega
 | f + 1, z, h => by
  unfold vb
  split
  ·rw [gv, bJ om, gv]; omega
  ·rw [gv, bJ om, pU f _ (by rw [Nat.pow_succ] at h; exact Nat.div_lt_of_lt_mul (by rw [Nat.mul_comm]; exact h))]
   omega
theorem nd : ∀ (f z : Nat) (r : By), z < 128 ^ (f + 1) → rdG (f + 1) (vb f z ++ r) = some (vb f z, r)
 | 0, z, r, h => by
  have h : z < 128 := by simpa using h
  rw [vb, List.cons_append, List.nil_append, rdG, bJ om, if_pos h]
 | f + 1, z, r, h => by
  unfold vb
  split
  ·rw [List.cons_append, List.nil_append, rdG, bJ om, if_pos (by assumption)]
  ·rw [List.cons_append, rdG, bJ om, if_neg om, nd f _ r (by rw [Nat.pow_succ] at h; exact Nat.div_lt_of_lt_mul (by rw [Nat.mul_comm]; exact h))]
   rfl
theorem gA : ∀ {f : Nat} {s l r : By}, rdG f s = some (l, r) → s = l ++ r ∧ l.length ≤ f
 | 0, s, l, r, h => by cases h
 | f + 1, [], l, r, h => by cases h
 | f + 1, b :: s, l, r, h => by
  rw [rdG] at h
  split at h
  ·cases h; exact ⟨rfl, by simp⟩
  ·cases hq : rdG f s with
   | none => rw [hq] at h; cases h
   | some p =>
    rw [hq] at h
    obtain ⟨l1, r1⟩ := p
    cases h
    obtain ⟨h1, h2⟩ := gA hq
    exact ⟨by rw [h1]; rfl, by simp; omega⟩
theorem pow128 : (128 : Nat) ^ 9 = 9223372036854775808 := by decide
theorem pC {n : Int} (h : small n) (r : By) : rdI (putI n ++ r) = some (n, r) := by
 have hz := jY h.1 h.2
 unfold rdI putI
 rw [nd 8 _ r (by rw [pow128]; exact hz)]
 simp only
 rw [pU 8 _ (by rw [pow128]; exact hz), uz_zz, if_pos ⟨rfl, h.1⟩]
theorem jz {s r : By} {n : Int} (h : rdI s = some (n, r)) : small n ∧ s = putI n ++ r := by
 unfold rdI at h
 split at h
 ·cases h
 ·rename_i l r1 hq
  split at h
  ·rename_i hc
   cases h
   obtain ⟨h1, h2⟩ := gA hq
   refine ⟨⟨hc.2, ?_⟩, ?_⟩
   ·have h3 := pR l
    have h4 : (128 : Nat) ^ l.length ≤ 128 ^ 9 := Nat.pow_le_pow_right de h2
    rw [pow128] at h4
    unfold uz
    split <;> omega
   ·rw [h1]; unfold putI; rw [zz_uz, hc.1]
  ·cases h
theorem canon : ∀ (f : Nat) (l : By) (b : UInt8), l.length ≤ f → (∀ c ∈ l, 128 ≤ c.toNat) → b.toNat < 128 → (vb f (gv (l ++ [b])) = l ++ [b] ↔ (l = [] ∨ b ≠ 0))
 | f, [], b, hl, hc, hb => by
  have e : gv ([] ++ [b]) = b.toNat := by simp [gv]; omega
  rw [e]
  have h2 : UInt8.ofNat b.toNat = b := by simp
  cases f with
  | zero => simp [vb]
  | succ f => rw [vb, if_pos hb]; simp
 | 0, c :: l, b, hl, hc, hb => by simp at hl
 | f + 1, c :: l, b, hl, hc, hb => by
  have hcc := hc c sm
  have hc2 : c.toNat < 256 := c.toNat_lt
  have ih := canon f l b (by simpa using hl) (fun c h => hc c (by simp [h])) hb
  have e : gv (c :: l ++ [b]) = c.toNat % 128 + 128 * gv (l ++ [b]) := rfl
  have hcb : UInt8.ofNat (c.toNat % 128 + 128) = c := by
   rw [show c.toNat % 128 + 128 = c.toNat from by omega]; simp
  constructor
  ·intro h
   right
   intro hb0
   rw [e, vb] at h
   split at h
   ·have := congrArg List.length h
    simp at this
   ·rename_i h128
    rw [List.cons_append] at h
    injection h with h1 h2
    rw [show (c.toNat % 128 + 128 * gv (l ++ [b])) / 128 = gv (l ++ [b]) from by omega] at h2
    rcases ih.1 h2 with rfl | h3
    ·subst hb0
     simp [gv] at h128; omega
    ·exact h3 hb0
  ·intro h
   have hb0 : b ≠ 0 := h.resolve_left sm
   have hpos : ∀ l : By, 0 < gv (l ++ [b]) := by
    intro l
    induction l with
    | nil =>
     have : b.toNat ≠ 0 := fun h0 => hb0 (UInt8.toNat_inj.1 (by rw [h0]; rfl))
     simp [gv]; omega
    | cons d l ih => rw [List.cons_append, gv]; omega
   have hp := hpos l
   rw [e, vb, if_neg om, show (c.toNat % 128 + 128 * gv (l ++ [b])) / 128 = gv (l ++ [b]) from by omega, show (c.toNat % 128 + 128 * gv (l ++ [b])) % 128 = c.toNat % 128 from by omega, hcb, ih.2 (.inr hb0)]
   rfl
theorem iQ : ∀ (l : By) (b : UInt8), gv (l ++ [b]) = gv l + b.toNat % 128 * 128 ^ l.length
 | [], b => by simp [gv]
 | c :: l, b => by
  rw [List.cons_append, gv, iQ l b, gv, List.length_cons, Nat.pow_succ, Nat.mul_add, Nat.add_assoc]
  congr 1
  congr 1
  rw [Nat.mul_comm, Nat.mul_assoc]
def wI : Nat → Nat → Nat → By → Option (Int × Nat)
 | 0, _, _, _ => none
 | _ + 1, _, _, [] => none
 | f + 1, i, z, b :: s =>
  if b.toNat < 128 then (if (b = 0 ∧ 0 < i) ∨ uz (z + b.toNat % 128 * 128 ^ i) < -4611686018427387903 then none else some (uz (z + b.toNat % 128 * 128 ^ i), i + 1))
  else wI f (i + 1) (z + b.toNat % 128 * 128 ^ i) s
theorem oK : ∀ (f : Nat) (l s : By), f + l.length = 9 → (∀ c ∈ l, 128 ≤ c.toNat) →
  wI f l.length (gv l) s = match rdG f s with
   | none => none
   | some (m, r) => if vb 8 (gv (l ++ m)) = l ++ m ∧ -4611686018427387903 ≤ uz (gv (l ++ m)) then some (uz (gv (l ++ m)), (l ++ m).length) else none
 | 0, l, s, hf, hl => rfl
 | f + 1, l, [], hf, hl => rfl
 | f + 1, l, b :: s, hf, hl => by
  rw [wI, rdG]
  by_cases hb : b.toNat < 128
  ·rw [if_pos hb, if_pos hb]
   simp only
   rw [← iQ]
   have hc := canon 8 l b om hl hb
   have h0 : 0 < l.length ↔ l ≠ [] := by rw [List.length_pos_iff]
   by_cases h1 : vb 8 (gv (l ++ [b])) = l ++ [b]
   ·have h2 := hc.1 h1
    by_cases h3 : uz (gv (l ++ [b])) < -4611686018427387903
    ·rw [if_pos (.inr h3), if_neg om]
    ·rw [if_neg, if_pos ⟨h1, by omega⟩]
     ·simp
     ·rintro (⟨h4, h5⟩ | h4)
      ·rcases h2 with h2 | h2
       ·exact (h0.1 h5) h2
       ·exact h2 h4
      ·exact h3 h4
   ·have h2 : ¬ (l = [] ∨ b ≠ 0) := fun h => h1 (hc.2 h)
    rw [if_pos, if_neg (fun h => h1 h.1)]
    refine .inl ⟨?_, ?_⟩
    ·exact Classical.byContradiction fun h => h2 (.inr h)
    ·exact h0.2 fun h => h2 (.inl h)
  ·rw [if_neg hb, if_neg hb, ← iQ]
   have := oK f (l ++ [b]) s (by simp; omega) (by
    intro c h
    rcases List.mem_append.1 h with h | h
    ·exact hl c h
    ·rw [List.mem_singleton.1 h]; omega)
   rw [List.length_append, List.length_cons, List.length_nil] at this
   rw [this]
   cases hq : rdG f s with
   | none => rfl
   | some p => simp [List.append_assoc]
theorem nJ (s : By) : wI 9 0 0 s = (rdI s).map fun p => (p.1, s.length - p.2.length) := by
 have h := oK 9 [] s rfl sm
 rw [show gv [] = 0 from rfl, show ([] : By).length = 0 from rfl] at h
 rw [h]
 unfold rdI
 cases hq : rdG 9 s with
 | none => rfl
 | some p =>
  obtain ⟨m, r⟩ := p
  obtain ⟨h1, h2⟩ := gA hq
  simp only [List.nil_append]
  split
  ·rw [h1]; simp
  ·rfl
section
variable {α : Type}
def Pxy.text (p : Pxy) : By := p.content ++ p.sig
def Wsh.text (w : Wsh) : By := w.content ++ w.sig
end
end Go.Proofs.YtddfkkdanpmnaaaGreatDoor
namespace Go.Proofs.YtddfkkdanpmnaaaGreatDoor
def intsR : Nat → By → Option (List Int × By)
 | 0, s => some ([], s)
 | m + 1, s => match rdI s with
  | none => none
  | some (n, r) => (intsR m r).map fun p => (n :: p.1, p.2)
theorem n7 {m : Nat} {s r : By} {n : Int} (h : rdI s = some (n, r)) : intsR (m + 1) s = (intsR m r).map fun p => (n :: p.1, p.2) := by rw [intsR, h]
theorem lT {m : Nat} {s : By} (h : rdI s = none) : intsR (m + 1) s = none := by rw [intsR, h]
def rdS (s : By) : Option (By × By) := match rdI s with
 | none => none
 | some (n, r) => if 0 ≤ n ∧ n ≤ 65536 ∧ n ≤ (r.length : Int) then some (r.take n.toNat, r.drop n.toNat) else none
def putS (s : By) : By := putI (s.length : Int) ++ s
theorem lz {s : By} (h : s.length ≤ 65536) (r : By) : rdS (putS s ++ r) = some (s, r) := by
 unfold rdS putS
 rw [List.append_assoc, pC (by unfold small; omega)]
 simp only
 rw [if_pos (by rw [List.length_append]; omega), Int.toNat_natCast, List.take_left, List.drop_left]
theorem nH {s t a b : By} (hs : s.length ≤ 65536) (ht : t.length ≤ 65536) (h : putS s ++ a = putS t ++ b) : s = t ∧ a = b := by
 have h1 := lz hs a
 rw [h, lz ht b] at h1
 simp only [Option.some.injEq, Prod.mk.injEq] at h1
 exact ⟨h1.1.symm, h1.2.symm⟩
end Go.Proofs.YtddfkkdanpmnaaaGreatDoor
namespace Go.Proofs.YtddfkkdanpmnaaaGreatDoor
structure Rec where
 t : Int
 kind : Int
 a : Int
 b : Int
 text : By
 deriving DecidableEq
def Rec.z : Rec := ⟨0, 0, 0, 0, []⟩
def Rec.ok (x : Rec) : Bool := inB x.t 0 10000000 && inB x.kind 1 20 && inB x.a (-1) 99999999 && inB x.b (-1) 99999999 && decide (x.text.length ≤ 200)
def Rec.enc (x : Rec) : By := puts [x.t, x.kind, x.a, x.b] ++ putS x.text
def recN (l : List Int) (s : By) : Rec := ⟨l.getD 0 0, l.getD 1 0, l.getD 2 0, l.getD 3 0, s⟩
def shutR (l : List Int) (x q : By) : Option Rec := if q = [] ∧ (recN l x).ok = true then some (recN l x) else none
def tailR (l : List Int) (r : By) : Option Rec := match rdS r with
 | none => none
 | some (x, q) => shutR l x q
def decRec (s : By) : Option Rec := match intsR 4 s with
 | none => none
 | some (l, r) => tailR l r
theorem Rec.smalls {x : Rec} (h : x.ok = true) : ∀ n ∈ ([x.t, x.kind, x.a, x.b] : List Int), small n := by
 simp only [Rec.ok, inB, Bool.and_eq_true, decide_eq_true_eq] at h
 intro n hn
 simp only [List.mem_cons, List.not_mem_nil, or_false] at hn
 unfold small
 rcases hn with rfl | rfl | rfl | rfl <;> omega
theorem Rec.len {x : Rec} (h : x.ok = true) : x.text.length ≤ 200 := by
 simp only [Rec.ok, inB, Bool.and_eq_true, decide_eq_true_eq] at h; omega
theorem ph {x y : Rec} {u v : By} (hx : x.ok = true) (hy : y.ok = true) (h : x.enc ++ u = y.enc ++ v) : x = y ∧ u = v := by
 unfold Rec.enc at h
 rw [List.append_assoc, List.append_assoc] at h
 obtain ⟨h1, h2⟩ := jN (k := [x.t, x.kind, x.a, x.b]) (l := [y.t, y.kind, y.a, y.b]) rfl (Rec.smalls hx) (Rec.smalls hy) h
 have l1 := Rec.len hx
 have l2 := Rec.len hy
 obtain ⟨h3, h4⟩ := nH om om h2
 refine ⟨?_, h4⟩
 cases x; cases y
 simp only [List.cons.injEq, and_true] at h1
 obtain ⟨rfl, rfl, rfl, rfl⟩ := h1
 simp only at h3
 subst h3; rfl
theorem Rec.enc_len (x : Rec) : x.enc.length ≤ 45 + x.text.length ∧ 5 ≤ x.enc.length := by
 have h1 := bI x.t
 have h2 := bI x.kind
 have h3 := bI x.a
 have h4 := bI x.b
 have h5 := bI (x.text.length : Int)
 simp only [Rec.enc, puts, putS, List.flatMap_cons, List.flatMap_nil, List.length_append, List.length_nil]
 omega
def aQ : Int → List Rec → Bool
 | _, [] => true
 | t, x :: l => x.ok && decide (t ≤ x.t) && aQ x.t l
def logOk (o : Int) (l : List Rec) : Bool := aQ 0 l && inB o 0 99 && decide (l.length ≤ 60)
def findF (f : Rec → Bool) (l : List Rec) : Nat → Int
 | 0 => -1
 | k + 1 => if f (l.getD k Rec.z) = true then (k : Int) else findF f l k
def hitR (kind t : Int) (x : Rec) : Bool := decide (x.kind = kind) && decide (x.t ≤ t)
def findH (o : Int) (l : List Rec) (kind t : Int) : Int := if logOk o l = true then findF (hitR kind t) l l.length else -1
theorem fJ : ∀ {l : List Rec} {t : Int} (k : Nat), aQ t l = true → aQ t (l.take k) = true
 | [], t, k, h => by simp [aQ]
 | y :: l, t, 0, h => rfl
 | y :: l, t, k + 1, h => by
  rw [aQ, Bool.and_eq_true] at h
  rw [List.take_succ_cons, aQ, Bool.and_eq_true]
  exact ⟨h.1, fJ k h.2⟩
theorem gJ : ∀ {l : List Rec} {t : Int}, aQ t l = true → ∀ x ∈ l, x.ok = true
 | [], t, h => by simp
 | y :: l, t, h => by
  rw [aQ, Bool.and_eq_true, Bool.and_eq_true] at h
  intro x hx
  rcases List.mem_cons.1 hx with rfl | hx
  ·exact h.1.1
  ·exact gJ h.2 x hx
theorem bL {o : Int} {l : List Rec} (h : logOk o l = true) : ∀ x ∈ l, x.ok = true := by
 rw [logOk, Bool.and_eq_true, Bool.and_eq_true] at h; exact gJ h.1.1
theorem co {o : Int} {l : List Rec} (h : logOk o l = true) : l.length ≤ 60 := by
 rw [logOk, Bool.and_eq_true, decide_eq_true_eq] at h; exact h.2
theorem hO {o : Int} {l : List Rec} (h : logOk o l = true) : 0 ≤ o ∧ o ≤ 99 := by
 simp only [logOk, inB, Bool.and_eq_true, decide_eq_true_eq] at h; exact h.1.2
def codesR (l : List Rec) : List By := l.map Rec.enc
def textR (n : Int) : Nat → By
 | 0 => []
 | k + 1 => textR n k ++ [UInt8.ofNat (pickI (n.tdiv (4 + (k : Int))) 256).toNat]
def entR (t x0 x1 x2 x3 : Int) : Rec := ⟨pickI t 10000001, 1 + pickI x0 3, pickI x1 200 - 1, pickI x2 200 - 1, textR x3 (pickI x3 4).toNat⟩
theorem fq (n : Int) : ∀ k, (textR n k).length = k
 | 0 => rfl
 | k + 1 => by rw [textR, List.length_append, fq]; rfl
theorem o3 (t x0 x1 x2 x3 : Int) : (entR t x0 x1 x2 x3).ok = true := by
 have h0 := bF t (n := 10000001) om
 have h1 := bF x0 (n := 3) om
 have h2 := bF x1 (n := 200) om
 have h3 := bF x2 (n := 200) om
 have h4 := bF x3 (n := 4) om
 have h5 := fq x3 (pickI x3 4).toNat
 unfold entR
 simp only [Rec.ok, inB, Bool.and_eq_true, decide_eq_true_eq]
 refine ⟨⟨⟨⟨⟨?_, ?_⟩, ?_, ?_⟩, ?_, ?_⟩, ?_, ?_⟩, ?_⟩
 all_goals omega
structure Rin where
 x0 : Int
 x1 : Int
 x2 : Int
 x3 : Int
 x4 : Int
def recsR : Int → List Rin → List Rec
 | _, [] => []
 | t, y :: l => entR (t + pickI y.x0 30) y.x1 y.x2 y.x3 y.x4 :: recsR (t + pickI y.x0 30) l
def madeR (l : List Rin) : List Rec := recsR 0 (l.take 12)
theorem ej : ∀ (t : Int) (l : List Rin), (recsR t l).length = l.length
 | _, [] => rfl
 | t, y :: l => by rw [recsR, List.length_cons, List.length_cons, ej]
theorem eP : ∀ {l : List Rin} {t : Int}, 0 ≤ t → t + 30 * l.length ≤ 10000000 → aQ t (recsR t l) = true
 | [], t, h, hb => rfl
 | y :: l, t, h, hb => by
  have h0 := bF y.x0 (n := 30) om
  rw [List.length_cons] at hb
  have e : (entR (t + pickI y.x0 30) y.x1 y.x2 y.x3 y.x4).t = t + pickI y.x0 30 := by
   show pickI (t + pickI y.x0 30) 10000001 = _
   generalize pickI y.x0 30 = z at *
   unfold pickI
   rw [if_neg om]
   exact Int.emod_eq_of_lt om om
  rw [recsR, aQ, o3, e, decide_eq_true (by omega : t ≤ t + pickI y.x0 30), eP om om]
  rfl
theorem g8 (l : List Rin) : (madeR l).length = min 12 l.length := by rw [madeR, ej, List.length_take]
theorem nY (o : Int) (l : List Rin) : logOk (pickI o 100) (madeR l) = true := by
 have h := bF o (n := 100) om
 have h2 := g8 l
 rw [logOk, madeR, eP (Int.le_refl 0) (by rw [List.length_take]; omega)]
 rw [show recsR 0 (l.take 12) = madeR l from rfl]
 simp only [inB, Bool.true_and, Bool.and_eq_true, decide_eq_true_eq]
 omega
end Go.Proofs.YtddfkkdanpmnaaaGreatDoor
namespace Go.Proofs.YtddfkkdanpmnaaaGreatDoor
set_option linter.unusedSectionVars false
section
variable (S : By → By)
def hashF : Nat → List By → List By
 | 0, _ => [[]]
 | f + 1, l => match l with
  | [] => [[]]
  | [s] => [0 :: s]
  | _ => hashF f (l.take (lft l.length)) ++ hashF f (l.drop (lft l.length)) ++ [1 :: (rootH S (l.take (lft l.length)) ++ rootH S (l.drop (lft l.length)))]
def hashL (l : List By) : List By := hashF S l.length l
theorem jX : ∀ (f g : Nat) (l : List By), l.length ≤ f → l.length ≤ g → hashF S f l = hashF S g l := by
 intro f
 induction f with
 | zero =>
  intro g l h _
  obtain rfl : l = [] := List.eq_nil_of_length_eq_zero om
  cases g <;> rfl
 | succ f ih =>
  intro g l h hg
  match l, g with
  | [], 0 => rfl
  | [], g + 1 => rfl
  | [s], g + 1 => rfl
  | a :: b :: l, g + 1 =>
   have h1 := bG (n := (a :: b :: l).length) sm
   have h2 := bB (a :: b :: l).length
   simp only [hashF]
   rw [ih g _ (by rw [List.length_take]; omega) (by rw [List.length_take]; omega), ih g _ (by rw [List.length_drop]; omega) (by rw [List.length_drop]; omega)]
theorem ie : hashL S [] = [[]] := rfl
theorem ep (s : By) : hashL S [s] = [0 :: s] := rfl
theorem dC {l : List By} (h : 2 ≤ l.length) : hashL S l = hashL S (l.take (lft l.length)) ++ hashL S (l.drop (lft l.length)) ++ [1 :: (rootH S (l.take (lft l.length)) ++ rootH S (l.drop (lft l.length)))] := by
 match l, h with
 | a :: b :: l, _ =>
  have h1 := bG (n := (a :: b :: l).length) sm
  have h2 := bB (a :: b :: l).length
  have e : hashL S (a :: b :: l) = hashF S (l.length + 1) ((a :: b :: l).take (lft (a :: b :: l).length)) ++ hashF S (l.length + 1) ((a :: b :: l).drop (lft (a :: b :: l).length)) ++ [1 :: (rootH S ((a :: b :: l).take (lft (a :: b :: l).length)) ++ rootH S ((a :: b :: l).drop (lft (a :: b :: l).length)))] := rfl
  rw [e]
  have h3 : (a :: b :: l).length = l.length + 2 := rfl
  rw [jX S (l.length + 1) _ ((a :: b :: l).take (lft (a :: b :: l).length)) (by rw [List.length_take]; omega) (Nat.le_refl _), jX S (l.length + 1) _ ((a :: b :: l).drop (lft (a :: b :: l).length)) (by rw [List.length_drop]; omega) (Nat.le_refl _)]
  rfl
def Two (a b : List By) : Prop := ∃ x ∈ a, ∃ y ∈ b, x ≠ y ∧ S x = S y
variable {S}
theorem Two.mono {a b c d : List By} (h : Two S a b) (h1 : ∀ x ∈ a, x ∈ c) (h2 : ∀ x ∈ b, x ∈ d) : Two S c d := let ⟨x, hx, y, hy, e⟩ := h; ⟨x, h1 x hx, y, h2 y hy, e⟩
theorem jC {a b : List By} (h : Coll S a b) : Two S a b := let ⟨i, x, y, h1, h2, h3, h4⟩ := h; ⟨x, List.mem_of_getElem? h1, y, List.mem_of_getElem? h2, h3, h4⟩
variable (hS : ∀ s, (S s).length = 32)
include hS
theorem ml : ∀ (n : Nat) (l m : List By), l.length = n → m.length = n → rootH S l = rootH S m → l ≠ m → Two S (hashL S l) (hashL S m) := by
 intro n
 induction n using Nat.strongRecOn with
 | _ n ih =>
  intro l m hl hm he hne
  match l, m with
  | [], [] => exact absurd rfl hne
  | [], b :: m => rw [← hl] at hm; cases hm
  | a :: l, [] => rw [← hm] at hl; cases hl
  | [a], [b] => exact ⟨0 :: a, by simp [ep], 0 :: b, by simp [ep], fun e => hne (by rw [(List.cons.inj e).2]), he⟩
  | [a], b :: c :: m => simp at hl hm; omega
  | a :: b :: l, [c] => simp at hl hm; omega
  | a1 :: b1 :: l1, a2 :: b2 :: l2 =>
   generalize hl' : a1 :: b1 :: l1 = l at *
   generalize hm' : a2 :: b2 :: l2 = m at *
   have hl2 : 2 ≤ l.length := by rw [← hl']; simp
   subst hl
   have hm2 : 2 ≤ m.length := by omega
   rw [ch S hl2, ch S hm2, hm] at he
   rw [dC S hl2, dC S hm2, hm]
   have h1 := bG hl2
   have h2 := bB l.length
   by_cases hx : (1 :: (rootH S (l.take (lft l.length)) ++ rootH S (l.drop (lft l.length))) : By) = 1 :: (rootH S (m.take (lft l.length)) ++ rootH S (m.drop (lft l.length)))
   ·obtain ⟨e1, e2⟩ := List.append_inj (List.cons.inj hx).2 (by rw [bc hS, bc hS])
    by_cases ht : l.take (lft l.length) = m.take (lft l.length)
    ·have hd : l.drop (lft l.length) ≠ m.drop (lft l.length) := fun hd => hne (by rw [← List.take_append_drop (lft l.length) l, ht, hd, List.take_append_drop])
     refine (ih (l.length - lft l.length) om _ _ (by rw [List.length_drop]) (by rw [List.length_drop, hm]) e2 hd).mono (fun x hx => ?_) fun x hx => ?_ <;> simp [hx]
    ·refine (ih (lft l.length) om _ _ (by rw [List.length_take]; omega) (by rw [List.length_take]; omega) e1 ht).mono (fun x hx => ?_) fun x hx => ?_ <;> simp [hx]
   ·exact ⟨_, by simp, _, by simp, hx, he⟩
omit hS
variable (S) in
def sdF : Nat → By → Nat → Nat → List By → Bool → List By × By × By
 | 0, old, _, _, _, _ => ([], old, old)
 | f + 1, old, m, n, p, whole =>
  if n ≤ m ∨ p = [] then ([], if whole ∨ p = [] then old else p.headD [], if whole ∨ p = [] then old else p.headD []) else
  match p.getLast? with
  | none => ([], old, old)
  | some x =>
   if m ≤ lft n then ((sdF f old m (lft n) p.dropLast whole).1 ++ [1 :: ((sdF f old m (lft n) p.dropLast whole).2.2 ++ x)], (sdF f old m (lft n) p.dropLast whole).2.1, nodeH S (sdF f old m (lft n) p.dropLast whole).2.2 x)
   else ((sdF f old (m - lft n) (n - lft n) p.dropLast false).1 ++ [1 :: (x ++ (sdF f old (m - lft n) (n - lft n) p.dropLast false).2.1), 1 :: (x ++ (sdF f old (m - lft n) (n - lft n) p.dropLast false).2.2)], nodeH S x (sdF f old (m - lft n) (n - lft n) p.dropLast false).2.1, nodeH S x (sdF f old (m - lft n) (n - lft n) p.dropLast false).2.2)
variable (S) in
def sdH (old : By) (m n : Nat) (p : List By) (w : Bool) : List By × By × By := sdF S (p.length + 1) old m n p w
theorem fW {old : By} {m n : Nat} {p : List By} {w : Bool} (h : n ≤ m ∨ p = []) : sdH S old m n p w = ([], if w ∨ p = [] then old else p.headD [], if w ∨ p = [] then old else p.headD []) := by rw [sdH, sdF, if_pos h]
theorem gi {old x : By} {m n : Nat} {p : List By} {w : Bool} (h : m < n) : sdH S old m n (p ++ [x]) w =
  if m ≤ lft n then ((sdH S old m (lft n) p w).1 ++ [1 :: ((sdH S old m (lft n) p w).2.2 ++ x)], (sdH S old m (lft n) p w).2.1, nodeH S (sdH S old m (lft n) p w).2.2 x)
  else ((sdH S old (m - lft n) (n - lft n) p false).1 ++ [1 :: (x ++ (sdH S old (m - lft n) (n - lft n) p false).2.1), 1 :: (x ++ (sdH S old (m - lft n) (n - lft n) p false).2.2)], nodeH S x (sdH S old (m - lft n) (n - lft n) p false).2.1, nodeH S x (sdH S old (m - lft n) (n - lft n) p false).2.2) := by
 rw [sdH, sdF, if_neg (by simp; omega)]
 simp only [List.getLast?_append, List.getLast?_singleton, Option.some_or, List.dropLast_concat, List.length_append, List.length_singleton]
 rfl
theorem kl : ∀ (p : List By) (old : By) (m n : Nat) (w : Bool), (sdH S old m n p w).2.2 = (sidesH S old m n p w).2 ∧ ∀ x ∈ (sidesH S old m n p w).1, x ∈ (sdH S old m n p w).1 := by
 intro p
 induction hp : p.length generalizing p with
 | zero =>
  intro old m n w
  obtain rfl : p = [] := List.eq_nil_of_length_eq_zero hp
  rw [fW (.inr rfl), cd (.inr rfl)]; simp
 | succ k ih =>
  intro old m n w
  rcases List.eq_nil_or_concat p with rfl | ⟨p, y, rfl⟩
  ·simp at hp
  rw [List.concat_eq_append] at *
  have hk : p.length = k := by simpa using hp
  by_cases h : n ≤ m
  ·rw [fW (.inl h), cd (.inl h)]; simp
  ·rw [gi om, dk om]
   by_cases h2 : m ≤ lft n
   ·rw [if_pos h2, if_pos h2]
    obtain ⟨i1, i2⟩ := ih p hk old m (lft n) w
    refine ⟨by simp only [i1], fun x hx => ?_⟩
    simp only [List.mem_cons] at hx
    rcases hx with rfl | hx
    ·simp [i1]
    ·simp [i2 x hx]
   ·rw [if_neg h2, if_neg h2]
    obtain ⟨i1, i2⟩ := ih p hk old (m - lft n) (n - lft n) false
    refine ⟨by simp only [i1], fun x hx => ?_⟩
    simp only [List.mem_cons] at hx
    rcases hx with rfl | hx
    ·simp [i1]
    ·simp [i2 x hx]
theorem lG {old : By} {m n : Nat} {p : List By} {w : Bool} (h : m < n) (hp : p.length ≠ 0) (h2 : m ≤ lft n) : sdH S old m n p w = ((sdH S old m (lft n) (p.take (p.length - 1)) w).1 ++ [1 :: ((sdH S old m (lft n) (p.take (p.length - 1)) w).2.2 ++ p.getD (p.length - 1) [])], (sdH S old m (lft n) (p.take (p.length - 1)) w).2.1, nodeH S (sdH S old m (lft n) (p.take (p.length - 1)) w).2.2 (p.getD (p.length - 1) [])) := by
 rcases List.eq_nil_or_concat p with rfl | ⟨p, x, rfl⟩
 ·exact absurd rfl hp
 ·rw [List.concat_eq_append, gi h, if_pos h2]
  simp [List.getD_eq_getElem?_getD]
theorem kc {old : By} {m n : Nat} {p : List By} {w : Bool} (h : m < n) (hp : p.length ≠ 0) (h2 : ¬ m ≤ lft n) : sdH S old m n p w = ((sdH S old (m - lft n) (n - lft n) (p.take (p.length - 1)) false).1 ++ [1 :: (p.getD (p.length - 1) [] ++ (sdH S old (m - lft n) (n - lft n) (p.take (p.length - 1)) false).2.1), 1 :: (p.getD (p.length - 1) [] ++ (sdH S old (m - lft n) (n - lft n) (p.take (p.length - 1)) false).2.2)], nodeH S (p.getD (p.length - 1) []) (sdH S old (m - lft n) (n - lft n) (p.take (p.length - 1)) false).2.1, nodeH S (p.getD (p.length - 1) []) (sdH S old (m - lft n) (n - lft n) (p.take (p.length - 1)) false).2.2) := by
 rcases List.eq_nil_or_concat p with rfl | ⟨p, x, rfl⟩
 ·exact absurd rfl hp
 ·rw [List.concat_eq_append, gi h, if_neg h2]
  simp [List.getD_eq_getElem?_getD]
include hS
theorem mr {l o : List By} {m : Nat} {q : List By} (hm : m ≤ l.length) (ho : o.length = m) (h : aO S (rootH S o) m (rootH S l) l.length q = true) (hne : o ≠ l.take m) :
  Two S (hashL S o ++ hashL S (l.take m) ++ (sdH S (rootH S o) m l.length q true).1 ++ (sdH S (rootH S (l.take m)) m l.length (extH S l m) true).1) (hashL S o ++ hashL S (l.take m) ++ (sdH S (rootH S o) m l.length q true).1 ++ (sdH S (rootH S (l.take m)) m l.length (extH S l m) true).1) := by
 by_cases he : rootH S o = rootH S (l.take m)
 ·exact (ml hS m o (l.take m) ho (by rw [List.length_take]; omega) he hne).mono (fun x hx => by simp [hx]) fun x hx => by simp [hx]
 ·have h1 := eC (S := S) hS hm
  have h2 := jC (iC.1 (jx hS h h1 he))
  rw [Int.toNat_natCast, Int.toNat_natCast] at h2
  exact h2.mono (fun x hx => by simp [(kl _ _ _ _ _).2 x hx]) fun x hx => by simp [(kl _ _ _ _ _).2 x hx]
end
theorem ij : ∀ {l m : List Rec}, (∀ x ∈ l, x.ok = true) → (∀ x ∈ m, x.ok = true) → codesR l = codesR m → l = m
 | [], [], _, _, _ => rfl
 | [], _ :: _, _, _, h => by cases h
 | _ :: _, [], _, _, h => by cases h
 | x :: l, y :: m, h1, h2, h => by
  simp only [codesR, List.map_cons, List.cons.injEq] at h
  have := ph (x := x) (y := y) (u := []) (v := []) (h1 x sm) (h2 y sm) (by rw [h.1])
  rw [this.1, ij (fun z hz => h1 z (by simp [hz])) (fun z hz => h2 z (by simp [hz])) h.2]
theorem bn (l : List Rec) : (codesR l).length = l.length := by rw [codesR, List.length_map]
theorem eD (l : List Rec) (k : Nat) : codesR (l.take k) = (codesR l).take k := by rw [codesR, codesR, List.map_take]
theorem oC {l : List Rec} {k : Nat} (h : k < l.length) : (codesR l).getD k [] = (l.getD k Rec.z).enc := by
 rw [codesR, List.getD_eq_getElem?_getD, List.getD_eq_getElem?_getD, List.getElem?_map, List.getElem?_eq_getElem h]; rfl
def j6 (o n : Int) (root : By) : By := puts [o, n] ++ root
section
variable (S : By → By)
def tagR (key : By) (o n : Int) (root : By) : By := nodeH S key (leafH S (j6 o n root))
def genR (key : By) (o n : Int) (root t : By) : Bool := decide (key.length = 32) && inB o 0 99 && inB n 0 60 && decide (root.length = 32) && decide (t = tagR S key o n root)
variable {S}
end
end Go.Proofs.YtddfkkdanpmnaaaGreatDoor
namespace Go.Proofs.YtddfkkdanpmnaaaGreatDoor
theorem take_one {l : By} {k : Nat} (h : k < l.length) : l.take (k + 1) = l.take k ++ [l.getD k 0] := by
 rw [List.take_add_one, List.getElem?_eq_getElem h, List.getD_eq_getElem?_getD, List.getElem?_eq_getElem h]; rfl
end Go.Proofs.YtddfkkdanpmnaaaGreatDoor
namespace Go.Proofs
open Go.Shelf
def Tryz.lays156_ren : Go.Shelf.Ren := ⟨fun | 156 => 113 | 165 => 121 | 166 => 67 | 169 => 68 | 240 => 97 | 241 => 123 | 276 => 111 | 277 => 124 | n => n, fun | 31 => 26 | 9 => 9 | 3 => 3 | 4 => 4 | 0 => 0 | 20 => 20 | 72 => 86 | 76 => 93 | 70 => 84 | 37 => 68 | 75 => 92 | 127 => 137 | 164 => 156 | 5 => 5 | 80 => 95 | n => n, fun | n => n⟩
theorem Tryz.lays156 : Go.Proofs.Lays.n156 Tryz.prog Tryz.lays156_ren := {
 mixed := by kernel_rfl
 f156 := Tryz.func113.trans (congrArg some kr)
 f165 := Tryz.func121.trans (congrArg some kr)
 f166 := Tryz.func67.trans (congrArg some kr)
 f169 := Tryz.func68.trans (congrArg some kr)
 f240 := Tryz.func97.trans (congrArg some kr)
 f241 := Tryz.func123.trans (congrArg some kr)
 f276 := Tryz.func111.trans (congrArg some kr)
 f277 := Tryz.func124.trans (congrArg some kr)
 t0 := Tryz.underlying0
 a0 := Tryz.isAgg0
 z0 := Tryz.sizeOf0
 v0 := Tryz.zeroValue0
 t3 := Tryz.underlying3
 a3 := Tryz.isAgg3
 z3 := Tryz.sizeOf3
 v3 := Tryz.zeroValue3
 t4 := Tryz.underlying4
 a4 := Tryz.isAgg4
 z4 := Tryz.sizeOf4
 v4 := Tryz.zeroValue4
 t9 := Tryz.underlying9
 a9 := Tryz.isAgg9
 z9 := Tryz.sizeOf9
 v9 := Tryz.zeroValue9
 t20 := Tryz.underlying20
 a20 := Tryz.isAgg20
 z20 := Tryz.sizeOf20
 v20 := Tryz.zeroValue20
 t31 := Tryz.underlying26
 a31 := Tryz.isAgg26
 z31 := Tryz.sizeOf26
 v31 := Tryz.zeroValue26
 t37 := Tryz.underlying68
 a37 := Tryz.isAgg68
 z37 := Tryz.sizeOf68
 v37 := Tryz.zeroValue68
 t70 := Tryz.underlying84
 a70 := Tryz.isAgg84
 z70 := Tryz.sizeOf84
 v70 := Tryz.zeroValue84
 t72 := Tryz.underlying86
 a72 := Tryz.isAgg86
 z72 := Tryz.sizeOf86
 v72 := Tryz.zeroValue86
 t75 := Tryz.underlying92
 a75 := Tryz.isAgg92
 z75 := Tryz.sizeOf92
 v75 := Tryz.zeroValue92
 t76 := Tryz.underlying93
 a76 := Tryz.isAgg93
 z76 := Tryz.sizeOf93
 v76 := Tryz.zeroValue93
 t127 := Tryz.underlying137
 a127 := Tryz.isAgg137
 z127 := Tryz.sizeOf137
 v127 := Tryz.zeroValue137
 t164 := Tryz.underlying156
 a164 := Tryz.isAgg156
 z164 := Tryz.sizeOf156
 v164 := Tryz.zeroValue156 }
theorem Tryz.Builder_Extra_156 : Builder.Extra Tryz.prog Tryz.lays156_ren := {
 sizeBuilder := by kernel_rfl
 liesBuilder := by kernel_rfl
 t5 := Tryz.underlying5
 a5 := Tryz.isAgg5
 z5 := Tryz.sizeOf5
 v5 := Tryz.zeroValue5
 infoByte := by kernel_rfl
 cellsByte := by kernel_rfl
 sizeByte := by kernel_rfl
 neB5 := by decide }
open Go.RowKit in
theorem Tryz.strings_Join_none (a : Option Addr) (c : Nat) (sep : ByteArray) (w : World) :
  Calls Tryz.prog 113 #[.slice a 0 c, .string sep] w fun e w' => e = .returned (.string ⟨#[]⟩) ∧ w' = w := Any.strings_Join_none Tryz.lays156 Tryz.Builder_Extra_156 a c sep w
open Go.RowKit in
theorem Tryz.strings_Join (bk o c : Nat) (xs : List ByteArray) (sep : ByteArray) (w : World) (hcells : ∀ (j : Nat) x, xs[j]? = some x → w.cell? ⟨bk, o + j, none⟩ = some (.string x)) (hbk : bk < w.heap.size) (hN : xs.length ≤ 140737488355328) (hcap : xs.length ≤ c) (hlen : (Lib.join (xs.map (·.data.toList)) sep.data.toList).length ≤ 140737488355328) :
  Calls Tryz.prog 113 #[.slice (some ⟨bk, o, none⟩) xs.length c, .string sep] w fun e w' => e = .returned (.string ⟨(Lib.join (xs.map (·.data.toList)) sep.data.toList).toArray⟩) ∧ Below w.heap.size w w' := Any.strings_Join Tryz.lays156 Tryz.Builder_Extra_156 bk o c xs sep w hcells hbk hN hcap hlen
def Tryz.lays125_ren : Go.Shelf.Ren := ⟨fun | 125 => 106 | 128 => 117 | 129 => 118 | n => n, fun | 46 => 120 | 3 => 3 | 51 => 116 | 53 => 114 | 4 => 4 | 5 => 5 | 9 => 9 | n => n, fun | n => n⟩
theorem Tryz.lays125 : Go.Proofs.Lays.n125 Tryz.prog Tryz.lays125_ren := {
 mixed := by kernel_rfl
 f125 := Tryz.func106.trans (congrArg some kr)
 f128 := Tryz.func117.trans (congrArg some kr)
 f129 := Tryz.func118.trans (congrArg some kr)
 t3 := Tryz.underlying3
 a3 := Tryz.isAgg3
 z3 := Tryz.sizeOf3
 v3 := Tryz.zeroValue3
 t4 := Tryz.underlying4
 a4 := Tryz.isAgg4
 z4 := Tryz.sizeOf4
 v4 := Tryz.zeroValue4
 t5 := Tryz.underlying5
 a5 := Tryz.isAgg5
 z5 := Tryz.sizeOf5
 v5 := Tryz.zeroValue5
 t9 := Tryz.underlying9
 a9 := Tryz.isAgg9
 z9 := Tryz.sizeOf9
 v9 := Tryz.zeroValue9
 t46 := Tryz.underlying120
 a46 := Tryz.isAgg120
 z46 := Tryz.sizeOf120
 v46 := Tryz.zeroValue120
 t51 := Tryz.underlying116
 a51 := Tryz.isAgg116
 z51 := Tryz.sizeOf116
 v51 := Tryz.zeroValue116
 t53 := Tryz.underlying114
 a53 := Tryz.isAgg114
 z53 := Tryz.sizeOf114
 v53 := Tryz.zeroValue114 }
theorem Tryz.bits_Len (x : Int) (w : World) (h0 : 0 ≤ x) (h1 : x ≤ 18446744073709551615) :
  Calls Tryz.prog 106 #[.int .u64 x] w fun e w' => e = .returned (.int .i64 (Lib.bitLen x.toNat)) ∧ w' = w := Any.bits_Len Tryz.lays125 x w h0 h1
def Tryz.laysNm217_ren : Go.Shelf.Ren := ⟨fun | 17 => 85 | n => n, fun | 24 => 26 | 9 => 9 | 3 => 3 | 4 => 4 | 0 => 0 | n => n, fun | n => n⟩
theorem Tryz.laysNm217 : Go.Proofs.Lays2.n17 Tryz.prog Tryz.laysNm217_ren := {
 mixed := by kernel_rfl
 f17 := Tryz.func85.trans (congrArg some kr)
 t0 := Tryz.underlying0
 a0 := Tryz.isAgg0
 z0 := Tryz.sizeOf0
 v0 := Tryz.zeroValue0
 t3 := Tryz.underlying3
 a3 := Tryz.isAgg3
 z3 := Tryz.sizeOf3
 v3 := Tryz.zeroValue3
 t4 := Tryz.underlying4
 a4 := Tryz.isAgg4
 z4 := Tryz.sizeOf4
 v4 := Tryz.zeroValue4
 t9 := Tryz.underlying9
 a9 := Tryz.isAgg9
 z9 := Tryz.sizeOf9
 v9 := Tryz.zeroValue9
 t24 := Tryz.underlying26
 a24 := Tryz.isAgg26
 z24 := Tryz.sizeOf26
 v24 := Tryz.zeroValue26 }
open Go.RowKit Go.Lib Go.Sort in
theorem Tryz.slices_Reverse_string (blk off cap : Nat) (zs : List (List UInt8)) (w : World) (hH : Holds encStr w blk off zs.toArray) (hsz : zs.length ≤ 9223372036854775807) :
  Calls Tryz.prog 85 #[.slice (some ⟨blk, off, none⟩) zs.length cap] w fun e w' => e = .returned (.tuple #[]) ∧ ∃ n, w' = putRow encStr (Sort.ahead w n) blk off zs.reverse.toArray := Any.slices_Reverse_string Tryz.laysNm217 blk off cap zs w hH hsz
open Go.RowKit Go.Lib Go.Sort in
theorem Tryz.slices_Reverse_string_empty (a : Option Addr) (cap : Nat) (w : World) :
  Calls Tryz.prog 85 #[.slice a 0 cap] w fun e w' => e = .returned (.tuple #[]) ∧ w' = w := Any.slices_Reverse_string_empty Tryz.laysNm217 a cap w
end Go.Proofs
namespace Go.Proofs.YtddfkkdanpmnaaaGreatDoor
open Go.RowKit Go.PW _root_.Go.Proofs.Tryz
theorem qo (x : Wd) (n : Nat) (w0 : World) (hn : 0 < n) (hn2 : n < 32) :
  Ret Tryz.prog 122 #[wv x, iv (-(n : Int))] w0 fun v w => v = wv (ror x n) ∧ Ext No w0 w := by
 refine aD func122 rfl ntmps122 (lb rfl) fun a Z => ?_
 replace Z := Z.p2 0 1 rfl
 replace Y : St No w0 [] w0 := St.init w0
 refine aa fun K1 hK1 => wla Z rfl fun a Z => ab (hK1 _ _ <| aa fun K2 hK2 => ?_)
 refine wlm Z rfl fun a Z => wlv Z (c8 rfl kr underlying120) fun a Z => wlv Z ((m0 (n := ((-(n : Int)) % 18446744073709551616).toNat) om rfl rfl).asi (m' := ((32 - n : Nat) : Int)) om) fun a Z => wla Z rfl fun a Z => ab (hK2 _ _ <| aa fun K3 hK3 => ?_)
 refine wlm Z rfl fun a Z => wlm Z rfl fun a Z => wlv Z (dU (n := (32 - n)) rfl rfl) fun a Z => wlm Z rfl fun a Z => wlm Z rfl fun a Z => wlv Z ((oB (m := 32) (n := 32 - n) om om rfl rfl).asi (m' := (n : Int)) om) fun a Z => wlv Z (dv (n := n) rfl rfl) fun a Z => wlv Z (fG rfl rfl) fun a Z => wla Z rfl fun a Z => ab (hK3 _ _ ?_)
 replace Z := Z.p1 4 rfl
 refine ap ?_
 refine al Z results122 (ac rfl ag) ?_
 exact ⟨by simp only [retv, ror], Y.ext⟩
theorem fc (x : Wd) (lv : Value) (ns : List Nat) (w0 : World) (hlv : SlAt w0 lv 1 (ns.map fun n : Nat => [iv (n : Int)])) (hns : ∀ n ∈ ns, 0 < n ∧ n < 32) :
  Ret Tryz.prog 116 #[wv x, lv] w0 fun v w => v = wv (mix x ns) ∧ Ext No w0 w := by
 have hnl := hlv.le
 rw [List.length_map] at hnl
 refine aD func116 rfl ntmps116 (lb rfl) fun a Z => ?_
 replace Z := Z.p2 0 1 rfl
 replace Y : St No w0 [] w0 := St.init w0
 refine aa fun K1 hK1 => wla Z rfl fun a Z => ab (hK1 _ _ <| aa fun K2 hK2 => ?_)
 refine wla Z rfl fun a Z => ab (hK2 _ _ <| ae fun K3 hK3 => ?_)
 refine aa fun K4 hK4 => wlm Z rfl fun a Z => wlv Z ((aE (sT := 40) (Y.arg hlv) rfl rfl (runUnderlying40 _)).asi (m' := (ns.length : Int)) sm) fun a Z => wlm Z rfl fun a Z => ab (hK4 _ _ <| aq ?_)
 refine aR (fun m a w => ∃ (k : Nat), m = ns.length - k ∧ (k ≤ ns.length) ∧ Fr 22 [(0, wv x), (4, wv (0#32)), (8, lv), (9, iv (ns.length : Int)), (10, iv (k : Int)), (5, wv (mix x (ns.take k)))] [] a ∧ St No w0 [] w) _ ⟨0, rfl, Nat.zero_le _, Z.pick [0, 4, 8, 9, 10, 5], Y.select [] de⟩ ?_
 rintro _ a w1 ⟨k, rfl, hk, Z, Y⟩
 refine aa fun K5 hK5 => wlv Z (v_lt rfl rfl) fun a Z => ab (hK5 _ _ <| ae fun K6 hK6 => ?_)
 refine ax Z rfl (fun hc1 => ?_) (fun hc1 => ?_)
 ·rw [hc1] at Z
  try simp only [qz] at hc1
  have hkl : k < ns.length := by omega
  obtain ⟨n, hn⟩ : ∃ n, ns.getD k 0 = n := ⟨_, rfl⟩
  have hnb : 0 < n ∧ n < 32 := hns n (by rw [← hn]; simp [List.getD_eq_getElem?_getD, List.getElem?_eq_getElem hkl])
  have hst2 : mix x (ns.take (k + 1)) = mix x (ns.take k) ^^^ ror x n := by
   rw [mix, mix, List.take_succ_eq_append_getElem hkl, List.foldl_append]
   have : ns[k] = n := by rw [← hn]; simp [List.getD_eq_getElem?_getD, List.getElem?_eq_getElem hkl]
   rw [this]; rfl
  refine ar <| hK6 _ _ <| ae fun K7 hK7 => aq <| aa fun K8 hK8 => wlv Z ((aj (i := (k : Int)) (sT := 40) (Y.arg hlv) rfl rfl (runUnderlying40 _) (sizeOf3 _) om (by simpa using hkl)).as (v' := slAddr lv (k * 1)) rfl) fun a Z => ?_
  refine wlv Z (au (u := iv (n : Int)) (i := k) (j := 0) (Y.arg hlv) (by simpa using hkl) rfl (isAgg3 _) (by rw [← hn]; simp [List.getD_eq_getElem?_getD, List.getElem?_eq_getElem hkl])) fun a Z => wla Z rfl fun a Z => ?_
  refine ab (hK8 _ _ <| ao ?_)
  refine wlm Z rfl fun a Z => wlm Z rfl fun a Z => wlm Z rfl fun a Z => wlv Z (jl rfl om om) fun a Z => am Z Y de call122 rfl (qo x n _ hnb.1 hnb.2) ?_
  clear Z Y
  intro a w2 Z Y
  refine wlv Z (cc rfl rfl) fun a Z => wla Z rfl fun a Z => ab <| hK7 _ _ ?_
  replace Z := Z.p6 0 4 8 9 10 5 rfl
  refine ao <| wlv Z (aV rfl rfl ⟨om, om⟩) fun a Z => wlm Z rfl fun a Z => ab ?_
  rw [← hst2] at Z
  refine ⟨_, ?_, k + 1, rfl, om, Z.pick [0, 4, 8, 9, 10, 5], Y.select [] de⟩
  omega
 rw [hc1] at Z
 try simp only [qz] at hc1
 have hke : ns.take k = ns := List.take_of_length_le om
 rw [hke] at Z
 refine aJ <| hK3 _ _ <| aa fun K9 hK9 => wlm Z rfl fun a Z => wla Z rfl fun a Z => ab (hK9 _ _ ?_)
 replace Z := Z.p1 4 rfl
 refine ap ?_
 refine al Z results116 (ac rfl ag) ?_
 exact ⟨rfl, Y.ext⟩
theorem ki (bv : Value) (bs : List UInt8) (w0 : World) (hbv : SlAt w0 bv 1 (bs.map fun b => [yv b])) (hbl : bs.length = 64) :
  Ret Tryz.prog 115 #[bv] w0 fun v w => v = .agg ((sch bs 64).map wv).toArray ∧ Ext No w0 w := by
 refine aD func115 rfl ntmps115 (lb rfl) fun a Z => ?_
 replace Z := Z.p1 0 rfl
 replace Y : St No w0 [] w0 := St.init w0
 refine aa fun K1 hK1 => aU Z Y de (zeroValue161 _) (cs := (List.replicate 64 0#32).map wv) kr ?_
 clear Z Y
 intro a w1 Z Y
 refine ab (hK1 _ _ <| ae fun K2 hK2 => ?_)
 refine aa fun K3 hK3 => wlm Z rfl fun a Z => ab (hK3 _ _ <| aq ?_)
 refine aR (fun m a w => ∃ (k : Nat), m = 16 - k ∧ (k ≤ 16) ∧ Fr 84 [(0, bv), (2, pt w0.hz), (7, iv (k : Int))] [] a ∧ St No w0 [blk w0.hz ((sch bs k).map wv) 161] w) _ ⟨0, rfl, Nat.zero_le _, Z.pick [0, 2, 7], Y.select [0] de⟩ ?_
 rintro _ a w2 ⟨k, rfl, hk, Z, Y⟩
 refine aa fun K4 hK4 => wlv Z (v_lt rfl rfl) fun a Z => ab (hK4 _ _ <| ae fun K5 hK5 => ?_)
 refine ax Z rfl (fun hc1 => ?_) (fun hc1 => ?_)
 ·rw [hc1] at Z
  try simp only [qz] at hc1
  refine ar <| hK5 _ _ <| ae fun K6 hK6 => aq <| aa fun K7 hK7 => wlm Z rfl fun a Z => wla Z rfl fun a Z => ab (hK7 _ _ <| aF kr (aG kr fun w3 hxz => ?_))
  replace Y := Y.grow hxz
  refine aT (k := 0) 34 [0, 33] Z kr kr kr rfx ?_
  replace Z := Z.p6 0 2 7 8 9 3 rfl
  refine aA [] (fun i => match i with | _ => fun _ _ => False) 34 [[], [], [], [2], [1, 3], [4], [5], [6], [], [], [9], [10], [8, 11], [12], [13], [14], [7, 15], [], [], [18], [19], [17, 20], [21], [22], [23], [16, 24], [], [], [27], [28], [26, 29], [30], [31], [25, 32]] [iv (k : Int), bv, iv (k : Int), iv (4 * (k : Int)), slAddr bv ((4 * k) * 1), yv (bs.getD (4 * k) 0), wv (BitVec.ofNat 32 (bs.getD (4 * k) 0).toNat), wv ((BitVec.ofNat 32 (bs.getD (4 * k) 0).toNat) <<< 24), bv, iv (k : Int), iv (4 * (k : Int)), iv ((4 * (k : Int)) + 1), slAddr bv (((4 * k) + 1) * 1), yv (bs.getD ((4 * k) + 1) 0), wv (BitVec.ofNat 32 (bs.getD ((4 * k) + 1) 0).toNat), wv ((BitVec.ofNat 32 (bs.getD ((4 * k) + 1) 0).toNat) <<< 16), wv (((BitVec.ofNat 32 (bs.getD (4 * k) 0).toNat) <<< 24) ||| ((BitVec.ofNat 32 (bs.getD ((4 * k) + 1) 0).toNat) <<< 16)), bv, iv (k : Int), iv (4 * (k : Int)), iv ((4 * (k : Int)) + 2), slAddr bv (((4 * k) + 2) * 1), yv (bs.getD ((4 * k) + 2) 0), wv (BitVec.ofNat 32 (bs.getD ((4 * k) + 2) 0).toNat), wv ((BitVec.ofNat 32 (bs.getD ((4 * k) + 2) 0).toNat) <<< 8), wv ((((BitVec.ofNat 32 (bs.getD (4 * k) 0).toNat) <<< 24) ||| ((BitVec.ofNat 32 (bs.getD ((4 * k) + 1) 0).toNat) <<< 16)) ||| ((BitVec.ofNat 32 (bs.getD ((4 * k) + 2) 0).toNat) <<< 8)), bv, iv (k : Int), iv (4 * (k : Int)), iv ((4 * (k : Int)) + 3), slAddr bv (((4 * k) + 3) * 1), yv (bs.getD ((4 * k) + 3) 0), wv (BitVec.ofNat 32 (bs.getD ((4 * k) + 3) 0).toNat), wv (((((BitVec.ofNat 32 (bs.getD (4 * k) 0).toNat) <<< 24) ||| ((BitVec.ofNat 32 (bs.getD ((4 * k) + 1) 0).toNat) <<< 16)) ||| ((BitVec.ofNat 32 (bs.getD ((4 * k) + 2) 0).toNat) <<< 8)) ||| (BitVec.ofNat 32 (bs.getD ((4 * k) + 3) 0).toNat))] Z Y kr kr kr ?_ ?_ ?_
  ·intro i hi hiq
   match i, hi, hiq with
   | 0, _, _ => exact fun w Y => OpV.g (ah rfl)
   | 1, _, _ => exact fun w Y => OpV.g (ah rfl)
   | 2, _, _ => exact fun w Y => OpV.g (ah rfl)
   | 3, _, _ => exact fun w Y => OpV.g (cW rfl rfl ⟨om, om⟩)
   | 4, _, _ => exact fun w Y => OpV.g ((aj (i := 4 * (k : Int)) (sT := 68) (Y.arg hbv) rfl rfl (runUnderlying68 _) (sizeOf5 _) om (by simp; omega)).as (v' := slAddr bv ((4 * k) * 1)) (by rw [show (4 * (k : Int)).toNat = (4 * k) from by omega]))
   | 5, _, _ => exact fun w Y => OpV.g (au (u := yv (bs.getD (4 * k) 0)) (i := (4 * k)) (j := 0) (Y.arg hbv) (by simp; omega) rfl (isAgg5 _) (by simp [List.getD_eq_getElem?_getD, List.getElem?_eq_getElem (show (4 * k) < bs.length by omega)]))
   | 6, _, _ => exact fun w Y => OpV.g (cD rfl kr underlying116)
   | 7, _, _ => exact fun w Y => OpV.g (dU (n := 24) rfl rfl)
   | 8, _, _ => exact fun w Y => OpV.g (ah rfl)
   | 9, _, _ => exact fun w Y => OpV.g (ah rfl)
   | 10, _, _ => exact fun w Y => OpV.g (cW rfl rfl ⟨om, om⟩)
   | 11, _, _ => exact fun w Y => OpV.g (aV rfl rfl ⟨om, om⟩)
   | 12, _, _ => exact fun w Y => OpV.g ((aj (i := (4 * (k : Int)) + 1) (sT := 68) (Y.arg hbv) rfl rfl (runUnderlying68 _) (sizeOf5 _) om (by simp; omega)).as (v' := slAddr bv (((4 * k) + 1) * 1)) (by rw [show ((4 * (k : Int)) + 1).toNat = ((4 * k) + 1) from by omega]))
   | 13, _, _ => exact fun w Y => OpV.g (au (u := yv (bs.getD ((4 * k) + 1) 0)) (i := ((4 * k) + 1)) (j := 0) (Y.arg hbv) (by simp; omega) rfl (isAgg5 _) (by simp [List.getD_eq_getElem?_getD, List.getElem?_eq_getElem (show ((4 * k) + 1) < bs.length by omega)]))
   | 14, _, _ => exact fun w Y => OpV.g (cD rfl kr underlying116)
   | 15, _, _ => exact fun w Y => OpV.g (dU (n := 16) rfl rfl)
   | 16, _, _ => exact fun w Y => OpV.g (fG rfl rfl)
   | 17, _, _ => exact fun w Y => OpV.g (ah rfl)
   | 18, _, _ => exact fun w Y => OpV.g (ah rfl)
   | 19, _, _ => exact fun w Y => OpV.g (cW rfl rfl ⟨om, om⟩)
   | 20, _, _ => exact fun w Y => OpV.g (aV rfl rfl ⟨om, om⟩)
   | 21, _, _ => exact fun w Y => OpV.g ((aj (i := (4 * (k : Int)) + 2) (sT := 68) (Y.arg hbv) rfl rfl (runUnderlying68 _) (sizeOf5 _) om (by simp; omega)).as (v' := slAddr bv (((4 * k) + 2) * 1)) (by rw [show ((4 * (k : Int)) + 2).toNat = ((4 * k) + 2) from by omega]))
   | 22, _, _ => exact fun w Y => OpV.g (au (u := yv (bs.getD ((4 * k) + 2) 0)) (i := ((4 * k) + 2)) (j := 0) (Y.arg hbv) (by simp; omega) rfl (isAgg5 _) (by simp [List.getD_eq_getElem?_getD, List.getElem?_eq_getElem (show ((4 * k) + 2) < bs.length by omega)]))
   | 23, _, _ => exact fun w Y => OpV.g (cD rfl kr underlying116)
   | 24, _, _ => exact fun w Y => OpV.g (dU (n := 8) rfl rfl)
   | 25, _, _ => exact fun w Y => OpV.g (fG rfl rfl)
   | 26, _, _ => exact fun w Y => OpV.g (ah rfl)
   | 27, _, _ => exact fun w Y => OpV.g (ah rfl)
   | 28, _, _ => exact fun w Y => OpV.g (cW rfl rfl ⟨om, om⟩)
   | 29, _, _ => exact fun w Y => OpV.g (aV rfl rfl ⟨om, om⟩)
   | 30, _, _ => exact fun w Y => OpV.g ((aj (i := (4 * (k : Int)) + 3) (sT := 68) (Y.arg hbv) rfl rfl (runUnderlying68 _) (sizeOf5 _) om (by simp; omega)).as (v' := slAddr bv (((4 * k) + 3) * 1)) (by rw [show ((4 * (k : Int)) + 3).toNat = ((4 * k) + 3) from by omega]))
   | 31, _, _ => exact fun w Y => OpV.g (au (u := yv (bs.getD ((4 * k) + 3) 0)) (i := ((4 * k) + 3)) (j := 0) (Y.arg hbv) (by simp; omega) rfl (isAgg5 _) (by simp [List.getD_eq_getElem?_getD, List.getElem?_eq_getElem (show ((4 * k) + 3) < bs.length by omega)]))
   | 32, _, _ => exact fun w Y => OpV.g (cD rfl kr underlying116)
   | 33, _, _ => exact fun w Y => OpV.g (fG rfl rfl)
   | i + 34, h, _ => exact absurd h om
  ·intro i hi
   exact absurd hi sm
  clear Z Y
  intro  a w4 Z Y
  replace Z : Fr 84 [(10, iv (k : Int)), (11, bv), (12, iv (k : Int)), (13, iv (4 * (k : Int))), (14, slAddr bv ((4 * k) * 1)), (15, yv (bs.getD (4 * k) 0)), (16, wv (BitVec.ofNat 32 (bs.getD (4 * k) 0).toNat)), (17, wv ((BitVec.ofNat 32 (bs.getD (4 * k) 0).toNat) <<< 24)), (18, bv), (19, iv (k : Int)), (20, iv (4 * (k : Int))), (21, iv ((4 * (k : Int)) + 1)), (22, slAddr bv (((4 * k) + 1) * 1)), (23, yv (bs.getD ((4 * k) + 1) 0)), (24, wv (BitVec.ofNat 32 (bs.getD ((4 * k) + 1) 0).toNat)), (25, wv ((BitVec.ofNat 32 (bs.getD ((4 * k) + 1) 0).toNat) <<< 16)), (26, wv (((BitVec.ofNat 32 (bs.getD (4 * k) 0).toNat) <<< 24) ||| ((BitVec.ofNat 32 (bs.getD ((4 * k) + 1) 0).toNat) <<< 16))), (27, bv), (28, iv (k : Int)), (29, iv (4 * (k : Int))), (30, iv ((4 * (k : Int)) + 2)), (31, slAddr bv (((4 * k) + 2) * 1)), (32, yv (bs.getD ((4 * k) + 2) 0)), (33, wv (BitVec.ofNat 32 (bs.getD ((4 * k) + 2) 0).toNat)), (34, wv ((BitVec.ofNat 32 (bs.getD ((4 * k) + 2) 0).toNat) <<< 8)), (35, wv ((((BitVec.ofNat 32 (bs.getD (4 * k) 0).toNat) <<< 24) ||| ((BitVec.ofNat 32 (bs.getD ((4 * k) + 1) 0).toNat) <<< 16)) ||| ((BitVec.ofNat 32 (bs.getD ((4 * k) + 2) 0).toNat) <<< 8))), (36, bv), (37, iv (k : Int)), (38, iv (4 * (k : Int))), (39, iv ((4 * (k : Int)) + 3)), (40, slAddr bv (((4 * k) + 3) * 1)), (41, yv (bs.getD ((4 * k) + 3) 0)), (42, wv (BitVec.ofNat 32 (bs.getD ((4 * k) + 3) 0).toNat)), (43, wv (((((BitVec.ofNat 32 (bs.getD (4 * k) 0).toNat) <<< 24) ||| ((BitVec.ofNat 32 (bs.getD ((4 * k) + 1) 0).toNat) <<< 16)) ||| ((BitVec.ofNat 32 (bs.getD ((4 * k) + 2) 0).toNat) <<< 8)) ||| (BitVec.ofNat 32 (bs.getD ((4 * k) + 3) 0).toNat))), (0, _), (2, _), (7, _), (8, _), (9, _), (3, _)] [] a := Z
  refine ab <| aP (k := 34) 36 [35] kr kr kr ?_
  refine wlv Z ((bl (n := 64) (i := (k : Int)) rfl rfl (runUnderlying161 _) (sizeOf116 _) om om).as (v' := .pointer (some ⟨w0.hz, k, none⟩)) (by rw [show 0 + ((k : Int) : Int).toNat = k from by omega])) fun a Z => dp (f := wv) (z := ((((BitVec.ofNat 32 (bs.getD (4 * k) 0).toNat) <<< 24) ||| ((BitVec.ofNat 32 (bs.getD ((4 * k) + 1) 0).toNat) <<< 16)) ||| ((BitVec.ofNat 32 (bs.getD ((4 * k) + 2) 0).toNat) <<< 8)) ||| (BitVec.ofNat 32 (bs.getD ((4 * k) + 3) 0).toNat)) 0 Z Y rfl rfl rfl (sizeOf116 _) rfl rfl (by have := (aB bs k); omega) rfl ?_
  clear Z Y
  intro a w5 Z Y
  refine ab <| aS kr ?_
  refine hK6 _ _ ?_
  replace Z := Z.p3 0 2 7 rfl
  refine ao <| wlv Z (aV rfl rfl ⟨om, om⟩) fun a Z => wlm Z rfl fun a Z => ab ?_
  rw [show (sch bs k).set k (((((BitVec.ofNat 32 (bs.getD (4 * k) 0).toNat) <<< 24) ||| ((BitVec.ofNat 32 (bs.getD ((4 * k) + 1) 0).toNat) <<< 16)) ||| ((BitVec.ofNat 32 (bs.getD ((4 * k) + 2) 0).toNat) <<< 8)) ||| (BitVec.ofNat 32 (bs.getD ((4 * k) + 3) 0).toNat)) = sch bs (k + 1) from by rw [sch, if_pos om, be]] at Y
  refine ⟨_, ?_, k + 1, rfl, om, Z.pick [0, 2, 7], Y.select [0] de⟩
  omega
 rw [hc1] at Z
 try simp only [qz] at hc1
 obtain rfl : k = 16 := by omega
 refine aJ <| hK2 _ _ <| ae fun K8 hK8 => aa fun K9 hK9 => wla Z rfl fun a Z => ab (hK9 _ _ <| aq ?_)
 refine aR (fun m a w => ∃ (j : Nat), m = 64 - j ∧ (16 ≤ j) ∧ (j ≤ 64) ∧ Fr 84 [(2, pt w0.hz), (4, iv (j : Int))] [] a ∧ St No w0 [blk w0.hz ((sch bs j).map wv) 161] w) _ ⟨16, rfl, om, om, Z.pick [2, 4], Y.select [0] de⟩ ?_
 rintro _ a w6 ⟨j, rfl, hj, hj2, Z, Y⟩
 refine ae fun K10 hK10 => aa fun K11 hK11 => wlm Z rfl fun a Z => wlv Z (v_lt rfl rfl) fun a Z => ab (hK11 _ _ ?_)
 refine ax Z rfl (fun hc2 => ?_) (fun hc2 => ?_)
 ·rw [hc2] at Z
  try simp only [qz] at hc2
  refine ar <| hK10 _ _ <| ae fun K12 hK12 => aq <| ae fun K13 hK13 => aF kr (aG kr fun w7 hxz => ?_)
  replace Y := Y.grow hxz
  refine aT (k := 0) 9 [7, 8] Z kr kr kr rfx ?_
  replace Z := Z.p4 2 4 46 47 rfl
  refine aA [] (fun i => match i with | _ => fun _ _ => False) 9 [[], [0], [1], [2], [], [4], [5], [6], [3]] [iv (j : Int), iv ((j : Int) - 15), .pointer (some ⟨w0.hz, (j - 15), none⟩), wv ((sch bs j).getD (j - 15) 0#32), iv (j : Int), iv ((j : Int) - 2), .pointer (some ⟨w0.hz, (j - 2), none⟩), wv ((sch bs j).getD (j - 2) 0#32), wv ((sch bs j).getD (j - 15) 0#32)] Z Y kr kr kr ?_ ?_ ?_
  ·intro i hi hiq
   match i, hi, hiq with
   | 0, _, _ => exact fun w Y => OpV.g (ah rfl)
   | 1, _, _ => exact fun w Y => OpV.g (bh rfl rfl ⟨om, om⟩)
   | 2, _, _ => exact fun w Y => OpV.g ((bl (n := 64) (i := (j : Int) - 15) rfl rfl (runUnderlying161 _) (sizeOf116 _) om om).as (v' := .pointer (some ⟨w0.hz, (j - 15), none⟩)) (by rw [show 0 + ((j : Int) - 15 : Int).toNat = (j - 15) from by omega]))
   | 3, _, _ => exact fun w Y => OpV.g (bP (Y.g 0 rfl) rfl (isAgg116 _) (cZ (d := 0#32) (by have := (aB bs j); omega)))
   | 4, _, _ => exact fun w Y => OpV.g (ah rfl)
   | 5, _, _ => exact fun w Y => OpV.g (bh rfl rfl ⟨om, om⟩)
   | 6, _, _ => exact fun w Y => OpV.g ((bl (n := 64) (i := (j : Int) - 2) rfl rfl (runUnderlying161 _) (sizeOf116 _) om om).as (v' := .pointer (some ⟨w0.hz, (j - 2), none⟩)) (by rw [show 0 + ((j : Int) - 2 : Int).toNat = (j - 2) from by omega]))
   | 7, _, _ => exact fun w Y => OpV.g (bP (Y.g 0 rfl) rfl (isAgg116 _) (cZ (d := 0#32) (by have := (aB bs j); omega)))
   | 8, _, _ => exact fun w Y => OpV.g (cw rfl)
  ·intro i hi
   exact absurd hi sm
  clear Z Y
  intro  a w8 Z Y
  replace Z : Fr 84 [(50, iv (j : Int)), (51, iv ((j : Int) - 15)), (52, .pointer (some ⟨w0.hz, (j - 15), none⟩)), (53, wv ((sch bs j).getD (j - 15) 0#32)), (54, iv (j : Int)), (55, iv ((j : Int) - 2)), (56, .pointer (some ⟨w0.hz, (j - 2), none⟩)), (57, wv ((sch bs j).getD (j - 2) 0#32)), (5, wv ((sch bs j).getD (j - 15) 0#32)), (2, _), (4, _), (46, _), (47, _)] [] a := Z
  refine ab <| aP (k := 9) 10 [9] kr kr kr ?_
  refine wla Z rfl fun a Z => ab <| aS kr ?_
  refine hK13 _ _ ?_
  replace Z := Z.p4 2 4 5 6 rfl
  refine aF kr (aG kr fun w9 hxz => ?_)
  replace Y := Y.grow hxz
  refine aT (k := 0) 24 [0, 23] Z kr kr kr rfx ?_
  replace Z := Z.p4 2 4 5 6 rfl
  refine aA [6, 18] (fun i => match i with | 6 => pm (fun b : Nat => .slice (some ⟨b, 0, none⟩) 2 2) (fun b => [own (.slice (some ⟨b, 0, none⟩) 2 2) 3 1 [[iv 7], [iv 18]]]) (fun _ => True) | 18 => pm (fun b : Nat => .slice (some ⟨b, 0, none⟩) 2 2) (fun b => [own (.slice (some ⟨b, 0, none⟩) 2 2) 3 1 [[iv 17], [iv 19]]]) (fun _ => True) | _ => fun _ _ => False) 24 [[], [], [1], [2], [3], [], [], [5, 6], [], [8], [7, 9], [4, 10], [], [12], [13], [14], [11, 15], [], [], [17, 18], [], [20], [19, 21], [16, 22]] [iv (j : Int), iv (j : Int), iv ((j : Int) - 16), .pointer (some ⟨w0.hz, (j - 16), none⟩), wv ((sch bs j).getD (j - 16) 0#32), wv ((sch bs j).getD (j - 15) 0#32), undef, wv (mix ((sch bs j).getD (j - 15) 0#32) [7, 18]), wv ((sch bs j).getD (j - 15) 0#32), wv (((sch bs j).getD (j - 15) 0#32) >>> 3), wv ((mix ((sch bs j).getD (j - 15) 0#32) [7, 18]) ^^^ (((sch bs j).getD (j - 15) 0#32) >>> 3)), wv (((sch bs j).getD (j - 16) 0#32) + ((mix ((sch bs j).getD (j - 15) 0#32) [7, 18]) ^^^ (((sch bs j).getD (j - 15) 0#32) >>> 3))), iv (j : Int), iv ((j : Int) - 7), .pointer (some ⟨w0.hz, (j - 7), none⟩), wv ((sch bs j).getD (j - 7) 0#32), wv ((((sch bs j).getD (j - 16) 0#32) + ((mix ((sch bs j).getD (j - 15) 0#32) [7, 18]) ^^^ (((sch bs j).getD (j - 15) 0#32) >>> 3))) + ((sch bs j).getD (j - 7) 0#32)), wv ((sch bs j).getD (j - 2) 0#32), undef, wv (mix ((sch bs j).getD (j - 2) 0#32) [17, 19]), wv ((sch bs j).getD (j - 2) 0#32), wv (((sch bs j).getD (j - 2) 0#32) >>> 10), wv ((mix ((sch bs j).getD (j - 2) 0#32) [17, 19]) ^^^ (((sch bs j).getD (j - 2) 0#32) >>> 10)), wv (((((sch bs j).getD (j - 16) 0#32) + ((mix ((sch bs j).getD (j - 15) 0#32) [7, 18]) ^^^ (((sch bs j).getD (j - 15) 0#32) >>> 3))) + ((sch bs j).getD (j - 7) 0#32)) + ((mix ((sch bs j).getD (j - 2) 0#32) [17, 19]) ^^^ (((sch bs j).getD (j - 2) 0#32) >>> 10)))] Z Y kr kr kr ?_ ?_ ?_
  ·intro i hi hiq
   match i, hi, hiq with
   | 0, _, _ => exact fun w Y => OpV.g (ah rfl)
   | 1, _, _ => exact fun w Y => OpV.g (ah rfl)
   | 2, _, _ => exact fun w Y => OpV.g (bh rfl rfl ⟨om, om⟩)
   | 3, _, _ => exact fun w Y => OpV.g ((bl (n := 64) (i := (j : Int) - 16) rfl rfl (runUnderlying161 _) (sizeOf116 _) om om).as (v' := .pointer (some ⟨w0.hz, (j - 16), none⟩)) (by rw [show 0 + ((j : Int) - 16 : Int).toNat = (j - 16) from by omega]))
   | 4, _, _ => exact fun w Y => OpV.g (bP (Y.g 0 rfl) rfl (isAgg116 _) (cZ (d := 0#32) (by have := (aB bs j); omega)))
   | 5, _, _ => exact fun w Y => OpV.g (ah rfl)
   | 6, _, h => exact absurd sm h
   | 7, _, _ =>
    rintro _ _ ⟨b3, rfl, -, rfl⟩
    intro w Y
    exact bw call116 rfl (fc ((sch bs j).getD (j - 15) 0#32) (.slice (some ⟨b3, 0, none⟩) 2 2) [7, 18] _ (Y.ow 0 rfl) de)
   | 8, _, _ => exact fun w Y => OpV.g (ah rfl)
   | 9, _, _ => exact fun w Y => OpV.g (dv (n := 3) rfl rfl)
   | 10, _, _ => exact fun w Y => OpV.g (cc rfl rfl)
   | 11, _, _ => exact fun w Y => OpV.g (bN rfl rfl)
   | 12, _, _ => exact fun w Y => OpV.g (ah rfl)
   | 13, _, _ => exact fun w Y => OpV.g (bh rfl rfl ⟨om, om⟩)
   | 14, _, _ => exact fun w Y => OpV.g ((bl (n := 64) (i := (j : Int) - 7) rfl rfl (runUnderlying161 _) (sizeOf116 _) om om).as (v' := .pointer (some ⟨w0.hz, (j - 7), none⟩)) (by rw [show 0 + ((j : Int) - 7 : Int).toNat = (j - 7) from by omega]))
   | 15, _, _ => exact fun w Y => OpV.g (bP (Y.g 0 rfl) rfl (isAgg116 _) (cZ (d := 0#32) (by have := (aB bs j); omega)))
   | 16, _, _ => exact fun w Y => OpV.g (bN rfl rfl)
   | 17, _, _ => exact fun w Y => OpV.g (ah rfl)
   | 18, _, h => exact absurd sm h
   | 19, _, _ =>
    rintro _ _ ⟨b4, rfl, -, rfl⟩
    intro w Y
    exact bw call116 rfl (fc ((sch bs j).getD (j - 2) 0#32) (.slice (some ⟨b4, 0, none⟩) 2 2) [17, 19] _ (Y.ow 0 rfl) de)
   | 20, _, _ => exact fun w Y => OpV.g (ah rfl)
   | 21, _, _ => exact fun w Y => OpV.g (dv (n := 10) rfl rfl)
   | 22, _, _ => exact fun w Y => OpV.g (cc rfl rfl)
   | 23, _, _ => exact fun w Y => OpV.g (bN rfl rfl)
   | i + 24, h, _ => exact absurd h om
  ·intro i hi
   simp only [List.mem_cons, List.not_mem_nil, or_false] at hi
   rcases hi with rfl | rfl
   ·intro w Y
    exact aX (E := 3) (sz := 1) rfl [[iv 7], [iv 18]] (fun _ => by kernel_rfl) sm rfl de
   ·intro w Y
    exact aX (E := 3) (sz := 1) rfl [[iv 17], [iv 19]] (fun _ => by kernel_rfl) sm rfl de
  clear Z Y
  rintro _ _ ⟨b3, rfl, -, rfl⟩ _ _ ⟨b4, rfl, -, rfl⟩ a w10 Z Y
  replace Z : Fr 84 [(58, iv (j : Int)), (59, iv (j : Int)), (60, iv ((j : Int) - 16)), (61, .pointer (some ⟨w0.hz, (j - 16), none⟩)), (62, wv ((sch bs j).getD (j - 16) 0#32)), (63, wv ((sch bs j).getD (j - 15) 0#32)), (64, _), (65, wv (mix ((sch bs j).getD (j - 15) 0#32) [7, 18])), (66, wv ((sch bs j).getD (j - 15) 0#32)), (67, wv (((sch bs j).getD (j - 15) 0#32) >>> 3)), (68, wv ((mix ((sch bs j).getD (j - 15) 0#32) [7, 18]) ^^^ (((sch bs j).getD (j - 15) 0#32) >>> 3))), (69, wv (((sch bs j).getD (j - 16) 0#32) + ((mix ((sch bs j).getD (j - 15) 0#32) [7, 18]) ^^^ (((sch bs j).getD (j - 15) 0#32) >>> 3)))), (70, iv (j : Int)), (71, iv ((j : Int) - 7)), (72, .pointer (some ⟨w0.hz, (j - 7), none⟩)), (73, wv ((sch bs j).getD (j - 7) 0#32)), (74, wv ((((sch bs j).getD (j - 16) 0#32) + ((mix ((sch bs j).getD (j - 15) 0#32) [7, 18]) ^^^ (((sch bs j).getD (j - 15) 0#32) >>> 3))) + ((sch bs j).getD (j - 7) 0#32))), (75, wv ((sch bs j).getD (j - 2) 0#32)), (76, _), (77, wv (mix ((sch bs j).getD (j - 2) 0#32) [17, 19])), (78, wv ((sch bs j).getD (j - 2) 0#32)), (79, wv (((sch bs j).getD (j - 2) 0#32) >>> 10)), (80, wv ((mix ((sch bs j).getD (j - 2) 0#32) [17, 19]) ^^^ (((sch bs j).getD (j - 2) 0#32) >>> 10))), (81, wv (((((sch bs j).getD (j - 16) 0#32) + ((mix ((sch bs j).getD (j - 15) 0#32) [7, 18]) ^^^ (((sch bs j).getD (j - 15) 0#32) >>> 3))) + ((sch bs j).getD (j - 7) 0#32)) + ((mix ((sch bs j).getD (j - 2) 0#32) [17, 19]) ^^^ (((sch bs j).getD (j - 2) 0#32) >>> 10)))), (2, _), (4, _), (5, _), (6, _)] [] a := Z
  replace Y : St No w0 [_, _, _] w10 := Y
  refine ab <| aP (k := 24) 26 [25] kr kr kr ?_
  refine wlv Z ((bl (n := 64) (i := (j : Int)) rfl rfl (runUnderlying161 _) (sizeOf116 _) om om).as (v' := .pointer (some ⟨w0.hz, j, none⟩)) (by rw [show 0 + ((j : Int) : Int).toNat = j from by omega])) fun a Z => dp (f := wv) (z := ((((sch bs j).getD (j - 16) 0#32) + ((mix ((sch bs j).getD (j - 15) 0#32) [7, 18]) ^^^ (((sch bs j).getD (j - 15) 0#32) >>> 3))) + ((sch bs j).getD (j - 7) 0#32)) + ((mix ((sch bs j).getD (j - 2) 0#32) [17, 19]) ^^^ (((sch bs j).getD (j - 2) 0#32) >>> 10))) 2 Z Y rfl rfl rfl (sizeOf116 _) rfl rfl (by have := (aB bs j); omega) rfl ?_
  clear Z Y
  intro a w11 Z Y
  refine ab <| aS kr ?_
  refine hK12 _ _ ?_
  replace Z := Z.p2 2 4 rfl
  replace Y := Y.k1 4 rfl
  refine ao <| wlm Z rfl fun a Z => wlv Z (aV rfl rfl ⟨om, om⟩) fun a Z => wla Z rfl fun a Z => ab ?_
  rw [show (sch bs j).set j (((((sch bs j).getD (j - 16) 0#32) + ((mix ((sch bs j).getD (j - 15) 0#32) [7, 18]) ^^^ (((sch bs j).getD (j - 15) 0#32) >>> 3))) + ((sch bs j).getD (j - 7) 0#32)) + ((mix ((sch bs j).getD (j - 2) 0#32) [17, 19]) ^^^ (((sch bs j).getD (j - 2) 0#32) >>> 10))) = sch bs (j + 1) from by rw [sch, if_neg om, nx]] at Y
  refine ⟨_, ?_, j + 1, rfl, om, om, Z.pick [2, 4], Y.select [0] de⟩
  omega
 rw [hc2] at Z
 try simp only [qz] at hc2
 obtain rfl : j = 64 := by omega
 refine aJ <| hK8 _ _ <| aa fun K14 hK14 => wlv Z (aw (Y.g 0 rfl) rfl (isAgg161 _) (by rw [List.length_map, (aB bs 64)]; exact sizeOf161 _)) fun a Z => fj 0 Z Y rfl rfl rfl (sizeOf161 _) (aB bs 64) (aB bs 64) rfl ?_
 clear Z Y
 intro a w12 Z Y
 refine ab (hK14 _ _ <| ap ?_)
 refine al Z results115 (aM rfl (bU (Y.g 0 rfl) (isAgg161 _) (by rw [List.length_map, (aB bs 64)]; exact sizeOf161 _)) ag) ?_
 exact ⟨by rfl, Y.ext⟩
def addTo (x y : W8) : Nat → List Wd
 | 0 => x.l
 | j + 1 => (addTo x y j).set j (x.l.getD j 0#32 + y.l.getD j 0#32)
theorem hC (x y : W8) (j : Nat) : (addTo x y j).length = 8 := by
 induction j with
 | zero => rfl
 | succ j ih => rw [addTo, List.length_set, ih]
theorem jt (x y : W8) {k : Nat} : ∀ j, j ≤ k → (addTo x y j).getD k 0#32 = x.l.getD k 0#32
 | 0, _ => rfl
 | j + 1, h => by
  rw [addTo, List.getD_eq_getElem?_getD, List.getElem?_set_ne om, ← List.getD_eq_getElem?_getD]
  exact jt x y j om
theorem lX {x y : W8} {j : Nat} (h : j < 8) : (addTo x y j).getD j 0#32 = x.l.getD j 0#32 := jt x y j (Nat.le_refl _)
theorem mb (x y : W8) : addTo x y 8 = (x.add y).l := rfl
theorem pW (b : Nat) (hv : W8) (bv : Value) (bs : List UInt8) (w0 : World) (hb : (blk b [wv hv.a, wv hv.b, wv hv.c, wv hv.d, wv hv.e, wv hv.f, wv hv.g, wv hv.h] 142).ok w0) (hk0 : (blk 0 (kOf.map wv) 161).ok w0) (hb0 : ¬ (0 = b)) (hbv : SlAt w0 bv 1 (bs.map fun b => [yv b])) (hbl : bs.length = 64) (hnb : ∀ k, slBlk bv = some k → ¬ (k = b)) :
  Ret Tryz.prog 101 #[pt b, bv] w0 fun v w => v = .tuple #[] ∧ Ext (· = b) w0 w ∧ (blk b ((block hv bs).l.map wv) 142).ok w := by
 refine aD func101 rfl ntmps101 (lb rfl) fun a Z => ?_
 replace Z := Z.p2 0 1 rfl
 replace Y : St (· = b) w0 [blk b [wv hv.a, wv hv.b, wv hv.c, wv hv.d, wv hv.e, wv hv.f, wv hv.g, wv hv.h] 142] w0 := St.one hb
 refine aa fun K1 hK1 => wlm Z rfl fun a Z => am Z Y de call115 rfl (ki bv bs _ (hbv.ext Y.ext hnb) hbl) ?_
 clear Z Y
 intro a w1 Z Y
 refine aU Z Y de (zeroValue161 _) (cs := (List.replicate 64 0#32).map wv) kr ?_
 clear Z Y
 intro a w2 Z Y
 refine fj 0 Z Y rfl rfl rfl (sizeOf161 _) (aB bs 64) (List.length_replicate : (List.replicate 64 0#32).length = 64) rfl ?_
 clear Z Y
 intro a w3 Z Y
 refine ab (hK1 _ _ <| aa fun K2 hK2 => ?_)
 refine wlm Z rfl fun a Z => wlv Z (bp rfl) fun a Z => wlv Z (aw (Y.g 1 rfl) rfl (isAgg142 _) (sizeOf142 _)) fun a Z => aU Z Y de (zeroValue142 _) (cs := [wv (0#32), wv (0#32), wv (0#32), wv (0#32), wv (0#32), wv (0#32), wv (0#32), wv (0#32)]) rfl ?_
 clear Z Y
 intro a w4 Z Y
 refine aH 0 Z Y rfl rfl rfl (sizeOf142 _) rfl (lb rfl) (ds := [wv hv.a, wv hv.b, wv hv.c, wv hv.d, wv hv.e, wv hv.f, wv hv.g, wv hv.h]) rfl rfl ?_
 clear Z Y
 intro a w5 Z Y
 refine ab (hK2 _ _ ?_)
 replace Z := Z.p3 0 4 5 rfl
 refine ae fun K3 hK3 => aa fun K4 hK4 => wlv Z (aw (Y.keepM hk0 hb0) rfl (isAgg161 _) (by rw [List.length_map, bf]; exact sizeOf161 _)) fun a Z => wlm Z rfl fun a Z => ab (hK4 _ _ <| aq ?_)
 refine aR (fun m a w => ∃ (k : Nat) (v : W8), m = 64 - k ∧ (k ≤ 64) ∧ (rounds (sch bs 64) hv k = v) ∧ Fr 97 [(0, pt b), (4, pt w1.hz), (5, pt w3.hz), (18, .agg (kOf.map wv).toArray), (19, iv (k : Int))] [] a ∧ St (· = b) w0 [blk w3.hz [wv v.a, wv v.b, wv v.c, wv v.d, wv v.e, wv v.f, wv v.g, wv v.h] 142, blk w1.hz ((sch bs 64).map wv) 161, blk b [wv hv.a, wv hv.b, wv hv.c, wv hv.d, wv hv.e, wv hv.f, wv hv.g, wv hv.h] 142] w) _ ⟨0, hv, rfl, Nat.zero_le _, rfl, Z.pick [0, 4, 5, 18, 19], Y.select [0, 1, 2] de⟩ ?_
 rintro _ a w6 ⟨k, v, rfl, hk, hrv, Z, Y⟩
 refine aa fun K5 hK5 => wlv Z (v_lt rfl rfl) fun a Z => ab (hK5 _ _ <| ae fun K6 hK6 => ?_)
 refine ax Z rfl (fun hc1 => ?_) (fun hc1 => ?_)
 ·rw [hc1] at Z
  try simp only [qz] at hc1
  refine ar <| hK6 _ _ <| ae fun K7 hK7 => aq <| aa fun K8 hK8 => wlm Z rfl fun a Z => wlv Z (fD (cs := kOf.map wv) (i := (k : Int)) rfl rfl (runUnderlying161 _) (sizeOf116 _) (isAgg116 _) om om (by rw [show ((k : Int) : Int).toNat = k from by omega]; exact cZ (d := 0#32) (by have := bf; omega))) fun a Z => wla Z rfl fun a Z => wla Z rfl fun a Z => ab (hK8 _ _ <| ae fun K9 hK9 => ?_)
  refine aF kr (aG kr fun w7 hxz => ?_)
  replace Y : St (· = b) w0 [blk w3.hz [wv v.a, wv v.b, wv v.c, wv v.d, wv v.e, wv v.f, wv v.g, wv v.h] 142, blk w1.hz ((sch bs 64).map wv) 161, blk b [wv hv.a, wv hv.b, wv hv.c, wv hv.d, wv hv.e, wv hv.f, wv hv.g, wv hv.h] 142] w7 := Y.grow hxz
  refine aT (k := 0) 5 [3, 4] Z kr kr kr rfx ?_
  replace Z := Z.p10 0 4 5 18 19 20 21 22 6 7 rfl
  refine aA [] (fun i => match i with | _ => fun _ _ => False) 5 [[], [0], [], [2], [1]] [pt w3.hz, wv v.a, po w3.hz 4, wv v.e, wv v.a] Z Y kr kr kr ?_ ?_ ?_
  ·intro i hi hiq
   match i, hi, hiq with
   | 0, _, _ => exact fun w Y => OpV.g (aY (v := pt w3.hz) rfl rfl kr)
   | 1, _, _ => exact fun w Y => OpV.g (ld Y 0 rfl rfl (isAgg116 _) rfl)
   | 2, _, _ => exact fun w Y => OpV.g (aY (v := po w3.hz 4) rfl rfl kr)
   | 3, _, _ => exact fun w Y => OpV.g (ld Y 0 rfl rfl (isAgg116 _) rfl)
   | 4, _, _ => exact fun w Y => OpV.g (cw rfl)
  ·intro i hi
   exact absurd hi sm
  clear Z Y
  intro  a w8 Z Y
  replace Z : Fr 97 [(23, pt w3.hz), (24, wv v.a), (25, po w3.hz 4), (26, wv v.e), (8, wv v.a), (0, _), (4, _), (5, _), (18, _), (19, _), (20, _), (21, _), (22, _), (6, _), (7, _)] [] a := Z
  refine ab <| aP (k := 5) 6 [5] kr kr kr ?_
  refine wla Z rfl fun a Z => ab <| aS kr ?_
  refine hK9 _ _ ?_
  replace Z := Z.p9 0 4 5 18 19 6 7 8 9 rfl
  refine ae fun K10 hK10 => aF kr (aG kr fun w9 hxz => ?_)
  replace Y : St (· = b) w0 [blk w3.hz [wv v.a, wv v.b, wv v.c, wv v.d, wv v.e, wv v.f, wv v.g, wv v.h] 142, blk w1.hz ((sch bs 64).map wv) 161, blk b [wv hv.a, wv hv.b, wv hv.c, wv hv.d, wv hv.e, wv hv.f, wv hv.g, wv hv.h] 142] w9 := Y.grow hxz
  refine aT (k := 0) 22 [18, 21] Z kr kr kr rfx ?_
  replace Z := Z.p9 0 4 5 18 19 6 7 8 9 rfl
  refine aA [3] (fun i => match i with | 3 => pm (fun b : Nat => .slice (some ⟨b, 0, none⟩) 3 3) (fun b => [own (.slice (some ⟨b, 0, none⟩) 3 3) 3 1 [[iv 6], [iv 11], [iv 25]]]) (fun _ => True) | _ => fun _ _ => False) 22 [[], [0], [], [], [2, 3], [1, 4], [], [], [7], [6, 8], [], [10], [], [12], [11, 13], [9, 14], [5, 15], [], [16, 17], [], [19], [20]] [po w3.hz 7, wv v.h, wv v.e, undef, wv (mix v.e [6, 11, 25]), wv (v.h + (mix v.e [6, 11, 25])), wv v.e, po w3.hz 5, wv v.f, wv (v.e &&& v.f), wv v.e, wv (~~~v.e), po w3.hz 6, wv v.g, wv ((~~~v.e) &&& v.g), wv ((v.e &&& v.f) ^^^ ((~~~v.e) &&& v.g)), wv ((v.h + (mix v.e [6, 11, 25])) + ((v.e &&& v.f) ^^^ ((~~~v.e) &&& v.g))), wv (kOf.getD k 0#32), wv (((v.h + (mix v.e [6, 11, 25])) + ((v.e &&& v.f) ^^^ ((~~~v.e) &&& v.g))) + (kOf.getD k 0#32)), iv (k : Int), .pointer (some ⟨w1.hz, k, none⟩), wv ((sch bs 64).getD k 0#32)] Z Y kr kr kr ?_ ?_ ?_
  ·intro i hi hiq
   match i, hi, hiq with
   | 0, _, _ => exact fun w Y => OpV.g (aY (v := po w3.hz 7) rfl rfl kr)
   | 1, _, _ => exact fun w Y => OpV.g (ld Y 0 rfl rfl (isAgg116 _) rfl)
   | 2, _, _ => exact fun w Y => OpV.g (ah rfl)
   | 3, _, h => exact absurd sm h
   | 4, _, _ =>
    rintro _ _ ⟨b2, rfl, -, rfl⟩
    intro w Y
    exact bw call116 rfl (fc v.e (.slice (some ⟨b2, 0, none⟩) 3 3) [6, 11, 25] _ (Y.ow 0 rfl) de)
   | 5, _, _ => exact fun w Y => OpV.g (bN rfl rfl)
   | 6, _, _ => exact fun w Y => OpV.g (ah rfl)
   | 7, _, _ => exact fun w Y => OpV.g (aY (v := po w3.hz 5) rfl rfl kr)
   | 8, _, _ => exact fun w Y => OpV.g (ld Y 0 rfl rfl (isAgg116 _) rfl)
   | 9, _, _ => exact fun w Y => OpV.g (du rfl rfl)
   | 10, _, _ => exact fun w Y => OpV.g (ah rfl)
   | 11, _, _ => exact fun w Y => OpV.g (ny rfl)
   | 12, _, _ => exact fun w Y => OpV.g (aY (v := po w3.hz 6) rfl rfl kr)
   | 13, _, _ => exact fun w Y => OpV.g (ld Y 0 rfl rfl (isAgg116 _) rfl)
   | 14, _, _ => exact fun w Y => OpV.g (du rfl rfl)
   | 15, _, _ => exact fun w Y => OpV.g (cc rfl rfl)
   | 16, _, _ => exact fun w Y => OpV.g (bN rfl rfl)
   | 17, _, _ => exact fun w Y => OpV.g (ah rfl)
   | 18, _, _ => exact fun w Y => OpV.g (bN rfl rfl)
   | 19, _, _ => exact fun w Y => OpV.g (ah rfl)
   | 20, _, _ => exact fun w Y => OpV.g ((bl (n := 64) (i := (k : Int)) rfl rfl (runUnderlying161 _) (sizeOf116 _) om om).as (v' := .pointer (some ⟨w1.hz, k, none⟩)) (by rw [show 0 + ((k : Int) : Int).toNat = k from by omega]))
   | 21, _, _ => exact fun w Y => OpV.g (bP (Y.g 1 rfl) rfl (isAgg116 _) (cZ (d := 0#32) (by have := (aB bs 64); omega)))
   | i + 22, h, _ => exact absurd h om
  ·intro i hi
   simp only [List.mem_cons, List.not_mem_nil, or_false] at hi
   subst hi
   ·intro w Y
    exact aX (E := 3) (sz := 1) rfl [[iv 6], [iv 11], [iv 25]] (fun _ => by kernel_rfl) sm rfl de
  clear Z Y
  rintro _ _ ⟨b2, rfl, -, rfl⟩ a w10 Z Y
  replace Z : Fr 97 [(27, po w3.hz 7), (28, wv v.h), (29, wv v.e), (30, _), (31, wv (mix v.e [6, 11, 25])), (32, wv (v.h + (mix v.e [6, 11, 25]))), (33, wv v.e), (34, po w3.hz 5), (35, wv v.f), (36, wv (v.e &&& v.f)), (37, wv v.e), (38, wv (~~~v.e)), (39, po w3.hz 6), (40, wv v.g), (41, wv ((~~~v.e) &&& v.g)), (42, wv ((v.e &&& v.f) ^^^ ((~~~v.e) &&& v.g))), (43, wv ((v.h + (mix v.e [6, 11, 25])) + ((v.e &&& v.f) ^^^ ((~~~v.e) &&& v.g)))), (44, wv (kOf.getD k 0#32)), (45, wv (((v.h + (mix v.e [6, 11, 25])) + ((v.e &&& v.f) ^^^ ((~~~v.e) &&& v.g))) + (kOf.getD k 0#32))), (46, iv (k : Int)), (47, .pointer (some ⟨w1.hz, k, none⟩)), (48, wv ((sch bs 64).getD k 0#32)), (0, _), (4, _), (5, _), (18, _), (19, _), (6, _), (7, _), (8, _), (9, _)] [] a := Z
  replace Y : St (· = b) w0 [_, _, _, _] w10 := Y
  refine ab <| aP (k := 22) 24 [23] kr kr kr ?_
  refine wlv Z (bN rfl rfl) fun a Z => wla Z rfl fun a Z => ab <| aS kr ?_
  refine hK10 _ _ ?_
  replace Z := Z.p7 0 4 5 18 19 8 10 rfl
  replace Y := Y.k3 14 rfl
  refine ae fun K11 hK11 => aF kr (aG kr fun w11 hxz => ?_)
  replace Y : St (· = b) w0 [blk w3.hz [wv v.a, wv v.b, wv v.c, wv v.d, wv v.e, wv v.f, wv v.g, wv v.h] 142, blk w1.hz ((sch bs 64).map wv) 161, blk b [wv hv.a, wv hv.b, wv hv.c, wv hv.d, wv hv.e, wv hv.f, wv hv.g, wv hv.h] 142] w11 := Y.grow hxz
  refine aT (k := 0) 18 [2, 17] Z kr kr kr rfx ?_
  replace Z := Z.p7 0 4 5 18 19 8 10 rfl
  refine aA [1] (fun i => match i with | 1 => pm (fun b : Nat => .slice (some ⟨b, 0, none⟩) 3 3) (fun b => [own (.slice (some ⟨b, 0, none⟩) 3 3) 3 1 [[iv 2], [iv 13], [iv 22]]]) (fun _ => True) | _ => fun _ _ => False) 18 [[], [], [0, 1], [], [], [4], [3, 5], [], [], [8], [7, 9], [6, 10], [], [12], [], [14], [13, 15], [11, 16]] [wv v.a, undef, wv (mix v.a [2, 13, 22]), wv v.a, po w3.hz 1, wv v.b, wv (v.a &&& v.b), wv v.a, po w3.hz 2, wv v.c, wv (v.a &&& v.c), wv ((v.a &&& v.b) ^^^ (v.a &&& v.c)), po w3.hz 1, wv v.b, po w3.hz 2, wv v.c, wv (v.b &&& v.c), wv (((v.a &&& v.b) ^^^ (v.a &&& v.c)) ^^^ (v.b &&& v.c))] Z Y kr kr kr ?_ ?_ ?_
  ·intro i hi hiq
   match i, hi, hiq with
   | 0, _, _ => exact fun w Y => OpV.g (ah rfl)
   | 1, _, h => exact absurd sm h
   | 2, _, _ =>
    rintro _ _ ⟨b3, rfl, -, rfl⟩
    intro w Y
    exact bw call116 rfl (fc v.a (.slice (some ⟨b3, 0, none⟩) 3 3) [2, 13, 22] _ (Y.ow 0 rfl) de)
   | 3, _, _ => exact fun w Y => OpV.g (ah rfl)
   | 4, _, _ => exact fun w Y => OpV.g (aY (v := po w3.hz 1) rfl rfl kr)
   | 5, _, _ => exact fun w Y => OpV.g (ld Y 0 rfl rfl (isAgg116 _) rfl)
   | 6, _, _ => exact fun w Y => OpV.g (du rfl rfl)
   | 7, _, _ => exact fun w Y => OpV.g (ah rfl)
   | 8, _, _ => exact fun w Y => OpV.g (aY (v := po w3.hz 2) rfl rfl kr)
   | 9, _, _ => exact fun w Y => OpV.g (ld Y 0 rfl rfl (isAgg116 _) rfl)
   | 10, _, _ => exact fun w Y => OpV.g (du rfl rfl)
   | 11, _, _ => exact fun w Y => OpV.g (cc rfl rfl)
   | 12, _, _ => exact fun w Y => OpV.g (aY (v := po w3.hz 1) rfl rfl kr)
   | 13, _, _ => exact fun w Y => OpV.g (ld Y 0 rfl rfl (isAgg116 _) rfl)
   | 14, _, _ => exact fun w Y => OpV.g (aY (v := po w3.hz 2) rfl rfl kr)
   | 15, _, _ => exact fun w Y => OpV.g (ld Y 0 rfl rfl (isAgg116 _) rfl)
   | 16, _, _ => exact fun w Y => OpV.g (du rfl rfl)
   | 17, _, _ => exact fun w Y => OpV.g (cc rfl rfl)
   | i + 18, h, _ => exact absurd h om
  ·intro i hi
   simp only [List.mem_cons, List.not_mem_nil, or_false] at hi
   subst hi
   ·intro w Y
    exact aX (E := 3) (sz := 1) rfl [[iv 2], [iv 13], [iv 22]] (fun _ => by kernel_rfl) sm rfl de
  clear Z Y
  rintro _ _ ⟨b3, rfl, -, rfl⟩ a w12 Z Y
  replace Z : Fr 97 [(50, wv v.a), (51, _), (52, wv (mix v.a [2, 13, 22])), (53, wv v.a), (54, po w3.hz 1), (55, wv v.b), (56, wv (v.a &&& v.b)), (57, wv v.a), (58, po w3.hz 2), (59, wv v.c), (60, wv (v.a &&& v.c)), (61, wv ((v.a &&& v.b) ^^^ (v.a &&& v.c))), (62, po w3.hz 1), (63, wv v.b), (64, po w3.hz 2), (65, wv v.c), (66, wv (v.b &&& v.c)), (67, wv (((v.a &&& v.b) ^^^ (v.a &&& v.c)) ^^^ (v.b &&& v.c))), (0, _), (4, _), (5, _), (18, _), (19, _), (8, _), (10, _)] [] a := Z
  replace Y : St (· = b) w0 [_, _, _, _] w12 := Y
  refine ab <| aP (k := 18) 20 [19] kr kr kr ?_
  refine wlv Z (bN rfl rfl) fun a Z => wla Z rfl fun a Z => ab <| aS kr ?_
  refine hK11 _ _ ?_
  replace Z := Z.p7 0 4 5 18 19 10 11 rfl
  replace Y := Y.k3 14 rfl
  refine ae fun K12 hK12 => aF kr (aG kr fun w13 hxz => ?_)
  replace Y : St (· = b) w0 [blk w3.hz [wv v.a, wv v.b, wv v.c, wv v.d, wv v.e, wv v.f, wv v.g, wv v.h] 142, blk w1.hz ((sch bs 64).map wv) 161, blk b [wv hv.a, wv hv.b, wv hv.c, wv hv.d, wv hv.e, wv hv.f, wv hv.g, wv hv.h] 142] w13 := Y.grow hxz
  refine aT (k := 0) 2 [0, 1] Z kr kr kr rfx ?_
  replace Z := Z.p7 0 4 5 18 19 10 11 rfl
  refine aA [] (fun i => match i with | _ => fun _ _ => False) 2 [[], []] [.slice (some ⟨w3.hz, 1, none⟩) 7 7, .slice (some ⟨w3.hz, 0, none⟩) 7 8] Z Y kr kr kr ?_ ?_ ?_
  ·intro i hi hiq
   match i, hi, hiq with
   | 0, _, _ => exact fun w Y => OpV.g (eq rfl rfl rfl rfl (cY (n := 8) (l := 1) (h := 8) underlying142 kr (.inr rfl) (.inl ⟨rfl, rfl⟩) de de de))
   | 1, _, _ => exact fun w Y => OpV.g (eq rfl rfl rfl rfl (cY (n := 8) (l := 0) (h := 7) underlying142 kr (.inl ⟨rfl, rfl⟩) (.inr rfl) de de de))
  ·intro i hi
   exact absurd hi sm
  clear Z Y
  intro  a w14 Z Y
  replace Z : Fr 97 [(69, .slice (some ⟨w3.hz, 1, none⟩) 7 7), (70, .slice (some ⟨w3.hz, 0, none⟩) 7 8), (0, _), (4, _), (5, _), (18, _), (19, _), (10, _), (11, _)] [] a := Z
  refine ab <| aP (k := 2) 3 [2] kr kr kr ?_
  refine kK (us := [wv v.a, wv v.b, wv v.c, wv v.d, wv v.e, wv v.f, wv v.g]) (ds := [wv v.a, wv v.a, wv v.b, wv v.c, wv v.d, wv v.e, wv v.f, wv v.g]) 0 Z Y de rfl rfl rfl underlying117 kr rfl rfl rfl (lb rfl) rfl rfl ?_
  clear Z Y
  intro a w15 Z Y
  refine ab <| aS kr ?_
  refine hK12 _ _ <| ao <| wlm Z rfl fun a Z => wlm Z rfl fun a Z => wlv Z (bN rfl rfl) fun a Z => wlv Z (aY (v := po w3.hz 4) rfl rfl kr) fun a Z => wlv Z (ld Y 0 rfl rfl (isAgg116 _) rfl) fun a Z => wlm Z rfl fun a Z => wlv Z (bN rfl rfl) fun a Z => wlv Z (aY (v := pt w3.hz) rfl rfl kr) fun a Z => aH 0 Z Y rfl rfl rfl (sizeOf116 _) rfl (lb rfl) (ds := [wv (((((v.h + (mix v.e [6, 11, 25])) + ((v.e &&& v.f) ^^^ ((~~~v.e) &&& v.g))) + (kOf.getD k 0#32)) + ((sch bs 64).getD k 0#32)) + ((mix v.a [2, 13, 22]) + (((v.a &&& v.b) ^^^ (v.a &&& v.c)) ^^^ (v.b &&& v.c)))), wv v.a, wv v.b, wv v.c, wv v.d, wv v.e, wv v.f, wv v.g]) rfl rfl ?_
  clear Z Y
  intro a w16 Z Y
  refine wlv Z (aY (v := po w3.hz 4) rfl rfl kr) fun a Z => aH 0 Z Y rfl rfl rfl (sizeOf116 _) rfl (lb rfl) (ds := [wv (((((v.h + (mix v.e [6, 11, 25])) + ((v.e &&& v.f) ^^^ ((~~~v.e) &&& v.g))) + (kOf.getD k 0#32)) + ((sch bs 64).getD k 0#32)) + ((mix v.a [2, 13, 22]) + (((v.a &&& v.b) ^^^ (v.a &&& v.c)) ^^^ (v.b &&& v.c)))), wv v.a, wv v.b, wv v.c, wv (v.d + ((((v.h + (mix v.e [6, 11, 25])) + ((v.e &&& v.f) ^^^ ((~~~v.e) &&& v.g))) + (kOf.getD k 0#32)) + ((sch bs 64).getD k 0#32))), wv v.e, wv v.f, wv v.g]) rfl rfl ?_
  clear Z Y
  intro a w17 Z Y
  refine ab <| hK7 _ _ ?_
  replace Z := Z.p5 0 4 5 18 19 rfl
  refine ao <| wlv Z (aV rfl rfl ⟨om, om⟩) fun a Z => wlm Z rfl fun a Z => ab ?_
  refine ⟨_, ?_, k + 1, (rnd v (kOf.getD k 0#32) ((sch bs 64).getD k 0#32)), rfl, om, (by rw [rounds, hrv]), Z.pick [0, 4, 5, 18, 19], Y.select [0, 1, 2] de⟩
  omega
 rw [hc1] at Z
 try simp only [qz] at hc1
 obtain rfl : k = 64 := by omega
 refine aJ <| hK3 _ _ <| aa fun K13 hK13 => wlm Z rfl fun a Z => ab (hK13 _ _ <| aq ?_)
 refine aR (fun m a w => ∃ (j : Nat), m = 8 - j ∧ (j ≤ 8) ∧ Fr 97 [(0, pt b), (5, pt w3.hz), (82, iv (j : Int))] [] a ∧ St (· = b) w0 [blk w3.hz (v.l.map wv) 142, blk b ((addTo hv v j).map wv) 142] w) _ ⟨0, rfl, Nat.zero_le _, Z.pick [0, 5, 82], Y.select [0, 2] de⟩ ?_
 rintro _ a w18 ⟨j, rfl, hj, Z, Y⟩
 refine aa fun K14 hK14 => wlv Z (v_lt rfl rfl) fun a Z => ab (hK14 _ _ <| ae fun K15 hK15 => ?_)
 refine ax Z rfl (fun hc4 => ?_) (fun hc4 => ?_)
 ·rw [hc4] at Z
  try simp only [qz] at hc4
  refine ar <| hK15 _ _ <| ae fun K16 hK16 => aq <| aa fun K17 hK17 => wlm Z rfl fun a Z => wla Z rfl fun a Z => ab (hK17 _ _ <| aF kr (aG kr fun w19 hxz => ?_))
  replace Y : St (· = b) w0 [blk w3.hz (v.l.map wv) 142, blk b ((addTo hv v j).map wv) 142] w19 := Y.grow hxz
  refine aT (k := 0) 10 [8, 9] Z kr kr kr rfx ?_
  replace Z := Z.p6 0 5 82 83 84 12 rfl
  refine aA [] (fun i => match i with | _ => fun _ _ => False) 10 [[], [], [0], [1, 2], [3], [], [5], [6], [4, 7], [0]] [pt b, iv (j : Int), pt b, .pointer (some ⟨b, j, none⟩), wv ((addTo hv v j).getD j 0#32), iv (j : Int), .pointer (some ⟨w3.hz, j, none⟩), wv (v.l.getD j 0#32), wv (((addTo hv v j).getD j 0#32) + (v.l.getD j 0#32)), pt b] Z Y kr kr kr ?_ ?_ ?_
  ·intro i hi hiq
   match i, hi, hiq with
   | 0, _, _ => exact fun w Y => OpV.g (ah rfl)
   | 1, _, _ => exact fun w Y => OpV.g (ah rfl)
   | 2, _, _ => exact fun w Y => OpV.g (bp rfl)
   | 3, _, _ => exact fun w Y => OpV.g ((bl (n := 8) (i := (j : Int)) rfl rfl (runUnderlying142 _) (sizeOf116 _) om om).as (v' := .pointer (some ⟨b, j, none⟩)) (by rw [show 0 + ((j : Int) : Int).toNat = j from by omega]))
   | 4, _, _ => exact fun w Y => OpV.g (bP (Y.g 1 rfl) rfl (isAgg116 _) (cZ (d := 0#32) (by have := (hC hv v j); omega)))
   | 5, _, _ => exact fun w Y => OpV.g (ah rfl)
   | 6, _, _ => exact fun w Y => OpV.g ((bl (n := 8) (i := (j : Int)) rfl rfl (runUnderlying142 _) (sizeOf116 _) om om).as (v' := .pointer (some ⟨w3.hz, j, none⟩)) (by rw [show 0 + ((j : Int) : Int).toNat = j from by omega]))
   | 7, _, _ => exact fun w Y => OpV.g (bP (Y.g 0 rfl) rfl (isAgg116 _) (cZ (d := 0#32) (by have := (W8.l_len v); omega)))
   | 8, _, _ => exact fun w Y => OpV.g (bN rfl rfl)
   | 9, _, _ => exact fun w Y => OpV.g (bp rfl)
  ·intro i hi
   exact absurd hi sm
  clear Z Y
  intro  a w20 Z Y
  replace Z : Fr 97 [(85, pt b), (86, iv (j : Int)), (87, pt b), (88, .pointer (some ⟨b, j, none⟩)), (89, wv ((addTo hv v j).getD j 0#32)), (90, iv (j : Int)), (91, .pointer (some ⟨w3.hz, j, none⟩)), (92, wv (v.l.getD j 0#32)), (93, wv (((addTo hv v j).getD j 0#32) + (v.l.getD j 0#32))), (94, pt b), (0, _), (5, _), (82, _), (83, _), (84, _), (12, _)] [] a := Z
  refine ab <| aP (k := 10) 12 [11] kr kr kr ?_
  refine wlv Z ((bl (n := 8) (i := (j : Int)) rfl rfl (runUnderlying142 _) (sizeOf116 _) om om).as (v' := .pointer (some ⟨b, j, none⟩)) (by rw [show 0 + ((j : Int) : Int).toNat = j from by omega])) fun a Z => dp (f := wv) (z := ((addTo hv v j).getD j 0#32) + (v.l.getD j 0#32)) 1 Z Y rfl rfl rfl (sizeOf116 _) rfl rfl (by have := (hC hv v j); omega) rfl ?_
  clear Z Y
  intro a w21 Z Y
  refine ab <| aS kr ?_
  refine hK16 _ _ ?_
  replace Z := Z.p3 0 5 82 rfl
  refine ao <| wlv Z (aV rfl rfl ⟨om, om⟩) fun a Z => wlm Z rfl fun a Z => ab ?_
  rw [show (addTo hv v j).set j (((addTo hv v j).getD j 0#32) + (v.l.getD j 0#32)) = addTo hv v (j + 1) from by rw [addTo, lX om]] at Y
  refine ⟨_, ?_, j + 1, rfl, om, Z.pick [0, 5, 82], Y.select [0, 1] de⟩
  omega
 rw [hc4] at Z
 try simp only [qz] at hc4
 refine aJ ?_
 refine dt Z results101 ag ?_
 obtain rfl : j = 8 := by omega
 exact ⟨rfl, Y.ext, by rw [block, hrv, ← mb]; exact Y.g 1 rfl⟩
def byteAt (v : W8) (n : Nat) : UInt8 := UInt8.ofNat (v.l.getD (n / 4) 0#32 >>> (24 - 8 * (n % 4))).toNat
def oArr (v : W8) : Nat → List UInt8
 | 0 => List.replicate 32 0
 | n + 1 => (oArr v n).set n (byteAt v n)
theorem jP (v : W8) (n : Nat) : (oArr v n).length = 32 := by
 induction n with
 | zero => exact List.length_replicate
 | succ n ih => rw [oArr, List.length_set, ih]
theorem ni {v : W8} {k j : Nat} (hj : j < 4) : (oArr v (4 * k + j)).set (4 * k + j) (UInt8.ofNat (v.l.getD k 0#32 >>> (24 - 8 * j)).toNat) = oArr v (4 * k + (j + 1)) := by
 show _ = (oArr v (4 * k + j)).set (4 * k + j) (byteAt v (4 * k + j))
 rw [byteAt, show (4 * k + j) / 4 = k from by omega, show (4 * k + j) % 4 = j from by omega]
theorem nL (v : W8) : oArr v 32 = v.out := by kernel_rfl
theorem mq (hw : W8) (w0 : World) :
  Ret Tryz.prog 102 #[.agg #[wv hw.a, wv hw.b, wv hw.c, wv hw.d, wv hw.e, wv hw.f, wv hw.g, wv hw.h]] w0 fun v w => v = sv hw.out ∧ Ext No w0 w := by
 refine aD func102 rfl ntmps102 (lb rfl) fun a Z => ?_
 replace Z := Z.p1 0 rfl
 replace Y : St No w0 [] w0 := St.init w0
 refine aa fun K1 hK1 => bj Z Y de rfl (cs := [wv hw.a, wv hw.b, wv hw.c, wv hw.d, wv hw.e, wv hw.f, wv hw.g, wv hw.h]) rfl ?_
 clear Z Y
 intro a w1 Z Y
 refine wla Z rfl fun a Z => ab (hK1 _ _ <| aa fun K2 hK2 => ?_)
 refine aU Z Y de (zeroValue164 _) (cs := (List.replicate 32 (0 : UInt8)).map yv) kr ?_
 clear Z Y
 intro a w2 Z Y
 refine ab (hK2 _ _ <| ae fun K3 hK3 => ?_)
 refine aa fun K4 hK4 => wlv Z (aw (Y.g 1 rfl) rfl (isAgg142 _) (sizeOf142 _)) fun a Z => wlm Z rfl fun a Z => ab (hK4 _ _ <| aq ?_)
 refine aR (fun m a w => ∃ (k : Nat), m = 8 - k ∧ (k ≤ 8) ∧ Fr 30 [(2, .string (⟨#[]⟩)), (3, pt w1.hz), (7, .agg #[wv hw.a, wv hw.b, wv hw.c, wv hw.d, wv hw.e, wv hw.f, wv hw.g, wv hw.h]), (8, iv (k : Int))] [] a ∧ St No w0 [blk w1.hz ((oArr hw (4 * k)).map yv) 164] w) _ ⟨0, rfl, Nat.zero_le _, Z.pick [2, 3, 7, 8], Y.select [0] de⟩ ?_
 rintro _ a w3 ⟨k, rfl, hk, Z, Y⟩
 refine aa fun K5 hK5 => wlv Z (v_lt rfl rfl) fun a Z => ab (hK5 _ _ <| ae fun K6 hK6 => ?_)
 refine ax Z rfl (fun hc1 => ?_) (fun hc1 => ?_)
 ·rw [hc1] at Z
  try simp only [qz] at hc1
  refine ar <| hK6 _ _ <| ae fun K7 hK7 => aq <| aa fun K8 hK8 => wlm Z rfl fun a Z => wlv Z (fD (cs := hw.l.map wv) (i := (k : Int)) rfl rfl (runUnderlying142 _) (sizeOf116 _) (isAgg116 _) om om (by rw [show ((k : Int) : Int).toNat = k from by omega]; exact cZ (d := 0#32) (by have := (W8.l_len hw); omega))) fun a Z => wla Z rfl fun a Z => wla Z rfl fun a Z => ab (hK8 _ _ <| aa fun K9 hK9 => ?_)
  refine wlm Z rfl fun a Z => ab (hK9 _ _ <| aq ?_)
  refine aR (fun m a w => ∃ (j : Nat), m = 4 - j ∧ (j ≤ 4) ∧ Fr 30 [(2, .string (⟨#[]⟩)), (3, pt w1.hz), (7, .agg #[wv hw.a, wv hw.b, wv hw.c, wv hw.d, wv hw.e, wv hw.f, wv hw.g, wv hw.h]), (8, iv (k : Int)), (4, iv (k : Int)), (5, wv (hw.l.getD k 0#32)), (12, iv (j : Int))] [] a ∧ St No w0 [blk w1.hz ((oArr hw (4 * k + j)).map yv) 164] w) _ ⟨0, rfl, Nat.zero_le _, Z.pick [2, 3, 7, 8, 4, 5, 12], Y.select [0] de⟩ ?_
  rintro _ a w4 ⟨j, rfl, hj, Z, Y⟩
  refine aa fun K10 hK10 => wlv Z (v_lt rfl rfl) fun a Z => ab (hK10 _ _ <| ae fun K11 hK11 => ?_)
  refine ax Z rfl (fun hc2 => ?_) (fun hc2 => ?_)
  ·rw [hc2] at Z
   try simp only [qz] at hc2
   refine ar <| hK11 _ _ <| ae fun K12 hK12 => aq <| aa fun K13 hK13 => wlm Z rfl fun a Z => wla Z rfl fun a Z => ab (hK13 _ _ <| ao ?_)
   refine wlm Z rfl fun a Z => wlv Z (cW rfl rfl ⟨om, om⟩) fun a Z => wlm Z rfl fun a Z => wlv Z (aV rfl rfl ⟨om, om⟩) fun a Z => wlm Z rfl fun a Z => wlm Z rfl fun a Z => wlv Z (cW rfl rfl ⟨om, om⟩) fun a Z => wlv Z ((bh rfl rfl ⟨om, om⟩).asi (m' := ((24 - 8 * j : Nat) : Int)) om) fun a Z => wlv Z (dv (n := (24 - 8 * j)) rfl rfl) fun a Z => wlv Z (dB rfl kr underlying5) fun a Z => wlv Z ((bl (n := 32) (i := (4 * (k : Int)) + (j : Int)) rfl rfl (runUnderlying164 _) (sizeOf5 _) om om).as (v' := .pointer (some ⟨w1.hz, ((4 * k) + j), none⟩)) (by rw [show 0 + ((4 * (k : Int)) + (j : Int) : Int).toNat = ((4 * k) + j) from by omega])) fun a Z => dp (f := yv) (z := UInt8.ofNat ((hw.l.getD k 0#32) >>> (24 - 8 * j)).toNat) 0 Z Y rfl rfl rfl (sizeOf5 _) rfl rfl (by have := (jP hw (4 * k + j)); omega) rfl ?_
   clear Z Y
   intro a w5 Z Y
   refine ab <| hK12 _ _ ?_
   replace Z := Z.p7 2 3 7 8 4 5 12 rfl
   refine ao <| wlv Z (aV rfl rfl ⟨om, om⟩) fun a Z => wlm Z rfl fun a Z => ab ?_
   rw [show (oArr hw (4 * k + j)).set ((4 * k) + j) (UInt8.ofNat ((hw.l.getD k 0#32) >>> (24 - 8 * j)).toNat) = oArr hw (4 * k + (j + 1)) from ni om] at Y
   refine ⟨_, ?_, j + 1, rfl, om, Z.pick [2, 3, 7, 8, 4, 5, 12], Y.select [0] de⟩
   omega
  rw [hc2] at Z
  try simp only [qz] at hc2
  refine aJ <| hK7 _ _ <| ao <| wlv Z (aV rfl rfl ⟨om, om⟩) fun a Z => wlm Z rfl fun a Z => ab ?_
  obtain rfl : j = 4 := by omega
  rw [show 4 * k + 4 = 4 * (k + 1) from by omega] at Y
  refine ⟨_, ?_, k + 1, rfl, om, Z.pick [2, 3, 7, 8], Y.select [0] de⟩
  omega
 rw [hc1] at Z
 try simp only [qz] at hc1
 obtain rfl : k = 8 := by omega
 refine aJ <| hK3 _ _ <| aa fun K14 hK14 => wlv Z (eq rfl rfl rfl rfl (cY (n := 32) (l := 0) (h := 32) underlying164 kr (.inl ⟨rfl, rfl⟩) (.inl ⟨rfl, rfl⟩) de de de)) fun a Z => wlv Z (mL (Y.g 0 rfl) rfl (jP hw (4 * 8)) underlying68 underlying5 underlying9) fun a Z => wla Z rfl fun a Z => ab (hK14 _ _ ?_)
 replace Z := Z.p1 2 rfl
 replace Y : St No w0 [] w3 := Y.mask [false]
 refine ap ?_
 refine al Z results102 (ac rfl ag) ?_
 exact ⟨by simp only [retv]; rw [← nL]; try rfl, Y.ext⟩
end Go.Proofs.YtddfkkdanpmnaaaGreatDoor
