/- Texts joined: ShaP, Chk, Pre, Byt, App, Scp, Chn, Sto, Chd, Lnk, Mks, Lst, U64, Bld, Pan, Rdr, DigP, DigQ, DigR, DigT, DigU, WirP, WshP, WshQ, WshR, IntR, LogP, LogQ, Tak, Shelf, DigA, DigB, DigC. -/
import GoSem.Core.View
import Derived.Test.YtddfkkdanpmnaaaDoorPMA
import Derived.Scope
import Derived.Laws.MakeOwn
import Derived.Lib.AppendStr
import Derived.Lib.Builder
import Derived.Lib.UnsafeStr
import Derived.Laws.Externs
import Derived.RecoverIn
import GoSem.Core.Value
import Derived.Shelf.Strings.Builder1
import Derived.Shelf.Strings.Builder2
import Derived.Shelf.Strings.OnBuilder
import Derived.Shelf.Small.Bits
import Derived.Shelf.Strings.BuilderF
import Derived.Shelf.Strings.BuilderK
import Derived.Shelf.Strings.Builder2Cap
import Derived.Shelf.Strconv.Itoa0
import Derived.Shelf.Strings.BuilderCap
import Derived.Ground.Names2Prog
import Derived.Shelf.Slices.ReverseS
import Derived.Shelf.Slices.Cells
import Derived.Ground.SlgnProg
import Derived.Shelf.SlicesE.Reverse
import Derived.Test.YtddfkkdanpmnaaaDoorProg
import Derived.Test.YtddfkkdanpmnaaaDoorRows
set_option linter.unusedVariables false
set_option linter.unusedSimpArgs false
set_option maxRecDepth 4000
set_option maxHeartbeats 4000000
namespace Go.Proofs.YtddfkkdanpmnaaaDoor
abbrev Wd := BitVec 32
def ror (x : Wd) (n : Nat) : Wd := (x <<< (32 - n)) ||| (x >>> n)
def mix (x : Wd) (ns : List Nat) : Wd := ns.foldl (fun o n => o ^^^ ror x n) 0#32
def be (bs : List UInt8) (i : Nat) : Wd :=
 (((BitVec.ofNat 32 (bs.getD (4 * i) 0).toNat) <<< 24 ||| (BitVec.ofNat 32 (bs.getD (4 * i + 1) 0).toNat) <<< 16) ||| (BitVec.ofNat 32 (bs.getD (4 * i + 2) 0).toNat) <<< 8) ||| BitVec.ofNat 32 (bs.getD (4 * i + 3) 0).toNat
def nx (ws : List Wd) (i : Nat) : Wd :=
 ((ws.getD (i - 16) 0#32 + (mix (ws.getD (i - 15) 0#32) [7, 18] ^^^ (ws.getD (i - 15) 0#32 >>> 3))) + ws.getD (i - 7) 0#32) + (mix (ws.getD (i - 2) 0#32) [17, 19] ^^^ (ws.getD (i - 2) 0#32 >>> 10))
def sch (bs : List UInt8) : Nat → List Wd
 | 0 => List.replicate 64 0#32
 | i + 1 => (sch bs i).set i (if i < 16 then be bs i else nx (sch bs i) i)
theorem aF (bs : List UInt8) (i : Nat) : (sch bs i).length = 64 := by
 induction i with
 | zero => exact List.length_replicate
 | succ i ih => rw [sch, List.length_set, ih]
structure W8 where
 a : Wd
 b : Wd
 c : Wd
 d : Wd
 e : Wd
 f : Wd
 g : Wd
 h : Wd
def W8.l (v : W8) : List Wd := [v.a, v.b, v.c, v.d, v.e, v.f, v.g, v.h]
theorem W8.l_len (v : W8) : v.l.length = 8 := rfl
def tOf (v : W8) (k w : Wd) : Wd := (((v.h + mix v.e [6, 11, 25]) + ((v.e &&& v.f) ^^^ ((~~~v.e) &&& v.g))) + k) + w
def uOf (v : W8) : Wd := mix v.a [2, 13, 22] + (((v.a &&& v.b) ^^^ (v.a &&& v.c)) ^^^ (v.b &&& v.c))
def rnd (v : W8) (k w : Wd) : W8 := ⟨tOf v k w + uOf v, v.a, v.b, v.c, v.d + tOf v k w, v.e, v.f, v.g⟩
def kOf : List Wd := [
 0x428a2f98#32, 0x71374491#32, 0xb5c0fbcf#32, 0xe9b5dba5#32, 0x3956c25b#32, 0x59f111f1#32, 0x923f82a4#32, 0xab1c5ed5#32,
 0xd807aa98#32, 0x12835b01#32, 0x243185be#32, 0x550c7dc3#32, 0x72be5d74#32, 0x80deb1fe#32, 0x9bdc06a7#32, 0xc19bf174#32,
 0xe49b69c1#32, 0xefbe4786#32, 0x0fc19dc6#32, 0x240ca1cc#32, 0x2de92c6f#32, 0x4a7484aa#32, 0x5cb0a9dc#32, 0x76f988da#32,
 0x983e5152#32, 0xa831c66d#32, 0xb00327c8#32, 0xbf597fc7#32, 0xc6e00bf3#32, 0xd5a79147#32, 0x06ca6351#32, 0x14292967#32,
 0x27b70a85#32, 0x2e1b2138#32, 0x4d2c6dfc#32, 0x53380d13#32, 0x650a7354#32, 0x766a0abb#32, 0x81c2c92e#32, 0x92722c85#32,
 0xa2bfe8a1#32, 0xa81a664b#32, 0xc24b8b70#32, 0xc76c51a3#32, 0xd192e819#32, 0xd6990624#32, 0xf40e3585#32, 0x106aa070#32,
 0x19a4c116#32, 0x1e376c08#32, 0x2748774c#32, 0x34b0bcb5#32, 0x391c0cb3#32, 0x4ed8aa4a#32, 0x5b9cca4f#32, 0x682e6ff3#32,
 0x748f82ee#32, 0x78a5636f#32, 0x84c87814#32, 0x8cc70208#32, 0x90befffa#32, 0xa4506ceb#32, 0xbef9a3f7#32, 0xc67178f2#32]
theorem bl : kOf.length = 64 := rfl
def rounds (ws : List Wd) (v : W8) : Nat → W8
 | 0 => v
 | i + 1 => rnd (rounds ws v i) (kOf.getD i 0#32) (ws.getD i 0#32)
def W8.add (x y : W8) : W8 := ⟨x.a + y.a, x.b + y.b, x.c + y.c, x.d + y.d, x.e + y.e, x.f + y.f, x.g + y.g, x.h + y.h⟩
def block (h : W8) (bs : List UInt8) : W8 := h.add (rounds (sch bs 64) h 64)
def h0 : W8 := ⟨0x6a09e667#32, 0xbb67ae85#32, 0x3c6ef372#32, 0xa54ff53a#32, 0x510e527f#32, 0x9b05688c#32, 0x1f83d9ab#32, 0x5be0cd19#32⟩
def blocks (h : W8) (bs : List UInt8) : Nat → W8
 | 0 => h
 | n + 1 => block (blocks h bs n) ((bs.drop (64 * n)).take 64)
def zeros (n : Nat) : Nat := (119 - n % 64) % 64
def bx (n : Nat) : List UInt8 := (List.range 8).map fun i => UInt8.ofNat (8 * n / 2 ^ (8 * (7 - i)))
def padded (s : List UInt8) : List UInt8 := s ++ [128] ++ List.replicate (zeros s.length) 0 ++ bx s.length
theorem eK (s : List UInt8) : 64 ∣ (padded s).length := by
 simp only [padded, bx, zeros, List.length_append, List.length_replicate, List.length_map, List.length_range, List.length_cons, List.length_nil]
 omega
def kT (x : Wd) : List UInt8 := [UInt8.ofNat (x >>> 24).toNat, UInt8.ofNat (x >>> 16).toNat, UInt8.ofNat (x >>> 8).toNat, UInt8.ofNat (x >>> 0).toNat]
def W8.out (v : W8) : List UInt8 := v.l.flatMap kT
def sha (s : List UInt8) : List UInt8 := (blocks h0 (padded s) ((padded s).length / 64)).out
theorem fQ (v : W8) : v.out.length = 32 := rfl
theorem bY (s : List UInt8) : (sha s).length = 32 := fQ _
end Go.Proofs.YtddfkkdanpmnaaaDoor
namespace Go.PW
open Go.RowKit
def cut (v : Value) (sz l h m : Nat) : Value :=
 match v with
 | .slice a n c => .slice (if m = l then a else a.map (·.add (l * sz))) (h - l) (m - l)
 | v => v
def slCap : Value → Nat
 | .slice _ _ c => c
 | _ => 0
def Shp (v : Value) (n : Nat) : Prop := ∃ a c, v = .slice a n c ∧ n ≤ c
section
variable {P : Program} {w0 w : World} {M : Nat → Prop} {H : List Ent} {N : Nat} {df : List Deferred} {L : List (Nat × Value)} {a : Act} {r : Option Nat} {ops : Array Oper} {K : Act → World → Prop} {rest : List Oper} {d : Nat} {dst : Option Tmp} {ty T T' E : TypeId} {pos : String} {af : Array Edge} {gd : Option (Nat × Bool)} {x y : Operand} {v u : Value} {sz : Nat} {els : List (List Value)}
theorem SlAt.shp (h : SlAt w v sz els) : Shp v els.length := by
 rcases h.2.2 with ⟨rfl, rfl⟩ | ⟨b, off, cap, rfl, hc, _⟩
 ·exact ⟨none, 0, rfl, Nat.le_refl _⟩
 ·exact ⟨_, _, rfl, hc⟩
theorem Shp.cap {n : Nat} (h : Shp v n) : n ≤ slCap v := by
 obtain ⟨a, c, rfl, hc⟩ := h; exact hc
theorem Shp.cut {n l h m : Nat} (hs : Shp v n) (hhm : h ≤ m) : Shp (cut v sz l h m) (h - l) := by
 obtain ⟨a, c, rfl, hc⟩ := hs; exact ⟨_, _, rfl, by omega⟩
theorem kW {ats : Array TypeId} {sT : TypeId} {n : Nat} (h : Shp v n) (hx : ev L x = some v) (hat : ats[0]? = some sT) (hu : (underlying sT).run P w = .ok (.slice E) w) :
  OpV P ⟨dst, .call { callee := .builtin .len, args := #[x], argTypes := ats }, ty, pos, af, gd⟩ L w (.int .i64 n) := by
 refine cE (xs := [x]) (vs := [v]) (by simp [evs, hx]) ?_
 obtain ⟨a, c, rfl, hc⟩ := h
 simp [builtin, Builtin.len_, hat, hu, goInt]
theorem jg {n l h m : Nat} {lo hi mx : Option Value} (hs : Shp v n) (hu : P.underlying T = some (.slice E)) (hsz : (P.info? E).map (·.size) = some sz)
  (hlo : lo = none ∧ l = 0 ∨ lo = some (.int .i64 (l : Int))) (hhi : (hi = none ∧ mx = none ∧ h = n) ∨ hi = some (.int .i64 (h : Int))) (hmx : mx = none ∧ m = slCap v ∨ mx = some (.int .i64 (m : Int))) (hlh : l ≤ h) (hhm : h ≤ m) (hmc : m ≤ slCap v) :
  (Instr.sliceAt T v lo hi mx).run P w = .ok (cut v sz l h m) w := by
 obtain ⟨a, c, rfl, hc⟩ := hs
 cases hq : P.info? E with
 | none => simp [hq] at hsz
 | some i =>
  have hi1 : i.size = sz := by simpa [hq] using hsz
  simp only [slCap] at hmx hmc
  have hl2 : (l : Int) ≤ (h : Int) := by omega
  have hh2 : (h : Int) ≤ (m : Int) := by omega
  have hm2 : (m : Int) ≤ (c : Int) := by omega
  rcases hlo with ⟨rfl, rfl⟩ | rfl <;> rcases hhi with ⟨rfl, rfl, rfl⟩ | rfl <;> rcases hmx with ⟨hz, rfl⟩ | hz <;> cases hz <;>
   simp [Instr.sliceAt, Instr.slice, run_underlying hu, Instr.sliceBounds, Instr.sliceBound, asIntOf, sizeOf, typeInfo, hq, hi1, hlh, hhm, hmc, cut]
theorem fl {n l h m : Nat} {lo hi mx : Option Operand} {lv hv mv : Option Value} (hs : Shp v n) (hx : ev L x = some v) (e1 : evo L lo = some lv) (e2 : evo L hi = some hv) (e3 : evo L mx = some mv) (hu : P.underlying T = some (.slice E)) (hsz : (P.info? E).map (·.size) = some sz)
  (hlo : lv = none ∧ l = 0 ∨ lv = some (.int .i64 (l : Int))) (hhi : (hv = none ∧ mv = none ∧ h = n) ∨ hv = some (.int .i64 (h : Int))) (hmx : mv = none ∧ m = slCap v ∨ mv = some (.int .i64 (m : Int))) (hlh : l ≤ h) (hhm : h ≤ m) (hmc : m ≤ slCap v) :
  OpV P ⟨dst, .slice T x lo hi mx, ty, pos, af, gd⟩ L w (cut v sz l h m) :=
 ep hx e1 e2 e3 (jg hs hu hsz hlo hhi hmx hlh hhm hmc)
theorem lU {els : List (List Value)} (h1 : ∀ e ∈ els, e.length = sz) : ∀ l, els.flatten.drop (l * sz) = (els.drop l).flatten := by
 induction els with
 | nil => intro l; simp
 | cons e els ih =>
  intro l
  cases l with
  | zero => simp
  | succ l =>
   have he := h1 e sm
   rw [List.flatten_cons, List.drop_succ_cons, ← ih (fun x hx => h1 x (by simp [hx])), Nat.succ_mul, List.drop_append, List.drop_eq_nil_of_le om, List.nil_append]
   congr 1; omega
theorem im {els : List (List Value)} (h1 : ∀ e ∈ els, e.length = sz) : ∀ l, els.flatten.take (l * sz) = (els.take l).flatten := by
 induction els with
 | nil => intro l; simp
 | cons e els ih =>
  intro l
  cases l with
  | zero => simp
  | succ l =>
   have he := h1 e sm
   rw [List.flatten_cons, List.take_succ_cons, List.flatten_cons, ← ih (fun x hx => h1 x (by simp [hx])), Nat.succ_mul, List.take_append, List.take_of_length_le om]
   congr 2; omega
theorem SlAt.cut {l h m : Nat} (hv : SlAt w v sz els) (hlh : l ≤ h) (hh : h ≤ els.length) (hhm : h ≤ m) (hmc : m ≤ slCap v) : SlAt w (PW.cut v sz l h m) sz ((els.drop l).take (h - l)) := by
 obtain ⟨h1, h2, h3⟩ := hv
 have hlen : ((els.drop l).take (h - l)).length = h - l := by simp; omega
 refine ⟨fun e he => h1 e (List.mem_of_mem_drop (List.mem_of_mem_take he)), by omega, ?_⟩
 rcases h3 with ⟨rfl, rfl⟩ | ⟨b, off, cap, rfl, hc, hb, hcells⟩
 ·have : h = 0 := by simpa using hh
  subst this
  have : l = 0 := by omega
  subst this
  have : m = 0 := by simpa [slCap] using hmc
  subst this; exact .inl ⟨rfl, by simp⟩
 ·right
  by_cases hm : m = l
  ·have : h - l = 0 := by omega
   refine ⟨b, off, m - l, by simp [PW.cut, hm, hlen, this], by omega, hb, ?_⟩
   rw [List.eq_nil_of_length_eq_zero (hlen.trans this)]
   intro j u hj; simp at hj
  ·refine ⟨b, off + l * sz, m - l, by simp [PW.cut, hm, hlen, bL], by omega, hb, hcells.sub (n := (h - l) * sz) ?_⟩
   rw [lU h1, im fun e he => h1 e (List.mem_of_mem_drop he)]
theorem iZ {xs : List UInt8} {eT : TypeId} (hx : ev L x = some (sv xs)) (hs : P.underlying T = some .string) (hd : P.underlying T' = some (.slice eT)) (he : P.underlying eT = some (.int .u8)) (hlen : xs.length ≤ big) :
  OpR P r ⟨dst, .convert T T' x, ty, pos, af, gd⟩ L w fun v' w' => Ext No w w' ∧ (own v' eT 1 (xs.map fun b => [yv b])).ok w' ∧ ∀ k, (own v' eT 1 (xs.map fun b => [yv b])).foot k → w.heap.size ≤ k ∧ k < w'.heap.size := by
 intro N df a Y
 have hr := run_bytes_of_string (P := P) w T T' eT ⟨xs.toArray⟩ hs hd he
 have hsz : (ByteArray.mk xs.toArray).size = xs.length := by simp [ByteArray.size]
 rw [hsz] at hr
 have hge := grownCap_ge w xs.length 0 eT
 have hcm : grownCap w xs.length 0 eT ≤ maxLen := grownCap_le_maxLen w xs.length 0 eT (by simp only [maxLen]; unfold big at hlen; omega)
 have hbs : (bytesRow ⟨xs.toArray⟩ (grownCap w xs.length 0 eT)).size = grownCap w xs.length 0 eT := by simp [bytesRow, hsz]; omega
 refine bG rfl (v := .slice (some ⟨w.heap.size, 0, none⟩) xs.length (grownCap w xs.length 0 eT)) (w' := w.drew.alloc (.cells (bytesRow ⟨xs.toArray⟩ (grownCap w xs.length 0 eT)) eT ((bytesRow ⟨xs.toArray⟩ (grownCap w xs.length 0 eT)).size, (bytesRow ⟨xs.toArray⟩ (grownCap w xs.length 0 eT)).size + 1))) ?_ ⟨_, rfl, ?_, ?_, ?_⟩
 ·simp only [execOp, Y.eval hx, sv, Sem.run_bind, hr, Result.andThen_ok]; rfl
 ·exact (Ext.drew No w).trans' (Ext.alloc No w.drew _)
 ·refine ⟨by simp, by simpa using hlen, by simp [eH], .inr ⟨w.heap.size, grownCap w xs.length 0 eT, _, _, by simp, World.alloc_heap_new w.drew _, .inr (by rw [hbs]; omega), by simpa using hge, hcm, by rw [hbs]; omega, ?_⟩⟩
  simp only [List.length_map, Nat.mul_one, bytesRow, eH, Array.toList_append]
  rw [List.take_left' sm]
  simp [yv]
 ·intro k hk
  have : w.heap.size = k := by simpa [own, Value.ownBlock] using hk
  subst this; simp
theorem gO {xs : List UInt8} {eT : TypeId} (hx : ev L x = some (sv xs)) (hs : P.underlying T = some .string) (hd : P.underlying T' = some (.slice eT)) (he : P.underlying eT = some (.int .u8)) (hlen : xs.length ≤ big) (hdn : d < N) (Y : Fr N L df a) (U : St M w0 H w)
  (k : ∀ a w' v', Fr N ((d, v') :: L) df a → St M w0 (own v' eT 1 (xs.map fun b => [yv b]) :: H) w' → WL P r ops K rest a w') :
  WL P r ops K (⟨some d, .convert T T' x, ty, pos, af, none⟩ :: rest) a w :=
 wl_r (iZ hx hs hd he hlen) rfl (decide_eq_true hdn) Y fun a v' w' ⟨h1, h2, h3⟩ h => k _ _ v' h (U.push h1 h2 h3)
theorem gA {f : FuncId} {xs : List Operand} {vs : List Value} {ats : Array TypeId} {b : Nat} {cs ds : List Value} {E : TypeId} {H' : List Ent} (i : Nat) (Y : Fr N L df a) (U : St M w0 H w) (hd : d < N) (hen : ∀ args w, (callFunc f args).run P w = .ok (.enter f args) w) (hx : evs L xs = some vs)
  (hi : H[i]? = some (blk b cs E)) (hc : Ret P f vs.toArray w fun v' w' => v' = v ∧ Ext (· = b) w w' ∧ (blk b ds E).ok w') (hH : H.set i (blk b ds E) = H')
  (k : ∀ a w', Fr N ((d, v) :: L) df a → St M w0 H' w' → WL P r ops K rest a w') :
  WL P r ops K (⟨some d, .call { callee := .value (.func f), args := xs.toArray, argTypes := ats }, ty, pos, af, none⟩ :: rest) a w :=
 wl_r (dT hen hx hc) rfl (decide_eq_true hd) Y fun a v' w' ⟨hv, hw, ho⟩ h => by
  subst hv; subst hH
  exact k _ _ h (U.exchange (e := blk b cs E) (e' := blk b ds E) hi hw ho fun b' hb' => by
   cases hb'
   exact ⟨Nat.lt_of_lt_of_le (U.lt hi rfl) hw.size, .inl rfl⟩)
theorem Ext.const {b : Nat} {cs : List Value} {E : TypeId} (h : Ext (· = b) w0 w) (h1 : (blk b cs E).ok w0) (h2 : (blk b cs E).ok w) : Ext No w0 w :=
 ⟨h.os, h.tape, h.output, h.size, fun k hk _ => by
  by_cases hb : k = b
  ·subst hb; exact (h2 : w.heap[k]? = _).trans (h1 : w0.heap[k]? = _).symm
  ·exact h.same k hk hb⟩
end
end Go.PW
namespace Go.PW
open Go.RowKit
section
variable {w0 w : World} {M : Nat → Prop} {H : List Ent} {E : TypeId} {v : Value} {sz : Nat} {els : List (List Value)}
theorem gp {k : Nat} (h : (own v E sz els).ok w) (hk : k ≤ els.length) : (own (cut v sz 0 k (slCap v)) E sz (els.take k)).ok w ∧ ∀ j, (own (cut v sz 0 k (slCap v)) E sz (els.take k)).foot j → (own v E sz els).foot j := by
 obtain ⟨h1, h2, h3, h4⟩ := h
 have hl : (els.take k).length = k := by rw [List.length_take]; omega
 have hfl : (els.take k).flatten.length = k * sz := by rw [cQ fun e he => h1 e (List.mem_of_mem_take he), hl]
 rcases h4 with ⟨rfl, h0⟩ | ⟨g, cap, cur, fz, rfl, hg, hfz, hnc, hcm, hcs, htk⟩
 ·obtain rfl : els = [] := List.eq_nil_of_length_eq_zero h0
  obtain rfl : k = 0 := by simpa using hk
  exact ⟨⟨by simp, by simp, by simp, .inl ⟨by simp [cut, slCap], by simp⟩⟩, fun j hj => by simp [own, cut, slCap, Value.ownBlock] at hj⟩
 ·have hv : cut (.slice (some ⟨g, 0, none⟩) els.length cap) sz 0 k (slCap (.slice (some ⟨g, 0, none⟩) els.length cap)) = .slice (some ⟨g, 0, none⟩) k cap := by
   simp only [cut, slCap, Nat.zero_mul, Nat.sub_zero, Option.map_some]
   split
   ·rfl
   ·rw [bL]
  refine ⟨⟨fun e he => h1 e (List.mem_of_mem_take he), by omega, by rw [hfl, hl], .inr ⟨g, cap, cur, fz, by rw [hv, hl], hg, hfz, by omega, hcm, hcs, ?_⟩⟩, fun j hj => by rw [hv] at hj; exact hj⟩
  rw [hl, ← im h1, ← htk, List.take_take, Nat.min_eq_left (Nat.mul_le_mul_right sz hk)]
theorem St.take {i k : Nat} (U : St M w0 H w) (hi : H[i]? = some (own v E sz els)) (hk : k ≤ els.length) : St M w0 (H.set i (own (cut v sz 0 k (slCap v)) E sz (els.take k))) w :=
 U.exchange hi (Ext.refl _ _) (gp (U.get hi) hk).1 fun j hj => ⟨U.lt hi ((gp (U.get hi) hk).2 j hj), .inl ((gp (U.get hi) hk).2 j hj)⟩
theorem SlAt.cut0 {α : Type} {xs : List α} {f : α → List Value} {h : Nat} (hs : SlAt w v sz (xs.map f)) (hh : h ≤ xs.length) : SlAt w (PW.cut v sz 0 h (slCap v)) sz ((xs.take h).map f) := by
 have := hs.cut (l := 0) (h := h) (m := slCap v) (Nat.zero_le _) (by simpa using hh) (Nat.le_trans (by simpa using hh) hs.shp.cap) (Nat.le_refl _)
 simpa [List.map_take] using this
theorem SlAt.cutd {α : Type} {xs : List α} {f : α → List Value} {l : Nat} (hs : SlAt w v sz (xs.map f)) (hl : l ≤ xs.length) : SlAt w (PW.cut v sz l xs.length (slCap v)) sz ((xs.drop l).map f) := by
 have := hs.cut (l := l) (h := xs.length) (m := slCap v) hl sm (by have := hs.shp.cap; simpa using this) (Nat.le_refl _)
 rw [← List.map_drop, ← List.map_take] at this
 rwa [List.take_of_length_le sm] at this
theorem bW {P : Program} {L : List (Nat × Value)} {dst : Option Tmp} {T ty eT : TypeId} {pos : String} {af : Array Edge} {gd : Option (Nat × Bool)} {x : Operand} {lo hi : Option Operand} {lv hv : Option Value} {l h : Nat} (hs : SlAt w v sz els) (hx : ev L x = some v) (e1 : evo L lo = some lv) (e2 : evo L hi = some hv) (hu : P.underlying T = some (.slice eT)) (hsz : (P.info? eT).map (·.size) = some sz)
  (hlo : lv = none ∧ l = 0 ∨ lv = some (.int .i64 (l : Int))) (hhi : hv = none ∧ h = els.length ∨ hv = some (.int .i64 (h : Int))) (hlh : l ≤ h) (hh : h ≤ els.length) :
  OpV P ⟨dst, .slice T x lo hi none, ty, pos, af, gd⟩ L w (cut v sz l h (slCap v)) :=
 fl hs.shp hx e1 e2 rfl hu hsz hlo (hhi.elim (fun ⟨a, b⟩ => .inl ⟨a, rfl, b⟩) .inr) (.inl ⟨rfl, rfl⟩) hlh (Nat.le_trans hh hs.shp.cap) (Nat.le_refl _)
end
theorem gW (xs : List UInt8) (l h : Nat) : (ByteArray.mk xs.toArray).extract l h = ⟨((xs.drop l).take (h - l)).toArray⟩ := by
 apply ByteArray.ext
 simp [ByteArray.data_extract]
theorem bS {P : Program} {w : World} {L : List (Nat × Value)} {dst : Option Tmp} {T ty : TypeId} {pos : String} {af : Array Edge} {gd : Option (Nat × Bool)} {x : Operand} {lo hi : Option Operand} {lv hv : Option Value} {l h : Nat} {xs : List UInt8} (hx : ev L x = some (sv xs)) (e1 : evo L lo = some lv) (e2 : evo L hi = some hv) (hu : P.underlying T = some .string)
  (hlo : lv = none ∧ l = 0 ∨ lv = some (.int .i64 (l : Int))) (hhi : hv = none ∧ h = xs.length ∨ hv = some (.int .i64 (h : Int))) (hlh : l ≤ h) (hh : h ≤ xs.length) :
  OpV P ⟨dst, .slice T x lo hi none, ty, pos, af, gd⟩ L w (sv ((xs.drop l).take (h - l))) := by
 refine ep hx e1 e2 rfl ?_
 have hsz : (ByteArray.mk xs.toArray).size = xs.length := by simp [ByteArray.size]
 have hl2 : (l : Int) ≤ (h : Int) := by omega
 have hh2 : (h : Int) ≤ (xs.length : Int) := by omega
 rcases hlo with ⟨rfl, rfl⟩ | rfl <;> rcases hhi with ⟨rfl, rfl⟩ | rfl <;>
  simp [Instr.sliceAt, Instr.slice, run_underlying hu, Instr.sliceBounds, Instr.sliceBound, asIntOf, sv, hsz, hlh, hh, gW, -List.extract_toArray]
theorem eu {P : Program} {w : World} {L : List (Nat × Value)} {dst : Option Tmp} {T T' ty : TypeId} {pos : String} {af : Array Edge} {gd : Option (Nat × Bool)} {x y : Operand} {s t : List UInt8} (hx : ev L x = some (sv s)) (hy : ev L y = some (sv t)) : OpV P ⟨dst, .binOp .eql T x y T', ty, pos, af, gd⟩ L w (.bool (decide (s = t))) :=
 cM hx hy rfl (by simp only [sv]; rw [binOp_string_eql, ByteArray.toList_mk, ByteArray.toList_mk]; simp only [Sem.run_pure]; congr 2; first | (rw [Bool.eq_iff_iff]; simp) | (congr 1; rw [Bool.eq_iff_iff]; simp))
theorem jX {P : Program} {w : World} {L : List (Nat × Value)} {dst : Option Tmp} {T T' ty : TypeId} {pos : String} {af : Array Edge} {gd : Option (Nat × Bool)} {x y : Operand} {s t : List UInt8} (hx : ev L x = some (sv s)) (hy : ev L y = some (sv t)) : OpV P ⟨dst, .binOp .neq T x y T', ty, pos, af, gd⟩ L w (.bool (!decide (s = t))) :=
 cM hx hy rfl (by simp only [sv]; rw [binOp_string_neq, ByteArray.toList_mk, ByteArray.toList_mk]; simp only [Sem.run_pure]; congr 2; first | (rw [Bool.eq_iff_iff]; simp) | (congr 1; rw [Bool.eq_iff_iff]; simp))
end Go.PW
namespace Go.PW
open Go.RowKit
section
variable {P : Program} {w : World} {L : List (Nat × Value)} {dst : Option Tmp} {T T' ty : TypeId} {pos : String} {af : Array Edge} {gd : Option (Nat × Bool)} {x y : Operand}
theorem SlAt.cutm {v : Value} {sz l h : Nat} {α : Type} {xs : List α} {f : α → List Value} (hs : SlAt w v sz (xs.map f)) (hl : l ≤ h) (hh : h ≤ xs.length) : SlAt w (PW.cut v sz l h (slCap v)) sz (((xs.drop l).take (h - l)).map f) := by
 have := hs.cut (l := l) (h := h) (m := slCap v) hl (by simpa using hh) (Nat.le_trans (by simpa using hh) hs.shp.cap) (Nat.le_refl _)
 rwa [← List.map_drop, ← List.map_take] at this
theorem ft {bb bc : Bool} (hx : ev L x = some (.bool bb)) (hy : ev L y = some (.bool bc)) (ht : P.underlying T = some .bool) : OpV P ⟨dst, .binOp .neq T x y T', ty, pos, af, gd⟩ L w (.bool (!(bb == bc))) :=
 ⟨rfl, fun N df a h => by
  obtain ⟨dd, hd⟩ : ∃ dd, Op.maxDepth = dd + 1 := ⟨9999, rfl⟩
  simp [execOp, h.eval hx, h.eval hy, eqGuard, binOp, Op.equal, hd, Op.equalIn, run_underlying ht]⟩
theorem ec {i : Int} {k : Nat} {s : List UInt8} (hx : ev L x = some (sv s)) (hy : ev L y = some (.int .i64 i)) (hu : (underlying T).run P w = .ok .string w) (hk : i = (k : Int)) (hl : k < s.length) : OpV P ⟨dst, .index T x y, ty, pos, af, gd⟩ L w (yv (s.getD k 0)) := by
 subst hk
 refine ek hx hy ?_
 have hsz : (ByteArray.mk s.toArray).size = s.length := by simp [ByteArray.size]
 have h2 : (k : Int) < (s.length : Int) := by omega
 simp only [sv, Instr.index, asIntOf, Sem.run_bind, Sem.run_pure, Result.andThen_ok, hu]
 have hg : s.getD k 0 = s[k] := by simp [List.getD_eq_getElem?_getD, hl]
 simp [hsz, hl, yv, -List.getD_eq_getElem?_getD, hg]
 rfl
theorem fe {lo hi : Option Operand} {lv hv : Option Value} {l h : Nat} {xs : List UInt8} (hx : ev L x = some (sv xs)) (e1 : evo L lo = some lv) (e2 : evo L hi = some hv) (hu : P.underlying T = some .string)
  (hlo : lv = none ∧ l = 0 ∨ ∃ k, lv = some (.int k (l : Int))) (hhi : hv = none ∧ h = xs.length ∨ ∃ k, hv = some (.int k (h : Int))) (hlh : l ≤ h) (hh : h ≤ xs.length) :
  OpV P ⟨dst, .slice T x lo hi none, ty, pos, af, gd⟩ L w (sv ((xs.drop l).take (h - l))) := by
 refine ep hx e1 e2 rfl ?_
 have hsz : (ByteArray.mk xs.toArray).size = xs.length := by simp [ByteArray.size]
 have hl2 : (l : Int) ≤ (h : Int) := by omega
 have hh2 : (h : Int) ≤ (xs.length : Int) := by omega
 rcases hlo with ⟨rfl, rfl⟩ | ⟨k1, rfl⟩ <;> rcases hhi with ⟨rfl, rfl⟩ | ⟨k2, rfl⟩ <;>
  simp [Instr.sliceAt, Instr.slice, run_underlying hu, Instr.sliceBounds, Instr.sliceBound, asIntOf, sv, hsz, hlh, hh, gW, -List.extract_toArray]
end
end Go.PW
namespace Go.PW
open Go.RowKit
section
variable {P : Program} {w : World} {e : TypeId} {v u : Value} {n : Nat} {xs : List Value}
theorem fF (t ty e : TypeId) (i : TypeInfo) (ht : P.underlying t = some (.slice e)) (hi : P.info? e = some i) (hown : ownsG w e i.size v n xs) (hu : u = .slice none 0 0 ∨ ∃ a c, u = .slice (some a) 0 c) :
  (Builtin.append_ #[t, t] ty #[v, u]).run P w = .ok v w := by
 have hf : (Builtin.firstCells i.size 0 u).run P w = .ok #[] w := by
  rcases hu with rfl | ⟨a, c, rfl⟩
  ·rfl
  ·simp [Builtin.firstCells, loadCells, loadCellsFrom]
 have hl : (Builtin.lenOf u).run P w = .ok 0 w := by
  rcases hu with rfl | ⟨a, c, rfl⟩ <;> rfl
 rcases hown.2 with ⟨rfl, rfl⟩ | ⟨g, cap, cur, fz, rfl, hg, hfz, hnc, hcm, hcs, htake⟩
 ·simp [Builtin.append_, run_underlying ht, sizeOf, typeInfo, hi, hl, hf]
 ·simp [Builtin.append_, run_underlying ht, sizeOf, typeInfo, hi, hl, hf, hnc, storeCells]
end
section
variable {P : Program} {r : Option Nat} {ops : Array Oper} {K : Act → World → Prop} {rest : List Oper} {a : Act} {w w' w0 : World} {M : Nat → Prop} {H : List Ent}
variable {N : Nat} {L : List (Nat × Value)} {df : List Deferred} {d : Nat} {ty : TypeId} {pos : String} {af : Array Edge} {E T : TypeId} {sz : Nat} {v u : Value} {els els' : List (List Value)} {x y : Operand}
theorem bI {sT : TypeId} {inf : TypeInfo} {z : Value} (hok : (own v E sz els).ok w) (hx : ev L x = some v) (hy : ev L y = some u) (hu : SlAt w u sz els')
  (ht : P.underlying sT = some (.slice E)) (hinf : P.info? E = some inf) (hz : inf.zero = some z) (hsize : inf.size = sz) (hzs : z.cells.size = sz) (hsz : 0 < sz) (hone : ∀ e ∈ els', ∀ u ∈ e, u.oneCell' = true)
  (hbytes : (els.length + els'.length) * inf.bytes ≤ 140737488355328) (hbig : els.length + els'.length ≤ big) {dst : Option Tmp} {gd : Option (Nat × Bool)} :
  OpR P r ⟨dst, .call { callee := .builtin .append, args := #[x, y], argTypes := #[sT, sT] }, ty, pos, af, gd⟩ L w fun v' w' =>
   Ext (own v E sz els).foot w w' ∧ (own v' E sz (els ++ els')).ok w' ∧ (∀ g, (own v' E sz (els ++ els')).foot g → g < w'.heap.size ∧ ((own v E sz els).foot g ∨ w.heap.size ≤ g)) := by
 by_cases hne : els' = []
 ·subst hne
  obtain ⟨h1, h2, h3⟩ := hok
  have hu' : u = .slice none 0 0 ∨ ∃ a c, u = .slice (some a) 0 c := by
   rcases hu.2.2 with ⟨h, _⟩ | ⟨b, off, cap, h, _⟩
   ·exact .inl h
   ·exact .inr ⟨_, _, h⟩
  have hr := fF (P := P) sT ty E inf ht hinf (by rw [hsize]; exact h3) hu'
  intro N df a Y
  refine bG rfl (v := v) (w' := w) ?_ ⟨v, rfl, Ext.refl _ _, by rw [List.append_nil]; exact ⟨h1, h2, h3⟩, fun g hg => ?_⟩
  ·simp only [execOp, resolve, invoke, builtin, Sem.run_bind, Sem.run_pure, Result.andThen_ok, List.map_toArray, List.map_cons, List.map_nil, Y.eval hx, Y.eval hy, hr]
  ·exact ⟨h3.lt g hg, .inl hg⟩
 ·intro N df a Y
  exact OpK.mono (jG hok hx hy hu hne ht hinf hz hsize hzs hsz hone hbytes hbig N df a Y) fun a w ⟨v, h1, h2, h3, h4, _⟩ => ⟨v, h1, h2, h3, h4⟩
theorem ey {i : Nat} {sT : TypeId} {inf : TypeInfo} {z : Value} (hi : H[i]? = some (own v E sz els)) (hx : ev L x = some v) (hy : ev L y = some u) (hu : SlAt w u sz els')
  (ht : P.underlying sT = some (.slice E)) (hinf : P.info? E = some inf) (hz : inf.zero = some z) (hsize : inf.size = sz) (hzs : z.cells.size = sz) (hsz : 0 < sz) (hone : ∀ e ∈ els', ∀ u ∈ e, u.oneCell' = true)
  (hbytes : (els.length + els'.length) * inf.bytes ≤ 140737488355328) (hbig : els.length + els'.length ≤ big) (hd : d < N) (Y : Fr N L df a) (U : St M w0 H w)
  (k : ∀ a w' v', Fr N ((d, v') :: L) df a → St M w0 (H.set i (own v' E sz (els ++ els'))) w' → WL P r ops K rest a w') :
  WL P r ops K (⟨some d, .call { callee := .builtin .append, args := #[x, y], argTypes := #[sT, sT] }, ty, pos, af, none⟩ :: rest) a w :=
 wl_r (bI (U.get hi) hx hy hu ht hinf hz hsize hzs hsz hone hbytes hbig) rfl (decide_eq_true hd) Y fun a v' w' ⟨h1, h2, h3⟩ h => k _ _ v' h (U.exchange hi h1 h2 h3)
theorem ja {n : Nat} {lv cv : Value} (hx : ev L x = some lv) (hy : ev L y = some cv) (els : List (List Value)) (hr : (Instr.makeSlice T lv cv).run P w = .ok (.slice (some ⟨w.heap.size, 0, none⟩) n n) (w.alloc (.cells els.flatten.toArray E)))
  (hsz : ∀ e ∈ els, e.length = sz) (hn : els.length = n) (hbig : n ≤ big) (hd : d < N) (Y : Fr N L df a) (U : St M w0 H w)
  (k : ∀ a w', Fr N ((d, .slice (some ⟨w.heap.size, 0, none⟩) n n) :: L) df a → St M w0 (own (.slice (some ⟨w.heap.size, 0, none⟩) n n) E sz els :: H) w' → WL P r ops K rest a w') :
  WL P r ops K (⟨some d, .makeSlice T x y, ty, pos, af, none⟩ :: rest) a w := by
 refine j0 rfl (bG rfl (v := .slice (some ⟨w.heap.size, 0, none⟩) n n) (w' := w.alloc (.cells els.flatten.toArray E)) ?_ (k _ _ (Y.put hd _) ?_))
 ·simp only [execOp, Y.eval hx, Y.eval hy, Sem.run_bind, hr, Result.andThen_ok]; rfl
 ·have hflat : els.flatten.length = n * sz := by rw [← hn]; exact cQ hsz
  refine U.push (Ext.alloc _ _ _) ⟨hsz, by omega, by rw [hn]; exact hflat, .inr ⟨w.heap.size, n, _, (0, 0), by rw [hn], World.alloc_heap_new w _, .inl rfl, by omega, by simp only [maxLen]; unfold big at hbig; omega, by simpa using hflat, by rw [hn, ← hflat, List.toList_toArray, List.take_length]⟩⟩ ?_
  intro k hk
  have : w.heap.size = k := by simpa [own, Value.ownBlock] using hk
  subst this; simp
end
end Go.PW
namespace Go.PW
open Go.RowKit
section
variable {P : Program} {a : Act} {w : World} {Q : Exit → Act → World → Prop} {c : Code}
theorem no (h : WC P none c (Exit.noGoto Q) a w) : WC P none (.scope c) Q a w :=
 (wpIn_wide (n := 0)).2 (wp_scope_straight ((wpIn_wide (n := 0)).1 h))
theorem na {r : Option Nat} {l : Nat} (h : Q .normal a w) : WC P r (.label l) Q a w := wpIn_label h
end
end Go.PW
namespace Go.PW
open Go.RowKit
section
variable {P : Program} {r : Option Nat} {K : Act → World → Prop} {a : Act} {w w0 : World} {M : Nat → Prop} {H : List Ent}
variable {N : Nat} {L : List (Nat × Value)} {df : List Deferred}
theorem j1 {T ty : TypeId} {pos : String} {af : Array Edge} {gd : Option (Nat × Bool)} {dst : Option Tmp} {x y : Operand} {n : Nat} {lv cv : Value} {E : TypeId} {sz : Nat} (hx : ev L x = some lv) (hy : ev L y = some cv) (els : List (List Value)) (hr : ∀ w : World, (Instr.makeSlice T lv cv).run P w = .ok (.slice (some ⟨w.heap.size, 0, none⟩) n n) (w.alloc (.cells els.flatten.toArray E)))
  (hsz : ∀ e ∈ els, e.length = sz) (hn : els.length = n) (hbig : n ≤ big) :
  OpR P r ⟨dst, .makeSlice T x y, ty, pos, af, gd⟩ L w (GrowR w (pm (fun b : Nat => .slice (some ⟨b, 0, none⟩) n n) (fun b => [own (.slice (some ⟨b, 0, none⟩) n n) E sz els]) fun _ => True)) := by
 intro N df a Y
 refine bG rfl (v := .slice (some ⟨w.heap.size, 0, none⟩) n n) (w' := w.alloc (.cells els.flatten.toArray E)) ?_ ⟨_, rfl, Ext.alloc _ _ _, _, ⟨w.heap.size, rfl, trivial, rfl⟩, dM ?_ ?_⟩
 ·simp only [execOp, Y.eval hx, Y.eval hy, Sem.run_bind, hr, Result.andThen_ok]; rfl
 ·have hflat : els.flatten.length = n * sz := by rw [← hn]; exact cQ hsz
  exact ⟨hsz, by omega, by rw [hn]; exact hflat, .inr ⟨w.heap.size, n, _, (0, 0), by rw [hn], World.alloc_heap_new w _, .inl rfl, by omega, by simp only [maxLen]; unfold big at hbig; omega, by simpa using hflat, by rw [hn, ← hflat, List.toList_toArray, List.take_length]⟩⟩
 ·intro k hk
  have : w.heap.size = k := by simpa [own, Value.ownBlock] using hk
  subst this; simp
def HopC (P : Program) (r : Option Nat) (M : Nat → Prop) (w0 : World) (pc : Nat) (e0 e1 : Value → Ent) (H : List Ent) (L : List (Nat × Value)) (l : List Oper) (R : Nat → Value → List Ent → Prop) (i : Nat) : List Nat → List (Nat × Value) → List Ent → Value → Prop
 | [], Lv, Es, u => ∀ w, St M w0 (e0 u :: (Es ++ H)) w → OpR P r (opAt l i) (Lv ++ L) w (fun v w' => Ext (e0 u).foot w w' ∧ (e1 v).ok w' ∧ (∀ b, (e1 v).foot b → b < w'.heap.size ∧ ((e0 u).foot b ∨ w.heap.size ≤ b)) ∧ R i v [])
 | p :: ps, Lv, Es, u => ∀ v E, R p v E → HopC P r M w0 pc e0 e1 H L l R i ps (Lv ++ [(dsOf l p, v)]) (Es ++ E) (bif Nat.beq p pc then v else u)
theorem HopC.use {pc : Nat} {e0 e1 : Value → Ent} {l : List Oper} {R : Nat → Value → List Ent → Prop} {i : Nat} {V : Nat → Value} {E : Nat → List Ent} : ∀ {ps : List Nat} {Lv : List (Nat × Value)} {Es : List Ent} {u : Value}, HopC P r M w0 pc e0 e1 H L l R i ps Lv Es u → (∀ p ∈ ps, R p (V p) (E p)) → (pc ∈ ps ∨ u = V pc) →
  ∀ w, St M w0 (e0 (V pc) :: (Es ++ ps.flatMap E ++ H)) w → OpR P r (opAt l i) (Lv ++ ps.map (fun p => (dsOf l p, V p)) ++ L) w (fun v w' => Ext (e0 (V pc)).foot w w' ∧ (e1 v).ok w' ∧ (∀ b, (e1 v).foot b → b < w'.heap.size ∧ ((e0 (V pc)).foot b ∨ w.heap.size ≤ b)) ∧ R i v [])
 | [], Lv, Es, u, h, _, hu, w, hs => by
  rcases hu with hu | hu
  ·cases hu
  ·subst hu; simpa using h w (by simpa using hs)
 | p :: ps, Lv, Es, u, h, hR, hu, w, hs => by
  have h2 : pc ∈ ps ∨ (bif Nat.beq p pc then V p else u) = V pc := by
   by_cases hp : p = pc
   ·subst hp; exact .inr sm
   ·rcases hu with hu | hu
    ·rcases List.mem_cons.1 hu with h3 | h3
     ·exact absurd h3.symm hp
     ·exact .inl h3
    ·have : Nat.beq p pc = false := by cases hb : Nat.beq p pc with | false => rfl | true => exact absurd (Nat.eq_of_beq_eq_true hb) hp
     exact .inr (by rw [this]; exact hu)
  have := HopC.use (h (V p) (E p) (hR p sm)) (fun q hq => hR q (by simp [hq])) h2 w (by simpa using hs)
  simpa using this
theorem OpR.to_own {o : Oper} {f : Nat → Value} {e : Value → Ent} {R : Value → List Ent → Prop} (h : OpR P r o L w (GrowR w (pm f (fun b => [e (f b)]) fun _ => True))) (hR : ∀ v, R v []) : OpR P r o L w (fun v w' => Ext (join []).foot w w' ∧ (e v).ok w' ∧ (∀ b, (e v).foot b → b < w'.heap.size ∧ ((join []).foot b ∨ w.heap.size ≤ b)) ∧ R v []) :=
 OpR.mono h fun v w' ⟨hx, E, ⟨x, hv, _, hE⟩, hin⟩ => by
  subst hv; subst hE
  exact ⟨hx.mono fun _ _ h => h.elim, (hin.1 _ (List.mem_singleton.2 rfl)).1, fun b hb => ⟨((hin.1 _ (List.mem_singleton.2 rfl)).2 b hb).2, .inr ((hin.1 _ (List.mem_singleton.2 rfl)).2 b hb).1⟩, hR _⟩
theorem St.hollow (h : St M w0 H w) : St M w0 (PW.join [] :: H) w := St.join [] H h
end
end Go.PW
namespace Go.PW
open Go.RowKit
theorem fD {A B us : List Value} {o : Nat} (h : o + us.length ≤ A.length) : splice (A ++ B) o us = splice A o us ++ B := by
 unfold splice
 rw [List.take_append_of_le_length om, List.drop_append_of_le_length om]
 simp
theorem iF {A B us : List Value} {o : Nat} : splice (A ++ B) (A.length + o) us = A ++ splice B o us := by
 unfold splice
 rw [List.take_length_add_append, Nat.add_assoc, ← List.drop_drop, List.drop_left]
 simp
theorem dK {A us : List Value} {o : Nat} (h : o + us.length ≤ A.length) : (splice A o us).length = A.length := by
 unfold splice
 simp only [List.length_append, List.length_take, List.length_drop]
 omega
theorem eb {sz j : Nat} {us : List Value} : ∀ {els : List (List Value)} {k : Nat} (h1 : ∀ e ∈ els, e.length = sz) (hk : k < els.length) (hj : j + us.length ≤ sz),
  splice els.flatten (k * sz + j) us = (els.set k (splice els[k] j us)).flatten
 | [], k, h1, hk, hj => by simp at hk
 | e :: els, 0, h1, hk, hj => by
  have he := h1 e sm
  simp only [List.flatten_cons, Nat.zero_mul, Nat.zero_add, List.set_cons_zero, List.getElem_cons_zero]
  exact fD om
 | e :: els, k + 1, h1, hk, hj => by
  have he := h1 e sm
  have e1 : (k + 1) * sz + j = e.length + (k * sz + j) := by rw [he, Nat.succ_mul]; omega
  have hk' : k < els.length := by simpa using hk
  rw [e1]
  simp only [List.flatten_cons, List.set_cons_succ, List.getElem_cons_succ]
  rw [iF, eb (fun e he => h1 e (by simp [he])) hk' hj]
section
variable {P : Program} {r : Option Nat} {ops : Array Oper} {K : Act → World → Prop} {rest : List Oper} {a : Act} {w w' w0 : World} {M : Nat → Prop} {H : List Ent}
variable {N : Nat} {L : List (Nat × Value)} {df : List Deferred} {ty : TypeId} {pos : String} {af : Array Edge}
variable {v u : Value} {sz : Nat} {els : List (List Value)} {E T : TypeId} {x y : Operand}
theorem gN {g off : Nat} {cur : Array Value} {fz : Nat × Nat} (hg : w.heap[g]? = some (.cells cur E fz)) (hfz : rowFz fz cur.size) (hsz : (sizeOf T).run P w = .ok u.cells.size w) (hone : ∀ x ∈ u.cells.toList, x.oneCell' = true) (hfit : off + u.cells.size ≤ cur.size) :
  (storeVar T ⟨g, off, none⟩ u).run P w = .ok () (w.setRow g (splice cur.toList off u.cells.toList).toArray) := by
 have h := bV P g off E fz u.cells.toList 0 cur w hg (by rcases hfz with h | h <;> simp <;> omega) (by simpa using hfit) hone
 simp only [storeVar, Sem.run_bind, hsz, Result.andThen_ok]
 simp only [ne_eq, not_true_eq_false, if_false]
 rw [← Array.toArray_toList (xs := u.cells)] at h
 simpa [splice] using h
theorem gX {k j : Nat} (hk : k < els.length) (ho : (own v E sz els).ok w) (hsz : (sizeOf T).run P w = .ok u.cells.size w) (hone : ∀ x ∈ u.cells.toList, x.oneCell' = true) (hj : j + u.cells.size ≤ sz) :
  ∃ g cap w', v = .slice (some ⟨g, 0, none⟩) els.length cap ∧ (storeVar T ⟨g, 0 + (k * sz + j), none⟩ u).run P w = .ok () w' ∧ Ext (own v E sz els).foot w w' ∧ w'.heap.size = w.heap.size ∧ (own v E sz (els.set k (splice els[k] j u.cells.toList))).ok w' := by
 obtain ⟨h1, h2, h3, h4⟩ := ho
 rcases h4 with ⟨rfl, h0⟩ | ⟨g, cap, cur, fz, rfl, hg, hfz, hnc, hcm, hcs, htk⟩
 ·omega
 ·have hks : (k + 1) * sz ≤ els.length * sz := Nat.mul_le_mul_right _ hk
  have hcc : els.length * sz ≤ cap * sz := Nat.mul_le_mul_right _ hnc
  rw [Nat.succ_mul] at hks
  have hfl : els.flatten.length = els.length * sz := cQ h1
  have hr := gN (P := P) (T := T) (u := u) (off := k * sz + j) hg (by rw [hcs]; exact hfz) hsz hone om
  refine ⟨g, cap, w.setRow g (splice cur.toList (k * sz + j) u.cells.toList).toArray, rfl, by rw [Nat.zero_add]; exact hr, ⟨rfl, rfl, rfl, by simp, fun b _ hb => setRow_other w g b _ (fun e => hb (by subst e; rfl))⟩, by simp, ?_, by simpa using h2, ?_, .inr ⟨g, cap, _, fz, by simp, setRow_heap w g cur _ E _ hg, hfz, by simpa using hnc, hcm, ?_, ?_⟩⟩
  ·intro e he
   rcases List.mem_or_eq_of_mem_set he with he | rfl
   ·exact h1 e he
   ·rw [dK (by rw [h1 _ (List.getElem_mem hk)]; simpa using hj)]; exact h1 _ (List.getElem_mem hk)
  ·rw [← eb h1 hk (by simpa using hj), dK (by rw [hfl]; simp; omega), hfl]; simp
  ·simp only [List.size_toArray]
   rw [dK (by simp; omega)]; simpa using hcs
  ·rw [← eb h1 hk (by simpa using hj), ← htk]
   simp only [List.length_set]
   have hl : (cur.toList.take (els.length * sz)).length = els.length * sz := by rw [htk]; exact hfl
   conv => lhs; arg 2; arg 1; rw [← List.take_append_drop (els.length * sz) cur.toList]
   rw [fD (by rw [hl]; simp; omega)]
   have hl2 : (splice (cur.toList.take (els.length * sz)) (k * sz + j) u.cells.toList).length = els.length * sz := by rw [dK (by rw [hl]; simp; omega), hl]
   exact List.take_left' hl2
theorem cJ {k j q : Nat} {els' : List (List Value)} {H' : List Ent} (i : Nat) (Y : Fr N L df a) (U : St M w0 H w) (hx : ev L x = some (slAddr v q)) (hy : ev L y = some u) (hi : H[i]? = some (own v E sz els)) (hk : k < els.length) (hq : q = k * sz + j)
  (hsz : (sizeOf T).run P w = .ok u.cells.size w) (hone : ∀ x ∈ u.cells.toList, x.oneCell' = true) (hj : j + u.cells.size ≤ sz) (hels : els.set k (splice els[k] j u.cells.toList) = els') (hH : H.set i (own v E sz els') = H')
  (kk : ∀ a w', Fr N L df a → St M w0 H' w' → WL P r ops K rest a w') :
  WL P r ops K (⟨none, .store T x y, ty, pos, af, none⟩ :: rest) a w := by
 subst hels; subst hH; subst hq
 obtain ⟨g, cap, w', hv, hr, hext, hsize, hok⟩ := gX hk (U.get hi) hsz hone hj
 have hx' : ev L x = some (.pointer (some ⟨g, 0 + (k * sz + j), none⟩)) := by rw [hx, hv]; rfl
 refine wl_r (R := fun _ w2 => w2 = w') ?_ rfl rfl Y fun a _ w2 hw h => by
  subst hw
  refine kk _ _ h (U.exchange hi hext hok fun b hb => ?_)
  have hlt := U.lt hi (b := b) hb
  exact ⟨by rw [hsize]; exact hlt, .inl hb⟩
 intro N df a Y
 refine ff rfl (w' := w') ?_ ⟨_, rfl, rfl⟩
 simp only [execOp, Y.eval hx', Y.eval hy, Instr.storeAt, Instr.sureAddr, Sem.run_bind, Sem.run_pure, Result.andThen_ok, hr]
end
end Go.PW
namespace Go.PW
open Go.RowKit
section
variable {P : Program} {r : Option Nat} {K : Act → World → Prop} {a : Act} {w w0 : World} {M : Nat → Prop} {H : List Ent}
variable {N : Nat} {L : List (Nat × Value)} {df : List Deferred}
theorem dQ {v : Value} {sz : Nat} {els : List (List Value)} (h : SlAt w v sz els) : ∃ a n c, v = .slice a n c := by
 rcases h.2.2 with ⟨rfl, _⟩ | ⟨b, off, cap, rfl, _⟩
 ·exact ⟨_, _, _, rfl⟩
 ·exact ⟨_, _, _, rfl⟩
def HopV (P : Program) (r : Option Nat) (M : Nat → Prop) (w0 : World) (pc : Nat) (e3 : Value → Ent) (f : Value → Value) (H : List Ent) (L : List (Nat × Value)) (l : List Oper) (R : Nat → Value → List Ent → Prop) (i : Nat) : List Nat → List (Nat × Value) → List Ent → Value → Prop
 | [], Lv, Es, u => ∀ w, St M w0 (e3 u :: (Es ++ H)) w → OpR P r (opAt l i) (Lv ++ L) w (fun v w' => Ext No w w' ∧ v = f u ∧ R i v [])
 | p :: ps, Lv, Es, u => ∀ v E, R p v E → HopV P r M w0 pc e3 f H L l R i ps (Lv ++ [(dsOf l p, v)]) (Es ++ E) (bif Nat.beq p pc then v else u)
theorem HopV.use {pc : Nat} {e3 : Value → Ent} {f : Value → Value} {l : List Oper} {R : Nat → Value → List Ent → Prop} {i : Nat} {V : Nat → Value} {E : Nat → List Ent} : ∀ {ps : List Nat} {Lv : List (Nat × Value)} {Es : List Ent} {u : Value}, HopV P r M w0 pc e3 f H L l R i ps Lv Es u → (∀ p ∈ ps, R p (V p) (E p)) → (pc ∈ ps ∨ u = V pc) →
  ∀ w, St M w0 (e3 (V pc) :: (Es ++ ps.flatMap E ++ H)) w → OpR P r (opAt l i) (Lv ++ ps.map (fun p => (dsOf l p, V p)) ++ L) w (fun v w' => Ext No w w' ∧ v = f (V pc) ∧ R i v [])
 | [], Lv, Es, u, h, _, hu, w, hs => by
  rcases hu with hu | hu
  ·cases hu
  ·subst hu; simpa using h w (by simpa using hs)
 | p :: ps, Lv, Es, u, h, hR, hu, w, hs => by
  have h2 : pc ∈ ps ∨ (bif Nat.beq p pc then V p else u) = V pc := by
   by_cases hp : p = pc
   ·subst hp; exact .inr sm
   ·rcases hu with hu | hu
    ·rcases List.mem_cons.1 hu with h3 | h3
     ·exact absurd h3.symm hp
     ·exact .inl h3
    ·have : Nat.beq p pc = false := by cases hb : Nat.beq p pc with | false => rfl | true => exact absurd (Nat.eq_of_beq_eq_true hb) hp
     exact .inr (by rw [this]; exact hu)
  have := HopV.use (h (V p) (E p) (hR p sm)) (fun q hq => hR q (by simp [hq])) h2 w (by simpa using hs)
  simpa using this
theorem OpV.hopv {o : Oper} {v : Value} {R : Value → List Ent → Prop} (h : OpR P r o L w (GrowR w (pv v))) (hR : R v []) : OpR P r o L w (fun v' w' => Ext No w w' ∧ v' = v ∧ R v' []) :=
 OpR.mono h fun v' w' ⟨hx, E, hv, _⟩ => by
  obtain ⟨rfl, _⟩ := hv
  exact ⟨hx, rfl, hR⟩
theorem cq {l : List Oper} (q0 q1 q2 q3 : Nat) (e1 e2 e3 : Value → Ent) (f : Value → Value) (m : Nat) (ps : List (List Nat)) (R : Nat → Value → List Ent → Prop) (Y : Fr N L df a) (U : St M w0 H w)
  (hmix : P.follows .mixedOrders = true) (hok : phOkM l m N (keys L) ps = true) (hds : ((List.range m).all fun i => (opAt l i).dst.isSome) = true) (hqm : q0 < m ∧ q1 < m ∧ q2 < m ∧ q3 < m) (hne : q0 ≠ q1 ∧ q0 ≠ q2 ∧ q1 ≠ q2 ∧ q0 ≠ q3 ∧ q1 ≠ q3 ∧ q2 ≠ q3) (h01 : q0 ∈ ps.getD q1 []) (h12 : q1 ∈ ps.getD q2 []) (h23 : q2 ∈ ps.getD q3 []) (hRm : ∀ i v E, R i v E → i < m)
  (hop : ∀ i, i < m → i ≠ q0 → i ≠ q1 → i ≠ q2 → i ≠ q3 → ∀ e, Hop P r M w0 (e :: H) L l R i (ps.getD i []) [] [])
  (hq0 : HopQ P r M w0 (join []) e1 H L l R q0 (ps.getD q0 []) [] [])
  (hq1 : HopC P r M w0 q0 e1 e2 H L l R q1 (ps.getD q1 []) [] [] undef)
  (hq2 : HopC P r M w0 q1 e2 e3 H L l R q2 (ps.getD q2 []) [] [] undef)
  (hq3 : HopV P r M w0 q2 e3 f H L l R q3 (ps.getD q3 []) [] [] undef)
  (hk : ∀ vq, HopK P r M w0 (e3 vq :: H) N L df l m (fun i v E => R i v E ∧ (i = q2 → v = vq) ∧ (i = q3 → v = f vq)) K (List.range m) [] []) : DR P r l.toArray K a w := by
 obtain ⟨hn1, hn2, hn3, hn4, hn5, hn6⟩ := hne
 obtain ⟨hm0, hm1, hm2, hm3⟩ := hqm
 have hsome : ∀ i, i < m → (opAt l i).dst.isSome = true := fun i hi => List.all_eq_true.1 hds i (List.mem_range.2 hi)
 have hpsm : ∀ i, i < m → ∀ p ∈ ps.getD i [], p < m := by
  intro i hi p hp
  have hok2 := hok
  simp only [phOkM, Bool.and_eq_true, List.all_eq_true, decide_eq_true_eq, List.mem_range] at hok2
  exact ((hok2.1.1.1.2 i hi).1.2 p hp).2
 have hmap : ∀ (V : Nat → Value) (is : List Nat), (∀ p ∈ is, p < m) → is.map (fun p => (dsv l N p, V p)) = is.map fun p => (dsOf l p, V p) := fun V is h => List.map_congr_left fun p hp => by rw [iK (hsome p (h p hp))]
 refine cP (M := M) (w0 := w0) (e0 := join []) m ps [q0, q1, q2, q3] hmix hok R (fun i v E hd hR => ?_)
  (fun D V e => (∀ i ∈ D, i < m) ∧ ((q0 ∉ D ∧ q1 ∉ D ∧ q2 ∉ D ∧ e = join []) ∨ (q0 ∈ D ∧ q1 ∉ D ∧ q2 ∉ D ∧ e = e1 (V q0)) ∨ (q0 ∈ D ∧ q1 ∈ D ∧ q2 ∉ D ∧ e = e2 (V q1)) ∨ (q0 ∈ D ∧ q1 ∈ D ∧ q2 ∈ D ∧ e = e3 (V q2))) ∧ (q3 ∈ D → q2 ∈ D ∧ V q3 = f (V q2)))
  (fun V => ⟨by simp, .inl ⟨by simp, by simp, by simp, rfl⟩, by simp⟩) ?_ Y U.hollow ?_ ?_ ?_
 ·have := hsome i (hRm i v E hR)
  rw [hd] at this; cases this
 ·rintro i D V V' e him hmq hV ⟨hlt, hor, hf3⟩
  simp only [List.mem_cons, List.not_mem_nil, or_false, not_or] at hmq
  obtain ⟨i0, i1, i2, i3⟩ := hmq
  refine ⟨by simpa using ⟨him, hlt⟩, ?_, fun h => ?_⟩
  ·rcases hor with ⟨a0, a1, a2, rfl⟩ | ⟨a0, a1, a2, rfl⟩ | ⟨a0, a1, a2, rfl⟩ | ⟨a0, a1, a2, rfl⟩
   ·exact .inl ⟨by simp [a0, Ne.symm i0], by simp [a1, Ne.symm i1], by simp [a2, Ne.symm i2], rfl⟩
   ·exact .inr (.inl ⟨by simp [a0], by simp [a1, Ne.symm i1], by simp [a2, Ne.symm i2], by rw [hV q0 a0]⟩)
   ·exact .inr (.inr (.inl ⟨by simp [a0], by simp [a1], by simp [a2, Ne.symm i2], by rw [hV q1 a1]⟩))
   ·exact .inr (.inr (.inr ⟨by simp [a0], by simp [a1], by simp [a2], by rw [hV q2 a2]⟩))
  ·rcases List.mem_cons.1 h with h | h
   ·exact absurd h.symm i3
   ·obtain ⟨h2, h3⟩ := hf3 h
    exact ⟨by simp [h2], by rw [hV q3 h, hV q2 h2, h3]⟩
 ·intro i him hmq V E w hR D e hp hG hni hs
  rw [hmap V _ (hpsm i him)]
  simp only [List.mem_cons, List.not_mem_nil, or_false, not_or] at hmq
  have := Hop.use (V := V) (E := E) (hop i him hmq.1 hmq.2.1 hmq.2.2.1 hmq.2.2.2 e) hR w (by simpa using hs.perm List.perm_middle.symm)
  simpa using this
 ·intro i him hmq V E w hR D e hp hG hni hs
  obtain ⟨hlt, hor, hf3⟩ := hG
  rw [hmap V _ (hpsm i him)]
  simp only [List.mem_cons, List.not_mem_nil, or_false] at hmq
  rcases hmq with rfl | rfl | rfl | rfl
  ·have he : e = join [] := by rcases hor with h | h | h | h; exact h.2.2.2; exact absurd h.1 hni; exact absurd h.1 hni; exact absurd h.1 hni
   have hd1 : q1 ∉ D := by rcases hor with h | h | h | h; exact h.2.1; exact absurd h.1 hni; exact absurd h.1 hni; exact absurd h.1 hni
   have hd2 : q2 ∉ D := by rcases hor with h | h | h | h; exact h.2.2.1; exact absurd h.1 hni; exact absurd h.1 hni; exact absurd h.1 hni
   have hd3 : q3 ∉ D := fun h => hd2 (hf3 h).1
   subst he
   have := HopQ.use (V := V) (E := E) hq0 hR w (by simpa using hs)
   refine OpR.mono (by simpa using this) ?_
   rintro v w' ⟨h1, h2, h3, h4⟩
   exact ⟨_, h1, h2, h3, h4, fun V' hV' hv => ⟨by simpa using ⟨him, hlt⟩, .inr (.inl ⟨by simp, by simp [hd1, Ne.symm hn1], by simp [hd2, Ne.symm hn2], by rw [hv]⟩), fun h => by rcases List.mem_cons.1 h with h | h; exact absurd h.symm hn4; exact absurd h hd3⟩⟩
  ·have h0 : q0 ∈ D := hp q0 h01
   have he : e = e1 (V q0) := by rcases hor with h | h | h | h; exact absurd h0 h.1; exact h.2.2.2; exact absurd h.2.1 hni; exact absurd h.2.1 hni
   have hd2 : q2 ∉ D := by rcases hor with h | h | h | h; exact h.2.2.1; exact h.2.2.1; exact h.2.2.1; exact absurd h.2.1 hni
   have hd3 : q3 ∉ D := fun h => hd2 (hf3 h).1
   subst he
   have := HopC.use (V := V) (E := E) hq1 hR (.inl h01) w (by simpa using hs)
   refine OpR.mono (by simpa using this) ?_
   rintro v w' ⟨h1, h2, h3, h4⟩
   exact ⟨_, h1, h2, h3, h4, fun V' hV' hv => ⟨by simpa using ⟨him, hlt⟩, .inr (.inr (.inl ⟨by simp [h0], by simp, by simp [hd2, Ne.symm hn3], by rw [hv]⟩)), fun h => by rcases List.mem_cons.1 h with h | h; exact absurd h.symm hn5; exact absurd h hd3⟩⟩
  ·have h1D : q1 ∈ D := hp q1 h12
   have he : e = e2 (V q1) := by rcases hor with h | h | h | h; exact absurd h1D h.2.1; exact absurd h1D h.2.1; exact h.2.2.2; exact absurd h.2.2.1 hni
   have h0D : q0 ∈ D := by rcases hor with h | h | h | h; exact absurd h1D h.2.1; exact h.1; exact h.1; exact h.1
   have hd3 : q3 ∉ D := fun h => hni (hf3 h).1
   subst he
   have := HopC.use (V := V) (E := E) hq2 hR (.inl h12) w (by simpa using hs)
   refine OpR.mono (by simpa using this) ?_
   rintro v w' ⟨h1, h2, h3, h4⟩
   exact ⟨_, h1, h2, h3, h4, fun V' hV' hv => ⟨by simpa using ⟨him, hlt⟩, .inr (.inr (.inr ⟨by simp [h0D], by simp [h1D], by simp, by rw [hv]⟩)), fun h => by rcases List.mem_cons.1 h with h | h; exact absurd h.symm hn6; exact absurd h hd3⟩⟩
  ·have h2D : q2 ∈ D := hp q2 h23
   have he : (q0 ∈ D ∧ q1 ∈ D) ∧ e = e3 (V q2) := by rcases hor with h | h | h | h; exact absurd h2D h.2.2.1; exact absurd h2D h.2.2.1; exact absurd h2D h.2.2.1; exact ⟨⟨h.1, h.2.1⟩, h.2.2.2⟩
   obtain ⟨⟨h0D, h1D⟩, rfl⟩ := he
   have := HopV.use (V := V) (E := E) hq3 hR (.inl h23) w (by simpa using hs)
   refine OpR.mono (by simpa using this) ?_
   rintro v w' ⟨h1, h2, h3⟩
   refine ⟨e3 (V q2), h1.mono fun _ _ h => h.elim, ?_, ?_, h3, fun V' hV' hv => ⟨by simpa using ⟨him, hlt⟩, .inr (.inr (.inr ⟨by simp [h0D], by simp [h1D], by simp [h2D], by rw [hV' q2 h2D]⟩)), fun _ => ⟨by simp [h2D], by rw [hv, hV' q2 h2D, h2]⟩⟩⟩
   ·exact (hs.grow h1).mem sm
   ·intro b hb
    have := ((hs.grow h1).ok (e3 (V q2)) sm).2 b hb
    exact ⟨this.1, .inl hb⟩
 ·rintro D V E e a w hD ⟨_, hor, hf3⟩ hR hf hs
  have hqD : ∀ q, q < m → q ∈ D := fun q hq => hD.mem_iff.2 (List.mem_range.2 hq)
  have he : e = e3 (V q2) := by rcases hor with h | h | h | h; exact absurd (hqD _ hm2) h.2.2.1; exact absurd (hqD _ hm2) h.2.2.1; exact absurd (hqD _ hm2) h.2.2.1; exact h.2.2.2
  subst he
  rw [hmap V _ (fun p hp => List.mem_range.1 hp)] at hf
  exact HopK.use (V := V) (E := E) (hk (V q2)) (fun p hp => ⟨hR p (List.mem_range.1 hp), fun h => by rw [h], fun h => by rw [h]; exact (hf3 (hqD _ hm3)).2⟩) a w (by simpa using hf) (by simpa using hs.perm List.perm_middle.symm)
section state
variable {rest : List Oper} {d : Nat} {ty : TypeId} {pos : String} {af : Array Edge} {x : Operand} {ops : Array Oper}
theorem gV {X : Type} {fv : X → Value} {Ex : X → List Ent} {Pr : X → Prop} {f : FuncId} {cap : List Value} {xs : List Operand} {vs : List Value} {ats : Array TypeId} (Y : Fr N L df a) (U : St M w0 H w) (hd : d < N) (hf : ev L x = some (.func (.func f) #[] cap.toArray)) (hen : ∀ args w, (callFunc f args).run P w = .ok (.enter f args) w) (hx : evs L xs = some vs)
  (hc : Ret P f (vs ++ cap).toArray w (MemR w fv Ex Pr)) (k : ∀ a w' z, Pr z → Fr N ((d, fv z) :: L) df a → St M w0 (Ex z ++ H) w' → WL P r ops K rest a w') :
  WL P r ops K (⟨some d, .call { callee := .value x, args := xs.toArray, argTypes := ats }, ty, pos, af, none⟩ :: rest) a w :=
 wl_r (iH hf hen hx hc) rfl (decide_eq_true hd) Y fun a v' w' ⟨z, h1, h2, h3, h4⟩ h => by subst h1; exact k _ _ z h2 h (U.pushes h3 h4)
end state
section slices
variable {dst : Option Tmp} {T E ty : TypeId} {pos : String} {af : Array Edge} {gd : Option (Nat × Bool)} {x y : Operand} {v u : Value} {sz : Nat} {els : List (List Value)} {w1 : World}
theorem fG {i : Int} (h : SlAt w1 v sz els) (hx : ev L x = some v) (hy : ev L y = some (.int .i64 i)) (hu : (underlying T).run P w = .ok (.slice E) w) (hs : (sizeOf E).run P w = .ok sz w) (h0 : 0 ≤ i) (hi : i.toNat < els.length) :
  OpV P ⟨dst, .indexAddr T x y, ty, pos, af, gd⟩ L w (slAddr v (i.toNat * sz)) := by
 obtain ⟨b, off, cap, rfl, _⟩ := h.at hi
 refine aN hx hy ?_
 have hlt : i < (els.length : Int) := by omega
 simp only [Instr.indexAt, asIntOf, Sem.run_bind, Sem.run_pure, Result.andThen_ok, hu]
 simp only [h0, hlt, and_self, if_true]
 simp [hs, bL, slAddr]
theorem ko {k j q : Nat} {els' : List (List Value)} (hx : ev L x = some (slAddr v q)) (hy : ev L y = some u) (ho : (own v E sz els).ok w) (hk : k < els.length) (hq : q = k * sz + j)
  (hsz : (sizeOf T).run P w = .ok u.cells.size w) (hone : ∀ x ∈ u.cells.toList, x.oneCell' = true) (hj : j + u.cells.size ≤ sz) (hels : els.set k (splice els[k] j u.cells.toList) = els') :
  OpR P r ⟨dst, .store T x y, ty, pos, af, gd⟩ L w fun v2 w' => v2 = undef ∧ Ext (own v E sz els).foot w w' ∧ (own v E sz els').ok w' := by
 subst hels; subst hq
 obtain ⟨g, cap, w', hv, hr, hext, hsize, hok⟩ := gX hk ho hsz hone hj
 have hx' : ev L x = some (.pointer (some ⟨g, 0 + (k * sz + j), none⟩)) := by rw [hx, hv]; rfl
 exact fun N df a h => ff rfl (w' := w') (by
  simp only [execOp, h.eval hx', h.eval hy, Instr.storeAt, Instr.sureAddr, Sem.run_bind, Sem.run_pure, Result.andThen_ok, hr]) ⟨undef, rfl, rfl, hext, hok⟩
end slices
end
end Go.PW
namespace Go.PW
open Go.RowKit
section
variable {P : Program} {r : Option Nat} {K : Act → World → Prop} {a : Act} {w w0 : World} {M : Nat → Prop} {H : List Ent}
variable {N : Nat} {L : List (Nat × Value)} {df : List Deferred}
def HopL (P : Program) (r : Option Nat) (M : Nat → Prop) (w0 : World) (E2 : (Nat → Value) → Value → Ent) (H : List Ent) (L : List (Nat × Value)) (l : List Oper) (R : Nat → Value → List Ent → Prop) (i : Nat) : List Nat → List (Nat × Value) → List Ent → (Nat → Value) → Prop
 | [], Lv, Es, u => ∀ w, St M w0 (join [] :: (Es ++ H)) w → OpR P r (opAt l i) (Lv ++ L) w (fun v w' => Ext (join []).foot w w' ∧ (E2 u v).ok w' ∧ (∀ b, (E2 u v).foot b → b < w'.heap.size ∧ ((join []).foot b ∨ w.heap.size ≤ b)) ∧ R i v [])
 | p :: ps, Lv, Es, u => ∀ v E, R p v E → HopL P r M w0 E2 H L l R i ps (Lv ++ [(dsOf l p, v)]) (Es ++ E) (fun j => bif Nat.beq j p then v else u j)
theorem HopL.use {E2 : (Nat → Value) → Value → Ent} {l : List Oper} {R : Nat → Value → List Ent → Prop} {i : Nat} {V : Nat → Value} {E : Nat → List Ent} {qs : List Nat} (hdep : ∀ (V V' : Nat → Value) v, (∀ q ∈ qs, V q = V' q) → E2 V v = E2 V' v) :
  ∀ {ps : List Nat} {Lv : List (Nat × Value)} {Es : List Ent} {u : Nat → Value}, HopL P r M w0 E2 H L l R i ps Lv Es u → (∀ p ∈ ps, R p (V p) (E p)) → (∀ q ∈ qs, q ∈ ps ∨ u q = V q) →
  ∀ w, St M w0 (join [] :: (Es ++ ps.flatMap E ++ H)) w → OpR P r (opAt l i) (Lv ++ ps.map (fun p => (dsOf l p, V p)) ++ L) w (fun v w' => Ext (join []).foot w w' ∧ (E2 V v).ok w' ∧ (∀ b, (E2 V v).foot b → b < w'.heap.size ∧ ((join []).foot b ∨ w.heap.size ≤ b)) ∧ R i v [])
 | [], Lv, Es, u, h, _, hu, w, hs => by
  have he : ∀ v, E2 u v = E2 V v := fun v => hdep u V v fun q hq => by
   rcases hu q hq with h | h
   ·cases h
   ·exact h
  have := h w (by simpa using hs)
  simp only [he] at this
  simpa using this
 | p :: ps, Lv, Es, u, h, hR, hu, w, hs => by
  have := HopL.use hdep (h (V p) (E p) (hR p sm)) (fun q hq => hR q (by simp [hq])) (fun q hq => by
   by_cases hp : q = p
   ·subst hp; exact .inr sm
   ·rcases hu q hq with h3 | h3
    ·rcases List.mem_cons.1 h3 with h4 | h4
     ·exact absurd h4 hp
     ·exact .inl h4
    ·have : Nat.beq q p = false := by cases hb : Nat.beq q p with | false => rfl | true => exact absurd (Nat.eq_of_beq_eq_true hb) hp
     exact .inr (by show (bif Nat.beq q p then V p else u q) = V q; rw [this]; exact h3)) w (by simpa using hs)
  simpa using this
theorem gq {l : List Oper} (q2 : Nat) (qs : List Nat) (E2 : (Nat → Value) → Value → Ent) (m : Nat) (ps : List (List Nat)) (R : Nat → Value → List Ent → Prop) (Y : Fr N L df a) (U : St M w0 H w)
  (hmix : P.follows .mixedOrders = true) (hok : phOkM l m N (keys L) ps = true) (hds : ((List.range m).all fun i => (opAt l i).dst.isSome) = true) (hqm : q2 < m) (hqs : ∀ q ∈ qs, q ∈ ps.getD q2 [] ∧ q ≠ q2) (hRm : ∀ i v E, R i v E → i < m)
  (hdep : ∀ (V V' : Nat → Value) v, (∀ q ∈ qs, V q = V' q) → E2 V v = E2 V' v)
  (hop : ∀ i, i < m → i ≠ q2 → ∀ e, Hop P r M w0 (e :: H) L l R i (ps.getD i []) [] [])
  (hq2 : HopL P r M w0 E2 H L l R q2 (ps.getD q2 []) [] [] (fun _ => undef))
  (hk : ∀ V : Nat → Value, HopK P r M w0 (E2 V (V q2) :: H) N L df l m (fun i v E => R i v E ∧ v = V i) K (List.range m) [] []) : DR P r l.toArray K a w := by
 have hsome : ∀ i, i < m → (opAt l i).dst.isSome = true := fun i hi => List.all_eq_true.1 hds i (List.mem_range.2 hi)
 have hpsm : ∀ i, i < m → ∀ p ∈ ps.getD i [], p < m := by
  intro i hi p hp
  have hok2 := hok
  simp only [phOkM, Bool.and_eq_true, List.all_eq_true, decide_eq_true_eq, List.mem_range] at hok2
  exact ((hok2.1.1.1.2 i hi).1.2 p hp).2
 have hmap : ∀ (V : Nat → Value) (is : List Nat), (∀ p ∈ is, p < m) → is.map (fun p => (dsv l N p, V p)) = is.map fun p => (dsOf l p, V p) := fun V is h => List.map_congr_left fun p hp => by rw [iK (hsome p (h p hp))]
 refine cP (M := M) (w0 := w0) (e0 := join []) m ps [q2] hmix hok R (fun i v E hd hR => ?_)
  (fun D V e => (q2 ∉ D ∧ e = join []) ∨ (q2 ∈ D ∧ (∀ q ∈ qs, q ∈ D) ∧ e = E2 V (V q2)))
  (fun V => .inl ⟨by simp, rfl⟩) ?_ Y U.hollow ?_ ?_ ?_
 ·have := hsome i (hRm i v E hR)
  rw [hd] at this; cases this
 ·rintro i D V V' e him hmq hV hor
  simp only [List.mem_cons, List.not_mem_nil, or_false] at hmq
  rcases hor with ⟨a0, rfl⟩ | ⟨a0, a1, rfl⟩
  ·exact .inl ⟨by simp [a0, Ne.symm hmq], rfl⟩
  ·refine .inr ⟨by simp [a0], fun q hq => by simp [a1 q hq], ?_⟩
   rw [hV q2 a0]
   exact hdep V V' _ fun q hq => (hV q (a1 q hq)).symm
 ·intro i him hmq V E w hR D e hp hG hni hs
  rw [hmap V _ (hpsm i him)]
  simp only [List.mem_cons, List.not_mem_nil, or_false] at hmq
  have := Hop.use (V := V) (E := E) (hop i him hmq e) hR w (by simpa using hs.perm List.perm_middle.symm)
  simpa using this
 ·intro i him hmq V E w hR D e hp hG hni hs
  rw [hmap V _ (hpsm i him)]
  simp only [List.mem_cons, List.not_mem_nil, or_false] at hmq
  subst hmq
  have he : e = join [] := by rcases hG with h | h; exact h.2; exact absurd h.1 hni
  subst he
  have := HopL.use (V := V) (E := E) hdep hq2 hR (fun q hq => .inl (hqs q hq).1) w (by simpa using hs)
  refine OpR.mono (by simpa using this) ?_
  rintro v w' ⟨h1, h2, h3, h4⟩
  refine ⟨_, h1, h2, h3, h4, fun V' hV' hv => .inr ⟨by simp, fun q hq => by simp [hp q (hqs q hq).1], ?_⟩⟩
  rw [hv]
  exact hdep V V' _ fun q hq => (hV' q (hp q (hqs q hq).1)).symm
 ·rintro D V E e a w hD hor hR hf hs
  have hqD : ∀ q, q < m → q ∈ D := fun q hq => hD.mem_iff.2 (List.mem_range.2 hq)
  have he : e = E2 V (V q2) := by rcases hor with h | h; exact absurd (hqD _ hqm) h.1; exact h.2.2
  subst he
  rw [hmap V _ (fun p hp => List.mem_range.1 hp)] at hf
  exact HopK.use (V := V) (E := E) (hk V) (fun p hp => ⟨hR p (List.mem_range.1 hp), rfl⟩) a w (by simpa using hf) (by simpa using hs.perm List.perm_middle.symm)
theorem OpR.to_link {o : Oper} {f : Nat → Value} {e : Value → Ent} {R : Value → List Ent → Prop} (h : OpR P r o L w (GrowR w (pm f (fun b => [e (f b)]) fun _ => True))) (hR : ∀ b, R (f b) []) : OpR P r o L w (fun v w' => Ext (join []).foot w w' ∧ (e v).ok w' ∧ (∀ b, (e v).foot b → b < w'.heap.size ∧ ((join []).foot b ∨ w.heap.size ≤ b)) ∧ R v []) :=
 OpR.mono h fun v w' ⟨hx, E, ⟨x, hv, _, hE⟩, hin⟩ => by
  subst hv; subst hE
  exact ⟨hx.mono fun _ _ h => h.elim, (hin.1 _ (List.mem_singleton.2 rfl)).1, fun b hb => ⟨((hin.1 _ (List.mem_singleton.2 rfl)).2 b hb).2, .inr ((hin.1 _ (List.mem_singleton.2 rfl)).2 b hb).1⟩, hR _⟩
def scd (v : Value) : Value := v.cells.toList.getD 1 undef
end
end Go.PW
namespace Go.PW
open Go.RowKit
theorem nz (z : Value) (n : Nat) : madeCells #[z] n = (List.replicate n z).toArray := by
 apply Array.ext
 ·simp [madeCells]
 ·intro i h1 h2
  simp [madeCells, Nat.mod_one]
theorem g8 {P : Program} {t e : TypeId} {inf : TypeInfo} {z : Value} (ht : P.underlying t = some (.slice e)) (hi : P.info? e = some inf) (hz : inf.zero = some z) (hs : inf.size = 1) (h1 : z.cells = #[z]) (hb : inf.bytes ≤ 16) {els : List (List Value)} (n : Nat) (he : els = List.replicate n [z]) (hn : n ≤ 1000000) (w : World) :
  (Instr.makeSlice t (.int .i64 (n : Int)) (.int .i64 (n : Int))).run P w = .ok (.slice (some ⟨w.heap.size, 0, none⟩) n n) (w.alloc (.cells els.flatten.toArray e)) := by
 have hbn : (inf.bytes : Int) * (n : Int) ≤ 281474976710656 := by
  have h : inf.bytes * n ≤ 16 * 1000000 := Nat.mul_le_mul hb hn
  have h2 : ((inf.bytes * n : Nat) : Int) ≤ 281474976710656 := by omega
  rwa [Int.natCast_mul] at h2
 have h := run_make (P := P) w t e inf z ht hi hz .i64 .i64 n n (Int.natCast_nonneg n) (Int.le_refl _) hbn om
 rw [hs, h1, Nat.mul_one, Int.toNat_natCast, nz] at h
 rw [h, he, List.flatten_replicate_singleton]
end Go.PW
namespace Go.Proofs.YtddfkkdanpmnaaaDoor
theorem br {α : Type} {f : α → List Value} {l : List α} {i : Nat} (d : α) {h : i < (l.map f).length} : (l.map f)[i] = f (l.getD i d) := by
 have h' : i < l.length := by simpa using h
 rw [List.getElem_map, List.getD_eq_getElem?_getD, List.getElem?_eq_getElem h']; rfl
theorem bF {α : Type} {l : List α} {i : Nat} {d : α} (h : i < l.length) : l.getD i d ∈ l := by
 rw [List.getD_eq_getElem?_getD, List.getElem?_eq_getElem h]; exact List.getElem_mem h
theorem cc {α : Type} {l : List α} {k : Nat} (d : α) (h : k < l.length) : l.take (k + 1) = l.take k ++ [l.getD k d] := by
 rw [List.take_succ_eq_append_getElem h, List.getD_eq_getElem?_getD, List.getElem?_eq_getElem h]; rfl
end Go.Proofs.YtddfkkdanpmnaaaDoor
namespace Go.PW
open Go.RowKit
section
variable {P : Program} {w : World} {L : List (Nat × Value)} {dst : Option Tmp} {T T' ty : TypeId} {pos : String} {af : Array Edge} {gd : Option (Nat × Bool)} {x y : Operand}
theorem cU {m : Nat} (hm : m < 18446744073709551616) : IntKind.u64.wrap (m : Int) = (m : Int) := by simp [IntKind.wrap, IntKind.signed, IntKind.bits]; omega
theorem nH {m n : Nat} (hb : m + n < 18446744073709551616) (hx : ev L x = some (.int .u64 (m : Int))) (hy : ev L y = some (.int .u64 (n : Int))) : OpV P ⟨dst, .binOp .add T x y T', ty, pos, af, gd⟩ L w (.int .u64 ((m + n : Nat) : Int)) :=
 bO hx hy (by rw [cL (.inl rfl)]; simp only [← Int.natCast_add]; rw [cU hb])
theorem ml {m n : Nat} (hb : m * n < 18446744073709551616) (hx : ev L x = some (.int .u64 (m : Int))) (hy : ev L y = some (.int .u64 (n : Int))) : OpV P ⟨dst, .binOp .mul T x y T', ty, pos, af, gd⟩ L w (.int .u64 ((m * n : Nat) : Int)) :=
 bO hx hy (by rw [cL (.inr (.inr rfl))]; simp only [← Int.natCast_mul]; rw [cU hb])
theorem nE {m n : Nat} (hm : m < 18446744073709551616) (hn : 0 < n) (hx : ev L x = some (.int .u64 (m : Int))) (hy : ev L y = some (.int .u64 (n : Int))) : OpV P ⟨dst, .binOp .quo T x y T', ty, pos, af, gd⟩ L w (.int .u64 ((m / n : Nat) : Int)) :=
 bO hx hy (by
  have e : (m : Int).tdiv (n : Int) = ((m / n : Nat) : Int) := by rw [Int.tdiv_eq_ediv_of_nonneg (Int.natCast_nonneg _)]; rfl
  have hne : ¬ (n = 0) := by omega
  have hw : IntKind.u64.wrap ((m : Int).tdiv (n : Int)) = ((m / n : Nat) : Int) := by rw [e, cU (Nat.lt_of_le_of_lt (Nat.div_le_self _ _) hm)]
  rw [← hw]
  simp [binOp, Op.intDiv, hne])
theorem kA {m n : Nat} (hn : 0 < n) (hx : ev L x = some (.int .u64 (m : Int))) (hy : ev L y = some (.int .u64 (n : Int))) : OpV P ⟨dst, .binOp .rem T x y T', ty, pos, af, gd⟩ L w (.int .u64 ((m % n : Nat) : Int)) :=
 bO hx hy (by
  have e : (m : Int).tmod (n : Int) = ((m % n : Nat) : Int) := by rw [Int.tmod_eq_emod_of_nonneg (Int.natCast_nonneg _)]; rfl
  have hne : ¬ (n = 0) := by omega
  rw [← e]
  simp [binOp, Op.intDiv, hne])
theorem nG {m k : Nat} (hm : m < 18446744073709551616) (hk : k ≤ 63) (hx : ev L x = some (.int .u64 (m : Int))) (hy : ev L y = some (.int .u64 ((2 ^ k - 1 : Nat) : Int))) : OpV P ⟨dst, .binOp .and T x y T', ty, pos, af, gd⟩ L w (.int .u64 ((m % 2 ^ k : Nat) : Int)) :=
 bO hx hy (by
  simp only [binOp, Op.intBits, cj]
  have h2 : 2 ^ k ≤ 2 ^ 63 := Nat.pow_le_pow_right de hk
  have e : (BitVec.ofNat 64 m &&& BitVec.ofNat 64 (2 ^ k - 1)).toNat = m % 2 ^ k := by
   rw [BitVec.toNat_and, BitVec.toNat_ofNat, BitVec.toNat_ofNat, Nat.mod_eq_of_lt hm, Nat.mod_eq_of_lt om]
   exact Nat.and_two_pow_sub_one_eq_mod m k
  show Result.ok (Value.int .u64 (IntKind.u64.wrap ((BitVec.ofNat 64 m &&& BitVec.ofNat 64 (2 ^ k - 1)).toNat : Int))) w = _
  rw [e, cU (Nat.lt_of_le_of_lt (Nat.mod_le _ _) hm)])
theorem v_uor {m n k : Nat} (hm : m < 2 ^ k) (hb : m + n * 2 ^ k < 18446744073709551616) (hx : ev L x = some (.int .u64 (m : Int))) (hy : ev L y = some (.int .u64 ((n * 2 ^ k : Nat) : Int))) : OpV P ⟨dst, .binOp .or T x y T', ty, pos, af, gd⟩ L w (.int .u64 ((m + n * 2 ^ k : Nat) : Int)) :=
 bO hx hy (by
  simp only [binOp, Op.intBits, cj]
  have e : (BitVec.ofNat 64 m ||| BitVec.ofNat 64 (n * 2 ^ k)).toNat = m + n * 2 ^ k := by
   rw [BitVec.toNat_or, BitVec.toNat_ofNat, BitVec.toNat_ofNat, Nat.mod_eq_of_lt om, Nat.mod_eq_of_lt om]
   rw [Nat.or_comm, Nat.mul_comm n, ← Nat.two_pow_add_eq_or_of_lt hm, Nat.add_comm]
  show Result.ok (Value.int .u64 (IntKind.u64.wrap ((BitVec.ofNat 64 m ||| BitVec.ofNat 64 (n * 2 ^ k)).toNat : Int))) w = _
  rw [e, cU hb])
theorem nT {m : Nat} (hm : m < 18446744073709551616) (hx : ev L x = some (.int .u64 (m : Int))) (hy : ev L y = some (.int .u64 0)) : OpV P ⟨dst, .binOp .xor T x y T', ty, pos, af, gd⟩ L w (.int .u64 (m : Int)) :=
 bO hx hy (by
  have h0 : (0 : Int) = ((0 : Nat) : Int) := rfl
  rw [h0]
  simp only [binOp, Op.intBits, cj]
  have e : (BitVec.ofNat 64 m ^^^ BitVec.ofNat 64 0).toNat = m := by
   rw [BitVec.toNat_xor, BitVec.toNat_ofNat, Nat.mod_eq_of_lt hm]; simp
  show Result.ok (Value.int .u64 (IntKind.u64.wrap ((BitVec.ofNat 64 m ^^^ BitVec.ofNat 64 0).toNat : Int))) w = _
  rw [e, cU hm])
theorem nW {m : Nat} (hm : m < 18446744073709551616) (hx : ev L x = some (.int .u64 (m : Int))) (hy : ev L y = some (.int .u64 18446744073709551615)) : OpV P ⟨dst, .binOp .xor T x y T', ty, pos, af, gd⟩ L w (.int .u64 ((18446744073709551615 - m : Nat) : Int)) :=
 bO hx hy (by
  have h0 : (18446744073709551615 : Int) = ((18446744073709551615 : Nat) : Int) := rfl
  rw [h0]
  simp only [binOp, Op.intBits, cj]
  have e : (BitVec.ofNat 64 m ^^^ BitVec.ofNat 64 18446744073709551615).toNat = 18446744073709551615 - m := by
   have h1 : BitVec.ofNat 64 18446744073709551615 = BitVec.allOnes 64 := by decide
   rw [h1, BitVec.xor_allOnes, BitVec.toNat_not, BitVec.toNat_ofNat, Nat.mod_eq_of_lt hm]
  show Result.ok (Value.int .u64 (IntKind.u64.wrap ((BitVec.ofNat 64 m ^^^ BitVec.ofNat 64 18446744073709551615).toNat : Int))) w = _
  rw [e, cU om])
theorem nt {m n : Nat} {k : IntKind} (hn : n ≤ 64) (hx : ev L x = some (.int .u64 (m : Int))) (hy : ev L y = some (.int k (n : Int))) : OpV P ⟨dst, .binOp .shr T x y T', ty, pos, af, gd⟩ L w (.int .u64 ((m / 2 ^ n : Nat) : Int)) :=
 cM hx hy rfl (by
  have h0 : ¬ ((n : Int) < 0) := by omega
  show (Op.shift .shr .u64 (m : Int) k (n : Int)).run P w = _
  simp only [Op.shift, if_neg h0, Int.toNat_natCast]
  show Result.ok (Value.int .u64 ((m : Int).fdiv (2 ^ (min n 64)))) w = _
  rw [Nat.min_eq_left hn]
  have : ((2 : Int) ^ n) = ((2 ^ n : Nat) : Int) := by push_cast; rfl
  rw [this, Int.fdiv_eq_ediv_of_nonneg _ (Int.natCast_nonneg _), ← Int.natCast_ediv])
theorem kJ {m n : Nat} {k : IntKind} (hn : n ≤ 64) (hx : ev L x = some (.int .u64 (m : Int))) (hy : ev L y = some (.int k (n : Int))) : OpV P ⟨dst, .binOp .shl T x y T', ty, pos, af, gd⟩ L w (.int .u64 ((m * 2 ^ n % 18446744073709551616 : Nat) : Int)) :=
 cM hx hy rfl (by
  have h0 : ¬ ((n : Int) < 0) := by omega
  show (Op.shift .shl .u64 (m : Int) k (n : Int)).run P w = _
  simp only [Op.shift, if_neg h0, Int.toNat_natCast]
  show Result.ok (Value.int .u64 (IntKind.u64.wrap ((m : Int) * 2 ^ (min n 64)))) w = _
  rw [Nat.min_eq_left hn]
  have : (m : Int) * ((2 : Int) ^ n) = ((m * 2 ^ n : Nat) : Int) := by push_cast; rfl
  rw [this]
  have h2 : IntKind.u64.wrap ((m * 2 ^ n : Nat) : Int) = ((m * 2 ^ n % 18446744073709551616 : Nat) : Int) := by
   generalize m * 2 ^ n = q
   simp [IntKind.wrap, IntKind.signed, IntKind.bits]
  rw [h2])
theorem fp {n : Nat} (hx : ev L x = some (.int .u64 (n : Int))) (hs : (P.underlying T).isSome = true) (hd : P.underlying T' = some (.int .u8)) : OpV P ⟨dst, .convert T T' x, ty, pos, af, gd⟩ L w (yv (UInt8.ofNat n)) :=
 (dl hx hs hd).as (by rw [iG]; rfl)
theorem fo {n : Nat} (hn : n < 9223372036854775808) (hx : ev L x = some (.int .u64 (n : Int))) (hs : (P.underlying T).isSome = true) (hd : P.underlying T' = some (.int .i64)) : OpV P ⟨dst, .convert T T' x, ty, pos, af, gd⟩ L w (.int .i64 (n : Int)) :=
 (dl hx hs hd).as (by rw [IntWalk.i64_in _ ⟨om, om⟩])
theorem iq {b : UInt8} (hx : ev L x = some (yv b)) (hs : (P.underlying T).isSome = true) (hd : P.underlying T' = some (.int .u64)) : OpV P ⟨dst, .convert T T' x, ty, pos, af, gd⟩ L w (.int .u64 ((b.toNat : Nat) : Int)) :=
 (dl hx hs hd).as (by rw [cU (by have := b.toNat_lt; omega)])
theorem ip {a b : UInt8} {op : BinOp} (h : op = .and ∨ op = .or) : (binOp op T (yv a) (yv b)).run P w = .ok (yv (match op with | .and => a &&& b | _ => a ||| b)) w := by
 have key : ∀ c : BitVec 8, IntKind.u8.wrap (c.toNat : Int) = (c.toNat : Int) := fun c => by
  have := c.isLt
  simp [IntKind.wrap, IntKind.signed, IntKind.bits]; omega
 rcases h with rfl | rfl
 ·simp only [binOp, yv, Op.intBits, cj]
  show Result.ok (Value.int .u8 (IntKind.u8.wrap ((BitVec.ofNat 8 a.toNat &&& BitVec.ofNat 8 b.toNat).toNat : Int))) w = _
  rw [key]
  have e : (BitVec.ofNat 8 a.toNat &&& BitVec.ofNat 8 b.toNat).toNat = (a &&& b).toNat := by
   have h1 := a.toNat_lt
   have h2 := b.toNat_lt
   rw [BitVec.toNat_and, BitVec.toNat_ofNat, BitVec.toNat_ofNat, Nat.mod_eq_of_lt om, Nat.mod_eq_of_lt om, UInt8.toNat_and]
  rw [e]
 ·simp only [binOp, yv, Op.intBits, cj]
  show Result.ok (Value.int .u8 (IntKind.u8.wrap ((BitVec.ofNat 8 a.toNat ||| BitVec.ofNat 8 b.toNat).toNat : Int))) w = _
  rw [key]
  have e : (BitVec.ofNat 8 a.toNat ||| BitVec.ofNat 8 b.toNat).toNat = (a ||| b).toNat := by
   have h1 := a.toNat_lt
   have h2 := b.toNat_lt
   rw [BitVec.toNat_or, BitVec.toNat_ofNat, BitVec.toNat_ofNat, Nat.mod_eq_of_lt om, Nat.mod_eq_of_lt om, UInt8.toNat_or]
  rw [e]
theorem pg {a b : UInt8} (hx : ev L x = some (yv a)) (hy : ev L y = some (yv b)) : OpV P ⟨dst, .binOp .and T x y T', ty, pos, af, gd⟩ L w (yv (a &&& b)) := bO hx hy (ip (.inl rfl))
theorem v_yor {a b : UInt8} (hx : ev L x = some (yv a)) (hy : ev L y = some (yv b)) : OpV P ⟨dst, .binOp .or T x y T', ty, pos, af, gd⟩ L w (yv (a ||| b)) := bO hx hy (ip (.inr rfl))
theorem nZ {n : Int} {k : IntKind} (h1 : -9223372036854775808 ≤ n) (h2 : n ≤ 9223372036854775807) (hx : ev L x = some (.int .i64 n)) (hy : ev L y = some (.int k 63)) : OpV P ⟨dst, .binOp .shr T x y T', ty, pos, af, gd⟩ L w (.int .i64 (if n < 0 then -1 else 0)) :=
 cM hx hy rfl (by
  show (Op.shift .shr .i64 n k 63).run P w = _
  have h0 : ¬ ((63 : Int) < 0) := by omega
  simp only [Op.shift, if_neg h0]
  show Result.ok (Value.int .i64 (n.fdiv (2 ^ 63))) w = _
  have e : n.fdiv (2 ^ 63) = if n < 0 then -1 else 0 := by
   rw [Int.fdiv_eq_ediv_of_nonneg _ de]
   split <;> omega
  rw [e])
theorem mT {n : Int} (h1 : -9223372036854775808 ≤ n) (h2 : n ≤ 9223372036854775807) (b : Bool) : (binOp .xor T (.int .i64 n) (.int .i64 (if b then -1 else 0))).run P w = .ok (.int .i64 (if b then -n - 1 else n)) w := by
 have e1 : (BitVec.ofInt 64 n).toInt = n := by
  rw [BitVec.toInt_ofInt]
  exact Int.bmod_eq_of_le om om
 cases b with
 | false =>
  simp only [binOp, Op.intBits]
  show Result.ok (Value.int .i64 (IntKind.i64.wrap ((BitVec.ofInt 64 n ^^^ BitVec.ofInt 64 0).toNat : Int))) w = _
  have e : BitVec.ofInt 64 n ^^^ BitVec.ofInt 64 0 = BitVec.ofInt 64 n := by simp
  rw [e]
  have : IntKind.i64.wrap ((BitVec.ofInt 64 n).toNat : Int) = n := by
   have h := BitVec.toInt_eq_toNat_bmod (BitVec.ofInt 64 n)
   rw [e1] at h
   rw [h]
   simp only [IntKind.wrap, IntKind.signed, IntKind.bits, Int.bmod]
   have := (BitVec.ofInt 64 n).isLt
   simp; split <;> omega
  rw [this]; rfl
 | true =>
  simp only [binOp, Op.intBits]
  show Result.ok (Value.int .i64 (IntKind.i64.wrap ((BitVec.ofInt 64 n ^^^ BitVec.ofInt 64 (-1)).toNat : Int))) w = _
  have e : BitVec.ofInt 64 n ^^^ BitVec.ofInt 64 (-1) = BitVec.ofInt 64 (-n - 1) := by
   have h : BitVec.ofInt 64 (-1) = BitVec.allOnes 64 := by decide
   rw [h, BitVec.xor_allOnes]
   apply BitVec.eq_of_toInt_eq
   rw [BitVec.toInt_not, BitVec.toInt_ofInt]
   have h := BitVec.toInt_eq_toNat_bmod (BitVec.ofInt 64 n)
   rw [e1] at h
   have h3 := (BitVec.ofInt 64 n).isLt
   generalize (BitVec.ofInt 64 n).toNat = q at *
   rw [Int.bmod_eq_of_le (n := -n-1) om om]
   rw [h]
   simp only [Int.bmod] at *
   omega
  rw [e]
  have e2 : (BitVec.ofInt 64 (-n - 1)).toInt = -n - 1 := by
   rw [BitVec.toInt_ofInt]
   exact Int.bmod_eq_of_le om om
  have : IntKind.i64.wrap ((BitVec.ofInt 64 (-n - 1)).toNat : Int) = -n - 1 := by
   have h := BitVec.toInt_eq_toNat_bmod (BitVec.ofInt 64 (-n - 1))
   rw [e2] at h
   rw [h]
   simp only [IntKind.wrap, IntKind.signed, IntKind.bits, Int.bmod]
   have := (BitVec.ofInt 64 (-n - 1)).isLt
   simp; split <;> omega
  rw [this]; rfl
theorem pi {n : Int} (b : Bool) (h1 : -9223372036854775808 ≤ n) (h2 : n ≤ 9223372036854775807) (hx : ev L x = some (.int .i64 n)) (hy : ev L y = some (.int .i64 (if b then -1 else 0))) : OpV P ⟨dst, .binOp .xor T x y T', ty, pos, af, gd⟩ L w (.int .i64 (if b then -n - 1 else n)) := bO hx hy (mT h1 h2 b)
end
end Go.PW
namespace Go.PW
open Go.RowKit Go.Lib
theorem fH {P : Program} (w : World) (t u ty e : TypeId) (i : TypeInfo) (ht : P.underlying t = some (.slice e)) (hu : P.underlying u = some .string) (hi : P.info? e = some i) (hz : i.zero = some (.int .u8 0)) (hsize : i.size = 1) (hby : i.bytes = 1)
  (v : Value) (n : Nat) (xs : List Value) (hown : ownsG w e 1 v n xs) (s : ByteArray) (h0 : 0 < s.size) (hbytes : n + s.size ≤ 140737488355328) :
  ∃ v' w', (Builtin.append_ #[t, u] ty #[v, .string s]).run P w = .ok v' w' ∧ ownsG w' e 1 v' (n + s.size) (xs ++ strCells s) ∧ w.grownBy w' v.ownBlock ∧ (v'.ownBlock = v.ownBlock ∨ v'.ownBlock = some w.heap.size) := by
 have hxl : xs.length = n := by simpa using hown.1
 have hlen : (xs ++ strCells s).length = (n + s.size) * 1 := by rw [List.length_append, hxl, strCells_length, Nat.mul_one]
 have h63 : n + s.size ≤ maxLen := by unfold maxLen; omega
 have hz1 : (Value.int IntKind.u8 0).cells.size = 1 := rfl
 have grown : ∀ (old : Nat) (xsa : Array Value), xsa.toList = xs ++ strCells s → old < n + s.size → ∀ (row : Option Nat),
   ownsG (w.drew.alloc (.cells (xsa ++ Builtin.zeroCells (Value.int IntKind.u8 0).cells (grownCap w (n + s.size) old e - (n + s.size))) e)) e 1
    (.slice (some ⟨w.heap.size, 0, none⟩) (n + s.size) (grownCap w (n + s.size) old e)) (n + s.size) (xs ++ strCells s) ∧
   w.grownBy (w.drew.alloc (.cells (xsa ++ Builtin.zeroCells (Value.int IntKind.u8 0).cells (grownCap w (n + s.size) old e - (n + s.size))) e)) row := by
  intro old xsa hxa ho row
  have hge := grownCap_ge w (n + s.size) old e
  have hcm : grownCap w (n + s.size) old e ≤ maxLen := grownCap_le_maxLen w (n + s.size) old e h63
  have hxs : xsa.size = n + s.size := by rw [← Array.length_toList, hxa, hlen, Nat.mul_one]
  refine ⟨⟨hlen, .inr ⟨w.heap.size, _, _, (0, 0), rfl, heap_alloc_new w.drew _, .inl rfl, hge, hcm, ?_, ?_⟩⟩, ⟨rfl, rfl, rfl, by simp, fun k hk _ => Below.heap_alloc w.drew _ k hk⟩⟩
  ·simp only [Array.size_append, size_zeroCells, hz1, hxs]; omega
  ·rw [Array.toList_append, hxa, ← hlen]; exact List.take_left
 rcases hown.2 with ⟨rfl, rfl⟩ | ⟨g, cap, cur, fz, rfl, hg, hfz, hnc, hcm, hcs, htake⟩
 ·have hx : xs = [] := List.eq_nil_of_length_eq_zero hxl
  subst hx
  have hr := run_append_nil_string (P := P) w t u ty e i (.int .u8 0) ht hu hi hz s h0 om (by rw [hby]; omega)
  have hgr := grown 0 (s.data.map fun b => Value.int .u8 b.toNat) (by simp [strCells]) om (Value.ownBlock (.slice none 0 0))
  simp only [Nat.zero_add, List.nil_append] at hgr ⊢
  exact ⟨_, _, hr, hgr.1, hgr.2, .inr rfl⟩
 ·by_cases hroom : n + s.size ≤ cap
  ·have hcs' : cur.size = cap := by simpa using hcs
   have hf := run_firstCells_string (P := P) w 1 s
   have U := bV P g n e fz (strCells s) 0 cur w hg (by rcases hfz with h | h <;> simp [strCells_length] at h ⊢ <;> omega) (by rw [strCells_length]; omega) (strCells_oneCell s)
   simp only [Nat.add_zero, strCells_length] at U
   have hr : (Builtin.append_ #[t, u] ty #[.slice (some ⟨g, 0, none⟩) n cap, .string s]).run P w =
     .ok (.slice (some ⟨g, 0, none⟩) (n + s.size) cap) (w.setRow g (cur.toList.take n ++ strCells s ++ cur.toList.drop (n + s.size)).toArray) := by
    simp [Builtin.append_, run_underlying ht, run_underlying hu, sizeOf, typeInfo, hi, hsize, Builtin.lenOf, hroom, hf, Addr.add_lit, U]
   refine ⟨_, _, hr, ⟨hlen, .inr ⟨g, cap, _, fz, rfl, setRow_heap w g cur _ e _ hg, hfz, hroom, hcm, ?_, ?_⟩⟩, ⟨rfl, rfl, rfl, by simp, fun k _ hk => setRow_other w g k _ (fun e => hk (by simp [Value.ownBlock, e]))⟩, .inl rfl⟩
   ·simp only [List.size_toArray, List.length_append, List.length_take, List.length_drop, Array.length_toList, strCells_length]
    omega
   ·have ht' : cur.toList.take n = xs := by simpa using htake
    rw [ht', ← hlen]
    exact List.take_left
  ·have holds : ∀ j u, xs[j]? = some u → w.cell? ((⟨g, 0, none⟩ : Addr).add j) = some u := hown.cells (g := g) rfl
   have hr := run_append_grow_string (P := P) w t u ty e i (.int .u8 0) ht hu hi hz ⟨g, 0, none⟩ n cap xs (by rw [hsize]; simpa using hxl) holds s om om (by rw [hby]; exact growslice_fits om om)
   have hgr := grown cap (xs.toArray ++ (strCells s).toArray) sm om (Value.ownBlock (.slice (some ⟨g, 0, none⟩) n cap))
   exact ⟨_, _, hr, hgr.1, hgr.2, .inr rfl⟩
section
variable {P : Program} {r : Option Nat} {ops : Array Oper} {K : Act → World → Prop} {rest : List Oper} {a : Act} {w w' w0 : World} {M : Nat → Prop} {H : List Ent}
variable {N : Nat} {L : List (Nat × Value)} {df : List Deferred} {d : Nat} {dst : Option Tmp} {ty : TypeId} {pos : String} {af : Array Edge} {gd : Option (Nat × Bool)}
variable {v : Value} {E T T' : TypeId} {x y : Operand}
theorem jn (s : List UInt8) : strCells ⟨s.toArray⟩ = s.map yv := by simp [strCells, yv]
theorem fK (xs : List UInt8) : (xs.map fun b => [yv b]).flatten = xs.map yv := by
 induction xs with
 | nil => rfl
 | cons x xs ih => rw [List.map_cons, List.flatten_cons, ih]; rfl
theorem eA {i : Nat} {bs s : List UInt8} {sT uT : TypeId} {inf : TypeInfo} (hi : H[i]? = some (own v E 1 (bs.map fun b => [yv b]))) (hx : ev L x = some v) (hy : ev L y = some (sv s)) (hne : s ≠ [])
  (ht : P.underlying sT = some (.slice E)) (hu : P.underlying uT = some .string) (hinf : P.info? E = some inf) (hz : inf.zero = some (.int .u8 0)) (hsize : inf.size = 1) (hby : inf.bytes = 1) (hb : bs.length + s.length ≤ 140737488355328) (hd : d < N) (Y : Fr N L df a) (U : St M w0 H w)
  (k : ∀ a w' v', Fr N ((d, v') :: L) df a → St M w0 (H.set i (own v' E 1 ((bs ++ s).map fun b => [yv b]))) w' → WL P r ops K rest a w') :
  WL P r ops K (⟨some d, .call { callee := .builtin .append, args := #[x, y], argTypes := #[sT, uT] }, ty, pos, af, none⟩ :: rest) a w := by
 obtain ⟨h1, h2, h3⟩ := U.get hi
 rw [List.length_map, fK] at h3
 have hss : (ByteArray.mk s.toArray).size = s.length := by simp [ByteArray.size]
 obtain ⟨v', w', hr, h4, h5, h7⟩ := fH (P := P) w sT uT ty E inf ht hu hinf hz hsize hby v bs.length (bs.map yv) h3 ⟨s.toArray⟩ (by rw [hss]; exact List.length_pos_iff.2 hne) (by rw [hss]; exact hb)
 rw [hss, jn, ← List.map_append] at h4
 have hok : (own v' E 1 ((bs ++ s).map fun b => [yv b])).ok w' := ⟨fun e he => by obtain ⟨_, _, rfl⟩ := List.mem_map.1 he; rfl, by simp [big]; omega, by rw [List.length_map, fK, List.length_append]; exact h4⟩
 refine wl_r (R := fun v2 w2 => v2 = v' ∧ w2 = w') ?_ rfl (decide_eq_true hd) Y fun a v2 w2 ⟨e1, e2⟩ h => ?_
 ·intro N df a Y
  refine bG rfl (v := v') (w' := w') ?_ ⟨v', rfl, rfl, rfl⟩
  have hy' : ev L y = some (.string ⟨s.toArray⟩) := hy
  simp only [execOp, resolve, invoke, builtin, Sem.run_bind, Sem.run_pure, Result.andThen_ok, List.map_toArray, List.map_cons, List.map_nil, Y.eval hx, Y.eval hy', hr]
 ·subst e1; subst e2
  refine k _ _ _ h (U.exchange hi ⟨h5.os, h5.tape, h5.output, h5.size, fun k hk hn => h5.block k hk (fun e => hn e.symm)⟩ hok fun g hg => ?_)
  have hg' : v2.ownBlock = some g := hg
  refine ⟨h4.lt g hg, ?_⟩
  rcases h7 with hb | hb
  ·exact .inl (by show v.ownBlock = some g; rw [← hb]; exact hg')
  ·rw [hg'] at hb; cases hb; exact .inr (Nat.le_refl _)
theorem kt {b : Nat} {cs : List Value} {t : TypeId} {j : TypeInfo} (hb : (blk b cs E).ok w) (hx : ev L x = some (.pointer (some ⟨b, 0, none⟩))) (hs : P.underlying T = some (.pointer t)) (hd : P.underlying T' = some .unsafePointer) (ht : P.info? t = some j) (hj : (j.size == 0) = false) (hc : cs ≠ []) :
  OpV P ⟨dst, .convert T T' x, ty, pos, af, gd⟩ L w (pq b) :=
 c8 hx (run_to_unsafe w (e := E) (cells := cs.length) ⟨b, 0, none⟩ hs hd ht (by simpa using hj) (by have hb' : w.heap[b]? = some (.cells cs.toArray E) := hb; simp [World.shape?, hb']) (List.length_pos_iff.2 hc))
theorem iW {b : Nat} {cs : List Value} {t : TypeId} {j : TypeInfo} (hb : (blk b cs E).ok w) (hx : ev L x = some (.pointer (some ⟨b, 0, none⟩))) (hs : P.underlying T = some .unsafePointer) (hd : P.underlying T' = some (.pointer t)) (ht : P.info? t = some j) (hl : liesAt P P.depth E (cs.length / P.cellsOf E) 0 t 1 = true) :
  OpV P ⟨dst, .convert T T' x, ty, pos, af, gd⟩ L w (pq b) :=
 c8 hx (run_from_unsafe w (e := E) (cells := cs.length) ⟨b, 0, none⟩ hs hd ht (by have hb' : w.heap[b]? = some (.cells cs.toArray E) := hb; simp [World.shape?, hb']) hl)
theorem kC {f : FuncId} {fn : Func} {u : Value} {ats : Array TypeId} (hf : P.funcs[f]? = some fn) (hname : (fn.name == "runtime.NumGoroutine") = false) (hb : fn.body.isNone = true) (hn : Extern.findNext fn = none) (he : Extern.find fn = some Extern.AbiNoEscape.same) (hx : ev L x = some u) :
  OpV P ⟨dst, .call { callee := .value (.func f), args := #[x], argTypes := ats }, ty, pos, af, gd⟩ L w u :=
 ⟨rfl, fun N df a h => by
  have e1 : a.eval x = u := h.eval hx
  have e2 : a.eval (.func f) = .func (.func f) #[] #[] := rfl
  have e3 : (callFunc f #[u]).run P w = .ok (.value u) w := by rw [run_callFunc_extern hf hname hb hn he, run_noEscape]; rfl
  simp [execOp, resolve, e1, e2, Deferred.ofValue, invoke, e3]⟩
theorem ly {g n : Nat} {cur : Array Value} {fz : Nat × Nat} (hn : n ≠ 0) (hg : w.heap[g]? = some (.cells cur E fz)) : ∃ fz', (w.freeze ⟨g, 0, none⟩ n).heap[g]? = some (.cells cur E fz') ∧ (w.freeze ⟨g, 0, none⟩ n).heap.size = w.heap.size ∧ Ext (· = g) w (w.freeze ⟨g, 0, none⟩ n) := by
 unfold World.freeze
 rw [if_neg hn]
 obtain ⟨lo, hi⟩ := fz
 refine ⟨(if lo == hi then (0, 0 + n) else (min lo 0, max hi (0 + n))), ?_, by simp, ⟨rfl, rfl, rfl, by simp, fun k hk hne => ?_⟩⟩
 ·simp only [Array.getElem?_modify, if_true, hg, Option.map_some]
 ·simp only [Array.getElem?_modify]
  rw [if_neg (fun e => hne e.symm)]
theorem go {g cap : Nat} {bs : List UInt8} {pT iT : TypeId} (hok : (own (.slice (some ⟨g, 0, none⟩) bs.length cap) E 1 (bs.map fun b => [yv b])).ok w) (hne : bs ≠ []) (hx : ev L x = some (.pointer (some ⟨g, 0, none⟩))) (hy : ev L y = some (.int .i64 (bs.length : Int))) (hp : P.underlying pT = some (.pointer E)) (hc : P.cellsOf E = 1) :
  OpR P r ⟨dst, .call { callee := .builtin .unsafeString, args := #[x, y], argTypes := #[pT, iT] }, ty, pos, af, gd⟩ L w fun v w' => v = sv bs ∧ Ext (own (.slice (some ⟨g, 0, none⟩) bs.length cap) E 1 (bs.map fun b => [yv b])).foot w w' ∧ (sl (.slice (some ⟨g, 0, none⟩) bs.length cap) 1 (bs.map fun b => [yv b])).ok w' ∧
   ∀ k, (sl (.slice (some ⟨g, 0, none⟩) bs.length cap) 1 (bs.map fun b => [yv b])).foot k → k < w'.heap.size ∧ ((own (.slice (some ⟨g, 0, none⟩) bs.length cap) E 1 (bs.map fun b => [yv b])).foot k ∨ w.heap.size ≤ k) := by
 have hat := gg hok
 obtain ⟨h1, h2, h3⟩ := hok
 rw [List.length_map, fK] at h3
 have hcells := h3.cells (g := g) rfl
 rcases h3.2 with ⟨hv, _⟩ | ⟨g', cap', cur, fz, hv, hg, hfz, hnc, hcm, hcs, htk⟩
 ·cases hv
 ·obtain ⟨rfl, rfl⟩ : g = g' ∧ cap = cap' := by simpa using hv
  have hn0 : bs.length ≠ 0 := by simpa using hne
  obtain ⟨fz', hg2, hs2, hx2⟩ := ly (n := bs.length) hn0 hg
  have hr := run_unsafeString_row (P := P) w pT iT ty E hp hc g cur.size (by simp [World.shape?, hg]) bs hne om (by unfold maxLen at hcm; omega) (fun j b hj => hcells j (.int .u8 b.toNat) (by simp [hj, yv]))
  have hlt : g < w.heap.size := (Array.getElem?_eq_some_iff.1 hg).1
  refine fun N df a h => bG rfl (v := sv bs) (w' := w.freeze ⟨g, 0, none⟩ bs.length) ?_ ⟨_, rfl, rfl, hx2.mono (fun k _ hk => by subst hk; rfl), ⟨hat.1, hat.2.1, .inr ⟨g, 0, cap, by simp, by simpa using hnc, by rw [hs2]; exact hlt, fun j u hu => ?_⟩⟩, fun k hk => ?_⟩
  ·simp only [execOp, resolve, invoke, builtin, Sem.run_bind, Sem.run_pure, Result.andThen_ok, List.map_toArray, List.map_cons, List.map_nil, h.eval hx, h.eval hy, hr]
   rfl
  ·rw [fK] at hu
   have := hcells j u hu
   rw [bL] at this
   rw [cell_of_row w g _ cur E fz hg] at this
   rw [cell_of_row _ g _ cur E fz' hg2]
   exact this
  ·have hk' : g = k := by simpa [sl, slBlk] using hk
   subst hk'
   exact ⟨by rw [hs2]; exact hlt, .inl rfl⟩
theorem jm {g n cap : Nat} {ats : Array TypeId} (hx : ev L x = some (.slice (some ⟨g, 0, none⟩) n cap)) (hc : cap ≠ 0) : OpV P ⟨dst, .call { callee := .builtin .unsafeSliceData, args := #[x], argTypes := ats }, ty, pos, af, gd⟩ L w (.pointer (some ⟨g, 0, none⟩)) :=
 cE (xs := [x]) (vs := [.slice (some ⟨g, 0, none⟩) n cap]) (by simp [evs, hx]) (by
  have := run_unsafeSliceData_row (P := P) w ats ty ⟨g, 0, none⟩ n cap hc
  simp [builtin, this])
theorem pk {tp te : TypeId} (hx : ev L x = some (.pointer none)) (hy : ev L y = some (.pointer none)) (hp : P.underlying tp = some (.pointer te)) : OpV P ⟨dst, .binOp .eql tp x y T', ty, pos, af, gd⟩ L w (.bool true) :=
 cM hx hy rfl (by
  have h : ∀ d : Nat, (Op.equalIn (d + 1) tp (.pointer none) (.pointer none)).run P w = .ok true w := fun d => by simp [Op.equalIn, run_underlying hp]
  simp only [binOp]
  simp [Op.equal, Op.maxDepth, h 9999])
theorem mB {tp te : TypeId} {a : Addr} (hx : ev L x = some (.pointer (some a))) (hy : ev L y = some (.pointer none)) (hp : P.underlying tp = some (.pointer te)) : OpV P ⟨dst, .binOp .eql tp x y T', ty, pos, af, gd⟩ L w (.bool false) :=
 cM hx hy rfl (by
  have h : ∀ d : Nat, (Op.equalIn (d + 1) tp (.pointer (some a)) (.pointer none)).run P w = .ok false w := fun d => by simp [Op.equalIn, run_underlying hp]
  simp only [binOp]
  simp [Op.equal, Op.maxDepth, h 9999])
theorem n7 {tp te : TypeId} {j : TypeInfo} {a : Addr} (hx : ev L x = some (.pointer (some a))) (hy : ev L y = some (.pointer (some a))) (hp : P.underlying tp = some (.pointer te)) (hte : P.info? te = some j) : OpV P ⟨dst, .binOp .neq tp x y T', ty, pos, af, gd⟩ L w (.bool false) :=
 cM hx hy rfl (run_neq_ptr_same w a hp hte)
theorem St.single {i : Nat} {e : Ent} (U : St M w0 H w) (hi : H[i]? = some e) : St e.foot w [e] w :=
 ⟨Ext.refl _ _, fun e' he => by rw [List.mem_singleton.1 he]; exact ⟨U.get hi, fun k hk => ⟨U.lt hi hk, fun _ => hk⟩⟩, by simp⟩
theorem dg {f : FuncId} {xs : List Operand} {vs : List Value} {ats : Array TypeId} {e : Ent} {R : Value → Ent → Prop} (i : Nat) (Y : Fr N L df a) (U : St M w0 H w) (hi : H[i]? = some e) (hd : d < N) (hen : ∀ args w, (callFunc f args).run P w = .ok (.enter f args) w) (hx : evs L xs = some vs)
  (hc : St e.foot w [e] w → Ret P f vs.toArray w fun u w' => ∃ e', R u e' ∧ St e.foot w [e'] w')
  (k : ∀ a w' u e', R u e' → Fr N ((d, u) :: L) df a → St M w0 (H.set i e') w' → WL P r ops K rest a w') :
  WL P r ops K (⟨some d, .call { callee := .value (.func f), args := xs.toArray, argTypes := ats }, ty, pos, af, none⟩ :: rest) a w :=
 wl_r (dT hen hx (hc (St.single U hi))) rfl (decide_eq_true hd) Y fun a u w' ⟨e', hR, hs⟩ h =>
  k _ _ _ _ hR h (U.exchange hi hs.ext (hs.ok e' sm).1 fun b hb => by
   obtain ⟨h1, h2⟩ := (hs.ok e' sm).2 b hb
   refine ⟨h1, ?_⟩
   rcases Nat.lt_or_ge b w.heap.size with h | h
   ·exact .inl (h2 h)
   ·exact .inr h)
end
end Go.PW
namespace Go.PW
open Go.RowKit
section
variable {P : Program} {r : Option Nat} {a : Act} {w w' w0 : World} {M : Nat → Prop} {H : List Ent} {N d : Nat} {L : List (Nat × Value)} {df : List Deferred} {Q : Exit → Act → World → Prop} {ops : Array Oper} {l l1 l2 rest : List Oper} {y : Code}
variable {dst : Option Tmp} {T ty : TypeId} {pos : String} {af : Array Edge} {x : Operand} {xs : List Operand} {vs : List Value} {ats : Array TypeId}
def WX (P : Program) (r : Option Nat) (ops : Array Oper) (Q : Exit → Act → World → Prop) (l : List Oper) (a : Act) (w : World) : Prop := wpListIn (Fw r) 0 P ops Q l a w
theorem iC : ∀ {l1 : List Oper} {a : Act} {w : World}, WL P r ops (WX P r ops Q l2) l1 a w → WX P r ops Q (l1 ++ l2) a w
 | [], a, w, h => h
 | o :: l1, a, w, h => by
  unfold WL at h
  show wpListIn (Fw r) 0 P ops Q (o :: (l1 ++ l2)) a w
  unfold wpListIn
  split
  ·rename_i hw
   rw [if_pos hw] at h
   exact ⟨h.1, dp (fun a w h => iC h) (fun e a w h => h.elim) h.2⟩
  ·rename_i hw
   rw [if_neg hw] at h
   exact ⟨fun _ _ => trivial, iC h⟩
theorem jH (h : WL P r ops (fun a w => Q .normal a w) l a w) : WX P r ops Q l a w := by
 have := iC (l1 := l) (l2 := []) (P := P) (r := r) (ops := ops) (Q := Q) h
 rwa [List.append_nil] at this
theorem bQ (k : Nat) (h : WL P r ops (WX P r ops Q (l.drop k)) (l.take k) a w) : WX P r ops Q l a w := by
 have := iC h
 rwa [List.take_append_drop] at this
theorem bT {id : Nat} (h : WX P r l.toArray Q l a w) : WC P r (.region id l.toArray false) Q a w := wpIn_region_lit h
theorem ge {id : Nat} (h : ∀ Q' : Exit → Act → World → Prop, (∀ a w, WC P r y Q a w → Q' .normal a w) → (∀ c a w, Q (.panic c) a w → Q' (.panic c) a w) → WX P r l.toArray Q' l a w) :
  WC P r (.seq (.region id l.toArray false) y) Q a w := kK (bT (h _ (fun _ _ h => h) (fun _ _ _ h => h)))
theorem fN {K : Act → World → Prop} {x : Code} (J : Act → World → Prop) (hx : WC P r x (Exit.then J Q) a w) (hy : ∀ a w, J a w → K a w) : WC P r x (Exit.then K Q) a w :=
 oL hx fun e a w h => by cases e <;> first | exact hy _ _ h | exact h
theorem eP {v : Value} (Y : Fr N L df a) (hx : ev L x = some (.iface T v)) (k : Q (.panic [{ v := .iface T v, recovered := false }]) a w) :
  WX P r ops Q (⟨dst, .panic x, ty, pos, af, none⟩ :: rest) a w := by
 show wpListIn (Fw r) 0 P ops Q (⟨dst, .panic x, ty, pos, af, none⟩ :: rest) a w
 unfold wpListIn
 rw [if_pos (by simp [Region.wanted])]
 refine ⟨fun _ _ => trivial, ?_⟩
 rw [cD rfl]
 have e : (execOp a.eval ⟨dst, .panic x, ty, pos, af, none⟩).run P w = .halt (.panic (.iface T v)) w := by
  simp only [execOp, Y.eval hx, Instr.panic]; rfl
 rw [e]
 exact k
theorem dt {fs : Array Field} {v : Value} (hx : ev L x = some v) (hu : P.underlying T = some (.struct fs)) : OpV P ⟨dst, .makeInterface T x, ty, pos, af, none⟩ L w (.iface T v) :=
 ⟨rfl, fun N df a h => by
  simp only [execOp, h.eval hx, Instr.makeInterface, Sem.run_bind, run_underlying hu, Result.andThen_ok]; rfl⟩
def Pan (P : Program) (f : FuncId) (args : Array Value) (w : World) (X : List PanicEntry → World → Prop) : Prop := Calls P f args w fun e w' => ∃ c, e = .panicked c ∧ X c w'
theorem gz {f : FuncId} {X : List PanicEntry → World → Prop} (Y : Fr N L df a) (hen : ∀ args w, (callFunc f args).run P w = .ok (.enter f args) w) (hx : evs L xs = some vs) (hc : Pan P f vs.toArray w X)
  (k : ∀ c w', X c w' → Q (.panic c) a w') : WX P r ops Q (⟨dst, .call { callee := .value (.func f), args := xs.toArray, argTypes := ats }, ty, pos, af, none⟩ :: rest) a w := by
 show wpListIn (Fw r) 0 P ops Q (_ :: rest) a w
 unfold wpListIn
 rw [if_pos (by simp [Region.wanted])]
 refine ⟨fun _ _ => trivial, ?_⟩
 rw [cD rfl]
 have e1 : xs.toArray.map a.eval = vs.toArray := by rw [List.map_toArray]; exact congrArg _ (Y.evals hx)
 have e : (execOp a.eval ⟨dst, .call { callee := .value (.func f), args := xs.toArray, argTypes := ats }, ty, pos, af, none⟩).run P w = .ok (.enter f vs.toArray) w := by
  simp only [execOp, resolve, e1, Act.eval, Deferred.ofValue, Sem.run_bind, Sem.run_pure, Result.andThen_ok, invoke]
  simpa using hen vs.toArray w
 rw [e]
 refine ⟨fun h => (by cases h), ?_⟩
 have hc : CallsIn Fence.wide (0 - 1) P f vs.toArray w _ := callsIn_wide.2 hc
 refine ⟨trivial, fun cs hr => ?_⟩
 obtain ⟨e, w2, fr, ⟨c, rfl, hX⟩, hrest⟩ := hc.2 cs (room_wide _)
 exact ⟨.panicked c, w2, fr, k _ _ hX, hrest⟩
def PostP (X : List PanicEntry → World → Prop) : Exit → Act → World → Prop
 | .panic c, a, w => a.defers = [] ∧ X c w
 | _, _, _ => False
theorem f9 {X : List PanicEntry → World → Prop} {c : List PanicEntry} (Y : Fr N L [] a) (h : X c w) : PostP X (.panic c) a w := ⟨Y.dfs, h⟩
theorem mq {f : FuncId} {fn : Func} {c : Code} {args : List Value} {X : List PanicEntry → World → Prop} (hf : P.funcs[f]? = some fn) (hb : fn.body = some c) (hn : fn.ntmps = N) (hl : args.length ≤ N)
  (h : ∀ a, Fr N (args.zipIdx.map fun p => (p.2, p.1)) [] a → WC P none c (PostP X) a w) : Pan P f args.toArray w X := by
 refine (callsIn_wide (n := 0)).1 (callsIn_of_wp_marks hf hb trivial ?_)
 have Y := Fr.entry (f := f) hl
 rw [← hn] at Y
 refine wpIn_mono (h _ (hn ▸ Y)) fun e a w hp => ?_
 cases e with
 | panic c =>
  show LeavesInM Fence.wide 0 P fn a.tmps _ a.defers (.panicking c) w
  rw [hp.1]
  exact ⟨c, rfl, hp.2⟩
 | normal => exact hp.elim
 | ret => exact hp.elim
 | exit _ => exact hp.elim
 | goto _ => exact hp.elim
 | outgrown => exact hp.elim
theorem mu {K : Act → World → Prop} {g : Fn} {cap : List Value} (Y : Fr N L df a) (hx : ev L x = some (.func g #[] cap.toArray)) (k : ∀ a, Fr N L ({ target := .fn g cap.toArray, args := #[] } :: df) a → WL P none ops K rest a w) :
  WL P none ops K (⟨none, .defer { callee := .value x, args := #[], argTypes := ats }, ty, pos, af, none⟩ :: rest) a w := by
 refine j0 rfl ⟨fun _ _ => trivial, ?_⟩
 have e : (Oper.semAt (Fw none).round a.eval ⟨none, .defer { callee := .value x, args := #[], argTypes := ats }, ty, pos, af, none⟩).run P w = .ok (.defer { target := .fn g cap.toArray, args := #[] }) w := by
  rw [show (Fw none).round = none from rfl, Oper.semAt_none]
  simp only [execOp, resolve, Y.eval hx, Deferred.ofValue, Sem.run_bind, Sem.run_pure, Result.andThen_ok]
  simp
 rw [e]
 exact k _ ⟨Y.size, Y.get, by show _ :: _ = _; rw [Y.dfs]⟩
def PostE (P : Program) (fn : Func) (R : Value → World → Prop) : Exit → Act → World → Prop
 | .normal, a, w | .ret, a, w => a.defers = [] ∧ ∃ v, (results fn a.tmps).run P w = .ok v w ∧ R v w
 | _, _, _ => False
theorem j2 {fn : Func} {rs : List ResultVar} {vs : List Value} {R : Value → World → Prop} (Y : Fr N L [] a) (hres : fn.results = rs.toArray) (h : resAre P L w rs vs) (hR : R (retv vs) w) : PostE P fn R .normal a w :=
 ⟨Y.dfs, _, cR hres Y h, hR⟩
def Recd (u : FrameMode) (v : Value) (u2 : FrameMode) : Prop :=
 (u = .returning ∧ v = .nilIface ∧ u2 = .returning) ∨ (u = .panicking [{ v := v, recovered := false }] ∧ u2 = .panicking [{ v := v, recovered := true }])
theorem Recd.settle {u u2 : FrameMode} {v : Value} (h : Recd u v u2) : settle u2 = .returning := by
 rcases h with ⟨_, _, rfl⟩ | ⟨_, rfl⟩ <;> rfl
theorem mL {f : FuncId} {fn : Func} {id : Nat} {o : Oper} {args : List Value} {u u2 : FrameMode} {v : Value} {R : Value → World → Prop}
  (hf : P.funcs[f]? = some fn) (hb : fn.body = some (.seq (.region id #[o] false) y)) (hn : fn.ntmps = N) (hl : args.length ≤ N) (hg : o.guard = none) (hdst : o.dst = some d) (hd : d < N)
  (ho : ∀ ρ w, (execOp ρ o).run P w = .ok .recover w) (hu : Recd u v u2)
  (h : ∀ a, Fr N ((d, v) :: args.zipIdx.map fun p => (p.2, p.1)) [] a → WC P none y (PostE P fn R) a w) :
  CallsDIn Fence.wide 0 P f args.toArray u w fun e u' w' => u' = u2 ∧ ∃ x, e = .returned x ∧ R x w' := by
 refine callsDIn_of_wpSIn hf hb trivial fun c₀ cs hm => wpSIn_seq (wpSIn_region ?_)
 have Y := Fr.entry (f := f) hl
 rw [← hn] at Y
 have Y : Fr N _ [] _ := Fr.put (N := N) (by rw [← hn]; exact Y) hd v
 have key : ∀ u2 : FrameMode, wpOpsSIn Fence.wide 0 P #[o] (Exit.thenS (y.wpSIn Fence.wide 0 P (bodyPostS P fn c₀ cs fun e u' w' => u' = u2 ∧ ∃ x, e = .returned x ∧ R x w')) (bodyPostS P fn c₀ cs fun e u' w' => u' = u2 ∧ ∃ x, e = .returned x ∧ R x w')) [] (Act.put { tmps := args.toArray ++ Array.replicate (fn.ntmps - args.toArray.size) undef, defers := [] } o.dst v) ({ c₀ with mode := u2 } :: cs) w := by
  intro u2
  refine wpSIn_of_wpIn rfl (wpIn_mono (h _ (by rw [hdst]; exact Y)) fun e a w hp => ?_)
  cases e with
  | normal => obtain ⟨h1, x, h2, h3⟩ := hp; exact ⟨h1, u2, rfl, x, h2, rfl, x, rfl, h3⟩
  | ret => obtain ⟨h1, x, h2, h3⟩ := hp; exact ⟨h1, u2, rfl, x, h2, rfl, x, rfl, h3⟩
  | exit _ => exact hp.elim
  | goto _ => exact hp.elim
  | panic _ => exact hp.elim
  | outgrown => exact hp.elim
 show wpOpsSIn Fence.wide 0 P #[o] _ [0] _ _ w
 unfold wpOpsSIn
 have e0 : (#[o] : Array Oper)[0]? = some o := rfl
 simp only [e0]
 refine ⟨fun _ _ => trivial, ?_⟩
 rw [if_pos (by simp [Region.wanted, hg]), ho]
 simp only
 rcases hu with ⟨rfl, rfl, rfl⟩ | ⟨rfl, rfl⟩
 ·have : recoverD (c₀ :: cs) = none := by simp only [recoverD, hm]
  rw [this]
  have hc : ({ c₀ with mode := .returning } : Frame) = c₀ := by rw [← hm]
  have := key .returning
  rw [hc] at this
  exact this
 ·have : recoverD (c₀ :: cs) = some (v, { c₀ with mode := .panicking [{ v := v, recovered := true }] } :: cs) := by simp only [recoverD, hm]
  rw [this]
  exact key _
def PostD (P : Program) (fn : Func) (R : Value → World → Prop) : Exit → Act → World → Prop := bodyPostM Fence.wide 0 P fn fun e w' => ∃ v, e = .returned v ∧ R v w'
theorem nP {f : FuncId} {fn : Func} {c : Code} {args : List Value} {R : Value → World → Prop} (hf : P.funcs[f]? = some fn) (hb : fn.body = some c) (hn : fn.ntmps = N) (hl : args.length ≤ N)
  (h : ∀ a, Fr N (args.zipIdx.map fun p => (p.2, p.1)) [] a → WC P none c (PostD P fn R) a w) : Ret P f args.toArray w R := by
 refine (callsIn_wide (n := 0)).1 (callsIn_of_wp_marks hf hb trivial ?_)
 have Y := Fr.entry (f := f) hl
 rw [← hn] at Y
 exact h _ (hn ▸ Y)
theorem gk {fn : Func} {g : FuncId} {cap : List Value} {rs : List ResultVar} {vs : List Value} {R : Value → World → Prop} {R1 : World → Prop} {u u2 : FrameMode} {v : Value} (Y : Fr N L [{ target := .fn (.func g) cap.toArray, args := #[] }] a) (hen : ∀ args w, (callFunc g args).run P w = .ok (.enter g args) w) (hu : Recd u v u2)
  (hD : CallsDIn Fence.wide (0 - 1) P g cap.toArray u w fun e u' w' => u' = u2 ∧ ∃ x, e = .returned x ∧ R1 w') (hres : fn.results = rs.toArray) (h : ∀ w', R1 w' → resAre P L w' rs vs ∧ R (retv vs) w') :
  LeavesInM Fence.wide 0 P fn a.tmps (fun e w' => ∃ v, e = .returned v ∧ R v w') a.defers u w := by
 rw [Y.dfs]
 refine ⟨?_, .inr ⟨fun h => (by cases h), .func g, cap.toArray, g, cap.toArray, rfl, ?_, fun _ _ => trivial, hD.mono ?_⟩⟩
 ·rcases hu with ⟨rfl, _⟩ | ⟨rfl, _⟩ <;> simp
 ·show (invoke (.fn (.func g) cap.toArray) #[]).run P w = _
  simp only [invoke, hen]
  simp
 ·rintro e u' w' ⟨rfl, x, rfl, h1⟩
  show LeavesInM Fence.wide 0 P fn a.tmps _ [] (settle u') w'
  rw [hu.settle]
  obtain ⟨h2, h3⟩ := h w' h1
  exact ⟨_, cR hres Y h2, _, rfl, h3⟩
theorem mw {fn : Func} {g : FuncId} {cap : List Value} {rs : List ResultVar} {vs : List Value} {R : Value → World → Prop} {R1 : World → Prop} (Y : Fr N L [{ target := .fn (.func g) cap.toArray, args := #[] }] a) (hen : ∀ args w, (callFunc g args).run P w = .ok (.enter g args) w)
  (hD : CallsDIn Fence.wide (0 - 1) P g cap.toArray .returning w fun e u' w' => u' = .returning ∧ ∃ x, e = .returned x ∧ R1 w') (hres : fn.results = rs.toArray) (h : ∀ w', R1 w' → resAre P L w' rs vs ∧ R (retv vs) w') : PostD P fn R .ret a w :=
 gk (u2 := .returning) (v := .nilIface) Y hen (.inl ⟨rfl, rfl, rfl⟩) hD hres h
theorem cx {fn : Func} {g : FuncId} {cap : List Value} {rs : List ResultVar} {vs : List Value} {R : Value → World → Prop} {R1 : World → Prop} {v : Value} (Y : Fr N L [{ target := .fn (.func g) cap.toArray, args := #[] }] a) (hen : ∀ args w, (callFunc g args).run P w = .ok (.enter g args) w)
  (hD : CallsDIn Fence.wide (0 - 1) P g cap.toArray (.panicking [{ v := v, recovered := false }]) w fun e u' w' => u' = .panicking [{ v := v, recovered := true }] ∧ ∃ x, e = .returned x ∧ R1 w') (hres : fn.results = rs.toArray) (h : ∀ w', R1 w' → resAre P L w' rs vs ∧ R (retv vs) w') : PostD P fn R (.panic [{ v := v, recovered := false }]) a w :=
 gk Y hen (.inr ⟨rfl, rfl⟩) hD hres h
theorem iE {v : Value} {fs : Array Field} {A : TypeId} (hx : ev L x = some (.iface A v)) (hu : P.underlying A = some (.struct fs)) : OpV P ⟨dst, .typeAssert x T A true, ty, pos, af, none⟩ L w (.tuple #[v, .bool true]) :=
 ⟨rfl, fun N df a h => by
  simp only [execOp, h.eval hx, Instr.typeAssert, Sem.run_bind, run_underlying hu, Result.andThen_ok]; simp⟩
theorem kI {T' : TypeId} {t : TypeId} {v : Value} {y : Operand} (hx : ev L x = some (.iface t v)) (hy : ev L y = some .nilIface) (hr : (binOp .eql T (.iface t v) .nilIface).run P w = .ok (.bool false) w) (hg : (eqGuard .eql T x y (.iface t v) .nilIface).run P w = .ok () w) : OpV P ⟨dst, .binOp .eql T x y T', ty, pos, af, none⟩ L w (.bool false) :=
 ⟨rfl, fun N df a h => by
  simp only [execOp, h.eval hx, h.eval hy, Sem.run_bind, hg, hr, Result.andThen_ok]; rfl⟩
end
end Go.PW
namespace Go.PW
open Go.RowKit
section
variable {P : Program} {w : World} {L : List (Nat × Value)} {dst : Option Tmp} {T T' ty : TypeId} {pos : String} {af : Array Edge} {gd : Option (Nat × Bool)} {x y : Operand}
theorem y127 (b : UInt8) : (b &&& 127).toNat = b.toNat % 128 := by rw [UInt8.toNat_and]; exact Nat.and_two_pow_sub_one_eq_mod b.toNat 7
end
end Go.PW
namespace Go.Proofs.YtddfkkdanpmnaaaDoor
abbrev By := List UInt8
def lft (n : Nat) : Nat := 2 ^ Nat.log2 (n - 1)
theorem cd (n : Nat) : 0 < lft n := Nat.pow_pos om
theorem cA {n : Nat} (h : 2 ≤ n) : lft n < n := by
 have := Nat.log2_self_le (n := n - 1) om
 unfold lft; omega
theorem md {n : Nat} (h : 2 ≤ n) : n ≤ 2 * lft n := by
 have := Nat.lt_log2_self (n := n - 1)
 unfold lft; rw [Nat.pow_succ] at this; omega
section
variable (S : By → By)
def leafH (s : By) : By := S (0 :: s)
def nodeH (a b : By) : By := S (1 :: (a ++ b))
def rootF : Nat → List By → By
 | 0, _ => S []
 | f + 1, l => match l with
  | [] => S []
  | [s] => leafH S s
  | _ => nodeH S (rootF f (l.take (lft l.length))) (rootF f (l.drop (lft l.length)))
def rootH (l : List By) : By := rootF S l.length l
theorem jL : ∀ (f g : Nat) (l : List By), l.length ≤ f → l.length ≤ g → rootF S f l = rootF S g l := by
 intro f
 induction f with
 | zero =>
  intro g l h _
  obtain rfl : l = [] := List.eq_nil_of_length_eq_zero om
  cases g <;> rfl
 | succ f ih =>
  intro g l h hg
  match l, g with
  | [], 0 => rfl
  | [], g + 1 => rfl
  | [s], g + 1 => rfl
  | a :: b :: l, g + 1 =>
   have h1 := cA (n := (a :: b :: l).length) sm
   have h2 := cd (a :: b :: l).length
   simp only [rootF]
   rw [ih g _ (by rw [List.length_take]; omega) (by rw [List.length_take]; omega), ih g _ (by rw [List.length_drop]; omega) (by rw [List.length_drop]; omega)]
theorem lV : rootH S [] = S [] := rfl
theorem lT (s : By) : rootH S [s] = leafH S s := rfl
theorem db {l : List By} (h : 2 ≤ l.length) : rootH S l = nodeH S (rootH S (l.take (lft l.length))) (rootH S (l.drop (lft l.length))) := by
 match l, h with
 | a :: b :: l, _ =>
  have h1 := cA (n := (a :: b :: l).length) sm
  have h2 := cd (a :: b :: l).length
  have e : rootH S (a :: b :: l) = nodeH S (rootF S (l.length + 1) ((a :: b :: l).take (lft (a :: b :: l).length))) (rootF S (l.length + 1) ((a :: b :: l).drop (lft (a :: b :: l).length))) := rfl
  rw [e]
  have h3 : (a :: b :: l).length = l.length + 2 := rfl
  rw [jL S (l.length + 1) ((a :: b :: l).take (lft (a :: b :: l).length)).length _ (by rw [List.length_take]; omega) (Nat.le_refl _), jL S (l.length + 1) ((a :: b :: l).drop (lft (a :: b :: l).length)).length _ (by rw [List.length_drop]; omega) (Nat.le_refl _)]
  rfl
def proofF : Nat → List By → Nat → List By
 | 0, _, _ => []
 | f + 1, l, i =>
  if l.length ≤ 1 then [] else
  if i < lft l.length then proofF f (l.take (lft l.length)) i ++ [rootH S (l.drop (lft l.length))]
  else proofF f (l.drop (lft l.length)) (i - lft l.length) ++ [rootH S (l.take (lft l.length))]
def proofH (l : List By) (i : Nat) : List By := proofF S l.length l i
theorem ik : ∀ (f g : Nat) (l : List By) (i : Nat), l.length ≤ f → l.length ≤ g → proofF S f l i = proofF S g l i := by
 intro f
 induction f with
 | zero =>
  intro g l i h _
  obtain rfl : l = [] := List.eq_nil_of_length_eq_zero om
  cases g <;> rfl
 | succ f ih =>
  intro g l i h hg
  cases g with
  | zero => obtain rfl : l = [] := List.eq_nil_of_length_eq_zero om; rfl
  | succ g =>
   simp only [proofF]
   by_cases h1 : l.length ≤ 1
   ·rw [if_pos h1, if_pos h1]
   ·have h2 := cA (n := l.length) om
    have h3 := cd l.length
    rw [if_neg h1, if_neg h1, ih g (l.take _) _ (by rw [List.length_take]; omega) (by rw [List.length_take]; omega), ih g (l.drop _) _ (by rw [List.length_drop]; omega) (by rw [List.length_drop]; omega)]
theorem eC {l : List By} {i : Nat} (h : l.length ≤ 1) : proofH S l i = [] := by
 unfold proofH
 cases hl : l.length with
 | zero => rfl
 | succ n => rw [proofF, if_pos h]
theorem dR {l : List By} {i : Nat} (h : 2 ≤ l.length) : proofH S l i = if i < lft l.length then proofH S (l.take (lft l.length)) i ++ [rootH S (l.drop (lft l.length))] else proofH S (l.drop (lft l.length)) (i - lft l.length) ++ [rootH S (l.take (lft l.length))] := by
 have h2 := cA h
 have h3 := cd l.length
 obtain ⟨f, hf⟩ : ∃ f, l.length = f + 1 := ⟨l.length - 1, by omega⟩
 conv => lhs; unfold proofH; rw [hf, proofF, if_neg om]
 rw [ik S f (l.take (lft l.length)).length (l.take _) _ (by rw [List.length_take]; omega) (Nat.le_refl _), ik S f (l.drop (lft l.length)).length (l.drop _) _ (by rw [List.length_drop]; omega) (Nat.le_refl _)]
 rfl
def valueF : Nat → Nat → Nat → By → List By → By × Bool
 | 0, _, _, s, p => (leafH S s, p.isEmpty)
 | f + 1, n, i, s, p =>
  if n ≤ 1 then (leafH S s, p.isEmpty) else
  match p.getLast? with
  | none => ([], false)
  | some x =>
   if i < lft n then (nodeH S (valueF f (lft n) i s p.dropLast).1 x, (valueF f (lft n) i s p.dropLast).2)
   else (nodeH S x (valueF f (n - lft n) (i - lft n) s p.dropLast).1, (valueF f (n - lft n) (i - lft n) s p.dropLast).2)
def valueH (n i : Nat) (s : By) (p : List By) : By × Bool := valueF S (p.length + 1) n i s p
theorem f5 {n i : Nat} {s : By} {p : List By} (h : n ≤ 1) : valueH S n i s p = (leafH S s, p.isEmpty) := by rw [valueH, valueF, if_pos h]
theorem ky {n i : Nat} {s : By} (h : 2 ≤ n) : valueH S n i s [] = ([], false) := by rw [valueH, valueF, if_neg om]; rfl
theorem dm {n i : Nat} {s x : By} {p : List By} (h : 2 ≤ n) : valueH S n i s (p ++ [x]) =
  if i < lft n then (nodeH S (valueH S (lft n) i s p).1 x, (valueH S (lft n) i s p).2) else (nodeH S x (valueH S (n - lft n) (i - lft n) s p).1, (valueH S (n - lft n) (i - lft n) s p).2) := by
 rw [valueH, valueF, if_neg om]
 simp only [List.getLast?_append, List.getLast?_singleton, Option.some_or, List.dropLast_concat, List.length_append, List.length_singleton]
 rfl
def cF (root : By) (n i : Int) (s : By) (p : List By) : Bool :=
 decide (0 ≤ i) && decide (i < n) && (p.all fun x => decide (x.length = 32)) && (valueH S n.toNat i.toNat s p).2 && decide ((valueH S n.toNat i.toNat s p).1 = root)
def partF : Nat → List By → Nat → Bool → List By
 | 0, _, _, _ => []
 | f + 1, l, m, whole =>
  if m = l.length then (if whole then [] else [rootH S l]) else
  if m ≤ lft l.length then partF f (l.take (lft l.length)) m whole ++ [rootH S (l.drop (lft l.length))]
  else partF f (l.drop (lft l.length)) (m - lft l.length) false ++ [rootH S (l.take (lft l.length))]
def partH (l : List By) (m : Nat) (whole : Bool) : List By := partF S (l.length + 1) l m whole
theorem j3 : ∀ (f g : Nat) (l : List By) (m : Nat) (w : Bool), 1 ≤ m → m ≤ l.length → l.length < f → l.length < g → partF S f l m w = partF S g l m w := by
 intro f
 induction f with
 | zero => intro g l m w _ _ h; omega
 | succ f ih =>
  intro g l m w hm hml h hg
  obtain ⟨g, rfl⟩ : ∃ k, g = k + 1 := ⟨g - 1, by omega⟩
  simp only [partF]
  by_cases h1 : m = l.length
  ·rw [if_pos h1, if_pos h1]
  ·have h2 := cA (n := l.length) om
   have h3 := cd l.length
   rw [if_neg h1, if_neg h1]
   by_cases h4 : m ≤ lft l.length
   ·rw [if_pos h4, if_pos h4, ih g _ _ _ hm (by rw [List.length_take]; omega) (by rw [List.length_take]; omega) (by rw [List.length_take]; omega)]
   ·rw [if_neg h4, if_neg h4, ih g _ _ _ om (by rw [List.length_drop]; omega) (by rw [List.length_drop]; omega) (by rw [List.length_drop]; omega)]
theorem ef {l : List By} {w : Bool} : partH S l l.length w = if w then [] else [rootH S l] := by rw [partH, partF, if_pos rfl]
theorem fg {l : List By} {m : Nat} {w : Bool} (hm : 1 ≤ m) (h : m < l.length) : partH S l m w = if m ≤ lft l.length then partH S (l.take (lft l.length)) m w ++ [rootH S (l.drop (lft l.length))] else partH S (l.drop (lft l.length)) (m - lft l.length) false ++ [rootH S (l.take (lft l.length))] := by
 have h2 := cA (n := l.length) om
 have h3 := cd l.length
 conv => lhs; rw [partH, partF, if_neg om]
 split
 ·rename_i h4
  rw [j3 S l.length ((l.take (lft l.length)).length + 1) _ _ _ hm (by rw [List.length_take]; omega) (by rw [List.length_take]; omega) om]; rfl
 ·rename_i h4
  rw [j3 S l.length ((l.drop (lft l.length)).length + 1) _ _ _ om (by rw [List.length_drop]; omega) (by rw [List.length_drop]; omega) om]; rfl
def extH (l : List By) (m : Nat) : List By := if m = 0 then [] else partH S l m true
def endH : List By → By × By × Bool
 | [x] => (x, x, true)
 | _ => ([], [], false)
def bothF : Nat → By → Nat → Nat → List By → Bool → By × By × Bool
 | 0, _, _, _, _, _ => ([], [], false)
 | f + 1, old, m, n, p, whole =>
  if m = n then (if whole then (old, old, p.isEmpty) else endH p) else
  match p.getLast? with
  | none => ([], [], false)
  | some x =>
   if m ≤ lft n then ((bothF f old m (lft n) p.dropLast whole).1, nodeH S (bothF f old m (lft n) p.dropLast whole).2.1 x, (bothF f old m (lft n) p.dropLast whole).2.2)
   else (nodeH S x (bothF f old (m - lft n) (n - lft n) p.dropLast false).1, nodeH S x (bothF f old (m - lft n) (n - lft n) p.dropLast false).2.1, (bothF f old (m - lft n) (n - lft n) p.dropLast false).2.2)
def bothH (old : By) (m n : Nat) (p : List By) (whole : Bool) : By × By × Bool := bothF S (p.length + 1) old m n p whole
theorem et {old : By} {n : Nat} {p : List By} {w : Bool} : bothH S old n n p w = (if w then (old, old, p.isEmpty) else endH p) := by rw [bothH, bothF, if_pos rfl]
theorem lq {old : By} {m n : Nat} {w : Bool} (h : m ≠ n) : bothH S old m n [] w = ([], [], false) := by rw [bothH, bothF, if_neg h]; rfl
theorem dO {old x : By} {m n : Nat} {p : List By} {w : Bool} (h : m ≠ n) : bothH S old m n (p ++ [x]) w =
  if m ≤ lft n then ((bothH S old m (lft n) p w).1, nodeH S (bothH S old m (lft n) p w).2.1 x, (bothH S old m (lft n) p w).2.2)
  else (nodeH S x (bothH S old (m - lft n) (n - lft n) p false).1, nodeH S x (bothH S old (m - lft n) (n - lft n) p false).2.1, (bothH S old (m - lft n) (n - lft n) p false).2.2) := by
 rw [bothH, bothF, if_neg h]
 simp only [List.getLast?_append, List.getLast?_singleton, Option.some_or, List.dropLast_concat, List.length_append, List.length_singleton]
 rfl
def bA (old : By) (m : Int) (root : By) (n : Int) (p : List By) : Bool :=
 if m < 0 ∨ n < m ∨ (p.all fun x => decide (x.length = 32)) = false ∨ old.length ≠ 32 ∨ root.length ≠ 32 then false
 else if m = 0 then p.isEmpty && decide (old = S [])
 else if m = n then p.isEmpty && decide (old = root)
 else (bothH S old m.toNat n.toNat p true).2.2 && decide ((bothH S old m.toNat n.toNat p true).1 = old) && decide ((bothH S old m.toNat n.toNat p true).2.1 = root)
end
end Go.Proofs.YtddfkkdanpmnaaaDoor
namespace Go.Proofs.YtddfkkdanpmnaaaDoor
section
variable {S : By → By}
theorem jo : ∀ (n : Nat) (l : List By) (i : Nat), l.length = n → i < n → valueH S n i (l.getD i []) (proofH S l i) = (rootH S l, true) := by
 intro n
 induction n using Nat.strongRecOn with
 | _ n ih =>
  intro l i hl hi
  by_cases h1 : n ≤ 1
  ·obtain ⟨s, rfl⟩ : ∃ s, l = [s] := by
    match l, hl with
    | [s], _ => exact ⟨s, rfl⟩
    | [], hl => simp at hl; omega
    | _ :: _ :: _, hl => simp at hl; omega
   rw [f5 S h1, eC S sm]
   have : i = 0 := by omega
   subst this; rfl
  ·subst hl
   have h2 := cA (n := l.length) om
   have h3 := cd l.length
   rw [dR S om, db S (l := l) om]
   by_cases h4 : i < lft l.length
   ·have h5 : (l.take (lft l.length)).length = lft l.length := by rw [List.length_take]; omega
    have h6 : (l.take (lft l.length)).getD i [] = l.getD i [] := by simp [List.getD_eq_getElem?_getD, List.getElem?_take, h4]
    have := ih _ h2 _ i h5 h4
    rw [h6] at this
    rw [if_pos h4, dm S om, if_pos h4, this]
   ·have h5 : (l.drop (lft l.length)).length = l.length - lft l.length := by rw [List.length_drop]
    have h6 : (l.drop (lft l.length)).getD (i - lft l.length) [] = l.getD i [] := by
     simp only [List.getD_eq_getElem?_getD, List.getElem?_drop]; rw [show lft l.length + (i - lft l.length) = i by omega]
    have := ih _ om _ (i - lft l.length) h5 om
    rw [h6] at this
    rw [if_neg h4, dm S om, if_neg h4, this]
variable (hS : ∀ s, (S s).length = 32)
include hS
theorem jt (s : By) : (leafH S s).length = 32 := hS _
theorem jJ (a b : By) : (nodeH S a b).length = 32 := hS _
theorem ct (l : List By) : (rootH S l).length = 32 := by
 by_cases h : 2 ≤ l.length
 ·rw [db S h]; exact jJ hS _ _
 ·match l with
  | [] => exact hS _
  | [s] => exact hS _
  | _ :: _ :: _ => simp at h
theorem ln : ∀ (n : Nat) (l : List By) (i : Nat), l.length = n → (proofH S l i).all (fun x => decide (x.length = 32)) = true := by
 intro n
 induction n using Nat.strongRecOn with
 | _ n ih =>
  intro l i hl
  by_cases h1 : n ≤ 1
  ·rw [eC S om]; rfl
  ·subst hl
   have h2 := cA (n := l.length) om
   have h3 := cd l.length
   rw [dR S om]
   split
   ·rw [List.all_append, ih _ h2 _ i (by rw [List.length_take]; omega)]; simp [ct hS]
   ·rw [List.all_append, ih (l.length - lft l.length) om _ _ (by rw [List.length_drop])]; simp [ct hS]
theorem iQ {l : List By} {i : Nat} (h : i < l.length) : cF S (rootH S l) l.length i (l.getD i []) (proofH S l i) = true := by
 have := jo (S := S) l.length l i rfl h
 simp only [cF, Int.toNat_natCast, this, ln hS _ l i rfl]
 simp; omega
omit hS in
theorem lK : ∀ (n : Nat) (l : List By) (m : Nat) (w : Bool) (old : By), l.length = n → 1 ≤ m → m ≤ n → (w = true → old = rootH S (l.take m)) → bothH S old m n (partH S l m w) w = (rootH S (l.take m), rootH S l, true) := by
 intro n
 induction n using Nat.strongRecOn with
 | _ n ih =>
  intro l m w old hl hm hml hw
  by_cases h1 : m = n
  ·subst h1; subst hl
   rw [ef, et]
   cases w with
   | true => simp [hw rfl]
   | false => simp [endH]
  ·subst hl
   have h2 := cA (n := l.length) om
   have h3 := cd l.length
   have h4 := md (n := l.length) om
   rw [fg S hm om]
   by_cases h5 : m ≤ lft l.length
   ·rw [if_pos h5, dO S h1, if_pos h5]
    have e : (l.take (lft l.length)).take m = l.take m := by rw [List.take_take]; congr 1; omega
    have := ih _ h2 (l.take (lft l.length)) m w old (by rw [List.length_take]; omega) hm h5 (fun hh => by rw [e]; exact hw hh)
    rw [e] at this
    rw [this, db S (l := l) om]
   ·rw [if_neg h5, dO S h1, if_neg h5]
    have := ih (l.length - lft l.length) om (l.drop (lft l.length)) (m - lft l.length) false old (by rw [List.length_drop]) om om sm
    rw [this, db S (l := l) om]
    have e1 : 2 ≤ (l.take m).length := by rw [List.length_take]; omega
    have e2 : lft (l.take m).length = lft l.length := by
     rw [List.length_take, show min m l.length = m by omega]
     have h6 := cA (n := m) om
     have h7 := md (n := m) om
     unfold lft at *
     congr 1
     rw [Nat.log2_eq_iff om]
     constructor <;> omega
    rw [db S e1, e2]
    have e3 : (l.take m).take (lft l.length) = l.take (lft l.length) := by rw [List.take_take]; congr 1; omega
    have e4 : (l.take m).drop (lft l.length) = (l.drop (lft l.length)).take (m - lft l.length) := by rw [List.drop_take]
    rw [e3, e4]
end
end Go.Proofs.YtddfkkdanpmnaaaDoor
namespace Go.Proofs.YtddfkkdanpmnaaaDoor
section
variable (S : By → By)
variable {S}
variable (hS : ∀ s, (S s).length = 32)
include hS
end
end Go.Proofs.YtddfkkdanpmnaaaDoor
namespace Go.Proofs.YtddfkkdanpmnaaaDoor
section
variable (S : By → By)
variable {S}
variable (hS : ∀ s, (S s).length = 32)
include hS
theorem nb : ∀ (n : Nat) (l : List By) (m : Nat) (w : Bool), l.length = n → 1 ≤ m → m ≤ n → (partH S l m w).all (fun x => decide (x.length = 32)) = true := by
 intro n
 induction n using Nat.strongRecOn with
 | _ n ih =>
  intro l m w hl hm hml
  by_cases h1 : m = n
  ·subst h1; subst hl
   rw [ef]
   cases w <;> simp [ct hS]
  ·subst hl
   have h2 := cA (n := l.length) om
   have h3 := cd l.length
   rw [fg S hm om]
   split
   ·rw [List.all_append, ih _ h2 _ m w (by rw [List.length_take]; omega) hm (by assumption)]; simp [ct hS]
   ·rw [List.all_append, ih (l.length - lft l.length) om _ _ _ (by rw [List.length_drop]) om om]; simp [ct hS]
theorem kx {l : List By} {m : Nat} (h : m ≤ l.length) : bA S (rootH S (l.take m)) m (rootH S l) l.length (extH S l m) = true := by
 unfold bA extH
 by_cases h0 : m = 0
 ·subst h0
  rw [if_neg (by simp [ct hS])]
  simp [lV]
 ·rw [if_neg h0, if_neg (by
   have := nb hS l.length l m true rfl om h
   simp [ct hS, this]; omega), if_neg om]
  by_cases h1 : m = l.length
  ·subst h1
   rw [if_pos rfl, ef]; simp
  ·rw [if_neg om, Int.toNat_natCast, Int.toNat_natCast, lK (S := S) l.length l m true _ rfl om h (fun _ => rfl)]
   simp
end
end Go.Proofs.YtddfkkdanpmnaaaDoor
namespace Go.Proofs.YtddfkkdanpmnaaaDoor
theorem gi {s t : Nat} (hs : ∃ a, s = 2 ^ a) (ht : ∃ a, t = 2 ^ a) (h : s < t) : 2 * s ≤ t := by
 obtain ⟨a, rfl⟩ := hs
 obtain ⟨b, rfl⟩ := ht
 have : a < b := (Nat.pow_lt_pow_iff_right de).1 h
 calc 2 * 2 ^ a = 2 ^ (a + 1) := by rw [Nat.pow_succ, Nat.mul_comm]
  _ ≤ 2 ^ b := Nat.pow_le_pow_right de this
theorem nS {a m : Nat} (h0 : 0 < m) (h : m ≤ 2 ^ a) : lft (2 ^ a + m) = 2 ^ a := by
 unfold lft
 congr 1
 exact (Nat.log2_eq_iff om).2 ⟨by omega, by rw [Nat.pow_succ]; omega⟩
section
variable (S : By → By)
theorem gB {c d : List By} {a : Nat} (hc : c.length = 2 ^ a) (h0 : 0 < d.length) (hd : d.length ≤ 2 ^ a) : rootH S (c ++ d) = nodeH S (rootH S c) (rootH S d) := by
 have hp : 0 < 2 ^ a := Nat.pow_pos de
 have hl : lft (c ++ d).length = c.length := by rw [List.length_append, hc]; exact nS h0 hd
 rw [db S (by rw [List.length_append]; omega), hl, List.take_left, List.drop_left]
def Stk : List (By × Nat) → List By → Prop
 | [], l => l = []
 | x :: st, l => ∃ l1 c, l = l1 ++ c ∧ c.length = x.2 ∧ (∃ a, x.2 = 2 ^ a) ∧ x.1 = rootH S c ∧ Stk st l1
def incr : List (By × Nat) → Prop
 | [] => True
 | [_] => True
 | x :: y :: st => x.2 < y.2 ∧ incr (y :: st)
def incrW : List (By × Nat) → Prop
 | [] => True
 | [_] => True
 | x :: y :: st => x.2 ≤ y.2 ∧ incr (y :: st)
theorem incr.tail {x : By × Nat} {st : List (By × Nat)} (h : incr (x :: st)) : incr st := by
 cases st with
 | nil => trivial
 | cons y st => exact h.2
theorem Stk.pow {x : By × Nat} {st : List (By × Nat)} {l : List By} (h : Stk S (x :: st) l) : ∃ a, x.2 = 2 ^ a := by
 obtain ⟨_, _, _, _, hp, _⟩ := h; exact hp
theorem Stk.push {st : List (By × Nat)} {l : List By} (h : Stk S st l) (hi : incr st) (e : By) : Stk S ((leafH S e, 1) :: st) (l ++ [e]) ∧ incrW ((leafH S e, 1) :: st) := by
 refine ⟨⟨l, [e], rfl, rfl, ⟨0, rfl⟩, (lT S e).symm, h⟩, ?_⟩
 cases st with
 | nil => trivial
 | cons y st =>
  obtain ⟨a, ha⟩ := Stk.pow S h
  exact ⟨by show 1 ≤ y.2; rw [ha]; exact Nat.pow_pos de, hi⟩
theorem Stk.merge {r1 r2 : By} {s : Nat} {st : List (By × Nat)} {l : List By} (h : Stk S ((r2, s) :: (r1, s) :: st) l) (hi : incrW ((r2, s) :: (r1, s) :: st)) :
  Stk S ((nodeH S r1 r2, 2 * s) :: st) l ∧ incrW ((nodeH S r1 r2, 2 * s) :: st) := by
 obtain ⟨l1, c, rfl, hc, ⟨a, ha⟩, hr, l2, d, rfl, hd, hp, hq, U⟩ := h
 simp only at hc hd ha hp hr hq
 subst hr hq
 have h0 : 0 < s := by rw [ha]; exact Nat.pow_pos de
 refine ⟨⟨l2, d ++ c, by rw [List.append_assoc], by show (d ++ c).length = 2 * s; rw [List.length_append]; omega, ⟨a + 1, by show 2 * s = 2 ^ (a + 1); rw [ha, Nat.pow_succ, Nat.mul_comm]⟩, (gB S (hd.trans ha) om om).symm, U⟩, ?_⟩
 cases st with
 | nil => trivial
 | cons y st =>
  have h1 : s < y.2 := hi.2.1
  exact ⟨gi ⟨a, ha⟩ (Stk.pow S U) h1, hi.2.2⟩
theorem incrW.strict {st : List (By × Nat)} (h : incrW st) (hn : ∀ x y t, st = x :: y :: t → x.2 ≠ y.2) : incr st := by
 match st, h with
 | [], _ => trivial
 | [_], _ => trivial
 | x :: y :: t, h => exact ⟨Nat.lt_of_le_of_ne h.1 (hn x y t rfl), h.2⟩
theorem ic : ∀ (st : List (By × Nat)) (l1 d : List By), Stk S st l1 → incr st → 0 < d.length → (∀ y t, st = y :: t → d.length ≤ y.2) → st.foldl (fun o x => nodeH S x.1 o) (rootH S d) = rootH S (l1 ++ d)
 | [], l1, d, h, _, _, _ => by
  obtain rfl : l1 = [] := h
  rfl
 | x :: st, l1, d, h, hi, h0, hd => by
  obtain ⟨l2, c, rfl, hc, ⟨a, ha⟩, hr, U⟩ := h
  have hle := hd x st rfl
  rw [List.foldl_cons, hr, ← gB S (hc.trans ha) h0 om, ic st l2 (c ++ d) U hi.tail (by rw [List.length_append]; omega) (fun y t e => ?_), List.append_assoc]
  subst e
  have := gi ⟨a, ha⟩ (Stk.pow S U) hi.1
  rw [List.length_append]; omega
theorem kj {x : By × Nat} {st : List (By × Nat)} {l : List By} (h : Stk S (x :: st) l) (hi : incr (x :: st)) : st.foldl (fun o y => nodeH S y.1 o) x.1 = rootH S l := by
 obtain ⟨l1, c, rfl, hc, ⟨a, ha⟩, hr, U⟩ := h
 rw [hr]
 refine ic S st l1 c U hi.tail (by rw [hc, ha]; exact Nat.pow_pos de) fun y t e => ?_
 subst e
 have := hi.1
 omega
end
end Go.Proofs.YtddfkkdanpmnaaaDoor
namespace Go.Proofs.YtddfkkdanpmnaaaDoor
def zz (n : Int) : Nat := if n < 0 then 2 * (-n).toNat - 1 else 2 * n.toNat
def vb : Nat → Nat → By
 | 0, z => [UInt8.ofNat z]
 | f + 1, z => if z < 128 then [UInt8.ofNat z] else UInt8.ofNat (z % 128 + 128) :: vb f (z / 128)
def putI (n : Int) : By := vb 8 (zz n)
def puts (l : List Int) : By := l.flatMap putI
theorem oR {n : Int} (h1 : -4611686018427387903 ≤ n) (h2 : n ≤ 4611686018427387903) : zz n < 9223372036854775808 := by
 unfold zz; split <;> omega
theorem nu {a : Nat} (h : a < 256) : (UInt8.ofNat a).toNat = a := by simp; omega
def small (n : Int) : Prop := -4611686018427387903 ≤ n ∧ n ≤ 4611686018427387903
theorem nK : ∀ (f z : Nat), 1 ≤ (vb f z).length ∧ (vb f z).length ≤ f + 1
 | 0, z => ⟨Nat.le_refl _, Nat.le_refl _⟩
 | f + 1, z => by
  unfold vb
  split
  ·simp
  ·have := nK f (z / 128)
   simp; omega
theorem bE (n : Int) : 1 ≤ (putI n).length ∧ (putI n).length ≤ 9 := nK 8 _
theorem gH (l : List Int) : (puts l).length ≤ 9 * l.length := by
 induction l with
 | nil => simp [puts]
 | cons n l ih =>
  have := (bE n).2
  simp only [puts, List.flatMap_cons, List.length_append, List.length_cons] at *
  omega
theorem lH (l : List Int) (n : Int) : puts (l ++ [n]) = puts l ++ putI n := by simp [puts]
end Go.Proofs.YtddfkkdanpmnaaaDoor
namespace Go.Proofs.YtddfkkdanpmnaaaDoor
structure Wsh where
 signer : Int
 holder : Int
 rf : Int
 rt : Int
 carrier : Int
 serial : Int
 sf : Int
 st : Int
 sig : By
 deriving DecidableEq
structure Pxy where
 frm : Int
 to : Int
 rf : Int
 rt : Int
 sf : Int
 st : Int
 sig : By
 deriving DecidableEq
def inB (n lo hi : Int) : Bool := decide (lo ≤ n) && decide (n ≤ hi)
def jC (a b : Int) : Bool := decide (0 ≤ a) && decide (a < b) && decide (b ≤ 100000000)
def jY (a b : Int) : Bool := decide (0 ≤ a) && decide (a < b) && decide (b ≤ 10000001)
def Wsh.ok (w : Wsh) : Bool := (inB w.signer 0 63 && inB w.holder 0 63) && jC w.rf w.rt && inB w.carrier 0 7 && inB w.serial 0 1000000 && jY w.sf w.st
def Pxy.ok (p : Pxy) : Bool := (inB p.frm 0 63 && inB p.to 0 63 && !decide (p.frm = p.to)) && jC p.rf p.rt && jY p.sf p.st
def Wsh.content (w : Wsh) : By := puts [1, w.signer, w.holder, w.rf, w.rt, w.carrier, w.serial, w.sf, w.st]
def Pxy.content (p : Pxy) : By := puts [2, p.frm, p.to, p.rf, p.rt, p.sf, p.st]
end Go.Proofs.YtddfkkdanpmnaaaDoor
namespace Go.Proofs.YtddfkkdanpmnaaaDoor
def pickI (c n : Int) : Int := (if c < 0 then -(c + 1) else c) % n
theorem bw (c : Int) {n : Int} (h : 0 < n) : 0 ≤ pickI c n ∧ pickI c n < n := ⟨Int.emod_nonneg _ om, Int.emod_lt_of_pos _ h⟩
structure Cin where
 y0 : Int
 y1 : Int
 y2 : Int
 y3 : Int
 y4 : Int
structure Left where
 who : Int
 rf : Int
 rt : Int
 sf : Int
 st : Int
def Left.ok (o : Left) : Prop := 0 ≤ o.who ∧ o.who < 10 ∧ 0 ≤ o.rf ∧ o.rf < o.rt ∧ o.rt ≤ 11000 ∧ 0 ≤ o.sf ∧ o.sf < o.st ∧ o.st ≤ 11000
def Left.next (o : Left) (y : Cin) : Left :=
 ⟨(o.who + 1 + pickI y.y0 9) % 10, o.rf + pickI y.y1 (o.rt - o.rf), o.rt - pickI y.y2 (o.rt - (o.rf + pickI y.y1 (o.rt - o.rf))), o.sf + pickI y.y3 (o.st - o.sf), o.st - pickI y.y4 (o.st - (o.sf + pickI y.y3 (o.st - o.sf)))⟩
end Go.Proofs.YtddfkkdanpmnaaaDoor
namespace Go.Proofs.YtddfkkdanpmnaaaDoor
def gv : By → Nat
 | [] => 0
 | b :: l => b.toNat % 128 + 128 * gv l
def uz (z : Nat) : Int := if z % 2 = 0 then ((z / 2 : Nat) : Int) else -((z / 2 : Nat) : Int) - 1
theorem oO (z : Nat) : zz (uz z) = z := by
 unfold uz zz
 split <;> split <;> omega
def rdG : Nat → By → Option (By × By)
 | 0, _ => none
 | _ + 1, [] => none
 | f + 1, b :: s => if b.toNat < 128 then some ([b], s) else (rdG f s).map fun p => (b :: p.1, p.2)
def rdI (s : By) : Option (Int × By) :=
 match rdG 9 s with
 | none => none
 | some (l, r) => if vb 8 (gv l) = l ∧ -4611686018427387903 ≤ uz (gv l) then some (uz (gv l), r) else none
theorem oS : ∀ l : By, gv l < 128 ^ l.length
 | [] => by simp [gv]
 | b :: l => by
  have h := oS l
  have := Nat.mod_lt b.toNat (y := 128) de
  rw [gv, List.length_cons, Nat.pow_succ]
  omega
theorem gx : ∀ {f : Nat} {s l r : By}, rdG f s = some (l, r) → s = l ++ r ∧ l.length ≤ f
 | 0, s, l, r, h => by cases h
 | f + 1, [], l, r, h => by cases h
 | f + 1, b :: s, l, r, h => by
  rw [rdG] at h
  split at h
  ·cases h; exact ⟨rfl, by simp⟩
  ·cases hq : rdG f s with
   | none => rw [hq] at h; cases h
   | some p =>
    rw [hq] at h
    obtain ⟨l1, r1⟩ := p
    cases h
    obtain ⟨h1, h2⟩ := gx hq
    exact ⟨by rw [h1]; rfl, by simp; omega⟩
theorem pow128 : (128 : Nat) ^ 9 = 9223372036854775808 := by decide
theorem jP {s r : By} {n : Int} (h : rdI s = some (n, r)) : small n ∧ s = putI n ++ r := by
 unfold rdI at h
 split at h
 ·cases h
 ·rename_i l r1 hq
  split at h
  ·rename_i hc
   cases h
   obtain ⟨h1, h2⟩ := gx hq
   refine ⟨⟨hc.2, ?_⟩, ?_⟩
   ·have h3 := oS l
    have h4 : (128 : Nat) ^ l.length ≤ 128 ^ 9 := Nat.pow_le_pow_right de h2
    rw [pow128] at h4
    unfold uz
    split <;> omega
   ·rw [h1]; unfold putI; rw [oO, hc.1]
  ·cases h
theorem canon : ∀ (f : Nat) (l : By) (b : UInt8), l.length ≤ f → (∀ c ∈ l, 128 ≤ c.toNat) → b.toNat < 128 → (vb f (gv (l ++ [b])) = l ++ [b] ↔ (l = [] ∨ b ≠ 0))
 | f, [], b, hl, hc, hb => by
  have e : gv ([] ++ [b]) = b.toNat := by simp [gv]; omega
  rw [e]
  have h2 : UInt8.ofNat b.toNat = b := by simp
  cases f with
  | zero => simp [vb]
  | succ f => rw [vb, if_pos hb]; simp
 | 0, c :: l, b, hl, hc, hb => by simp at hl
 | f + 1, c :: l, b, hl, hc, hb => by
  have hcc := hc c sm
  have hc2 : c.toNat < 256 := c.toNat_lt
  have ih := canon f l b (by simpa using hl) (fun c h => hc c (by simp [h])) hb
  have e : gv (c :: l ++ [b]) = c.toNat % 128 + 128 * gv (l ++ [b]) := rfl
  have hcb : UInt8.ofNat (c.toNat % 128 + 128) = c := by
   rw [show c.toNat % 128 + 128 = c.toNat from by omega]; simp
  constructor
  ·intro h
   right
   intro hb0
   rw [e, vb] at h
   split at h
   ·have := congrArg List.length h
    simp at this
   ·rename_i h128
    rw [List.cons_append] at h
    injection h with h1 h2
    rw [show (c.toNat % 128 + 128 * gv (l ++ [b])) / 128 = gv (l ++ [b]) from by omega] at h2
    rcases ih.1 h2 with rfl | h3
    ·subst hb0
     simp [gv] at h128; omega
    ·exact h3 hb0
  ·intro h
   have hb0 : b ≠ 0 := h.resolve_left sm
   have hpos : ∀ l : By, 0 < gv (l ++ [b]) := by
    intro l
    induction l with
    | nil =>
     have : b.toNat ≠ 0 := fun h0 => hb0 (UInt8.toNat_inj.1 (by rw [h0]; rfl))
     simp [gv]; omega
    | cons d l ih => rw [List.cons_append, gv]; omega
   have hp := hpos l
   rw [e, vb, if_neg om, show (c.toNat % 128 + 128 * gv (l ++ [b])) / 128 = gv (l ++ [b]) from by omega, show (c.toNat % 128 + 128 * gv (l ++ [b])) % 128 = c.toNat % 128 from by omega, hcb, ih.2 (.inr hb0)]
   rfl
theorem eW : ∀ (l : By) (b : UInt8), gv (l ++ [b]) = gv l + b.toNat % 128 * 128 ^ l.length
 | [], b => by simp [gv]
 | c :: l, b => by
  rw [List.cons_append, gv, eW l b, gv, List.length_cons, Nat.pow_succ, Nat.mul_add, Nat.add_assoc]
  congr 1
  congr 1
  rw [Nat.mul_comm, Nat.mul_assoc]
def wI : Nat → Nat → Nat → By → Option (Int × Nat)
 | 0, _, _, _ => none
 | _ + 1, _, _, [] => none
 | f + 1, i, z, b :: s =>
  if b.toNat < 128 then (if (b = 0 ∧ 0 < i) ∨ uz (z + b.toNat % 128 * 128 ^ i) < -4611686018427387903 then none else some (uz (z + b.toNat % 128 * 128 ^ i), i + 1))
  else wI f (i + 1) (z + b.toNat % 128 * 128 ^ i) s
theorem nh : ∀ (f : Nat) (l s : By), f + l.length = 9 → (∀ c ∈ l, 128 ≤ c.toNat) →
  wI f l.length (gv l) s = match rdG f s with
   | none => none
   | some (m, r) => if vb 8 (gv (l ++ m)) = l ++ m ∧ -4611686018427387903 ≤ uz (gv (l ++ m)) then some (uz (gv (l ++ m)), (l ++ m).length) else none
 | 0, l, s, hf, hl => rfl
 | f + 1, l, [], hf, hl => rfl
 | f + 1, l, b :: s, hf, hl => by
  rw [wI, rdG]
  by_cases hb : b.toNat < 128
  ·rw [if_pos hb, if_pos hb]
   simp only
   rw [← eW]
   have hc := canon 8 l b om hl hb
   have h0 : 0 < l.length ↔ l ≠ [] := by rw [List.length_pos_iff]
   by_cases h1 : vb 8 (gv (l ++ [b])) = l ++ [b]
   ·have h2 := hc.1 h1
    by_cases h3 : uz (gv (l ++ [b])) < -4611686018427387903
    ·rw [if_pos (.inr h3), if_neg om]
    ·rw [if_neg, if_pos ⟨h1, by omega⟩]
     ·simp
     ·rintro (⟨h4, h5⟩ | h4)
      ·rcases h2 with h2 | h2
       ·exact (h0.1 h5) h2
       ·exact h2 h4
      ·exact h3 h4
   ·have h2 : ¬ (l = [] ∨ b ≠ 0) := fun h => h1 (hc.2 h)
    rw [if_pos, if_neg (fun h => h1 h.1)]
    refine .inl ⟨?_, ?_⟩
    ·exact Classical.byContradiction fun h => h2 (.inr h)
    ·exact h0.2 fun h => h2 (.inl h)
  ·rw [if_neg hb, if_neg hb, ← eW]
   have := nh f (l ++ [b]) s (by simp; omega) (by
    intro c h
    rcases List.mem_append.1 h with h | h
    ·exact hl c h
    ·rw [List.mem_singleton.1 h]; omega)
   rw [List.length_append, List.length_cons, List.length_nil] at this
   rw [this]
   cases hq : rdG f s with
   | none => rfl
   | some p => simp [List.append_assoc]
theorem mY (s : By) : wI 9 0 0 s = (rdI s).map fun p => (p.1, s.length - p.2.length) := by
 have h := nh 9 [] s rfl sm
 rw [show gv [] = 0 from rfl, show ([] : By).length = 0 from rfl] at h
 rw [h]
 unfold rdI
 cases hq : rdG 9 s with
 | none => rfl
 | some p =>
  obtain ⟨m, r⟩ := p
  obtain ⟨h1, h2⟩ := gx hq
  simp only [List.nil_append]
  split
  ·rw [h1]; simp
  ·rfl
section
variable {α : Type}
def Pxy.text (p : Pxy) : By := p.content ++ p.sig
def Wsh.text (w : Wsh) : By := w.content ++ w.sig
end
end Go.Proofs.YtddfkkdanpmnaaaDoor
namespace Go.Proofs.YtddfkkdanpmnaaaDoor
def intsR : Nat → By → Option (List Int × By)
 | 0, s => some ([], s)
 | m + 1, s => match rdI s with
  | none => none
  | some (n, r) => (intsR m r).map fun p => (n :: p.1, p.2)
theorem mV {m : Nat} {s r : By} {n : Int} (h : rdI s = some (n, r)) : intsR (m + 1) s = (intsR m r).map fun p => (n :: p.1, p.2) := by rw [intsR, h]
theorem lw {m : Nat} {s : By} (h : rdI s = none) : intsR (m + 1) s = none := by rw [intsR, h]
theorem eV {s : By} : ∀ {f : Nat} (l r : By), (∀ c ∈ l, 128 ≤ c.toNat) → rdG (f + l.length) (l ++ r) = (rdG f r).map fun p => (l ++ p.1, p.2)
 | f, [], r, h => by simp
 | f, c :: l, r, h => by
  rw [List.length_cons, ← Nat.add_assoc, List.cons_append, rdG, if_neg (by have := h c sm; omega), eV (s := s) l r fun d hd => h d (by simp [hd])]
  cases rdG f r <;> rfl
theorem pf {l r : By} {b : UInt8} (hl : l.length < 9) (h : ∀ c ∈ l, 128 ≤ c.toNat) (hb : b.toNat < 128) :
  rdI (l ++ b :: r) = if vb 8 (gv (l ++ [b])) = l ++ [b] ∧ -4611686018427387903 ≤ uz (gv (l ++ [b])) then some (uz (gv (l ++ [b])), r) else none := by
 unfold rdI
 rw [show (9 : Nat) = (9 - l.length - 1 + 1) + l.length from by omega, eV (s := []) l _ h, rdG, if_pos hb]
 rfl
theorem ol {l : By} (h : ∀ c ∈ l, 128 ≤ c.toNat) (hl : l.length ≤ 9) : rdI l = none := by
 unfold rdI
 have := eV (s := []) (f := 9 - l.length) l [] h
 rw [List.append_nil, show 9 - l.length + l.length = 9 from by omega] at this
 rw [this]
 cases 9 - l.length <;> rfl
theorem m6 {l r : By} (h : ∀ c ∈ l, 128 ≤ c.toNat) (hl : l.length = 9) : rdI (l ++ r) = none := by
 unfold rdI
 have := eV (s := []) (f := 0) l r h
 rw [hl] at this
 rw [this]; rfl
def rdS (s : By) : Option (By × By) := match rdI s with
 | none => none
 | some (n, r) => if 0 ≤ n ∧ n ≤ 65536 ∧ n ≤ (r.length : Int) then some (r.take n.toNat, r.drop n.toNat) else none
def putS (s : By) : By := putI (s.length : Int) ++ s
end Go.Proofs.YtddfkkdanpmnaaaDoor
namespace Go.Proofs.YtddfkkdanpmnaaaDoor
structure Rec where
 t : Int
 kind : Int
 a : Int
 b : Int
 text : By
 deriving DecidableEq
def Rec.z : Rec := ⟨0, 0, 0, 0, []⟩
def Rec.ok (x : Rec) : Bool := inB x.t 0 10000000 && inB x.kind 1 20 && inB x.a (-1) 99999999 && inB x.b (-1) 99999999 && decide (x.text.length ≤ 200)
def Rec.enc (x : Rec) : By := puts [x.t, x.kind, x.a, x.b] ++ putS x.text
def recN (l : List Int) (s : By) : Rec := ⟨l.getD 0 0, l.getD 1 0, l.getD 2 0, l.getD 3 0, s⟩
def shutR (l : List Int) (x q : By) : Option Rec := if q = [] ∧ (recN l x).ok = true then some (recN l x) else none
def tailR (l : List Int) (r : By) : Option Rec := match rdS r with
 | none => none
 | some (x, q) => shutR l x q
def decRec (s : By) : Option Rec := match intsR 4 s with
 | none => none
 | some (l, r) => tailR l r
theorem Rec.smalls {x : Rec} (h : x.ok = true) : ∀ n ∈ ([x.t, x.kind, x.a, x.b] : List Int), small n := by
 simp only [Rec.ok, inB, Bool.and_eq_true, decide_eq_true_eq] at h
 intro n hn
 simp only [List.mem_cons, List.not_mem_nil, or_false] at hn
 unfold small
 rcases hn with rfl | rfl | rfl | rfl <;> omega
theorem Rec.len {x : Rec} (h : x.ok = true) : x.text.length ≤ 200 := by
 simp only [Rec.ok, inB, Bool.and_eq_true, decide_eq_true_eq] at h; omega
theorem Rec.enc_len (x : Rec) : x.enc.length ≤ 45 + x.text.length ∧ 5 ≤ x.enc.length := by
 have h1 := bE x.t
 have h2 := bE x.kind
 have h3 := bE x.a
 have h4 := bE x.b
 have h5 := bE (x.text.length : Int)
 simp only [Rec.enc, puts, putS, List.flatMap_cons, List.flatMap_nil, List.length_append, List.length_nil]
 omega
def bD : Int → List Rec → Bool
 | _, [] => true
 | t, x :: l => x.ok && decide (t ≤ x.t) && bD x.t l
def logOk (o : Int) (l : List Rec) : Bool := bD 0 l && inB o 0 99 && decide (l.length ≤ 60)
def findF (f : Rec → Bool) (l : List Rec) : Nat → Int
 | 0 => -1
 | k + 1 => if f (l.getD k Rec.z) = true then (k : Int) else findF f l k
def hitR (kind t : Int) (x : Rec) : Bool := decide (x.kind = kind) && decide (x.t ≤ t)
def findH (o : Int) (l : List Rec) (kind t : Int) : Int := if logOk o l = true then findF (hitR kind t) l l.length else -1
theorem gw : ∀ {l : List Rec} {t : Int}, bD t l = true → ∀ x ∈ l, x.ok = true
 | [], t, h => by simp
 | y :: l, t, h => by
  rw [bD, Bool.and_eq_true, Bool.and_eq_true] at h
  intro x hx
  rcases List.mem_cons.1 hx with rfl | hx
  ·exact h.1.1
  ·exact gw h.2 x hx
theorem dA {o : Int} {l : List Rec} (h : logOk o l = true) : ∀ x ∈ l, x.ok = true := by
 rw [logOk, Bool.and_eq_true, Bool.and_eq_true] at h; exact gw h.1.1
theorem co {o : Int} {l : List Rec} (h : logOk o l = true) : l.length ≤ 60 := by
 rw [logOk, Bool.and_eq_true, decide_eq_true_eq] at h; exact h.2
theorem hP {o : Int} {l : List Rec} (h : logOk o l = true) : 0 ≤ o ∧ o ≤ 99 := by
 simp only [logOk, inB, Bool.and_eq_true, decide_eq_true_eq] at h; exact h.1.2
def codesR (l : List Rec) : List By := l.map Rec.enc
def textR (n : Int) : Nat → By
 | 0 => []
 | k + 1 => textR n k ++ [UInt8.ofNat (pickI (n.tdiv (4 + (k : Int))) 256).toNat]
def entR (t x0 x1 x2 x3 : Int) : Rec := ⟨pickI t 10000001, 1 + pickI x0 3, pickI x1 200 - 1, pickI x2 200 - 1, textR x3 (pickI x3 4).toNat⟩
theorem fu (n : Int) : ∀ k, (textR n k).length = k
 | 0 => rfl
 | k + 1 => by rw [textR, List.length_append, fu]; rfl
theorem ox (t x0 x1 x2 x3 : Int) : (entR t x0 x1 x2 x3).ok = true := by
 have h0 := bw t (n := 10000001) om
 have h1 := bw x0 (n := 3) om
 have h2 := bw x1 (n := 200) om
 have h3 := bw x2 (n := 200) om
 have h4 := bw x3 (n := 4) om
 have h5 := fu x3 (pickI x3 4).toNat
 unfold entR
 simp only [Rec.ok, inB, Bool.and_eq_true, decide_eq_true_eq]
 refine ⟨⟨⟨⟨⟨?_, ?_⟩, ?_, ?_⟩, ?_, ?_⟩, ?_, ?_⟩, ?_⟩
 all_goals omega
structure Rin where
 x0 : Int
 x1 : Int
 x2 : Int
 x3 : Int
 x4 : Int
def recsR : Int → List Rin → List Rec
 | _, [] => []
 | t, y :: l => entR (t + pickI y.x0 30) y.x1 y.x2 y.x3 y.x4 :: recsR (t + pickI y.x0 30) l
def madeR (l : List Rin) : List Rec := recsR 0 (l.take 12)
theorem c9 : ∀ (t : Int) (l : List Rin), (recsR t l).length = l.length
 | _, [] => rfl
 | t, y :: l => by rw [recsR, List.length_cons, List.length_cons, c9]
theorem fb : ∀ {l : List Rin} {t : Int}, 0 ≤ t → t + 30 * l.length ≤ 10000000 → bD t (recsR t l) = true
 | [], t, h, hb => rfl
 | y :: l, t, h, hb => by
  have h0 := bw y.x0 (n := 30) om
  rw [List.length_cons] at hb
  have e : (entR (t + pickI y.x0 30) y.x1 y.x2 y.x3 y.x4).t = t + pickI y.x0 30 := by
   show pickI (t + pickI y.x0 30) 10000001 = _
   generalize pickI y.x0 30 = z at *
   unfold pickI
   rw [if_neg om]
   exact Int.emod_eq_of_lt om om
  rw [recsR, bD, ox, e, decide_eq_true (by omega : t ≤ t + pickI y.x0 30), fb om om]
  rfl
theorem g7 (l : List Rin) : (madeR l).length = min 12 l.length := by rw [madeR, c9, List.length_take]
theorem mg (o : Int) (l : List Rin) : logOk (pickI o 100) (madeR l) = true := by
 have h := bw o (n := 100) om
 have h2 := g7 l
 rw [logOk, madeR, fb (Int.le_refl 0) (by rw [List.length_take]; omega)]
 rw [show recsR 0 (l.take 12) = madeR l from rfl]
 simp only [inB, Bool.true_and, Bool.and_eq_true, decide_eq_true_eq]
 omega
end Go.Proofs.YtddfkkdanpmnaaaDoor
namespace Go.Proofs.YtddfkkdanpmnaaaDoor
set_option linter.unusedSectionVars false
section
variable (S : By → By)
def Two (a b : List By) : Prop := ∃ x ∈ a, ∃ y ∈ b, x ≠ y ∧ S x = S y
variable {S}
theorem Two.mono {a b c d : List By} (h : Two S a b) (h1 : ∀ x ∈ a, x ∈ c) (h2 : ∀ x ∈ b, x ∈ d) : Two S c d := let ⟨x, hx, y, hy, e⟩ := h; ⟨x, h1 x hx, y, h2 y hy, e⟩
variable (hS : ∀ s, (S s).length = 32)
include hS
omit hS
include hS
end
theorem ej (l : List Rec) : (codesR l).length = l.length := by rw [codesR, List.length_map]
theorem m5 {l : List Rec} {k : Nat} (h : k < l.length) : (codesR l).getD k [] = (l.getD k Rec.z).enc := by
 rw [codesR, List.getD_eq_getElem?_getD, List.getD_eq_getElem?_getD, List.getElem?_map, List.getElem?_eq_getElem h]; rfl
def jj (o n : Int) (root : By) : By := puts [o, n] ++ root
section
variable (S : By → By)
def tagR (key : By) (o n : Int) (root : By) : By := nodeH S key (leafH S (jj o n root))
def genR (key : By) (o n : Int) (root t : By) : Bool := decide (key.length = 32) && inB o 0 99 && inB n 0 60 && decide (root.length = 32) && decide (t = tagR S key o n root)
variable {S}
end
end Go.Proofs.YtddfkkdanpmnaaaDoor
namespace Go.Proofs.YtddfkkdanpmnaaaDoor
theorem take_one {l : By} {k : Nat} (h : k < l.length) : l.take (k + 1) = l.take k ++ [l.getD k 0] := by
 rw [List.take_add_one, List.getElem?_eq_getElem h, List.getD_eq_getElem?_getD, List.getElem?_eq_getElem h]; rfl
end Go.Proofs.YtddfkkdanpmnaaaDoor
namespace Go.Proofs
open Go.Shelf
def Tryd.lays156_ren : Go.Shelf.Ren := ⟨fun | 156 => 106 | 165 => 113 | 166 => 51 | 169 => 52 | 240 => 76 | 241 => 115 | 276 => 92 | 277 => 116 | n => n, fun | 31 => 45 | 9 => 9 | 3 => 3 | 4 => 4 | 0 => 0 | 20 => 20 | 72 => 83 | 76 => 90 | 70 => 81 | 37 => 71 | 75 => 89 | 127 => 117 | 164 => 141 | 5 => 5 | 80 => 92 | n => n, fun | n => n⟩
theorem Tryd.lays156 : Go.Proofs.Lays.n156 Tryd.prog Tryd.lays156_ren := {
 mixed := by kernel_rfl
 f156 := Tryd.func106.trans (congrArg some kr)
 f165 := Tryd.func113.trans (congrArg some kr)
 f166 := Tryd.func51.trans (congrArg some kr)
 f169 := Tryd.func52.trans (congrArg some kr)
 f240 := Tryd.func76.trans (congrArg some kr)
 f241 := Tryd.func115.trans (congrArg some kr)
 f276 := Tryd.func92.trans (congrArg some kr)
 f277 := Tryd.func116.trans (congrArg some kr)
 t0 := Tryd.underlying0
 a0 := Tryd.isAgg0
 z0 := Tryd.sizeOf0
 v0 := Tryd.zeroValue0
 t3 := Tryd.underlying3
 a3 := Tryd.isAgg3
 z3 := Tryd.sizeOf3
 v3 := Tryd.zeroValue3
 t4 := Tryd.underlying4
 a4 := Tryd.isAgg4
 z4 := Tryd.sizeOf4
 v4 := Tryd.zeroValue4
 t9 := Tryd.underlying9
 a9 := Tryd.isAgg9
 z9 := Tryd.sizeOf9
 v9 := Tryd.zeroValue9
 t20 := Tryd.underlying20
 a20 := Tryd.isAgg20
 z20 := Tryd.sizeOf20
 v20 := Tryd.zeroValue20
 t31 := Tryd.underlying45
 a31 := Tryd.isAgg45
 z31 := Tryd.sizeOf45
 v31 := Tryd.zeroValue45
 t37 := Tryd.underlying71
 a37 := Tryd.isAgg71
 z37 := Tryd.sizeOf71
 v37 := Tryd.zeroValue71
 t70 := Tryd.underlying81
 a70 := Tryd.isAgg81
 z70 := Tryd.sizeOf81
 v70 := Tryd.zeroValue81
 t72 := Tryd.underlying83
 a72 := Tryd.isAgg83
 z72 := Tryd.sizeOf83
 v72 := Tryd.zeroValue83
 t75 := Tryd.underlying89
 a75 := Tryd.isAgg89
 z75 := Tryd.sizeOf89
 v75 := Tryd.zeroValue89
 t76 := Tryd.underlying90
 a76 := Tryd.isAgg90
 z76 := Tryd.sizeOf90
 v76 := Tryd.zeroValue90
 t127 := Tryd.underlying117
 a127 := Tryd.isAgg117
 z127 := Tryd.sizeOf117
 v127 := Tryd.zeroValue117
 t164 := Tryd.underlying141
 a164 := Tryd.isAgg141
 z164 := Tryd.sizeOf141
 v164 := Tryd.zeroValue141 }
theorem Tryd.Builder_Extra_156 : Builder.Extra Tryd.prog Tryd.lays156_ren := {
 sizeBuilder := by kernel_rfl
 liesBuilder := by kernel_rfl
 t5 := Tryd.underlying5
 a5 := Tryd.isAgg5
 z5 := Tryd.sizeOf5
 v5 := Tryd.zeroValue5
 infoByte := by kernel_rfl
 cellsByte := by kernel_rfl
 sizeByte := by kernel_rfl
 neB5 := by decide }
open Go.RowKit in
theorem Tryd.strings_Join_none (a : Option Addr) (c : Nat) (sep : ByteArray) (w : World) :
  Calls Tryd.prog 106 #[.slice a 0 c, .string sep] w fun e w' => e = .returned (.string ⟨#[]⟩) ∧ w' = w := Any.strings_Join_none Tryd.lays156 Tryd.Builder_Extra_156 a c sep w
open Go.RowKit in
theorem Tryd.strings_Join (bk o c : Nat) (xs : List ByteArray) (sep : ByteArray) (w : World) (hcells : ∀ (j : Nat) x, xs[j]? = some x → w.cell? ⟨bk, o + j, none⟩ = some (.string x)) (hbk : bk < w.heap.size) (hN : xs.length ≤ 140737488355328) (hcap : xs.length ≤ c) (hlen : (Lib.join (xs.map (·.data.toList)) sep.data.toList).length ≤ 140737488355328) :
  Calls Tryd.prog 106 #[.slice (some ⟨bk, o, none⟩) xs.length c, .string sep] w fun e w' => e = .returned (.string ⟨(Lib.join (xs.map (·.data.toList)) sep.data.toList).toArray⟩) ∧ Below w.heap.size w w' := Any.strings_Join Tryd.lays156 Tryd.Builder_Extra_156 bk o c xs sep w hcells hbk hN hcap hlen
def Tryd.lays125_ren : Go.Shelf.Ren := ⟨fun | 125 => 98 | 128 => 110 | 129 => 111 | n => n, fun | 46 => 120 | 3 => 3 | 51 => 133 | 53 => 118 | 4 => 4 | 5 => 5 | 9 => 9 | n => n, fun | n => n⟩
theorem Tryd.lays125 : Go.Proofs.Lays.n125 Tryd.prog Tryd.lays125_ren := {
 mixed := by kernel_rfl
 f125 := Tryd.func98.trans (congrArg some kr)
 f128 := Tryd.func110.trans (congrArg some kr)
 f129 := Tryd.func111.trans (congrArg some kr)
 t3 := Tryd.underlying3
 a3 := Tryd.isAgg3
 z3 := Tryd.sizeOf3
 v3 := Tryd.zeroValue3
 t4 := Tryd.underlying4
 a4 := Tryd.isAgg4
 z4 := Tryd.sizeOf4
 v4 := Tryd.zeroValue4
 t5 := Tryd.underlying5
 a5 := Tryd.isAgg5
 z5 := Tryd.sizeOf5
 v5 := Tryd.zeroValue5
 t9 := Tryd.underlying9
 a9 := Tryd.isAgg9
 z9 := Tryd.sizeOf9
 v9 := Tryd.zeroValue9
 t46 := Tryd.underlying120
 a46 := Tryd.isAgg120
 z46 := Tryd.sizeOf120
 v46 := Tryd.zeroValue120
 t51 := Tryd.underlying133
 a51 := Tryd.isAgg133
 z51 := Tryd.sizeOf133
 v51 := Tryd.zeroValue133
 t53 := Tryd.underlying118
 a53 := Tryd.isAgg118
 z53 := Tryd.sizeOf118
 v53 := Tryd.zeroValue118 }
theorem Tryd.bits_Len (x : Int) (w : World) (h0 : 0 ≤ x) (h1 : x ≤ 18446744073709551615) :
  Calls Tryd.prog 98 #[.int .u64 x] w fun e w' => e = .returned (.int .i64 (Lib.bitLen x.toNat)) ∧ w' = w := Any.bits_Len Tryd.lays125 x w h0 h1
def Tryd.laysNm217_ren : Go.Shelf.Ren := ⟨fun | 17 => 83 | n => n, fun | 24 => 45 | 9 => 9 | 3 => 3 | 4 => 4 | 0 => 0 | n => n, fun | n => n⟩
theorem Tryd.laysNm217 : Go.Proofs.Lays2.n17 Tryd.prog Tryd.laysNm217_ren := {
 mixed := by kernel_rfl
 f17 := Tryd.func83.trans (congrArg some kr)
 t0 := Tryd.underlying0
 a0 := Tryd.isAgg0
 z0 := Tryd.sizeOf0
 v0 := Tryd.zeroValue0
 t3 := Tryd.underlying3
 a3 := Tryd.isAgg3
 z3 := Tryd.sizeOf3
 v3 := Tryd.zeroValue3
 t4 := Tryd.underlying4
 a4 := Tryd.isAgg4
 z4 := Tryd.sizeOf4
 v4 := Tryd.zeroValue4
 t9 := Tryd.underlying9
 a9 := Tryd.isAgg9
 z9 := Tryd.sizeOf9
 v9 := Tryd.zeroValue9
 t24 := Tryd.underlying45
 a24 := Tryd.isAgg45
 z24 := Tryd.sizeOf45
 v24 := Tryd.zeroValue45 }
open Go.RowKit Go.Lib Go.Sort in
theorem Tryd.slices_Reverse_string (blk off cap : Nat) (zs : List (List UInt8)) (w : World) (hH : Holds encStr w blk off zs.toArray) (hsz : zs.length ≤ 9223372036854775807) :
  Calls Tryd.prog 83 #[.slice (some ⟨blk, off, none⟩) zs.length cap] w fun e w' => e = .returned (.tuple #[]) ∧ ∃ n, w' = putRow encStr (Sort.ahead w n) blk off zs.reverse.toArray := Any.slices_Reverse_string Tryd.laysNm217 blk off cap zs w hH hsz
open Go.RowKit Go.Lib Go.Sort in
theorem Tryd.slices_Reverse_string_empty (a : Option Addr) (cap : Nat) (w : World) :
  Calls Tryd.prog 83 #[.slice a 0 cap] w fun e w' => e = .returned (.tuple #[]) ∧ w' = w := Any.slices_Reverse_string_empty Tryd.laysNm217 a cap w
end Go.Proofs
namespace Go.Proofs.YtddfkkdanpmnaaaDoor
open Go.RowKit Go.PW _root_.Go.Proofs.Tryd
theorem pj (x : Wd) (n : Nat) (w0 : World) (hn : 0 < n) (hn2 : n < 32) :
  Ret Tryd.prog 114 #[wv x, iv (-(n : Int))] w0 fun v w => v = wv (ror x n) ∧ Ext No w0 w := by
 refine aI func114 rfl ntmps114 (lb rfl) fun a Y => ?_
 replace Y := Y.p2 0 1 rfl
 replace U : St No w0 [] w0 := St.init w0
 refine aa fun K1 hK1 => wla Y rfl fun a Y => ab (hK1 _ _ <| aa fun K2 hK2 => ?_)
 refine wlm Y rfl fun a Y => wlv Y (da rfl kr underlying120) fun a Y => wlv Y ((me (n := ((-(n : Int)) % 18446744073709551616).toNat) om rfl rfl).asi (m' := ((32 - n : Nat) : Int)) om) fun a Y => wla Y rfl fun a Y => ab (hK2 _ _ <| aa fun K3 hK3 => ?_)
 refine wlm Y rfl fun a Y => wlm Y rfl fun a Y => wlv Y (dW (n := (32 - n)) rfl rfl) fun a Y => wlm Y rfl fun a Y => wlm Y rfl fun a Y => wlv Y ((nI (m := 32) (n := 32 - n) om om rfl rfl).asi (m' := (n : Int)) om) fun a Y => wlv Y (dw (n := n) rfl rfl) fun a Y => wlv Y (fC rfl rfl) fun a Y => wla Y rfl fun a Y => ab (hK3 _ _ ?_)
 replace Y := Y.p1 4 rfl
 refine au ?_
 refine ar Y results114 (ae rfl ah) ?_
 exact ⟨by simp only [retv, ror], U.ext⟩
theorem eN (x : Wd) (lv : Value) (ns : List Nat) (w0 : World) (hlv : SlAt w0 lv 1 (ns.map fun n : Nat => [iv (n : Int)])) (hns : ∀ n ∈ ns, 0 < n ∧ n < 32) :
  Ret Tryd.prog 109 #[wv x, lv] w0 fun v w => v = wv (mix x ns) ∧ Ext No w0 w := by
 have hnl := hlv.le
 rw [List.length_map] at hnl
 refine aI func109 rfl ntmps109 (lb rfl) fun a Y => ?_
 replace Y := Y.p2 0 1 rfl
 replace U : St No w0 [] w0 := St.init w0
 refine aa fun K1 hK1 => wla Y rfl fun a Y => ab (hK1 _ _ <| aa fun K2 hK2 => ?_)
 refine wla Y rfl fun a Y => ab (hK2 _ _ <| ac fun K3 hK3 => ?_)
 refine aa fun K4 hK4 => wlm Y rfl fun a Y => wlv Y ((aK (sT := 41) (U.arg hlv) rfl rfl (runUnderlying41 _)).asi (m' := (ns.length : Int)) sm) fun a Y => wlm Y rfl fun a Y => ab (hK4 _ _ <| ap ?_)
 refine aV (fun m a w => ∃ (k : Nat), m = ns.length - k ∧ (k ≤ ns.length) ∧ Fr 22 [(0, wv x), (4, wv (0#32)), (8, lv), (9, iv (ns.length : Int)), (10, iv (k : Int)), (5, wv (mix x (ns.take k)))] [] a ∧ St No w0 [] w) _ ⟨0, rfl, Nat.zero_le _, Y.pick [0, 4, 8, 9, 10, 5], U.select [] de⟩ ?_
 rintro _ a w1 ⟨k, rfl, hk, Y, U⟩
 refine aa fun K5 hK5 => wlv Y (v_lt rfl rfl) fun a Y => ab (hK5 _ _ <| ac fun K6 hK6 => ?_)
 refine az Y rfl (fun hc1 => ?_) (fun hc1 => ?_)
 ·rw [hc1] at Y
  try simp only [qz] at hc1
  have hkl : k < ns.length := by omega
  obtain ⟨n, hn⟩ : ∃ n, ns.getD k 0 = n := ⟨_, rfl⟩
  have hnb : 0 < n ∧ n < 32 := hns n (by rw [← hn]; simp [List.getD_eq_getElem?_getD, List.getElem?_eq_getElem hkl])
  have hst2 : mix x (ns.take (k + 1)) = mix x (ns.take k) ^^^ ror x n := by
   rw [mix, mix, List.take_succ_eq_append_getElem hkl, List.foldl_append]
   have : ns[k] = n := by rw [← hn]; simp [List.getD_eq_getElem?_getD, List.getElem?_eq_getElem hkl]
   rw [this]; rfl
  refine aq <| hK6 _ _ <| ac fun K7 hK7 => ap <| aa fun K8 hK8 => wlv Y ((ak (i := (k : Int)) (sT := 41) (U.arg hlv) rfl rfl (runUnderlying41 _) (sizeOf3 _) om (by simpa using hkl)).as (v' := slAddr lv (k * 1)) rfl) fun a Y => ?_
  refine wlv Y (ax (u := iv (n : Int)) (i := k) (j := 0) (U.arg hlv) (by simpa using hkl) rfl (isAgg3 _) (by rw [← hn]; simp [List.getD_eq_getElem?_getD, List.getElem?_eq_getElem hkl])) fun a Y => wla Y rfl fun a Y => ?_
  refine ab (hK8 _ _ <| ao ?_)
  refine wlm Y rfl fun a Y => wlm Y rfl fun a Y => wlm Y rfl fun a Y => wlv Y (ig rfl om om) fun a Y => am Y U de call114 rfl (pj x n _ hnb.1 hnb.2) ?_
  clear Y U
  intro a w2 Y U
  refine wlv Y (cg rfl rfl) fun a Y => wla Y rfl fun a Y => ab <| hK7 _ _ ?_
  replace Y := Y.p6 0 4 8 9 10 5 rfl
  refine ao <| wlv Y (aM rfl rfl ⟨om, om⟩) fun a Y => wlm Y rfl fun a Y => ab ?_
  rw [← hst2] at Y
  refine ⟨_, ?_, k + 1, rfl, om, Y.pick [0, 4, 8, 9, 10, 5], U.select [] de⟩
  omega
 rw [hc1] at Y
 try simp only [qz] at hc1
 have hke : ns.take k = ns := List.take_of_length_le om
 rw [hke] at Y
 refine aL <| hK3 _ _ <| aa fun K9 hK9 => wlm Y rfl fun a Y => wla Y rfl fun a Y => ab (hK9 _ _ ?_)
 replace Y := Y.p1 4 rfl
 refine au ?_
 refine ar Y results109 (ae rfl ah) ?_
 exact ⟨rfl, U.ext⟩
theorem jQ (bv : Value) (bs : List UInt8) (w0 : World) (hbv : SlAt w0 bv 1 (bs.map fun b => [yv b])) (hbl : bs.length = 64) :
  Ret Tryd.prog 108 #[bv] w0 fun v w => v = .agg ((sch bs 64).map wv).toArray ∧ Ext No w0 w := by
 refine aI func108 rfl ntmps108 (lb rfl) fun a Y => ?_
 replace Y := Y.p1 0 rfl
 replace U : St No w0 [] w0 := St.init w0
 refine aa fun K1 hK1 => aC Y U de (zeroValue161 _) (cs := (List.replicate 64 0#32).map wv) kr ?_
 clear Y U
 intro a w1 Y U
 refine ab (hK1 _ _ <| ac fun K2 hK2 => ?_)
 refine aa fun K3 hK3 => wlm Y rfl fun a Y => ab (hK3 _ _ <| ap ?_)
 refine aV (fun m a w => ∃ (k : Nat), m = 16 - k ∧ (k ≤ 16) ∧ Fr 84 [(0, bv), (2, pq w0.hz), (7, iv (k : Int))] [] a ∧ St No w0 [blk w0.hz ((sch bs k).map wv) 161] w) _ ⟨0, rfl, Nat.zero_le _, Y.pick [0, 2, 7], U.select [0] de⟩ ?_
 rintro _ a w2 ⟨k, rfl, hk, Y, U⟩
 refine aa fun K4 hK4 => wlv Y (v_lt rfl rfl) fun a Y => ab (hK4 _ _ <| ac fun K5 hK5 => ?_)
 refine az Y rfl (fun hc1 => ?_) (fun hc1 => ?_)
 ·rw [hc1] at Y
  try simp only [qz] at hc1
  refine aq <| hK5 _ _ <| ac fun K6 hK6 => ap <| aa fun K7 hK7 => wlm Y rfl fun a Y => wla Y rfl fun a Y => ab (hK7 _ _ <| aO kr (aP kr fun w3 hxz => ?_))
  replace U := U.grow hxz
  refine aS (k := 0) 34 [0, 33] Y kr kr kr rfx ?_
  replace Y := Y.p6 0 2 7 8 9 3 rfl
  refine aA [] (fun i => match i with | _ => fun _ _ => False) 34 [[], [], [], [2], [1, 3], [4], [5], [6], [], [], [9], [10], [8, 11], [12], [13], [14], [7, 15], [], [], [18], [19], [17, 20], [21], [22], [23], [16, 24], [], [], [27], [28], [26, 29], [30], [31], [25, 32]] [iv (k : Int), bv, iv (k : Int), iv (4 * (k : Int)), slAddr bv ((4 * k) * 1), yv (bs.getD (4 * k) 0), wv (BitVec.ofNat 32 (bs.getD (4 * k) 0).toNat), wv ((BitVec.ofNat 32 (bs.getD (4 * k) 0).toNat) <<< 24), bv, iv (k : Int), iv (4 * (k : Int)), iv ((4 * (k : Int)) + 1), slAddr bv (((4 * k) + 1) * 1), yv (bs.getD ((4 * k) + 1) 0), wv (BitVec.ofNat 32 (bs.getD ((4 * k) + 1) 0).toNat), wv ((BitVec.ofNat 32 (bs.getD ((4 * k) + 1) 0).toNat) <<< 16), wv (((BitVec.ofNat 32 (bs.getD (4 * k) 0).toNat) <<< 24) ||| ((BitVec.ofNat 32 (bs.getD ((4 * k) + 1) 0).toNat) <<< 16)), bv, iv (k : Int), iv (4 * (k : Int)), iv ((4 * (k : Int)) + 2), slAddr bv (((4 * k) + 2) * 1), yv (bs.getD ((4 * k) + 2) 0), wv (BitVec.ofNat 32 (bs.getD ((4 * k) + 2) 0).toNat), wv ((BitVec.ofNat 32 (bs.getD ((4 * k) + 2) 0).toNat) <<< 8), wv ((((BitVec.ofNat 32 (bs.getD (4 * k) 0).toNat) <<< 24) ||| ((BitVec.ofNat 32 (bs.getD ((4 * k) + 1) 0).toNat) <<< 16)) ||| ((BitVec.ofNat 32 (bs.getD ((4 * k) + 2) 0).toNat) <<< 8)), bv, iv (k : Int), iv (4 * (k : Int)), iv ((4 * (k : Int)) + 3), slAddr bv (((4 * k) + 3) * 1), yv (bs.getD ((4 * k) + 3) 0), wv (BitVec.ofNat 32 (bs.getD ((4 * k) + 3) 0).toNat), wv (((((BitVec.ofNat 32 (bs.getD (4 * k) 0).toNat) <<< 24) ||| ((BitVec.ofNat 32 (bs.getD ((4 * k) + 1) 0).toNat) <<< 16)) ||| ((BitVec.ofNat 32 (bs.getD ((4 * k) + 2) 0).toNat) <<< 8)) ||| (BitVec.ofNat 32 (bs.getD ((4 * k) + 3) 0).toNat))] Y U kr kr kr ?_ ?_ ?_
  ·intro i hi hiq
   match i, hi, hiq with
   | 0, _, _ => exact fun w U => OpV.g (ai rfl)
   | 1, _, _ => exact fun w U => OpV.g (ai rfl)
   | 2, _, _ => exact fun w U => OpV.g (ai rfl)
   | 3, _, _ => exact fun w U => OpV.g (cW rfl rfl ⟨om, om⟩)
   | 4, _, _ => exact fun w U => OpV.g ((ak (i := 4 * (k : Int)) (sT := 71) (U.arg hbv) rfl rfl (runUnderlying71 _) (sizeOf5 _) om (by simp; omega)).as (v' := slAddr bv ((4 * k) * 1)) (by rw [show (4 * (k : Int)).toNat = (4 * k) from by omega]))
   | 5, _, _ => exact fun w U => OpV.g (ax (u := yv (bs.getD (4 * k) 0)) (i := (4 * k)) (j := 0) (U.arg hbv) (by simp; omega) rfl (isAgg5 _) (by simp [List.getD_eq_getElem?_getD, List.getElem?_eq_getElem (show (4 * k) < bs.length by omega)]))
   | 6, _, _ => exact fun w U => OpV.g (cC rfl kr underlying133)
   | 7, _, _ => exact fun w U => OpV.g (dW (n := 24) rfl rfl)
   | 8, _, _ => exact fun w U => OpV.g (ai rfl)
   | 9, _, _ => exact fun w U => OpV.g (ai rfl)
   | 10, _, _ => exact fun w U => OpV.g (cW rfl rfl ⟨om, om⟩)
   | 11, _, _ => exact fun w U => OpV.g (aM rfl rfl ⟨om, om⟩)
   | 12, _, _ => exact fun w U => OpV.g ((ak (i := (4 * (k : Int)) + 1) (sT := 71) (U.arg hbv) rfl rfl (runUnderlying71 _) (sizeOf5 _) om (by simp; omega)).as (v' := slAddr bv (((4 * k) + 1) * 1)) (by rw [show ((4 * (k : Int)) + 1).toNat = ((4 * k) + 1) from by omega]))
   | 13, _, _ => exact fun w U => OpV.g (ax (u := yv (bs.getD ((4 * k) + 1) 0)) (i := ((4 * k) + 1)) (j := 0) (U.arg hbv) (by simp; omega) rfl (isAgg5 _) (by simp [List.getD_eq_getElem?_getD, List.getElem?_eq_getElem (show ((4 * k) + 1) < bs.length by omega)]))
   | 14, _, _ => exact fun w U => OpV.g (cC rfl kr underlying133)
   | 15, _, _ => exact fun w U => OpV.g (dW (n := 16) rfl rfl)
   | 16, _, _ => exact fun w U => OpV.g (fC rfl rfl)
   | 17, _, _ => exact fun w U => OpV.g (ai rfl)
   | 18, _, _ => exact fun w U => OpV.g (ai rfl)
   | 19, _, _ => exact fun w U => OpV.g (cW rfl rfl ⟨om, om⟩)
   | 20, _, _ => exact fun w U => OpV.g (aM rfl rfl ⟨om, om⟩)
   | 21, _, _ => exact fun w U => OpV.g ((ak (i := (4 * (k : Int)) + 2) (sT := 71) (U.arg hbv) rfl rfl (runUnderlying71 _) (sizeOf5 _) om (by simp; omega)).as (v' := slAddr bv (((4 * k) + 2) * 1)) (by rw [show ((4 * (k : Int)) + 2).toNat = ((4 * k) + 2) from by omega]))
   | 22, _, _ => exact fun w U => OpV.g (ax (u := yv (bs.getD ((4 * k) + 2) 0)) (i := ((4 * k) + 2)) (j := 0) (U.arg hbv) (by simp; omega) rfl (isAgg5 _) (by simp [List.getD_eq_getElem?_getD, List.getElem?_eq_getElem (show ((4 * k) + 2) < bs.length by omega)]))
   | 23, _, _ => exact fun w U => OpV.g (cC rfl kr underlying133)
   | 24, _, _ => exact fun w U => OpV.g (dW (n := 8) rfl rfl)
   | 25, _, _ => exact fun w U => OpV.g (fC rfl rfl)
   | 26, _, _ => exact fun w U => OpV.g (ai rfl)
   | 27, _, _ => exact fun w U => OpV.g (ai rfl)
   | 28, _, _ => exact fun w U => OpV.g (cW rfl rfl ⟨om, om⟩)
   | 29, _, _ => exact fun w U => OpV.g (aM rfl rfl ⟨om, om⟩)
   | 30, _, _ => exact fun w U => OpV.g ((ak (i := (4 * (k : Int)) + 3) (sT := 71) (U.arg hbv) rfl rfl (runUnderlying71 _) (sizeOf5 _) om (by simp; omega)).as (v' := slAddr bv (((4 * k) + 3) * 1)) (by rw [show ((4 * (k : Int)) + 3).toNat = ((4 * k) + 3) from by omega]))
   | 31, _, _ => exact fun w U => OpV.g (ax (u := yv (bs.getD ((4 * k) + 3) 0)) (i := ((4 * k) + 3)) (j := 0) (U.arg hbv) (by simp; omega) rfl (isAgg5 _) (by simp [List.getD_eq_getElem?_getD, List.getElem?_eq_getElem (show ((4 * k) + 3) < bs.length by omega)]))
   | 32, _, _ => exact fun w U => OpV.g (cC rfl kr underlying133)
   | 33, _, _ => exact fun w U => OpV.g (fC rfl rfl)
   | i + 34, h, _ => exact absurd h om
  ·intro i hi
   exact absurd hi sm
  clear Y U
  intro  a w4 Y U
  replace Y : Fr 84 [(10, iv (k : Int)), (11, bv), (12, iv (k : Int)), (13, iv (4 * (k : Int))), (14, slAddr bv ((4 * k) * 1)), (15, yv (bs.getD (4 * k) 0)), (16, wv (BitVec.ofNat 32 (bs.getD (4 * k) 0).toNat)), (17, wv ((BitVec.ofNat 32 (bs.getD (4 * k) 0).toNat) <<< 24)), (18, bv), (19, iv (k : Int)), (20, iv (4 * (k : Int))), (21, iv ((4 * (k : Int)) + 1)), (22, slAddr bv (((4 * k) + 1) * 1)), (23, yv (bs.getD ((4 * k) + 1) 0)), (24, wv (BitVec.ofNat 32 (bs.getD ((4 * k) + 1) 0).toNat)), (25, wv ((BitVec.ofNat 32 (bs.getD ((4 * k) + 1) 0).toNat) <<< 16)), (26, wv (((BitVec.ofNat 32 (bs.getD (4 * k) 0).toNat) <<< 24) ||| ((BitVec.ofNat 32 (bs.getD ((4 * k) + 1) 0).toNat) <<< 16))), (27, bv), (28, iv (k : Int)), (29, iv (4 * (k : Int))), (30, iv ((4 * (k : Int)) + 2)), (31, slAddr bv (((4 * k) + 2) * 1)), (32, yv (bs.getD ((4 * k) + 2) 0)), (33, wv (BitVec.ofNat 32 (bs.getD ((4 * k) + 2) 0).toNat)), (34, wv ((BitVec.ofNat 32 (bs.getD ((4 * k) + 2) 0).toNat) <<< 8)), (35, wv ((((BitVec.ofNat 32 (bs.getD (4 * k) 0).toNat) <<< 24) ||| ((BitVec.ofNat 32 (bs.getD ((4 * k) + 1) 0).toNat) <<< 16)) ||| ((BitVec.ofNat 32 (bs.getD ((4 * k) + 2) 0).toNat) <<< 8))), (36, bv), (37, iv (k : Int)), (38, iv (4 * (k : Int))), (39, iv ((4 * (k : Int)) + 3)), (40, slAddr bv (((4 * k) + 3) * 1)), (41, yv (bs.getD ((4 * k) + 3) 0)), (42, wv (BitVec.ofNat 32 (bs.getD ((4 * k) + 3) 0).toNat)), (43, wv (((((BitVec.ofNat 32 (bs.getD (4 * k) 0).toNat) <<< 24) ||| ((BitVec.ofNat 32 (bs.getD ((4 * k) + 1) 0).toNat) <<< 16)) ||| ((BitVec.ofNat 32 (bs.getD ((4 * k) + 2) 0).toNat) <<< 8)) ||| (BitVec.ofNat 32 (bs.getD ((4 * k) + 3) 0).toNat))), (0, _), (2, _), (7, _), (8, _), (9, _), (3, _)] [] a := Y
  refine ab <| aQ (k := 34) 36 [35] kr kr kr ?_
  refine wlv Y ((bo (n := 64) (i := (k : Int)) rfl rfl (runUnderlying161 _) (sizeOf133 _) om om).as (v' := .pointer (some ⟨w0.hz, k, none⟩)) (by rw [show 0 + ((k : Int) : Int).toNat = k from by omega])) fun a Y => dq (f := wv) (z := ((((BitVec.ofNat 32 (bs.getD (4 * k) 0).toNat) <<< 24) ||| ((BitVec.ofNat 32 (bs.getD ((4 * k) + 1) 0).toNat) <<< 16)) ||| ((BitVec.ofNat 32 (bs.getD ((4 * k) + 2) 0).toNat) <<< 8)) ||| (BitVec.ofNat 32 (bs.getD ((4 * k) + 3) 0).toNat)) 0 Y U rfl rfl rfl (sizeOf133 _) rfl rfl (by have := (aF bs k); omega) rfl ?_
  clear Y U
  intro a w5 Y U
  refine ab <| bd kr ?_
  refine hK6 _ _ ?_
  replace Y := Y.p3 0 2 7 rfl
  refine ao <| wlv Y (aM rfl rfl ⟨om, om⟩) fun a Y => wlm Y rfl fun a Y => ab ?_
  rw [show (sch bs k).set k (((((BitVec.ofNat 32 (bs.getD (4 * k) 0).toNat) <<< 24) ||| ((BitVec.ofNat 32 (bs.getD ((4 * k) + 1) 0).toNat) <<< 16)) ||| ((BitVec.ofNat 32 (bs.getD ((4 * k) + 2) 0).toNat) <<< 8)) ||| (BitVec.ofNat 32 (bs.getD ((4 * k) + 3) 0).toNat)) = sch bs (k + 1) from by rw [sch, if_pos om, be]] at U
  refine ⟨_, ?_, k + 1, rfl, om, Y.pick [0, 2, 7], U.select [0] de⟩
  omega
 rw [hc1] at Y
 try simp only [qz] at hc1
 obtain rfl : k = 16 := by omega
 refine aL <| hK2 _ _ <| ac fun K8 hK8 => aa fun K9 hK9 => wla Y rfl fun a Y => ab (hK9 _ _ <| ap ?_)
 refine aV (fun m a w => ∃ (j : Nat), m = 64 - j ∧ (16 ≤ j) ∧ (j ≤ 64) ∧ Fr 84 [(2, pq w0.hz), (4, iv (j : Int))] [] a ∧ St No w0 [blk w0.hz ((sch bs j).map wv) 161] w) _ ⟨16, rfl, om, om, Y.pick [2, 4], U.select [0] de⟩ ?_
 rintro _ a w6 ⟨j, rfl, hj, hj2, Y, U⟩
 refine ac fun K10 hK10 => aa fun K11 hK11 => wlm Y rfl fun a Y => wlv Y (v_lt rfl rfl) fun a Y => ab (hK11 _ _ ?_)
 refine az Y rfl (fun hc2 => ?_) (fun hc2 => ?_)
 ·rw [hc2] at Y
  try simp only [qz] at hc2
  refine aq <| hK10 _ _ <| ac fun K12 hK12 => ap <| ac fun K13 hK13 => aO kr (aP kr fun w7 hxz => ?_)
  replace U := U.grow hxz
  refine aS (k := 0) 9 [7, 8] Y kr kr kr rfx ?_
  replace Y := Y.p4 2 4 46 47 rfl
  refine aA [] (fun i => match i with | _ => fun _ _ => False) 9 [[], [0], [1], [2], [], [4], [5], [6], [3]] [iv (j : Int), iv ((j : Int) - 15), .pointer (some ⟨w0.hz, (j - 15), none⟩), wv ((sch bs j).getD (j - 15) 0#32), iv (j : Int), iv ((j : Int) - 2), .pointer (some ⟨w0.hz, (j - 2), none⟩), wv ((sch bs j).getD (j - 2) 0#32), wv ((sch bs j).getD (j - 15) 0#32)] Y U kr kr kr ?_ ?_ ?_
  ·intro i hi hiq
   match i, hi, hiq with
   | 0, _, _ => exact fun w U => OpV.g (ai rfl)
   | 1, _, _ => exact fun w U => OpV.g (bq rfl rfl ⟨om, om⟩)
   | 2, _, _ => exact fun w U => OpV.g ((bo (n := 64) (i := (j : Int) - 15) rfl rfl (runUnderlying161 _) (sizeOf133 _) om om).as (v' := .pointer (some ⟨w0.hz, (j - 15), none⟩)) (by rw [show 0 + ((j : Int) - 15 : Int).toNat = (j - 15) from by omega]))
   | 3, _, _ => exact fun w U => OpV.g (bP (U.g 0 rfl) rfl (isAgg133 _) (c6 (d := 0#32) (by have := (aF bs j); omega)))
   | 4, _, _ => exact fun w U => OpV.g (ai rfl)
   | 5, _, _ => exact fun w U => OpV.g (bq rfl rfl ⟨om, om⟩)
   | 6, _, _ => exact fun w U => OpV.g ((bo (n := 64) (i := (j : Int) - 2) rfl rfl (runUnderlying161 _) (sizeOf133 _) om om).as (v' := .pointer (some ⟨w0.hz, (j - 2), none⟩)) (by rw [show 0 + ((j : Int) - 2 : Int).toNat = (j - 2) from by omega]))
   | 7, _, _ => exact fun w U => OpV.g (bP (U.g 0 rfl) rfl (isAgg133 _) (c6 (d := 0#32) (by have := (aF bs j); omega)))
   | 8, _, _ => exact fun w U => OpV.g (dG rfl)
  ·intro i hi
   exact absurd hi sm
  clear Y U
  intro  a w8 Y U
  replace Y : Fr 84 [(50, iv (j : Int)), (51, iv ((j : Int) - 15)), (52, .pointer (some ⟨w0.hz, (j - 15), none⟩)), (53, wv ((sch bs j).getD (j - 15) 0#32)), (54, iv (j : Int)), (55, iv ((j : Int) - 2)), (56, .pointer (some ⟨w0.hz, (j - 2), none⟩)), (57, wv ((sch bs j).getD (j - 2) 0#32)), (5, wv ((sch bs j).getD (j - 15) 0#32)), (2, _), (4, _), (46, _), (47, _)] [] a := Y
  refine ab <| aQ (k := 9) 10 [9] kr kr kr ?_
  refine wla Y rfl fun a Y => ab <| bd kr ?_
  refine hK13 _ _ ?_
  replace Y := Y.p4 2 4 5 6 rfl
  refine aO kr (aP kr fun w9 hxz => ?_)
  replace U := U.grow hxz
  refine aS (k := 0) 24 [0, 23] Y kr kr kr rfx ?_
  replace Y := Y.p4 2 4 5 6 rfl
  refine aA [6, 18] (fun i => match i with | 6 => pm (fun b : Nat => .slice (some ⟨b, 0, none⟩) 2 2) (fun b => [own (.slice (some ⟨b, 0, none⟩) 2 2) 3 1 [[iv 7], [iv 18]]]) (fun _ => True) | 18 => pm (fun b : Nat => .slice (some ⟨b, 0, none⟩) 2 2) (fun b => [own (.slice (some ⟨b, 0, none⟩) 2 2) 3 1 [[iv 17], [iv 19]]]) (fun _ => True) | _ => fun _ _ => False) 24 [[], [], [1], [2], [3], [], [], [5, 6], [], [8], [7, 9], [4, 10], [], [12], [13], [14], [11, 15], [], [], [17, 18], [], [20], [19, 21], [16, 22]] [iv (j : Int), iv (j : Int), iv ((j : Int) - 16), .pointer (some ⟨w0.hz, (j - 16), none⟩), wv ((sch bs j).getD (j - 16) 0#32), wv ((sch bs j).getD (j - 15) 0#32), undef, wv (mix ((sch bs j).getD (j - 15) 0#32) [7, 18]), wv ((sch bs j).getD (j - 15) 0#32), wv (((sch bs j).getD (j - 15) 0#32) >>> 3), wv ((mix ((sch bs j).getD (j - 15) 0#32) [7, 18]) ^^^ (((sch bs j).getD (j - 15) 0#32) >>> 3)), wv (((sch bs j).getD (j - 16) 0#32) + ((mix ((sch bs j).getD (j - 15) 0#32) [7, 18]) ^^^ (((sch bs j).getD (j - 15) 0#32) >>> 3))), iv (j : Int), iv ((j : Int) - 7), .pointer (some ⟨w0.hz, (j - 7), none⟩), wv ((sch bs j).getD (j - 7) 0#32), wv ((((sch bs j).getD (j - 16) 0#32) + ((mix ((sch bs j).getD (j - 15) 0#32) [7, 18]) ^^^ (((sch bs j).getD (j - 15) 0#32) >>> 3))) + ((sch bs j).getD (j - 7) 0#32)), wv ((sch bs j).getD (j - 2) 0#32), undef, wv (mix ((sch bs j).getD (j - 2) 0#32) [17, 19]), wv ((sch bs j).getD (j - 2) 0#32), wv (((sch bs j).getD (j - 2) 0#32) >>> 10), wv ((mix ((sch bs j).getD (j - 2) 0#32) [17, 19]) ^^^ (((sch bs j).getD (j - 2) 0#32) >>> 10)), wv (((((sch bs j).getD (j - 16) 0#32) + ((mix ((sch bs j).getD (j - 15) 0#32) [7, 18]) ^^^ (((sch bs j).getD (j - 15) 0#32) >>> 3))) + ((sch bs j).getD (j - 7) 0#32)) + ((mix ((sch bs j).getD (j - 2) 0#32) [17, 19]) ^^^ (((sch bs j).getD (j - 2) 0#32) >>> 10)))] Y U kr kr kr ?_ ?_ ?_
  ·intro i hi hiq
   match i, hi, hiq with
   | 0, _, _ => exact fun w U => OpV.g (ai rfl)
   | 1, _, _ => exact fun w U => OpV.g (ai rfl)
   | 2, _, _ => exact fun w U => OpV.g (bq rfl rfl ⟨om, om⟩)
   | 3, _, _ => exact fun w U => OpV.g ((bo (n := 64) (i := (j : Int) - 16) rfl rfl (runUnderlying161 _) (sizeOf133 _) om om).as (v' := .pointer (some ⟨w0.hz, (j - 16), none⟩)) (by rw [show 0 + ((j : Int) - 16 : Int).toNat = (j - 16) from by omega]))
   | 4, _, _ => exact fun w U => OpV.g (bP (U.g 0 rfl) rfl (isAgg133 _) (c6 (d := 0#32) (by have := (aF bs j); omega)))
   | 5, _, _ => exact fun w U => OpV.g (ai rfl)
   | 6, _, h => exact absurd sm h
   | 7, _, _ =>
    rintro _ _ ⟨b3, rfl, -, rfl⟩
    intro w U
    exact aT call109 rfl (eN ((sch bs j).getD (j - 15) 0#32) (.slice (some ⟨b3, 0, none⟩) 2 2) [7, 18] _ (U.ow 0 rfl) de)
   | 8, _, _ => exact fun w U => OpV.g (ai rfl)
   | 9, _, _ => exact fun w U => OpV.g (dw (n := 3) rfl rfl)
   | 10, _, _ => exact fun w U => OpV.g (cg rfl rfl)
   | 11, _, _ => exact fun w U => OpV.g (bM rfl rfl)
   | 12, _, _ => exact fun w U => OpV.g (ai rfl)
   | 13, _, _ => exact fun w U => OpV.g (bq rfl rfl ⟨om, om⟩)
   | 14, _, _ => exact fun w U => OpV.g ((bo (n := 64) (i := (j : Int) - 7) rfl rfl (runUnderlying161 _) (sizeOf133 _) om om).as (v' := .pointer (some ⟨w0.hz, (j - 7), none⟩)) (by rw [show 0 + ((j : Int) - 7 : Int).toNat = (j - 7) from by omega]))
   | 15, _, _ => exact fun w U => OpV.g (bP (U.g 0 rfl) rfl (isAgg133 _) (c6 (d := 0#32) (by have := (aF bs j); omega)))
   | 16, _, _ => exact fun w U => OpV.g (bM rfl rfl)
   | 17, _, _ => exact fun w U => OpV.g (ai rfl)
   | 18, _, h => exact absurd sm h
   | 19, _, _ =>
    rintro _ _ ⟨b4, rfl, -, rfl⟩
    intro w U
    exact aT call109 rfl (eN ((sch bs j).getD (j - 2) 0#32) (.slice (some ⟨b4, 0, none⟩) 2 2) [17, 19] _ (U.ow 0 rfl) de)
   | 20, _, _ => exact fun w U => OpV.g (ai rfl)
   | 21, _, _ => exact fun w U => OpV.g (dw (n := 10) rfl rfl)
   | 22, _, _ => exact fun w U => OpV.g (cg rfl rfl)
   | 23, _, _ => exact fun w U => OpV.g (bM rfl rfl)
   | i + 24, h, _ => exact absurd h om
  ·intro i hi
   simp only [List.mem_cons, List.not_mem_nil, or_false] at hi
   rcases hi with rfl | rfl
   ·intro w U
    exact aY (E := 3) (sz := 1) rfl [[iv 7], [iv 18]] (fun _ => by kernel_rfl) sm rfl de
   ·intro w U
    exact aY (E := 3) (sz := 1) rfl [[iv 17], [iv 19]] (fun _ => by kernel_rfl) sm rfl de
  clear Y U
  rintro _ _ ⟨b3, rfl, -, rfl⟩ _ _ ⟨b4, rfl, -, rfl⟩ a w10 Y U
  replace Y : Fr 84 [(58, iv (j : Int)), (59, iv (j : Int)), (60, iv ((j : Int) - 16)), (61, .pointer (some ⟨w0.hz, (j - 16), none⟩)), (62, wv ((sch bs j).getD (j - 16) 0#32)), (63, wv ((sch bs j).getD (j - 15) 0#32)), (64, _), (65, wv (mix ((sch bs j).getD (j - 15) 0#32) [7, 18])), (66, wv ((sch bs j).getD (j - 15) 0#32)), (67, wv (((sch bs j).getD (j - 15) 0#32) >>> 3)), (68, wv ((mix ((sch bs j).getD (j - 15) 0#32) [7, 18]) ^^^ (((sch bs j).getD (j - 15) 0#32) >>> 3))), (69, wv (((sch bs j).getD (j - 16) 0#32) + ((mix ((sch bs j).getD (j - 15) 0#32) [7, 18]) ^^^ (((sch bs j).getD (j - 15) 0#32) >>> 3)))), (70, iv (j : Int)), (71, iv ((j : Int) - 7)), (72, .pointer (some ⟨w0.hz, (j - 7), none⟩)), (73, wv ((sch bs j).getD (j - 7) 0#32)), (74, wv ((((sch bs j).getD (j - 16) 0#32) + ((mix ((sch bs j).getD (j - 15) 0#32) [7, 18]) ^^^ (((sch bs j).getD (j - 15) 0#32) >>> 3))) + ((sch bs j).getD (j - 7) 0#32))), (75, wv ((sch bs j).getD (j - 2) 0#32)), (76, _), (77, wv (mix ((sch bs j).getD (j - 2) 0#32) [17, 19])), (78, wv ((sch bs j).getD (j - 2) 0#32)), (79, wv (((sch bs j).getD (j - 2) 0#32) >>> 10)), (80, wv ((mix ((sch bs j).getD (j - 2) 0#32) [17, 19]) ^^^ (((sch bs j).getD (j - 2) 0#32) >>> 10))), (81, wv (((((sch bs j).getD (j - 16) 0#32) + ((mix ((sch bs j).getD (j - 15) 0#32) [7, 18]) ^^^ (((sch bs j).getD (j - 15) 0#32) >>> 3))) + ((sch bs j).getD (j - 7) 0#32)) + ((mix ((sch bs j).getD (j - 2) 0#32) [17, 19]) ^^^ (((sch bs j).getD (j - 2) 0#32) >>> 10)))), (2, _), (4, _), (5, _), (6, _)] [] a := Y
  replace U : St No w0 [_, _, _] w10 := U
  refine ab <| aQ (k := 24) 26 [25] kr kr kr ?_
  refine wlv Y ((bo (n := 64) (i := (j : Int)) rfl rfl (runUnderlying161 _) (sizeOf133 _) om om).as (v' := .pointer (some ⟨w0.hz, j, none⟩)) (by rw [show 0 + ((j : Int) : Int).toNat = j from by omega])) fun a Y => dq (f := wv) (z := ((((sch bs j).getD (j - 16) 0#32) + ((mix ((sch bs j).getD (j - 15) 0#32) [7, 18]) ^^^ (((sch bs j).getD (j - 15) 0#32) >>> 3))) + ((sch bs j).getD (j - 7) 0#32)) + ((mix ((sch bs j).getD (j - 2) 0#32) [17, 19]) ^^^ (((sch bs j).getD (j - 2) 0#32) >>> 10))) 2 Y U rfl rfl rfl (sizeOf133 _) rfl rfl (by have := (aF bs j); omega) rfl ?_
  clear Y U
  intro a w11 Y U
  refine ab <| bd kr ?_
  refine hK12 _ _ ?_
  replace Y := Y.p2 2 4 rfl
  replace U := U.k1 4 rfl
  refine ao <| wlm Y rfl fun a Y => wlv Y (aM rfl rfl ⟨om, om⟩) fun a Y => wla Y rfl fun a Y => ab ?_
  rw [show (sch bs j).set j (((((sch bs j).getD (j - 16) 0#32) + ((mix ((sch bs j).getD (j - 15) 0#32) [7, 18]) ^^^ (((sch bs j).getD (j - 15) 0#32) >>> 3))) + ((sch bs j).getD (j - 7) 0#32)) + ((mix ((sch bs j).getD (j - 2) 0#32) [17, 19]) ^^^ (((sch bs j).getD (j - 2) 0#32) >>> 10))) = sch bs (j + 1) from by rw [sch, if_neg om, nx]] at U
  refine ⟨_, ?_, j + 1, rfl, om, om, Y.pick [2, 4], U.select [0] de⟩
  omega
 rw [hc2] at Y
 try simp only [qz] at hc2
 obtain rfl : j = 64 := by omega
 refine aL <| hK8 _ _ <| aa fun K14 hK14 => wlv Y (aj (U.g 0 rfl) rfl (isAgg161 _) (by rw [List.length_map, (aF bs 64)]; exact sizeOf161 _)) fun a Y => fj 0 Y U rfl rfl rfl (sizeOf161 _) (aF bs 64) (aF bs 64) rfl ?_
 clear Y U
 intro a w12 Y U
 refine ab (hK14 _ _ <| au ?_)
 refine ar Y results108 (aH rfl (bj (U.g 0 rfl) (isAgg161 _) (by rw [List.length_map, (aF bs 64)]; exact sizeOf161 _)) ah) ?_
 exact ⟨by rfl, U.ext⟩
def addTo (x y : W8) : Nat → List Wd
 | 0 => x.l
 | j + 1 => (addTo x y j).set j (x.l.getD j 0#32 + y.l.getD j 0#32)
theorem g9 (x y : W8) (j : Nat) : (addTo x y j).length = 8 := by
 induction j with
 | zero => rfl
 | succ j ih => rw [addTo, List.length_set, ih]
theorem jN (x y : W8) {k : Nat} : ∀ j, j ≤ k → (addTo x y j).getD k 0#32 = x.l.getD k 0#32
 | 0, _ => rfl
 | j + 1, h => by
  rw [addTo, List.getD_eq_getElem?_getD, List.getElem?_set_ne om, ← List.getD_eq_getElem?_getD]
  exact jN x y j om
theorem lP {x y : W8} {j : Nat} (h : j < 8) : (addTo x y j).getD j 0#32 = x.l.getD j 0#32 := jN x y j (Nat.le_refl _)
theorem l8 (x y : W8) : addTo x y 8 = (x.add y).l := rfl
theorem oY (b : Nat) (hv : W8) (bv : Value) (bs : List UInt8) (w0 : World) (hb : (blk b [wv hv.a, wv hv.b, wv hv.c, wv hv.d, wv hv.e, wv hv.f, wv hv.g, wv hv.h] 146).ok w0) (hk0 : (blk 0 (kOf.map wv) 161).ok w0) (hb0 : ¬ (0 = b)) (hbv : SlAt w0 bv 1 (bs.map fun b => [yv b])) (hbl : bs.length = 64) (hnb : ∀ k, slBlk bv = some k → ¬ (k = b)) :
  Ret Tryd.prog 95 #[pq b, bv] w0 fun v w => v = .tuple #[] ∧ Ext (· = b) w0 w ∧ (blk b ((block hv bs).l.map wv) 146).ok w := by
 refine aI func95 rfl ntmps95 (lb rfl) fun a Y => ?_
 replace Y := Y.p2 0 1 rfl
 replace U : St (· = b) w0 [blk b [wv hv.a, wv hv.b, wv hv.c, wv hv.d, wv hv.e, wv hv.f, wv hv.g, wv hv.h] 146] w0 := St.one hb
 refine aa fun K1 hK1 => wlm Y rfl fun a Y => am Y U de call108 rfl (jQ bv bs _ (hbv.ext U.ext hnb) hbl) ?_
 clear Y U
 intro a w1 Y U
 refine aC Y U de (zeroValue161 _) (cs := (List.replicate 64 0#32).map wv) kr ?_
 clear Y U
 intro a w2 Y U
 refine fj 0 Y U rfl rfl rfl (sizeOf161 _) (aF bs 64) (List.length_replicate : (List.replicate 64 0#32).length = 64) rfl ?_
 clear Y U
 intro a w3 Y U
 refine ab (hK1 _ _ <| aa fun K2 hK2 => ?_)
 refine wlm Y rfl fun a Y => wlv Y (bp rfl) fun a Y => wlv Y (aj (U.g 1 rfl) rfl (isAgg146 _) (sizeOf146 _)) fun a Y => aC Y U de (zeroValue146 _) (cs := [wv (0#32), wv (0#32), wv (0#32), wv (0#32), wv (0#32), wv (0#32), wv (0#32), wv (0#32)]) rfl ?_
 clear Y U
 intro a w4 Y U
 refine ay 0 Y U rfl rfl rfl (sizeOf146 _) rfl (lb rfl) (ds := [wv hv.a, wv hv.b, wv hv.c, wv hv.d, wv hv.e, wv hv.f, wv hv.g, wv hv.h]) rfl rfl ?_
 clear Y U
 intro a w5 Y U
 refine ab (hK2 _ _ ?_)
 replace Y := Y.p3 0 4 5 rfl
 refine ac fun K3 hK3 => aa fun K4 hK4 => wlv Y (aj (U.keepM hk0 hb0) rfl (isAgg161 _) (by rw [List.length_map, bl]; exact sizeOf161 _)) fun a Y => wlm Y rfl fun a Y => ab (hK4 _ _ <| ap ?_)
 refine aV (fun m a w => ∃ (k : Nat) (v : W8), m = 64 - k ∧ (k ≤ 64) ∧ (rounds (sch bs 64) hv k = v) ∧ Fr 97 [(0, pq b), (4, pq w1.hz), (5, pq w3.hz), (18, .agg (kOf.map wv).toArray), (19, iv (k : Int))] [] a ∧ St (· = b) w0 [blk w3.hz [wv v.a, wv v.b, wv v.c, wv v.d, wv v.e, wv v.f, wv v.g, wv v.h] 146, blk w1.hz ((sch bs 64).map wv) 161, blk b [wv hv.a, wv hv.b, wv hv.c, wv hv.d, wv hv.e, wv hv.f, wv hv.g, wv hv.h] 146] w) _ ⟨0, hv, rfl, Nat.zero_le _, rfl, Y.pick [0, 4, 5, 18, 19], U.select [0, 1, 2] de⟩ ?_
 rintro _ a w6 ⟨k, v, rfl, hk, hrv, Y, U⟩
 refine aa fun K5 hK5 => wlv Y (v_lt rfl rfl) fun a Y => ab (hK5 _ _ <| ac fun K6 hK6 => ?_)
 refine az Y rfl (fun hc1 => ?_) (fun hc1 => ?_)
 ·rw [hc1] at Y
  try simp only [qz] at hc1
  refine aq <| hK6 _ _ <| ac fun K7 hK7 => ap <| aa fun K8 hK8 => wlm Y rfl fun a Y => wlv Y (fx (cs := kOf.map wv) (i := (k : Int)) rfl rfl (runUnderlying161 _) (sizeOf133 _) (isAgg133 _) om om (by rw [show ((k : Int) : Int).toNat = k from by omega]; exact c6 (d := 0#32) (by have := bl; omega))) fun a Y => wla Y rfl fun a Y => wla Y rfl fun a Y => ab (hK8 _ _ <| ac fun K9 hK9 => ?_)
  refine aO kr (aP kr fun w7 hxz => ?_)
  replace U : St (· = b) w0 [blk w3.hz [wv v.a, wv v.b, wv v.c, wv v.d, wv v.e, wv v.f, wv v.g, wv v.h] 146, blk w1.hz ((sch bs 64).map wv) 161, blk b [wv hv.a, wv hv.b, wv hv.c, wv hv.d, wv hv.e, wv hv.f, wv hv.g, wv hv.h] 146] w7 := U.grow hxz
  refine aS (k := 0) 5 [3, 4] Y kr kr kr rfx ?_
  replace Y := Y.p10 0 4 5 18 19 20 21 22 6 7 rfl
  refine aA [] (fun i => match i with | _ => fun _ _ => False) 5 [[], [0], [], [2], [1]] [pq w3.hz, wv v.a, po w3.hz 4, wv v.e, wv v.a] Y U kr kr kr ?_ ?_ ?_
  ·intro i hi hiq
   match i, hi, hiq with
   | 0, _, _ => exact fun w U => OpV.g (aN (v := pq w3.hz) rfl rfl kr)
   | 1, _, _ => exact fun w U => OpV.g (ld U 0 rfl rfl (isAgg133 _) rfl)
   | 2, _, _ => exact fun w U => OpV.g (aN (v := po w3.hz 4) rfl rfl kr)
   | 3, _, _ => exact fun w U => OpV.g (ld U 0 rfl rfl (isAgg133 _) rfl)
   | 4, _, _ => exact fun w U => OpV.g (dG rfl)
  ·intro i hi
   exact absurd hi sm
  clear Y U
  intro  a w8 Y U
  replace Y : Fr 97 [(23, pq w3.hz), (24, wv v.a), (25, po w3.hz 4), (26, wv v.e), (8, wv v.a), (0, _), (4, _), (5, _), (18, _), (19, _), (20, _), (21, _), (22, _), (6, _), (7, _)] [] a := Y
  refine ab <| aQ (k := 5) 6 [5] kr kr kr ?_
  refine wla Y rfl fun a Y => ab <| bd kr ?_
  refine hK9 _ _ ?_
  replace Y := Y.p9 0 4 5 18 19 6 7 8 9 rfl
  refine ac fun K10 hK10 => aO kr (aP kr fun w9 hxz => ?_)
  replace U : St (· = b) w0 [blk w3.hz [wv v.a, wv v.b, wv v.c, wv v.d, wv v.e, wv v.f, wv v.g, wv v.h] 146, blk w1.hz ((sch bs 64).map wv) 161, blk b [wv hv.a, wv hv.b, wv hv.c, wv hv.d, wv hv.e, wv hv.f, wv hv.g, wv hv.h] 146] w9 := U.grow hxz
  refine aS (k := 0) 22 [18, 21] Y kr kr kr rfx ?_
  replace Y := Y.p9 0 4 5 18 19 6 7 8 9 rfl
  refine aA [3] (fun i => match i with | 3 => pm (fun b : Nat => .slice (some ⟨b, 0, none⟩) 3 3) (fun b => [own (.slice (some ⟨b, 0, none⟩) 3 3) 3 1 [[iv 6], [iv 11], [iv 25]]]) (fun _ => True) | _ => fun _ _ => False) 22 [[], [0], [], [], [2, 3], [1, 4], [], [], [7], [6, 8], [], [10], [], [12], [11, 13], [9, 14], [5, 15], [], [16, 17], [], [19], [20]] [po w3.hz 7, wv v.h, wv v.e, undef, wv (mix v.e [6, 11, 25]), wv (v.h + (mix v.e [6, 11, 25])), wv v.e, po w3.hz 5, wv v.f, wv (v.e &&& v.f), wv v.e, wv (~~~v.e), po w3.hz 6, wv v.g, wv ((~~~v.e) &&& v.g), wv ((v.e &&& v.f) ^^^ ((~~~v.e) &&& v.g)), wv ((v.h + (mix v.e [6, 11, 25])) + ((v.e &&& v.f) ^^^ ((~~~v.e) &&& v.g))), wv (kOf.getD k 0#32), wv (((v.h + (mix v.e [6, 11, 25])) + ((v.e &&& v.f) ^^^ ((~~~v.e) &&& v.g))) + (kOf.getD k 0#32)), iv (k : Int), .pointer (some ⟨w1.hz, k, none⟩), wv ((sch bs 64).getD k 0#32)] Y U kr kr kr ?_ ?_ ?_
  ·intro i hi hiq
   match i, hi, hiq with
   | 0, _, _ => exact fun w U => OpV.g (aN (v := po w3.hz 7) rfl rfl kr)
   | 1, _, _ => exact fun w U => OpV.g (ld U 0 rfl rfl (isAgg133 _) rfl)
   | 2, _, _ => exact fun w U => OpV.g (ai rfl)
   | 3, _, h => exact absurd sm h
   | 4, _, _ =>
    rintro _ _ ⟨b2, rfl, -, rfl⟩
    intro w U
    exact aT call109 rfl (eN v.e (.slice (some ⟨b2, 0, none⟩) 3 3) [6, 11, 25] _ (U.ow 0 rfl) de)
   | 5, _, _ => exact fun w U => OpV.g (bM rfl rfl)
   | 6, _, _ => exact fun w U => OpV.g (ai rfl)
   | 7, _, _ => exact fun w U => OpV.g (aN (v := po w3.hz 5) rfl rfl kr)
   | 8, _, _ => exact fun w U => OpV.g (ld U 0 rfl rfl (isAgg133 _) rfl)
   | 9, _, _ => exact fun w U => OpV.g (dy rfl rfl)
   | 10, _, _ => exact fun w U => OpV.g (ai rfl)
   | 11, _, _ => exact fun w U => OpV.g (ms rfl)
   | 12, _, _ => exact fun w U => OpV.g (aN (v := po w3.hz 6) rfl rfl kr)
   | 13, _, _ => exact fun w U => OpV.g (ld U 0 rfl rfl (isAgg133 _) rfl)
   | 14, _, _ => exact fun w U => OpV.g (dy rfl rfl)
   | 15, _, _ => exact fun w U => OpV.g (cg rfl rfl)
   | 16, _, _ => exact fun w U => OpV.g (bM rfl rfl)
   | 17, _, _ => exact fun w U => OpV.g (ai rfl)
   | 18, _, _ => exact fun w U => OpV.g (bM rfl rfl)
   | 19, _, _ => exact fun w U => OpV.g (ai rfl)
   | 20, _, _ => exact fun w U => OpV.g ((bo (n := 64) (i := (k : Int)) rfl rfl (runUnderlying161 _) (sizeOf133 _) om om).as (v' := .pointer (some ⟨w1.hz, k, none⟩)) (by rw [show 0 + ((k : Int) : Int).toNat = k from by omega]))
   | 21, _, _ => exact fun w U => OpV.g (bP (U.g 1 rfl) rfl (isAgg133 _) (c6 (d := 0#32) (by have := (aF bs 64); omega)))
   | i + 22, h, _ => exact absurd h om
  ·intro i hi
   simp only [List.mem_cons, List.not_mem_nil, or_false] at hi
   subst hi
   ·intro w U
    exact aY (E := 3) (sz := 1) rfl [[iv 6], [iv 11], [iv 25]] (fun _ => by kernel_rfl) sm rfl de
  clear Y U
  rintro _ _ ⟨b2, rfl, -, rfl⟩ a w10 Y U
  replace Y : Fr 97 [(27, po w3.hz 7), (28, wv v.h), (29, wv v.e), (30, _), (31, wv (mix v.e [6, 11, 25])), (32, wv (v.h + (mix v.e [6, 11, 25]))), (33, wv v.e), (34, po w3.hz 5), (35, wv v.f), (36, wv (v.e &&& v.f)), (37, wv v.e), (38, wv (~~~v.e)), (39, po w3.hz 6), (40, wv v.g), (41, wv ((~~~v.e) &&& v.g)), (42, wv ((v.e &&& v.f) ^^^ ((~~~v.e) &&& v.g))), (43, wv ((v.h + (mix v.e [6, 11, 25])) + ((v.e &&& v.f) ^^^ ((~~~v.e) &&& v.g)))), (44, wv (kOf.getD k 0#32)), (45, wv (((v.h + (mix v.e [6, 11, 25])) + ((v.e &&& v.f) ^^^ ((~~~v.e) &&& v.g))) + (kOf.getD k 0#32))), (46, iv (k : Int)), (47, .pointer (some ⟨w1.hz, k, none⟩)), (48, wv ((sch bs 64).getD k 0#32)), (0, _), (4, _), (5, _), (18, _), (19, _), (6, _), (7, _), (8, _), (9, _)] [] a := Y
  replace U : St (· = b) w0 [_, _, _, _] w10 := U
  refine ab <| aQ (k := 22) 24 [23] kr kr kr ?_
  refine wlv Y (bM rfl rfl) fun a Y => wla Y rfl fun a Y => ab <| bd kr ?_
  refine hK10 _ _ ?_
  replace Y := Y.p7 0 4 5 18 19 8 10 rfl
  replace U := U.k3 14 rfl
  refine ac fun K11 hK11 => aO kr (aP kr fun w11 hxz => ?_)
  replace U : St (· = b) w0 [blk w3.hz [wv v.a, wv v.b, wv v.c, wv v.d, wv v.e, wv v.f, wv v.g, wv v.h] 146, blk w1.hz ((sch bs 64).map wv) 161, blk b [wv hv.a, wv hv.b, wv hv.c, wv hv.d, wv hv.e, wv hv.f, wv hv.g, wv hv.h] 146] w11 := U.grow hxz
  refine aS (k := 0) 18 [2, 17] Y kr kr kr rfx ?_
  replace Y := Y.p7 0 4 5 18 19 8 10 rfl
  refine aA [1] (fun i => match i with | 1 => pm (fun b : Nat => .slice (some ⟨b, 0, none⟩) 3 3) (fun b => [own (.slice (some ⟨b, 0, none⟩) 3 3) 3 1 [[iv 2], [iv 13], [iv 22]]]) (fun _ => True) | _ => fun _ _ => False) 18 [[], [], [0, 1], [], [], [4], [3, 5], [], [], [8], [7, 9], [6, 10], [], [12], [], [14], [13, 15], [11, 16]] [wv v.a, undef, wv (mix v.a [2, 13, 22]), wv v.a, po w3.hz 1, wv v.b, wv (v.a &&& v.b), wv v.a, po w3.hz 2, wv v.c, wv (v.a &&& v.c), wv ((v.a &&& v.b) ^^^ (v.a &&& v.c)), po w3.hz 1, wv v.b, po w3.hz 2, wv v.c, wv (v.b &&& v.c), wv (((v.a &&& v.b) ^^^ (v.a &&& v.c)) ^^^ (v.b &&& v.c))] Y U kr kr kr ?_ ?_ ?_
  ·intro i hi hiq
   match i, hi, hiq with
   | 0, _, _ => exact fun w U => OpV.g (ai rfl)
   | 1, _, h => exact absurd sm h
   | 2, _, _ =>
    rintro _ _ ⟨b3, rfl, -, rfl⟩
    intro w U
    exact aT call109 rfl (eN v.a (.slice (some ⟨b3, 0, none⟩) 3 3) [2, 13, 22] _ (U.ow 0 rfl) de)
   | 3, _, _ => exact fun w U => OpV.g (ai rfl)
   | 4, _, _ => exact fun w U => OpV.g (aN (v := po w3.hz 1) rfl rfl kr)
   | 5, _, _ => exact fun w U => OpV.g (ld U 0 rfl rfl (isAgg133 _) rfl)
   | 6, _, _ => exact fun w U => OpV.g (dy rfl rfl)
   | 7, _, _ => exact fun w U => OpV.g (ai rfl)
   | 8, _, _ => exact fun w U => OpV.g (aN (v := po w3.hz 2) rfl rfl kr)
   | 9, _, _ => exact fun w U => OpV.g (ld U 0 rfl rfl (isAgg133 _) rfl)
   | 10, _, _ => exact fun w U => OpV.g (dy rfl rfl)
   | 11, _, _ => exact fun w U => OpV.g (cg rfl rfl)
   | 12, _, _ => exact fun w U => OpV.g (aN (v := po w3.hz 1) rfl rfl kr)
   | 13, _, _ => exact fun w U => OpV.g (ld U 0 rfl rfl (isAgg133 _) rfl)
   | 14, _, _ => exact fun w U => OpV.g (aN (v := po w3.hz 2) rfl rfl kr)
   | 15, _, _ => exact fun w U => OpV.g (ld U 0 rfl rfl (isAgg133 _) rfl)
   | 16, _, _ => exact fun w U => OpV.g (dy rfl rfl)
   | 17, _, _ => exact fun w U => OpV.g (cg rfl rfl)
   | i + 18, h, _ => exact absurd h om
  ·intro i hi
   simp only [List.mem_cons, List.not_mem_nil, or_false] at hi
   subst hi
   ·intro w U
    exact aY (E := 3) (sz := 1) rfl [[iv 2], [iv 13], [iv 22]] (fun _ => by kernel_rfl) sm rfl de
  clear Y U
  rintro _ _ ⟨b3, rfl, -, rfl⟩ a w12 Y U
  replace Y : Fr 97 [(50, wv v.a), (51, _), (52, wv (mix v.a [2, 13, 22])), (53, wv v.a), (54, po w3.hz 1), (55, wv v.b), (56, wv (v.a &&& v.b)), (57, wv v.a), (58, po w3.hz 2), (59, wv v.c), (60, wv (v.a &&& v.c)), (61, wv ((v.a &&& v.b) ^^^ (v.a &&& v.c))), (62, po w3.hz 1), (63, wv v.b), (64, po w3.hz 2), (65, wv v.c), (66, wv (v.b &&& v.c)), (67, wv (((v.a &&& v.b) ^^^ (v.a &&& v.c)) ^^^ (v.b &&& v.c))), (0, _), (4, _), (5, _), (18, _), (19, _), (8, _), (10, _)] [] a := Y
  replace U : St (· = b) w0 [_, _, _, _] w12 := U
  refine ab <| aQ (k := 18) 20 [19] kr kr kr ?_
  refine wlv Y (bM rfl rfl) fun a Y => wla Y rfl fun a Y => ab <| bd kr ?_
  refine hK11 _ _ ?_
  replace Y := Y.p7 0 4 5 18 19 10 11 rfl
  replace U := U.k3 14 rfl
  refine ac fun K12 hK12 => aO kr (aP kr fun w13 hxz => ?_)
  replace U : St (· = b) w0 [blk w3.hz [wv v.a, wv v.b, wv v.c, wv v.d, wv v.e, wv v.f, wv v.g, wv v.h] 146, blk w1.hz ((sch bs 64).map wv) 161, blk b [wv hv.a, wv hv.b, wv hv.c, wv hv.d, wv hv.e, wv hv.f, wv hv.g, wv hv.h] 146] w13 := U.grow hxz
  refine aS (k := 0) 2 [0, 1] Y kr kr kr rfx ?_
  replace Y := Y.p7 0 4 5 18 19 10 11 rfl
  refine aA [] (fun i => match i with | _ => fun _ _ => False) 2 [[], []] [.slice (some ⟨w3.hz, 1, none⟩) 7 7, .slice (some ⟨w3.hz, 0, none⟩) 7 8] Y U kr kr kr ?_ ?_ ?_
  ·intro i hi hiq
   match i, hi, hiq with
   | 0, _, _ => exact fun w U => OpV.g (ep rfl rfl rfl rfl (cY (n := 8) (l := 1) (h := 8) underlying146 kr (.inr rfl) (.inl ⟨rfl, rfl⟩) de de de))
   | 1, _, _ => exact fun w U => OpV.g (ep rfl rfl rfl rfl (cY (n := 8) (l := 0) (h := 7) underlying146 kr (.inl ⟨rfl, rfl⟩) (.inr rfl) de de de))
  ·intro i hi
   exact absurd hi sm
  clear Y U
  intro  a w14 Y U
  replace Y : Fr 97 [(69, .slice (some ⟨w3.hz, 1, none⟩) 7 7), (70, .slice (some ⟨w3.hz, 0, none⟩) 7 8), (0, _), (4, _), (5, _), (18, _), (19, _), (10, _), (11, _)] [] a := Y
  refine ab <| aQ (k := 2) 3 [2] kr kr kr ?_
  refine kq (us := [wv v.a, wv v.b, wv v.c, wv v.d, wv v.e, wv v.f, wv v.g]) (ds := [wv v.a, wv v.a, wv v.b, wv v.c, wv v.d, wv v.e, wv v.f, wv v.g]) 0 Y U de rfl rfl rfl underlying134 kr rfl rfl rfl (lb rfl) rfl rfl ?_
  clear Y U
  intro a w15 Y U
  refine ab <| bd kr ?_
  refine hK12 _ _ <| ao <| wlm Y rfl fun a Y => wlm Y rfl fun a Y => wlv Y (bM rfl rfl) fun a Y => wlv Y (aN (v := po w3.hz 4) rfl rfl kr) fun a Y => wlv Y (ld U 0 rfl rfl (isAgg133 _) rfl) fun a Y => wlm Y rfl fun a Y => wlv Y (bM rfl rfl) fun a Y => wlv Y (aN (v := pq w3.hz) rfl rfl kr) fun a Y => ay 0 Y U rfl rfl rfl (sizeOf133 _) rfl (lb rfl) (ds := [wv (((((v.h + (mix v.e [6, 11, 25])) + ((v.e &&& v.f) ^^^ ((~~~v.e) &&& v.g))) + (kOf.getD k 0#32)) + ((sch bs 64).getD k 0#32)) + ((mix v.a [2, 13, 22]) + (((v.a &&& v.b) ^^^ (v.a &&& v.c)) ^^^ (v.b &&& v.c)))), wv v.a, wv v.b, wv v.c, wv v.d, wv v.e, wv v.f, wv v.g]) rfl rfl ?_
  clear Y U
  intro a w16 Y U
  refine wlv Y (aN (v := po w3.hz 4) rfl rfl kr) fun a Y => ay 0 Y U rfl rfl rfl (sizeOf133 _) rfl (lb rfl) (ds := [wv (((((v.h + (mix v.e [6, 11, 25])) + ((v.e &&& v.f) ^^^ ((~~~v.e) &&& v.g))) + (kOf.getD k 0#32)) + ((sch bs 64).getD k 0#32)) + ((mix v.a [2, 13, 22]) + (((v.a &&& v.b) ^^^ (v.a &&& v.c)) ^^^ (v.b &&& v.c)))), wv v.a, wv v.b, wv v.c, wv (v.d + ((((v.h + (mix v.e [6, 11, 25])) + ((v.e &&& v.f) ^^^ ((~~~v.e) &&& v.g))) + (kOf.getD k 0#32)) + ((sch bs 64).getD k 0#32))), wv v.e, wv v.f, wv v.g]) rfl rfl ?_
  clear Y U
  intro a w17 Y U
  refine ab <| hK7 _ _ ?_
  replace Y := Y.p5 0 4 5 18 19 rfl
  refine ao <| wlv Y (aM rfl rfl ⟨om, om⟩) fun a Y => wlm Y rfl fun a Y => ab ?_
  refine ⟨_, ?_, k + 1, (rnd v (kOf.getD k 0#32) ((sch bs 64).getD k 0#32)), rfl, om, (by rw [rounds, hrv]), Y.pick [0, 4, 5, 18, 19], U.select [0, 1, 2] de⟩
  omega
 rw [hc1] at Y
 try simp only [qz] at hc1
 obtain rfl : k = 64 := by omega
 refine aL <| hK3 _ _ <| aa fun K13 hK13 => wlm Y rfl fun a Y => ab (hK13 _ _ <| ap ?_)
 refine aV (fun m a w => ∃ (j : Nat), m = 8 - j ∧ (j ≤ 8) ∧ Fr 97 [(0, pq b), (5, pq w3.hz), (82, iv (j : Int))] [] a ∧ St (· = b) w0 [blk w3.hz (v.l.map wv) 146, blk b ((addTo hv v j).map wv) 146] w) _ ⟨0, rfl, Nat.zero_le _, Y.pick [0, 5, 82], U.select [0, 2] de⟩ ?_
 rintro _ a w18 ⟨j, rfl, hj, Y, U⟩
 refine aa fun K14 hK14 => wlv Y (v_lt rfl rfl) fun a Y => ab (hK14 _ _ <| ac fun K15 hK15 => ?_)
 refine az Y rfl (fun hc4 => ?_) (fun hc4 => ?_)
 ·rw [hc4] at Y
  try simp only [qz] at hc4
  refine aq <| hK15 _ _ <| ac fun K16 hK16 => ap <| aa fun K17 hK17 => wlm Y rfl fun a Y => wla Y rfl fun a Y => ab (hK17 _ _ <| aO kr (aP kr fun w19 hxz => ?_))
  replace U : St (· = b) w0 [blk w3.hz (v.l.map wv) 146, blk b ((addTo hv v j).map wv) 146] w19 := U.grow hxz
  refine aS (k := 0) 10 [8, 9] Y kr kr kr rfx ?_
  replace Y := Y.p6 0 5 82 83 84 12 rfl
  refine aA [] (fun i => match i with | _ => fun _ _ => False) 10 [[], [], [0], [1, 2], [3], [], [5], [6], [4, 7], [0]] [pq b, iv (j : Int), pq b, .pointer (some ⟨b, j, none⟩), wv ((addTo hv v j).getD j 0#32), iv (j : Int), .pointer (some ⟨w3.hz, j, none⟩), wv (v.l.getD j 0#32), wv (((addTo hv v j).getD j 0#32) + (v.l.getD j 0#32)), pq b] Y U kr kr kr ?_ ?_ ?_
  ·intro i hi hiq
   match i, hi, hiq with
   | 0, _, _ => exact fun w U => OpV.g (ai rfl)
   | 1, _, _ => exact fun w U => OpV.g (ai rfl)
   | 2, _, _ => exact fun w U => OpV.g (bp rfl)
   | 3, _, _ => exact fun w U => OpV.g ((bo (n := 8) (i := (j : Int)) rfl rfl (runUnderlying146 _) (sizeOf133 _) om om).as (v' := .pointer (some ⟨b, j, none⟩)) (by rw [show 0 + ((j : Int) : Int).toNat = j from by omega]))
   | 4, _, _ => exact fun w U => OpV.g (bP (U.g 1 rfl) rfl (isAgg133 _) (c6 (d := 0#32) (by have := (g9 hv v j); omega)))
   | 5, _, _ => exact fun w U => OpV.g (ai rfl)
   | 6, _, _ => exact fun w U => OpV.g ((bo (n := 8) (i := (j : Int)) rfl rfl (runUnderlying146 _) (sizeOf133 _) om om).as (v' := .pointer (some ⟨w3.hz, j, none⟩)) (by rw [show 0 + ((j : Int) : Int).toNat = j from by omega]))
   | 7, _, _ => exact fun w U => OpV.g (bP (U.g 0 rfl) rfl (isAgg133 _) (c6 (d := 0#32) (by have := (W8.l_len v); omega)))
   | 8, _, _ => exact fun w U => OpV.g (bM rfl rfl)
   | 9, _, _ => exact fun w U => OpV.g (bp rfl)
  ·intro i hi
   exact absurd hi sm
  clear Y U
  intro  a w20 Y U
  replace Y : Fr 97 [(85, pq b), (86, iv (j : Int)), (87, pq b), (88, .pointer (some ⟨b, j, none⟩)), (89, wv ((addTo hv v j).getD j 0#32)), (90, iv (j : Int)), (91, .pointer (some ⟨w3.hz, j, none⟩)), (92, wv (v.l.getD j 0#32)), (93, wv (((addTo hv v j).getD j 0#32) + (v.l.getD j 0#32))), (94, pq b), (0, _), (5, _), (82, _), (83, _), (84, _), (12, _)] [] a := Y
  refine ab <| aQ (k := 10) 12 [11] kr kr kr ?_
  refine wlv Y ((bo (n := 8) (i := (j : Int)) rfl rfl (runUnderlying146 _) (sizeOf133 _) om om).as (v' := .pointer (some ⟨b, j, none⟩)) (by rw [show 0 + ((j : Int) : Int).toNat = j from by omega])) fun a Y => dq (f := wv) (z := ((addTo hv v j).getD j 0#32) + (v.l.getD j 0#32)) 1 Y U rfl rfl rfl (sizeOf133 _) rfl rfl (by have := (g9 hv v j); omega) rfl ?_
  clear Y U
  intro a w21 Y U
  refine ab <| bd kr ?_
  refine hK16 _ _ ?_
  replace Y := Y.p3 0 5 82 rfl
  refine ao <| wlv Y (aM rfl rfl ⟨om, om⟩) fun a Y => wlm Y rfl fun a Y => ab ?_
  rw [show (addTo hv v j).set j (((addTo hv v j).getD j 0#32) + (v.l.getD j 0#32)) = addTo hv v (j + 1) from by rw [addTo, lP om]] at U
  refine ⟨_, ?_, j + 1, rfl, om, Y.pick [0, 5, 82], U.select [0, 1] de⟩
  omega
 rw [hc4] at Y
 try simp only [qz] at hc4
 refine aL ?_
 refine dv Y results95 ah ?_
 obtain rfl : j = 8 := by omega
 exact ⟨rfl, U.ext, by rw [block, hrv, ← l8]; exact U.g 1 rfl⟩
def byteAt (v : W8) (n : Nat) : UInt8 := UInt8.ofNat (v.l.getD (n / 4) 0#32 >>> (24 - 8 * (n % 4))).toNat
def oArr (v : W8) : Nat → List UInt8
 | 0 => List.replicate 32 0
 | n + 1 => (oArr v n).set n (byteAt v n)
theorem ju (v : W8) (n : Nat) : (oArr v n).length = 32 := by
 induction n with
 | zero => exact List.length_replicate
 | succ n ih => rw [oArr, List.length_set, ih]
theorem mD {v : W8} {k j : Nat} (hj : j < 4) : (oArr v (4 * k + j)).set (4 * k + j) (UInt8.ofNat (v.l.getD k 0#32 >>> (24 - 8 * j)).toNat) = oArr v (4 * k + (j + 1)) := by
 show _ = (oArr v (4 * k + j)).set (4 * k + j) (byteAt v (4 * k + j))
 rw [byteAt, show (4 * k + j) / 4 = k from by omega, show (4 * k + j) % 4 = j from by omega]
theorem np (v : W8) : oArr v 32 = v.out := by kernel_rfl
theorem ma (hw : W8) (w0 : World) :
  Ret Tryd.prog 96 #[.agg #[wv hw.a, wv hw.b, wv hw.c, wv hw.d, wv hw.e, wv hw.f, wv hw.g, wv hw.h]] w0 fun v w => v = sv hw.out ∧ Ext No w0 w := by
 refine aI func96 rfl ntmps96 (lb rfl) fun a Y => ?_
 replace Y := Y.p1 0 rfl
 replace U : St No w0 [] w0 := St.init w0
 refine aa fun K1 hK1 => bh Y U de rfl (cs := [wv hw.a, wv hw.b, wv hw.c, wv hw.d, wv hw.e, wv hw.f, wv hw.g, wv hw.h]) rfl ?_
 clear Y U
 intro a w1 Y U
 refine wla Y rfl fun a Y => ab (hK1 _ _ <| aa fun K2 hK2 => ?_)
 refine aC Y U de (zeroValue164 _) (cs := (List.replicate 32 (0 : UInt8)).map yv) kr ?_
 clear Y U
 intro a w2 Y U
 refine ab (hK2 _ _ <| ac fun K3 hK3 => ?_)
 refine aa fun K4 hK4 => wlv Y (aj (U.g 1 rfl) rfl (isAgg146 _) (sizeOf146 _)) fun a Y => wlm Y rfl fun a Y => ab (hK4 _ _ <| ap ?_)
 refine aV (fun m a w => ∃ (k : Nat), m = 8 - k ∧ (k ≤ 8) ∧ Fr 30 [(2, .string (⟨#[]⟩)), (3, pq w1.hz), (7, .agg #[wv hw.a, wv hw.b, wv hw.c, wv hw.d, wv hw.e, wv hw.f, wv hw.g, wv hw.h]), (8, iv (k : Int))] [] a ∧ St No w0 [blk w1.hz ((oArr hw (4 * k)).map yv) 164] w) _ ⟨0, rfl, Nat.zero_le _, Y.pick [2, 3, 7, 8], U.select [0] de⟩ ?_
 rintro _ a w3 ⟨k, rfl, hk, Y, U⟩
 refine aa fun K5 hK5 => wlv Y (v_lt rfl rfl) fun a Y => ab (hK5 _ _ <| ac fun K6 hK6 => ?_)
 refine az Y rfl (fun hc1 => ?_) (fun hc1 => ?_)
 ·rw [hc1] at Y
  try simp only [qz] at hc1
  refine aq <| hK6 _ _ <| ac fun K7 hK7 => ap <| aa fun K8 hK8 => wlm Y rfl fun a Y => wlv Y (fx (cs := hw.l.map wv) (i := (k : Int)) rfl rfl (runUnderlying146 _) (sizeOf133 _) (isAgg133 _) om om (by rw [show ((k : Int) : Int).toNat = k from by omega]; exact c6 (d := 0#32) (by have := (W8.l_len hw); omega))) fun a Y => wla Y rfl fun a Y => wla Y rfl fun a Y => ab (hK8 _ _ <| aa fun K9 hK9 => ?_)
  refine wlm Y rfl fun a Y => ab (hK9 _ _ <| ap ?_)
  refine aV (fun m a w => ∃ (j : Nat), m = 4 - j ∧ (j ≤ 4) ∧ Fr 30 [(2, .string (⟨#[]⟩)), (3, pq w1.hz), (7, .agg #[wv hw.a, wv hw.b, wv hw.c, wv hw.d, wv hw.e, wv hw.f, wv hw.g, wv hw.h]), (8, iv (k : Int)), (4, iv (k : Int)), (5, wv (hw.l.getD k 0#32)), (12, iv (j : Int))] [] a ∧ St No w0 [blk w1.hz ((oArr hw (4 * k + j)).map yv) 164] w) _ ⟨0, rfl, Nat.zero_le _, Y.pick [2, 3, 7, 8, 4, 5, 12], U.select [0] de⟩ ?_
  rintro _ a w4 ⟨j, rfl, hj, Y, U⟩
  refine aa fun K10 hK10 => wlv Y (v_lt rfl rfl) fun a Y => ab (hK10 _ _ <| ac fun K11 hK11 => ?_)
  refine az Y rfl (fun hc2 => ?_) (fun hc2 => ?_)
  ·rw [hc2] at Y
   try simp only [qz] at hc2
   refine aq <| hK11 _ _ <| ac fun K12 hK12 => ap <| aa fun K13 hK13 => wlm Y rfl fun a Y => wla Y rfl fun a Y => ab (hK13 _ _ <| ao ?_)
   refine wlm Y rfl fun a Y => wlv Y (cW rfl rfl ⟨om, om⟩) fun a Y => wlm Y rfl fun a Y => wlv Y (aM rfl rfl ⟨om, om⟩) fun a Y => wlm Y rfl fun a Y => wlm Y rfl fun a Y => wlv Y (cW rfl rfl ⟨om, om⟩) fun a Y => wlv Y ((bq rfl rfl ⟨om, om⟩).asi (m' := ((24 - 8 * j : Nat) : Int)) om) fun a Y => wlv Y (dw (n := (24 - 8 * j)) rfl rfl) fun a Y => wlv Y (dH rfl kr underlying5) fun a Y => wlv Y ((bo (n := 32) (i := (4 * (k : Int)) + (j : Int)) rfl rfl (runUnderlying164 _) (sizeOf5 _) om om).as (v' := .pointer (some ⟨w1.hz, ((4 * k) + j), none⟩)) (by rw [show 0 + ((4 * (k : Int)) + (j : Int) : Int).toNat = ((4 * k) + j) from by omega])) fun a Y => dq (f := yv) (z := UInt8.ofNat ((hw.l.getD k 0#32) >>> (24 - 8 * j)).toNat) 0 Y U rfl rfl rfl (sizeOf5 _) rfl rfl (by have := (ju hw (4 * k + j)); omega) rfl ?_
   clear Y U
   intro a w5 Y U
   refine ab <| hK12 _ _ ?_
   replace Y := Y.p7 2 3 7 8 4 5 12 rfl
   refine ao <| wlv Y (aM rfl rfl ⟨om, om⟩) fun a Y => wlm Y rfl fun a Y => ab ?_
   rw [show (oArr hw (4 * k + j)).set ((4 * k) + j) (UInt8.ofNat ((hw.l.getD k 0#32) >>> (24 - 8 * j)).toNat) = oArr hw (4 * k + (j + 1)) from mD om] at U
   refine ⟨_, ?_, j + 1, rfl, om, Y.pick [2, 3, 7, 8, 4, 5, 12], U.select [0] de⟩
   omega
  rw [hc2] at Y
  try simp only [qz] at hc2
  refine aL <| hK7 _ _ <| ao <| wlv Y (aM rfl rfl ⟨om, om⟩) fun a Y => wlm Y rfl fun a Y => ab ?_
  obtain rfl : j = 4 := by omega
  rw [show 4 * k + 4 = 4 * (k + 1) from by omega] at U
  refine ⟨_, ?_, k + 1, rfl, om, Y.pick [2, 3, 7, 8], U.select [0] de⟩
  omega
 rw [hc1] at Y
 try simp only [qz] at hc1
 obtain rfl : k = 8 := by omega
 refine aL <| hK3 _ _ <| aa fun K14 hK14 => wlv Y (ep rfl rfl rfl rfl (cY (n := 32) (l := 0) (h := 32) underlying164 kr (.inl ⟨rfl, rfl⟩) (.inl ⟨rfl, rfl⟩) de de de)) fun a Y => wlv Y (l5 (U.g 0 rfl) rfl (ju hw (4 * 8)) underlying71 underlying5 underlying9) fun a Y => wla Y rfl fun a Y => ab (hK14 _ _ ?_)
 replace Y := Y.p1 2 rfl
 replace U : St No w0 [] w3 := U.mask [false]
 refine au ?_
 refine ar Y results96 (ae rfl ah) ?_
 exact ⟨by simp only [retv]; rw [← np]; try rfl, U.ext⟩
def encC (v : Value) (k : Nat) : List Value := [cut v 1 (64 * k) (64 * k + 64) (64 * k + 64)]
def NxC (q : Nat) (pre : List Nat) (x : Nat) : Prop := x = pre.length ∧ x < q
theorem lG {M : Nat → Prop} {w0 : World} (vB : Value) (n q lp b2 b3 : Nat) (J Jx : List Nat → Ent → Prop) (hY : Rounds Tryd.prog M w0 lp (encC vB) (NxC q) J Jx) (e0 : Ent) (ws : World) (hsh : Shp vB n) (hn : n = 64 * q) (hnb : n ≤ 1000000000) (hJ : J [] e0) (U : St M w0 [e0, blk b2 [vB] 71, blk b3 [iv 64] 3] ws) :
  Ret Tryd.prog 107 #[.func (.yield lp) #[] #[], pq b2, pq b3] ws fun _ w => ∃ e1 Hi1, St M w0 (e1 :: Hi1) w ∧ ((∃ xs, (xs = List.range q ∧ Hi1 = [blk b2 [vB] 71, blk b3 [iv 64] 3]) ∧ J xs e1) ∨ (∃ pre, Hi1 = [blk b2 [vB] 71, blk b3 [iv 64] 3] ∧ Jx pre e1)) := by
 refine aI func107 rfl ntmps107 (lb rfl) fun a Y => ?_
 replace Y := Y.p3 0 1 2 rfl
 skip
 refine aa fun K1 hK1 => wla Y rfl fun a Y => ab (hK1 _ _ <| ap ?_)
 refine aV (fun m a w => ∃ (k : Nat) (e : Ent), m = q - k ∧ (k ≤ q) ∧ (J (List.range k) e) ∧ Fr 31 [(0, .func (.yield lp) #[] #[]), (1, pq b2), (2, pq b3), (4, iv ((64 * k : Nat) : Int))] [] a ∧ St M w0 [e, blk b2 [vB] 71, blk b3 [iv 64] 3] w) _ ⟨0, e0, rfl, Nat.zero_le _, hJ, Y.pick [0, 1, 2, 4], U⟩ ?_
 rintro _ a w1 ⟨k, e, rfl, hk, hJ, Y, U⟩
 refine ac fun K2 hK2 => aa fun K3 hK3 => wlm Y rfl fun a Y => wlv Y (ld U 1 rfl rfl (isAgg71 _) rfl) fun a Y => wlv Y (kW hsh rfl rfl (runUnderlying71 _)) fun a Y => wlv Y (v_lt rfl rfl) fun a Y => ab (hK3 _ _ ?_)
 refine az Y rfl (fun hc1 => ?_) (fun hc1 => ?_)
 ·rw [hc1] at Y
  try simp only [qz] at hc1
  have hkq : k < q := by omega
  refine aq <| hK2 _ _ <| ac fun K4 hK4 => ap <| ac fun K5 hK5 => aO kr (aP kr fun w2 hxz => ?_)
  replace U := U.grow hxz
  refine aS (k := 0) 5 [0, 4] Y kr kr kr rfx ?_
  replace Y := Y.p8 0 1 2 4 6 7 8 9 rfl
  refine aA [] (fun i => match i with | _ => fun _ _ => False) 5 [[], [], [], [1, 2], [3]] [iv 64, vB, iv ((64 * k : Nat) : Int), (cut vB 1 (64 * k) n (slCap vB)), iv ((n - 64 * k : Nat) : Int)] Y U kr kr kr ?_ ?_ ?_
  ·intro i hi hiq
   match i, hi, hiq with
   | 0, _, _ => exact fun w U => OpV.g (ld U 2 rfl rfl (isAgg3 _) rfl)
   | 1, _, _ => exact fun w U => OpV.g (ld U 1 rfl rfl (isAgg71 _) rfl)
   | 2, _, _ => exact fun w U => OpV.g (ai rfl)
   | 3, _, _ => exact fun w U => OpV.g (fl (sz := 1) (n := n) (l := 64 * k) (h := n) (m := slCap vB) hsh rfl rfl rfl rfl underlying71 kr (.inr rfl) (.inl ⟨rfl, rfl, rfl⟩) (.inl ⟨rfl, rfl⟩) om hsh.cap (Nat.le_refl _))
   | 4, _, _ => exact fun w U => OpV.g (kW (hsh.cut hsh.cap) rfl rfl (runUnderlying71 _))
  ·intro i hi
   exact absurd hi sm
  clear Y U
  intro  a w3 Y U
  replace Y : Fr 31 [(13, iv 64), (14, vB), (15, iv ((64 * k : Nat) : Int)), (16, (cut vB 1 (64 * k) n (slCap vB))), (17, iv ((n - 64 * k : Nat) : Int)), (0, _), (1, _), (2, _), (4, _), (6, _), (7, _), (8, _), (9, _)] [] a := Y
  refine ab <| aQ (k := 5) 7 [6] kr kr kr ?_
  refine wlv Y (jd rfl rfl) fun a Y => wla Y rfl fun a Y => ab <| bd kr ?_
  refine hK5 _ _ ?_
  replace Y := Y.p5 0 1 2 4 5 rfl
  rw [show min (64 : Int) ((n - 64 * k : Nat) : Int) = 64 from by omega] at Y
  refine aa fun K6 hK6 => wlm Y rfl fun a Y => wlv Y (ld U 1 rfl rfl (isAgg71 _) rfl) fun a Y => wlm Y rfl fun a Y => wlm Y rfl fun a Y => wlm Y rfl fun a Y => wlv Y (aM rfl rfl ⟨om, om⟩) fun a Y => wlm Y rfl fun a Y => wlm Y rfl fun a Y => wlv Y (aM rfl rfl ⟨om, om⟩) fun a Y => wlv Y (fl (sz := 1) (n := n) (l := 64 * k) (h := 64 * k + 64) (m := 64 * k + 64) hsh rfl rfl rfl rfl underlying71 kr (.inr rfl) (.inr rfl) (.inr rfl) om om (by have := hsh.cap; omega)) fun a Y => wl_r (eZ rfl rfl (hY.yield (pre := List.range k) (x := k) ⟨by simp, hkq⟩ hJ (U.only (i := 0) rfl))) rfl rfl Y ?_
  clear Y
  intro a v w4 hR Y
  obtain ⟨y2, e3, rfl, hx, hok, hft, hJt, hJf⟩ := hR
  replace U := U.exchange (k := 0) rfl hx hok hft
  replace U : St M w0 [_, _, _] w4 := U
  clear hx hok hft
  refine wlv Y (bn rfl) fun a Y => ab (hK6 _ _ ?_)
  replace Y := Y.p5 0 1 2 4 30 rfl
  refine az Y rfl (fun hc4 => ?_) (fun hc4 => ?_)
  ·rw [hc4] at Y
   try simp only [qz] at hc4
   have hJ := hJf hc4
   refine au ?_
   refine ar Y results107 ah ?_
   exact ⟨_, _, U, .inr ⟨_, rfl, hJ⟩⟩
  rw [hc4] at Y
  try simp only [qz] at hc4
  have hJ := hJt hc4
  rw [← List.range_succ] at hJ
  refine aq <| hK4 _ _ <| ao <| wlm Y rfl fun a Y => wlv Y (ld U 2 rfl rfl (isAgg3 _) rfl) fun a Y => wlv Y (aM rfl rfl ⟨om, om⟩) fun a Y => wla Y rfl fun a Y => ab ?_
  rw [show ((64 * k : Nat) : Int) + 64 = ((64 * (k + 1) : Nat) : Int) from by omega] at Y
  refine ⟨_, ?_, k + 1, e3, rfl, om, hJ, Y.pick [0, 1, 2, 4], U⟩
  omega
 rw [hc1] at Y
 try simp only [qz] at hc1
 obtain rfl : k = q := by omega
 refine aL ?_
 refine dv Y results107 ah ?_
 exact ⟨_, _, U, .inl ⟨_, ⟨rfl, rfl⟩, hJ⟩⟩
theorem ka {M : Nat → Prop} {w0 : World} (vB : Value) (n q b2 b3 : Nat) (hsh : Shp vB n) (hn : n = 64 * q) (hnb : n ≤ 1000000000) :
  Iter Tryd.prog 107 [pq b2, pq b3] (encC vB) (NxC q) (fun xs Hi => xs = List.range q ∧ Hi = [blk b2 [vB] 71, blk b3 [iv 64] 3]) (fun pre Hi => Hi = [blk b2 [vB] 71, blk b3 [iv 64] 3]) M w0 [blk b2 [vB] 71, blk b3 [iv 64] 3] :=
 fun lp J Jx w e hY hJ U => lG vB n q lp b2 b3 J Jx hY e w hsh hn hnb hJ U
theorem ni (vB : Value) (els : List (List Value)) (w0 : World) (hv : SlAt w0 vB 1 els) :
  Ret Tryd.prog 94 #[vB, iv 64] w0 (MemR w0 (fun z : Nat × Nat => .func (.func 107) #[] #[pq z.1, pq z.2]) (fun z => [blk z.2 [iv 64] 3, blk z.1 [vB] 71]) (fun _ => True)) := by
 refine aI func94 rfl ntmps94 (lb rfl) fun a Y => ?_
 replace Y := Y.p2 0 1 rfl
 replace U : St No w0 [] w0 := St.init w0
 refine aa fun K1 hK1 => bh Y U de rfl (cs := [vB]) (by rw [(U.arg hv).cells]) ?_
 clear Y U
 intro a w1 Y U
 refine bh Y U de rfl (cs := [iv 64]) rfl ?_
 clear Y U
 intro a w2 Y U
 refine wla Y rfl fun a Y => ab (hK1 _ _ <| ac fun K2 hK2 => ?_)
 refine aa fun K3 hK3 => wlv Y (ld U 0 rfl rfl (isAgg3 _) rfl) fun a Y => wlv Y ((v_lt rfl rfl).asb (b' := false) rfl) fun a Y => ab (hK3 _ _ <| aE Y rfl ?_)
 refine aq <| hK2 _ _ <| aa fun K4 hK4 => wlv Y (cz rfl rfl) fun a Y => wla Y rfl fun a Y => ab (hK4 _ _ ?_)
 replace Y := Y.p1 4 rfl
 refine au ?_
 refine ar Y results94 (ae rfl ah) ?_
 exact ⟨(w0.hz, w1.hz), rfl, trivial, U.ext, St.out (H := []) U⟩
theorem aW {P : Program} {w : World} {L : List (Nat × Value)} {dst : Option Tmp} {ty sT : TypeId} {pos : String} {af : Array Edge} {gd : Option (Nat × Bool)} {x : Operand} {ats : Array TypeId} {xs : List UInt8} (hx : ev L x = some (sv xs)) (hat : ats[0]? = some sT) (hu : (underlying sT).run P w = .ok .string w) :
  OpV P ⟨dst, .call { callee := .builtin .len, args := #[x], argTypes := ats }, ty, pos, af, gd⟩ L w (iv (xs.length : Int)) := by
 refine cE (xs := [x]) (vs := [sv xs]) (by simp [evs, hx]) ?_
 have hsz : (ByteArray.mk xs.toArray).size = xs.length := by simp [ByteArray.size]
 unfold sv
 simp [builtin, Builtin.len_, hat, hu, goInt, hsz]
theorem ew {n r : Nat} (h : r < 8) : (bx n).take (r + 1) = (bx n).take r ++ [UInt8.ofNat (8 * n / 2 ^ (8 * (7 - r)))] := by
 rw [List.take_succ_eq_append_getElem (by simp [bx]; omega)]
 simp only [bx, List.getElem_map, List.getElem_range]
theorem nc {w : World} {v : Value} {bs : List UInt8} {k : Nat} (h : SlAt w v 1 (bs.map fun b => [yv b])) (hk : 64 * k + 64 ≤ bs.length) : SlAt w (cut v 1 (64 * k) (64 * k + 64) (64 * k + 64)) 1 (((bs.drop (64 * k)).take 64).map fun b => [yv b]) := by
 have hc := h.shp.cap
 rw [List.length_map] at hc
 have := h.cut (l := 64 * k) (h := 64 * k + 64) (m := 64 * k + 64) om (by simpa using hk) (Nat.le_refl _) om
 rw [show 64 * k + 64 - 64 * k = 64 from by omega] at this
 rw [List.map_take, List.map_drop]; exact this
theorem oN {w : World} {v : Value} {E : TypeId} {sz : Nat} {els : List (List Value)} {l h m j : Nat} (ho : (own v E sz els).ok w) (hj : slBlk (cut v sz l h m) = some j) : (own v E sz els).foot j := by
 obtain ⟨_, _, h3⟩ := ho
 rcases h3.2 with ⟨rfl, _⟩ | ⟨g, cap, cur, fz, rfl, _⟩
 ·exfalso; revert hj; unfold cut; simp only; split <;> simp [slBlk]
 ·have : g = j := by
   revert hj; unfold cut; simp only
   split <;> simp [slBlk, Addr.add] <;> split <;> simp
  subst this; rfl
theorem mt {M : Nat → Prop} {w0 w : World} {H : List Ent} {i j : Nat} {e e' : Ent} (U : St M w0 H w) (hij : i < j) (hi : H[i]? = some e) (hj : H[j]? = some e') : Ent.disj e e' := by
 have := U.dis
 rw [List.pairwise_iff_getElem] at this
 obtain ⟨h1, rfl⟩ := List.getElem?_eq_some_iff.1 hi
 obtain ⟨h2, rfl⟩ := List.getElem?_eq_some_iff.1 hj
 exact this i j h1 h2 hij
theorem pw {M : Nat → Prop} {w0 w : World} {b k : Nat} {hv : W8} {v : Value} {bs : List UInt8} (U : St M w0 [blk 0 (kOf.map wv) 161, blk b (hv.l.map wv) 146, own v 5 1 (bs.map fun b => [yv b])] w) (hk : 64 * k + 64 ≤ bs.length) :
  Ret Tryd.prog 95 #[pq b, cut v 1 (64 * k) (64 * k + 64) (64 * k + 64)] w fun v w' => v = .tuple #[] ∧ Ext (· = b) w w' ∧ (blk b ((block hv ((bs.drop (64 * k)).take 64)).l.map wv) 146).ok w' :=
 oY b hv _ ((bs.drop (64 * k)).take 64) w (U.g 1 rfl) (U.g 0 rfl) (fun h => mt U (i := 0) (j := 1) de rfl rfl 0 rfl h)
  (nc (U.ow 2 rfl) hk) (by simp; omega) (fun j hj h => mt U (i := 1) (j := 2) de rfl rfl j h (oN (U.g 2 rfl) hj))
def sum1 (s : List UInt8) (z : Nat) : List UInt8 := s ++ [128] ++ List.replicate z 0
def sum2 (s : List UInt8) (r : Nat) : List UInt8 := s ++ [128] ++ List.replicate (zeros s.length) 0 ++ (bx s.length).take r
theorem jT (s : List UInt8) (z : Nat) : (sum1 s z).length = s.length + 1 + z := by simp [sum1]; omega
theorem eR (s : List UInt8) : (padded s).length ≤ s.length + 72 := by
 simp only [padded, bx, zeros, List.length_append, List.length_replicate, List.length_map, List.length_range, List.length_cons, List.length_nil]
 omega
theorem kl (s : List UInt8) (w0 : World) (hk0 : (blk 0 (kOf.map wv) 161).ok w0) (hs : s.length ≤ 100000000) :
  Ret Tryd.prog 80 #[sv s] w0 fun v w => v = sv (sha s) ∧ Ext No w0 w := by
 refine aI func80 rfl ntmps80 (lb rfl) fun a Y => ?_
 replace Y := Y.p1 0 rfl
 replace U : St (· = 0) w0 [blk 0 (kOf.map wv) 161] w0 := St.one hk0
 refine aa fun K1 hK1 => wla Y rfl fun a Y => ab (hK1 _ _ <| aa fun K2 hK2 => ?_)
 refine wlv Y (aZ (v := .agg #[wv (1779033703#32), wv (3144134277#32), wv (1013904242#32), wv (2773480762#32), wv (1359893119#32), wv (2600822924#32), wv (528734635#32), wv (1541459225#32)]) rfl kr) fun a Y => aC Y U de (zeroValue146 _) (cs := [wv (0#32), wv (0#32), wv (0#32), wv (0#32), wv (0#32), wv (0#32), wv (0#32), wv (0#32)]) rfl ?_
 clear Y U
 intro a w1 Y U
 refine ay 0 Y U rfl rfl rfl (sizeOf146 _) rfl (lb rfl) (ds := [wv (1779033703#32), wv (3144134277#32), wv (1013904242#32), wv (2773480762#32), wv (1359893119#32), wv (2600822924#32), wv (528734635#32), wv (1541459225#32)]) rfl rfl ?_
 clear Y U
 intro a w2 Y U
 refine ab (hK2 _ _ <| aa fun K3 hK3 => ?_)
 refine wlm Y rfl fun a Y => gO rfl underlying9 underlying71 underlying5 (by simp only [big]; omega) de Y U ?_
 clear Y U
 intro a w3 s1 Y U
 refine aG (E := 5) (sz := 1) rfl [[yv (128 : UInt8)]] kr sm rfl de de Y U ?_
 clear Y U
 intro a w4 Y U
 refine bf (i := 1) (sT := 71) (inf := Tryd.t5) (z := yv (0 : UInt8)) (b := 0) (off := 0) (m := 0) (c := 0) rfl rfl rfl (U.ow 0 rfl) sm underlying71 rfl rfl rfl rfl de (by simp [Value.oneCell', yv, wv, sv]) (by have hby : Tryd.t5.bytes = 1 := rfl; have hz6 : zeros s.length < 64 := (by unfold zeros; omega); simp [big, hby, sum1, sum2, bx] <;> omega) (by have hby : Tryd.t5.bytes = 1 := rfl; have hz6 : zeros s.length < 64 := (by unfold zeros; omega); simp [big, hby, sum1, sum2, bx] <;> omega) de Y U fun a w5 s2 Y U _ => wla Y rfl fun a Y => ab (hK3 _ _ <| ac fun K4 hK4 => ?_)
 refine ap ?_
 rw [show (s.map fun b => [yv b]) ++ ([[yv (128 : UInt8)]]) = ((sum1 s 0).map fun b => [yv b]) from by simp [sum1]] at U
 refine aV (fun m a w => ∃ (z : Nat) (v : Value), m = 64 - z ∧ (z ≤ zeros s.length) ∧ Fr 40 [(0, sv s), (2, .string (⟨#[]⟩)), (3, pq w0.hz), (4, v)] [] a ∧ St (· = 0) w0 [own v 5 1 ((sum1 s z).map fun b => [yv b]), blk w0.hz [wv (1779033703#32), wv (3144134277#32), wv (1013904242#32), wv (2773480762#32), wv (1359893119#32), wv (2600822924#32), wv (528734635#32), wv (1541459225#32)] 146, blk 0 (kOf.map wv) 161] w) _ ⟨0, s2, rfl, Nat.zero_le _, Y.pick [0, 2, 3, 4], U.select [1, 2, 3] de⟩ ?_
 rintro _ a w6 ⟨z, v, rfl, hz, Y, U⟩
 refine ac fun K5 hK5 => aa fun K6 hK6 => wlm Y rfl fun a Y => wlv Y ((aK (sT := 71) (U.ow 0 rfl) rfl rfl (runUnderlying71 _)).asi (m' := ((s.length + 1 + z : Nat) : Int)) (by rw [List.length_map, jT])) fun a Y => wlv Y (ij rfl rfl om om) fun a Y => wlv Y (v_ne rfl rfl) fun a Y => ab (hK6 _ _ ?_)
 refine az Y rfl (fun hc3 => ?_) (fun hc3 => ?_)
 ·rw [hc3] at Y
  try simp only [qz] at hc3
  have hz2 : z + 1 ≤ zeros s.length := by unfold zeros at hz ⊢; omega
  have hz3 : zeros s.length < 64 := by unfold zeros; omega
  refine aq <| hK5 _ _ <| ap <| ao <| wlm Y rfl fun a Y => aG (E := 5) (sz := 1) rfl [[yv (0 : UInt8)]] kr sm rfl de de Y U ?_
  clear Y U
  intro a w7 Y U
  refine bf (i := 1) (sT := 71) (inf := Tryd.t5) (z := yv (0 : UInt8)) (b := 0) (off := 0) (m := 0) (c := 0) rfl rfl rfl (U.ow 0 rfl) sm underlying71 rfl rfl rfl rfl de (by simp [Value.oneCell', yv, wv, sv]) (by have hby : Tryd.t5.bytes = 1 := rfl; have hz6 : zeros s.length < 64 := (by unfold zeros; omega); simp [big, hby, sum1, sum2, bx] <;> omega) (by have hby : Tryd.t5.bytes = 1 := rfl; have hz6 : zeros s.length < 64 := (by unfold zeros; omega); simp [big, hby, sum1, sum2, bx] <;> omega) de Y U fun a w8 s4 Y U _ => wla Y rfl fun a Y => ab ?_
  rw [show ((sum1 s z).map fun b => [yv b]) ++ ([[yv (0 : UInt8)]]) = ((sum1 s (z + 1)).map fun b => [yv b]) from by simp [sum1, List.replicate_succ']] at U
  refine ⟨_, ?_, z + 1, s4, rfl, hz2, Y.pick [0, 2, 3, 4], U.select [1, 2, 3] de⟩
  omega
 rw [hc3] at Y
 try simp only [qz] at hc3
 obtain rfl : z = zeros s.length := by unfold zeros at hz ⊢; omega
 refine aL <| hK4 _ _ <| ac fun K7 hK7 => aa fun K8 hK8 => wla Y rfl fun a Y => ab (hK8 _ _ <| ap ?_)
 rw [show ((sum1 s (zeros s.length)).map fun b => [yv b]) = ((sum2 s 0).map fun b => [yv b]) from by simp [sum1, sum2]] at U
 rw [show (7 : Int) = 7 - ((0 : Nat) : Int) from by omega] at Y
 refine aV (fun m a w => ∃ (r : Nat) (v : Value), m = 8 - r ∧ (r ≤ 8) ∧ Fr 40 [(0, sv s), (2, .string (⟨#[]⟩)), (3, pq w0.hz), (4, v), (5, iv (7 - (r : Int)))] [] a ∧ St (· = 0) w0 [own v 5 1 ((sum2 s r).map fun b => [yv b]), blk w0.hz [wv (1779033703#32), wv (3144134277#32), wv (1013904242#32), wv (2773480762#32), wv (1359893119#32), wv (2600822924#32), wv (528734635#32), wv (1541459225#32)] 146, blk 0 (kOf.map wv) 161] w) _ ⟨0, v, rfl, Nat.zero_le _, Y.pick [0, 2, 3, 4, 5], U.select [0, 1, 2] de⟩ ?_
 rintro _ a w9 ⟨r, v, rfl, hr, Y, U⟩
 refine ac fun K9 hK9 => aa fun K10 hK10 => wlm Y rfl fun a Y => wlv Y (v_ge rfl rfl) fun a Y => ab (hK10 _ _ ?_)
 refine az Y rfl (fun hc5 => ?_) (fun hc5 => ?_)
 ·rw [hc5] at Y
  try simp only [qz] at hc5
  refine aq <| hK9 _ _ <| ac fun K11 hK11 => ap <| ao <| wlm Y rfl fun a Y => wlm Y rfl fun a Y => wlv Y (aW rfl rfl (runUnderlying9 _)) fun a Y => wlv Y ((cW rfl rfl ⟨om, om⟩).asi (m' := ((8 * s.length : Nat) : Int)) om) fun a Y => wlm Y rfl fun a Y => wlv Y ((cW rfl rfl ⟨om, om⟩).asi (m' := ((8 * (7 - r) : Nat) : Int)) om) fun a Y => wlv Y (nd (m := (8 * s.length)) (n := (8 * (7 - r))) rfl rfl om) fun a Y => ?_
  refine wlv Y (hC (n := 8 * s.length / 2 ^ (8 * (7 - r))) rfl kr underlying5) fun a Y => aG (E := 5) (sz := 1) rfl [[yv (UInt8.ofNat (8 * s.length / 2 ^ (8 * (7 - r))))]] kr sm rfl de de Y U ?_
  clear Y U
  intro a w10 Y U
  refine bf (i := 1) (sT := 71) (inf := Tryd.t5) (z := yv (0 : UInt8)) (b := 0) (off := 0) (m := 0) (c := 0) rfl rfl rfl (U.ow 0 rfl) sm underlying71 rfl rfl rfl rfl de (by simp [Value.oneCell', yv, wv, sv]) (by have hby : Tryd.t5.bytes = 1 := rfl; have hz6 : zeros s.length < 64 := (by unfold zeros; omega); simp [big, hby, sum1, sum2, bx] <;> omega) (by have hby : Tryd.t5.bytes = 1 := rfl; have hz6 : zeros s.length < 64 := (by unfold zeros; omega); simp [big, hby, sum1, sum2, bx] <;> omega) de Y U fun a w11 s6 Y U _ => wla Y rfl fun a Y => ab <| hK11 _ _ ?_
  replace Y := Y.p5 0 2 3 5 4 rfl
  replace U := U.k3 14 rfl
  refine ao <| wlm Y rfl fun a Y => wlv Y (bq rfl rfl ⟨om, om⟩) fun a Y => wla Y rfl fun a Y => ab ?_
  rw [show ((sum2 s r).map fun b => [yv b]) ++ ([[yv (UInt8.ofNat (8 * s.length / 2 ^ (8 * (7 - r))))]]) = ((sum2 s (r + 1)).map fun b => [yv b]) from by unfold sum2; rw [ew om]; simp] at U
  rw [show 7 - (r : Int) - 1 = 7 - ((r + 1 : Nat) : Int) from by omega] at Y
  refine ⟨_, ?_, r + 1, s6, rfl, om, Y.pick [0, 2, 3, 4, 5], U.select [0, 1, 2] de⟩
  omega
 rw [hc5] at Y
 try simp only [qz] at hc5
 obtain rfl : r = 8 := by omega
 rw [show sum2 s 8 = padded s from rfl] at U
 refine aL <| hK7 _ _ <| ac fun K12 hK12 => aa fun K13 hK13 => wlm Y rfl fun a Y => aX Y U de call94 rfl (ni v _ _ (U.ow 0 rfl)) ?_
 clear Y U
 intro a w12 x7 hp Y U
 obtain ⟨z1, z2⟩ := x7
 clear hp
 replace U : St (· = 0) w0 [_, _, _, _, _] w12 := U
 refine ab (hK13 _ _ ?_)
 replace Y := Y.p3 2 3 34 rfl
 refine ap ?_
 have hpl := eK s
 have hsh : Shp v (padded s).length := by have := ((U.ow 2 rfl)).shp; rwa [List.length_map] at this
 replace U : St (· = 0) w0 [_, _, _, _, _] w12 := U
 replace U : St (· = 0) w0 [blk 0 (kOf.map wv) 161, blk w0.hz (((blocks h0 (padded s) ([] : List Nat).length).l).map wv) 146, own v 5 1 ((padded s).map fun b => [yv b]), blk z1 [v] 71, blk z2 [iv 64] 3] w12 := U.select [4, 3, 2, 1, 0] de
 replace Y : Fr 40 [(2, .string (⟨#[]⟩)), (3, pq w0.hz), (34, .func (.func 107) #[] #[pq z1, pq z2])] [] a := Y.pick [2, 3, 34]
 refine cT (M := (· = 0)) (w0 := w0) (encs := (encC v)) (Hi := [blk z1 [v] 71, blk z2 [iv 64] 3]) (Hc := [blk 0 (kOf.map wv) 161, blk w0.hz (((blocks h0 (padded s) ([] : List Nat).length).l).map wv) 146, own v 5 1 ((padded s).map fun b => [yv b])]) (fun pre H => (True) ∧ H = [blk 0 (kOf.map wv) 161, blk w0.hz (((blocks h0 (padded s) pre.length).l).map wv) 146, own v 5 1 ((padded s).map fun b => [yv b])]) (fun _ _ _ => False) (fun pre xs H a => Fr 40 [(2, .string (⟨#[]⟩)), (3, pq w0.hz), (34, .func (.func 107) #[] #[pq z1, pq z2]), (6, (cut v 1 (64 * xs) (64 * xs + 64) (64 * xs + 64)))] [] a ∧ (True) ∧ H = [blk 0 (kOf.map wv) 161, blk w0.hz (((blocks h0 (padded s) pre.length).l).map wv) 146, own v 5 1 ((padded s).map fun b => [yv b])]) rfl call107 Y U (ka v (padded s).length ((padded s).length / 64) z1 z2 hsh om (by have := eR s; omega)) de (fun _ => rfl) ⟨trivial, rfl⟩ ?_ ?_ ?_ ?_
 ·clear Y U
  rintro lp pre xs _ a w13 hnx ⟨htr, rfl⟩ Y U
  generalize (join [blk 0 (kOf.map wv) 161, blk w0.hz (((blocks h0 (padded s) pre.length).l).map wv) 146, own v 5 1 ((padded s).map fun b => [yv b])]).foot = M1 at U ⊢
  replace Y : Fr 40 [(35, (cut v 1 (64 * xs) (64 * xs + 64) (64 * xs + 64))), (2, .string (⟨#[]⟩)), (3, pq w0.hz), (34, .func (.func 107) #[] #[pq z1, pq z2])] [] a := Y
  refine ao <| wla Y rfl fun a Y => ab ?_
  exact ⟨_, ⟨Y.pick [2, 3, 34, 6], htr, rfl⟩, U⟩
 ·rintro lp pre xs _ a w14 hnx ⟨Y, htr, rfl⟩ hout hrec hnl U
  clear hrec hnl
  generalize (join [blk 0 (kOf.map wv) 161, blk w0.hz (((blocks h0 (padded s) pre.length).l).map wv) 146, own v 5 1 ((padded s).map fun b => [yv b])]).foot = M1 at U hout ⊢
  refine ap <| ao <| wlm Y rfl fun a Y => gA 1 Y U de call95 rfl rfl (pw U (by have := hnx.2; omega)) rfl ?_
  clear Y U
  intro a w15 Y U
  refine ab ?_
  rw [show block (blocks h0 (padded s) pre.length) (((padded s).drop (64 * xs)).take 64) = blocks h0 (padded s) (pre ++ [xs]).length from by rw [List.length_append, List.length_singleton, blocks, hnx.1]] at U
  exact ⟨_, ⟨trivial, rfl⟩, U.select [0, 1, 2] de⟩
 ·rintro D pre _ _ a w16 ⟨rfl, rfl⟩ ⟨htr, rfl⟩ U Y
  replace Y : Fr 40 [(2, .string (⟨#[]⟩)), (3, pq w0.hz), (34, .func (.func 107) #[] #[pq z1, pq z2])] [{ target := .collected D, args := #[] }] a := Y
  replace U : St (· = 0) w0 [_, _, _, _, _, _] w16 := U
  refine hK12 _ _ ?_
  rw [List.length_range] at U
  refine aa fun K14 hK14 => wlv Y (aj (U.g 2 rfl) rfl (isAgg146 _) (by rw [List.length_map, (W8.l_len _)]; exact sizeOf146 _)) fun a Y => am Y U de call96 rfl (ma (blocks h0 (padded s) ((padded s).length / 64)) _) ?_
  clear Y U
  intro a w17 Y U
  refine wla Y rfl fun a Y => ab (hK14 _ _ <| au ?_)
  have hD := U.g 0 rfl
  replace U := U.unmark (i := 0) (o' := .deferred none) rfl
  replace U : St (· = 0) w0 [_, _, _, _, _] _ := U
  refine bR Y hD results80 (ae rfl ah) ?_
  exact ⟨by simp only [retv, sha], U.ext.const hk0 (U.g 0 rfl)⟩
 ·rintro D c pre _ _ a w18 _ h
  exact h.elim
end Go.Proofs.YtddfkkdanpmnaaaDoor
