/- Texts joined: ShaP, DigP, DigQ, DigR, DigT, DigU. -/
import GoSem.Core.View
import GoSem.Core.Value
/- SHA-256 as a function on lists of bytes: what Sum computes; no program in sight. -/
namespace Go.Proofs.YtmcoolbjgeibcaaDoor
set_option linter.unusedVariables false
set_option linter.unusedSimpArgs false
abbrev Wd := BitVec 32
def ror (x : Wd) (n : Nat) : Wd := (x <<< (32 - n)) ||| (x >>> n)
def mix (x : Wd) (ns : List Nat) : Wd := ns.foldl (fun o n => o ^^^ ror x n) 0#32
/-- A word of a block. -/
def be (bs : List UInt8) (i : Nat) : Wd :=
  (((BitVec.ofNat 32 (bs.getD (4 * i) 0).toNat) <<< 24 ||| (BitVec.ofNat 32 (bs.getD (4 * i + 1) 0).toNat) <<< 16) ||| (BitVec.ofNat 32 (bs.getD (4 * i + 2) 0).toNat) <<< 8) ||| BitVec.ofNat 32 (bs.getD (4 * i + 3) 0).toNat
def nx (ws : List Wd) (i : Nat) : Wd :=
  ((ws.getD (i - 16) 0#32 + (mix (ws.getD (i - 15) 0#32) [7, 18] ^^^ (ws.getD (i - 15) 0#32 >>> 3))) + ws.getD (i - 7) 0#32) + (mix (ws.getD (i - 2) 0#32) [17, 19] ^^^ (ws.getD (i - 2) 0#32 >>> 10))
/-- The schedule's array when its first i words are there. -/
def sch (bs : List UInt8) : Nat → List Wd
  | 0 => List.replicate 64 0#32
  | i + 1 => (sch bs i).set i (if i < 16 then be bs i else nx (sch bs i) i)
theorem sch_len (bs : List UInt8) (i : Nat) : (sch bs i).length = 64 := by
  induction i with
  | zero => exact List.length_replicate
  | succ i ih => rw [sch, List.length_set, ih]
structure W8 where
  a : Wd
  b : Wd
  c : Wd
  d : Wd
  e : Wd
  f : Wd
  g : Wd
  h : Wd
def W8.l (v : W8) : List Wd := [v.a, v.b, v.c, v.d, v.e, v.f, v.g, v.h]
theorem W8.l_len (v : W8) : v.l.length = 8 := rfl
def tOf (v : W8) (k w : Wd) : Wd := (((v.h + mix v.e [6, 11, 25]) + ((v.e &&& v.f) ^^^ ((~~~v.e) &&& v.g))) + k) + w
def uOf (v : W8) : Wd := mix v.a [2, 13, 22] + (((v.a &&& v.b) ^^^ (v.a &&& v.c)) ^^^ (v.b &&& v.c))
/-- One round. -/
def rnd (v : W8) (k w : Wd) : W8 := ⟨tOf v k w + uOf v, v.a, v.b, v.c, v.d + tOf v k w, v.e, v.f, v.g⟩
def kOf : List Wd := [
  0x428a2f98#32, 0x71374491#32, 0xb5c0fbcf#32, 0xe9b5dba5#32, 0x3956c25b#32, 0x59f111f1#32, 0x923f82a4#32, 0xab1c5ed5#32,
  0xd807aa98#32, 0x12835b01#32, 0x243185be#32, 0x550c7dc3#32, 0x72be5d74#32, 0x80deb1fe#32, 0x9bdc06a7#32, 0xc19bf174#32,
  0xe49b69c1#32, 0xefbe4786#32, 0x0fc19dc6#32, 0x240ca1cc#32, 0x2de92c6f#32, 0x4a7484aa#32, 0x5cb0a9dc#32, 0x76f988da#32,
  0x983e5152#32, 0xa831c66d#32, 0xb00327c8#32, 0xbf597fc7#32, 0xc6e00bf3#32, 0xd5a79147#32, 0x06ca6351#32, 0x14292967#32,
  0x27b70a85#32, 0x2e1b2138#32, 0x4d2c6dfc#32, 0x53380d13#32, 0x650a7354#32, 0x766a0abb#32, 0x81c2c92e#32, 0x92722c85#32,
  0xa2bfe8a1#32, 0xa81a664b#32, 0xc24b8b70#32, 0xc76c51a3#32, 0xd192e819#32, 0xd6990624#32, 0xf40e3585#32, 0x106aa070#32,
  0x19a4c116#32, 0x1e376c08#32, 0x2748774c#32, 0x34b0bcb5#32, 0x391c0cb3#32, 0x4ed8aa4a#32, 0x5b9cca4f#32, 0x682e6ff3#32,
  0x748f82ee#32, 0x78a5636f#32, 0x84c87814#32, 0x8cc70208#32, 0x90befffa#32, 0xa4506ceb#32, 0xbef9a3f7#32, 0xc67178f2#32]
theorem kOf_len : kOf.length = 64 := rfl
/-- The words behind i rounds. -/
def rounds (ws : List Wd) (v : W8) : Nat → W8
  | 0 => v
  | i + 1 => rnd (rounds ws v i) (kOf.getD i 0#32) (ws.getD i 0#32)
def W8.add (x y : W8) : W8 := ⟨x.a + y.a, x.b + y.b, x.c + y.c, x.d + y.d, x.e + y.e, x.f + y.f, x.g + y.g, x.h + y.h⟩
/-- A block. -/
def block (h : W8) (bs : List UInt8) : W8 := h.add (rounds (sch bs 64) h 64)
def h0 : W8 := ⟨0x6a09e667#32, 0xbb67ae85#32, 0x3c6ef372#32, 0xa54ff53a#32, 0x510e527f#32, 0x9b05688c#32, 0x1f83d9ab#32, 0x5be0cd19#32⟩
/-- All blocks of 64 bytes. -/
def blocks (h : W8) (bs : List UInt8) : Nat → W8
  | 0 => h
  | n + 1 => block (blocks h bs n) ((bs.drop (64 * n)).take 64)
/-- The padding: how many zeros, the length's bytes. -/
def zeros (n : Nat) : Nat := (119 - n % 64) % 64
def lenBytes (n : Nat) : List UInt8 := (List.range 8).map fun i => UInt8.ofNat (8 * n / 2 ^ (8 * (7 - i)))
def padded (s : List UInt8) : List UInt8 := s ++ [128] ++ List.replicate (zeros s.length) 0 ++ lenBytes s.length
theorem padded_len (s : List UInt8) : 64 ∣ (padded s).length := by
  simp only [padded, lenBytes, zeros, List.length_append, List.length_replicate, List.length_map, List.length_range, List.length_cons, List.length_nil]
  omega
def wdBytes (x : Wd) : List UInt8 := [UInt8.ofNat (x >>> 24).toNat, UInt8.ofNat (x >>> 16).toNat, UInt8.ofNat (x >>> 8).toNat, UInt8.ofNat (x >>> 0).toNat]
def W8.out (v : W8) : List UInt8 := v.l.flatMap wdBytes
/-- SHA-256. -/
def sha (s : List UInt8) : List UInt8 := (blocks h0 (padded s) ((padded s).length / 64)).out
theorem out_len (v : W8) : v.out.length = 32 := rfl
theorem sha_len (s : List UInt8) : (sha s).length = 32 := out_len _
end Go.Proofs.YtmcoolbjgeibcaaDoor
/- Plain definitions: trees of digests over whatever function sums a string; no program in sight. -/
namespace Go.Proofs.YtmcoolbjgeibcaaDoor
set_option linter.unusedVariables false
set_option linter.unusedSimpArgs false
abbrev By := List UInt8
/-- The greatest power of two that is less than n (n at least 2). -/
def lft (n : Nat) : Nat := 2 ^ Nat.log2 (n - 1)
theorem lft_pos (n : Nat) : 0 < lft n := Nat.pow_pos (by omega)
theorem lft_lt {n : Nat} (h : 2 ≤ n) : lft n < n := by
  have := Nat.log2_self_le (n := n - 1) (by omega)
  unfold lft; omega
theorem lft_ge {n : Nat} (h : 2 ≤ n) : n ≤ 2 * lft n := by
  have := Nat.lt_log2_self (n := n - 1)
  unfold lft; rw [Nat.pow_succ] at this; omega
section
variable (S : By → By)
def leafH (s : By) : By := S (0 :: s)
def nodeH (a b : By) : By := S (1 :: (a ++ b))
def chainH (a b : By) : By := S (2 :: (a ++ b))
def rootF : Nat → List By → By
  | 0, _ => S []
  | f + 1, l => match l with
    | [] => S []
    | [s] => leafH S s
    | _ => nodeH S (rootF f (l.take (lft l.length))) (rootF f (l.drop (lft l.length)))
def rootH (l : List By) : By := rootF S l.length l
theorem rootF_eq : ∀ (f g : Nat) (l : List By), l.length ≤ f → l.length ≤ g → rootF S f l = rootF S g l := by
  intro f
  induction f with
  | zero =>
    intro g l h _
    obtain rfl : l = [] := List.eq_nil_of_length_eq_zero (by omega)
    cases g <;> rfl
  | succ f ih =>
    intro g l h hg
    match l, g with
    | [], 0 => rfl
    | [], g + 1 => rfl
    | [s], g + 1 => rfl
    | a :: b :: l, g + 1 =>
      have h1 := lft_lt (n := (a :: b :: l).length) (by simp)
      have h2 := lft_pos (a :: b :: l).length
      simp only [rootF]
      rw [ih g _ (by rw [List.length_take]; omega) (by rw [List.length_take]; omega), ih g _ (by rw [List.length_drop]; omega) (by rw [List.length_drop]; omega)]
theorem rootH_nil : rootH S [] = S [] := rfl
theorem rootH_one (s : By) : rootH S [s] = leafH S s := rfl
theorem rootH_two {l : List By} (h : 2 ≤ l.length) : rootH S l = nodeH S (rootH S (l.take (lft l.length))) (rootH S (l.drop (lft l.length))) := by
  match l, h with
  | a :: b :: l, _ =>
    have h1 := lft_lt (n := (a :: b :: l).length) (by simp)
    have h2 := lft_pos (a :: b :: l).length
    have e : rootH S (a :: b :: l) = nodeH S (rootF S (l.length + 1) ((a :: b :: l).take (lft (a :: b :: l).length))) (rootF S (l.length + 1) ((a :: b :: l).drop (lft (a :: b :: l).length))) := rfl
    rw [e]
    have h3 : (a :: b :: l).length = l.length + 2 := rfl
    rw [rootF_eq S (l.length + 1) ((a :: b :: l).take (lft (a :: b :: l).length)).length _ (by rw [List.length_take]; omega) (Nat.le_refl _), rootF_eq S (l.length + 1) ((a :: b :: l).drop (lft (a :: b :: l).length)).length _ (by rw [List.length_drop]; omega) (Nat.le_refl _)]
    rfl
/-- The proof of an entry. -/
def proofF : Nat → List By → Nat → List By
  | 0, _, _ => []
  | f + 1, l, i =>
    if l.length ≤ 1 then [] else
    if i < lft l.length then proofF f (l.take (lft l.length)) i ++ [rootH S (l.drop (lft l.length))]
    else proofF f (l.drop (lft l.length)) (i - lft l.length) ++ [rootH S (l.take (lft l.length))]
def proofH (l : List By) (i : Nat) : List By := proofF S l.length l i
theorem proofF_eq : ∀ (f g : Nat) (l : List By) (i : Nat), l.length ≤ f → l.length ≤ g → proofF S f l i = proofF S g l i := by
  intro f
  induction f with
  | zero =>
    intro g l i h _
    obtain rfl : l = [] := List.eq_nil_of_length_eq_zero (by omega)
    cases g <;> rfl
  | succ f ih =>
    intro g l i h hg
    cases g with
    | zero => obtain rfl : l = [] := List.eq_nil_of_length_eq_zero (by omega); rfl
    | succ g =>
      simp only [proofF]
      by_cases h1 : l.length ≤ 1
      · rw [if_pos h1, if_pos h1]
      · have h2 := lft_lt (n := l.length) (by omega)
        have h3 := lft_pos l.length
        rw [if_neg h1, if_neg h1, ih g (l.take _) _ (by rw [List.length_take]; omega) (by rw [List.length_take]; omega), ih g (l.drop _) _ (by rw [List.length_drop]; omega) (by rw [List.length_drop]; omega)]
theorem proofH_one {l : List By} {i : Nat} (h : l.length ≤ 1) : proofH S l i = [] := by
  unfold proofH
  cases hl : l.length with
  | zero => rfl
  | succ n => rw [proofF, if_pos h]
theorem proofH_two {l : List By} {i : Nat} (h : 2 ≤ l.length) : proofH S l i = if i < lft l.length then proofH S (l.take (lft l.length)) i ++ [rootH S (l.drop (lft l.length))] else proofH S (l.drop (lft l.length)) (i - lft l.length) ++ [rootH S (l.take (lft l.length))] := by
  have h2 := lft_lt h
  have h3 := lft_pos l.length
  obtain ⟨f, hf⟩ : ∃ f, l.length = f + 1 := ⟨l.length - 1, by omega⟩
  conv => lhs; unfold proofH; rw [hf, proofF, if_neg (by omega)]
  rw [proofF_eq S f (l.take (lft l.length)).length (l.take _) _ (by rw [List.length_take]; omega) (Nat.le_refl _), proofF_eq S f (l.drop (lft l.length)).length (l.drop _) _ (by rw [List.length_drop]; omega) (Nat.le_refl _)]
  rfl
/-- The value of n, i and a proof (read from its end), and whether it has the right length. -/
def valueF : Nat → Nat → Nat → By → List By → By × Bool
  | 0, _, _, s, p => (leafH S s, p.isEmpty)
  | f + 1, n, i, s, p =>
    if n ≤ 1 then (leafH S s, p.isEmpty) else
    match p.getLast? with
    | none => ([], false)
    | some x =>
      if i < lft n then (nodeH S (valueF f (lft n) i s p.dropLast).1 x, (valueF f (lft n) i s p.dropLast).2)
      else (nodeH S x (valueF f (n - lft n) (i - lft n) s p.dropLast).1, (valueF f (n - lft n) (i - lft n) s p.dropLast).2)
def valueH (n i : Nat) (s : By) (p : List By) : By × Bool := valueF S (p.length + 1) n i s p
theorem valueH_one {n i : Nat} {s : By} {p : List By} (h : n ≤ 1) : valueH S n i s p = (leafH S s, p.isEmpty) := by rw [valueH, valueF, if_pos h]
theorem valueH_nil {n i : Nat} {s : By} (h : 2 ≤ n) : valueH S n i s [] = ([], false) := by rw [valueH, valueF, if_neg (by omega)]; rfl
theorem valueH_snoc {n i : Nat} {s x : By} {p : List By} (h : 2 ≤ n) : valueH S n i s (p ++ [x]) =
    if i < lft n then (nodeH S (valueH S (lft n) i s p).1 x, (valueH S (lft n) i s p).2) else (nodeH S x (valueH S (n - lft n) (i - lft n) s p).1, (valueH S (n - lft n) (i - lft n) s p).2) := by
  rw [valueH, valueF, if_neg (by omega)]
  simp only [List.getLast?_append, List.getLast?_singleton, Option.some_or, List.dropLast_concat, List.length_append, List.length_singleton]
  rfl
def verifyH (root : By) (n i : Int) (s : By) (p : List By) : Bool :=
  decide (0 ≤ i) && decide (i < n) && (p.all fun x => decide (x.length = 32)) && (valueH S n.toNat i.toNat s p).2 && decide ((valueH S n.toNat i.toNat s p).1 = root)
/-- How long a proof is. -/
def depthF : Nat → Nat → Nat → Nat
  | 0, _, _ => 0
  | f + 1, n, i => if n ≤ 1 then 0 else 1 + if i < lft n then depthF f (lft n) i else depthF f (n - lft n) (i - lft n)

/-! ### the extension -/
def partF : Nat → List By → Nat → Bool → List By
  | 0, _, _, _ => []
  | f + 1, l, m, whole =>
    if m = l.length then (if whole then [] else [rootH S l]) else
    if m ≤ lft l.length then partF f (l.take (lft l.length)) m whole ++ [rootH S (l.drop (lft l.length))]
    else partF f (l.drop (lft l.length)) (m - lft l.length) false ++ [rootH S (l.take (lft l.length))]
def partH (l : List By) (m : Nat) (whole : Bool) : List By := partF S (l.length + 1) l m whole
theorem partF_eq : ∀ (f g : Nat) (l : List By) (m : Nat) (w : Bool), 1 ≤ m → m ≤ l.length → l.length < f → l.length < g → partF S f l m w = partF S g l m w := by
  intro f
  induction f with
  | zero => intro g l m w _ _ h; omega
  | succ f ih =>
    intro g l m w hm hml h hg
    obtain ⟨g, rfl⟩ : ∃ k, g = k + 1 := ⟨g - 1, by omega⟩
    simp only [partF]
    by_cases h1 : m = l.length
    · rw [if_pos h1, if_pos h1]
    · have h2 := lft_lt (n := l.length) (by omega)
      have h3 := lft_pos l.length
      rw [if_neg h1, if_neg h1]
      by_cases h4 : m ≤ lft l.length
      · rw [if_pos h4, if_pos h4, ih g _ _ _ hm (by rw [List.length_take]; omega) (by rw [List.length_take]; omega) (by rw [List.length_take]; omega)]
      · rw [if_neg h4, if_neg h4, ih g _ _ _ (by omega) (by rw [List.length_drop]; omega) (by rw [List.length_drop]; omega) (by rw [List.length_drop]; omega)]
theorem partH_end {l : List By} {w : Bool} : partH S l l.length w = if w then [] else [rootH S l] := by rw [partH, partF, if_pos rfl]
theorem partH_go {l : List By} {m : Nat} {w : Bool} (hm : 1 ≤ m) (h : m < l.length) : partH S l m w = if m ≤ lft l.length then partH S (l.take (lft l.length)) m w ++ [rootH S (l.drop (lft l.length))] else partH S (l.drop (lft l.length)) (m - lft l.length) false ++ [rootH S (l.take (lft l.length))] := by
  have h2 := lft_lt (n := l.length) (by omega)
  have h3 := lft_pos l.length
  conv => lhs; rw [partH, partF, if_neg (by omega)]
  split
  · rename_i h4
    rw [partF_eq S l.length ((l.take (lft l.length)).length + 1) _ _ _ hm (by rw [List.length_take]; omega) (by rw [List.length_take]; omega) (by omega)]; rfl
  · rename_i h4
    rw [partF_eq S l.length ((l.drop (lft l.length)).length + 1) _ _ _ (by omega) (by rw [List.length_drop]; omega) (by rw [List.length_drop]; omega) (by omega)]; rfl
def extH (l : List By) (m : Nat) : List By := if m = 0 then [] else partH S l m true
def endH : List By → By × By × Bool
  | [x] => (x, x, true)
  | _ => ([], [], false)
/-- The two values of m, n, a proof and whole, and whether it has the right length. -/
def bothF : Nat → By → Nat → Nat → List By → Bool → By × By × Bool
  | 0, _, _, _, _, _ => ([], [], false)
  | f + 1, old, m, n, p, whole =>
    if m = n then (if whole then (old, old, p.isEmpty) else endH p) else
    match p.getLast? with
    | none => ([], [], false)
    | some x =>
      if m ≤ lft n then ((bothF f old m (lft n) p.dropLast whole).1, nodeH S (bothF f old m (lft n) p.dropLast whole).2.1 x, (bothF f old m (lft n) p.dropLast whole).2.2)
      else (nodeH S x (bothF f old (m - lft n) (n - lft n) p.dropLast false).1, nodeH S x (bothF f old (m - lft n) (n - lft n) p.dropLast false).2.1, (bothF f old (m - lft n) (n - lft n) p.dropLast false).2.2)
def bothH (old : By) (m n : Nat) (p : List By) (whole : Bool) : By × By × Bool := bothF S (p.length + 1) old m n p whole
theorem bothH_end {old : By} {n : Nat} {p : List By} {w : Bool} : bothH S old n n p w = (if w then (old, old, p.isEmpty) else endH p) := by rw [bothH, bothF, if_pos rfl]
theorem bothH_nil {old : By} {m n : Nat} {w : Bool} (h : m ≠ n) : bothH S old m n [] w = ([], [], false) := by rw [bothH, bothF, if_neg h]; rfl
theorem bothH_snoc {old x : By} {m n : Nat} {p : List By} {w : Bool} (h : m ≠ n) : bothH S old m n (p ++ [x]) w =
    if m ≤ lft n then ((bothH S old m (lft n) p w).1, nodeH S (bothH S old m (lft n) p w).2.1 x, (bothH S old m (lft n) p w).2.2)
    else (nodeH S x (bothH S old (m - lft n) (n - lft n) p false).1, nodeH S x (bothH S old (m - lft n) (n - lft n) p false).2.1, (bothH S old (m - lft n) (n - lft n) p false).2.2) := by
  rw [bothH, bothF, if_neg h]
  simp only [List.getLast?_append, List.getLast?_singleton, Option.some_or, List.dropLast_concat, List.length_append, List.length_singleton]
  rfl
def verifyExtH (old : By) (m : Int) (root : By) (n : Int) (p : List By) : Bool :=
  if m < 0 ∨ n < m ∨ (p.all fun x => decide (x.length = 32)) = false ∨ old.length ≠ 32 ∨ root.length ≠ 32 then false
  else if m = 0 then p.isEmpty && decide (old = S [])
  else if m = n then p.isEmpty && decide (old = root)
  else (bothH S old m.toNat n.toNat p true).2.2 && decide ((bothH S old m.toNat n.toNat p true).1 = old) && decide ((bothH S old m.toNat n.toNat p true).2.1 = root)
end
end Go.Proofs.YtmcoolbjgeibcaaDoor
/- Plain laws: proofs and extensions are accepted, and bind; no program in sight. -/
namespace Go.Proofs.YtmcoolbjgeibcaaDoor
set_option linter.unusedVariables false
set_option linter.unusedSimpArgs false
section
variable {S : By → By}
theorem value_proof : ∀ (n : Nat) (l : List By) (i : Nat), l.length = n → i < n → valueH S n i (l.getD i []) (proofH S l i) = (rootH S l, true) := by
  intro n
  induction n using Nat.strongRecOn with
  | _ n ih =>
    intro l i hl hi
    by_cases h1 : n ≤ 1
    · obtain ⟨s, rfl⟩ : ∃ s, l = [s] := by
        match l, hl with
        | [s], _ => exact ⟨s, rfl⟩
        | [], hl => simp at hl; omega
        | _ :: _ :: _, hl => simp at hl; omega
      rw [valueH_one S h1, proofH_one S (by simp)]
      have : i = 0 := by omega
      subst this; rfl
    · subst hl
      have h2 := lft_lt (n := l.length) (by omega)
      have h3 := lft_pos l.length
      rw [proofH_two S (by omega), rootH_two S (l := l) (by omega)]
      by_cases h4 : i < lft l.length
      · have h5 : (l.take (lft l.length)).length = lft l.length := by rw [List.length_take]; omega
        have h6 : (l.take (lft l.length)).getD i [] = l.getD i [] := by simp [List.getD_eq_getElem?_getD, List.getElem?_take, h4]
        have := ih _ h2 _ i h5 h4
        rw [h6] at this
        rw [if_pos h4, valueH_snoc S (by omega), if_pos h4, this]
      · have h5 : (l.drop (lft l.length)).length = l.length - lft l.length := by rw [List.length_drop]
        have h6 : (l.drop (lft l.length)).getD (i - lft l.length) [] = l.getD i [] := by
          simp only [List.getD_eq_getElem?_getD, List.getElem?_drop]; rw [show lft l.length + (i - lft l.length) = i by omega]
        have := ih _ (by omega) _ (i - lft l.length) h5 (by omega)
        rw [h6] at this
        rw [if_neg h4, valueH_snoc S (by omega), if_neg h4, this]
theorem lft_log {n a : Nat} (h : n ≤ 2 ^ a) (h2 : 2 ≤ n) : Nat.log2 (n - 1) + 1 ≤ a := by
  have h1 := Nat.log2_self_le (n := n - 1) (by omega)
  have : 2 ^ Nat.log2 (n - 1) < 2 ^ a := by omega
  exact (Nat.pow_lt_pow_iff_right (by omega)).1 this
theorem proof_len : ∀ (n : Nat) (l : List By) (i a : Nat), l.length = n → n ≤ 2 ^ a → (proofH S l i).length ≤ a := by
  intro n
  induction n using Nat.strongRecOn with
  | _ n ih =>
    intro l i a hl ha
    by_cases h1 : n ≤ 1
    · rw [proofH_one S (by omega)]; simp
    · subst hl
      have h2 := lft_lt (n := l.length) (by omega)
      have h3 := lft_pos l.length
      have h4 := lft_ge (n := l.length) (by omega)
      have h5 := lft_log ha (by omega)
      rw [proofH_two S (by omega)]
      split
      · have := ih _ h2 (l.take (lft l.length)) i (Nat.log2 (l.length - 1)) (by rw [List.length_take]; omega) (Nat.le_refl _)
        simp; omega
      · have := ih (l.length - lft l.length) (by omega) (l.drop (lft l.length)) (i - lft l.length) (Nat.log2 (l.length - 1)) (by rw [List.length_drop]) (by show _ ≤ lft l.length; omega)
        simp; omega
theorem proof_short {l : List By} {i : Nat} (h : l ≠ []) : (proofH S l i).length ≤ Nat.log2 l.length + 1 := proof_len _ l i _ rfl (Nat.le_of_lt Nat.lt_log2_self)
/-- Whether a proof has the right length leans on its length alone, and there is one right length. -/
theorem value_ok : ∀ (p q : List By) (n i : Nat) (s t : By), (valueH S n i s p).2 = true → ((valueH S n i t q).2 = true ↔ q.length = p.length) := by
  intro p
  induction hp : p.length generalizing p with
  | zero =>
    intro q n i s t h
    obtain rfl : p = [] := List.eq_nil_of_length_eq_zero hp
    by_cases h1 : n ≤ 1
    · rw [valueH_one S h1]; simp
    · rw [valueH_nil S (by omega)] at h; cases h
  | succ k ih =>
    intro q n i s t h
    rcases List.eq_nil_or_concat p with rfl | ⟨p, x, rfl⟩
    · simp at hp
    rw [List.concat_eq_append] at *
    have hk : p.length = k := by simpa using hp
    by_cases h1 : n ≤ 1
    · rw [valueH_one S h1] at h; simp at h
    · rcases List.eq_nil_or_concat q with rfl | ⟨q, y, rfl⟩
      · rw [valueH_nil S (by omega)]; simp
      · rw [List.concat_eq_append, valueH_snoc S (by omega)]
        rw [valueH_snoc S (by omega)] at h
        by_cases h2 : i < lft n
        · rw [if_pos h2] at h ⊢
          have := ih p hk q (lft n) i s t h
          simpa using this
        · rw [if_neg h2] at h ⊢
          have := ih p hk q (n - lft n) (i - lft n) s t h
          simpa using this
variable (hS : ∀ s, (S s).length = 32)
include hS
theorem leaf_len (s : By) : (leafH S s).length = 32 := hS _
theorem node_len (a b : By) : (nodeH S a b).length = 32 := hS _
theorem root_len (l : List By) : (rootH S l).length = 32 := by
  by_cases h : 2 ≤ l.length
  · rw [rootH_two S h]; exact node_len hS _ _
  · match l with
    | [] => exact hS _
    | [s] => exact hS _
    | _ :: _ :: _ => simp at h
theorem proof_all : ∀ (n : Nat) (l : List By) (i : Nat), l.length = n → (proofH S l i).all (fun x => decide (x.length = 32)) = true := by
  intro n
  induction n using Nat.strongRecOn with
  | _ n ih =>
    intro l i hl
    by_cases h1 : n ≤ 1
    · rw [proofH_one S (by omega)]; rfl
    · subst hl
      have h2 := lft_lt (n := l.length) (by omega)
      have h3 := lft_pos l.length
      rw [proofH_two S (by omega)]
      split
      · rw [List.all_append, ih _ h2 _ i (by rw [List.length_take]; omega)]; simp [root_len hS]
      · rw [List.all_append, ih (l.length - lft l.length) (by omega) _ _ (by rw [List.length_drop])]; simp [root_len hS]
theorem verify_proof {l : List By} {i : Nat} (h : i < l.length) : verifyH S (rootH S l) l.length i (l.getD i []) (proofH S l i) = true := by
  have := value_proof (S := S) l.length l i rfl h
  simp only [verifyH, Int.toNat_natCast, this, proof_all hS _ l i rfl]
  simp; omega
omit hS in
theorem verify_other {l : List By} {i : Nat} {s : By} {q : List By} (h : i < l.length) (hq : q.length ≠ (proofH S l i).length) (root : By) : verifyH S root l.length i s q = false := by
  have h1 := value_proof (S := S) l.length l i rfl h
  have h2 := value_ok (proofH S l i) q l.length i (l.getD i []) s (by rw [h1])
  have h3 : (valueH S l.length i s q).2 = false := by
    cases hv : (valueH S l.length i s q).2 with
    | false => rfl
    | true => exact absurd (h2.1 hv) hq
  simp [verifyH, h3]

/-! ### extensions -/
omit hS in
theorem both_part : ∀ (n : Nat) (l : List By) (m : Nat) (w : Bool) (old : By), l.length = n → 1 ≤ m → m ≤ n → (w = true → old = rootH S (l.take m)) → bothH S old m n (partH S l m w) w = (rootH S (l.take m), rootH S l, true) := by
  intro n
  induction n using Nat.strongRecOn with
  | _ n ih =>
    intro l m w old hl hm hml hw
    by_cases h1 : m = n
    · subst h1; subst hl
      rw [partH_end, bothH_end]
      cases w with
      | true => simp [hw rfl]
      | false => simp [endH]
    · subst hl
      have h2 := lft_lt (n := l.length) (by omega)
      have h3 := lft_pos l.length
      have h4 := lft_ge (n := l.length) (by omega)
      rw [partH_go S hm (by omega)]
      by_cases h5 : m ≤ lft l.length
      · rw [if_pos h5, bothH_snoc S h1, if_pos h5]
        have e : (l.take (lft l.length)).take m = l.take m := by rw [List.take_take]; congr 1; omega
        have := ih _ h2 (l.take (lft l.length)) m w old (by rw [List.length_take]; omega) hm h5 (fun hh => by rw [e]; exact hw hh)
        rw [e] at this
        rw [this, rootH_two S (l := l) (by omega)]
      · rw [if_neg h5, bothH_snoc S h1, if_neg h5]
        have := ih (l.length - lft l.length) (by omega) (l.drop (lft l.length)) (m - lft l.length) false old (by rw [List.length_drop]) (by omega) (by omega) (by simp)
        rw [this, rootH_two S (l := l) (by omega)]
        have e1 : 2 ≤ (l.take m).length := by rw [List.length_take]; omega
        have e2 : lft (l.take m).length = lft l.length := by
          rw [List.length_take, show min m l.length = m by omega]
          have h6 := lft_lt (n := m) (by omega)
          have h7 := lft_ge (n := m) (by omega)
          unfold lft at *
          congr 1
          rw [Nat.log2_eq_iff (by omega)]
          constructor <;> omega
        rw [rootH_two S e1, e2]
        have e3 : (l.take m).take (lft l.length) = l.take (lft l.length) := by rw [List.take_take]; congr 1; omega
        have e4 : (l.take m).drop (lft l.length) = (l.drop (lft l.length)).take (m - lft l.length) := by rw [List.drop_take]
        rw [e3, e4]
end
end Go.Proofs.YtmcoolbjgeibcaaDoor
/- Plain laws: what binds; the root part by part; no program in sight. -/
namespace Go.Proofs.YtmcoolbjgeibcaaDoor
set_option linter.unusedVariables false
set_option linter.unusedSimpArgs false
section
variable (S : By → By)
/-- The strings that are summed for a proof, from the root on, and the value. -/
def wayF : Nat → Nat → Nat → By → List By → List By × By
  | 0, _, _, s, _ => ([0 :: s], leafH S s)
  | f + 1, n, i, s, p =>
    if n ≤ 1 then ([0 :: s], leafH S s) else
    match p.getLast? with
    | none => ([0 :: s], leafH S s)
    | some x =>
      if i < lft n then ((1 :: ((wayF f (lft n) i s p.dropLast).2 ++ x)) :: (wayF f (lft n) i s p.dropLast).1, nodeH S (wayF f (lft n) i s p.dropLast).2 x)
      else ((1 :: (x ++ (wayF f (n - lft n) (i - lft n) s p.dropLast).2)) :: (wayF f (n - lft n) (i - lft n) s p.dropLast).1, nodeH S x (wayF f (n - lft n) (i - lft n) s p.dropLast).2)
def wayH (n i : Nat) (s : By) (p : List By) : List By × By := wayF S (p.length + 1) n i s p
theorem wayH_one {n i : Nat} {s : By} {p : List By} (h : n ≤ 1) : wayH S n i s p = ([0 :: s], leafH S s) := by rw [wayH, wayF, if_pos h]
theorem wayH_nil {n i : Nat} {s : By} : wayH S n i s [] = ([0 :: s], leafH S s) := by
  rw [wayH, wayF]; split <;> rfl
theorem wayH_snoc {n i : Nat} {s x : By} {p : List By} (h : 2 ≤ n) : wayH S n i s (p ++ [x]) =
    if i < lft n then ((1 :: ((wayH S (lft n) i s p).2 ++ x)) :: (wayH S (lft n) i s p).1, nodeH S (wayH S (lft n) i s p).2 x)
    else ((1 :: (x ++ (wayH S (n - lft n) (i - lft n) s p).2)) :: (wayH S (n - lft n) (i - lft n) s p).1, nodeH S x (wayH S (n - lft n) (i - lft n) s p).2) := by
  rw [wayH, wayF, if_neg (by omega)]
  simp only [List.getLast?_append, List.getLast?_singleton, Option.some_or, List.dropLast_concat, List.length_append, List.length_singleton]
  rfl
/-- Two different strings at the same index, with the same digest. -/
def Coll (a b : List By) : Prop := ∃ (i : Nat) (x y : By), a[i]? = some x ∧ b[i]? = some y ∧ x ≠ y ∧ S x = S y
def collH (a b : List By) : Bool := (List.range (min a.length b.length)).any fun i => !decide (a.getD i [] = b.getD i []) && decide (S (a.getD i []) = S (b.getD i []))
variable {S}
theorem coll_head {x y : By} {a b : List By} (h : x ≠ y) (e : S x = S y) : Coll S (x :: a) (y :: b) := ⟨0, x, y, rfl, rfl, h, e⟩
theorem coll_tail {x y : By} {a b : List By} (h : Coll S a b) : Coll S (x :: a) (y :: b) := let ⟨i, p, q, h1, h2, h3, h4⟩ := h; ⟨i + 1, p, q, by simpa using h1, by simpa using h2, h3, h4⟩
theorem collH_iff {a b : List By} : collH S a b = true ↔ Coll S a b := by
  simp only [collH, List.any_eq_true, List.mem_range, Bool.and_eq_true, Bool.not_eq_true', decide_eq_false_iff_not, decide_eq_true_eq]
  constructor
  · rintro ⟨i, hi, h1, h2⟩
    have ha : i < a.length := by omega
    have hb : i < b.length := by omega
    simp only [List.getD_eq_getElem?_getD, List.getElem?_eq_getElem ha, List.getElem?_eq_getElem hb, Option.getD_some] at h1 h2
    exact ⟨i, _, _, List.getElem?_eq_getElem ha, List.getElem?_eq_getElem hb, h1, h2⟩
  · rintro ⟨i, x, y, h1, h2, h3, h4⟩
    have ha := (List.getElem?_eq_some_iff.1 h1).1
    have hb := (List.getElem?_eq_some_iff.1 h2).1
    exact ⟨i, by omega, by simp only [List.getD_eq_getElem?_getD, h1, h2, Option.getD_some]; exact h3, by simp only [List.getD_eq_getElem?_getD, h1, h2, Option.getD_some]; exact h4⟩
theorem way_value : ∀ (p : List By) (n i : Nat) (s : By), (valueH S n i s p).2 = true → (wayH S n i s p).2 = (valueH S n i s p).1 := by
  intro p
  induction hp : p.length generalizing p with
  | zero =>
    intro n i s h
    obtain rfl : p = [] := List.eq_nil_of_length_eq_zero hp
    by_cases h1 : n ≤ 1
    · rw [wayH_nil, valueH_one S h1]
    · rw [valueH_nil S (by omega)] at h; cases h
  | succ k ih =>
    intro n i s h
    rcases List.eq_nil_or_concat p with rfl | ⟨p, x, rfl⟩
    · simp at hp
    rw [List.concat_eq_append] at *
    have hk : p.length = k := by simpa using hp
    by_cases h1 : n ≤ 1
    · rw [wayH_one S h1, valueH_one S h1]
    · rw [wayH_snoc S (by omega), valueH_snoc S (by omega)]
      rw [valueH_snoc S (by omega)] at h
      split
      · rename_i h2
        rw [if_pos h2] at h
        rw [ih p hk _ _ _ h]
      · rename_i h2
        rw [if_neg h2] at h
        rw [ih p hk _ _ _ h]
variable (hS : ∀ s, (S s).length = 32)
include hS
theorem way_len (p : List By) (n i : Nat) (s : By) : (wayH S n i s p).2.length = 32 := by
  rcases List.eq_nil_or_concat p with rfl | ⟨p, x, rfl⟩
  · rw [wayH_nil]; exact hS _
  · rw [List.concat_eq_append]
    by_cases h1 : n ≤ 1
    · rw [wayH_one S h1]; exact hS _
    · rw [wayH_snoc S (by omega)]; split <;> exact hS _
theorem way_bind : ∀ (p q : List By) (n i : Nat) (s t : By), p.length = q.length → (∀ x ∈ p, x.length = 32) → (∀ x ∈ q, x.length = 32) → (wayH S n i s p).2 = (wayH S n i t q).2 → s ≠ t → Coll S (wayH S n i s p).1 (wayH S n i t q).1 := by
  intro p
  induction hp : p.length generalizing p with
  | zero =>
    intro q n i s t hl _ _ he hne
    obtain rfl : p = [] := List.eq_nil_of_length_eq_zero hp
    obtain rfl : q = [] := List.eq_nil_of_length_eq_zero (by omega)
    rw [wayH_nil, wayH_nil] at *
    exact coll_head (by simpa using hne) he
  | succ k ih =>
    intro q n i s t hl h1 h2 he hne
    rcases List.eq_nil_or_concat p with rfl | ⟨p, x, rfl⟩
    · simp at hp
    rcases List.eq_nil_or_concat q with rfl | ⟨q, y, rfl⟩
    · simp at hl
    rw [List.concat_eq_append] at *
    rw [List.concat_eq_append] at *
    have hk : p.length = k := by simpa using hp
    have hpq : k = q.length := by simpa using hl
    have hx : x.length = 32 := h1 x (by simp)
    have hy : y.length = 32 := h2 y (by simp)
    by_cases h3 : n ≤ 1
    · rw [wayH_one S h3, wayH_one S h3] at *
      exact coll_head (by simpa using hne) he
    · rw [wayH_snoc S (by omega), wayH_snoc S (by omega)] at *
      by_cases h4 : i < lft n
      · simp only [h4, if_true] at he ⊢
        by_cases h5 : (1 :: ((wayH S (lft n) i s p).2 ++ x) : By) = 1 :: ((wayH S (lft n) i t q).2 ++ y)
        · have h6 := List.append_inj (by simpa using h5) (by rw [way_len hS, way_len hS])
          exact coll_tail (ih p hk q _ _ _ _ hpq (fun z hz => h1 z (by simp [hz])) (fun z hz => h2 z (by simp [hz])) h6.1 hne)
        · exact coll_head h5 he
      · simp only [h4, if_false] at he ⊢
        by_cases h5 : (1 :: (x ++ (wayH S (n - lft n) (i - lft n) s p).2) : By) = 1 :: (y ++ (wayH S (n - lft n) (i - lft n) t q).2)
        · have h6 := List.append_inj (by simpa using h5) (by rw [hx, hy])
          exact coll_tail (ih p hk q _ _ _ _ hpq (fun z hz => h1 z (by simp [hz])) (fun z hz => h2 z (by simp [hz])) h6.2 hne)
        · exact coll_head h5 he
omit hS in
theorem verify_parts {root s : By} {n i : Int} {p : List By} (h : verifyH S root n i s p = true) : 0 ≤ i ∧ i < n ∧ (∀ x ∈ p, x.length = 32) ∧ (valueH S n.toNat i.toNat s p).2 = true ∧ (valueH S n.toNat i.toNat s p).1 = root := by
  simp only [verifyH, Bool.and_eq_true, decide_eq_true_eq, List.all_eq_true] at h
  exact ⟨h.1.1.1.1, h.1.1.1.2, h.1.1.2, h.1.2, h.2⟩
theorem binding {root s t : By} {n i : Int} {p q : List By} (h1 : verifyH S root n i s p = true) (h2 : verifyH S root n i t q = true) (hne : s ≠ t) : collH S (wayH S n.toNat i.toNat s p).1 (wayH S n.toNat i.toNat t q).1 = true := by
  obtain ⟨_, _, a3, a4, a5⟩ := verify_parts h1
  obtain ⟨_, _, b3, b4, b5⟩ := verify_parts h2
  rw [collH_iff]
  have hl := (value_ok p q n.toNat i.toNat s t a4).1 b4
  exact way_bind hS p q _ _ s t hl.symm a3 b3 (by rw [way_value p _ _ _ a4, way_value q _ _ _ b4, a5, b5]) hne
end
end Go.Proofs.YtmcoolbjgeibcaaDoor
/- Plain laws: chains; extensions are accepted and bind; the root off complete parts; no program in sight. -/
namespace Go.Proofs.YtmcoolbjgeibcaaDoor
set_option linter.unusedVariables false
set_option linter.unusedSimpArgs false
section
variable (S : By → By)
def zero32 : By := List.replicate 32 0
/-- The strings that are summed for the head of a list of records, the last one first, and the head. -/
def headsH (l : List By) : List By × By := l.foldl (fun o r => ((2 :: (o.2 ++ r)) :: o.1, chainH S o.2 r)) ([], zero32)
theorem headsH_snoc (l : List By) (r : By) : headsH S (l ++ [r]) = ((2 :: ((headsH S l).2 ++ r)) :: (headsH S l).1, chainH S (headsH S l).2 r) := by
  unfold headsH; rw [List.foldl_append]; rfl
theorem headsH_len (l : List By) : (headsH S l).1.length = l.length := by
  induction hl : l.length generalizing l with
  | zero => obtain rfl : l = [] := List.eq_nil_of_length_eq_zero hl; rfl
  | succ n ih =>
    rcases List.eq_nil_or_concat l with rfl | ⟨l, x, rfl⟩
    · simp at hl
    · rw [List.concat_eq_append, headsH_snoc]; simp; exact ih l (by simpa using hl)
variable {S}
variable (hS : ∀ s, (S s).length = 32)
include hS
theorem headsH_32 (l : List By) : (headsH S l).2.length = 32 := by
  rcases List.eq_nil_or_concat l with rfl | ⟨l, x, rfl⟩
  · rfl
  · rw [List.concat_eq_append, headsH_snoc]; exact hS _
/-- Two lists with the same head: the same list, or a collision, or a string whose digest is zero32. -/
theorem heads_bind : ∀ (n : Nat) (a b : List By), a.length + b.length = n → (headsH S a).2 = (headsH S b).2 → a ≠ b →
    Coll S (headsH S a).1 (headsH S b).1 ∨ (a.length < b.length ∧ (headsH S b).1[a.length]?.map S = some zero32) ∨ (b.length < a.length ∧ (headsH S a).1[b.length]?.map S = some zero32) := by
  intro n
  induction n using Nat.strongRecOn with
  | _ n ih =>
    intro a b hn he hne
    rcases List.eq_nil_or_concat a with rfl | ⟨a, x, rfl⟩
    · rcases List.eq_nil_or_concat b with rfl | ⟨b, y, rfl⟩
      · exact absurd rfl hne
      · rw [List.concat_eq_append] at *
        refine .inr (.inl ⟨by simp, ?_⟩)
        rw [headsH_snoc] at he ⊢
        simp only [List.length_nil, List.getElem?_cons_zero, Option.map_some]
        exact congrArg some he.symm
    · rcases List.eq_nil_or_concat b with rfl | ⟨b, y, rfl⟩
      · rw [List.concat_eq_append] at *
        refine .inr (.inr ⟨by simp, ?_⟩)
        rw [headsH_snoc] at he ⊢
        simp only [List.length_nil, List.getElem?_cons_zero, Option.map_some]
        exact congrArg some he
      · rw [List.concat_eq_append] at *
        rw [List.concat_eq_append] at *
        rw [headsH_snoc, headsH_snoc] at *
        by_cases h : (2 :: ((headsH S a).2 ++ x) : By) = 2 :: ((headsH S b).2 ++ y)
        · have h1 := List.append_inj (by simpa using h) (by rw [headsH_32 hS, headsH_32 hS])
          have h2 : a ≠ b := fun e => hne (by rw [e, h1.2])
          rcases ih (a.length + b.length) (by simp at hn; omega) a b rfl h1.1 h2 with h3 | ⟨h3, h4⟩ | ⟨h3, h4⟩
          · exact .inl (coll_tail h3)
          · exact .inr (.inl ⟨by simpa using h3, by simpa using h4⟩)
          · exact .inr (.inr ⟨by simpa using h3, by simpa using h4⟩)
        · exact .inl (coll_head h he)

/-! ### extensions -/
theorem part_all : ∀ (n : Nat) (l : List By) (m : Nat) (w : Bool), l.length = n → 1 ≤ m → m ≤ n → (partH S l m w).all (fun x => decide (x.length = 32)) = true := by
  intro n
  induction n using Nat.strongRecOn with
  | _ n ih =>
    intro l m w hl hm hml
    by_cases h1 : m = n
    · subst h1; subst hl
      rw [partH_end]
      cases w <;> simp [root_len hS]
    · subst hl
      have h2 := lft_lt (n := l.length) (by omega)
      have h3 := lft_pos l.length
      rw [partH_go S hm (by omega)]
      split
      · rw [List.all_append, ih _ h2 _ m w (by rw [List.length_take]; omega) hm (by assumption)]; simp [root_len hS]
      · rw [List.all_append, ih (l.length - lft l.length) (by omega) _ _ _ (by rw [List.length_drop]) (by omega) (by omega)]; simp [root_len hS]
omit hS in
theorem part_len : ∀ (n : Nat) (l : List By) (m a : Nat) (w : Bool), l.length = n → 1 ≤ m → m ≤ n → n ≤ 2 ^ a → (partH S l m w).length ≤ a + 1 := by
  intro n
  induction n using Nat.strongRecOn with
  | _ n ih =>
    intro l m a w hl hm hml ha
    by_cases h1 : m = n
    · subst h1; subst hl
      rw [partH_end]
      cases w <;> simp
    · subst hl
      have h2 := lft_lt (n := l.length) (by omega)
      have h3 := lft_pos l.length
      have h4 := lft_ge (n := l.length) (by omega)
      have h5 := lft_log ha (by omega)
      rw [partH_go S hm (by omega)]
      split
      · have := ih _ h2 (l.take (lft l.length)) m (Nat.log2 (l.length - 1)) w (by rw [List.length_take]; omega) hm (by assumption) (Nat.le_refl _)
        simp; omega
      · have := ih (l.length - lft l.length) (by omega) (l.drop (lft l.length)) (m - lft l.length) (Nat.log2 (l.length - 1)) false (by rw [List.length_drop]) (by omega) (by omega) (by show _ ≤ lft l.length; omega)
        simp; omega
omit hS in
theorem ext_len {l : List By} {m : Nat} (h : m ≤ l.length) : (extH S l m).length ≤ 2 * (if l.length = 0 then 0 else Nat.log2 l.length + 1) := by
  unfold extH
  by_cases h0 : m = 0
  · rw [if_pos h0]; simp
  · rw [if_neg h0]
    have := part_len (S := S) l.length l m (Nat.log2 l.length + 1) true rfl (by omega) h (Nat.le_of_lt Nat.lt_log2_self)
    rw [if_neg (by omega)]; omega
theorem verify_ext {l : List By} {m : Nat} (h : m ≤ l.length) : verifyExtH S (rootH S (l.take m)) m (rootH S l) l.length (extH S l m) = true := by
  unfold verifyExtH extH
  by_cases h0 : m = 0
  · subst h0
    rw [if_neg (by simp [root_len hS])]
    simp [rootH_nil]
  · rw [if_neg h0, if_neg (by
      have := part_all hS l.length l m true rfl (by omega) h
      simp [root_len hS, this]; omega), if_neg (by omega)]
    by_cases h1 : m = l.length
    · subst h1
      rw [if_pos rfl, partH_end]; simp
    · rw [if_neg (by omega), Int.toNat_natCast, Int.toNat_natCast, both_part (S := S) l.length l m true _ rfl (by omega) h (fun _ => rfl)]
      simp
omit hS in
variable (S) in
/-- The strings that are summed for the new root of an extension, from the root on, and the value. -/
def sidesF : Nat → By → Nat → Nat → List By → Bool → List By × By
  | 0, old, _, _, _, _ => ([], old)
  | f + 1, old, m, n, p, whole =>
    if n ≤ m ∨ p = [] then ([], if whole ∨ p = [] then old else p.headD []) else
    match p.getLast? with
    | none => ([], old)
    | some x =>
      if m ≤ lft n then ((1 :: ((sidesF f old m (lft n) p.dropLast whole).2 ++ x)) :: (sidesF f old m (lft n) p.dropLast whole).1, nodeH S (sidesF f old m (lft n) p.dropLast whole).2 x)
      else ((1 :: (x ++ (sidesF f old (m - lft n) (n - lft n) p.dropLast false).2)) :: (sidesF f old (m - lft n) (n - lft n) p.dropLast false).1, nodeH S x (sidesF f old (m - lft n) (n - lft n) p.dropLast false).2)
omit hS in
variable (S) in
def sidesH (old : By) (m n : Nat) (p : List By) (w : Bool) : List By × By := sidesF S (p.length + 1) old m n p w
omit hS in
theorem sidesH_end {old : By} {m n : Nat} {p : List By} {w : Bool} (h : n ≤ m ∨ p = []) : sidesH S old m n p w = ([], if w ∨ p = [] then old else p.headD []) := by rw [sidesH, sidesF, if_pos h]
omit hS in
theorem sidesH_snoc {old x : By} {m n : Nat} {p : List By} {w : Bool} (h : m < n) : sidesH S old m n (p ++ [x]) w =
    if m ≤ lft n then ((1 :: ((sidesH S old m (lft n) p w).2 ++ x)) :: (sidesH S old m (lft n) p w).1, nodeH S (sidesH S old m (lft n) p w).2 x)
    else ((1 :: (x ++ (sidesH S old (m - lft n) (n - lft n) p false).2)) :: (sidesH S old (m - lft n) (n - lft n) p false).1, nodeH S x (sidesH S old (m - lft n) (n - lft n) p false).2) := by
  rw [sidesH, sidesF, if_neg (by simp; omega)]
  simp only [List.getLast?_append, List.getLast?_singleton, Option.some_or, List.dropLast_concat, List.length_append, List.length_singleton]
  rfl
theorem sides_len {old : By} (ho : old.length = 32) : ∀ (p : List By) (m n : Nat) (w : Bool), (∀ x ∈ p, x.length = 32) → (sidesH S old m n p w).2.length = 32 := by
  intro p m n w hp
  rcases List.eq_nil_or_concat p with rfl | ⟨p, x, rfl⟩
  · rw [sidesH_end (.inr rfl)]; simp [ho]
  · rw [List.concat_eq_append] at *
    by_cases h : n ≤ m
    · rw [sidesH_end (.inl h)]
      simp only
      split
      · exact ho
      · cases p with
        | nil => exact hp x (by simp)
        | cons a p => exact hp a (by simp)
    · rw [sidesH_snoc (by omega)]; split <;> exact hS _
theorem sides_bind {a b : By} (ha : a.length = 32) (hb : b.length = 32) : ∀ (p q : List By) (m n : Nat) (w : Bool), 1 ≤ m → m ≤ n → (∀ x ∈ p, x.length = 32) → (∀ x ∈ q, x.length = 32) → (bothH S a m n p w).2.2 = true → (bothH S b m n q w).2.2 = true →
    (sidesH S a m n p w).2 = (bothH S a m n p w).2.1 ∧ (sidesH S b m n q w).2 = (bothH S b m n q w).2.1 ∧
    ((bothH S a m n p w).2.1 = (bothH S b m n q w).2.1 → Coll S (sidesH S a m n p w).1 (sidesH S b m n q w).1 ∨ (bothH S a m n p w).1 = (bothH S b m n q w).1) := by
  intro p
  induction hpl : p.length generalizing p with
  | zero =>
    intro q m n w hm hmn h1 h2 o1 o2
    obtain rfl : p = [] := List.eq_nil_of_length_eq_zero hpl
    by_cases hmn2 : m = n
    · subst hmn2
      rw [bothH_end] at *
      rw [bothH_end] at *
      cases w with
      | true =>
        simp only [if_true] at *
        have : q = [] := by simpa using o2
        subst this
        rw [sidesH_end (.inr rfl), sidesH_end (.inr rfl)]; simp; exact fun h => .inr h
      | false => simp [endH] at o1
    · rw [bothH_nil S hmn2] at o1; cases o1
  | succ k ih =>
    intro q m n w hm hmn h1 h2 o1 o2
    by_cases hmn2 : m = n
    · subst hmn2
      rw [bothH_end] at *
      rw [bothH_end] at *
      cases w with
      | true => simp only [if_true] at o1; obtain rfl : p = [] := by simpa using o1
                simp at hpl
      | false =>
        simp only [Bool.false_eq_true, if_false] at *
        have e : ∀ r : List By, (endH r).2.2 = true → ∃ x, r = [x] := by
          intro r h
          match r with
          | [x] => exact ⟨x, rfl⟩
          | [] => cases h
          | _ :: _ :: _ => cases h
        obtain ⟨x, rfl⟩ := e p o1
        obtain ⟨y, rfl⟩ := e q o2
        rw [sidesH_end (.inl (Nat.le_refl _)), sidesH_end (.inl (Nat.le_refl _))]
        simp [endH]; exact fun h => .inr h
    · rcases List.eq_nil_or_concat p with rfl | ⟨p, x, rfl⟩
      · simp at hpl
      rcases List.eq_nil_or_concat q with rfl | ⟨q, y, rfl⟩
      · rw [bothH_nil S hmn2] at o2; cases o2
      rw [List.concat_eq_append] at *
      rw [List.concat_eq_append] at *
      have hk : p.length = k := by simpa using hpl
      have hx : x.length = 32 := h1 x (by simp)
      have hy : y.length = 32 := h2 y (by simp)
      have g1 : ∀ z ∈ p, z.length = 32 := fun z hz => h1 z (by simp [hz])
      have g2 : ∀ z ∈ q, z.length = 32 := fun z hz => h2 z (by simp [hz])
      rw [bothH_snoc S hmn2] at *
      rw [bothH_snoc S hmn2] at *
      rw [sidesH_snoc (by omega), sidesH_snoc (by omega)]
      have h3 := lft_pos n
      have h4 := lft_lt (n := n) (by omega)
      by_cases h5 : m ≤ lft n
      · simp only [if_pos h5] at *
        obtain ⟨i1, i2, i3⟩ := ih p hk q m (lft n) w hm h5 g1 g2 o1 o2
        refine ⟨by rw [i1], by rw [i2], fun he => ?_⟩
        by_cases h6 : (1 :: ((sidesH S a m (lft n) p w).2 ++ x) : By) = 1 :: ((sidesH S b m (lft n) q w).2 ++ y)
        · have h7 := List.append_inj (by simpa using h6) (by rw [sides_len hS ha _ _ _ _ g1, sides_len hS hb _ _ _ _ g2])
          rcases i3 (by rw [← i1, ← i2, h7.1]) with h8 | h8
          · exact .inl (coll_tail h8)
          · exact .inr h8
        · refine .inl (coll_head h6 ?_)
          rw [i1, i2]; exact he
      · simp only [if_neg h5] at *
        obtain ⟨i1, i2, i3⟩ := ih p hk q (m - lft n) (n - lft n) false (by omega) (by omega) g1 g2 o1 o2
        refine ⟨by rw [i1], by rw [i2], fun he => ?_⟩
        by_cases h6 : (1 :: (x ++ (sidesH S a (m - lft n) (n - lft n) p false).2) : By) = 1 :: (y ++ (sidesH S b (m - lft n) (n - lft n) q false).2)
        · have h7 := List.append_inj (by simpa using h6) (by rw [hx, hy])
          rcases i3 (by rw [← i1, ← i2, h7.2]) with h8 | h8
          · exact .inl (coll_tail h8)
          · exact .inr (by rw [h8, h7.1])
        · refine .inl (coll_head h6 ?_)
          rw [i1, i2]; exact he
theorem ext_binding {a b root : By} {m n : Int} {p q : List By} (h1 : verifyExtH S a m root n p = true) (h2 : verifyExtH S b m root n q = true) (hne : a ≠ b) : collH S (sidesH S a m.toNat n.toNat p true).1 (sidesH S b m.toNat n.toNat q true).1 = true := by
  have parts : ∀ {old : By} {p : List By}, verifyExtH S old m root n p = true → 0 ≤ m ∧ m ≤ n ∧ (∀ x ∈ p, x.length = 32) ∧ old.length = 32 ∧ ((m = 0 ∧ old = S []) ∨ (m = n ∧ old = root) ∨ (1 ≤ m ∧ m < n ∧ (bothH S old m.toNat n.toNat p true).2.2 = true ∧ (bothH S old m.toNat n.toNat p true).1 = old ∧ (bothH S old m.toNat n.toNat p true).2.1 = root)) := by
    intro old p h
    unfold verifyExtH at h
    split at h
    · cases h
    · rename_i hc
      simp only [not_or, Int.not_lt, Bool.not_eq_false, Classical.not_not, List.all_eq_true, decide_eq_true_eq] at hc
      obtain ⟨c1, c2, c3, c4, c5⟩ := hc
      refine ⟨c1, c2, c3, c4, ?_⟩
      split at h
      · simp only [Bool.and_eq_true, decide_eq_true_eq] at h
        exact .inl ⟨by assumption, h.2⟩
      · split at h
        · simp only [Bool.and_eq_true, decide_eq_true_eq] at h
          exact .inr (.inl ⟨by assumption, h.2⟩)
        · simp only [Bool.and_eq_true, decide_eq_true_eq] at h
          exact .inr (.inr ⟨by omega, by omega, h.1.1, h.1.2, h.2⟩)
  obtain ⟨a1, a2, a3, a4, a5⟩ := parts h1
  obtain ⟨b1, b2, b3, b4, b5⟩ := parts h2
  rw [collH_iff]
  rcases a5 with ⟨e, e1⟩ | ⟨e, e1⟩ | ⟨e1, e2, e3, e4, e5⟩
  · rcases b5 with ⟨f, f1⟩ | ⟨f, f1⟩ | ⟨f1, f2, f3, f4, f5⟩
    · exact absurd (e1.trans f1.symm) hne
    · have : root.length = 32 ∧ p = [] ∧ root = S [] := by
        unfold verifyExtH at h2
        split at h2
        · cases h2
        · rename_i hc
          simp only [not_or, Classical.not_not] at hc
          try rw [if_pos e] at h2
          simp only [Bool.and_eq_true, decide_eq_true_eq] at h2
          exact absurd (e1.trans h2.2.symm) hne
      exact absurd (e1.trans (this.2.2.symm.trans f1.symm)) hne
    · omega
  · rcases b5 with ⟨f, f1⟩ | ⟨f, f1⟩ | ⟨f1, f2, f3, f4, f5⟩
    · unfold verifyExtH at h1
      split at h1
      · cases h1
      · try rw [if_pos f] at h1
        simp only [Bool.and_eq_true, decide_eq_true_eq] at h1
        exact absurd (h1.2.trans f1.symm) hne
    · exact absurd (e1.trans f1.symm) hne
    · omega
  · rcases b5 with ⟨f, f1⟩ | ⟨f, f1⟩ | ⟨f1, f2, f3, f4, f5⟩
    · omega
    · omega
    · obtain ⟨_, _, h⟩ := sides_bind hS a4 b4 p q m.toNat n.toNat true (by omega) (by omega) a3 b3 e3 f3
      rcases h (by rw [e5, f5]) with h | h
      · exact h
      · rw [e4, f4] at h; exact absurd h hne
end
end Go.Proofs.YtmcoolbjgeibcaaDoor
/- Plain law of Root: a stack of complete parts, merged while two are of one size, gives the tree's root; no program in sight. -/
namespace Go.Proofs.YtmcoolbjgeibcaaDoor
set_option linter.unusedVariables false
set_option linter.unusedSimpArgs false
theorem pow_lt_two {s t : Nat} (hs : ∃ a, s = 2 ^ a) (ht : ∃ a, t = 2 ^ a) (h : s < t) : 2 * s ≤ t := by
  obtain ⟨a, rfl⟩ := hs
  obtain ⟨b, rfl⟩ := ht
  have : a < b := (Nat.pow_lt_pow_iff_right (by decide)).1 h
  calc 2 * 2 ^ a = 2 ^ (a + 1) := by rw [Nat.pow_succ, Nat.mul_comm]
    _ ≤ 2 ^ b := Nat.pow_le_pow_right (by decide) this
theorem lft_pow {a m : Nat} (h0 : 0 < m) (h : m ≤ 2 ^ a) : lft (2 ^ a + m) = 2 ^ a := by
  unfold lft
  congr 1
  exact (Nat.log2_eq_iff (by omega)).2 ⟨by omega, by rw [Nat.pow_succ]; omega⟩
section
variable (S : By → By)
theorem root_parts {c d : List By} {a : Nat} (hc : c.length = 2 ^ a) (h0 : 0 < d.length) (hd : d.length ≤ 2 ^ a) : rootH S (c ++ d) = nodeH S (rootH S c) (rootH S d) := by
  have hp : 0 < 2 ^ a := Nat.pow_pos (by decide)
  have hl : lft (c ++ d).length = c.length := by rw [List.length_append, hc]; exact lft_pow h0 hd
  rw [rootH_two S (by rw [List.length_append]; omega), hl, List.take_left, List.drop_left]
/-- The stack, its top first: roots and sizes of complete parts that make up l. -/
def Stk : List (By × Nat) → List By → Prop
  | [], l => l = []
  | x :: st, l => ∃ l1 c, l = l1 ++ c ∧ c.length = x.2 ∧ (∃ a, x.2 = 2 ^ a) ∧ x.1 = rootH S c ∧ Stk st l1
def incr : List (By × Nat) → Prop
  | [] => True
  | [_] => True
  | x :: y :: st => x.2 < y.2 ∧ incr (y :: st)
/-- In order but for the top, which may be of the next one's size. -/
def incrW : List (By × Nat) → Prop
  | [] => True
  | [_] => True
  | x :: y :: st => x.2 ≤ y.2 ∧ incr (y :: st)
theorem incr.tail {x : By × Nat} {st : List (By × Nat)} (h : incr (x :: st)) : incr st := by
  cases st with
  | nil => trivial
  | cons y st => exact h.2
theorem Stk.pow {x : By × Nat} {st : List (By × Nat)} {l : List By} (h : Stk S (x :: st) l) : ∃ a, x.2 = 2 ^ a := by
  obtain ⟨_, _, _, _, hp, _⟩ := h; exact hp
theorem Stk.push {st : List (By × Nat)} {l : List By} (h : Stk S st l) (hi : incr st) (e : By) : Stk S ((leafH S e, 1) :: st) (l ++ [e]) ∧ incrW ((leafH S e, 1) :: st) := by
  refine ⟨⟨l, [e], rfl, rfl, ⟨0, rfl⟩, (rootH_one S e).symm, h⟩, ?_⟩
  cases st with
  | nil => trivial
  | cons y st =>
    obtain ⟨a, ha⟩ := Stk.pow S h
    exact ⟨by show 1 ≤ y.2; rw [ha]; exact Nat.pow_pos (by decide), hi⟩
theorem Stk.merge {r1 r2 : By} {s : Nat} {st : List (By × Nat)} {l : List By} (h : Stk S ((r2, s) :: (r1, s) :: st) l) (hi : incrW ((r2, s) :: (r1, s) :: st)) :
    Stk S ((nodeH S r1 r2, 2 * s) :: st) l ∧ incrW ((nodeH S r1 r2, 2 * s) :: st) := by
  obtain ⟨l1, c, rfl, hc, ⟨a, ha⟩, hr, l2, d, rfl, hd, hp, hq, hst⟩ := h
  simp only at hc hd ha hp hr hq
  subst hr hq
  have h0 : 0 < s := by rw [ha]; exact Nat.pow_pos (by decide)
  refine ⟨⟨l2, d ++ c, by rw [List.append_assoc], by show (d ++ c).length = 2 * s; rw [List.length_append]; omega, ⟨a + 1, by show 2 * s = 2 ^ (a + 1); rw [ha, Nat.pow_succ, Nat.mul_comm]⟩, (root_parts S (hd.trans ha) (by omega) (by omega)).symm, hst⟩, ?_⟩
  cases st with
  | nil => trivial
  | cons y st =>
    have h1 : s < y.2 := hi.2.1
    exact ⟨pow_lt_two ⟨a, ha⟩ (Stk.pow S hst) h1, hi.2.2⟩
theorem incrW.strict {st : List (By × Nat)} (h : incrW st) (hn : ∀ x y t, st = x :: y :: t → x.2 ≠ y.2) : incr st := by
  match st, h with
  | [], _ => trivial
  | [_], _ => trivial
  | x :: y :: t, h => exact ⟨Nat.lt_of_le_of_ne h.1 (hn x y t rfl), h.2⟩
theorem fold_root : ∀ (st : List (By × Nat)) (l1 d : List By), Stk S st l1 → incr st → 0 < d.length → (∀ y t, st = y :: t → d.length ≤ y.2) → st.foldl (fun o x => nodeH S x.1 o) (rootH S d) = rootH S (l1 ++ d)
  | [], l1, d, h, _, _, _ => by
    obtain rfl : l1 = [] := h
    rfl
  | x :: st, l1, d, h, hi, h0, hd => by
    obtain ⟨l2, c, rfl, hc, ⟨a, ha⟩, hr, hst⟩ := h
    have hle := hd x st rfl
    rw [List.foldl_cons, hr, ← root_parts S (hc.trans ha) h0 (by omega), fold_root st l2 (c ++ d) hst hi.tail (by rw [List.length_append]; omega) (fun y t e => ?_), List.append_assoc]
    subst e
    have := pow_lt_two ⟨a, ha⟩ (Stk.pow S hst) hi.1
    rw [List.length_append]; omega
/-- ROOT: what the stack gives. -/
theorem stack_root {x : By × Nat} {st : List (By × Nat)} {l : List By} (h : Stk S (x :: st) l) (hi : incr (x :: st)) : st.foldl (fun o y => nodeH S y.1 o) x.1 = rootH S l := by
  obtain ⟨l1, c, rfl, hc, ⟨a, ha⟩, hr, hst⟩ := h
  rw [hr]
  refine fold_root S st l1 c hst hi.tail (by rw [hc, ha]; exact Nat.pow_pos (by decide)) fun y t e => ?_
  subst e
  have := hi.1
  omega
end
end Go.Proofs.YtmcoolbjgeibcaaDoor
