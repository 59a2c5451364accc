/- Texts joined: ClaimP, ClaimM, ClaimN, ClaimO, ClaimA, ClaimB, ClaimC, ClaimD, ClaimE, ClaimF, ClaimG, ClaimH. -/
import GoSem.Core.Value
import Derived.Test.YtmmfieceinmloaaGreatDoorRows
import Derived.Test.YtmmfieceinmloaaGreatDoorPVA
namespace Go.Proofs.YtmmfieceinmloaaGreatDoor.K16
def pick (c n : Int) : Int := (if c < 0 then -(c + 1) else c) % n
def isIn (n lo hi : Int) : Bool := decide (lo ≤ n) && decide (n ≤ hi)
structure Rul where
 answer : Int
 cooling : Int
 settle : Int
 reverse : Int
structure Clm where
 number : Int
 frm : Int
 to : Int
 holder : Int
 asked : Int
 backed : Bool
structure Evt where
 kind : Int
 at_ : Int
 reason : Int
structure Stt where
 state : Int
 since : Int
 next : Int
 deriving DecidableEq
def Rul.cells (r : Rul) : List Value := [.int .i64 r.answer, .int .i64 r.cooling, .int .i64 r.settle, .int .i64 r.reverse]
def Clm.cells (c : Clm) : List Value := [.int .i64 c.number, .int .i64 c.frm, .int .i64 c.to, .int .i64 c.holder, .int .i64 c.asked, .bool c.backed]
def Evt.cells (e : Evt) : List Value := [.int .i64 e.kind, .int .i64 e.at_, .int .i64 e.reason]
def Stt.cells (s : Stt) : List Value := [.int .i64 s.state, .int .i64 s.since, .int .i64 s.next]
def Rul.val (r : Rul) : Value := .agg #[.int .i64 r.answer, .int .i64 r.cooling, .int .i64 r.settle, .int .i64 r.reverse]
def Clm.val (c : Clm) : Value := .agg #[.int .i64 c.number, .int .i64 c.frm, .int .i64 c.to, .int .i64 c.holder, .int .i64 c.asked, .bool c.backed]
def Stt.val (s : Stt) : Value := .agg #[.int .i64 s.state, .int .i64 s.since, .int .i64 s.next]
def aW (r : Rul) : Bool := isIn r.answer 1 1000000 && isIn r.settle 1 1000000 && isIn r.cooling 1 1000000 && isIn r.reverse 1 1000000
def bH (c : Clm) : Bool := isIn c.number 0 99999999 && isIn c.frm 0 7 && isIn c.to 0 7 && !decide (c.frm = c.to) && isIn c.holder 0 63 && isIn c.asked 0 10000000
def badEvt (last : Int) (e : Evt) : Bool :=
 !isIn e.kind 1 6 || !isIn e.at_ last 20000000 || !(if e.kind = 2 ∨ e.kind = 6 then isIn e.reason 1 9 else isIn e.reason 0 0)
def anyBad (last : Int) : List Evt → Bool
 | [] => false
 | e :: l => badEvt last e || anyBad e.at_ l
def valid (r : Rul) (c : Clm) (l : List Evt) : Bool := aW r && bH c && decide (l.length ≤ 20) && !anyBad c.asked l
def ends (r : Rul) (c : Clm) : Int := c.asked + r.answer - 1 + r.settle + r.cooling + r.reverse
def lastAt (asked : Int) (l : List Evt) (k : Nat) : Int :=
 match k with
 | 0 => asked
 | k + 1 => (l.getD k ⟨0, 0, 0⟩).at_
theorem i8 (l : List Evt) : ∀ asked, ((List.range l.length).any fun k => badEvt (lastAt asked l k) (l.getD k ⟨0, 0, 0⟩)) = anyBad asked l := by
 induction l with
 | nil => intro asked; rfl
 | cons e l ih =>
  intro asked
  rw [List.length_cons, List.range_succ_eq_map, List.any_cons, List.any_map, anyBad]
  congr 1
  rw [← ih e.at_]
  congr 1
  funext k
  cases k <;> simp [lastAt]
theorem bP {r : Rul} (h : aW r = true) : (1 ≤ r.answer ∧ r.answer ≤ 1000000) ∧ (1 ≤ r.settle ∧ r.settle ≤ 1000000) ∧ (1 ≤ r.cooling ∧ r.cooling ≤ 1000000) ∧ (1 ≤ r.reverse ∧ r.reverse ≤ 1000000) := by
 simp only [aW, isIn, Bool.and_eq_true, decide_eq_true_eq] at h
 omega
theorem cH {c : Clm} (h : bH c = true) : (0 ≤ c.number ∧ c.number ≤ 99999999) ∧ (0 ≤ c.frm ∧ c.frm ≤ 7) ∧ (0 ≤ c.to ∧ c.to ≤ 7) ∧ c.frm ≠ c.to ∧ (0 ≤ c.holder ∧ c.holder ≤ 63) ∧ (0 ≤ c.asked ∧ c.asked ≤ 10000000) := by
 simp only [bH, isIn, Bool.and_eq_true, Bool.not_eq_true', decide_eq_true_eq, decide_eq_false_iff_not] at h
 omega
def dueSec (r : Rul) (s : Int) : Option Int :=
 if s = 1 then some r.answer else if s = 2 then some r.settle else if s = 3 then some r.cooling else if s = 4 then some r.reverse else none
def bC (s : Int) : Int := if s = 1 then 3 else if s = 2 then 3 else if s = 3 then 4 else 5
def begins (r : Rul) (s since : Int) : Stt := ⟨s, since, match dueSec r s with | some d => since + d | none => -1⟩
def effect (kind s : Int) : Option Int :=
 if kind = 1 ∧ s = 1 then some 3 else if kind = 2 ∧ s = 1 then some 2 else if kind = 3 ∧ s = 2 then some 3 else if kind = 4 ∧ s = 2 then some 6
 else if kind = 5 ∧ s = 1 then some 7 else if kind = 5 ∧ s = 2 then some 7 else if kind = 5 ∧ s = 3 then some 7 else if kind = 6 ∧ s = 4 then some 8 else none
def after (backed : Bool) (s : Int) (e : Evt) : Int × Bool :=
 if e.reason = 1 then (if e.kind = 2 then 6 else (effect e.kind s).getD 0, (effect e.kind s).isSome && !backed) else ((effect e.kind s).getD 0, (effect e.kind s).isSome)
end Go.Proofs.YtmmfieceinmloaaGreatDoor.K16
namespace Go.Proofs.YtmmfieceinmloaaGreatDoor.K16
set_option linter.unusedVariables false
def rank (s : Int) : Nat := if s = 1 ∨ s = 2 then 3 else if s = 3 then 2 else if s = 4 then 1 else 0
def aloneF : Nat → Rul → Int → Stt → List Stt
 | 0, _, _, _ => []
 | n + 1, r, u, now => if 0 ≤ now.next ∧ now.next ≤ u then begins r (bC now.state) now.next :: aloneF n r u (begins r (bC now.state) now.next) else []
theorem ee {n : Nat} {r : Rul} {u : Int} {now : Stt} (h : 0 ≤ now.next) (h' : now.next ≤ u) : aloneF (n + 1) r u now = begins r (bC now.state) now.next :: aloneF n r u (begins r (bC now.state) now.next) := by rw [aloneF, if_pos ⟨h, h'⟩]
theorem cS {n : Nat} {r : Rul} {u : Int} {now : Stt} (h : ¬ (0 ≤ now.next ∧ now.next ≤ u)) : aloneF n r u now = [] := by
 cases n with
 | zero => rfl
 | succ n => rw [aloneF, if_neg h]
def alone (r : Rul) (u : Int) (now : Stt) : List Stt := aloneF 4 r u now
def lastOf (now : Stt) (l : List Stt) : Stt := l.getLast?.getD now
def runE (r : Rul) (backed : Bool) : Nat → Stt → List Evt → List Stt × List Int
 | _, now, [] => (alone r 4611686018427387904 now, [])
 | i, now, x :: l =>
  let al := alone r x.at_ now
  let now1 := lastOf now al
  let a := after backed now1.state x
  if a.2 then
   let n := begins r a.1 x.at_
   let q := runE r backed (i + 1) n l
   (al ++ n :: q.1, q.2)
  else
   let q := runE r backed (i + 1) now1 l
   (al ++ q.1, (i : Int) :: q.2)
def first (r : Rul) (c : Clm) : Stt := begins r 1 c.asked
def aT (r : Rul) (c : Clm) (l : List Evt) : List Stt := first r c :: (runE r c.backed 0 (first r c) l).1
def voids (r : Rul) (c : Clm) (l : List Evt) : List Int := (runE r c.backed 0 (first r c) l).2
def Sound (r : Rul) (now : Stt) : Prop := now = begins r now.state now.since ∧ 0 ≤ now.since ∧ now.since + 1000000 * (rank now.state : Int) ≤ 30000000
theorem du (now n : Stt) (l : List Stt) : lastOf now (n :: l) = lastOf n l := by
 unfold lastOf
 cases l with
 | nil => rfl
 | cons a l => rw [List.getLast?_cons_cons]; simp [List.getLast?_eq_some_getLast]
theorem gZ (now : Stt) (l l' : List Stt) : lastOf now (l ++ l') = lastOf (lastOf now l) l' := by
 induction l generalizing now with
 | nil => rfl
 | cons a l ih => rw [List.cons_append, du, ih, du]
theorem Sound.next {r : Rul} {now : Stt} (hr : aW r = true) (h : Sound r now) : (now.next = -1 ∧ rank now.state = 0) ∨ ((now.state = 1 ∨ now.state = 2 ∨ now.state = 3 ∨ now.state = 4) ∧ 1 ≤ rank now.state ∧ now.since < now.next ∧ now.next ≤ now.since + 1000000 ∧ 0 ≤ now.next ∧ now.next ≤ 30000000) := by
 obtain ⟨h1, h2, h3⟩ := h
 have hb := bP hr
 have hn : now.next = (begins r now.state now.since).next := by rw [← h1]
 simp only [begins, dueSec] at hn
 by_cases e1 : now.state = 1
 ·simp [e1, rank] at *; omega
 by_cases e2 : now.state = 2
 ·simp [e2, rank] at *; omega
 by_cases e3 : now.state = 3
 ·simp [e3, rank] at *; omega
 by_cases e4 : now.state = 4
 ·simp [e4, rank] at *; omega
 ·left; simp [e1, e2, e3, e4, rank] at *; exact hn
theorem Sound.step {r : Rul} {now : Stt} (hr : aW r = true) (h : Sound r now) (h0 : 0 ≤ now.next) : Sound r (begins r (bC now.state) now.next) ∧ rank (bC now.state) + 1 ≤ rank now.state := by
 rcases h.next hr with ⟨h1, _⟩ | ⟨h1, h2, h3, h4, h5, h6⟩
 ·omega
 ·obtain ⟨g1, g2, g3⟩ := h
  have hk : rank (bC now.state) + 1 ≤ rank now.state := by rcases h1 with e | e | e | e <;> simp [e, bC, rank]
  refine ⟨⟨rfl, h5, ?_⟩, hk⟩
  simp only [begins]
  omega
theorem lm (s : Int) : rank s ≤ 3 := by unfold rank; split <;> (try split) <;> (try split) <;> omega
theorem Sound.begins {r : Rul} (s t : Int) (h0 : 0 ≤ t) (h1 : t ≤ 20000000) : Sound r (begins r s t) := by
 refine ⟨rfl, h0, ?_⟩
 have := lm s
 simp only [Go.Proofs.YtmmfieceinmloaaGreatDoor.K16.begins]
 omega
theorem iV {r : Rul} {u : Int} (hr : aW r = true) : ∀ (n : Nat) (now : Stt), Sound r now → Sound r (lastOf now (aloneF n r u now)) := by
 intro n
 induction n with
 | zero => intro now h; exact h
 | succ n ih =>
  intro now h
  unfold aloneF
  split
  ·rename_i hc
   rw [du]; exact ih _ (h.step hr hc.1).1
  ·exact h
theorem ii (l : List Evt) (k : Nat) (h : k < l.length) : l.drop k = l.getD k ⟨0, 0, 0⟩ :: l.drop (k + 1) := by
 rw [List.drop_eq_getElem_cons h]; simp [List.getD_eq_getElem?_getD, h]
theorem fy {r : Rul} {b : Bool} {k : Nat} {now now1 : Stt} {l : List Evt} {ev : Evt} (hk : k < l.length) (he : l.getD k ⟨0, 0, 0⟩ = ev) (hn : lastOf now (alone r ev.at_ now) = now1) (ha : (after b now1.state ev).2 = false) :
  runE r b k now (l.drop k) = (alone r ev.at_ now ++ (runE r b (k + 1) now1 (l.drop (k + 1))).1, (k : Int) :: (runE r b (k + 1) now1 (l.drop (k + 1))).2) := by
 rw [ii l k hk, he, runE]
 simp only [hn, ha]
 rfl
theorem f4 {r : Rul} {b : Bool} {k : Nat} {now now1 : Stt} {l : List Evt} {ev : Evt} (hk : k < l.length) (he : l.getD k ⟨0, 0, 0⟩ = ev) (hn : lastOf now (alone r ev.at_ now) = now1) (ha : (after b now1.state ev).2 = true) :
  runE r b k now (l.drop k) = (alone r ev.at_ now ++ begins r (after b now1.state ev).1 ev.at_ :: (runE r b (k + 1) (begins r (after b now1.state ev).1 ev.at_) (l.drop (k + 1))).1, (runE r b (k + 1) (begins r (after b now1.state ev).1 ev.at_) (l.drop (k + 1))).2) := by
 rw [ii l k hk, he, runE]
 simp only [hn, ha, if_true]
theorem g7 : ∀ (l : List Evt) (last : Int), anyBad last l = false → ∀ k, k < l.length → last ≤ (l.getD k ⟨0, 0, 0⟩).at_ ∧ (l.getD k ⟨0, 0, 0⟩).at_ ≤ 20000000
 | [], _, _, k, hk => by simp at hk
 | e :: l, last, h, k, hk => by
  simp only [anyBad, Bool.or_eq_false_iff, badEvt, Bool.not_eq_false', isIn, Bool.and_eq_true, decide_eq_true_eq] at h
  cases k with
  | zero => simpa using h.1.1.2
  | succ k =>
   have := g7 l e.at_ h.2 k (by simpa using hk)
   simp only [List.getD_cons_succ]
   omega
theorem jo {r : Rul} {c : Clm} {l : List Evt} (h : valid r c l = true) : aW r = true ∧ bH c = true ∧ l.length ≤ 20 ∧ anyBad c.asked l = false := by
 simp only [valid, Bool.and_eq_true, Bool.not_eq_true', decide_eq_true_eq] at h
 exact ⟨h.1.1.1, h.1.1.2, h.1.2, h.2⟩
theorem dX (r : Rul) (u : Int) (now : Stt) : (alone r u now).length ≤ 4 := by
 have : ∀ n now, (aloneF n r u now).length ≤ n := by
  intro n
  induction n with
  | zero => intro now; simp [aloneF]
  | succ n ih => intro now; rw [aloneF]; split; simp [ih]; simp
 exact this 4 now
def bQ (r : Rul) (c : Clm) (l : List Evt) (t : Int) : Stt := lastOf ⟨0, 0, c.asked⟩ ((aT r c l).takeWhile fun s => decide (s.since ≤ t))
theorem eE {p : Stt → Bool} : ∀ {l : List Stt}, (∀ s ∈ l, p s = true) → l.takeWhile p = l
 | [], _ => rfl
 | a :: l, h => by rw [List.takeWhile_cons, if_pos (h a (by simp)), eE fun s hs => h s (by simp [hs])]
theorem en {p : Stt → Bool} {x : Stt} {q : List Stt} : ∀ {l : List Stt}, (∀ s ∈ l, p s = true) → p x = false → (l ++ [x] ++ q).takeWhile p = l
 | [], _, hx => by simp [hx]
 | a :: l, h, hx => by
  rw [List.cons_append, List.cons_append, List.takeWhile_cons, if_pos (h a (by simp)), en (fun s hs => h s (by simp [hs])) hx]
theorem iD {r : Rul} {c : Clm} {l : List Evt} {t : Int} (h : ∀ s ∈ aT r c l, s.since ≤ t) : bQ r c l t = lastOf ⟨0, 0, c.asked⟩ (aT r c l) := by
 unfold bQ; rw [eE fun s hs => decide_eq_true (h s hs)]
theorem i3 {r : Rul} {c : Clm} {l : List Evt} {t : Int} {p q : List Stt} {x : Stt} (hs : aT r c l = p ++ [x] ++ q) (h : ∀ s ∈ p, s.since ≤ t) (hx : t < x.since) : bQ r c l t = lastOf ⟨0, 0, c.asked⟩ p := by
 unfold bQ; rw [hs, en (fun s hs => decide_eq_true (h s hs)) (decide_eq_false (by omega))]
def withAt (r : Rul) (c : Clm) (l : List Evt) (t : Int) : Int := if (bQ r c l t).state = 4 ∨ (bQ r c l t).state = 5 then c.to else c.frm
theorem j4 (n s : Stt) (l : List Stt) : lastOf n (l ++ [s]) = s := by simp [lastOf]
end Go.Proofs.YtmmfieceinmloaaGreatDoor.K16
namespace Go.Proofs.YtmmfieceinmloaaGreatDoor.K16
set_option linter.unusedVariables false
end Go.Proofs.YtmmfieceinmloaaGreatDoor.K16
namespace Go.Proofs.YtmmfieceinmloaaGreatDoor.K16
set_option linter.unusedVariables false
structure Tri where
 a : Int
 b : Int
 c : Int
def Tri.cells (z : Tri) : List Value := [.int .i64 z.a, .int .i64 z.b, .int .i64 z.c]
def isI64 (n : Int) : Prop := -9223372036854775808 ≤ n ∧ n ≤ 9223372036854775807
def mkRule (x : Int) : Int := if pick (x.tdiv 16) 4 = 3 then 1 + pick x 86400 else 1 + pick x 12
def mkRul (x0 x1 x2 x3 : Int) : Rul := ⟨mkRule x0, mkRule x1, mkRule x2, mkRule x3⟩
theorem cp (c n : Int) (h : 0 < n) : 0 ≤ pick c n ∧ pick c n < n := by
 unfold pick
 exact ⟨Int.emod_nonneg _ (by omega), Int.emod_lt_of_pos _ h⟩
theorem eK (x : Int) (n : Int) (hn : 1 ≤ n) (h : isI64 x) : isI64 (x.tdiv n) := by
 unfold isI64 at *
 rcases Int.lt_or_le x 0 with h0 | h0
 ·have e : x.tdiv n = -((-x).tdiv n) := by rw [Int.neg_tdiv, Int.neg_neg]
  have h1 : 0 ≤ (-x).tdiv n := Int.tdiv_nonneg (by omega) (by omega)
  have h2 : (-x).tdiv n ≤ -x := Int.tdiv_le_self _ (by omega)
  rw [e]; omega
 ·have h1 : 0 ≤ x.tdiv n := Int.tdiv_nonneg h0 (by omega)
  have h2 : x.tdiv n ≤ x := Int.tdiv_le_self _ h0
  omega
theorem eM (x : Int) : 1 ≤ mkRule x ∧ mkRule x ≤ 86400 := by
 unfold mkRule
 have h1 := cp x 86400 (by omega)
 have h2 := cp x 12 (by omega)
 split <;> omega
theorem jZ (x0 x1 x2 x3 : Int) : aW (mkRul x0 x1 x2 x3) = true := by
 have h0 := eM x0; have h1 := eM x1; have h2 := eM x2; have h3 := eM x3
 simp only [aW, isIn, Bool.and_eq_true, decide_eq_true_eq]; simp only [mkRul]; omega
end Go.Proofs.YtmmfieceinmloaaGreatDoor.K16
namespace Go.Proofs.YtmmfieceinmloaaGreatDoor.K16
open Go.RowKit Go.PW
set_option linter.unusedVariables false
set_option linter.unusedSimpArgs false
set_option maxRecDepth 4000
theorem dO (c n : Int) (w0 : World) (hc1 : -9223372036854775808 ≤ c) (hc2 : c ≤ 9223372036854775807) (hn : 0 < n) (hn2 : n ≤ 9223372036854775807) :
  Ret Tryz.prog 42 #[iv c, iv n] w0 fun v w => v = iv (pick c n) ∧ Ext No w0 w := by
 refine aD Tryz.func42 rfl Tryz.ntmps42 (lb rfl) fun a Z => ?_
 have Z : Fr 13 [(0, _), (1, _)] [] a := Z
 have Y : St No w0 [] w0 := St.init w0
 refine aa fun K1 hK1 => wla Z rfl fun a Z => ab (hK1 _ _ <| ai fun K2 hK2 => ?_)
 refine aa fun K3 hK3 => wlm Z rfl fun a Z => wlv Z (v_lt rfl rfl) fun a Z => ab (hK3 _ _ ?_)
 refine aB Z rfl (fun hc1 => ?_) (fun hc1 => ?_)
 ·rw [hc1] at Z
  try simp only [qz] at hc1
  refine ar <| wlm Z rfl fun a Z => wlv Z (aM rfl rfl ⟨by omega, by omega⟩) fun a Z => wlv Z (j5 rfl (by omega) (by omega)) fun a Z => wla Z rfl fun a Z => ab <| hK2 _ _ <| aa fun K4 hK4 => ?_
  refine wlm Z rfl fun a Z => wlm Z rfl fun a Z => wlv Z (ey rfl rfl (by omega) (by omega)) fun a Z => wla Z rfl fun a Z => ab (hK4 _ _ <| aq ?_)
  refine ak Z Tryz.results42 (ah rfl ag) ?_
  exact ⟨by simp only [retv, pick]; congr 2; split <;> simp_all <;> omega, Y.ext⟩
 rw [hc1] at Z
 try simp only [qz] at hc1
 refine ay <| hK2 _ _ <| aa fun K5 hK5 => wlm Z rfl fun a Z => wlm Z rfl fun a Z => wlv Z (ey rfl rfl (by omega) (by omega)) fun a Z => wla Z rfl fun a Z => ab (hK5 _ _ <| aq ?_)
 refine ak Z Tryz.results42 (ah rfl ag) ?_
 exact ⟨by simp only [retv, pick]; congr 2; split <;> simp_all <;> omega, Y.ext⟩
theorem cb (c n : Int) (w0 : World) (hc1 : -9223372036854775808 ≤ c) (hc2 : c ≤ 9223372036854775807) (hn : 0 < n) (hn2 : n ≤ 9223372036854775807) :
  Ret Tryz.prog 101 #[iv c, iv n] w0 fun v w => v = iv (pick c n) ∧ Ext No w0 w := by
 refine aD Tryz.func101 rfl Tryz.ntmps101 (lb rfl) fun a Z => ?_
 have Z : Fr 13 [(0, _), (1, _)] [] a := Z
 have Y : St No w0 [] w0 := St.init w0
 refine aa fun K1 hK1 => wla Z rfl fun a Z => ab (hK1 _ _ <| ai fun K2 hK2 => ?_)
 refine aa fun K3 hK3 => wlm Z rfl fun a Z => wlv Z (v_lt rfl rfl) fun a Z => ab (hK3 _ _ ?_)
 refine aB Z rfl (fun hc1 => ?_) (fun hc1 => ?_)
 ·rw [hc1] at Z
  try simp only [qz] at hc1
  refine ar <| wlm Z rfl fun a Z => wlv Z (aM rfl rfl ⟨by omega, by omega⟩) fun a Z => wlv Z (j5 rfl (by omega) (by omega)) fun a Z => wla Z rfl fun a Z => ab <| hK2 _ _ <| aa fun K4 hK4 => ?_
  refine wlm Z rfl fun a Z => wlm Z rfl fun a Z => wlv Z (ey rfl rfl (by omega) (by omega)) fun a Z => wla Z rfl fun a Z => ab (hK4 _ _ <| aq ?_)
  refine ak Z Tryz.results101 (ah rfl ag) ?_
  exact ⟨by simp only [retv, pick]; congr 2; split <;> simp_all <;> omega, Y.ext⟩
 rw [hc1] at Z
 try simp only [qz] at hc1
 refine ay <| hK2 _ _ <| aa fun K5 hK5 => wlm Z rfl fun a Z => wlm Z rfl fun a Z => wlv Z (ey rfl rfl (by omega) (by omega)) fun a Z => wla Z rfl fun a Z => ab (hK5 _ _ <| aq ?_)
 refine ak Z Tryz.results101 (ah rfl ag) ?_
 exact ⟨by simp only [retv, pick]; congr 2; split <;> simp_all <;> omega, Y.ext⟩
theorem bS (n lo hi : Int) (w0 : World) :
  Ret Tryz.prog 111 #[iv n, iv lo, iv hi] w0 fun v w => v = .bool (isIn n lo hi) ∧ Ext No w0 w := by
 refine aD Tryz.func111 rfl Tryz.ntmps111 (lb rfl) fun a Z => ?_
 have Z : Fr 15 [(0, _), (1, _), (2, _)] [] a := Z
 have Y : St No w0 [] w0 := St.init w0
 refine aa fun K1 hK1 => wla Z rfl fun a Z => ab (hK1 _ _ <| aa fun K2 hK2 => ?_)
 refine wlm Z rfl fun a Z => wlm Z rfl fun a Z => wlv Z (v_le rfl rfl) fun a Z => wlm Z rfl fun a Z => ?_
 rcases Bool.eq_false_or_eq_true (decide (lo ≤ n)) with hb1 | hb1
 ·rw [hb1] at Z
  try simp only [qz] at hb1
  refine wly Z (aj rfl) fun a Z => wly Z (aj rfl) fun a Z => wly Z (v_le rfl rfl) fun a Z => wlv Z (aw rfl rfl) fun a Z => wla Z rfl fun a Z => ab (hK2 _ _ ?_)
  have Z : Fr 15 [(0, _), (1, _), (2, _), (6, _)] [] a := Z.pick [0, 1, 2, 6]
  refine aq ?_
  refine ak Z Tryz.results111 (ah rfl ag) ?_
  exact ⟨by simp [retv, isIn, *], Y.ext⟩
 rw [hb1] at Z
 try simp only [qz] at hb1
 refine wln Z fun a Z => wln Z fun a Z => wln Z fun a Z => wlv Z (au rfl rfl) fun a Z => wla Z rfl fun a Z => ab (hK2 _ _ ?_)
 have Z : Fr 15 [(0, _), (1, _), (2, _), (6, _)] [] a := Z.pick [0, 1, 2, 6]
 refine aq ?_
 refine ak Z Tryz.results111 (ah rfl ag) ?_
 exact ⟨by simp [retv, isIn, *], Y.ext⟩
theorem fM (ra rc rs rr : Int) (w0 : World) :
  Ret Tryz.prog 132 #[.agg #[iv ra, iv rc, iv rs, iv rr]] w0 fun v w => v = .bool (aW ⟨ra, rc, rs, rr⟩) ∧ Ext No w0 w := by
 refine aD Tryz.func132 rfl Tryz.ntmps132 (lb rfl) fun a Z => ?_
 have Z : Fr 23 [(0, _)] [] a := Z
 have Y : St No w0 [] w0 := St.init w0
 refine aa fun K1 hK1 => aN Z Y (by decide) rfl (cs := [iv ra, iv rc, iv rs, iv rr]) rfl fun a w1 Z Y => wla Z rfl fun a Z => ab (hK1 _ _ <| ai fun K2 hK2 => ?_)
 refine aa fun K3 hK3 => wlv Z (ac (v := pq w0.heap.size) rfl (by kernel_rfl)) fun a Z => wlv Z (ae (Y.get (k := 0) rfl) rfl (Tryz.isAgg3 _) rfl) fun a Z => wlv Z (ac (v := .pointer (some ⟨w0.heap.size, 2, none⟩)) rfl (by kernel_rfl)) fun a Z => wlv Z (ae (Y.get (k := 0) rfl) rfl (Tryz.isAgg3 _) rfl) fun a Z => wlv Z (ac (v := .pointer (some ⟨w0.heap.size, 1, none⟩)) rfl (by kernel_rfl)) fun a Z => wlv Z (ae (Y.get (k := 0) rfl) rfl (Tryz.isAgg3 _) rfl) fun a Z => ?_
 refine wlv Z (ac (v := .pointer (some ⟨w0.heap.size, 3, none⟩)) rfl (by kernel_rfl)) fun a Z => wlv Z (ae (Y.get (k := 0) rfl) rfl (Tryz.isAgg3 _) rfl) fun a Z => aH (E := 3) (sz := 1) rfl [[iv ra], [iv rs], [iv rc], [iv rr]] (by kernel_rfl) (by simp) rfl (by decide) (by decide) Z Y fun a w2 Z Y => wlv Z ((aY (sT := 88) (Y.ownAt (i := 0) rfl) rfl rfl (Tryz.runUnderlying88 _)).asi (m' := 4) (by rfl)) fun a Z => wlm Z rfl fun a Z => ab (hK3 _ _ ?_)
 have Z : Fr 23 [(0, _), (1, _), (2, _), (13, _), (14, _), (15, _)] [] a := Z.pick [0, 1, 2, 13, 14, 15]
 refine ax <| fC 5 ?_
 refine cy ?_
 refine aa fun K4 hK4 => wlv Z ((v_lt rfl rfl).asb (b' := true) rfl) fun a Z => ab (hK4 _ _ <| ai fun K5 hK5 => ?_)
 refine aX Z rfl ?_
 refine ay <| hK5 _ _ <| ai fun K6 hK6 => ax <| aa fun K7 hK7 => wlv Z ((am (i := 0) (sT := 88) (Y.ownAt (i := 0) rfl) rfl rfl (Tryz.runUnderlying88 _) (Tryz.sizeOf3 _) (by omega) (by simp)).as (v' := slAddr (.slice (some ⟨w1.heap.size, 0, none⟩) 4 4) (0 * 1)) rfl) fun a Z => wlv Z (aC (u := iv ra) (i := 0) (j := 0) (Y.ownAt (i := 0) rfl) (by simp) rfl (Tryz.isAgg3 _) (by rfl)) fun a Z => wla Z rfl fun a Z => ?_
 refine ab (hK7 _ _ <| aa fun K8 hK8 => ?_)
 refine wlm Z rfl fun a Z => az Z Y (by decide) Tryz.call111 rfl (bS _ _ _ _) fun a w3 Z Y => wlv Z (bK rfl) fun a Z => ab (hK8 _ _ ?_)
 refine aB Z rfl (fun hc1 => ?_) (fun hc1 => ?_)
 ·rw [hc1] at Z
  try simp only [qz] at hc1
  refine aa fun K9 hK9 => wla Z rfl fun a Z => ab (hK9 _ _ <| aq ?_)
  refine ak Z Tryz.results132 (ah rfl ag) ?_
  exact ⟨by simp [retv, aW, *], Y.ext⟩
 rw [hc1] at Z
 try simp only [qz] at hc1
 refine ay <| hK6 _ _ <| ar <| wlv Z ((aM rfl rfl (by decide)).asi (m' := 1) rfl) fun a Z => wlm Z rfl fun a Z => ab <| cy ?_
 refine aa fun K10 hK10 => wlv Z ((v_lt rfl rfl).asb (b' := true) rfl) fun a Z => ab (hK10 _ _ <| ai fun K11 hK11 => ?_)
 refine aX Z rfl ?_
 refine ay <| hK11 _ _ <| ai fun K12 hK12 => ax <| aa fun K13 hK13 => wlv Z ((am (i := 1) (sT := 88) (Y.ownAt (i := 0) rfl) rfl rfl (Tryz.runUnderlying88 _) (Tryz.sizeOf3 _) (by omega) (by simp)).as (v' := slAddr (.slice (some ⟨w1.heap.size, 0, none⟩) 4 4) (1 * 1)) rfl) fun a Z => wlv Z (aC (u := iv rs) (i := 1) (j := 0) (Y.ownAt (i := 0) rfl) (by simp) rfl (Tryz.isAgg3 _) (by rfl)) fun a Z => wla Z rfl fun a Z => ?_
 refine ab (hK13 _ _ <| aa fun K14 hK14 => ?_)
 refine wlm Z rfl fun a Z => az Z Y (by decide) Tryz.call111 rfl (bS _ _ _ _) fun a w4 Z Y => wlv Z (bK rfl) fun a Z => ab (hK14 _ _ ?_)
 refine aB Z rfl (fun hc2 => ?_) (fun hc2 => ?_)
 ·rw [hc2] at Z
  try simp only [qz] at hc2
  refine aa fun K15 hK15 => wla Z rfl fun a Z => ab (hK15 _ _ <| aq ?_)
  refine ak Z Tryz.results132 (ah rfl ag) ?_
  exact ⟨by simp [retv, aW, *], Y.ext⟩
 rw [hc2] at Z
 try simp only [qz] at hc2
 refine ay <| hK12 _ _ <| ar <| wlv Z ((aM rfl rfl (by decide)).asi (m' := 2) rfl) fun a Z => wlm Z rfl fun a Z => ab <| cy ?_
 refine aa fun K16 hK16 => wlv Z ((v_lt rfl rfl).asb (b' := true) rfl) fun a Z => ab (hK16 _ _ <| ai fun K17 hK17 => ?_)
 refine aX Z rfl ?_
 refine ay <| hK17 _ _ <| ai fun K18 hK18 => ax <| aa fun K19 hK19 => wlv Z ((am (i := 2) (sT := 88) (Y.ownAt (i := 0) rfl) rfl rfl (Tryz.runUnderlying88 _) (Tryz.sizeOf3 _) (by omega) (by simp)).as (v' := slAddr (.slice (some ⟨w1.heap.size, 0, none⟩) 4 4) (2 * 1)) rfl) fun a Z => wlv Z (aC (u := iv rc) (i := 2) (j := 0) (Y.ownAt (i := 0) rfl) (by simp) rfl (Tryz.isAgg3 _) (by rfl)) fun a Z => wla Z rfl fun a Z => ?_
 refine ab (hK19 _ _ <| aa fun K20 hK20 => ?_)
 refine wlm Z rfl fun a Z => az Z Y (by decide) Tryz.call111 rfl (bS _ _ _ _) fun a w5 Z Y => wlv Z (bK rfl) fun a Z => ab (hK20 _ _ ?_)
 refine aB Z rfl (fun hc3 => ?_) (fun hc3 => ?_)
 ·rw [hc3] at Z
  try simp only [qz] at hc3
  refine aa fun K21 hK21 => wla Z rfl fun a Z => ab (hK21 _ _ <| aq ?_)
  refine ak Z Tryz.results132 (ah rfl ag) ?_
  exact ⟨by simp [retv, aW, *], Y.ext⟩
 rw [hc3] at Z
 try simp only [qz] at hc3
 refine ay <| hK18 _ _ <| ar <| wlv Z ((aM rfl rfl (by decide)).asi (m' := 3) rfl) fun a Z => wlm Z rfl fun a Z => ab <| cy ?_
 refine aa fun K22 hK22 => wlv Z ((v_lt rfl rfl).asb (b' := true) rfl) fun a Z => ab (hK22 _ _ <| ai fun K23 hK23 => ?_)
 refine aX Z rfl ?_
 refine ay <| hK23 _ _ <| ai fun K24 hK24 => ax <| aa fun K25 hK25 => wlv Z ((am (i := 3) (sT := 88) (Y.ownAt (i := 0) rfl) rfl rfl (Tryz.runUnderlying88 _) (Tryz.sizeOf3 _) (by omega) (by simp)).as (v' := slAddr (.slice (some ⟨w1.heap.size, 0, none⟩) 4 4) (3 * 1)) rfl) fun a Z => wlv Z (aC (u := iv rr) (i := 3) (j := 0) (Y.ownAt (i := 0) rfl) (by simp) rfl (Tryz.isAgg3 _) (by rfl)) fun a Z => wla Z rfl fun a Z => ?_
 refine ab (hK25 _ _ <| aa fun K26 hK26 => ?_)
 refine wlm Z rfl fun a Z => az Z Y (by decide) Tryz.call111 rfl (bS _ _ _ _) fun a w6 Z Y => wlv Z (bK rfl) fun a Z => ab (hK26 _ _ ?_)
 refine aB Z rfl (fun hc4 => ?_) (fun hc4 => ?_)
 ·rw [hc4] at Z
  try simp only [qz] at hc4
  refine aa fun K27 hK27 => wla Z rfl fun a Z => ab (hK27 _ _ <| aq ?_)
  refine ak Z Tryz.results132 (ah rfl ag) ?_
  exact ⟨by simp [retv, aW, *], Y.ext⟩
 rw [hc4] at Z
 try simp only [qz] at hc4
 refine ay <| hK24 _ _ <| ar <| wlv Z ((aM rfl rfl (by decide)).asi (m' := 4) rfl) fun a Z => wlm Z rfl fun a Z => ab <| cy ?_
 refine aa fun K28 hK28 => wlv Z ((v_lt rfl rfl).asb (b' := false) rfl) fun a Z => ab (hK28 _ _ <| ai fun K29 hK29 => ?_)
 refine bj Z rfl ?_
 refine aS <| hK2 _ _ <| aa fun K30 hK30 => wla Z rfl fun a Z => ab (hK30 _ _ <| aq ?_)
 refine ak Z Tryz.results132 (ah rfl ag) ?_
 exact ⟨by simp [retv, aW, *], Y.ext⟩
theorem eU (cl : Clm) (w0 : World) :
  Ret Tryz.prog 108 #[.agg #[iv cl.number, iv cl.frm, iv cl.to, iv cl.holder, iv cl.asked, .bool cl.backed]] w0 fun v w => v = .bool (bH cl) ∧ Ext No w0 w := by
 refine aD Tryz.func108 rfl Tryz.ntmps108 (lb rfl) fun a Z => ?_
 have Z : Fr 33 [(0, _)] [] a := Z
 have Y : St No w0 [] w0 := St.init w0
 refine aa fun K1 hK1 => aN Z Y (by decide) rfl (cs := [iv cl.number, iv cl.frm, iv cl.to, iv cl.holder, iv cl.asked, .bool cl.backed]) rfl fun a w1 Z Y => wla Z rfl fun a Z => ab (hK1 _ _ <| aa fun K2 hK2 => ?_)
 refine wlv Z (ac (v := pq w0.heap.size) rfl (by kernel_rfl)) fun a Z => wlv Z (ae (Y.get (k := 0) rfl) rfl (Tryz.isAgg3 _) rfl) fun a Z => az Z Y (by decide) Tryz.call111 rfl (bS _ _ _ _) fun a w2 Z Y => wlm Z rfl fun a Z => ?_
 rcases Bool.eq_false_or_eq_true (isIn cl.number 0 99999999) with hb1 | hb1
 ·rw [hb1] at Z
  try simp only [qz] at hb1
  refine wly Z (ac (v := .pointer (some ⟨w0.heap.size, 1, none⟩)) rfl (by kernel_rfl)) fun a Z => wly Z (ae (Y.get (k := 0) rfl) rfl (Tryz.isAgg3 _) rfl) fun a Z => aJ Z Y (by decide) rfl (by decide) rfl Tryz.call111 rfl (bS _ _ _ _) fun a w3 Z Y => wlv Z (aw rfl rfl) fun a Z => wlm Z rfl fun a Z => ?_
  rcases Bool.eq_false_or_eq_true (isIn cl.frm 0 7) with hb2 | hb2
  ·rw [hb2] at Z
   try simp only [qz] at hb2
   refine wly Z (ac (v := .pointer (some ⟨w0.heap.size, 2, none⟩)) rfl (by kernel_rfl)) fun a Z => wly Z (ae (Y.get (k := 0) rfl) rfl (Tryz.isAgg3 _) rfl) fun a Z => aJ Z Y (by decide) rfl (by decide) rfl Tryz.call111 rfl (bS _ _ _ _) fun a w4 Z Y => wlv Z (aw rfl rfl) fun a Z => wlm Z rfl fun a Z => ?_
   rcases Bool.eq_false_or_eq_true (isIn cl.to 0 7) with hb3 | hb3
   ·rw [hb3] at Z
    try simp only [qz] at hb3
    refine wly Z (ac (v := .pointer (some ⟨w0.heap.size, 1, none⟩)) rfl (by kernel_rfl)) fun a Z => wly Z (ae (Y.get (k := 0) rfl) rfl (Tryz.isAgg3 _) rfl) fun a Z => wly Z (ac (v := .pointer (some ⟨w0.heap.size, 2, none⟩)) rfl (by kernel_rfl)) fun a Z => wly Z (ae (Y.get (k := 0) rfl) rfl (Tryz.isAgg3 _) rfl) fun a Z => wly Z (v_ne rfl rfl) fun a Z => wlv Z (aw rfl rfl) fun a Z => wlm Z rfl fun a Z => ?_
    rcases Bool.eq_false_or_eq_true (!decide (cl.frm = cl.to)) with hb4 | hb4
    ·rw [hb4] at Z
     try simp only [qz] at hb4
     refine wly Z (ac (v := .pointer (some ⟨w0.heap.size, 3, none⟩)) rfl (by kernel_rfl)) fun a Z => wly Z (ae (Y.get (k := 0) rfl) rfl (Tryz.isAgg3 _) rfl) fun a Z => aJ Z Y (by decide) rfl (by decide) rfl Tryz.call111 rfl (bS _ _ _ _) fun a w5 Z Y => wlv Z (aw rfl rfl) fun a Z => wlm Z rfl fun a Z => ?_
     rcases Bool.eq_false_or_eq_true (isIn cl.holder 0 63) with hb5 | hb5
     ·rw [hb5] at Z
      try simp only [qz] at hb5
      refine wly Z (ac (v := .pointer (some ⟨w0.heap.size, 4, none⟩)) rfl (by kernel_rfl)) fun a Z => wly Z (ae (Y.get (k := 0) rfl) rfl (Tryz.isAgg3 _) rfl) fun a Z => aJ Z Y (by decide) rfl (by decide) rfl Tryz.call111 rfl (bS _ _ _ _) fun a w6 Z Y => wlv Z (aw rfl rfl) fun a Z => wla Z rfl fun a Z => ab (hK2 _ _ ?_)
      have Z : Fr 33 [(0, _), (1, _), (2, _)] [] a := Z.pick [0, 1, 2]
      refine aq ?_
      refine ak Z Tryz.results108 (ah rfl ag) ?_
      exact ⟨by simp [retv, bH, *], Y.ext⟩
     rw [hb5] at Z
     try simp only [qz] at hb5
     refine wln Z fun a Z => wln Z fun a Z => wln Z fun a Z => wlv Z (au rfl rfl) fun a Z => wla Z rfl fun a Z => ab (hK2 _ _ ?_)
     have Z : Fr 33 [(0, _), (1, _), (2, _)] [] a := Z.pick [0, 1, 2]
     refine aq ?_
     refine ak Z Tryz.results108 (ah rfl ag) ?_
     exact ⟨by simp [retv, bH, *], Y.ext⟩
    rw [hb4] at Z
    try simp only [qz] at hb4
    refine wln Z fun a Z => wln Z fun a Z => wln Z fun a Z => wlv Z (au rfl rfl) fun a Z => wlm Z rfl fun a Z => wln Z fun a Z => wln Z fun a Z => wln Z fun a Z => ?_
    refine wlv Z (au rfl rfl) fun a Z => wla Z rfl fun a Z => ab (hK2 _ _ ?_)
    have Z : Fr 33 [(0, _), (1, _), (2, _)] [] a := Z.pick [0, 1, 2]
    refine aq ?_
    refine ak Z Tryz.results108 (ah rfl ag) ?_
    exact ⟨by simp [retv, bH, *], Y.ext⟩
   rw [hb3] at Z
   try simp only [qz] at hb3
   refine wln Z fun a Z => wln Z fun a Z => wln Z fun a Z => wln Z fun a Z => wln Z fun a Z => wlv Z (au rfl rfl) fun a Z => wlm Z rfl fun a Z => wln Z fun a Z => ?_
   refine wln Z fun a Z => wln Z fun a Z => wlv Z (au rfl rfl) fun a Z => wlm Z rfl fun a Z => wln Z fun a Z => wln Z fun a Z => wln Z fun a Z => wlv Z (au rfl rfl) fun a Z => wla Z rfl fun a Z => ?_
   refine ab (hK2 _ _ ?_)
   have Z : Fr 33 [(0, _), (1, _), (2, _)] [] a := Z.pick [0, 1, 2]
   refine aq ?_
   refine ak Z Tryz.results108 (ah rfl ag) ?_
   exact ⟨by simp [retv, bH, *], Y.ext⟩
  rw [hb2] at Z
  try simp only [qz] at hb2
  refine wln Z fun a Z => wln Z fun a Z => wln Z fun a Z => wlv Z (au rfl rfl) fun a Z => wlm Z rfl fun a Z => wln Z fun a Z => wln Z fun a Z => wln Z fun a Z => ?_
  refine wln Z fun a Z => wln Z fun a Z => wlv Z (au rfl rfl) fun a Z => wlm Z rfl fun a Z => wln Z fun a Z => wln Z fun a Z => wln Z fun a Z => wlv Z (au rfl rfl) fun a Z => wlm Z rfl fun a Z => ?_
  refine wln Z fun a Z => wln Z fun a Z => wln Z fun a Z => wlv Z (au rfl rfl) fun a Z => wla Z rfl fun a Z => ab (hK2 _ _ ?_)
  have Z : Fr 33 [(0, _), (1, _), (2, _)] [] a := Z.pick [0, 1, 2]
  refine aq ?_
  refine ak Z Tryz.results108 (ah rfl ag) ?_
  exact ⟨by simp [retv, bH, *], Y.ext⟩
 rw [hb1] at Z
 try simp only [qz] at hb1
 refine wln Z fun a Z => wln Z fun a Z => wln Z fun a Z => wlv Z (au rfl rfl) fun a Z => wlm Z rfl fun a Z => wln Z fun a Z => wln Z fun a Z => wln Z fun a Z => ?_
 refine wlv Z (au rfl rfl) fun a Z => wlm Z rfl fun a Z => wln Z fun a Z => wln Z fun a Z => wln Z fun a Z => wln Z fun a Z => wln Z fun a Z => wlv Z (au rfl rfl) fun a Z => wlm Z rfl fun a Z => ?_
 refine wln Z fun a Z => wln Z fun a Z => wln Z fun a Z => wlv Z (au rfl rfl) fun a Z => wlm Z rfl fun a Z => wln Z fun a Z => wln Z fun a Z => wln Z fun a Z => ?_
 refine wlv Z (au rfl rfl) fun a Z => wla Z rfl fun a Z => ab (hK2 _ _ ?_)
 have Z : Fr 33 [(0, _), (1, _), (2, _)] [] a := Z.pick [0, 1, 2]
 refine aq ?_
 refine ak Z Tryz.results108 (ah rfl ag) ?_
 exact ⟨by simp [retv, bH, *], Y.ext⟩
theorem gn (ra rc rs rr : Int) (w0 : World) :
  Ret Tryz.prog 156 #[.agg #[iv ra, iv rc, iv rs, iv rr]] w0 fun v w => v = iv ra ∧ Ext No w0 w := by
 refine aD Tryz.func156 rfl Tryz.ntmps156 (lb rfl) fun a Z => ?_
 have Z : Fr 5 [(0, _)] [] a := Z
 have Y : St No w0 [] w0 := St.init w0
 refine aa fun K1 hK1 => aN Z Y (by decide) rfl (cs := [iv ra, iv rc, iv rs, iv rr]) rfl fun a w1 Z Y => wla Z rfl fun a Z => ab (hK1 _ _ <| aa fun K2 hK2 => ?_)
 refine wlv Z (ac (v := pq w0.heap.size) rfl (by kernel_rfl)) fun a Z => wlv Z (ae (Y.get (k := 0) rfl) rfl (Tryz.isAgg3 _) rfl) fun a Z => wla Z rfl fun a Z => ab (hK2 _ _ <| aq ?_)
 refine ak Z Tryz.results156 (ah rfl ag) ?_
 exact ⟨by rfl, Y.ext⟩
theorem fT (ra rc rs rr : Int) (w0 : World) :
  Ret Tryz.prog 158 #[.agg #[iv ra, iv rc, iv rs, iv rr]] w0 fun v w => v = iv rc ∧ Ext No w0 w := by
 refine aD Tryz.func158 rfl Tryz.ntmps158 (lb rfl) fun a Z => ?_
 have Z : Fr 5 [(0, _)] [] a := Z
 have Y : St No w0 [] w0 := St.init w0
 refine aa fun K1 hK1 => aN Z Y (by decide) rfl (cs := [iv ra, iv rc, iv rs, iv rr]) rfl fun a w1 Z Y => wla Z rfl fun a Z => ab (hK1 _ _ <| aa fun K2 hK2 => ?_)
 refine wlv Z (ac (v := .pointer (some ⟨w0.heap.size, 1, none⟩)) rfl (by kernel_rfl)) fun a Z => wlv Z (ae (Y.get (k := 0) rfl) rfl (Tryz.isAgg3 _) rfl) fun a Z => wla Z rfl fun a Z => ab (hK2 _ _ <| aq ?_)
 refine ak Z Tryz.results158 (ah rfl ag) ?_
 exact ⟨by rfl, Y.ext⟩
theorem gF (ra rc rs rr : Int) (w0 : World) :
  Ret Tryz.prog 157 #[.agg #[iv ra, iv rc, iv rs, iv rr]] w0 fun v w => v = iv rs ∧ Ext No w0 w := by
 refine aD Tryz.func157 rfl Tryz.ntmps157 (lb rfl) fun a Z => ?_
 have Z : Fr 5 [(0, _)] [] a := Z
 have Y : St No w0 [] w0 := St.init w0
 refine aa fun K1 hK1 => aN Z Y (by decide) rfl (cs := [iv ra, iv rc, iv rs, iv rr]) rfl fun a w1 Z Y => wla Z rfl fun a Z => ab (hK1 _ _ <| aa fun K2 hK2 => ?_)
 refine wlv Z (ac (v := .pointer (some ⟨w0.heap.size, 2, none⟩)) rfl (by kernel_rfl)) fun a Z => wlv Z (ae (Y.get (k := 0) rfl) rfl (Tryz.isAgg3 _) rfl) fun a Z => wla Z rfl fun a Z => ab (hK2 _ _ <| aq ?_)
 refine ak Z Tryz.results157 (ah rfl ag) ?_
 exact ⟨by rfl, Y.ext⟩
theorem fZ (ra rc rs rr : Int) (w0 : World) :
  Ret Tryz.prog 159 #[.agg #[iv ra, iv rc, iv rs, iv rr]] w0 fun v w => v = iv rr ∧ Ext No w0 w := by
 refine aD Tryz.func159 rfl Tryz.ntmps159 (lb rfl) fun a Z => ?_
 have Z : Fr 5 [(0, _)] [] a := Z
 have Y : St No w0 [] w0 := St.init w0
 refine aa fun K1 hK1 => aN Z Y (by decide) rfl (cs := [iv ra, iv rc, iv rs, iv rr]) rfl fun a w1 Z Y => wla Z rfl fun a Z => ab (hK1 _ _ <| aa fun K2 hK2 => ?_)
 refine wlv Z (ac (v := .pointer (some ⟨w0.heap.size, 3, none⟩)) rfl (by kernel_rfl)) fun a Z => wlv Z (ae (Y.get (k := 0) rfl) rfl (Tryz.isAgg3 _) rfl) fun a Z => wla Z rfl fun a Z => ab (hK2 _ _ <| aq ?_)
 refine ak Z Tryz.results159 (ah rfl ag) ?_
 exact ⟨by rfl, Y.ext⟩
theorem nO (rl : Rul) (cl : Clm) (w0 : World) :
  Ret Tryz.prog 94 #[.agg #[iv rl.answer, iv rl.cooling, iv rl.settle, iv rl.reverse], .agg #[iv cl.number, iv cl.frm, iv cl.to, iv cl.holder, iv cl.asked, .bool cl.backed]] w0 fun v w => v = (if aW rl && bH cl then .tuple #[iv (ends rl cl), iv 0] else .tuple #[iv 0, iv 160]) ∧ Ext No w0 w := by
 refine aD Tryz.func94 rfl Tryz.ntmps94 (lb rfl) fun a Z => ?_
 have Z : Fr 29 [(0, _), (1, _)] [] a := Z
 have Y : St No w0 [] w0 := St.init w0
 refine aa fun K1 hK1 => aN Z Y (by decide) rfl (cs := [iv rl.answer, iv rl.cooling, iv rl.settle, iv rl.reverse]) rfl fun a w1 Z Y => aN Z Y (by decide) rfl (cs := [iv cl.number, iv cl.frm, iv cl.to, iv cl.holder, iv cl.asked, .bool cl.backed]) rfl fun a w2 Z Y => wla Z rfl fun a Z => wla Z rfl fun a Z => ab (hK1 _ _ <| ai fun K2 hK2 => ?_)
 refine aa fun K3 hK3 => wlv Z (ao (Y.get (k := 1) rfl) rfl (Tryz.isAgg81 _) (Tryz.sizeOf81 _)) fun a Z => az Z Y (by decide) Tryz.call132 rfl (fM _ _ _ _ _) fun a w3 Z Y => wlv Z (bK rfl) fun a Z => wlm Z rfl fun a Z => ?_
 rcases Bool.eq_false_or_eq_true (!(aW rl)) with hb1 | hb1
 ·rw [hb1] at Z
  try simp only [qz] at hb1
  refine wln Z fun a Z => wln Z fun a Z => wln Z fun a Z => wlv Z (aw rfl rfl) fun a Z => ab (hK3 _ _ ?_)
  have Z : Fr 29 [(0, _), (1, _), (2, _), (3, _), (4, _), (5, _), (13, _)] [] a := Z.pick [0, 1, 2, 3, 4, 5, 13]
  refine aX Z rfl ?_
  refine aa fun K4 hK4 => wla Z rfl fun a Z => wla Z rfl fun a Z => ab (hK4 _ _ <| aq ?_)
  refine ak Z Tryz.results94 (ah rfl (ah rfl ag)) ?_
  exact ⟨by simp_all [retv, ends], Y.ext⟩
 rw [hb1] at Z
 try simp only [qz] at hb1
 have hhb1 := bP hb1
 refine wly Z (ao (Y.get (k := 0) rfl) rfl (Tryz.isAgg83 _) (Tryz.sizeOf83 _)) fun a Z => aJ Z Y (by decide) rfl (by decide) rfl Tryz.call108 rfl (eU cl _) fun a w4 Z Y => wly Z (bK rfl) fun a Z => wlv Z (au rfl rfl) fun a Z => ab (hK3 _ _ ?_)
 have Z : Fr 29 [(0, _), (1, _), (2, _), (3, _), (4, _), (5, _), (13, _)] [] a := Z.pick [0, 1, 2, 3, 4, 5, 13]
 refine aB Z rfl (fun hc2 => ?_) (fun hc2 => ?_)
 ·rw [hc2] at Z
  try simp only [qz] at hc2
  refine aa fun K5 hK5 => wla Z rfl fun a Z => wla Z rfl fun a Z => ab (hK5 _ _ <| aq ?_)
  refine ak Z Tryz.results94 (ah rfl (ah rfl ag)) ?_
  exact ⟨by simp_all [retv, ends], Y.ext⟩
 rw [hc2] at Z
 try simp only [qz] at hc2
 have hhc2 := cH hc2
 refine ay <| hK2 _ _ <| aa fun K6 hK6 => wlv Z (ac (v := .pointer (some ⟨w1.heap.size, 4, none⟩)) rfl (by kernel_rfl)) fun a Z => wlv Z (ae (Y.get (k := 0) rfl) rfl (Tryz.isAgg3 _) rfl) fun a Z => wlv Z (ac (v := pq w0.heap.size) rfl (by kernel_rfl)) fun a Z => wlv Z (ae (Y.get (k := 1) rfl) rfl (Tryz.isAgg3 _) rfl) fun a Z => ?_
 refine wlv Z (aM rfl rfl ⟨by omega, by omega⟩) fun a Z => wlv Z (cm rfl rfl ⟨by omega, by omega⟩) fun a Z => wlv Z (ac (v := .pointer (some ⟨w0.heap.size, 2, none⟩)) rfl (by kernel_rfl)) fun a Z => wlv Z (ae (Y.get (k := 1) rfl) rfl (Tryz.isAgg3 _) rfl) fun a Z => wlv Z (aM rfl rfl ⟨by omega, by omega⟩) fun a Z => wlv Z (ac (v := .pointer (some ⟨w0.heap.size, 1, none⟩)) rfl (by kernel_rfl)) fun a Z => wlv Z (ae (Y.get (k := 1) rfl) rfl (Tryz.isAgg3 _) rfl) fun a Z => ?_
 refine wlv Z (aM rfl rfl ⟨by omega, by omega⟩) fun a Z => wlv Z (ac (v := .pointer (some ⟨w0.heap.size, 3, none⟩)) rfl (by kernel_rfl)) fun a Z => wlv Z (ae (Y.get (k := 1) rfl) rfl (Tryz.isAgg3 _) rfl) fun a Z => wlv Z (aM rfl rfl ⟨by omega, by omega⟩) fun a Z => wla Z rfl fun a Z => wla Z rfl fun a Z => ab (hK6 _ _ ?_)
 have Z : Fr 29 [(0, _), (1, _), (2, _), (3, _), (13, _), (4, _), (5, _)] [] a := Z.pick [0, 1, 2, 3, 13, 4, 5]
 refine aq ?_
 refine ak Z Tryz.results94 (ah rfl (ah rfl ag)) ?_
 exact ⟨by simp_all [retv, ends], Y.ext⟩
end Go.Proofs.YtmmfieceinmloaaGreatDoor.K16
namespace Go.Proofs.YtmmfieceinmloaaGreatDoor.K16
open Go.RowKit Go.PW
set_option linter.unusedVariables false
set_option linter.unusedSimpArgs false
set_option maxRecDepth 4000
set_option maxHeartbeats 4000000 in
theorem ly (ev0 : Evt) (bb : Nat) (last : Int) (w0 : World) (hb : (blk bb [iv last] 3).ok w0) :
  Ret Tryz.prog 134 #[.agg #[iv ev0.kind, iv ev0.at_, iv ev0.reason], pq bb] w0 fun v w => v = .bool (badEvt last ev0) ∧ Ext (· = bb) w0 w ∧ (blk bb [iv ev0.at_] 3).ok w := by
 refine aD Tryz.func134 rfl Tryz.ntmps134 (lb rfl) fun a Z => ?_
 have Z : Fr 37 [(0, _), (1, _)] [] a := Z
 have Y : St (· = bb) w0 [blk bb [iv last] 3] w0 := St.one hb
 refine aa fun K1 hK1 => aN Z Y (by decide) rfl (cs := [iv ev0.kind, iv ev0.at_, iv ev0.reason]) rfl fun a w1 Z Y => wla Z rfl fun a Z => ab (hK1 _ _ <| aa fun K2 hK2 => ?_)
 refine wlv Z (ae (Y.get (k := 1) rfl) rfl (Tryz.isAgg3 _) rfl) fun a Z => wla Z rfl fun a Z => ab (hK2 _ _ <| aa fun K3 hK3 => ?_)
 refine wlv Z (ac (v := .pointer (some ⟨w0.heap.size, 1, none⟩)) rfl (by kernel_rfl)) fun a Z => wlv Z (ae (Y.get (k := 0) rfl) rfl (Tryz.isAgg3 _) rfl) fun a Z => ap 1 Z Y rfl rfl rfl (Tryz.sizeOf3 _) rfl (lb rfl) (ds := [iv ev0.at_]) rfl rfl fun a w2 Z Y => ab (hK3 _ _ <| aa fun K4 hK4 => ?_)
 refine wla Z rfl fun a Z => wla Z rfl fun a Z => ab (hK4 _ _ <| ai fun K5 hK5 => ?_)
 refine aa fun K6 hK6 => wlv Z (ac (v := pq w0.heap.size) rfl (by kernel_rfl)) fun a Z => wlv Z (ae (Y.get (k := 0) rfl) rfl (Tryz.isAgg3 _) rfl) fun a Z => wlv Z (v_eq rfl rfl) fun a Z => wlm Z rfl fun a Z => ?_
 rcases Bool.eq_false_or_eq_true (decide (ev0.kind = 2)) with hb1 | hb1
 ·rw [hb1] at Z
  try simp only [qz] at hb1
  refine wln Z fun a Z => wln Z fun a Z => wln Z fun a Z => wlv Z (aw rfl rfl) fun a Z => ab (hK6 _ _ ?_)
  have Z : Fr 37 [(0, _), (1, _), (2, _), (3, _), (7, _), (4, _), (8, _), (9, _), (5, _), (6, _), (17, _)] [] a := Z.pick [0, 1, 2, 3, 7, 4, 8, 9, 5, 6, 17]
  refine aX Z rfl ?_
  refine ar <| wla Z rfl fun a Z => wla Z rfl fun a Z => ab <| hK5 _ _ <| aa fun K7 hK7 => wlv Z (ac (v := pq w0.heap.size) rfl (by kernel_rfl)) fun a Z => wlv Z (ae (Y.get (k := 0) rfl) rfl (Tryz.isAgg3 _) rfl) fun a Z => ?_
  refine az Z Y (by decide) Tryz.call111 rfl (bS _ _ _ _) fun a w3 Z Y => wlv Z (bK rfl) fun a Z => wlm Z rfl fun a Z => ?_
  rcases Bool.eq_false_or_eq_true (!(isIn ev0.kind 1 6)) with hb2 | hb2
  ·rw [hb2] at Z
   try simp only [qz] at hb2
   refine wln Z fun a Z => wln Z fun a Z => wln Z fun a Z => wln Z fun a Z => wln Z fun a Z => wlv Z (aw rfl rfl) fun a Z => wlm Z rfl fun a Z => wln Z fun a Z => ?_
   refine wln Z fun a Z => wln Z fun a Z => wln Z fun a Z => wln Z fun a Z => wln Z fun a Z => wlv Z (aw rfl rfl) fun a Z => wla Z rfl fun a Z => ab (hK7 _ _ ?_)
   have Z : Fr 37 [(0, _), (1, _), (2, _), (7, _), (4, _), (8, _), (9, _), (17, _), (5, _), (6, _), (3, _)] [] a := Z.pick [0, 1, 2, 7, 4, 8, 9, 17, 5, 6, 3]
   refine aq ?_
   refine ak Z Tryz.results134 (ah rfl ag) ?_
   exact ⟨by simp_all [retv, badEvt], Y.ext, Y.get (k := 1) rfl⟩
  rw [hb2] at Z
  try simp only [qz] at hb2
  refine wly Z (ac (v := .pointer (some ⟨w0.heap.size, 1, none⟩)) rfl (by kernel_rfl)) fun a Z => wly Z (ae (Y.get (k := 0) rfl) rfl (Tryz.isAgg3 _) rfl) fun a Z => wly Z (aj rfl) fun a Z => aJ Z Y (by decide) rfl (by decide) rfl Tryz.call111 rfl (bS _ _ _ _) fun a w4 Z Y => wly Z (bK rfl) fun a Z => wlv Z (au rfl rfl) fun a Z => wlm Z rfl fun a Z => ?_
  rcases Bool.eq_false_or_eq_true (!(isIn ev0.at_ last 20000000)) with hb3 | hb3
  ·rw [hb3] at Z
   try simp only [qz] at hb3
   refine wln Z fun a Z => wln Z fun a Z => wln Z fun a Z => wln Z fun a Z => wln Z fun a Z => wln Z fun a Z => wlv Z (aw rfl rfl) fun a Z => wla Z rfl fun a Z => ?_
   refine ab (hK7 _ _ ?_)
   have Z : Fr 37 [(0, _), (1, _), (2, _), (7, _), (4, _), (8, _), (9, _), (17, _), (5, _), (6, _), (3, _)] [] a := Z.pick [0, 1, 2, 7, 4, 8, 9, 17, 5, 6, 3]
   refine aq ?_
   refine ak Z Tryz.results134 (ah rfl ag) ?_
   exact ⟨by simp_all [retv, badEvt], Y.ext, Y.get (k := 1) rfl⟩
  rw [hb3] at Z
  try simp only [qz] at hb3
  refine wly Z (ac (v := .pointer (some ⟨w0.heap.size, 2, none⟩)) rfl (by kernel_rfl)) fun a Z => wly Z (ae (Y.get (k := 0) rfl) rfl (Tryz.isAgg3 _) rfl) fun a Z => wly Z (aj rfl) fun a Z => wly Z (aj rfl) fun a Z => aJ Z Y (by decide) rfl (by decide) rfl Tryz.call111 rfl (bS _ _ _ _) fun a w5 Z Y => wly Z (bK rfl) fun a Z => wlv Z (au rfl rfl) fun a Z => wla Z rfl fun a Z => ab (hK7 _ _ ?_)
  have Z : Fr 37 [(0, _), (1, _), (2, _), (7, _), (4, _), (8, _), (9, _), (17, _), (5, _), (6, _), (3, _)] [] a := Z.pick [0, 1, 2, 7, 4, 8, 9, 17, 5, 6, 3]
  refine aq ?_
  refine ak Z Tryz.results134 (ah rfl ag) ?_
  exact ⟨by simp_all [retv, badEvt], Y.ext, Y.get (k := 1) rfl⟩
 rw [hb1] at Z
 try simp only [qz] at hb1
 refine wly Z (ac (v := pq w0.heap.size) rfl (by kernel_rfl)) fun a Z => wly Z (ae (Y.get (k := 0) rfl) rfl (Tryz.isAgg3 _) rfl) fun a Z => wly Z (v_eq rfl rfl) fun a Z => wlv Z (au rfl rfl) fun a Z => ab (hK6 _ _ ?_)
 have Z : Fr 37 [(0, _), (1, _), (2, _), (3, _), (7, _), (4, _), (8, _), (9, _), (5, _), (6, _), (17, _)] [] a := Z.pick [0, 1, 2, 3, 7, 4, 8, 9, 5, 6, 17]
 refine aB Z rfl (fun hc4 => ?_) (fun hc4 => ?_)
 ·rw [hc4] at Z
  try simp only [qz] at hc4
  refine ar <| wla Z rfl fun a Z => wla Z rfl fun a Z => ab <| hK5 _ _ <| aa fun K8 hK8 => wlv Z (ac (v := pq w0.heap.size) rfl (by kernel_rfl)) fun a Z => wlv Z (ae (Y.get (k := 0) rfl) rfl (Tryz.isAgg3 _) rfl) fun a Z => ?_
  refine az Z Y (by decide) Tryz.call111 rfl (bS _ _ _ _) fun a w6 Z Y => wlv Z (bK rfl) fun a Z => wlm Z rfl fun a Z => ?_
  rcases Bool.eq_false_or_eq_true (!(isIn ev0.kind 1 6)) with hb5 | hb5
  ·rw [hb5] at Z
   try simp only [qz] at hb5
   refine wln Z fun a Z => wln Z fun a Z => wln Z fun a Z => wln Z fun a Z => wln Z fun a Z => wlv Z (aw rfl rfl) fun a Z => wlm Z rfl fun a Z => wln Z fun a Z => ?_
   refine wln Z fun a Z => wln Z fun a Z => wln Z fun a Z => wln Z fun a Z => wln Z fun a Z => wlv Z (aw rfl rfl) fun a Z => wla Z rfl fun a Z => ab (hK8 _ _ ?_)
   have Z : Fr 37 [(0, _), (1, _), (2, _), (7, _), (4, _), (8, _), (9, _), (17, _), (5, _), (6, _), (3, _)] [] a := Z.pick [0, 1, 2, 7, 4, 8, 9, 17, 5, 6, 3]
   refine aq ?_
   refine ak Z Tryz.results134 (ah rfl ag) ?_
   exact ⟨by simp_all [retv, badEvt], Y.ext, Y.get (k := 1) rfl⟩
  rw [hb5] at Z
  try simp only [qz] at hb5
  refine wly Z (ac (v := .pointer (some ⟨w0.heap.size, 1, none⟩)) rfl (by kernel_rfl)) fun a Z => wly Z (ae (Y.get (k := 0) rfl) rfl (Tryz.isAgg3 _) rfl) fun a Z => wly Z (aj rfl) fun a Z => aJ Z Y (by decide) rfl (by decide) rfl Tryz.call111 rfl (bS _ _ _ _) fun a w7 Z Y => wly Z (bK rfl) fun a Z => wlv Z (au rfl rfl) fun a Z => wlm Z rfl fun a Z => ?_
  rcases Bool.eq_false_or_eq_true (!(isIn ev0.at_ last 20000000)) with hb6 | hb6
  ·rw [hb6] at Z
   try simp only [qz] at hb6
   refine wln Z fun a Z => wln Z fun a Z => wln Z fun a Z => wln Z fun a Z => wln Z fun a Z => wln Z fun a Z => wlv Z (aw rfl rfl) fun a Z => wla Z rfl fun a Z => ?_
   refine ab (hK8 _ _ ?_)
   have Z : Fr 37 [(0, _), (1, _), (2, _), (7, _), (4, _), (8, _), (9, _), (17, _), (5, _), (6, _), (3, _)] [] a := Z.pick [0, 1, 2, 7, 4, 8, 9, 17, 5, 6, 3]
   refine aq ?_
   refine ak Z Tryz.results134 (ah rfl ag) ?_
   exact ⟨by simp_all [retv, badEvt], Y.ext, Y.get (k := 1) rfl⟩
  rw [hb6] at Z
  try simp only [qz] at hb6
  refine wly Z (ac (v := .pointer (some ⟨w0.heap.size, 2, none⟩)) rfl (by kernel_rfl)) fun a Z => wly Z (ae (Y.get (k := 0) rfl) rfl (Tryz.isAgg3 _) rfl) fun a Z => wly Z (aj rfl) fun a Z => wly Z (aj rfl) fun a Z => aJ Z Y (by decide) rfl (by decide) rfl Tryz.call111 rfl (bS _ _ _ _) fun a w8 Z Y => wly Z (bK rfl) fun a Z => wlv Z (au rfl rfl) fun a Z => wla Z rfl fun a Z => ab (hK8 _ _ ?_)
  have Z : Fr 37 [(0, _), (1, _), (2, _), (7, _), (4, _), (8, _), (9, _), (17, _), (5, _), (6, _), (3, _)] [] a := Z.pick [0, 1, 2, 7, 4, 8, 9, 17, 5, 6, 3]
  refine aq ?_
  refine ak Z Tryz.results134 (ah rfl ag) ?_
  exact ⟨by simp_all [retv, badEvt], Y.ext, Y.get (k := 1) rfl⟩
 rw [hc4] at Z
 try simp only [qz] at hc4
 refine ay <| hK5 _ _ <| aa fun K9 hK9 => wlv Z (ac (v := pq w0.heap.size) rfl (by kernel_rfl)) fun a Z => wlv Z (ae (Y.get (k := 0) rfl) rfl (Tryz.isAgg3 _) rfl) fun a Z => az Z Y (by decide) Tryz.call111 rfl (bS _ _ _ _) fun a w9 Z Y => wlv Z (bK rfl) fun a Z => wlm Z rfl fun a Z => ?_
 rcases Bool.eq_false_or_eq_true (!(isIn ev0.kind 1 6)) with hb7 | hb7
 ·rw [hb7] at Z
  try simp only [qz] at hb7
  refine wln Z fun a Z => wln Z fun a Z => wln Z fun a Z => wln Z fun a Z => wln Z fun a Z => wlv Z (aw rfl rfl) fun a Z => wlm Z rfl fun a Z => wln Z fun a Z => ?_
  refine wln Z fun a Z => wln Z fun a Z => wln Z fun a Z => wln Z fun a Z => wln Z fun a Z => wlv Z (aw rfl rfl) fun a Z => wla Z rfl fun a Z => ab (hK9 _ _ ?_)
  have Z : Fr 37 [(0, _), (1, _), (2, _), (7, _), (4, _), (8, _), (9, _), (5, _), (6, _), (17, _), (3, _)] [] a := Z.pick [0, 1, 2, 7, 4, 8, 9, 5, 6, 17, 3]
  refine aq ?_
  refine ak Z Tryz.results134 (ah rfl ag) ?_
  exact ⟨by simp_all [retv, badEvt], Y.ext, Y.get (k := 1) rfl⟩
 rw [hb7] at Z
 try simp only [qz] at hb7
 refine wly Z (ac (v := .pointer (some ⟨w0.heap.size, 1, none⟩)) rfl (by kernel_rfl)) fun a Z => wly Z (ae (Y.get (k := 0) rfl) rfl (Tryz.isAgg3 _) rfl) fun a Z => wly Z (aj rfl) fun a Z => aJ Z Y (by decide) rfl (by decide) rfl Tryz.call111 rfl (bS _ _ _ _) fun a w10 Z Y => wly Z (bK rfl) fun a Z => wlv Z (au rfl rfl) fun a Z => wlm Z rfl fun a Z => ?_
 rcases Bool.eq_false_or_eq_true (!(isIn ev0.at_ last 20000000)) with hb8 | hb8
 ·rw [hb8] at Z
  try simp only [qz] at hb8
  refine wln Z fun a Z => wln Z fun a Z => wln Z fun a Z => wln Z fun a Z => wln Z fun a Z => wln Z fun a Z => wlv Z (aw rfl rfl) fun a Z => wla Z rfl fun a Z => ?_
  refine ab (hK9 _ _ ?_)
  have Z : Fr 37 [(0, _), (1, _), (2, _), (7, _), (4, _), (8, _), (9, _), (5, _), (6, _), (17, _), (3, _)] [] a := Z.pick [0, 1, 2, 7, 4, 8, 9, 5, 6, 17, 3]
  refine aq ?_
  refine ak Z Tryz.results134 (ah rfl ag) ?_
  exact ⟨by simp_all [retv, badEvt], Y.ext, Y.get (k := 1) rfl⟩
 rw [hb8] at Z
 try simp only [qz] at hb8
 refine wly Z (ac (v := .pointer (some ⟨w0.heap.size, 2, none⟩)) rfl (by kernel_rfl)) fun a Z => wly Z (ae (Y.get (k := 0) rfl) rfl (Tryz.isAgg3 _) rfl) fun a Z => wly Z (aj rfl) fun a Z => wly Z (aj rfl) fun a Z => aJ Z Y (by decide) rfl (by decide) rfl Tryz.call111 rfl (bS _ _ _ _) fun a w11 Z Y => wly Z (bK rfl) fun a Z => wlv Z (au rfl rfl) fun a Z => wla Z rfl fun a Z => ab (hK9 _ _ ?_)
 have Z : Fr 37 [(0, _), (1, _), (2, _), (7, _), (4, _), (8, _), (9, _), (5, _), (6, _), (17, _), (3, _)] [] a := Z.pick [0, 1, 2, 7, 4, 8, 9, 5, 6, 17, 3]
 refine aq ?_
 refine ak Z Tryz.results134 (ah rfl ag) ?_
 exact ⟨by simp_all [retv, badEvt], Y.ext, Y.get (k := 1) rfl⟩
theorem fX {M : Nat → Prop} {wb : World} {H : List Ent} {sv : Value} {els : List (List Value)} {caps : List Value} {g : FuncId} (p : Nat → Bool) (ev_ : Nat → Value) (J : Nat → Ent → Prop) (e0 : Ent) (w0 : World)
  (hen : ∀ args w, (callFunc g args).run Tryz.prog w = .ok (.enter g args) w) (hs : ∀ e w, St M wb (e :: H) w → SlAt w sv 3 els)
  (hev : ∀ k (h : k < els.length), .agg (els[k]).toArray = ev_ k) (hJ0 : J 0 e0) (Y : St M wb (e0 :: H) w0)
  (hcl : ∀ k e w, k < els.length → J k e → e.ok w → (∀ b, e.foot b → b < w.heap.size) → Ret Tryz.prog g ([ev_ k] ++ caps).toArray w fun v w' => v = .bool (p k) ∧ ∃ e', Ext e.foot w w' ∧ e'.ok w' ∧ (∀ b, e'.foot b → b < w'.heap.size ∧ (e.foot b ∨ w.heap.size ≤ b)) ∧ J (k + 1) e') :
  Ret Tryz.prog 152 #[sv, .func (.func g) #[] caps.toArray] w0 fun v w => v = iv (fstIdx p els.length) ∧ ∃ k e', J k e' ∧ St M wb (e' :: H) w := by
 have hsl := (hs _ _ Y).le
 refine aD Tryz.func152 rfl Tryz.ntmps152 (lb rfl) fun a Z => ?_
 have Z : Fr 19 [(0, _), (1, _)] [] a := Z
 refine aa fun K1 hK1 => wla Z rfl fun a Z => ab (hK1 _ _ <| ai fun K2 hK2 => ?_)
 refine aa fun K3 hK3 => wlm Z rfl fun a Z => wlv Z (aY (sT := 84) (hs _ _ Y) rfl rfl (Tryz.runUnderlying84 _)) fun a Z => wlm Z rfl fun a Z => ab (hK3 _ _ <| ax ?_)
 refine bf (fun m a w => ∃ (k : Nat) (e : Ent), m = els.length - k ∧ (k ≤ els.length) ∧ (∀ j, j < k → p j = false) ∧ (J k e) ∧ Fr 19 [(0, sv), (1, .func (.func g) #[] caps.toArray), (6, sv), (7, iv els.length), (8, iv (k : Int))] [] a ∧ St M wb (e :: H) w) _ ⟨0, e0, rfl, Nat.zero_le _, (by intro j hj; omega), hJ0, Z.pick [0, 1, 6, 7, 8], Y⟩ ?_
 rintro _ a w1 ⟨k, e, rfl, hk, hp, hJ, Z, Y⟩
 refine aa fun K4 hK4 => wlv Z (v_lt rfl rfl) fun a Z => ab (hK4 _ _ <| ai fun K5 hK5 => ?_)
 refine aB Z rfl (fun hc1 => ?_) (fun hc1 => ?_)
 ·rw [hc1] at Z
  try simp only [qz] at hc1
  refine ay <| hK5 _ _ <| ai fun K6 hK6 => ax <| aa fun K7 hK7 => wlm Z rfl fun a Z => wla Z rfl fun a Z => ab (hK7 _ _ ?_)
  refine aa fun K8 hK8 => wlm Z rfl fun a Z => wlm Z rfl fun a Z => wlm Z rfl fun a Z => wlv Z ((am (i := (k : Int)) (sT := 84) (hs _ _ Y) rfl rfl (Tryz.runUnderlying84 _) (Tryz.sizeOf96 _) (by omega) (by omega)).as (v' := slAddr sv (k * 3)) rfl) fun a Z => wlv Z ((bY (hs _ _ Y) (i := k) (by omega) rfl (Tryz.isAgg96 _) (Tryz.sizeOf96 _)).as (v' := ev_ k) (hev k (by omega))) fun a Z => wl_r (dC (cap := caps) rfl hen rfl (hcl k _ _ (by omega) hJ (Y.get (k := 0) rfl) (fun b hb => Y.lt (k := 0) rfl hb))) rfl rfl Z fun a v w2 hR Z => ?_
  obtain ⟨rfl, e1, hx, hok, hft, hJ1⟩ := hR
  have Y := Y.exchange (k := 0) rfl hx hok hft
  have Y : St M wb (e1 :: H) w2 := Y
  refine ab (hK8 _ _ ?_)
  refine aB Z rfl (fun hc2 => ?_) (fun hc2 => ?_)
  ·rw [hc2] at Z
   try simp only [qz] at hc2
   refine aa fun K9 hK9 => wlm Z rfl fun a Z => wla Z rfl fun a Z => ab (hK9 _ _ <| aq ?_)
   refine ak Z Tryz.results152 (ah rfl ag) ?_
   exact ⟨by rw [dv (k := k) (by omega) hp (by assumption)]; rfl, _, _, hJ1, Y⟩
  rw [hc2] at Z
  try simp only [qz] at hc2
  refine ay <| hK6 _ _ <| ar <| wlv Z (aM rfl rfl ⟨by omega, by omega⟩) fun a Z => wlm Z rfl fun a Z => ab ?_
  refine ⟨_, ?_, k + 1, e1, rfl, (by omega), (by intro j hj; by_cases h : j = k; (subst h; assumption); exact hp j (by omega)), hJ1, Z.pick [0, 1, 6, 7, 8], Y⟩
  omega
 rw [hc1] at Z
 try simp only [qz] at hc1
 refine aS <| hK2 _ _ <| aa fun K10 hK10 => wla Z rfl fun a Z => ab (hK10 _ _ <| aq ?_)
 refine ak Z Tryz.results152 (ah rfl ag) ?_
 have hkl : k = els.length := by omega
 subst hkl
 exact ⟨by rw [dz hp]; rfl, _, _, hJ, Y⟩
theorem eW {M : Nat → Prop} {wb : World} {H : List Ent} {sv : Value} {els : List (List Value)} {caps : List Value} {g : FuncId} (p : Nat → Bool) (ev_ : Nat → Value) (J : Nat → Ent → Prop) (e0 : Ent) (w0 : World)
  (hen : ∀ args w, (callFunc g args).run Tryz.prog w = .ok (.enter g args) w) (hs : ∀ e w, St M wb (e :: H) w → SlAt w sv 3 els)
  (hev : ∀ k (h : k < els.length), .agg (els[k]).toArray = ev_ k) (hJ0 : J 0 e0) (Y : St M wb (e0 :: H) w0)
  (hcl : ∀ k e w, k < els.length → J k e → e.ok w → (∀ b, e.foot b → b < w.heap.size) → Ret Tryz.prog g ([ev_ k] ++ caps).toArray w fun v w' => v = .bool (p k) ∧ ∃ e', Ext e.foot w w' ∧ e'.ok w' ∧ (∀ b, e'.foot b → b < w'.heap.size ∧ (e.foot b ∨ w.heap.size ≤ b)) ∧ J (k + 1) e') :
  Ret Tryz.prog 135 #[sv, .func (.func g) #[] caps.toArray] w0 fun v w => v = .bool ((List.range els.length).any p) ∧ ∃ k e', J k e' ∧ St M wb (e' :: H) w := by
 refine aD Tryz.func135 rfl Tryz.ntmps135 (lb rfl) fun a Z => ?_
 have Z : Fr 9 [(0, _), (1, _)] [] a := Z
 refine aa fun K1 hK1 => wla Z rfl fun a Z => ab (hK1 _ _ <| aa fun K2 hK2 => ?_)
 refine wlm Z rfl fun a Z => wlm Z rfl fun a Z => wl_r (dc Tryz.call152 rfl (fX p ev_ J e0 _ hen hs hev hJ0 Y hcl)) rfl rfl Z fun a v w1 hR Z => ?_
 obtain ⟨rfl, kk, e1, hJ1, Y⟩ := hR
 refine wlv Z (v_ge rfl rfl) fun a Z => wla Z rfl fun a Z => ab (hK2 _ _ <| aq ?_)
 refine ak Z Tryz.results135 (ah rfl ag) ?_
 exact ⟨by rw [gk]; rfl, _, _, hJ1, Y⟩
theorem eB (rl : Rul) (cl : Clm) (sv : Value) (l : List Evt) (w0 : World) (hsv : SlAt w0 sv 3 (l.map Evt.cells)) :
  Ret Tryz.prog 100 #[.agg #[iv rl.answer, iv rl.cooling, iv rl.settle, iv rl.reverse], .agg #[iv cl.number, iv cl.frm, iv cl.to, iv cl.holder, iv cl.asked, .bool cl.backed], sv] w0 fun v w => v = .bool (valid rl cl l) ∧ Ext No w0 w := by
 refine aD Tryz.func100 rfl Tryz.ntmps100 (lb rfl) fun a Z => ?_
 have Z : Fr 29 [(0, _), (1, _), (2, _)] [] a := Z
 have Y : St No w0 [] w0 := St.init w0
 refine aa fun K1 hK1 => aN Z Y (by decide) rfl (cs := [iv rl.answer, iv rl.cooling, iv rl.settle, iv rl.reverse]) rfl fun a w1 Z Y => aN Z Y (by decide) rfl (cs := [iv cl.number, iv cl.frm, iv cl.to, iv cl.holder, iv cl.asked, .bool cl.backed]) rfl fun a w2 Z Y => wla Z rfl fun a Z => ab (hK1 _ _ <| ai fun K2 hK2 => ?_)
 refine aa fun K3 hK3 => wlv Z (ao (Y.get (k := 1) rfl) rfl (Tryz.isAgg81 _) (Tryz.sizeOf81 _)) fun a Z => az Z Y (by decide) Tryz.call132 rfl (fM _ _ _ _ _) fun a w3 Z Y => wlv Z (bK rfl) fun a Z => wlm Z rfl fun a Z => ?_
 rcases Bool.eq_false_or_eq_true (!(aW rl)) with hb1 | hb1
 ·rw [hb1] at Z
  try simp only [qz] at hb1
  refine wln Z fun a Z => wln Z fun a Z => wln Z fun a Z => wlv Z (aw rfl rfl) fun a Z => wlm Z rfl fun a Z => wln Z fun a Z => wln Z fun a Z => wln Z fun a Z => ?_
  refine wlv Z (aw rfl rfl) fun a Z => ab (hK3 _ _ ?_)
  have Z : Fr 29 [(0, _), (1, _), (2, _), (3, _), (4, _), (6, _), (21, _)] [] a := Z.pick [0, 1, 2, 3, 4, 6, 21]
  refine aX Z rfl ?_
  refine aa fun K4 hK4 => wla Z rfl fun a Z => ab (hK4 _ _ <| aq ?_)
  refine ak Z Tryz.results100 (ah rfl ag) ?_
  exact ⟨by simp_all [retv, valid] <;> omega, Y.ext⟩
 rw [hb1] at Z
 try simp only [qz] at hb1
 have hhb1 := bP hb1
 refine wly Z (ao (Y.get (k := 0) rfl) rfl (Tryz.isAgg83 _) (Tryz.sizeOf83 _)) fun a Z => aJ Z Y (by decide) rfl (by decide) rfl Tryz.call108 rfl (eU cl _) fun a w4 Z Y => wly Z (bK rfl) fun a Z => wlv Z (au rfl rfl) fun a Z => wlm Z rfl fun a Z => ?_
 rcases Bool.eq_false_or_eq_true (!(bH cl)) with hb2 | hb2
 ·rw [hb2] at Z
  try simp only [qz] at hb2
  refine wln Z fun a Z => wln Z fun a Z => wln Z fun a Z => wlv Z (aw rfl rfl) fun a Z => ab (hK3 _ _ ?_)
  have Z : Fr 29 [(0, _), (1, _), (2, _), (3, _), (4, _), (6, _), (21, _)] [] a := Z.pick [0, 1, 2, 3, 4, 6, 21]
  refine aX Z rfl ?_
  refine aa fun K5 hK5 => wla Z rfl fun a Z => ab (hK5 _ _ <| aq ?_)
  refine ak Z Tryz.results100 (ah rfl ag) ?_
  exact ⟨by simp_all [retv, valid] <;> omega, Y.ext⟩
 rw [hb2] at Z
 try simp only [qz] at hb2
 have hhb2 := cH hb2
 refine wly Z (aj rfl) fun a Z => wly Z ((aY (sT := 84) (Y.arg hsv) rfl rfl (Tryz.runUnderlying84 _)).asi (m' := (l.length : Int)) (by simp)) fun a Z => wly Z (v_gt rfl rfl) fun a Z => wlv Z (au rfl rfl) fun a Z => ab (hK3 _ _ ?_)
 have Z : Fr 29 [(0, _), (1, _), (2, _), (3, _), (4, _), (6, _), (21, _)] [] a := Z.pick [0, 1, 2, 3, 4, 6, 21]
 refine aB Z rfl (fun hc3 => ?_) (fun hc3 => ?_)
 ·rw [hc3] at Z
  try simp only [qz] at hc3
  refine aa fun K6 hK6 => wla Z rfl fun a Z => ab (hK6 _ _ <| aq ?_)
  refine ak Z Tryz.results100 (ah rfl ag) ?_
  exact ⟨by simp_all [retv, valid] <;> omega, Y.ext⟩
 rw [hc3] at Z
 try simp only [qz] at hc3
 refine ay <| hK2 _ _ <| aa fun K7 hK7 => wlv Z (ac (v := .pointer (some ⟨w1.heap.size, 4, none⟩)) rfl (by kernel_rfl)) fun a Z => wlv Z (ae (Y.get (k := 0) rfl) rfl (Tryz.isAgg3 _) rfl) fun a Z => aI Z Y (by decide) (Tryz.zeroValue3 _) (cs := [iv 0]) rfl fun a w5 Z Y => ap 0 Z Y rfl rfl rfl (Tryz.sizeOf3 _) rfl (lb rfl) (ds := [iv cl.asked]) rfl rfl fun a w6 Z Y => ?_
 refine ab (hK7 _ _ <| aa fun K8 hK8 => ?_)
 refine wlv Z (co rfl rfl) fun a Z => wla Z rfl fun a Z => ab (hK8 _ _ <| aa fun K9 hK9 => ?_)
 refine wlm Z rfl fun a Z => wlm Z rfl fun a Z => ?_
 refine wl_r (dc Tryz.call135 rfl (eW (M := No) (wb := w0) (H := [blk w1.heap.size [iv cl.number, iv cl.frm, iv cl.to, iv cl.holder, iv cl.asked, .bool cl.backed] 83, blk w0.heap.size [iv rl.answer, iv rl.cooling, iv rl.settle, iv rl.reverse] 81]) (els := l.map Evt.cells) (caps := [pq w4.heap.size]) (g := 134) (fun k => badEvt (lastAt cl.asked l k) (l.getD k ⟨0, 0, 0⟩)) (fun k => .agg (l.getD k ⟨0, 0, 0⟩).cells.toArray) (fun k e => e = blk w4.heap.size [iv (lastAt cl.asked l k)] 3) _ w6 Tryz.call134 (fun e w h => h.arg hsv) (fun k hk => by simp at hk; simp [hk]) rfl Y ?_)) rfl rfl Z ?_
 ·rintro k _ w hk rfl hok _
  simp only [List.length_map] at hk
  refine (ly (l.getD k ⟨0, 0, 0⟩) _ (lastAt cl.asked l k) w hok).mono fun v w' ⟨h1, h2, h3⟩ => ⟨h1, _, h2, h3, fun b hb => ?_, rfl⟩
  cases hb; exact ⟨(Array.getElem?_eq_some_iff.1 h3).1, .inl rfl⟩
 rintro a v w7 ⟨rfl, kk, _, rfl, Y⟩ Z
 rw [List.length_map, i8] at Z
 refine wlv Z (bK rfl) fun a Z => wla Z rfl fun a Z => ab (hK9 _ _ <| aq ?_)
 refine ak Z Tryz.results100 (ah rfl ag) ?_
 exact ⟨by simp_all [retv, valid] <;> omega, Y.ext⟩
end Go.Proofs.YtmmfieceinmloaaGreatDoor.K16
namespace Go.Proofs.YtmmfieceinmloaaGreatDoor.K16
open Go.RowKit Go.PW
set_option linter.unusedVariables false
set_option linter.unusedSimpArgs false
set_option maxRecDepth 4000
def duesKV : List (Value × Value) := [(iv 1, .agg #[.func (.func 156) #[] #[], iv 3]), (iv 2, .agg #[.func (.func 157) #[] #[], iv 3]), (iv 3, .agg #[.func (.func 158) #[] #[], iv 4]), (iv 4, .agg #[.func (.func 159) #[] #[], iv 5])]
theorem ni (w0 : World) :
  Ret Tryz.prog 139 #[] w0 (MemR w0 (fun b : Nat => .map (some b)) (fun b => [mapE b duesKV]) (fun _ => True)) := by
 refine aD Tryz.func139 rfl Tryz.ntmps139 (lb rfl) fun a Z => ?_
 have Z : Fr 7 [] [] a := Z
 have Y : St No w0 [] w0 := St.init w0
 refine aa fun K1 hK1 => wla Z rfl fun a Z => ab (hK1 _ _ <| aa fun K2 hK2 => ?_)
 refine kg Z Y (by decide) fun a w1 Z Y => wlv Z (aR (v := .agg #[.func (.func 156) #[] #[], iv 3]) rfl (by kernel_rfl)) fun a Z => eF (Kt := 3) (Et := 207) (es := #[]) (clock := 0) 0 Z Y rfl rfl rfl rfl Tryz.underlying177 (by kernel_rfl) (by kernel_rfl) (H' := [obj w0.heap.size (.map #[{ key := iv 1, val := .agg #[.func (.func 156) #[] #[], iv 3], born := 0 }] 1)]) rfl fun a w2 Z Y => wlv Z (aR (v := .agg #[.func (.func 157) #[] #[], iv 3]) rfl (by kernel_rfl)) fun a Z => eF (Kt := 3) (Et := 207) (es := #[{ key := iv 1, val := .agg #[.func (.func 156) #[] #[], iv 3], born := 0 }]) (clock := 1) 0 Z Y rfl rfl rfl rfl Tryz.underlying177 (by kernel_rfl) (by kernel_rfl) (H' := [obj w0.heap.size (.map #[{ key := iv 1, val := .agg #[.func (.func 156) #[] #[], iv 3], born := 0 }, { key := iv 2, val := .agg #[.func (.func 157) #[] #[], iv 3], born := 1 }] 2)]) rfl fun a w3 Z Y => wlv Z (aR (v := .agg #[.func (.func 158) #[] #[], iv 4]) rfl (by kernel_rfl)) fun a Z => eF (Kt := 3) (Et := 207) (es := #[{ key := iv 1, val := .agg #[.func (.func 156) #[] #[], iv 3], born := 0 }, { key := iv 2, val := .agg #[.func (.func 157) #[] #[], iv 3], born := 1 }]) (clock := 2) 0 Z Y rfl rfl rfl rfl Tryz.underlying177 (by kernel_rfl) (by kernel_rfl) (H' := [obj w0.heap.size (.map #[{ key := iv 1, val := .agg #[.func (.func 156) #[] #[], iv 3], born := 0 }, { key := iv 2, val := .agg #[.func (.func 157) #[] #[], iv 3], born := 1 }, { key := iv 3, val := .agg #[.func (.func 158) #[] #[], iv 4], born := 2 }] 3)]) rfl fun a w4 Z Y => ?_
 refine wlv Z (aR (v := .agg #[.func (.func 159) #[] #[], iv 5]) rfl (by kernel_rfl)) fun a Z => eF (Kt := 3) (Et := 207) (es := #[{ key := iv 1, val := .agg #[.func (.func 156) #[] #[], iv 3], born := 0 }, { key := iv 2, val := .agg #[.func (.func 157) #[] #[], iv 3], born := 1 }, { key := iv 3, val := .agg #[.func (.func 158) #[] #[], iv 4], born := 2 }]) (clock := 3) 0 Z Y rfl rfl rfl rfl Tryz.underlying177 (by kernel_rfl) (by kernel_rfl) (H' := [obj w0.heap.size (.map #[{ key := iv 1, val := .agg #[.func (.func 156) #[] #[], iv 3], born := 0 }, { key := iv 2, val := .agg #[.func (.func 157) #[] #[], iv 3], born := 1 }, { key := iv 3, val := .agg #[.func (.func 158) #[] #[], iv 4], born := 2 }, { key := iv 4, val := .agg #[.func (.func 159) #[] #[], iv 5], born := 3 }] 4)]) rfl fun a w5 Z Y => wlm Z rfl fun a Z => wla Z rfl fun a Z => ab (hK2 _ _ ?_)
 have Z : Fr 7 [(0, _)] [] a := Z.pick [0]
 refine aq ?_
 refine ak Z Tryz.results139 (ah rfl ag) ?_
 have Y : St No w0 [mapE _ duesKV] w5 := Y.toMap 0 rfl rfl rfl
 exact ⟨_, rfl, trivial, Y.ext, St.out (E := [mapE _ duesKV]) (H := []) Y⟩
def effKV : Nat → Value × Value
 | 2 => (.agg #[iv 1, iv 1], iv 3)
 | 4 => (.agg #[iv 2, iv 1], iv 2)
 | 6 => (.agg #[iv 3, iv 2], iv 3)
 | 8 => (.agg #[iv 4, iv 2], iv 6)
 | 10 => (.agg #[iv 5, iv 1], iv 7)
 | 12 => (.agg #[iv 5, iv 2], iv 7)
 | 14 => (.agg #[iv 5, iv 3], iv 7)
 | 16 => (.agg #[iv 6, iv 4], iv 8)
 | _ => (undef, undef)
def effAll : List (Value × Value) := [2, 4, 6, 8, 10, 12, 14, 16].map effKV
def noEnt : Ent := ⟨fun _ => False, fun _ => True, fun _ _ _ h => h⟩
def effG (D : List Nat) (V : Nat → Value) (e : Ent) : Prop :=
 (∀ i ∈ D, i < 17) ∧ ((0 ∉ D ∧ (∀ i ∈ D, i % 2 = 1) ∧ e = noEnt) ∨ (0 ∈ D ∧ ∃ b, V 0 = .map (some b) ∧ e = mapE b ((D.filter fun i => decide (i % 2 = 0) && decide (i ≠ 0)).map effKV)))
theorem dg (a b c d : Int) (w : World) : (Op.equal 227 (.agg #[iv a, iv b]) (.agg #[iv c, iv d])).run Tryz.prog w = .ok (decide (a = c) && decide (b = d)) w := by
 unfold Op.equal Op.maxDepth
 obtain ⟨dd, hd⟩ : ∃ dd, 10000 = dd + 1 + 1 := ⟨9998, rfl⟩
 rw [hd, run_equalIn_struct w (dd + 1) 227 _ _ (by kernel_rfl) (by kernel_rfl)]
 simp only [Program.fieldsOf, Tryz.underlying227, Op.eqFields]
 simp [part, Tryz.isAgg3, Op.equalIn, run_underlying Tryz.underlying3]
 by_cases h1 : a = c <;> by_cases h2 : b = d <;> simp [h1, h2]
theorem cN {i : Nat} (h : i < 17) (h2 : i % 2 = 0) (h0 : i ≠ 0) : ∃ x y, (effKV i).1 = .agg #[iv x, iv y] := by
 match i, h with
 | 0, _ => exact absurd rfl h0
 | 1, _ => simp at h2
 | 2, _ => exact ⟨_, _, rfl⟩
 | 3, _ => simp at h2
 | 4, _ => exact ⟨_, _, rfl⟩
 | 5, _ => simp at h2
 | 6, _ => exact ⟨_, _, rfl⟩
 | 7, _ => simp at h2
 | 8, _ => exact ⟨_, _, rfl⟩
 | 9, _ => simp at h2
 | 10, _ => exact ⟨_, _, rfl⟩
 | 11, _ => simp at h2
 | 12, _ => exact ⟨_, _, rfl⟩
 | 13, _ => simp at h2
 | 14, _ => exact ⟨_, _, rfl⟩
 | 15, _ => simp at h2
 | 16, _ => exact ⟨_, _, rfl⟩
 | i + 17, h => exact absurd h (by omega)
theorem c9 {i j : Nat} (hi : i < 17) (hj : j < 17) (hi2 : i % 2 = 0) (hj2 : j % 2 = 0) (hi0 : i ≠ 0) (hj0 : j ≠ 0) (hne : i ≠ j) (x y : Int) (h : (effKV i).1 = .agg #[iv x, iv y]) : isAgg2 x y (effKV j).1 = false := by
 have key : ((List.range 17).all fun i => (List.range 17).all fun j => decide (i % 2 = 1) || decide (j % 2 = 1) || decide (i = 0) || decide (j = 0) || decide (i = j) || !(match (effKV i).1 with | .agg ⟨[.int .i64 x, .int .i64 y]⟩ => isAgg2 x y (effKV j).1 | _ => true)) = true := by kernel_rfl
 have h1 := List.all_eq_true.1 (List.all_eq_true.1 key i (List.mem_range.2 hi)) j (List.mem_range.2 hj)
 rw [h] at h1
 simpa [hi0, hj0, hne, hi2, hj2] using h1
set_option maxHeartbeats 4000000 in
theorem kJ (w0 : World) :
  Ret Tryz.prog 140 #[] w0 (MemR w0 (fun b : Nat => .map (some b)) (fun b => [mapE b effAll]) (fun _ => True)) := by
 refine aD Tryz.func140 rfl Tryz.ntmps140 (lb rfl) fun a Z => ?_
 have Z : Fr 11 [] [] a := Z
 have Y : St No w0 [] w0 := St.init w0
 refine aa fun K1 hK1 => wla Z rfl fun a Z => ab (hK1 _ _ <| ai fun K2 hK2 => ?_)
 refine aK (by kernel_rfl) ?_
 refine cY (M := No) (w0 := w0) (e0 := noEnt) 17 [[], [], [0, 1], [], [0, 3], [], [0, 5], [], [0, 7], [], [0, 9], [], [0, 11], [], [0, 13], [], [0, 15]] [0, 2, 4, 6, 8, 10, 12, 14, 16] (by kernel_rfl) (by kernel_rfl) (fun i => match i with | 0 => fun v E => (∃ b, v = .map (some b)) ∧ E = [] | 1 => pv (.agg #[iv 1, iv 1]) | 2 => pv undef | 3 => pv (.agg #[iv 2, iv 1]) | 4 => pv undef | 5 => pv (.agg #[iv 3, iv 2]) | 6 => pv undef | 7 => pv (.agg #[iv 4, iv 2]) | 8 => pv undef | 9 => pv (.agg #[iv 5, iv 1]) | 10 => pv undef | 11 => pv (.agg #[iv 5, iv 2]) | 12 => pv undef | 13 => pv (.agg #[iv 5, iv 3]) | 14 => pv undef | 15 => pv (.agg #[iv 6, iv 4]) | 16 => pv undef | _ => fun _ _ => False) ?_ effG ?_ ?_ Z (H := []) ?_ ?_ ?_ ?_
 ·intro i v E hd hR
  match i with
  | 0 => exact absurd hd (by simp [opAt])
  | 1 => exact absurd hd (by simp [opAt])
  | 2 => exact hR.1.symm
  | 3 => exact absurd hd (by simp [opAt])
  | 4 => exact hR.1.symm
  | 5 => exact absurd hd (by simp [opAt])
  | 6 => exact hR.1.symm
  | 7 => exact absurd hd (by simp [opAt])
  | 8 => exact hR.1.symm
  | 9 => exact absurd hd (by simp [opAt])
  | 10 => exact hR.1.symm
  | 11 => exact absurd hd (by simp [opAt])
  | 12 => exact hR.1.symm
  | 13 => exact absurd hd (by simp [opAt])
  | 14 => exact hR.1.symm
  | 15 => exact absurd hd (by simp [opAt])
  | 16 => exact hR.1.symm
  | i + 17 => exact hR.elim
 ·exact fun _ => ⟨by simp, .inl ⟨by simp, by simp, rfl⟩⟩
 ·rintro i D V V' e hi hm hV ⟨hlt, hor⟩
  have hodd : i % 2 = 1 := by simp at hm; omega
  refine ⟨by simpa using ⟨hi, hlt⟩, ?_⟩
  rcases hor with ⟨h0, h1, rfl⟩ | ⟨h0, b, h1, rfl⟩
  ·exact .inl ⟨by simp [h0]; omega, by simpa using ⟨hodd, h1⟩, rfl⟩
  ·exact .inr ⟨by simp [h0], b, (hV 0 h0).trans h1, by rw [List.filter_cons_of_neg (by simp; omega)]⟩
 ·exact ⟨Y.ext, by intro e he; rw [List.mem_singleton] at he; subst he; exact ⟨trivial, fun k hk => hk.elim⟩, List.pairwise_singleton _ _⟩
 ·intro i hi hm V E w hR D e hp hG hni Y
  match i, hi with
  | 0, _ => exact absurd (by simp) hm
  | 1, _ => exact OpV.g (aR (v := .agg #[iv 1, iv 1]) rfl (by kernel_rfl))
  | 2, _ => exact absurd (by simp) hm
  | 3, _ => exact OpV.g (aR (v := .agg #[iv 2, iv 1]) rfl (by kernel_rfl))
  | 4, _ => exact absurd (by simp) hm
  | 5, _ => exact OpV.g (aR (v := .agg #[iv 3, iv 2]) rfl (by kernel_rfl))
  | 6, _ => exact absurd (by simp) hm
  | 7, _ => exact OpV.g (aR (v := .agg #[iv 4, iv 2]) rfl (by kernel_rfl))
  | 8, _ => exact absurd (by simp) hm
  | 9, _ => exact OpV.g (aR (v := .agg #[iv 5, iv 1]) rfl (by kernel_rfl))
  | 10, _ => exact absurd (by simp) hm
  | 11, _ => exact OpV.g (aR (v := .agg #[iv 5, iv 2]) rfl (by kernel_rfl))
  | 12, _ => exact absurd (by simp) hm
  | 13, _ => exact OpV.g (aR (v := .agg #[iv 5, iv 3]) rfl (by kernel_rfl))
  | 14, _ => exact absurd (by simp) hm
  | 15, _ => exact OpV.g (aR (v := .agg #[iv 6, iv 4]) rfl (by kernel_rfl))
  | 16, _ => exact absurd (by simp) hm
  | i + 17, h => exact absurd h (by omega)
 ·intro i hi hm V E w hR D e hp hG hni Y
  match i, hi with
  | 0, _ =>
   obtain ⟨hlt, hor⟩ := hG
   rcases hor with ⟨h0, h1, rfl⟩ | ⟨h0, _⟩
   ·refine il.mono ?_
    rintro v w' ⟨rfl, rfl⟩
    refine ⟨mapE w.heap.size [], Ext.alloc _ _ _, mi w, fun b hb => by cases hb; exact ⟨by simp, .inr (Nat.le_refl _)⟩, ⟨⟨_, rfl⟩, rfl⟩, fun V' hV' hv => ⟨by simpa using hlt, .inr ⟨by simp, _, hv, ?_⟩⟩⟩
    rw [List.filter_cons_of_neg (by simp), List.filter_eq_nil_iff.2 (fun i hi => by have := h1 i hi; simp; omega)]; rfl
   ·exact absurd h0 hni
  | 1, _ => exact absurd hm (by decide)
  | 2, _ =>
   obtain ⟨hlt, hor⟩ := hG
   have h0D : 0 ∈ D := hp 0 (by simp)
   rcases hor with ⟨h0, _⟩ | ⟨_, b, hV0, rfl⟩
   ·exact absurd h0D h0
   ·have hk : V 1 = .agg #[iv 1, iv 1] := (hR 1 (by simp)).1.symm
    have hmap := Y.get (k := 0) rfl
    have hmem : ∀ x ∈ (D.filter fun i => decide (i % 2 = 0) && decide (i ≠ 0)).map effKV, ∃ j, j ∈ D ∧ j < 17 ∧ j % 2 = 0 ∧ j ≠ 0 ∧ x = effKV j := by
     intro x hx
     obtain ⟨j, hj, rfl⟩ := List.mem_map.1 hx
     obtain ⟨hj1, hj2⟩ := List.mem_filter.1 hj
     simp at hj2
     exact ⟨j, hj1, hlt j hj1, hj2.1, hj2.2, rfl⟩
    obtain ⟨o, ho1, ho2⟩ := bX (P := Tryz.prog) (w := w) (T := 178) (Kt := 227) (Et := 3) (k := .agg #[iv 1, iv 1]) (v := iv 3) (q := isAgg2 1 1) hmap Tryz.underlying178
     (fun es i hes => ⟨_, Tryz.runUnderlying227 w, by cases es with | nil => exact absurd rfl hes | cons e es => rfl⟩) ⟨_, Tryz.runUnderlying227 w⟩ (fun b => by kernel_rfl)
     (fun x hx => by obtain ⟨j, _, h1, h2, h3, rfl⟩ := hmem x hx; obtain ⟨x1, x2, hx⟩ := cN h1 h2 h3; rw [hx, dg]; rfl)
     (List.find?_eq_none.2 fun x hx => by obtain ⟨j, hjD, h1, h2, h3, rfl⟩ := hmem x hx; rw [c9 (i := 2) (by decide) h1 (by decide) h2 (by decide) h3 (fun e => hni (e ▸ hjD)) _ _ rfl]; simp)
    have hb := Y.lt (k := 0) (b := b) rfl rfl
    refine (cQ (u := .map (some b)) (k := .agg #[iv 1, iv 1]) (v := iv 3) ?_ ?_ rfl ho1).mono ?_
    ·show some (V 0) = _; rw [hV0]
    ·show some (V 1) = _; rw [hk]
    ·rintro v w' ⟨rfl, rfl⟩
     refine ⟨mapE b (effKV 2 :: (D.filter fun i => decide (i % 2 = 0) && decide (i ≠ 0)).map effKV), (Ext.putObj (M := (mapE b _).foot) rfl _ _), ho2, fun b' hb' => by cases hb'; exact ⟨by simpa using hb, .inl rfl⟩, ⟨rfl, rfl⟩, fun V' hV' _ => ⟨by simpa using hlt, .inr ⟨by simp [h0D], b, (hV' 0 h0D).trans hV0, ?_⟩⟩⟩
     rw [List.filter_cons_of_pos (by decide), List.map_cons]
  | 3, _ => exact absurd hm (by decide)
  | 4, _ =>
   obtain ⟨hlt, hor⟩ := hG
   have h0D : 0 ∈ D := hp 0 (by simp)
   rcases hor with ⟨h0, _⟩ | ⟨_, b, hV0, rfl⟩
   ·exact absurd h0D h0
   ·have hk : V 3 = .agg #[iv 2, iv 1] := (hR 3 (by simp)).1.symm
    have hmap := Y.get (k := 0) rfl
    have hmem : ∀ x ∈ (D.filter fun i => decide (i % 2 = 0) && decide (i ≠ 0)).map effKV, ∃ j, j ∈ D ∧ j < 17 ∧ j % 2 = 0 ∧ j ≠ 0 ∧ x = effKV j := by
     intro x hx
     obtain ⟨j, hj, rfl⟩ := List.mem_map.1 hx
     obtain ⟨hj1, hj2⟩ := List.mem_filter.1 hj
     simp at hj2
     exact ⟨j, hj1, hlt j hj1, hj2.1, hj2.2, rfl⟩
    obtain ⟨o, ho1, ho2⟩ := bX (P := Tryz.prog) (w := w) (T := 178) (Kt := 227) (Et := 3) (k := .agg #[iv 2, iv 1]) (v := iv 2) (q := isAgg2 2 1) hmap Tryz.underlying178
     (fun es i hes => ⟨_, Tryz.runUnderlying227 w, by cases es with | nil => exact absurd rfl hes | cons e es => rfl⟩) ⟨_, Tryz.runUnderlying227 w⟩ (fun b => by kernel_rfl)
     (fun x hx => by obtain ⟨j, _, h1, h2, h3, rfl⟩ := hmem x hx; obtain ⟨x1, x2, hx⟩ := cN h1 h2 h3; rw [hx, dg]; rfl)
     (List.find?_eq_none.2 fun x hx => by obtain ⟨j, hjD, h1, h2, h3, rfl⟩ := hmem x hx; rw [c9 (i := 4) (by decide) h1 (by decide) h2 (by decide) h3 (fun e => hni (e ▸ hjD)) _ _ rfl]; simp)
    have hb := Y.lt (k := 0) (b := b) rfl rfl
    refine (cQ (u := .map (some b)) (k := .agg #[iv 2, iv 1]) (v := iv 2) ?_ ?_ rfl ho1).mono ?_
    ·show some (V 0) = _; rw [hV0]
    ·show some (V 3) = _; rw [hk]
    ·rintro v w' ⟨rfl, rfl⟩
     refine ⟨mapE b (effKV 4 :: (D.filter fun i => decide (i % 2 = 0) && decide (i ≠ 0)).map effKV), (Ext.putObj (M := (mapE b _).foot) rfl _ _), ho2, fun b' hb' => by cases hb'; exact ⟨by simpa using hb, .inl rfl⟩, ⟨rfl, rfl⟩, fun V' hV' _ => ⟨by simpa using hlt, .inr ⟨by simp [h0D], b, (hV' 0 h0D).trans hV0, ?_⟩⟩⟩
     rw [List.filter_cons_of_pos (by decide), List.map_cons]
  | 5, _ => exact absurd hm (by decide)
  | 6, _ =>
   obtain ⟨hlt, hor⟩ := hG
   have h0D : 0 ∈ D := hp 0 (by simp)
   rcases hor with ⟨h0, _⟩ | ⟨_, b, hV0, rfl⟩
   ·exact absurd h0D h0
   ·have hk : V 5 = .agg #[iv 3, iv 2] := (hR 5 (by simp)).1.symm
    have hmap := Y.get (k := 0) rfl
    have hmem : ∀ x ∈ (D.filter fun i => decide (i % 2 = 0) && decide (i ≠ 0)).map effKV, ∃ j, j ∈ D ∧ j < 17 ∧ j % 2 = 0 ∧ j ≠ 0 ∧ x = effKV j := by
     intro x hx
     obtain ⟨j, hj, rfl⟩ := List.mem_map.1 hx
     obtain ⟨hj1, hj2⟩ := List.mem_filter.1 hj
     simp at hj2
     exact ⟨j, hj1, hlt j hj1, hj2.1, hj2.2, rfl⟩
    obtain ⟨o, ho1, ho2⟩ := bX (P := Tryz.prog) (w := w) (T := 178) (Kt := 227) (Et := 3) (k := .agg #[iv 3, iv 2]) (v := iv 3) (q := isAgg2 3 2) hmap Tryz.underlying178
     (fun es i hes => ⟨_, Tryz.runUnderlying227 w, by cases es with | nil => exact absurd rfl hes | cons e es => rfl⟩) ⟨_, Tryz.runUnderlying227 w⟩ (fun b => by kernel_rfl)
     (fun x hx => by obtain ⟨j, _, h1, h2, h3, rfl⟩ := hmem x hx; obtain ⟨x1, x2, hx⟩ := cN h1 h2 h3; rw [hx, dg]; rfl)
     (List.find?_eq_none.2 fun x hx => by obtain ⟨j, hjD, h1, h2, h3, rfl⟩ := hmem x hx; rw [c9 (i := 6) (by decide) h1 (by decide) h2 (by decide) h3 (fun e => hni (e ▸ hjD)) _ _ rfl]; simp)
    have hb := Y.lt (k := 0) (b := b) rfl rfl
    refine (cQ (u := .map (some b)) (k := .agg #[iv 3, iv 2]) (v := iv 3) ?_ ?_ rfl ho1).mono ?_
    ·show some (V 0) = _; rw [hV0]
    ·show some (V 5) = _; rw [hk]
    ·rintro v w' ⟨rfl, rfl⟩
     refine ⟨mapE b (effKV 6 :: (D.filter fun i => decide (i % 2 = 0) && decide (i ≠ 0)).map effKV), (Ext.putObj (M := (mapE b _).foot) rfl _ _), ho2, fun b' hb' => by cases hb'; exact ⟨by simpa using hb, .inl rfl⟩, ⟨rfl, rfl⟩, fun V' hV' _ => ⟨by simpa using hlt, .inr ⟨by simp [h0D], b, (hV' 0 h0D).trans hV0, ?_⟩⟩⟩
     rw [List.filter_cons_of_pos (by decide), List.map_cons]
  | 7, _ => exact absurd hm (by decide)
  | 8, _ =>
   obtain ⟨hlt, hor⟩ := hG
   have h0D : 0 ∈ D := hp 0 (by simp)
   rcases hor with ⟨h0, _⟩ | ⟨_, b, hV0, rfl⟩
   ·exact absurd h0D h0
   ·have hk : V 7 = .agg #[iv 4, iv 2] := (hR 7 (by simp)).1.symm
    have hmap := Y.get (k := 0) rfl
    have hmem : ∀ x ∈ (D.filter fun i => decide (i % 2 = 0) && decide (i ≠ 0)).map effKV, ∃ j, j ∈ D ∧ j < 17 ∧ j % 2 = 0 ∧ j ≠ 0 ∧ x = effKV j := by
     intro x hx
     obtain ⟨j, hj, rfl⟩ := List.mem_map.1 hx
     obtain ⟨hj1, hj2⟩ := List.mem_filter.1 hj
     simp at hj2
     exact ⟨j, hj1, hlt j hj1, hj2.1, hj2.2, rfl⟩
    obtain ⟨o, ho1, ho2⟩ := bX (P := Tryz.prog) (w := w) (T := 178) (Kt := 227) (Et := 3) (k := .agg #[iv 4, iv 2]) (v := iv 6) (q := isAgg2 4 2) hmap Tryz.underlying178
     (fun es i hes => ⟨_, Tryz.runUnderlying227 w, by cases es with | nil => exact absurd rfl hes | cons e es => rfl⟩) ⟨_, Tryz.runUnderlying227 w⟩ (fun b => by kernel_rfl)
     (fun x hx => by obtain ⟨j, _, h1, h2, h3, rfl⟩ := hmem x hx; obtain ⟨x1, x2, hx⟩ := cN h1 h2 h3; rw [hx, dg]; rfl)
     (List.find?_eq_none.2 fun x hx => by obtain ⟨j, hjD, h1, h2, h3, rfl⟩ := hmem x hx; rw [c9 (i := 8) (by decide) h1 (by decide) h2 (by decide) h3 (fun e => hni (e ▸ hjD)) _ _ rfl]; simp)
    have hb := Y.lt (k := 0) (b := b) rfl rfl
    refine (cQ (u := .map (some b)) (k := .agg #[iv 4, iv 2]) (v := iv 6) ?_ ?_ rfl ho1).mono ?_
    ·show some (V 0) = _; rw [hV0]
    ·show some (V 7) = _; rw [hk]
    ·rintro v w' ⟨rfl, rfl⟩
     refine ⟨mapE b (effKV 8 :: (D.filter fun i => decide (i % 2 = 0) && decide (i ≠ 0)).map effKV), (Ext.putObj (M := (mapE b _).foot) rfl _ _), ho2, fun b' hb' => by cases hb'; exact ⟨by simpa using hb, .inl rfl⟩, ⟨rfl, rfl⟩, fun V' hV' _ => ⟨by simpa using hlt, .inr ⟨by simp [h0D], b, (hV' 0 h0D).trans hV0, ?_⟩⟩⟩
     rw [List.filter_cons_of_pos (by decide), List.map_cons]
  | 9, _ => exact absurd hm (by decide)
  | 10, _ =>
   obtain ⟨hlt, hor⟩ := hG
   have h0D : 0 ∈ D := hp 0 (by simp)
   rcases hor with ⟨h0, _⟩ | ⟨_, b, hV0, rfl⟩
   ·exact absurd h0D h0
   ·have hk : V 9 = .agg #[iv 5, iv 1] := (hR 9 (by simp)).1.symm
    have hmap := Y.get (k := 0) rfl
    have hmem : ∀ x ∈ (D.filter fun i => decide (i % 2 = 0) && decide (i ≠ 0)).map effKV, ∃ j, j ∈ D ∧ j < 17 ∧ j % 2 = 0 ∧ j ≠ 0 ∧ x = effKV j := by
     intro x hx
     obtain ⟨j, hj, rfl⟩ := List.mem_map.1 hx
     obtain ⟨hj1, hj2⟩ := List.mem_filter.1 hj
     simp at hj2
     exact ⟨j, hj1, hlt j hj1, hj2.1, hj2.2, rfl⟩
    obtain ⟨o, ho1, ho2⟩ := bX (P := Tryz.prog) (w := w) (T := 178) (Kt := 227) (Et := 3) (k := .agg #[iv 5, iv 1]) (v := iv 7) (q := isAgg2 5 1) hmap Tryz.underlying178
     (fun es i hes => ⟨_, Tryz.runUnderlying227 w, by cases es with | nil => exact absurd rfl hes | cons e es => rfl⟩) ⟨_, Tryz.runUnderlying227 w⟩ (fun b => by kernel_rfl)
     (fun x hx => by obtain ⟨j, _, h1, h2, h3, rfl⟩ := hmem x hx; obtain ⟨x1, x2, hx⟩ := cN h1 h2 h3; rw [hx, dg]; rfl)
     (List.find?_eq_none.2 fun x hx => by obtain ⟨j, hjD, h1, h2, h3, rfl⟩ := hmem x hx; rw [c9 (i := 10) (by decide) h1 (by decide) h2 (by decide) h3 (fun e => hni (e ▸ hjD)) _ _ rfl]; simp)
    have hb := Y.lt (k := 0) (b := b) rfl rfl
    refine (cQ (u := .map (some b)) (k := .agg #[iv 5, iv 1]) (v := iv 7) ?_ ?_ rfl ho1).mono ?_
    ·show some (V 0) = _; rw [hV0]
    ·show some (V 9) = _; rw [hk]
    ·rintro v w' ⟨rfl, rfl⟩
     refine ⟨mapE b (effKV 10 :: (D.filter fun i => decide (i % 2 = 0) && decide (i ≠ 0)).map effKV), (Ext.putObj (M := (mapE b _).foot) rfl _ _), ho2, fun b' hb' => by cases hb'; exact ⟨by simpa using hb, .inl rfl⟩, ⟨rfl, rfl⟩, fun V' hV' _ => ⟨by simpa using hlt, .inr ⟨by simp [h0D], b, (hV' 0 h0D).trans hV0, ?_⟩⟩⟩
     rw [List.filter_cons_of_pos (by decide), List.map_cons]
  | 11, _ => exact absurd hm (by decide)
  | 12, _ =>
   obtain ⟨hlt, hor⟩ := hG
   have h0D : 0 ∈ D := hp 0 (by simp)
   rcases hor with ⟨h0, _⟩ | ⟨_, b, hV0, rfl⟩
   ·exact absurd h0D h0
   ·have hk : V 11 = .agg #[iv 5, iv 2] := (hR 11 (by simp)).1.symm
    have hmap := Y.get (k := 0) rfl
    have hmem : ∀ x ∈ (D.filter fun i => decide (i % 2 = 0) && decide (i ≠ 0)).map effKV, ∃ j, j ∈ D ∧ j < 17 ∧ j % 2 = 0 ∧ j ≠ 0 ∧ x = effKV j := by
     intro x hx
     obtain ⟨j, hj, rfl⟩ := List.mem_map.1 hx
     obtain ⟨hj1, hj2⟩ := List.mem_filter.1 hj
     simp at hj2
     exact ⟨j, hj1, hlt j hj1, hj2.1, hj2.2, rfl⟩
    obtain ⟨o, ho1, ho2⟩ := bX (P := Tryz.prog) (w := w) (T := 178) (Kt := 227) (Et := 3) (k := .agg #[iv 5, iv 2]) (v := iv 7) (q := isAgg2 5 2) hmap Tryz.underlying178
     (fun es i hes => ⟨_, Tryz.runUnderlying227 w, by cases es with | nil => exact absurd rfl hes | cons e es => rfl⟩) ⟨_, Tryz.runUnderlying227 w⟩ (fun b => by kernel_rfl)
     (fun x hx => by obtain ⟨j, _, h1, h2, h3, rfl⟩ := hmem x hx; obtain ⟨x1, x2, hx⟩ := cN h1 h2 h3; rw [hx, dg]; rfl)
     (List.find?_eq_none.2 fun x hx => by obtain ⟨j, hjD, h1, h2, h3, rfl⟩ := hmem x hx; rw [c9 (i := 12) (by decide) h1 (by decide) h2 (by decide) h3 (fun e => hni (e ▸ hjD)) _ _ rfl]; simp)
    have hb := Y.lt (k := 0) (b := b) rfl rfl
    refine (cQ (u := .map (some b)) (k := .agg #[iv 5, iv 2]) (v := iv 7) ?_ ?_ rfl ho1).mono ?_
    ·show some (V 0) = _; rw [hV0]
    ·show some (V 11) = _; rw [hk]
    ·rintro v w' ⟨rfl, rfl⟩
     refine ⟨mapE b (effKV 12 :: (D.filter fun i => decide (i % 2 = 0) && decide (i ≠ 0)).map effKV), (Ext.putObj (M := (mapE b _).foot) rfl _ _), ho2, fun b' hb' => by cases hb'; exact ⟨by simpa using hb, .inl rfl⟩, ⟨rfl, rfl⟩, fun V' hV' _ => ⟨by simpa using hlt, .inr ⟨by simp [h0D], b, (hV' 0 h0D).trans hV0, ?_⟩⟩⟩
     rw [List.filter_cons_of_pos (by decide), List.map_cons]
  | 13, _ => exact absurd hm (by decide)
  | 14, _ =>
   obtain ⟨hlt, hor⟩ := hG
   have h0D : 0 ∈ D := hp 0 (by simp)
   rcases hor with ⟨h0, _⟩ | ⟨_, b, hV0, rfl⟩
   ·exact absurd h0D h0
   ·have hk : V 13 = .agg #[iv 5, iv 3] := (hR 13 (by simp)).1.symm
    have hmap := Y.get (k := 0) rfl
    have hmem : ∀ x ∈ (D.filter fun i => decide (i % 2 = 0) && decide (i ≠ 0)).map effKV, ∃ j, j ∈ D ∧ j < 17 ∧ j % 2 = 0 ∧ j ≠ 0 ∧ x = effKV j := by
     intro x hx
     obtain ⟨j, hj, rfl⟩ := List.mem_map.1 hx
     obtain ⟨hj1, hj2⟩ := List.mem_filter.1 hj
     simp at hj2
     exact ⟨j, hj1, hlt j hj1, hj2.1, hj2.2, rfl⟩
    obtain ⟨o, ho1, ho2⟩ := bX (P := Tryz.prog) (w := w) (T := 178) (Kt := 227) (Et := 3) (k := .agg #[iv 5, iv 3]) (v := iv 7) (q := isAgg2 5 3) hmap Tryz.underlying178
     (fun es i hes => ⟨_, Tryz.runUnderlying227 w, by cases es with | nil => exact absurd rfl hes | cons e es => rfl⟩) ⟨_, Tryz.runUnderlying227 w⟩ (fun b => by kernel_rfl)
     (fun x hx => by obtain ⟨j, _, h1, h2, h3, rfl⟩ := hmem x hx; obtain ⟨x1, x2, hx⟩ := cN h1 h2 h3; rw [hx, dg]; rfl)
     (List.find?_eq_none.2 fun x hx => by obtain ⟨j, hjD, h1, h2, h3, rfl⟩ := hmem x hx; rw [c9 (i := 14) (by decide) h1 (by decide) h2 (by decide) h3 (fun e => hni (e ▸ hjD)) _ _ rfl]; simp)
    have hb := Y.lt (k := 0) (b := b) rfl rfl
    refine (cQ (u := .map (some b)) (k := .agg #[iv 5, iv 3]) (v := iv 7) ?_ ?_ rfl ho1).mono ?_
    ·show some (V 0) = _; rw [hV0]
    ·show some (V 13) = _; rw [hk]
    ·rintro v w' ⟨rfl, rfl⟩
     refine ⟨mapE b (effKV 14 :: (D.filter fun i => decide (i % 2 = 0) && decide (i ≠ 0)).map effKV), (Ext.putObj (M := (mapE b _).foot) rfl _ _), ho2, fun b' hb' => by cases hb'; exact ⟨by simpa using hb, .inl rfl⟩, ⟨rfl, rfl⟩, fun V' hV' _ => ⟨by simpa using hlt, .inr ⟨by simp [h0D], b, (hV' 0 h0D).trans hV0, ?_⟩⟩⟩
     rw [List.filter_cons_of_pos (by decide), List.map_cons]
  | 15, _ => exact absurd hm (by decide)
  | 16, _ =>
   obtain ⟨hlt, hor⟩ := hG
   have h0D : 0 ∈ D := hp 0 (by simp)
   rcases hor with ⟨h0, _⟩ | ⟨_, b, hV0, rfl⟩
   ·exact absurd h0D h0
   ·have hk : V 15 = .agg #[iv 6, iv 4] := (hR 15 (by simp)).1.symm
    have hmap := Y.get (k := 0) rfl
    have hmem : ∀ x ∈ (D.filter fun i => decide (i % 2 = 0) && decide (i ≠ 0)).map effKV, ∃ j, j ∈ D ∧ j < 17 ∧ j % 2 = 0 ∧ j ≠ 0 ∧ x = effKV j := by
     intro x hx
     obtain ⟨j, hj, rfl⟩ := List.mem_map.1 hx
     obtain ⟨hj1, hj2⟩ := List.mem_filter.1 hj
     simp at hj2
     exact ⟨j, hj1, hlt j hj1, hj2.1, hj2.2, rfl⟩
    obtain ⟨o, ho1, ho2⟩ := bX (P := Tryz.prog) (w := w) (T := 178) (Kt := 227) (Et := 3) (k := .agg #[iv 6, iv 4]) (v := iv 8) (q := isAgg2 6 4) hmap Tryz.underlying178
     (fun es i hes => ⟨_, Tryz.runUnderlying227 w, by cases es with | nil => exact absurd rfl hes | cons e es => rfl⟩) ⟨_, Tryz.runUnderlying227 w⟩ (fun b => by kernel_rfl)
     (fun x hx => by obtain ⟨j, _, h1, h2, h3, rfl⟩ := hmem x hx; obtain ⟨x1, x2, hx⟩ := cN h1 h2 h3; rw [hx, dg]; rfl)
     (List.find?_eq_none.2 fun x hx => by obtain ⟨j, hjD, h1, h2, h3, rfl⟩ := hmem x hx; rw [c9 (i := 16) (by decide) h1 (by decide) h2 (by decide) h3 (fun e => hni (e ▸ hjD)) _ _ rfl]; simp)
    have hb := Y.lt (k := 0) (b := b) rfl rfl
    refine (cQ (u := .map (some b)) (k := .agg #[iv 6, iv 4]) (v := iv 8) ?_ ?_ rfl ho1).mono ?_
    ·show some (V 0) = _; rw [hV0]
    ·show some (V 15) = _; rw [hk]
    ·rintro v w' ⟨rfl, rfl⟩
     refine ⟨mapE b (effKV 16 :: (D.filter fun i => decide (i % 2 = 0) && decide (i ≠ 0)).map effKV), (Ext.putObj (M := (mapE b _).foot) rfl _ _), ho2, fun b' hb' => by cases hb'; exact ⟨by simpa using hb, .inl rfl⟩, ⟨rfl, rfl⟩, fun V' hV' _ => ⟨by simpa using hlt, .inr ⟨by simp [h0D], b, (hV' 0 h0D).trans hV0, ?_⟩⟩⟩
     rw [List.filter_cons_of_pos (by decide), List.map_cons]
  | i + 17, h => exact absurd h (by omega)
 rintro D V E e a w1 hD ⟨_, hor⟩ hR Z Y
 rcases hor with ⟨h0, _⟩ | ⟨_, b, hV0, rfl⟩
 ·exact absurd (hD.mem_iff.2 (by simp)) h0
 have hperm : ((D.filter fun i => decide (i % 2 = 0) && decide (i ≠ 0)).map effKV).Perm effAll := by
  have h1 := (hD.filter fun i => decide (i % 2 = 0) && decide (i ≠ 0)).map effKV
  exact h1
 have Z : Fr 11 [(1, _)] [] a := Z.pick [1]
 rw [hV0] at Z
 have Y : St No w0 [mapE b _] w1 := Y.mask [true]
 have Y : St No w0 [mapE b effAll] w1 := Y.exchange (k := 0) (e := mapE b _) (e' := mapE b effAll) rfl (Ext.refl _ _) (by obtain ⟨es, cl, h1, h2⟩ := Y.get (k := 0) rfl; exact ⟨es, cl, h1, h2.trans hperm⟩) (fun k hk => ⟨Y.lt (k := 0) rfl hk, .inl hk⟩)
 refine wlm Z rfl fun a Z => wla Z rfl fun a Z => ab <| hK2 _ _ <| aq ?_
 refine ak Z Tryz.results140 (ah rfl ag) ?_
 exact ⟨_, rfl, trivial, Y.ext, St.out (E := [mapE b effAll]) (H := []) Y⟩
end Go.Proofs.YtmmfieceinmloaaGreatDoor.K16
namespace Go.Proofs.YtmmfieceinmloaaGreatDoor.K16
open Go.RowKit Go.PW
set_option linter.unusedVariables false
set_option linter.unusedSimpArgs false
set_option maxRecDepth 4000
def dueFun (s : Int) : Value := if s = 1 then .func (.func 156) #[] #[] else if s = 2 then .func (.func 157) #[] #[] else if s = 3 then .func (.func 158) #[] #[] else .func (.func 159) #[] #[]
theorem jD {b : Nat} {w : World} (hm : (mapE b duesKV).ok w) : (Instr.lookup 177 (.map (some b)) (iv 1) true).run Tryz.prog w = .ok (.tuple #[.agg #[.func (.func 156) #[] #[], iv 3], .bool true]) w :=
 ci hm Tryz.underlying177 Tryz.underlying3 (Tryz.zeroValue207 _) (by simp [duesKV]) (lb rfl) true
theorem j3 {b : Nat} {w : World} (hm : (mapE b duesKV).ok w) : (Instr.lookup 177 (.map (some b)) (iv 2) true).run Tryz.prog w = .ok (.tuple #[.agg #[.func (.func 157) #[] #[], iv 3], .bool true]) w :=
 ci hm Tryz.underlying177 Tryz.underlying3 (Tryz.zeroValue207 _) (by simp [duesKV]) (lb rfl) true
theorem jT {b : Nat} {w : World} (hm : (mapE b duesKV).ok w) : (Instr.lookup 177 (.map (some b)) (iv 3) true).run Tryz.prog w = .ok (.tuple #[.agg #[.func (.func 158) #[] #[], iv 4], .bool true]) w :=
 ci hm Tryz.underlying177 Tryz.underlying3 (Tryz.zeroValue207 _) (by simp [duesKV]) (lb rfl) true
theorem jp {b : Nat} {w : World} (hm : (mapE b duesKV).ok w) : (Instr.lookup 177 (.map (some b)) (iv 4) true).run Tryz.prog w = .ok (.tuple #[.agg #[.func (.func 159) #[] #[], iv 5], .bool true]) w :=
 ci hm Tryz.underlying177 Tryz.underlying3 (Tryz.zeroValue207 _) (by simp [duesKV]) (lb rfl) true
theorem iJ {b : Nat} {s : Int} {w : World} (hm : (mapE b duesKV).ok w) (h : dueSec ⟨0, 0, 0, 0⟩ s = none) : (Instr.lookup 177 (.map (some b)) (iv s) true).run Tryz.prog w = .ok (.tuple #[.agg #[.nilFunc, iv 0], .bool false]) w := by
 have hs : s ≠ 1 ∧ s ≠ 2 ∧ s ≠ 3 ∧ s ≠ 4 := by
  refine ⟨?_, ?_, ?_, ?_⟩ <;> rintro rfl <;> simp [dueSec] at h
 have hn : ∀ x ∈ duesKV, isInt .i64 s x.1 = false := by simp [duesKV, isInt, hs]
 refine (ci hm Tryz.underlying177 Tryz.underlying3 (Tryz.zeroValue207 _) (by simp [duesKV]) ?_ true).trans ?_
 ·rw [List.filter_eq_nil_iff.2 (fun x hx => by simp [hn x hx])]; simp
 ·rw [List.find?_eq_none.2 (fun x hx => by simp [hn x hx])]; rfl
theorem jt {b : Nat} {s : Int} {w : World} (hm : (mapE b duesKV).ok w) (h : s = 1 ∨ s = 2 ∨ s = 3 ∨ s = 4) : (Instr.lookup 177 (.map (some b)) (iv s) false).run Tryz.prog w = .ok (.agg #[dueFun s, iv (bC s)]) w := by
 rcases h with rfl | rfl | rfl | rfl <;> exact ci hm Tryz.underlying177 Tryz.underlying3 (Tryz.zeroValue207 _) (by simp [duesKV]) (lb rfl) false
theorem mL (k s : Int) : (effAll.find? fun x => isAgg2 k s x.1).map (·.2) = (effect k s).map fun n => iv n := by
 simp only [effAll, effKV, List.map_cons, List.map_nil, List.find?_cons, isAgg2, effect]
 by_cases h1 : k = 1
 ·subst h1; by_cases h : s = 1 <;> simp [h]
 by_cases h2 : k = 2
 ·subst h2; by_cases h : s = 1 <;> simp [h]
 by_cases h3 : k = 3
 ·subst h3; by_cases h : s = 2 <;> simp [h]
 by_cases h4 : k = 4
 ·subst h4; by_cases h : s = 2 <;> simp [h]
 by_cases h5 : k = 5
 ·subst h5; by_cases h : s = 1 <;> by_cases h' : s = 2 <;> by_cases h'' : s = 3 <;> simp_all
 by_cases h6 : k = 6
 ·subst h6; by_cases h : s = 4 <;> simp [h]
 simp [h1, h2, h3, h4, h5, h6]
theorem nE (k s : Int) : (effAll.filter fun x => isAgg2 k s x.1).length ≤ 1 := by
 simp only [effAll, effKV, List.map_cons, List.map_nil, List.filter_cons, isAgg2]
 by_cases h1 : k = 1
 ·subst h1; by_cases h : s = 1 <;> simp [h]
 by_cases h2 : k = 2
 ·subst h2; by_cases h : s = 1 <;> simp [h]
 by_cases h3 : k = 3
 ·subst h3; by_cases h : s = 2 <;> simp [h]
 by_cases h4 : k = 4
 ·subst h4; by_cases h : s = 2 <;> simp [h]
 by_cases h5 : k = 5
 ·subst h5; by_cases h : s = 1 <;> by_cases h' : s = 2 <;> by_cases h'' : s = 3 <;> simp_all
 by_cases h6 : k = 6
 ·subst h6; by_cases h : s = 4 <;> simp [h]
 simp [h1, h2, h3, h4, h5, h6]
theorem mK : ∀ x ∈ effAll, ∃ c d, x.1 = .agg #[iv c, iv d] := by
 intro x hx
 simp only [effAll, effKV, List.map_cons, List.map_nil, List.mem_cons, List.not_mem_nil, or_false] at hx
 rcases hx with rfl | rfl | rfl | rfl | rfl | rfl | rfl | rfl <;> exact ⟨_, _, rfl⟩
theorem mI {b : Nat} {k s : Int} {w : World} (hm : (mapE b effAll).ok w) : (Instr.lookup 178 (.map (some b)) (.agg #[iv k, iv s]) true).run Tryz.prog w = .ok (.tuple #[iv ((effect k s).getD 0), .bool (effect k s).isSome]) w := by
 refine (gC (Kt := 227) (Et := 3) (q := isAgg2 k s) hm Tryz.underlying178 (Tryz.zeroValue3 _) (by simp [effAll]) (fun es i hes => ⟨_, Tryz.runUnderlying227 w, by cases es with | nil => exact absurd rfl hes | cons e es => rfl⟩) (fun b => by kernel_rfl) (fun x hx => by obtain ⟨c, d, h⟩ := mK x hx; rw [h, dg]; rfl) (nE k s) true).trans ?_
 rw [mL, if_pos rfl]
 cases effect k s <;> rfl
structure Mach where
 bm : Nat
 dm : Nat
 em : Nat
def dw (x : Mach) (rl : Rul) (cl : Clm) (v : Value) : Ent := blk x.bm [iv rl.answer, iv rl.cooling, iv rl.settle, iv rl.reverse, iv cl.number, iv cl.frm, iv cl.to, iv cl.holder, iv cl.asked, .bool cl.backed, .map (some x.dm), .map (some x.em), v] 180
def ke (x : Mach) (rl : Rul) (cl : Clm) (v : Value) : List Ent := [dw x rl cl v, mapE x.dm duesKV, mapE x.em effAll]
theorem f6 (rl : Rul) (cl : Clm) (sv : Value) (l : List Evt) (w0 : World) (hsv : SlAt w0 sv 3 (l.map Evt.cells)) (hv : valid rl cl l = true) :
  Ret Tryz.prog 110 #[.agg #[iv rl.answer, iv rl.cooling, iv rl.settle, iv rl.reverse], .agg #[iv cl.number, iv cl.frm, iv cl.to, iv cl.holder, iv cl.asked, .bool cl.backed], sv] w0 (MemR w0 (fun x : Mach => .tuple #[pq x.bm, iv 0]) (fun x => ke x rl cl (.slice none 0 0)) (fun _ => True)) := by
 refine aD Tryz.func110 rfl Tryz.ntmps110 (lb rfl) fun a Z => ?_
 have Z : Fr 19 [(0, _), (1, _), (2, _)] [] a := Z
 have Y : St No w0 [] w0 := St.init w0
 refine aa fun K1 hK1 => aN Z Y (by decide) rfl (cs := [iv rl.answer, iv rl.cooling, iv rl.settle, iv rl.reverse]) rfl fun a w1 Z Y => aN Z Y (by decide) rfl (cs := [iv cl.number, iv cl.frm, iv cl.to, iv cl.holder, iv cl.asked, .bool cl.backed]) rfl fun a w2 Z Y => wla Z rfl fun a Z => wla Z rfl fun a Z => ab (hK1 _ _ <| ai fun K2 hK2 => ?_)
 refine aa fun K3 hK3 => wlv Z (ao (Y.get (k := 1) rfl) rfl (Tryz.isAgg81 _) (Tryz.sizeOf81 _)) fun a Z => wlv Z (ao (Y.get (k := 0) rfl) rfl (Tryz.isAgg83 _) (Tryz.sizeOf83 _)) fun a Z => wlm Z rfl fun a Z => az Z Y (by decide) Tryz.call100 rfl ((hv ▸ eB rl cl sv l _ (Y.arg hsv) : Ret Tryz.prog 100 _ _ fun v w => v = .bool true ∧ _)) fun a w3 Z Y => wlv Z ((bK rfl).asb (b' := false) rfl) fun a Z => ab (hK3 _ _ <| bj Z rfl ?_)
 refine ay <| hK2 _ _ <| ai fun K4 hK4 => aK (by kernel_rfl) ?_
 have Z : Fr 19 [(0, _), (1, _), (2, _), (3, _), (4, _), (6, _), (7, _), (8, _), (9, _), (10, _), (11, _), (12, _)] [] a := Z.pick [0, 1, 2, 3, 4, 6, 7, 8, 9, 10, 11, 12]
 refine aZ 4 [[], [], [], []] (fun i => match i with | 0 => pv (.agg #[iv rl.answer, iv rl.cooling, iv rl.settle, iv rl.reverse]) | 1 => pv (.agg #[iv cl.number, iv cl.frm, iv cl.to, iv cl.holder, iv cl.asked, .bool cl.backed]) | 2 => pm (fun b : Nat => .map (some b)) (fun b => [mapE b duesKV]) (fun _ => True) | 3 => pm (fun b : Nat => .map (some b)) (fun b => [mapE b effAll]) (fun _ => True) | _ => fun _ _ => False) Z Y (by kernel_rfl) (by kernel_rfl) ?_ ?_
 ·intro i hi
  match i, hi with
  | 0, _ =>
   intro w Y
   exact OpV.g (ao (Y.get (k := 1) rfl) rfl (Tryz.isAgg81 _) (Tryz.sizeOf81 _))
  | 1, _ =>
   intro w Y
   exact OpV.g (ao (Y.get (k := 0) rfl) rfl (Tryz.isAgg83 _) (Tryz.sizeOf83 _))
  | 2, _ =>
   intro w Y
   exact iQ Tryz.call139 rfl (ni _)
  | 3, _ =>
   intro w Y
   exact iQ Tryz.call140 rfl (kJ _)
 rintro _ _ ⟨rfl, rfl⟩ _ _ ⟨rfl, rfl⟩ _ _ ⟨b_d, rfl, -, rfl⟩ _ _ ⟨b_e, rfl, -, rfl⟩ a w4 Z Y
 have Z : Fr 19 [(13, _), (14, _), (15, _), (16, _), (0, _), (1, _), (2, _), (3, _), (4, _), (6, _), (7, _), (8, _), (9, _), (10, _), (11, _), (12, _)] [] a := Z
 have Y : St No w0 [_, _, _, _] w4 := Y
 refine wlv Z (aR (v := .agg #[iv rl.answer, iv rl.cooling, iv rl.settle, iv rl.reverse, iv cl.number, iv cl.frm, iv cl.to, iv cl.holder, iv cl.asked, .bool cl.backed, .map (some b_d), .map (some b_e), .slice none 0 0]) rfl (by kernel_rfl)) fun a Z => aN Z Y (by decide) rfl (cs := [iv rl.answer, iv rl.cooling, iv rl.settle, iv rl.reverse, iv cl.number, iv cl.frm, iv cl.to, iv cl.holder, iv cl.asked, .bool cl.backed, .map (some b_d), .map (some b_e), .slice none 0 0]) rfl fun a w5 Z Y => wla Z rfl fun a Z => wla Z rfl fun a Z => ab <| hK4 _ _ ?_
 have Z : Fr 19 [(0, _), (1, _), (2, _), (3, _), (4, _), (8, _), (9, _), (10, _), (11, _), (12, _), (6, _), (7, _)] [] a := Z.pick [0, 1, 2, 3, 4, 8, 9, 10, 11, 12, 6, 7]
 refine aq ?_
 refine ak Z Tryz.results110 (ah rfl (ah rfl ag)) ?_
 exact ⟨⟨w4.heap.size, b_d, b_e⟩, rfl, trivial, Y.ext, St.out (E := ke ⟨w4.heap.size, b_d, b_e⟩ rl cl (.slice none 0 0)) (H := [blk w1.heap.size [iv cl.number, iv cl.frm, iv cl.to, iv cl.holder, iv cl.asked, .bool cl.backed] 83, blk w0.heap.size [iv rl.answer, iv rl.cooling, iv rl.settle, iv rl.reverse] 81]) Y⟩
theorem dI {w0 w : World} {H : List Ent} {b : Nat} {kvs : List (Value × Value)} (Y : St No w0 H w) (h : (mapE b kvs).ok w0) : (mapE b kvs).ok w :=
 Y.keep h fun k hk => by obtain ⟨es, cl, h1, _⟩ := h; cases hk; exact (Array.getElem?_eq_some_iff.1 h1).1
theorem mj (rl : Rul) (cl : Clm) (x : Mach) (v : Value) (since : Int) (w0 : World) (hm : (dw x rl cl v).ok w0) (hd : (mapE x.dm duesKV).ok w0) (hr : aW rl = true) (h0 : 0 ≤ since) (h1 : since ≤ 30000000) :
  Ret Tryz.prog 142 #[pq x.bm, iv 1, iv since] w0 fun v w => v = (begins rl 1 since).val ∧ Ext No w0 w := by
 have hr := bP hr
 refine aD Tryz.func142 rfl Tryz.ntmps142 (lb rfl) fun a Z => ?_
 have Z : Fr 34 [(0, _), (1, _), (2, _)] [] a := Z
 have Y : St No w0 [] w0 := St.init w0
 refine aa fun K1 hK1 => aI Z Y (by decide) (Tryz.zeroValue98 _) (cs := [iv 0, iv 0, iv 0]) rfl fun a w1 Z Y => ab (hK1 _ _ <| aa fun K2 hK2 => ?_)
 refine wlm Z rfl fun a Z => wlm Z rfl fun a Z => wlv Z (aR (v := .agg #[iv 1, iv since, iv (-1)]) rfl (by kernel_rfl)) fun a Z => aI Z Y (by decide) (Tryz.zeroValue98 _) (cs := [iv 0, iv 0, iv 0]) rfl fun a w2 Z Y => ap 0 Z Y rfl rfl rfl (Tryz.sizeOf98 _) rfl (lb rfl) (ds := [iv 1, iv since, iv (-1)]) rfl rfl fun a w3 Z Y => ab (hK2 _ _ <| ai fun K3 hK3 => ?_)
 refine aa fun K4 hK4 => wlm Z rfl fun a Z => wlv Z (aQ rfl) fun a Z => wlv Z (ac (v := .pointer (some ⟨x.bm, 10, none⟩)) rfl (by kernel_rfl)) fun a Z => wlv Z (ae (Y.keepb hm) rfl (Tryz.isAgg177 _) rfl) fun a Z => wlm Z rfl fun a Z => wlv Z (dq rfl rfl (jD (dI Y hd))) fun a Z => wlm Z rfl fun a Z => wlv Z (aA rfl rfl) fun a Z => ?_
 refine wlv Z (aA rfl rfl) fun a Z => aI Z Y (by decide) (Tryz.zeroValue207 _) (cs := [.nilFunc, iv 0]) rfl fun a w4 Z Y => ap 0 Z Y rfl rfl rfl (Tryz.sizeOf207 _) rfl (lb rfl) (ds := [.func (.func 156) #[] #[], iv 3]) rfl rfl fun a w5 Z Y => wla Z rfl fun a Z => ab (hK4 _ _ ?_)
 have Z : Fr 34 [(0, _), (1, _), (2, _), (6, _), (10, _), (11, _), (12, _), (7, _), (8, _), (9, _)] [] a := Z.pick [0, 1, 2, 6, 10, 11, 12, 7, 8, 9]
 refine aa fun K5 hK5 => wlm Z rfl fun a Z => ab (hK5 _ _ <| aX Z rfl ?_)
 refine aK (by kernel_rfl) ?_
 have Z : Fr 34 [(0, _), (1, _), (2, _), (6, _), (10, _), (11, _), (12, _), (7, _), (8, _), (9, _), (22, _)] [] a := Z.pick [0, 1, 2, 6, 10, 11, 12, 7, 8, 9, 22]
 refine aZ 9 [[], [], [1], [], [3], [4], [5], [2, 6], [0, 7]] (fun i => match i with | 0 => pv (iv since) | 1 => pv (pq w3.heap.size) | 2 => pv (.func (.func 156) #[] #[]) | 3 => pv (pq x.bm) | 4 => pv (pq x.bm) | 5 => pv (pq x.bm) | 6 => pv (.agg #[iv rl.answer, iv rl.cooling, iv rl.settle, iv rl.reverse]) | 7 => pv (iv rl.answer) | 8 => pv (iv (since + rl.answer)) | _ => fun _ _ => False) Z Y (by kernel_rfl) (by kernel_rfl) ?_ ?_
 ·intro i hi
  match i, hi with
  | 0, _ =>
   intro w Y
   exact OpV.g (aj rfl)
  | 1, _ =>
   intro w Y
   exact OpV.g (ac (v := pq w3.heap.size) rfl (by kernel_rfl))
  | 2, _ =>
   rintro _ _ ⟨rfl, rfl⟩
   intro w Y
   exact OpV.g (ae (Y.get (k := 0) rfl) rfl (Tryz.isAgg205 _) rfl)
  | 3, _ =>
   intro w Y
   exact OpV.g (aj rfl)
  | 4, _ =>
   rintro _ _ ⟨rfl, rfl⟩
   intro w Y
   exact OpV.g (aQ rfl)
  | 5, _ =>
   rintro _ _ ⟨rfl, rfl⟩
   intro w Y
   exact OpV.g (ac (v := pq x.bm) rfl (by kernel_rfl))
  | 6, _ =>
   rintro _ _ ⟨rfl, rfl⟩
   intro w Y
   exact OpV.g (bO (ds := [iv rl.answer, iv rl.cooling, iv rl.settle, iv rl.reverse]) (Y.keepb hm) rfl (Tryz.isAgg176 _) (Tryz.sizeOf176 _) rfl)
  | 7, _ =>
   rintro _ _ ⟨rfl, rfl⟩ _ _ ⟨rfl, rfl⟩
   intro w Y
   exact fo rfl Tryz.call156 rfl (gn _ _ _ _ _)
  | 8, _ =>
   rintro _ _ ⟨rfl, rfl⟩ _ _ ⟨rfl, rfl⟩
   intro w Y
   exact OpV.g (aM rfl rfl ⟨by omega, by omega⟩)
 rintro _ _ ⟨rfl, rfl⟩ _ _ ⟨rfl, rfl⟩ _ _ ⟨rfl, rfl⟩ _ _ ⟨rfl, rfl⟩ _ _ ⟨rfl, rfl⟩ _ _ ⟨rfl, rfl⟩ _ _ ⟨rfl, rfl⟩ _ _ ⟨rfl, rfl⟩ _ _ ⟨rfl, rfl⟩ a w6 Z Y
 have Z : Fr 34 [(23, _), (24, _), (25, _), (26, _), (27, _), (28, _), (29, _), (30, _), (31, _), (0, _), (1, _), (2, _), (6, _), (10, _), (11, _), (12, _), (7, _), (8, _), (9, _), (22, _)] [] a := Z
 have Y : St No w0 [_, _, _] w6 := Y
 refine wlv Z (ac (v := .pointer (some ⟨w1.heap.size, 2, none⟩)) rfl (by kernel_rfl)) fun a Z => ap 1 Z Y rfl rfl rfl (Tryz.sizeOf3 _) rfl (lb rfl) (ds := [iv 1, iv since, iv (since + rl.answer)]) rfl rfl fun a w7 Z Y => ab <| hK3 _ _ ?_
 have Z : Fr 34 [(0, _), (1, _), (2, _), (6, _), (10, _), (11, _), (12, _), (7, _), (8, _), (9, _), (22, _)] [] a := Z.pick [0, 1, 2, 6, 10, 11, 12, 7, 8, 9, 22]
 refine aa fun K6 hK6 => wlv Z (ao (Y.get (k := 1) rfl) rfl (Tryz.isAgg98 _) (Tryz.sizeOf98 _)) fun a Z => ap 2 Z Y rfl rfl rfl (Tryz.sizeOf98 _) rfl (lb rfl) (ds := [iv 1, iv since, iv (since + rl.answer)]) rfl rfl fun a w8 Z Y => ab (hK6 _ _ <| aq ?_)
 refine ak Z Tryz.results142 (aE rfl (bW (Y.get (k := 2) rfl) (Tryz.isAgg98 _) (Tryz.sizeOf98 _)) ag) ?_
 exact ⟨by rfl, Y.ext⟩
theorem mt (rl : Rul) (cl : Clm) (x : Mach) (v : Value) (since : Int) (w0 : World) (hm : (dw x rl cl v).ok w0) (hd : (mapE x.dm duesKV).ok w0) (hr : aW rl = true) (h0 : 0 ≤ since) (h1 : since ≤ 30000000) :
  Ret Tryz.prog 142 #[pq x.bm, iv 2, iv since] w0 fun v w => v = (begins rl 2 since).val ∧ Ext No w0 w := by
 have hr := bP hr
 refine aD Tryz.func142 rfl Tryz.ntmps142 (lb rfl) fun a Z => ?_
 have Z : Fr 34 [(0, _), (1, _), (2, _)] [] a := Z
 have Y : St No w0 [] w0 := St.init w0
 refine aa fun K1 hK1 => aI Z Y (by decide) (Tryz.zeroValue98 _) (cs := [iv 0, iv 0, iv 0]) rfl fun a w1 Z Y => ab (hK1 _ _ <| aa fun K2 hK2 => ?_)
 refine wlm Z rfl fun a Z => wlm Z rfl fun a Z => wlv Z (aR (v := .agg #[iv 2, iv since, iv (-1)]) rfl (by kernel_rfl)) fun a Z => aI Z Y (by decide) (Tryz.zeroValue98 _) (cs := [iv 0, iv 0, iv 0]) rfl fun a w2 Z Y => ap 0 Z Y rfl rfl rfl (Tryz.sizeOf98 _) rfl (lb rfl) (ds := [iv 2, iv since, iv (-1)]) rfl rfl fun a w3 Z Y => ab (hK2 _ _ <| ai fun K3 hK3 => ?_)
 refine aa fun K4 hK4 => wlm Z rfl fun a Z => wlv Z (aQ rfl) fun a Z => wlv Z (ac (v := .pointer (some ⟨x.bm, 10, none⟩)) rfl (by kernel_rfl)) fun a Z => wlv Z (ae (Y.keepb hm) rfl (Tryz.isAgg177 _) rfl) fun a Z => wlm Z rfl fun a Z => wlv Z (dq rfl rfl (j3 (dI Y hd))) fun a Z => wlm Z rfl fun a Z => wlv Z (aA rfl rfl) fun a Z => ?_
 refine wlv Z (aA rfl rfl) fun a Z => aI Z Y (by decide) (Tryz.zeroValue207 _) (cs := [.nilFunc, iv 0]) rfl fun a w4 Z Y => ap 0 Z Y rfl rfl rfl (Tryz.sizeOf207 _) rfl (lb rfl) (ds := [.func (.func 157) #[] #[], iv 3]) rfl rfl fun a w5 Z Y => wla Z rfl fun a Z => ab (hK4 _ _ ?_)
 have Z : Fr 34 [(0, _), (1, _), (2, _), (6, _), (10, _), (11, _), (12, _), (7, _), (8, _), (9, _)] [] a := Z.pick [0, 1, 2, 6, 10, 11, 12, 7, 8, 9]
 refine aa fun K5 hK5 => wlm Z rfl fun a Z => ab (hK5 _ _ <| aX Z rfl ?_)
 refine aK (by kernel_rfl) ?_
 have Z : Fr 34 [(0, _), (1, _), (2, _), (6, _), (10, _), (11, _), (12, _), (7, _), (8, _), (9, _), (22, _)] [] a := Z.pick [0, 1, 2, 6, 10, 11, 12, 7, 8, 9, 22]
 refine aZ 9 [[], [], [1], [], [3], [4], [5], [2, 6], [0, 7]] (fun i => match i with | 0 => pv (iv since) | 1 => pv (pq w3.heap.size) | 2 => pv (.func (.func 157) #[] #[]) | 3 => pv (pq x.bm) | 4 => pv (pq x.bm) | 5 => pv (pq x.bm) | 6 => pv (.agg #[iv rl.answer, iv rl.cooling, iv rl.settle, iv rl.reverse]) | 7 => pv (iv rl.settle) | 8 => pv (iv (since + rl.settle)) | _ => fun _ _ => False) Z Y (by kernel_rfl) (by kernel_rfl) ?_ ?_
 ·intro i hi
  match i, hi with
  | 0, _ =>
   intro w Y
   exact OpV.g (aj rfl)
  | 1, _ =>
   intro w Y
   exact OpV.g (ac (v := pq w3.heap.size) rfl (by kernel_rfl))
  | 2, _ =>
   rintro _ _ ⟨rfl, rfl⟩
   intro w Y
   exact OpV.g (ae (Y.get (k := 0) rfl) rfl (Tryz.isAgg205 _) rfl)
  | 3, _ =>
   intro w Y
   exact OpV.g (aj rfl)
  | 4, _ =>
   rintro _ _ ⟨rfl, rfl⟩
   intro w Y
   exact OpV.g (aQ rfl)
  | 5, _ =>
   rintro _ _ ⟨rfl, rfl⟩
   intro w Y
   exact OpV.g (ac (v := pq x.bm) rfl (by kernel_rfl))
  | 6, _ =>
   rintro _ _ ⟨rfl, rfl⟩
   intro w Y
   exact OpV.g (bO (ds := [iv rl.answer, iv rl.cooling, iv rl.settle, iv rl.reverse]) (Y.keepb hm) rfl (Tryz.isAgg176 _) (Tryz.sizeOf176 _) rfl)
  | 7, _ =>
   rintro _ _ ⟨rfl, rfl⟩ _ _ ⟨rfl, rfl⟩
   intro w Y
   exact fo rfl Tryz.call157 rfl (gF _ _ _ _ _)
  | 8, _ =>
   rintro _ _ ⟨rfl, rfl⟩ _ _ ⟨rfl, rfl⟩
   intro w Y
   exact OpV.g (aM rfl rfl ⟨by omega, by omega⟩)
 rintro _ _ ⟨rfl, rfl⟩ _ _ ⟨rfl, rfl⟩ _ _ ⟨rfl, rfl⟩ _ _ ⟨rfl, rfl⟩ _ _ ⟨rfl, rfl⟩ _ _ ⟨rfl, rfl⟩ _ _ ⟨rfl, rfl⟩ _ _ ⟨rfl, rfl⟩ _ _ ⟨rfl, rfl⟩ a w6 Z Y
 have Z : Fr 34 [(23, _), (24, _), (25, _), (26, _), (27, _), (28, _), (29, _), (30, _), (31, _), (0, _), (1, _), (2, _), (6, _), (10, _), (11, _), (12, _), (7, _), (8, _), (9, _), (22, _)] [] a := Z
 have Y : St No w0 [_, _, _] w6 := Y
 refine wlv Z (ac (v := .pointer (some ⟨w1.heap.size, 2, none⟩)) rfl (by kernel_rfl)) fun a Z => ap 1 Z Y rfl rfl rfl (Tryz.sizeOf3 _) rfl (lb rfl) (ds := [iv 2, iv since, iv (since + rl.settle)]) rfl rfl fun a w7 Z Y => ab <| hK3 _ _ ?_
 have Z : Fr 34 [(0, _), (1, _), (2, _), (6, _), (10, _), (11, _), (12, _), (7, _), (8, _), (9, _), (22, _)] [] a := Z.pick [0, 1, 2, 6, 10, 11, 12, 7, 8, 9, 22]
 refine aa fun K6 hK6 => wlv Z (ao (Y.get (k := 1) rfl) rfl (Tryz.isAgg98 _) (Tryz.sizeOf98 _)) fun a Z => ap 2 Z Y rfl rfl rfl (Tryz.sizeOf98 _) rfl (lb rfl) (ds := [iv 2, iv since, iv (since + rl.settle)]) rfl rfl fun a w8 Z Y => ab (hK6 _ _ <| aq ?_)
 refine ak Z Tryz.results142 (aE rfl (bW (Y.get (k := 2) rfl) (Tryz.isAgg98 _) (Tryz.sizeOf98 _)) ag) ?_
 exact ⟨by rfl, Y.ext⟩
theorem mr (rl : Rul) (cl : Clm) (x : Mach) (v : Value) (since : Int) (w0 : World) (hm : (dw x rl cl v).ok w0) (hd : (mapE x.dm duesKV).ok w0) (hr : aW rl = true) (h0 : 0 ≤ since) (h1 : since ≤ 30000000) :
  Ret Tryz.prog 142 #[pq x.bm, iv 3, iv since] w0 fun v w => v = (begins rl 3 since).val ∧ Ext No w0 w := by
 have hr := bP hr
 refine aD Tryz.func142 rfl Tryz.ntmps142 (lb rfl) fun a Z => ?_
 have Z : Fr 34 [(0, _), (1, _), (2, _)] [] a := Z
 have Y : St No w0 [] w0 := St.init w0
 refine aa fun K1 hK1 => aI Z Y (by decide) (Tryz.zeroValue98 _) (cs := [iv 0, iv 0, iv 0]) rfl fun a w1 Z Y => ab (hK1 _ _ <| aa fun K2 hK2 => ?_)
 refine wlm Z rfl fun a Z => wlm Z rfl fun a Z => wlv Z (aR (v := .agg #[iv 3, iv since, iv (-1)]) rfl (by kernel_rfl)) fun a Z => aI Z Y (by decide) (Tryz.zeroValue98 _) (cs := [iv 0, iv 0, iv 0]) rfl fun a w2 Z Y => ap 0 Z Y rfl rfl rfl (Tryz.sizeOf98 _) rfl (lb rfl) (ds := [iv 3, iv since, iv (-1)]) rfl rfl fun a w3 Z Y => ab (hK2 _ _ <| ai fun K3 hK3 => ?_)
 refine aa fun K4 hK4 => wlm Z rfl fun a Z => wlv Z (aQ rfl) fun a Z => wlv Z (ac (v := .pointer (some ⟨x.bm, 10, none⟩)) rfl (by kernel_rfl)) fun a Z => wlv Z (ae (Y.keepb hm) rfl (Tryz.isAgg177 _) rfl) fun a Z => wlm Z rfl fun a Z => wlv Z (dq rfl rfl (jT (dI Y hd))) fun a Z => wlm Z rfl fun a Z => wlv Z (aA rfl rfl) fun a Z => ?_
 refine wlv Z (aA rfl rfl) fun a Z => aI Z Y (by decide) (Tryz.zeroValue207 _) (cs := [.nilFunc, iv 0]) rfl fun a w4 Z Y => ap 0 Z Y rfl rfl rfl (Tryz.sizeOf207 _) rfl (lb rfl) (ds := [.func (.func 158) #[] #[], iv 4]) rfl rfl fun a w5 Z Y => wla Z rfl fun a Z => ab (hK4 _ _ ?_)
 have Z : Fr 34 [(0, _), (1, _), (2, _), (6, _), (10, _), (11, _), (12, _), (7, _), (8, _), (9, _)] [] a := Z.pick [0, 1, 2, 6, 10, 11, 12, 7, 8, 9]
 refine aa fun K5 hK5 => wlm Z rfl fun a Z => ab (hK5 _ _ <| aX Z rfl ?_)
 refine aK (by kernel_rfl) ?_
 have Z : Fr 34 [(0, _), (1, _), (2, _), (6, _), (10, _), (11, _), (12, _), (7, _), (8, _), (9, _), (22, _)] [] a := Z.pick [0, 1, 2, 6, 10, 11, 12, 7, 8, 9, 22]
 refine aZ 9 [[], [], [1], [], [3], [4], [5], [2, 6], [0, 7]] (fun i => match i with | 0 => pv (iv since) | 1 => pv (pq w3.heap.size) | 2 => pv (.func (.func 158) #[] #[]) | 3 => pv (pq x.bm) | 4 => pv (pq x.bm) | 5 => pv (pq x.bm) | 6 => pv (.agg #[iv rl.answer, iv rl.cooling, iv rl.settle, iv rl.reverse]) | 7 => pv (iv rl.cooling) | 8 => pv (iv (since + rl.cooling)) | _ => fun _ _ => False) Z Y (by kernel_rfl) (by kernel_rfl) ?_ ?_
 ·intro i hi
  match i, hi with
  | 0, _ =>
   intro w Y
   exact OpV.g (aj rfl)
  | 1, _ =>
   intro w Y
   exact OpV.g (ac (v := pq w3.heap.size) rfl (by kernel_rfl))
  | 2, _ =>
   rintro _ _ ⟨rfl, rfl⟩
   intro w Y
   exact OpV.g (ae (Y.get (k := 0) rfl) rfl (Tryz.isAgg205 _) rfl)
  | 3, _ =>
   intro w Y
   exact OpV.g (aj rfl)
  | 4, _ =>
   rintro _ _ ⟨rfl, rfl⟩
   intro w Y
   exact OpV.g (aQ rfl)
  | 5, _ =>
   rintro _ _ ⟨rfl, rfl⟩
   intro w Y
   exact OpV.g (ac (v := pq x.bm) rfl (by kernel_rfl))
  | 6, _ =>
   rintro _ _ ⟨rfl, rfl⟩
   intro w Y
   exact OpV.g (bO (ds := [iv rl.answer, iv rl.cooling, iv rl.settle, iv rl.reverse]) (Y.keepb hm) rfl (Tryz.isAgg176 _) (Tryz.sizeOf176 _) rfl)
  | 7, _ =>
   rintro _ _ ⟨rfl, rfl⟩ _ _ ⟨rfl, rfl⟩
   intro w Y
   exact fo rfl Tryz.call158 rfl (fT _ _ _ _ _)
  | 8, _ =>
   rintro _ _ ⟨rfl, rfl⟩ _ _ ⟨rfl, rfl⟩
   intro w Y
   exact OpV.g (aM rfl rfl ⟨by omega, by omega⟩)
 rintro _ _ ⟨rfl, rfl⟩ _ _ ⟨rfl, rfl⟩ _ _ ⟨rfl, rfl⟩ _ _ ⟨rfl, rfl⟩ _ _ ⟨rfl, rfl⟩ _ _ ⟨rfl, rfl⟩ _ _ ⟨rfl, rfl⟩ _ _ ⟨rfl, rfl⟩ _ _ ⟨rfl, rfl⟩ a w6 Z Y
 have Z : Fr 34 [(23, _), (24, _), (25, _), (26, _), (27, _), (28, _), (29, _), (30, _), (31, _), (0, _), (1, _), (2, _), (6, _), (10, _), (11, _), (12, _), (7, _), (8, _), (9, _), (22, _)] [] a := Z
 have Y : St No w0 [_, _, _] w6 := Y
 refine wlv Z (ac (v := .pointer (some ⟨w1.heap.size, 2, none⟩)) rfl (by kernel_rfl)) fun a Z => ap 1 Z Y rfl rfl rfl (Tryz.sizeOf3 _) rfl (lb rfl) (ds := [iv 3, iv since, iv (since + rl.cooling)]) rfl rfl fun a w7 Z Y => ab <| hK3 _ _ ?_
 have Z : Fr 34 [(0, _), (1, _), (2, _), (6, _), (10, _), (11, _), (12, _), (7, _), (8, _), (9, _), (22, _)] [] a := Z.pick [0, 1, 2, 6, 10, 11, 12, 7, 8, 9, 22]
 refine aa fun K6 hK6 => wlv Z (ao (Y.get (k := 1) rfl) rfl (Tryz.isAgg98 _) (Tryz.sizeOf98 _)) fun a Z => ap 2 Z Y rfl rfl rfl (Tryz.sizeOf98 _) rfl (lb rfl) (ds := [iv 3, iv since, iv (since + rl.cooling)]) rfl rfl fun a w8 Z Y => ab (hK6 _ _ <| aq ?_)
 refine ak Z Tryz.results142 (aE rfl (bW (Y.get (k := 2) rfl) (Tryz.isAgg98 _) (Tryz.sizeOf98 _)) ag) ?_
 exact ⟨by rfl, Y.ext⟩
theorem m2 (rl : Rul) (cl : Clm) (x : Mach) (v : Value) (since : Int) (w0 : World) (hm : (dw x rl cl v).ok w0) (hd : (mapE x.dm duesKV).ok w0) (hr : aW rl = true) (h0 : 0 ≤ since) (h1 : since ≤ 30000000) :
  Ret Tryz.prog 142 #[pq x.bm, iv 4, iv since] w0 fun v w => v = (begins rl 4 since).val ∧ Ext No w0 w := by
 have hr := bP hr
 refine aD Tryz.func142 rfl Tryz.ntmps142 (lb rfl) fun a Z => ?_
 have Z : Fr 34 [(0, _), (1, _), (2, _)] [] a := Z
 have Y : St No w0 [] w0 := St.init w0
 refine aa fun K1 hK1 => aI Z Y (by decide) (Tryz.zeroValue98 _) (cs := [iv 0, iv 0, iv 0]) rfl fun a w1 Z Y => ab (hK1 _ _ <| aa fun K2 hK2 => ?_)
 refine wlm Z rfl fun a Z => wlm Z rfl fun a Z => wlv Z (aR (v := .agg #[iv 4, iv since, iv (-1)]) rfl (by kernel_rfl)) fun a Z => aI Z Y (by decide) (Tryz.zeroValue98 _) (cs := [iv 0, iv 0, iv 0]) rfl fun a w2 Z Y => ap 0 Z Y rfl rfl rfl (Tryz.sizeOf98 _) rfl (lb rfl) (ds := [iv 4, iv since, iv (-1)]) rfl rfl fun a w3 Z Y => ab (hK2 _ _ <| ai fun K3 hK3 => ?_)
 refine aa fun K4 hK4 => wlm Z rfl fun a Z => wlv Z (aQ rfl) fun a Z => wlv Z (ac (v := .pointer (some ⟨x.bm, 10, none⟩)) rfl (by kernel_rfl)) fun a Z => wlv Z (ae (Y.keepb hm) rfl (Tryz.isAgg177 _) rfl) fun a Z => wlm Z rfl fun a Z => wlv Z (dq rfl rfl (jp (dI Y hd))) fun a Z => wlm Z rfl fun a Z => wlv Z (aA rfl rfl) fun a Z => ?_
 refine wlv Z (aA rfl rfl) fun a Z => aI Z Y (by decide) (Tryz.zeroValue207 _) (cs := [.nilFunc, iv 0]) rfl fun a w4 Z Y => ap 0 Z Y rfl rfl rfl (Tryz.sizeOf207 _) rfl (lb rfl) (ds := [.func (.func 159) #[] #[], iv 5]) rfl rfl fun a w5 Z Y => wla Z rfl fun a Z => ab (hK4 _ _ ?_)
 have Z : Fr 34 [(0, _), (1, _), (2, _), (6, _), (10, _), (11, _), (12, _), (7, _), (8, _), (9, _)] [] a := Z.pick [0, 1, 2, 6, 10, 11, 12, 7, 8, 9]
 refine aa fun K5 hK5 => wlm Z rfl fun a Z => ab (hK5 _ _ <| aX Z rfl ?_)
 refine aK (by kernel_rfl) ?_
 have Z : Fr 34 [(0, _), (1, _), (2, _), (6, _), (10, _), (11, _), (12, _), (7, _), (8, _), (9, _), (22, _)] [] a := Z.pick [0, 1, 2, 6, 10, 11, 12, 7, 8, 9, 22]
 refine aZ 9 [[], [], [1], [], [3], [4], [5], [2, 6], [0, 7]] (fun i => match i with | 0 => pv (iv since) | 1 => pv (pq w3.heap.size) | 2 => pv (.func (.func 159) #[] #[]) | 3 => pv (pq x.bm) | 4 => pv (pq x.bm) | 5 => pv (pq x.bm) | 6 => pv (.agg #[iv rl.answer, iv rl.cooling, iv rl.settle, iv rl.reverse]) | 7 => pv (iv rl.reverse) | 8 => pv (iv (since + rl.reverse)) | _ => fun _ _ => False) Z Y (by kernel_rfl) (by kernel_rfl) ?_ ?_
 ·intro i hi
  match i, hi with
  | 0, _ =>
   intro w Y
   exact OpV.g (aj rfl)
  | 1, _ =>
   intro w Y
   exact OpV.g (ac (v := pq w3.heap.size) rfl (by kernel_rfl))
  | 2, _ =>
   rintro _ _ ⟨rfl, rfl⟩
   intro w Y
   exact OpV.g (ae (Y.get (k := 0) rfl) rfl (Tryz.isAgg205 _) rfl)
  | 3, _ =>
   intro w Y
   exact OpV.g (aj rfl)
  | 4, _ =>
   rintro _ _ ⟨rfl, rfl⟩
   intro w Y
   exact OpV.g (aQ rfl)
  | 5, _ =>
   rintro _ _ ⟨rfl, rfl⟩
   intro w Y
   exact OpV.g (ac (v := pq x.bm) rfl (by kernel_rfl))
  | 6, _ =>
   rintro _ _ ⟨rfl, rfl⟩
   intro w Y
   exact OpV.g (bO (ds := [iv rl.answer, iv rl.cooling, iv rl.settle, iv rl.reverse]) (Y.keepb hm) rfl (Tryz.isAgg176 _) (Tryz.sizeOf176 _) rfl)
  | 7, _ =>
   rintro _ _ ⟨rfl, rfl⟩ _ _ ⟨rfl, rfl⟩
   intro w Y
   exact fo rfl Tryz.call159 rfl (fZ _ _ _ _ _)
  | 8, _ =>
   rintro _ _ ⟨rfl, rfl⟩ _ _ ⟨rfl, rfl⟩
   intro w Y
   exact OpV.g (aM rfl rfl ⟨by omega, by omega⟩)
 rintro _ _ ⟨rfl, rfl⟩ _ _ ⟨rfl, rfl⟩ _ _ ⟨rfl, rfl⟩ _ _ ⟨rfl, rfl⟩ _ _ ⟨rfl, rfl⟩ _ _ ⟨rfl, rfl⟩ _ _ ⟨rfl, rfl⟩ _ _ ⟨rfl, rfl⟩ _ _ ⟨rfl, rfl⟩ a w6 Z Y
 have Z : Fr 34 [(23, _), (24, _), (25, _), (26, _), (27, _), (28, _), (29, _), (30, _), (31, _), (0, _), (1, _), (2, _), (6, _), (10, _), (11, _), (12, _), (7, _), (8, _), (9, _), (22, _)] [] a := Z
 have Y : St No w0 [_, _, _] w6 := Y
 refine wlv Z (ac (v := .pointer (some ⟨w1.heap.size, 2, none⟩)) rfl (by kernel_rfl)) fun a Z => ap 1 Z Y rfl rfl rfl (Tryz.sizeOf3 _) rfl (lb rfl) (ds := [iv 4, iv since, iv (since + rl.reverse)]) rfl rfl fun a w7 Z Y => ab <| hK3 _ _ ?_
 have Z : Fr 34 [(0, _), (1, _), (2, _), (6, _), (10, _), (11, _), (12, _), (7, _), (8, _), (9, _), (22, _)] [] a := Z.pick [0, 1, 2, 6, 10, 11, 12, 7, 8, 9, 22]
 refine aa fun K6 hK6 => wlv Z (ao (Y.get (k := 1) rfl) rfl (Tryz.isAgg98 _) (Tryz.sizeOf98 _)) fun a Z => ap 2 Z Y rfl rfl rfl (Tryz.sizeOf98 _) rfl (lb rfl) (ds := [iv 4, iv since, iv (since + rl.reverse)]) rfl rfl fun a w8 Z Y => ab (hK6 _ _ <| aq ?_)
 refine ak Z Tryz.results142 (aE rfl (bW (Y.get (k := 2) rfl) (Tryz.isAgg98 _) (Tryz.sizeOf98 _)) ag) ?_
 exact ⟨by rfl, Y.ext⟩
theorem lJ (s : Int) (hn : dueSec ⟨0, 0, 0, 0⟩ s = none) (rl : Rul) (cl : Clm) (x : Mach) (v : Value) (since : Int) (w0 : World) (hm : (dw x rl cl v).ok w0) (hd : (mapE x.dm duesKV).ok w0) (hr : aW rl = true) (h0 : 0 ≤ since) (h1 : since ≤ 30000000) :
  Ret Tryz.prog 142 #[pq x.bm, iv s, iv since] w0 fun v w => v = .agg #[iv s, iv since, iv (-1)] ∧ Ext No w0 w := by
 refine aD Tryz.func142 rfl Tryz.ntmps142 (lb rfl) fun a Z => ?_
 have Z : Fr 34 [(0, _), (1, _), (2, _)] [] a := Z
 have Y : St No w0 [] w0 := St.init w0
 refine aa fun K1 hK1 => aI Z Y (by decide) (Tryz.zeroValue98 _) (cs := [iv 0, iv 0, iv 0]) rfl fun a w1 Z Y => ab (hK1 _ _ <| aa fun K2 hK2 => ?_)
 refine wlm Z rfl fun a Z => wlm Z rfl fun a Z => wlv Z (aR (v := .agg #[iv s, iv since, iv (-1)]) rfl (by kernel_rfl)) fun a Z => aI Z Y (by decide) (Tryz.zeroValue98 _) (cs := [iv 0, iv 0, iv 0]) rfl fun a w2 Z Y => ap 0 Z Y rfl rfl rfl (Tryz.sizeOf98 _) rfl (lb rfl) (ds := [iv s, iv since, iv (-1)]) rfl rfl fun a w3 Z Y => ab (hK2 _ _ <| ai fun K3 hK3 => ?_)
 refine aa fun K4 hK4 => wlm Z rfl fun a Z => wlv Z (aQ rfl) fun a Z => wlv Z (ac (v := .pointer (some ⟨x.bm, 10, none⟩)) rfl (by kernel_rfl)) fun a Z => wlv Z (ae (Y.keepb hm) rfl (Tryz.isAgg177 _) rfl) fun a Z => wlm Z rfl fun a Z => wlv Z (dq rfl rfl (iJ (dI Y hd) hn)) fun a Z => wlm Z rfl fun a Z => wlv Z (aA rfl rfl) fun a Z => ?_
 refine wlv Z (aA rfl rfl) fun a Z => aI Z Y (by decide) (Tryz.zeroValue207 _) (cs := [.nilFunc, iv 0]) rfl fun a w4 Z Y => ap 0 Z Y rfl rfl rfl (Tryz.sizeOf207 _) rfl (lb rfl) (ds := [.nilFunc, iv 0]) rfl rfl fun a w5 Z Y => wla Z rfl fun a Z => ab (hK4 _ _ ?_)
 have Z : Fr 34 [(0, _), (1, _), (2, _), (6, _), (10, _), (11, _), (12, _), (7, _), (8, _), (9, _)] [] a := Z.pick [0, 1, 2, 6, 10, 11, 12, 7, 8, 9]
 refine aa fun K5 hK5 => wlm Z rfl fun a Z => ab (hK5 _ _ <| bj Z rfl ?_)
 refine ay <| hK3 _ _ <| aa fun K6 hK6 => wlv Z (ao (Y.get (k := 1) rfl) rfl (Tryz.isAgg98 _) (Tryz.sizeOf98 _)) fun a Z => ap 2 Z Y rfl rfl rfl (Tryz.sizeOf98 _) rfl (lb rfl) (ds := [iv s, iv since, iv (-1)]) rfl rfl fun a w6 Z Y => ab (hK6 _ _ <| aq ?_)
 refine ak Z Tryz.results142 (aE rfl (bW (Y.get (k := 2) rfl) (Tryz.isAgg98 _) (Tryz.sizeOf98 _)) ag) ?_
 exact ⟨by rfl, Y.ext⟩
theorem fF (s : Int) (rl : Rul) (cl : Clm) (x : Mach) (v : Value) (since : Int) (w0 : World) (hm : (dw x rl cl v).ok w0) (hd : (mapE x.dm duesKV).ok w0) (hr : aW rl = true) (h0 : 0 ≤ since) (h1 : since ≤ 30000000) : Ret Tryz.prog 142 #[pq x.bm, iv s, iv since] w0 fun v w => v = (begins rl s since).val ∧ Ext No w0 w := by
 by_cases h : s = 1
 ·subst h; exact mj rl cl x v since w0 hm hd hr h0 h1
 by_cases h : s = 2
 ·subst h; exact mt rl cl x v since w0 hm hd hr h0 h1
 by_cases h : s = 3
 ·subst h; exact mr rl cl x v since w0 hm hd hr h0 h1
 by_cases h : s = 4
 ·subst h; exact m2 rl cl x v since w0 hm hd hr h0 h1
 have hv : (begins rl s since).val = .agg #[iv s, iv since, iv (-1)] := by simp [begins, dueSec, Stt.val, *]
 rw [hv]
 exact lJ s (by simp [dueSec, *]) rl cl x v since w0 hm hd hr h0 h1
theorem ml (s : Int) (ev : Evt) (rl : Rul) (cl : Clm) (x : Mach) (v : Value) (w0 : World) (hm : (dw x rl cl v).ok w0) (he : (mapE x.em effAll).ok w0) :
  Ret Tryz.prog 144 #[pq x.bm, iv s, .agg #[iv ev.kind, iv ev.at_, iv ev.reason]] w0 fun v w => v = .tuple #[iv (after cl.backed s ev).1, .bool (after cl.backed s ev).2] ∧ Ext No w0 w := by
 refine aD Tryz.func144 rfl Tryz.ntmps144 (lb rfl) fun a Z => ?_
 have Z : Fr 39 [(0, _), (1, _), (2, _)] [] a := Z
 have Y : St No w0 [] w0 := St.init w0
 refine aa fun K1 hK1 => aN Z Y (by decide) rfl (cs := [iv ev.kind, iv ev.at_, iv ev.reason]) rfl fun a w1 Z Y => wla Z rfl fun a Z => wla Z rfl fun a Z => ab (hK1 _ _ <| ai fun K2 hK2 => ?_)
 refine aK (by kernel_rfl) ?_
 have Z : Fr 39 [(0, _), (1, _), (2, _), (5, _), (6, _), (7, _)] [] a := Z.pick [0, 1, 2, 5, 6, 7]
 refine aZ 13 [[], [0], [1], [2], [], [4], [], [5, 6], [3, 7], [8], [9], [9], [10]] (fun i => match i with | 0 => pv (pq x.bm) | 1 => pv (pq x.bm) | 2 => pv (.pointer (some ⟨x.bm, 11, none⟩)) | 3 => pv (.map (some x.em)) | 4 => pv (pq w0.heap.size) | 5 => pv (iv ev.kind) | 6 => pv (iv s) | 7 => pv (.agg #[iv ev.kind, iv s]) | 8 => pv (.tuple #[iv ((effect ev.kind s).getD 0), .bool ((effect ev.kind s).isSome)]) | 9 => pv (.tuple #[iv ((effect ev.kind s).getD 0), .bool ((effect ev.kind s).isSome)]) | 10 => pv (iv ((effect ev.kind s).getD 0)) | 11 => pv (.bool ((effect ev.kind s).isSome)) | 12 => pv (iv ((effect ev.kind s).getD 0)) | _ => fun _ _ => False) Z Y (by kernel_rfl) (by kernel_rfl) ?_ ?_
 ·intro i hi
  match i, hi with
  | 0, _ =>
   intro w Y
   exact OpV.g (aj rfl)
  | 1, _ =>
   rintro _ _ ⟨rfl, rfl⟩
   intro w Y
   exact OpV.g (aQ rfl)
  | 2, _ =>
   rintro _ _ ⟨rfl, rfl⟩
   intro w Y
   exact OpV.g (ac (v := .pointer (some ⟨x.bm, 11, none⟩)) rfl (by kernel_rfl))
  | 3, _ =>
   rintro _ _ ⟨rfl, rfl⟩
   intro w Y
   exact OpV.g (ae (Y.keepb hm) rfl (Tryz.isAgg178 _) rfl)
  | 4, _ =>
   intro w Y
   exact OpV.g (ac (v := pq w0.heap.size) rfl (by kernel_rfl))
  | 5, _ =>
   rintro _ _ ⟨rfl, rfl⟩
   intro w Y
   exact OpV.g (ae (Y.get (k := 0) rfl) rfl (Tryz.isAgg3 _) rfl)
  | 6, _ =>
   intro w Y
   exact OpV.g (aj rfl)
  | 7, _ =>
   rintro _ _ ⟨rfl, rfl⟩ _ _ ⟨rfl, rfl⟩
   intro w Y
   exact OpV.g (aR (v := .agg #[iv ev.kind, iv s]) rfl (by kernel_rfl))
  | 8, _ =>
   rintro _ _ ⟨rfl, rfl⟩ _ _ ⟨rfl, rfl⟩
   intro w Y
   exact OpV.g (dq rfl rfl (mI (dI Y he)))
  | 9, _ =>
   rintro _ _ ⟨rfl, rfl⟩
   intro w Y
   exact OpV.g (aj rfl)
  | 10, _ =>
   rintro _ _ ⟨rfl, rfl⟩
   intro w Y
   exact OpV.g (aA rfl rfl)
  | 11, _ =>
   rintro _ _ ⟨rfl, rfl⟩
   intro w Y
   exact OpV.g (aA rfl rfl)
  | 12, _ =>
   rintro _ _ ⟨rfl, rfl⟩
   intro w Y
   exact OpV.g (cw rfl)
  | i + 13, h => exact absurd h (by omega)
 rintro _ _ ⟨rfl, rfl⟩ _ _ ⟨rfl, rfl⟩ _ _ ⟨rfl, rfl⟩ _ _ ⟨rfl, rfl⟩ _ _ ⟨rfl, rfl⟩ _ _ ⟨rfl, rfl⟩ _ _ ⟨rfl, rfl⟩ _ _ ⟨rfl, rfl⟩ _ _ ⟨rfl, rfl⟩ _ _ ⟨rfl, rfl⟩ _ _ ⟨rfl, rfl⟩ _ _ ⟨rfl, rfl⟩ _ _ ⟨rfl, rfl⟩ a w2 Z Y
 have Z : Fr 39 [(11, _), (12, _), (13, _), (14, _), (15, _), (16, _), (17, _), (18, _), (19, _), (10, _), (20, _), (21, _), (8, _), (0, _), (1, _), (2, _), (5, _), (6, _), (7, _)] [] a := Z
 have Y : St No w0 [_] w2 := Y
 refine wla Z rfl fun a Z => ab <| hK2 _ _ ?_
 have Z : Fr 39 [(0, _), (1, _), (2, _), (5, _), (6, _), (7, _), (8, _), (9, _)] [] a := Z.pick [0, 1, 2, 5, 6, 7, 8, 9]
 refine ai fun K3 hK3 => aa fun K4 hK4 => wlv Z (ac (v := .pointer (some ⟨w0.heap.size, 2, none⟩)) rfl (by kernel_rfl)) fun a Z => wlv Z (ae (Y.get (k := 0) rfl) rfl (Tryz.isAgg3 _) rfl) fun a Z => wlv Z (v_eq rfl rfl) fun a Z => ab (hK4 _ _ ?_)
 refine aB Z rfl (fun hc1 => ?_) (fun hc1 => ?_)
 ·rw [hc1] at Z
  try simp only [qz] at hc1
  refine ai fun K5 hK5 => aa fun K6 hK6 => wlv Z (ac (v := pq w0.heap.size) rfl (by kernel_rfl)) fun a Z => wlv Z (ae (Y.get (k := 0) rfl) rfl (Tryz.isAgg3 _) rfl) fun a Z => wlv Z (v_eq rfl rfl) fun a Z => ab (hK6 _ _ ?_)
  refine aB Z rfl (fun hc2 => ?_) (fun hc2 => ?_)
  ·rw [hc2] at Z
   try simp only [qz] at hc2
   refine ar <| wla Z rfl fun a Z => ab <| hK5 _ _ <| ar <| wlm Z rfl fun a Z => wlm Z rfl fun a Z => ?_
   rcases Bool.eq_false_or_eq_true ((effect ev.kind s).isSome) with hb3 | hb3
   ·rw [hb3] at Z
    try simp only [qz] at hb3
    refine wly Z (aj rfl) fun a Z => wly Z (aQ rfl) fun a Z => wly Z (ac (v := .pointer (some ⟨x.bm, 4, none⟩)) rfl (by kernel_rfl)) fun a Z => wly Z (ac (v := .pointer (some ⟨x.bm, 9, none⟩)) rfl (by kernel_rfl)) fun a Z => wly Z (ae (Y.keepb hm) rfl (Tryz.isAgg4 _) rfl) fun a Z => wly Z (bK rfl) fun a Z => wlv Z (aw rfl rfl) fun a Z => wla Z rfl fun a Z => ab <| hK3 _ _ ?_
    have Z : Fr 39 [(0, _), (1, _), (2, _), (5, _), (6, _), (7, _), (22, _), (23, _), (24, _), (25, _), (26, _), (27, _), (8, _), (9, _)] [] a := Z.pick [0, 1, 2, 5, 6, 7, 22, 23, 24, 25, 26, 27, 8, 9]
    refine aa fun K7 hK7 => wlm Z rfl fun a Z => wlm Z rfl fun a Z => wla Z rfl fun a Z => wla Z rfl fun a Z => ab (hK7 _ _ <| aq ?_)
    refine ak Z Tryz.results144 (ah rfl (ah rfl ag)) ?_
    exact ⟨by simp_all [retv, after], Y.ext⟩
   rw [hb3] at Z
   try simp only [qz] at hb3
   refine wln Z fun a Z => wln Z fun a Z => wln Z fun a Z => wln Z fun a Z => wln Z fun a Z => wln Z fun a Z => wlv Z (au rfl rfl) fun a Z => wla Z rfl fun a Z => ?_
   refine ab <| hK3 _ _ ?_
   have Z : Fr 39 [(0, _), (1, _), (2, _), (5, _), (6, _), (7, _), (22, _), (23, _), (24, _), (25, _), (26, _), (27, _), (8, _), (9, _)] [] a := Z.pick [0, 1, 2, 5, 6, 7, 22, 23, 24, 25, 26, 27, 8, 9]
   refine aa fun K8 hK8 => wlm Z rfl fun a Z => wlm Z rfl fun a Z => wla Z rfl fun a Z => wla Z rfl fun a Z => ab (hK8 _ _ <| aq ?_)
   refine ak Z Tryz.results144 (ah rfl (ah rfl ag)) ?_
   exact ⟨by simp_all [retv, after], Y.ext⟩
  rw [hc2] at Z
  try simp only [qz] at hc2
  refine ay <| hK5 _ _ <| ar <| wlm Z rfl fun a Z => wlm Z rfl fun a Z => ?_
  rcases Bool.eq_false_or_eq_true ((effect ev.kind s).isSome) with hb4 | hb4
  ·rw [hb4] at Z
   try simp only [qz] at hb4
   refine wly Z (aj rfl) fun a Z => wly Z (aQ rfl) fun a Z => wly Z (ac (v := .pointer (some ⟨x.bm, 4, none⟩)) rfl (by kernel_rfl)) fun a Z => wly Z (ac (v := .pointer (some ⟨x.bm, 9, none⟩)) rfl (by kernel_rfl)) fun a Z => wly Z (ae (Y.keepb hm) rfl (Tryz.isAgg4 _) rfl) fun a Z => wly Z (bK rfl) fun a Z => wlv Z (aw rfl rfl) fun a Z => wla Z rfl fun a Z => ab <| hK3 _ _ ?_
   have Z : Fr 39 [(0, _), (1, _), (2, _), (5, _), (6, _), (7, _), (8, _), (22, _), (23, _), (24, _), (25, _), (26, _), (27, _), (9, _)] [] a := Z.pick [0, 1, 2, 5, 6, 7, 8, 22, 23, 24, 25, 26, 27, 9]
   refine aa fun K9 hK9 => wlm Z rfl fun a Z => wlm Z rfl fun a Z => wla Z rfl fun a Z => wla Z rfl fun a Z => ab (hK9 _ _ <| aq ?_)
   refine ak Z Tryz.results144 (ah rfl (ah rfl ag)) ?_
   exact ⟨by simp_all [retv, after], Y.ext⟩
  rw [hb4] at Z
  try simp only [qz] at hb4
  refine wln Z fun a Z => wln Z fun a Z => wln Z fun a Z => wln Z fun a Z => wln Z fun a Z => wln Z fun a Z => wlv Z (au rfl rfl) fun a Z => wla Z rfl fun a Z => ?_
  refine ab <| hK3 _ _ ?_
  have Z : Fr 39 [(0, _), (1, _), (2, _), (5, _), (6, _), (7, _), (8, _), (22, _), (23, _), (24, _), (25, _), (26, _), (27, _), (9, _)] [] a := Z.pick [0, 1, 2, 5, 6, 7, 8, 22, 23, 24, 25, 26, 27, 9]
  refine aa fun K10 hK10 => wlm Z rfl fun a Z => wlm Z rfl fun a Z => wla Z rfl fun a Z => wla Z rfl fun a Z => ab (hK10 _ _ <| aq ?_)
  refine ak Z Tryz.results144 (ah rfl (ah rfl ag)) ?_
  exact ⟨by simp_all [retv, after], Y.ext⟩
 rw [hc1] at Z
 try simp only [qz] at hc1
 refine ay <| hK3 _ _ <| aa fun K11 hK11 => wlm Z rfl fun a Z => wlm Z rfl fun a Z => wla Z rfl fun a Z => wla Z rfl fun a Z => ab (hK11 _ _ <| aq ?_)
 refine ak Z Tryz.results144 (ah rfl (ah rfl ag)) ?_
 exact ⟨by simp_all [retv, after], Y.ext⟩
end Go.Proofs.YtmmfieceinmloaaGreatDoor.K16
namespace Go.Proofs.YtmmfieceinmloaaGreatDoor.K16
open Go.RowKit Go.PW
set_option linter.unusedVariables false
set_option linter.unusedSimpArgs false
set_option maxRecDepth 4000
def encS (s : Stt) : List Value := [s.val]
def NxS (pre : List Stt) (x : Stt) : Prop := pre.length < 200
theorem jJ {M : Nat → Prop} {w0 : World} {er : Ent} (rl : Rul) (cl : Clm) (x : Mach) (vd : Value) (lp bn by_ bp : Nat) (J Jx : List Stt → Ent → Prop) (hY : Rounds Tryz.prog M w0 lp encS NxS J Jx) (u : Int) (now0 : Stt) (pre : List Stt) (e0 : Ent) (ws : World)
  (hr : aW rl = true) (hso : Sound rl now0) (hJ : J pre e0) (hpl : pre.length + 4 < 200) (Y : St M w0 [e0, blk bn [iv now0.state, iv now0.since, iv now0.next] 98, blk by_ [.func (.yield lp) #[] #[]] 203, blk bp [pq x.bm] 170, blk x.bm [iv rl.answer, iv rl.cooling, iv rl.settle, iv rl.reverse, iv cl.number, iv cl.frm, iv cl.to, iv cl.holder, iv cl.asked, .bool cl.backed, .map (some x.dm), .map (some x.em), vd] 180, mapE x.dm duesKV, er] ws) :
  Ret Tryz.prog 143 #[iv u, pq bn, pq bp, pq by_] ws fun v w => ∃ y e1, v = .bool y ∧ (y = true → J (pre ++ alone rl u now0) e1 ∧ St M w0 [e1, blk bn [iv ((lastOf now0 (alone rl u now0)).state), iv ((lastOf now0 (alone rl u now0)).since), iv ((lastOf now0 (alone rl u now0)).next)] 98, blk by_ [.func (.yield lp) #[] #[]] 203, blk bp [pq x.bm] 170, blk x.bm [iv rl.answer, iv rl.cooling, iv rl.settle, iv rl.reverse, iv cl.number, iv cl.frm, iv cl.to, iv cl.holder, iv cl.asked, .bool cl.backed, .map (some x.dm), .map (some x.em), vd] 180, mapE x.dm duesKV, er] w) ∧ (y = false → ∃ (p1 p2 : List Stt) (now1 : Stt), alone rl u now0 = p1 ++ p2 ∧ Jx (pre ++ p1) e1 ∧ St M w0 [e1, blk bn [iv now1.state, iv now1.since, iv now1.next] 98, blk by_ [.func (.yield lp) #[] #[]] 203, blk bp [pq x.bm] 170, blk x.bm [iv rl.answer, iv rl.cooling, iv rl.settle, iv rl.reverse, iv cl.number, iv cl.frm, iv cl.to, iv cl.holder, iv cl.asked, .bool cl.backed, .map (some x.dm), .map (some x.em), vd] 180, mapE x.dm duesKV, er] w) := by
 refine aD Tryz.func143 rfl Tryz.ntmps143 (lb rfl) fun a Z => ?_
 have Z : Fr 31 [(0, _), (1, _), (2, _), (3, _)] [] a := Z
 skip
 refine aa fun K1 hK1 => wla Z rfl fun a Z => ab (hK1 _ _ <| ai fun K2 hK2 => ?_)
 refine ax <| bf (fun m a w => ∃ (n : Nat) (nw : Stt) (e : Ent) (dn : List Stt), m = 0 + n ∧ (alone rl u now0 = dn ++ aloneF n rl u nw) ∧ (lastOf now0 dn = nw) ∧ (Sound rl nw) ∧ (rank nw.state ≤ n) ∧ (dn.length + n ≤ 4) ∧ (J (pre ++ dn) e) ∧ Fr 31 [(0, iv u), (1, pq bn), (2, pq bp), (3, pq by_)] [] a ∧ St M w0 [e, blk bn [iv nw.state, iv nw.since, iv nw.next] 98, blk by_ [.func (.yield lp) #[] #[]] 203, blk bp [pq x.bm] 170, blk x.bm [iv rl.answer, iv rl.cooling, iv rl.settle, iv rl.reverse, iv cl.number, iv cl.frm, iv cl.to, iv cl.holder, iv cl.asked, .bool cl.backed, .map (some x.dm), .map (some x.em), vd] 180, mapE x.dm duesKV, er] w) _ ⟨4, now0, e0, [], rfl, rfl, rfl, hso, (Nat.le_trans (lm _) (by decide)), (by simp), (by simpa using hJ), Z.pick [0, 1, 2, 3], Y⟩ ?_
 rintro _ a w1 ⟨n, nw, e, dn, rfl, hal, hla, hso, hrk, hln, hJ, Z, Y⟩
 refine ai fun K3 hK3 => aa fun K4 hK4 => wlv Z (ac (v := .pointer (some ⟨bn, 2, none⟩)) rfl (by kernel_rfl)) fun a Z => wlv Z (ae (Y.get (k := 1) rfl) rfl (Tryz.isAgg3 _) rfl) fun a Z => wlv Z (v_ge rfl rfl) fun a Z => wlm Z rfl fun a Z => ?_
 rcases Bool.eq_false_or_eq_true (decide (0 ≤ nw.next)) with hb1 | hb1
 ·rw [hb1] at Z
  try simp only [qz] at hb1
  have hstep := hso.step hr hb1
  obtain ⟨hs1, hs2, hs3, hs4, hs5, hs6⟩ := (hso.next hr).resolve_left (by omega)
  obtain ⟨n, rfl⟩ : ∃ n1, n = n1 + 1 := ⟨n - 1, by omega⟩
  refine wly Z (ac (v := .pointer (some ⟨bn, 2, none⟩)) rfl (by kernel_rfl)) fun a Z => wly Z (ae (Y.get (k := 1) rfl) rfl (Tryz.isAgg3 _) rfl) fun a Z => wly Z (aj rfl) fun a Z => wly Z (v_le rfl rfl) fun a Z => wlv Z (aw rfl rfl) fun a Z => ab (hK4 _ _ ?_)
  have Z : Fr 31 [(0, _), (1, _), (2, _), (3, _), (14, _)] [] a := Z.pick [0, 1, 2, 3, 14]
  refine aB Z rfl (fun hc2 => ?_) (fun hc2 => ?_)
  ·rw [hc2] at Z
   try simp only [qz] at hc2
   refine ay <| hK3 _ _ <| ax <| ai fun K5 hK5 => aK (by kernel_rfl) ?_
   have Z : Fr 31 [(0, _), (1, _), (2, _), (3, _), (14, _)] [] a := Z.pick [0, 1, 2, 3, 14]
   refine aZ 12 [[], [], [1], [2], [3], [], [5], [4, 6], [7], [], [9], [0, 8, 10]] (fun i => match i with | 0 => pv (pq x.bm) | 1 => pv (pq x.bm) | 2 => pv (pq x.bm) | 3 => pv (.pointer (some ⟨x.bm, 10, none⟩)) | 4 => pv (.map (some x.dm)) | 5 => pv (pq bn) | 6 => pv (iv nw.state) | 7 => pv (.agg #[dueFun nw.state, iv (bC nw.state)]) | 8 => pv (iv (bC nw.state)) | 9 => pv (.pointer (some ⟨bn, 2, none⟩)) | 10 => pv (iv nw.next) | 11 => pv (.agg #[iv ((begins rl (bC nw.state) nw.next).state), iv ((begins rl (bC nw.state) nw.next).since), iv ((begins rl (bC nw.state) nw.next).next)]) | _ => fun _ _ => False) Z Y (by kernel_rfl) (by kernel_rfl) ?_ ?_
   ·intro i hi
    match i, hi with
    | 0, _ =>
     intro w Y
     exact OpV.g (ae (Y.get (k := 3) rfl) rfl (Tryz.isAgg170 _) rfl)
    | 1, _ =>
     intro w Y
     exact OpV.g (ae (Y.get (k := 3) rfl) rfl (Tryz.isAgg170 _) rfl)
    | 2, _ =>
     rintro _ _ ⟨rfl, rfl⟩
     intro w Y
     exact OpV.g (aQ rfl)
    | 3, _ =>
     rintro _ _ ⟨rfl, rfl⟩
     intro w Y
     exact OpV.g (ac (v := .pointer (some ⟨x.bm, 10, none⟩)) rfl (by kernel_rfl))
    | 4, _ =>
     rintro _ _ ⟨rfl, rfl⟩
     intro w Y
     exact OpV.g (ae (Y.get (k := 4) rfl) rfl (Tryz.isAgg177 _) rfl)
    | 5, _ =>
     intro w Y
     exact OpV.g (ac (v := pq bn) rfl (by kernel_rfl))
    | 6, _ =>
     rintro _ _ ⟨rfl, rfl⟩
     intro w Y
     exact OpV.g (ae (Y.get (k := 1) rfl) rfl (Tryz.isAgg3 _) rfl)
    | 7, _ =>
     rintro _ _ ⟨rfl, rfl⟩ _ _ ⟨rfl, rfl⟩
     intro w Y
     exact OpV.g (dq rfl rfl (jt (Y.get (k := 5) rfl) hs1))
    | 8, _ =>
     rintro _ _ ⟨rfl, rfl⟩
     intro w Y
     exact OpV.g (ne (v := iv (bC nw.state)) rfl (by kernel_rfl))
    | 9, _ =>
     intro w Y
     exact OpV.g (ac (v := .pointer (some ⟨bn, 2, none⟩)) rfl (by kernel_rfl))
    | 10, _ =>
     rintro _ _ ⟨rfl, rfl⟩
     intro w Y
     exact OpV.g (ae (Y.get (k := 1) rfl) rfl (Tryz.isAgg3 _) rfl)
    | 11, _ =>
     rintro _ _ ⟨rfl, rfl⟩ _ _ ⟨rfl, rfl⟩ _ _ ⟨rfl, rfl⟩
     intro w Y
     exact aU Tryz.call142 rfl (fF (bC nw.state) rl cl x vd nw.next _ (Y.get (k := 4) rfl) (Y.get (k := 5) rfl) hr (by omega) (by omega))
    | i + 12, h => exact absurd h (by omega)
   rintro _ _ ⟨rfl, rfl⟩ _ _ ⟨rfl, rfl⟩ _ _ ⟨rfl, rfl⟩ _ _ ⟨rfl, rfl⟩ _ _ ⟨rfl, rfl⟩ _ _ ⟨rfl, rfl⟩ _ _ ⟨rfl, rfl⟩ _ _ ⟨rfl, rfl⟩ _ _ ⟨rfl, rfl⟩ _ _ ⟨rfl, rfl⟩ _ _ ⟨rfl, rfl⟩ _ _ ⟨rfl, rfl⟩ a w2 Z Y
   have Z : Fr 31 [(15, _), (16, _), (17, _), (18, _), (19, _), (20, _), (21, _), (22, _), (23, _), (24, _), (25, _), (26, _), (0, _), (1, _), (2, _), (3, _), (14, _)] [] a := Z
   have Y : St M w0 [_, _, _, _, _, _, _] w2 := Y
   refine ap 1 Z Y rfl rfl rfl (Tryz.sizeOf98 _) rfl (lb rfl) (ds := [iv ((begins rl (bC nw.state) nw.next).state), iv ((begins rl (bC nw.state) nw.next).since), iv ((begins rl (bC nw.state) nw.next).next)]) rfl rfl fun a w3 Z Y => ab <| hK5 _ _ ?_
   have Z : Fr 31 [(0, _), (1, _), (2, _), (3, _), (14, _)] [] a := Z.pick [0, 1, 2, 3, 14]
   refine aa fun K6 hK6 => wlv Z (ae (Y.get (k := 2) rfl) rfl (Tryz.isAgg203 _) rfl) fun a Z => wlv Z (ao (Y.get (k := 1) rfl) rfl (Tryz.isAgg98 _) (Tryz.sizeOf98 _)) fun a Z => wl_r (eb rfl rfl (hY.yield (pre := pre ++ dn) (x := begins rl (bC nw.state) nw.next) (by simp only [NxS, List.length_append]; omega) hJ (Y.only (i := 0) rfl))) rfl rfl Z fun a v w4 hR Z => ?_
   obtain ⟨y3, e4, rfl, hx, hok, hft, hJt, hJf⟩ := hR
   have Y := Y.exchange (k := 0) rfl hx hok hft
   have Y : St M w0 [e4, blk bn [iv ((begins rl (bC nw.state) nw.next).state), iv ((begins rl (bC nw.state) nw.next).since), iv ((begins rl (bC nw.state) nw.next).next)] 98, blk by_ [.func (.yield lp) #[] #[]] 203, blk bp [pq x.bm] 170, blk x.bm [iv rl.answer, iv rl.cooling, iv rl.settle, iv rl.reverse, iv cl.number, iv cl.frm, iv cl.to, iv cl.holder, iv cl.asked, .bool cl.backed, .map (some x.dm), .map (some x.em), vd] 180, mapE x.dm duesKV, er] w4 := Y
   clear hx hok hft
   refine wlv Z (bK rfl) fun a Z => ab (hK6 _ _ ?_)
   refine aB Z rfl (fun hc5 => ?_) (fun hc5 => ?_)
   ·rw [hc5] at Z
    try simp only [qz] at hc5
    refine aa fun K7 hK7 => wla Z rfl fun a Z => ab (hK7 _ _ <| aq ?_)
    refine ak Z Tryz.results143 (ah rfl ag) ?_
    refine ⟨false, _, rfl, fun h => (by cases h), fun _ => ⟨dn ++ [begins rl (bC nw.state) nw.next], aloneF n rl u (begins rl (bC nw.state) nw.next), _, ?_, ?_, Y⟩⟩
    ·rw [hal, ee (by assumption) (by assumption)]; simp
    ·rw [← List.append_assoc]; exact hJf (by assumption)
   rw [hc5] at Z
   try simp only [qz] at hc5
   have hJ := hJt hc5
   refine ay ?_
   refine ⟨_, ?_, n, begins rl (bC nw.state) nw.next, e4, dn ++ [begins rl (bC nw.state) nw.next], rfl, (by rw [hal, ee (by assumption) (by assumption)]; simp), (by rw [gZ, du]; rfl), hstep.1, (by simp only [begins]; omega), (by simp; omega), (by rw [← List.append_assoc]; exact hJ), Z.pick [0, 1, 2, 3], Y⟩
   omega
  rw [hc2] at Z
  try simp only [qz] at hc2
  refine aS <| hK2 _ _ <| aa fun K8 hK8 => wla Z rfl fun a Z => ab (hK8 _ _ <| aq ?_)
  refine ak Z Tryz.results143 (ah rfl ag) ?_
  rw [cS (now := nw) (u := u) (r := rl) (by omega), List.append_nil] at hal
  exact ⟨true, _, rfl, fun _ => ⟨by rw [hal]; exact hJ, by rw [hal, hla]; exact Y⟩, fun h => by cases h⟩
 rw [hb1] at Z
 try simp only [qz] at hb1
 refine wln Z fun a Z => wln Z fun a Z => wln Z fun a Z => wln Z fun a Z => wlv Z (au rfl rfl) fun a Z => ab (hK4 _ _ ?_)
 have Z : Fr 31 [(0, _), (1, _), (2, _), (3, _), (14, _)] [] a := Z.pick [0, 1, 2, 3, 14]
 refine bj Z rfl ?_
 refine aS <| hK2 _ _ <| aa fun K9 hK9 => wla Z rfl fun a Z => ab (hK9 _ _ <| aq ?_)
 refine ak Z Tryz.results143 (ah rfl ag) ?_
 rw [cS (now := nw) (u := u) (r := rl) (by omega), List.append_nil] at hal
 exact ⟨true, _, rfl, fun _ => ⟨by rw [hal]; exact hJ, by rw [hal, hla]; exact Y⟩, fun h => by cases h⟩
end Go.Proofs.YtmmfieceinmloaaGreatDoor.K16
namespace Go.Proofs.YtmmfieceinmloaaGreatDoor.K16
open Go.RowKit Go.PW
set_option linter.unusedVariables false
set_option linter.unusedSimpArgs false
set_option maxRecDepth 4000
theorem kH {r : Rul} {b : Bool} {k : Nat} {now : Stt} {l : List Evt} {ev : Evt} {p1 p2 : List Stt} (hk : k < l.length) (he : l.getD k ⟨0, 0, 0⟩ = ev) (hp : alone r ev.at_ now = p1 ++ p2) :
  ∃ q, (runE r b k now (l.drop k)).1 = p1 ++ (p2 ++ q) := by
 cases ha : (after b (lastOf now (alone r ev.at_ now)).state ev).2 with
 | true => rw [f4 hk he rfl ha, hp]; exact ⟨_, List.append_assoc _ _ _⟩
 | false => rw [fy hk he rfl ha, hp]; exact ⟨_, List.append_assoc _ _ _⟩
set_option maxHeartbeats 4000000 in
theorem iM {M : Nat → Prop} {w0 : World} {er : Ent} (rl : Rul) (cl : Clm) (x : Mach) (sv : Value) (l : List Evt) (lp bp bl : Nat) (J Jx : List Stt → Ent → Prop) (hY : Rounds Tryz.prog M w0 lp encS NxS J Jx) (e0 : Ent) (ws : World)
  (hv : valid rl cl l = true) (hsv : ∀ H w, St M w0 H w → SlAt w sv 3 (l.map Evt.cells)) (hJ : J [] e0) (Y : St M w0 [e0, blk bp [pq x.bm] 170, blk bl [sv] 84, blk x.bm [iv rl.answer, iv rl.cooling, iv rl.settle, iv rl.reverse, iv cl.number, iv cl.frm, iv cl.to, iv cl.holder, iv cl.asked, .bool cl.backed, .map (some x.dm), .map (some x.em), .slice none 0 0] 180, mapE x.dm duesKV, mapE x.em effAll, own (.slice none 0 0) 3 1 (([]).map fun i => [iv i]), er] ws) :
  Ret Tryz.prog 141 #[.func (.yield lp) #[] #[], pq bp, pq bl] ws fun _ w => ∃ e1 Hi, St M w0 (e1 :: Hi) w ∧ ((∃ xs, (xs = aT rl cl l ∧ ∃ (vd : Value), Hi = [blk bp [pq x.bm] 170, blk bl [sv] 84, blk x.bm [iv rl.answer, iv rl.cooling, iv rl.settle, iv rl.reverse, iv cl.number, iv cl.frm, iv cl.to, iv cl.holder, iv cl.asked, .bool cl.backed, .map (some x.dm), .map (some x.em), vd] 180, mapE x.dm duesKV, mapE x.em effAll, own vd 3 1 ((voids rl cl l).map fun i => [iv i]), er]) ∧ J xs e1) ∨ (∃ pre, ((∃ rest, aT rl cl l = pre ++ rest) ∧ ∃ (vd : Value) (vo : List Int), Hi = [blk bp [pq x.bm] 170, blk bl [sv] 84, blk x.bm [iv rl.answer, iv rl.cooling, iv rl.settle, iv rl.reverse, iv cl.number, iv cl.frm, iv cl.to, iv cl.holder, iv cl.asked, .bool cl.backed, .map (some x.dm), .map (some x.em), vd] 180, mapE x.dm duesKV, mapE x.em effAll, own vd 3 1 (vo.map fun i => [iv i]), er]) ∧ Jx pre e1)) := by
 refine aD Tryz.func141 rfl Tryz.ntmps141 (lb rfl) fun a Z => ?_
 have Z : Fr 66 [(0, _), (1, _), (2, _)] [] a := Z
 skip
 obtain ⟨hr, hc, hlen, hbad⟩ := jo hv
 have hcl := cH hc
 have hfs : Sound rl (first rl cl) := Sound.begins 1 cl.asked (by omega) (by omega)
 refine aa fun K1 hK1 => aN Z Y (by decide) rfl (cs := [.func (.yield lp) #[] #[]]) rfl fun a w1 Z Y => ab (hK1 _ _ <| ai fun K2 hK2 => ?_)
 refine aK (by kernel_rfl) ?_
 have Z : Fr 66 [(0, _), (1, _), (2, _), (3, _)] [] a := Z.pick [0, 1, 2, 3]
 refine aZ 8 [[], [], [1], [2], [3], [4], [0, 5], []] (fun i => match i with | 0 => pv (pq x.bm) | 1 => pv (pq x.bm) | 2 => pv (pq x.bm) | 3 => pv (.pointer (some ⟨x.bm, 4, none⟩)) | 4 => pv (.pointer (some ⟨x.bm, 8, none⟩)) | 5 => pv (iv cl.asked) | 6 => pv (.agg #[iv ((begins rl 1 cl.asked).state), iv ((begins rl 1 cl.asked).since), iv ((begins rl 1 cl.asked).next)]) | 7 => pm (fun b : Nat => pq b) (fun b => [blk b [iv 0, iv 0, iv 0] 98]) (fun _ => True) | _ => fun _ _ => False) Z Y (by kernel_rfl) (by kernel_rfl) ?_ ?_
 ·intro i hi
  match i, hi with
  | 0, _ =>
   intro w Y
   exact OpV.g (ae (Y.get (k := 2) rfl) rfl (Tryz.isAgg170 _) rfl)
  | 1, _ =>
   intro w Y
   exact OpV.g (ae (Y.get (k := 2) rfl) rfl (Tryz.isAgg170 _) rfl)
  | 2, _ =>
   rintro _ _ ⟨rfl, rfl⟩
   intro w Y
   exact OpV.g (aQ rfl)
  | 3, _ =>
   rintro _ _ ⟨rfl, rfl⟩
   intro w Y
   exact OpV.g (ac (v := .pointer (some ⟨x.bm, 4, none⟩)) rfl (by kernel_rfl))
  | 4, _ =>
   rintro _ _ ⟨rfl, rfl⟩
   intro w Y
   exact OpV.g (ac (v := .pointer (some ⟨x.bm, 8, none⟩)) rfl (by kernel_rfl))
  | 5, _ =>
   rintro _ _ ⟨rfl, rfl⟩
   intro w Y
   exact OpV.g (ae (Y.get (k := 4) rfl) rfl (Tryz.isAgg3 _) rfl)
  | 6, _ =>
   rintro _ _ ⟨rfl, rfl⟩ _ _ ⟨rfl, rfl⟩
   intro w Y
   exact aU Tryz.call142 rfl (fF 1 rl cl x (.slice none 0 0) cl.asked _ (Y.get (k := 4) rfl) (Y.get (k := 5) rfl) hr (by omega) (by omega))
  | 7, _ =>
   intro w Y
   exact f8 (Tryz.zeroValue98 _) (cs := [iv 0, iv 0, iv 0]) rfl
 rintro _ _ ⟨rfl, rfl⟩ _ _ ⟨rfl, rfl⟩ _ _ ⟨rfl, rfl⟩ _ _ ⟨rfl, rfl⟩ _ _ ⟨rfl, rfl⟩ _ _ ⟨rfl, rfl⟩ _ _ ⟨rfl, rfl⟩ _ _ ⟨b1, rfl, -, rfl⟩ a w2 Z Y
 have Z : Fr 66 [(10, _), (11, _), (12, _), (13, _), (14, _), (15, _), (16, _), (4, _), (0, _), (1, _), (2, _), (3, _)] [] a := Z
 have Y : St M w0 [_, _, _, _, _, _, _, _, _, _] w2 := Y
 refine ap 0 Z Y rfl rfl rfl (Tryz.sizeOf98 _) rfl (lb rfl) (ds := [iv ((begins rl 1 cl.asked).state), iv ((begins rl 1 cl.asked).since), iv ((begins rl 1 cl.asked).next)]) rfl rfl fun a w3 Z Y => ab <| hK2 _ _ ?_
 have Z : Fr 66 [(0, _), (1, _), (2, _), (3, _), (4, _)] [] a := Z.pick [0, 1, 2, 3, 4]
 refine ai fun K3 hK3 => aa fun K4 hK4 => wlv Z (ae (Y.get (k := 1) rfl) rfl (Tryz.isAgg203 _) rfl) fun a Z => wlv Z (ao (Y.get (k := 0) rfl) rfl (Tryz.isAgg98 _) (Tryz.sizeOf98 _)) fun a Z => wl_r (eb rfl rfl (hY.yield (pre := []) (x := first rl cl) (by simp [NxS]) hJ (Y.only (i := 2) rfl))) rfl rfl Z fun a v w4 hR Z => ?_
 obtain ⟨y2, e3, rfl, hx, hok, hft, hJt, hJf⟩ := hR
 have Y := Y.exchange (k := 2) rfl hx hok hft
 have Y : St M w0 [blk b1 [iv ((begins rl 1 cl.asked).state), iv ((begins rl 1 cl.asked).since), iv ((begins rl 1 cl.asked).next)] 98, blk ws.heap.size [.func (.yield lp) #[] #[]] 203, e3, blk bp [pq x.bm] 170, blk bl [sv] 84, blk x.bm [iv rl.answer, iv rl.cooling, iv rl.settle, iv rl.reverse, iv cl.number, iv cl.frm, iv cl.to, iv cl.holder, iv cl.asked, .bool cl.backed, .map (some x.dm), .map (some x.em), .slice none 0 0] 180, mapE x.dm duesKV, mapE x.em effAll, own (.slice none 0 0) 3 1 (([]).map fun i => [iv i]), er] w4 := Y
 clear hx hok hft
 refine wlv Z (bK rfl) fun a Z => ab (hK4 _ _ ?_)
 refine aB Z rfl (fun hc4 => ?_) (fun hc4 => ?_)
 ·rw [hc4] at Z
  try simp only [qz] at hc4
  have hJx := hJf hc4
  refine aq ?_
  refine ak Z Tryz.results141 ag ?_
  exact ⟨_, _, Y.select [2, 3, 4, 5, 6, 7, 8, 9] (by decide), .inr ⟨[first rl cl], ⟨⟨_, rfl⟩, _, _, rfl⟩, hJx⟩⟩
 rw [hc4] at Z
 try simp only [qz] at hc4
 have hJ := hJt hc4
 refine ay <| hK3 _ _ <| aa fun K5 hK5 => wlv Z (co rfl rfl) fun a Z => wla Z rfl fun a Z => ab (hK5 _ _ <| ai fun K6 hK6 => ?_)
 refine aa fun K7 hK7 => wlv Z (ae (Y.get (k := 4) rfl) rfl (Tryz.isAgg84 _) rfl) fun a Z => wlv Z ((aY (sT := 84) (hsv _ _ Y) rfl rfl (Tryz.runUnderlying84 _)).asi (m' := (l.length : Int)) (by simp)) fun a Z => wlm Z rfl fun a Z => ab (hK7 _ _ <| ax ?_)
 refine bf (fun m a w => ∃ (k : Nat) (e : Ent) (nw : Stt) (dn : List Stt) (vo : List Int) (vd : Value), m = l.length - k ∧ (k ≤ l.length) ∧ (aT rl cl l = dn ++ (runE rl cl.backed k nw (l.drop k)).1) ∧ (voids rl cl l = vo ++ (runE rl cl.backed k nw (l.drop k)).2) ∧ (Sound rl nw) ∧ (dn.length ≤ 1 + 5 * k) ∧ (vo.length ≤ k) ∧ (J dn e) ∧ Fr 66 [(0, .func (.yield lp) #[] #[]), (1, pq bp), (2, pq bl), (3, pq ws.heap.size), (4, pq b1), (17, .func (.yield lp) #[] #[]), (18, .agg #[iv ((begins rl 1 cl.asked).state), iv ((begins rl 1 cl.asked).since), iv ((begins rl 1 cl.asked).next)]), (19, .bool y2), (20, .bool false), (21, .func (.func 143) #[] #[pq b1, pq bp, pq ws.heap.size]), (5, .func (.func 143) #[] #[pq b1, pq bp, pq ws.heap.size]), (22, sv), (23, iv (l.length : Int)), (24, iv (k : Int))] [] a ∧ St M w0 [e, blk b1 [iv nw.state, iv nw.since, iv nw.next] 98, blk ws.heap.size [.func (.yield lp) #[] #[]] 203, blk bp [pq x.bm] 170, blk bl [sv] 84, blk x.bm [iv rl.answer, iv rl.cooling, iv rl.settle, iv rl.reverse, iv cl.number, iv cl.frm, iv cl.to, iv cl.holder, iv cl.asked, .bool cl.backed, .map (some x.dm), .map (some x.em), vd] 180, mapE x.dm duesKV, mapE x.em effAll, own vd 3 1 (vo.map fun i => [iv i]), er] w) _ ⟨0, e3, first rl cl, [first rl cl], [], .slice none 0 0, rfl, Nat.zero_le _, rfl, rfl, hfs, (by simp), (by simp), hJ, Z.pick [0, 1, 2, 3, 4, 17, 18, 19, 20, 21, 5, 22, 23, 24], Y.select [2, 0, 1, 3, 4, 5, 6, 7, 8, 9] (by decide)⟩ ?_
 rintro _ a w5 ⟨k, e, nw, dn, vo, vd, rfl, hk, hsp, hvo, hso, hdl, hvl, hJ, Z, Y⟩
 refine aa fun K8 hK8 => wlv Z (v_lt rfl rfl) fun a Z => ab (hK8 _ _ <| ai fun K9 hK9 => ?_)
 refine aB Z rfl (fun hc5 => ?_) (fun hc5 => ?_)
 ·rw [hc5] at Z
  try simp only [qz] at hc5
  have hkl : k < l.length := by omega
  obtain ⟨ev, hev⟩ : ∃ ev, l.getD k ⟨0, 0, 0⟩ = ev := ⟨_, rfl⟩
  have hea := g7 l cl.asked hbad k hkl
  rw [hev] at hea
  refine ay <| hK9 _ _ <| ai fun K10 hK10 => ax <| aa fun K11 hK11 => wlm Z rfl fun a Z => wlv Z ((am (i := (k : Int)) (sT := 84) (hsv _ _ Y) rfl rfl (Tryz.runUnderlying84 _) (Tryz.sizeOf96 _) (by omega) (by simpa using hkl)).as (v' := slAddr sv (k * 3)) rfl) fun a Z => ?_
  refine wlv Z ((bY (hsv _ _ Y) (i := k) (by simpa using hkl) rfl (Tryz.isAgg96 _) (Tryz.sizeOf96 _)).as (v' := .agg #[iv ev.kind, iv ev.at_, iv ev.reason]) (by rw [← hev]; show _ = Value.agg (l.getD k ⟨0, 0, 0⟩).cells.toArray; simp [hkl])) fun a Z => aI Z Y (by decide) (Tryz.zeroValue96 _) (cs := [iv 0, iv 0, iv 0]) rfl fun a w6 Z Y => wla Z rfl fun a Z => ap 0 Z Y rfl rfl rfl (Tryz.sizeOf96 _) rfl (lb rfl) (ds := [iv ev.kind, iv ev.at_, iv ev.reason]) rfl rfl fun a w7 Z Y => ab (hK11 _ _ <| ai fun K12 hK12 => ?_)
  refine aa fun K13 hK13 => wlm Z rfl fun a Z => wlv Z (ac (v := .pointer (some ⟨w5.heap.size, 1, none⟩)) rfl (by kernel_rfl)) fun a Z => wlv Z (ae (Y.get (k := 0) rfl) rfl (Tryz.isAgg3 _) rfl) fun a Z => ?_
  have Y : St M w0 [e, blk b1 [iv nw.state, iv nw.since, iv nw.next] 98, blk ws.heap.size [.func (.yield lp) #[] #[]] 203, blk bp [pq x.bm] 170, blk x.bm [iv rl.answer, iv rl.cooling, iv rl.settle, iv rl.reverse, iv cl.number, iv cl.frm, iv cl.to, iv cl.holder, iv cl.asked, .bool cl.backed, .map (some x.dm), .map (some x.em), vd] 180, mapE x.dm duesKV, blk w5.heap.size [iv ev.kind, iv ev.at_, iv ev.reason] 96, blk bl [sv] 84, mapE x.em effAll, own vd 3 1 (vo.map fun i => [iv i]), er] w7 := Y.select [1, 2, 3, 4, 6, 7, 0, 5, 8, 9, 10] (by decide)
  have Y : St M w0 [e, blk b1 [iv nw.state, iv nw.since, iv nw.next] 98, blk ws.heap.size [.func (.yield lp) #[] #[]] 203, blk bp [pq x.bm] 170, blk x.bm [iv rl.answer, iv rl.cooling, iv rl.settle, iv rl.reverse, iv cl.number, iv cl.frm, iv cl.to, iv cl.holder, iv cl.asked, .bool cl.backed, .map (some x.dm), .map (some x.em), vd] 180, mapE x.dm duesKV, join [blk w5.heap.size [iv ev.kind, iv ev.at_, iv ev.reason] 96, blk bl [sv] 84, mapE x.em effAll, own vd 3 1 (vo.map fun i => [iv i]), er]] w7 := St.joinTail [e, blk b1 [iv nw.state, iv nw.since, iv nw.next] 98, blk ws.heap.size [.func (.yield lp) #[] #[]] 203, blk bp [pq x.bm] 170, blk x.bm [iv rl.answer, iv rl.cooling, iv rl.settle, iv rl.reverse, iv cl.number, iv cl.frm, iv cl.to, iv cl.holder, iv cl.asked, .bool cl.backed, .map (some x.dm), .map (some x.em), vd] 180, mapE x.dm duesKV] [blk w5.heap.size [iv ev.kind, iv ev.at_, iv ev.reason] 96, blk bl [sv] 84, mapE x.em effAll, own vd 3 1 (vo.map fun i => [iv i]), er] Y
  have hdl4 : dn.length + 4 < 200 := by omega
  have hcall := jJ rl cl x vd lp b1 ws.heap.size bp J Jx hY ev.at_ nw dn e _ hr hso hJ hdl4 Y
  refine wl_r (dC (cap := [pq b1, pq bp, pq ws.heap.size]) (vs := [iv ev.at_]) rfl Tryz.call143 rfl hcall) rfl rfl Z fun a v w8 hR Z => ?_
  clear hcall
  obtain ⟨ya6, e1, rfl, hyt, hyf⟩ := hR
  refine wlv Z (bK rfl) fun a Z => ab (hK13 _ _ ?_)
  refine aB Z rfl (fun hc7 => ?_) (fun hc7 => ?_)
  ·rw [hc7] at Z
   try simp only [qz] at hc7
   obtain ⟨p1, p2, now1, hp12, hJx, Y⟩ := hyf hc7
   obtain ⟨qq, hqq⟩ := kH (b := cl.backed) hkl hev hp12
   have Y := St.unjoinTail [e1, blk b1 [iv now1.state, iv now1.since, iv now1.next] 98, blk ws.heap.size [.func (.yield lp) #[] #[]] 203, blk bp [pq x.bm] 170, blk x.bm [iv rl.answer, iv rl.cooling, iv rl.settle, iv rl.reverse, iv cl.number, iv cl.frm, iv cl.to, iv cl.holder, iv cl.asked, .bool cl.backed, .map (some x.dm), .map (some x.em), vd] 180, mapE x.dm duesKV] [blk w5.heap.size [iv ev.kind, iv ev.at_, iv ev.reason] 96, blk bl [sv] 84, mapE x.em effAll, own vd 3 1 (vo.map fun i => [iv i]), er] Y
   have Y : St M w0 [e1, blk b1 [iv now1.state, iv now1.since, iv now1.next] 98, blk ws.heap.size [.func (.yield lp) #[] #[]] 203, blk bp [pq x.bm] 170, blk x.bm [iv rl.answer, iv rl.cooling, iv rl.settle, iv rl.reverse, iv cl.number, iv cl.frm, iv cl.to, iv cl.holder, iv cl.asked, .bool cl.backed, .map (some x.dm), .map (some x.em), vd] 180, mapE x.dm duesKV, blk w5.heap.size [iv ev.kind, iv ev.at_, iv ev.reason] 96, blk bl [sv] 84, mapE x.em effAll, own vd 3 1 (vo.map fun i => [iv i]), er] w8 := Y
   refine aq ?_
   refine ak Z Tryz.results141 ag ?_
   exact ⟨_, _, Y.select [0, 3, 7, 4, 5, 8, 9, 10] (by decide), .inr ⟨dn ++ p1, ⟨⟨p2 ++ qq, (by rw [hsp, hqq]; simp)⟩, _, _, rfl⟩, hJx⟩⟩
  rw [hc7] at Z
  try simp only [qz] at hc7
  obtain ⟨hJ, Y⟩ := hyt hc7
  have Y := St.unjoinTail [e1, blk b1 [iv ((lastOf nw (alone rl ev.at_ nw)).state), iv ((lastOf nw (alone rl ev.at_ nw)).since), iv ((lastOf nw (alone rl ev.at_ nw)).next)] 98, blk ws.heap.size [.func (.yield lp) #[] #[]] 203, blk bp [pq x.bm] 170, blk x.bm [iv rl.answer, iv rl.cooling, iv rl.settle, iv rl.reverse, iv cl.number, iv cl.frm, iv cl.to, iv cl.holder, iv cl.asked, .bool cl.backed, .map (some x.dm), .map (some x.em), vd] 180, mapE x.dm duesKV] [blk w5.heap.size [iv ev.kind, iv ev.at_, iv ev.reason] 96, blk bl [sv] 84, mapE x.em effAll, own vd 3 1 (vo.map fun i => [iv i]), er] Y
  obtain ⟨now1, hn1⟩ : ∃ n, lastOf nw (alone rl ev.at_ nw) = n := ⟨_, rfl⟩
  rw [hn1] at Y
  have Y : St M w0 [e1, blk b1 [iv now1.state, iv now1.since, iv now1.next] 98, blk ws.heap.size [.func (.yield lp) #[] #[]] 203, blk bp [pq x.bm] 170, blk x.bm [iv rl.answer, iv rl.cooling, iv rl.settle, iv rl.reverse, iv cl.number, iv cl.frm, iv cl.to, iv cl.holder, iv cl.asked, .bool cl.backed, .map (some x.dm), .map (some x.em), vd] 180, mapE x.dm duesKV, blk w5.heap.size [iv ev.kind, iv ev.at_, iv ev.reason] 96, blk bl [sv] 84, mapE x.em effAll, own vd 3 1 (vo.map fun i => [iv i]), er] w8 := Y
  have hso1 : Sound rl now1 := hn1 ▸ iV hr 4 nw hso
  refine ay <| hK12 _ _ <| aa fun K14 hK14 => wlv Z (ae (Y.get (k := 3) rfl) rfl (Tryz.isAgg170 _) rfl) fun a Z => wlv Z (ac (v := pq b1) rfl (by kernel_rfl)) fun a Z => wlv Z (ae (Y.get (k := 1) rfl) rfl (Tryz.isAgg3 _) rfl) fun a Z => wlv Z (ao (Y.get (k := 6) rfl) rfl (Tryz.isAgg96 _) (Tryz.sizeOf96 _)) fun a Z => ?_
  refine az Z Y (by decide) Tryz.call144 rfl (ml now1.state ev rl cl x vd _ (Y.get (k := 4) rfl) (Y.get (k := 8) rfl)) fun a w9 Z Y => wlm Z rfl fun a Z => wlv Z (aA rfl rfl) fun a Z => wlv Z (aA rfl rfl) fun a Z => wla Z rfl fun a Z => wla Z rfl fun a Z => ab (hK14 _ _ ?_)
  have Z : Fr 66 [(0, _), (1, _), (2, _), (3, _), (4, _), (17, _), (18, _), (19, _), (20, _), (21, _), (5, _), (22, _), (23, _), (24, _), (25, _), (26, _), (27, _), (28, _), (7, _), (6, _), (29, _), (30, _), (31, _), (32, _), (33, _), (8, _), (9, _)] [] a := Z.pick [0, 1, 2, 3, 4, 17, 18, 19, 20, 21, 5, 22, 23, 24, 25, 26, 27, 28, 7, 6, 29, 30, 31, 32, 33, 8, 9]
  refine ai fun K15 hK15 => aa fun K16 hK16 => wlm Z rfl fun a Z => wlv Z (bK rfl) fun a Z => ab (hK16 _ _ ?_)
  refine aB Z rfl (fun hc8 => ?_) (fun hc8 => ?_)
  ·rw [hc8] at Z
   try simp only [qz] at hc8
   refine ai fun K17 hK17 => aK (by kernel_rfl) ?_
   have Z : Fr 66 [(0, _), (1, _), (2, _), (3, _), (4, _), (17, _), (18, _), (19, _), (20, _), (21, _), (5, _), (22, _), (23, _), (24, _), (25, _), (26, _), (27, _), (28, _), (7, _), (6, _), (29, _), (30, _), (31, _), (32, _), (33, _), (8, _), (9, _), (42, _), (43, _)] [] a := Z.pick [0, 1, 2, 3, 4, 17, 18, 19, 20, 21, 5, 22, 23, 24, 25, 26, 27, 28, 7, 6, 29, 30, 31, 32, 33, 8, 9, 42, 43]
   have Y : St M w0 (own vd 3 1 (vo.map fun i => [iv i]) :: [e1, blk b1 [iv now1.state, iv now1.since, iv now1.next] 98, blk ws.heap.size [.func (.yield lp) #[] #[]] 203, blk bp [pq x.bm] 170, blk x.bm [iv rl.answer, iv rl.cooling, iv rl.settle, iv rl.reverse, iv cl.number, iv cl.frm, iv cl.to, iv cl.holder, iv cl.asked, .bool cl.backed, .map (some x.dm), .map (some x.em), vd] 180, mapE x.dm duesKV, blk w5.heap.size [iv ev.kind, iv ev.at_, iv ev.reason] 96, blk bl [sv] 84, mapE x.em effAll, er]) w9 := Y.front (i := 9) rfl
   refine eS 7 (own vd 3 1 (vo.map fun i => [iv i])) (fun v => own v 3 1 ((vo.map fun i => [iv i]) ++ ([[iv (k : Int)]]))) 8 [[], [], [1], [2], [3], [], [5], [4, 6]] (fun i => match i with | 0 => pv (pq x.bm) | 1 => pv (pq x.bm) | 2 => pv (pq x.bm) | 3 => pv (.pointer (some ⟨x.bm, 12, none⟩)) | 4 => pv (vd) | 5 => pv (iv (k : Int)) | 6 => pm (fun b : Nat => .slice (some ⟨b, 0, none⟩) 1 1) (fun b => [own (.slice (some ⟨b, 0, none⟩) 1 1) 3 1 [[iv (k : Int)]]]) (fun _ => True) | 7 => fun v E => E = [] | _ => fun _ _ => False) Z Y (by kernel_rfl) (by kernel_rfl) (by kernel_rfl) (by decide) ?_ ?_ ?_ ?_
   ·intro i v E h
    match i, h with
    | 0, _ => exact by decide
    | 1, _ => exact by decide
    | 2, _ => exact by decide
    | 3, _ => exact by decide
    | 4, _ => exact by decide
    | 5, _ => exact by decide
    | 6, _ => exact by decide
    | 7, _ => exact by decide
    | i + 8, h => exact h.elim
   ·intro i hi hiq e
    match i, hi, hiq with
    | 0, _, _ =>
     intro w Y
     exact OpV.g (ae (Y.get (k := 4) rfl) rfl (Tryz.isAgg170 _) rfl)
    | 1, _, _ =>
     intro w Y
     exact OpV.g (ae (Y.get (k := 4) rfl) rfl (Tryz.isAgg170 _) rfl)
    | 2, _, _ =>
     rintro _ _ ⟨rfl, rfl⟩
     intro w Y
     exact OpV.g (aQ rfl)
    | 3, _, _ =>
     rintro _ _ ⟨rfl, rfl⟩
     intro w Y
     exact OpV.g (ac (v := .pointer (some ⟨x.bm, 12, none⟩)) rfl (by kernel_rfl))
    | 4, _, _ =>
     rintro _ _ ⟨rfl, rfl⟩
     intro w Y
     exact OpV.g (ae (Y.get (k := 5) rfl) rfl (Tryz.isAgg88 _) rfl)
    | 5, _, _ =>
     intro w Y
     exact OpV.g (aj rfl)
    | 6, _, _ =>
     rintro _ _ ⟨rfl, rfl⟩
     intro w Y
     exact bV (E := 3) (sz := 1) rfl [[iv (k : Int)]] (fun _ => by kernel_rfl) (by simp) rfl (by decide)
    | 7, _, h => exact absurd rfl h
   ·rintro _ _ ⟨rfl, rfl⟩ _ _ ⟨b11, rfl, -, rfl⟩
    intro w Y
    exact (gQ (Y.get (k := 0) rfl) rfl rfl (Y.ownAt (i := 1) rfl) (by simp) Tryz.underlying88 (inf := Tryz.t3) (z := iv 0) rfl rfl rfl rfl (by decide) (by simp [Value.oneCell']) (by have hby : Tryz.t3.bytes = 8 := rfl; simp [big, hby]; omega) (by have hby : Tryz.t3.bytes = 8 := rfl; simp [big, hby]; omega)).mono fun v w' ⟨h1, h2, h3, _⟩ => ⟨h1, h2, h3, rfl⟩
   rintro vq _ _ ⟨⟨rfl, rfl⟩, -⟩ _ _ ⟨⟨rfl, rfl⟩, -⟩ _ _ ⟨⟨rfl, rfl⟩, -⟩ _ _ ⟨⟨rfl, rfl⟩, -⟩ _ _ ⟨⟨rfl, rfl⟩, -⟩ _ _ ⟨⟨rfl, rfl⟩, -⟩ _ _ ⟨⟨b11, rfl, -, rfl⟩, -⟩ s10 _ ⟨rfl, hvq⟩ a w10 Z Y
   obtain rfl := hvq rfl
   have Z : Fr 66 [(44, _), (45, _), (46, _), (47, _), (48, _), (49, _), (50, _), (51, _), (0, _), (1, _), (2, _), (3, _), (4, _), (17, _), (18, _), (19, _), (20, _), (21, _), (5, _), (22, _), (23, _), (24, _), (25, _), (26, _), (27, _), (28, _), (7, _), (6, _), (29, _), (30, _), (31, _), (32, _), (33, _), (8, _), (9, _), (42, _), (43, _)] [] a := Z
   have Y : St M w0 [own (.slice (some ⟨b11, 0, none⟩) 1 1) 3 1 ([[iv (k : Int)]]), own s10 3 1 ((vo.map fun i => [iv i]) ++ ([[iv (k : Int)]])), e1, blk b1 [iv now1.state, iv now1.since, iv now1.next] 98, blk ws.heap.size [.func (.yield lp) #[] #[]] 203, blk bp [pq x.bm] 170, blk x.bm [iv rl.answer, iv rl.cooling, iv rl.settle, iv rl.reverse, iv cl.number, iv cl.frm, iv cl.to, iv cl.holder, iv cl.asked, .bool cl.backed, .map (some x.dm), .map (some x.em), vd] 180, mapE x.dm duesKV, blk w5.heap.size [iv ev.kind, iv ev.at_, iv ev.reason] 96, blk bl [sv] 84, mapE x.em effAll, er] w10 := Y
   refine wlv Z (aQ rfl) fun a Z => wlv Z (ac (v := .pointer (some ⟨x.bm, 12, none⟩)) rfl (by kernel_rfl)) fun a Z => cJ 6 Z Y (Y.ownAt (i := 1) rfl) rfl rfl rfl (Tryz.sizeOf88 _) (lb rfl) (ds := [iv rl.answer, iv rl.cooling, iv rl.settle, iv rl.reverse, iv cl.number, iv cl.frm, iv cl.to, iv cl.holder, iv cl.asked, .bool cl.backed, .map (some x.dm), .map (some x.em), s10]) rfl rfl fun a w11 Z Y => ab <| hK17 _ _ ?_
   have Z : Fr 66 [(0, _), (1, _), (2, _), (3, _), (4, _), (17, _), (18, _), (19, _), (20, _), (21, _), (5, _), (22, _), (23, _), (24, _), (25, _), (26, _), (27, _), (28, _), (7, _), (6, _), (29, _), (30, _), (31, _), (32, _), (33, _), (8, _), (9, _), (42, _), (43, _)] [] a := Z.pick [0, 1, 2, 3, 4, 17, 18, 19, 20, 21, 5, 22, 23, 24, 25, 26, 27, 28, 7, 6, 29, 30, 31, 32, 33, 8, 9, 42, 43]
   have Y : St M w0 [_, _, _, _, _, _, _, _, _, _, _] w11 := Y.mask [false, true, true, true, true, true, true, true, true, true, true, true]
   refine aS <| hK10 _ _ <| ar <| wlv Z (aM rfl rfl ⟨by omega, by omega⟩) fun a Z => wlm Z rfl fun a Z => ab ?_
   rw [show (vo.map fun i => [iv i]) ++ [[iv (k : Int)]] = ((vo ++ [(k : Int)]).map fun i => [iv i]) from by simp] at Y
   refine ⟨_, ?_, k + 1, e1, now1, dn ++ alone rl ev.at_ nw, vo ++ [(k : Int)], s10, rfl, (by omega), (by rw [hsp, fy hkl hev hn1 (by assumption)]; simp), (by rw [hvo, fy hkl hev hn1 (by assumption)]; simp), hso1, (by have := dX rl ev.at_ nw; simp; omega), (by first | omega | (simp; omega)), hJ, Z.pick [0, 1, 2, 3, 4, 17, 18, 19, 20, 21, 5, 22, 23, 24], Y.select [1, 2, 3, 4, 8, 5, 6, 9, 0, 10] (by decide)⟩
   omega
  rw [hc8] at Z
  try simp only [qz] at hc8
  refine ay <| hK15 _ _ <| aa fun K18 hK18 => wlv Z (ae (Y.get (k := 3) rfl) rfl (Tryz.isAgg170 _) rfl) fun a Z => wlm Z rfl fun a Z => wlv Z (ac (v := .pointer (some ⟨w5.heap.size, 1, none⟩)) rfl (by kernel_rfl)) fun a Z => wlv Z (ae (Y.get (k := 6) rfl) rfl (Tryz.isAgg3 _) rfl) fun a Z => az Z Y (by decide) Tryz.call142 rfl (fF ((after cl.backed now1.state ev).1) rl cl x vd ev.at_ _ (Y.get (k := 4) rfl) (Y.get (k := 5) rfl) hr (by omega) (by omega)) fun a w12 Z Y => ?_
  refine ap 1 Z Y rfl rfl rfl (Tryz.sizeOf98 _) rfl (lb rfl) (ds := [iv ((begins rl ((after cl.backed now1.state ev).1) ev.at_).state), iv ((begins rl ((after cl.backed now1.state ev).1) ev.at_).since), iv ((begins rl ((after cl.backed now1.state ev).1) ev.at_).next)]) rfl rfl fun a w13 Z Y => ab (hK18 _ _ <| aa fun K19 hK19 => ?_)
  refine wlv Z (ae (Y.get (k := 2) rfl) rfl (Tryz.isAgg203 _) rfl) fun a Z => wlv Z (ao (Y.get (k := 1) rfl) rfl (Tryz.isAgg98 _) (Tryz.sizeOf98 _)) fun a Z => wl_r (eb rfl rfl (hY.yield (pre := dn ++ alone rl ev.at_ nw) (x := begins rl (after cl.backed now1.state ev).1 ev.at_) (by have := dX rl ev.at_ nw; simp only [NxS, List.length_append]; omega) hJ (Y.only (i := 0) rfl))) rfl rfl Z fun a v w14 hR Z => ?_
  obtain ⟨y12, e13, rfl, hx, hok, hft, hJt, hJf⟩ := hR
  have Y := Y.exchange (k := 0) rfl hx hok hft
  have Y : St M w0 [e13, blk b1 [iv ((begins rl ((after cl.backed now1.state ev).1) ev.at_).state), iv ((begins rl ((after cl.backed now1.state ev).1) ev.at_).since), iv ((begins rl ((after cl.backed now1.state ev).1) ev.at_).next)] 98, blk ws.heap.size [.func (.yield lp) #[] #[]] 203, blk bp [pq x.bm] 170, blk x.bm [iv rl.answer, iv rl.cooling, iv rl.settle, iv rl.reverse, iv cl.number, iv cl.frm, iv cl.to, iv cl.holder, iv cl.asked, .bool cl.backed, .map (some x.dm), .map (some x.em), vd] 180, mapE x.dm duesKV, blk w5.heap.size [iv ev.kind, iv ev.at_, iv ev.reason] 96, blk bl [sv] 84, mapE x.em effAll, own vd 3 1 (vo.map fun i => [iv i]), er] w14 := Y
  clear hx hok hft
  refine wlv Z (bK rfl) fun a Z => ab (hK19 _ _ ?_)
  refine aB Z rfl (fun hc14 => ?_) (fun hc14 => ?_)
  ·rw [hc14] at Z
   try simp only [qz] at hc14
   have hJx := hJf hc14
   refine aq ?_
   refine ak Z Tryz.results141 ag ?_
   exact ⟨_, _, Y.select [0, 3, 7, 4, 5, 8, 9, 10] (by decide), .inr ⟨dn ++ alone rl ev.at_ nw ++ [begins rl (after cl.backed now1.state ev).1 ev.at_], ⟨⟨(runE rl cl.backed (k + 1) (begins rl (after cl.backed now1.state ev).1 ev.at_) (l.drop (k + 1))).1, (by rw [hsp, f4 hkl hev hn1 (by assumption)]; simp)⟩, _, _, rfl⟩, hJx⟩⟩
  rw [hc14] at Z
  try simp only [qz] at hc14
  have hJ := hJt hc14
  refine ay <| hK10 _ _ <| ar <| wlv Z (aM rfl rfl ⟨by omega, by omega⟩) fun a Z => wlm Z rfl fun a Z => ab ?_
  refine ⟨_, ?_, k + 1, e13, begins rl (after cl.backed now1.state ev).1 ev.at_, dn ++ alone rl ev.at_ nw ++ [begins rl (after cl.backed now1.state ev).1 ev.at_], vo, vd, rfl, (by omega), (by rw [hsp, f4 hkl hev hn1 (by assumption)]; simp), (by rw [hvo, f4 hkl hev hn1 (by assumption)]), (Sound.begins _ _ (by omega) (by omega)), (by have := dX rl ev.at_ nw; simp; omega), (by first | omega | (simp; omega)), hJ, Z.pick [0, 1, 2, 3, 4, 17, 18, 19, 20, 21, 5, 22, 23, 24], Y.select [0, 1, 2, 3, 7, 4, 5, 8, 9, 10] (by decide)⟩
  omega
 rw [hc5] at Z
 try simp only [qz] at hc5
 refine aS <| hK6 _ _ <| ar <| wlm Z rfl fun a Z => ?_
 have Y : St M w0 [e, blk b1 [iv nw.state, iv nw.since, iv nw.next] 98, blk ws.heap.size [.func (.yield lp) #[] #[]] 203, blk bp [pq x.bm] 170, blk x.bm [iv rl.answer, iv rl.cooling, iv rl.settle, iv rl.reverse, iv cl.number, iv cl.frm, iv cl.to, iv cl.holder, iv cl.asked, .bool cl.backed, .map (some x.dm), .map (some x.em), vd] 180, mapE x.dm duesKV, blk bl [sv] 84, mapE x.em effAll, own vd 3 1 (vo.map fun i => [iv i]), er] w5 := Y.select [0, 1, 2, 3, 5, 6, 4, 7, 8, 9] (by decide)
 have Y : St M w0 [e, blk b1 [iv nw.state, iv nw.since, iv nw.next] 98, blk ws.heap.size [.func (.yield lp) #[] #[]] 203, blk bp [pq x.bm] 170, blk x.bm [iv rl.answer, iv rl.cooling, iv rl.settle, iv rl.reverse, iv cl.number, iv cl.frm, iv cl.to, iv cl.holder, iv cl.asked, .bool cl.backed, .map (some x.dm), .map (some x.em), vd] 180, mapE x.dm duesKV, join [blk bl [sv] 84, mapE x.em effAll, own vd 3 1 (vo.map fun i => [iv i]), er]] w5 := St.joinTail [e, blk b1 [iv nw.state, iv nw.since, iv nw.next] 98, blk ws.heap.size [.func (.yield lp) #[] #[]] 203, blk bp [pq x.bm] 170, blk x.bm [iv rl.answer, iv rl.cooling, iv rl.settle, iv rl.reverse, iv cl.number, iv cl.frm, iv cl.to, iv cl.holder, iv cl.asked, .bool cl.backed, .map (some x.dm), .map (some x.em), vd] 180, mapE x.dm duesKV] [blk bl [sv] 84, mapE x.em effAll, own vd 3 1 (vo.map fun i => [iv i]), er] Y
 have hdl4 : dn.length + 4 < 200 := by omega
 have hcall := jJ rl cl x vd lp b1 ws.heap.size bp J Jx hY 4611686018427387904 nw dn e _ hr hso hJ hdl4 Y
 refine wl_r (dC (cap := [pq b1, pq bp, pq ws.heap.size]) (vs := [iv 4611686018427387904]) rfl Tryz.call143 rfl hcall) rfl rfl Z fun a v w15 hR Z => ?_
 clear hcall
 obtain ⟨ya15, e1, rfl, hyt, hyf⟩ := hR
 refine ab ?_
 refine cP Z Tryz.results141 ag ?_
 have hk : k = l.length := by omega
 subst hk
 rw [List.drop_length, runE] at hsp hvo
 rw [List.append_nil] at hvo
 cases ya15 with
 | true =>
  obtain ⟨hJ, Y⟩ := hyt rfl
  have Y := St.unjoinTail [e1, blk b1 [iv ((lastOf nw (alone rl 4611686018427387904 nw)).state), iv ((lastOf nw (alone rl 4611686018427387904 nw)).since), iv ((lastOf nw (alone rl 4611686018427387904 nw)).next)] 98, blk ws.heap.size [.func (.yield lp) #[] #[]] 203, blk bp [pq x.bm] 170, blk x.bm [iv rl.answer, iv rl.cooling, iv rl.settle, iv rl.reverse, iv cl.number, iv cl.frm, iv cl.to, iv cl.holder, iv cl.asked, .bool cl.backed, .map (some x.dm), .map (some x.em), vd] 180, mapE x.dm duesKV] [blk bl [sv] 84, mapE x.em effAll, own vd 3 1 (vo.map fun i => [iv i]), er] Y
  exact ⟨_, _, Y.select [0, 3, 6, 4, 5, 7, 8, 9] (by decide), .inl ⟨_, ⟨rfl, vd, by rw [hvo]; rfl⟩, by rw [hsp]; exact hJ⟩⟩
 | false =>
  obtain ⟨p1, p2, now1, hp12, hJx, Y⟩ := hyf rfl
  have Y := St.unjoinTail [e1, blk b1 [iv now1.state, iv now1.since, iv now1.next] 98, blk ws.heap.size [.func (.yield lp) #[] #[]] 203, blk bp [pq x.bm] 170, blk x.bm [iv rl.answer, iv rl.cooling, iv rl.settle, iv rl.reverse, iv cl.number, iv cl.frm, iv cl.to, iv cl.holder, iv cl.asked, .bool cl.backed, .map (some x.dm), .map (some x.em), vd] 180, mapE x.dm duesKV] [blk bl [sv] 84, mapE x.em effAll, own vd 3 1 (vo.map fun i => [iv i]), er] Y
  exact ⟨_, _, Y.select [0, 3, 6, 4, 5, 7, 8, 9] (by decide), .inr ⟨dn ++ p1, ⟨⟨p2, by rw [hsp, hp12]; simp⟩, vd, vo, rfl⟩, hJx⟩⟩
end Go.Proofs.YtmmfieceinmloaaGreatDoor.K16
namespace Go.Proofs.YtmmfieceinmloaaGreatDoor.K16
open Go.RowKit Go.PW
set_option linter.unusedVariables false
set_option linter.unusedSimpArgs false
set_option maxRecDepth 4000
theorem dE {M : Nat → Prop} {w0 : World} {er : Ent} (rl : Rul) (cl : Clm) (x : Mach) (sv : Value) (l : List Evt) (bp bl : Nat) (hv : valid rl cl l = true) (hsv : ∀ H w, St M w0 H w → SlAt w sv 3 (l.map Evt.cells)) :
  Iter Tryz.prog 141 [pq bp, pq bl] encS NxS (fun xs Hi => xs = aT rl cl l ∧ ∃ vd, Hi = [blk bp [pq x.bm] 170, blk bl [sv] 84, blk x.bm [iv rl.answer, iv rl.cooling, iv rl.settle, iv rl.reverse, iv cl.number, iv cl.frm, iv cl.to, iv cl.holder, iv cl.asked, .bool cl.backed, .map (some x.dm), .map (some x.em), vd] 180, mapE x.dm duesKV, mapE x.em effAll, own vd 3 1 ((voids rl cl l).map fun i => [iv i]), er]) (fun pre Hi => (∃ rest, aT rl cl l = pre ++ rest) ∧ ∃ (vd : Value) (vo : List Int), Hi = [blk bp [pq x.bm] 170, blk bl [sv] 84, blk x.bm [iv rl.answer, iv rl.cooling, iv rl.settle, iv rl.reverse, iv cl.number, iv cl.frm, iv cl.to, iv cl.holder, iv cl.asked, .bool cl.backed, .map (some x.dm), .map (some x.em), vd] 180, mapE x.dm duesKV, mapE x.em effAll, own vd 3 1 (vo.map fun i => [iv i]), er]) M w0 [blk bp [pq x.bm] 170, blk bl [sv] 84, blk x.bm [iv rl.answer, iv rl.cooling, iv rl.settle, iv rl.reverse, iv cl.number, iv cl.frm, iv cl.to, iv cl.holder, iv cl.asked, .bool cl.backed, .map (some x.dm), .map (some x.em), .slice none 0 0] 180, mapE x.dm duesKV, mapE x.em effAll, own (.slice none 0 0) 3 1 (([]).map fun i => [iv i]), er] :=
 fun lp J Jx w e hY hJ Y => iM rl cl x sv l lp bp bl J Jx hY e w hv hsv hJ Y
theorem ed (bm : Nat) (sv : Value) (els : List (List Value)) (w0 : World) (hsv : SlAt w0 sv 3 els) :
  Ret Tryz.prog 112 #[pq bm, sv] w0 (MemR w0 (fun z : Nat × Nat => .func (.func 141) #[] #[pq z.1, pq z.2]) (fun z => [blk z.2 [sv] 84, blk z.1 [pq bm] 170]) (fun _ => True)) := by
 refine aD Tryz.func112 rfl Tryz.ntmps112 (lb rfl) fun a Z => ?_
 have Z : Fr 6 [(0, _), (1, _)] [] a := Z
 have Y : St No w0 [] w0 := St.init w0
 refine aa fun K1 hK1 => aN Z Y (by decide) rfl (cs := [pq bm]) rfl fun a w1 Z Y => aN Z Y (by decide) rfl (cs := [sv]) (by rw [(Y.arg hsv).cells]) fun a w2 Z Y => wla Z rfl fun a Z => ab (hK1 _ _ <| aa fun K2 hK2 => ?_)
 refine wlv Z (co rfl rfl) fun a Z => wla Z rfl fun a Z => ab (hK2 _ _ <| aq ?_)
 refine ak Z Tryz.results112 (ah rfl ag) ?_
 exact ⟨(w0.heap.size, w1.heap.size), rfl, trivial, Y.ext, St.out (H := []) Y⟩
theorem e8 (rl : Rul) (cl : Clm) (sv : Value) (l : List Evt) (t : Int) (w0 : World) (hsv : SlAt w0 sv 3 (l.map Evt.cells)) (hv : valid rl cl l = true) (hin : isIn t 0 20000000 = true) :
  Ret Tryz.prog 47 #[.agg #[iv rl.answer, iv rl.cooling, iv rl.settle, iv rl.reverse], .agg #[iv cl.number, iv cl.frm, iv cl.to, iv cl.holder, iv cl.asked, .bool cl.backed], sv, iv t] w0 fun v w => v = .tuple #[(bQ rl cl l t).val, iv 0] ∧ Ext No w0 w := by
 refine aD Tryz.func47 rfl Tryz.ntmps47 (lb rfl) fun a Z => ?_
 have Z : Fr 42 [(0, _), (1, _), (2, _), (3, _)] [] a := Z
 have Y : St No w0 [] w0 := St.init w0
 refine aa fun K1 hK1 => aN Z Y (by decide) rfl (cs := [iv rl.answer, iv rl.cooling, iv rl.settle, iv rl.reverse]) rfl fun a w1 Z Y => aN Z Y (by decide) rfl (cs := [iv cl.number, iv cl.frm, iv cl.to, iv cl.holder, iv cl.asked, .bool cl.backed]) rfl fun a w2 Z Y => aN Z Y (by decide) rfl (cs := [iv t]) rfl fun a w3 Z Y => aI Z Y (by decide) (Tryz.zeroValue98 _) (cs := [iv 0, iv 0, iv 0]) rfl fun a w4 Z Y => wla Z rfl fun a Z => ab (hK1 _ _ ?_)
 refine aa fun K2 hK2 => wlv Z (ao (Y.get (k := 3) rfl) rfl (Tryz.isAgg81 _) (Tryz.sizeOf81 _)) fun a Z => wlv Z (ao (Y.get (k := 2) rfl) rfl (Tryz.isAgg83 _) (Tryz.sizeOf83 _)) fun a Z => wlm Z rfl fun a Z => bJ Z Y (by decide) Tryz.call110 rfl (f6 rl cl sv l _ (Y.arg hsv) hv) fun a w5 x2 hp Z Y => ?_
 revert x2 hp Z Y; rintro x1 hp Z Y
 clear hp
 have Y : St No w0 [blk x1.bm [iv rl.answer, iv rl.cooling, iv rl.settle, iv rl.reverse, iv cl.number, iv cl.frm, iv cl.to, iv cl.holder, iv cl.asked, .bool cl.backed, .map (some x1.dm), .map (some x1.em), .slice none 0 0] 180, mapE x1.dm duesKV, mapE x1.em effAll, blk w3.heap.size [iv 0, iv 0, iv 0] 98, blk w2.heap.size [iv t] 3, blk w1.heap.size [iv cl.number, iv cl.frm, iv cl.to, iv cl.holder, iv cl.asked, .bool cl.backed] 83, blk w0.heap.size [iv rl.answer, iv rl.cooling, iv rl.settle, iv rl.reverse] 81] w5 := Y
 refine wlm Z rfl fun a Z => wlv Z (aA rfl rfl) fun a Z => wlv Z (aA rfl rfl) fun a Z => wla Z rfl fun a Z => wla Z rfl fun a Z => ab (hK2 _ _ ?_)
 have Z : Fr 42 [(0, _), (1, _), (2, _), (3, _), (4, _), (5, _), (7, _), (8, _), (9, _), (10, _), (11, _)] [] a := Z.pick [0, 1, 2, 3, 4, 5, 7, 8, 9, 10, 11]
 refine ai fun K3 hK3 => aa fun K4 hK4 => wlm Z rfl fun a Z => wlv Z ((v_ne rfl rfl).asb (b' := false) rfl) fun a Z => wlm Z rfl fun a Z => wly Z (ae (Y.get (k := 4) rfl) rfl (Tryz.isAgg3 _) rfl) fun a Z => aJ Z Y (by decide) rfl (by decide) rfl Tryz.call111 rfl ((hin ▸ bS _ _ _ _)) fun a w6 Z Y => wly Z ((bK rfl).asb (b' := false) rfl) fun a Z => wlv Z (au rfl rfl) fun a Z => ?_
 refine ab (hK4 _ _ ?_)
 have Z : Fr 42 [(0, _), (1, _), (2, _), (3, _), (4, _), (5, _), (7, _), (8, _), (9, _), (10, _), (11, _), (27, _)] [] a := Z.pick [0, 1, 2, 3, 4, 5, 7, 8, 9, 10, 11, 27]
 refine bj Z rfl ?_
 refine ay <| hK3 _ _ <| aa fun K5 hK5 => wlv Z (ac (v := .pointer (some ⟨w1.heap.size, 4, none⟩)) rfl (by kernel_rfl)) fun a Z => wlv Z (ae (Y.get (k := 5) rfl) rfl (Tryz.isAgg3 _) rfl) fun a Z => wlv Z (aR (v := .agg #[iv 0, iv 0, iv cl.asked]) rfl (by kernel_rfl)) fun a Z => aI Z Y (by decide) (Tryz.zeroValue98 _) (cs := [iv 0, iv 0, iv 0]) rfl fun a w7 Z Y => ?_
 refine ap 0 Z Y rfl rfl rfl (Tryz.sizeOf98 _) rfl (lb rfl) (ds := [iv 0, iv 0, iv cl.asked]) rfl rfl fun a w8 Z Y => ab (hK5 _ _ <| ai fun K6 hK6 => ?_)
 refine aa fun K7 hK7 => wlm Z rfl fun a Z => wlm Z rfl fun a Z => bJ Z Y (by decide) Tryz.call112 rfl (ed _ _ _ _ (Y.arg hsv)) fun a w9 x5 hp Z Y => ?_
 obtain ⟨bp3, bl4⟩ := x5
 clear hp
 have Y : St No w0 [blk bl4 [sv] 84, blk bp3 [pq x1.bm] 170, blk w6.heap.size [iv 0, iv 0, iv cl.asked] 98, blk x1.bm [iv rl.answer, iv rl.cooling, iv rl.settle, iv rl.reverse, iv cl.number, iv cl.frm, iv cl.to, iv cl.holder, iv cl.asked, .bool cl.backed, .map (some x1.dm), .map (some x1.em), .slice none 0 0] 180, mapE x1.dm duesKV, mapE x1.em effAll, blk w3.heap.size [iv 0, iv 0, iv 0] 98, blk w2.heap.size [iv t] 3, blk w1.heap.size [iv cl.number, iv cl.frm, iv cl.to, iv cl.holder, iv cl.asked, .bool cl.backed] 83, blk w0.heap.size [iv rl.answer, iv rl.cooling, iv rl.settle, iv rl.reverse] 81] w9 := Y
 refine ab (hK7 _ _ <| ax ?_)
 have Y : St No w0 (own (.slice none 0 0) 3 1 [] :: [blk bl4 [sv] 84, blk bp3 [pq x1.bm] 170, blk w6.heap.size [iv 0, iv 0, iv cl.asked] 98, blk x1.bm [iv rl.answer, iv rl.cooling, iv rl.settle, iv rl.reverse, iv cl.number, iv cl.frm, iv cl.to, iv cl.holder, iv cl.asked, .bool cl.backed, .map (some x1.dm), .map (some x1.em), .slice none 0 0] 180, mapE x1.dm duesKV, mapE x1.em effAll, blk w3.heap.size [iv 0, iv 0, iv 0] 98, blk w2.heap.size [iv t] 3, blk w1.heap.size [iv cl.number, iv cl.frm, iv cl.to, iv cl.holder, iv cl.asked, .bool cl.backed] 83, blk w0.heap.size [iv rl.answer, iv rl.cooling, iv rl.settle, iv rl.reverse] 81]) w9 := Y.nil_own
 have Y : St No w0 [blk w6.heap.size [iv 0, iv 0, iv cl.asked] 98, blk w2.heap.size [iv t] 3, blk bp3 [pq x1.bm] 170, blk bl4 [sv] 84, blk x1.bm [iv rl.answer, iv rl.cooling, iv rl.settle, iv rl.reverse, iv cl.number, iv cl.frm, iv cl.to, iv cl.holder, iv cl.asked, .bool cl.backed, .map (some x1.dm), .map (some x1.em), .slice none 0 0] 180, mapE x1.dm duesKV, mapE x1.em effAll, own (.slice none 0 0) 3 1 (([] : List Int).map fun i => [iv i]), blk w3.heap.size [iv 0, iv 0, iv 0] 98, blk w1.heap.size [iv cl.number, iv cl.frm, iv cl.to, iv cl.holder, iv cl.asked, .bool cl.backed] 83, blk w0.heap.size [iv rl.answer, iv rl.cooling, iv rl.settle, iv rl.reverse] 81] w9 := Y.select [3, 8, 2, 1, 4, 5, 6, 0, 7, 9, 10] (by decide)
 have Y : St No w0 [blk w6.heap.size [iv 0, iv 0, iv cl.asked] 98, blk w2.heap.size [iv t] 3, blk bp3 [pq x1.bm] 170, blk bl4 [sv] 84, blk x1.bm [iv rl.answer, iv rl.cooling, iv rl.settle, iv rl.reverse, iv cl.number, iv cl.frm, iv cl.to, iv cl.holder, iv cl.asked, .bool cl.backed, .map (some x1.dm), .map (some x1.em), .slice none 0 0] 180, mapE x1.dm duesKV, mapE x1.em effAll, own (.slice none 0 0) 3 1 (([] : List Int).map fun i => [iv i]), join [blk w3.heap.size [iv 0, iv 0, iv 0] 98, blk w1.heap.size [iv cl.number, iv cl.frm, iv cl.to, iv cl.holder, iv cl.asked, .bool cl.backed] 83, blk w0.heap.size [iv rl.answer, iv rl.cooling, iv rl.settle, iv rl.reverse] 81]] w9 := St.joinTail [blk w6.heap.size [iv 0, iv 0, iv cl.asked] 98, blk w2.heap.size [iv t] 3, blk bp3 [pq x1.bm] 170, blk bl4 [sv] 84, blk x1.bm [iv rl.answer, iv rl.cooling, iv rl.settle, iv rl.reverse, iv cl.number, iv cl.frm, iv cl.to, iv cl.holder, iv cl.asked, .bool cl.backed, .map (some x1.dm), .map (some x1.em), .slice none 0 0] 180, mapE x1.dm duesKV, mapE x1.em effAll, own (.slice none 0 0) 3 1 (([] : List Int).map fun i => [iv i])] [blk w3.heap.size [iv 0, iv 0, iv 0] 98, blk w1.heap.size [iv cl.number, iv cl.frm, iv cl.to, iv cl.holder, iv cl.asked, .bool cl.backed] 83, blk w0.heap.size [iv rl.answer, iv rl.cooling, iv rl.settle, iv rl.reverse] 81] Y
 have Y : St No w0 [blk w6.heap.size [iv ((lastOf ⟨0, 0, cl.asked⟩ ([])).state), iv ((lastOf ⟨0, 0, cl.asked⟩ ([])).since), iv ((lastOf ⟨0, 0, cl.asked⟩ ([])).next)] 98, blk w2.heap.size [iv t] 3, blk bp3 [pq x1.bm] 170, blk bl4 [sv] 84, blk x1.bm [iv rl.answer, iv rl.cooling, iv rl.settle, iv rl.reverse, iv cl.number, iv cl.frm, iv cl.to, iv cl.holder, iv cl.asked, .bool cl.backed, .map (some x1.dm), .map (some x1.em), .slice none 0 0] 180, mapE x1.dm duesKV, mapE x1.em effAll, own (.slice none 0 0) 3 1 (([] : List Int).map fun i => [iv i]), join [blk w3.heap.size [iv 0, iv 0, iv 0] 98, blk w1.heap.size [iv cl.number, iv cl.frm, iv cl.to, iv cl.holder, iv cl.asked, .bool cl.backed] 83, blk w0.heap.size [iv rl.answer, iv rl.cooling, iv rl.settle, iv rl.reverse] 81]] w9 := Y.select [0, 1, 2, 3, 4, 5, 6, 7, 8] (by decide)
 have Z : Fr 42 [(0, .agg #[iv rl.answer, iv rl.cooling, iv rl.settle, iv rl.reverse]), (1, .agg #[iv cl.number, iv cl.frm, iv cl.to, iv cl.holder, iv cl.asked, .bool cl.backed]), (2, sv), (3, iv t), (4, pq w0.heap.size), (5, pq w1.heap.size), (7, pq w2.heap.size), (8, pq w3.heap.size), (9, iv 0), (10, pq x1.bm), (11, iv 0), (27, .bool false), (29, .pointer (some ⟨w1.heap.size, 4, none⟩)), (30, iv cl.asked), (31, .agg #[iv 0, iv 0, iv cl.asked]), (12, pq w6.heap.size), (32, pq x1.bm), (33, sv), (34, .func (.func 141) #[] #[pq bp3, pq bl4])] [] a := Z.pick [0, 1, 2, 3, 4, 5, 7, 8, 9, 10, 11, 27, 29, 30, 31, 12, 32, 33, 34]
 refine dH (M := No) (w0 := w0) (encs := encS) (Hi := [blk bp3 [pq x1.bm] 170, blk bl4 [sv] 84, blk x1.bm [iv rl.answer, iv rl.cooling, iv rl.settle, iv rl.reverse, iv cl.number, iv cl.frm, iv cl.to, iv cl.holder, iv cl.asked, .bool cl.backed, .map (some x1.dm), .map (some x1.em), .slice none 0 0] 180, mapE x1.dm duesKV, mapE x1.em effAll, own (.slice none 0 0) 3 1 (([] : List Int).map fun i => [iv i]), join [blk w3.heap.size [iv 0, iv 0, iv 0] 98, blk w1.heap.size [iv cl.number, iv cl.frm, iv cl.to, iv cl.holder, iv cl.asked, .bool cl.backed] 83, blk w0.heap.size [iv rl.answer, iv rl.cooling, iv rl.settle, iv rl.reverse] 81]]) (Hc := [blk w6.heap.size [iv ((lastOf ⟨0, 0, cl.asked⟩ ([])).state), iv ((lastOf ⟨0, 0, cl.asked⟩ ([])).since), iv ((lastOf ⟨0, 0, cl.asked⟩ ([])).next)] 98, blk w2.heap.size [iv t] 3]) (fun pre H => (∀ s ∈ pre, s.since ≤ t) ∧ H = [blk w6.heap.size [iv ((lastOf ⟨0, 0, cl.asked⟩ pre).state), iv ((lastOf ⟨0, 0, cl.asked⟩ pre).since), iv ((lastOf ⟨0, 0, cl.asked⟩ pre).next)] 98, blk w2.heap.size [iv t] 3]) (fun c pre H => c = .exit 0 ∧ ∃ (pp : List Stt), ∃ (xx : Stt), (pre = pp ++ [xx]) ∧ (∀ s ∈ pp, s.since ≤ t) ∧ (t < xx.since) ∧ H = [blk w6.heap.size [iv ((lastOf ⟨0, 0, cl.asked⟩ pp).state), iv ((lastOf ⟨0, 0, cl.asked⟩ pp).since), iv ((lastOf ⟨0, 0, cl.asked⟩ pp).next)] 98, blk w2.heap.size [iv t] 3]) (fun pre xs H a => ∃ (bA0 : Nat), Fr 42 [(0, .agg #[iv rl.answer, iv rl.cooling, iv rl.settle, iv rl.reverse]), (1, .agg #[iv cl.number, iv cl.frm, iv cl.to, iv cl.holder, iv cl.asked, .bool cl.backed]), (2, sv), (3, iv t), (4, pq w0.heap.size), (5, pq w1.heap.size), (7, pq w2.heap.size), (8, pq w3.heap.size), (9, iv 0), (10, pq x1.bm), (11, iv 0), (27, .bool false), (29, .pointer (some ⟨w1.heap.size, 4, none⟩)), (30, iv cl.asked), (31, .agg #[iv 0, iv 0, iv cl.asked]), (12, pq w6.heap.size), (32, pq x1.bm), (33, sv), (34, .func (.func 141) #[] #[pq bp3, pq bl4]), (13, pq bA0)] [] a ∧ (∀ s ∈ pre, s.since ≤ t) ∧ H = [blk bA0 [iv xs.state, iv xs.since, iv xs.next] 98, blk w6.heap.size [iv ((lastOf ⟨0, 0, cl.asked⟩ pre).state), iv ((lastOf ⟨0, 0, cl.asked⟩ pre).since), iv ((lastOf ⟨0, 0, cl.asked⟩ pre).next)] 98, blk w2.heap.size [iv t] 3]) rfl Tryz.call141 Z Y (dE rl cl x1 sv l bp3 bl4 hv (fun H w h => h.arg hsv)) (by decide) (fun _ => rfl) ⟨(by simp), rfl⟩ ?_ ?_ ?_ ?_
 ·rintro lp pre xs _ a w10 hnx ⟨hle, rfl⟩ Z Y
  generalize (join [blk w6.heap.size [iv ((lastOf ⟨0, 0, cl.asked⟩ pre).state), iv ((lastOf ⟨0, 0, cl.asked⟩ pre).since), iv ((lastOf ⟨0, 0, cl.asked⟩ pre).next)] 98, blk w2.heap.size [iv t] 3]).foot = M1 at Y ⊢
  have Z : Fr 42 [(35, .agg #[iv xs.state, iv xs.since, iv xs.next]), (0, .agg #[iv rl.answer, iv rl.cooling, iv rl.settle, iv rl.reverse]), (1, .agg #[iv cl.number, iv cl.frm, iv cl.to, iv cl.holder, iv cl.asked, .bool cl.backed]), (2, sv), (3, iv t), (4, pq w0.heap.size), (5, pq w1.heap.size), (7, pq w2.heap.size), (8, pq w3.heap.size), (9, iv 0), (10, pq x1.bm), (11, iv 0), (27, .bool false), (29, .pointer (some ⟨w1.heap.size, 4, none⟩)), (30, iv cl.asked), (31, .agg #[iv 0, iv 0, iv cl.asked]), (12, pq w6.heap.size), (32, pq x1.bm), (33, sv), (34, .func (.func 141) #[] #[pq bp3, pq bl4])] [] a := Z
  refine ar <| aI Z Y (by decide) (Tryz.zeroValue98 _) (cs := [iv 0, iv 0, iv 0]) rfl fun a w11 Z Y => ap 0 Z Y rfl rfl rfl (Tryz.sizeOf98 _) rfl (lb rfl) (ds := [iv xs.state, iv xs.since, iv xs.next]) rfl rfl fun a w12 Z Y => ab ?_
  exact ⟨_, ⟨w10.heap.size, Z.pick [0, 1, 2, 3, 4, 5, 7, 8, 9, 10, 11, 27, 29, 30, 31, 12, 32, 33, 34, 13], hle, rfl⟩, Y⟩
 ·rintro lp pre xs _ a w13 hnx ⟨bA0, Z, hle, rfl⟩ hout hrec hnl Y
  clear hrec hnl
  generalize (join [blk bA0 [iv xs.state, iv xs.since, iv xs.next] 98, blk w6.heap.size [iv ((lastOf ⟨0, 0, cl.asked⟩ pre).state), iv ((lastOf ⟨0, 0, cl.asked⟩ pre).since), iv ((lastOf ⟨0, 0, cl.asked⟩ pre).next)] 98, blk w2.heap.size [iv t] 3]).foot = M1 at Y hout ⊢
  refine ax <| ai fun K8 hK8 => aa fun K9 hK9 => wlv Z (ac (v := .pointer (some ⟨bA0, 1, none⟩)) rfl (by kernel_rfl)) fun a Z => wlv Z (ae (Y.get (k := 0) rfl) rfl (Tryz.isAgg3 _) rfl) fun a Z => wlv Z (ae (Y.get (k := 2) rfl) rfl (Tryz.isAgg3 _) rfl) fun a Z => wlv Z (v_gt rfl rfl) fun a Z => ?_
  refine ab (hK9 _ _ ?_)
  refine aB Z rfl (fun hc6 => ?_) (fun hc6 => ?_)
  ·rw [hc6] at Z
   try simp only [qz] at hc6
   refine aS ?_
   exact ⟨_, ⟨rfl, pre, xs, rfl, hle, (by omega), rfl⟩, Y.select [1, 2] (by decide)⟩
  rw [hc6] at Z
  try simp only [qz] at hc6
  refine ay <| hK8 _ _ <| ar <| wlv Z (ao (Y.get (k := 0) rfl) rfl (Tryz.isAgg98 _) (Tryz.sizeOf98 _)) fun a Z => ap 1 Z Y rfl rfl rfl (Tryz.sizeOf98 _) rfl (lb rfl) (ds := [iv xs.state, iv xs.since, iv xs.next]) rfl rfl fun a w14 Z Y => ab ?_
  rw [← j4 ⟨0, 0, cl.asked⟩ xs pre] at Y
  exact ⟨_, ⟨(by intro s hs; rcases List.mem_append.1 hs with h | h; exact hle s h; simp at h; subst h; omega), rfl⟩, Y.select [1, 2] (by decide)⟩
 ·rintro D pre _ _ a w15 ⟨rfl, vd, rfl⟩ ⟨hle, rfl⟩ Y Z
  have Z : Fr 42 [(0, .agg #[iv rl.answer, iv rl.cooling, iv rl.settle, iv rl.reverse]), (1, .agg #[iv cl.number, iv cl.frm, iv cl.to, iv cl.holder, iv cl.asked, .bool cl.backed]), (2, sv), (3, iv t), (4, pq w0.heap.size), (5, pq w1.heap.size), (7, pq w2.heap.size), (8, pq w3.heap.size), (9, iv 0), (10, pq x1.bm), (11, iv 0), (27, .bool false), (29, .pointer (some ⟨w1.heap.size, 4, none⟩)), (30, iv cl.asked), (31, .agg #[iv 0, iv 0, iv cl.asked]), (12, pq w6.heap.size), (32, pq x1.bm), (33, sv), (34, .func (.func 141) #[] #[pq bp3, pq bl4])] [{ target := .collected D, args := #[] }] a := Z
  have Y : St No w0 [obj D (.deferred (some [])), blk w6.heap.size [iv ((lastOf ⟨0, 0, cl.asked⟩ (aT rl cl l)).state), iv ((lastOf ⟨0, 0, cl.asked⟩ (aT rl cl l)).since), iv ((lastOf ⟨0, 0, cl.asked⟩ (aT rl cl l)).next)] 98, blk w2.heap.size [iv t] 3, blk bp3 [pq x1.bm] 170, blk bl4 [sv] 84, blk x1.bm [iv rl.answer, iv rl.cooling, iv rl.settle, iv rl.reverse, iv cl.number, iv cl.frm, iv cl.to, iv cl.holder, iv cl.asked, .bool cl.backed, .map (some x1.dm), .map (some x1.em), vd] 180, mapE x1.dm duesKV, mapE x1.em effAll, own vd 3 1 ((voids rl cl l).map fun i => [iv i]), join [blk w3.heap.size [iv 0, iv 0, iv 0] 98, blk w1.heap.size [iv cl.number, iv cl.frm, iv cl.to, iv cl.holder, iv cl.asked, .bool cl.backed] 83, blk w0.heap.size [iv rl.answer, iv rl.cooling, iv rl.settle, iv rl.reverse] 81]] w15 := Y
  have Y : St No w0 [obj D (.deferred (some [])), blk w6.heap.size [iv ((lastOf ⟨0, 0, cl.asked⟩ (aT rl cl l)).state), iv ((lastOf ⟨0, 0, cl.asked⟩ (aT rl cl l)).since), iv ((lastOf ⟨0, 0, cl.asked⟩ (aT rl cl l)).next)] 98, blk w2.heap.size [iv t] 3, blk bp3 [pq x1.bm] 170, blk bl4 [sv] 84, blk x1.bm [iv rl.answer, iv rl.cooling, iv rl.settle, iv rl.reverse, iv cl.number, iv cl.frm, iv cl.to, iv cl.holder, iv cl.asked, .bool cl.backed, .map (some x1.dm), .map (some x1.em), vd] 180, mapE x1.dm duesKV, mapE x1.em effAll, own vd 3 1 ((voids rl cl l).map fun i => [iv i]), blk w3.heap.size [iv 0, iv 0, iv 0] 98, blk w1.heap.size [iv cl.number, iv cl.frm, iv cl.to, iv cl.holder, iv cl.asked, .bool cl.backed] 83, blk w0.heap.size [iv rl.answer, iv rl.cooling, iv rl.settle, iv rl.reverse] 81] w15 := St.unjoinTail [obj D (.deferred (some [])), blk w6.heap.size [iv ((lastOf ⟨0, 0, cl.asked⟩ (aT rl cl l)).state), iv ((lastOf ⟨0, 0, cl.asked⟩ (aT rl cl l)).since), iv ((lastOf ⟨0, 0, cl.asked⟩ (aT rl cl l)).next)] 98, blk w2.heap.size [iv t] 3, blk bp3 [pq x1.bm] 170, blk bl4 [sv] 84, blk x1.bm [iv rl.answer, iv rl.cooling, iv rl.settle, iv rl.reverse, iv cl.number, iv cl.frm, iv cl.to, iv cl.holder, iv cl.asked, .bool cl.backed, .map (some x1.dm), .map (some x1.em), vd] 180, mapE x1.dm duesKV, mapE x1.em effAll, own vd 3 1 ((voids rl cl l).map fun i => [iv i])] [blk w3.heap.size [iv 0, iv 0, iv 0] 98, blk w1.heap.size [iv cl.number, iv cl.frm, iv cl.to, iv cl.holder, iv cl.asked, .bool cl.backed] 83, blk w0.heap.size [iv rl.answer, iv rl.cooling, iv rl.settle, iv rl.reverse] 81] Y
  refine hK6 _ _ <| aa fun K10 hK10 => wlv Z (ao (Y.get (k := 1) rfl) rfl (Tryz.isAgg98 _) (Tryz.sizeOf98 _)) fun a Z => ap 9 Z Y rfl rfl rfl (Tryz.sizeOf98 _) rfl (lb rfl) (ds := [iv ((lastOf ⟨0, 0, cl.asked⟩ (aT rl cl l)).state), iv ((lastOf ⟨0, 0, cl.asked⟩ (aT rl cl l)).since), iv ((lastOf ⟨0, 0, cl.asked⟩ (aT rl cl l)).next)]) rfl rfl fun a w16 Z Y => wla Z rfl fun a Z => ab (hK10 _ _ <| aq ?_)
  have hD := Y.get (k := 0) rfl
  have Y := Y.unmark (i := 0) (o' := .deferred none) rfl
  have Y : St No w0 [blk w6.heap.size [iv ((lastOf ⟨0, 0, cl.asked⟩ (aT rl cl l)).state), iv ((lastOf ⟨0, 0, cl.asked⟩ (aT rl cl l)).since), iv ((lastOf ⟨0, 0, cl.asked⟩ (aT rl cl l)).next)] 98, blk w2.heap.size [iv t] 3, blk bp3 [pq x1.bm] 170, blk bl4 [sv] 84, blk x1.bm [iv rl.answer, iv rl.cooling, iv rl.settle, iv rl.reverse, iv cl.number, iv cl.frm, iv cl.to, iv cl.holder, iv cl.asked, .bool cl.backed, .map (some x1.dm), .map (some x1.em), vd] 180, mapE x1.dm duesKV, mapE x1.em effAll, own vd 3 1 ((voids rl cl l).map fun i => [iv i]), blk w3.heap.size [iv ((lastOf ⟨0, 0, cl.asked⟩ (aT rl cl l)).state), iv ((lastOf ⟨0, 0, cl.asked⟩ (aT rl cl l)).since), iv ((lastOf ⟨0, 0, cl.asked⟩ (aT rl cl l)).next)] 98, blk w1.heap.size [iv cl.number, iv cl.frm, iv cl.to, iv cl.holder, iv cl.asked, .bool cl.backed] 83, blk w0.heap.size [iv rl.answer, iv rl.cooling, iv rl.settle, iv rl.reverse] 81] _ := Y
  refine ch Z hD Tryz.results47 (aE rfl (bW (Y.get (k := 8) rfl) (Tryz.isAgg98 _) (Tryz.sizeOf98 _)) (ah rfl ag)) ?_
  exact ⟨by simp only [retv]; rw [iD hle]; rfl, Y.ext⟩
 ·rintro D _ pre _ _ a w17 ⟨⟨rest, hrest⟩, vd, vo, rfl⟩ ⟨rfl, pp, xx, hpp, hle, hxx, rfl⟩ Y Z
  have Z : Fr 42 [(0, .agg #[iv rl.answer, iv rl.cooling, iv rl.settle, iv rl.reverse]), (1, .agg #[iv cl.number, iv cl.frm, iv cl.to, iv cl.holder, iv cl.asked, .bool cl.backed]), (2, sv), (3, iv t), (4, pq w0.heap.size), (5, pq w1.heap.size), (7, pq w2.heap.size), (8, pq w3.heap.size), (9, iv 0), (10, pq x1.bm), (11, iv 0), (27, .bool false), (29, .pointer (some ⟨w1.heap.size, 4, none⟩)), (30, iv cl.asked), (31, .agg #[iv 0, iv 0, iv cl.asked]), (12, pq w6.heap.size), (32, pq x1.bm), (33, sv), (34, .func (.func 141) #[] #[pq bp3, pq bl4])] [{ target := .collected D, args := #[] }] a := Z
  have Y : St No w0 [obj D (.deferred (some [])), blk w6.heap.size [iv ((lastOf ⟨0, 0, cl.asked⟩ pp).state), iv ((lastOf ⟨0, 0, cl.asked⟩ pp).since), iv ((lastOf ⟨0, 0, cl.asked⟩ pp).next)] 98, blk w2.heap.size [iv t] 3, blk bp3 [pq x1.bm] 170, blk bl4 [sv] 84, blk x1.bm [iv rl.answer, iv rl.cooling, iv rl.settle, iv rl.reverse, iv cl.number, iv cl.frm, iv cl.to, iv cl.holder, iv cl.asked, .bool cl.backed, .map (some x1.dm), .map (some x1.em), vd] 180, mapE x1.dm duesKV, mapE x1.em effAll, own vd 3 1 (vo.map fun i => [iv i]), join [blk w3.heap.size [iv 0, iv 0, iv 0] 98, blk w1.heap.size [iv cl.number, iv cl.frm, iv cl.to, iv cl.holder, iv cl.asked, .bool cl.backed] 83, blk w0.heap.size [iv rl.answer, iv rl.cooling, iv rl.settle, iv rl.reverse] 81]] w17 := Y
  have Y : St No w0 [obj D (.deferred (some [])), blk w6.heap.size [iv ((lastOf ⟨0, 0, cl.asked⟩ pp).state), iv ((lastOf ⟨0, 0, cl.asked⟩ pp).since), iv ((lastOf ⟨0, 0, cl.asked⟩ pp).next)] 98, blk w2.heap.size [iv t] 3, blk bp3 [pq x1.bm] 170, blk bl4 [sv] 84, blk x1.bm [iv rl.answer, iv rl.cooling, iv rl.settle, iv rl.reverse, iv cl.number, iv cl.frm, iv cl.to, iv cl.holder, iv cl.asked, .bool cl.backed, .map (some x1.dm), .map (some x1.em), vd] 180, mapE x1.dm duesKV, mapE x1.em effAll, own vd 3 1 (vo.map fun i => [iv i]), blk w3.heap.size [iv 0, iv 0, iv 0] 98, blk w1.heap.size [iv cl.number, iv cl.frm, iv cl.to, iv cl.holder, iv cl.asked, .bool cl.backed] 83, blk w0.heap.size [iv rl.answer, iv rl.cooling, iv rl.settle, iv rl.reverse] 81] w17 := St.unjoinTail [obj D (.deferred (some [])), blk w6.heap.size [iv ((lastOf ⟨0, 0, cl.asked⟩ pp).state), iv ((lastOf ⟨0, 0, cl.asked⟩ pp).since), iv ((lastOf ⟨0, 0, cl.asked⟩ pp).next)] 98, blk w2.heap.size [iv t] 3, blk bp3 [pq x1.bm] 170, blk bl4 [sv] 84, blk x1.bm [iv rl.answer, iv rl.cooling, iv rl.settle, iv rl.reverse, iv cl.number, iv cl.frm, iv cl.to, iv cl.holder, iv cl.asked, .bool cl.backed, .map (some x1.dm), .map (some x1.em), vd] 180, mapE x1.dm duesKV, mapE x1.em effAll, own vd 3 1 (vo.map fun i => [iv i])] [blk w3.heap.size [iv 0, iv 0, iv 0] 98, blk w1.heap.size [iv cl.number, iv cl.frm, iv cl.to, iv cl.holder, iv cl.asked, .bool cl.backed] 83, blk w0.heap.size [iv rl.answer, iv rl.cooling, iv rl.settle, iv rl.reverse] 81] Y
  refine aS <| hK6 _ _ <| aa fun K11 hK11 => wlv Z (ao (Y.get (k := 1) rfl) rfl (Tryz.isAgg98 _) (Tryz.sizeOf98 _)) fun a Z => ap 9 Z Y rfl rfl rfl (Tryz.sizeOf98 _) rfl (lb rfl) (ds := [iv ((lastOf ⟨0, 0, cl.asked⟩ pp).state), iv ((lastOf ⟨0, 0, cl.asked⟩ pp).since), iv ((lastOf ⟨0, 0, cl.asked⟩ pp).next)]) rfl rfl fun a w18 Z Y => wla Z rfl fun a Z => ab (hK11 _ _ ?_)
  refine aq ?_
  have hD := Y.get (k := 0) rfl
  have Y := Y.unmark (i := 0) (o' := .deferred none) rfl
  have Y : St No w0 [blk w6.heap.size [iv ((lastOf ⟨0, 0, cl.asked⟩ pp).state), iv ((lastOf ⟨0, 0, cl.asked⟩ pp).since), iv ((lastOf ⟨0, 0, cl.asked⟩ pp).next)] 98, blk w2.heap.size [iv t] 3, blk bp3 [pq x1.bm] 170, blk bl4 [sv] 84, blk x1.bm [iv rl.answer, iv rl.cooling, iv rl.settle, iv rl.reverse, iv cl.number, iv cl.frm, iv cl.to, iv cl.holder, iv cl.asked, .bool cl.backed, .map (some x1.dm), .map (some x1.em), vd] 180, mapE x1.dm duesKV, mapE x1.em effAll, own vd 3 1 (vo.map fun i => [iv i]), blk w3.heap.size [iv ((lastOf ⟨0, 0, cl.asked⟩ pp).state), iv ((lastOf ⟨0, 0, cl.asked⟩ pp).since), iv ((lastOf ⟨0, 0, cl.asked⟩ pp).next)] 98, blk w1.heap.size [iv cl.number, iv cl.frm, iv cl.to, iv cl.holder, iv cl.asked, .bool cl.backed] 83, blk w0.heap.size [iv rl.answer, iv rl.cooling, iv rl.settle, iv rl.reverse] 81] _ := Y
  refine ch Z hD Tryz.results47 (aE rfl (bW (Y.get (k := 8) rfl) (Tryz.isAgg98 _) (Tryz.sizeOf98 _)) (ah rfl ag)) ?_
  exact ⟨by simp only [retv]; rw [i3 (by rw [hrest, hpp]) hle hxx]; rfl, Y.ext⟩
theorem kn (rl : Rul) (cl : Clm) (sv : Value) (l : List Evt) (t : Int) (w0 : World) (hsv : SlAt w0 sv 3 (l.map Evt.cells)) (hv : valid rl cl l = true) (hin : isIn t 0 20000000 = false) :
  Ret Tryz.prog 47 #[.agg #[iv rl.answer, iv rl.cooling, iv rl.settle, iv rl.reverse], .agg #[iv cl.number, iv cl.frm, iv cl.to, iv cl.holder, iv cl.asked, .bool cl.backed], sv, iv t] w0 fun v w => v = .tuple #[.agg #[iv 0, iv 0, iv 0], iv 160] ∧ Ext No w0 w := by
 refine aD Tryz.func47 rfl Tryz.ntmps47 (lb rfl) fun a Z => ?_
 have Z : Fr 42 [(0, _), (1, _), (2, _), (3, _)] [] a := Z
 have Y : St No w0 [] w0 := St.init w0
 refine aa fun K1 hK1 => aN Z Y (by decide) rfl (cs := [iv rl.answer, iv rl.cooling, iv rl.settle, iv rl.reverse]) rfl fun a w1 Z Y => aN Z Y (by decide) rfl (cs := [iv cl.number, iv cl.frm, iv cl.to, iv cl.holder, iv cl.asked, .bool cl.backed]) rfl fun a w2 Z Y => aN Z Y (by decide) rfl (cs := [iv t]) rfl fun a w3 Z Y => aI Z Y (by decide) (Tryz.zeroValue98 _) (cs := [iv 0, iv 0, iv 0]) rfl fun a w4 Z Y => wla Z rfl fun a Z => ab (hK1 _ _ ?_)
 refine aa fun K2 hK2 => wlv Z (ao (Y.get (k := 3) rfl) rfl (Tryz.isAgg81 _) (Tryz.sizeOf81 _)) fun a Z => wlv Z (ao (Y.get (k := 2) rfl) rfl (Tryz.isAgg83 _) (Tryz.sizeOf83 _)) fun a Z => wlm Z rfl fun a Z => bJ Z Y (by decide) Tryz.call110 rfl (f6 rl cl sv l _ (Y.arg hsv) hv) fun a w5 x2 hp Z Y => ?_
 revert x2 hp Z Y; rintro x1 hp Z Y
 clear hp
 have Y : St No w0 [blk x1.bm [iv rl.answer, iv rl.cooling, iv rl.settle, iv rl.reverse, iv cl.number, iv cl.frm, iv cl.to, iv cl.holder, iv cl.asked, .bool cl.backed, .map (some x1.dm), .map (some x1.em), .slice none 0 0] 180, mapE x1.dm duesKV, mapE x1.em effAll, blk w3.heap.size [iv 0, iv 0, iv 0] 98, blk w2.heap.size [iv t] 3, blk w1.heap.size [iv cl.number, iv cl.frm, iv cl.to, iv cl.holder, iv cl.asked, .bool cl.backed] 83, blk w0.heap.size [iv rl.answer, iv rl.cooling, iv rl.settle, iv rl.reverse] 81] w5 := Y
 refine wlm Z rfl fun a Z => wlv Z (aA rfl rfl) fun a Z => wlv Z (aA rfl rfl) fun a Z => wla Z rfl fun a Z => wla Z rfl fun a Z => ab (hK2 _ _ ?_)
 have Z : Fr 42 [(0, _), (1, _), (2, _), (3, _), (4, _), (5, _), (7, _), (8, _), (9, _), (10, _), (11, _)] [] a := Z.pick [0, 1, 2, 3, 4, 5, 7, 8, 9, 10, 11]
 refine ai fun K3 hK3 => aa fun K4 hK4 => wlm Z rfl fun a Z => wlv Z ((v_ne rfl rfl).asb (b' := false) rfl) fun a Z => wlm Z rfl fun a Z => wly Z (ae (Y.get (k := 4) rfl) rfl (Tryz.isAgg3 _) rfl) fun a Z => aJ Z Y (by decide) rfl (by decide) rfl Tryz.call111 rfl ((hin ▸ bS _ _ _ _)) fun a w6 Z Y => wly Z ((bK rfl).asb (b' := true) rfl) fun a Z => wlv Z (au rfl rfl) fun a Z => ?_
 refine ab (hK4 _ _ ?_)
 have Z : Fr 42 [(0, _), (1, _), (2, _), (3, _), (4, _), (5, _), (7, _), (8, _), (9, _), (10, _), (11, _), (27, _)] [] a := Z.pick [0, 1, 2, 3, 4, 5, 7, 8, 9, 10, 11, 27]
 refine aX Z rfl ?_
 refine aa fun K5 hK5 => wlv Z (aR (v := .agg #[iv 0, iv 0, iv 0]) rfl (by kernel_rfl)) fun a Z => ap 3 Z Y rfl rfl rfl (Tryz.sizeOf98 _) rfl (lb rfl) (ds := [iv 0, iv 0, iv 0]) rfl rfl fun a w7 Z Y => wla Z rfl fun a Z => ab (hK5 _ _ <| aq ?_)
 refine ak Z Tryz.results47 (aE rfl (bW (Y.get (k := 3) rfl) (Tryz.isAgg98 _) (Tryz.sizeOf98 _)) (ah rfl ag)) ?_
 exact ⟨rfl, Y.ext⟩
end Go.Proofs.YtmmfieceinmloaaGreatDoor.K16
namespace Go.Proofs.YtmmfieceinmloaaGreatDoor.K16
open Go.RowKit Go.PW
set_option linter.unusedVariables false
set_option linter.unusedSimpArgs false
set_option maxRecDepth 4000
theorem k6 (rl : Rul) (cl : Clm) (sv : Value) (l : List Evt) (t : Int) (w0 : World) (hsv : SlAt w0 sv 3 (l.map Evt.cells)) (hv : valid rl cl l = true) (hin : isIn t 0 20000000 = true) :
  Ret Tryz.prog 97 #[.agg #[iv rl.answer, iv rl.cooling, iv rl.settle, iv rl.reverse], .agg #[iv cl.number, iv cl.frm, iv cl.to, iv cl.holder, iv cl.asked, .bool cl.backed], sv, iv t] w0 fun v w => v = .tuple #[iv (withAt rl cl l t), iv 0] ∧ Ext No w0 w := by
 refine aD Tryz.func97 rfl Tryz.ntmps97 (lb rfl) fun a Z => ?_
 have Z : Fr 37 [(0, _), (1, _), (2, _), (3, _)] [] a := Z
 have Y : St No w0 [] w0 := St.init w0
 refine aa fun K1 hK1 => aN Z Y (by decide) rfl (cs := [iv rl.answer, iv rl.cooling, iv rl.settle, iv rl.reverse]) rfl fun a w1 Z Y => aN Z Y (by decide) rfl (cs := [iv cl.number, iv cl.frm, iv cl.to, iv cl.holder, iv cl.asked, .bool cl.backed]) rfl fun a w2 Z Y => wla Z rfl fun a Z => wla Z rfl fun a Z => ab (hK1 _ _ <| aa fun K2 hK2 => ?_)
 refine wlv Z (ao (Y.get (k := 1) rfl) rfl (Tryz.isAgg81 _) (Tryz.sizeOf81 _)) fun a Z => wlv Z (ao (Y.get (k := 0) rfl) rfl (Tryz.isAgg83 _) (Tryz.sizeOf83 _)) fun a Z => wlm Z rfl fun a Z => wlm Z rfl fun a Z => az Z Y (by decide) Tryz.call47 rfl (e8 rl cl sv l t _ (Y.arg hsv) hv hin) fun a w3 Z Y => wlm Z rfl fun a Z => wlv Z (aA rfl rfl) fun a Z => wlv Z (aA rfl rfl) fun a Z => aI Z Y (by decide) (Tryz.zeroValue98 _) (cs := [iv 0, iv 0, iv 0]) rfl fun a w4 Z Y => ?_
 refine ap 0 Z Y rfl rfl rfl (Tryz.sizeOf98 _) rfl (lb rfl) (ds := [iv ((bQ rl cl l t).state), iv ((bQ rl cl l t).since), iv ((bQ rl cl l t).next)]) rfl rfl fun a w5 Z Y => wla Z rfl fun a Z => ab (hK2 _ _ ?_)
 have Z : Fr 37 [(0, _), (1, _), (2, _), (3, _), (4, _), (5, _), (8, _), (9, _), (10, _), (11, _)] [] a := Z.pick [0, 1, 2, 3, 4, 5, 8, 9, 10, 11]
 refine ai fun K3 hK3 => ax <| aa fun K4 hK4 => wlm Z rfl fun a Z => wlv Z ((v_ne rfl rfl).asb (b' := false) rfl) fun a Z => wla Z rfl fun a Z => ab (hK4 _ _ <| bj Z rfl ?_)
 refine aa fun K5 hK5 => wlv Z (ac (v := pq w3.heap.size) rfl (by kernel_rfl)) fun a Z => wlv Z (ae (Y.get (k := 0) rfl) rfl (Tryz.isAgg3 _) rfl) fun a Z => wlv Z (v_eq rfl rfl) fun a Z => wlm Z rfl fun a Z => ?_
 rcases Bool.eq_false_or_eq_true (decide ((bQ rl cl l t).state = 4)) with hb1 | hb1
 ·rw [hb1] at Z
  try simp only [qz] at hb1
  refine wln Z fun a Z => wln Z fun a Z => wln Z fun a Z => wlv Z (aw rfl rfl) fun a Z => wla Z rfl fun a Z => ab (hK5 _ _ ?_)
  have Z : Fr 37 [(0, _), (1, _), (2, _), (3, _), (4, _), (5, _), (8, _), (9, _), (10, _), (11, _), (21, _), (22, _), (20, _), (24, _)] [] a := Z.pick [0, 1, 2, 3, 4, 5, 8, 9, 10, 11, 21, 22, 20, 24]
  refine aX Z rfl ?_
  refine aa fun K6 hK6 => wlv Z (ac (v := .pointer (some ⟨w1.heap.size, 2, none⟩)) rfl (by kernel_rfl)) fun a Z => wlv Z (ae (Y.get (k := 1) rfl) rfl (Tryz.isAgg3 _) rfl) fun a Z => wla Z rfl fun a Z => wla Z rfl fun a Z => ab (hK6 _ _ <| aq ?_)
  refine ak Z Tryz.results97 (ah rfl (ah rfl ag)) ?_
  exact ⟨by simp only [retv, withAt]; simp [*], Y.ext⟩
 rw [hb1] at Z
 try simp only [qz] at hb1
 refine wly Z (ac (v := pq w3.heap.size) rfl (by kernel_rfl)) fun a Z => wly Z (ae (Y.get (k := 0) rfl) rfl (Tryz.isAgg3 _) rfl) fun a Z => wly Z (v_eq rfl rfl) fun a Z => wlv Z (au rfl rfl) fun a Z => wla Z rfl fun a Z => ab (hK5 _ _ ?_)
 have Z : Fr 37 [(0, _), (1, _), (2, _), (3, _), (4, _), (5, _), (8, _), (9, _), (10, _), (11, _), (21, _), (22, _), (20, _), (24, _)] [] a := Z.pick [0, 1, 2, 3, 4, 5, 8, 9, 10, 11, 21, 22, 20, 24]
 refine aB Z rfl (fun hc2 => ?_) (fun hc2 => ?_)
 ·rw [hc2] at Z
  try simp only [qz] at hc2
  refine aa fun K7 hK7 => wlv Z (ac (v := .pointer (some ⟨w1.heap.size, 2, none⟩)) rfl (by kernel_rfl)) fun a Z => wlv Z (ae (Y.get (k := 1) rfl) rfl (Tryz.isAgg3 _) rfl) fun a Z => wla Z rfl fun a Z => wla Z rfl fun a Z => ab (hK7 _ _ <| aq ?_)
  refine ak Z Tryz.results97 (ah rfl (ah rfl ag)) ?_
  exact ⟨by simp only [retv, withAt]; simp [*], Y.ext⟩
 rw [hc2] at Z
 try simp only [qz] at hc2
 refine ay <| hK3 _ _ <| aa fun K8 hK8 => wlv Z (ac (v := .pointer (some ⟨w1.heap.size, 1, none⟩)) rfl (by kernel_rfl)) fun a Z => wlv Z (ae (Y.get (k := 1) rfl) rfl (Tryz.isAgg3 _) rfl) fun a Z => wla Z rfl fun a Z => wla Z rfl fun a Z => ab (hK8 _ _ <| aq ?_)
 refine ak Z Tryz.results97 (ah rfl (ah rfl ag)) ?_
 exact ⟨by simp only [retv, withAt]; simp [*], Y.ext⟩
theorem iC (rl : Rul) (cl : Clm) (sv : Value) (l : List Evt) (w0 : World) (hsv : SlAt w0 sv 3 (l.map Evt.cells)) (hv : valid rl cl l = true) :
  Ret Tryz.prog 48 #[.agg #[iv rl.answer, iv rl.cooling, iv rl.settle, iv rl.reverse], .agg #[iv cl.number, iv cl.frm, iv cl.to, iv cl.holder, iv cl.asked, .bool cl.backed], sv] w0 (MemR w0 (fun v : Value => .tuple #[v, iv 0]) (fun v => [own v 3 1 ((voids rl cl l).map fun i => [iv i])]) (fun _ => True)) := by
 refine aD Tryz.func48 rfl Tryz.ntmps48 (lb rfl) fun a Z => ?_
 have Z : Fr 28 [(0, _), (1, _), (2, _)] [] a := Z
 have Y : St No w0 [] w0 := St.init w0
 refine aa fun K1 hK1 => aN Z Y (by decide) rfl (cs := [iv rl.answer, iv rl.cooling, iv rl.settle, iv rl.reverse]) rfl fun a w1 Z Y => aN Z Y (by decide) rfl (cs := [iv cl.number, iv cl.frm, iv cl.to, iv cl.holder, iv cl.asked, .bool cl.backed]) rfl fun a w2 Z Y => wla Z rfl fun a Z => wla Z rfl fun a Z => ab (hK1 _ _ <| aa fun K2 hK2 => ?_)
 refine wlv Z (ao (Y.get (k := 1) rfl) rfl (Tryz.isAgg81 _) (Tryz.sizeOf81 _)) fun a Z => wlv Z (ao (Y.get (k := 0) rfl) rfl (Tryz.isAgg83 _) (Tryz.sizeOf83 _)) fun a Z => wlm Z rfl fun a Z => bJ Z Y (by decide) Tryz.call110 rfl (f6 rl cl sv l _ (Y.arg hsv) hv) fun a w3 x2 hp Z Y => ?_
 revert x2 hp Z Y; rintro x1 hp Z Y
 clear hp
 have Y : St No w0 [blk x1.bm [iv rl.answer, iv rl.cooling, iv rl.settle, iv rl.reverse, iv cl.number, iv cl.frm, iv cl.to, iv cl.holder, iv cl.asked, .bool cl.backed, .map (some x1.dm), .map (some x1.em), .slice none 0 0] 180, mapE x1.dm duesKV, mapE x1.em effAll, blk w1.heap.size [iv cl.number, iv cl.frm, iv cl.to, iv cl.holder, iv cl.asked, .bool cl.backed] 83, blk w0.heap.size [iv rl.answer, iv rl.cooling, iv rl.settle, iv rl.reverse] 81] w3 := Y
 refine wlm Z rfl fun a Z => wlv Z (aA rfl rfl) fun a Z => wlv Z (aA rfl rfl) fun a Z => wla Z rfl fun a Z => wla Z rfl fun a Z => ab (hK2 _ _ ?_)
 have Z : Fr 28 [(0, _), (1, _), (2, _), (3, _), (4, _), (6, _), (7, _), (8, _), (9, _)] [] a := Z.pick [0, 1, 2, 3, 4, 6, 7, 8, 9]
 refine ai fun K3 hK3 => aa fun K4 hK4 => wlm Z rfl fun a Z => wlv Z ((v_ne rfl rfl).asb (b' := false) rfl) fun a Z => ab (hK4 _ _ <| bj Z rfl ?_)
 refine ay <| hK3 _ _ <| ai fun K5 hK5 => aa fun K6 hK6 => wlm Z rfl fun a Z => wlm Z rfl fun a Z => bJ Z Y (by decide) Tryz.call112 rfl (ed _ _ _ _ (Y.arg hsv)) fun a w4 x5 hp Z Y => ?_
 obtain ⟨bp3, bl4⟩ := x5
 clear hp
 have Y : St No w0 [blk bl4 [sv] 84, blk bp3 [pq x1.bm] 170, blk x1.bm [iv rl.answer, iv rl.cooling, iv rl.settle, iv rl.reverse, iv cl.number, iv cl.frm, iv cl.to, iv cl.holder, iv cl.asked, .bool cl.backed, .map (some x1.dm), .map (some x1.em), .slice none 0 0] 180, mapE x1.dm duesKV, mapE x1.em effAll, blk w1.heap.size [iv cl.number, iv cl.frm, iv cl.to, iv cl.holder, iv cl.asked, .bool cl.backed] 83, blk w0.heap.size [iv rl.answer, iv rl.cooling, iv rl.settle, iv rl.reverse] 81] w4 := Y
 refine ab (hK6 _ _ <| ax ?_)
 have Y : St No w0 (own (.slice none 0 0) 3 1 [] :: [blk bl4 [sv] 84, blk bp3 [pq x1.bm] 170, blk x1.bm [iv rl.answer, iv rl.cooling, iv rl.settle, iv rl.reverse, iv cl.number, iv cl.frm, iv cl.to, iv cl.holder, iv cl.asked, .bool cl.backed, .map (some x1.dm), .map (some x1.em), .slice none 0 0] 180, mapE x1.dm duesKV, mapE x1.em effAll, blk w1.heap.size [iv cl.number, iv cl.frm, iv cl.to, iv cl.holder, iv cl.asked, .bool cl.backed] 83, blk w0.heap.size [iv rl.answer, iv rl.cooling, iv rl.settle, iv rl.reverse] 81]) w4 := Y.nil_own
 have Y : St No w0 [blk bp3 [pq x1.bm] 170, blk bl4 [sv] 84, blk x1.bm [iv rl.answer, iv rl.cooling, iv rl.settle, iv rl.reverse, iv cl.number, iv cl.frm, iv cl.to, iv cl.holder, iv cl.asked, .bool cl.backed, .map (some x1.dm), .map (some x1.em), .slice none 0 0] 180, mapE x1.dm duesKV, mapE x1.em effAll, own (.slice none 0 0) 3 1 (([] : List Int).map fun i => [iv i]), blk w1.heap.size [iv cl.number, iv cl.frm, iv cl.to, iv cl.holder, iv cl.asked, .bool cl.backed] 83, blk w0.heap.size [iv rl.answer, iv rl.cooling, iv rl.settle, iv rl.reverse] 81] w4 := Y.select [2, 1, 3, 4, 5, 0, 6, 7] (by decide)
 have Y : St No w0 [blk bp3 [pq x1.bm] 170, blk bl4 [sv] 84, blk x1.bm [iv rl.answer, iv rl.cooling, iv rl.settle, iv rl.reverse, iv cl.number, iv cl.frm, iv cl.to, iv cl.holder, iv cl.asked, .bool cl.backed, .map (some x1.dm), .map (some x1.em), .slice none 0 0] 180, mapE x1.dm duesKV, mapE x1.em effAll, own (.slice none 0 0) 3 1 (([] : List Int).map fun i => [iv i]), join [blk w1.heap.size [iv cl.number, iv cl.frm, iv cl.to, iv cl.holder, iv cl.asked, .bool cl.backed] 83, blk w0.heap.size [iv rl.answer, iv rl.cooling, iv rl.settle, iv rl.reverse] 81]] w4 := St.joinTail [blk bp3 [pq x1.bm] 170, blk bl4 [sv] 84, blk x1.bm [iv rl.answer, iv rl.cooling, iv rl.settle, iv rl.reverse, iv cl.number, iv cl.frm, iv cl.to, iv cl.holder, iv cl.asked, .bool cl.backed, .map (some x1.dm), .map (some x1.em), .slice none 0 0] 180, mapE x1.dm duesKV, mapE x1.em effAll, own (.slice none 0 0) 3 1 (([] : List Int).map fun i => [iv i])] [blk w1.heap.size [iv cl.number, iv cl.frm, iv cl.to, iv cl.holder, iv cl.asked, .bool cl.backed] 83, blk w0.heap.size [iv rl.answer, iv rl.cooling, iv rl.settle, iv rl.reverse] 81] Y
 have Y : St No w0 [blk bp3 [pq x1.bm] 170, blk bl4 [sv] 84, blk x1.bm [iv rl.answer, iv rl.cooling, iv rl.settle, iv rl.reverse, iv cl.number, iv cl.frm, iv cl.to, iv cl.holder, iv cl.asked, .bool cl.backed, .map (some x1.dm), .map (some x1.em), .slice none 0 0] 180, mapE x1.dm duesKV, mapE x1.em effAll, own (.slice none 0 0) 3 1 (([] : List Int).map fun i => [iv i]), join [blk w1.heap.size [iv cl.number, iv cl.frm, iv cl.to, iv cl.holder, iv cl.asked, .bool cl.backed] 83, blk w0.heap.size [iv rl.answer, iv rl.cooling, iv rl.settle, iv rl.reverse] 81]] w4 := Y.select [0, 1, 2, 3, 4, 5, 6] (by decide)
 have Z : Fr 28 [(0, .agg #[iv rl.answer, iv rl.cooling, iv rl.settle, iv rl.reverse]), (1, .agg #[iv cl.number, iv cl.frm, iv cl.to, iv cl.holder, iv cl.asked, .bool cl.backed]), (2, sv), (3, pq w0.heap.size), (4, pq w1.heap.size), (6, .slice none 0 0), (7, iv 0), (8, pq x1.bm), (9, iv 0), (17, iv 0), (18, .bool false), (20, pq x1.bm), (21, sv), (22, .func (.func 141) #[] #[pq bp3, pq bl4])] [] a := Z.pick [0, 1, 2, 3, 4, 6, 7, 8, 9, 17, 18, 20, 21, 22]
 refine dH (M := No) (w0 := w0) (encs := encS) (Hi := [blk bp3 [pq x1.bm] 170, blk bl4 [sv] 84, blk x1.bm [iv rl.answer, iv rl.cooling, iv rl.settle, iv rl.reverse, iv cl.number, iv cl.frm, iv cl.to, iv cl.holder, iv cl.asked, .bool cl.backed, .map (some x1.dm), .map (some x1.em), .slice none 0 0] 180, mapE x1.dm duesKV, mapE x1.em effAll, own (.slice none 0 0) 3 1 (([] : List Int).map fun i => [iv i]), join [blk w1.heap.size [iv cl.number, iv cl.frm, iv cl.to, iv cl.holder, iv cl.asked, .bool cl.backed] 83, blk w0.heap.size [iv rl.answer, iv rl.cooling, iv rl.settle, iv rl.reverse] 81]]) (Hc := []) (fun pre H => (True) ∧ H = []) (fun _ _ _ => False) (fun pre xs H a => Fr 28 [(0, .agg #[iv rl.answer, iv rl.cooling, iv rl.settle, iv rl.reverse]), (1, .agg #[iv cl.number, iv cl.frm, iv cl.to, iv cl.holder, iv cl.asked, .bool cl.backed]), (2, sv), (3, pq w0.heap.size), (4, pq w1.heap.size), (6, .slice none 0 0), (7, iv 0), (8, pq x1.bm), (9, iv 0), (17, iv 0), (18, .bool false), (20, pq x1.bm), (21, sv), (22, .func (.func 141) #[] #[pq bp3, pq bl4])] [] a ∧ (True) ∧ H = []) rfl Tryz.call141 Z Y (dE rl cl x1 sv l bp3 bl4 hv (fun H w h => h.arg hsv)) (by decide) (fun _ => rfl) ⟨trivial, rfl⟩ ?_ ?_ ?_ ?_
 ·rintro lp pre xs _ a w5 hnx ⟨htr, rfl⟩ Z Y
  generalize (join []).foot = M1 at Y ⊢
  have Z : Fr 28 [(23, .agg #[iv xs.state, iv xs.since, iv xs.next]), (0, .agg #[iv rl.answer, iv rl.cooling, iv rl.settle, iv rl.reverse]), (1, .agg #[iv cl.number, iv cl.frm, iv cl.to, iv cl.holder, iv cl.asked, .bool cl.backed]), (2, sv), (3, pq w0.heap.size), (4, pq w1.heap.size), (6, .slice none 0 0), (7, iv 0), (8, pq x1.bm), (9, iv 0), (17, iv 0), (18, .bool false), (20, pq x1.bm), (21, sv), (22, .func (.func 141) #[] #[pq bp3, pq bl4])] [] a := Z
  refine ay ?_
  exact ⟨_, ⟨Z.pick [0, 1, 2, 3, 4, 6, 7, 8, 9, 17, 18, 20, 21, 22], htr, rfl⟩, Y⟩
 ·rintro lp pre xs _ a w6 hnx ⟨Z, htr, rfl⟩ hout hrec hnl Y
  clear hrec hnl
  generalize (join []).foot = M1 at Y hout ⊢
  refine ax <| ay ?_
  exact ⟨_, ⟨trivial, rfl⟩, Y.select [] (by decide)⟩
 ·rintro D pre _ _ a w7 ⟨rfl, vd, rfl⟩ ⟨htr, rfl⟩ Y Z
  have Z : Fr 28 [(0, .agg #[iv rl.answer, iv rl.cooling, iv rl.settle, iv rl.reverse]), (1, .agg #[iv cl.number, iv cl.frm, iv cl.to, iv cl.holder, iv cl.asked, .bool cl.backed]), (2, sv), (3, pq w0.heap.size), (4, pq w1.heap.size), (6, .slice none 0 0), (7, iv 0), (8, pq x1.bm), (9, iv 0), (17, iv 0), (18, .bool false), (20, pq x1.bm), (21, sv), (22, .func (.func 141) #[] #[pq bp3, pq bl4])] [{ target := .collected D, args := #[] }] a := Z
  have Y : St No w0 [obj D (.deferred (some [])), blk bp3 [pq x1.bm] 170, blk bl4 [sv] 84, blk x1.bm [iv rl.answer, iv rl.cooling, iv rl.settle, iv rl.reverse, iv cl.number, iv cl.frm, iv cl.to, iv cl.holder, iv cl.asked, .bool cl.backed, .map (some x1.dm), .map (some x1.em), vd] 180, mapE x1.dm duesKV, mapE x1.em effAll, own vd 3 1 ((voids rl cl l).map fun i => [iv i]), join [blk w1.heap.size [iv cl.number, iv cl.frm, iv cl.to, iv cl.holder, iv cl.asked, .bool cl.backed] 83, blk w0.heap.size [iv rl.answer, iv rl.cooling, iv rl.settle, iv rl.reverse] 81]] w7 := Y
  have Y : St No w0 [obj D (.deferred (some [])), blk bp3 [pq x1.bm] 170, blk bl4 [sv] 84, blk x1.bm [iv rl.answer, iv rl.cooling, iv rl.settle, iv rl.reverse, iv cl.number, iv cl.frm, iv cl.to, iv cl.holder, iv cl.asked, .bool cl.backed, .map (some x1.dm), .map (some x1.em), vd] 180, mapE x1.dm duesKV, mapE x1.em effAll, own vd 3 1 ((voids rl cl l).map fun i => [iv i]), blk w1.heap.size [iv cl.number, iv cl.frm, iv cl.to, iv cl.holder, iv cl.asked, .bool cl.backed] 83, blk w0.heap.size [iv rl.answer, iv rl.cooling, iv rl.settle, iv rl.reverse] 81] w7 := St.unjoinTail [obj D (.deferred (some [])), blk bp3 [pq x1.bm] 170, blk bl4 [sv] 84, blk x1.bm [iv rl.answer, iv rl.cooling, iv rl.settle, iv rl.reverse, iv cl.number, iv cl.frm, iv cl.to, iv cl.holder, iv cl.asked, .bool cl.backed, .map (some x1.dm), .map (some x1.em), vd] 180, mapE x1.dm duesKV, mapE x1.em effAll, own vd 3 1 ((voids rl cl l).map fun i => [iv i])] [blk w1.heap.size [iv cl.number, iv cl.frm, iv cl.to, iv cl.holder, iv cl.asked, .bool cl.backed] 83, blk w0.heap.size [iv rl.answer, iv rl.cooling, iv rl.settle, iv rl.reverse] 81] Y
  refine hK5 _ _ <| aa fun K7 hK7 => wlm Z rfl fun a Z => wlv Z (aQ rfl) fun a Z => wlv Z (ac (v := .pointer (some ⟨x1.bm, 12, none⟩)) rfl (by kernel_rfl)) fun a Z => wlv Z (ae (Y.get (k := 3) rfl) rfl (Tryz.isAgg88 _) rfl) fun a Z => wla Z rfl fun a Z => wla Z rfl fun a Z => ab (hK7 _ _ ?_)
  refine aq ?_
  have hD := Y.get (k := 0) rfl
  have Y := Y.unmark (i := 0) (o' := .deferred none) rfl
  have Y : St No w0 [blk bp3 [pq x1.bm] 170, blk bl4 [sv] 84, blk x1.bm [iv rl.answer, iv rl.cooling, iv rl.settle, iv rl.reverse, iv cl.number, iv cl.frm, iv cl.to, iv cl.holder, iv cl.asked, .bool cl.backed, .map (some x1.dm), .map (some x1.em), vd] 180, mapE x1.dm duesKV, mapE x1.em effAll, own vd 3 1 ((voids rl cl l).map fun i => [iv i]), blk w1.heap.size [iv cl.number, iv cl.frm, iv cl.to, iv cl.holder, iv cl.asked, .bool cl.backed] 83, blk w0.heap.size [iv rl.answer, iv rl.cooling, iv rl.settle, iv rl.reverse] 81] _ := Y
  refine ch Z hD Tryz.results48 (ah rfl (ah rfl ag)) ?_
  exact ⟨vd, rfl, trivial, Y.ext, St.out (E := [own vd 3 1 ((voids rl cl l).map fun i => [iv i])]) (H := []) (Y.select [5] (by decide))⟩
 ·rintro D c pre _ _ a w8 _ h
  exact h.elim
theorem iF {M : Nat → Prop} {w0 : World} {er : Ent} (rl : Rul) (cl : Clm) (x : Mach) (sv : Value) (l : List Evt) (bp bl : Nat) (ws : World)
  (hv : valid rl cl l = true) (hsv : ∀ H w, St M w0 H w → SlAt w sv 3 (l.map Evt.cells)) (Y : St M w0 [blk bp [pq x.bm] 170, blk bl [sv] 84, blk x.bm [iv rl.answer, iv rl.cooling, iv rl.settle, iv rl.reverse, iv cl.number, iv cl.frm, iv cl.to, iv cl.holder, iv cl.asked, .bool cl.backed, .map (some x.dm), .map (some x.em), .slice none 0 0] 180, mapE x.dm duesKV, mapE x.em effAll, own (.slice none 0 0) 3 1 (([] : List Int).map fun i => [iv i]), er] ws) :
  Ret Tryz.prog 151 #[.slice none 0 0, .func (.func 141) #[] #[pq bp, pq bl]] ws fun v w => ∃ vd, St M w0 (own v 98 3 ((aT rl cl l).map Stt.cells) :: [blk bp [pq x.bm] 170, blk bl [sv] 84, blk x.bm [iv rl.answer, iv rl.cooling, iv rl.settle, iv rl.reverse, iv cl.number, iv cl.frm, iv cl.to, iv cl.holder, iv cl.asked, .bool cl.backed, .map (some x.dm), .map (some x.em), vd] 180, mapE x.dm duesKV, mapE x.em effAll, own vd 3 1 ((voids rl cl l).map fun i => [iv i]), er]) w := by
 refine aD Tryz.func151 rfl Tryz.ntmps151 (lb rfl) fun a Z => ?_
 have Z : Fr 13 [(0, _), (1, _)] [] a := Z
 skip
 refine aa fun K1 hK1 => aN Z Y (by decide) rfl (cs := [.slice none 0 0]) rfl fun a w1 Z Y => wla Z rfl fun a Z => ab (hK1 _ _ <| ai fun K2 hK2 => ?_)
 refine aa fun K3 hK3 => wlm Z rfl fun a Z => ab (hK3 _ _ <| ax ?_)
 have Y : St M w0 (own (.slice none 0 0) 98 3 [] :: [blk ws.heap.size [.slice none 0 0] 161, blk bp [pq x.bm] 170, blk bl [sv] 84, blk x.bm [iv rl.answer, iv rl.cooling, iv rl.settle, iv rl.reverse, iv cl.number, iv cl.frm, iv cl.to, iv cl.holder, iv cl.asked, .bool cl.backed, .map (some x.dm), .map (some x.em), .slice none 0 0] 180, mapE x.dm duesKV, mapE x.em effAll, own (.slice none 0 0) 3 1 (([] : List Int).map fun i => [iv i]), er]) w1 := Y.nil_own
 have Y : St M w0 [blk ws.heap.size [.slice none 0 0] 161, own (.slice none 0 0) 98 3 (([] : List Stt).map Stt.cells), blk bp [pq x.bm] 170, blk bl [sv] 84, blk x.bm [iv rl.answer, iv rl.cooling, iv rl.settle, iv rl.reverse, iv cl.number, iv cl.frm, iv cl.to, iv cl.holder, iv cl.asked, .bool cl.backed, .map (some x.dm), .map (some x.em), .slice none 0 0] 180, mapE x.dm duesKV, mapE x.em effAll, own (.slice none 0 0) 3 1 (([] : List Int).map fun i => [iv i]), er] w1 := Y.select [1, 0, 2, 3, 4, 5, 6, 7, 8] (by decide)
 have Z : Fr 13 [(0, .slice none 0 0), (1, .func (.func 141) #[] #[pq bp, pq bl]), (2, pq ws.heap.size), (4, .slice none 0 0), (6, .func (.func 141) #[] #[pq bp, pq bl])] [] a := Z.pick [0, 1, 2, 4, 6]
 refine dH (M := M) (w0 := w0) (encs := encS) (Hi := [blk bp [pq x.bm] 170, blk bl [sv] 84, blk x.bm [iv rl.answer, iv rl.cooling, iv rl.settle, iv rl.reverse, iv cl.number, iv cl.frm, iv cl.to, iv cl.holder, iv cl.asked, .bool cl.backed, .map (some x.dm), .map (some x.em), .slice none 0 0] 180, mapE x.dm duesKV, mapE x.em effAll, own (.slice none 0 0) 3 1 (([] : List Int).map fun i => [iv i]), er]) (Hc := [blk ws.heap.size [.slice none 0 0] 161, own (.slice none 0 0) 98 3 (([] : List Stt).map Stt.cells)]) (fun pre H => ∃ (v : Value), H = [blk ws.heap.size [v] 161, own v 98 3 (pre.map Stt.cells)]) (fun _ _ _ => False) (fun pre xs H a => ∃ (bA0 : Nat), Fr 13 [(0, .slice none 0 0), (1, .func (.func 141) #[] #[pq bp, pq bl]), (2, pq ws.heap.size), (4, .slice none 0 0), (6, .func (.func 141) #[] #[pq bp, pq bl]), (5, pq bA0)] [] a ∧ ∃ (v : Value), H = [blk bA0 [iv xs.state, iv xs.since, iv xs.next] 98, blk ws.heap.size [v] 161, own v 98 3 (pre.map Stt.cells)]) rfl Tryz.call141 Z Y (dE rl cl x sv l bp bl hv hsv) (by decide) (fun _ => rfl) ⟨.slice none 0 0, rfl⟩ ?_ ?_ ?_ ?_
 ·rintro lp pre xs _ a w2 hnx ⟨v, rfl⟩ Z Y
  generalize (join [blk ws.heap.size [v] 161, own v 98 3 (pre.map Stt.cells)]).foot = M1 at Y ⊢
  have Z : Fr 13 [(7, .agg #[iv xs.state, iv xs.since, iv xs.next]), (0, .slice none 0 0), (1, .func (.func 141) #[] #[pq bp, pq bl]), (2, pq ws.heap.size), (4, .slice none 0 0), (6, .func (.func 141) #[] #[pq bp, pq bl])] [] a := Z
  refine ar <| aI Z Y (by decide) (Tryz.zeroValue98 _) (cs := [iv 0, iv 0, iv 0]) rfl fun a w3 Z Y => ap 0 Z Y rfl rfl rfl (Tryz.sizeOf98 _) rfl (lb rfl) (ds := [iv xs.state, iv xs.since, iv xs.next]) rfl rfl fun a w4 Z Y => ab ?_
  exact ⟨_, ⟨w2.heap.size, Z.pick [0, 1, 2, 4, 6, 5], v, rfl⟩, Y⟩
 ·rintro lp pre xs _ a w5 hnx ⟨bA0, Z, v, rfl⟩ hout hrec hnl Y
  clear hrec hnl
  generalize (join [blk bA0 [iv xs.state, iv xs.since, iv xs.next] 98, blk ws.heap.size [v] 161, own v 98 3 (pre.map Stt.cells)]).foot = M1 at Y hout ⊢
  refine ax <| ar <| wlv Z (ae (Y.get (k := 1) rfl) rfl (Tryz.isAgg161 _) rfl) fun a Z => wlv Z (ao (Y.get (k := 0) rfl) rfl (Tryz.isAgg98 _) (Tryz.sizeOf98 _)) fun a Z => aH (E := 98) (sz := 3) rfl [[iv xs.state, iv xs.since, iv xs.next]] (by kernel_rfl) (by simp) rfl (by decide) (by decide) Z Y fun a w6 Z Y => bL (i := 3) (sT := 161) (inf := Tryz.t98) (z := .agg #[iv 0, iv 0, iv 0]) (b := 0) (off := 0) (m := 0) (c := 0) rfl rfl rfl (Y.ownAt (i := 0) rfl) (by simp) Tryz.underlying161 rfl rfl rfl rfl (by decide) (by simp [Value.oneCell']) (by have hby : Tryz.t98.bytes = 24 := rfl; have : pre.length < 200 := hnx; simp [big, hby]; omega) (by have hby : Tryz.t98.bytes = 24 := rfl; have : pre.length < 200 := hnx; simp [big, hby]; omega) (by decide) Z Y fun a w7 s1 Z Y _ => cJ 2 Z Y (Y.ownAt (i := 3) rfl) rfl rfl rfl (Tryz.sizeOf161 _) (lb rfl) (ds := [s1]) rfl rfl fun a w8 Z Y => ?_
  refine ab ?_
  rw [show pre.map Stt.cells ++ [[iv xs.state, iv xs.since, iv xs.next]] = (pre ++ [xs]).map Stt.cells from by simp [Stt.cells]] at Y
  exact ⟨_, ⟨s1, rfl⟩, Y.select [2, 3] (by decide)⟩
 ·rintro D pre _ _ a w9 ⟨rfl, vd, rfl⟩ ⟨v, rfl⟩ Y Z
  have Z : Fr 13 [(0, .slice none 0 0), (1, .func (.func 141) #[] #[pq bp, pq bl]), (2, pq ws.heap.size), (4, .slice none 0 0), (6, .func (.func 141) #[] #[pq bp, pq bl])] [{ target := .collected D, args := #[] }] a := Z
  have Y : St M w0 [obj D (.deferred (some [])), blk ws.heap.size [v] 161, own v 98 3 ((aT rl cl l).map Stt.cells), blk bp [pq x.bm] 170, blk bl [sv] 84, blk x.bm [iv rl.answer, iv rl.cooling, iv rl.settle, iv rl.reverse, iv cl.number, iv cl.frm, iv cl.to, iv cl.holder, iv cl.asked, .bool cl.backed, .map (some x.dm), .map (some x.em), vd] 180, mapE x.dm duesKV, mapE x.em effAll, own vd 3 1 ((voids rl cl l).map fun i => [iv i]), er] w9 := Y
  refine hK2 _ _ <| aa fun K4 hK4 => wlv Z (ae (Y.get (k := 1) rfl) rfl (Tryz.isAgg161 _) rfl) fun a Z => wla Z rfl fun a Z => ab (hK4 _ _ <| aq ?_)
  have hD := Y.get (k := 0) rfl
  have Y := Y.unmark (i := 0) (o' := .deferred none) rfl
  have Y : St M w0 [blk ws.heap.size [v] 161, own v 98 3 ((aT rl cl l).map Stt.cells), blk bp [pq x.bm] 170, blk bl [sv] 84, blk x.bm [iv rl.answer, iv rl.cooling, iv rl.settle, iv rl.reverse, iv cl.number, iv cl.frm, iv cl.to, iv cl.holder, iv cl.asked, .bool cl.backed, .map (some x.dm), .map (some x.em), vd] 180, mapE x.dm duesKV, mapE x.em effAll, own vd 3 1 ((voids rl cl l).map fun i => [iv i]), er] _ := Y
  refine ch Z hD Tryz.results151 (ah rfl ag) ?_
  exact ⟨vd, Y.select [1, 2, 3, 4, 5, 6, 7, 8] (by decide)⟩
 ·rintro D c pre _ _ a w10 _ h
  exact h.elim
theorem kt {M : Nat → Prop} {w0 : World} {er : Ent} (rl : Rul) (cl : Clm) (x : Mach) (sv : Value) (l : List Evt) (bp bl : Nat) (ws : World)
  (hv : valid rl cl l = true) (hsv : ∀ H w, St M w0 H w → SlAt w sv 3 (l.map Evt.cells)) (Y : St M w0 [blk bp [pq x.bm] 170, blk bl [sv] 84, blk x.bm [iv rl.answer, iv rl.cooling, iv rl.settle, iv rl.reverse, iv cl.number, iv cl.frm, iv cl.to, iv cl.holder, iv cl.asked, .bool cl.backed, .map (some x.dm), .map (some x.em), .slice none 0 0] 180, mapE x.dm duesKV, mapE x.em effAll, own (.slice none 0 0) 3 1 (([] : List Int).map fun i => [iv i]), er] ws) :
  Ret Tryz.prog 133 #[.func (.func 141) #[] #[pq bp, pq bl]] ws fun v w => ∃ vd, St M w0 (own v 98 3 ((aT rl cl l).map Stt.cells) :: [blk bp [pq x.bm] 170, blk bl [sv] 84, blk x.bm [iv rl.answer, iv rl.cooling, iv rl.settle, iv rl.reverse, iv cl.number, iv cl.frm, iv cl.to, iv cl.holder, iv cl.asked, .bool cl.backed, .map (some x.dm), .map (some x.em), vd] 180, mapE x.dm duesKV, mapE x.em effAll, own vd 3 1 ((voids rl cl l).map fun i => [iv i]), er]) w := by
 refine aD Tryz.func133 rfl Tryz.ntmps133 (lb rfl) fun a Z => ?_
 have Z : Fr 5 [(0, _)] [] a := Z
 skip
 refine aa fun K1 hK1 => wla Z rfl fun a Z => ab (hK1 _ _ <| aa fun K2 hK2 => ?_)
 refine wlm Z rfl fun a Z => wl_r (dc Tryz.call151 rfl (iF rl cl x sv l bp bl _ hv hsv Y)) rfl rfl Z fun a v1 w1 hR Z => ?_
 obtain ⟨vd, Y⟩ := hR
 refine wla Z rfl fun a Z => ab (hK2 _ _ <| aq ?_)
 refine ak Z Tryz.results133 (ah rfl ag) ?_
 exact ⟨vd, Y⟩
theorem ju (rl : Rul) (cl : Clm) (sv : Value) (l : List Evt) (w0 : World) (hsv : SlAt w0 sv 3 (l.map Evt.cells)) (hv : valid rl cl l = true) :
  Ret Tryz.prog 96 #[.agg #[iv rl.answer, iv rl.cooling, iv rl.settle, iv rl.reverse], .agg #[iv cl.number, iv cl.frm, iv cl.to, iv cl.holder, iv cl.asked, .bool cl.backed], sv] w0 (MemR w0 (fun v : Value => .tuple #[v, iv 0]) (fun v => [own v 98 3 ((aT rl cl l).map Stt.cells)]) (fun _ => True)) := by
 refine aD Tryz.func96 rfl Tryz.ntmps96 (lb rfl) fun a Z => ?_
 have Z : Fr 24 [(0, _), (1, _), (2, _)] [] a := Z
 have Y : St No w0 [] w0 := St.init w0
 refine aa fun K1 hK1 => aN Z Y (by decide) rfl (cs := [iv rl.answer, iv rl.cooling, iv rl.settle, iv rl.reverse]) rfl fun a w1 Z Y => aN Z Y (by decide) rfl (cs := [iv cl.number, iv cl.frm, iv cl.to, iv cl.holder, iv cl.asked, .bool cl.backed]) rfl fun a w2 Z Y => wla Z rfl fun a Z => wla Z rfl fun a Z => ab (hK1 _ _ <| aa fun K2 hK2 => ?_)
 refine wlv Z (ao (Y.get (k := 1) rfl) rfl (Tryz.isAgg81 _) (Tryz.sizeOf81 _)) fun a Z => wlv Z (ao (Y.get (k := 0) rfl) rfl (Tryz.isAgg83 _) (Tryz.sizeOf83 _)) fun a Z => wlm Z rfl fun a Z => bJ Z Y (by decide) Tryz.call110 rfl (f6 rl cl sv l _ (Y.arg hsv) hv) fun a w3 x2 hp Z Y => ?_
 revert x2 hp Z Y; rintro x1 hp Z Y
 clear hp
 have Y : St No w0 [blk x1.bm [iv rl.answer, iv rl.cooling, iv rl.settle, iv rl.reverse, iv cl.number, iv cl.frm, iv cl.to, iv cl.holder, iv cl.asked, .bool cl.backed, .map (some x1.dm), .map (some x1.em), .slice none 0 0] 180, mapE x1.dm duesKV, mapE x1.em effAll, blk w1.heap.size [iv cl.number, iv cl.frm, iv cl.to, iv cl.holder, iv cl.asked, .bool cl.backed] 83, blk w0.heap.size [iv rl.answer, iv rl.cooling, iv rl.settle, iv rl.reverse] 81] w3 := Y
 refine wlm Z rfl fun a Z => wlv Z (aA rfl rfl) fun a Z => wlv Z (aA rfl rfl) fun a Z => wla Z rfl fun a Z => wla Z rfl fun a Z => ab (hK2 _ _ ?_)
 have Z : Fr 24 [(0, _), (1, _), (2, _), (3, _), (4, _), (6, _), (7, _), (8, _), (9, _)] [] a := Z.pick [0, 1, 2, 3, 4, 6, 7, 8, 9]
 refine ai fun K3 hK3 => aa fun K4 hK4 => wlm Z rfl fun a Z => wlv Z ((v_ne rfl rfl).asb (b' := false) rfl) fun a Z => ab (hK4 _ _ <| bj Z rfl ?_)
 refine ay <| hK3 _ _ <| aa fun K5 hK5 => wlm Z rfl fun a Z => wlm Z rfl fun a Z => bJ Z Y (by decide) Tryz.call112 rfl (ed _ _ _ _ (Y.arg hsv)) fun a w4 x5 hp Z Y => ?_
 obtain ⟨bp3, bl4⟩ := x5
 clear hp
 have Y : St No w0 [blk bl4 [sv] 84, blk bp3 [pq x1.bm] 170, blk x1.bm [iv rl.answer, iv rl.cooling, iv rl.settle, iv rl.reverse, iv cl.number, iv cl.frm, iv cl.to, iv cl.holder, iv cl.asked, .bool cl.backed, .map (some x1.dm), .map (some x1.em), .slice none 0 0] 180, mapE x1.dm duesKV, mapE x1.em effAll, blk w1.heap.size [iv cl.number, iv cl.frm, iv cl.to, iv cl.holder, iv cl.asked, .bool cl.backed] 83, blk w0.heap.size [iv rl.answer, iv rl.cooling, iv rl.settle, iv rl.reverse] 81] w4 := Y
 have Y : St No w0 (own (.slice none 0 0) 3 1 [] :: [blk bl4 [sv] 84, blk bp3 [pq x1.bm] 170, blk x1.bm [iv rl.answer, iv rl.cooling, iv rl.settle, iv rl.reverse, iv cl.number, iv cl.frm, iv cl.to, iv cl.holder, iv cl.asked, .bool cl.backed, .map (some x1.dm), .map (some x1.em), .slice none 0 0] 180, mapE x1.dm duesKV, mapE x1.em effAll, blk w1.heap.size [iv cl.number, iv cl.frm, iv cl.to, iv cl.holder, iv cl.asked, .bool cl.backed] 83, blk w0.heap.size [iv rl.answer, iv rl.cooling, iv rl.settle, iv rl.reverse] 81]) w4 := Y.nil_own
 have Y : St No w0 [blk bp3 [pq x1.bm] 170, blk bl4 [sv] 84, blk x1.bm [iv rl.answer, iv rl.cooling, iv rl.settle, iv rl.reverse, iv cl.number, iv cl.frm, iv cl.to, iv cl.holder, iv cl.asked, .bool cl.backed, .map (some x1.dm), .map (some x1.em), .slice none 0 0] 180, mapE x1.dm duesKV, mapE x1.em effAll, own (.slice none 0 0) 3 1 (([] : List Int).map fun i => [iv i]), blk w1.heap.size [iv cl.number, iv cl.frm, iv cl.to, iv cl.holder, iv cl.asked, .bool cl.backed] 83, blk w0.heap.size [iv rl.answer, iv rl.cooling, iv rl.settle, iv rl.reverse] 81] w4 := Y.select [2, 1, 3, 4, 5, 0, 6, 7] (by decide)
 have Y : St No w0 [blk bp3 [pq x1.bm] 170, blk bl4 [sv] 84, blk x1.bm [iv rl.answer, iv rl.cooling, iv rl.settle, iv rl.reverse, iv cl.number, iv cl.frm, iv cl.to, iv cl.holder, iv cl.asked, .bool cl.backed, .map (some x1.dm), .map (some x1.em), .slice none 0 0] 180, mapE x1.dm duesKV, mapE x1.em effAll, own (.slice none 0 0) 3 1 (([] : List Int).map fun i => [iv i]), join [blk w1.heap.size [iv cl.number, iv cl.frm, iv cl.to, iv cl.holder, iv cl.asked, .bool cl.backed] 83, blk w0.heap.size [iv rl.answer, iv rl.cooling, iv rl.settle, iv rl.reverse] 81]] w4 := St.joinTail [blk bp3 [pq x1.bm] 170, blk bl4 [sv] 84, blk x1.bm [iv rl.answer, iv rl.cooling, iv rl.settle, iv rl.reverse, iv cl.number, iv cl.frm, iv cl.to, iv cl.holder, iv cl.asked, .bool cl.backed, .map (some x1.dm), .map (some x1.em), .slice none 0 0] 180, mapE x1.dm duesKV, mapE x1.em effAll, own (.slice none 0 0) 3 1 (([] : List Int).map fun i => [iv i])] [blk w1.heap.size [iv cl.number, iv cl.frm, iv cl.to, iv cl.holder, iv cl.asked, .bool cl.backed] 83, blk w0.heap.size [iv rl.answer, iv rl.cooling, iv rl.settle, iv rl.reverse] 81] Y
 refine wl_r (dc Tryz.call133 rfl (kt rl cl x1 sv l bp3 bl4 _ hv (fun H w h => h.arg hsv) Y)) rfl rfl Z fun a v6 w5 hR Z => ?_
 obtain ⟨vd, Y⟩ := hR
 refine wla Z rfl fun a Z => wla Z rfl fun a Z => ab (hK5 _ _ <| aq ?_)
 refine ak Z Tryz.results96 (ah rfl (ah rfl ag)) ?_
 exact ⟨v6, rfl, trivial, Y.ext, St.out (E := [own v6 98 3 ((aT rl cl l).map Stt.cells)]) (H := []) (Y.select [0] (by decide))⟩
end Go.Proofs.YtmmfieceinmloaaGreatDoor.K16
