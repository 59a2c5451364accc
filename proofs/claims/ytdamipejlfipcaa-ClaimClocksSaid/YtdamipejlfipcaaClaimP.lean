/- Plain definitions: what package claim computes; no program in sight. -/
import GoSem.Core.Value
namespace Go.Proofs.Ytdamipejlfipcaa
def pick (c n : Int) : Int := (if c < 0 then -(c + 1) else c) % n
def isIn (n lo hi : Int) : Bool := decide (lo ≤ n) && decide (n ≤ hi)
structure Rul where
  answer : Int
  cooling : Int
  settle : Int
  reverse : Int
structure Clm where
  number : Int
  frm : Int
  to : Int
  holder : Int
  asked : Int
  backed : Bool
structure Evt where
  kind : Int
  at_ : Int
  reason : Int
structure Stt where
  state : Int
  since : Int
  next : Int
  deriving DecidableEq
def Rul.cells (r : Rul) : List Value := [.int .i64 r.answer, .int .i64 r.cooling, .int .i64 r.settle, .int .i64 r.reverse]
def Clm.cells (c : Clm) : List Value := [.int .i64 c.number, .int .i64 c.frm, .int .i64 c.to, .int .i64 c.holder, .int .i64 c.asked, .bool c.backed]
def Evt.cells (e : Evt) : List Value := [.int .i64 e.kind, .int .i64 e.at_, .int .i64 e.reason]
def Stt.cells (s : Stt) : List Value := [.int .i64 s.state, .int .i64 s.since, .int .i64 s.next]
def Rul.val (r : Rul) : Value := .agg #[.int .i64 r.answer, .int .i64 r.cooling, .int .i64 r.settle, .int .i64 r.reverse]
def Clm.val (c : Clm) : Value := .agg #[.int .i64 c.number, .int .i64 c.frm, .int .i64 c.to, .int .i64 c.holder, .int .i64 c.asked, .bool c.backed]
def Stt.val (s : Stt) : Value := .agg #[.int .i64 s.state, .int .i64 s.since, .int .i64 s.next]

def areValid (r : Rul) : Bool := isIn r.answer 1 1000000 && isIn r.settle 1 1000000 && isIn r.cooling 1 1000000 && isIn r.reverse 1 1000000
def isClaim (c : Clm) : Bool := isIn c.number 0 99999999 && isIn c.frm 0 7 && isIn c.to 0 7 && !decide (c.frm = c.to) && isIn c.holder 0 63 && isIn c.asked 0 10000000
/-- An event that is not valid behind one at last. -/
def badEvt (last : Int) (e : Evt) : Bool :=
  !isIn e.kind 1 6 || !isIn e.at_ last 20000000 || !(if e.kind = 2 ∨ e.kind = 6 then isIn e.reason 1 9 else isIn e.reason 0 0)
def anyBad (last : Int) : List Evt → Bool
  | [] => false
  | e :: l => badEvt last e || anyBad e.at_ l
def valid (r : Rul) (c : Clm) (l : List Evt) : Bool := areValid r && isClaim c && decide (l.length ≤ 20) && !anyBad c.asked l
def ends (r : Rul) (c : Clm) : Int := c.asked + r.answer - 1 + r.settle + r.cooling + r.reverse

/-- The time behind which the k-th event must come. -/
def lastAt (asked : Int) (l : List Evt) (k : Nat) : Int :=
  match k with
  | 0 => asked
  | k + 1 => (l.getD k ⟨0, 0, 0⟩).at_
theorem anyBad_range (l : List Evt) : ∀ asked, ((List.range l.length).any fun k => badEvt (lastAt asked l k) (l.getD k ⟨0, 0, 0⟩)) = anyBad asked l := by
  induction l with
  | nil => intro asked; rfl
  | cons e l ih =>
    intro asked
    rw [List.length_cons, List.range_succ_eq_map, List.any_cons, List.any_map, anyBad]
    congr 1
    rw [← ih e.at_]
    congr 1
    funext k
    cases k <;> simp [lastAt]
theorem areValid_le {r : Rul} (h : areValid r = true) : (1 ≤ r.answer ∧ r.answer ≤ 1000000) ∧ (1 ≤ r.settle ∧ r.settle ≤ 1000000) ∧ (1 ≤ r.cooling ∧ r.cooling ≤ 1000000) ∧ (1 ≤ r.reverse ∧ r.reverse ≤ 1000000) := by
  simp only [areValid, isIn, Bool.and_eq_true, decide_eq_true_eq] at h
  omega
theorem isClaim_le {c : Clm} (h : isClaim c = true) : (0 ≤ c.number ∧ c.number ≤ 99999999) ∧ (0 ≤ c.frm ∧ c.frm ≤ 7) ∧ (0 ≤ c.to ∧ c.to ≤ 7) ∧ c.frm ≠ c.to ∧ (0 ≤ c.holder ∧ c.holder ≤ 63) ∧ (0 ≤ c.asked ∧ c.asked ≤ 10000000) := by
  simp only [isClaim, isIn, Bool.and_eq_true, Bool.not_eq_true', decide_eq_true_eq, decide_eq_false_iff_not] at h
  omega
/-- How long a state lasts by itself. -/
def dueSec (r : Rul) (s : Int) : Option Int :=
  if s = 1 then some r.answer else if s = 2 then some r.settle else if s = 3 then some r.cooling else if s = 4 then some r.reverse else none
def dueNext (s : Int) : Int := if s = 1 then 3 else if s = 2 then 3 else if s = 3 then 4 else 5
def begins (r : Rul) (s since : Int) : Stt := ⟨s, since, match dueSec r s with | some d => since + d | none => -1⟩
/-- The state after an event in a state. -/
def effect (kind s : Int) : Option Int :=
  if kind = 1 ∧ s = 1 then some 3 else if kind = 2 ∧ s = 1 then some 2 else if kind = 3 ∧ s = 2 then some 3 else if kind = 4 ∧ s = 2 then some 6
  else if kind = 5 ∧ s = 1 then some 7 else if kind = 5 ∧ s = 2 then some 7 else if kind = 5 ∧ s = 3 then some 7 else if kind = 6 ∧ s = 4 then some 8 else none
def after (backed : Bool) (s : Int) (e : Evt) : Int × Bool :=
  if e.reason = 1 then (if e.kind = 2 then 6 else (effect e.kind s).getD 0, (effect e.kind s).isSome && !backed) else ((effect e.kind s).getD 0, (effect e.kind s).isSome)
end Go.Proofs.Ytdamipejlfipcaa
