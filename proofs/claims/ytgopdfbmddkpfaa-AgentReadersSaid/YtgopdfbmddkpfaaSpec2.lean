/- Plain functions of subscribers; conditions: none. -/
import Derived.Test.YtgopdfbmddkpfaaSpec
namespace Go.Ag
structure SubD where
  id : Int
  lo : Int
  hi : Int
  days : Int
  hol : List (Int × Int)

def badAt (l : List (Int × Int)) (k : Nat) : Bool :=
  (!inB (l.getD k (0, 0)).1 0 20000 || !inB (l.getD k (0, 0)).2 (l.getD k (0, 0)).1 20000) || (decide (0 < k) && decide ((l.getD k (0, 0)).1 ≤ (l.getD (k - 1) (0, 0)).2 + 1))
def wrongS (s : SubD) : Bool :=
  !inB s.id 0 1000000 || (!inB s.lo 0 20000 || (!inB s.hi s.lo 20000 || (!inB s.days 1 127 || (decide (20 < s.hol.length) || (List.range s.hol.length).any (badAt s.hol)))))
def inHol (day : Int) (h : Int × Int) : Bool := inB day h.1 h.2
def bitB (days day : Int) : Bool := decide (days / 2 ^ (day % 7).toNat % 2 = 1)
def getsB (s : SubD) (day : Int) : Bool := inB day s.lo s.hi && (bitB s.days day && !s.hol.any (inHol day))
theorem badAt_false {l : List (Int × Int)} {k : Nat} (h : badAt l k = false) : (0 ≤ (l.getD k (0, 0)).1 ∧ (l.getD k (0, 0)).1 ≤ 20000) ∧ ((l.getD k (0, 0)).1 ≤ (l.getD k (0, 0)).2 ∧ (l.getD k (0, 0)).2 ≤ 20000) ∧ (0 < k → (l.getD (k - 1) (0, 0)).2 + 1 < (l.getD k (0, 0)).1) := by
  simp [badAt, inB] at h ⊢
  obtain ⟨⟨h1, h2⟩, h3⟩ := h
  refine ⟨h1, h2, fun hk => ?_⟩
  have := h3 hk
  omega
def OkS (s : SubD) : Prop := (0 ≤ s.id ∧ s.id ≤ 1000000) ∧ (0 ≤ s.lo ∧ s.lo ≤ 20000) ∧ (s.lo ≤ s.hi ∧ s.hi ≤ 20000) ∧ (1 ≤ s.days ∧ s.days ≤ 127) ∧ s.hol.length ≤ 20 ∧ ∀ k, k < s.hol.length → badAt s.hol k = false
theorem OkS_iff (s : SubD) : wrongS s = false ↔ OkS s := by
  have hr : (List.range s.hol.length).any (badAt s.hol) = false ↔ ∀ k, k < s.hol.length → badAt s.hol k = false := by
    rw [List.any_eq_false]
    constructor
    · intro h k hk; have := h k (List.mem_range.2 hk); simpa using this
    · intro h k hk; simp [h k (List.mem_range.1 hk)]
  unfold wrongS OkS
  simp only [Bool.or_eq_false_iff, hr, Bool.not_eq_false', inB_iff, decide_eq_false_iff_not, Nat.not_lt]
/-- how many copies from one day to another (count: days to come) -/
def copiesN (s : SubD) (from_ : Int) : Nat → Int
  | 0 => 0
  | n + 1 => copiesN s from_ n + if getsB s (from_ + n) then 1 else 0
def copiesB (s : SubD) (a b : Int) : Int := copiesN s (max a s.lo) (min b s.hi + 1 - max a s.lo).toNat
theorem copiesN_bd (s : SubD) (a : Int) (n : Nat) : 0 ≤ copiesN s a n ∧ copiesN s a n ≤ n := by
  induction n with
  | zero => simp [copiesN]
  | succ n ih => simp only [copiesN]; split <;> omega
def periodB (a b : Int) : Bool := inB a 0 20000 && inB b a 20000
def copiesR (s : SubD) (a b : Int) : Int × Int := if wrongS s then (0, 120) else if !periodB a b then (0, 6) else (copiesB s a b, 0)
end Go.Ag
