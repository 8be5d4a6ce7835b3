/- Plain functions of chapter 11: what the Go functions compute, on lists and integers; conditions: none. -/
namespace Go.Ag
def inB (n a b : Int) : Bool := decide (a ≤ n ∧ n ≤ b)
theorem inB_iff {n a b : Int} : inB n a b = true ↔ a ≤ n ∧ n ≤ b := by simp [inB]

/-- the first place at which p holds, or -1 -/
def findI {α : Type} (p : α → Bool) : List α → Int
  | [] => -1
  | x :: l => if p x then 0 else if findI p l < 0 then -1 else findI p l + 1

theorem findI_hit {α : Type} {p : α → Bool} {l : List α} {k : Nat} (hk : k < l.length) (h0 : ∀ x ∈ l.take k, p x = false) (h1 : p l[k] = true) : findI p l = k := by
  induction l generalizing k with
  | nil => simp at hk
  | cons x l ih =>
    cases k with
    | zero => simp at h1; simp [findI, h1]
    | succ k =>
      have hx : p x = false := h0 x (by simp)
      have := ih (k := k) (by simpa using hk) (fun y hy => h0 y (by simp [hy])) (by simpa using h1)
      simp only [findI, hx, this]
      split
      · contradiction
      · split
        · omega
        · omega
theorem findI_miss {α : Type} {p : α → Bool} {l : List α} (h0 : ∀ x ∈ l, p x = false) : findI p l = -1 := by
  induction l with
  | nil => rfl
  | cons x l ih =>
    have hx : p x = false := h0 x (by simp)
    simp [findI, hx, ih (fun y hy => h0 y (by simp [hy]))]
theorem findI_any {α : Type} (p : α → Bool) (l : List α) : decide (0 ≤ findI p l) = l.any p := by
  induction l with
  | nil => simp [findI]
  | cons x l ih =>
    simp only [findI, List.any_cons]
    by_cases hx : p x = true
    · simp [hx]
    · have hx' : p x = false := by simpa using hx
      simp only [hx', Bool.false_eq_true, if_false, Bool.false_or, ← ih]
      by_cases h : findI p l < 0
      · simp only [if_pos h]; rw [decide_eq_false (by omega), decide_eq_false (by omega)]
      · simp only [if_neg h]; rw [decide_eq_true (by omega), decide_eq_true (by omega)]
theorem findI_bd {α : Type} (p : α → Bool) (l : List α) : -1 ≤ findI p l ∧ findI p l < l.length := by
  induction l with
  | nil => simp [findI]
  | cons x l ih =>
    simp only [findI, List.length_cons]
    split
    · omega
    · split <;> omega

def wrongDay (d : Int × Int) : Bool := !inB d.1 0 10000 || !inB d.2 0 d.1
def checkH (h : List (Int × Int)) : Int := if 400 < h.length then 2 else if h.any wrongDay then 120 else 0
def costsB (over under : Int) : Bool := inB over 0 1000 && (inB under 0 1000 && decide (0 < over + under))
def lossOf (s r q over under : Int) : Int :=
  if 0 ≤ s - r - q then under * (s - r - q) else if 0 < r then over * -(s - r - q) else 0
def OkDay (d : Int × Int) : Prop := 0 ≤ d.1 ∧ d.1 ≤ 10000 ∧ 0 ≤ d.2 ∧ d.2 ≤ d.1
theorem OkDay_iff (d : Int × Int) : wrongDay d = false ↔ OkDay d := by
  simp [wrongDay, inB, OkDay]; omega
theorem checkH_zero {h : List (Int × Int)} : checkH h = 0 ↔ h.length ≤ 400 ∧ ∀ d ∈ h, OkDay d := by
  unfold checkH
  by_cases h1 : 400 < h.length
  · rw [if_pos h1]; constructor
    · intro h; omega
    · intro h; omega
  · rw [if_neg h1]
    by_cases h2 : h.any wrongDay = true
    · rw [if_pos h2]
      constructor
      · intro h; omega
      · rintro ⟨_, hd⟩
        obtain ⟨x, hx, hw⟩ := List.any_eq_true.1 h2
        rw [(OkDay_iff x).2 (hd x hx)] at hw
        cases hw
    · rw [if_neg h2]
      refine ⟨fun _ => ⟨by omega, fun d hd => (OkDay_iff d).1 ?_⟩, fun _ => rfl⟩
      cases hw : wrongDay d
      · rfl
      · exact absurd (List.any_eq_true.2 ⟨d, hd, hw⟩) h2

def totalOf (q over under : Int) : List (Int × Int) → Int
  | [] => 0
  | d :: ds => lossOf d.1 d.2 q over under + totalOf q over under ds

theorem totalOf_snoc (q over under : Int) (l : List (Int × Int)) (d : Int × Int) : totalOf q over under (l ++ [d]) = totalOf q over under l + lossOf d.1 d.2 q over under := by
  induction l with
  | nil => simp [totalOf]
  | cons x l ih => simp only [List.cons_append, totalOf, ih]; omega

theorem lossOf_bd {s r q over under : Int} (hd : OkDay (s, r)) (h5 : 0 ≤ q) (h6 : q ≤ 10000) (h7 : 0 ≤ over) (h8 : over ≤ 1000) (h9 : 0 ≤ under) (h10 : under ≤ 1000) : 0 ≤ lossOf s r q over under ∧ lossOf s r q over under ≤ 10000000 := by
  obtain ⟨h1, h2, h3, h4⟩ := hd
  simp only at h1 h2 h3 h4
  unfold lossOf
  split
  · have a := Int.mul_le_mul h10 (show s - r - q ≤ 10000 by omega) (by omega) (by omega)
    have b := Int.mul_nonneg h9 (show 0 ≤ s - r - q by omega)
    omega
  · split
    · have a := Int.mul_le_mul h8 (show -(s - r - q) ≤ 10000 by omega) (by omega) (by omega)
      have b := Int.mul_nonneg h7 (show 0 ≤ -(s - r - q) by omega)
      omega
    · omega

theorem totalOf_bd {q over under : Int} {l : List (Int × Int)} (hd : ∀ d ∈ l, OkDay d) (h5 : 0 ≤ q) (h6 : q ≤ 10000) (h7 : 0 ≤ over) (h8 : over ≤ 1000) (h9 : 0 ≤ under) (h10 : under ≤ 1000) : 0 ≤ totalOf q over under l ∧ totalOf q over under l ≤ 10000000 * l.length := by
  induction l with
  | nil => simp [totalOf]
  | cons d l ih =>
    have a := lossOf_bd (s := d.1) (r := d.2) (hd d (by simp)) h5 h6 h7 h8 h9 h10
    have b := ih (fun x hx => hd x (by simp [hx]))
    simp only [totalOf, List.length_cons]
    omega
structure TariffD where
  price : Int
  back : Int
  late : Int
  carry : Int
  credit : Int
def badPrice (n : Int) : Bool := !inB n 0 10000
def wrongT (t : TariffD) : Bool := ([t.price, t.back, t.late, t.carry, t.credit].any badPrice || decide (t.price < t.back)) || decide (t.price < t.late)
def OkT (t : TariffD) : Prop := (0 ≤ t.price ∧ t.price ≤ 10000) ∧ (0 ≤ t.back ∧ t.back ≤ t.price) ∧ (0 ≤ t.late ∧ t.late ≤ t.price) ∧ (0 ≤ t.carry ∧ t.carry ≤ 10000) ∧ (0 ≤ t.credit ∧ t.credit ≤ 10000)
theorem OkT_iff (t : TariffD) : wrongT t = false ↔ OkT t := by
  simp [wrongT, badPrice, inB, OkT]; omega

/-- what Settle adds up: supplied, back, after; none where a day is wrong -/
def settleSums : List (Int × Int) → List Int → Option (Int × Int × Int)
  | [], _ => some (0, 0, 0)
  | _ :: _, [] => none
  | d :: h, x :: late =>
    if inB x 0 d.2 then (settleSums h late).map fun s => (d.1 + s.1, d.2 - x + s.2.1, x + s.2.2) else none
theorem settleSums_snoc {h : List (Int × Int)} {late : List Int} (hlen : late.length = h.length) {k : Nat} (hk : k < h.length) (hk2 : k < late.length) {a b c : Int} (hp : settleSums (h.take k) (late.take k) = some (a, b, c)) (hin : inB late[k] 0 h[k].2 = true) :
    settleSums (h.take (k + 1)) (late.take (k + 1)) = some (a + h[k].1, b + (h[k].2 - late[k]), c + late[k]) := by
  induction h generalizing late k a b c with
  | nil => simp at hk
  | cons d h ih =>
    cases late with
    | nil => simp at hk2
    | cons x late =>
      cases k with
      | zero =>
        simp [settleSums] at hp ⊢
        obtain ⟨rfl, rfl, rfl⟩ := hp
        simp at hin
        simp [hin]
      | succ k =>
        simp only [List.take_succ_cons, settleSums] at hp ⊢
        by_cases hx : inB x 0 d.2 = true
        · rw [if_pos hx] at hp ⊢
          cases hs : settleSums (h.take k) (late.take k) with
          | none => rw [hs] at hp; simp at hp
          | some s =>
            obtain ⟨a', b', c'⟩ := s
            rw [hs] at hp
            simp at hp
            obtain ⟨rfl, rfl, rfl⟩ := hp
            have := ih (by simpa using hlen) (by simpa using hk) (by simpa using hk2) hs (by simpa using hin)
            rw [this]
            simp
            omega
        · rw [if_neg hx] at hp; cases hp
theorem settleSums_bad {h : List (Int × Int)} {late : List Int} {k : Nat} (hk : k < h.length) (hk2 : k < late.length) (hin : inB late[k] 0 h[k].2 = false) : settleSums h late = none := by
  induction h generalizing late k with
  | nil => simp at hk
  | cons d h ih =>
    cases late with
    | nil => simp at hk2
    | cons x late =>
      cases k with
      | zero => simp at hin; simp [settleSums, hin]
      | succ k =>
        simp only [settleSums]
        have := ih (late := late) (k := k) (by simpa using hk) (by simpa using hk2) (by simpa using hin)
        rw [this]; simp
theorem settleSums_bd {h : List (Int × Int)} {late : List Int} (hd : ∀ d ∈ h, OkDay d) {a b c : Int} (hs : settleSums h late = some (a, b, c)) :
    (0 ≤ a ∧ a ≤ 10000 * h.length) ∧ (0 ≤ b ∧ b ≤ 10000 * h.length) ∧ (0 ≤ c ∧ c ≤ 10000 * h.length) := by
  induction h generalizing late a b c with
  | nil => cases late <;> simp [settleSums] at hs <;> (obtain ⟨rfl, rfl, rfl⟩ := hs; simp)
  | cons d h ih =>
    cases late with
    | nil => simp [settleSums] at hs
    | cons x late =>
      simp only [settleSums] at hs
      by_cases hx : inB x 0 d.2 = true
      · rw [if_pos hx] at hs
        cases hr : settleSums h late with
        | none => rw [hr] at hs; simp at hs
        | some s =>
          obtain ⟨a', b', c'⟩ := s
          rw [hr] at hs
          simp at hs
          obtain ⟨rfl, rfl, rfl⟩ := hs
          have := ih (fun y hy => hd y (by simp [hy])) hr
          have ok := hd d (by simp)
          have hx' := inB_iff.1 hx
          unfold OkDay at ok
          simp only [List.length_cons]
          omega
      · rw [if_neg hx] at hs; cases hs
def linesOf (t : TariffD) (s : Int × Int × Int) : List (Int × Int × Int) := [(1, s.1, s.1 * t.price), (2, s.2.1, s.2.1 * -t.back), (3, s.2.2, s.2.2 * -t.late)]
def sumLines : List (Int × Int × Int) → Int
  | [] => 0
  | x :: l => x.2.2 + sumLines l
/-- error, lines, sum -/
def settleD (t : TariffD) (h : List (Int × Int)) (late : List Int) : Int × List (Int × Int × Int) × Int :=
  if wrongT t then (1, [], 0)
  else if checkH h ≠ 0 then (checkH h, [], 0)
  else if late.length ≠ h.length then (120, [], 0)
  else match settleSums h late with
    | none => (120, [], 0)
    | some s => (0, linesOf t s, sumLines (linesOf t s))
end Go.Ag
