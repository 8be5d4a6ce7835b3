/- Plain laws of supplies: covers, least costs, schedules, prices; conditions: a supply that is allowed. -/
set_option linter.unusedSimpArgs false
set_option linter.unusedVariables false
namespace Go.Rl
def inB (n a b : Int) : Bool := decide (a ≤ n ∧ n ≤ b)
theorem inB_iff {n a b : Int} : inB n a b = true ↔ a ≤ n ∧ n ≤ b := by simp [inB]
def sumN (f : Nat → Int) : Nat → Int
  | 0 => 0
  | n + 1 => sumN f n + f n
theorem sumN_congr {f g : Nat → Int} {n : Nat} (h : ∀ i, i < n → f i = g i) : sumN f n = sumN g n := by
  induction n with
  | zero => rfl
  | succ n ih => simp only [sumN]; rw [ih (fun i hi => h i (by omega)), h n (by omega)]
theorem sumN_bd {f : Nat → Int} {n : Nat} {B : Int} (h : ∀ i, i < n → 0 ≤ f i ∧ f i ≤ B) : 0 ≤ sumN f n ∧ sumN f n ≤ B * n := by
  induction n with
  | zero => simp [sumN]
  | succ n ih =>
    have h1 := ih (fun i hi => h i (by omega))
    have h2 := h n (by omega)
    simp only [sumN]
    have : B * ((n + 1 : Nat) : Int) = B * n + B := by rw [Int.natCast_add, Int.mul_add]; simp
    omega
theorem sumN_front (f : Nat → Int) (n : Nat) : sumN f (n + 1) = f 0 + sumN (fun i => f (i + 1)) n := by
  induction n with
  | zero => simp [sumN]
  | succ n ih => rw [sumN, ih]; simp only [sumN]; omega
theorem sumN_rev (f : Nat → Int) (n : Nat) : sumN (fun i => f (n - i)) (n + 1) = sumN f (n + 1) := by
  induction n with
  | zero => rfl
  | succ n ih =>
    rw [sumN_front]
    have : sumN (fun i => f (n + 1 - (i + 1))) (n + 1) = sumN (fun i => f (n - i)) (n + 1) := sumN_congr fun i _ => by rw [show n + 1 - (i + 1) = n - i by omega]
    rw [this, ih, show n + 1 - 0 = n + 1 by omega, sumN, sumN, sumN]
    omega
structure SupD where
  need : List Int
  order : List Int
  keep : Int
  room : Int
def nd (l : List Int) (i : Nat) : Int := l.getD i 0
theorem nd_get {l : List Int} {i : Nat} (h : i < l.length) : nd l i = l[i] := by simp [nd, h]
def errS (s : SupD) : Int :=
  if !inB s.need.length 1 20 || decide (s.order.length ≠ s.need.length) then 2
  else if s.need.any (fun n => !inB n 0 1000) || (s.order.any (fun n => !inB n 0 1000000) || (!inB s.keep 0 1000 || !inB s.room 0 100000)) then 6 else 0
structure SupOk (s : SupD) : Prop where
  n0 : 1 ≤ s.need.length
  n1 : s.need.length ≤ 20
  ol : s.order.length = s.need.length
  nb : ∀ i, 0 ≤ nd s.need i ∧ nd s.need i ≤ 1000
  ob : ∀ i, 0 ≤ nd s.order i ∧ nd s.order i ≤ 1000000
  k0 : 0 ≤ s.keep
  k1 : s.keep ≤ 1000
  r0 : 0 ≤ s.room
  r1 : s.room ≤ 100000
theorem any_in {l : List Int} {b : Int} (hb : 0 ≤ b) (h : l.any (fun n => !inB n 0 b) = false) (i : Nat) : 0 ≤ nd l i ∧ nd l i ≤ b := by
  by_cases hi : i < l.length
  · rw [nd_get hi]
    have := List.any_eq_false.1 h l[i] (List.getElem_mem hi)
    exact inB_iff.1 (by simpa using this)
  · unfold nd
    rw [List.getD_eq_getElem?_getD, List.getElem?_eq_none (by omega)]
    simp [hb]
theorem sup_ok {s : SupD} (h : errS s = 0) : SupOk s := by
  unfold errS at h
  split at h
  · cases h
  · rename_i h1
    split at h
    · cases h
    · rename_i h2
      simp only [Bool.or_eq_true, not_or, Bool.not_eq_true', Bool.not_eq_true, decide_eq_true_eq, Decidable.not_not, Bool.not_eq_false'] at h1 h2
      have a := inB_iff.1 (by simpa using h1.1)
      have b := inB_iff.1 (by simpa using h2.2.2.1)
      have c := inB_iff.1 (by simpa using h2.2.2.2)
      exact ⟨by omega, by omega, by simpa using h1.2, any_in (by omega) h2.1, any_in (by omega) h2.2.1, b.1, b.2, c.1, c.2⟩
/-- what is kept for the last j weeks ahead of a week -/
def kept (s : SupD) (tp : Nat) (j : Nat) : Int := sumN (fun i => nd s.need (tp - 1 - i)) j
theorem kept_s (s : SupD) (tp j : Nat) : kept s tp (j + 1) = kept s tp j + nd s.need (tp - 1 - j) := rfl
theorem kept_bd {s : SupD} (h : SupOk s) (tp j : Nat) : 0 ≤ kept s tp j ∧ kept s tp j ≤ 1000 * j := sumN_bd fun i _ => h.nb _
/-- the first j of a cover's sums are within the room -/
def roomJ (s : SupD) (tp : Nat) (j : Nat) : Bool := (List.range j).all fun i => decide (kept s tp (i + 1) ≤ s.room)
theorem roomJ_s (s : SupD) (tp j : Nat) : roomJ s tp (j + 1) = (roomJ s tp j && decide (kept s tp (j + 1) ≤ s.room)) := by
  unfold roomJ; rw [List.range_succ, List.all_append]; simp
theorem roomJ_lt {s : SupD} {tp j k : Nat} (h : roomJ s tp k = true) (hj : j < k) : kept s tp (j + 1) ≤ s.room := by
  have := List.all_eq_true.1 h j (List.mem_range.2 hj)
  simpa using this
theorem roomJ_no {s : SupD} {tp j k : Nat} (h : ¬ kept s tp (j + 1) ≤ s.room) (hj : j < k) : roomJ s tp k = false := by
  cases hb : roomJ s tp k
  · rfl
  · exact absurd (roomJ_lt hb hj) h
def costJ (s : SupD) (fr tp : Nat) (j : Nat) : Int := nd s.order fr + sumN (fun i => kept s tp (i + 1) * s.keep) j
theorem costJ_s (s : SupD) (fr tp j : Nat) : costJ s fr tp (j + 1) = costJ s fr tp j + kept s tp (j + 1) * s.keep := by unfold costJ; rw [sumN]; omega
theorem kk_bd {s : SupD} (h : SupOk s) (tp : Nat) {j : Nat} (hj : j ≤ 20) : 0 ≤ kept s tp j * s.keep ∧ kept s tp j * s.keep ≤ 20000000 := by
  have h1 := kept_bd h tp j
  refine ⟨Int.mul_nonneg h1.1 h.k0, ?_⟩
  have : kept s tp j * s.keep ≤ 20000 * 1000 := Int.mul_le_mul (by omega) h.k1 h.k0 (by omega)
  omega
theorem costJ_bd {s : SupD} (h : SupOk s) (fr tp : Nat) {j : Nat} (hj : j ≤ 19) : 0 ≤ costJ s fr tp j ∧ costJ s fr tp j ≤ 401000000 := by
  unfold costJ
  have h1 := h.ob fr
  have h2 := sumN_bd (f := fun i => kept s tp (i + 1) * s.keep) (n := j) (B := 20000000) (fun i hi => kk_bd h tp (by omega))
  have : (20000000 : Int) * (j : Int) ≤ 20000000 * 19 := by omega
  omega
/-- what an order in a week costs that is for it and the weeks up tp another one -/
def cov (s : SupD) (fr tp : Nat) : Option Int := if roomJ s tp (tp - 1 - fr) then some (costJ s fr tp (tp - 1 - fr)) else none
theorem cov_next (s : SupD) (fr : Nat) : cov s fr (fr + 1) = some (nd s.order fr) := by
  unfold cov
  rw [show fr + 1 - 1 - fr = 0 by omega, if_pos (by simp [roomJ])]
  simp [costJ, sumN]
theorem cov_bd {s : SupD} (h : SupOk s) {fr tp : Nat} {c : Int} (ht : tp ≤ 20) (hc : cov s fr tp = some c) : 0 ≤ c ∧ c ≤ 401000000 := by
  unfold cov at hc
  split at hc
  · injection hc with hc
    rw [← hc]
    exact costJ_bd h fr tp (by omega)
  · cases hc
/-- as the reference sums -/
theorem cov_ref {s : SupD} (h : SupOk s) {fr tp : Nat} (hf : fr < tp) :
    cov s fr tp = if (List.range (tp - fr)).all (fun i => decide (kept s tp (tp - 1 - fr - i) ≤ s.room)) then some (nd s.order fr + sumN (fun i => kept s tp (tp - 1 - fr - i) * s.keep) (tp - fr)) else none := by
  obtain ⟨d, hd⟩ : ∃ d, d = tp - 1 - fr := ⟨_, rfl⟩
  have hd2 : tp - fr = d + 1 := by omega
  rw [hd2, ← hd]
  unfold cov costJ
  rw [← hd]
  have e1 : sumN (fun i => kept s tp (d - i) * s.keep) (d + 1) = sumN (fun i => kept s tp (i + 1) * s.keep) d := by
    rw [sumN_rev (fun i => kept s tp i * s.keep), sumN_front]
    simp [kept, sumN]
  have e2 : roomJ s tp d = (List.range (d + 1)).all (fun i => decide (kept s tp (d - i) ≤ s.room)) := by
    rw [Bool.eq_iff_iff]
    unfold roomJ
    rw [List.all_eq_true, List.all_eq_true]
    constructor
    · intro hh i hi
      have hi := List.mem_range.1 hi
      by_cases e : i = d
      · subst e; simp [kept, sumN, h.r0]
      · have := hh (d - i - 1) (List.mem_range.2 (by omega))
        rw [show d - i - 1 + 1 = d - i by omega] at this
        exact this
    · intro hh i hi
      have hi := List.mem_range.1 hi
      have := hh (d - (i + 1)) (List.mem_range.2 (by omega))
      rw [show d - (d - (i + 1)) = i + 1 by omega] at this
      exact this
  rw [e1, e2]
/-- a step of the least costs: one order more -/
def stepM (v : Int) (o : Option Int) (x : Int) : Int :=
  match o with
  | none => v
  | some c => if v < 0 ∨ x + c < v then x + c else v
/-- the least of so many ways -/
def minW (c : Nat → Option Int) (x : Nat → Int) : Nat → Int
  | 0 => -1
  | m + 1 => stepM (minW c x m) (c m) (x m)
theorem minW_congr {c c' : Nat → Option Int} {x x' : Nat → Int} {m : Nat} (h1 : ∀ i, i < m → c i = c' i) (h2 : ∀ i, i < m → x i = x' i) : minW c x m = minW c' x' m := by
  induction m with
  | zero => rfl
  | succ m ih =>
    simp only [minW]
    rw [ih (fun i hi => h1 i (by omega)) (fun i hi => h2 i (by omega)), h1 m (by omega), h2 m (by omega)]
theorem minW_from (c : Nat → Option Int) (x : Nat → Int) (m : Nat) : minW c x m = -1 ∨ ∃ i, i < m ∧ ∃ v, c i = some v ∧ minW c x m = x i + v := by
  induction m with
  | zero => exact .inl rfl
  | succ m ih =>
    simp only [minW]
    cases hc : c m with
    | none =>
      simp only [stepM]
      rcases ih with h | ⟨i, hi, v, h1, h2⟩
      · exact .inl h
      · exact .inr ⟨i, by omega, v, h1, h2⟩
    | some v =>
      simp only [stepM]
      split
      · exact .inr ⟨m, by omega, v, hc, rfl⟩
      · rcases ih with h | ⟨i, hi, v', h1, h2⟩
        · exact .inl h
        · exact .inr ⟨i, by omega, v', h1, h2⟩
theorem minW_low {c : Nat → Option Int} {x : Nat → Int} {m : Nat} (hx : ∀ i v, i < m → c i = some v → 0 ≤ x i + v) : ∀ i v, i < m → c i = some v → 0 ≤ minW c x m ∧ minW c x m ≤ x i + v := by
  induction m with
  | zero => intro i v hi; omega
  | succ m ih =>
    intro i v hi hc
    have ih := ih (fun i v hi => hx i v (by omega))
    simp only [minW]
    cases hm : c m with
    | none =>
      simp only [stepM]
      have : i ≠ m := by intro e; subst e; rw [hm] at hc; cases hc
      exact ih i v (by omega) hc
    | some v' =>
      have hn := hx m v' (by omega) hm
      simp only [stepM]
      by_cases e : i = m
      · subst e
        rw [hm] at hc
        injection hc with hc
        subst hc
        split
        · exact ⟨hn, Int.le_refl _⟩
        · omega
      · have := ih i v (by omega) hc
        split
        · omega
        · exact this
end Go.Rl
namespace Go.Rl
/-- the least costs of the weeks ahead of each of the first weeks -/
def leaL (s : SupD) : Nat → List Int
  | 0 => [0]
  | k + 1 => leaL s k ++ [minW (fun i => cov s i (k + 1)) (fun i => (leaL s k).getD i 0) (k + 1)]
def leaV (s : SupD) (k : Nat) : Int := (leaL s k).getD k 0
theorem leaL_len (s : SupD) (k : Nat) : (leaL s k).length = k + 1 := by
  induction k with
  | zero => rfl
  | succ k ih => simp [leaL, ih]
theorem getD_app {l m : List Int} {i : Nat} (h : i < l.length) : (l ++ m).getD i 0 = l.getD i 0 := by
  simp [List.getD_eq_getElem?_getD, List.getElem?_append_left h]
theorem leaL_get (s : SupD) (k i : Nat) (h : i ≤ k) : (leaL s k).getD i 0 = leaV s i := by
  induction k with
  | zero => obtain rfl : i = 0 := by omega
            rfl
  | succ k ih =>
    by_cases e : i = k + 1
    · subst e; rfl
    · rw [leaL, getD_app (by rw [leaL_len]; omega)]
      exact ih (by omega)
theorem leaV_0 (s : SupD) : leaV s 0 = 0 := rfl
theorem leaV_s (s : SupD) (k : Nat) : leaV s (k + 1) = minW (fun i => cov s i (k + 1)) (leaV s) (k + 1) := by
  have h : (leaL s (k + 1)).getD (k + 1) 0 = minW (fun i => cov s i (k + 1)) (fun i => (leaL s k).getD i 0) (k + 1) := by
    rw [leaL, List.getD_eq_getElem?_getD, List.getElem?_append_right (by rw [leaL_len]; omega), leaL_len]
    simp
  unfold leaV
  rw [h]
  exact minW_congr (fun _ _ => rfl) (fun i hi => by rw [leaL_get s k i (by omega)]; rfl)
theorem leaV_nn {s : SupD} (h : SupOk s) : ∀ k, k ≤ 20 → 0 ≤ leaV s k := by
  have key : ∀ m k, k ≤ m → k ≤ 20 → 0 ≤ leaV s k := by
    intro m
    induction m with
    | zero => intro k hk _; obtain rfl : k = 0 := by omega
              simp [leaV_0]
    | succ m ih =>
      intro k hk h20
      cases k with
      | zero => simp [leaV_0]
      | succ k =>
        rw [leaV_s]
        exact (minW_low (fun i v hi hc => by have := ih i (by omega) (by omega); have := (cov_bd h (by omega) hc).1; omega) k _ (by omega) (cov_next s k)).1
  exact fun k hk => key k k (Nat.le_refl _) hk
theorem leaV_low {s : SupD} (h : SupOk s) {i k : Nat} {v : Int} (hk : k ≤ 20) (hi : i < k) (hc : cov s i k = some v) : leaV s k ≤ leaV s i + v := by
  cases k with
  | zero => omega
  | succ k =>
    rw [leaV_s]
    exact (minW_low (x := leaV s) (fun i v hi hc => by have := leaV_nn h i (by omega); have := (cov_bd h (by omega) hc).1; omega) i v hi hc).2
theorem leaV_from {s : SupD} (h : SupOk s) {k : Nat} (hk : k ≤ 20) (h1 : 1 ≤ k) : ∃ i, i < k ∧ ∃ v, cov s i k = some v ∧ leaV s k = leaV s i + v := by
  cases k with
  | zero => omega
  | succ k =>
    have hn := leaV_nn h (k + 1) hk
    rw [leaV_s] at hn ⊢
    rcases minW_from (fun i => cov s i (k + 1)) (leaV s) (k + 1) with e | e
    · omega
    · exact e
theorem leaV_bd {s : SupD} (h : SupOk s) : ∀ k, k ≤ 20 → leaV s k ≤ 1000000 * k := by
  intro k
  induction k with
  | zero => intro _; simp [leaV_0]
  | succ k ih =>
    intro hk
    have := leaV_low h hk (show k < k + 1 by omega) (cov_next s k)
    have := ih (by omega)
    have := (h.ob k).2
    omega
/-- the least costs of the last weeks, from each one on -/
def resL (s : SupD) (n : Nat) : Nat → List Int
  | 0 => [0]
  | j + 1 => minW (fun m => cov s (n - 1 - j) (n - j + m)) (fun m => (resL s n j).getD m 0) (j + 1) :: resL s n j
def resV (s : SupD) (n i : Nat) : Int := (resL s n (n - i)).getD 0 0
theorem resL_len (s : SupD) (n j : Nat) : (resL s n j).length = j + 1 := by
  induction j with
  | zero => rfl
  | succ j ih => simp [resL, ih]
theorem resL_get (s : SupD) (n : Nat) : ∀ j m, m ≤ j → j ≤ n → (resL s n j).getD m 0 = resV s n (n - j + m) := by
  intro j
  induction j with
  | zero =>
    intro m hm _
    obtain rfl : m = 0 := by omega
    unfold resV
    rw [show n - (n - 0 + 0) = 0 by omega]
  | succ j ih =>
    intro m hm hj
    cases m with
    | zero =>
      unfold resV
      rw [show n - (n - (j + 1) + 0) = j + 1 by omega]
    | succ m =>
      have : (resL s n (j + 1)).getD (m + 1) 0 = (resL s n j).getD m 0 := by simp [resL]
      rw [this, ih m (by omega) (by omega)]
      congr 1
      omega
theorem resV_n (s : SupD) (n : Nat) : resV s n n = 0 := by unfold resV; rw [Nat.sub_self]; rfl
theorem resV_s (s : SupD) {n i : Nat} (hi : i < n) : resV s n i = minW (fun m => cov s i (i + 1 + m)) (fun m => resV s n (i + 1 + m)) (n - i) := by
  obtain ⟨j, hj⟩ : ∃ j, n - i = j + 1 := ⟨n - i - 1, by omega⟩
  unfold resV
  rw [hj, show (resL s n (j + 1)).getD 0 0 = minW (fun m => cov s (n - 1 - j) (n - j + m)) (fun m => (resL s n j).getD m 0) (j + 1) from by simp [resL]]
  refine minW_congr (fun m hm => ?_) (fun m hm => ?_)
  · rw [show n - 1 - j = i by omega, show n - j + m = i + 1 + m by omega]
  · exact (resL_get s n j m (by omega) (by omega)).trans (by rw [show n - j + m = i + 1 + m by omega]; rfl)
theorem resV_nn {s : SupD} (h : SupOk s) {n : Nat} (hn : n ≤ 20) : ∀ i, i ≤ n → 0 ≤ resV s n i := by
  have key : ∀ m i, n - i ≤ m → i ≤ n → 0 ≤ resV s n i := by
    intro m
    induction m with
    | zero => intro i hi hn; obtain rfl : i = n := by omega
              simp [resV_n]
    | succ m ih =>
      intro i hi hin
      by_cases e : i = n
      · subst e; simp [resV_n]
      · rw [resV_s s (by omega)]
        exact (minW_low (fun m' v hm hc => by have := ih (i + 1 + m') (by omega) (by omega); have := (cov_bd h (by omega) hc).1; omega) 0 _ (by omega) (cov_next s i)).1
  exact fun i hi => key (n - i) i (Nat.le_refl _) hi
theorem resV_low {s : SupD} (h : SupOk s) {n i k : Nat} {v : Int} (hn : n ≤ 20) (hi : i < k) (hk : k ≤ n) (hc : cov s i k = some v) : resV s n i ≤ resV s n k + v := by
  rw [resV_s s (by omega)]
  obtain ⟨m, hm⟩ : ∃ m, k = i + 1 + m := ⟨k - i - 1, by omega⟩
  subst hm
  exact (minW_low (x := fun m => resV s n (i + 1 + m)) (fun m' v hm hc => by have := resV_nn h hn (i + 1 + m') (by omega); have := (cov_bd h (by omega) hc).1; omega) m v (by omega) hc).2
theorem resV_from {s : SupD} (h : SupOk s) {n i : Nat} (hn : n ≤ 20) (hi : i < n) : ∃ k, i < k ∧ k ≤ n ∧ ∃ v, cov s i k = some v ∧ resV s n i = resV s n k + v := by
  have hnn := resV_nn h hn i (by omega)
  rw [resV_s s hi] at hnn ⊢
  rcases minW_from (fun m => cov s i (i + 1 + m)) (fun m => resV s n (i + 1 + m)) (n - i) with e | ⟨m, hm, v, h1, h2⟩
  · omega
  · exact ⟨i + 1 + m, by omega, by omega, v, h1, h2⟩
theorem resV_bd {s : SupD} (h : SupOk s) {n : Nat} (hn : n ≤ 20) : ∀ j, j ≤ n → resV s n (n - j) ≤ 1000000 * j := by
  intro j
  induction j with
  | zero => intro _; rw [Nat.sub_zero, resV_n]; simp
  | succ j ih =>
    intro hj
    have := resV_low h hn (show n - (j + 1) < n - (j + 1) + 1 by omega) (by omega) (cov_next s (n - (j + 1)))
    rw [show n - (j + 1) + 1 = n - j by omega] at this
    have := ih (by omega)
    have := (h.ob (n - (j + 1))).2
    omega
theorem resV_le {s : SupD} (h : SupOk s) {n i : Nat} (hn : n ≤ 20) (hi : i ≤ n) : resV s n i ≤ 20000000 := by
  have := resV_bd h hn (n - i) (by omega)
  rw [show n - (n - i) = i by omega] at this
  omega
theorem lea_res {s : SupD} (h : SupOk s) {n : Nat} (hn : n ≤ 20) : leaV s n = resV s n 0 := by
  have h1 : ∀ m k, k ≤ m → k ≤ n → resV s n 0 ≤ leaV s k + resV s n k := by
    intro m
    induction m with
    | zero => intro k hk _; obtain rfl : k = 0 := by omega
              rw [leaV_0]; omega
    | succ m ih =>
      intro k hk hkn
      cases k with
      | zero => rw [leaV_0]; omega
      | succ k =>
        obtain ⟨i, hi, v, hc, e⟩ := leaV_from h (k := k + 1) (by omega) (by omega)
        have := resV_low h hn hi hkn hc
        have := ih i (by omega) (by omega)
        omega
  have h2 : ∀ m k, n - k ≤ m → k ≤ n → leaV s n ≤ leaV s k + resV s n k := by
    intro m
    induction m with
    | zero => intro k hk hkn; obtain rfl : k = n := by omega
              rw [resV_n]; omega
    | succ m ih =>
      intro k hk hkn
      by_cases e : k = n
      · subst e; rw [resV_n]; omega
      · obtain ⟨k', hk1, hk2, v, hc, e⟩ := resV_from h hn (i := k) (by omega)
        have := leaV_low h (by omega) hk1 hc
        have := ih k' (by omega) (by omega)
        omega
  have a := h1 n n (Nat.le_refl _) (Nat.le_refl _)
  have b := h2 n 0 (by omega) (by omega)
  rw [resV_n] at a
  rw [leaV_0] at b
  omega
/-- whether another order may come in a week, so that all costs least -/
def fitB (s : SupD) (n i k : Nat) : Bool :=
  match cov s i k with
  | none => false
  | some c => decide (c + resV s n k = resV s n i)
theorem fit_ex {s : SupD} (h : SupOk s) {n i : Nat} (hn : n ≤ 20) (hi : i < n) : ∃ k, i < k ∧ k ≤ n ∧ fitB s n i k = true := by
  obtain ⟨k, h1, h2, v, hc, e⟩ := resV_from h hn hi
  exact ⟨k, h1, h2, by unfold fitB; rw [hc]; simp; omega⟩
/-- the first week from one on that fits -/
def nxtF (s : SupD) (n i : Nat) : Nat → Nat → Nat
  | 0, k => k
  | f + 1, k => if fitB s n i k then k else nxtF s n i f (k + 1)
def nxt (s : SupD) (n i : Nat) : Nat := nxtF s n i (n - i) (i + 1)
theorem nxtF_go (s : SupD) (n i f k : Nat) : nxtF s n i (f + 1) k = if fitB s n i k then k else nxtF s n i f (k + 1) := rfl
theorem nxtF_spec {s : SupD} {n i : Nat} : ∀ f k k0, k ≤ k0 → k0 < k + f → fitB s n i k0 = true → (∀ j, k ≤ j → j < k0 → fitB s n i j = false) → nxtF s n i f k = k0 := by
  intro f
  induction f with
  | zero => intro k k0 h1 h2; omega
  | succ f ih =>
    intro k k0 h1 h2 h3 h4
    rw [nxtF_go]
    by_cases e : k = k0
    · subst e; rw [if_pos h3]
    · rw [if_neg (by rw [h4 k (Nat.le_refl _) (by omega)]; simp)]
      exact ih (k + 1) k0 (by omega) (by omega) h3 (fun j a b => h4 j (by omega) b)
theorem first_fit {P : Nat → Bool} : ∀ d a, (∃ k, a ≤ k ∧ k ≤ a + d ∧ P k = true) → ∃ k, a ≤ k ∧ k ≤ a + d ∧ P k = true ∧ ∀ j, a ≤ j → j < k → P j = false := by
  intro d
  induction d with
  | zero => rintro a ⟨k, h1, h2, h3⟩; exact ⟨k, h1, h2, h3, fun j a b => by omega⟩
  | succ d ih =>
    rintro a ⟨k, h1, h2, h3⟩
    by_cases h : P a = true
    · exact ⟨a, Nat.le_refl _, by omega, h, fun j a b => by omega⟩
    · have hk : a + 1 ≤ k := by
        by_cases e : k = a
        · subst e; exact absurd h3 h
        · omega
      obtain ⟨k', q1, q2, q3, q4⟩ := ih (a + 1) ⟨k, hk, by omega, h3⟩
      refine ⟨k', by omega, by omega, q3, fun j ja jb => ?_⟩
      by_cases e : j = a
      · subst e; simpa using h
      · exact q4 j (by omega) jb
theorem nxt_ok {s : SupD} (h : SupOk s) {n i : Nat} (hn : n ≤ 20) (hi : i < n) : i < nxt s n i ∧ nxt s n i ≤ n ∧ fitB s n i (nxt s n i) = true ∧ ∀ j, i < j → j < nxt s n i → fitB s n i j = false := by
  obtain ⟨k, h1, h2, h3⟩ := fit_ex h hn hi
  obtain ⟨k', q1, q2, q3, q4⟩ := first_fit (P := fitB s n i) (n - i - 1) (i + 1) ⟨k, by omega, by omega, h3⟩
  have e : nxt s n i = k' := nxtF_spec (n - i) (i + 1) k' q1 (by omega) q3 q4
  rw [e]
  exact ⟨by omega, by omega, q3, fun j a b => q4 j (by omega) b⟩
/-- the cheapest schedule from a week on -/
def schL (s : SupD) (n : Nat) : Nat → Nat → List Nat
  | 0, _ => []
  | f + 1, i => if fitB s n i n then [i] else i :: schL s n f (nxt s n i)
def schV (s : SupD) (n i : Nat) : List Nat := if i < n then schL s n (n - i) i else []
theorem schL_stable {s : SupD} (h : SupOk s) {n : Nat} (hn : n ≤ 20) : ∀ f f' i, i < n → n ≤ i + f → n ≤ i + f' → schL s n f i = schL s n f' i := by
  intro f
  induction f with
  | zero => intro f' i h1 h2; omega
  | succ f ih =>
    intro f' i h1 h2 h3
    cases f' with
    | zero => omega
    | succ f' =>
      simp only [schL]
      split
      · rfl
      · rename_i hf
        obtain ⟨q1, q2, q3, _⟩ := nxt_ok h hn h1
        have : nxt s n i ≠ n := by intro e; rw [e] at q3; exact hf q3
        rw [ih f' (nxt s n i) (by omega) (by omega) (by omega)]
theorem schV_n (s : SupD) (n : Nat) : schV s n n = [] := by unfold schV; simp
theorem schV_s {s : SupD} (h : SupOk s) {n i : Nat} (hn : n ≤ 20) (hi : i < n) : schV s n i = if fitB s n i n then [i] else i :: schV s n (nxt s n i) := by
  unfold schV
  rw [if_pos hi]
  obtain ⟨j, hj⟩ : ∃ j, n - i = j + 1 := ⟨n - i - 1, by omega⟩
  rw [hj]
  simp only [schL]
  split
  · rfl
  · rename_i hf
    obtain ⟨q1, q2, q3, _⟩ := nxt_ok h hn hi
    have : nxt s n i ≠ n := by intro e; rw [e] at q3; exact hf q3
    rw [if_pos (by omega), schL_stable h hn j (n - nxt s n i) (nxt s n i) (by omega) (by omega) (by omega)]
theorem schV_head {s : SupD} (h : SupOk s) {n i : Nat} (hn : n ≤ 20) (hi : i < n) : ∃ r, schV s n i = i :: r := by
  rw [schV_s h hn hi]
  split
  · exact ⟨[], rfl⟩
  · exact ⟨_, rfl⟩
end Go.Rl
namespace Go.Rl
def upF {α : Type} (f : Nat → α) (k : Nat) : List α := (List.range k).map f
theorem upF_succ {α : Type} (f : Nat → α) (k : Nat) : upF f (k + 1) = upF f k ++ [f k] := by simp [upF, List.range_succ]
theorem upF_len {α : Type} (f : Nat → α) (k : Nat) : (upF f k).length = k := by simp [upF]
theorem upF_get {α : Type} (f : Nat → α) (k i : Nat) (h : i < (upF f k).length) : (upF f k)[i] = f i := by simp [upF]
/-- the weeks of the cheapest schedule, one by one -/
def sI (s : SupD) (n : Nat) : Nat → Nat
  | 0 => 0
  | j + 1 => nxt s n (sI s n j)
def SchP (s : SupD) (n j : Nat) : Prop := ∀ j', j' < j → fitB s n (sI s n j') n = false
theorem sI_bd {s : SupD} (h : SupOk s) {n : Nat} (hn : n ≤ 20) (h1 : 1 ≤ n) : ∀ j, SchP s n j → j ≤ sI s n j ∧ sI s n j < n := by
  intro j
  induction j with
  | zero => intro _; exact ⟨Nat.zero_le _, by show 0 < n; omega⟩
  | succ j ih =>
    intro hp
    obtain ⟨a, b⟩ := ih (fun j' hj => hp j' (by omega))
    obtain ⟨q1, q2, q3, _⟩ := nxt_ok h hn b
    have hf := hp j (by omega)
    have : nxt s n (sI s n j) ≠ n := by intro e; rw [e] at q3; rw [hf] at q3; cases q3
    exact ⟨by show j + 1 ≤ nxt s n (sI s n j); omega, by show nxt s n (sI s n j) < n; omega⟩
theorem sch_pre {s : SupD} (h : SupOk s) {n : Nat} (hn : n ≤ 20) (h1 : 1 ≤ n) : ∀ j, SchP s n j → schV s n 0 = upF (sI s n) j ++ schV s n (sI s n j) := by
  intro j
  induction j with
  | zero => intro _; rfl
  | succ j ih =>
    intro hp
    have hp' : SchP s n j := fun j' hj => hp j' (by omega)
    have hb := (sI_bd h hn h1 j hp').2
    rw [ih hp', upF_succ, List.append_assoc]
    congr 1
    rw [schV_s h hn hb, if_neg (by rw [hp j (by omega)]; simp)]
    rfl
theorem sch_end {s : SupD} (h : SupOk s) {n : Nat} (hn : n ≤ 20) (h1 : 1 ≤ n) {j : Nat} (hp : SchP s n j) (hf : fitB s n (sI s n j) n = true) : schV s n 0 = upF (sI s n) (j + 1) := by
  rw [sch_pre h hn h1 j hp, schV_s h hn (sI_bd h hn h1 j hp).2, if_pos hf, upF_succ]
/-- the schedule is that of some number of weeks -/
theorem sch_ex {s : SupD} (h : SupOk s) {n : Nat} (hn : n ≤ 20) (h1 : 1 ≤ n) : ∃ j, SchP s n j ∧ fitB s n (sI s n j) n = true := by
  obtain ⟨k, _, hk, hf, ha⟩ := first_fit (P := fun j => decide (n ≤ j) || fitB s n (sI s n j) n) n 0 ⟨n, Nat.zero_le _, by omega, by simp⟩
  have hp : SchP s n k := fun j' hj => by
    have := ha j' (Nat.zero_le _) hj
    simp at this
    exact this.2
  refine ⟨k, hp, ?_⟩
  have := sI_bd h hn h1 k hp
  simp at hf
  rcases hf with hf | hf
  · omega
  · exact hf
/-- the week behind the order at a place -/
def toW (n : Nat) (ws : List Nat) (j : Nat) : Nat := if j + 1 < ws.length then ws.getD (j + 1) 0 else n
/-- what the first orders cost -/
def costK (s : SupD) (n : Nat) (ws : List Nat) : Nat → Option Int
  | 0 => some 0
  | j + 1 =>
    match costK s n ws j with
    | none => none
    | some a =>
      match cov s (ws.getD j 0) (toW n ws j) with
      | none => none
      | some c => some (a + c)
theorem costK_s {s : SupD} {n : Nat} {ws : List Nat} {j : Nat} {a c : Int} (h1 : costK s n ws j = some a) (h2 : cov s (ws.getD j 0) (toW n ws j) = some c) : costK s n ws (j + 1) = some (a + c) := by
  simp only [costK, h1, h2]
theorem costK_no {s : SupD} {n : Nat} {ws : List Nat} {j : Nat} (h : cov s (ws.getD j 0) (toW n ws j) = none) : costK s n ws (j + 1) = none := by
  simp only [costK, h]; cases costK s n ws j <;> rfl
theorem costK_stop {s : SupD} {n : Nat} {ws : List Nat} {j m : Nat} (h : costK s n ws j = none) (hm : j ≤ m) : costK s n ws m = none := by
  induction m with
  | zero => obtain rfl : j = 0 := by omega
            exact h
  | succ m ih =>
    by_cases e : j = m + 1
    · subst e; exact h
    · simp only [costK, ih (by omega)]
/-- weeks that are allowed -/
structure WksOk (n : Nat) (ws : List Nat) : Prop where
  l1 : 1 ≤ ws.length
  h0 : ws.getD 0 0 = 0
  lt : ∀ j, j < ws.length → ws.getD j 0 < n
  up : ∀ j, j + 1 < ws.length → ws.getD j 0 < ws.getD (j + 1) 0
theorem toW_lt {n : Nat} {ws : List Nat} (h : WksOk n ws) {j : Nat} (hj : j < ws.length) : ws.getD j 0 < toW n ws j ∧ toW n ws j ≤ n := by
  unfold toW
  split
  · rename_i h2; exact ⟨h.up j h2, by have := h.lt (j + 1) h2; omega⟩
  · exact ⟨h.lt j hj, Nat.le_refl _⟩
theorem costK_low {s : SupD} (h : SupOk s) {n : Nat} (hn : n ≤ 20) {ws : List Nat} (hw : WksOk n ws) : ∀ j a, j < ws.length → costK s n ws j = some a → leaV s (ws.getD j 0) ≤ a := by
  intro j
  induction j with
  | zero => intro a _ e; injection e with e; rw [hw.h0, leaV_0]; omega
  | succ j ih =>
    intro a hj e
    simp only [costK] at e
    split at e
    · cases e
    · rename_i b hb
      split at e
      · cases e
      · rename_i c hc
        injection e with e
        have := ih b (by omega) hb
        have hto : toW n ws j = ws.getD (j + 1) 0 := by unfold toW; rw [if_pos hj]
        rw [hto] at hc
        have hl := hw.lt (j + 1) hj
        have := leaV_low h (by omega) (hw.up j hj) hc
        omega
theorem cost_low {s : SupD} (h : SupOk s) {n : Nat} (hn : n ≤ 20) {ws : List Nat} (hw : WksOk n ws) {a : Int} (e : costK s n ws ws.length = some a) : leaV s n ≤ a := by
  obtain ⟨j, hj⟩ : ∃ j, ws.length = j + 1 := ⟨ws.length - 1, by have := hw.l1; omega⟩
  rw [hj] at e
  simp only [costK] at e
  split at e
  · cases e
  · rename_i b hb
    split at e
    · cases e
    · rename_i c hc
      injection e with e
      have := costK_low h hn hw j b (by omega) hb
      have hto : toW n ws j = n := by unfold toW; rw [if_neg (by omega)]
      rw [hto] at hc
      have hl := hw.lt j (by omega)
      have := leaV_low h hn hl hc
      omega
theorem sch_wks {s : SupD} (h : SupOk s) {n : Nat} (hn : n ≤ 20) (h1 : 1 ≤ n) : WksOk n (schV s n 0) := by
  obtain ⟨J, hp, hf⟩ := sch_ex h hn h1
  rw [sch_end h hn h1 hp hf]
  have hg : ∀ j, j < J + 1 → (upF (sI s n) (J + 1)).getD j 0 = sI s n j := fun j hj => by
    rw [List.getD_eq_getElem?_getD, List.getElem?_eq_getElem (by rw [upF_len]; exact hj)]
    simp [upF]
  refine ⟨by rw [upF_len]; omega, hg 0 (by omega), fun j hj => ?_, fun j hj => ?_⟩
  · rw [upF_len] at hj
    rw [hg j hj]
    exact (sI_bd h hn h1 j (fun j' hj' => hp j' (by omega))).2
  · rw [upF_len] at hj
    rw [hg j (by omega), hg (j + 1) hj]
    exact (nxt_ok h hn (sI_bd h hn h1 j (fun j' hj' => hp j' (by omega))).2).1
theorem sch_cost {s : SupD} (h : SupOk s) {n : Nat} (hn : n ≤ 20) (h1 : 1 ≤ n) : costK s n (schV s n 0) (schV s n 0).length = some (resV s n 0) := by
  obtain ⟨J, hp, hf⟩ := sch_ex h hn h1
  have e := sch_end h hn h1 hp hf
  have hg : ∀ j, j < J + 1 → (schV s n 0).getD j 0 = sI s n j := fun j hj => by
    rw [e, List.getD_eq_getElem?_getD, List.getElem?_eq_getElem (by rw [upF_len]; exact hj)]
    simp [upF]
  have hl : (schV s n 0).length = J + 1 := by rw [e, upF_len]
  have fitc : ∀ i k, fitB s n i k = true → ∃ c, cov s i k = some c ∧ c + resV s n k = resV s n i := fun i k hf => by
    unfold fitB at hf
    split at hf
    · cases hf
    · rename_i c hc; exact ⟨c, hc, by simpa using hf⟩
  have key : ∀ j, j ≤ J → ∃ a, costK s n (schV s n 0) j = some a ∧ a + resV s n (sI s n j) = resV s n 0 := by
    intro j
    induction j with
    | zero => intro _; exact ⟨0, rfl, by simp [sI]⟩
    | succ j ih =>
      intro hj
      obtain ⟨a, h2, h3⟩ := ih (by omega)
      have hb := (sI_bd h hn h1 j (fun j' hj' => hp j' (by omega))).2
      obtain ⟨c, h4, h5⟩ := fitc _ _ (nxt_ok h hn hb).2.2.1
      have hto : toW n (schV s n 0) j = nxt s n (sI s n j) := by
        unfold toW
        rw [hl, if_pos (by omega), hg (j + 1) (by omega)]
        rfl
      refine ⟨a + c, costK_s h2 (by rw [hg j (by omega), hto]; exact h4), ?_⟩
      show a + c + resV s n (nxt s n (sI s n j)) = _
      omega
  obtain ⟨a, h2, h3⟩ := key J (Nat.le_refl _)
  obtain ⟨c, h4, h5⟩ := fitc _ _ hf
  rw [resV_n] at h5
  have hto : toW n (schV s n 0) J = n := by unfold toW; rw [hl, if_neg (by omega)]
  rw [hl, costK_s h2 (by rw [hg J (by omega), hto]; exact h4)]
  congr 1
  omega
/-- whether a list is less than another one -/
def lessL : List Int → List Int → Bool
  | [], [] => false
  | [], _ :: _ => true
  | _ :: _, [] => false
  | a :: l, b :: m => if a = b then lessL l m else decide (a < b)
def casts (o : List Nat) : List Int := o.map fun (e : Nat) => (e : Int)
/-- the reference's choice among the first ways -/
def selK (s : SupD) (n i : Nat) : Nat → Option (List Nat × Int)
  | 0 => none
  | m + 1 =>
    match cov s i (i + 1 + m) with
    | none => selK s n i m
    | some c =>
      match selK s n i m with
      | none => some (i :: schV s n (i + 1 + m), c + resV s n (i + 1 + m))
      | some b => if c + resV s n (i + 1 + m) < b.2 ∨ (c + resV s n (i + 1 + m) = b.2 ∧ lessL (casts (i :: schV s n (i + 1 + m))) (casts b.1) = true) then some (i :: schV s n (i + 1 + m), c + resV s n (i + 1 + m)) else some b
theorem less_heads {s : SupD} (h : SupOk s) {n : Nat} (hn : n ≤ 20) {i k k0 : Nat} (h1 : k0 < k) (hk : k ≤ n) : lessL (casts (i :: schV s n k)) (casts (i :: schV s n k0)) = decide (k = n) := by
  obtain ⟨r0, e0⟩ := schV_head h hn (show k0 < n by omega)
  rw [e0]
  by_cases e : k = n
  · subst e
    rw [schV_n]
    simp [casts, lessL]
  · obtain ⟨r, e1⟩ := schV_head h hn (show k < n by omega)
    rw [e1]
    have h3 : ¬ k < k0 := by omega
    simp [casts, lessL, h3, e]
    intro h2
    omega
/-- the choice: the least cost, of the first week that has it, but the end if that has it -/
structure SelOk (s : SupD) (n i m : Nat) (b : List Nat × Int) : Prop where
  ex : ∃ k, i < k ∧ k ≤ i + m ∧ (∃ c, cov s i k = some c ∧ b.2 = c + resV s n k) ∧ b.1 = i :: schV s n k ∧ (k ≠ n → ∀ k', i < k' → k' ≤ i + m → (k' < k ∨ k' = n) → ∀ c', cov s i k' = some c' → b.2 < c' + resV s n k')
  low : ∀ k', i < k' → k' ≤ i + m → ∀ c', cov s i k' = some c' → b.2 ≤ c' + resV s n k'
theorem selK_ok {s : SupD} (h : SupOk s) {n : Nat} (hn : n ≤ 20) {i : Nat} : ∀ m, 1 ≤ m → i + m ≤ n → ∃ b, selK s n i m = some b ∧ SelOk s n i m b := by
  intro m
  induction m with
  | zero => intro h1; omega
  | succ m ih =>
    intro _ hm
    by_cases h0 : m = 0
    · subst h0
      have hc := cov_next s i
      refine ⟨(i :: schV s n (i + 1), nd s.order i + resV s n (i + 1)), by simp only [selK, Nat.add_zero, hc], ⟨i + 1, by omega, by omega, ⟨_, hc, rfl⟩, rfl, fun hne k' a b' hkn c' hc' => ?_⟩, fun k' a b' c' hc' => ?_⟩
      · obtain rfl : k' = i + 1 := by omega
        rcases hkn with q | q
        · omega
        · exact absurd q hne
      · obtain rfl : k' = i + 1 := by omega
        rw [hc] at hc'
        injection hc' with hc'
        rw [hc']; exact Int.le_refl _
    · obtain ⟨b, hb, ⟨k, k1, k2, ⟨c, hc, e2⟩, e1, hx⟩, hlow⟩ := ih (by omega) (by omega)
      cases hcm : cov s i (i + 1 + m) with
      | none =>
        refine ⟨b, by simp only [selK, hcm, hb], ⟨k, k1, by omega, ⟨c, hc, e2⟩, e1, fun hne k' a b' hkn c' hc' => ?_⟩, fun k' a b' c' hc' => ?_⟩
        · have : k' ≠ i + 1 + m := by intro e; rw [e, hcm] at hc'; cases hc'
          exact hx hne k' a (by omega) hkn c' hc'
        · have : k' ≠ i + 1 + m := by intro e; rw [e, hcm] at hc'; cases hc'
          exact hlow k' a (by omega) c' hc'
      | some cm =>
        have hlh := less_heads h hn (i := i) (show k < i + 1 + m by omega) (show i + 1 + m ≤ n by omega)
        rw [← e1] at hlh
        by_cases hlt : cm + resV s n (i + 1 + m) < b.2
        · refine ⟨(i :: schV s n (i + 1 + m), cm + resV s n (i + 1 + m)), by simp only [selK, hcm, hb]; rw [if_pos (.inl hlt)], ⟨i + 1 + m, by omega, by omega, ⟨cm, hcm, rfl⟩, rfl, fun hne k' a b' hkn c' hc' => ?_⟩, fun k' a b' c' hc' => ?_⟩
          · by_cases e : k' = i + 1 + m
            · rcases hkn with q | q
              · omega
              · exact absurd (e ▸ q) hne
            · have := hlow k' a (by omega) c' hc'
              show cm + resV s n (i + 1 + m) < _
              omega
          · by_cases e : k' = i + 1 + m
            · subst e
              rw [hcm] at hc'
              injection hc' with hc'
              subst hc'
              exact Int.le_refl _
            · have := hlow k' a (by omega) c' hc'
              show cm + resV s n (i + 1 + m) ≤ _
              omega
        · by_cases heq : cm + resV s n (i + 1 + m) = b.2 ∧ i + 1 + m = n
          · refine ⟨(i :: schV s n (i + 1 + m), cm + resV s n (i + 1 + m)), by simp only [selK, hcm, hb]; rw [if_pos (.inr ⟨heq.1, by rw [hlh]; simp [heq.2]⟩)], ⟨i + 1 + m, by omega, by omega, ⟨cm, hcm, rfl⟩, rfl, fun hne => absurd heq.2 hne⟩, fun k' a b' c' hc' => ?_⟩
            by_cases e : k' = i + 1 + m
            · subst e
              rw [hcm] at hc'
              injection hc' with hc'
              subst hc'
              exact Int.le_refl _
            · have := hlow k' a (by omega) c' hc'
              show cm + resV s n (i + 1 + m) ≤ _
              omega
          · refine ⟨b, ?_, ⟨k, k1, by omega, ⟨c, hc, e2⟩, e1, fun hne k' a b' hkn c' hc' => ?_⟩, fun k' a b' c' hc' => ?_⟩
            · simp only [selK, hcm, hb]
              rw [if_neg]
              rintro (q | ⟨q1, q2⟩)
              · exact hlt q
              · rw [hlh] at q2
                exact heq ⟨q1, by simpa using q2⟩
            · by_cases e : k' = i + 1 + m
              · subst e
                rw [hcm] at hc'
                injection hc' with hc'
                subst hc'
                rcases hkn with q | q
                · omega
                · have : cm + resV s n (i + 1 + m) ≠ b.2 := fun q' => heq ⟨q', q⟩
                  omega
              · exact hx hne k' a (by omega) hkn c' hc'
            · by_cases e : k' = i + 1 + m
              · subst e
                rw [hcm] at hc'
                injection hc' with hc'
                subst hc'
                omega
              · exact hlow k' a (by omega) c' hc'
theorem selK_end {s : SupD} (h : SupOk s) {n : Nat} (hn : n ≤ 20) {i : Nat} (hi : i < n) : selK s n i (n - i) = some (schV s n i, resV s n i) := by
  obtain ⟨⟨bl, bc⟩, hb, ⟨k, k1, k2, ⟨c, hc, e2⟩, e1, hx⟩, hlow⟩ := selK_ok h hn (i := i) (n - i) (by omega) (by omega)
  dsimp only at e1 e2 hx hlow
  have hbc : bc = resV s n i := by
    obtain ⟨k', q1, q2, v, hv, e⟩ := resV_from h hn hi
    have := hlow k' q1 (by omega) v hv
    have := resV_low h hn k1 (by omega) hc
    omega
  have hfit : ∀ k', fitB s n i k' = true ↔ ∃ c, cov s i k' = some c ∧ c + resV s n k' = resV s n i := fun k' => by
    unfold fitB
    cases hc' : cov s i k' with
    | none => simp
    | some c' => simp
  rw [hb]
  congr 1
  refine Prod.ext ?_ hbc
  show bl = _
  rw [e1, schV_s h hn hi]
  by_cases hkn : k = n
  · subst hkn
    rw [if_pos ((hfit k).2 ⟨c, hc, by omega⟩), schV_n]
  · have hx := hx hkn
    rw [if_neg (fun hf => by
      obtain ⟨c', hc', e⟩ := (hfit n).1 hf
      have := hx n (by omega) (by omega) (.inr rfl) c' hc'
      omega)]
    congr 2
    obtain ⟨q1, q2, q3, q4⟩ := nxt_ok h hn hi
    rcases Nat.lt_trichotomy (nxt s n i) k with q | q | q
    · obtain ⟨c', hc', e⟩ := (hfit _).1 q3
      have := hx (nxt s n i) q1 (by omega) (.inl q) c' hc'
      omega
    · exact q.symm
    · have := q4 k k1 q
      rw [(hfit k).2 ⟨c, hc, by omega⟩] at this
      cases this
/-- prices that prove -/
def ProveP (s : SupD) (n : Nat) (p : Nat → Int) : Prop := ∀ i k, i < k → k ≤ n → ∀ c, cov s i k = some c → p k ≤ p i + c
theorem lea_proves {s : SupD} (h : SupOk s) {n : Nat} (hn : n ≤ 20) : ProveP s n (leaV s) := fun i k hi hk c hc => leaV_low h (by omega) hi hc
theorem prove_low {s : SupD} (h : SupOk s) {n : Nat} (hn : n ≤ 20) {p : Nat → Int} (h0 : p 0 = 0) (hp : ProveP s n p) : ∀ k, k ≤ n → p k ≤ leaV s k := by
  have key : ∀ m k, k ≤ m → k ≤ n → p k ≤ leaV s k := by
    intro m
    induction m with
    | zero => intro k hk _; obtain rfl : k = 0 := by omega
              rw [h0, leaV_0]; exact Int.le_refl _
    | succ m ih =>
      intro k hk hkn
      cases k with
      | zero => rw [h0, leaV_0]; exact Int.le_refl _
      | succ k =>
        obtain ⟨i, hi, v, hc, e⟩ := leaV_from h (k := k + 1) (by omega) (by omega)
        have := hp i (k + 1) hi hkn v hc
        have := ih i (by omega) (by omega)
        omega
  exact fun k hk => key k k (Nat.le_refl _) hk
/-- sums of orders: prices tp begin with -/
def accV (s : SupD) (k : Nat) : Int := sumN (fun i => nd s.order i) k
theorem accV_s (s : SupD) (k : Nat) : accV s (k + 1) = accV s k + nd s.order k := rfl
theorem lea_acc {s : SupD} (h : SupOk s) : ∀ k, k ≤ 20 → leaV s k ≤ accV s k := by
  intro k
  induction k with
  | zero => intro _; exact Int.le_refl _
  | succ k ih =>
    intro hk
    have := leaV_low h hk (show k < k + 1 by omega) (cov_next s k)
    have := ih (by omega)
    rw [accV_s]; omega
theorem accV_bd {s : SupD} (h : SupOk s) (k : Nat) : 0 ≤ accV s k ∧ accV s k ≤ 1000000 * k := sumN_bd fun i _ => h.ob i
/-- the prices are made less: those of the first i weeks on, and of week i those ahead of k, are not more than by one order -/
structure Rlx (s : SupD) (n i k : Nat) (p : Nat → Int) : Prop where
  z : p 0 = 0
  low : ∀ m, m ≤ n → leaV s m ≤ p m
  up : ∀ m, p m ≤ 20000000
  done : ∀ i', i' < i → ∀ k', i' < k' → k' ≤ n → ∀ c, cov s i' k' = some c → p k' ≤ leaV s i' + c
  part : ∀ k', i < k' → k' < k → ∀ c, cov s i k' = some c → p k' ≤ leaV s i + c
theorem rlx_at {s : SupD} (h : SupOk s) {n : Nat} (hn : n ≤ 20) {i k : Nat} {p : Nat → Int} (hr : Rlx s n i k p) (hi : i ≤ n) : p i = leaV s i := by
  cases i with
  | zero => rw [hr.z, leaV_0]
  | succ i =>
    obtain ⟨j, hj, v, hc, e⟩ := leaV_from h (k := i + 1) (by omega) (by omega)
    have := hr.done j hj (i + 1) hj hi v hc
    have := hr.low (i + 1) hi
    omega
theorem rlx_next {s : SupD} {n i : Nat} {p : Nat → Int} (hr : Rlx s n i (n + 1) p) : Rlx s n (i + 1) (i + 2) p :=
  ⟨hr.z, hr.low, hr.up, fun i' hi' k' a b c hc => by
    by_cases e : i' = i
    · subst e; exact hr.part k' a (by omega) c hc
    · exact hr.done i' (by omega) k' a b c hc, fun k' a b => by omega⟩
theorem rlx_skip {s : SupD} {n i k : Nat} {p : Nat → Int} (hr : Rlx s n i k p) (hs : ∀ c, cov s i k = some c → p k ≤ leaV s i + c) : Rlx s n i (k + 1) p :=
  ⟨hr.z, hr.low, hr.up, hr.done, fun k' a b c hc => by
    by_cases e : k' = k
    · subst e; exact hs c hc
    · exact hr.part k' a (by omega) c hc⟩
theorem rlx_set {s : SupD} (h : SupOk s) {n : Nat} (hn : n ≤ 20) {i k : Nat} {p : Nat → Int} (hr : Rlx s n i k p) (hik : i < k) (hk : k ≤ n) {c : Int} (hc : cov s i k = some c) (hlt : leaV s i + c < p k) : Rlx s n i (k + 1) (fun m => if m = k then leaV s i + c else p m) := by
  refine ⟨by show (if 0 = k then _ else _) = _; rw [if_neg (by omega)]; exact hr.z, fun m hm => ?_, fun m => ?_, fun i' hi' k' a b c' hc' => ?_, fun k' a b c' hc' => ?_⟩
  · show _ ≤ if m = k then _ else _
    split
    · rename_i e; subst e; exact leaV_low h (by omega) hik hc
    · exact hr.low m hm
  · show (if m = k then _ else _) ≤ _
    have := hr.up k
    split
    · omega
    · exact hr.up m
  · have := hr.done i' hi' k' a b c' hc'
    show (if k' = k then _ else _) ≤ _
    split
    · rename_i e; subst e; omega
    · exact this
  · show (if k' = k then _ else _) ≤ _
    split
    · rename_i e
      subst e
      rw [hc] at hc'
      injection hc' with hc'
      omega
    · exact hr.part k' a (by omega) c' hc'
theorem rlx_lea {s : SupD} (h : SupOk s) {n : Nat} (hn : n ≤ 20) : Rlx s n 0 1 (leaV s) → ∀ i k, i < k → k ≤ n → ∀ c, cov s i k = some c → ¬ (leaV s i + c < leaV s k) := fun _ i k hi hk c hc => by
  have := leaV_low h (by omega) hi hc
  omega
theorem rlx_all {s : SupD} (h : SupOk s) {n : Nat} (hn : n ≤ 20) {k : Nat} {p : Nat → Int} (hr : Rlx s n n k p) : ∀ m, m ≤ n → p m = leaV s m := by
  intro m hm
  refine rlx_at h hn (i := m) (k := m + 1) ⟨hr.z, hr.low, hr.up, fun i' hi' => hr.done i' (by omega), fun k' a b => by omega⟩ hm
end Go.Rl
