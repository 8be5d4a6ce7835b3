/- Plain law: slots end later if pages are ready later; conditions: none. -/
set_option linter.unusedSimpArgs false
set_option linter.unusedVariables false
namespace Go.Ed
def inB (n a b : Int) : Bool := decide (a ≤ n ∧ n ≤ b)
theorem inB_iff {n a b : Int} : inB n a b = true ↔ a ≤ n ∧ n ≤ b := by simp [inB]
structure ZonD where
  copies : Int
  due : Int
  variants : List Int
structure TitD where
  colours : List Int
  pairs : List Int
  zones : List ZonD
  ready : List (Int × Int × Int)
  start : Int
  rate : Int
  stop : Int
  hang : Int
structure EdD where
  zones : List Int
  copies : Int
  ready : Int
  due : Int
  variants : List Int
/-- the pair at a place is right, after those ahead of it -/
def pairAt (c : List Int) (l : List Int) (k : Nat) : Bool :=
  inB (l.getD k 0) 0 ((c.length : Int) - 2) && !((l.take k).any fun q => q == l.getD k 0 || q + 1 == l.getD k 0 || q == l.getD k 0 + 1) && c.getD (l.getD k 0).toNat 0 == c.getD ((l.getD k 0).toNat + 1) 0
def pairedB (t : TitD) : Bool := (List.range t.pairs.length).all (pairAt t.colours t.pairs)
/-- the error of a zone; 0 if there is none -/
def errZ (t : TitD) (z : ZonD) : Int :=
  if !inB z.copies 0 1000000 || !inB z.due 0 86400 then 6 else if z.variants.length ≠ t.colours.length || z.variants.any (fun v => !inB v 0 9) then 40 else 0
def metR (l : List (Int × Int × Int)) (k : Nat) (r : Int × Int × Int) : Bool := (l.take k).any fun q => q.1 == r.1 && q.2.1 == r.2.1
def errR (t : TitD) (k : Nat) : Int :=
  let r := t.ready.getD k (0, 0, 0)
  if !inB r.1 0 ((t.colours.length : Int) - 1) || (!inB r.2.1 0 9 || !inB r.2.2 0 86400) then 6 else if metR t.ready k r then 10 else 0
/-- the first error of so many -/
def firstErr (f : Nat → Int) : Nat → Int
  | 0 => 0
  | n + 1 => if firstErr f n ≠ 0 then firstErr f n else f n
theorem firstErr_zero {f : Nat → Int} {n : Nat} (h : firstErr f n = 0) : ∀ i, i < n → f i = 0 := by
  induction n with
  | zero => intro i hi; omega
  | succ n ih =>
    simp only [firstErr] at h
    by_cases h0 : firstErr f n = 0
    · rw [if_neg (by simpa using h0)] at h
      intro i hi
      by_cases e : i = n
      · subst e; exact h
      · exact ih h0 i (by omega)
    · rw [if_pos h0] at h; exact absurd h h0
theorem firstErr_go {f : Nat → Int} {n : Nat} (h : firstErr f n = 0) (hf : f n = 0) : firstErr f (n + 1) = 0 := by simp [firstErr, h, hf]
theorem firstErr_stop {f : Nat → Int} {m k : Nat} (h : firstErr f k = 0) (hf : f k ≠ 0) (hk : k < m) : firstErr f m = f k := by
  induction m with
  | zero => omega
  | succ m ih =>
    simp only [firstErr]
    by_cases e : k = m
    · subst e; simp [h]
    · rw [ih (by omega), if_pos hf]
/-- one zone more -/
def addZ (es : List EdD) (i : Int) (z : ZonD) : List EdD :=
  if z.copies = 0 then es
  else if es.any (fun e => e.variants == z.variants) then
    es.map fun e => if e.variants == z.variants then ⟨e.zones ++ [i], e.copies + z.copies, e.ready, min e.due z.due, e.variants⟩ else e
  else es ++ [⟨[i], z.copies, 0, min 86400 z.due, z.variants⟩]
def edsN (t : TitD) : Nat → List EdD
  | 0 => []
  | k + 1 => addZ (edsN t k) k (t.zones.getD k ⟨0, 0, []⟩)
/-- when the last plates of variants can be hung, by the first k of a list -/
def readyN (l : List (Int × Int × Int)) (v : List Int) : Nat → Int
  | 0 => 0
  | k + 1 => if v.getD (l.getD k (0, 0, 0)).1.toNat (-1) = (l.getD k (0, 0, 0)).2.1 then max (readyN l v k) (l.getD k (0, 0, 0)).2.2 else readyN l v k
def edsR (t : TitD) : List EdD := (edsN t t.zones.length).map fun e => ⟨e.zones, e.copies, readyN t.ready e.variants t.ready.length, e.due, e.variants⟩
def checkT (t : TitD) : Int :=
  if !inB t.colours.length 1 64 || (!inB t.zones.length 1 12 || decide (200 < t.ready.length)) then 2
  else if !inB t.start 0 86400 || (!inB t.rate 1 3000 || (!inB t.stop 0 3600 || !inB t.hang 0 3600)) then 6
  else if t.colours.any (fun c => !inB c 1 4) || !pairedB t then 21
  else if firstErr (fun k => errZ t (t.zones.getD k ⟨0, 0, []⟩)) t.zones.length ≠ 0 then firstErr (fun k => errZ t (t.zones.getD k ⟨0, 0, []⟩)) t.zones.length
  else if firstErr (errR t) t.ready.length ≠ 0 then firstErr (errR t) t.ready.length
  else if (edsN t t.zones.length).length = 0 then 4
  else if 7 < (edsN t t.zones.length).length then 8
  else 0
/-- how many plates the pages have of which something holds: from page p on, so many steps -/
def platesF (c pairs : List Int) (h : Nat → Bool) : Nat → Nat → Int
  | 0, _ => 0
  | fuel + 1, p =>
    if c.length ≤ p then 0
    else if pairs.any (fun q => q == (p : Int)) then (if h p || h (p + 1) then c.getD p 0 else 0) + platesF c pairs h fuel (p + 2)
    else (if h p then c.getD p 0 else 0) + platesF c pairs h fuel (p + 1)
def platesB (t : TitD) (h : Nat → Bool) : Int := platesF t.colours t.pairs h t.colours.length 0
def changeB (t : TitD) (a b : EdD) : Int := platesB t fun p => decide (a.variants.getD p (-1) ≠ b.variants.getD p (-1))
def allB (t : TitD) : Int := platesB t fun _ => true
/-- a slot: edition, plates, begin, end -/
structure SloD where
  edition : Int
  plates : Int
  beg : Int
  fin : Int
def ed0 : EdD := ⟨[], 0, 0, 0, []⟩
def endOf (t : TitD) (e : EdD) (beg : Int) : Int := beg + (60 * e.copies + t.rate - 1) / t.rate
def firstS (t : TitD) (es : List EdD) (e : Nat) : SloD :=
  let b := max t.start (es.getD e ed0).ready
  ⟨e, allB t, b, endOf t (es.getD e ed0) b⟩
def nextS (t : TitD) (es : List EdD) (e before : Nat) (fin : Int) : SloD :=
  let n := changeB t (es.getD before ed0) (es.getD e ed0)
  let b := max fin (es.getD e ed0).ready + t.stop + n * t.hang
  ⟨e, n, b, endOf t (es.getD e ed0) b⟩
def slotsL (t : TitD) (es : List EdD) (order : List Nat) : List SloD :=
  match order with
  | [] => []
  | e :: l => go (firstS t es e) l
where go (s : SloD) : List Nat → List SloD
  | [] => [s]
  | e :: l => s :: go (nextS t es e s.edition.toNat s.fin) l
def ordersB (n : Nat) (order : List Int) : Bool := decide (order.length = n) && order.all (fun e => inB e 0 ((n : Int) - 1)) && decide order.Nodup
end Go.Ed
namespace Go.Ed
def sumN (f : Nat → Int) : Nat → Int
  | 0 => 0
  | n + 1 => sumN f n + f n
theorem sumN_congr {f g : Nat → Int} {n : Nat} (h : ∀ i, i < n → f i = g i) : sumN f n = sumN g n := by
  induction n with
  | zero => rfl
  | succ n ih => simp only [sumN]; rw [ih (fun i hi => h i (by omega)), h n (by omega)]
theorem sumN_bd {f : Nat → Int} {n : Nat} {B : Int} (h : ∀ i, i < n → 0 ≤ f i ∧ f i ≤ B) : 0 ≤ sumN f n ∧ sumN f n ≤ B * n := by
  induction n with
  | zero => simp [sumN]
  | succ n ih =>
    have h1 := ih (fun i hi => h i (by omega))
    have h2 := h n (by omega)
    simp only [sumN]
    have : B * ((n + 1 : Nat) : Int) = B * n + B := by rw [Int.natCast_add, Int.mul_add]; simp
    omega
def inP (pairs : List Int) (p : Nat) : Bool := pairs.any fun q => q == (p : Int)
def ownerN (pairs : List Int) (p : Nat) : Nat := if decide (0 < p) && inP pairs (p - 1) then p - 1 else p
/-- pairs do not meet, and lie within the pages -/
def GoodP (n : Nat) (pairs : List Int) : Prop := ∀ p, inP pairs p = true → p + 1 < n ∧ inP pairs (p + 1) = false
theorem inP_iff {pairs : List Int} {p : Nat} : inP pairs p = true ↔ ∃ k, ∃ hk : k < pairs.length, pairs[k] = (p : Int) := by
  unfold inP
  rw [List.any_eq_true]
  constructor
  · rintro ⟨q, hq, e⟩
    obtain ⟨k, hk, rfl⟩ := List.mem_iff_getElem.1 hq
    exact ⟨k, hk, by simpa using e⟩
  · rintro ⟨k, hk, e⟩
    exact ⟨pairs[k], List.getElem_mem hk, by simpa using e⟩
theorem pairAt_get {c l : List Int} {k : Nat} (hk : k < l.length) (h : pairAt c l k = true) : (0 ≤ l[k] ∧ l[k] ≤ (c.length : Int) - 2) ∧ (∀ j (hj : j < k), l[j]'(by omega) ≠ l[k] ∧ l[j]'(by omega) + 1 ≠ l[k] ∧ l[j]'(by omega) ≠ l[k] + 1) ∧ c.getD l[k].toNat 0 = c.getD (l[k].toNat + 1) 0 := by
  unfold pairAt at h
  have e : l.getD k 0 = l[k] := by simp [hk]
  rw [e, Bool.and_eq_true, Bool.and_eq_true] at h
  obtain ⟨⟨h1, h2⟩, h3⟩ := h
  refine ⟨inB_iff.1 h1, fun j hj => ?_, by simpa using h3⟩
  rw [Bool.not_eq_true', List.any_eq_false] at h2
  have hm : l[j]'(by omega) ∈ l.take k := by rw [List.mem_take_iff_getElem]; exact ⟨j, by omega, rfl⟩
  have := h2 _ hm
  simp at this
  exact ⟨this.1.1, this.1.2, this.2⟩
theorem good_of_paired {t : TitD} (h : pairedB t = true) : GoodP t.colours.length t.pairs := by
  unfold pairedB at h
  rw [List.all_eq_true] at h
  have hk : ∀ k (hk : k < t.pairs.length), _ := fun k hk => pairAt_get hk (h k (List.mem_range.2 hk))
  intro p hp
  obtain ⟨k, hk1, e⟩ := inP_iff.1 hp
  refine ⟨by have := (hk k hk1).1; omega, ?_⟩
  cases hq : inP t.pairs (p + 1)
  · rfl
  · obtain ⟨j, hj1, e2⟩ := inP_iff.1 hq
    exfalso
    by_cases hjk : j < k
    · have := (hk k hk1).2.1 j hjk
      omega
    · by_cases hkj : k < j
      · have := (hk j hj1).2.1 k hkj
        omega
      · have : j = k := by omega
        subst this
        omega
/-- of a first page of plates: whether something holds of it or of the page beside it -/
def someH (pairs : List Int) (h : Nat → Bool) (i : Nat) : Bool := (decide (ownerN pairs i = i) && h i) || (inP pairs i && h (i + 1))
theorem platesF_sum {c pairs : List Int} (hg : GoodP c.length pairs) (h : Nat → Bool) : ∀ fuel p, p ≤ c.length → c.length ≤ p + fuel → (p = 0 ∨ inP pairs (p - 1) = false) →
    platesF c pairs h fuel p + sumN (fun i => if someH pairs h i then c.getD i 0 else 0) p = sumN (fun i => if someH pairs h i then c.getD i 0 else 0) c.length := by
  intro fuel
  induction fuel with
  | zero =>
    intro p hp hf _
    obtain rfl : p = c.length := by omega
    simp [platesF]
  | succ fuel ih =>
    intro p hp hf ho
    unfold platesF
    by_cases hpl : c.length ≤ p
    · obtain rfl : p = c.length := by omega
      rw [if_pos hpl]; simp
    · rw [if_neg hpl]
      have hown : ownerN pairs p = p := by
        unfold ownerN
        rcases ho with rfl | ho
        · simp
        · rw [ho]; simp
      by_cases hin : inP pairs p = true
      · have hin' : (pairs.any fun q => q == (p : Int)) = true := hin
        rw [if_pos hin']
        obtain ⟨h1, h2⟩ := hg p hin
        have hi := ih (p + 2) (by omega) (by omega) (.inr (by simpa using h2))
        have hown2 : ownerN pairs (p + 1) = p := by unfold ownerN; simp [hin]
        have e1 : someH pairs h p = (h p || h (p + 1)) := by unfold someH; rw [hown, hin]; simp
        have e2 : someH pairs h (p + 1) = false := by unfold someH; rw [hown2, h2]; simp
        have es : sumN (fun i => if someH pairs h i then c.getD i 0 else 0) (p + 2) = sumN (fun i => if someH pairs h i then c.getD i 0 else 0) p + (if (h p || h (p + 1)) = true then c.getD p 0 else 0) := by
          simp only [sumN]
          rw [e1, e2]
          simp
        rw [es] at hi
        omega
      · have hin0 : inP pairs p = false := by simpa using hin
        have hin' : ¬ (pairs.any fun q => q == (p : Int)) = true := hin
        rw [if_neg hin']
        have hi := ih (p + 1) (by omega) (by omega) (.inr (by simpa using hin0))
        have e1 : someH pairs h p = h p := by unfold someH; rw [hown, hin0]; simp
        have es : sumN (fun i => if someH pairs h i then c.getD i 0 else 0) (p + 1) = sumN (fun i => if someH pairs h i then c.getD i 0 else 0) p + (if h p = true then c.getD p 0 else 0) := by
          simp only [sumN]
          rw [e1]
        rw [es] at hi
        omega
theorem platesB_sum {t : TitD} (hg : GoodP t.colours.length t.pairs) (h : Nat → Bool) : platesB t h = sumN (fun i => if someH t.pairs h i then t.colours.getD i 0 else 0) t.colours.length := by
  have := platesF_sum hg h t.colours.length 0 (by omega) (by omega) (.inl rfl)
  simpa [platesB, sumN] using this
end Go.Ed
namespace Go.Ed
theorem owner_iff {pairs : List Int} {p i : Nat} : ownerN pairs p = i ↔ (p = i ∧ (p = 0 ∨ inP pairs (p - 1) = false)) ∨ (p = i + 1 ∧ inP pairs i = true) := by
  unfold ownerN
  by_cases h : 0 < p
  · cases hq : inP pairs (p - 1)
    · rw [if_neg (by simp)]
      constructor
      · intro e; exact .inl ⟨e, .inr rfl⟩
      · rintro (⟨e, _⟩ | ⟨e, h2⟩)
        · exact e
        · subst e; simp at hq; rw [h2] at hq; cases hq
    · rw [if_pos (by simp [h])]
      constructor
      · intro e; right; refine ⟨by omega, ?_⟩; rw [← e]; exact hq
      · rintro (⟨e, h2 | h2⟩ | ⟨e, h2⟩)
        · omega
        · cases h2
        · omega
  · obtain rfl : p = 0 := by omega
    rw [if_neg (by simp)]
    constructor
    · intro e; exact .inl ⟨e, .inl rfl⟩
    · rintro (⟨e, _⟩ | ⟨e, _⟩)
      · exact e
      · omega
theorem differs_iff {n : Nat} {pairs : List Int} (hg : GoodP n pairs) {h : Nat → Bool} {i : Nat} (hi : i < n) : (∃ p, p < n ∧ h p = true ∧ ownerN pairs p = i) ↔ someH pairs h i = true := by
  unfold someH
  simp only [Bool.or_eq_true, Bool.and_eq_true, decide_eq_true_eq]
  constructor
  · rintro ⟨p, hp, h1, h2⟩
    rcases owner_iff.1 h2 with ⟨rfl, _⟩ | ⟨rfl, h3⟩
    · exact .inl ⟨h2, h1⟩
    · exact .inr ⟨h3, h1⟩
  · rintro (⟨h1, h2⟩ | ⟨h1, h2⟩)
    · exact ⟨i, hi, h2, h1⟩
    · exact ⟨i + 1, (hg i h1).1, h2, owner_iff.2 (.inr ⟨rfl, h1⟩)⟩
theorem someH_true {n : Nat} {pairs : List Int} (hg : GoodP n pairs) (i : Nat) : someH pairs (fun _ => true) i = decide (ownerN pairs i = i) := by
  unfold someH
  simp only [Bool.and_true]
  cases hp : inP pairs i
  · simp
  · have : ownerN pairs i = i := by
      rw [owner_iff]
      left
      refine ⟨rfl, ?_⟩
      by_cases h0 : i = 0
      · exact .inl h0
      · right
        cases hq : inP pairs (i - 1)
        · rfl
        · have := (hg (i - 1) hq).2
          rw [show i - 1 + 1 = i by omega, hp] at this
          cases this
    simp [this]
/-- what differs of two lists of variants, by the first p pages: the reference's marks -/
def marksN (pairs : List Int) (h : Nat → Bool) (k : Nat) (i : Nat) : Bool := (List.range k).any fun p => h p && decide (ownerN pairs p = i)
theorem marksN_succ (pairs : List Int) (h : Nat → Bool) (k i : Nat) : marksN pairs h (k + 1) i = (marksN pairs h k i || (h k && decide (ownerN pairs k = i))) := by
  unfold marksN
  rw [List.range_succ, List.any_append]
  simp
theorem marksN_all {n : Nat} {pairs : List Int} (hg : GoodP n pairs) (h : Nat → Bool) {i : Nat} (hi : i < n) : marksN pairs h n i = someH pairs h i := by
  rw [Bool.eq_iff_iff, ← differs_iff hg hi]
  unfold marksN
  rw [List.any_eq_true]
  constructor
  · rintro ⟨p, hp, e⟩
    simp only [Bool.and_eq_true, decide_eq_true_eq] at e
    exact ⟨p, List.mem_range.1 hp, e.1, e.2⟩
  · rintro ⟨p, hp, e1, e2⟩
    exact ⟨p, List.mem_range.2 hp, by simp [e1, e2]⟩
/-- plates as the reference counts them -/
theorem platesB_marks {t : TitD} (hg : GoodP t.colours.length t.pairs) (h : Nat → Bool) : platesB t h = sumN (fun i => if marksN t.pairs h t.colours.length i then t.colours.getD i 0 else 0) t.colours.length := by
  rw [platesB_sum hg]
  exact sumN_congr fun i hi => by rw [marksN_all hg h hi]
theorem allB_owners {t : TitD} (hg : GoodP t.colours.length t.pairs) : allB t = sumN (fun i => if ownerN t.pairs i = i then t.colours.getD i 0 else 0) t.colours.length := by
  unfold allB
  rw [platesB_sum hg]
  refine sumN_congr fun i hi => ?_
  rw [someH_true hg]
  simp
theorem platesB_bd {t : TitD} (hg : GoodP t.colours.length t.pairs) (hc : ∀ c ∈ t.colours, 1 ≤ c ∧ c ≤ 4) (h : Nat → Bool) : 0 ≤ platesB t h ∧ platesB t h ≤ 4 * t.colours.length := by
  rw [platesB_sum hg]
  refine sumN_bd fun i hi => ?_
  have e : t.colours.getD i 0 = t.colours[i] := by simp [hi]
  have := hc _ (List.getElem_mem hi)
  rw [e]
  split <;> omega
/-- editions: what holds of all of them -/
theorem addZ_inv {P : EdD → Prop} {es : List EdD} {i : Int} {z : ZonD} (h : ∀ e ∈ es, P e) (hn : z.copies ≠ 0 → P ⟨[i], z.copies, 0, min 86400 z.due, z.variants⟩)
    (hm : ∀ e, P e → e.variants = z.variants → P ⟨e.zones ++ [i], e.copies + z.copies, e.ready, min e.due z.due, e.variants⟩) : ∀ e ∈ addZ es i z, P e := by
  unfold addZ
  split
  · exact h
  · rename_i h0
    split
    · intro e he
      obtain ⟨e', he', rfl⟩ := List.mem_map.1 he
      by_cases hv : e'.variants = z.variants
      · rw [if_pos (by simpa using hv)]; exact hm e' (h e' he') hv
      · rw [if_neg (by simpa using hv)]; exact h e' he'
    · intro e he
      rcases List.mem_append.1 he with he | he
      · exact h e he
      · simp at he; subst he; exact hn h0
theorem addZ_len (es : List EdD) (i : Int) (z : ZonD) : es.length ≤ (addZ es i z).length ∧ (addZ es i z).length ≤ es.length + 1 := by
  unfold addZ
  split
  · omega
  · split <;> simp
theorem edsN_len (t : TitD) (k : Nat) : (edsN t k).length ≤ k := by
  induction k with
  | zero => simp [edsN]
  | succ k ih => have := (addZ_len (edsN t k) k (t.zones.getD k ⟨0, 0, []⟩)).2; simp only [edsN]; omega
theorem edsR_len (t : TitD) : (edsR t).length = (edsN t t.zones.length).length := by simp [edsR]
end Go.Ed
namespace Go.Ed
def lateB (es : List EdD) (s : SloD) : Bool := decide ((es.getD s.edition.toNat ed0).due < s.fin)
/-- plates, last slot and lateness of an order, slot by slot -/
abbrev RunS := Int × Option SloD × Bool
def slotE (t : TitD) (es : List EdD) (l : Option SloD) (e : Nat) : SloD :=
  match l with
  | none => firstS t es e
  | some s => nextS t es e s.edition.toNat s.fin
def stepE (t : TitD) (es : List EdD) (st : RunS) (e : Nat) : RunS := (st.1 + (slotE t es st.2.1 e).plates, some (slotE t es st.2.1 e), st.2.2 || lateB es (slotE t es st.2.1 e))
def runE (t : TitD) (es : List EdD) (o : List Nat) : RunS := o.foldl (stepE t es) (0, none, false)
def endE (st : RunS) : Int := (st.2.1.map SloD.fin).getD 0
abbrev Best := Option (List Nat × Int × Int)
def better (time : Bool) (b : Best) (p f : Int) : Bool :=
  match b with
  | none => true
  | some (_, bp, bf) => decide (p < bp) || (time && decide (p = bp) && decide (f < bf))
def scan (t : TitD) (es : List EdD) (time : Bool) (b : Best) (o : List Nat) : Best :=
  if time && (runE t es o).2.2 then b else if better time b (runE t es o).1 (endE (runE t es o)) then some (o, (runE t es o).1, endE (runE t es o)) else b
/-- all orders that begin with some, in lexicographic order -/
def allO (n : Nat) : Nat → List Nat → List (List Nat)
  | 0, o => if o.length = n then [o] else []
  | fuel + 1, o => if o.length = n then [o] else (List.range n).flatMap fun e => if o.contains e then [] else allO n fuel (o ++ [e])
def more (b : Best) (p : Int) : Bool :=
  match b with
  | none => false
  | some (_, bp, _) => decide (bp < p)
/-- the search -/
def dfs (t : TitD) (es : List EdD) (time : Bool) : Nat → List Nat → Int → Option SloD → Best → Best
  | 0, _, _, _, b => b
  | fuel + 1, o, p, l, b =>
    if o.length = es.length then (if better time b p ((l.map SloD.fin).getD 0) then some (o, p, (l.map SloD.fin).getD 0) else b)
    else (List.range es.length).foldl (fun b e =>
      if o.contains e then b
      else if (time && lateB es (slotE t es l e)) || more b (p + (slotE t es l e).plates) then b
      else dfs t es time fuel (o ++ [e]) (p + (slotE t es l e).plates) (some (slotE t es l e)) b) b
theorem runE_snoc (t : TitD) (es : List EdD) (o : List Nat) (e : Nat) : runE t es (o ++ [e]) = stepE t es (runE t es o) e := by simp [runE]
/-- an order has at least as many plates as its beginning, and is late if that is -/
theorem runE_grow {t : TitD} {es : List EdD} (hp : ∀ l e, 0 ≤ (slotE t es l e).plates) (o r : List Nat) : (runE t es o).1 ≤ (runE t es (o ++ r)).1 ∧ ((runE t es o).2.2 = true → (runE t es (o ++ r)).2.2 = true) := by
  induction r generalizing o with
  | nil => simp
  | cons e r ih =>
    have h := ih (o ++ [e])
    rw [List.append_assoc, List.singleton_append] at h
    rw [runE_snoc] at h
    have := hp (runE t es o).2.1 e
    refine ⟨by have := h.1; simp only [stepE] at this; omega, fun hl => h.2 (by simp [stepE, hl])⟩
theorem allO_pre {n : Nat} : ∀ fuel o x, x ∈ allO n fuel o → ∃ r, x = o ++ r := by
  intro fuel
  induction fuel with
  | zero =>
    intro o x hx
    unfold allO at hx
    split at hx
    · simp at hx; exact ⟨[], by simp [hx]⟩
    · simp at hx
  | succ fuel ih =>
    intro o x hx
    unfold allO at hx
    split at hx
    · simp at hx; exact ⟨[], by simp [hx]⟩
    · obtain ⟨e, _, hx⟩ := List.mem_flatMap.1 hx
      split at hx
      · simp at hx
      · obtain ⟨r, rfl⟩ := ih _ _ hx
        exact ⟨e :: r, by simp⟩
/-- orders that are late, or that have more plates than the best one, change nothing -/
theorem scan_idle {t : TitD} {es : List EdD} {time : Bool} {b : Best} {o : List Nat} (h : (time && (runE t es o).2.2) = true ∨ more b (runE t es o).1 = true) : scan t es time b o = b := by
  unfold scan
  by_cases h1 : (time && (runE t es o).2.2) = true
  · rw [if_pos h1]
  · rw [if_neg h1]
    have h2 := h.resolve_left h1
    match b, h2 with
    | some (bo, bp, bf), h2 =>
      simp only [more, decide_eq_true_eq] at h2
      have : better time (some (bo, bp, bf)) (runE t es o).1 (endE (runE t es o)) = false := by
        simp only [better]
        have a1 : decide ((runE t es o).1 < bp) = false := by simp; omega
        have a2 : decide ((runE t es o).1 = bp) = false := by simp; omega
        rw [a1, a2]; simp
      rw [this]; simp
theorem foldl_idle {α β : Type} (f : β → α → β) (b : β) : ∀ l : List α, (∀ x ∈ l, f b x = b) → l.foldl f b = b := by
  intro l
  induction l with
  | nil => intro _; rfl
  | cons x l ih => intro h; rw [List.foldl_cons, h x (by simp)]; exact ih fun y hy => h y (by simp [hy])
theorem dfs_scan {t : TitD} {es : List EdD} {time : Bool} (hp : ∀ l e, 0 ≤ (slotE t es l e).plates) : ∀ fuel o b, es.length < o.length + fuel → o.length ≤ es.length → (time = true → (runE t es o).2.2 = false) →
    dfs t es time fuel o (runE t es o).1 (runE t es o).2.1 b = (allO es.length fuel o).foldl (scan t es time) b := by
  intro fuel
  induction fuel with
  | zero => intro o b h1 h2 _; omega
  | succ fuel ih =>
    intro o b h1 h2 hl
    unfold dfs allO
    by_cases hn : o.length = es.length
    · rw [if_pos hn, if_pos hn]
      simp only [List.foldl_cons, List.foldl_nil]
      unfold scan
      have h0 : (time && (runE t es o).2.2) = false := by
        cases time
        · rfl
        · simp [hl rfl]
      rw [h0]
      rfl
    · rw [if_neg hn, if_neg hn, List.foldl_flatMap]
      congr 1
      funext b e
      by_cases hc : o.contains e = true
      · rw [if_pos hc, if_pos hc]; rfl
      · rw [if_neg hc, if_neg hc]
        have hs : runE t es (o ++ [e]) = stepE t es (runE t es o) e := runE_snoc t es o e
        by_cases hcut : ((time && lateB es (slotE t es (runE t es o).2.1 e)) || more b ((runE t es o).1 + (slotE t es (runE t es o).2.1 e).plates)) = true
        · rw [if_pos hcut]
          refine (foldl_idle _ _ _ fun x hx => ?_).symm
          obtain ⟨r, rfl⟩ := allO_pre _ _ _ hx
          have hg := runE_grow hp (o ++ [e]) r
          refine scan_idle ?_
          rcases Bool.or_eq_true _ _ ▸ hcut with h | h
          · left
            rw [Bool.and_eq_true] at h ⊢
            exact ⟨h.1, hg.2 (by rw [hs]; simp [stepE, h.2])⟩
          · right
            match b, h with
            | some (bo, bp, bf), h =>
              simp only [more, decide_eq_true_eq] at h ⊢
              have := hg.1
              rw [hs] at this
              simp only [stepE] at this
              omega
        · rw [if_neg hcut]
          have hcut2 : ((time && lateB es (slotE t es (runE t es o).2.1 e)) = false) := by
            cases h : (time && lateB es (slotE t es (runE t es o).2.1 e))
            · rfl
            · rw [h] at hcut; simp at hcut
          have hi := ih (o ++ [e]) b (by simp; omega) (by simp; omega) (by
            intro ht
            rw [hs]
            simp only [stepE, hl ht, Bool.false_or]
            rw [ht] at hcut2
            simpa using hcut2)
          rw [hs] at hi
          simp only [stepE] at hi
          exact hi
end Go.Ed
namespace Go.Ed
theorem sumN_le {f g : Nat → Int} {n : Nat} (h : ∀ i, i < n → f i ≤ g i) : sumN f n ≤ sumN g n := by
  induction n with
  | zero => simp [sumN]
  | succ n ih => simp only [sumN]; have := ih (fun i hi => h i (by omega)); have := h n (by omega); omega
theorem sumN_add (f g : Nat → Int) (n : Nat) : sumN (fun i => f i + g i) n = sumN f n + sumN g n := by
  induction n with
  | zero => rfl
  | succ n ih => simp only [sumN, ih]; omega
theorem sumN_zero {f : Nat → Int} {n : Nat} (h : ∀ i, i < n → f i = 0) : sumN f n = 0 := by
  induction n with
  | zero => rfl
  | succ n ih => simp only [sumN]; rw [ih (fun i hi => h i (by omega)), h n (by omega)]; rfl
theorem sumN_pos {f : Nat → Int} {n k : Nat} (h : ∀ i, i < n → 0 ≤ f i) (hk : k < n) (hp : 0 < f k) : 0 < sumN f n := by
  induction n with
  | zero => omega
  | succ n ih =>
    simp only [sumN]
    have h0 := (sumN_bd (f := f) (n := n) (B := sumN f n + 0) (fun i hi => by
      refine ⟨h i (by omega), ?_⟩
      clear ih hp
      have : ∀ m, i < m → (∀ j, j < m → 0 ≤ f j) → f i ≤ sumN f m := by
        intro m
        induction m with
        | zero => intro h; omega
        | succ m ihm =>
          intro him hj
          simp only [sumN]
          have hs : 0 ≤ sumN f m := by
            have : ∀ q, q ≤ m → 0 ≤ sumN f q := by
              intro q
              induction q with
              | zero => intro _; simp [sumN]
              | succ q ihq => intro hq; simp only [sumN]; have := ihq (by omega); have := hj q (by omega); omega
            exact this m (Nat.le_refl _)
          by_cases e : i = m
          · subst e; omega
          · have := ihm (by omega) (fun j hj' => hj j (by omega))
            have := hj m (by omega)
            omega
      have := this n hi (fun j hj => h j (by omega))
      omega)).1
    by_cases e : k = n
    · subst e; omega
    · have := ih (fun i hi => h i (by omega)) (by omega)
      have := h n (by omega)
      omega
theorem platesB_congr {t : TitD} (hg : GoodP t.colours.length t.pairs) {h g : Nat → Bool} (e : ∀ p, p < t.colours.length → h p = g p) : platesB t h = platesB t g := by
  rw [platesB_marks hg, platesB_marks hg]
  refine sumN_congr fun i _ => ?_
  have : marksN t.pairs h t.colours.length i = marksN t.pairs g t.colours.length i := by
    unfold marksN
    rw [Bool.eq_iff_iff, List.any_eq_true, List.any_eq_true]
    constructor
    · rintro ⟨p, hp, q⟩; exact ⟨p, hp, by rw [← e p (List.mem_range.1 hp)]; exact q⟩
    · rintro ⟨p, hp, q⟩; exact ⟨p, hp, by rw [e p (List.mem_range.1 hp)]; exact q⟩
  rw [this]
theorem changeB_symm {t : TitD} (hg : GoodP t.colours.length t.pairs) (a b : EdD) : changeB t a b = changeB t b a := by
  unfold changeB
  refine platesB_congr hg fun p _ => ?_
  rw [Bool.eq_iff_iff]
  simp only [decide_eq_true_eq]
  exact ⟨Ne.symm, Ne.symm⟩
theorem marksN_mono {pairs : List Int} {h g : Nat → Bool} {n i : Nat} (e : ∀ p, p < n → h p = true → g p = true) (hm : marksN pairs h n i = true) : marksN pairs g n i = true := by
  unfold marksN at hm ⊢
  rw [List.any_eq_true] at hm ⊢
  obtain ⟨p, hp, q⟩ := hm
  rw [Bool.and_eq_true] at q
  exact ⟨p, hp, by rw [Bool.and_eq_true]; exact ⟨e p (List.mem_range.1 hp) q.1, q.2⟩⟩
theorem changeB_tri {t : TitD} (hg : GoodP t.colours.length t.pairs) (hc : ∀ c ∈ t.colours, 1 ≤ c ∧ c ≤ 4) (a b z : EdD) : changeB t a b ≤ changeB t a z + changeB t z b := by
  unfold changeB
  rw [platesB_marks hg, platesB_marks hg, platesB_marks hg, ← sumN_add]
  refine sumN_le fun i hi => ?_
  have e : t.colours.getD i 0 = t.colours[i] := by simp [hi]
  have hci := hc _ (List.getElem_mem hi)
  rw [e]
  by_cases h : marksN t.pairs (fun p => decide (a.variants.getD p (-1) ≠ b.variants.getD p (-1))) t.colours.length i = true
  · rw [if_pos h]
    have : marksN t.pairs (fun p => decide (a.variants.getD p (-1) ≠ z.variants.getD p (-1))) t.colours.length i = true ∨ marksN t.pairs (fun p => decide (z.variants.getD p (-1) ≠ b.variants.getD p (-1))) t.colours.length i = true := by
      unfold marksN at h ⊢
      simp only [List.any_eq_true, Bool.and_eq_true, decide_eq_true_eq] at h ⊢
      obtain ⟨p, hp, q, o⟩ := h
      by_cases h1 : a.variants.getD p (-1) = z.variants.getD p (-1)
      · right; exact ⟨p, hp, fun h2 => q (h1.trans h2), o⟩
      · left; exact ⟨p, hp, h1, o⟩
    rcases this with h1 | h1
    · rw [if_pos h1]; split <;> omega
    · rw [if_pos h1]; split <;> omega
  · rw [if_neg h]
    split <;> split <;> omega
theorem changeB_self {t : TitD} (hg : GoodP t.colours.length t.pairs) (a : EdD) : changeB t a a = 0 := by
  unfold changeB
  rw [platesB_marks hg]
  refine sumN_zero fun i _ => ?_
  have : marksN t.pairs (fun p => decide (a.variants.getD p (-1) ≠ a.variants.getD p (-1))) t.colours.length i = false := by
    unfold marksN
    rw [List.any_eq_false]
    intro p _
    simp
  rw [this]; simp
theorem owner_lt {pairs : List Int} {p n : Nat} (h : p < n) : ownerN pairs p < n := by unfold ownerN; split <;> omega
theorem changeB_pos {t : TitD} (hg : GoodP t.colours.length t.pairs) (hc : ∀ c ∈ t.colours, 1 ≤ c ∧ c ≤ 4) {a b : EdD} {p : Nat} (hp : p < t.colours.length) (h : a.variants.getD p (-1) ≠ b.variants.getD p (-1)) : 0 < changeB t a b := by
  unfold changeB
  rw [platesB_marks hg]
  have ho := owner_lt (pairs := t.pairs) hp
  refine sumN_pos (k := ownerN t.pairs p) (fun i hi => ?_) ho ?_
  · have e : t.colours.getD i 0 = t.colours[i] := by simp [hi]
    have hci := hc _ (List.getElem_mem hi)
    rw [e]; split <;> omega
  · have hm : marksN t.pairs (fun p => decide (a.variants.getD p (-1) ≠ b.variants.getD p (-1))) t.colours.length (ownerN t.pairs p) = true := by
      unfold marksN
      rw [List.any_eq_true]
      exact ⟨p, List.mem_range.2 hp, by rw [Bool.and_eq_true]; exact ⟨decide_eq_true h, decide_eq_true rfl⟩⟩
    rw [hm, if_pos rfl]
    have e : t.colours.getD (ownerN t.pairs p) 0 = t.colours[ownerN t.pairs p] := by simp [ho]
    have hci := hc _ (List.getElem_mem ho)
    rw [e]; omega
theorem changeB_le {t : TitD} (hg : GoodP t.colours.length t.pairs) (hc : ∀ c ∈ t.colours, 1 ≤ c ∧ c ≤ 4) (a b : EdD) : changeB t a b ≤ allB t := by
  unfold changeB allB
  rw [platesB_marks hg, platesB_marks hg]
  refine sumN_le fun i hi => ?_
  have e : t.colours.getD i 0 = t.colours[i] := by simp [hi]
  have hci := hc _ (List.getElem_mem hi)
  rw [e]
  by_cases h : marksN t.pairs (fun p => decide (a.variants.getD p (-1) ≠ b.variants.getD p (-1))) t.colours.length i = true
  · rw [if_pos h, if_pos (marksN_mono (fun _ _ _ => rfl) h)]; omega
  · rw [if_neg h]; split <;> omega
/-- editions have variants of their own -/
theorem addZ_nodup {es : List EdD} {i : Int} {z : ZonD} (h : (es.map EdD.variants).Nodup) : ((addZ es i z).map EdD.variants).Nodup := by
  unfold addZ
  split
  · exact h
  · split
    · rename_i h0 h1
      have : (es.map fun e => if e.variants == z.variants then (⟨e.zones ++ [i], e.copies + z.copies, e.ready, min e.due z.due, e.variants⟩ : EdD) else e).map EdD.variants = es.map EdD.variants := by
        rw [List.map_map]
        refine List.map_congr_left fun e _ => ?_
        dsimp only [Function.comp]
        split <;> rfl
      rw [this]; exact h
    · rename_i h0 h1
      rw [List.map_append, List.nodup_append]
      refine ⟨h, by simp, ?_⟩
      intro a ha b hb hab
      simp at hb
      subst hb
      subst hab
      obtain ⟨e, he, hv⟩ := List.mem_map.1 ha
      exact h1 (List.any_eq_true.2 ⟨e, he, by simpa using hv⟩)
theorem edsN_nodup (t : TitD) (k : Nat) : ((edsN t k).map EdD.variants).Nodup := by
  induction k with
  | zero => simp [edsN]
  | succ k ih => exact addZ_nodup ih
theorem edsR_nodup (t : TitD) : ((edsR t).map EdD.variants).Nodup := by
  unfold edsR
  rw [List.map_map]
  exact edsN_nodup t _
end Go.Ed
namespace Go.Ed
/-- the same editions, ready no earlier -/
def Later (es es' : List EdD) : Prop := es.length = es'.length ∧ ∀ e, (es.getD e ed0).copies = (es'.getD e ed0).copies ∧ (es.getD e ed0).due = (es'.getD e ed0).due ∧ (es.getD e ed0).variants = (es'.getD e ed0).variants ∧ (es.getD e ed0).ready ≤ (es'.getD e ed0).ready
theorem changeB_vars (t : TitD) {a b a' b' : EdD} (h1 : a.variants = a'.variants) (h2 : b.variants = b'.variants) : changeB t a b = changeB t a' b' := by
  unfold changeB; rw [h1, h2]
theorem endOf_mono {t : TitD} {e e' : EdD} (h : e.copies = e'.copies) {b b' : Int} (hb : b ≤ b') : endOf t e b ≤ endOf t e' b' := by
  unfold endOf; rw [h]; omega
theorem slotE_later {t : TitD} {es es' : List EdD} (h : Later es es') {l l' : Option SloD} {e : Nat} (hl : (l = none ∧ l' = none) ∨ ∃ s s', l = some s ∧ l' = some s' ∧ s.edition = s'.edition ∧ s.fin ≤ s'.fin) :
    (slotE t es l e).edition = (slotE t es' l' e).edition ∧ (slotE t es l e).plates = (slotE t es' l' e).plates ∧ (slotE t es l e).fin ≤ (slotE t es' l' e).fin := by
  obtain ⟨h1, h2, h3, h4⟩ := h.2 e
  rcases hl with ⟨rfl, rfl⟩ | ⟨s, s', rfl, rfl, he, hf⟩
  · refine ⟨rfl, rfl, ?_⟩
    show endOf t _ _ ≤ endOf t _ _
    exact endOf_mono h1 (by omega)
  · have hv := changeB_vars t (h.2 s.edition.toNat).2.2.1 h3
    refine ⟨rfl, ?_, ?_⟩
    · show changeB t _ _ = changeB t _ _
      rw [hv, he]
    · show endOf t _ _ ≤ endOf t _ _
      rw [hv, he]
      exact endOf_mono h1 (by omega)
theorem runE_later {t : TitD} {es es' : List EdD} (h : Later es es') (o : List Nat) :
    (runE t es o).1 = (runE t es' o).1 ∧ (((runE t es o).2.1 = none ∧ (runE t es' o).2.1 = none) ∨ ∃ s s', (runE t es o).2.1 = some s ∧ (runE t es' o).2.1 = some s' ∧ s.edition = s'.edition ∧ s.fin ≤ s'.fin) ∧ ((runE t es o).2.2 = true → (runE t es' o).2.2 = true) := by
  have key : ∀ (r : List Nat) (st st' : RunS), st.1 = st'.1 → ((st.2.1 = none ∧ st'.2.1 = none) ∨ ∃ s s', st.2.1 = some s ∧ st'.2.1 = some s' ∧ s.edition = s'.edition ∧ s.fin ≤ s'.fin) → (st.2.2 = true → st'.2.2 = true) →
      (r.foldl (stepE t es) st).1 = (r.foldl (stepE t es') st').1 ∧ (((r.foldl (stepE t es) st).2.1 = none ∧ (r.foldl (stepE t es') st').2.1 = none) ∨ ∃ s s', (r.foldl (stepE t es) st).2.1 = some s ∧ (r.foldl (stepE t es') st').2.1 = some s' ∧ s.edition = s'.edition ∧ s.fin ≤ s'.fin) ∧ ((r.foldl (stepE t es) st).2.2 = true → (r.foldl (stepE t es') st').2.2 = true) := by
    intro r
    induction r with
    | nil => intro st st' a b c; exact ⟨a, b, c⟩
    | cons e r ih =>
      intro st st' a b c
      obtain ⟨q1, q2, q3⟩ := slotE_later (t := t) h (e := e) b
      rw [List.foldl_cons, List.foldl_cons]
      refine ih _ _ ?_ (.inr ⟨_, _, rfl, rfl, q1, q3⟩) ?_
      · simp only [stepE]; rw [a, q2]
      · simp only [stepE, Bool.or_eq_true]
        rintro (hh | hh)
        · exact .inl (c hh)
        · right
          unfold lateB at hh ⊢
          rw [← q1]
          have := (h.2 (slotE t es st.2.1 e).edition.toNat).2.1
          simp only [decide_eq_true_eq] at hh ⊢
          omega
  exact key o _ _ rfl (.inl ⟨rfl, rfl⟩) (fun h => h)
end Go.Ed
