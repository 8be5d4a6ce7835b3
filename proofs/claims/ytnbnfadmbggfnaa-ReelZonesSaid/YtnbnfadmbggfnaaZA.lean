/- Words and small contracts of layer 3; conditions: as each says. Turned from another seat by a program. -/
import Derived.Test.YtnbnfadmbggfnaaBase
import Derived.Test.YtnbnfadmbggfnaaKit
import Derived.Test.YtnbnfadmbggfnaaMaps
import Derived.Test.YtnbnfadmbggfnaaA1
import Derived.Test.YtnbnfadmbggfnaaC1
import Derived.Test.YtnbnfadmbggfnaaCG
import Derived.BigQuiet
import Derived.ChangeKeysEq
import Derived.Deep.DeepCutAuto
import Derived.Deep.DeepMust
import Derived.Deep.OwnRows
import Derived.Deep.QuietTactic
import Derived.Deep.RegionHeld3
import Derived.Lib.Hide
import Derived.Maps.Own
import Derived.Maps.OwnOps
import Derived.Shelf.Slices.Clone
set_option linter.unusedSimpArgs false
set_option linter.unusedVariables false
namespace Go.Ed
def inBZ (n a b : Int) : Bool := decide (a ≤ n ∧ n ≤ b)
theorem inB_iffZ {n a b : Int} : inBZ n a b = true ↔ a ≤ n ∧ n ≤ b := by simp [inBZ]
structure ZonD where
  copies : Int
  due : Int
  variants : List Int
structure TitD where
  colours : List Int
  pairs : List Int
  zones : List ZonD
  ready : List (Int × Int × Int)
  start : Int
  rate : Int
  stop : Int
  hang : Int
structure EdD where
  zones : List Int
  copies : Int
  ready : Int
  due : Int
  variants : List Int
/-- the pair at a place is right, after those ahead of it -/
def pairAt (c : List Int) (l : List Int) (k : Nat) : Bool :=
  inBZ (l.getD k 0) 0 ((c.length : Int) - 2) && !((l.take k).any fun q => q == l.getD k 0 || q + 1 == l.getD k 0 || q == l.getD k 0 + 1) && c.getD (l.getD k 0).toNat 0 == c.getD ((l.getD k 0).toNat + 1) 0
def pairedB (t : TitD) : Bool := (List.range t.pairs.length).all (pairAt t.colours t.pairs)
/-- the error of a zone; 0 if there is none -/
def errZ (t : TitD) (z : ZonD) : Int :=
  if !inBZ z.copies 0 1000000 || !inBZ z.due 0 86400 then 6 else if z.variants.length ≠ t.colours.length || z.variants.any (fun v => !inBZ v 0 9) then 40 else 0
def metR (l : List (Int × Int × Int)) (k : Nat) (r : Int × Int × Int) : Bool := (l.take k).any fun q => q.1 == r.1 && q.2.1 == r.2.1
def errR (t : TitD) (k : Nat) : Int :=
  let r := t.ready.getD k (0, 0, 0)
  if !inBZ r.1 0 ((t.colours.length : Int) - 1) || (!inBZ r.2.1 0 9 || !inBZ r.2.2 0 86400) then 6 else if metR t.ready k r then 10 else 0
/-- the first error of so many -/
def firstErrZ (f : Nat → Int) : Nat → Int
  | 0 => 0
  | n + 1 => if firstErrZ f n ≠ 0 then firstErrZ f n else f n
theorem firstErr_zeroZ {f : Nat → Int} {n : Nat} (h : firstErrZ f n = 0) : ∀ i, i < n → f i = 0 := by
  induction n with
  | zero => intro i hi; omega
  | succ n ih =>
    simp only [firstErrZ] at h
    by_cases h0 : firstErrZ f n = 0
    · rw [if_neg (by simpa using h0)] at h
      intro i hi
      by_cases e : i = n
      · subst e; exact h
      · exact ih h0 i (by omega)
    · rw [if_pos h0] at h; exact absurd h h0
theorem firstErr_goZ {f : Nat → Int} {n : Nat} (h : firstErrZ f n = 0) (hf : f n = 0) : firstErrZ f (n + 1) = 0 := by simp [firstErrZ, h, hf]
theorem firstErr_stopZ {f : Nat → Int} {m k : Nat} (h : firstErrZ f k = 0) (hf : f k ≠ 0) (hk : k < m) : firstErrZ f m = f k := by
  induction m with
  | zero => omega
  | succ m ih =>
    simp only [firstErrZ]
    by_cases e : k = m
    · subst e; simp [h]
    · rw [ih (by omega), if_pos hf]
/-- one zone more -/
def addZ (es : List EdD) (i : Int) (z : ZonD) : List EdD :=
  if z.copies = 0 then es
  else if es.any (fun e => e.variants == z.variants) then
    es.map fun e => if e.variants == z.variants then ⟨e.zones ++ [i], e.copies + z.copies, e.ready, min e.due z.due, e.variants⟩ else e
  else es ++ [⟨[i], z.copies, 0, min 86400 z.due, z.variants⟩]
def edsN (t : TitD) : Nat → List EdD
  | 0 => []
  | k + 1 => addZ (edsN t k) k (t.zones.getD k ⟨0, 0, []⟩)
/-- when the last plates of variants can be hung, by the first k of a list -/
def readyN (l : List (Int × Int × Int)) (v : List Int) : Nat → Int
  | 0 => 0
  | k + 1 => if v.getD (l.getD k (0, 0, 0)).1.toNat (-1) = (l.getD k (0, 0, 0)).2.1 then max (readyN l v k) (l.getD k (0, 0, 0)).2.2 else readyN l v k
def edsR (t : TitD) : List EdD := (edsN t t.zones.length).map fun e => ⟨e.zones, e.copies, readyN t.ready e.variants t.ready.length, e.due, e.variants⟩
def checkT (t : TitD) : Int :=
  if !inBZ t.colours.length 1 64 || (!inBZ t.zones.length 1 12 || decide (200 < t.ready.length)) then 2
  else if !inBZ t.start 0 86400 || (!inBZ t.rate 1 3000 || (!inBZ t.stop 0 3600 || !inBZ t.hang 0 3600)) then 6
  else if t.colours.any (fun c => !inBZ c 1 4) || !pairedB t then 21
  else if firstErrZ (fun k => errZ t (t.zones.getD k ⟨0, 0, []⟩)) t.zones.length ≠ 0 then firstErrZ (fun k => errZ t (t.zones.getD k ⟨0, 0, []⟩)) t.zones.length
  else if firstErrZ (errR t) t.ready.length ≠ 0 then firstErrZ (errR t) t.ready.length
  else if (edsN t t.zones.length).length = 0 then 4
  else if 7 < (edsN t t.zones.length).length then 8
  else 0
/-- how many plates the pages have of which something holds: from page p on, so many steps -/
def platesF (c pairs : List Int) (h : Nat → Bool) : Nat → Nat → Int
  | 0, _ => 0
  | fuel + 1, p =>
    if c.length ≤ p then 0
    else if pairs.any (fun q => q == (p : Int)) then (if h p || h (p + 1) then c.getD p 0 else 0) + platesF c pairs h fuel (p + 2)
    else (if h p then c.getD p 0 else 0) + platesF c pairs h fuel (p + 1)
def platesB (t : TitD) (h : Nat → Bool) : Int := platesF t.colours t.pairs h t.colours.length 0
def changeB (t : TitD) (a b : EdD) : Int := platesB t fun p => decide (a.variants.getD p (-1) ≠ b.variants.getD p (-1))
def allB (t : TitD) : Int := platesB t fun _ => true
def ed0 : EdD := ⟨[], 0, 0, 0, []⟩
def ordersB (n : Nat) (order : List Int) : Bool := decide (order.length = n) && order.all (fun e => inBZ e 0 ((n : Int) - 1)) && decide order.Nodup
end Go.Ed
namespace Go.Ed
def sumNZ (f : Nat → Int) : Nat → Int
  | 0 => 0
  | n + 1 => sumNZ f n + f n
theorem sumN_bdZ {f : Nat → Int} {n : Nat} {B : Int} (h : ∀ i, i < n → 0 ≤ f i ∧ f i ≤ B) : 0 ≤ sumNZ f n ∧ sumNZ f n ≤ B * n := by
  induction n with
  | zero => simp [sumNZ]
  | succ n ih =>
    have h1 := ih (fun i hi => h i (by omega))
    have h2 := h n (by omega)
    simp only [sumNZ]
    have : B * ((n + 1 : Nat) : Int) = B * n + B := by rw [Int.natCast_add, Int.mul_add]; simp
    omega
def inP (pairs : List Int) (p : Nat) : Bool := pairs.any fun q => q == (p : Int)
def ownerN (pairs : List Int) (p : Nat) : Nat := if decide (0 < p) && inP pairs (p - 1) then p - 1 else p
/-- pairs do not meet, and lie within the pages -/
def GoodP (n : Nat) (pairs : List Int) : Prop := ∀ p, inP pairs p = true → p + 1 < n ∧ inP pairs (p + 1) = false
theorem inP_iff {pairs : List Int} {p : Nat} : inP pairs p = true ↔ ∃ k, ∃ hk : k < pairs.length, pairs[k] = (p : Int) := by
  unfold inP
  rw [List.any_eq_true]
  constructor
  · rintro ⟨q, hq, e⟩
    obtain ⟨k, hk, rfl⟩ := List.mem_iff_getElem.1 hq
    exact ⟨k, hk, by simpa using e⟩
  · rintro ⟨k, hk, e⟩
    exact ⟨pairs[k], List.getElem_mem hk, by simpa using e⟩
theorem pairAt_get {c l : List Int} {k : Nat} (hk : k < l.length) (h : pairAt c l k = true) : (0 ≤ l[k] ∧ l[k] ≤ (c.length : Int) - 2) ∧ (∀ j (hj : j < k), l[j]'(by omega) ≠ l[k] ∧ l[j]'(by omega) + 1 ≠ l[k] ∧ l[j]'(by omega) ≠ l[k] + 1) ∧ c.getD l[k].toNat 0 = c.getD (l[k].toNat + 1) 0 := by
  unfold pairAt at h
  have e : l.getD k 0 = l[k] := by simp [hk]
  rw [e, Bool.and_eq_true, Bool.and_eq_true] at h
  obtain ⟨⟨h1, h2⟩, h3⟩ := h
  refine ⟨inB_iffZ.1 h1, fun j hj => ?_, by simpa using h3⟩
  rw [Bool.not_eq_true', List.any_eq_false] at h2
  have hm : l[j]'(by omega) ∈ l.take k := by rw [List.mem_take_iff_getElem]; exact ⟨j, by omega, rfl⟩
  have := h2 _ hm
  simp at this
  exact ⟨this.1.1, this.1.2, this.2⟩
theorem good_of_paired {t : TitD} (h : pairedB t = true) : GoodP t.colours.length t.pairs := by
  unfold pairedB at h
  rw [List.all_eq_true] at h
  have hk : ∀ k (hk : k < t.pairs.length), _ := fun k hk => pairAt_get hk (h k (List.mem_range.2 hk))
  intro p hp
  obtain ⟨k, hk1, e⟩ := inP_iff.1 hp
  refine ⟨by have := (hk k hk1).1; omega, ?_⟩
  cases hq : inP t.pairs (p + 1)
  · rfl
  · obtain ⟨j, hj1, e2⟩ := inP_iff.1 hq
    exfalso
    by_cases hjk : j < k
    · have := (hk k hk1).2.1 j hjk
      omega
    · by_cases hkj : k < j
      · have := (hk j hj1).2.1 k hkj
        omega
      · have : j = k := by omega
        subst this
        omega
/-- of a first page of plates: whether something holds of it or of the page beside it -/
def someH (pairs : List Int) (h : Nat → Bool) (i : Nat) : Bool := (decide (ownerN pairs i = i) && h i) || (inP pairs i && h (i + 1))
theorem platesF_sum {c pairs : List Int} (hg : GoodP c.length pairs) (h : Nat → Bool) : ∀ fuel p, p ≤ c.length → c.length ≤ p + fuel → (p = 0 ∨ inP pairs (p - 1) = false) →
    platesF c pairs h fuel p + sumNZ (fun i => if someH pairs h i then c.getD i 0 else 0) p = sumNZ (fun i => if someH pairs h i then c.getD i 0 else 0) c.length := by
  intro fuel
  induction fuel with
  | zero =>
    intro p hp hf _
    obtain rfl : p = c.length := by omega
    simp [platesF]
  | succ fuel ih =>
    intro p hp hf ho
    unfold platesF
    by_cases hpl : c.length ≤ p
    · obtain rfl : p = c.length := by omega
      rw [if_pos hpl]; simp
    · rw [if_neg hpl]
      have hown : ownerN pairs p = p := by
        unfold ownerN
        rcases ho with rfl | ho
        · simp
        · rw [ho]; simp
      by_cases hin : inP pairs p = true
      · have hin' : (pairs.any fun q => q == (p : Int)) = true := hin
        rw [if_pos hin']
        obtain ⟨h1, h2⟩ := hg p hin
        have hi := ih (p + 2) (by omega) (by omega) (.inr (by simpa using h2))
        have hown2 : ownerN pairs (p + 1) = p := by unfold ownerN; simp [hin]
        have e1 : someH pairs h p = (h p || h (p + 1)) := by unfold someH; rw [hown, hin]; simp
        have e2 : someH pairs h (p + 1) = false := by unfold someH; rw [hown2, h2]; simp
        have es : sumNZ (fun i => if someH pairs h i then c.getD i 0 else 0) (p + 2) = sumNZ (fun i => if someH pairs h i then c.getD i 0 else 0) p + (if (h p || h (p + 1)) = true then c.getD p 0 else 0) := by
          simp only [sumNZ]
          rw [e1, e2]
          simp
        rw [es] at hi
        omega
      · have hin0 : inP pairs p = false := by simpa using hin
        have hin' : ¬ (pairs.any fun q => q == (p : Int)) = true := hin
        rw [if_neg hin']
        have hi := ih (p + 1) (by omega) (by omega) (.inr (by simpa using hin0))
        have e1 : someH pairs h p = h p := by unfold someH; rw [hown, hin0]; simp
        have es : sumNZ (fun i => if someH pairs h i then c.getD i 0 else 0) (p + 1) = sumNZ (fun i => if someH pairs h i then c.getD i 0 else 0) p + (if h p = true then c.getD p 0 else 0) := by
          simp only [sumNZ]
          rw [e1]
        rw [es] at hi
        omega
theorem platesB_sum {t : TitD} (hg : GoodP t.colours.length t.pairs) (h : Nat → Bool) : platesB t h = sumNZ (fun i => if someH t.pairs h i then t.colours.getD i 0 else 0) t.colours.length := by
  have := platesF_sum hg h t.colours.length 0 (by omega) (by omega) (.inl rfl)
  simpa [platesB, sumNZ] using this
end Go.Ed
namespace Go.Ed
theorem platesB_bd {t : TitD} (hg : GoodP t.colours.length t.pairs) (hc : ∀ c ∈ t.colours, 1 ≤ c ∧ c ≤ 4) (h : Nat → Bool) : 0 ≤ platesB t h ∧ platesB t h ≤ 4 * t.colours.length := by
  rw [platesB_sum hg]
  refine sumN_bdZ fun i hi => ?_
  have e : t.colours.getD i 0 = t.colours[i] := by simp [hi]
  have := hc _ (List.getElem_mem hi)
  rw [e]
  split <;> omega
theorem addZ_len (es : List EdD) (i : Int) (z : ZonD) : es.length ≤ (addZ es i z).length ∧ (addZ es i z).length ≤ es.length + 1 := by
  unfold addZ
  split
  · omega
  · split <;> simp
theorem edsN_len (t : TitD) (k : Nat) : (edsN t k).length ≤ k := by
  induction k with
  | zero => simp [edsN]
  | succ k ih => have := (addZ_len (edsN t k) k (t.zones.getD k ⟨0, 0, []⟩)).2; simp only [edsN]; omega
theorem edsR_len (t : TitD) : (edsR t).length = (edsN t t.zones.length).length := by simp [edsR]
end Go.Ed
namespace Go.Ed
abbrev Best := Option (List Nat × Int × Int)
def more (b : Best) (p : Int) : Bool :=
  match b with
  | none => false
  | some (_, bp, _) => decide (bp < p)
end Go.Ed
namespace Go.Ed
/-- editions have variants of their own -/
theorem addZ_nodup {es : List EdD} {i : Int} {z : ZonD} (h : (es.map EdD.variants).Nodup) : ((addZ es i z).map EdD.variants).Nodup := by
  unfold addZ
  split
  · exact h
  · split
    · rename_i h0 h1
      have : (es.map fun e => if e.variants == z.variants then (⟨e.zones ++ [i], e.copies + z.copies, e.ready, min e.due z.due, e.variants⟩ : EdD) else e).map EdD.variants = es.map EdD.variants := by
        rw [List.map_map]
        refine List.map_congr_left fun e _ => ?_
        dsimp only [Function.comp]
        split <;> rfl
      rw [this]; exact h
    · rename_i h0 h1
      rw [List.map_append, List.nodup_append]
      refine ⟨h, by simp, ?_⟩
      intro a ha b hb hab
      simp at hb
      subst hb
      subst hab
      obtain ⟨e, he, hv⟩ := List.mem_map.1 ha
      exact h1 (List.any_eq_true.2 ⟨e, he, by simpa using hv⟩)
theorem edsN_nodup (t : TitD) (k : Nat) : ((edsN t k).map EdD.variants).Nodup := by
  induction k with
  | zero => simp [edsN]
  | succ k ih => exact addZ_nodup ih
end Go.Ed
namespace Go.Proofs.Ytnbnfadmbggfnaa
open Go.RowKit Go.Fh Go.Ed
theorem within_anyZ (n a b : Int) (w : World) :
    Calls Try.prog 132 #[.int .i64 n, .int .i64 a, .int .i64 b] w fun e w' => e = .returned (.bool (inBZ n a b)) ∧ w = w' := by
  by_cases h1 : a ≤ n
  · by_cases h2 : n ≤ b
    all_goals
      go_enter Try.func132, Try.ntmps132
      go_wp2
      go_ret
      exact ⟨by simp [inBZ]; try omega, rfl⟩
  · go_enter Try.func132, Try.ntmps132
    go_wp2
    go_ret
    exact ⟨by simp [inBZ]; omega, rfl⟩
end Go.Proofs.Ytnbnfadmbggfnaa
namespace Go.Ed
/-- where a title's lists lie -/
structure TA where
  a : Option Go.Addr
  ca : Nat
  b : Option Go.Addr
  cb : Nat
  z : Option Go.Addr
  cz : Nat
  r : Option Go.Addr
  cr : Nat
def titV (t : TitD) (x : TA) : Array Go.Value := #[.slice x.a t.colours.length x.ca, .slice x.b t.pairs.length x.cb, .slice x.z t.zones.length x.cz, .slice x.r t.ready.length x.cr, .int .i64 t.start, .int .i64 t.rate, .int .i64 t.stop, .int .i64 t.hang]
/-- the pages that the first k pairs take -/
def takenN (l : List Int) (k : Nat) (i : Nat) : Bool := (l.take k).any fun q => q == (i : Int) || q + 1 == (i : Int)
theorem takenN_succ {l : List Int} {k : Nat} (hk : k < l.length) (i : Nat) : takenN l (k + 1) i = (takenN l k i || (l[k] == (i : Int) || l[k] + 1 == (i : Int))) := by
  unfold takenN
  rw [List.take_succ_eq_append_getElem hk, List.any_append]
  simp
theorem pairAt_taken {c l : List Int} {k : Nat} (hk : k < l.length) : pairAt c l k = (inBZ l[k] 0 ((c.length : Int) - 2) && (!(takenN l k l[k].toNat) && (!(takenN l k (l[k].toNat + 1)) && (c.getD l[k].toNat 0 == c.getD (l[k].toNat + 1) 0)))) := by
  unfold pairAt
  have e : l.getD k 0 = l[k] := by simp [hk]
  rw [e]
  cases h : inBZ l[k] 0 ((c.length : Int) - 2)
  · simp
  · have h0 := (inB_iffZ.1 h).1
    have : ((l.take k).any fun q => q == l[k] || q + 1 == l[k] || q == l[k] + 1) = (takenN l k l[k].toNat || takenN l k (l[k].toNat + 1)) := by
      unfold takenN
      rw [Bool.eq_iff_iff]
      simp only [Bool.or_eq_true, List.any_eq_true, beq_iff_eq]
      constructor
      · rintro ⟨q, hq, (h1 | h1) | h1⟩
        · left; exact ⟨q, hq, .inl (by omega)⟩
        · left; exact ⟨q, hq, .inr (by omega)⟩
        · right; exact ⟨q, hq, .inl (by omega)⟩
      · rintro (⟨q, hq, h1 | h1⟩ | ⟨q, hq, h1 | h1⟩)
        · exact ⟨q, hq, .inl (.inl (by omega))⟩
        · exact ⟨q, hq, .inl (.inr (by omega))⟩
        · exact ⟨q, hq, .inr (by omega)⟩
        · exact ⟨q, hq, .inl (.inl (by omega))⟩
    rw [this]
    cases takenN l k l[k].toNat <;> cases takenN l k (l[k].toNat + 1) <;> simp
theorem pairedB_stop {t : TitD} {k : Nat} (hk : k < t.pairs.length) (h : pairAt t.colours t.pairs k = false) : pairedB t = false := by
  unfold pairedB
  rw [List.all_eq_false]
  exact ⟨k, List.mem_range.2 hk, by simp [h]⟩
theorem pairedB_all {t : TitD} (h : ∀ k, k < t.pairs.length → pairAt t.colours t.pairs k = true) : pairedB t = true := by
  unfold pairedB
  rw [List.all_eq_true]
  exact fun k hk => h k (List.mem_range.1 hk)
end Go.Ed
namespace Go.Proofs.Ytnbnfadmbggfnaa
open Go.RowKit Go.Fh Go.Ed
theorem infoBool : (Try.prog.info? 4).map (fun i => (i.zero, i.size, i.bytes)) = some (some (.bool false), 1, 1) := by kernel_rfl
set_option maxRecDepth 20000 in
set_option maxHeartbeats 4000000 in
theorem paired_any (t : TitD) (x : TA) (w : World) (hc : t.colours.length ≤ 1000) (hp : t.pairs.length ≤ 9223372036854775807) (hA : Sl encInt 1 w w.heap.size x.a t.colours) (hB : Sl encInt 1 w w.heap.size x.b t.pairs) :
    Calls Try.prog 134 #[.agg (titV t x)] w fun e w' => e = .returned (.bool (pairedB t)) ∧ Below w.heap.size w w' := by
  obtain ⟨w1, hw1⟩ : ∃ W, W = w.alloc (.cells (titV t x) 86) := ⟨_, rfl⟩
  have hb1 : Below w.heap.size w w1 := by rw [hw1]; exact (Below.refl _ _).alloc (Nat.le_refl _) _
  have kT : Blk w1 w.heap.size 86 (titV t x) := by rw [hw1]; exact Blk.new _ _ _
  obtain ⟨gT, hgT⟩ : ∃ g, g = w.heap.size := ⟨_, rfl⟩
  rw [← hgT] at kT
  have hmk := run_make_row' (P := Try.prog) 217 4 (.bool false) 1 Try.underlying217 infoBool rfl .i64 .i64 t.colours.length (by omega) (by omega) w1
  obtain ⟨w2, hw2⟩ : ∃ W, W = w1.alloc (.cells (madeCells #[.bool false] t.colours.length) 4) := ⟨_, rfl⟩
  rw [← hw2] at hmk
  have hr0 : w2.rowIs w1.heap.size 4 t.colours.length (fun _ => .bool false) := by rw [hw2]; exact World.rowIs_made w1 (.bool false) t.colours.length 4
  have hb12 : Below w1.heap.size w1 w2 := by rw [hw2]; exact (Below.refl _ _).alloc (Nat.le_refl _) _
  obtain ⟨gK, hgK⟩ : ∃ g, g = w1.heap.size := ⟨_, rfl⟩
  rw [← hgK] at hmk hr0
  have HA := Lib.hid hA
  have HB := Lib.hid hB
  have HB1 := Lib.hid hb1
  have HW1 := Lib.hid hw1
  have HGT := Lib.hid hgT
  have HGK := Lib.hid hgK
  have KT := Lib.hid kT
  have HR0 := Lib.hid hr0
  have HB12 := Lib.hid hb12
  have hgl : gT < w1.heap.size := kT.lt
  have r0 := kT.cell 0
  have r1 := kT.cell 1
  simp [titV] at r0 r1
  have k2 := kT.below hb12 hgl
  have s1 := k2.cell 1
  simp [titV] at s1
  clear hA hB hb1 hw1 hw2 hgT hgK kT hr0 hb12 k2
  unfold titV at *
  go_enter Try.func134, Try.ntmps134
  go_upto_region 1 with fail
  rw [← HW1.out, ← HGT.out]
  go_upto_region 2 with fail
  clear hmk r0 r1
  go_wp2_with fail
  have HBW := Lib.hid (HB1.out.trans (HB12.out.mono HB1.out.size))
  go_loopw [13] (fun i wr => ∃ k : Nat, k ≤ t.pairs.length ∧ i = .int .i64 k ∧ Hid (∀ j, j < k → pairAt t.colours t.pairs j = true) ∧ Hid (wr.rowIs gK 4 t.colours.length (fun j => .bool (takenN t.pairs k j))) ∧ Below w1.heap.size w1 wr) (fun i _ => t.pairs.length - (intOf i).toNat)
  case atStart => exact ⟨0, Nat.zero_le _, rfl, fun j hj => absurd hj (by omega), HR0, HB12.out⟩
  case round =>
    obtain ⟨k, hk, rfl, HP, HR, hB⟩ := hrel
    have hBw := HB1.out.trans (hB.mono HB1.out.size)
    have HBR := Lib.hid hBw
    have kr := KT.out.below hB hgl
    have r0 := kr.cell 0
    have r1 := kr.cell 1
    simp at r0 r1
    by_cases hlt : k < t.pairs.length
    · obtain ⟨pb, po, hpa, hpb, c0⟩ := (HB.out.below hBw).at1 hlt
      have hpt := pairAt_taken (c := t.colours) hlt
      have hstop := fun (h : pairAt t.colours t.pairs k = false) => pairedB_stop hlt h
      have f1 := IntWalk.i64_in ((t.colours.length : Int) - 2) (by omega)
      rw [hpa]
      rw [hpa] at r1
      obtain ⟨p, hp'⟩ : ∃ p, p = t.pairs[k] := ⟨_, rfl⟩
      rw [← hp'] at c0 hpt
      have HPT := Lib.hid hpt
      have HST := Lib.hid hstop
      have HPV := Lib.hid hp'
      clear hpt hstop hp' kr hBw
      cases hin : inBZ p 0 ((t.colours.length : Int) - 2)
      · have HF := Lib.hid (HST.out (by rw [HPT.out, hin]; rfl))
        go_wp2_with fail
        go_quiet ((go_at_call 132; exact Calls.quiet_of_same ((within_anyZ _ _ _ _).mono (fun e w' he => ⟨he.1, he.2.symm⟩))))
        go_wp2_with fail
        go_ret
        exact ⟨ret_bool HF.out.symm, below_drewN HBR.out _⟩
      · have hpr := inB_iffZ.1 hin
        obtain ⟨pn, rfl⟩ : ∃ pn : Nat, p = (pn : Int) := ⟨p.toNat, by omega⟩
        have hp1 : pn < t.colours.length := by omega
        have hp2 : pn + 1 < t.colours.length := by omega
        have f2 := IntWalk.i64_in ((pn : Int) + 1) (by omega)
        have e1 : ((pn : Int) + 1).toNat = pn + 1 := by omega
        have d1 := HR.out.cell hp1
        have d2 := HR.out.cell hp2
        have q1 := HPT.out
        rw [hin] at q1
        simp only [Int.toNat_natCast, Bool.true_and] at q1
        have HQ := Lib.hid q1
        clear q1
        cases ht1 : takenN t.pairs k pn
        · cases ht2 : takenN t.pairs k (pn + 1)
          · rw [ht1] at d1
            rw [ht2] at d2
            obtain ⟨ab, ao, hxa, hab, g1⟩ := (HA.out.below HBR.out).at1 hp1
            obtain ⟨ab', ao', hxa', hab', g2⟩ := (HA.out.below HBR.out).at1 hp2
            obtain ⟨rfl, rfl⟩ : ab = ab' ∧ ao = ao' := by rw [hxa] at hxa'; simpa using hxa'
            rw [hxa] at r0 ⊢
            have hgd1 : t.colours.getD pn 0 = t.colours[pn] := by simp [hp1]
            have hgd2 : t.colours.getD (pn + 1) 0 = t.colours[pn + 1] := by simp [hp2]
            have q1 := HQ.out
            rw [ht1, ht2, hgd1, hgd2] at q1
            obtain ⟨cA, hcA⟩ : ∃ c, c = t.colours[pn] := ⟨_, rfl⟩
            obtain ⟨cB, hcB⟩ : ∃ c, c = t.colours[pn + 1] := ⟨_, rfl⟩
            rw [← hcA] at g1 q1
            rw [← hcB] at g2 q1
            have Q1 := Lib.hid q1
            have HXA := Lib.hid hxa
            clear hcA hcB hxa hxa' hgd1 hgd2 q1
            by_cases he : cA = cB
            · have hne : (cA != cB) = false := by simp [he]
              have hpk : pairAt t.colours t.pairs k = true := by rw [Q1.out, he]; simp
              have HPK := Lib.hid hpk
              have z1 := HR.out.frozen pn
              have z2 := HR.out.frozen (pn + 1)
              have hsu := fun i => takenN_succ hlt i
              have HSU := Lib.hid hsu
              clear he hpk hsu
              go_wp2_with fail
              go_quiet ((go_at_call 132; exact Calls.quiet_of_same ((within_anyZ _ _ _ _).mono (fun e w' he => ⟨he.1, he.2.symm⟩))))
              go_wp2_with fail
              go_roundw
              case rel =>
                have hr0 : (wr.drewN nq).rowIs gK 4 t.colours.length (fun j => .bool (takenN t.pairs k j)) := World.rowIs.of_block HR.out rfl
                refine ⟨k + 1, by omega, by go_num, ?_, ?_, ?_⟩
                · intro j hj
                  by_cases e : j = k
                  · subst e; exact HPK.out
                  · exact HP.out j (by omega)
                · refine World.rowIs.congr ((hr0.set pn (.bool true)).set (pn + 1) (.bool true)) fun j hj => ?_
                  rw [HSU.out, ← HPV.out]
                  by_cases e1 : j = pn
                  · subst e1; simp
                  · by_cases e2 : j = pn + 1
                    · subst e2; simp
                    · have a1 : ((pn : Int) == (j : Int)) = false := by simp; omega
                      have a2 : ((pn : Int) + 1 == (j : Int)) = false := by rw [beq_eq_false_iff_ne]; omega
                      rw [a1, a2]
                      simp [e1, e2]
                · have hgk : w1.heap.size ≤ gK := by rw [HGK.out]; exact Nat.le_refl _
                  exact ((below_drewN hB _).setCell (by exact hgk) _).setCell (by exact hgk) _
              case measure => simp [intOf]; omega
            · have hne : (cA != cB) = true := by simp [he]
              have HF := Lib.hid (HST.out (by rw [Q1.out]; simpa using he))
              clear he
              go_wp2_with fail
              go_quiet ((go_at_call 132; exact Calls.quiet_of_same ((within_anyZ _ _ _ _).mono (fun e w' he => ⟨he.1, he.2.symm⟩))))
              go_wp2_with fail
              go_ret
              exact ⟨ret_bool HF.out.symm, below_drewN HBR.out _⟩
          · rw [ht1] at d1
            rw [ht2] at d2
            have HF := Lib.hid (HST.out (by rw [HQ.out, ht1, ht2]; rfl))
            go_wp2_with fail
            go_quiet ((go_at_call 132; exact Calls.quiet_of_same ((within_anyZ _ _ _ _).mono (fun e w' he => ⟨he.1, he.2.symm⟩))))
            go_wp2_with fail
            go_ret
            exact ⟨ret_bool HF.out.symm, below_drewN HBR.out _⟩
        · rw [ht1] at d1
          have HF := Lib.hid (HST.out (by rw [HQ.out, ht1]; rfl))
          go_wp2_with fail
          go_quiet ((go_at_call 132; exact Calls.quiet_of_same ((within_anyZ _ _ _ _).mono (fun e w' he => ⟨he.1, he.2.symm⟩))))
          go_wp2_with fail
          go_ret
          exact ⟨ret_bool HF.out.symm, below_drewN HBR.out _⟩
    · obtain rfl : k = t.pairs.length := by omega
      have HF := Lib.hid (pairedB_all HP.out)
      go_wp2_with fail
      go_ret
      exact ⟨ret_bool HF.out.symm, HBR.out⟩
end Go.Proofs.Ytnbnfadmbggfnaa
namespace Go.Ed
def findIZ {α : Type} (p : α → Bool) : List α → Int
  | [] => -1
  | x :: l => if p x then 0 else if findIZ p l < 0 then -1 else findIZ p l + 1
theorem findI_hitZ {α : Type} {p : α → Bool} {l : List α} {k : Nat} (hk : k < l.length) (h0 : ∀ x ∈ l.take k, p x = false) (h1 : p l[k] = true) : findIZ p l = k := by
  induction l generalizing k with
  | nil => simp at hk
  | cons x l ih =>
    cases k with
    | zero => simp at h1; simp [findIZ, h1]
    | succ k =>
      have hx : p x = false := h0 x (by simp)
      have := ih (k := k) (by simpa using hk) (fun y hy => h0 y (by simp [hy])) (by simpa using h1)
      simp only [findIZ, hx, this]
      split
      · contradiction
      · split
        · omega
        · omega
theorem findI_missZ {α : Type} {p : α → Bool} {l : List α} (h0 : ∀ x ∈ l, p x = false) : findIZ p l = -1 := by
  induction l with
  | nil => rfl
  | cons x l ih =>
    have hx : p x = false := h0 x (by simp)
    simp [findIZ, hx, ih (fun y hy => h0 y (by simp [hy]))]
theorem findI_anyZ {α : Type} (p : α → Bool) (l : List α) : decide (0 ≤ findIZ p l) = l.any p := by
  induction l with
  | nil => simp [findIZ]
  | cons x l ih =>
    simp only [findIZ, List.any_cons]
    by_cases hx : p x = true
    · simp [hx]
    · have hx' : p x = false := by simpa using hx
      simp only [hx', Bool.false_eq_true, if_false, Bool.false_or, ← ih]
      by_cases h : findIZ p l < 0
      · simp only [if_pos h]; rw [decide_eq_false (by omega), decide_eq_false (by omega)]
      · simp only [if_neg h]; rw [decide_eq_true (by omega), decide_eq_true (by omega)]
end Go.Ed
namespace Go.Proofs.Ytnbnfadmbggfnaa
open Go.RowKit Go.Fh Go.Ed
set_option maxHeartbeats 1000000 in
theorem index_any (A : Option Addr) (c : Nat) (l : List Int) (v : Int) (w : World) (hl : l.length ≤ 9223372036854775807) (hA : Sl encInt 1 w w.heap.size A l) :
    Calls Try.prog 146 #[.slice A l.length c, .int .i64 v] w fun e w' => e = .returned (.int .i64 (findIZ (fun x => v == x) l)) ∧ Below w.heap.size w w' := by
  have HA := Lib.hid hA
  clear hA
  go_enter Try.func146, Try.ntmps146
  go_wp2
  go_loopw [8] (fun i wr => ∃ k : Nat, k ≤ l.length ∧ i = .int .i64 k ∧ Hid (∀ x ∈ l.take k, (v == x) = false) ∧ Below w.heap.size w wr) (fun i _ => l.length - (intOf i).toNat)
  case atStart => exact ⟨0, Nat.zero_le _, rfl, by simp [Hid], Below.refl _ _⟩
  case round =>
    obtain ⟨k, hk, rfl, HN, hB⟩ := hrel
    by_cases hlt : k < l.length
    · obtain ⟨b, off, rfl, hb, c0⟩ := (HA.out.below hB).at1 hlt
      cases hw : (v == l[k])
      · have HW := Lib.hid hw
        go_wp2_with fail
        go_roundw
        case rel =>
          refine ⟨k + 1, by omega, by go_num, ?_, hB⟩
          intro x hx
          rw [List.take_succ_eq_append_getElem hlt, List.mem_append] at hx
          rcases hx with hx | hx
          · exact HN.out x hx
          · simp at hx; subst hx; exact HW.out
        case measure => simp [intOf]; omega
      · have HF := Lib.hid (findI_hitZ (p := fun x => v == x) hlt HN.out hw)
        go_wp2_with fail
        go_ret
        exact ⟨ret_int HF.out.symm, hB⟩
    · go_wp2
      go_ret
      exact ⟨ret_int (findI_missZ (fun x hx => HN.out x (by rw [List.take_of_length_le (by omega)]; exact hx))).symm, hB⟩
theorem contains_any (A : Option Addr) (c : Nat) (l : List Int) (v : Int) (w : World) (hl : l.length ≤ 9223372036854775807) (hA : Sl encInt 1 w w.heap.size A l) :
    Calls Try.prog 136 #[.slice A l.length c, .int .i64 v] w fun e w' => e = .returned (.bool (l.any fun x => v == x)) ∧ Below w.heap.size w w' := by
  have hf := findI_anyZ (fun x => v == x) l
  have HF := Lib.hid hf
  clear hf
  go_enter Try.func136, Try.ntmps136
  go_wp2_with (go_at_call 146; refine (index_any _ _ _ _ _ hl hA).mono ?_; rintro e w' ⟨rfl, hb⟩)
  go_ret
  exact ⟨ret_bool HF.out, hb⟩
end Go.Proofs.Ytnbnfadmbggfnaa
namespace Go.Ed
/-- where an edition's lists lie -/
structure EA where
  z : Option Go.Addr
  cz : Nat
  v : Option Go.Addr
  cv : Nat
def edV (e : EdD) (y : EA) : Array Go.Value := #[.slice y.z e.zones.length y.cz, .int .i64 e.copies, .int .i64 e.ready, .int .i64 e.due, .slice y.v e.variants.length y.cv]
end Go.Ed
namespace Go.Proofs.Ytnbnfadmbggfnaa
open Go.RowKit Go.Fh Go.Ed
theorem badColourC_any (v : Int) (w : World) :
    Calls Try.prog 133 #[.int .i64 v] w fun e w' => e = .returned (.bool (!inBZ v 1 4)) ∧ w = w' := by
  cases h : inBZ v 1 4
  all_goals
    go_enter Try.func133, Try.ntmps133
    go_wp2_with (go_at_call 132; refine (within_anyZ _ _ _ _).mono ?_; rintro e w' ⟨rfl, rfl⟩)
    go_ret
    exact ⟨ret_bool (by simp [h]), rfl⟩
set_option maxHeartbeats 1000000 in
theorem badColourI_any (A : Option Addr) (c : Nat) (l : List Int) (w : World) (hl : l.length ≤ 9223372036854775807) (hA : Sl encInt 1 w w.heap.size A l) :
    Calls Try.prog 99 #[.slice A l.length c, .func (.func 133) #[] #[]] w fun e w' => e = .returned (.int .i64 (findIZ (fun v => !inBZ v 1 4) l)) ∧ Below w.heap.size w w' := by
  have HA := Lib.hid hA
  clear hA
  go_enter Try.func99, Try.ntmps99
  go_wp2
  go_loopw [8] (fun i wr => ∃ k : Nat, k ≤ l.length ∧ i = .int .i64 k ∧ Hid (∀ x ∈ l.take k, (!inBZ x 1 4) = false) ∧ Below w.heap.size w wr) (fun i _ => l.length - (intOf i).toNat)
  case atStart => exact ⟨0, Nat.zero_le _, rfl, by simp [Hid], Below.refl _ _⟩
  case round =>
    obtain ⟨k, hk, rfl, HN, hB⟩ := hrel
    by_cases hlt : k < l.length
    · obtain ⟨b, off, rfl, hb, c0⟩ := (HA.out.below hB).at1 hlt
      cases hw : (!inBZ l[k] 1 4)
      · have HW := Lib.hid hw
        go_wp2_with (go_at_call 133; refine (badColourC_any _ _).mono ?_; rintro e w' ⟨rfl, rfl⟩)
        go_roundw
        case rel =>
          refine ⟨k + 1, by omega, by go_num, ?_, hB⟩
          intro x hx
          rw [List.take_succ_eq_append_getElem hlt, List.mem_append] at hx
          rcases hx with hx | hx
          · exact HN.out x hx
          · simp at hx; subst hx; exact HW.out
        case measure => simp [intOf]; omega
      · have HF := Lib.hid (findI_hitZ (p := fun v => !inBZ v 1 4) hlt HN.out hw)
        go_wp2_with (go_at_call 133; refine (badColourC_any _ _).mono ?_; rintro e w' ⟨rfl, rfl⟩)
        go_ret
        exact ⟨ret_int HF.out.symm, hB⟩
    · go_wp2
      go_ret
      exact ⟨ret_int (findI_missZ (fun x hx => HN.out x (by rw [List.take_of_length_le (by omega)]; exact hx))).symm, hB⟩
theorem badColour_any (A : Option Addr) (c : Nat) (l : List Int) (w : World) (hl : l.length ≤ 9223372036854775807) (hA : Sl encInt 1 w w.heap.size A l) :
    Calls Try.prog 56 #[.slice A l.length c, .func (.func 133) #[] #[]] w fun e w' => e = .returned (.bool (l.any fun v => !inBZ v 1 4)) ∧ Below w.heap.size w w' := by
  have hf := findI_anyZ (fun v => !inBZ v 1 4) l
  have HF := Lib.hid hf
  clear hf
  go_enter Try.func56, Try.ntmps56
  go_wp2_with (go_at_call 99; refine (badColourI_any _ _ _ _ hl hA).mono ?_; rintro e w' ⟨rfl, hb⟩)
  go_ret
  exact ⟨ret_bool HF.out, hb⟩
theorem badVariantC_any (v : Int) (w : World) :
    Calls Try.prog 135 #[.int .i64 v] w fun e w' => e = .returned (.bool (!inBZ v 0 9)) ∧ w = w' := by
  cases h : inBZ v 0 9
  all_goals
    go_enter Try.func135, Try.ntmps135
    go_wp2_with (go_at_call 132; refine (within_anyZ _ _ _ _).mono ?_; rintro e w' ⟨rfl, rfl⟩)
    go_ret
    exact ⟨ret_bool (by simp [h]), rfl⟩
set_option maxHeartbeats 1000000 in
theorem badVariantI_any (A : Option Addr) (c : Nat) (l : List Int) (w : World) (hl : l.length ≤ 9223372036854775807) (hA : Sl encInt 1 w w.heap.size A l) :
    Calls Try.prog 99 #[.slice A l.length c, .func (.func 135) #[] #[]] w fun e w' => e = .returned (.int .i64 (findIZ (fun v => !inBZ v 0 9) l)) ∧ Below w.heap.size w w' := by
  have HA := Lib.hid hA
  clear hA
  go_enter Try.func99, Try.ntmps99
  go_wp2
  go_loopw [8] (fun i wr => ∃ k : Nat, k ≤ l.length ∧ i = .int .i64 k ∧ Hid (∀ x ∈ l.take k, (!inBZ x 0 9) = false) ∧ Below w.heap.size w wr) (fun i _ => l.length - (intOf i).toNat)
  case atStart => exact ⟨0, Nat.zero_le _, rfl, by simp [Hid], Below.refl _ _⟩
  case round =>
    obtain ⟨k, hk, rfl, HN, hB⟩ := hrel
    by_cases hlt : k < l.length
    · obtain ⟨b, off, rfl, hb, c0⟩ := (HA.out.below hB).at1 hlt
      cases hw : (!inBZ l[k] 0 9)
      · have HW := Lib.hid hw
        go_wp2_with (go_at_call 135; refine (badVariantC_any _ _).mono ?_; rintro e w' ⟨rfl, rfl⟩)
        go_roundw
        case rel =>
          refine ⟨k + 1, by omega, by go_num, ?_, hB⟩
          intro x hx
          rw [List.take_succ_eq_append_getElem hlt, List.mem_append] at hx
          rcases hx with hx | hx
          · exact HN.out x hx
          · simp at hx; subst hx; exact HW.out
        case measure => simp [intOf]; omega
      · have HF := Lib.hid (findI_hitZ (p := fun v => !inBZ v 0 9) hlt HN.out hw)
        go_wp2_with (go_at_call 135; refine (badVariantC_any _ _).mono ?_; rintro e w' ⟨rfl, rfl⟩)
        go_ret
        exact ⟨ret_int HF.out.symm, hB⟩
    · go_wp2
      go_ret
      exact ⟨ret_int (findI_missZ (fun x hx => HN.out x (by rw [List.take_of_length_le (by omega)]; exact hx))).symm, hB⟩
theorem badVariant_any (A : Option Addr) (c : Nat) (l : List Int) (w : World) (hl : l.length ≤ 9223372036854775807) (hA : Sl encInt 1 w w.heap.size A l) :
    Calls Try.prog 56 #[.slice A l.length c, .func (.func 135) #[] #[]] w fun e w' => e = .returned (.bool (l.any fun v => !inBZ v 0 9)) ∧ Below w.heap.size w w' := by
  have hf := findI_anyZ (fun v => !inBZ v 0 9) l
  have HF := Lib.hid hf
  clear hf
  go_enter Try.func56, Try.ntmps56
  go_wp2_with (go_at_call 99; refine (badVariantI_any _ _ _ _ hl hA).mono ?_; rintro e w' ⟨rfl, hb⟩)
  go_ret
  exact ⟨ret_bool HF.out, hb⟩
end Go.Proofs.Ytnbnfadmbggfnaa
namespace Go.Proofs.Ytnbnfadmbggfnaa
open Go.RowKit Go.Fh Go.Ed
abbrev EdM := EdD × EA
def encEd (e : EdM) : List Value := [.slice e.2.z e.1.zones.length e.2.cz, .int .i64 e.1.copies, .int .i64 e.1.ready, .int .i64 e.1.due, .slice e.2.v e.1.variants.length e.2.cv]
/-- the cells of a title at work -/
def workC (t : TitD) (x : TA) (v c : Value) (all : Int) : Array Value := #[.slice x.a t.colours.length x.ca, .slice x.b t.pairs.length x.cb, .slice x.z t.zones.length x.cz, .slice x.r t.ready.length x.cr, .int .i64 t.start, .int .i64 t.rate, .int .i64 t.stop, .int .i64 t.hang, v, c, .int .i64 all]
/-- a title at work lies in a block -/
def workV (t : TitD) (x : TA) (E : Option Addr) (n cE : Nat) (C : Option Addr) (cC : Nat) (all : Int) : Array Value := #[.slice x.a t.colours.length x.ca, .slice x.b t.pairs.length x.cb, .slice x.z t.zones.length x.cz, .slice x.r t.ready.length x.cr, .int .i64 t.start, .int .i64 t.rate, .int .i64 t.stop, .int .i64 t.hang, .slice E n cE, .slice C n cC, .int .i64 all]
theorem workV_eq (t : TitD) (x : TA) (E : Option Addr) (n cE : Nat) (C : Option Addr) (cC : Nat) (all : Int) : workV t x E n cE C cC all = workC t x (.slice E n cE) (.slice C n cC) all := rfl
theorem Sl.atEd {B : Nat} {w : World} {A : Option Addr} {l : List EdM} (h : Sl encEd 5 w B A l) {k : Nat} (hk : k < l.length) :
    ∃ b off, A = some ⟨b, off, none⟩ ∧ b < B ∧ w.cell? ⟨b, off + k * 5, none⟩ = some (.slice l[k].2.z l[k].1.zones.length l[k].2.cz) ∧ w.cell? ⟨b, off + k * 5 + 1, none⟩ = some (.int .i64 l[k].1.copies) ∧ w.cell? ⟨b, off + k * 5 + 2, none⟩ = some (.int .i64 l[k].1.ready) ∧ w.cell? ⟨b, off + k * 5 + 3, none⟩ = some (.int .i64 l[k].1.due) ∧ w.cell? ⟨b, off + k * 5 + 4, none⟩ = some (.slice l[k].2.v l[k].1.variants.length l[k].2.cv) := by
  obtain ⟨b, off, hA, hb, hc⟩ := h.at_ hk
  exact ⟨b, off, hA, hb, hc 0 _ rfl, hc 1 _ rfl, hc 2 _ rfl, hc 3 _ rfl, hc 4 _ rfl⟩
end Go.Proofs.Ytnbnfadmbggfnaa
namespace Go.Ed
/-- what is known of a title at work -/
structure OkT (t : TitD) : Prop where
  c1 : t.colours.length ≤ 64
  c4 : ∀ c ∈ t.colours, 1 ≤ c ∧ c ≤ 4
  start0 : 0 ≤ t.start
  start1 : t.start ≤ 86400
  rate0 : 1 ≤ t.rate
  rate1 : t.rate ≤ 3000
  stop0 : 0 ≤ t.stop
  stop1 : t.stop ≤ 3600
  hang0 : 0 ≤ t.hang
  hang1 : t.hang ≤ 3600
  pair : pairedB t = true
end Go.Ed
namespace Go.Ed
/-- rows of changes -/
def encRow (n : Nat) (r : Option Go.Addr × Nat) : List Go.Value := [.slice r.1 n r.2]
def chgLZ (t : TitD) (es : List EdD) (i : Nat) : List Int := es.map fun b => changeB t (es.getD i ed0) b
end Go.Ed
namespace Go.Ed
theorem platesF_end {c q : List Int} {h : Nat → Bool} {fuel p : Nat} (hp : c.length ≤ p) : platesF c q h fuel p = 0 := by
  cases fuel with
  | zero => rfl
  | succ f => unfold platesF; rw [if_pos hp]
theorem any_comm (q : List Int) (p : Int) : (q.any fun x => p == x) = (q.any fun x => x == p) := by
  congr 1; funext x; exact Bool.beq_comm
end Go.Ed
namespace Go.Proofs.Ytnbnfadmbggfnaa
open Go.RowKit Go.Fh Go.Ed
set_option maxRecDepth 20000 in
set_option maxHeartbeats 1000000 in
theorem differs_any (p gA gB : Nat) (v1 v2 : List Int) (A B : Option Addr) (cA cB : Nat) (w : World) (h1 : p < v1.length) (h2 : p < v2.length)
    (kA : w.cell? ⟨gA, 4, none⟩ = some (.slice A v1.length cA)) (kB : w.cell? ⟨gB, 4, none⟩ = some (.slice B v2.length cB)) (hA : Sl encInt 1 w w.heap.size A v1) (hB : Sl encInt 1 w w.heap.size B v2) :
    Calls Try.prog 121 #[.int .i64 (p : Int), .pointer (some ⟨gA, 0, none⟩), .pointer (some ⟨gB, 0, none⟩)] w fun e w' => e = .returned (.bool (decide (v1.getD p (-1) ≠ v2.getD p (-1)))) ∧ Below w.heap.size w w' := by
  obtain ⟨b1, o1, rfl, l1, c1⟩ := hA.at1 h1
  obtain ⟨b2, o2, rfl, l2, c2⟩ := hB.at1 h2
  have g1 : v1.getD p (-1) = v1[p] := by simp [h1]
  have g2 : v2.getD p (-1) = v2[p] := by simp [h2]
  rw [g1, g2]
  obtain ⟨x, hx⟩ : ∃ x, x = v1[p] := ⟨_, rfl⟩
  obtain ⟨y, hy⟩ : ∃ y, y = v2[p] := ⟨_, rfl⟩
  rw [← hx] at c1 ⊢
  rw [← hy] at c2 ⊢
  clear hx hy g1 g2 hA hB
  go_enter Try.func121, Try.ntmps121
  go_wp2_with fail
  go_quiet (fail)
  go_wp2_with fail
  go_ret
  refine ⟨ret_bool ?_, below_drewN (Below.refl _ _) _⟩
  by_cases h : x = y <;> simp [h]
theorem always_any (p : Int) (w : World) : Calls Try.prog 122 #[.int .i64 p] w fun e w' => e = .returned (.bool true) ∧ w = w' := by
  go_enter Try.func122, Try.ntmps122
  go_wp2
  go_ret
  exact ⟨rfl, rfl⟩
set_option maxRecDepth 20000 in
set_option maxHeartbeats 4000000 in
theorem plates108_any (t : TitD) (ht : OkT t) (x : TA) (E C : Value) (g : Nat) (al : Int) (gA gB : Nat) (h : Nat → Bool) (w : World) (hpl : t.pairs.length ≤ 1000000000) (hk : Blk w g 161 (workC t x E C al))
    (hA : Sl encInt 1 w w.heap.size x.a t.colours) (hB : Sl encInt 1 w w.heap.size x.b t.pairs)
    (hF : ∀ p W, p < t.colours.length → Below w.heap.size w W → Calls Try.prog 121 (#[.int .i64 (p : Int), .pointer (some ⟨gA, 0, none⟩), .pointer (some ⟨gB, 0, none⟩)]) W fun e w' => e = .returned (.bool (h p)) ∧ Below W.heap.size W w') :
    Calls Try.prog 120 #[.pointer (some ⟨g, 0, none⟩), .func (.func 121) #[] #[.pointer (some ⟨gA, 0, none⟩), .pointer (some ⟨gB, 0, none⟩)]] w fun e w' => e = .returned (.int .i64 (platesB t h)) ∧ Below w.heap.size w w' := by
  have hgp := good_of_paired ht.pair
  have hcc := ht.c4
  have hcl := ht.c1
  have hbd := platesB_bd hgp hcc h
  obtain ⟨T, hT⟩ : ∃ T, T = platesB t h := ⟨_, rfl⟩
  rw [← hT] at hbd ⊢
  have hg : g < w.heap.size := hk.lt
  have HA := Lib.hid hA
  have HB := Lib.hid hB
  have HK := Lib.hid hk
  have HF := Lib.hid hF
  have HT := Lib.hid hT
  have HG := Lib.hid hgp
  have HC := Lib.hid hcc
  clear hA hB hk hF hT hgp hcc ht
  go_enter Try.func120, Try.ntmps120
  go_wp2_with fail
  go_loopw [5, 6] (fun n i wr => ∃ (p fuel : Nat) (m : Int), p ≤ t.colours.length ∧ i = .int .i64 p ∧ n = .int .i64 m ∧ Hid (t.colours.length ≤ p + fuel) ∧ Hid (m + platesF t.colours t.pairs h fuel p = T) ∧ Hid (0 ≤ m ∧ m ≤ 4 * (p : Int)) ∧ Below w.heap.size w wr) (fun _ i _ => t.colours.length - (intOf i).toNat)
  case atStart => exact ⟨0, t.colours.length, 0, Nat.zero_le _, rfl, rfl, by simp [Hid], by rw [HT.out]; simp [Hid, platesB], ⟨by omega, by omega⟩, Below.refl _ _⟩
  case round =>
    obtain ⟨p, fuel, m, hp, rfl, rfl, H1, H2, H3, hW⟩ := hrel
    have hkr := HK.out.below hW hg
    have k0 := hkr.cell 0
    have k1 := hkr.cell 1
    simp [workC] at k0 k1
    have HW := Lib.hid hW
    clear hkr hW
    by_cases hlt : p < t.colours.length
    · obtain ⟨cb, co, hxa, hcb, c0⟩ := (HA.out.below HW.out).at1 hlt
      have hgd : t.colours.getD p 0 = t.colours[p] := by simp [hlt]
      have hck := HC.out _ (List.getElem_mem hlt)
      rw [hxa] at k0
      obtain ⟨co1, hco⟩ : ∃ c, c = t.colours[p] := ⟨_, rfl⟩
      rw [← hco] at c0 hck hgd
      obtain ⟨f, rfl⟩ : ∃ f, fuel = f + 1 := ⟨fuel - 1, by have := H1.out; omega⟩
      have h2 := H2.out
      unfold platesF at h2
      rw [if_neg (by omega), hgd] at h2
      have h3 := H3.out
      have h1 := H1.out
      have f1 := IntWalk.i64_in ((p : Int) + 1) (by omega)
      have f2 := IntWalk.i64_in ((p : Int) + 1 + 1) (by omega)
      have f3 := IntWalk.i64_in (m + co1) (by omega)
      have HXA := Lib.hid hxa
      have HFP := Lib.hid (HF.out p wr hlt HW.out)
      have hac := any_comm t.pairs (p : Int)
      have hcp := HG.out p
      have HCK := Lib.hid hck
      have H3b := Lib.hid h3
      have H1b := Lib.hid h1
      cases hq : (t.pairs.any fun q => q == (p : Int))
      · rw [hq] at h2 hac
        simp only [Bool.false_eq_true, if_false] at h2
        have HAC := Lib.hid hac
        have H2b := Lib.hid h2
        clear hac h2 h1 h3 hcp hxa hco hgd hq hck
        cases hh : h p
        · rw [hh] at HFP
          have HH := Lib.hid hh
          clear hh
          go_wp2_with first
            | (go_at_call 121; refine HFP.out.mono ?_; rintro e w2 ⟨rfl, hb2⟩; have k0 := ((hb2.cell (p := ⟨g, 0, none⟩) (Nat.lt_of_lt_of_le hg HW.out.size)).trans k0); have k1 := ((hb2.cell (p := ⟨g, 1, none⟩) (Nat.lt_of_lt_of_le hg HW.out.size)).trans k1); have c0 := ((hb2.cell (p := ⟨cb, co + p, none⟩) (Nat.lt_of_lt_of_le hcb HW.out.size)).trans c0); have HW2 := Lib.hid (HW.out.trans (hb2.mono HW.out.size)); clear hb2)
            | (go_at_call 136; refine (contains_any _ _ _ _ _ (by omega) ((HB.out.below HW2.out).mono HW2.out.size)).mono ?_; rintro e w3 ⟨rfl, hb3⟩; rw [HAC.out]; have HW3 := Lib.hid (HW2.out.trans (hb3.mono HW2.out.size)); clear hb3)
          go_roundw
          case rel =>
            refine ⟨p + 1, f, m, by omega, by go_num, rfl, ?_, ?_, ?_, HW3.out⟩
            · have := H1b.out; exact (by omega : t.colours.length ≤ p + 1 + f)
            · have := H2b.out; rw [HH.out] at this; simpa [Hid] using this
            · have := H3b.out; exact ⟨by omega, by omega⟩
          case measure => simp [intOf]; omega
        · rw [hh] at HFP
          have HH := Lib.hid hh
          clear hh
          go_wp2_with first
            | (go_at_call 121; refine HFP.out.mono ?_; rintro e w2 ⟨rfl, hb2⟩; have k0 := ((hb2.cell (p := ⟨g, 0, none⟩) (Nat.lt_of_lt_of_le hg HW.out.size)).trans k0); have k1 := ((hb2.cell (p := ⟨g, 1, none⟩) (Nat.lt_of_lt_of_le hg HW.out.size)).trans k1); have c0 := ((hb2.cell (p := ⟨cb, co + p, none⟩) (Nat.lt_of_lt_of_le hcb HW.out.size)).trans c0); have HW2 := Lib.hid (HW.out.trans (hb2.mono HW.out.size)); clear hb2)
            | (go_at_call 136; refine (contains_any _ _ _ _ _ (by omega) ((HB.out.below HW2.out).mono HW2.out.size)).mono ?_; rintro e w3 ⟨rfl, hb3⟩; rw [HAC.out]; have HW3 := Lib.hid (HW2.out.trans (hb3.mono HW2.out.size)); clear hb3)
          go_roundw
          case rel =>
            refine ⟨p + 1, f, m + co1, by omega, by go_num, rfl, ?_, ?_, ?_, HW3.out⟩
            · have := H1b.out; exact (by omega : t.colours.length ≤ p + 1 + f)
            · have := H2b.out; rw [HH.out] at this; simp only [if_true] at this; exact (by omega : m + co1 + platesF t.colours t.pairs h f (p + 1) = T)
            · have := H3b.out; have := HCK.out; exact ⟨by omega, by omega⟩
          case measure => simp [intOf]; omega
      · have hp1 := (hcp hq).1
        rw [hq] at h2 hac
        simp only [if_true] at h2
        have HAC := Lib.hid hac
        have H2b := Lib.hid h2
        have HFQ := Lib.hid (show ∀ W, Below w.heap.size w W → Calls Try.prog 121 (#[.int .i64 ((p : Int) + 1), .pointer (some ⟨gA, 0, none⟩), .pointer (some ⟨gB, 0, none⟩)]) W fun e w' => e = .returned (.bool (h (p + 1))) ∧ Below W.heap.size W w' from fun W hb => HF.out (p + 1) W hp1 hb)
        clear hac h2 h1 h3 hcp hxa hco hgd hq hck
        cases hh : h p
        · rw [hh] at HFP
          have HH := Lib.hid hh
          clear hh
          cases hh1 : h (p + 1)
          · rw [hh1] at HFQ
            have HH1 := Lib.hid hh1
            clear hh1
            go_wp2_with first
              | (go_at_call 121; first | (refine (HFQ.out _ HW3.out).mono ?_; rintro e w4 ⟨rfl, hb4⟩; have HW4 := Lib.hid (HW3.out.trans (hb4.mono HW3.out.size)); clear hb4) | (with_reducible refine HFP.out.mono ?_; rintro e w2 ⟨rfl, hb2⟩; have k0 := ((hb2.cell (p := ⟨g, 0, none⟩) (Nat.lt_of_lt_of_le hg HW.out.size)).trans k0); have k1 := ((hb2.cell (p := ⟨g, 1, none⟩) (Nat.lt_of_lt_of_le hg HW.out.size)).trans k1); have c0 := ((hb2.cell (p := ⟨cb, co + p, none⟩) (Nat.lt_of_lt_of_le hcb HW.out.size)).trans c0); have HW2 := Lib.hid (HW.out.trans (hb2.mono HW.out.size)); clear hb2))
              | (go_at_call 136; refine (contains_any _ _ _ _ _ (by omega) ((HB.out.below HW2.out).mono HW2.out.size)).mono ?_; rintro e w3 ⟨rfl, hb3⟩; rw [HAC.out]; have HW3 := Lib.hid (HW2.out.trans (hb3.mono HW2.out.size)); clear hb3)
            go_roundw
            case rel =>
              refine ⟨p + 2, f, m, by omega, by go_num, rfl, ?_, ?_, ?_, HW4.out⟩
              · have := H1b.out; exact (by omega : t.colours.length ≤ p + 2 + f)
              · have := H2b.out; rw [HH.out, HH1.out] at this; simpa [Hid] using this
              · have := H3b.out; exact ⟨by omega, by omega⟩
            case measure => simp [intOf]; omega
          · rw [hh1] at HFQ
            have HH1 := Lib.hid hh1
            clear hh1
            go_wp2_with first
              | (go_at_call 121; first | (refine (HFQ.out _ HW3.out).mono ?_; rintro e w4 ⟨rfl, hb4⟩; have HW4 := Lib.hid (HW3.out.trans (hb4.mono HW3.out.size)); clear hb4) | (with_reducible refine HFP.out.mono ?_; rintro e w2 ⟨rfl, hb2⟩; have k0 := ((hb2.cell (p := ⟨g, 0, none⟩) (Nat.lt_of_lt_of_le hg HW.out.size)).trans k0); have k1 := ((hb2.cell (p := ⟨g, 1, none⟩) (Nat.lt_of_lt_of_le hg HW.out.size)).trans k1); have c0 := ((hb2.cell (p := ⟨cb, co + p, none⟩) (Nat.lt_of_lt_of_le hcb HW.out.size)).trans c0); have HW2 := Lib.hid (HW.out.trans (hb2.mono HW.out.size)); clear hb2))
              | (go_at_call 136; refine (contains_any _ _ _ _ _ (by omega) ((HB.out.below HW2.out).mono HW2.out.size)).mono ?_; rintro e w3 ⟨rfl, hb3⟩; rw [HAC.out]; have HW3 := Lib.hid (HW2.out.trans (hb3.mono HW2.out.size)); clear hb3)
            go_roundw
            case rel =>
              refine ⟨p + 2, f, m + co1, by omega, by go_num, rfl, ?_, ?_, ?_, HW4.out⟩
              · have := H1b.out; exact (by omega : t.colours.length ≤ p + 2 + f)
              · have := H2b.out; rw [HH.out, HH1.out] at this; simp only [Bool.or_true, Bool.false_or, if_true] at this; exact (by omega : m + co1 + platesF t.colours t.pairs h f (p + 2) = T)
              · have := H3b.out; have := HCK.out; exact ⟨by omega, by omega⟩
            case measure => simp [intOf]; omega
        · rw [hh] at HFP
          have HH := Lib.hid hh
          clear hh
          go_wp2_with first
            | (go_at_call 121; refine HFP.out.mono ?_; rintro e w2 ⟨rfl, hb2⟩; have k0 := ((hb2.cell (p := ⟨g, 0, none⟩) (Nat.lt_of_lt_of_le hg HW.out.size)).trans k0); have k1 := ((hb2.cell (p := ⟨g, 1, none⟩) (Nat.lt_of_lt_of_le hg HW.out.size)).trans k1); have c0 := ((hb2.cell (p := ⟨cb, co + p, none⟩) (Nat.lt_of_lt_of_le hcb HW.out.size)).trans c0); have HW2 := Lib.hid (HW.out.trans (hb2.mono HW.out.size)); clear hb2)
            | (go_at_call 136; refine (contains_any _ _ _ _ _ (by omega) ((HB.out.below HW2.out).mono HW2.out.size)).mono ?_; rintro e w3 ⟨rfl, hb3⟩; rw [HAC.out]; have HW3 := Lib.hid (HW2.out.trans (hb3.mono HW2.out.size)); clear hb3)
          go_roundw
          case rel =>
            refine ⟨p + 2, f, m + co1, by omega, by go_num, rfl, ?_, ?_, ?_, HW3.out⟩
            · have := H1b.out; exact (by omega : t.colours.length ≤ p + 2 + f)
            · have := H2b.out; rw [HH.out] at this; simp only [Bool.true_or, if_true] at this; exact (by omega : m + co1 + platesF t.colours t.pairs h f (p + 2) = T)
            · have := H3b.out; have := HCK.out; exact ⟨by omega, by omega⟩
          case measure => simp [intOf]; omega
    · obtain rfl : p = t.colours.length := by omega
      have hm : m = T := by
        have := H2.out
        rw [platesF_end (Nat.le_refl _)] at this
        omega
      have HM := Lib.hid hm
      clear hm
      go_wp2_with fail
      go_ret
      exact ⟨ret_int HM.out, HW.out⟩
set_option maxRecDepth 20000 in
set_option maxHeartbeats 4000000 in
theorem plates109_any (t : TitD) (ht : OkT t) (x : TA) (E C : Value) (g : Nat) (al : Int) (h : Nat → Bool) (w : World) (hpl : t.pairs.length ≤ 1000000000) (hk : Blk w g 161 (workC t x E C al))
    (hA : Sl encInt 1 w w.heap.size x.a t.colours) (hB : Sl encInt 1 w w.heap.size x.b t.pairs)
    (hF : ∀ p W, p < t.colours.length → Below w.heap.size w W → Calls Try.prog 122 (#[.int .i64 (p : Int)]) W fun e w' => e = .returned (.bool (h p)) ∧ Below W.heap.size W w') :
    Calls Try.prog 120 #[.pointer (some ⟨g, 0, none⟩), .func (.func 122) #[] #[]] w fun e w' => e = .returned (.int .i64 (platesB t h)) ∧ Below w.heap.size w w' := by
  have hgp := good_of_paired ht.pair
  have hcc := ht.c4
  have hcl := ht.c1
  have hbd := platesB_bd hgp hcc h
  obtain ⟨T, hT⟩ : ∃ T, T = platesB t h := ⟨_, rfl⟩
  rw [← hT] at hbd ⊢
  have hg : g < w.heap.size := hk.lt
  have HA := Lib.hid hA
  have HB := Lib.hid hB
  have HK := Lib.hid hk
  have HF := Lib.hid hF
  have HT := Lib.hid hT
  have HG := Lib.hid hgp
  have HC := Lib.hid hcc
  clear hA hB hk hF hT hgp hcc ht
  go_enter Try.func120, Try.ntmps120
  go_wp2_with fail
  go_loopw [5, 6] (fun n i wr => ∃ (p fuel : Nat) (m : Int), p ≤ t.colours.length ∧ i = .int .i64 p ∧ n = .int .i64 m ∧ Hid (t.colours.length ≤ p + fuel) ∧ Hid (m + platesF t.colours t.pairs h fuel p = T) ∧ Hid (0 ≤ m ∧ m ≤ 4 * (p : Int)) ∧ Below w.heap.size w wr) (fun _ i _ => t.colours.length - (intOf i).toNat)
  case atStart => exact ⟨0, t.colours.length, 0, Nat.zero_le _, rfl, rfl, by simp [Hid], by rw [HT.out]; simp [Hid, platesB], ⟨by omega, by omega⟩, Below.refl _ _⟩
  case round =>
    obtain ⟨p, fuel, m, hp, rfl, rfl, H1, H2, H3, hW⟩ := hrel
    have hkr := HK.out.below hW hg
    have k0 := hkr.cell 0
    have k1 := hkr.cell 1
    simp [workC] at k0 k1
    have HW := Lib.hid hW
    clear hkr hW
    by_cases hlt : p < t.colours.length
    · obtain ⟨cb, co, hxa, hcb, c0⟩ := (HA.out.below HW.out).at1 hlt
      have hgd : t.colours.getD p 0 = t.colours[p] := by simp [hlt]
      have hck := HC.out _ (List.getElem_mem hlt)
      rw [hxa] at k0
      obtain ⟨co1, hco⟩ : ∃ c, c = t.colours[p] := ⟨_, rfl⟩
      rw [← hco] at c0 hck hgd
      obtain ⟨f, rfl⟩ : ∃ f, fuel = f + 1 := ⟨fuel - 1, by have := H1.out; omega⟩
      have h2 := H2.out
      unfold platesF at h2
      rw [if_neg (by omega), hgd] at h2
      have h3 := H3.out
      have h1 := H1.out
      have f1 := IntWalk.i64_in ((p : Int) + 1) (by omega)
      have f2 := IntWalk.i64_in ((p : Int) + 1 + 1) (by omega)
      have f3 := IntWalk.i64_in (m + co1) (by omega)
      have HXA := Lib.hid hxa
      have HFP := Lib.hid (HF.out p wr hlt HW.out)
      have hac := any_comm t.pairs (p : Int)
      have hcp := HG.out p
      have HCK := Lib.hid hck
      have H3b := Lib.hid h3
      have H1b := Lib.hid h1
      cases hq : (t.pairs.any fun q => q == (p : Int))
      · rw [hq] at h2 hac
        simp only [Bool.false_eq_true, if_false] at h2
        have HAC := Lib.hid hac
        have H2b := Lib.hid h2
        clear hac h2 h1 h3 hcp hxa hco hgd hq hck
        cases hh : h p
        · rw [hh] at HFP
          have HH := Lib.hid hh
          clear hh
          go_wp2_with first
            | (go_at_call 122; refine HFP.out.mono ?_; rintro e w2 ⟨rfl, hb2⟩; have k0 := ((hb2.cell (p := ⟨g, 0, none⟩) (Nat.lt_of_lt_of_le hg HW.out.size)).trans k0); have k1 := ((hb2.cell (p := ⟨g, 1, none⟩) (Nat.lt_of_lt_of_le hg HW.out.size)).trans k1); have c0 := ((hb2.cell (p := ⟨cb, co + p, none⟩) (Nat.lt_of_lt_of_le hcb HW.out.size)).trans c0); have HW2 := Lib.hid (HW.out.trans (hb2.mono HW.out.size)); clear hb2)
            | (go_at_call 136; refine (contains_any _ _ _ _ _ (by omega) ((HB.out.below HW2.out).mono HW2.out.size)).mono ?_; rintro e w3 ⟨rfl, hb3⟩; rw [HAC.out]; have HW3 := Lib.hid (HW2.out.trans (hb3.mono HW2.out.size)); clear hb3)
          go_roundw
          case rel =>
            refine ⟨p + 1, f, m, by omega, by go_num, rfl, ?_, ?_, ?_, HW3.out⟩
            · have := H1b.out; exact (by omega : t.colours.length ≤ p + 1 + f)
            · have := H2b.out; rw [HH.out] at this; simpa [Hid] using this
            · have := H3b.out; exact ⟨by omega, by omega⟩
          case measure => simp [intOf]; omega
        · rw [hh] at HFP
          have HH := Lib.hid hh
          clear hh
          go_wp2_with first
            | (go_at_call 122; refine HFP.out.mono ?_; rintro e w2 ⟨rfl, hb2⟩; have k0 := ((hb2.cell (p := ⟨g, 0, none⟩) (Nat.lt_of_lt_of_le hg HW.out.size)).trans k0); have k1 := ((hb2.cell (p := ⟨g, 1, none⟩) (Nat.lt_of_lt_of_le hg HW.out.size)).trans k1); have c0 := ((hb2.cell (p := ⟨cb, co + p, none⟩) (Nat.lt_of_lt_of_le hcb HW.out.size)).trans c0); have HW2 := Lib.hid (HW.out.trans (hb2.mono HW.out.size)); clear hb2)
            | (go_at_call 136; refine (contains_any _ _ _ _ _ (by omega) ((HB.out.below HW2.out).mono HW2.out.size)).mono ?_; rintro e w3 ⟨rfl, hb3⟩; rw [HAC.out]; have HW3 := Lib.hid (HW2.out.trans (hb3.mono HW2.out.size)); clear hb3)
          go_roundw
          case rel =>
            refine ⟨p + 1, f, m + co1, by omega, by go_num, rfl, ?_, ?_, ?_, HW3.out⟩
            · have := H1b.out; exact (by omega : t.colours.length ≤ p + 1 + f)
            · have := H2b.out; rw [HH.out] at this; simp only [if_true] at this; exact (by omega : m + co1 + platesF t.colours t.pairs h f (p + 1) = T)
            · have := H3b.out; have := HCK.out; exact ⟨by omega, by omega⟩
          case measure => simp [intOf]; omega
      · have hp1 := (hcp hq).1
        rw [hq] at h2 hac
        simp only [if_true] at h2
        have HAC := Lib.hid hac
        have H2b := Lib.hid h2
        have HFQ := Lib.hid (show ∀ W, Below w.heap.size w W → Calls Try.prog 122 (#[.int .i64 ((p : Int) + 1)]) W fun e w' => e = .returned (.bool (h (p + 1))) ∧ Below W.heap.size W w' from fun W hb => HF.out (p + 1) W hp1 hb)
        clear hac h2 h1 h3 hcp hxa hco hgd hq hck
        cases hh : h p
        · rw [hh] at HFP
          have HH := Lib.hid hh
          clear hh
          cases hh1 : h (p + 1)
          · rw [hh1] at HFQ
            have HH1 := Lib.hid hh1
            clear hh1
            go_wp2_with first
              | (go_at_call 122; first | (refine (HFQ.out _ HW3.out).mono ?_; rintro e w4 ⟨rfl, hb4⟩; have HW4 := Lib.hid (HW3.out.trans (hb4.mono HW3.out.size)); clear hb4) | (with_reducible refine HFP.out.mono ?_; rintro e w2 ⟨rfl, hb2⟩; have k0 := ((hb2.cell (p := ⟨g, 0, none⟩) (Nat.lt_of_lt_of_le hg HW.out.size)).trans k0); have k1 := ((hb2.cell (p := ⟨g, 1, none⟩) (Nat.lt_of_lt_of_le hg HW.out.size)).trans k1); have c0 := ((hb2.cell (p := ⟨cb, co + p, none⟩) (Nat.lt_of_lt_of_le hcb HW.out.size)).trans c0); have HW2 := Lib.hid (HW.out.trans (hb2.mono HW.out.size)); clear hb2))
              | (go_at_call 136; refine (contains_any _ _ _ _ _ (by omega) ((HB.out.below HW2.out).mono HW2.out.size)).mono ?_; rintro e w3 ⟨rfl, hb3⟩; rw [HAC.out]; have HW3 := Lib.hid (HW2.out.trans (hb3.mono HW2.out.size)); clear hb3)
            go_roundw
            case rel =>
              refine ⟨p + 2, f, m, by omega, by go_num, rfl, ?_, ?_, ?_, HW4.out⟩
              · have := H1b.out; exact (by omega : t.colours.length ≤ p + 2 + f)
              · have := H2b.out; rw [HH.out, HH1.out] at this; simpa [Hid] using this
              · have := H3b.out; exact ⟨by omega, by omega⟩
            case measure => simp [intOf]; omega
          · rw [hh1] at HFQ
            have HH1 := Lib.hid hh1
            clear hh1
            go_wp2_with first
              | (go_at_call 122; first | (refine (HFQ.out _ HW3.out).mono ?_; rintro e w4 ⟨rfl, hb4⟩; have HW4 := Lib.hid (HW3.out.trans (hb4.mono HW3.out.size)); clear hb4) | (with_reducible refine HFP.out.mono ?_; rintro e w2 ⟨rfl, hb2⟩; have k0 := ((hb2.cell (p := ⟨g, 0, none⟩) (Nat.lt_of_lt_of_le hg HW.out.size)).trans k0); have k1 := ((hb2.cell (p := ⟨g, 1, none⟩) (Nat.lt_of_lt_of_le hg HW.out.size)).trans k1); have c0 := ((hb2.cell (p := ⟨cb, co + p, none⟩) (Nat.lt_of_lt_of_le hcb HW.out.size)).trans c0); have HW2 := Lib.hid (HW.out.trans (hb2.mono HW.out.size)); clear hb2))
              | (go_at_call 136; refine (contains_any _ _ _ _ _ (by omega) ((HB.out.below HW2.out).mono HW2.out.size)).mono ?_; rintro e w3 ⟨rfl, hb3⟩; rw [HAC.out]; have HW3 := Lib.hid (HW2.out.trans (hb3.mono HW2.out.size)); clear hb3)
            go_roundw
            case rel =>
              refine ⟨p + 2, f, m + co1, by omega, by go_num, rfl, ?_, ?_, ?_, HW4.out⟩
              · have := H1b.out; exact (by omega : t.colours.length ≤ p + 2 + f)
              · have := H2b.out; rw [HH.out, HH1.out] at this; simp only [Bool.or_true, Bool.false_or, if_true] at this; exact (by omega : m + co1 + platesF t.colours t.pairs h f (p + 2) = T)
              · have := H3b.out; have := HCK.out; exact ⟨by omega, by omega⟩
            case measure => simp [intOf]; omega
        · rw [hh] at HFP
          have HH := Lib.hid hh
          clear hh
          go_wp2_with first
            | (go_at_call 122; refine HFP.out.mono ?_; rintro e w2 ⟨rfl, hb2⟩; have k0 := ((hb2.cell (p := ⟨g, 0, none⟩) (Nat.lt_of_lt_of_le hg HW.out.size)).trans k0); have k1 := ((hb2.cell (p := ⟨g, 1, none⟩) (Nat.lt_of_lt_of_le hg HW.out.size)).trans k1); have c0 := ((hb2.cell (p := ⟨cb, co + p, none⟩) (Nat.lt_of_lt_of_le hcb HW.out.size)).trans c0); have HW2 := Lib.hid (HW.out.trans (hb2.mono HW.out.size)); clear hb2)
            | (go_at_call 136; refine (contains_any _ _ _ _ _ (by omega) ((HB.out.below HW2.out).mono HW2.out.size)).mono ?_; rintro e w3 ⟨rfl, hb3⟩; rw [HAC.out]; have HW3 := Lib.hid (HW2.out.trans (hb3.mono HW2.out.size)); clear hb3)
          go_roundw
          case rel =>
            refine ⟨p + 2, f, m + co1, by omega, by go_num, rfl, ?_, ?_, ?_, HW3.out⟩
            · have := H1b.out; exact (by omega : t.colours.length ≤ p + 2 + f)
            · have := H2b.out; rw [HH.out] at this; simp only [Bool.true_or, if_true] at this; exact (by omega : m + co1 + platesF t.colours t.pairs h f (p + 2) = T)
            · have := H3b.out; have := HCK.out; exact ⟨by omega, by omega⟩
          case measure => simp [intOf]; omega
    · obtain rfl : p = t.colours.length := by omega
      have hm : m = T := by
        have := H2.out
        rw [platesF_end (Nat.le_refl _)] at this
        omega
      have HM := Lib.hid hm
      clear hm
      go_wp2_with fail
      go_ret
      exact ⟨ret_int HM.out, HW.out⟩
end Go.Proofs.Ytnbnfadmbggfnaa
namespace Go.Proofs.Ytnbnfadmbggfnaa
open Go.RowKit Go.Fh Go.Ed
set_option maxRecDepth 20000 in
set_option maxHeartbeats 4000000 in
theorem ready_any (t : TitD) (x : TA) (E C : Value) (g : Nat) (al : Int) (e : EdD) (y : EA) (w : World) (hrl : t.ready.length ≤ 1000000000) (hk : Blk w g 161 (workC t x E C al))
    (hR : Sl enc3 3 w w.heap.size x.r t.ready) (hV : Sl encInt 1 w w.heap.size y.v e.variants) (hr : ∀ r ∈ t.ready, 0 ≤ r.1 ∧ r.1 < e.variants.length) :
    Calls Try.prog 119 #[.pointer (some ⟨g, 0, none⟩), .agg (edV e y)] w fun r w' => r = .returned (.int .i64 (readyN t.ready e.variants t.ready.length)) ∧ Below w.heap.size w w' := by
  obtain ⟨w1, hw1⟩ : ∃ W, W = w.alloc (.cells (edV e y) 200) := ⟨_, rfl⟩
  have hbw : Below w.heap.size w w1 := by rw [hw1]; exact (Below.refl _ _).alloc (Nat.le_refl _) _
  obtain ⟨gE, hgE⟩ : ∃ g, g = w.heap.size := ⟨_, rfl⟩
  have kE : Blk w1 gE 200 (edV e y) := by rw [hw1, hgE]; exact Blk.new w 200 _
  have hg : g < w.heap.size := hk.lt
  have hk1 := hk.below hbw hg
  have hg1 : g < w1.heap.size := hk1.lt
  have hgE1 : gE < w1.heap.size := kE.lt
  have k3 := hk1.cell 3
  simp [workC] at k3
  have HR := Lib.hid hR
  have HV := Lib.hid hV
  have HRR := Lib.hid hr
  have HW1 := Lib.hid hw1
  have HGE := Lib.hid hgE
  have KE := Lib.hid kE
  have HBW := Lib.hid hbw
  clear hR hV hr hw1 hgE kE hbw hk hk1
  unfold edV at *
  go_enter Try.func119, Try.ntmps119
  go_upto_region 1 with fail
  rw [← HW1.out, ← HGE.out]
  go_wp2_with fail
  go_loopw [5, 14] (fun m i wr => ∃ k : Nat, k ≤ t.ready.length ∧ i = .int .i64 k ∧ m = .int .i64 (readyN t.ready e.variants k) ∧ Below w1.heap.size w1 wr) (fun _ i _ => t.ready.length - (intOf i).toNat)
  case atStart => exact ⟨0, Nat.zero_le _, rfl, rfl, Below.refl _ _⟩
  case round =>
    obtain ⟨k, hk, rfl, rfl, hW⟩ := hrel
    have HW := Lib.hid hW
    by_cases hlt : k < t.ready.length
    · obtain ⟨rb, ro, hxa, hrb, c0, c1, c2⟩ := (HR.out.below (HBW.out.trans (hW.mono HBW.out.size))).at3 hlt
      obtain ⟨pg, vr, at_, hq⟩ : ∃ a b c, t.ready[k] = (a, b, c) := ⟨_, _, _, rfl⟩
      have hrr := HRR.out _ (List.getElem_mem hlt)
      have hgd : t.ready.getD k (0, 0, 0) = (pg, vr, at_) := by rw [← hq]; simp [hlt]
      rw [hq] at c0 c1 c2 hrr
      dsimp only at c0 c1 c2 hrr
      obtain ⟨pn, rfl⟩ : ∃ n : Nat, pg = n := ⟨pg.toNat, by omega⟩
      have hpn : pn < e.variants.length := by omega
      obtain ⟨vb, vo, hva, hvb, d0⟩ := (HV.out.below (HBW.out.trans (hW.mono HBW.out.size))).at1 hpn
      have hvg : e.variants.getD pn (-1) = e.variants[pn] := by simp [hpn]
      obtain ⟨vv, hvv⟩ : ∃ v, v = e.variants[pn] := ⟨_, rfl⟩
      rw [← hvv] at d0 hvg
      have ke := KE.out.below hW hgE1
      have e4 := ke.cell 4
      simp at e4
      rw [hva] at e4
      rw [hxa]
      have hs : readyN t.ready e.variants (k + 1) = if vv = vr then max (readyN t.ready e.variants k) at_ else readyN t.ready e.variants k := by
        conv => lhs; unfold readyN
        rw [hgd]
        simp only [Int.toNat_natCast, hvg]
      obtain ⟨rn, hrn⟩ : ∃ r, r = readyN t.ready e.variants k := ⟨_, rfl⟩
      rw [← hrn] at hs ⊢
      obtain ⟨w2, hw2⟩ : ∃ W, W = wr.alloc (.cells #[.int .i64 (pn : Int), .int .i64 vr, .int .i64 at_] 156) := ⟨_, rfl⟩
      obtain ⟨gR, hgR⟩ : ∃ g, g = wr.heap.size := ⟨_, rfl⟩
      have kR : Blk w2 gR 156 #[.int .i64 (pn : Int), .int .i64 vr, .int .i64 at_] := by rw [hw2, hgR]; exact Blk.new wr 156 _
      have hb2 : Below wr.heap.size wr w2 := by rw [hw2]; exact (Below.refl _ _).alloc (Nat.le_refl _) _
      have q0 := kR.cell 0
      have q1 := kR.cell 1
      have q2 := kR.cell 2
      simp at q0 q1 q2
      have ke2 := (KE.out.below (hW.trans (hb2.mono hW.size)) hgE1).cell 4
      simp at ke2
      rw [hva] at ke2
      have d2 := (hb2.cell (p := ⟨vb, vo + pn, none⟩) (Nat.lt_of_lt_of_le hvb (HBW.out.trans (hW.mono HBW.out.size)).size)).trans d0
      have HW2 := Lib.hid (hW.trans (hb2.mono hW.size))
      have HW2W := Lib.hid hw2
      have HGR := Lib.hid hgR
      have HS := Lib.hid hs
      have HRN := Lib.hid hrn
      clear hW hw2 hgR kR hb2 hs hrn hva hxa hvv hvg hgd hq e4 ke
      by_cases he : vv = vr
      · have t1 : (vv == vr) = true := by simp [he]
        have hm : readyN t.ready e.variants (k + 1) = max rn at_ := by rw [HS.out, if_pos he]
        have HM := Lib.hid hm
        clear he hm
        go_upto_region 5 with fail
        rw [← HW2W.out, ← HGR.out]
        go_quiet (fail)
        go_wp2_with fail
        go_roundw
        case rel => exact ⟨k + 1, by omega, by go_num, int_eq HM.out.symm, below_drewN HW2.out _⟩
        case measure => simp [intOf]; omega
      · have t1 : (vv == vr) = false := by simp [he]
        have hm : readyN t.ready e.variants (k + 1) = rn := by rw [HS.out, if_neg he]
        have HM := Lib.hid hm
        clear he hm
        go_upto_region 5 with fail
        rw [← HW2W.out, ← HGR.out]
        go_quiet (fail)
        go_wp2_with fail
        go_roundw
        case rel => exact ⟨k + 1, by omega, by go_num, int_eq HM.out.symm, below_drewN HW2.out _⟩
        case measure => simp [intOf]; omega
    · obtain rfl : k = t.ready.length := by omega
      go_wp2_with fail
      go_ret
      exact ⟨rfl, HBW.out.trans (HW.out.mono HBW.out.size)⟩
end Go.Proofs.Ytnbnfadmbggfnaa
namespace Go.Fh
open Go.RowKit
/-- a list of ints as the value of an array -/
def arrV (k : IntKind) (l : List Int) : Value := .agg (l.map (Value.int k)).toArray
section
variable {P : Program} {t e : TypeId} {n : Nat} {k : IntKind} {i : TypeInfo}
theorem arrV_get {l : List Int} {j : Nat} (hj : j < l.length) : (l.map (Value.int k)).toArray[j]? = some (.int k l[j]) := by
  simp [hj]
theorem plain_int (hu : P.underlying e = some (.int k)) : P.plainKey e = true := by simp [Program.plainKey, hu]
theorem run_eqItems_ints (d : Nat) (hu : P.underlying e = some (.int k)) (x y : List Int) (w : World) : ∀ (is : List Nat), (∀ j ∈ is, j < x.length ∧ j < y.length) →
    (Op.eqItems (d + 1) e 1 (x.map (Value.int k)).toArray (y.map (Value.int k)).toArray is).run P w = .ok (is.all fun j => x.getD j 0 == y.getD j 0) w := by
  intro is
  induction is with
  | nil => intro _; simp [Op.eqItems]
  | cons j is ih =>
    intro h
    obtain ⟨h1, h2⟩ := h j (by simp)
    have p1 := run_part_plain (P := P) w (plain_int hu) (xs := (x.map (Value.int k)).toArray) (off := j * 1) (v := .int k x[j]) (by rw [Nat.mul_one]; exact arrV_get h1)
    have p2 := run_part_plain (P := P) w (plain_int hu) (xs := (y.map (Value.int k)).toArray) (off := j * 1) (v := .int k y[j]) (by rw [Nat.mul_one]; exact arrV_get h2)
    have g1 : x.getD j 0 = x[j] := by simp [h1]
    have g2 : y.getD j 0 = y[j] := by simp [h2]
    simp only [Op.eqItems, Sem.run_bind, p1, p2, Result.andThen_ok, run_equalIn_int w d e k k _ _ hu, List.all_cons, g1, g2]
    cases hb : (x[j] == y[j])
    · simp
    · simpa using ih fun q hq => h q (by simp [hq])
theorem eq_all {x y : List Int} (hx : x.length = n) (hy : y.length = n) : ((List.range n).all fun j => x.getD j 0 == y.getD j 0) = decide (x = y) := by
  rw [Bool.eq_iff_iff]
  simp only [List.all_eq_true, List.mem_range, beq_iff_eq, decide_eq_true_eq]
  constructor
  · intro h
    refine List.ext_getElem (by omega) fun j h1 h2 => ?_
    have := h j (by omega)
    simpa [h1, h2] using this
  · rintro rfl j _; rfl
abbrev ArrK (n : Nat) := { l : List Int // l.length = n }
theorem equal_arr (ht : P.underlying t = some (.array n e)) (hi : P.info? e = some i) (hc : P.cellsOf e = 1) (hu : P.underlying e = some (.int k)) (x y : ArrK n) (w : World) :
    (Op.equal t (arrV k x.1) (arrV k y.1)).run P w = .ok (decide (x = y)) w := by
  unfold arrV Op.equal Op.maxDepth
  rw [show (10000 : Nat) = 9998 + 1 + 1 from rfl, run_equalIn_array w (9998 + 1) _ _ ht hi, hc, run_eqItems_ints 9998 hu x.1 y.1 w _ (fun j hj => by rw [x.2, y.2]; simpa using hj), eq_all x.2 y.2]
  congr 1
  simp [Subtype.ext_iff]
theorem check_arr (ht : P.underlying t = some (.array n e)) (hi : P.info? e = some i) (hc : P.cellsOf e = 1) (hu : P.underlying e = some (.int k)) (b : Bool) (x : ArrK n) (w : World) (d : Nat) :
    (Instr.checkKey b (d + 2) t (arrV k x.1)).run P w = .ok () w := by
  unfold arrV
  rw [show d + 2 = (d + 1) + 1 from rfl]
  simp only [Instr.checkKey, Sem.run_bind, run_underlying ht, Result.andThen_ok, run_sizeOf w hi, hc]
  simp only [Std.Legacy.Range.forIn_eq_forIn_range', Std.Legacy.Range.size, Nat.sub_zero, Nat.add_one_sub_one, Nat.div_one, ← List.range_eq_range']
  have h : ∀ j ∈ List.range n, j < x.1.length := fun j hj => by rw [x.2]; simpa using hj
  generalize List.range n = is at h ⊢
  induction is with
  | nil => simp
  | cons j is ih =>
    have h1 := h j (by simp)
    have p1 := run_part_plain (P := P) w (plain_int hu) (xs := (x.1.map (Value.int k)).toArray) (off := j * 1) (v := .int k x.1[j]) (by rw [Nat.mul_one]; exact arrV_get h1)
    simp only [List.forIn_cons, Sem.run_bind, p1, Result.andThen_ok, run_sizeOf w hi, hc, run_underlying hu, Sem.run_pure]
    simpa [hc, run_sizeOf w hi] using ih fun q hq => h q (by simp [hq])
theorem stay_arr (k : IntKind) (x : List Int) (d : Nat) : Instr.sameBits (d + 1) (arrV k x) (arrV k x) = true := by
  unfold arrV
  simp only [Instr.sameBits, BEq.rfl, Bool.true_and]
  induction x with
  | nil => rfl
  | cons z x ih =>
    simp only [List.map_cons, List.zip_cons_cons, List.all_cons, Bool.and_eq_true]
    exact ⟨by cases d <;> simp [Instr.sameBits], ih⟩
theorem ask_arr (ht : P.underlying t = some (.array n e)) (hi : P.info? e = some i) (hc : P.cellsOf e = 1) (hu : P.underlying e = some (.int k)) : ∀ (es : List MapEntry) (ks : List (ArrK n)) (x : ArrK n) (j : Nat) (w : World), es.map (·.key) = ks.map (fun x => arrV k x.1) → (Instr.findAsking t (arrV k x.1) es j).run P w = .ok (fnd es ks x j) w := by
  intro es
  induction es with
  | nil =>
    intro ks x i w h
    cases ks with
    | nil => rfl
    | cons _ _ => simp at h
  | cons e es ih =>
    intro ks x i w h
    cases ks with
    | nil => simp at h
    | cons y ks =>
      simp only [List.map_cons, List.cons.injEq] at h
      unfold Instr.findAsking
      rw [Sem.run_bind, h.1, equal_arr ht hi hc hu]
      simp only [Result.andThen_ok, fnd]
      by_cases hx : x = y
      · simp [hx]
      · simp only [decide_eq_false hx, Bool.false_eq_true, if_false, if_neg hx]
        exact ih ks x (i + 1) w h.2
theorem keyLaw_arr (ht : P.underlying t = some (.array n e)) (hi : P.info? e = some i) (hc : P.cellsOf e = 1) (hu : P.underlying e = some (.int k)) : KeyLaw P t (fun x : ArrK n => arrV k x.1) where
  check b x w := check_arr ht hi hc hu b x w 9998
  find es ks x w h := by
    cases es with
    | nil =>
      cases ks with
      | nil => simp [Instr.findKey, run_underlying ht, Instr.findNow, fnd]
      | cons _ _ => simp at h
    | cons e' es =>
      have ha := ask_arr ht hi hc hu (e' :: es) ks x 0 w h
      cases ks with
      | nil => simp at h
      | cons y ks =>
        have hk : e'.key = arrV k y.1 := by simpa using (List.cons.inj (by simpa using h)).1
        simp only [Instr.findKey, Sem.run_bind, run_underlying ht, Result.andThen_ok, Instr.findNow, Instr.sameNow]
        exact ha
  stay x := stay_arr k x.1 9999
end
end Go.Fh
namespace Go.Ed
/-- the i-th number of a list, below n -/
def digZ (l : List Nat) (i n : Nat) : Int := ((l.getD i 0 % n : Nat) : Int)
theorem dig_bdZ (l : List Nat) (i : Nat) {n : Nat} (hn : 0 < n) : 0 ≤ digZ l i n ∧ digZ l i n < n := by
  unfold digZ
  have := Nat.mod_lt (l.getD i 0) hn
  omega
def colM (l : List Nat) (i : Nat) : Nat → List Int
  | 0 => []
  | k + 1 => colM l i k ++ [1 + 3 * digZ l (i + k) 2]
/-- pairs: from page p on; colours and pairs so far, and the next number's place -/
def pairM (l : List Nat) (n : Nat) : Nat → Nat → Nat → List Int → List Int → List Int × List Int × Nat
  | 0, _, i, c, q => (c, q, i)
  | fuel + 1, p, i, c, q => if p + 1 < n then pairM l n fuel (p + 2 + (digZ l i 3).toNat) (i + 1) (c.set (p + 1) (c.getD p 0)) (q ++ [(p : Int)]) else (c, q, i)
def varM (l : List Nat) (i : Nat) : Nat → List Int
  | 0 => []
  | k + 1 => varM l i k ++ [digZ l (i + k) 5 / 3]
def dueM (l : List Nat) (i : Nat) : Int × Nat := if digZ l i 3 = 0 then (60 + 8 * digZ l (i + 1) 256, i + 2) else (86400, i + 1)
def zonM (l : List Nat) (n : Nat) (i : Nat) : ZonD × Nat := (⟨1 + digZ l i 200, (dueM l (i + 1)).1, varM l (dueM l (i + 1)).2 n⟩, (dueM l (i + 1)).2 + n)
def zonsM (l : List Nat) (n : Nat) (i : Nat) : Nat → List ZonD × Nat
  | 0 => ([], i)
  | k + 1 => ((zonsM l n i k).1 ++ [(zonM l n (zonsM l n i k).2).1], (zonM l n (zonsM l n i k).2).2)
def rdyM (l : List Nat) (i : Nat) : Nat → List (Int × Int × Int) × Nat
  | 0 => ([], i)
  | k + 1 => if digZ l (rdyM l i k).2 3 = 0 then ((rdyM l i k).1 ++ [((k : Int), digZ l ((rdyM l i k).2 + 1) 2, 10 * digZ l ((rdyM l i k).2 + 2) 60)], (rdyM l i k).2 + 3) else ((rdyM l i k).1, (rdyM l i k).2 + 1)
def pagesM (l : List Nat) : Nat := 2 + (digZ l 4 5).toNat
def pairsM (l : List Nat) : List Int × List Int × Nat := pairM l (pagesM l) 7 (digZ l (5 + pagesM l) 3).toNat (6 + pagesM l) (colM l 5 (pagesM l)) []
def zonesM (l : List Nat) : List ZonD × Nat := zonsM l (pagesM l) ((pairsM l).2.2 + 1) (1 + (digZ l (pairsM l).2.2 7).toNat)
def madeT (l : List Nat) : TitD := ⟨(pairsM l).1, (pairsM l).2.1, (zonesM l).1, (rdyM l (zonesM l).2 (pagesM l)).1, 10 * digZ l 3 30, 20 + digZ l 0 200, digZ l 1 60, digZ l 2 20⟩
theorem getD_set_ne {c : List Int} {k j : Nat} {v : Int} (h : k ≠ j) : (c.set k v).getD j 0 = c.getD j 0 := by
  simp [List.getD_eq_getElem?_getD, List.getElem?_set_ne h]
theorem getD_set_self {c : List Int} {k : Nat} {v : Int} (h : k < c.length) : (c.set k v).getD k 0 = v := by
  simp [List.getD_eq_getElem?_getD, h]
theorem colM_len (l : List Nat) (i k : Nat) : (colM l i k).length = k := by
  induction k with
  | zero => rfl
  | succ k ih => simp [colM, ih]
theorem colM_mem (l : List Nat) (i k : Nat) : ∀ c ∈ colM l i k, c = 1 ∨ c = 4 := by
  induction k with
  | zero => intro c hc; simp [colM] at hc
  | succ k ih =>
    intro c hc
    simp only [colM, List.mem_append, List.mem_singleton] at hc
    rcases hc with hc | hc
    · exact ih c hc
    · have := dig_bdZ l (i + k) (n := 2) (by omega); omega
theorem pagesM_bd (l : List Nat) : 2 ≤ pagesM l ∧ pagesM l ≤ 6 := by
  unfold pagesM
  have := dig_bdZ l 4 (n := 5) (by omega)
  omega
theorem varM_len (l : List Nat) (i k : Nat) : (varM l i k).length = k := by
  induction k with
  | zero => rfl
  | succ k ih => simp [varM, ih]
theorem varM_mem (l : List Nat) (i k : Nat) : ∀ c ∈ varM l i k, c = 0 ∨ c = 1 := by
  induction k with
  | zero => intro c hc; simp [varM] at hc
  | succ k ih =>
    intro c hc
    simp only [varM, List.mem_append, List.mem_singleton] at hc
    rcases hc with hc | hc
    · exact ih c hc
    · have := dig_bdZ l (i + k) (n := 5) (by omega); omega
/-- what the pairs so far are: below p, and right -/
structure PairOk (n p : Nat) (c q : List Int) : Prop where
  len : c.length = n
  mem : ∀ x ∈ c, x = 1 ∨ x = 4
  low : ∀ x ∈ q, 0 ≤ x ∧ x + 2 ≤ (p : Int) ∧ x + 1 < (n : Int) ∧ c.getD x.toNat 0 = c.getD (x.toNat + 1) 0
  apart : ∀ k (h : k < q.length) j (hj : j < k), q[j]'(by omega) + 2 ≤ q[k]
  few : q.length ≤ p
theorem pairM_ok (l : List Nat) (n : Nat) : ∀ fuel p i c q, PairOk n p c q → ∃ p', PairOk n p' (pairM l n fuel p i c q).1 (pairM l n fuel p i c q).2.1 := by
  intro fuel
  induction fuel with
  | zero => intro p i c q h; exact ⟨p, h⟩
  | succ fuel ih =>
    intro p i c q h
    unfold pairM
    by_cases hp : p + 1 < n
    · rw [if_pos hp]
      refine ih _ _ _ _ ?_
      have hgp : c.getD p 0 = c[p]'(by rw [h.len]; omega) := by simp [show p < c.length by rw [h.len]; omega]
      refine ⟨by simp [h.len], ?_, ?_, ?_, ?_⟩
      · intro x hx
        rcases List.mem_or_eq_of_mem_set hx with h1 | h1
        · exact h.mem x h1
        · rw [h1, hgp]; exact h.mem _ (List.getElem_mem _)
      · intro x hx
        rw [List.mem_append, List.mem_singleton] at hx
        rcases hx with hx | rfl
        · obtain ⟨a1, a2, a3, a4⟩ := h.low x hx
          refine ⟨a1, by omega, a3, ?_⟩
          rw [getD_set_ne (by omega), getD_set_ne (by omega)]
          exact a4
        · refine ⟨by omega, by omega, by omega, ?_⟩
          simp only [Int.toNat_natCast]
          rw [getD_set_ne (by omega), getD_set_self (by rw [h.len]; omega)]
      · intro k hk j hj
        simp only [List.length_append, List.length_singleton] at hk
        by_cases e : k = q.length
        · subst e
          rw [List.getElem_append_left (by omega), List.getElem_append_right (by omega)]
          simp only [Nat.sub_self, List.getElem_cons_zero]
          exact (h.low _ (List.getElem_mem _)).2.1
        · rw [List.getElem_append_left (by omega), List.getElem_append_left (by omega)]
          exact h.apart k (by omega) j hj
      · have := h.few; simp; omega
    · rw [if_neg hp]; exact ⟨p, h⟩
theorem pairsM_ok (l : List Nat) : ∃ p, PairOk (pagesM l) p (pairsM l).1 (pairsM l).2.1 := by
  unfold pairsM
  exact pairM_ok l _ _ _ _ _ _ ⟨colM_len _ _ _, colM_mem _ _ _, fun x hx => absurd hx (by simp), fun k h => absurd h (by simp), Nat.zero_le _⟩
theorem paired_ok {n p : Nat} {t : TitD} (h : PairOk n p t.colours t.pairs) : pairedB t = true := by
  unfold pairedB
  rw [List.all_eq_true]
  intro k hk
  have hk' := List.mem_range.1 hk
  have hg : t.pairs.getD k 0 = t.pairs[k] := by simp [hk']
  obtain ⟨a1, a2, a3, a4⟩ := h.low _ (List.getElem_mem hk')
  unfold pairAt
  rw [hg]
  simp only [Bool.and_eq_true, Bool.not_eq_true', beq_iff_eq]
  refine ⟨⟨inB_iffZ.2 ⟨a1, by rw [h.len]; omega⟩, ?_⟩, a4⟩
  rw [List.any_eq_false]
  intro x hx
  obtain ⟨j, hj, rfl⟩ := List.getElem_of_mem hx
  rw [List.length_take] at hj
  rw [List.getElem_take]
  have := h.apart k hk' j (by omega)
  simp only [Bool.or_eq_true, beq_iff_eq]
  omega
theorem pairs_few {n p : Nat} {c q : List Int} (h : PairOk n p c q) : q.length ≤ n := by
  have key : ∀ k (hk : k < q.length), (k : Int) ≤ q[k] := by
    intro k
    induction k with
    | zero => intro hk; exact (h.low _ (List.getElem_mem hk)).1
    | succ k ih => intro hk; have := ih (by omega); have := h.apart (k + 1) hk k (by omega); omega
  rcases Nat.eq_zero_or_pos q.length with e | e
  · omega
  · have := key (q.length - 1) (by omega)
    have := (h.low _ (List.getElem_mem (show q.length - 1 < q.length by omega))).2.2.1
    omega
/-- a zone that is made -/
structure ZonOk (n : Nat) (z : ZonD) : Prop where
  lo : 1 ≤ z.copies
  hi : z.copies ≤ 200
  due0 : 60 ≤ z.due
  due1 : z.due ≤ 86400
  len : z.variants.length = n
  mem : ∀ v ∈ z.variants, v = 0 ∨ v = 1
theorem zonM_ok (l : List Nat) (n i : Nat) : ZonOk n (zonM l n i).1 := by
  have h1 := dig_bdZ l i (n := 200) (by omega)
  have hd : 60 ≤ (dueM l (i + 1)).1 ∧ (dueM l (i + 1)).1 ≤ 86400 := by
    unfold dueM
    have := dig_bdZ l (i + 1 + 1) (n := 256) (by omega)
    split <;> simp only <;> omega
  exact ⟨by simp only [zonM]; omega, by simp only [zonM]; omega, hd.1, hd.2, varM_len _ _ _, varM_mem _ _ _⟩
theorem zonsM_ok (l : List Nat) (n i k : Nat) : (zonsM l n i k).1.length = k ∧ ∀ z ∈ (zonsM l n i k).1, ZonOk n z := by
  induction k with
  | zero => simp [zonsM]
  | succ k ih =>
    refine ⟨by simp [zonsM, ih.1], fun z hz => ?_⟩
    simp only [zonsM, List.mem_append, List.mem_singleton] at hz
    rcases hz with hz | rfl
    · exact ih.2 z hz
    · exact zonM_ok _ _ _
theorem rdyM_ok (l : List Nat) (i k : Nat) : (rdyM l i k).1.length ≤ k ∧ (∀ r ∈ (rdyM l i k).1, 0 ≤ r.1 ∧ r.1 < (k : Int) ∧ 0 ≤ r.2.1 ∧ r.2.1 ≤ 1 ∧ 0 ≤ r.2.2 ∧ r.2.2 ≤ 590) ∧ ((rdyM l i k).1.map (·.1)).Nodup := by
  induction k with
  | zero => simp [rdyM]
  | succ k ih =>
    obtain ⟨h1, h2, h3⟩ := ih
    unfold rdyM
    split
    · refine ⟨by simp; omega, ?_, ?_⟩
      · intro r hr
        rw [List.mem_append, List.mem_singleton] at hr
        have b1 := dig_bdZ l ((rdyM l i k).2 + 1) (n := 2) (by omega)
        have b2 := dig_bdZ l ((rdyM l i k).2 + 2) (n := 60) (by omega)
        rcases hr with hr | rfl
        · have := h2 r hr; omega
        · simp only; omega
      · simp only [List.map_append, List.map_cons, List.map_nil]
        rw [List.nodup_append]
        refine ⟨h3, by simp, ?_⟩
        intro a ha b hb
        simp at hb
        subst hb
        obtain ⟨r, hr, rfl⟩ := List.mem_map.1 ha
        have := h2 r hr
        intro e
        have e' : r.1 = (k : Int) := e
        omega
    · exact ⟨by simp only; omega, fun r hr => by have := h2 r hr; omega, h3⟩
theorem firstErr_of {f : Nat → Int} {n : Nat} (h : ∀ i, i < n → f i = 0) : firstErrZ f n = 0 := by
  induction n with
  | zero => rfl
  | succ n ih => exact firstErr_goZ (ih fun i hi => h i (by omega)) (h n (by omega))
theorem addZ_pos {es : List EdD} {i : Int} {z : ZonD} (h : z.copies ≠ 0) : 0 < (addZ es i z).length := by
  unfold addZ
  rw [if_neg h]
  split
  · rename_i hh
    cases es with
    | nil => simp at hh
    | cons a b => simp
  · simp
theorem madeT_ok (l : List Nat) : checkT (madeT l) = 0 := by
  obtain ⟨p, hp⟩ := pairsM_ok l
  have hpg := pagesM_bd l
  have hpd : pairedB (madeT l) = true := paired_ok (t := madeT l) hp
  have hz := zonsM_ok l (pagesM l) ((pairsM l).2.2 + 1) (1 + (digZ l (pairsM l).2.2 7).toNat)
  have hzn := dig_bdZ l (pairsM l).2.2 (n := 7) (by omega)
  have hr := rdyM_ok l (zonesM l).2 (pagesM l)
  have d0 := dig_bdZ l 0 (n := 200) (by omega)
  have d1 := dig_bdZ l 1 (n := 60) (by omega)
  have d2 := dig_bdZ l 2 (n := 20) (by omega)
  have d3 := dig_bdZ l 3 (n := 30) (by omega)
  have hcl : (madeT l).colours.length = pagesM l := hp.len
  have hzl : (madeT l).zones.length = 1 + (digZ l (pairsM l).2.2 7).toNat := hz.1
  have hrl : (madeT l).ready.length ≤ pagesM l := hr.1
  have e1 : firstErrZ (fun k => errZ (madeT l) ((madeT l).zones.getD k ⟨0, 0, []⟩)) (madeT l).zones.length = 0 := by
    refine firstErr_of fun k hk => ?_
    have hg : (madeT l).zones.getD k ⟨0, 0, []⟩ = (madeT l).zones[k] := by simp [hk]
    rw [hg]
    have ok := hz.2 _ (List.getElem_mem hk)
    obtain ⟨a1, a2, a3, a4, a5, a6⟩ := ok
    unfold errZ
    have q1 : inBZ (madeT l).zones[k].copies 0 1000000 = true := inB_iffZ.2 ⟨by omega, by omega⟩
    have q2 : inBZ (madeT l).zones[k].due 0 86400 = true := inB_iffZ.2 ⟨by omega, by omega⟩
    have q3 : ((madeT l).zones[k].variants.any fun v => !inBZ v 0 9) = false := by
      rw [List.any_eq_false]
      intro v hv
      have := a6 v hv
      have : inBZ v 0 9 = true := inB_iffZ.2 ⟨by omega, by omega⟩
      simp [this]
    have q4 : (madeT l).zones[k].variants.length = (madeT l).colours.length := by rw [hcl]; exact a5
    rw [q1, q2, q3, q4]
    simp
  have e2 : firstErrZ (errR (madeT l)) (madeT l).ready.length = 0 := by
    refine firstErr_of fun k hk => ?_
    have hg : (madeT l).ready.getD k (0, 0, 0) = (madeT l).ready[k] := by simp [hk]
    have ok := hr.2.1 _ (List.getElem_mem hk)
    unfold errR
    rw [hg]
    have q1 : inBZ (madeT l).ready[k].1 0 (((madeT l).colours.length : Int) - 1) = true := inB_iffZ.2 ⟨ok.1, by rw [hcl]; have := ok.2.1; exact Int.le_sub_one_of_lt this⟩
    have q2 : inBZ (madeT l).ready[k].2.1 0 9 = true := inB_iffZ.2 ⟨ok.2.2.1, by have := ok.2.2.2.1; exact Int.le_trans this (by omega)⟩
    have q3 : inBZ (madeT l).ready[k].2.2 0 86400 = true := inB_iffZ.2 ⟨ok.2.2.2.2.1, Int.le_trans ok.2.2.2.2.2 (by omega)⟩
    have q4 : metR (madeT l).ready k (madeT l).ready[k] = false := by
      unfold metR
      rw [List.any_eq_false]
      intro x hx
      obtain ⟨j, hj, rfl⟩ := List.getElem_of_mem hx
      rw [List.length_take] at hj
      rw [List.getElem_take]
      simp only [Bool.and_eq_true, beq_iff_eq, not_and]
      intro h
      exfalso
      have hnd := hr.2.2
      have := (List.pairwise_iff_getElem.1 hnd) j k (by rw [List.length_map]; show j < (madeT l).ready.length; omega) (by rw [List.length_map]; exact hk) (by omega)
      rw [List.getElem_map, List.getElem_map] at this
      exact this h
    show (if (!inBZ (madeT l).ready[k].1 0 (((madeT l).colours.length : Int) - 1) || (!inBZ (madeT l).ready[k].2.1 0 9 || !inBZ (madeT l).ready[k].2.2 0 86400)) = true then 6 else if metR (madeT l).ready k (madeT l).ready[k] = true then 10 else 0) = (0 : Int)
    rw [q1, q2, q3, q4]
    simp
  have e3 : (edsN (madeT l) (madeT l).zones.length).length ≤ 7 := Nat.le_trans (edsN_len _ _) (by rw [hzl]; omega)
  have e4 : 0 < (edsN (madeT l) (madeT l).zones.length).length := by
    rw [hzl, Nat.add_comm]
    unfold edsN
    refine addZ_pos ?_
    have hk : (digZ l (pairsM l).2.2 7).toNat < (madeT l).zones.length := by rw [hzl]; omega
    have hg : (madeT l).zones.getD (digZ l (pairsM l).2.2 7).toNat ⟨0, 0, []⟩ = (madeT l).zones[(digZ l (pairsM l).2.2 7).toNat] := by simp [hk]
    rw [hg]
    have := (hz.2 _ (List.getElem_mem hk)).lo
    exact fun h => by have h2 : (1 : Int) ≤ (madeT l).zones[(digZ l (pairsM l).2.2 7).toNat].copies := this; omega
  have c1 : inBZ ((madeT l).colours.length : Int) 1 64 = true := inB_iffZ.2 ⟨by rw [hcl]; omega, by rw [hcl]; omega⟩
  have c2 : inBZ ((madeT l).zones.length : Int) 1 12 = true := inB_iffZ.2 ⟨by rw [hzl]; omega, by rw [hzl]; omega⟩
  have c3 : ¬ 200 < (madeT l).ready.length := by omega
  have c4 : inBZ (madeT l).start 0 86400 = true := inB_iffZ.2 ⟨by show 0 ≤ 10 * digZ l 3 30; omega, by show 10 * digZ l 3 30 ≤ 86400; omega⟩
  have c5 : inBZ (madeT l).rate 1 3000 = true := inB_iffZ.2 ⟨by show 1 ≤ 20 + digZ l 0 200; omega, by show 20 + digZ l 0 200 ≤ 3000; omega⟩
  have c6 : inBZ (madeT l).stop 0 3600 = true := inB_iffZ.2 ⟨by show 0 ≤ digZ l 1 60; omega, by show digZ l 1 60 ≤ 3600; omega⟩
  have c7 : inBZ (madeT l).hang 0 3600 = true := inB_iffZ.2 ⟨by show 0 ≤ digZ l 2 20; omega, by show digZ l 2 20 ≤ 3600; omega⟩
  have c8 : ((madeT l).colours.any fun c => !inBZ c 1 4) = false := by
    rw [List.any_eq_false]
    intro v hv
    have := hp.mem v hv
    have : inBZ v 1 4 = true := inB_iffZ.2 ⟨by omega, by omega⟩
    simp [this]
  unfold checkT
  rw [c1, c2, c4, c5, c6, c7, c8, hpd, e1, e2, if_neg (show ¬ (edsN (madeT l) (madeT l).zones.length).length = 0 by omega), if_neg (show ¬ 7 < (edsN (madeT l) (madeT l).zones.length).length by omega)]
  simp [c3]
end Go.Ed
namespace Go.Ed
def zon0 : ZonD := ⟨0, 0, []⟩
def copZ (t : TitD) (z : Int) : Int := (t.zones.getD z.toNat zon0).copies
def sumC (t : TitD) (zs : List Int) : Int := (zs.map (copZ t)).sum
/-- zone, first and last copy -/
def partsGo (t : TitD) : Int → List Int → List (Int × Int × Int)
  | _, [] => []
  | n, z :: zs => (z, n, n + copZ t z - 1) :: partsGo t (n + copZ t z) zs
theorem sumC_snoc (t : TitD) (zs : List Int) (z : Int) : sumC t (zs ++ [z]) = sumC t zs + copZ t z := by simp [sumC, List.sum_append]
theorem sumC_cons (t : TitD) (zs : List Int) (z : Int) : sumC t (z :: zs) = copZ t z + sumC t zs := by simp [sumC]
theorem partsGo_snoc (t : TitD) (z : Int) : ∀ (zs : List Int) (n : Int), partsGo t n (zs ++ [z]) = partsGo t n zs ++ [(z, n + sumC t zs, n + sumC t zs + copZ t z - 1)] := by
  intro zs
  induction zs with
  | nil => intro n; simp [partsGo, sumC]
  | cons y zs ih =>
    intro n
    simp only [List.cons_append, partsGo, ih, sumC_cons]
    simp only [List.cons_append, List.cons.injEq, true_and]
    rw [show n + copZ t y + sumC t zs = n + (copZ t y + sumC t zs) by omega]
theorem partsGo_len (t : TitD) : ∀ (zs : List Int) (n : Int), (partsGo t n zs).length = zs.length := by
  intro zs
  induction zs with
  | nil => intro n; rfl
  | cons y zs ih => intro n; simp [partsGo, ih]
theorem partsGo_get (t : TitD) : ∀ (zs : List Int) (n : Int) (k : Nat) (h : k < zs.length), (partsGo t n zs)[k]'(by rw [partsGo_len]; exact h) = (zs[k], n + sumC t (zs.take k), n + sumC t (zs.take (k + 1)) - 1) := by
  intro zs
  induction zs with
  | nil => intro n k h; simp at h
  | cons y zs ih =>
    intro n k h
    cases k with
    | zero => simp [partsGo, sumC]
    | succ k =>
      simp only [partsGo, List.getElem_cons_succ, List.take_succ_cons, sumC_cons]
      rw [ih (n + copZ t y) k (by simpa using h)]
      simp only [Prod.mk.injEq, true_and]
      constructor <;> omega
def zoneL (es : List EdD) (o : List Nat) : List Int := o.flatMap fun e => (es.getD e ed0).zones
def partsL (t : TitD) (es : List EdD) (o : List Nat) : List (Int × Int × Int) := partsGo t 0 (zoneL es o)
/-- the zones with copies, of the first so many -/
def hasC (t : TitD) (k : Nat) : List Int := ((List.range k).filter fun i => decide ((t.zones.getD i zon0).copies ≠ 0)).map fun (i : Nat) => (i : Int)
theorem addZ_zones (es : List EdD) (hn : (es.map EdD.variants).Nodup) (i : Int) (z : ZonD) (h : z.copies ≠ 0) : ((addZ es i z).flatMap EdD.zones).Perm (es.flatMap EdD.zones ++ [i]) := by
  unfold addZ
  rw [if_neg h]
  split
  · rename_i ha
    clear h
    induction es with
    | nil => simp at ha
    | cons e es ih =>
      simp only [List.map_cons, List.nodup_cons] at hn
      by_cases he : e.variants = z.variants
      · have hrest : (es.map fun e => if (e.variants == z.variants) = true then (⟨e.zones ++ [i], e.copies + z.copies, e.ready, min e.due z.due, e.variants⟩ : EdD) else e) = es := by
          refine (List.map_congr_left fun x hx => ?_).trans (List.map_id _)
          rw [if_neg]
          · rfl
          · intro hxe
            exact hn.1 (List.mem_map.2 ⟨x, hx, by rw [he]; simpa using hxe⟩)
        simp only [List.map_cons, List.flatMap_cons, he, BEq.rfl, if_true]
        rw [hrest]
        simp only [List.append_assoc]
        exact List.Perm.append_left _ List.perm_append_comm
      · have ha' : (es.any fun e => e.variants == z.variants) = true := by
          simp only [List.any_cons, Bool.or_eq_true, beq_iff_eq] at ha
          exact ha.resolve_left he
        have hb : (e.variants == z.variants) = false := by simpa using he
        simp only [List.map_cons, List.flatMap_cons, hb, Bool.false_eq_true, if_false, List.append_assoc]
        exact List.Perm.append_left _ (ih hn.2 ha')
  · simp
theorem edsN_zones (t : TitD) (k : Nat) : ((edsN t k).flatMap EdD.zones).Perm (hasC t k) := by
  induction k with
  | zero => simp [edsN, hasC]
  | succ k ih =>
    unfold edsN
    have hs : hasC t (k + 1) = hasC t k ++ if (t.zones.getD k zon0).copies ≠ 0 then [(k : Int)] else [] := by
      unfold hasC
      rw [List.range_succ, List.filter_append, List.map_append]
      by_cases h : (t.zones.getD k zon0).copies = 0
      · rw [if_neg (fun hn => hn h), List.filter_cons, if_neg (by rw [h]; simp)]; simp
      · rw [if_pos h, List.filter_cons, if_pos (by simpa using h)]; simp
    rw [hs]
    by_cases h : (t.zones.getD k zon0).copies = 0
    · have h' : (t.zones.getD k ⟨0, 0, []⟩).copies = 0 := h
      rw [if_neg (by simpa using h), List.append_nil]
      unfold addZ
      rw [if_pos h']
      exact ih
    · rw [if_pos h]
      exact (addZ_zones _ (edsN_nodup t k) _ _ h).trans (ih.append_right _)
theorem edsR_zones (t : TitD) : ((edsR t).flatMap EdD.zones).Perm (hasC t t.zones.length) := by
  have : (edsR t).flatMap EdD.zones = (edsN t t.zones.length).flatMap EdD.zones := by
    unfold edsR
    rw [List.flatMap_map]
  rw [this]
  exact edsN_zones t _
theorem zoneL_range (es : List EdD) : zoneL es (List.range es.length) = es.flatMap EdD.zones := by
  unfold zoneL
  have : es = (List.range es.length).map fun e => es.getD e ed0 := by
    refine List.ext_getElem (by simp) fun k h1 h2 => ?_
    simp [h1]
  conv => rhs; rw [this]
  rw [List.flatMap_map]
theorem perm_flatMap {α β : Type} (f : α → List β) {l m : List α} (h : l.Perm m) : (l.flatMap f).Perm (m.flatMap f) := by
  induction h with
  | nil => exact .refl _
  | cons x _ ih => simp only [List.flatMap_cons]; exact ih.append_left _
  | swap x y l => simp only [List.flatMap_cons, ← List.append_assoc]; exact List.perm_append_comm.append_right _
  | trans _ _ h1 h2 => exact h1.trans h2
theorem zoneL_perm (t : TitD) {o : List Nat} (h : o.Perm (List.range (edsR t).length)) : (zoneL (edsR t) o).Perm (hasC t t.zones.length) :=
  (perm_flatMap _ h).trans (by have := edsR_zones t; rw [← zoneL_range] at this; exact this)
/-- if all zones have copies, all are there, each once -/
theorem zoneL_all (t : TitD) {o : List Nat} (h : o.Perm (List.range (edsR t).length)) (hc : ∀ z ∈ t.zones, 1 ≤ z.copies) : (zoneL (edsR t) o).Perm ((List.range t.zones.length).map fun (i : Nat) => (i : Int)) := by
  have := zoneL_perm t h
  unfold hasC at this
  rw [List.filter_eq_self.2] at this
  · exact this
  · intro i hi
    have hi' := List.mem_range.1 hi
    have hg : t.zones.getD i zon0 = t.zones[i] := by simp [hi']
    rw [hg]
    have := hc _ (List.getElem_mem hi')
    simp only [decide_eq_true_eq]
    omega
/-- each edition's zones have its variants -/
theorem edsN_vars (t : TitD) (k : Nat) (hk : k ≤ t.zones.length) : ∀ e ∈ edsN t k, ∀ z ∈ e.zones, 0 ≤ z ∧ z < (k : Int) ∧ (t.zones.getD z.toNat zon0).variants = e.variants := by
  induction k with
  | zero => intro e he; simp [edsN] at he
  | succ k ih =>
    have h0 := ih (by omega)
    have h1 : ∀ e ∈ edsN t k, ∀ z ∈ e.zones, 0 ≤ z ∧ z < ((k + 1 : Nat) : Int) ∧ (t.zones.getD z.toNat zon0).variants = e.variants := fun e he z hz => by have := h0 e he z hz; exact ⟨this.1, by omega, this.2.2⟩
    intro e he
    unfold edsN addZ at he
    split at he
    · exact h1 e he
    · split at he
      · obtain ⟨x, hx, rfl⟩ := List.mem_map.1 he
        by_cases hv : (x.variants == (t.zones.getD k ⟨0, 0, []⟩).variants) = true
        · rw [if_pos hv]
          intro z hz
          simp only [List.mem_append, List.mem_singleton] at hz
          rcases hz with hz | rfl
          · exact h1 x hx z hz
          · refine ⟨by omega, by omega, ?_⟩
            simp only [Int.toNat_natCast]
            exact (eq_of_beq hv).symm
        · rw [if_neg hv]; exact h1 x hx
      · rw [List.mem_append, List.mem_singleton] at he
        rcases he with he | rfl
        · exact h1 e he
        · intro z hz
          simp only [List.mem_singleton] at hz
          subst hz
          exact ⟨by omega, by omega, rfl⟩
theorem edsR_vars (t : TitD) : ∀ e ∈ edsR t, ∀ z ∈ e.zones, 0 ≤ z ∧ z < (t.zones.length : Int) ∧ (t.zones.getD z.toNat zon0).variants = e.variants := by
  intro e he
  unfold edsR at he
  obtain ⟨x, hx, rfl⟩ := List.mem_map.1 he
  exact edsN_vars t _ (Nat.le_refl _) x hx
end Go.Ed
namespace Go.Ed
/-- the numbers below k, each laid in at the place that the next number says -/
def permM (l : List Nat) : Nat → List Nat
  | 0 => []
  | k + 1 => (permM l k).insertIdx (digZ l k (k + 1)).toNat k
theorem permM_len (l : List Nat) (k : Nat) : (permM l k).length = k := by
  induction k with
  | zero => rfl
  | succ k ih =>
    unfold permM
    have := dig_bdZ l k (n := k + 1) (by omega)
    rw [List.length_insertIdx_of_le_length (by omega), ih]
theorem permM_perm (l : List Nat) (k : Nat) : (permM l k).Perm (List.range k) := by
  induction k with
  | zero => exact List.Perm.refl _
  | succ k ih =>
    unfold permM
    have := dig_bdZ l k (n := k + 1) (by omega)
    have hl := permM_len l k
    refine (List.perm_insertIdx k (permM l k) (by omega)).trans ?_
    rw [List.range_succ]
    exact ((List.Perm.cons k ih).trans (List.perm_append_singleton _ _).symm)
theorem orders_perm {n : Nat} {o : List Nat} (h : o.Perm (List.range n)) : ordersB n (o.map fun (e : Nat) => (e : Int)) = true := by
  have hl : o.length = n := by rw [h.length_eq, List.length_range]
  have hm : ∀ e ∈ o, e < n := fun e he => List.mem_range.1 (h.mem_iff.1 he)
  have hd : o.Nodup := h.nodup_iff.2 List.nodup_range
  have hdi : (o.map fun (e : Nat) => (e : Int)).Nodup := List.Pairwise.map _ (fun a b hab => fun e => hab (Int.ofNat.inj e)) hd
  unfold ordersB
  simp only [Bool.and_eq_true, decide_eq_true_eq]
  refine ⟨⟨by rw [List.length_map, hl], ?_⟩, hdi⟩
  rw [List.all_eq_true]
  intro e he
  obtain ⟨k, hk, rfl⟩ := List.mem_map.1 he
  have := hm k hk
  exact inB_iffZ.2 ⟨by omega, by omega⟩
theorem permM_orders (l : List Nat) (n : Nat) : ordersB n ((permM l n).map fun (e : Nat) => (e : Int)) = true := orders_perm (permM_perm l n)
end Go.Ed
