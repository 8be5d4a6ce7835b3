/- The walk of EditionTells; conditions: a title and an order in memory. Printed by a program. -/
import Derived.Test.YtokdleanpkkdpaaL8
set_option linter.unusedSimpArgs false
set_option linter.unusedVariables false
namespace Go.Ed
open Go.Fh Go.RowKit Go.Proofs.Ytokdleanpkkdpaa
def chgP (t : TitD) (a b : Int) : Int × Int := if checkT t ≠ 0 then (0, checkT t) else if inB a 0 (((edsR t).length : Int) - 1) = true ∧ inB b 0 (((edsR t).length : Int) - 1) = true then (changeB t ((edsR t).getD a.toNat ed0) ((edsR t).getD b.toNat ed0), 0) else (0, 1)
def plaP (t : TitD) : Int × Int := if checkT t ≠ 0 then (0, checkT t) else (allB t, 0)
def sloP (t : TitD) (l : List Int) : List SloD := if checkT t = 0 ∧ ordersB (edsR t).length l = true then slotsD t (edsR t) (natL l) else []
/-- what InTime gives -/
def IntP (t : TitD) (l : List Int) (n e : Int) : Prop :=
  if checkT t ≠ 0 then n = 0 ∧ e = checkT t else if ordersB (edsR t).length l = false then n = 0 ∧ e = 1 else
  (noLate t (edsR t) (natL l) ∧ n = finAt t (edsR t) (natL l) (natL l).length ∧ e = 0) ∨ ∃ i : Nat, firstLate t (edsR t) (natL l) i ∧ n = (i : Int) ∧ e = 12
theorem first_uniq {t : TitD} {es : List EdD} {o : List Nat} {i j : Nat} (h : firstLate t es o i) (k : firstLate t es o j) : i = j := by
  rcases Nat.lt_trichotomy i j with a | a | a
  · have := k.2.2 i a; rw [h.2.1] at this; cases this
  · exact a
  · have := h.2.2 j a; rw [k.2.1] at this; cases this
theorem intP_uniq {t : TitD} {l : List Int} {n e m f : Int} (h : IntP t l n e) (k : IntP t l m f) : n = m ∧ e = f := by
  unfold IntP at h k
  split at h
  · rename_i h1
    rw [if_pos h1] at k
    exact ⟨h.1.trans k.1.symm, h.2.trans k.2.symm⟩
  · rename_i h1
    rw [if_neg h1] at k
    split at h
    · rename_i h2
      rw [if_pos h2] at k
      exact ⟨h.1.trans k.1.symm, h.2.trans k.2.symm⟩
    · rename_i h2
      rw [if_neg h2] at k
      rcases h with ⟨a1, a2, a3⟩ | ⟨i, a1, a2, a3⟩ <;> rcases k with ⟨b1, b2, b3⟩ | ⟨j, b1, b2, b3⟩
      · exact ⟨a2.trans b2.symm, a3.trans b3.symm⟩
      · have := a1 j b1.1; rw [b1.2.1] at this; cases this
      · have := b1 i a1.1; rw [a1.2.1] at this; cases this
      · have := first_uniq a1 b1
        subst this
        exact ⟨a2.trans b2.symm, a3.trans b3.symm⟩
end Go.Ed
namespace Go.Proofs.Ytokdleanpkkdpaa
open Go.RowKit Go.Fh Go.Ed
theorem chk41_c (t : TitD) (x : TA) (zs : List ZonM) (w : World) (hs : Sizes t) (hT : TitAt w w.heap.size t x zs) :
    Calls Try.prog 41 #[.agg #[.slice x.a t.colours.length x.ca, .slice x.b t.pairs.length x.cb, .slice x.z t.zones.length x.cz, .slice x.r t.ready.length x.cr, .int .i64 t.start, .int .i64 t.rate, .int .i64 t.stop, .int .i64 t.hang]] w fun e w' => e = .returned (.int .i64 (checkT t)) ∧ Hid (Below w.heap.size w w') := check_any t x zs w hs hT
theorem chk42_c (t : TitD) (x : TA) (zs : List ZonM) (w : World) (hs : Sizes t) (hT : TitAt w w.heap.size t x zs) :
    Calls Try.prog 42 #[.agg #[.slice x.a t.colours.length x.ca, .slice x.b t.pairs.length x.cb, .slice x.z t.zones.length x.cz, .slice x.r t.ready.length x.cr, .int .i64 t.start, .int .i64 t.rate, .int .i64 t.stop, .int .i64 t.hang]] w fun e w' => e = .returned (.int .i64 (checkT t)) ∧ Hid (Below w.heap.size w w') := rcheck_any t x zs w hs hT
theorem chg22_c (t : TitD) (x : TA) (zs : List ZonM) (w : World) (hs : Sizes t) (hT : TitAt w w.heap.size t x zs) (a b : Int) (r : Int × Int) (hr : r = chgP t a b) :
    Calls Try.prog 22 #[.agg #[.slice x.a t.colours.length x.ca, .slice x.b t.pairs.length x.cb, .slice x.z t.zones.length x.cz, .slice x.r t.ready.length x.cr, .int .i64 t.start, .int .i64 t.rate, .int .i64 t.stop, .int .i64 t.hang], .int .i64 a, .int .i64 b] w fun e w' => e = .returned (.tuple #[.int .i64 r.1, .int .i64 r.2]) ∧ Hid (Below w.heap.size w w') := by
  subst hr
  by_cases hc : checkT t = 0
  · by_cases hab : inB a 0 (((edsR t).length : Int) - 1) = true ∧ inB b 0 (((edsR t).length : Int) - 1) = true
    · have he : chgP t a b = (changeB t ((edsR t).getD a.toNat ed0) ((edsR t).getD b.toNat ed0), 0) := by unfold chgP; rw [if_neg (by simpa using hc), if_pos hab]
      have h1 := inB_iff.1 hab.1
      have h2 := inB_iff.1 hab.2
      rw [he]
      have h := change_ok t x zs w hs hT a.toNat b.toNat hc (by omega) (by omega)
      rw [Int.toNat_of_nonneg h1.1, Int.toNat_of_nonneg h2.1] at h
      exact h
    · have he : chgP t a b = (0, 1) := by unfold chgP; rw [if_neg (by simpa using hc), if_neg hab]
      rw [he]
      refine change_out t x zs w hs hT a b hc ?_
      cases h1 : inB a 0 (((edsR t).length : Int) - 1)
      · exact .inl rfl
      · cases h2 : inB b 0 (((edsR t).length : Int) - 1)
        · exact .inr rfl
        · exact absurd ⟨h1, h2⟩ hab
  · have he : chgP t a b = (0, checkT t) := by unfold chgP; rw [if_pos hc]
    rw [he]
    exact change_bad t x zs w hs hT a b hc
theorem chg46_c (t : TitD) (x : TA) (zs : List ZonM) (w : World) (hs : Sizes t) (hT : TitAt w w.heap.size t x zs) (a b : Int) (r : Int × Int) (hr : r = chgP t a b) :
    Calls Try.prog 46 #[.agg #[.slice x.a t.colours.length x.ca, .slice x.b t.pairs.length x.cb, .slice x.z t.zones.length x.cz, .slice x.r t.ready.length x.cr, .int .i64 t.start, .int .i64 t.rate, .int .i64 t.stop, .int .i64 t.hang], .int .i64 a, .int .i64 b] w fun e w' => e = .returned (.tuple #[.int .i64 r.1, .int .i64 r.2]) ∧ Hid (Below w.heap.size w w') := by
  subst hr
  by_cases hc : checkT t = 0
  · by_cases hab : inB a 0 (((edsR t).length : Int) - 1) = true ∧ inB b 0 (((edsR t).length : Int) - 1) = true
    · have he : chgP t a b = (changeB t ((edsR t).getD a.toNat ed0) ((edsR t).getD b.toNat ed0), 0) := by unfold chgP; rw [if_neg (by simpa using hc), if_pos hab]
      have h1 := inB_iff.1 hab.1
      have h2 := inB_iff.1 hab.2
      rw [he]
      have h := rChange_ok t x zs w hs hT a.toNat b.toNat hc (by omega) (by omega)
      rw [Int.toNat_of_nonneg h1.1, Int.toNat_of_nonneg h2.1] at h
      exact h
    · have he : chgP t a b = (0, 1) := by unfold chgP; rw [if_neg (by simpa using hc), if_neg hab]
      rw [he]
      refine rChange_out t x zs w hs hT a b hc ?_
      cases h1 : inB a 0 (((edsR t).length : Int) - 1)
      · exact .inl rfl
      · cases h2 : inB b 0 (((edsR t).length : Int) - 1)
        · exact .inr rfl
        · exact absurd ⟨h1, h2⟩ hab
  · have he : chgP t a b = (0, checkT t) := by unfold chgP; rw [if_pos hc]
    rw [he]
    exact rChange_bad t x zs w hs hT a b hc
theorem pla23_c (t : TitD) (x : TA) (zs : List ZonM) (w : World) (hs : Sizes t) (hT : TitAt w w.heap.size t x zs) (r : Int × Int) (hr : r = plaP t) :
    Calls Try.prog 23 #[.agg #[.slice x.a t.colours.length x.ca, .slice x.b t.pairs.length x.cb, .slice x.z t.zones.length x.cz, .slice x.r t.ready.length x.cr, .int .i64 t.start, .int .i64 t.rate, .int .i64 t.stop, .int .i64 t.hang]] w fun e w' => e = .returned (.tuple #[.int .i64 r.1, .int .i64 r.2]) ∧ Hid (Below w.heap.size w w') := by
  subst hr
  by_cases hc : checkT t = 0
  · have he : plaP t = (allB t, 0) := by unfold plaP; rw [if_neg (by simpa using hc)]
    rw [he]
    exact plates_ok t x zs w hs hT hc
  · have he : plaP t = (0, checkT t) := by unfold plaP; rw [if_pos hc]
    rw [he]
    exact plates_bad t x zs w hs hT hc
theorem pla47_c (t : TitD) (x : TA) (zs : List ZonM) (w : World) (hs : Sizes t) (hT : TitAt w w.heap.size t x zs) (r : Int × Int) (hr : r = plaP t) :
    Calls Try.prog 47 #[.agg #[.slice x.a t.colours.length x.ca, .slice x.b t.pairs.length x.cb, .slice x.z t.zones.length x.cz, .slice x.r t.ready.length x.cr, .int .i64 t.start, .int .i64 t.rate, .int .i64 t.stop, .int .i64 t.hang]] w fun e w' => e = .returned (.tuple #[.int .i64 r.1, .int .i64 r.2]) ∧ Hid (Below w.heap.size w w') := by
  subst hr
  by_cases hc : checkT t = 0
  · have he : plaP t = (allB t, 0) := by unfold plaP; rw [if_neg (by simpa using hc)]
    rw [he]
    exact rPlates_ok t x zs w hs hT hc
  · have he : plaP t = (0, checkT t) := by unfold plaP; rw [if_pos hc]
    rw [he]
    exact rPlates_bad t x zs w hs hT hc
theorem slots24_c (t : TitD) (x : TA) (zs : List ZonM) (w : World) (hs : Sizes t) (hT : TitAt w w.heap.size t x zs) (A : Option Addr) (c n : Nat) (l : List Int) (hn : l.length = n) (hl : l.length ≤ 12) (hA : Sl encInt 1 w w.heap.size A l) (m : Nat) (hm : m = (sloP t l).length) :
    Calls Try.prog 24 #[.agg #[.slice x.a t.colours.length x.ca, .slice x.b t.pairs.length x.cb, .slice x.z t.zones.length x.cz, .slice x.r t.ready.length x.cr, .int .i64 t.start, .int .i64 t.rate, .int .i64 t.stop, .int .i64 t.hang], .slice A n c] w fun e w' => ∃ (A' : Option Addr) (c' : Nat), e = .returned (.tuple #[.slice A' m c', .int .i64 (errP t l)]) ∧ Hid (Sl encSlo 4 w' w'.heap.size A' (sloP t l)) ∧ Hid (Below w.heap.size w w') := by
  subst hn
  by_cases hc : checkT t = 0
  · cases ho : ordersB (edsR t).length l
    · refine (Slots_arg t x zs w hs hT A c l (by omega) hA hc ho).mono ?_
      rintro e w' ⟨rfl, hb⟩
      have hp : sloP t l = [] := by unfold sloP; rw [if_neg (by simp [ho])]
      have he : errP t l = 1 := by unfold errP; rw [if_neg (by simpa using hc), if_neg (by simp [ho])]
      rw [hp] at hm ⊢
      rw [he, hm]
      exact ⟨none, 0, rfl, Lib.hid (sl_none _ _ _ _), Lib.hid hb⟩
    · have hln := ord_nat ho
      have ho2 := ho
      have hA2 := hA
      rw [hln] at ho2 hA2
      have hp : sloP t l = slotsD t (edsR t) (natL l) := by unfold sloP; rw [if_pos ⟨hc, ho⟩]
      have he : errP t l = 0 := by unfold errP; rw [if_neg (by simpa using hc), if_pos ho]
      have hsl : (slotsD t (edsR t) (natL l)).length = (natL l).length := by unfold slotsD; rw [upF_len]
      rw [← natL_len l]
      refine (Slots_ok t x zs w hs hT A c (natL l) (by rw [natL_len]; omega) hA2 hc ho2).mono ?_
      rintro e w' ⟨A', c', rfl, hw, hb⟩
      rw [hp] at hm ⊢
      rw [he, hm]
      skip
      exact ⟨A', c', rfl, Lib.hid (Sl.of_own (enc := encSlo) (fun _ => rfl) hw), Lib.hid hb⟩
  · refine (Slots_bad t x zs w hs hT A c l hc).mono ?_
    rintro e w' ⟨rfl, hb⟩
    have hp : sloP t l = [] := by unfold sloP; rw [if_neg (by simp [hc])]
    have he : errP t l = checkT t := by unfold errP; rw [if_pos hc]
    rw [hp] at hm ⊢
    rw [he, hm]
    exact ⟨none, 0, rfl, Lib.hid (sl_none _ _ _ _), Lib.hid hb⟩
theorem slots48_c (t : TitD) (x : TA) (zs : List ZonM) (w : World) (hs : Sizes t) (hT : TitAt w w.heap.size t x zs) (A : Option Addr) (c n : Nat) (l : List Int) (hn : l.length = n) (hl : l.length ≤ 12) (hA : Sl encInt 1 w w.heap.size A l) (m : Nat) (hm : m = (sloP t l).length) :
    Calls Try.prog 48 #[.agg #[.slice x.a t.colours.length x.ca, .slice x.b t.pairs.length x.cb, .slice x.z t.zones.length x.cz, .slice x.r t.ready.length x.cr, .int .i64 t.start, .int .i64 t.rate, .int .i64 t.stop, .int .i64 t.hang], .slice A n c] w fun e w' => ∃ (A' : Option Addr) (c' : Nat), e = .returned (.tuple #[.slice A' m c', .int .i64 (errP t l)]) ∧ Hid (Sl encSlo 4 w' w'.heap.size A' (sloP t l)) ∧ Hid (Below w.heap.size w w') := by
  subst hn
  by_cases hc : checkT t = 0
  · cases ho : ordersB (edsR t).length l
    · refine (rSlots_arg t x zs w hs hT A c l (by omega) hA hc ho).mono ?_
      rintro e w' ⟨rfl, hb⟩
      have hp : sloP t l = [] := by unfold sloP; rw [if_neg (by simp [ho])]
      have he : errP t l = 1 := by unfold errP; rw [if_neg (by simpa using hc), if_neg (by simp [ho])]
      rw [hp] at hm ⊢
      rw [he, hm]
      exact ⟨none, 0, rfl, Lib.hid (sl_none _ _ _ _), Lib.hid hb⟩
    · have hln := ord_nat ho
      have ho2 := ho
      have hA2 := hA
      rw [hln] at ho2 hA2
      have hp : sloP t l = slotsD t (edsR t) (natL l) := by unfold sloP; rw [if_pos ⟨hc, ho⟩]
      have he : errP t l = 0 := by unfold errP; rw [if_neg (by simpa using hc), if_pos ho]
      have hsl : (slotsD t (edsR t) (natL l)).length = (natL l).length := by unfold slotsD; rw [upF_len]
      rw [← natL_len l]
      refine (rSlots_ok t x zs w hs hT A c (natL l) hA2 hc ho2).mono ?_
      rintro e w' ⟨A', c', rfl, hw, hb⟩
      rw [hp] at hm ⊢
      rw [he, hm]
      rw [← hsl] at hw ⊢
      exact ⟨A', c', rfl, Lib.hid (Sl.of_own (enc := encSlo) (fun _ => rfl) hw), Lib.hid hb⟩
  · refine (rSlots_bad t x zs w hs hT A c l hc).mono ?_
    rintro e w' ⟨rfl, hb⟩
    have hp : sloP t l = [] := by unfold sloP; rw [if_neg (by simp [hc])]
    have he : errP t l = checkT t := by unfold errP; rw [if_pos hc]
    rw [hp] at hm ⊢
    rw [he, hm]
    exact ⟨none, 0, rfl, Lib.hid (sl_none _ _ _ _), Lib.hid hb⟩
theorem intime31_c (t : TitD) (x : TA) (zs : List ZonM) (w : World) (hs : Sizes t) (hT : TitAt w w.heap.size t x zs) (A : Option Addr) (c n : Nat) (l : List Int) (hn : l.length = n) (hl : l.length ≤ 12) (hA : Sl encInt 1 w w.heap.size A l) :
    Calls Try.prog 31 #[.agg #[.slice x.a t.colours.length x.ca, .slice x.b t.pairs.length x.cb, .slice x.z t.zones.length x.cz, .slice x.r t.ready.length x.cr, .int .i64 t.start, .int .i64 t.rate, .int .i64 t.stop, .int .i64 t.hang], .slice A n c] w fun e w' => ∃ m ec : Int, e = .returned (.tuple #[.int .i64 m, .int .i64 ec]) ∧ Hid (IntP t l m ec) ∧ Hid (Below w.heap.size w w') := by
  subst hn
  by_cases hc : checkT t = 0
  · cases ho : ordersB (edsR t).length l
    · refine (InTime_arg t x zs w hs hT A c l (by omega) hA hc ho).mono ?_
      rintro e w' ⟨rfl, hb⟩
      exact ⟨_, _, rfl, Lib.hid (by unfold IntP; rw [if_neg (by simpa using hc), if_pos ho]; exact ⟨rfl, rfl⟩), Lib.hid hb⟩
    · have hln := ord_nat ho
      have ho2 := ho
      have hA2 := hA
      rw [hln] at ho2 hA2
      rw [← natL_len l]
      refine (InTime_ok t x zs w hs hT A c (natL l) (by rw [natL_len]; omega) hA2 hc ho2).mono ?_
      rintro e w' ⟨⟨h1, rfl⟩ | ⟨i, h1, rfl⟩, hb⟩
      · exact ⟨_, _, rfl, Lib.hid (by unfold IntP; rw [if_neg (by simpa using hc), if_neg (by simp [ho])]; exact .inl ⟨h1, rfl, rfl⟩), Lib.hid hb⟩
      · exact ⟨_, _, rfl, Lib.hid (by unfold IntP; rw [if_neg (by simpa using hc), if_neg (by simp [ho])]; exact .inr ⟨i, h1, rfl, rfl⟩), Lib.hid hb⟩
  · refine (InTime_bad t x zs w hs hT A c l hc).mono ?_
    rintro e w' ⟨rfl, hb⟩
    exact ⟨_, _, rfl, Lib.hid (by unfold IntP; rw [if_pos hc]; exact ⟨rfl, rfl⟩), Lib.hid hb⟩
theorem intime51_c (t : TitD) (x : TA) (zs : List ZonM) (w : World) (hs : Sizes t) (hT : TitAt w w.heap.size t x zs) (A : Option Addr) (c n : Nat) (l : List Int) (hn : l.length = n) (hl : l.length ≤ 12) (hA : Sl encInt 1 w w.heap.size A l) :
    Calls Try.prog 51 #[.agg #[.slice x.a t.colours.length x.ca, .slice x.b t.pairs.length x.cb, .slice x.z t.zones.length x.cz, .slice x.r t.ready.length x.cr, .int .i64 t.start, .int .i64 t.rate, .int .i64 t.stop, .int .i64 t.hang], .slice A n c] w fun e w' => ∃ m ec : Int, e = .returned (.tuple #[.int .i64 m, .int .i64 ec]) ∧ Hid (IntP t l m ec) ∧ Hid (Below w.heap.size w w') := by
  subst hn
  by_cases hc : checkT t = 0
  · cases ho : ordersB (edsR t).length l
    · refine (rInTime_arg t x zs w hs hT A c l (by omega) hA hc ho).mono ?_
      rintro e w' ⟨rfl, hb⟩
      exact ⟨_, _, rfl, Lib.hid (by unfold IntP; rw [if_neg (by simpa using hc), if_pos ho]; exact ⟨rfl, rfl⟩), Lib.hid hb⟩
    · have hln := ord_nat ho
      have ho2 := ho
      have hA2 := hA
      rw [hln] at ho2 hA2
      rw [← natL_len l]
      refine (rInTime_ok t x zs w hs hT A c (natL l) hA2 hc ho2).mono ?_
      rintro e w' ⟨⟨h1, rfl⟩ | ⟨i, h1, rfl⟩, hb⟩
      · exact ⟨_, _, rfl, Lib.hid (by unfold IntP; rw [if_neg (by simpa using hc), if_neg (by simp [ho])]; exact .inl ⟨h1, rfl, rfl⟩), Lib.hid hb⟩
      · exact ⟨_, _, rfl, Lib.hid (by unfold IntP; rw [if_neg (by simpa using hc), if_neg (by simp [ho])]; exact .inr ⟨i, h1, rfl, rfl⟩), Lib.hid hb⟩
  · refine (rInTime_bad t x zs w hs hT A c l hc).mono ?_
    rintro e w' ⟨rfl, hb⟩
    exact ⟨_, _, rfl, Lib.hid (by unfold IntP; rw [if_pos hc]; exact ⟨rfl, rfl⟩), Lib.hid hb⟩
end Go.Proofs.Ytokdleanpkkdpaa
namespace Go.Ed
open Go.Fh Go.RowKit Go.Proofs.Ytokdleanpkkdpaa
/-- the editions, where a title is right -/
def edsP (t : TitD) : List EdD := if checkT t = 0 then edsR t else []
theorem edsP_len {t : TitD} : (edsP t).length ≤ 7 := by
  unfold edsP
  split
  · rename_i h; exact (eds_le h).2
  · simp
/-- a block of numbers whose first cell holds a number -/
def I0 (W : Go.World) (g : Nat) : Prop := ∃ (cs : Array Go.Value) (v : Int), Blk W g 3 cs ∧ cs[0]? = some (.int .i64 v)
theorem I0.cell {W : Go.World} {g : Nat} (h : I0 W g) : ∃ v : Int, W.cell? ⟨g, 0, none⟩ = some (.int .i64 v) ∧ W.frozen? ⟨g, 0, none⟩ = false ∧ g < W.heap.size := by
  obtain ⟨cs, v, hk, hc⟩ := h
  exact ⟨v, by rw [hk.cell]; exact hc, hk.frozen 0, hk.lt⟩
theorem I0.put {W : Go.World} {g g' : Nat} (h : I0 W g) (v : Int) : I0 (W.setCell ⟨g', 0, none⟩ (.int .i64 v)) g := by
  obtain ⟨cs, u, hk, hc⟩ := h
  by_cases e : g = g'
  · subst e
    refine ⟨_, v, hk.set_ 0 (.int .i64 v), ?_⟩
    have hl : 0 < cs.size := by
      rcases Nat.lt_or_ge 0 cs.size with h | h
      · exact h
      · rw [Array.getElem?_eq_none h] at hc; cases hc
    simp [hl]
  · exact ⟨cs, u, hk.far (p := ⟨g', 0, none⟩) (by exact e) _, hc⟩
theorem But.trans {e : Go.TypeId} {A B C : Go.World} (h : But e A B) (k : But e B C) : But e A C :=
  ⟨Nat.le_trans h.size k.size, fun g cs e' hne hh => by
    have h1 := h.block g cs e' hne hh
    rw [k.block g cs e' hne (by rw [h1]; exact hh), h1]⟩
theorem But.refl (e : Go.TypeId) (W : Go.World) : But e W W := ⟨Nat.le_refl _, fun _ _ _ _ _ => rfl⟩
theorem I0.but {W : Go.World} {g : Nat} (h : I0 W g) (v : Int) : But 3 W (W.setCell ⟨g, 0, none⟩ (.int .i64 v)) := by
  obtain ⟨cs, u, hk, hc⟩ := h
  exact But.set_ hk 0 _
/-- rows of numbers of one's own, not empty, whose first cell may be turned -/
theorem own_I0 {W : Go.World} {b n : Nat} {A : Option Go.Addr} {c : Nat} {l : List Int} (h : W.ownsRow b 3 1 (.slice A n c) n (l.map (Go.Value.int .i64))) (hn : 0 < n) : ∃ g, A = some ⟨g, 0, none⟩ ∧ b ≤ g ∧ I0 W g := by
  rcases h.2 with ⟨_, h0⟩ | ⟨g, cap, cur, hv, hb, hc, hle, _, hsz, htk⟩
  · omega
  · injection hv with hA _ _
    refine ⟨g, hA, hb, cur, l.getD 0 0, hc, ?_⟩
    have hl : l.length = n := by have := h.1; simpa using this
    have h0 : (cur.toList.take (n * 1))[0]? = (l.map (Go.Value.int .i64))[0]? := by rw [htk]
    rw [List.getElem?_take, if_pos (by omega), List.getElem?_map] at h0
    have hl0 : l[0]? = some (l.getD 0 0) := by rw [List.getD_eq_getElem?_getD]; rw [List.getElem?_eq_getElem (by omega)]; rfl
    rw [hl0] at h0
    simpa using h0
end Go.Ed
namespace Go.Proofs.Ytokdleanpkkdpaa
open Go.RowKit Go.Fh Go.Ed
/-- editions whose rows may be turned at their first numbers -/
def LoopX (W : World) (B : Nat) (A : Option Addr) (es : List EdM) : Prop :=
  (∀ W', But 3 W W' → Sl encEd 5 W' W.heap.size A es) ∧ ∀ i (h : i < es.length), ∃ zb vb, es[i].2.z = some ⟨zb, 0, none⟩ ∧ es[i].2.v = some ⟨vb, 0, none⟩ ∧ B ≤ zb ∧ B ≤ vb ∧ I0 W zb ∧ I0 W vb
theorem sl_szB {α : Type} {enc : α → List Value} {size : Nat} {W W' : World} {A : Option Addr} {l : List α} (h : Sl enc size W' W'.heap.size A l) {b : Nat} {e : TypeId} {n c : Nat} {xs : List Value} (ho : W.ownsRow b e size (.slice A n c) n xs) (hn : n = l.length) : Sl enc size W' W.heap.size A l := by
  intro hl
  obtain ⟨b', off, hA, hb, hc⟩ := h hl
  refine ⟨b', off, hA, ?_, hc⟩
  subst hA
  exact (ho.lt b' rfl).2
theorem eds15_c (t : TitD) (x : TA) (zs : List ZonM) (w : World) (hs : Sizes t) (hT : TitAt w w.heap.size t x zs) (N : Nat) (hN : N = (edsP t).length) :
    Calls Try.prog 15 #[.agg #[.slice x.a t.colours.length x.ca, .slice x.b t.pairs.length x.cb, .slice x.z t.zones.length x.cz, .slice x.r t.ready.length x.cr, .int .i64 t.start, .int .i64 t.rate, .int .i64 t.stop, .int .i64 t.hang]] w fun e w' => ∃ (A : Option Addr) (c : Nat) (es : List EdM), e = .returned (.tuple #[.slice A N c, .int .i64 (checkT t)]) ∧ Hid (es.length = N ∧ es.map (·.1) = edsP t) ∧ Hid (Sl encEd 5 w' w'.heap.size A es ∧ (∀ i (h : i < es.length), Sl encInt 1 w' w'.heap.size es[i].2.v es[i].1.variants) ∧ (∀ i (h : i < es.length), Sl encInt 1 w' w'.heap.size es[i].2.z es[i].1.zones)) ∧ Hid (LoopX w' w.heap.size A es) ∧ Hid (Below w.heap.size w w') := by
  by_cases hc : checkT t = 0
  · refine (eds_ok t x zs w hs hT hc).mono ?_
    rintro e w' ⟨k, rfl, hw, hb⟩
    have hp : edsP t = edsR t := by unfold edsP; rw [if_pos hc]
    have hl : k.es.length = N := by rw [hN, hp, ← hw.eds]; simp
    refine ⟨k.E, k.cE, k.es, by rw [hc, hl], Lib.hid ⟨hl, by rw [hp]; exact hw.eds⟩, Lib.hid ⟨hw.hE, hw.hV, hw.hZ⟩, Lib.hid ⟨fun W' hbt => ?_, fun i hi => ?_⟩, Lib.hid hb⟩
    · exact sl_szB (Sl.of_own encEd_len (hbt.own hw.ed.row (by decide))) hw.ed.row rfl
    · have hm := edsR_zn (chk_ok hc) (show k.es[i].1 ∈ edsR t by rw [← hw.eds]; exact List.mem_map.2 ⟨_, List.getElem_mem hi, rfl⟩)
      obtain ⟨zb, hz, hz1, hz2⟩ := own_I0 (hw.ed.zon i hi) (by have := hm.2.2; omega)
      obtain ⟨vb, hv, hv1, hv2⟩ := own_I0 (hw.ed.var i hi) (by have := hm.2.1; have := (chk_ok hc).c0; omega)
      exact ⟨zb, vb, hz, hv, hz1, hv1, hz2, hv2⟩
  · refine (eds_bad t x zs w hs hT hc).mono ?_
    rintro e w' ⟨rfl, hb⟩
    have hp : edsP t = [] := by unfold edsP; rw [if_neg hc]
    rw [hp] at hN ⊢
    subst hN
    exact ⟨none, 0, [], rfl, Lib.hid ⟨rfl, rfl⟩, Lib.hid ⟨sl_none _ _ _ _, fun i h => absurd h (by simp), fun i h => absurd h (by simp)⟩, Lib.hid ⟨fun W' _ => sl_none _ _ _ _, fun i h => absurd h (by simp)⟩, Lib.hid hb⟩
theorem eds43_c (t : TitD) (x : TA) (zs : List ZonM) (w : World) (hs : Sizes t) (hT : TitAt w w.heap.size t x zs) (N : Nat) (hN : N = (edsP t).length) :
    Calls Try.prog 43 #[.agg #[.slice x.a t.colours.length x.ca, .slice x.b t.pairs.length x.cb, .slice x.z t.zones.length x.cz, .slice x.r t.ready.length x.cr, .int .i64 t.start, .int .i64 t.rate, .int .i64 t.stop, .int .i64 t.hang]] w fun e w' => ∃ (A : Option Addr) (c : Nat) (es : List EdM), e = .returned (.tuple #[.slice A N c, .int .i64 (checkT t)]) ∧ Hid (es.length = N ∧ es.map (·.1) = edsP t) ∧ Hid (Sl encEd 5 w' w'.heap.size A es ∧ (∀ i (h : i < es.length), Sl encInt 1 w' w'.heap.size es[i].2.v es[i].1.variants) ∧ (∀ i (h : i < es.length), Sl encInt 1 w' w'.heap.size es[i].2.z es[i].1.zones)) ∧ Hid (Below w.heap.size w w') := by
  by_cases hc : checkT t = 0
  · refine (rEds_ok t x zs w hs hT hc).mono ?_
    rintro e w' ⟨A, c, es, rfl, hr, hb⟩
    have hp : edsP t = edsR t := by unfold edsP; rw [if_pos hc]
    have hl : es.length = N := by rw [hN, hp, ← hr.eds]; simp
    exact ⟨A, c, es, by rw [hc, hl], Lib.hid ⟨hl, by rw [hp]; exact hr.eds⟩, Lib.hid ⟨hr.hE, hr.hV, hr.hZ⟩, Lib.hid hb⟩
  · refine (rEds_bad t x zs w hs hT hc).mono ?_
    rintro e w' ⟨rfl, hb⟩
    have hp : edsP t = [] := by unfold edsP; rw [if_neg hc]
    rw [hp] at hN ⊢
    subst hN
    exact ⟨none, 0, [], rfl, Lib.hid ⟨rfl, rfl⟩, Lib.hid ⟨sl_none _ _ _ _, fun i h => absurd h (by simp), fun i h => absurd h (by simp)⟩, Lib.hid hb⟩
end Go.Proofs.Ytokdleanpkkdpaa
namespace Go.Proofs.Ytokdleanpkkdpaa
open Go.RowKit Go.Fh Go.Ed
/-- editions in memory, to be read -/
def EdsS (W : World) (A : Option Addr) (es : List EdM) : Prop := Sl encEd 5 W W.heap.size A es ∧ (∀ i (h : i < es.length), Sl encInt 1 W W.heap.size es[i].2.v es[i].1.variants) ∧ (∀ i (h : i < es.length), Sl encInt 1 W W.heap.size es[i].2.z es[i].1.zones)
theorem edsS_mk {W : World} {A : Option Addr} {es : List EdM} (h : Sl encEd 5 W W.heap.size A es ∧ (∀ i (h : i < es.length), Sl encInt 1 W W.heap.size es[i].2.v es[i].1.variants) ∧ (∀ i (h : i < es.length), Sl encInt 1 W W.heap.size es[i].2.z es[i].1.zones)) : EdsS W A es := h
theorem EdsS.below {W W' : World} {A : Option Addr} {es : List EdM} (h : EdsS W A es) (hb : Below W.heap.size W W') : EdsS W' A es :=
  ⟨(h.1.below hb).mono hb.size, fun i hi => ((h.2.1 i hi).below hb).mono hb.size, fun i hi => ((h.2.2 i hi).below hb).mono hb.size⟩
theorem i0_below {W W' : World} {g : Nat} (h : I0 W g) (hb : Below W.heap.size W W') : I0 W' g := by
  obtain ⟨cs, v, hk, hc⟩ := h
  exact ⟨cs, v, hk.below hb hk.lt, hc⟩
theorem But.of_below {e : TypeId} {W W' : World} (hb : Below W.heap.size W W') : But e W W' := ⟨hb.size, fun g cs e' _ hh => hb.block g (lt_of_heap hh)⟩
theorem LoopX.below {W W' : World} {B : Nat} {A : Option Addr} {es : List EdM} (h : LoopX W B A es) (hb : Below W.heap.size W W') : LoopX W' B A es :=
  ⟨fun W2 hbt => (h.1 W2 ((But.of_below hb).trans hbt)).mono hb.size, fun i hi => by
    obtain ⟨zb, vb, e1, e2, e3, e4, e5, e6⟩ := h.2 i hi
    exact ⟨zb, vb, e1, e2, e3, e4, i0_below e5 hb, i0_below e6 hb⟩⟩
theorem eds_nn {t : TitD} {es : List EdM} (h : es.map (·.1) = edsP t) {i : Nat} (hi : i < es.length) : 0 < es[i].1.zones.length ∧ 0 < es[i].1.variants.length ∧ es[i].1.zones.length ≤ 1000000000 ∧ es[i].1.variants.length ≤ 1000000000 := by
  by_cases hc : checkT t = 0
  · have hp : edsP t = edsR t := by unfold edsP; rw [if_pos hc]
    have hm := edsR_zn (chk_ok hc) (show es[i].1 ∈ edsR t by rw [← hp, ← h]; exact List.mem_map.2 ⟨_, List.getElem_mem hi, rfl⟩)
    have h1 := (chk_ok hc).c0
    have h2 := (chk_ok hc).ok.c1
    omega
  · have hp : edsP t = [] := by unfold edsP; rw [if_neg hc]
    rw [hp] at h
    have : es = [] := List.map_eq_nil_iff.1 h
    subst this
    simp at hi
theorem sloP_len (t : TitD) (l : List Int) (hl : l.length ≤ 12) : (sloP t l).length ≤ 1000 := by
  unfold sloP
  split
  · unfold slotsD; rw [upF_len, natL_len]; omega
  · simp
set_option maxRecDepth 20000 in
set_option maxHeartbeats 4000000 in
theorem tells_any (t : TitD) (x : TA) (zs : List ZonM) (w : World) (hs : Sizes t) (hT : TitAt w w.heap.size t x zs) (A : Option Addr) (c n : Nat) (l : List Int) (hn : l.length = n) (hl : l.length ≤ 12) (hA : Sl encInt 1 w w.heap.size A l) (pa pb : Int) :
    Calls Try.prog 11 #[.agg #[.slice x.a t.colours.length x.ca, .slice x.b t.pairs.length x.cb, .slice x.z t.zones.length x.cz, .slice x.r t.ready.length x.cr, .int .i64 t.start, .int .i64 t.rate, .int .i64 t.stop, .int .i64 t.hang], .slice A n c, .int .i64 pa, .int .i64 pb] w fun e w' => e = .returned (.bool true) ∧ Below w.heap.size w w' := by
  obtain ⟨w1, hw1⟩ : ∃ W, W = w.alloc (.cells #[.slice x.a t.colours.length x.ca, .slice x.b t.pairs.length x.cb, .slice x.z t.zones.length x.cz, .slice x.r t.ready.length x.cr, .int .i64 t.start, .int .i64 t.rate, .int .i64 t.stop, .int .i64 t.hang] 26) := ⟨_, rfl⟩
  have hb1 : Below w.heap.size w w1 := by rw [hw1]; exact balR (Below.refl _ _) _
  obtain ⟨gT, hgT⟩ : ∃ g, g = w.heap.size := ⟨_, rfl⟩
  have kT : Blk w1 gT 26 (titV t x) := by rw [hw1, hgT]; exact Blk.new _ _ _
  have HR0 := Lib.hid (fun W hb => boxE t x kT W hb)
  obtain ⟨r0, r1, r2, r3, r4, r5, r6, r7⟩ := HR0.out _ (Below.refl _ _)
  have HTX := Lib.hid (fun W (hb : Below w1.heap.size w1 W) => (hT.below (hb1.trans (hb.mono hb1.size))).mono ((hb1.trans (hb.mono hb1.size)).size))
  have HAX := Lib.hid (fun W (hb : Below w1.heap.size w1 W) => (hA.below (hb1.trans (hb.mono hb1.size))).mono ((hb1.trans (hb.mono hb1.size)).size))
  have hn9 : n ≤ 12 := by omega
  have HS := Lib.hid hs
  have HN := Lib.hid hn
  have HL := Lib.hid hl
  have HB1 := Lib.hid hb1
  have HW1 := Lib.hid hw1
  have HGT := Lib.hid hgT
  clear hb1 hw1 hgT kT hT hA hs hn hl
  go_enter Try.func11, Try.ntmps11
  go_upto_region 1 with fail
  rw [← HW1.out, ← HGT.out]
  go_upto_region 2 with (go_at_call 39; refine (copied_w t x zs _ HS.out (HTX.out _ (Below.refl _ _))).mono ?_; rintro e w2 ⟨y1, y2, zs1, zs2, rfl, HY1, HY2, HB2⟩; clear r0 r1 r2 r3 r4 r5 r6 r7)
  obtain ⟨w3, hw3⟩ : ∃ W, W = (w2.alloc (.cells #[.slice y1.a t.colours.length y1.ca, .slice y1.b t.pairs.length y1.cb, .slice y1.z t.zones.length y1.cz, .slice y1.r t.ready.length y1.cr, .int .i64 t.start, .int .i64 t.rate, .int .i64 t.stop, .int .i64 t.hang] 26)).alloc (.cells #[.slice y2.a t.colours.length y2.ca, .slice y2.b t.pairs.length y2.cb, .slice y2.z t.zones.length y2.cz, .slice y2.r t.ready.length y2.cr, .int .i64 t.start, .int .i64 t.rate, .int .i64 t.stop, .int .i64 t.hang] 88) := ⟨_, rfl⟩
  obtain ⟨gA, hgA⟩ : ∃ g, g = w2.heap.size := ⟨_, rfl⟩
  obtain ⟨gB, hgB⟩ : ∃ g, g = w2.heap.size + 1 := ⟨_, rfl⟩
  rw [← hw3, ← hgB, ← hgA]
  have hb23 : Below w2.heap.size w2 w3 := by rw [hw3]; exact balR (balR (Below.refl _ _) _) _
  have kA : Blk w3 gA 26 (titV t y1) := by rw [hw3, hgA]; exact (blkAt rfl 26 _).alloc _
  have kB : Blk w3 gB 88 (titV t y2) := by rw [hw3, hgB]; exact blkAt (by simp) 88 _
  have HB13 := Lib.hid (HB2.out.trans (hb23.mono HB2.out.size))
  have HY13 := Lib.hid ((HY1.out.below hb23).mono hb23.size)
  have HY23 := Lib.hid ((HY2.out.below hb23).mono hb23.size)
  have HA := Lib.hid (fun W hb => boxE t y1 kA W hb)
  have HB := Lib.hid (fun W hb => boxE t y2 kB W hb)
  have HC40 := Lib.hid (show Calls Try.prog 40 #[.slice A n c] w3 fun e w' => ∃ A' c', e = .returned (.slice A' n c') ∧ Hid (Sl encInt 1 w' w'.heap.size A' l) ∧ Hid (Below w3.heap.size w3 w') from by
    have h := cloneOwn_any A c l w3 (by have := HL.out; omega) (HAX.out _ HB13.out)
    rw [HN.out] at h
    refine h.mono ?_
    rintro e w' ⟨A', c', rfl, ho, hb⟩
    rw [← HN.out] at ho
    exact ⟨A', c', rfl, Lib.hid (own_sl ho), Lib.hid hb⟩)
  clear hw3 hgA hgB kA kB hb23 HY1 HY2
  go_upto_region 3 with (go_at_call 40; refine HC40.out.mono ?_; rintro e w4 ⟨A', c', rfl, HO, HB34⟩)
  have HBW := Lib.hid (HB13.out.trans (HB34.out.mono HB13.out.size))
  have HA4 := Lib.hid (fun W (hb : Below w4.heap.size w4 W) => HA.out W (HB34.out.trans (hb.mono HB34.out.size)))
  have HB4 := Lib.hid (fun W (hb : Below w4.heap.size w4 W) => HB.out W (HB34.out.trans (hb.mono HB34.out.size)))
  have HR4 := Lib.hid (fun W (hb : Below w4.heap.size w4 W) => HR0.out W (HBW.out.trans (hb.mono HBW.out.size)))
  have HTA := Lib.hid (fun W (hb : Below w4.heap.size w4 W) => (HY13.out.below (HB34.out.trans (hb.mono HB34.out.size))).mono ((HB34.out.trans (hb.mono HB34.out.size)).size))
  have HTB := Lib.hid (fun W (hb : Below w4.heap.size w4 W) => (HY23.out.below (HB34.out.trans (hb.mono HB34.out.size))).mono ((HB34.out.trans (hb.mono HB34.out.size)).size))
  have HTT := Lib.hid (fun W (hb : Below w4.heap.size w4 W) => HTX.out W (HBW.out.trans (hb.mono HBW.out.size)))
  have HOO := Lib.hid (fun W (hb : Below w4.heap.size w4 W) => (HO.out.below hb).mono hb.size)
  have HAA := Lib.hid (fun W (hb : Below w4.heap.size w4 W) => HAX.out W (HBW.out.trans (hb.mono HBW.out.size)))
  have H41 := Lib.hid (fun W hb => chk41_c t y1 zs1 W HS.out (HTA.out W hb))
  have H42 := Lib.hid (fun W hb => chk42_c t y2 zs2 W HS.out (HTB.out W hb))
  obtain ⟨N, hN⟩ : ∃ n, n = (edsP t).length := ⟨_, rfl⟩
  have hN7 : N ≤ 7 := by rw [hN]; exact edsP_len
  have H15 := Lib.hid (fun W hb => eds15_c t y1 zs1 W HS.out (HTA.out W hb) N hN)
  have H43 := Lib.hid (fun W hb => eds43_c t y2 zs2 W HS.out (HTB.out W hb) N hN)
  have H44 := Lib.hid (fun A5 A6 c5 c6 (es5 es6 : List EdM) W (h5 : es5.length = N ∧ es5.map (·.1) = edsP t) (h6 : es6.length = N ∧ es6.map (·.1) = edsP t) (s5 : EdsS W A5 es5) (s6 : EdsS W A6 es6) =>
    eqf44_any A5 A6 c5 c6 es5 es6 N W h5.1 (by omega) (by rw [h5.2, h6.2]) (fun i h => ⟨(eds_nn h5.2 h).2.2.1, (eds_nn h5.2 h).2.2.2⟩) s5.1 s6.1 s5.2.1 s6.2.1 s5.2.2 s6.2.2)
  obtain ⟨m, hm⟩ : ∃ m, m = (sloP t l).length := ⟨_, rfl⟩
  have hm9 : m ≤ 1000000000 := by rw [hm]; have := sloP_len t l HL.out; omega
  obtain ⟨er, her⟩ : ∃ e, e = errP t l := ⟨_, rfl⟩
  obtain ⟨ck, hck⟩ : ∃ e, e = checkT t := ⟨_, rfl⟩
  obtain ⟨rc, hrc⟩ : ∃ r, r = chgP t pa pb := ⟨_, rfl⟩
  obtain ⟨rp, hrp⟩ : ∃ r, r = plaP t := ⟨_, rfl⟩
  have H22 := Lib.hid (fun W hb => chg22_c t y1 zs1 W HS.out (HTA.out W hb) pa pb rc hrc)
  have H46 := Lib.hid (fun W hb => chg46_c t y2 zs2 W HS.out (HTB.out W hb) pa pb rc hrc)
  have H23 := Lib.hid (fun W hb => pla23_c t y1 zs1 W HS.out (HTA.out W hb) rp hrp)
  have H47 := Lib.hid (fun W hb => pla47_c t y2 zs2 W HS.out (HTB.out W hb) rp hrp)
  have H24 := Lib.hid (fun W hb => slots24_c t y1 zs1 W HS.out (HTA.out W hb) A' c' n l HN.out HL.out (HOO.out W hb) m hm)
  have H48 := Lib.hid (fun W hb => slots48_c t y2 zs2 W HS.out (HTB.out W hb) A c n l HN.out HL.out (HAA.out W hb) m hm)
  have H49 := Lib.hid (fun A5 A6 c5 c6 W h5 h6 => (eqf49_any A5 A6 c5 c6 (sloP t l) m W hm.symm hm9 h5 h6))
  have H31 := Lib.hid (fun W hb => intime31_c t y1 zs1 W HS.out (HTA.out W hb) A' c' n l HN.out HL.out (HOO.out W hb))
  have H51 := Lib.hid (fun W hb => intime51_c t y2 zs2 W HS.out (HTB.out W hb) A c n l HN.out HL.out (HAA.out W hb))
  have H52 := Lib.hid (fun W hb => kept_w t y1 x zs1 zs W HS.out (HTA.out W hb) (HTT.out W hb))
  have H19 := Lib.hid (show ∀ W, Below w4.heap.size w4 W → Calls Try.prog 19 #[.slice A' n c', .slice A n c] W fun e w' => e = .returned (.bool true) ∧ Hid (Below W.heap.size W w') from fun W hb => by
    have h := equalInts_any A' A c' c l l W (by have := HL.out; omega) (by have := HL.out; omega) (HOO.out W hb) (HAA.out W hb)
    rw [HN.out] at h
    have h2 : Calls Try.prog 19 #[.slice A' n c', .slice A n c] W fun e w' => e = .returned (.bool true) ∧ Below W.heap.size W w' := by simpa using h
    exact h2)
  rw [← her] at H24 H48
  rw [← hck] at H15 H43 H41 H42
  have HBN := Lib.hid (Below.refl w4.heap.size w4)
  obtain ⟨a0, a1, a2, a3, a4, a5, a6, a7⟩ := HA4.out _ (Below.refl _ _)
  obtain ⟨b0, b1, b2, b3, b4, b5, b6, b7⟩ := HB4.out _ (Below.refl _ _)
  obtain ⟨r0, r1, r2, r3, r4, r5, r6, r7⟩ := HR4.out _ (Below.refl _ _)
  clear hm her hrc hrp hm9 hN hck
  go_cut [32] (fun q wx => q = .bool false ∧ Hid (Below w4.heap.size w4 wx))
  case first =>
    skip
    clear a0 a1 a2 a3 a4 a5 a6 a7 b0 b1 b2 b3 b4 b5 b6 b7 r0 r1 r2 r3 r4 r5 r6 r7
    go_region_held3 (fun W => (W.cell? ⟨gA, 0, none⟩ = some (.slice y1.a t.colours.length y1.ca) ∧ W.cell? ⟨gA, 1, none⟩ = some (.slice y1.b t.pairs.length y1.cb) ∧ W.cell? ⟨gA, 2, none⟩ = some (.slice y1.z t.zones.length y1.cz) ∧ W.cell? ⟨gA, 3, none⟩ = some (.slice y1.r t.ready.length y1.cr) ∧ W.cell? ⟨gA, 4, none⟩ = some (.int .i64 t.start) ∧ W.cell? ⟨gA, 5, none⟩ = some (.int .i64 t.rate) ∧ W.cell? ⟨gA, 6, none⟩ = some (.int .i64 t.stop) ∧ W.cell? ⟨gA, 7, none⟩ = some (.int .i64 t.hang)) ∧ W.cell? ⟨gB, 0, none⟩ = some (.slice y2.a t.colours.length y2.ca) ∧ W.cell? ⟨gB, 1, none⟩ = some (.slice y2.b t.pairs.length y2.cb) ∧ W.cell? ⟨gB, 2, none⟩ = some (.slice y2.z t.zones.length y2.cz) ∧ W.cell? ⟨gB, 3, none⟩ = some (.slice y2.r t.ready.length y2.cr) ∧ W.cell? ⟨gB, 4, none⟩ = some (.int .i64 t.start) ∧ W.cell? ⟨gB, 5, none⟩ = some (.int .i64 t.rate) ∧ W.cell? ⟨gB, 6, none⟩ = some (.int .i64 t.stop) ∧ W.cell? ⟨gB, 7, none⟩ = some (.int .i64 t.hang))
      (exact ⟨HA4.out _ (by (repeat (with_reducible first | exact Below.refl _ _ | exact HBa.out | exact HBb.out | refine Below.drew ?_ | refine balR ?_ _))), HB4.out _ (by (repeat (with_reducible first | exact Below.refl _ _ | exact HBa.out | exact HBb.out | refine Below.drew ?_ | refine balR ?_ _)))⟩)
      (first
        | (go_at_call 41; with_reducible refine (H41.out _ (by (repeat (with_reducible first | exact Below.refl _ _ | exact HBa.out | exact HBb.out | refine Below.drew ?_ | refine balR ?_ _)))).mono ?_; rintro r wA ⟨rfl, hb⟩; have HBa := Lib.hid (bstep (show Below w4.heap.size w4 _ from by (repeat (with_reducible first | exact Below.refl _ _ | exact HBa.out | exact HBb.out | refine Below.drew ?_ | refine balR ?_ _))) hb.out); clear hb)
        | (go_at_call 42; with_reducible refine (H42.out _ (by (repeat (with_reducible first | exact Below.refl _ _ | exact HBa.out | exact HBb.out | refine Below.drew ?_ | refine balR ?_ _)))).mono ?_; rintro r wB ⟨rfl, hb⟩; have HBb := Lib.hid (bstep (show Below w4.heap.size w4 _ from by (repeat (with_reducible first | exact Below.refl _ _ | exact HBa.out | exact HBb.out | refine Below.drew ?_ | refine balR ?_ _))) hb.out); clear hb))
    all_goals go_wp2
    all_goals go_meet
    all_goals exact ⟨by simp, Lib.hid (by (repeat (with_reducible first | exact Below.refl _ _ | exact HBa.out | exact HBb.out | refine Below.drew ?_ | refine balR ?_ _)))⟩
  case rest =>
    skip
    obtain ⟨rfl, HBN⟩ := hcut
    obtain ⟨w5, hw5⟩ : ∃ W, W = wc := ⟨_, rfl⟩
    rw [← hw5] at HBN ⊢
    clear hw5
    clear a0 a1 a2 a3 a4 a5 a6 a7
    obtain ⟨a0, a1, a2, a3, a4, a5, a6, a7⟩ := HA4.out _ HBN.out
    clear b0 b1 b2 b3 b4 b5 b6 b7
    obtain ⟨b0, b1, b2, b3, b4, b5, b6, b7⟩ := HB4.out _ HBN.out
    clear r0 r1 r2 r3 r4 r5 r6 r7
    obtain ⟨r0, r1, r2, r3, r4, r5, r6, r7⟩ := HR4.out _ HBN.out
    go_upto_region 9 with first
      | (go_at_call 15; have HB5z := Lib.hid HBN.out.size; with_reducible refine (H15.out _ HBN.out).mono ?_; rintro e wk ⟨A5, c5, es5, rfl, HL5, HS5, HX5, hbk⟩; have HBN := Lib.hid (HBN.out.trans (hbk.out.mono HBN.out.size)); have HB5 := HB5z; have HS5 := Lib.hid (edsS_mk HS5.out); clear hbk; clear a0 a1 a2 a3 a4 a5 a6 a7; obtain ⟨a0, a1, a2, a3, a4, a5, a6, a7⟩ := HA4.out _ HBN.out; clear b0 b1 b2 b3 b4 b5 b6 b7; obtain ⟨b0, b1, b2, b3, b4, b5, b6, b7⟩ := HB4.out _ HBN.out; clear r0 r1 r2 r3 r4 r5 r6 r7; obtain ⟨r0, r1, r2, r3, r4, r5, r6, r7⟩ := HR4.out _ HBN.out)
      | (go_at_call 43; with_reducible refine (H43.out _ HBN.out).mono ?_; rintro e wk ⟨A6, c6, es6, rfl, HL6, HS6, hbk⟩; have HBN := Lib.hid (HBN.out.trans (hbk.out.mono HBN.out.size)); have HS6 := Lib.hid (edsS_mk HS6.out); have HS5 := Lib.hid (EdsS.below HS5.out hbk.out); have HX5 := Lib.hid (LoopX.below HX5.out hbk.out); clear hbk; clear a0 a1 a2 a3 a4 a5 a6 a7; obtain ⟨a0, a1, a2, a3, a4, a5, a6, a7⟩ := HA4.out _ HBN.out; clear b0 b1 b2 b3 b4 b5 b6 b7; obtain ⟨b0, b1, b2, b3, b4, b5, b6, b7⟩ := HB4.out _ HBN.out; clear r0 r1 r2 r3 r4 r5 r6 r7; obtain ⟨r0, r1, r2, r3, r4, r5, r6, r7⟩ := HR4.out _ HBN.out)
      | (go_at_call 44; with_reducible refine (H44.out A5 A6 c5 c6 es5 es6 _ HL5.out HL6.out HS5.out HS6.out).mono ?_; rintro e wk ⟨rfl, hbk⟩; have HBN := Lib.hid (HBN.out.trans (hbk.mono HBN.out.size)); have HX5 := Lib.hid (LoopX.below HX5.out hbk); clear hbk; clear a0 a1 a2 a3 a4 a5 a6 a7; obtain ⟨a0, a1, a2, a3, a4, a5, a6, a7⟩ := HA4.out _ HBN.out; clear b0 b1 b2 b3 b4 b5 b6 b7; obtain ⟨b0, b1, b2, b3, b4, b5, b6, b7⟩ := HB4.out _ HBN.out; clear r0 r1 r2 r3 r4 r5 r6 r7; obtain ⟨r0, r1, r2, r3, r4, r5, r6, r7⟩ := HR4.out _ HBN.out)
    obtain ⟨w9, hw9⟩ : ∃ W, W = wk := ⟨_, rfl⟩
    rw [← hw9] at HBN HX5 ⊢
    clear hw9
    have HNN := Lib.hid (fun i (h : i < es5.length) => eds_nn HL5.out.2 h)
    have HE5 := Lib.hid HL5.out.1
    have HLP := Lib.hid (show ∀ i (h : i < es5.length), ∃ zb vb, es5[i].2.z = some ⟨zb, 0, none⟩ ∧ es5[i].2.v = some ⟨vb, 0, none⟩ ∧ w4.heap.size ≤ zb ∧ w4.heap.size ≤ vb ∧ I0 w9 zb ∧ I0 w9 vb from fun i h => by
      obtain ⟨zb, vb, e1, e2, e3, e4, e5, e6⟩ := HX5.out.2 i h
      exact ⟨zb, vb, e1, e2, Nat.le_trans HB5.out e3, Nat.le_trans HB5.out e4, e5, e6⟩)
    have HXE := Lib.hid HX5.out.1
    clear HX5 HL5 HL6 HS5 HS6 H15 H43 H44 HB5
    clear a0 a1 a2 a3 a4 a5 a6 a7 b0 b1 b2 b3 b4 b5 b6 b7 r0 r1 r2 r3 r4 r5 r6 r7
    go_wp2_with fail
    go_loopw [54] (fun i wr => ∃ q : Nat, q ≤ N ∧ i = .int .i64 q ∧ Hid (But 3 w9 wr) ∧ Hid (Below w4.heap.size w4 wr) ∧ Hid (∀ i (h : i < es5.length), ∃ zb vb, es5[i].2.z = some ⟨zb, 0, none⟩ ∧ es5[i].2.v = some ⟨vb, 0, none⟩ ∧ w4.heap.size ≤ zb ∧ w4.heap.size ≤ vb ∧ I0 wr zb ∧ I0 wr vb)) (fun i _ => N - (intOf i).toNat)
    case atStart => exact ⟨0, Nat.zero_le _, rfl, Lib.hid (But.refl _ _), HBN, HLP⟩
    case round =>
      clear HLP HBN
      obtain ⟨q, hq, rfl, HBT, HBN, HI⟩ := hrel
      by_cases hlt : q < N
      · skip
        have hq5 : q < es5.length := by rw [HE5.out]; exact hlt
        obtain ⟨zb, vb, hz, hv, hzb, hvb, iz, iv⟩ := HI.out q hq5
        have nn := HNN.out q hq5
        have HED := Lib.hid (show ∀ W, But 3 w9 W → ∃ eb eo, A5 = some ⟨eb, eo, none⟩ ∧ W.cell? ⟨eb, eo + q * 5, none⟩ = some (.slice (some ⟨zb, 0, none⟩) es5[q].1.zones.length es5[q].2.cz) ∧ W.cell? ⟨eb, eo + q * 5 + 4, none⟩ = some (.slice (some ⟨vb, 0, none⟩) es5[q].1.variants.length es5[q].2.cv) from fun W hw => by
          obtain ⟨eb, eo, hea, _, d0, _, _, _, d4⟩ := Sl.atEd (HXE.out W hw) hq5
          rw [hz] at d0
          rw [hv] at d4
          exact ⟨eb, eo, hea, d0, d4⟩)
        obtain ⟨lz, hlz⟩ : ∃ n, n = es5[q].1.zones.length := ⟨_, rfl⟩
        obtain ⟨lv, hlv⟩ : ∃ n, n = es5[q].1.variants.length := ⟨_, rfl⟩
        rw [← hlz, ← hlv] at nn HED
        generalize es5[q].2.cz = cz at HED
        generalize es5[q].2.cv = cv at HED
        clear hlz hlv hz hv
        obtain ⟨nz, nv, -, -⟩ := nn
        obtain ⟨eb, eo, hea, d0, d4⟩ := HED.out _ HBT.out
        subst hea
        obtain ⟨vz, z0, zf, zl⟩ := iz.cell
        have i0 : (0 : Int) ≤ (q : Int) := by omega
        have i1 : (q : Int) < (N : Int) := by omega
        have i2 : (0 : Int) < (lz : Int) := by omega
        have i3 : (0 : Int) < (lv : Int) := by omega
        have IZ := Lib.hid iz
        have IV := Lib.hid iv
        clear iz iv
        go_upto_region 13 with fail
        obtain ⟨u, hu⟩ : ∃ u, u = wrap64 (vz + 1) := ⟨_, rfl⟩
        rw [← hu]
        obtain ⟨w13, hw13⟩ : ∃ W, W = wr.setCell ⟨zb, 0, none⟩ (.int .i64 u) := ⟨_, rfl⟩
        rw [← hw13]
        have HBT3 := Lib.hid (show But 3 w9 w13 by rw [hw13]; exact HBT.out.trans (IZ.out.but u))
        have HBN3 := Lib.hid (show Below w4.heap.size w4 w13 by rw [hw13]; exact HBN.out.setCell (by exact hzb) _)
        have HI3 := Lib.hid (show ∀ i (h : i < es5.length), ∃ zb vb, es5[i].2.z = some ⟨zb, 0, none⟩ ∧ es5[i].2.v = some ⟨vb, 0, none⟩ ∧ w4.heap.size ≤ zb ∧ w4.heap.size ≤ vb ∧ I0 w13 zb ∧ I0 w13 vb from fun i h => by
          obtain ⟨z', v', e1, e2, e3, e4, e5, e6⟩ := HI.out i h
          rw [hw13]
          exact ⟨z', v', e1, e2, e3, e4, e5.put u, e6.put u⟩)
        have IV3 := Lib.hid (show I0 w13 vb by rw [hw13]; exact IV.out.put u)
        clear hw13 hu d0 d4 z0 zf zl
        obtain ⟨eb2, eo2, hea, d0, d4⟩ := HED.out _ HBT3.out
        injection hea with hea
        injection hea with h1 h2 h3
        subst h1 h2
        obtain ⟨vv, v0, vf, vl⟩ := IV3.out.cell
        go_wp2_with fail
        go_roundw
        case rel =>
          refine ⟨q + 1, by omega, by go_num, Lib.hid (HBT3.out.trans (IV3.out.but _)), Lib.hid (HBN3.out.setCell (by exact hvb) _), Lib.hid fun i h => ?_⟩
          obtain ⟨z', v', e1, e2, e3, e4, e5, e6⟩ := HI3.out i h
          exact ⟨z', v', e1, e2, e3, e4, e5.put _, e6.put _⟩
        case measure => simp [intOf]; omega
      · skip
        obtain rfl : q = N := by omega
        clear HBT HI HXE HNN
        obtain ⟨a0, a1, a2, a3, a4, a5, a6, a7⟩ := HA4.out _ HBN.out
        obtain ⟨b0, b1, b2, b3, b4, b5, b6, b7⟩ := HB4.out _ HBN.out
        obtain ⟨r0, r1, r2, r3, r4, r5, r6, r7⟩ := HR4.out _ HBN.out
        go_wp2_with first
          | (go_at_call 22; with_reducible refine (H22.out _ HBN.out).mono ?_; rintro e wk ⟨rfl, hbk⟩; have HBN := Lib.hid (HBN.out.trans (hbk.out.mono HBN.out.size));  clear hbk; clear a0 a1 a2 a3 a4 a5 a6 a7; obtain ⟨a0, a1, a2, a3, a4, a5, a6, a7⟩ := HA4.out _ HBN.out; clear b0 b1 b2 b3 b4 b5 b6 b7; obtain ⟨b0, b1, b2, b3, b4, b5, b6, b7⟩ := HB4.out _ HBN.out; clear r0 r1 r2 r3 r4 r5 r6 r7; obtain ⟨r0, r1, r2, r3, r4, r5, r6, r7⟩ := HR4.out _ HBN.out)
          | (go_at_call 46; with_reducible refine (H46.out _ HBN.out).mono ?_; rintro e wk ⟨rfl, hbk⟩; have HBN := Lib.hid (HBN.out.trans (hbk.out.mono HBN.out.size));  clear hbk; clear a0 a1 a2 a3 a4 a5 a6 a7; obtain ⟨a0, a1, a2, a3, a4, a5, a6, a7⟩ := HA4.out _ HBN.out; clear b0 b1 b2 b3 b4 b5 b6 b7; obtain ⟨b0, b1, b2, b3, b4, b5, b6, b7⟩ := HB4.out _ HBN.out; clear r0 r1 r2 r3 r4 r5 r6 r7; obtain ⟨r0, r1, r2, r3, r4, r5, r6, r7⟩ := HR4.out _ HBN.out)
          | (go_at_call 23; with_reducible refine (H23.out _ HBN.out).mono ?_; rintro e wk ⟨rfl, hbk⟩; have HBN := Lib.hid (HBN.out.trans (hbk.out.mono HBN.out.size));  clear hbk; clear a0 a1 a2 a3 a4 a5 a6 a7; obtain ⟨a0, a1, a2, a3, a4, a5, a6, a7⟩ := HA4.out _ HBN.out; clear b0 b1 b2 b3 b4 b5 b6 b7; obtain ⟨b0, b1, b2, b3, b4, b5, b6, b7⟩ := HB4.out _ HBN.out; clear r0 r1 r2 r3 r4 r5 r6 r7; obtain ⟨r0, r1, r2, r3, r4, r5, r6, r7⟩ := HR4.out _ HBN.out)
          | (go_at_call 47; with_reducible refine (H47.out _ HBN.out).mono ?_; rintro e wk ⟨rfl, hbk⟩; have HBN := Lib.hid (HBN.out.trans (hbk.out.mono HBN.out.size));  clear hbk; clear a0 a1 a2 a3 a4 a5 a6 a7; obtain ⟨a0, a1, a2, a3, a4, a5, a6, a7⟩ := HA4.out _ HBN.out; clear b0 b1 b2 b3 b4 b5 b6 b7; obtain ⟨b0, b1, b2, b3, b4, b5, b6, b7⟩ := HB4.out _ HBN.out; clear r0 r1 r2 r3 r4 r5 r6 r7; obtain ⟨r0, r1, r2, r3, r4, r5, r6, r7⟩ := HR4.out _ HBN.out)
          | (go_at_call 24; with_reducible refine (H24.out _ HBN.out).mono ?_; rintro e wk ⟨A7, c7, rfl, HP7, hbk⟩; have HBN := Lib.hid (HBN.out.trans (hbk.out.mono HBN.out.size));  clear hbk; clear a0 a1 a2 a3 a4 a5 a6 a7; obtain ⟨a0, a1, a2, a3, a4, a5, a6, a7⟩ := HA4.out _ HBN.out; clear b0 b1 b2 b3 b4 b5 b6 b7; obtain ⟨b0, b1, b2, b3, b4, b5, b6, b7⟩ := HB4.out _ HBN.out; clear r0 r1 r2 r3 r4 r5 r6 r7; obtain ⟨r0, r1, r2, r3, r4, r5, r6, r7⟩ := HR4.out _ HBN.out)
          | (go_at_call 48; with_reducible refine (H48.out _ HBN.out).mono ?_; rintro e wk ⟨A8, c8, rfl, HP8, hbk⟩; have HBN := Lib.hid (HBN.out.trans (hbk.out.mono HBN.out.size)); have HP7 := Lib.hid ((HP7.out.below hbk.out).mono hbk.out.size); clear hbk; clear a0 a1 a2 a3 a4 a5 a6 a7; obtain ⟨a0, a1, a2, a3, a4, a5, a6, a7⟩ := HA4.out _ HBN.out; clear b0 b1 b2 b3 b4 b5 b6 b7; obtain ⟨b0, b1, b2, b3, b4, b5, b6, b7⟩ := HB4.out _ HBN.out; clear r0 r1 r2 r3 r4 r5 r6 r7; obtain ⟨r0, r1, r2, r3, r4, r5, r6, r7⟩ := HR4.out _ HBN.out)
          | (go_at_call 49; with_reducible refine (H49.out A7 A8 c7 c8 _ HP7.out HP8.out).mono ?_; rintro e wk ⟨rfl, hbk⟩; have HBN := Lib.hid (HBN.out.trans (hbk.mono HBN.out.size)); clear hbk; clear a0 a1 a2 a3 a4 a5 a6 a7; obtain ⟨a0, a1, a2, a3, a4, a5, a6, a7⟩ := HA4.out _ HBN.out; clear b0 b1 b2 b3 b4 b5 b6 b7; obtain ⟨b0, b1, b2, b3, b4, b5, b6, b7⟩ := HB4.out _ HBN.out; clear r0 r1 r2 r3 r4 r5 r6 r7; obtain ⟨r0, r1, r2, r3, r4, r5, r6, r7⟩ := HR4.out _ HBN.out)
          | (go_at_call 31; with_reducible refine (H31.out _ HBN.out).mono ?_; rintro e wk ⟨m1, e1, rfl, HI1, hbk⟩; have HBN := Lib.hid (HBN.out.trans (hbk.out.mono HBN.out.size));  clear hbk; clear a0 a1 a2 a3 a4 a5 a6 a7; obtain ⟨a0, a1, a2, a3, a4, a5, a6, a7⟩ := HA4.out _ HBN.out; clear b0 b1 b2 b3 b4 b5 b6 b7; obtain ⟨b0, b1, b2, b3, b4, b5, b6, b7⟩ := HB4.out _ HBN.out; clear r0 r1 r2 r3 r4 r5 r6 r7; obtain ⟨r0, r1, r2, r3, r4, r5, r6, r7⟩ := HR4.out _ HBN.out)
          | (go_at_call 51; with_reducible refine (H51.out _ HBN.out).mono ?_; rintro e wk ⟨m2, e2, rfl, HI2, hbk⟩; have HBN := Lib.hid (HBN.out.trans (hbk.out.mono HBN.out.size)); obtain ⟨rfl, rfl⟩ := intP_uniq HI1.out HI2.out; clear hbk; clear a0 a1 a2 a3 a4 a5 a6 a7; obtain ⟨a0, a1, a2, a3, a4, a5, a6, a7⟩ := HA4.out _ HBN.out; clear b0 b1 b2 b3 b4 b5 b6 b7; obtain ⟨b0, b1, b2, b3, b4, b5, b6, b7⟩ := HB4.out _ HBN.out; clear r0 r1 r2 r3 r4 r5 r6 r7; obtain ⟨r0, r1, r2, r3, r4, r5, r6, r7⟩ := HR4.out _ HBN.out)
          | (go_at_call 52; with_reducible refine (H52.out _ HBN.out).mono ?_; rintro e wk ⟨rfl, hbk⟩; have HBN := Lib.hid (HBN.out.trans (hbk.out.mono HBN.out.size));  clear hbk; clear a0 a1 a2 a3 a4 a5 a6 a7; obtain ⟨a0, a1, a2, a3, a4, a5, a6, a7⟩ := HA4.out _ HBN.out; clear b0 b1 b2 b3 b4 b5 b6 b7; obtain ⟨b0, b1, b2, b3, b4, b5, b6, b7⟩ := HB4.out _ HBN.out; clear r0 r1 r2 r3 r4 r5 r6 r7; obtain ⟨r0, r1, r2, r3, r4, r5, r6, r7⟩ := HR4.out _ HBN.out)
          | (go_at_call 19; with_reducible refine (H19.out _ HBN.out).mono ?_; rintro e wk ⟨rfl, hbk⟩; have HBN := Lib.hid (HBN.out.trans (hbk.out.mono HBN.out.size));  clear hbk; clear a0 a1 a2 a3 a4 a5 a6 a7; obtain ⟨a0, a1, a2, a3, a4, a5, a6, a7⟩ := HA4.out _ HBN.out; clear b0 b1 b2 b3 b4 b5 b6 b7; obtain ⟨b0, b1, b2, b3, b4, b5, b6, b7⟩ := HB4.out _ HBN.out; clear r0 r1 r2 r3 r4 r5 r6 r7; obtain ⟨r0, r1, r2, r3, r4, r5, r6, r7⟩ := HR4.out _ HBN.out)
        go_ret
        exact ⟨rfl, HB1.out.trans ((HBW.out.trans (HBN.out.mono HBW.out.size)).mono HB1.out.size)⟩
set_option maxRecDepth 20000 in
set_option maxHeartbeats 2000000 in
theorem editionTells_walk (haw : ∀ w, Calls Try.prog 12 #[] w fun e w' => e = .returned (.bool true) ∧ Below w.heap.size w w') (t : TitD) (x : TA) (zs : List ZonM) (w : World) (hT : TitAt w w.heap.size t x zs) (A : Option Addr) (c n : Nat) (l : List Int) (hn : l.length = n) (hA : Sl encInt 1 w w.heap.size A l) (pa pb : Int) :
    Calls Try.prog 3 #[.agg #[.slice x.a t.colours.length x.ca, .slice x.b t.pairs.length x.cb, .slice x.z t.zones.length x.cz, .slice x.r t.ready.length x.cr, .int .i64 t.start, .int .i64 t.rate, .int .i64 t.stop, .int .i64 t.hang], .slice A n c, .int .i64 pa, .int .i64 pb] w fun e w' => e = .returned (.bool true) ∧ Below w.heap.size w w' := by
  obtain ⟨w1, hw1⟩ : ∃ W, W = w.alloc (.cells #[.slice x.a t.colours.length x.ca, .slice x.b t.pairs.length x.cb, .slice x.z t.zones.length x.cz, .slice x.r t.ready.length x.cr, .int .i64 t.start, .int .i64 t.rate, .int .i64 t.stop, .int .i64 t.hang] 26) := ⟨_, rfl⟩
  have hb1 : Below w.heap.size w w1 := by rw [hw1]; exact balR (Below.refl _ _) _
  obtain ⟨gT, hgT⟩ : ∃ g, g = w.heap.size := ⟨_, rfl⟩
  have kT : Blk w1 gT 26 (titV t x) := by rw [hw1, hgT]; exact Blk.new _ _ _
  have HR0 := Lib.hid (fun W hb => boxE t x kT W hb)
  obtain ⟨r0, r1, r2, r3, r4, r5, r6, r7⟩ := HR0.out _ (Below.refl _ _)
  have HTX := Lib.hid (fun W (hb : Below w1.heap.size w1 W) => (hT.below (hb1.trans (hb.mono hb1.size))).mono ((hb1.trans (hb.mono hb1.size)).size))
  have HAX := Lib.hid (fun W (hb : Below w1.heap.size w1 W) => (hA.below (hb1.trans (hb.mono hb1.size))).mono ((hb1.trans (hb.mono hb1.size)).size))
  have HGR := Lib.hid (show Calls Try.prog 10 #[.agg #[.slice x.a t.colours.length x.ca, .slice x.b t.pairs.length x.cb, .slice x.z t.zones.length x.cz, .slice x.r t.ready.length x.cr, .int .i64 t.start, .int .i64 t.rate, .int .i64 t.stop, .int .i64 t.hang]] w1 fun e w' => e = .returned (.bool (greatB t)) ∧ Below w1.heap.size w1 w' from great_any t x zs w1 (HTX.out _ (Below.refl _ _)))
  obtain ⟨bn, hbn⟩ : ∃ b, b = decide ((12 : Int) < (n : Int)) := ⟨_, rfl⟩
  have hbd := hbn.symm
  have HBN := Lib.hid hbn
  have HN := Lib.hid hn
  have HB1 := Lib.hid hb1
  have HW1 := Lib.hid hw1
  have HGT := Lib.hid hgT
  have HAW := Lib.hid haw
  clear hb1 hw1 hgT kT hT hA hn haw hbn
  cases hg : greatB t
  · have HS := Lib.hid (great_ok hg)
    rw [hg] at HGR
    clear hg
    cases bn
    · have hl : l.length ≤ 12 := by have h1 := HBN.out; have h2 := HN.out; simp at h1; omega
      have HC13 := Lib.hid (show ∀ W, Below w1.heap.size w1 W → Calls Try.prog 11 #[.agg #[.slice x.a t.colours.length x.ca, .slice x.b t.pairs.length x.cb, .slice x.z t.zones.length x.cz, .slice x.r t.ready.length x.cr, .int .i64 t.start, .int .i64 t.rate, .int .i64 t.stop, .int .i64 t.hang], .slice A n c, .int .i64 pa, .int .i64 pb] W fun e w' => e = .returned (.bool true) ∧ Below W.heap.size W w' from fun W hb => tells_any t x zs W HS.out (HTX.out W hb) A c n l HN.out hl (HAX.out W hb) pa pb)
      go_enter Try.func3, Try.ntmps3
      go_upto_region 1 with fail
      rw [← HW1.out, ← HGT.out]
      go_wp2_with first
        | (go_at_call 10; refine HGR.out.mono ?_; rintro e w2 ⟨rfl, hb2⟩; have HB2 := Lib.hid hb2; clear hb2 r0 r1 r2 r3 r4 r5 r6 r7; obtain ⟨r0, r1, r2, r3, r4, r5, r6, r7⟩ := HR0.out _ HB2.out)
        | (go_at_call 11; refine (HC13.out _ HB2.out).mono ?_; rintro e w3 ⟨rfl, hb3⟩; have HB3 := Lib.hid hb3; clear hb3)
        | (go_at_call 12; refine (HAW.out _).mono ?_; rintro e w4 ⟨rfl, hb4⟩; have HB4 := Lib.hid hb4; clear hb4)
      go_ret
      exact ⟨rfl, HB1.out.trans ((HB2.out.trans ((HB3.out.trans (HB4.out.mono HB3.out.size)).mono HB2.out.size)).mono HB1.out.size)⟩
    · go_enter Try.func3, Try.ntmps3
      go_upto_region 1 with fail
      rw [← HW1.out, ← HGT.out]
      go_wp2_with first
        | (go_at_call 10; refine HGR.out.mono ?_; rintro e w2 ⟨rfl, hb2⟩; have HB2 := Lib.hid hb2; clear hb2)
        | (go_at_call 12; refine (HAW.out _).mono ?_; rintro e w4 ⟨rfl, hb4⟩; have HB4 := Lib.hid hb4; clear hb4)
      go_ret
      exact ⟨rfl, HB1.out.trans ((HB2.out.trans (HB4.out.mono HB2.out.size)).mono HB1.out.size)⟩
  · rw [hg] at HGR
    clear hg
    go_enter Try.func3, Try.ntmps3
    go_upto_region 1 with fail
    rw [← HW1.out, ← HGT.out]
    go_wp2_with first
      | (go_at_call 10; refine HGR.out.mono ?_; rintro e w2 ⟨rfl, hb2⟩; have HB2 := Lib.hid hb2; clear hb2)
      | (go_at_call 12; refine (HAW.out _).mono ?_; rintro e w4 ⟨rfl, hb4⟩; have HB4 := Lib.hid hb4; clear hb4)
    go_ret
    exact ⟨rfl, HB1.out.trans ((HB2.out.trans (HB4.out.mono HB2.out.size)).mono HB1.out.size)⟩
end Go.Proofs.Ytokdleanpkkdpaa
