/- The walk of EditionCopies; conditions: a title and an order in memory. Printed by a program. -/
import Derived.Test.YtokdleanpkkdpaaL4
import Derived.Test.YtokdleanpkkdpaaL5
import Derived.Test.YtokdleanpkkdpaaL6
import Derived.Test.YtokdleanpkkdpaaUA
import Derived.Test.YtokdleanpkkdpaaUC
set_option linter.unusedSimpArgs false
set_option linter.unusedVariables false
namespace Go.Ed
open Go.Fh Go.RowKit Go.Proofs.Ytokdleanpkkdpaa
def natL (l : List Int) : List Nat := l.map Int.toNat
theorem natL_len (l : List Int) : (natL l).length = l.length := by simp [natL]
theorem ord_nat {n : Nat} {l : List Int} (h : ordersB n l = true) : l = (natL l).map fun (e : Nat) => (e : Int) := by
  unfold natL
  rw [List.map_map]
  have hp : ∀ x ∈ l, 0 ≤ x := by
    intro x hx
    unfold ordersB at h
    simp only [Bool.and_eq_true] at h
    exact (inB_iff.1 (List.all_eq_true.1 h.1.2 x hx)).1
  refine (List.ext_getElem (by simp) fun i h1 h2 => ?_)
  have := hp l[i] (List.getElem_mem h1)
  simp
  omega
/-- what Latest gives -/
def LatP (t : TitD) (l : List Int) (p v n e : Int) : Prop :=
  if checkT t ≠ 0 then n = 0 ∧ e = checkT t else if ordersB (edsR t).length l = false then n = 0 ∧ e = 1 else
  if inB p 0 ((t.colours.length : Int) - 1) = false ∨ inB v 0 9 = false then n = 0 ∧ e = 1 else
  (inTW t (natL l) p v 0 = false ∧ n = 0 ∧ e = 4) ∨ (LatI t (natL l) p v n ∧ e = 0)
theorem latP_uniq {t : TitD} {l : List Int} {p v n e m f : Int} (h : LatP t l p v n e) (k : LatP t l p v m f) : n = m ∧ e = f := by
  unfold LatP at h k
  split at h
  · rename_i h1
    rw [if_pos h1] at k
    exact ⟨h.1.trans k.1.symm, h.2.trans k.2.symm⟩
  · rename_i h1
    rw [if_neg h1] at k
    split at h
    · rename_i h2
      rw [if_pos h2] at k
      exact ⟨h.1.trans k.1.symm, h.2.trans k.2.symm⟩
    · rename_i h2
      rw [if_neg h2] at k
      split at h
      · rename_i h3
        rw [if_pos h3] at k
        exact ⟨h.1.trans k.1.symm, h.2.trans k.2.symm⟩
      · rename_i h3
        rw [if_neg h3] at k
        rcases h with ⟨a1, a2, a3⟩ | ⟨a1, a2⟩ <;> rcases k with ⟨b1, b2, b3⟩ | ⟨b1, b2⟩
        · exact ⟨a2.trans b2.symm, a3.trans b3.symm⟩
        · have := (latI_iff b1 (show (0 : Int) ≤ 86400 by omega)).2 b1.1
          rw [a1] at this; cases this
        · have := (latI_iff a1 (show (0 : Int) ≤ 86400 by omega)).2 a1.1
          rw [b1] at this; cases this
        · exact ⟨latI_uniq a1 b1, a2.trans b2.symm⟩
def partsP (t : TitD) (l : List Int) : List (Int × Int × Int) := if checkT t = 0 ∧ ordersB (edsR t).length l = true then partsL t (edsR t) (natL l) else []
def errP (t : TitD) (l : List Int) : Int := if checkT t ≠ 0 then checkT t else if ordersB (edsR t).length l = true then 0 else 1
def whichP (t : TitD) (l : List Int) (k : Int) : Int × Int × Int := if checkT t ≠ 0 then (0, 0, checkT t) else if ordersB (edsR t).length l = true then whichE t (edsR t) (natL l) k else (0, 0, 1)
theorem sl_none {α : Type} (enc : α → List Go.Value) (size B : Nat) (w : Go.World) : Sl enc size w B none [] := fun h => absurd rfl h
end Go.Ed
namespace Go.Proofs.Ytokdleanpkkdpaa
open Go.RowKit Go.Fh Go.Ed
theorem boxE {w : World} {g : Nat} {e : TypeId} (t : TitD) (x : TA) (h : Blk w g e (titV t x)) (W : World) (hb : Below w.heap.size w W) : W.cell? ⟨g, 0, none⟩ = some (.slice x.a t.colours.length x.ca) ∧ W.cell? ⟨g, 1, none⟩ = some (.slice x.b t.pairs.length x.cb) ∧ W.cell? ⟨g, 2, none⟩ = some (.slice x.z t.zones.length x.cz) ∧ W.cell? ⟨g, 3, none⟩ = some (.slice x.r t.ready.length x.cr) ∧ W.cell? ⟨g, 4, none⟩ = some (.int .i64 t.start) ∧ W.cell? ⟨g, 5, none⟩ = some (.int .i64 t.rate) ∧ W.cell? ⟨g, 6, none⟩ = some (.int .i64 t.stop) ∧ W.cell? ⟨g, 7, none⟩ = some (.int .i64 t.hang) := by
  have k := h.below hb h.lt
  have r0 := k.cell 0
  have r1 := k.cell 1
  have r2 := k.cell 2
  have r3 := k.cell 3
  have r4 := k.cell 4
  have r5 := k.cell 5
  have r6 := k.cell 6
  have r7 := k.cell 7
  simp [titV] at r0 r1 r2 r3 r4 r5 r6 r7
  exact ⟨r0, r1, r2, r3, r4, r5, r6, r7⟩
theorem lat27_c (t : TitD) (x : TA) (zs : List ZonM) (w : World) (hs : Sizes t) (hT : TitAt w w.heap.size t x zs) (A : Option Addr) (c n : Nat) (l : List Int) (hn : l.length = n) (hl : l.length ≤ 12) (hA : Sl encInt 1 w w.heap.size A l) (p v : Int) :
    Calls Try.prog 27 #[.agg #[.slice x.a t.colours.length x.ca, .slice x.b t.pairs.length x.cb, .slice x.z t.zones.length x.cz, .slice x.r t.ready.length x.cr, .int .i64 t.start, .int .i64 t.rate, .int .i64 t.stop, .int .i64 t.hang], .slice A n c, .int .i64 p, .int .i64 v] w fun e w' => ∃ m ec : Int, e = .returned (.tuple #[.int .i64 m, .int .i64 ec]) ∧ Hid (LatP t l p v m ec) ∧ Hid (Below w.heap.size w w') := by
  subst hn
  by_cases hc : checkT t = 0
  · cases ho : ordersB (edsR t).length l
    · refine (Latest_arg t x zs w hs hT A c l p v (by omega) hA hc ho).mono ?_
      rintro e w' ⟨rfl, hb⟩
      exact ⟨_, _, rfl, Lib.hid (by unfold LatP; rw [if_neg (by simpa using hc), if_pos ho]; exact ⟨rfl, rfl⟩), Lib.hid hb⟩
    · have hln := ord_nat ho
      have ho2 := ho
      have hA2 := hA
      rw [hln] at ho2 hA2
      rw [← natL_len l]
      by_cases hpv : inB p 0 ((t.colours.length : Int) - 1) = false ∨ inB v 0 9 = false
      · refine (Latest_out t x zs w hs hT A c (natL l) p v (by rw [natL_len]; omega) hA2 hc ho2 hpv).mono ?_
        rintro e w' ⟨rfl, hb⟩
        exact ⟨_, _, rfl, Lib.hid (by unfold LatP; rw [if_neg (by simpa using hc), if_neg (by simp [ho]), if_pos hpv]; exact ⟨rfl, rfl⟩), Lib.hid hb⟩
      · have hp : inB p 0 ((t.colours.length : Int) - 1) = true := by cases h : inB p 0 ((t.colours.length : Int) - 1); (exact absurd (.inl h) hpv); rfl
        have hv : inB v 0 9 = true := by cases h : inB v 0 9; (exact absurd (.inr h) hpv); rfl
        refine (Latest_ok t x zs w hs hT A c (natL l) p v (by rw [natL_len]; omega) hA2 hc ho2 (inB_iff.1 hp) (inB_iff.1 hv)).mono ?_
        rintro e w' ⟨⟨h1, rfl⟩ | ⟨m, h1, rfl⟩, hb⟩
        · exact ⟨_, _, rfl, Lib.hid (by unfold LatP; rw [if_neg (by simpa using hc), if_neg (by simp [ho]), if_neg hpv]; exact .inl ⟨h1, rfl, rfl⟩), Lib.hid hb⟩
        · exact ⟨_, _, rfl, Lib.hid (by unfold LatP; rw [if_neg (by simpa using hc), if_neg (by simp [ho]), if_neg hpv]; exact .inr ⟨h1, rfl⟩), Lib.hid hb⟩
  · refine (Latest_bad t x zs w hs hT A c l p v hc).mono ?_
    rintro e w' ⟨rfl, hb⟩
    exact ⟨_, _, rfl, Lib.hid (by unfold LatP; rw [if_pos hc]; exact ⟨rfl, rfl⟩), Lib.hid hb⟩
theorem lat55_c (t : TitD) (x : TA) (zs : List ZonM) (w : World) (hs : Sizes t) (hT : TitAt w w.heap.size t x zs) (A : Option Addr) (c n : Nat) (l : List Int) (hn : l.length = n) (hl : l.length ≤ 12) (hA : Sl encInt 1 w w.heap.size A l) (p v : Int) :
    Calls Try.prog 55 #[.agg #[.slice x.a t.colours.length x.ca, .slice x.b t.pairs.length x.cb, .slice x.z t.zones.length x.cz, .slice x.r t.ready.length x.cr, .int .i64 t.start, .int .i64 t.rate, .int .i64 t.stop, .int .i64 t.hang], .slice A n c, .int .i64 p, .int .i64 v] w fun e w' => ∃ m ec : Int, e = .returned (.tuple #[.int .i64 m, .int .i64 ec]) ∧ Hid (LatP t l p v m ec) ∧ Hid (Below w.heap.size w w') := by
  subst hn
  by_cases hc : checkT t = 0
  · cases ho : ordersB (edsR t).length l
    · refine (rLatest_arg t x zs w hs hT A c l p v (by omega) hA hc ho).mono ?_
      rintro e w' ⟨rfl, hb⟩
      exact ⟨_, _, rfl, Lib.hid (by unfold LatP; rw [if_neg (by simpa using hc), if_pos ho]; exact ⟨rfl, rfl⟩), Lib.hid hb⟩
    · have hln := ord_nat ho
      have ho2 := ho
      have hA2 := hA
      rw [hln] at ho2 hA2
      rw [← natL_len l]
      by_cases hpv : inB p 0 ((t.colours.length : Int) - 1) = false ∨ inB v 0 9 = false
      · refine (rLatest_out t x zs w hs hT A c (natL l) p v hA2 hc ho2 hpv).mono ?_
        rintro e w' ⟨rfl, hb⟩
        exact ⟨_, _, rfl, Lib.hid (by unfold LatP; rw [if_neg (by simpa using hc), if_neg (by simp [ho]), if_pos hpv]; exact ⟨rfl, rfl⟩), Lib.hid hb⟩
      · have hp : inB p 0 ((t.colours.length : Int) - 1) = true := by cases h : inB p 0 ((t.colours.length : Int) - 1); (exact absurd (.inl h) hpv); rfl
        have hv : inB v 0 9 = true := by cases h : inB v 0 9; (exact absurd (.inr h) hpv); rfl
        refine (rLatest_ok t x zs w hs hT A c (natL l) p v hA2 hc ho2 (inB_iff.1 hp) (inB_iff.1 hv)).mono ?_
        rintro e w' ⟨⟨h1, rfl⟩ | ⟨m, h1, rfl⟩, hb⟩
        · exact ⟨_, _, rfl, Lib.hid (by unfold LatP; rw [if_neg (by simpa using hc), if_neg (by simp [ho]), if_neg hpv]; exact .inl ⟨h1, rfl, rfl⟩), Lib.hid hb⟩
        · exact ⟨_, _, rfl, Lib.hid (by unfold LatP; rw [if_neg (by simpa using hc), if_neg (by simp [ho]), if_neg hpv]; exact .inr ⟨h1, rfl⟩), Lib.hid hb⟩
  · refine (rLatest_bad t x zs w hs hT A c l p v hc).mono ?_
    rintro e w' ⟨rfl, hb⟩
    exact ⟨_, _, rfl, Lib.hid (by unfold LatP; rw [if_pos hc]; exact ⟨rfl, rfl⟩), Lib.hid hb⟩
theorem parts17_c (t : TitD) (x : TA) (zs : List ZonM) (w : World) (hs : Sizes t) (hT : TitAt w w.heap.size t x zs) (A : Option Addr) (c n : Nat) (l : List Int) (hn : l.length = n) (hl : l.length ≤ 12) (hA : Sl encInt 1 w w.heap.size A l) (m : Nat) (hm : m = (partsP t l).length) :
    Calls Try.prog 17 #[.agg #[.slice x.a t.colours.length x.ca, .slice x.b t.pairs.length x.cb, .slice x.z t.zones.length x.cz, .slice x.r t.ready.length x.cr, .int .i64 t.start, .int .i64 t.rate, .int .i64 t.stop, .int .i64 t.hang], .slice A n c] w fun e w' => ∃ (A' : Option Addr) (c' : Nat), e = .returned (.tuple #[.slice A' m c', .int .i64 (errP t l)]) ∧ Hid (Sl enc3 3 w' w'.heap.size A' (partsP t l)) ∧ Hid (Below w.heap.size w w') := by
  subst hn
  by_cases hc : checkT t = 0
  · cases ho : ordersB (edsR t).length l
    · refine (Parts_arg t x zs w hs hT A c l (by omega) hA hc ho).mono ?_
      rintro e w' ⟨rfl, hb⟩
      have hp : partsP t l = [] := by unfold partsP; rw [if_neg (by simp [ho])]
      have he : errP t l = 1 := by unfold errP; rw [if_neg (by simpa using hc), if_neg (by simp [ho])]
      rw [hp] at hm ⊢
      rw [he, hm]
      exact ⟨none, 0, rfl, Lib.hid (sl_none _ _ _ _), Lib.hid hb⟩
    · have hln := ord_nat ho
      have ho2 := ho
      have hA2 := hA
      rw [hln] at ho2 hA2
      rw [← natL_len l]
      have hp : partsP t l = partsL t (edsR t) (natL l) := by unfold partsP; rw [if_pos ⟨hc, ho⟩]
      have he : errP t l = 0 := by unfold errP; rw [if_neg (by simpa using hc), if_pos ho]
      refine (Parts_ok t x zs w hs hT A c (natL l) (by rw [natL_len]; omega) hA2 hc ho2).mono ?_
      rintro e w' ⟨A', c', rfl, hw, hb⟩
      rw [hp] at hm ⊢
      rw [he, hm]
      exact ⟨A', c', rfl, Lib.hid (Sl.of_own (enc := enc3) (fun _ => rfl) hw), Lib.hid hb⟩
  · refine (Parts_bad t x zs w hs hT A c l hc).mono ?_
    rintro e w' ⟨rfl, hb⟩
    have hp : partsP t l = [] := by unfold partsP; rw [if_neg (by simp [hc])]
    have he : errP t l = checkT t := by unfold errP; rw [if_pos hc]
    rw [hp] at hm ⊢
    rw [he, hm]
    exact ⟨none, 0, rfl, Lib.hid (sl_none _ _ _ _), Lib.hid hb⟩
theorem parts56_c (t : TitD) (x : TA) (zs : List ZonM) (w : World) (hs : Sizes t) (hT : TitAt w w.heap.size t x zs) (A : Option Addr) (c n : Nat) (l : List Int) (hn : l.length = n) (hl : l.length ≤ 12) (hA : Sl encInt 1 w w.heap.size A l) (m : Nat) (hm : m = (partsP t l).length) :
    Calls Try.prog 56 #[.agg #[.slice x.a t.colours.length x.ca, .slice x.b t.pairs.length x.cb, .slice x.z t.zones.length x.cz, .slice x.r t.ready.length x.cr, .int .i64 t.start, .int .i64 t.rate, .int .i64 t.stop, .int .i64 t.hang], .slice A n c] w fun e w' => ∃ (A' : Option Addr) (c' : Nat), e = .returned (.tuple #[.slice A' m c', .int .i64 (errP t l)]) ∧ Hid (Sl enc3 3 w' w'.heap.size A' (partsP t l)) ∧ Hid (Below w.heap.size w w') := by
  subst hn
  by_cases hc : checkT t = 0
  · cases ho : ordersB (edsR t).length l
    · refine (rParts_arg t x zs w hs hT A c l (by omega) hA hc ho).mono ?_
      rintro e w' ⟨rfl, hb⟩
      have hp : partsP t l = [] := by unfold partsP; rw [if_neg (by simp [ho])]
      have he : errP t l = 1 := by unfold errP; rw [if_neg (by simpa using hc), if_neg (by simp [ho])]
      rw [hp] at hm ⊢
      rw [he, hm]
      exact ⟨none, 0, rfl, Lib.hid (sl_none _ _ _ _), Lib.hid hb⟩
    · have hln := ord_nat ho
      have ho2 := ho
      have hA2 := hA
      rw [hln] at ho2 hA2
      rw [← natL_len l]
      have hp : partsP t l = partsL t (edsR t) (natL l) := by unfold partsP; rw [if_pos ⟨hc, ho⟩]
      have he : errP t l = 0 := by unfold errP; rw [if_neg (by simpa using hc), if_pos ho]
      refine (rParts_ok t x zs w hs hT A c (natL l) hA2 hc ho2).mono ?_
      rintro e w' ⟨A', c', rfl, hw, hb⟩
      rw [hp] at hm ⊢
      rw [he, hm]
      exact ⟨A', c', rfl, Lib.hid (Sl.of_own (enc := enc3) (fun _ => rfl) hw), Lib.hid hb⟩
  · refine (rParts_bad t x zs w hs hT A c l hc).mono ?_
    rintro e w' ⟨rfl, hb⟩
    have hp : partsP t l = [] := by unfold partsP; rw [if_neg (by simp [hc])]
    have he : errP t l = checkT t := by unfold errP; rw [if_pos hc]
    rw [hp] at hm ⊢
    rw [he, hm]
    exact ⟨none, 0, rfl, Lib.hid (sl_none _ _ _ _), Lib.hid hb⟩
theorem which18_c (t : TitD) (x : TA) (zs : List ZonM) (w : World) (hs : Sizes t) (hT : TitAt w w.heap.size t x zs) (A : Option Addr) (c n : Nat) (l : List Int) (hn : l.length = n) (hl : l.length ≤ 12) (hA : Sl encInt 1 w w.heap.size A l) (k : Int) (r : Int × Int × Int) (hr : r = whichP t l k) :
    Calls Try.prog 18 #[.agg #[.slice x.a t.colours.length x.ca, .slice x.b t.pairs.length x.cb, .slice x.z t.zones.length x.cz, .slice x.r t.ready.length x.cr, .int .i64 t.start, .int .i64 t.rate, .int .i64 t.stop, .int .i64 t.hang], .slice A n c, .int .i64 k] w fun e w' => e = .returned (.tuple #[.int .i64 r.1, .int .i64 r.2.1, .int .i64 r.2.2]) ∧ Hid (Below w.heap.size w w') := by
  subst hn hr
  by_cases hc : checkT t = 0
  · cases ho : ordersB (edsR t).length l
    · refine (Which_arg t x zs w hs hT k A c l (by omega) hA hc ho).mono ?_
      rintro e w' ⟨rfl, hb⟩
      have he : whichP t l k = (0, 0, 1) := by unfold whichP; rw [if_neg (by simpa using hc), if_neg (by simp [ho])]
      rw [he]
      exact ⟨rfl, Lib.hid hb⟩
    · have hln := ord_nat ho
      have ho2 := ho
      have hA2 := hA
      rw [hln] at ho2 hA2
      have he : whichP t l k = whichE t (edsR t) (natL l) k := by unfold whichP; rw [if_neg (by simpa using hc), if_pos ho]
      rw [he, ← natL_len l]
      refine (Which_ok t x zs w hs hT A c (natL l) k (by rw [natL_len]; omega) hA2 hc ho2).mono ?_
      rintro e w' ⟨rfl, hb⟩
      exact ⟨rfl, Lib.hid hb⟩
  · refine (Which_bad t x zs w hs hT k A c l hc).mono ?_
    rintro e w' ⟨rfl, hb⟩
    have he : whichP t l k = (0, 0, checkT t) := by unfold whichP; rw [if_pos hc]
    rw [he]
    exact ⟨rfl, Lib.hid hb⟩
theorem which59_c (t : TitD) (x : TA) (zs : List ZonM) (w : World) (hs : Sizes t) (hT : TitAt w w.heap.size t x zs) (A : Option Addr) (c n : Nat) (l : List Int) (hn : l.length = n) (hl : l.length ≤ 12) (hA : Sl encInt 1 w w.heap.size A l) (k : Int) (r : Int × Int × Int) (hr : r = whichP t l k) :
    Calls Try.prog 59 #[.agg #[.slice x.a t.colours.length x.ca, .slice x.b t.pairs.length x.cb, .slice x.z t.zones.length x.cz, .slice x.r t.ready.length x.cr, .int .i64 t.start, .int .i64 t.rate, .int .i64 t.stop, .int .i64 t.hang], .slice A n c, .int .i64 k] w fun e w' => e = .returned (.tuple #[.int .i64 r.1, .int .i64 r.2.1, .int .i64 r.2.2]) ∧ Hid (Below w.heap.size w w') := by
  subst hn hr
  by_cases hc : checkT t = 0
  · cases ho : ordersB (edsR t).length l
    · refine (rWhich_arg t x zs w hs hT A c l k (by omega) hA hc ho).mono ?_
      rintro e w' ⟨rfl, hb⟩
      have he : whichP t l k = (0, 0, 1) := by unfold whichP; rw [if_neg (by simpa using hc), if_neg (by simp [ho])]
      rw [he]
      exact ⟨rfl, Lib.hid hb⟩
    · have hln := ord_nat ho
      have ho2 := ho
      have hA2 := hA
      rw [hln] at ho2 hA2
      have he : whichP t l k = whichE t (edsR t) (natL l) k := by unfold whichP; rw [if_neg (by simpa using hc), if_pos ho]
      rw [he, ← natL_len l]
      refine (rWhich_ok t x zs w hs hT A c (natL l) k hA2 hc ho2).mono ?_
      rintro e w' ⟨rfl, hb⟩
      exact ⟨rfl, Lib.hid hb⟩
  · refine (rWhich_bad t x zs w hs hT A c l k hc).mono ?_
    rintro e w' ⟨rfl, hb⟩
    have he : whichP t l k = (0, 0, checkT t) := by unfold whichP; rw [if_pos hc]
    rw [he]
    exact ⟨rfl, Lib.hid hb⟩
end Go.Proofs.Ytokdleanpkkdpaa
